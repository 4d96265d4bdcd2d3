/- Tensors of the program: IndexAt, OffsetOf, ElemAt, SetElem; the laws' same. -/
import Derived.Test.YtlgjddgajdjllaaGreatHTokW
import Derived.Test.YtlgjddgajdjllaaGreatHDrawT
set_option linter.unusedSimpArgs false
set_option linter.unusedVariables false
namespace Go.Proofs.YtlgjddgajdjllaaGreat
open Go.RowKit
theorem idxL_step {D : List Int} {n : Int} {j : Nat} {d : Int} (hd : D.drop j = d :: D.drop (j + 1)) : idxL (D.drop j) n = (n / prodL (D.drop (j + 1))) % d :: idxL (D.drop (j + 1)) n := by rw [hd, idxL]
theorem div_step {D : List Int} {n : Int} {j : Nat} {d : Int} (h0 : 0 ≤ prodL (D.drop (j + 1))) (hd : D.drop j = d :: D.drop (j + 1)) : n / prodL (D.drop j) = n / prodL (D.drop (j + 1)) / d := by
  rw [hd, prodL_cons, Int.mul_comm, Int.ediv_ediv_of_nonneg h0]
theorem zeros_set (j : Nat) (x : Int) (R : List Int) : (List.replicate (j + 1) 0 ++ R).set j x = List.replicate j 0 ++ (x :: R) := by
  rw [List.replicate_succ', List.append_assoc, List.set_append_right _ _ (by simp)]
  simp
theorem IntS.part {w : World} {b off n cap o W : Nat} {X : List Int} (h : IntS w (.slice (some ⟨b, off, none⟩) n cap) X) (hW : 1 ≤ W) (hf : o + W ≤ X.length) : IntS w (.slice (some ⟨b, off + o, none⟩) W (cap - o)) (getL X o W) := by
  obtain ⟨hl, a', cap', hv, h1, h2, h3⟩ := h.row
  cases hv
  have e : (getL X o W).length = W := getL_length hf
  refine ⟨⟨by rw [ints_length]; omega, some ⟨b, off + o, none⟩, cap - o, by rw [e], by omega, by omega, fun _ => ⟨b, off + o, rfl, fun j u hj => ?_⟩⟩⟩
  obtain ⟨b', off', ha, hc⟩ := h3 (by rw [ints_length]; omega)
  cases ha
  have hj2 := (List.getElem?_eq_some_iff.1 hj).1
  rw [ints_length, e] at hj2
  have : (ints X)[o + j]? = some u := by
    rw [ints_get] at hj ⊢
    rw [getL, List.getElem?_take_of_lt hj2, List.getElem?_drop] at hj
    exact hj
  have := hc (o + j) u this
  rw [Nat.add_assoc]; exact this
theorem rawElem_gen (k p n i : Int) (o W : Nat) (hW : ringWidth k n = (W : Int)) (a1 a2 : Option Addr) (m1 c1 m2 c2 bd off nd cd : Nat) (w : World) (ho : i * (W : Int) = o) (hi : 0 ≤ i) (hw : RingWide k n) (hfit : o + W ≤ nd) (hcd : nd ≤ cd) (hlen : nd ≤ 1048576) :
 Calls Tryz.prog 41 #[ringV k p n, .agg #[.slice a1 m1 c1, .slice a2 m2 c2, .slice (some ⟨bd, off, none⟩) nd cd], .int .i64 i] w fun e w' =>
  e = .returned (.slice (some ⟨bd, off + o, none⟩) W (cd - o)) ∧ Ext w w' := by
 have hw0 := hw.lo
 have hw1 := hw.hi
 rw [hW] at hw0 hw1
 have h1o : (i + 1) * (W : Int) = (o : Int) + W := by rw [Int.add_mul, Int.one_mul, ho]
 have hib : i * 1 ≤ i * (W : Int) := Int.mul_le_mul_of_nonneg_left (by omega) hi
 have e1 : IntKind.i64.wrap (i * (W : Int)) = (o : Int) := by rw [IntKind.wrap_i64, ho]; omega
 have e2 : IntKind.i64.wrap (i + 1) = i + 1 := by rw [IntKind.wrap_i64]; omega
 have e3 : IntKind.i64.wrap ((i + 1) * (W : Int)) = ((o + W : Nat) : Int) := by rw [IntKind.wrap_i64, h1o]; omega
 have e4 : o + W - o = W := by omega
 have e5 : o < cd := by omega
 have HW := Lib.hid hW; clear hW hw ho h1o
 go_enter Tryz.func41, Tryz.ntmps41
 go_wp2_with fail
 refine (rawWidth_any _ _ _ _).mono ?_; rintro e1 w1 ⟨rfl, h1⟩; rw [HW.out]; have s1 := h1.size; (try simp at s1); have t1_0 : w.heap.size < w1.heap.size := (by omega); have c1_0 := fun o => h1.cells (w.heap.size) o (by first | (simp; done) | (simp; omega) | omega); have t1_1 : w.heap.size + 1 < w1.heap.size := (by omega); have c1_1 := fun o => h1.cells (w.heap.size + 1) o (by first | (simp; done) | (simp; omega) | omega); have f1_0 := fun o => h1.frozens (w.heap.size) o (by first | (simp; done) | (simp; omega) | omega); have f1_1 := fun o => h1.frozens (w.heap.size + 1) o (by first | (simp; done) | (simp; omega) | omega)
 go_wp2
 go_ret
 exact ⟨by show Ending.returned (.slice (some ⟨bd, off + o, none⟩) (o + W - o) (cd - o)) = _; rw [e4], xt⟩
theorem IntS.open {w : World} {v : Value} {l : List Int} (h : IntS w v l) (hp : 0 < l.length) : ∃ b off cap, v = .slice (some ⟨b, off, none⟩) l.length cap ∧ l.length ≤ cap ∧ cap ≤ 9223372036854775807 ∧ b < w.heap.size := by
  obtain ⟨hl, a, cap, hv, h1, h2, h3⟩ := h.row
  obtain ⟨b, off, rfl, hc⟩ := h3 (by rw [ints_length]; exact hp)
  have := hc 0 (.int .i64 l[0]) (by rw [ints_get, List.getElem?_eq_getElem hp]; rfl)
  exact ⟨b, off, cap, hv, h1, h2, World.block_lt_of_cell? _ _ this⟩
theorem TOk.nat {k p n : Int} {L D X : List Int} (h : TOk k p n L D X) (hr : ringOk k p n = true) : ∃ P W : Nat, prodL D = P ∧ ringWidth k n = W ∧ 1 ≤ P ∧ P ≤ 4096 ∧ 1 ≤ W ∧ W ≤ 6 ∧ X.length = P * W := by
  have hw := ringOk_wide hr
  have h0 := hw.lo
  have h1 := hw.hi
  have p0 := h.ax.pos
  have p1 := h.ax.size
  refine ⟨(prodL D).toNat, (ringWidth k n).toNat, by omega, by omega, by omega, by omega, by omega, by omega, ?_⟩
  have := h.len
  have e : prodL D * ringWidth k n = (((prodL D).toNat * (ringWidth k n).toNat : Nat) : Int) := by
    rw [Int.natCast_mul, Int.toNat_of_nonneg (by omega), Int.toNat_of_nonneg (by omega)]
  rw [e] at this
  exact Int.ofNat.inj this
set_option maxRecDepth 100000 in
set_option maxHeartbeats 1000000 in
theorem copyTensor_any (v : Value) (L D X : List Int) (w : World) (hv : TenS w v L D X) (h1 : L.length ≤ 1048576) (h2 : D.length ≤ 1048576) (h3 : X.length ≤ 1048576) : Calls Tryz.prog 23 #[v] w fun e w' =>
 ∃ u, e = .returned u ∧ OwnT w' w.heap.size u L D X ∧ Ext w w' := by
 obtain ⟨p1, n1, c1, p2, n2, c2, p3, n3, c3, rfl⟩ := hv.shape
 obtain ⟨_, _, _, hvv, hL, hD, hX⟩ := hv.val
 simp at hvv
 obtain ⟨rfl, rfl, rfl⟩ := hvv
 obtain ⟨_, _, e1, _, _⟩ := hL.val
 simp at e1
 obtain ⟨rfl, rfl, rfl⟩ := e1
 obtain ⟨_, _, e2, _, _⟩ := hD.val
 simp at e2
 obtain ⟨rfl, rfl, rfl⟩ := e2
 obtain ⟨_, _, e3, _, _⟩ := hX.val
 simp at e3
 obtain ⟨rfl, rfl, rfl⟩ := e3
 go_enter Tryz.func23, Tryz.ntmps23
 go_wp2_with fail
 generalize hW : (w.alloc (.cells #[.slice p1 L.length c1, .slice p2 D.length c2, .slice p3 X.length c3] 35)).alloc (.cells #[.slice none 0 0, .slice none 0 0, .slice none 0 0] 35) = W
 have E : Ext w W := by rw [← hW]; exact xt
 have hS : W.heap.size = w.heap.size + 2 := by rw [← hW]; simp
 have BK : Blk W w.heap.size 35 [.slice p1 L.length c1, .slice p2 D.length c2, .slice p3 X.length c3] := by rw [← hW]; exact Blk.ext (Blk.new w #[_, _, _] 35) xt
 have BR : Blk W (w.heap.size + 1) 35 [.slice none 0 0, .slice none 0 0, .slice none 0 0] := by rw [← hW]; simpa using Blk.new (w.alloc (.cells #[.slice p1 L.length c1, .slice p2 D.length c2, .slice p3 X.length c3] 35)) #[.slice none 0 0, .slice none 0 0, .slice none 0 0] 35
 have i0 := BK.cell (j := 0) rfl
 have i1 := BK.cell (j := 1) rfl
 have i2 := BK.cell (j := 2) rfl
 have hKl := BK.lt
 have hRl := BR.lt
 have HS := Lib.hid hS
 clear hW hS
 have D0 : Ext W W.drew := (Ext.refl _).drew
 have hL0 := (hL.ext E).ext D0
 have hD0 := hD.ext E
 have hX0 := hX.ext E
 go_region_held3 (fun w' => w'.cell? ⟨w.heap.size, 0, none⟩ = some (.slice p1 L.length c1) ∧ w'.cell? ⟨w.heap.size, 1, none⟩ = some (.slice p2 D.length c2) ∧ w'.cell? ⟨w.heap.size, 2, none⟩ = some (.slice p3 X.length c3))
  (first | (refine ⟨?_, ?_, ?_⟩ <;> assumption) | go_keep)
  (first | (go_at_call 58; (with_reducible refine (copyInts_any (.slice p1 L.length c1) L W.drew hL0 (by omega)).mono ?_); rintro e1 w1 ⟨v1, rfl, o1, h1⟩; have g1 : Ext W w1 := D0.trans h1; have j0 := g1.cell i0; have j1 := g1.cell i1; have j2 := g1.cell i2) | (go_at_call 58; (with_reducible refine (copyInts_any (.slice p2 D.length c2) D w1 (hD0.ext g1) (by omega)).mono ?_); rintro e2 w2 ⟨v2, rfl, o2, h2⟩; have g2 : Ext W w2 := g1.trans h2; have k0 := g2.cell i0; have k1 := g2.cell i1; have k2 := g2.cell i2) | (go_at_call 58; (with_reducible refine (copyInts_any (.slice p3 X.length c3) X w2 (hX0.ext g2) (by omega)).mono ?_); rintro e3 w3 ⟨v3, rfl, o3, h3⟩; have g3 : Ext W w3 := g2.trans h3; have l0 := g3.cell i0; have l1 := g3.cell i1; have l2 := g3.cell i2; have hR3 := BR.ext g3; have f0 := hR3.free 0; have f1 := hR3.free 1; have f2 := hR3.free 2; have r0 := hR3.cell (j := 0) rfl; have r1 := hR3.cell (j := 1) rfl; have r2 := hR3.cell (j := 2) rfl; have hRl3 := hR3.lt; obtain ⟨a1, q1, rfl, _, _⟩ := o1.ints.val; obtain ⟨a2, q2, rfl, _, _⟩ := o2.ints.val; obtain ⟨a3, q3, rfl, _, _⟩ := o3.ints.val))
 have E3 : Ext w w3 := E.trans g3
 have hs := HS.out
 have s1 := h1.size
 have s2 := h2.size
 have s3 := h3.size
 simp at s1
 have B1 : Hid (∀ q, (Value.slice a1 L.length q1).ownBlock = some q → w.heap.size + 1 < q ∧ q < w1.heap.size) := Lib.hid fun q hq => by have := o1.block_lt hq; simp at this; omega
 have B2 : Hid (∀ q, (Value.slice a2 D.length q2).ownBlock = some q → w1.heap.size ≤ q ∧ q < w2.heap.size) := Lib.hid fun q hq => o2.block_lt hq
 have B3 : Hid (∀ q, (Value.slice a3 X.length q3).ownBlock = some q → w2.heap.size ≤ q) := Lib.hid fun q hq => (o3.block_lt hq).1
 have p1' := (o1.mono (show w.heap.size + 2 ≤ W.drew.heap.size from by simp; omega)).ext (h2.trans h3)
 have p2' := (o2.mono (show w.heap.size + 2 ≤ w1.heap.size from by omega)).ext h3
 have p3' := o3.mono (show w.heap.size + 2 ≤ w2.heap.size from by omega)
 go_wp2
 refine bodyPost_ret (v := .agg #[.slice a1 L.length q1, .slice a2 D.length q2, .slice a3 X.length q3]) (by simp [results, Tryz.results23, go_sem, *]) rfl ?_
 refine ⟨_, rfl, ⟨_, _, _, rfl, ?_, ?_, ?_, fun q hq => ⟨fun e => ?_, fun e => ?_⟩, fun q hq e => ?_⟩, xt⟩
 · exact (((p1'.setBelow (by simp) _).setBelow (by simp) _).setBelow (by simp) _).mono (by omega)
 · exact (((p2'.setBelow (by simp) _).setBelow (by simp) _).setBelow (by simp) _).mono (by omega)
 · exact (((p3'.setBelow (by simp) _).setBelow (by simp) _).setBelow (by simp) _).mono (by omega)
 · have := B1.out q hq; have := B2.out q e; omega
 · have := B1.out q hq; have := B3.out q e; omega
 have := B2.out q hq; have := B3.out q e; omega
theorem same_same (v u : Value) (L D X L' D' X' : List Int) (w : World) (hl : TenS w v L D X) (hm : TenS w u L' D' X') (e1 : L = L') (e2 : D = D') (e3 : X = X') : Calls Tryz.prog 9 #[v, u] w fun e w' =>
 e = .returned (.bool true) ∧ Ext w w' := by
 subst e1 e2 e3
 obtain ⟨a, b, c, rfl, h1, h2, h3⟩ := hl.val
 obtain ⟨a', b', c', rfl, g1, g2, g3⟩ := hm.val
 obtain ⟨x1, y1, rfl, _, _⟩ := h1.val
 obtain ⟨x2, y2, rfl, _, _⟩ := h2.val
 obtain ⟨x3, y3, rfl, _, _⟩ := h3.val
 obtain ⟨z1, u1, rfl, _, _⟩ := g1.val
 obtain ⟨z2, u2, rfl, _, _⟩ := g2.val
 obtain ⟨z3, u3, rfl, _, _⟩ := g3.val
 go_enter Tryz.func9, Tryz.ntmps9
 go_wp2_with fail
 refine (ints_same _ _ L L _ (h1.ext xt) (g1.ext xt) rfl).mono ?_; rintro e1 w1 ⟨rfl, rfl⟩
 go_wp2_with fail
 refine (ints_same _ _ D D _ (h2.ext xt) (g2.ext xt) rfl).mono ?_; rintro e2 w2 ⟨rfl, rfl⟩
 go_wp2_with fail
 refine (ints_same _ _ X X _ (h3.ext xt) (g3.ext xt) rfl).mono ?_; rintro e3 w3 ⟨rfl, rfl⟩
 go_wp2
 go_ret
 exact ⟨rfl, xt⟩
end Go.Proofs.YtlgjddgajdjllaaGreat
