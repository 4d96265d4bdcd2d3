/- Tensors of the program: IndexAt, OffsetOf, ElemAt, SetElem; the laws' same. -/
import Derived.Test.YtpegckmagiaggaaDBase
import Derived.Test.YtpegckmagiaggaaDTokW
import Derived.Test.YtpegckmagiaggaaDHomA
import Derived.Test.YtpegckmagiaggaaDDrawT
namespace Go.Proofs.Ytpegckmagiaggaa
open Go.RowKit
set_option linter.unusedSimpArgs false
set_option linter.unusedVariables false

/-! ### indices -/
theorem idxL_step {D : List Int} {n : Int} {j : Nat} {d : Int} (hd : D.drop j = d :: D.drop (j + 1)) : idxL (D.drop j) n = (n / prodL (D.drop (j + 1))) % d :: idxL (D.drop (j + 1)) n := by rw [hd, idxL]
theorem div_step {D : List Int} {n : Int} {j : Nat} {d : Int} (h0 : 0 ≤ prodL (D.drop (j + 1))) (hd : D.drop j = d :: D.drop (j + 1)) : n / prodL (D.drop j) = n / prodL (D.drop (j + 1)) / d := by
  rw [hd, prodL_cons, Int.mul_comm, Int.ediv_ediv_of_nonneg h0]
theorem zeros_set (j : Nat) (x : Int) (R : List Int) : (List.replicate (j + 1) 0 ++ R).set j x = List.replicate j 0 ++ (x :: R) := by
  rw [List.replicate_succ', List.append_assoc, List.set_append_right _ _ (by simp)]
  simp
set_option maxHeartbeats 1000000 in
theorem indexIn_any (vD : Value) (D : List Int) (n : Int) (w : World) (hD : IntS w vD D) (hd : ∀ d ∈ D, 1 ≤ d ∧ d ≤ 8) (hl : D.length ≤ 12) (h0 : 0 ≤ n) (h1 : n ≤ 1048576) : Calls Try.prog 98 #[vD, .int .i64 n] w fun e w' =>
    ∃ v, e = .returned v ∧ OwnI w' w.heap.size v (idxL D n) ∧ Ext w w' := by
  obtain ⟨a, cap, rfl, hc1, hc2⟩ := hD.val
  have hmk := mkInts D.length (by omega)
  have HD := Lib.hid hd; clear hd
  go_enter Try.func98, Try.ntmps98
  go_wp2_with fail
  go_loopw [1, 6] (fun q i wr => ∃ (j : Nat) (c : Int), j ≤ D.length ∧ i = .int .i64 ((j : Int) - 1) ∧ q = .int .i64 c ∧ 0 ≤ c ∧ c ≤ 1048576 ∧ n / prodL (D.drop j) = c ∧ Blk wr w.heap.size 3 (ints (List.replicate j 0 ++ idxL (D.drop j) n)) ∧ Ext w wr) (fun q i wr => (RowKit.intOf i + 1).toNat)
  case atStart =>
    refine ⟨D.length, n, Nat.le_refl _, rfl, rfl, h0, h1, by rw [drop_len]; simp [prodL], ?_, (by repeat' (first | (with_reducible exact Ext.refl _) | (with_reducible assumption) | (with_reducible apply Ext.alloc) | (with_reducible apply Ext.drew) | (with_reducible apply Ext.drewN) | (refine Ext.setAt ?_ (by omega) _ _) | (refine Ext.trans ?_ (by assumption))))⟩
    rw [drop_len, idxL, List.append_nil]
    exact blk_made w _ _ rfl
  case round =>
    obtain ⟨j, c, hj, rfl, rfl, hc0, hc3, hcc, hB, hE⟩ := hrel
    have HC := Lib.hid hcc; clear hcc
    rcases Nat.eq_zero_or_pos j with rfl | hjp
    · go_wp2
      go_ret
      rw [List.drop_zero, List.replicate_zero, List.nil_append] at hB
      exact ⟨_, rfl, OwnI.mk' (by rw [idxL_length]) (Nat.le_refl _) hB (by unfold maxLen; omega), hE⟩
    · obtain ⟨j, rfl⟩ : ∃ i, j = i + 1 := ⟨j - 1, by omega⟩
      obtain ⟨b, off, d, rfl, hcell0, hy, hdr⟩ := hD.get (i := j) (by omega)
      have hbl := World.block_lt_of_cell? w _ hcell0
      have hcell := hE.cell hcell0
      have hbne : b ≠ w.heap.size := by simp at hbl; omega
      clear hcell0
      obtain ⟨d0, d1⟩ := HD.out d (List.mem_of_getElem? hy)
      have hP := prodL_pos (D := D.drop (j + 1)) fun x hx => HD.out x (List.mem_of_mem_drop hx)
      have hs1 := idxL_step (n := n) hdr
      have hs2 := div_step (n := n) (by omega) hdr
      rw [HC.out] at hs1 hs2
      have ho := hB.cell (j := j) (u := .int .i64 0) (by rw [ints_get, List.getElem?_append_left (by simp), rep_get _ (by omega)]; rfl)
      have hfz := hB.free j
      have r0 := Int.emod_nonneg c (show d ≠ 0 by omega)
      have r1 := Int.emod_lt_of_pos c (show 0 < d by omega)
      have q0 := Int.ediv_nonneg hc0 (show 0 ≤ d by omega)
      have q1 : c / d ≤ c := Int.ediv_le_self _ hc0
      have H1 := Lib.hid hs1; have H2 := Lib.hid hs2
      have e1 : (((j + 1 : Nat) : Int) - 1) = (j : Int) := by omega
      rw [e1]
      have hjl : j < D.length := by omega
      have hjc : j < cap := by omega
      clear hs1 hs2 hy hdr e1 hP
      go_wp2
      go_roundw
      case rel =>
        refine ⟨j, c / d, by omega, rfl, rfl, q0, by omega, H2.out, ?_, hE.setCell (Nat.le_refl _) _⟩
        rw [H1.out, ← zeros_set, ← ints_set]
        exact Blk.set hB _ _
      case measure => simp [RowKit.intOf] <;> omega
theorem indexAt_yes (v : Value) (L D X : List Int) (n : Int) (w : World) (hv : TenS w v L D X) (ax : AxOk L D) (h0 : 0 ≤ n) (h1 : n < prodL D) : Calls Try.prog 28 #[v, .int .i64 n] w fun e w' =>
    ∃ u, e = .returned (.tuple #[u, .bool true]) ∧ OwnI w' w.heap.size u (idxL D n) ∧ Ext w w' := by
  have hv0 := hv
  obtain ⟨p1, n1, c1, p2, n2, c2, p3, n3, c3, rfl⟩ := hv.shape
  obtain ⟨_, _, _, hvv, hL, hD, hX⟩ := hv.val
  simp at hvv
  obtain ⟨rfl, rfl, rfl⟩ := hvv
  obtain ⟨s, hse⟩ : ∃ s, prodL D = s := ⟨_, rfl⟩
  have hts : tsize L D = s := by rw [ax.tsize, hse]
  have hs1 := ax.size
  have hln := ax.len
  have hrk := ax.rank
  have hdl : D.length ≤ 12 := by omega
  rw [hse] at hs1 h1
  have hsne : (s == -1) = false := by rw [beq_eq_false_iff_ne]; omega
  have HTS := Lib.hid hts; have AX := Lib.hid ax
  clear hse hts hv ax hln
  go_enter Try.func28, Try.ntmps28
  go_wp2_with fail
  refine (tensorSize_impl _ L D X _ (hv0.ext (by repeat' (first | (with_reducible exact Ext.refl _) | (with_reducible assumption) | (with_reducible apply Ext.alloc) | (with_reducible apply Ext.drew) | (with_reducible apply Ext.drewN) | (refine Ext.setAt ?_ (by omega) _ _) | (refine Ext.trans ?_ (by assumption)))))).mono ?_; rintro e2 w2 ⟨rfl, h2⟩; rw [HTS.out]; have s2 := h2.size; (try simp at s2); have t2_0 : w.heap.size < w2.heap.size := (by omega); have c2_0 := fun o => h2.cells (w.heap.size) o (by first | (simp; done) | (simp; omega) | omega)
  go_wp2_with fail
  refine (indexIn_any _ D n _ (hD.ext (by repeat' (first | (with_reducible exact Ext.refl _) | (with_reducible assumption) | (with_reducible apply Ext.alloc) | (with_reducible apply Ext.drew) | (with_reducible apply Ext.drewN) | (refine Ext.setAt ?_ (by omega) _ _) | (refine Ext.trans ?_ (by assumption))))) AX.out.dims hdl h0 (by omega)).mono ?_; rintro e3 w3 ⟨v3, rfl, o3, h3⟩
  go_wp2
  go_ret2
  exact ⟨_, rfl, o3.mono (by have := h2.size; simp at this; omega), (by repeat' (first | (with_reducible exact Ext.refl _) | (with_reducible assumption) | (with_reducible apply Ext.alloc) | (with_reducible apply Ext.drew) | (with_reducible apply Ext.drewN) | (refine Ext.setAt ?_ (by omega) _ _) | (refine Ext.trans ?_ (by assumption))))⟩
theorem indexOk_yes (vD vI : Value) (D I : List Int) (w : World) (hD : IntS w vD D) (hI : IntS w vI I) (hok : idxOk D I = true) (hd : ∀ d ∈ D, 1 ≤ d ∧ d ≤ 8) : Calls Try.prog 164 #[vD, vI] w fun e w' =>
    e = .returned (.bool true) ∧ w = w' := by
  obtain ⟨a, cap, rfl, hc1, hc2⟩ := hD.val
  obtain ⟨a2, cap2, rfl, hc3, hc4⟩ := hI.val
  have hlen := idxOk_len hok
  have hne : ((I.length : Int) != (D.length : Int)) = false := by rw [bne_eq_false_iff_eq]; omega
  have HL := Lib.hid hlen; have HK := Lib.hid hok; have HD := Lib.hid hd
  clear hlen hok hd
  go_enter Try.func164, Try.ntmps164
  go_wp2_with fail
  go_loop [14] (fun i => ∃ j : Nat, j ≤ I.length ∧ i = .int .i64 j ∧ idxOk (D.drop j) (I.drop j) = true) (fun i => I.length - (RowKit.intOf i).toNat)
  case atStart => exact ⟨0, Nat.zero_le _, rfl, HK.out⟩
  case round =>
    obtain ⟨j, hj, rfl, hok⟩ := hrel
    by_cases hlt : j < I.length
    · obtain ⟨b, off, y, rfl, hcell, _, hdr⟩ := hI.get hlt
      obtain ⟨b2, off2, z, rfl, hcell2, hz, hdr2⟩ := hD.get (i := j) (by have := HL.out; omega)
      rw [hdr, hdr2] at hok
      obtain ⟨y0, y1, h3⟩ := idxOk_cons hok
      have H3 := Lib.hid h3
      have hjl : j < D.length := by have := HL.out; omega
      clear h3 hok hdr hdr2 hz
      go_wp2
      go_round
      case rel => exact ⟨j + 1, by omega, by go_num, H3.out⟩
      case measure => simp [RowKit.intOf]; omega
    · have : j = I.length := by omega
      subst this
      go_wp2
      go_ret
      exact ⟨rfl, rfl⟩
/-! ### elements -/
theorem IntS.part {w : World} {b off n cap o W : Nat} {X : List Int} (h : IntS w (.slice (some ⟨b, off, none⟩) n cap) X) (hW : 1 ≤ W) (hf : o + W ≤ X.length) : IntS w (.slice (some ⟨b, off + o, none⟩) W (cap - o)) (getL X o W) := by
  obtain ⟨hl, a', cap', hv, h1, h2, h3⟩ := h.row
  cases hv
  have e : (getL X o W).length = W := getL_length hf
  refine ⟨⟨by rw [ints_length]; omega, some ⟨b, off + o, none⟩, cap - o, by rw [e], by omega, by omega, fun _ => ⟨b, off + o, rfl, fun j u hj => ?_⟩⟩⟩
  obtain ⟨b', off', ha, hc⟩ := h3 (by rw [ints_length]; omega)
  cases ha
  have hj2 := (List.getElem?_eq_some_iff.1 hj).1
  rw [ints_length, e] at hj2
  have : (ints X)[o + j]? = some u := by
    rw [ints_get] at hj ⊢
    rw [getL, List.getElem?_take_of_lt hj2, List.getElem?_drop] at hj
    exact hj
  have := hc (o + j) u this
  rw [Nat.add_assoc]; exact this
theorem rawElem_gen (k p n i : Int) (o W : Nat) (hW : ringWidth k n = (W : Int)) (a1 a2 : Option Addr) (m1 c1 m2 c2 bd off nd cd : Nat) (w : World) (ho : i * (W : Int) = o) (hi : 0 ≤ i) (hw : RingWide k n) (hfit : o + W ≤ nd) (hcd : nd ≤ cd) (hlen : nd ≤ 1048576) :
    Calls Try.prog 110 #[ringV k p n, .agg #[.slice a1 m1 c1, .slice a2 m2 c2, .slice (some ⟨bd, off, none⟩) nd cd], .int .i64 i] w fun e w' =>
      e = .returned (.slice (some ⟨bd, off + o, none⟩) W (cd - o)) ∧ Ext w w' := by
  have hw0 := hw.lo
  have hw1 := hw.hi
  rw [hW] at hw0 hw1
  have h1o : (i + 1) * (W : Int) = (o : Int) + W := by rw [Int.add_mul, Int.one_mul, ho]
  have hib : i * 1 ≤ i * (W : Int) := Int.mul_le_mul_of_nonneg_left (by omega) hi
  have e1 : IntKind.i64.wrap (i * (W : Int)) = (o : Int) := by rw [IntKind.wrap_i64, ho]; omega
  have e2 : IntKind.i64.wrap (i + 1) = i + 1 := by rw [IntKind.wrap_i64]; omega
  have e3 : IntKind.i64.wrap ((i + 1) * (W : Int)) = ((o + W : Nat) : Int) := by rw [IntKind.wrap_i64, h1o]; omega
  have e4 : o + W - o = W := by omega
  have e5 : o < cd := by omega
  have HW := Lib.hid hW; clear hW hw ho h1o
  go_enter Try.func110, Try.ntmps110
  go_wp2_with fail
  refine (rawWidth_any _ _ _ _).mono ?_; rintro e1 w1 ⟨rfl, h1⟩; rw [HW.out]; have s1 := h1.size; (try simp at s1); have t1_0 : w.heap.size < w1.heap.size := (by omega); have c1_0 := fun o => h1.cells (w.heap.size) o (by first | (simp; done) | (simp; omega) | omega); have t1_1 : w.heap.size + 1 < w1.heap.size := (by omega); have c1_1 := fun o => h1.cells (w.heap.size + 1) o (by first | (simp; done) | (simp; omega) | omega); have f1_0 := fun o => h1.frozens (w.heap.size) o (by first | (simp; done) | (simp; omega) | omega); have f1_1 := fun o => h1.frozens (w.heap.size + 1) o (by first | (simp; done) | (simp; omega) | omega)
  go_wp2
  go_ret
  exact ⟨by show Ending.returned (.slice (some ⟨bd, off + o, none⟩) (o + W - o) (cd - o)) = _; rw [e4], (by repeat' (first | (with_reducible exact Ext.refl _) | (with_reducible assumption) | (with_reducible apply Ext.alloc) | (with_reducible apply Ext.drew) | (with_reducible apply Ext.drewN) | (refine Ext.setAt ?_ (by omega) _ _) | (refine Ext.trans ?_ (by assumption))))⟩
theorem IntS.open {w : World} {v : Value} {l : List Int} (h : IntS w v l) (hp : 0 < l.length) : ∃ b off cap, v = .slice (some ⟨b, off, none⟩) l.length cap ∧ l.length ≤ cap ∧ cap ≤ 9223372036854775807 ∧ b < w.heap.size := by
  obtain ⟨hl, a, cap, hv, h1, h2, h3⟩ := h.row
  obtain ⟨b, off, rfl, hc⟩ := h3 (by rw [ints_length]; exact hp)
  have := hc 0 (.int .i64 l[0]) (by rw [ints_get, List.getElem?_eq_getElem hp]; rfl)
  exact ⟨b, off, cap, hv, h1, h2, World.block_lt_of_cell? _ _ this⟩
theorem TOk.nat {k p n : Int} {L D X : List Int} (h : TOk k p n L D X) (hr : ringOk k p n = true) : ∃ P W : Nat, prodL D = P ∧ ringWidth k n = W ∧ 1 ≤ P ∧ P ≤ 4096 ∧ 1 ≤ W ∧ W ≤ 6 ∧ X.length = P * W := by
  have hw := ringOk_wide hr
  have h0 := hw.lo
  have h1 := hw.hi
  have p0 := h.ax.pos
  have p1 := h.ax.size
  refine ⟨(prodL D).toNat, (ringWidth k n).toNat, by omega, by omega, by omega, by omega, by omega, by omega, ?_⟩
  have := h.len
  have e : prodL D * ringWidth k n = (((prodL D).toNat * (ringWidth k n).toNat : Nat) : Int) := by
    rw [Int.natCast_mul, Int.toNat_of_nonneg (by omega), Int.toNat_of_nonneg (by omega)]
  rw [e] at this
  exact Int.ofNat.inj this
end Go.Proofs.Ytpegckmagiaggaa
