/- stridesOf, joinLabels, keptOnly, sameLabels of the program. -/
import Derived.Test.YtlgjddgajdjllaaGreatHNextW
set_option linter.unusedSimpArgs false
set_option linter.unusedVariables false
namespace Go.Proofs.YtlgjddgajdjllaaGreat
open Go.RowKit
def mixM (f g : Int → Int) (M : List Int) (j : Nat) : List Int := (M.take j).map f ++ (M.drop j).map g
theorem mixM_zero (f g : Int → Int) (M : List Int) : mixM f g M 0 = M.map g := by simp [mixM]
theorem mixM_all (f g : Int → Int) (M : List Int) : mixM f g M M.length = M.map f := by simp [mixM]
theorem mixM_length (f g : Int → Int) (M : List Int) (j : Nat) : (mixM f g M j).length = M.length := by simp [mixM]; omega
theorem mixM_step {f g : Int → Int} {M : List Int} {j : Nat} {m : Int} (h : M[j]? = some m) : (mixM f g M j).set j (f m) = mixM f g M (j + 1) := by
  obtain ⟨hj, rfl⟩ := List.getElem?_eq_some_iff.1 h
  have e : ((M.take j).map f).length = j := by rw [List.length_map, List.length_take]; omega
  unfold mixM
  rw [List.set_append_right _ _ (by omega), e, Nat.sub_self, List.drop_eq_getElem_cons hj, List.map_cons, List.set_cons_zero, List.take_succ_eq_append_getElem hj, List.map_append, List.append_assoc]
  rfl
theorem mixM_same {f g : Int → Int} {M : List Int} {j : Nat} {m : Int} (h : M[j]? = some m) (e : g m = f m) : mixM f g M j = mixM f g M (j + 1) := by
  obtain ⟨hj, rfl⟩ := List.getElem?_eq_some_iff.1 h
  unfold mixM
  rw [List.drop_eq_getElem_cons hj, List.map_cons, List.take_succ_eq_append_getElem hj, List.map_append, List.append_assoc, e]
  rfl
theorem mixM_get {f g : Int → Int} {M : List Int} {j : Nat} (h : j < M.length) : ∃ y, (mixM f g M j)[j]? = some y :=
  ⟨_, List.getElem?_eq_getElem (by rw [mixM_length]; exact h)⟩
theorem prodL_drop_le {D : List Int} (h : ∀ d ∈ D, 1 ≤ d ∧ d ≤ 8) : ∀ j : Nat, prodL (D.drop j) ≤ prodL D := by
  induction D with
  | nil => intro j; simp
  | cons d D ih =>
    intro j
    have hD : ∀ d ∈ D, 1 ≤ d ∧ d ≤ 8 := fun x hx => h x (by simp [hx])
    cases j with
    | zero => simp
    | succ j =>
      have hd := h d (by simp)
      have h1 := ih hD j
      have h2 := prodL_pos hD
      have : 1 * prodL D ≤ d * prodL D := Int.mul_le_mul_of_nonneg_right hd.1 (by omega)
      rw [List.drop_succ_cons, prodL_cons]; omega
set_option maxHeartbeats 1000000 in
theorem stridesOf_any (v vM : Value) (L D X M : List Int) (w : World) (hv : TenS w v L D X) (hM : IntS w vM M) (hl : L.length = D.length) (hd : ∀ d ∈ D, 1 ≤ d ∧ d ≤ 8) (hp : prodL D ≤ 65536) (hml : M.length ≤ 1000) :
 Calls Tryz.prog 38 #[v, vM] w fun e w' => ∃ u, e = .returned u ∧ OwnI w' w.heap.size u (M.map (stride L D)) ∧ Ext w w' := by
 obtain ⟨p1, n1, c1, p2, n2, c2, p3, n3, c3, rfl⟩ := hv.shape
 obtain ⟨_, _, _, hvv, hL, hD, hX⟩ := hv.val
 simp at hvv
 obtain ⟨rfl, rfl, rfl⟩ := hvv
 obtain ⟨_, _, e1, hcL, hdL⟩ := hL.val
 simp at e1
 obtain ⟨rfl, rfl, rfl⟩ := e1
 obtain ⟨_, _, e2, hcD, hdD⟩ := hD.val
 simp at e2
 obtain ⟨rfl, rfl, rfl⟩ := e2
 obtain ⟨aM, cM, rfl, hcM, hdM⟩ := hM.val
 have HL := Lib.hid hl; clear hl
 have HD := Lib.hid hd; clear hd
 have HP := Lib.hid hp; clear hp
 have hmk := mkInts M.length (by omega)
 generalize hW1 : w.alloc (.cells #[.slice p1 L.length c1, .slice p2 D.length c2, .slice p3 n3 c3] 35) = w1 at *
 have h1 : Ext w w1 := by rw [← hW1]; exact xt
 have BT : Blk w1 w.heap.size 35 [.slice p1 L.length c1, .slice p2 D.length c2, .slice p3 n3 c3] := by rw [← hW1]; exact Blk.new w #[_, _, _] 35
 have hs1 : w1.heap.size = w.heap.size + 1 := by rw [← hW1]; simp
 have HS1 := Lib.hid hs1; clear hs1
 have q0 := BT.cell (j := 0) rfl
 have q1 := BT.cell (j := 1) rfl
 have ql := BT.lt
 have HW := Lib.hid hW1; clear hW1
 go_enter Tryz.func38, Tryz.ntmps38
 go_wp2_with fail
 rw [HW.out]
 go_wp2_with fail
 go_loopw [6, 7] (fun s i wr => ∃ (j : Nat) (x : Int), j ≤ D.length ∧ x = (j : Int) - 1 ∧ i = .int .i64 x ∧ s = .int .i64 (prodL (D.drop j)) ∧ OwnI wr (w.heap.size + 1) (.slice (some ⟨w.heap.size + 1, 0, none⟩) M.length M.length) (M.map (stride (L.drop j) (D.drop j))) ∧ Ext w1 wr) (fun s i wr => (RowKit.intOf i + 1).toNat)
 case atStart =>
  refine ⟨D.length, _, Nat.le_refl _, rfl, rfl, by rw [drop_len]; rfl, ?_, xt⟩
  have e0 : M.map (stride (L.drop D.length) (D.drop D.length)) = List.replicate M.length 0 := by
   rw [← HL.out, drop_len]
   exact List.map_const' ..
  have hb := Blk.new w1 (madeCells #[.int .i64 0] M.length) 3
  rw [made_zero, ← e0, HS1.out] at hb
  exact OwnI.mk' (by simp) (Nat.le_refl _) hb (by unfold maxLen; omega)
 obtain ⟨j, x, hj, hx, rfl, rfl, hO, hE⟩ := hrel
 have hE0 := Ext.refl w1
 have q0' := q0
 have q1' := q1
 have ql' := ql
 have q0 := hE.cell q0
 have q1 := hE.cell q1
 have ql := Nat.lt_of_lt_of_le ql hE.size
 rcases Nat.eq_zero_or_pos j with rfl | hj0
 · obtain rfl : x = -1 := by omega
   clear hx
   rw [List.drop_zero, List.drop_zero] at hO
   go_wp2
   go_ret
   exact ⟨_, rfl, hO.mono (show w.heap.size ≤ w.heap.size + 1 by omega), h1.trans hE⟩
 obtain ⟨i, rfl⟩ : ∃ i, j = i + 1 := ⟨j - 1, by omega⟩
 obtain rfl : x = (i : Int) := by omega
 clear hx hj0
 have hiL : i < L.length := by have := HL.out; omega
 obtain ⟨bL, oL, y, rfl, hcy, hy, hyd⟩ := hL.get hiL
 obtain ⟨bD, oD, z, rfl, hcz, hz, hzd⟩ := hD.get (i := i) (by omega)
 obtain ⟨z0, z1⟩ := HD.out z (List.mem_of_getElem? hz)
 have p0 := prodL_pos (D := D.drop (i + 1)) fun d hd => HD.out d (List.mem_of_mem_drop hd)
 have p1 := prodL_drop_le HD.out i
 rw [hzd, prodL_cons] at p1
 have p2 : 1 * prodL (D.drop (i + 1)) ≤ z * prodL (D.drop (i + 1)) := Int.mul_le_mul_of_nonneg_right z0 (by omega)
 have p3 : z * prodL (D.drop (i + 1)) ≤ 65536 := by have := HP.out; omega
 have hP3 : Hid (prodL (D.drop i) = prodL (D.drop (i + 1)) * z) := Lib.hid (by rw [hzd, prodL_cons, Int.mul_comm])
 have hF : Hid (∀ l, stride (L.drop i) (D.drop i) l = if y = l then prodL (D.drop (i + 1)) else stride (L.drop (i + 1)) (D.drop (i + 1)) l) := Lib.hid fun l => by rw [hyd, hzd]; rfl
 generalize hst : prodL (D.drop (i + 1)) = st at *
 have p4 : 0 ≤ st * z := by rw [Int.mul_comm]; omega
 have p5 : st * z ≤ 65536 := by rw [Int.mul_comm]; omega
 clear p2 p3
 clear p1 hst hy hz hyd hzd
 generalize stride (L.drop (i + 1)) (D.drop (i + 1)) = g at *
 obtain ⟨f, hf⟩ : ∃ f, stride (L.drop i) (D.drop i) = f := ⟨_, rfl⟩
 have HFF := Lib.hid hf
 rw [hf] at hF
 clear hf
 go_wp2
 go_loopw [23] (fun q wr2 => ∃ t : Nat, t ≤ M.length ∧ q = .int .i64 t ∧ OwnI wr2 (w.heap.size + 1) (.slice (some ⟨w.heap.size + 1, 0, none⟩) M.length M.length) (mixM f g M t) ∧ Ext w1 wr2) (fun q wr2 => M.length - (RowKit.intOf q).toNat)
 case atStart => exact ⟨0, Nat.zero_le _, rfl, by rw [mixM_zero]; exact hO, hE⟩
 obtain ⟨t, ht, rfl, hO2, hE2⟩ := hrel
 have q0 := hE2.cell (hE0.cell q0')
 have q1 := hE2.cell (hE0.cell q1')
 have ql := Nat.lt_of_lt_of_le ql' hE2.size
 have hcy := (h1.trans hE2).cell hcy
 have hcz := (h1.trans hE2).cell hcz
 by_cases hlt : t < M.length
 · obtain ⟨bM, oM, m, rfl, hcm, hm, _⟩ := (hM.ext (h1.trans hE2)).get hlt
   obtain ⟨u, hu⟩ := mixM_get (f := f) (g := g) hlt
   obtain ⟨hcu, hfu⟩ := hO2.cell hu
   have hul := hO2.block_lt (k := w.heap.size + 1) rfl
   by_cases hym : m = y
   · subst hym
     have hset := hO2.set t (by rw [mixM_length]; exact hlt) st
     have e1 : f m = st := by rw [hF.out, if_pos rfl]
     rw [← e1, mixM_step hm, e1] at hset
     have HS := Lib.hid hset
     clear hset e1 hu hm
     go_wp2
     go_roundw
     case rel => exact ⟨t + 1, by omega, by go_num, HS.out, hE2.setAt (by have := HS1.out; omega) _ _⟩
     case measure => simp [RowKit.intOf]; omega
   have e1 : g m = f m := by rw [hF.out, if_neg (fun e => hym e.symm)]
   rw [mixM_same hm e1] at hO2
   clear e1 hu hm
   go_wp2
   go_roundw
   case rel => exact ⟨t + 1, by omega, by go_num, hO2, hE2⟩
   case measure => simp [RowKit.intOf]; omega
 have : t = M.length := by omega
 subst this
 rw [mixM_all] at hO2
 have HO2 := Lib.hid hO2; clear hO2
 go_wp2
 go_roundw
 case rel => exact ⟨i, _, by omega, rfl, rfl, by rw [hP3.out], by rw [HFF.out]; exact HO2.out, hE2⟩
 case measure => simp [RowKit.intOf]
end Go.Proofs.YtlgjddgajdjllaaGreat
