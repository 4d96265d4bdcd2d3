/- joinLabels, keptOnly, withoutInt, sameLabels of the program. -/
import Derived.Test.YtlgjddgajdjllaaGreatHStrideW
set_option linter.unusedSimpArgs false
set_option linter.unusedVariables false
set_option maxRecDepth 100000
set_option maxHeartbeats 1000000
namespace Go.Proofs.YtlgjddgajdjllaaGreat
open Go.RowKit
theorem take_snoc' {l : List Int} {j : Nat} {x : Int} (h : l[j]? = some x) : l.take (j + 1) = l.take j ++ [x] := by
  obtain ⟨hj, rfl⟩ := List.getElem?_eq_some_iff.1 h
  exact List.take_succ_eq_append_getElem hj
theorem joinL_snoc_no {a b : List Int} {x : Int} (h : hasL a x = true) : joinL a (b ++ [x]) = joinL a b := by simp [joinL, h]
theorem joinL_snoc_yes {a b : List Int} {x : Int} (h : hasL a x = false) : joinL a (b ++ [x]) = joinL a b ++ [x] := by simp [joinL, h]
theorem joinL_nil (a : List Int) : joinL a [] = a := by simp [joinL]
theorem joinL_len (a b : List Int) : (joinL a b).length ≤ a.length + b.length := by
  unfold joinL; rw [List.length_append]; have := List.length_filter_le (fun x => !hasL a x) b; omega
theorem keepL_snoc_yes {l k : List Int} {x : Int} (h : hasL k x = true) : keepL (l ++ [x]) k = keepL l k ++ [x] := by simp [keepL, h]
theorem keepL_snoc_no {l k : List Int} {x : Int} (h : hasL k x = false) : keepL (l ++ [x]) k = keepL l k := by simp [keepL, h]
theorem keepL_len (l k : List Int) : (keepL l k).length ≤ l.length := List.length_filter_le _ _
theorem joinLabels_any (va vb : Value) (a b : List Int) (w : World) (ha : IntS w va a) (hb : IntS w vb b) (hla : a.length ≤ 1000) (hlb : b.length ≤ 1000) : Calls Tryz.prog 26 #[va, vb] w fun e w' =>
 ∃ v, e = .returned v ∧ OwnI w' w.heap.size v (joinL a b) ∧ Ext w w' := by
 obtain ⟨aA, cA, rfl, hcA, hdA⟩ := ha.val
 obtain ⟨aB, cB, rfl, hcB, hdB⟩ := hb.val
 go_enter Tryz.func26, Tryz.ntmps26
 go_wp2_with fail
 refine (copyInts_any _ a _ ha (by omega)).mono ?_; rintro e1 w1 ⟨v1, rfl, o1, h1⟩
 go_wp2
 go_loopw [5, 12] (fun q i wr => ∃ j : Nat, j ≤ b.length ∧ i = .int .i64 j ∧ OwnI wr w.heap.size q (joinL a (b.take j)) ∧ Ext w wr) (fun q i wr => b.length - (RowKit.intOf i).toNat)
 case atStart => exact ⟨0, Nat.zero_le _, rfl, by rw [List.take_zero, joinL_nil]; exact o1, h1⟩
 obtain ⟨j, hj, rfl, hO, hE⟩ := hrel
 obtain ⟨aq, cq, rfl, hq1, hq2⟩ := hO.ints.val
 have hjl := joinL_len a (b.take j)
 rw [List.length_take] at hjl
 by_cases hlt : j < b.length
 · obtain ⟨b2, off2, x, rfl, hcx, hx, _⟩ := (hb.ext hE).get hlt
   have HX := Lib.hid hx; clear hx
   have hs := hE.size
   cases hh : hasL a x
   · have HH := Lib.hid hh
     go_wp2_with fail
     refine (hasInt_any _ a x _ (ha.ext hE)).mono ?_; rintro e2 w2 ⟨rfl, rfl⟩
     rw [HH.out]
     clear hh
     go_wp2_with (at_builtin; refine wpList_app _ rfl _ _ 27 rfl _ _ rfl rfl _ (run_push _ wr w.heap.size _ _ x hO (by omega) hs) ?_; rintro v3 w3 ⟨o3, g3, _⟩)
     go_roundw
     case rel => exact ⟨j + 1, by omega, by go_num, by rw [take_snoc' HX.out, joinL_snoc_yes HH.out]; exact o3, hE.mark hO g3⟩
     case measure => simp [RowKit.intOf]; omega
   have HH := Lib.hid hh
   go_wp2_with fail
   refine (hasInt_any _ a x _ (ha.ext hE)).mono ?_; rintro e2 w2 ⟨rfl, rfl⟩
   rw [HH.out]
   clear hh
   go_wp2
   go_roundw
   case rel => exact ⟨j + 1, by omega, by go_num, by rw [take_snoc' HX.out, joinL_snoc_no HH.out]; exact hO, hE⟩
   case measure => simp [RowKit.intOf]; omega
 have : j = b.length := by omega
 subst this
 rw [List.take_length] at hO
 have HO := Lib.hid hO; clear hO
 rw [List.take_length]
 go_wp2
 go_ret
 exact ⟨_, rfl, HO.out, hE⟩
theorem keptOnly_any (va vb : Value) (a b : List Int) (w : World) (ha : IntS w va a) (hb : IntS w vb b) (hla : a.length ≤ 1000) : Calls Tryz.prog 34 #[va, vb] w fun e w' =>
 ∃ v, e = .returned v ∧ OwnI w' w.heap.size v (keepL a b) ∧ Ext w w' := by
 obtain ⟨aA, cA, rfl, hcA, hdA⟩ := ha.val
 obtain ⟨aB, cB, rfl, hcB, hdB⟩ := hb.val
 go_enter Tryz.func34, Tryz.ntmps34
 go_wp2
 go_loopw [5, 10] (fun q i wr => ∃ j : Nat, j ≤ a.length ∧ i = .int .i64 j ∧ OwnI wr w.heap.size q (keepL (a.take j) b) ∧ Ext w wr) (fun q i wr => a.length - (RowKit.intOf i).toNat)
 case atStart => exact ⟨0, Nat.zero_le _, rfl, OwnI.nil _ _, Ext.refl _⟩
 obtain ⟨j, hj, rfl, hO, hE⟩ := hrel
 obtain ⟨aq, cq, rfl, hq1, hq2⟩ := hO.ints.val
 have hjl := keepL_len (a.take j) b
 rw [List.length_take] at hjl
 by_cases hlt : j < a.length
 · obtain ⟨b2, off2, x, rfl, hcx, hx, _⟩ := (ha.ext hE).get hlt
   have HX := Lib.hid hx; clear hx
   have hs := hE.size
   cases hh : hasL b x
   · have HH := Lib.hid hh
     go_wp2_with fail
     refine (hasInt_any _ b x _ (hb.ext hE)).mono ?_; rintro e2 w2 ⟨rfl, rfl⟩
     rw [HH.out]
     clear hh
     go_wp2
     go_roundw
     case rel => exact ⟨j + 1, by omega, by go_num, by rw [take_snoc' HX.out, keepL_snoc_no HH.out]; exact hO, hE⟩
     case measure => simp [RowKit.intOf]; omega
   have HH := Lib.hid hh
   go_wp2_with fail
   refine (hasInt_any _ b x _ (hb.ext hE)).mono ?_; rintro e2 w2 ⟨rfl, rfl⟩
   rw [HH.out]
   clear hh
   go_wp2_with (at_builtin; refine wpList_app _ rfl _ _ 27 rfl _ _ rfl rfl _ (run_push _ wr w.heap.size _ _ x hO (by omega) hs) ?_; rintro v3 w3 ⟨o3, g3, _⟩)
   go_roundw
   case rel => exact ⟨j + 1, by omega, by go_num, by rw [take_snoc' HX.out, keepL_snoc_yes HH.out]; exact o3, hE.mark hO g3⟩
   case measure => simp [RowKit.intOf]; omega
 have : j = a.length := by omega
 subst this
 rw [List.take_length] at hO
 have HO := Lib.hid hO; clear hO
 rw [List.take_length]
 go_wp2
 go_ret
 exact ⟨_, rfl, HO.out, hE⟩
theorem IntS.takeS {w : World} {a : Option Addr} {n cap : Nat} {l : List Int} (h : IntS w (.slice a n cap) l) {j : Nat} (hj : j ≤ l.length) : IntS w (.slice a j cap) (l.take j) := by
  obtain ⟨hl, a', cap', hv, h1, h2, h3⟩ := h.row
  cases hv
  have e : (l.take j).length = j := by rw [List.length_take]; omega
  refine ⟨⟨by rw [ints_length]; omega, a, cap, by rw [e], by omega, h2, fun hp => ?_⟩⟩
  obtain ⟨b', off', ha, hc⟩ := h3 (by rw [ints_length] at hp ⊢; omega)
  refine ⟨b', off', ha, fun i u hi => hc i u ?_⟩
  have hi2 := (List.getElem?_eq_some_iff.1 hi).1
  rw [ints_length, e] at hi2
  rw [ints_get] at hi ⊢
  rw [List.getElem?_take_of_lt hi2] at hi
  exact hi
theorem sameLabels_yes (va vb : Value) (a b : List Int) (w : World) (ha : IntS w va a) (hb : IntS w vb b) (hp : a.Perm b) (hn : b.Nodup) : Calls Tryz.prog 92 #[va, vb] w fun e w' =>
 e = .returned (.bool true) ∧ w = w' := by
 obtain ⟨aA, cA, rfl, hcA, hdA⟩ := ha.val
 obtain ⟨aB, cB, rfl, hcB, hdB⟩ := hb.val
 have hl := hp.length_eq
 have hne : ((b.length : Int) != (a.length : Int)) = false := by rw [hl]; simp
 have HP := Lib.hid hp; clear hp
 have HL := Lib.hid hl; clear hl
 have HN := Lib.hid hn; clear hn
 go_enter Tryz.func92, Tryz.ntmps92
 go_wp2
 go_loop [14] (fun i => ∃ j : Nat, j ≤ b.length ∧ i = .int .i64 j) (fun i => b.length - (RowKit.intOf i).toNat)
 case atStart => exact ⟨0, Nat.zero_le _, rfl⟩
 obtain ⟨j, hj, rfl⟩ := hrel
 by_cases hlt : j < b.length
 · obtain ⟨b2, off2, x, rfl, hcx, hx, hxd⟩ := hb.get hlt
   have htk := hb.takeS (j := j) (by omega)
   have h1 : hasL (b.take j) x = false := by
    rw [hasL_not]
    intro hm
    have := HN.out
    rw [← List.take_append_drop j b, hxd, List.nodup_append] at this
    exact this.2.2 x hm x (by simp) rfl
   have h2 : hasL a x = true := by rw [hasL_iff]; exact HP.out.mem_iff.2 (List.mem_of_getElem? hx)
   have H1 := Lib.hid h1; have H2 := Lib.hid h2
   clear h1 h2 hx hxd
   have hjc : j ≤ cB := by omega
   go_wp2_with fail
   refine (hasInt_any _ (b.take j) x _ htk).mono ?_; rintro e2 w2 ⟨rfl, rfl⟩
   rw [H1.out]
   go_wp2_with fail
   refine (hasInt_any _ a x _ ha).mono ?_; rintro e2 w2 ⟨rfl, rfl⟩
   rw [H2.out]
   go_wp2
   go_round
   case rel => exact ⟨j + 1, by omega, by go_num⟩
   case measure => simp [RowKit.intOf]; omega
 have : j = b.length := by omega
 subst this
 go_wp2
 go_ret
 exact ⟨rfl, rfl⟩
end Go.Proofs.YtlgjddgajdjllaaGreat
