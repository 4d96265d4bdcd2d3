/- Texts of one kind, merged by program. -/
import Derived.Test.YtabeciopggofkaaZBase
import Derived.Test.YtabeciopggofkaaZG10
import Derived.Test.YtabeciopggofkaaZRelabW
import Derived.Test.YtabeciopggofkaaZSliceW
import Derived.Test.YtabeciopggofkaaZJoinA
/- The law of permuted axes, plain. No program in sight. -/
namespace Go.Proofs.Ytabeciopggofkaa
open Go.RowKit
set_option linter.unusedSimpArgs false
set_option linter.unusedVariables false

section
variable {k p n : Int} (hr : ringOk k p n = true)
theorem permXs_trans {dm : Int → Int} {U L M N : List Int} (u : Uni dm U) (hL : Sub U L) (hM : L.Perm M) (hN : M.Perm N) (xs : List (El k p n)) : permXs hr dm M N (permXs hr dm L M xs) = permXs hr dm L N xs :=
  permXs_tab hr u (hL.perm hM) hN ((valT_dep hr dm L xs).perm hM)
theorem perm_isT {dm : Int → Int} {U L M : List Int} {xs : List (El k p n)} (h : IsT k p n dm U L xs) (hM : L.Perm M) : IsT k p n dm U M (permXs hr dm L M xs) := IsT.tab h.uni (h.sub.perm hM) _
theorem perm_sort {dm : Int → Int} {U L M : List Int} {xs : List (El k p n)} (h : IsT k p n dm U L xs) (hM : L.Perm M) :
    sortL L = sortL M ∧ permXs hr dm L (sortL L) xs = permXs hr dm M (sortL M) (permXs hr dm L M xs) := by
  refine ⟨sortL_of_perm hM, ?_⟩
  rw [permXs_trans hr h.uni h.sub hM (sortL_perm M).symm, sortL_of_perm hM]
end
theorem renL_map {f : Int → Int} : ∀ {L : List Int} {x : Int}, x ∈ L → renL L (L.map f) x = f x
  | [], x, h => by simp at h
  | y :: L, x, h => by
    rw [List.map_cons, renL]
    by_cases e : y = x
    · rw [if_pos e, e]
    · rw [if_neg e]
      exact renL_map ((List.mem_cons.1 h).resolve_left fun h => e h.symm)
theorem renL_there (f : Int → Int) (L : List Int) : L.map (renL L (L.map f)) = L.map f := List.map_congr_left fun _ hx => renL_map hx
theorem renL_inv {f : Int → Int} (hf : ∀ x y, f x = f y → x = y) : ∀ {L : List Int} {x : Int}, x ∈ L → renL (L.map f) L (f x) = x
  | [], x, h => by simp at h
  | y :: L, x, h => by
    rw [List.map_cons, renL]
    by_cases e : y = x
    · rw [if_pos (by rw [e]), e]
    · rw [if_neg fun h => e (hf _ _ h)]
      exact renL_inv hf ((List.mem_cons.1 h).resolve_left fun h => e h.symm)
theorem renL_back {f : Int → Int} (hf : ∀ x y, f x = f y → x = y) (L : List Int) : (L.map f).map (renL (L.map f) L) = L := by
  rw [List.map_map]
  conv => rhs; rw [← List.map_id L]
  exact List.map_congr_left fun x hx => renL_inv hf hx
theorem axOk_map {f : Int → Int} (hf : ∀ x y, f x = f y → x = y) {L D : List Int} (h : AxOk L D) (hl : ∀ l ∈ L, 0 ≤ f l ∧ f l ≤ 99) : AxOk (L.map f) D := by
  refine ⟨by rw [List.length_map]; exact h.len, by rw [List.length_map]; exact h.rank, fun l hm => ?_, ?_, h.dims, h.size⟩
  · obtain ⟨x, hx, rfl⟩ := List.mem_map.1 hm
    exact hl x hx
  · exact List.Pairwise.map f (fun a b hab e => hab (hf a b e)) h.nodup
end Go.Proofs.Ytabeciopggofkaa

/- SliceTensor where the label is not there, or the value too large. -/
namespace Go.Proofs.Ytabeciopggofkaa
open Go.RowKit
set_option linter.unusedSimpArgs false
set_option linter.unusedVariables false
section
variable {k p n : Int} (hr : ringOk k p n = true)
include hr

set_option maxRecDepth 100000 in
set_option maxHeartbeats 2000000 in
theorem sliceTensor_out {dm : Int → Int} {U L : List Int} {xs : List (El k p n)} (ht : IsT k p n dm U L xs) (c v : Int) (hcL : c ∉ L) (va : Value) (w : World) (ha : TenS w va L (L.map dm) (flat xs)) :
    Calls Try.prog 38 #[ringV k p n, va, .int .i64 c, .int .i64 v] w fun e w' => e = .returned (.tuple #[.agg #[.slice none 0 0, .slice none 0 0, .slice none 0 0], .bool false]) ∧ Ext w w' := by

  have HYA := Lib.hid (ht.yes hr)
  have ha0 := ha
  obtain ⟨ap1, an1, ac1, ap2, an2, ac2, ap3, an3, ac3, rfl⟩ := ha.shape
  obtain ⟨_, _, _, hvv, haL, haD, haX⟩ := ha.val
  simp at hvv
  obtain ⟨rfl, rfl, rfl⟩ := hvv
  have hfc := not_find hcL
  have HFC := Lib.hid hfc
  clear hfc ht hcL
  generalize hW1 : (((w.alloc (.cells #[.int .i64 k, .int .i64 p, .int .i64 n] 24)).alloc (.cells #[.slice ap1 an1 ac1, .slice ap2 an2 ac2, .slice ap3 an3 ac3] 31)).alloc (.cells #[.slice none 0 0, .slice none 0 0, .slice none 0 0] 31)) = w1
  have h1 : Ext w w1 := by rw [← hW1]; exact (by repeat' (first | (with_reducible exact Ext.refl _) | (with_reducible assumption) | (with_reducible apply Ext.alloc) | (with_reducible apply Ext.drew) | (with_reducible apply Ext.drewN) | (refine Ext.setAt ?_ (by omega) _ _) | (refine Ext.trans ?_ (by assumption))))
  have Br : Blk w1 (w.heap.size) 24 [.int .i64 k, .int .i64 p, .int .i64 n] := by rw [← hW1]; exact (((Blk.newB (c := #[_, _, _]) (by simp)).alloc _).alloc _)
  have Ba : Blk w1 (w.heap.size + 1) 31 [.slice ap1 an1 ac1, .slice ap2 an2 ac2, .slice ap3 an3 ac3] := by rw [← hW1]; exact ((Blk.newB (c := #[_, _, _]) (by simp)).alloc _)
  have Bz : Blk w1 (w.heap.size + 2) 31 [.slice none 0 0, .slice none 0 0, .slice none 0 0] := by rw [← hW1]; exact (Blk.newB (c := #[_, _, _]) (by simp))
  have HS1 : Hid (w1.heap.size = w.heap.size + 3) := Lib.hid (by rw [← hW1]; simp)
  have HW := Lib.hid hW1; clear hW1
  go_enter Try.func38, Try.ntmps38
  go_wp2_with fail
  rw [HW.out]
  have ir_0 := Br.cell (j := 0) rfl
  have ir_1 := Br.cell (j := 1) rfl
  have ir_2 := Br.cell (j := 2) rfl
  have ia_0 := Ba.cell (j := 0) rfl
  have ia_1 := Ba.cell (j := 1) rfl
  have ia_2 := Ba.cell (j := 2) rfl
  go_wp2_with fail
  refine (tensorOk_impl k p n _ L _ _ _ (ha0.ext h1)).mono ?_; rintro e2 w2 ⟨rfl, h2⟩; rw [HYA.out]
  clear ir_0 ir_1 ir_2 ia_0 ia_1 ia_2
  have B2r := Br.ext h2
  have B2a := Ba.ext h2
  have B2z := Bz.ext h2
  have j2r_0 := B2r.cell (j := 0) rfl
  have j2r_1 := B2r.cell (j := 1) rfl
  have j2r_2 := B2r.cell (j := 2) rfl
  have j2a_0 := B2a.cell (j := 0) rfl
  have j2a_1 := B2a.cell (j := 1) rfl
  have j2a_2 := B2a.cell (j := 2) rfl
  have f2_0 := B2z.free 0
  have f2_1 := B2z.free 1
  have f2_2 := B2z.free 2
  have l2r := B2r.lt
  have l2a := B2a.lt
  have l2z := B2z.lt
  go_wp2_with fail
  refine (axisOf_any _ L _ _ c _ (ha0.ext (h1.trans h2))).mono ?_; rintro e3 w3 ⟨rfl, h3⟩; rw [HFC.out]
  clear j2r_0 j2r_1 j2r_2 j2a_0 j2a_1 j2a_2 f2_0 f2_1 f2_2 l2r l2a l2z
  have B3r := B2r.ext h3
  have B3a := B2a.ext h3
  have B3z := B2z.ext h3
  have j3r_0 := B3r.cell (j := 0) rfl
  have j3r_1 := B3r.cell (j := 1) rfl
  have j3r_2 := B3r.cell (j := 2) rfl
  have j3a_0 := B3a.cell (j := 0) rfl
  have j3a_1 := B3a.cell (j := 1) rfl
  have j3a_2 := B3a.cell (j := 2) rfl
  have j3z_0 := B3z.cell (j := 0) rfl
  have j3z_1 := B3z.cell (j := 1) rfl
  have j3z_2 := B3z.cell (j := 2) rfl
  have f3_0 := B3z.free 0
  have f3_1 := B3z.free 1
  have f3_2 := B3z.free 2
  have l3r := B3r.lt
  have l3a := B3a.lt
  have l3z := B3z.lt
  go_wp2
  refine bodyPost_ret (v := .tuple #[.agg #[.slice none 0 0, .slice none 0 0, .slice none 0 0], .bool false]) (by simp [results, Try.results38, go_sem, *]) rfl ?_
  exact ⟨rfl, (((((h1.trans h2).trans h3).setAt (by omega) _ _).setAt (by omega) _ _).setAt (by omega) _ _)⟩

set_option maxRecDepth 100000 in
set_option maxHeartbeats 2000000 in
theorem sliceTensor_big {dm : Int → Int} {U L : List Int} {xs : List (El k p n)} (ht : IsT k p n dm U L xs) (c v : Int) (hcL : c ∈ L) (hv0 : 0 ≤ v) (hv : dm c ≤ v) (va : Value) (w : World) (ha : TenS w va L (L.map dm) (flat xs)) :
    Calls Try.prog 38 #[ringV k p n, va, .int .i64 c, .int .i64 v] w fun e w' => e = .returned (.tuple #[.agg #[.slice none 0 0, .slice none 0 0, .slice none 0 0], .bool false]) ∧ Ext w w' := by

  have HYA := Lib.hid (ht.yes hr)
  have ha0 := ha
  obtain ⟨ap1, an1, ac1, ap2, an2, ac2, ap3, an3, ac3, rfl⟩ := ha.shape
  obtain ⟨_, _, _, hvv, haL, haD, haX⟩ := ha.val
  simp at hvv
  obtain ⟨rfl, rfl, rfl⟩ := hvv
  obtain ⟨ic, hfc, hic, hLc, hDc⟩ := map_get_find (dm := dm) hcL
  obtain ⟨_, _, hzq, _, _⟩ := haD.val
  rw [List.length_map] at hzq
  cases hzq
  obtain ⟨bC, oC, dC, hzz, hcc, hdc, _⟩ := haD.get (i := ic) (by simpa using hic)
  cases hzz
  obtain rfl : dC = dm c := by rw [hDc] at hdc; exact (Option.some.inj hdc).symm
  have HFC := Lib.hid hfc
  clear hfc ht hcL hLc hDc hdc
  generalize hW1 : (((w.alloc (.cells #[.int .i64 k, .int .i64 p, .int .i64 n] 24)).alloc (.cells #[.slice ap1 an1 ac1, .slice (some ⟨bC, oC, none⟩) L.length ac2, .slice ap3 an3 ac3] 31)).alloc (.cells #[.slice none 0 0, .slice none 0 0, .slice none 0 0] 31)) = w1
  have h1 : Ext w w1 := by rw [← hW1]; exact (by repeat' (first | (with_reducible exact Ext.refl _) | (with_reducible assumption) | (with_reducible apply Ext.alloc) | (with_reducible apply Ext.drew) | (with_reducible apply Ext.drewN) | (refine Ext.setAt ?_ (by omega) _ _) | (refine Ext.trans ?_ (by assumption))))
  have Br : Blk w1 (w.heap.size) 24 [.int .i64 k, .int .i64 p, .int .i64 n] := by rw [← hW1]; exact (((Blk.newB (c := #[_, _, _]) (by simp)).alloc _).alloc _)
  have Ba : Blk w1 (w.heap.size + 1) 31 [.slice ap1 an1 ac1, .slice (some ⟨bC, oC, none⟩) L.length ac2, .slice ap3 an3 ac3] := by rw [← hW1]; exact ((Blk.newB (c := #[_, _, _]) (by simp)).alloc _)
  have Bz : Blk w1 (w.heap.size + 2) 31 [.slice none 0 0, .slice none 0 0, .slice none 0 0] := by rw [← hW1]; exact (Blk.newB (c := #[_, _, _]) (by simp))
  have HS1 : Hid (w1.heap.size = w.heap.size + 3) := Lib.hid (by rw [← hW1]; simp)
  have HW := Lib.hid hW1; clear hW1
  go_enter Try.func38, Try.ntmps38
  go_wp2_with fail
  rw [HW.out]
  have ir_0 := Br.cell (j := 0) rfl
  have ir_1 := Br.cell (j := 1) rfl
  have ir_2 := Br.cell (j := 2) rfl
  have ia_0 := Ba.cell (j := 0) rfl
  have ia_1 := Ba.cell (j := 1) rfl
  have ia_2 := Ba.cell (j := 2) rfl
  go_wp2_with fail
  refine (tensorOk_impl k p n _ L _ _ _ (ha0.ext h1)).mono ?_; rintro e2 w2 ⟨rfl, h2⟩; rw [HYA.out]
  clear ir_0 ir_1 ir_2 ia_0 ia_1 ia_2
  have B2r := Br.ext h2
  have B2a := Ba.ext h2
  have B2z := Bz.ext h2
  have j2r_0 := B2r.cell (j := 0) rfl
  have j2r_1 := B2r.cell (j := 1) rfl
  have j2r_2 := B2r.cell (j := 2) rfl
  have j2a_0 := B2a.cell (j := 0) rfl
  have j2a_1 := B2a.cell (j := 1) rfl
  have j2a_2 := B2a.cell (j := 2) rfl
  have f2_0 := B2z.free 0
  have f2_1 := B2z.free 1
  have f2_2 := B2z.free 2
  have l2r := B2r.lt
  have l2a := B2a.lt
  have l2z := B2z.lt
  go_wp2_with fail
  refine (axisOf_any _ L _ _ c _ (ha0.ext (h1.trans h2))).mono ?_; rintro e3 w3 ⟨rfl, h3⟩; rw [HFC.out]
  clear j2r_0 j2r_1 j2r_2 j2a_0 j2a_1 j2a_2 f2_0 f2_1 f2_2 l2r l2a l2z
  have B3r := B2r.ext h3
  have B3a := B2a.ext h3
  have B3z := B2z.ext h3
  have j3r_0 := B3r.cell (j := 0) rfl
  have j3r_1 := B3r.cell (j := 1) rfl
  have j3r_2 := B3r.cell (j := 2) rfl
  have j3a_0 := B3a.cell (j := 0) rfl
  have j3a_1 := B3a.cell (j := 1) rfl
  have j3a_2 := B3a.cell (j := 2) rfl
  have j3z_0 := B3z.cell (j := 0) rfl
  have j3z_1 := B3z.cell (j := 1) rfl
  have j3z_2 := B3z.cell (j := 2) rfl
  have f3_0 := B3z.free 0
  have f3_1 := B3z.free 1
  have f3_2 := B3z.free 2
  have l3r := B3r.lt
  have l3a := B3a.lt
  have l3z := B3z.lt
  have hcc3 := ((h1.trans h2).trans h3).cell hcc
  go_wp2
  refine bodyPost_ret (v := .tuple #[.agg #[.slice none 0 0, .slice none 0 0, .slice none 0 0], .bool false]) (by simp [results, Try.results38, go_sem, *]) rfl ?_
  exact ⟨rfl, (((((h1.trans h2).trans h3).setAt (by omega) _ _).setAt (by omega) _ _).setAt (by omega) _ _)⟩

end
end Go.Proofs.Ytabeciopggofkaa
