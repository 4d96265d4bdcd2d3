/- Split of the program's library; words and lines of the program and of the reference. -/
import Derived.Test.YtlgjddgajdjllaaGreatDoorTFmtW
import Derived.Test.YtlgjddgajdjllaaGreatDoorTG1
set_option linter.unusedSimpArgs false
set_option linter.unusedVariables false
namespace Go.Proofs.YtlgjddgajdjllaaGreatDoor
open Go.RowKit
open Go.Lib
def mkSs (l : List (List UInt8)) : List ByteArray := l.map mkS
theorem mkSs_length (l : List (List UInt8)) : (mkSs l).length = l.length := by simp [mkSs]
theorem mkSs_append (l m : List (List UInt8)) : mkSs (l ++ m) = mkSs l ++ mkSs m := by simp [mkSs]
theorem mkSs_map (l : List ByteArray) : mkSs (l.map (·.data.toList)) = l := by
  induction l with
  | nil => rfl
  | cons x l ih => rw [List.map_cons, mkSs, List.map_cons]; rw [mkSs] at ih; rw [ih, mkS_of]
theorem mkSs_get (l : List (List UInt8)) (j : Nat) : (mkSs l)[j]? = l[j]?.map mkS := by simp [mkSs]
theorem slen (s : ByteArray) : s.data.toList.length = s.size := Array.length_toList
theorem split_any (s : ByteArray) (c : UInt8) (w : World) (hs : s.size ≤ 1073741824) (hM : Maxl w) : Calls Tryz.prog 53 #[.string s, .string ⟨#[c]⟩] w fun e w' =>
    e = .returned (.slice (some ⟨w.heap.size, 0, none⟩) (sp c s.data.toList).length (sp c s.data.toList).length) ∧ Blk w' w.heap.size 9 (strs (mkSs (sp c s.data.toList))) ∧ Ext w w' := by
  obtain ⟨m, hm⟩ := hM.has
  refine (Tryz.strings_Split s ⟨#[c]⟩ m w (by omega) hm (Nat.le_refl 1)).mono ?_
  rintro e w' ⟨rfl, rfl⟩
  have h1 := splitB_data ⟨#[c]⟩ 0 (countB s ⟨#[c]⟩) s
  have h2 : split s.data.toList [c] = sp c s.data.toList := split_sp' c _
  have h3 : (splitB ⟨#[c]⟩ 0 (countB s ⟨#[c]⟩) s).map (·.data.toList) = sp c s.data.toList := by rw [h1, ← h2]; rfl
  have h4 := splitB_all ⟨#[c]⟩ (Nat.le_refl 1) 0 _ s rfl
  have h5 : (sp c s.data.toList).length = countB s ⟨#[c]⟩ + 1 := by rw [← h3, List.length_map, h4]
  rw [h5]
  refine ⟨by simp, ?_, (Ext.refl _).alloc _⟩
  rw [← h3, mkSs_map]
  exact Blk.new w _ _
theorem sp_le (c : UInt8) (s : ByteArray) : (sp c s.data.toList).length ≤ s.size + 1 := by
  rw [sp_length]
  have := List.count_le_length (a := c) (l := s.data.toList)
  rw [slen] at this
  omega
set_option maxHeartbeats 1000000 in
theorem lines_impl (s : ByteArray) (w : World) (hs : s.size ≤ 1073741824) (hM : Maxl w) : Calls Tryz.prog 18 #[.string s] w fun e w' =>
    ∃ v, e = .returned v ∧ OwnStr w' w.heap.size v (mkSs (linesL s.data.toList)) ∧ Ext w w' := by
  go_enter Tryz.func18, Tryz.ntmps18
  go_wp2_with fail
  refine (split_any s 10 _ hs hM).mono ?_; rintro e1 w1 ⟨rfl, hB, h1⟩
  have hle := sp_le 10 s
  have hne := sp_ne 10 s.data.toList
  obtain ⟨ps, hps⟩ : ∃ ps, sp 10 s.data.toList = ps := ⟨_, rfl⟩
  rw [hps] at hB hle hne ⊢
  have hpos : 0 < ps.length := List.length_pos_iff.2 hne
  obtain ⟨x, hx⟩ : ∃ x, ps[ps.length - 1]? = some x := ⟨_, List.getElem?_eq_getElem (by omega)⟩
  have hcell := hB.cell (j := ps.length - 1) (u := .string (mkS x)) (by rw [strs_get, mkSs_get, hx]; rfl)
  have hlast : ps.getLastD [] = x := by rw [List.getLastD_eq_getLast?, List.getLast?_eq_getElem?, hx]; rfl
  have hpi : ((ps.length - 1 : Nat) : Int) = (ps.length : Int) - 1 := by omega
  have hll : linesL s.data.toList = if x = [] then ps.dropLast else ps := by rw [linesL, hps, hlast]
  obtain ⟨z, hz⟩ : ∃ z, mkS x = z := ⟨_, rfl⟩
  rw [hz] at hcell
  have hzx : x = z.data.toList := by rw [← hz, mkS_list]
  have HLL := Lib.hid hll; have HZX := Lib.hid hzx
  clear hll hzx hz hps hx hlast hne
  by_cases hz0 : z.size = 0
  · have hze : z = ⟨#[]⟩ := by
      apply str_eq
      have : z.data.toList.length = 0 := by rw [slen]; exact hz0
      rw [List.eq_nil_of_length_eq_zero this]
    subst hze
    clear hz0
    go_wp2
    go_ret
    refine ⟨_, rfl, ?_, h1⟩
    rw [HLL.out, HZX.out, if_pos rfl]
    have hne : ps ≠ [] := List.length_pos_iff.1 hpos
    have hsplit := List.dropLast_concat_getLast hne
    have hB2 := hB
    rw [← hsplit, mkSs_append, strs_append] at hB2
    have hdl : ps.dropLast.length = ps.length - 1 := List.length_dropLast
    refine ⟨.inr ⟨w.heap.size, strs (mkSs [ps.getLast hne]), Nat.le_refl _, ?_, hB2, ?_⟩⟩
    · show Value.slice (some ⟨w.heap.size, 0, none⟩) (ps.length - 1) ps.length = _
      rw [mkSs_length, hdl, strs_length, mkSs_length, List.length_singleton]
      congr 1; omega
    · rw [mkSs_length, hdl, strs_length, mkSs_length, List.length_singleton]; unfold maxLen; omega
  · have hzb : (z.toList == ([] : List UInt8)) = false := by
      rw [beq_eq_false_iff_ne, ByteArray.toList_eq]
      intro e
      have := congrArg List.length e
      rw [slen] at this
      exact hz0 this
    go_wp2
    go_ret
    refine ⟨_, rfl, ?_, h1⟩
    have hxe : x ≠ [] := fun e => hz0 (by rw [← slen, ← HZX.out, e]; rfl)
    rw [HLL.out, if_neg hxe]
    refine ⟨.inr ⟨_, [], Nat.le_refl _, by rw [mkSs_length]; rfl, by simpa using hB, by rw [mkSs_length]; unfold maxLen; simp; omega⟩⟩
theorem size_ext (s : ByteArray) (k j : Nat) (h : j ≤ s.size) : (s.extract k j).size ≤ s.size := by
  rw [ByteArray.size_extract]; omega
end Go.Proofs.YtlgjddgajdjllaaGreatDoor
