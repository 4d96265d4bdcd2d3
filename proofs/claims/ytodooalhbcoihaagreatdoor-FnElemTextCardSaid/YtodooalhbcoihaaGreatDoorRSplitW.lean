/- Split of the program's library; words and lines of the program and of the reference. -/
import Derived.Test.YtodooalhbcoihaaGreatDoorRBase
namespace Go.Proofs.YtodooalhbcoihaaGreatDoor
open Go.RowKit
set_option linter.unusedSimpArgs false
set_option linter.unusedVariables false
open Go.Lib

/-- Strings of given bytes. -/
def mkSs (l : List (List UInt8)) : List ByteArray := l.map mkS
theorem mkSs_length (l : List (List UInt8)) : (mkSs l).length = l.length := by simp [mkSs]
theorem mkSs_append (l m : List (List UInt8)) : mkSs (l ++ m) = mkSs l ++ mkSs m := by simp [mkSs]
theorem mkSs_map (l : List ByteArray) : mkSs (l.map (·.data.toList)) = l := by
  induction l with
  | nil => rfl
  | cons x l ih => rw [List.map_cons, mkSs, List.map_cons]; rw [mkSs] at ih; rw [ih, mkS_of]
theorem mkSs_get (l : List (List UInt8)) (j : Nat) : (mkSs l)[j]? = l[j]?.map mkS := by simp [mkSs]
theorem slen (s : ByteArray) : s.data.toList.length = s.size := Array.length_toList

theorem split_any (s : ByteArray) (c : UInt8) (w : World) (hs : s.size ≤ 1073741824) (hM : Maxl w) : Calls Tryz.prog 36 #[.string s, .string ⟨#[c]⟩] w fun e w' =>
    e = .returned (.slice (some ⟨w.heap.size, 0, none⟩) (sp c s.data.toList).length (sp c s.data.toList).length) ∧ Blk w' w.heap.size 9 (strs (mkSs (sp c s.data.toList))) ∧ Ext w w' := by
  obtain ⟨m, hm⟩ := hM.has
  refine (Tryz.strings_Split s ⟨#[c]⟩ m w (by omega) hm (Nat.le_refl 1)).mono ?_
  rintro e w' ⟨rfl, rfl⟩
  have h1 := splitB_data ⟨#[c]⟩ 0 (countB s ⟨#[c]⟩) s
  have h2 : split s.data.toList [c] = sp c s.data.toList := split_sp' c _
  have h3 : (splitB ⟨#[c]⟩ 0 (countB s ⟨#[c]⟩) s).map (·.data.toList) = sp c s.data.toList := by rw [h1, ← h2]; rfl
  have h4 := splitB_all ⟨#[c]⟩ (Nat.le_refl 1) 0 _ s rfl
  have h5 : (sp c s.data.toList).length = countB s ⟨#[c]⟩ + 1 := by rw [← h3, List.length_map, h4]
  rw [h5]
  refine ⟨by simp, ?_, (Ext.refl _).alloc _⟩
  rw [← h3, mkSs_map]
  exact Blk.new w _ _
theorem sp_le (c : UInt8) (s : ByteArray) : (sp c s.data.toList).length ≤ s.size + 1 := by
  rw [sp_length]
  have := List.count_le_length (a := c) (l := s.data.toList)
  rw [slen] at this
  omega
/-! ### the reference -/
end Go.Proofs.YtodooalhbcoihaaGreatDoor
