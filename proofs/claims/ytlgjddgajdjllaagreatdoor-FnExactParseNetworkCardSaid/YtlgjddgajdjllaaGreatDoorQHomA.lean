/- ApplyHom: the plain function, and the program's rawHom. -/
import Derived.Test.YtlgjddgajdjllaaGreatDoorQClosed
set_option linter.unusedSimpArgs false
set_option linter.unusedVariables false
namespace Go.Proofs.YtlgjddgajdjllaaGreatDoor
open Go.RowKit
theorem OwnI.one {w : World} {B b : Nat} {a : Int} (hb : B ≤ b) (hs : b = w.heap.size) : OwnI (w.alloc (.cells #[.int .i64 a] 3)) B (.slice (some ⟨b, 0, none⟩) 1 1) [a] := by
  subst hs; exact OwnI.of (l := [a]) hb (Blk.new w #[.int .i64 a] 3) (by simp [maxLen])
theorem OwnI.empty {w : World} {B b : Nat} (hb : B ≤ b) (hs : b = w.heap.size) : OwnI (w.alloc (.cells #[] 3)) B (.slice (some ⟨b, 0, none⟩) 0 0) [] := by
  subst hs; exact OwnI.of (l := []) hb (Blk.new w #[] 3) (by simp [maxLen])
theorem IntS.take {w : World} {a : Option Addr} {n cap : Nat} {l : List Int} (h : IntS w (.slice a n cap) l) {k : Nat} (hk : k ≤ l.length) : IntS w (.slice a k cap) (l.take k) := by
  obtain ⟨hl, a', cap', hv, h1, h2, h3⟩ := h.row
  cases hv
  refine ⟨⟨by simp [ints], a, cap, by rw [List.length_take]; congr 1; omega, by rw [List.length_take]; omega, h2, fun hp => ?_⟩⟩
  rw [ints_length, List.length_take] at hp
  obtain ⟨b, off, ha, hc⟩ := h3 (by rw [ints_length]; omega)
  refine ⟨b, off, ha, fun j u hj => hc j u ?_⟩
  rw [ints_get] at hj ⊢
  rw [List.getElem?_take] at hj
  split at hj
  · exact hj
  · simp at hj
end Go.Proofs.YtlgjddgajdjllaaGreatDoor
