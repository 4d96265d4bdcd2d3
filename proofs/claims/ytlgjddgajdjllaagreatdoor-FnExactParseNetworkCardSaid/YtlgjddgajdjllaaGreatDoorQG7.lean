/- Texts of one kind, merged by program. -/
import Derived.Test.YtlgjddgajdjllaaGreatDoorQListW
/- Tables read by strides, plain. No program in sight. -/
set_option linter.unusedSimpArgs false
set_option linter.unusedVariables false
namespace Go.Proofs.YtlgjddgajdjllaaGreatDoor
open Go.RowKit
theorem map_get_find {dm : Int → Int} {L : List Int} {x : Int} (h : x ∈ L) : ∃ j : Nat, findL L x = j ∧ j < L.length ∧ L[j]? = some x ∧ (L.map dm)[j]? = some (dm x) := by
  have gen : ∀ (L : List Int) (i : Nat), x ∈ L → ∃ j : Nat, findGo x i L = ((i + j : Nat) : Int) ∧ j < L.length ∧ L[j]? = some x := by
    intro L
    induction L with
    | nil => intro i h; simp at h
    | cons y t ih =>
      intro i h
      rw [findGo]
      by_cases e : y = x
      · exact ⟨0, by rw [if_pos e]; simp, by simp, by simp [e]⟩
      · rcases List.mem_cons.1 h with h | h
        · exact absurd h.symm e
        obtain ⟨j, h1, h2, h3⟩ := ih (i + 1) h
        refine ⟨j + 1, ?_, by simp; omega, by simpa using h3⟩
        rw [if_neg e]
        have : ((i : Nat) : Int) + 1 = ((i + 1 : Nat) : Int) := by simp
        rw [this, h1]; congr 1; omega
  obtain ⟨j, h1, h2, h3⟩ := gen L 0 h
  exact ⟨j, by unfold findL; simpa using h1, h2, h3, by rw [List.getElem?_map, h3]; rfl⟩
def all100 : List Int := (List.range 100).map fun n : Nat => (n : Int)
def arrL (dm : Int → Int) (S : List Int) : List Int := all100.map fun x => if hasL S x = true then dm x else 0
theorem arrL_length (dm : Int → Int) (S : List Int) : (arrL dm S).length = 100 := by simp [arrL, all100]
theorem all100_get {j : Nat} (h : j < 100) : all100[j]? = some (j : Int) := by simp [all100, h]
theorem arrL_get (dm : Int → Int) (S : List Int) {j : Nat} (h : j < 100) : (arrL dm S)[j]? = some (if hasL S (j : Int) = true then dm j else 0) := by
  unfold arrL
  rw [List.getElem?_map, all100_get h]; rfl
theorem arrL_set (dm : Int → Int) (S : List Int) {j : Nat} (h : j < 100) : (arrL dm S).set j (dm j) = arrL dm (S ++ [(j : Int)]) := by
  apply List.ext_getElem?
  intro i
  by_cases hi : i < 100
  · rw [arrL_get _ _ hi]
    by_cases e : j = i
    · subst e
      rw [List.getElem?_set_self (by rw [arrL_length]; exact h), if_pos ((hasL_iff _ _).2 (by simp))]
    · rw [List.getElem?_set_ne e, arrL_get _ _ hi]
      have : hasL (S ++ [(j : Int)]) (i : Int) = hasL S (i : Int) := by
        rw [Bool.eq_iff_iff, hasL_iff, hasL_iff]
        simp; omega
      rw [this]
  · rw [List.getElem?_eq_none (by rw [List.length_set, arrL_length]; omega), List.getElem?_eq_none (by rw [arrL_length]; omega)]
theorem arrL_zero (dm : Int → Int) : arrL dm [] = List.replicate 100 0 := by
  unfold arrL
  have : (fun x : Int => if hasL [] x = true then dm x else 0) = fun _ => 0 := by funext x; simp [hasL]
  rw [this, List.map_const', all100, List.length_map, List.length_range]
end Go.Proofs.YtlgjddgajdjllaaGreatDoor
