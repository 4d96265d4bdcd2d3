/- Valid elements: sums, products, zero and one are valid. -/
import Derived.Test.YtlgjddgajdjllaaGreatDoorTBase
set_option linter.unusedSimpArgs false
set_option linter.unusedVariables false
namespace Go.Proofs.YtlgjddgajdjllaaGreatDoor
open Go.RowKit
theorem ringOk_shape {k p n : Int} (h : ringOk k p n = true) : (k = 1 ∨ k = 2 ∨ k = 3 ∨ k = 4 ∨ k = 5 ∨ k = 6 ∨ k = 7 ∨ k = 8) ∧ (¬ k = 6 → ¬ k = 1 → 1 ≤ p) := by
  have hk : k = 1 ∨ k = 2 ∨ k = 3 ∨ k = 4 ∨ k = 5 ∨ k = 6 ∨ k = 7 ∨ k = 8 := by
    rcases kinds k with rfl | rfl | rfl | rfl | rfl | rfl | rfl | rfl | ⟨e1, e2, e3, e4, e5, e6, e7, e8⟩
    all_goals first | omega | (simp [ringOk, *] at h)
  exact ⟨hk, fun h6 h1 => (ringOk_pos h (by omega)).1⟩
theorem allTo_iff {t : Int} {x : List Int} : allTo t x = true ↔ ∀ v ∈ x, 0 ≤ v ∧ v ≤ t := by simp [allTo]
theorem rawOk_iff {k p n : Int} {x : List Int} : rawOk k p n x = true ↔ (x.length : Int) = ringWidth k n ∧ ∀ v ∈ x, 0 ≤ v ∧ v ≤ ringTop k p n := by
  rw [← allTo_iff]; simp [rawOk]
theorem ringOk_two {k p n : Int} (h : ringOk k p n = true) (hk : k = 2 ∨ k = 7 ∨ k = 8) : 2 ≤ p := by
  rcases hk with rfl | rfl | rfl
  all_goals simp [ringOk] at h
  · exact isPrime_ge h.1
  · exact isPrime_ge h.1.1
  · exact isPrime_ge h.1.1
theorem rawOk_one {k p n : Int} (h : ringOk k p n = true) : rawOk k p n (oneL k p n) = true := by
  have hw := ringOk_wide h
  have h1 := hw.lo
  refine rawOk_iff.2 ⟨by rw [oneL_length]; omega, fun v hv => ?_⟩
  obtain ⟨hk, hp⟩ := ringOk_shape h
  have hu : 0 ≤ unit k p n ∧ unit k p n ≤ ringTop k p n ∧ 0 ≤ ringTop k p n := by
    have h2 := fun e => ringOk_two h e
    have h6 : 0 < (2 : Int) ^ n.toNat := Int.pow_pos (by omega)
    rcases hk with rfl | rfl | rfl | rfl | rfl | rfl | rfl | rfl
    all_goals simp at h2
    all_goals simp [ringTop] at hp
    all_goals simp [unit, ringTop]
    all_goals omega
  rcases List.mem_or_eq_of_mem_set hv with hv | rfl
  · have := (List.mem_replicate.1 hv).2; omega
  · exact ⟨hu.1, hu.2.1⟩
theorem rawOk_zero {k p n : Int} (h : ringOk k p n = true) : rawOk k p n (zeroL k p n) = true := by
  have hw := ringOk_wide h
  have h1 := hw.lo
  have ho := (rawOk_iff.1 (rawOk_one h)).2
  have hu : 0 ≤ ringTop k p n := by
    have := ho _ (List.mem_of_getElem? (i := 0) (a := unit k p n) (by unfold oneL; rw [List.getElem?_set_self (by simp; omega)]))
    omega
  refine rawOk_iff.2 ⟨by rw [zeroL_length]; omega, fun v hv => ?_⟩
  unfold zeroL at hv
  split at hv
  · rename_i h4
    have ht : ringTop k p n = p := by simp [ringTop, h4]
    rcases List.mem_or_eq_of_mem_set hv with hv | rfl
    · have := (List.mem_replicate.1 hv).2; omega
    · omega
  · have := (List.mem_replicate.1 hv).2; omega
end Go.Proofs.YtlgjddgajdjllaaGreatDoor
