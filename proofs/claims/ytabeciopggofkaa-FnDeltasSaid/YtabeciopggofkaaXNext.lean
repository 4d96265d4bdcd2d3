/- The index that follows, plain. No program in sight. -/
import Derived.Test.YtabeciopggofkaaXBase
import Derived.Test.YtabeciopggofkaaXTenP
namespace Go.Proofs.Ytabeciopggofkaa
open Go.RowKit
set_option linter.unusedSimpArgs false
set_option linter.unusedVariables false

theorem split_div {n a b : Int} (hn : 0 ≤ n) (ha : 0 < a) (hb : 0 < b) : n % (a * b) / b = n / b % a ∧ n % (a * b) % b = n % b := by
  have h := emod_split hn ha hb
  have r0 := Int.emod_nonneg n (show b ≠ 0 by omega)
  have r1 := Int.emod_lt_of_pos n hb
  rw [h]
  constructor
  · rw [Int.add_comm, Int.add_mul_ediv_right _ _ (by omega), Int.ediv_eq_zero_of_lt r0 r1, Int.zero_add]
  · rw [Int.add_comm, Int.add_mul_emod_self_right, Int.emod_emod_of_dvd _ (Int.dvd_refl b)]
theorem idx_mod : ∀ {D : List Int}, (∀ d ∈ D, 1 ≤ d ∧ d ≤ 8) → ∀ {n : Int}, 0 ≤ n → idxL D (n % prodL D) = idxL D n
  | [], _, n, _ => rfl
  | d :: D, h, n, hn => by
    have hd := h d (by simp)
    have hD : ∀ d ∈ D, 1 ≤ d ∧ d ≤ 8 := fun x hx => h x (by simp [hx])
    have hP := prodL_pos hD
    obtain ⟨e1, e2⟩ := split_div hn (show 0 < d by omega) (show 0 < prodL D by omega)
    rw [idxL, idxL, prodL_cons, e1, Int.emod_emod_of_dvd _ (Int.dvd_refl d), ← idx_mod hD (Int.emod_nonneg n (by have := Int.mul_pos (show 0 < d by omega) (show 0 < prodL D by omega); omega)), e2, idx_mod hD hn]
/-- The index that follows, and whether there is one. -/
def nextI : List Int → List Int → List Int × Bool
  | d :: D, i :: I => if (nextI D I).2 = true then (i :: (nextI D I).1, true) else if i + 1 < d then ((i + 1) :: (nextI D I).1, true) else (0 :: (nextI D I).1, false)
  | _, _ => ([], false)
theorem next_idx : ∀ {D : List Int}, (∀ d ∈ D, 1 ≤ d ∧ d ≤ 8) → ∀ {o : Int}, 0 ≤ o → o < prodL D → nextI D (idxL D o) = if o + 1 < prodL D then (idxL D (o + 1), true) else (idxL D 0, false)
  | [], _, o, h0, h1 => by
    have : o = 0 := by simp [prodL] at h1; omega
    subst this
    simp [nextI, idxL, prodL]
  | d :: D, h, o, h0, h1 => by
    have hd := h d (by simp)
    have hD : ∀ d ∈ D, 1 ≤ d ∧ d ≤ 8 := fun x hx => h x (by simp [hx])
    have hP := prodL_pos hD
    obtain ⟨P, hPP⟩ : ∃ P, prodL D = P := ⟨_, rfl⟩
    rw [prodL_cons] at h1 ⊢
    have r0 := Int.emod_nonneg o (show prodL D ≠ 0 by omega)
    have r1 := Int.emod_lt_of_pos o (show 0 < prodL D by omega)
    have q0 := Int.ediv_nonneg h0 (show 0 ≤ prodL D by omega)
    have q1 : o / prodL D < d := Int.ediv_lt_of_lt_mul (by omega) (by exact h1)
    have e := Int.mul_ediv_add_emod o (prodL D)
    have ih := next_idx hD r0 r1
    rw [idx_mod hD h0] at ih
    have qd : o / prodL D % d = o / prodL D := Int.emod_eq_of_lt q0 q1
    have g1 := idx_mod hD (n := o + 1) (by omega)
    rw [idxL, nextI, ih, qd]
    by_cases hr : o % prodL D + 1 < prodL D
    · have e1 : (o + 1) / prodL D = o / prodL D := by
        have : o + 1 = (o % prodL D + 1) + (o / prodL D) * prodL D := by rw [Int.mul_comm]; omega
        rw [this, Int.add_mul_ediv_right _ _ (by omega), Int.ediv_eq_zero_of_lt (by omega) hr, Int.zero_add]
      have e2 : (o + 1) % prodL D = o % prodL D + 1 := by
        have : o + 1 = (o % prodL D + 1) + (o / prodL D) * prodL D := by rw [Int.mul_comm]; omega
        rw [this, Int.add_mul_emod_self_right, Int.emod_eq_of_lt (by omega) hr]
      have hlt : o + 1 < d * prodL D := by
        have : (o / prodL D + 1) * prodL D ≤ d * prodL D := Int.mul_le_mul_of_nonneg_right (by omega) (by omega)
        rw [Int.add_mul, Int.one_mul, Int.mul_comm (o / prodL D)] at this
        omega
      rw [if_pos hr, if_pos rfl, if_pos hlt, idxL, e1, qd, ← g1, e2]
    · have hr' : o % prodL D + 1 = prodL D := by omega
      have e0 : o + 1 = (o / prodL D + 1) * prodL D := by rw [Int.add_mul, Int.one_mul, Int.mul_comm (o / prodL D)]; omega
      have e1 : (o + 1) / prodL D = o / prodL D + 1 := by rw [e0, Int.mul_ediv_cancel _ (by omega)]
      have e2 : (o + 1) % prodL D = 0 := by rw [e0, Int.mul_emod_left]
      rw [if_neg hr, if_neg (by simp)]
      by_cases hq : o / prodL D + 1 < d
      · have hlt : o + 1 < d * prodL D := by
          rw [e0]; exact Int.mul_lt_mul_of_pos_right hq (by omega)
        rw [if_pos hq, if_pos hlt, idxL, e1, Int.emod_eq_of_lt (by omega) hq, ← g1, e2]
      · have hq' : o / prodL D + 1 = d := by omega
        have hlt : ¬ o + 1 < d * prodL D := by rw [e0, hq']; omega
        rw [if_neg hq, if_neg hlt, idxL, Int.zero_ediv, Int.zero_emod]
end Go.Proofs.Ytabeciopggofkaa
