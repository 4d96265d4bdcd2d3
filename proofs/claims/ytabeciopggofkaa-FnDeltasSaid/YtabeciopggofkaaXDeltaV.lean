/- Delta tensors and slices by their values, plain. No program in sight. -/
import Derived.Test.YtabeciopggofkaaXBase
import Derived.Test.YtabeciopggofkaaXAssoc
namespace Go.Proofs.Ytabeciopggofkaa
open Go.RowKit
set_option linter.unusedSimpArgs false
set_option linter.unusedVariables false

section
variable {R : Type} (S : Rig R)
/-- 1 where a condition holds, else 0. -/
def ind (c : Bool) : R := if c = true then S.one else S.zero
theorem mul_ind (a : R) (c : Bool) : S.mul a (ind S c) = if c = true then a else S.zero := by
  unfold ind
  cases c
  · simp [S.mul_zero]
  · simp [S.mul_one]
/-- The sum over x of A times 'x is y': A at y. -/
theorem sumA_delta {x y d : Int} (hxy : y ≠ x) (A : (Int → Int) → R) {σ : Int → Int} (h0 : 0 ≤ σ y) (h1 : σ y < d) :
    sumA S [(x, d)] (fun τ => S.mul (A τ) (ind S (decide (τ x = τ y)))) σ = A (upd σ x (σ y)) := by
  rw [sumA]
  have e : ∀ v, v < d.toNat → sumA S [] (fun τ => S.mul (A τ) (ind S (decide (τ x = τ y)))) (upd σ x (v : Nat)) = if v = (σ y).toNat then A (upd σ x (v : Nat)) else S.zero := by
    intro v _
    rw [sumA, mul_ind, upd_same, upd_ne _ _ hxy]
    by_cases hv : v = (σ y).toNat
    · rw [if_pos hv, if_pos (by rw [decide_eq_true_iff]; omega)]
    · rw [if_neg hv, if_neg (by rw [decide_eq_true_iff]; omega)]
  rw [sumN_congr S e, sumN_single S (f := fun v => A (upd σ x (v : Nat))) (show (σ y).toNat < d.toNat by omega)]
  rw [Int.toNat_of_nonneg h0]
/-- A sum over one label is the sum of the slices. -/
theorem sumA_slices (x d : Int) (F : (Int → Int) → R) (σ : Int → Int) : sumA S [(x, d)] F σ = sumN S d.toNat fun v => F (upd σ x (v : Nat)) := rfl
end
/-- A slice looks at the other labels alone. -/
theorem slice_dep {α : Type} {F : (Int → Int) → α} {L : List Int} (hF : Dep F L) (x v : Int) : Dep (fun σ => F (upd σ x v)) (L.filter fun y => !(y == x)) := fun σ τ h => by
  apply hF
  intro l hl
  by_cases e : l = x
  · subst e; rw [upd_same, upd_same]
  · rw [upd_ne _ _ e, upd_ne _ _ e]
    exact h l (List.mem_filter.2 ⟨hl, by simp [e]⟩)
/-- A diagonal looks at the other labels alone. -/
theorem diag_dep {α : Type} {F : (Int → Int) → α} {L : List Int} (hF : Dep F L) {a b : Int} (hab : a ≠ b) (ha : a ∈ L) : Dep (fun σ => F (upd σ b (σ a))) (L.filter fun y => !(y == b)) := fun σ τ h => by
  have e0 : σ a = τ a := h a (List.mem_filter.2 ⟨ha, by simp [hab]⟩)
  apply hF
  intro l hl
  by_cases e : l = b
  · subst e; rw [upd_same, upd_same, e0]
  · rw [upd_ne _ _ e, upd_ne _ _ e]
    exact h l (List.mem_filter.2 ⟨hl, by simp [e]⟩)
end Go.Proofs.Ytabeciopggofkaa
