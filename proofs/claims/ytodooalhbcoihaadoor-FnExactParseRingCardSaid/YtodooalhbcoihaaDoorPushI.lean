/- One integer, or a list, appended to a slice of the call's own: what is left is told of the world before. -/
import Derived.Test.YtodooalhbcoihaaDoorApp
namespace Go.Proofs.YtodooalhbcoihaaDoor
open Go.RowKit
set_option linter.unusedSimpArgs false
set_option linter.unusedVariables false

theorem run_push (ty : TypeId) (w : World) (B : Nat) (v : Value) (xs : List Int) (y : Int) (hv : OwnI w B v xs) (hb : xs.length + 1 ≤ 1099511627776) (hB : B ≤ w.heap.size) :
    ∃ v' w', (Builtin.append_ #[30, 30] ty #[v, .slice (some ⟨w.heap.size, 0, none⟩) 1 1]).run Tryd.prog (w.alloc (.cells #[.int .i64 y] 3)) = .ok v' w' ∧
      (OwnI w' B v' (xs ++ [y]) ∧ w.grownBy w' v.ownBlock ∧ (∀ q, v'.ownBlock = some q → v.ownBlock = some q ∨ w.heap.size ≤ q)) := by
  obtain ⟨v', w', h1, h2, h3, h4⟩ := run_app_ints ty (w.alloc (.cells #[.int .i64 y] 3)) B v (.slice (some ⟨w.heap.size, 0, none⟩) 1 1) xs [y] (hv.ext ((Ext.refl _).alloc _)) (IntS.one w y) hb (by simp; omega)
  refine ⟨v', w', h1, h2, grownBy_trans (grown_alloc (grown_refl _ _) _) h3, fun q hq => ?_⟩
  rcases h4 with h4 | h4
  · exact .inl (h4 ▸ hq)
  · rw [h4] at hq; injection hq with hq; right; simp at hq; omega
theorem run_pushes (ty : TypeId) (w : World) (B : Nat) (v u : Value) (xs ys : List Int) (hv : OwnI w B v xs) (hu : IntS w u ys) (hb : xs.length + ys.length ≤ 1099511627776) (hB : B ≤ w.heap.size) :
    ∃ v' w', (Builtin.append_ #[30, 30] ty #[v, u]).run Tryd.prog w = .ok v' w' ∧
      (OwnI w' B v' (xs ++ ys) ∧ w.grownBy w' v.ownBlock ∧ (∀ q, v'.ownBlock = some q → v.ownBlock = some q ∨ w.heap.size ≤ q)) := by
  obtain ⟨v', w', h1, h2, h3, h4⟩ := run_app_ints ty w B v u xs ys hv hu hb hB
  refine ⟨v', w', h1, h2, h3, fun q hq => ?_⟩
  rcases h4 with h4 | h4
  · exact .inl (h4 ▸ hq)
  · rw [h4] at hq; injection hq with hq; right; omega
end Go.Proofs.YtodooalhbcoihaaDoor
