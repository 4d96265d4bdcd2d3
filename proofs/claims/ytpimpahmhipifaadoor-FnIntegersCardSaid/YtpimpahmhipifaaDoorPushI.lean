/- One integer, or a list, appended to a slice of the call's own: what is left is told of the world before. -/
import Derived.Test.YtpimpahmhipifaaDoorApp
namespace Go.Proofs.YtpimpahmhipifaaDoor
open Go.RowKit
set_option linter.unusedSimpArgs false
set_option linter.unusedVariables false

theorem run_push (ty : TypeId) (w : World) (B : Nat) (v : Value) (xs : List Int) (y : Int) (hv : OwnI w B v xs) (hb : xs.length + 1 ≤ 1099511627776) (hB : B ≤ w.heap.size) :
    ∃ v' w', (Builtin.append_ #[35, 35] ty #[v, .slice (some ⟨w.heap.size, 0, none⟩) 1 1]).run Tryd.prog (w.alloc (.cells #[.int .i64 y] 3)) = .ok v' w' ∧
      (OwnI w' B v' (xs ++ [y]) ∧ w.grownBy w' v.ownBlock ∧ (∀ q, v'.ownBlock = some q → v.ownBlock = some q ∨ w.heap.size ≤ q)) := by
  obtain ⟨v', w', h1, h2, h3, h4⟩ := run_app_ints ty (w.alloc (.cells #[.int .i64 y] 3)) B v (.slice (some ⟨w.heap.size, 0, none⟩) 1 1) xs [y] (hv.ext ((Ext.refl _).alloc _)) (IntS.one w y) hb (by simp; omega)
  refine ⟨v', w', h1, h2, grownBy_trans (grown_alloc (grown_refl _ _) _) h3, fun q hq => ?_⟩
  rcases h4 with h4 | h4
  · exact .inl (h4 ▸ hq)
  · rw [h4] at hq; injection hq with hq; right; simp at hq; omega
theorem run_pushes (ty : TypeId) (w : World) (B : Nat) (v u : Value) (xs ys : List Int) (hv : OwnI w B v xs) (hu : IntS w u ys) (hb : xs.length + ys.length ≤ 1099511627776) (hB : B ≤ w.heap.size) :
    ∃ v' w', (Builtin.append_ #[35, 35] ty #[v, u]).run Tryd.prog w = .ok v' w' ∧
      (OwnI w' B v' (xs ++ ys) ∧ w.grownBy w' v.ownBlock ∧ (∀ q, v'.ownBlock = some q → v.ownBlock = some q ∨ w.heap.size ≤ q)) := by
  obtain ⟨v', w', h1, h2, h3, h4⟩ := run_app_ints ty w B v u xs ys hv hu hb hB
  refine ⟨v', w', h1, h2, h3, fun q hq => ?_⟩
  rcases h4 with h4 | h4
  · exact .inl (h4 ▸ hq)
  · rw [h4] at hq; injection hq with hq; right; omega
theorem ints_same (v u : Value) (l m : List Int) (w : World) (hl : IntS w v l) (hm : IntS w u m) (e : l = m) : Calls Tryd.prog 39 #[v, u] w fun e w' =>
    e = .returned (.bool true) ∧ w = w' := by
  subst e
  obtain ⟨a, cap, rfl, hc1, hc2⟩ := hl.val
  obtain ⟨a2, cap2, rfl, hc3, hc4⟩ := hm.val
  go_enter Tryd.func39, Tryd.ntmps39
  go_wp2
  go_loop [9] (fun i => ∃ j : Nat, j ≤ l.length ∧ i = .int .i64 j) (fun i => l.length - (intOf i).toNat)
  case atStart => exact ⟨0, Nat.zero_le _, rfl⟩
  case round =>
    obtain ⟨j, hj, rfl⟩ := hrel
    by_cases hlt : j < l.length
    · obtain ⟨b, off, x, rfl, hcell, hx, _⟩ := hl.get hlt
      obtain ⟨b2, off2, y, rfl, hcell2, hy, _⟩ := hm.get hlt
      obtain rfl : x = y := by rw [hx] at hy; injection hy
      clear hx hy
      go_wp2
      go_round
      case rel => exact ⟨j + 1, by omega, by go_num⟩
      case measure => simp [intOf]; omega
    · have : j = l.length := by omega
      subst this
      go_wp2
      go_ret
      exact ⟨rfl, rfl⟩
end Go.Proofs.YtpimpahmhipifaaDoor
