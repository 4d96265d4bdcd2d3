/- RingOk, RingWidth of the program and of the reference. -/
import Derived.Test.YtodooalhbcoihaaDoorPrime
namespace Go.Proofs.YtodooalhbcoihaaDoor
open Go.RowKit
set_option linter.unusedSimpArgs false
set_option linter.unusedVariables false

/-- A ring as a value. -/
abbrev ringV (k p n : Int) : Value := .agg #[.int .i64 k, .int .i64 p, .int .i64 n]

set_option maxHeartbeats 400000 in
theorem ringOk_impl (k p n : Int) (w : World) : Calls Tryd.prog 13 #[ringV k p n] w fun e w' =>
    e = .returned (.bool (ringOk k p n)) ∧ Ext w w' := by
  rcases kinds k with rfl | rfl | rfl | rfl | rfl | rfl | rfl | rfl | ⟨e1, e2, e3, e4, e5, e6, e7, e8⟩
  all_goals
    go_enter Tryd.func13, Tryd.ntmps13
    go_wp2_with (go_at_call 22; refine (isPrime_impl _ _).mono ?_; rintro e w' ⟨rfl, rfl⟩)
  all_goals
    go_ret
    refine ⟨ret_bool ?_, (Ext.refl _).alloc _⟩
    simp [ringOk, *] <;> omega

set_option maxHeartbeats 400000 in
theorem ringOk_spec (k p n : Int) (w : World) : Calls Tryd.prog 17 #[ringV k p n] w fun e w' =>
    e = .returned (.bool (ringOk k p n)) ∧ Ext w w' := by
  rcases kinds k with rfl | rfl | rfl | rfl | rfl | rfl | rfl | rfl | ⟨e1, e2, e3, e4, e5, e6, e7, e8⟩
  all_goals
    go_enter Tryd.func17, Tryd.ntmps17
    go_wp2_with (first | (go_at_call 24; refine (isPrime_spec _ _).mono ?_; rintro e w' ⟨rfl, rfl⟩) | (go_at_call 15; refine (in_any _ _ _ _).mono ?_; rintro e w' ⟨rfl, rfl⟩))
  all_goals
    go_ret
    refine ⟨ret_bool ?_, (Ext.refl _).alloc _⟩
    first | (simp [ringOk, *] <;> omega) | (have h2 := isPrime_ge (n := p) ‹_›; simp [ringOk, *] <;> omega)
end Go.Proofs.YtodooalhbcoihaaDoor
