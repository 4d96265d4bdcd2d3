/- allIn, FinishTensor of the program. -/
import Derived.Test.YtpegckmagiaggaaGNetVX
set_option linter.unusedSimpArgs false
set_option linter.unusedVariables false
namespace Go.Proofs.Ytpegckmagiaggaa
open Go.RowKit
theorem allIn_any (va vb : Value) (a b : List Int) (w : World) (ha : IntS w va a) (hb : IntS w vb b) : Calls Try.prog 145 #[va, vb] w fun e w' =>
 e = .returned (.bool (a.all fun x => hasL b x)) ∧ w = w' := by
 obtain ⟨av, cv, rfl, hc1, hc2⟩ := ha.val
 go_enter Try.func145, Try.ntmps145
 go_wp2_with fail
 go_loop [9] (fun i => ∃ j : Nat, j ≤ a.length ∧ i = .int .i64 j ∧ ((a.drop j).all fun x => hasL b x) = (a.all fun x => hasL b x)) (fun i => a.length - (RowKit.intOf i).toNat)
 case atStart => exact ⟨0, Nat.zero_le _, rfl, rfl⟩
 case round =>
  obtain ⟨j, hj, rfl, hq⟩ := hrel
  by_cases hlt : j < a.length
  · obtain ⟨bX, off, y, rfl, hcell, _, hd⟩ := ha.get hlt
    rw [hd, List.all_cons] at hq
    have HQ := Lib.hid hq; clear hq hd
    go_wp2_with fail
    refine (hasInt_any vb b y _ hb).mono ?_; rintro e1 w1 ⟨rfl, rfl⟩
    by_cases hy : hasL b y = true
    · rw [hy]
      go_wp2_with fail
      go_round
      case rel => exact ⟨j + 1, by omega, by go_num, by rw [← HQ.out, hy, Bool.true_and]⟩
      case measure => simp [RowKit.intOf]; omega
    · have hy2 := eq_false_of_ne_true hy
      have hr2 : (a.all fun x => hasL b x) = false := by rw [← HQ.out, hy2, Bool.false_and]
      have HF := Lib.hid hr2
      rw [hy2]
      clear hr2 hy hy2
      go_wp2
      go_ret
      exact ⟨by rw [HF.out]; rfl, rfl⟩
  · have hje : j = a.length := by omega
    subst hje
    have hr2 : (a.all fun x => hasL b x) = true := by rw [← hq, List.drop_length]; rfl
    have HF := Lib.hid hr2
    clear hr2 hq
    go_wp2
    go_ret
    exact ⟨by rw [HF.out]; rfl, rfl⟩
end Go.Proofs.Ytpegckmagiaggaa
