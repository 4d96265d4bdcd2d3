/- IsPrime of the program and of the reference: both are 'isPrime'. -/
import Derived.Test.YtodooalhbcoihaaDoorMem
import Derived.Test.YtodooalhbcoihaaDoorProg
namespace Go.Proofs.YtodooalhbcoihaaDoor
open Go.RowKit
set_option linter.unusedSimpArgs false
set_option linter.unusedVariables false

theorem in_any (n a b : Int) (w : World) : Calls Tryd.prog 15 #[.int .i64 n, .int .i64 a, .int .i64 b] w fun e w' =>
    e = .returned (.bool (decide (a ≤ n) && decide (n ≤ b))) ∧ w = w' := by
  by_cases h1 : a ≤ n <;> by_cases h2 : n ≤ b
  all_goals
    go_enter Tryd.func15, Tryd.ntmps15
    go_wp2
    go_ret
    exact ⟨by simp [h1, h2], rfl⟩

set_option maxHeartbeats 400000 in
theorem isPrime_impl (n : Int) (w : World) : Calls Tryd.prog 22 #[.int .i64 n] w fun e w' =>
    e = .returned (.bool (isPrime n)) ∧ w = w' := by
  by_cases h1 : n < 2
  · go_enter Tryd.func22, Tryd.ntmps22
    go_wp2
    go_ret
    exact ⟨by simp [isPrime, h1], rfl⟩
  by_cases h2 : 1000003 < n
  · go_enter Tryd.func22, Tryd.ntmps22
    go_wp2
    go_ret
    exact ⟨by simp [isPrime, h1, h2], rfl⟩
  · have h1' : 2 ≤ n := by omega
    have h2' : n ≤ 1000003 := by omega
    go_enter Tryd.func22, Tryd.ntmps22
    go_wp2
    go_loop [3] (fun d => ∃ k : Nat, 2 ≤ k ∧ k ≤ 1002 ∧ noDiv n (1003 - k) k = noDiv n 1001 2 ∧ d = .int .i64 k) (fun d => 1002 - (intOf d).toNat)
    case atStart => exact ⟨2, by omega, by omega, rfl, rfl⟩
    case round =>
      obtain ⟨k, hk1, hk2, hk, rfl⟩ := hrel
      have hkk : (k : Int) * k ≤ 1004004 := sq_le hk2
      have hkk0 : 0 ≤ (k : Int) * k := Int.mul_nonneg (by omega) (by omega)
      have hf : 1003 - k = (1002 - k) + 1 := by omega
      have HF := isPrime_mid h1' h2'
      rw [hf] at hk
      have HK := Lib.hid hk; clear hk hf
      have HG := Lib.hid HF; clear HF
      have hk' : k < 1002 ∨ n < (k : Int) * k := by
        by_cases h : k < 1002
        · exact .inl h
        · right
          have : k = 1002 := by omega
          subst this; omega
      go_wp2
      · have hle : (k : Int) * k ≤ n := by assumption
        have hd : (n % (k : Int) == 0) = true := by assumption
        go_ret
        exact ⟨ret_bool (by rw [HG.out, ← HK.out, noDiv_hit _ hle (by simpa using hd)]), rfl⟩
      · have hle : (k : Int) * k ≤ n := by assumption
        have hd : (n % (k : Int) == 0) = false := by assumption
        go_round
        case rel =>
          refine ⟨k + 1, by omega, by omega, ?_, by go_num⟩
          rw [← HK.out, noDiv_step _ hle (by simpa using hd), show 1003 - (k + 1) = 1002 - k from by omega]
          rfl
        case measure => simp [intOf]; omega
      · have hlt : n < (k : Int) * k := by assumption
        go_ret
        exact ⟨ret_bool (by rw [HG.out, ← HK.out, noDiv_end _ hlt]), rfl⟩

set_option maxHeartbeats 400000 in
theorem isPrime_spec (n : Int) (w : World) : Calls Tryd.prog 24 #[.int .i64 n] w fun e w' =>
    e = .returned (.bool (isPrime n)) ∧ w = w' := by
  by_cases hm : 2 ≤ n ∧ n ≤ 1000003
  · obtain ⟨h1', h2'⟩ := hm
    go_enter Tryd.func24, Tryd.ntmps24
    go_wp2
    go_loop [3] (fun d => ∃ k : Nat, 2 ≤ k ∧ k ≤ 1002 ∧ noDiv n (1003 - k) k = noDiv n 1001 2 ∧ d = .int .i64 k) (fun d => 1002 - (intOf d).toNat)
    case atStart => exact ⟨2, by omega, by omega, rfl, rfl⟩
    case round =>
      obtain ⟨k, hk1, hk2, hk, rfl⟩ := hrel
      have hkk : (k : Int) * k ≤ 1004004 := sq_le hk2
      have hkk0 : 0 ≤ (k : Int) * k := Int.mul_nonneg (by omega) (by omega)
      have hf : 1003 - k = (1002 - k) + 1 := by omega
      have HF := isPrime_mid h1' h2'
      rw [hf] at hk
      have HK := Lib.hid hk; clear hk hf
      have HG := Lib.hid HF; clear HF
      have hk' : k < 1002 ∨ n < (k : Int) * k := by
        by_cases h : k < 1002
        · exact .inl h
        · right
          have : k = 1002 := by omega
          subst this; omega
      by_cases hle : (k : Int) * k ≤ n
      · by_cases hd : n % (k : Int) = 0
        · go_wp2
          go_ret
          exact ⟨ret_bool (by rw [HG.out, ← HK.out, noDiv_hit _ hle hd]), rfl⟩
        · go_wp2
          go_round
          case rel =>
            refine ⟨k + 1, by omega, by omega, ?_, by go_num⟩
            rw [← HK.out, noDiv_step _ hle hd, show 1003 - (k + 1) = 1002 - k from by omega]
            rfl
          case measure => simp [intOf]; omega
      · go_wp2_with (go_at_call 15; refine (in_any _ _ _ _).mono ?_; rintro e w' ⟨rfl, rfl⟩)
        go_ret
        exact ⟨ret_bool (by rw [HG.out, ← HK.out, noDiv_end _ (by omega)]), rfl⟩
  · have hf : isPrime n = (decide (2 ≤ n) && decide (n ≤ 1000003)) := by
      by_cases h : n < 2
      · rw [isPrime_low h]; have : ¬ 2 ≤ n := by omega
        simp [this]
      · have h2 : 1000003 < n := by omega
        rw [isPrime_high h2]; have : ¬ n ≤ 1000003 := by omega
        simp [this]
    have HF := Lib.hid hf; clear hf
    have hn : n < 4 ∨ 1000003 < n := by omega
    go_enter Tryd.func24, Tryd.ntmps24
    go_wp2
    go_loop [3] (fun d => d = .int .i64 2) (fun d => 0)
    case atStart => rfl
    case round =>
      obtain rfl := hrel
      rcases hn with hn | hn
      · go_wp2_with (go_at_call 15; refine (in_any _ _ _ _).mono ?_; rintro e w' ⟨rfl, rfl⟩)
        go_ret
        exact ⟨ret_bool HF.out.symm, rfl⟩
      · go_wp2_with (go_at_call 15; refine (in_any _ _ _ _).mono ?_; rintro e w' ⟨rfl, rfl⟩)
        go_ret
        exact ⟨ret_bool HF.out.symm, rfl⟩

end Go.Proofs.YtodooalhbcoihaaDoor
