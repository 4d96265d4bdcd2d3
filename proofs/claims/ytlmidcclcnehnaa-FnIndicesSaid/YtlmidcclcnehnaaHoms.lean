/- HomOk: the plain function, and the program's parts of it. -/
import Derived.Test.YtlmidcclcnehnaaRingsW0
import Derived.Deep.QuietTactic
import Derived.BigQuiet
namespace Go.Proofs.Ytlmidcclcnehnaa
open Go.RowKit
set_option linter.unusedSimpArgs false
set_option linter.unusedVariables false

/-- A homomorphism as a value. -/
abbrev homV (k a : Int) : Value := .agg #[.int .i64 k, .int .i64 a]
/-- 'rootOk' -/
def rootOk (p a : Int) : Bool := decide (1 ≤ a) && decide (a ≤ p - 1) && ((a * a % p) * (a * a % p) % p == p - 1)
/-- 'cutOk' -/
def cutOk (fk fp fn tk tp tn : Int) : Bool :=
  (fk == tk) && (if fk = 3 ∨ fk = 4 ∨ fk = 5 then decide (tp ≤ fp) else if fk = 7 then (tp == fp) && decide (tn ≤ fn) else if fk = 6 then decide (tn ≤ fn) else false)
/-- 'HomOk' of two valid rings. -/
def homRaw (fk fp fn tk tp tn hk ha : Int) : Bool :=
  if hk = 1 then ((fk == tk) && (fp == tp) && (fn == tn)) && (ha == 0)
  else if hk = 2 then ((fk == 3) || (fk == 4)) && (tk == 1) && (ha == 0)
  else if hk = 3 then (fk == 6) && (tk == 1) && decide (0 ≤ ha) && decide (ha < fn)
  else if hk = 4 then (fk == 5) && (tk == 1) && decide (1 ≤ ha) && decide (ha ≤ fp)
  else if hk = 5 then (fk == 7) && (tk == 2) && (fp == tp) && (ha == 0)
  else if hk = 6 then (fk == 8) && (tk == 2) && (fp == tp) && rootOk fp ha
  else if hk = 7 then (ha == 0) && cutOk fk fp fn tk tp tn
  else if hk = 8 then (fk == 1) && (ha == 0) && ((tk == 4) || (tk == 5) || (tk == 6))
  else false
/-- 'HomOk' -/
def homOk (fk fp fn tk tp tn hk ha : Int) : Bool := ringOk fk fp fn && ringOk tk tp tn && homRaw fk fp fn tk tp tn hk ha
theorem homOk_no1 {fk fp fn tk tp tn hk ha : Int} (h : ringOk fk fp fn = false) : homOk fk fp fn tk tp tn hk ha = false := by simp [homOk, h]
theorem homOk_no2 {fk fp fn tk tp tn hk ha : Int} (h : ringOk tk tp tn = false) : homOk fk fp fn tk tp tn hk ha = false := by simp [homOk, h]
theorem homOk_yes {fk fp fn tk tp tn hk ha : Int} (h : ringOk fk fp fn = true) (h2 : ringOk tk tp tn = true) : homOk fk fp fn tk tp tn hk ha = homRaw fk fp fn tk tp tn hk ha := by simp [homOk, h, h2]

theorem ringOk_bounds {k p n : Int} (h : ringOk k p n = true) : 0 ≤ n ∧ n ≤ 20 ∧ 0 ≤ p ∧ p ≤ 1000003 := by
  rcases kinds k with rfl | rfl | rfl | rfl | rfl | rfl | rfl | rfl | ⟨e1, e2, e3, e4, e5, e6, e7, e8⟩
  all_goals simp [ringOk, *] at h
  · omega
  · have := isPrime_ge h.1; have := isPrime_le h.1; omega
  · omega
  · omega
  · omega
  · omega
  · have := isPrime_ge h.1.1; have := isPrime_le h.1.1; omega
  · have := isPrime_ge h.1.1; have := isPrime_le h.1.1; omega

theorem in_quiet (n a b : Int) (w : World) : Calls Try.prog 76 #[.int .i64 n, .int .i64 a, .int .i64 b] w fun e w' =>
    e = .returned (.bool (decide (a ≤ n) && decide (n ≤ b))) ∧ w' = w := (in_any n a b w).mono fun _ _ h => ⟨h.1, h.2.symm⟩
theorem toHom_any (k a : Int) (w : World) : Calls Try.prog 57 #[homV k a] w fun e w' =>
    e = .returned (homV k a) ∧ Ext w w' := by
  go_enter Try.func57, Try.ntmps57
  go_wp2
  go_returns
  exact ⟨rfl, (by repeat' (first | (with_reducible exact Ext.refl _) | (with_reducible assumption) | (with_reducible apply Ext.alloc) | (with_reducible apply Ext.drew) | (with_reducible apply Ext.drewN) | (refine Ext.setAt ?_ (by omega) _ _) | (refine Ext.trans ?_ (by assumption))))⟩

theorem sq_bound {a p : Int} (h1 : 1 ≤ a) (h2 : a ≤ p - 1) (hp : p ≤ 1000003) : 0 ≤ a * a ∧ a * a ≤ 1000004000004 := by
  have h3 : a ≤ 1000002 := by omega
  have := Int.mul_le_mul h3 h3 (by omega) (by omega)
  exact ⟨Int.mul_nonneg (by omega) (by omega), by omega⟩
theorem mul_bound {a b p : Int} (h1 : 0 ≤ a) (h2 : a < p) (h3 : 0 ≤ b) (h4 : b < p) (hp : p ≤ 1000003) : 0 ≤ a * b ∧ a * b ≤ 1000004000004 := by
  have h5 : a ≤ 1000002 := by omega
  have h6 : b ≤ 1000002 := by omega
  have := Int.mul_le_mul h5 h6 (by omega) (by omega)
  exact ⟨Int.mul_nonneg h1 h3, by omega⟩
theorem fourth (a p : Int) : a * a % p * a % p * a % p = (a * a % p) * (a * a % p) % p := by
  have key : ∀ x y : Int, x % p * y % p = x * y % p := fun x y => by rw [Int.mul_emod, Int.emod_emod_of_dvd _ (Int.dvd_refl p), ← Int.mul_emod]
  rw [key (a * a) a, key (a * a * a) a, ← Int.mul_emod, Int.mul_assoc (a * a)]

theorem rootOk_any (p a : Int) (hp : 1 ≤ p) (hp2 : p ≤ 1000003) (w : World) : Calls Try.prog 101 #[.int .i64 p, .int .i64 a] w fun e w' =>
    e = .returned (.bool (rootOk p a)) ∧ w = w' := by
  by_cases h1 : a < 1
  · have HF : Hid (rootOk p a = false) := Lib.hid (by simp [rootOk]; omega)
    go_enter Try.func101, Try.ntmps101
    go_wp2
    go_ret
    exact ⟨ret_bool HF.out.symm, rfl⟩
  by_cases h2 : p - 1 < a
  · have HF : Hid (rootOk p a = false) := Lib.hid (by simp [rootOk]; omega)
    go_enter Try.func101, Try.ntmps101
    go_wp2
    go_ret
    exact ⟨ret_bool HF.out.symm, rfl⟩
  · have h3 : 1 ≤ a := by omega
    have h4 : a ≤ p - 1 := by omega
    have HF : Hid (rootOk p a = ((a * a % p) * (a * a % p) % p == p - 1)) := Lib.hid (by simp [rootOk, h3, h4])
    obtain ⟨s1, s2⟩ := sq_bound h3 h4 hp2
    have s3 := Int.emod_nonneg (a * a) (show p ≠ 0 by omega)
    have s4 := Int.emod_lt_of_pos (a * a) (show 0 < p by omega)
    obtain ⟨s5, s6⟩ := mul_bound s3 s4 s3 s4 hp2
    go_enter Try.func101, Try.ntmps101
    go_wp2
    go_ret
    exact ⟨ret_bool HF.out.symm, rfl⟩

theorem cutOk_any (fk fp fn tk tp tn : Int) (w : World) : Calls Try.prog 102 #[ringV fk fp fn, ringV tk tp tn] w fun e w' =>
    e = .returned (.bool (cutOk fk fp fn tk tp tn)) ∧ Ext w w' := by
  by_cases h : fk = tk
  · subst h
    have hk : fk = 3 ∨ fk = 4 ∨ fk = 5 ∨ fk = 7 ∨ fk = 6 ∨ (¬ fk = 3 ∧ ¬ fk = 4 ∧ ¬ fk = 5 ∧ ¬ fk = 7 ∧ ¬ fk = 6) := by omega
    rcases hk with rfl | rfl | rfl | rfl | rfl | ⟨e3, e4, e5, e7, e6⟩
    all_goals
      go_enter Try.func102, Try.ntmps102
      go_wp2
    all_goals
      go_ret
      exact ⟨ret_bool (by simp [cutOk, *]), (by repeat' (first | (with_reducible exact Ext.refl _) | (with_reducible assumption) | (with_reducible apply Ext.alloc) | (with_reducible apply Ext.drew) | (with_reducible apply Ext.drewN) | (refine Ext.setAt ?_ (by omega) _ _) | (refine Ext.trans ?_ (by assumption))))⟩
  · go_enter Try.func102, Try.ntmps102
    go_wp2
    go_ret
    exact ⟨ret_bool (by simp [cutOk, h]), (by repeat' (first | (with_reducible exact Ext.refl _) | (with_reducible assumption) | (with_reducible apply Ext.alloc) | (with_reducible apply Ext.drew) | (with_reducible apply Ext.drewN) | (refine Ext.setAt ?_ (by omega) _ _) | (refine Ext.trans ?_ (by assumption))))⟩
end Go.Proofs.Ytlmidcclcnehnaa
