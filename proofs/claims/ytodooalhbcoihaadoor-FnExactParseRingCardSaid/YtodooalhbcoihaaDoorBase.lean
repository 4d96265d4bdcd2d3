/- Plain functions and small lemmas that all walks of this seat share: no program in sight. -/
import Derived.WalkKit
import Derived.WalkSpells
import Derived.WalkLawsBesides
import Derived.Lib.Hide
import Derived.Handy
namespace Go.Proofs.YtodooalhbcoihaaDoor
open Go.RowKit

theorem ret_bool {a b : Bool} (h : a = b) : Ending.returned (.bool a) = .returned (.bool b) := by rw [h]
theorem ret_int {k : IntKind} {a b : Int} (h : a = b) : Ending.returned (.int k a) = .returned (.int k b) := by rw [h]

/-! ### primes -/
/-- No divisor of n from d on (f of them are asked). -/
def noDiv (n : Int) : Nat → Int → Bool
  | 0, _ => true
  | f + 1, d => if n < d * d then true else if n % d = 0 then false else noDiv n f (d + 1)
theorem sq_le {k : Nat} (h : k ≤ 1002) : (k : Int) * k ≤ 1004004 := by
  have h2 := Nat.mul_le_mul h h
  have h3 : ((k * k : Nat) : Int) ≤ ((1002 * 1002 : Nat) : Int) := Int.ofNat_le.2 h2
  rw [Int.natCast_mul] at h3
  exact h3
theorem noDiv_end {n d : Int} (f : Nat) (h : n < d * d) : noDiv n (f + 1) d = true := by simp [noDiv, h]
theorem noDiv_hit {n d : Int} (f : Nat) (h : d * d ≤ n) (h2 : n % d = 0) : noDiv n (f + 1) d = false := by
  have : ¬ n < d * d := by omega
  simp [noDiv, this, h2]
theorem noDiv_step {n d : Int} (f : Nat) (h : d * d ≤ n) (h2 : n % d ≠ 0) : noDiv n (f + 1) d = noDiv n f (d + 1) := by
  have : ¬ n < d * d := by omega
  simp [noDiv, this, h2]
/-- Is n a prime up to 1000003? -/
def isPrime (n : Int) : Bool := if n < 2 then false else if 1000003 < n then false else noDiv n 1001 2
theorem isPrime_mid {n : Int} (h1 : 2 ≤ n) (h2 : n ≤ 1000003) : isPrime n = noDiv n 1001 2 := by
  have a : ¬ n < 2 := by omega
  have b : ¬ 1000003 < n := by omega
  simp [isPrime, a, b]
theorem isPrime_low {n : Int} (h1 : n < 2) : isPrime n = false := by simp [isPrime, h1]
theorem isPrime_ge {n : Int} (h : isPrime n = true) : 2 ≤ n := by
  by_cases h1 : n < 2
  · rw [isPrime_low h1] at h; cases h
  · omega
theorem isPrime_le {n : Int} (h : isPrime n = true) : n ≤ 1000003 := by
  by_cases h1 : n < 2
  · rw [isPrime_low h1] at h; cases h
  · by_cases h2 : 1000003 < n
    · simp [isPrime, h1, h2] at h
    · omega
theorem isPrime_high {n : Int} (h1 : 1000003 < n) : isPrime n = false := by simp [isPrime, h1]

/-! ### rings -/
/-- 'RingOk' of a ring {k, p, n}. -/
def ringOk (k p n : Int) : Bool :=
  if k = 1 then (p == 0) && (n == 0)
  else if k = 2 then isPrime p && (n == 0)
  else if k = 3 ∨ k = 4 ∨ k = 5 then decide (1 ≤ p) && decide (p ≤ 1000000) && (n == 0)
  else if k = 6 then (p == 0) && decide (1 ≤ n) && decide (n ≤ 20)
  else if k = 7 then isPrime p && decide (1 ≤ n) && decide (n ≤ 6)
  else if k = 8 then isPrime p && (p != 2) && (n == 0)
  else false
/-- A kind of ring, or none. -/
theorem kinds (k : Int) : k = 1 ∨ k = 2 ∨ k = 3 ∨ k = 4 ∨ k = 5 ∨ k = 6 ∨ k = 7 ∨ k = 8 ∨ (¬ k = 1 ∧ ¬ k = 2 ∧ ¬ k = 3 ∧ ¬ k = 4 ∧ ¬ k = 5 ∧ ¬ k = 6 ∧ ¬ k = 7 ∧ ¬ k = 8) := by omega

end Go.Proofs.YtodooalhbcoihaaDoor
