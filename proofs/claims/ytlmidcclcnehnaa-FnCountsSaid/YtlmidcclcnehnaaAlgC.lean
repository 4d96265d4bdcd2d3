/- Counts add and multiply, exponents add: the plain law. -/
import Derived.Test.YtlmidcclcnehnaaAlgOf
namespace Go.Proofs.Ytlmidcclcnehnaa
open Go.RowKit
set_option linter.unusedSimpArgs false
set_option linter.unusedVariables false

/-- c times the one of the ring. -/
def cntL (k p n c : Int) : List Int := if c = 0 then zeroL k p n else (oneL k p n).set 0 (count1 k p n c)
theorem countOf_cnt {k p n c : Int} (h : ringOk k p n = true) (hc : 0 ≤ c) : countOf k p n c = cntL k p n c := by
  unfold cntL
  by_cases h0 : c = 0
  · subst h0; rw [countOf_zero h, if_pos rfl]
  · rw [countOf_pos h (by omega), if_neg h0]
theorem cnt_cg {k p n c : Int} (h : ringOk k p n = true) (m : Nat) (hm : m < (ringWidth k n).toNat) : cg (cntL k p n c) m = if c = 0 then (if k = 4 then p else 0) else if m = 0 then count1 k p n c else 0 := by
  unfold cntL
  by_cases h0 : c = 0
  · rw [if_pos h0, if_pos h0, zeroL_cg h m hm]
  · rw [if_neg h0, if_neg h0, oneL, List.set_set, cg_set (by simp; omega)]
    by_cases hm0 : m = 0
    · rw [if_pos hm0.symm, if_pos hm0]
    · rw [if_neg (fun e => hm0 e.symm), if_neg hm0, cg_replicate]
theorem cnt_len {k p n c : Int} : (cntL k p n c).length = (ringWidth k n).toNat := by
  unfold cntL
  split
  · exact zeroL_length _ _ _
  · rw [List.length_set, oneL_length]
theorem one_cg {k p n : Int} (m : Nat) (hm : m < (ringWidth k n).toNat) : cg (oneL k p n) m = if m = 0 then unit k p n else 0 := by
  rw [oneL, cg_set (by simp; omega)]
  by_cases hm0 : m = 0
  · rw [if_pos hm0.symm, if_pos hm0]
  · rw [if_neg (fun e => hm0 e.symm), if_neg hm0, cg_replicate]
theorem cnt_ok {k p n c : Int} (h : ringOk k p n = true) (hc : 0 ≤ c) : rawOk k p n (cntL k p n c) = true := by
  by_cases h0 : c = 0
  · subst h0; unfold cntL; rw [if_pos rfl]; exact rawOk_zero h
  · rw [rawOk_iff, cnt_len]
    have hw := ringOk_wide h
    refine ⟨by have := hw.lo; omega, fun v hv => ?_⟩
    have ho := (rawOk_iff.1 (rawOk_one h)).2
    unfold cntL at hv
    rw [if_neg h0] at hv
    rcases List.mem_or_eq_of_mem_set hv with hv | rfl
    · exact ho v hv
    · have hu := ho (unit k p n) (List.mem_of_getElem? (oneL_get hw))
      unfold count1
      split
      · rename_i h3; subst h3
        have ht : ringTop 3 p n = p := by simp [ringTop]
        have := (ringOk_pos h (by omega)).1
        omega
      · split
        · rename_i _ hk
          have hp := (ringOk_pos h (by omega)).1
          have ht : ringTop k p n = p - 1 := by rcases hk with rfl | rfl | rfl <;> simp [ringTop]
          have := mod_bound c (p := p) (by omega)
          omega
        · exact hu
theorem cnt_succ {k p n c : Int} (h : ringOk k p n = true) (hc : 0 ≤ c) : cntL k p n (c + 1) = addL k p (cntL k p n c) (oneL k p n) := by
  have hw := ringOk_wide h
  have hlo := hw.lo
  apply cg_ext (by simp [addL, cnt_len, oneL_length])
  intro m hm
  rw [cnt_len] at hm
  unfold addL
  rw [zip_cg (n := (ringWidth k n).toNat) cnt_len (oneL_length _ _ _) hm, cnt_cg h m hm, cnt_cg h m hm, one_cg m hm, if_neg (show ¬ c + 1 = 0 by omega)]
  by_cases hm0 : m = 0
  · subst hm0
    simp only [if_true]
    by_cases h7 : k = 7
    · subst h7
      have hp := ringOk_two h (by omega)
      by_cases h0 : c = 0
      · subst h0; simp [count1, add1, unit]
      · simp [count1, add1, unit, h0]
    by_cases h8 : k = 8
    · subst h8
      have hp := ringOk_two h (by omega)
      by_cases h0 : c = 0
      · subst h0; simp [count1, add1, unit]
      · simp [count1, add1, unit, h0]
    rcases ring_scalar h h7 h8 with ⟨rfl, rfl, ht⟩ | ⟨rfl, hp, ht⟩ | ⟨rfl, hp, ht⟩ | ⟨rfl, hp, ht⟩ | ⟨rfl, hp, ht⟩ | ⟨rfl, ht, hn⟩
    · by_cases h0 : c = 0 <;> simp [count1, add1, unit, h0] <;> omega
    · by_cases h0 : c = 0 <;> simp [count1, add1, unit, h0]
    · by_cases h0 : c = 0 <;> simp [count1, add1, unit, h0] <;> omega
    · by_cases h0 : c = 0 <;> simp [count1, add1, unit, h0] <;> omega
    · by_cases h0 : c = 0 <;> simp [count1, add1, unit, h0] <;> omega
    · have htop : InTop 6 p n (2 ^ n.toNat - 1) := by have := pow_small n.toNat (by omega); exact ⟨by omega, by omega⟩
      have hz : InTop 6 p n 0 := ⟨by omega, by have := htop.1; omega⟩
      by_cases h0 : c = 0
      · have := (land_bits h hz htop).2
        simp [count1, add1, unit, h0]
        rw [this]; simp; have := htop.1; omega
      · have := (land_bits h htop htop).2
        simp [count1, add1, unit, h0]
        rw [this]; simp; have := htop.1; omega
  · rw [if_neg hm0, if_neg hm0, if_neg hm0]
    have hk : k = 7 ∨ k = 8 := by
      by_cases hk : k = 7 ∨ k = 8
      · exact hk
      · have : ringWidth k n = 1 := by simp [ringWidth]; omega
        rw [this] at hm; simp at hm; omega
    have h4 : ¬ k = 4 := by omega
    rw [if_neg h4]
    rcases hk with rfl | rfl <;> simp [add1]
theorem cnt_zero {k p n : Int} : cntL k p n 0 = zeroL k p n := by simp [cntL]
theorem cnt_add {k p n a : Int} (h : ringOk k p n = true) (ha : 0 ≤ a) : ∀ b : Nat, cntL k p n (a + b) = addL k p (cntL k p n a) (cntL k p n b)
  | 0 => by
    rw [show ((0 : Nat) : Int) = 0 from rfl, Int.add_zero, cnt_zero, addL_zero h (cnt_ok h ha)]
  | b + 1 => by
    have e : a + ((b + 1 : Nat) : Int) = (a + b) + 1 := by omega
    have e2 : ((b + 1 : Nat) : Int) = (b : Int) + 1 := by omega
    rw [e, cnt_succ h (by omega), cnt_add h ha b, e2, cnt_succ h (by omega), addL_assoc h (cnt_ok h ha) (cnt_ok h (by omega)) (rawOk_one h)]
theorem cnt_mul {k p n a : Int} (h : ringOk k p n = true) (ha : 0 ≤ a) : ∀ b : Nat, cntL k p n (a * b) = mulL k p (cntL k p n a) (cntL k p n b)
  | 0 => by
    rw [show ((0 : Nat) : Int) = 0 from rfl, Int.mul_zero, cnt_zero, mulL_zero h (cnt_ok h ha)]
  | b + 1 => by
    have e : a * ((b + 1 : Nat) : Int) = a * b + a := by rw [Int.natCast_add, Int.mul_add]; simp
    have e2 : ((b + 1 : Nat) : Int) = (b : Int) + 1 := by omega
    have hab : 0 ≤ a * (b : Int) := Int.mul_nonneg ha (by omega)
    obtain ⟨a', rfl⟩ : ∃ a' : Nat, a = (a' : Int) := ⟨a.toNat, by omega⟩
    rw [e, cnt_add h hab, cnt_mul h ha b, e2, cnt_succ h (by omega), add_mulL h (cnt_ok h (by omega)) (rawOk_one h) (cnt_ok h ha), mulL_unit h (cnt_ok h ha)]
theorem powL_add (k p : Int) (x : List Int) : ∀ (a b : Nat) (z : List Int), powL k p x z (a + b) = powL k p x (powL k p x z a) b
  | 0, b, z => by rw [Nat.zero_add]; rfl
  | a + 1, b, z => by
    rw [show a + 1 + b = (a + b) + 1 by omega, powL, powL_add k p x a b, powL]
theorem powL_mul {k p n : Int} {x y : List Int} (h : ringOk k p n = true) (hx : rawOk k p n x = true) (hy : rawOk k p n y = true) : ∀ (b : Nat) (z : List Int), rawOk k p n z = true → powL k p x (mulL k p y z) b = mulL k p y (powL k p x z b)
  | 0, z, hz => rfl
  | b + 1, z, hz => by
    rw [powL, powL, mulL_assoc h hy hz hx, powL_mul h hx hy b _ (rawOk_mul h hz hx)]
/-- What the law compares. -/
structure CountLaws (k p n a b : Int) (x : List Int) : Prop where
  add : countOf k p n (a + b) = addOf k p n (countOf k p n a) (countOf k p n b)
  mul : countOf k p n (a * b) = mulOf k p n (countOf k p n a) (countOf k p n b)
  pow : powOf k p n x (a + b) = mulOf k p n (powOf k p n x a) (powOf k p n x b)
  one : powOf k p n x 1 = x
theorem count_laws {k p n a b : Int} {x : List Int} (h : ringOk k p n = true) (hx : rawOk k p n x = true) (ha : 0 ≤ a ∧ a ≤ 99) (hb : 0 ≤ b ∧ b ≤ 99) : CountLaws k p n a b x := by
  obtain ⟨a', rfl⟩ : ∃ a' : Nat, a = (a' : Int) := ⟨a.toNat, by omega⟩
  obtain ⟨b', rfl⟩ : ∃ b' : Nat, b = (b' : Int) := ⟨b.toNat, by omega⟩
  have hab : 0 ≤ (a' : Int) * b' := Int.mul_nonneg (by omega) (by omega)
  have ex : elemOk k p n x = true := by rw [elemOk_yes h]; exact hx
  have pa := rawOk_pow h hx a' (rawOk_one h)
  have pb := rawOk_pow h hx b' (rawOk_one h)
  refine ⟨?_, ?_, ?_, ?_⟩
  · rw [countOf_cnt h (by omega), countOf_cnt h (by omega), countOf_cnt h (by omega), addOf_raw h (cnt_ok h (by omega)) (cnt_ok h (by omega)), cnt_add h (by omega)]
  · rw [countOf_cnt h hab, countOf_cnt h (by omega), countOf_cnt h (by omega), mulOf_raw h (cnt_ok h (by omega)) (cnt_ok h (by omega)), cnt_mul h (by omega)]
  · rw [powOf_yes ex (by omega), powOf_yes ex (by omega), powOf_yes ex (by omega)]
    have e : ((a' : Int) + b').toNat = a' + b' := by omega
    rw [e, Int.toNat_natCast, Int.toNat_natCast, mulOf_raw h pa pb, powL_add]
    conv => lhs; rw [← mulL_unit h pa]
    rw [powL_mul h hx pa b' _ (rawOk_one h)]
  · rw [powOf_yes ex (by omega)]
    show powL k p x (oneL k p n) 1 = x
    rw [powL, powL, unit_mulL h hx]
end Go.Proofs.Ytlmidcclcnehnaa
