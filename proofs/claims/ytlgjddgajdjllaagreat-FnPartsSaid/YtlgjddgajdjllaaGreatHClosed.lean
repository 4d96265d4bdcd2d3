/- Valid elements: sums, products, zero and one are valid. -/
import Derived.Test.YtlgjddgajdjllaaGreatHAddsS
set_option linter.unusedSimpArgs false
set_option linter.unusedVariables false
namespace Go.Proofs.YtlgjddgajdjllaaGreat
open Go.RowKit
theorem bits_small (a b : Int) (ha : 0 ≤ a ∧ a ≤ 1048576) (hb : 0 ≤ b ∧ b ≤ 1048576) :
    bits .and .i64 a b = ((a.toNat &&& b.toNat : Nat) : Int) ∧ bits .or .i64 a b = ((a.toNat ||| b.toNat : Nat) : Int) := by
  have := bits_nat .i64 21 (by decide) (fun n h1 h2 => by rw [IntKind.wrap_i64]; omega) a.toNat b.toNat (by omega) (by omega)
  rwa [Int.toNat_of_nonneg ha.1, Int.toNat_of_nonneg hb.1] at this
theorem or_top {m a b : Nat} (ha : a ≤ 2 ^ m - 1) (hb : b ≤ 2 ^ m - 1) : a ||| b ≤ 2 ^ m - 1 := by
  have h0 : 0 < 2 ^ m := Nat.pow_pos (by omega)
  have := Nat.or_lt_two_pow (x := a) (y := b) (n := m) (by omega) (by omega)
  omega
theorem and_top {t a b : Nat} (ha : a ≤ t) : a &&& b ≤ t := Nat.le_trans Nat.and_le_left ha
theorem ringOk_shape {k p n : Int} (h : ringOk k p n = true) : (k = 1 ∨ k = 2 ∨ k = 3 ∨ k = 4 ∨ k = 5 ∨ k = 6 ∨ k = 7 ∨ k = 8) ∧ (¬ k = 6 → ¬ k = 1 → 1 ≤ p) := by
  have hk : k = 1 ∨ k = 2 ∨ k = 3 ∨ k = 4 ∨ k = 5 ∨ k = 6 ∨ k = 7 ∨ k = 8 := by
    rcases kinds k with rfl | rfl | rfl | rfl | rfl | rfl | rfl | rfl | ⟨e1, e2, e3, e4, e5, e6, e7, e8⟩
    all_goals first | omega | (simp [ringOk, *] at h)
  exact ⟨hk, fun h6 h1 => (ringOk_pos h (by omega)).1⟩
theorem add1_top {k p n a b : Int} (h : ringOk k p n = true) (ha : 0 ≤ a ∧ a ≤ ringTop k p n) (hb : 0 ≤ b ∧ b ≤ ringTop k p n) : 0 ≤ add1 k p a b ∧ add1 k p a b ≤ ringTop k p n := by
  have ht := top_small h
  obtain ⟨hk, hp⟩ := ringOk_shape h
  obtain ⟨_, c2⟩ := bits_small a b (by omega) (by omega)
  rcases hk with rfl | rfl | rfl | rfl | rfl | rfl | rfl | rfl
  all_goals simp [ringTop] at ha hb hp
  all_goals simp [add1, ringTop]
  · omega
  · have := mod_bound (a + b) hp; omega
  · omega
  · omega
  · omega
  · rw [c2]
    have h0 : ((2 ^ n.toNat - 1 : Nat) : Int) = 2 ^ n.toNat - 1 := by
      have h1 : 0 < 2 ^ n.toNat := Nat.pow_pos (by omega)
      rw [Int.natCast_sub (by omega)]
      simp
    rw [← h0] at ha hb ⊢
    have := or_top (m := n.toNat) (a := a.toNat) (b := b.toNat) (by omega) (by omega)
    omega
  · have := mod_bound (a + b) hp; omega
  · have := mod_bound (a + b) hp; omega
theorem mul1_top {k p n a b : Int} (h : ringOk k p n = true) (h7 : ¬ k = 7) (h8 : ¬ k = 8) (ha : 0 ≤ a ∧ a ≤ ringTop k p n) (hb : 0 ≤ b ∧ b ≤ ringTop k p n) : 0 ≤ mul1 k p a b ∧ mul1 k p a b ≤ ringTop k p n := by
  have ht := top_small h
  obtain ⟨hk, hp⟩ := ringOk_shape h
  obtain ⟨c1, _⟩ := bits_small a b (by omega) (by omega)
  have hm := Int.mul_nonneg ha.1 hb.1
  rcases hk with rfl | rfl | rfl | rfl | rfl | rfl | rfl | rfl
  all_goals simp [ringTop] at ha hb hp
  all_goals simp [mul1, ringTop]
  · omega
  · have := mod_bound (a * b) hp; omega
  · omega
  · omega
  · omega
  · rw [c1]
    have := and_top (t := a.toNat) (b := b.toNat) (Nat.le_refl _)
    omega
  · exact absurd rfl h7
  · exact absurd rfl h8
theorem allTo_iff {t : Int} {x : List Int} : allTo t x = true ↔ ∀ v ∈ x, 0 ≤ v ∧ v ≤ t := by simp [allTo]
theorem rawOk_iff {k p n : Int} {x : List Int} : rawOk k p n x = true ↔ (x.length : Int) = ringWidth k n ∧ ∀ v ∈ x, 0 ≤ v ∧ v ≤ ringTop k p n := by
  rw [← allTo_iff]; simp [rawOk]
theorem mem_zip {f : Int → Int → Int} : ∀ {x y : List Int} {v : Int}, v ∈ List.zipWith f x y → ∃ a b, a ∈ x ∧ b ∈ y ∧ v = f a b
  | [], _, v, h => by simp at h
  | _ :: _, [], v, h => by simp at h
  | a :: s, b :: t, v, h => by
    rcases List.mem_cons.1 (by simpa using h) with rfl | h
    · exact ⟨a, b, by simp, by simp, rfl⟩
    · obtain ⟨a', b', h1, h2, h3⟩ := mem_zip (f := f) h
      exact ⟨a', b', by simp [h1], by simp [h2], h3⟩
theorem rawOk_add {k p n : Int} {x y : List Int} (h : ringOk k p n = true) (hx : rawOk k p n x = true) (hy : rawOk k p n y = true) : rawOk k p n (addL k p x y) = true := by
  obtain ⟨lx, bx⟩ := rawOk_iff.1 hx
  obtain ⟨ly, bY⟩ := rawOk_iff.1 hy
  refine rawOk_iff.2 ⟨by rw [addL_length (by omega)]; exact lx, fun v hv => ?_⟩
  obtain ⟨a, b, ha, hb, rfl⟩ := mem_zip hv
  exact add1_top h (bx a ha) (bY b hb)
theorem rawOk_mul {k p n : Int} {x y : List Int} (h : ringOk k p n = true) (hx : rawOk k p n x = true) (hy : rawOk k p n y = true) : rawOk k p n (mulL k p x y) = true := by
  obtain ⟨lx, bx⟩ := rawOk_iff.1 hx
  obtain ⟨ly, bY⟩ := rawOk_iff.1 hy
  refine rawOk_iff.2 ⟨by rw [mulL_length (by omega)]; exact lx, fun v hv => ?_⟩
  by_cases hk : k = 7 ∨ k = 8
  · obtain ⟨h1, _⟩ := ringOk_pos h (by omega)
    have ht : ringTop k p n = p - 1 := by rcases hk with rfl | rfl <;> simp [ringTop]
    rw [mulL, if_pos hk] at hv
    have := under_rows (om := decide (k = 8)) (y := y) h1 x 0 (under_zeros x.length (by omega)) v hv
    omega
  · rw [mulL, if_neg hk] at hv
    obtain ⟨a, b, ha, hb, rfl⟩ := mem_zip hv
    exact mul1_top h (by omega) (by omega) (bx a ha) (bY b hb)
theorem ringOk_two {k p n : Int} (h : ringOk k p n = true) (hk : k = 2 ∨ k = 7 ∨ k = 8) : 2 ≤ p := by
  rcases hk with rfl | rfl | rfl
  all_goals simp [ringOk] at h
  · exact isPrime_ge h.1
  · exact isPrime_ge h.1.1
  · exact isPrime_ge h.1.1
theorem rawOk_one {k p n : Int} (h : ringOk k p n = true) : rawOk k p n (oneL k p n) = true := by
  have hw := ringOk_wide h
  have h1 := hw.lo
  refine rawOk_iff.2 ⟨by rw [oneL_length]; omega, fun v hv => ?_⟩
  obtain ⟨hk, hp⟩ := ringOk_shape h
  have hu : 0 ≤ unit k p n ∧ unit k p n ≤ ringTop k p n ∧ 0 ≤ ringTop k p n := by
    have h2 := fun e => ringOk_two h e
    have h6 : 0 < (2 : Int) ^ n.toNat := Int.pow_pos (by omega)
    rcases hk with rfl | rfl | rfl | rfl | rfl | rfl | rfl | rfl
    all_goals simp at h2
    all_goals simp [ringTop] at hp
    all_goals simp [unit, ringTop]
    all_goals omega
  rcases List.mem_or_eq_of_mem_set hv with hv | rfl
  · have := (List.mem_replicate.1 hv).2; omega
  · exact ⟨hu.1, hu.2.1⟩
theorem rawOk_zero {k p n : Int} (h : ringOk k p n = true) : rawOk k p n (zeroL k p n) = true := by
  have hw := ringOk_wide h
  have h1 := hw.lo
  have ho := (rawOk_iff.1 (rawOk_one h)).2
  have hu : 0 ≤ ringTop k p n := by
    have := ho _ (List.mem_of_getElem? (i := 0) (a := unit k p n) (by unfold oneL; rw [List.getElem?_set_self (by simp; omega)]))
    omega
  refine rawOk_iff.2 ⟨by rw [zeroL_length]; omega, fun v hv => ?_⟩
  unfold zeroL at hv
  split at hv
  · rename_i h4
    have ht : ringTop k p n = p := by simp [ringTop, h4]
    rcases List.mem_or_eq_of_mem_set hv with hv | rfl
    · have := (List.mem_replicate.1 hv).2; omega
    · omega
  · have := (List.mem_replicate.1 hv).2; omega
end Go.Proofs.YtlgjddgajdjllaaGreat
