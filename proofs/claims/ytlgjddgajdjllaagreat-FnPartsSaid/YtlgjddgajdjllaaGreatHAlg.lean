/- Elements of a valid ring: a commutative semiring. No program in sight. -/
import Derived.Test.YtlgjddgajdjllaaGreatHClosed
set_option linter.unusedSimpArgs false
set_option linter.unusedVariables false
namespace Go.Proofs.YtlgjddgajdjllaaGreat
open Go.RowKit
def InTop (k p n a : Int) : Prop := 0 ≤ a ∧ a ≤ ringTop k p n
theorem ring_scalar {k p n : Int} (h : ringOk k p n = true) (h7 : ¬ k = 7) (h8 : ¬ k = 8) :
    (k = 1 ∧ p = 0 ∧ ringTop k p n = 1) ∨ (k = 2 ∧ 2 ≤ p ∧ ringTop k p n = p - 1) ∨ (k = 3 ∧ 1 ≤ p ∧ ringTop k p n = p) ∨ (k = 4 ∧ 1 ≤ p ∧ ringTop k p n = p) ∨ (k = 5 ∧ 1 ≤ p ∧ ringTop k p n = p) ∨ (k = 6 ∧ ringTop k p n = 2 ^ n.toNat - 1 ∧ 1 ≤ n ∧ n ≤ 20) := by
  rcases kinds k with rfl | rfl | rfl | rfl | rfl | rfl | rfl | rfl | ⟨e1, e2, e3, e4, e5, e6, e7, e8⟩
  all_goals first | omega | skip
  all_goals simp [ringOk, *] at h
  all_goals simp [ringTop]
  · exact h.1
  · exact isPrime_ge h.1
  · omega
  · omega
  · omega
  · omega
theorem land_bits {p n a b : Int} (h : ringOk 6 p n = true) (ha : InTop 6 p n a) (hb : InTop 6 p n b) :
    bits .and .i64 a b = ((a.toNat &&& b.toNat : Nat) : Int) ∧ bits .or .i64 a b = ((a.toNat ||| b.toNat : Nat) : Int) :=
  bits_small a b ⟨ha.1, Int.le_trans ha.2 (top_small h)⟩ ⟨hb.1, Int.le_trans hb.2 (top_small h)⟩
theorem cap_mul {u c p : Int} (hu : 0 ≤ u) (hc : 0 ≤ c) (hp : 0 ≤ p) : min (min u p * c) p = min (u * c) p := by
  by_cases h0 : c = 0
  · subst h0; simp
  · by_cases h : u ≤ p
    · rw [Int.min_eq_left h]
    · have h1 : p * 1 ≤ p * c := Int.mul_le_mul_of_nonneg_left (by omega) hp
      have h2 : u * 1 ≤ u * c := Int.mul_le_mul_of_nonneg_left (by omega) hu
      rw [Int.min_eq_right (show p ≤ u by omega)]
      omega
theorem mod_mul_in (a b p : Int) : (a % p * b) % p = a * b % p := by rw [Int.mul_emod, Int.emod_emod_of_dvd _ (Int.dvd_refl p), ← Int.mul_emod]
theorem mod_mul_in2 (a b p : Int) : (a * (b % p)) % p = a * b % p := by rw [Int.mul_comm, mod_mul_in, Int.mul_comm]
section
variable {k p n a b c : Int} (h : ringOk k p n = true)
include h
theorem add1_comm (ha : InTop k p n a) (hb : InTop k p n b) : add1 k p a b = add1 k p b a := by
  unfold add1
  split
  · omega
  · split
    · omega
    · split
      · omega
      · split
        · rename_i h6; subst h6
          rw [(land_bits h ha hb).2, (land_bits h hb ha).2, Nat.or_comm]
        · rw [Int.add_comm]
theorem add1_assoc (h7 : ¬ k = 7) (h8 : ¬ k = 8) (ha : InTop k p n a) (hb : InTop k p n b) (hc : InTop k p n c) : add1 k p (add1 k p a b) c = add1 k p a (add1 k p b c) := by
  have hab := add1_top h ha hb
  have hbc := add1_top h hb hc
  obtain ⟨a0, a1⟩ := ha; obtain ⟨b0, b1⟩ := hb; obtain ⟨c0, c1⟩ := hc
  rcases ring_scalar h h7 h8 with ⟨rfl, rfl, ht⟩ | ⟨rfl, hp, ht⟩ | ⟨rfl, hp, ht⟩ | ⟨rfl, hp, ht⟩ | ⟨rfl, hp, ht⟩ | ⟨rfl, ht, hn⟩
  · simp [add1] <;> omega
  · simp [add1]; rw [Int.add_assoc]
  · simp [add1] <;> omega
  · simp [add1] <;> omega
  · simp [add1] <;> omega
  · have e1 := (land_bits h ⟨a0, a1⟩ ⟨b0, b1⟩).2
    have e2 := (land_bits h ⟨b0, b1⟩ ⟨c0, c1⟩).2
    have u1 : add1 6 p a b = bits .or .i64 a b := by simp [add1]
    have u2 : add1 6 p b c = bits .or .i64 b c := by simp [add1]
    have e3 := (land_bits h hab ⟨c0, c1⟩).2
    have e4 := (land_bits h ⟨a0, a1⟩ hbc).2
    have u3 : ∀ u v, add1 6 p u v = bits .or .i64 u v := fun u v => by simp [add1]
    rw [u3 (add1 6 p a b) c, u3 a (add1 6 p b c), e3, e4, u1, u2, e1, e2, Int.toNat_natCast, Int.toNat_natCast, Nat.or_assoc]
theorem mul1_comm (ha : InTop k p n a) (hb : InTop k p n b) : mul1 k p a b = mul1 k p b a := by
  unfold mul1
  split
  · rw [Int.mul_comm]
  · split
    · rw [Int.mul_comm]
    · split
      · omega
      · split
        · rename_i h6; subst h6
          rw [(land_bits h ha hb).1, (land_bits h hb ha).1, Nat.and_comm]
        · omega
theorem mul1_assoc (h7 : ¬ k = 7) (h8 : ¬ k = 8) (ha : InTop k p n a) (hb : InTop k p n b) (hc : InTop k p n c) : mul1 k p (mul1 k p a b) c = mul1 k p a (mul1 k p b c) := by
  have hab := mul1_top h h7 h8 ha hb
  have hbc := mul1_top h h7 h8 hb hc
  obtain ⟨a0, a1⟩ := ha; obtain ⟨b0, b1⟩ := hb; obtain ⟨c0, c1⟩ := hc
  rcases ring_scalar h h7 h8 with ⟨rfl, rfl, ht⟩ | ⟨rfl, hp, ht⟩ | ⟨rfl, hp, ht⟩ | ⟨rfl, hp, ht⟩ | ⟨rfl, hp, ht⟩ | ⟨rfl, ht, hn⟩
  · simp [mul1] <;> omega
  · simp only [mul1, if_true]; rw [mod_mul_in, mod_mul_in2, Int.mul_assoc]
  · have u : ∀ u v, mul1 3 p u v = min (u * v) p := fun u v => by simp [mul1]
    rw [u a b, u b c, u, u, cap_mul (Int.mul_nonneg a0 b0) c0 (by omega), Int.mul_comm a (min (b * c) p), cap_mul (Int.mul_nonneg b0 c0) a0 (by omega), Int.mul_assoc, Int.mul_comm a]
  · simp [mul1] <;> omega
  · simp [mul1] <;> omega
  · have e1 := (land_bits h ⟨a0, a1⟩ ⟨b0, b1⟩).1
    have e2 := (land_bits h ⟨b0, b1⟩ ⟨c0, c1⟩).1
    have e3 := (land_bits h hab ⟨c0, c1⟩).1
    have e4 := (land_bits h ⟨a0, a1⟩ hbc).1
    have u3 : ∀ u v, mul1 6 p u v = bits .and .i64 u v := fun u v => by simp [mul1]
    rw [u3 (mul1 6 p a b) c, u3 a (mul1 6 p b c), e3, e4, u3, u3, e1, e2, Int.toNat_natCast, Int.toNat_natCast, Nat.and_assoc]
theorem mul1_add (h7 : ¬ k = 7) (h8 : ¬ k = 8) (ha : InTop k p n a) (hb : InTop k p n b) (hc : InTop k p n c) : mul1 k p (add1 k p a b) c = add1 k p (mul1 k p a c) (mul1 k p b c) := by
  have hab := add1_top h ha hb
  have hac := mul1_top h h7 h8 ha hc
  have hbc := mul1_top h h7 h8 hb hc
  obtain ⟨a0, a1⟩ := ha; obtain ⟨b0, b1⟩ := hb; obtain ⟨c0, c1⟩ := hc
  rcases ring_scalar h h7 h8 with ⟨rfl, rfl, ht⟩ | ⟨rfl, hp, ht⟩ | ⟨rfl, hp, ht⟩ | ⟨rfl, hp, ht⟩ | ⟨rfl, hp, ht⟩ | ⟨rfl, ht, hn⟩
  · simp [mul1, add1] <;> omega
  · simp [mul1, add1]; rw [mod_mul_in, Int.add_mul]
  · simp [mul1, add1]
    rw [cap_mul (by omega) c0 (by omega), Int.add_mul]
    have := Int.mul_nonneg a0 c0
    have := Int.mul_nonneg b0 c0
    omega
  · simp [mul1, add1] <;> omega
  · simp [mul1, add1] <;> omega
  · have u1 : ∀ u v, mul1 6 p u v = bits .and .i64 u v := fun u v => by simp [mul1]
    have u2 : ∀ u v, add1 6 p u v = bits .or .i64 u v := fun u v => by simp [add1]
    have e1 := (land_bits h hab ⟨c0, c1⟩).1
    have e2 := (land_bits h hac hbc).2
    have e3 := (land_bits h ⟨a0, a1⟩ ⟨b0, b1⟩).2
    have e4 := (land_bits h ⟨a0, a1⟩ ⟨c0, c1⟩).1
    have e5 := (land_bits h ⟨b0, b1⟩ ⟨c0, c1⟩).1
    rw [u1 (add1 6 p a b) c, u2 (mul1 6 p a c), e1, e2, u2, u1, u1, e3, e4, e5]
    simp only [Int.toNat_natCast]
    rw [Nat.and_or_distrib_right]
theorem add1_zero (ha : InTop k p n a) : add1 k p a (if k = 4 then p else 0) = a := by
  obtain ⟨a0, a1⟩ := ha
  by_cases h7 : k = 7
  · subst h7
    have : ringTop 7 p n = p - 1 := by simp [ringTop]
    simp [add1]; exact Int.emod_eq_of_lt a0 (by omega)
  by_cases h8 : k = 8
  · subst h8
    have : ringTop 8 p n = p - 1 := by simp [ringTop]
    simp [add1]; exact Int.emod_eq_of_lt a0 (by omega)
  rcases ring_scalar h h7 h8 with ⟨rfl, rfl, ht⟩ | ⟨rfl, hp, ht⟩ | ⟨rfl, hp, ht⟩ | ⟨rfl, hp, ht⟩ | ⟨rfl, hp, ht⟩ | ⟨rfl, ht, hn⟩
  · simp [add1] <;> omega
  · simp [add1]; exact Int.emod_eq_of_lt a0 (by omega)
  · simp [add1] <;> omega
  · simp [add1] <;> omega
  · simp [add1] <;> omega
  · have hz : InTop 6 p n 0 := ⟨Int.le_refl _, by omega⟩
    have := (land_bits h ⟨a0, a1⟩ hz).2
    simp only [add1]
    simp
    rw [this]; simp; omega
theorem mul1_unit (h7 : ¬ k = 7) (h8 : ¬ k = 8) (ha : InTop k p n a) : mul1 k p a (unit k p n) = a := by
  obtain ⟨a0, a1⟩ := ha
  rcases ring_scalar h h7 h8 with ⟨rfl, rfl, ht⟩ | ⟨rfl, hp, ht⟩ | ⟨rfl, hp, ht⟩ | ⟨rfl, hp, ht⟩ | ⟨rfl, hp, ht⟩ | ⟨rfl, ht, hn⟩
  · simp [mul1, unit] <;> omega
  · simp [mul1, unit]; exact Int.emod_eq_of_lt a0 (by omega)
  · simp [mul1, unit] <;> omega
  · simp [mul1, unit] <;> omega
  · simp [mul1, unit] <;> omega
  · have hz : InTop 6 p n (2 ^ n.toNat - 1) := ⟨by omega, by omega⟩
    have := (land_bits h ⟨a0, a1⟩ hz).1
    have e : ((2 : Int) ^ n.toNat - 1).toNat = 2 ^ n.toNat - 1 := by
      have : ((2 ^ n.toNat : Nat) : Int) = (2 : Int) ^ n.toNat := by simp
      omega
    have e2 : a.toNat < 2 ^ n.toNat := by
      have : ((2 ^ n.toNat : Nat) : Int) = (2 : Int) ^ n.toNat := by simp
      omega
    simp only [mul1, unit]
    simp
    rw [this, e, Nat.and_two_pow_sub_one_eq_mod, Nat.mod_eq_of_lt e2]; omega
theorem mul1_zero (h7 : ¬ k = 7) (h8 : ¬ k = 8) (ha : InTop k p n a) : mul1 k p a (if k = 4 then p else 0) = (if k = 4 then p else 0) := by
  obtain ⟨a0, a1⟩ := ha
  rcases ring_scalar h h7 h8 with ⟨rfl, rfl, ht⟩ | ⟨rfl, hp, ht⟩ | ⟨rfl, hp, ht⟩ | ⟨rfl, hp, ht⟩ | ⟨rfl, hp, ht⟩ | ⟨rfl, ht, hn⟩
  · simp [mul1] <;> omega
  · simp [mul1]
  · simp [mul1] <;> omega
  · simp [mul1] <;> omega
  · simp [mul1] <;> omega
  · have hz : InTop 6 p n 0 := ⟨Int.le_refl _, by omega⟩
    have := (land_bits h ⟨a0, a1⟩ hz).1
    simp only [mul1]
    simp
    rw [this]; simp
end
theorem scalar_one {k p n : Int} {x : List Int} (h7 : ¬ k = 7) (h8 : ¬ k = 8) (hx : rawOk k p n x = true) : ∃ a, x = [a] ∧ InTop k p n a := by
  obtain ⟨hl, hv⟩ := rawOk_iff.1 hx
  have : ringWidth k n = 1 := by simp [ringWidth, h7, h8]
  rw [this] at hl
  match x, hl with
  | [a], _ => exact ⟨a, rfl, hv a (by simp)⟩
theorem poly_of {k p n : Int} (h : ringOk k p n = true) (hk : k = 7 ∨ k = 8) {x : List Int} (hx : rawOk k p n x = true) :
    x.length = (ringWidth k n).toNat ∧ Red p x ∧ ∀ v ∈ x, 0 ≤ v ∧ v ≤ ringTop k p n := by
  obtain ⟨hl, hv⟩ := rawOk_iff.1 hx
  refine ⟨by omega, fun m hm => ?_, hv⟩
  have := hv _ (cg_mem hm)
  have ht : ringTop k p n = p - 1 := by rcases hk with rfl | rfl <;> simp [ringTop]
  exact Int.emod_eq_of_lt this.1 (by omega)
theorem co_of {k p n : Int} (h : ringOk k p n = true) (hk : k = 7 ∨ k = 8) : Co (decide (k = 8)) (ringWidth k n).toNat ∧ 2 ≤ p := by
  have hw := ringOk_wide h
  refine ⟨⟨by have := hw.hi; omega, fun e => ?_⟩, ringOk_two h (by omega)⟩
  simp at e
  subst e
  simp [ringWidth]
theorem mulL_cnv {k p : Int} (hk : k = 7 ∨ k = 8) (x y : List Int) : mulL k p x y = cnv (decide (k = 8)) p x y := by simp [mulL, hk, cnv]
theorem addL_zip {k p : Int} (hk : k = 7 ∨ k = 8) (x y : List Int) : addL k p x y = List.zipWith (fun a b => (a + b) % p) x y := by
  unfold addL
  congr 1
  funext a b
  rcases hk with rfl | rfl <;> simp [add1]
theorem addL_one (k p a b : Int) : addL k p [a] [b] = [add1 k p a b] := rfl
theorem poly_or (k : Int) : (k = 7 ∨ k = 8) ∨ (¬ k = 7 ∧ ¬ k = 8) := by omega
section
variable {k p n : Int} {x y z : List Int} (h : ringOk k p n = true)
include h
theorem addL_comm (hx : rawOk k p n x = true) (hy : rawOk k p n y = true) : addL k p x y = addL k p y x := by
  obtain ⟨hl, hv⟩ := rawOk_iff.1 hx
  obtain ⟨hl2, hv2⟩ := rawOk_iff.1 hy
  apply cg_ext (by simp [addL]; omega)
  intro i hi
  simp [addL] at hi
  unfold addL
  rw [zip_cg (n := x.length) rfl (by omega) (by omega), zip_cg (n := x.length) (by omega) rfl (by omega)]
  exact add1_comm h (hv _ (cg_mem (by omega))) (hv2 _ (cg_mem (by omega)))
theorem addL_assoc (hx : rawOk k p n x = true) (hy : rawOk k p n y = true) (hz : rawOk k p n z = true) : addL k p (addL k p x y) z = addL k p x (addL k p y z) := by
  rcases poly_or k with hk | ⟨h7, h8⟩
  · obtain ⟨lx, rx, _⟩ := poly_of h hk hx
    obtain ⟨ly, ry, _⟩ := poly_of h hk hy
    obtain ⟨lz, rz, _⟩ := poly_of h hk hz
    simp only [addL_zip hk]
    apply cg_ext (by simp <;> omega)
    intro i hi
    simp at hi
    have q1 : (List.zipWith (fun a b => (a + b) % p) x y).length = (ringWidth k n).toNat := by simp; omega
    have q2 : (List.zipWith (fun a b => (a + b) % p) y z).length = (ringWidth k n).toNat := by simp; omega
    rw [zip_cg q1 lz (by omega), zip_cg lx q2 (by omega), zip_cg lx ly (by omega), zip_cg ly lz (by omega)]
    simp only [Int.emod_add_emod, Int.add_emod_emod]
    rw [Int.add_assoc]
  · obtain ⟨a, rfl, ha⟩ := scalar_one h7 h8 hx
    obtain ⟨b, rfl, hb⟩ := scalar_one h7 h8 hy
    obtain ⟨c, rfl, hc⟩ := scalar_one h7 h8 hz
    simp only [addL_one]
    rw [add1_assoc h h7 h8 ha hb hc]
theorem zeroL_cg (m : Nat) (hm : m < (ringWidth k n).toNat) : cg (zeroL k p n) m = if k = 4 then p else 0 := by
  unfold zeroL
  split
  · rename_i h4; subst h4
    have : ringWidth 4 n = 1 := by simp [ringWidth]
    rw [this] at hm ⊢
    obtain rfl : m = 0 := by simp at hm; omega
    rw [cg_set (by simp), if_pos rfl]
  · exact cg_replicate _ _
theorem addL_zero (hx : rawOk k p n x = true) : addL k p x (zeroL k p n) = x := by
  obtain ⟨hl, hv⟩ := rawOk_iff.1 hx
  have hz : (zeroL k p n).length = x.length := by rw [zeroL_length]; omega
  apply cg_ext (by simp [addL]; omega)
  intro i hi
  simp [addL] at hi
  unfold addL
  rw [zip_cg (n := x.length) rfl (by omega) (by omega), zeroL_cg h i (by omega)]
  exact add1_zero h (hv _ (cg_mem (by omega)))
theorem mulL_comm (hx : rawOk k p n x = true) (hy : rawOk k p n y = true) : mulL k p x y = mulL k p y x := by
  rcases poly_or k with hk | ⟨h7, h8⟩
  · obtain ⟨lx, rx, _⟩ := poly_of h hk hx
    obtain ⟨ly, ry, _⟩ := poly_of h hk hy
    obtain ⟨hc, hp⟩ := co_of h hk
    rw [mulL_cnv hk, mulL_cnv hk, cnv_comm hc p lx ly]
  · obtain ⟨a, rfl, ha⟩ := scalar_one h7 h8 hx
    obtain ⟨b, rfl, hb⟩ := scalar_one h7 h8 hy
    rw [mulL_one h7 h8, mulL_one h7 h8, mul1_comm h ha hb]
theorem mulL_assoc (hx : rawOk k p n x = true) (hy : rawOk k p n y = true) (hz : rawOk k p n z = true) : mulL k p (mulL k p x y) z = mulL k p x (mulL k p y z) := by
  rcases poly_or k with hk | ⟨h7, h8⟩
  · obtain ⟨lx, rx, _⟩ := poly_of h hk hx
    obtain ⟨ly, ry, _⟩ := poly_of h hk hy
    obtain ⟨lz, rz, _⟩ := poly_of h hk hz
    obtain ⟨hc, hp⟩ := co_of h hk
    simp only [mulL_cnv hk]
    rw [cnv_assoc hc p lx ly lz]
  · obtain ⟨a, rfl, ha⟩ := scalar_one h7 h8 hx
    obtain ⟨b, rfl, hb⟩ := scalar_one h7 h8 hy
    obtain ⟨c, rfl, hc⟩ := scalar_one h7 h8 hz
    simp only [mulL_one h7 h8]
    rw [mul1_assoc h h7 h8 ha hb hc]
theorem mulL_add (hx : rawOk k p n x = true) (hy : rawOk k p n y = true) (hz : rawOk k p n z = true) : mulL k p (addL k p x y) z = addL k p (mulL k p x z) (mulL k p y z) := by
  rcases poly_or k with hk | ⟨h7, h8⟩
  · obtain ⟨lx, rx, _⟩ := poly_of h hk hx
    obtain ⟨ly, ry, _⟩ := poly_of h hk hy
    obtain ⟨lz, rz, _⟩ := poly_of h hk hz
    obtain ⟨hc, hp⟩ := co_of h hk
    simp only [mulL_cnv hk, addL_zip hk]
    rw [cnv_add hc p lx ly lz]
  · obtain ⟨a, rfl, ha⟩ := scalar_one h7 h8 hx
    obtain ⟨b, rfl, hb⟩ := scalar_one h7 h8 hy
    obtain ⟨c, rfl, hc⟩ := scalar_one h7 h8 hz
    simp only [mulL_one h7 h8, addL_one]
    rw [mul1_add h h7 h8 ha hb hc]
theorem mulL_unit (hx : rawOk k p n x = true) : mulL k p x (oneL k p n) = x := by
  rcases poly_or k with hk | ⟨h7, h8⟩
  · obtain ⟨lx, rx, _⟩ := poly_of h hk hx
    obtain ⟨hc, hp⟩ := co_of h hk
    have hu : unit k p n = 1 := by rcases hk with rfl | rfl <;> simp [unit]
    rw [mulL_cnv hk, oneL, hu, cnv_one hc p lx rx hp]
  · obtain ⟨a, rfl, ha⟩ := scalar_one h7 h8 hx
    have : ringWidth k n = 1 := by simp [ringWidth, h7, h8]
    rw [oneL, this]
    show mulL k p [a] [unit k p n] = [a]
    rw [mulL_one h7 h8, mul1_unit h h7 h8 ha]
theorem mulL_zero (hx : rawOk k p n x = true) : mulL k p x (zeroL k p n) = zeroL k p n := by
  rcases poly_or k with hk | ⟨h7, h8⟩
  · obtain ⟨lx, rx, _⟩ := poly_of h hk hx
    obtain ⟨hc, hp⟩ := co_of h hk
    have hz : zeroL k p n = List.replicate (ringWidth k n).toNat 0 := by
      have : ¬ k = 4 := by omega
      simp [zeroL, this]
    rw [mulL_cnv hk, hz, cnv_zero hc p lx]
  · obtain ⟨a, rfl, ha⟩ := scalar_one h7 h8 hx
    have hw : ringWidth k n = 1 := by simp [ringWidth, h7, h8]
    have hz : zeroL k p n = [if k = 4 then p else 0] := by
      unfold zeroL
      rw [hw]
      split <;> rfl
    rw [hz, mulL_one h7 h8, mul1_zero h h7 h8 ha]
end
end Go.Proofs.YtlgjddgajdjllaaGreat
