/- Homomorphisms keep zero, one, sums and products: the plain law. -/
import Derived.Test.YtpegckmagiaggaaCBase
import Derived.Test.YtpegckmagiaggaaCHomA
import Derived.Test.YtpegckmagiaggaaCAlg
import Derived.Test.YtpegckmagiaggaaCAddsS
import Derived.Test.YtpegckmagiaggaaCClosed
import Derived.Test.YtpegckmagiaggaaCMulsS
import Derived.Test.YtpegckmagiaggaaCMulsI
import Derived.Test.YtpegckmagiaggaaCHomC
namespace Go.Proofs.Ytpegckmagiaggaa
open Go.RowKit
set_option linter.unusedSimpArgs false
set_option linter.unusedVariables false

theorem and1 (n : Int) : bits .and .i64 n 1 = n % 2 := by
  have h : (BitVec.ofInt 64 1).toNat = 2 ^ 1 - 1 := by decide
  have key : (BitVec.ofInt 64 n &&& BitVec.ofInt 64 1).toNat = (n % ((2 ^ 64 : Nat) : Int)).toNat % 2 ^ 1 := by
    rw [BitVec.toNat_and, BitVec.toNat_ofInt, h, Nat.and_two_pow_sub_one_eq_mod]
  show IntKind.i64.wrap ((BitVec.ofInt 64 n &&& BitVec.ofInt 64 1).toNat : Nat) = n % 2
  rw [key, IntKind.wrap_i64]
  omega
theorem bitOf_test (a i : Nat) : bitOf (a : Int) (i : Int) = a.testBit i := by
  unfold bitOf
  rw [and1, Nat.testBit_eq_decide_div_mod_eq]
  have e : (a : Int) / 2 ^ (i : Int).toNat % 2 = ((a / 2 ^ i % 2 : Nat) : Int) := by simp
  rw [e]
  generalize a / 2 ^ i % 2 = q
  rw [Bool.eq_iff_iff, beq_iff_eq, decide_eq_true_iff]
  omega
/-- A homomorphism of valid rings keeps all. -/
structure Keeps (fk fp fn tk tp tn hk ha : Int) : Prop where
  ok : ∀ x, rawOk fk fp fn x = true → rawOk tk tp tn (homL fk fp tk tp tn hk ha x) = true
  zero : homL fk fp tk tp tn hk ha (zeroL fk fp fn) = zeroL tk tp tn
  one : homL fk fp tk tp tn hk ha (oneL fk fp fn) = oneL tk tp tn
  add : ∀ x y, rawOk fk fp fn x = true → rawOk fk fp fn y = true → homL fk fp tk tp tn hk ha (addL fk fp x y) = addL tk tp (homL fk fp tk tp tn hk ha x) (homL fk fp tk tp tn hk ha y)
  mul : ∀ x y, rawOk fk fp fn x = true → rawOk fk fp fn y = true → homL fk fp tk tp tn hk ha (mulL fk fp x y) = mulL tk tp (homL fk fp tk tp tn hk ha x) (homL fk fp tk tp tn hk ha y)
theorem zero_one {k p n : Int} (h7 : ¬ k = 7) (h8 : ¬ k = 8) : zeroL k p n = [if k = 4 then p else 0] := by
  have hw : ringWidth k n = 1 := by simp [ringWidth, h7, h8]
  unfold zeroL
  rw [hw]
  split <;> rfl
theorem one_one {k p n : Int} (h7 : ¬ k = 7) (h8 : ¬ k = 8) : oneL k p n = [unit k p n] := by
  have hw : ringWidth k n = 1 := by simp [ringWidth, h7, h8]
  unfold oneL
  rw [hw]; rfl
theorem ok_one {k p n : Int} (h7 : ¬ k = 7) (h8 : ¬ k = 8) (a : Int) : rawOk k p n [a] = true ↔ InTop k p n a := by
  have hw : ringWidth k n = 1 := by simp [ringWidth, h7, h8]
  rw [rawOk_iff, hw]
  simp [InTop]
/-- From scalars to scalars. -/
theorem keeps_scalar {fk fp fn tk tp tn hk ha : Int} (f : Int → Int) (f7 : ¬ fk = 7) (f8 : ¬ fk = 8) (t7 : ¬ tk = 7) (t8 : ¬ tk = 8) (hf : ∀ a, homL fk fp tk tp tn hk ha [a] = [f a])
    (hok : ∀ a, InTop fk fp fn a → InTop tk tp tn (f a)) (hz : f (if fk = 4 then fp else 0) = if tk = 4 then tp else 0) (ho : f (unit fk fp fn) = unit tk tp tn)
    (hadd : ∀ a b, InTop fk fp fn a → InTop fk fp fn b → f (add1 fk fp a b) = add1 tk tp (f a) (f b)) (hmul : ∀ a b, InTop fk fp fn a → InTop fk fp fn b → f (mul1 fk fp a b) = mul1 tk tp (f a) (f b)) : Keeps fk fp fn tk tp tn hk ha := by
  refine ⟨fun x hx => ?_, ?_, ?_, fun x y hx hy => ?_, fun x y hx hy => ?_⟩
  · obtain ⟨a, rfl, ia⟩ := scalar_one f7 f8 hx
    rw [hf, ok_one t7 t8]; exact hok a ia
  · rw [zero_one f7 f8, hf, hz, zero_one t7 t8]
  · rw [one_one f7 f8, hf, ho, one_one t7 t8]
  · obtain ⟨a, rfl, ia⟩ := scalar_one f7 f8 hx
    obtain ⟨b, rfl, ib⟩ := scalar_one f7 f8 hy
    rw [addL_one, hf, hf, hf, addL_one, hadd a b ia ib]
  · obtain ⟨a, rfl, ia⟩ := scalar_one f7 f8 hx
    obtain ⟨b, rfl, ib⟩ := scalar_one f7 f8 hy
    rw [mulL_one f7 f8, hf, hf, hf, mulL_one t7 t8, hmul a b ia ib]
theorem top1 (p n : Int) : ringTop 1 p n = 1 := by simp [ringTop]
theorem keeps1 {k p n ha : Int} : Keeps k p n k p n 1 ha := by
  have e : ∀ x, homL k p k p n 1 ha x = x := fun x => by simp [homL]
  exact ⟨fun x hx => by rw [e]; exact hx, by rw [e], by rw [e], fun x y _ _ => by rw [e, e, e], fun x y _ _ => by rw [e, e, e]⟩
theorem keeps2 {fk fp fn tp tn ha : Int} (h : ringOk fk fp fn = true) (hk : fk = 3 ∨ fk = 4) : Keeps fk fp fn 1 tp tn 2 ha := by
  have hp := (ringOk_pos h (by omega)).1
  rcases hk with rfl | rfl
  · have ht : ringTop 3 fp fn = fp := by simp [ringTop]
    refine keeps_scalar (fun a => if 0 < a then 1 else 0) (by omega) (by omega) (by omega) (by omega) (fun a => by simp [homL, cg, boolL]) (fun a _ => by simp only [InTop, top1]; split <;> omega) (by simp) (by simp [unit]) (fun a b ia ib => ?_) (fun a b ia ib => ?_)
    · obtain ⟨a0, a1⟩ := ia; obtain ⟨b0, b1⟩ := ib
      simp only [add1]; simp
      split <;> split <;> split <;> omega
    · obtain ⟨a0, a1⟩ := ia; obtain ⟨b0, b1⟩ := ib
      have e : mul1 3 fp a b = min (a * b) fp := by simp [mul1]
      have e2 : ∀ u v, mul1 1 tp u v = min u v := fun u v => by simp [mul1]
      simp only [e, e2]
      by_cases ha0 : 0 < a
      · by_cases hb0 : 0 < b
        · have := Int.mul_pos ha0 hb0
          rw [if_pos ha0, if_pos hb0, if_pos (by omega)]; rfl
        · obtain rfl : b = 0 := by omega
          simp; split <;> omega
      · obtain rfl : a = 0 := by omega
        simp; split <;> omega
  · have ht : ringTop 4 fp fn = fp := by simp [ringTop]
    refine keeps_scalar (fun a => if a = 0 then 1 else 0) (by omega) (by omega) (by omega) (by omega) (fun a => by simp [homL, cg, boolL]) (fun a _ => by simp only [InTop, top1]; split <;> omega) (by simp; omega) (by simp [unit]) (fun a b ia ib => ?_) (fun a b ia ib => ?_)
    · obtain ⟨a0, a1⟩ := ia; obtain ⟨b0, b1⟩ := ib
      simp only [add1]; simp
      split <;> split <;> split <;> omega
    · obtain ⟨a0, a1⟩ := ia; obtain ⟨b0, b1⟩ := ib
      simp only [mul1]; simp
      split <;> split <;> split <;> omega
theorem keeps3 {fp fn tp tn ha : Int} (h : ringOk 6 fp fn = true) (h0 : 0 ≤ ha) (h1 : ha < fn) : Keeps 6 fp fn 1 tp tn 3 ha := by
  obtain ⟨i, rfl⟩ : ∃ i : Nat, ha = (i : Int) := ⟨ha.toNat, by omega⟩
  have hb := ringOk_bounds h
  have ht : ringTop 6 fp fn = 2 ^ fn.toNat - 1 := by simp [ringTop]
  refine keeps_scalar (fun a => if bitOf a i = true then 1 else 0) (by omega) (by omega) (by omega) (by omega) (fun a => by simp [homL, cg, boolL]) (fun a _ => by simp only [InTop, top1]; split <;> omega) ?_ ?_ (fun a b ia ib => ?_) (fun a b ia ib => ?_)
  · have := bitOf_test 0 i
    simp at this
    simp [this]
  · have e : ((2 : Int) ^ fn.toNat - 1) = ((2 ^ fn.toNat - 1 : Nat) : Int) := by
      have h1 : ((2 ^ fn.toNat : Nat) : Int) = (2 : Int) ^ fn.toNat := by simp
      have h2 : 0 < 2 ^ fn.toNat := Nat.pow_pos (by omega)
      omega
    have u : unit 6 fp fn = 2 ^ fn.toNat - 1 := by simp [unit]
    rw [u, e, bitOf_test, Nat.testBit_two_pow_sub_one]
    have : i < fn.toNat := by omega
    simp [this, unit]
  · have e1 := (land_bits h ia ib).2
    obtain ⟨a', rfl⟩ : ∃ a' : Nat, a = (a' : Int) := ⟨a.toNat, by have := ia.1; omega⟩
    obtain ⟨b', rfl⟩ : ∃ b' : Nat, b = (b' : Int) := ⟨b.toNat, by have := ib.1; omega⟩
    have u : add1 6 fp a' b' = bits .or .i64 a' b' := by simp [add1]
    rw [u, e1]
    simp only [Int.toNat_natCast]
    simp only [bitOf_test, Nat.testBit_or]
    cases a'.testBit i <;> cases b'.testBit i <;> simp [add1] <;> decide
  · have e1 := (land_bits h ia ib).1
    obtain ⟨a', rfl⟩ : ∃ a' : Nat, a = (a' : Int) := ⟨a.toNat, by have := ia.1; omega⟩
    obtain ⟨b', rfl⟩ : ∃ b' : Nat, b = (b' : Int) := ⟨b.toNat, by have := ib.1; omega⟩
    have u : mul1 6 fp a' b' = bits .and .i64 a' b' := by simp [mul1]
    rw [u, e1]
    simp only [Int.toNat_natCast]
    simp only [bitOf_test, Nat.testBit_and]
    cases a'.testBit i <;> cases b'.testBit i <;> simp [mul1] <;> decide
theorem keeps4 {fp fn tp tn ha : Int} (h : ringOk 5 fp fn = true) (h0 : 1 ≤ ha) (h1 : ha ≤ fp) : Keeps 5 fp fn 1 tp tn 4 ha := by
  have ht : ringTop 5 fp fn = fp := by simp [ringTop]
  refine keeps_scalar (fun a => if ha ≤ a then 1 else 0) (by omega) (by omega) (by omega) (by omega) (fun a => by simp [homL, cg, boolL]) (fun a _ => by simp only [InTop, top1]; split <;> omega) (by simp; omega) (by simp [unit]; omega) (fun a b ia ib => ?_) (fun a b ia ib => ?_)
  · simp only [add1]; simp
    split <;> split <;> split <;> omega
  · simp only [mul1]; simp
    split <;> split <;> split <;> omega
theorem keeps7c {k fp fn tp tn ha : Int} (h : ringOk k fp fn = true) (h2 : ringOk k tp tn = true) (hk : k = 3 ∨ k = 4 ∨ k = 5) (hle : tp ≤ fp) : Keeps k fp fn k tp tn 7 ha := by
  have hp := (ringOk_pos h (by omega)).1
  have hp2 := (ringOk_pos h2 (by omega)).1
  have ht : ringTop k fp fn = fp := by rcases hk with rfl | rfl | rfl <;> simp [ringTop]
  have ht2 : ringTop k tp tn = tp := by rcases hk with rfl | rfl | rfl <;> simp [ringTop]
  refine keeps_scalar (fun a => min a tp) (by omega) (by omega) (by omega) (by omega) (fun a => ?_) (fun a ia => ?_) ?_ ?_ (fun a b ia ib => ?_) (fun a b ia ib => ?_)
  · have : ¬ k = 7 := by omega
    have : ¬ k = 6 := by omega
    simp [homL, cg, *]
  · have := ia.1; exact ⟨by omega, by omega⟩
  · split <;> omega
  · rcases hk with rfl | rfl | rfl <;> simp [unit] <;> omega
  · obtain ⟨a0, a1⟩ := ia; obtain ⟨b0, b1⟩ := ib
    rcases hk with rfl | rfl | rfl <;> simp [add1] <;> omega
  · obtain ⟨a0, a1⟩ := ia; obtain ⟨b0, b1⟩ := ib
    rcases hk with rfl | rfl | rfl
    · have e : ∀ q u v, mul1 3 q u v = min (u * v) q := fun q u v => by simp [mul1]
      rw [e, e, cap_mul a0 (by omega) (by omega), Int.mul_comm a (min b tp), cap_mul b0 a0 (by omega), Int.mul_comm b a]
      omega
    · simp [mul1]; omega
    · simp [mul1]; omega
theorem keeps7b {fp fn tp tn ha : Int} (h : ringOk 6 fp fn = true) (h2 : ringOk 6 tp tn = true) (hle : tn ≤ fn) : Keeps 6 fp fn 6 tp tn 7 ha := by
  have hb := ringOk_bounds h
  have hb2 := ringOk_bounds h2
  have ht : ringTop 6 fp fn = 2 ^ fn.toNat - 1 := by simp [ringTop]
  have ht2 : ringTop 6 tp tn = 2 ^ tn.toNat - 1 := by simp [ringTop]
  have p1 := pow_small fn.toNat (by omega)
  have p2 := pow_small tn.toNat (by omega)
  have c1 : ((2 ^ fn.toNat : Nat) : Int) = (2 : Int) ^ fn.toNat := by simp
  have c2 : ((2 ^ tn.toNat : Nat) : Int) = (2 : Int) ^ tn.toNat := by simp
  have hmono : (2 : Nat) ^ tn.toNat ≤ 2 ^ fn.toNat := Nat.pow_le_pow_right (by omega) (by omega)
  have hM : InTop 6 fp fn (2 ^ tn.toNat - 1) := ⟨by omega, by omega⟩
  have eM : ((2 : Int) ^ tn.toNat - 1).toNat = 2 ^ tn.toNat - 1 := by omega
  -- the mask
  have hf : ∀ a, InTop 6 fp fn a → bits .and .i64 a (2 ^ tn.toNat - 1) = ((a.toNat % 2 ^ tn.toNat : Nat) : Int) := fun a ia => by
    rw [(land_bits h ia hM).1, eM, Nat.and_two_pow_sub_one_eq_mod]
  have hft : ∀ a, InTop 6 fp fn a → InTop 6 tp tn (bits .and .i64 a (2 ^ tn.toNat - 1)) := fun a ia => by
    rw [hf a ia]
    have : a.toNat % 2 ^ tn.toNat < 2 ^ tn.toNat := Nat.mod_lt _ (Nat.pow_pos (by omega))
    exact ⟨by omega, by omega⟩
  refine keeps_scalar (fun a => bits .and .i64 a (2 ^ tn.toNat - 1)) (by omega) (by omega) (by omega) (by omega) (fun a => by simp [homL, cg]) hft ?_ ?_ (fun a b ia ib => ?_) (fun a b ia ib => ?_)
  · have := hf 0 ⟨by omega, by omega⟩
    simp at this
    simp [this]
  · have u : unit 6 fp fn = 2 ^ fn.toNat - 1 := by simp [unit]
    have u2 : unit 6 tp tn = 2 ^ tn.toNat - 1 := by simp [unit]
    rw [u, u2]
    show bits .and .i64 (2 ^ fn.toNat - 1) (2 ^ tn.toNat - 1) = 2 ^ tn.toNat - 1
    rw [hf _ ⟨by omega, by omega⟩]
    have e1 : ((2 : Int) ^ fn.toNat - 1).toNat = 2 ^ fn.toNat - 1 := by omega
    rw [e1]
    have e2 : (2 ^ fn.toNat - 1) % 2 ^ tn.toNat = 2 ^ tn.toNat - 1 := by
      obtain ⟨d, hd⟩ : ∃ d, fn.toNat = tn.toNat + d := ⟨fn.toNat - tn.toNat, by omega⟩
      rw [hd, Nat.pow_add]
      have hpos : 0 < 2 ^ tn.toNat := Nat.pow_pos (by omega)
      have hpos2 : 0 < 2 ^ d := Nat.pow_pos (by omega)
      have : 2 ^ tn.toNat * 2 ^ d - 1 = (2 ^ tn.toNat - 1) + 2 ^ tn.toNat * (2 ^ d - 1) := by
        rw [Nat.mul_sub, Nat.mul_one]
        have : 2 ^ tn.toNat * 1 ≤ 2 ^ tn.toNat * 2 ^ d := Nat.mul_le_mul_left _ hpos2
        omega
      rw [this, Nat.add_mul_mod_self_left, Nat.mod_eq_of_lt (by omega)]
    rw [e2]; omega
  · have ab := add1_top h ia ib
    have u : ∀ q a b, add1 6 q a b = bits .or .i64 a b := fun q a b => by simp [add1]
    show bits .and .i64 (add1 6 fp a b) (2 ^ tn.toNat - 1) = add1 6 tp (bits .and .i64 a (2 ^ tn.toNat - 1)) (bits .and .i64 b (2 ^ tn.toNat - 1))
    rw [u tp, (land_bits h2 (hft a ia) (hft b ib)).2, (land_bits h ab hM).1, u fp, (land_bits h ia ib).2, (land_bits h ia hM).1, (land_bits h ib hM).1]
    simp only [Int.toNat_natCast]
    rw [Nat.and_or_distrib_right]
  · have ab := mul1_top h (by omega) (by omega) ia ib
    have u : ∀ q a b, mul1 6 q a b = bits .and .i64 a b := fun q a b => by simp [mul1]
    show bits .and .i64 (mul1 6 fp a b) (2 ^ tn.toNat - 1) = mul1 6 tp (bits .and .i64 a (2 ^ tn.toNat - 1)) (bits .and .i64 b (2 ^ tn.toNat - 1))
    rw [u tp, (land_bits h2 (hft a ia) (hft b ib)).1, (land_bits h ab hM).1, u fp, (land_bits h ia ib).1, (land_bits h ia hM).1, (land_bits h ib hM).1]
    simp only [Int.toNat_natCast]
    congr 1
    apply Nat.eq_of_testBit_eq
    intro j
    simp only [Nat.testBit_and]
    cases a.toNat.testBit j <;> cases b.toNat.testBit j <;> cases (2 ^ tn.toNat - 1 : Int).toNat.testBit j <;> rfl
theorem keeps8 {fp fn tk tp tn ha : Int} (h2 : ringOk tk tp tn = true) (hk : tk = 4 ∨ tk = 5 ∨ tk = 6) : Keeps 1 fp fn tk tp tn 8 ha := by
  have zo := rawOk_zero h2
  have oo := rawOk_one h2
  have z1 : zeroL 1 fp fn = [0] := by rw [zero_one (by omega) (by omega)]; simp
  have o1 : oneL 1 fp fn = [1] := by rw [one_one (by omega) (by omega)]; simp [unit]
  have hz : homL 1 fp tk tp tn 8 ha [0] = zeroL tk tp tn := by simp [homL, cg]
  have ho : homL 1 fp tk tp tn 8 ha [1] = oneL tk tp tn := by simp [homL, cg]
  have hoo : addL tk tp (oneL tk tp tn) (oneL tk tp tn) = oneL tk tp tn := by
    rw [one_one (by omega) (by omega), addL_one]
    rcases hk with rfl | rfl | rfl
    · simp [add1]
    · simp [add1]
    · have hu : InTop 6 tp tn (unit 6 tp tn) := by rw [one_one (by omega) (by omega), ok_one (by omega) (by omega)] at oo; exact oo
      have := (land_bits h2 hu hu).2
      have e : add1 6 tp (unit 6 tp tn) (unit 6 tp tn) = bits .or .i64 (unit 6 tp tn) (unit 6 tp tn) := by simp [add1]
      rw [e, this, Nat.or_self]
      congr 1
      have := hu.1
      omega
  have cases1 : ∀ x, rawOk 1 fp fn x = true → x = [0] ∨ x = [1] := fun x hx => by
    obtain ⟨a, rfl, ia⟩ := scalar_one (by omega) (by omega) hx
    have := ia.1; have := ia.2; rw [top1] at this
    have : a = 0 ∨ a = 1 := by omega
    rcases this with rfl | rfl
    · exact .inl rfl
    · exact .inr rfl
  refine ⟨fun x hx => ?_, by rw [z1, hz], by rw [o1, ho], fun x y hx hy => ?_, fun x y hx hy => ?_⟩
  · rcases cases1 x hx with rfl | rfl
    · rw [hz]; exact zo
    · rw [ho]; exact oo
  · rcases cases1 x hx with rfl | rfl <;> rcases cases1 y hy with rfl | rfl
    · rw [show addL 1 fp [0] [0] = [0] by simp [addL, add1], hz, addL_zero h2 zo]
    · rw [show addL 1 fp [0] [1] = [1] by simp [addL, add1]; decide, hz, ho, zero_addL h2 oo]
    · rw [show addL 1 fp [1] [0] = [1] by simp [addL, add1]; decide, hz, ho, addL_zero h2 oo]
    · rw [show addL 1 fp [1] [1] = [1] by simp [addL, add1], ho, hoo]
  · rcases cases1 x hx with rfl | rfl <;> rcases cases1 y hy with rfl | rfl
    · rw [show mulL 1 fp [0] [0] = [0] by simp [mulL, mul1], hz, mulL_zero h2 zo]
    · rw [show mulL 1 fp [0] [1] = [0] by simp [mulL, mul1]; decide, hz, ho, zero_mulL h2 oo]
    · rw [show mulL 1 fp [1] [0] = [0] by simp [mulL, mul1]; decide, hz, ho, mulL_zero h2 oo]
    · rw [show mulL 1 fp [1] [1] = [1] by simp [mulL, mul1], ho, mulL_unit h2 oo]

/-! ### polynomials -/
theorem sm_cut {n t : Nat} {f : Nat → Int} (ht : t ≤ n) (h : ∀ i, t ≤ i → i < n → f i = 0) : sm n f = sm t f := by
  induction n with
  | zero => obtain rfl : t = 0 := by omega
            rfl
  | succ n ih =>
    by_cases e : t = n + 1
    · subst e; rfl
    · rw [sm, h n (by omega) (by omega), ih (by omega) (fun i h1 h2 => h i h1 (by omega))]; omega
theorem cf_f {n k m : Nat} (hm : m < n) : cf false n k m = if k = m then 1 else 0 := by
  unfold cf
  by_cases h : k < n
  · rw [if_pos h]
  · have : ¬ k = m := by omega
    rw [if_neg h]; simp [this]
theorem keeps5 {fp fn tn ha : Int} (h : ringOk 7 fp fn = true) (h2 : ringOk 2 fp tn = true) : Keeps 7 fp fn 2 fp tn 5 ha := by
  obtain ⟨hc, hp⟩ := co_of h (.inl rfl)
  have e7 : decide ((7 : Int) = 8) = false := by decide
  rw [e7] at hc
  have hw : ringWidth 7 fn = fn := by simp [ringWidth]
  have hw2 : ringWidth 2 tn = 1 := by simp [ringWidth]
  have hwl := (ringOk_wide h).lo
  have hpos : 0 < (ringWidth 7 fn).toNat := by omega
  have hH : ∀ x, homL 7 fp 2 fp tn 5 ha x = [cg x 0] := fun x => by simp [homL]
  have htop : ringTop 7 fp fn = fp - 1 := by simp [ringTop]
  have htop2 : ringTop 2 fp tn = fp - 1 := by simp [ringTop]
  refine ⟨fun x hx => ?_, ?_, ?_, fun x y hx hy => ?_, fun x y hx hy => ?_⟩
  · obtain ⟨lx, _, bx⟩ := poly_of h (.inl rfl) hx
    rw [hH, ok_one (by omega) (by omega)]
    have := bx _ (cg_mem (show 0 < x.length by omega))
    exact ⟨this.1, by omega⟩
  · rw [hH, zeroL_cg h 0 hpos, zero_one (by omega) (by omega)]; simp
  · rw [hH, one_one (k := 2) (by omega) (by omega), oneL, cg_set (by simp; omega)]; simp [unit]
  · obtain ⟨lx, _, _⟩ := poly_of h (.inl rfl) hx
    obtain ⟨ly, _, _⟩ := poly_of h (.inl rfl) hy
    rw [hH, hH, hH, addL_one, addL_zip (.inl rfl), zip_cg lx ly hpos]
    simp [add1]
  · obtain ⟨lx, _, _⟩ := poly_of h (.inl rfl) hx
    obtain ⟨ly, _, _⟩ := poly_of h (.inl rfl) hy
    rw [hH, hH, hH, mulL_one (by omega) (by omega), mulL_cnv (.inl rfl), e7, cnv_cg hc fp lx ly hpos]
    rw [sm_one (k := 0) hpos (fun s hs h0 => by
      rw [sm_congr (g := fun _ => 0) (fun t ht => by rw [cf_f hpos, if_neg (by omega)]; simp), sm_zero])]
    rw [sm_one (k := 0) hpos (fun t ht h0 => by rw [cf_f hpos, if_neg (by omega)]; simp)]
    rw [cf_f hpos]
    simp [mul1]
theorem take_cg {l : List Int} {t m : Nat} (hm : m < t) : cg (l.take t) m = cg l m := by
  unfold cg; rw [List.getElem?_take_of_lt hm]
theorem keeps7a {fp fn tn ha : Int} (h : ringOk 7 fp fn = true) (h2 : ringOk 7 fp tn = true) (hle : tn ≤ fn) : Keeps 7 fp fn 7 fp tn 7 ha := by
  obtain ⟨hc, hp⟩ := co_of h (.inl rfl)
  obtain ⟨hc2, _⟩ := co_of h2 (.inl rfl)
  have e7 : decide ((7 : Int) = 8) = false := by decide
  rw [e7] at hc hc2
  have hw : ringWidth 7 fn = fn := by simp [ringWidth]
  have hw2 : ringWidth 7 tn = tn := by simp [ringWidth]
  have hwl := (ringOk_wide h).lo
  have hwl2 := (ringOk_wide h2).lo
  have hH : ∀ x, homL 7 fp 7 fp tn 7 ha x = x.take tn.toNat := fun x => by simp [homL]
  have htop : ringTop 7 fp fn = fp - 1 := by simp [ringTop]
  have htop2 : ringTop 7 fp tn = fp - 1 := by simp [ringTop]
  rw [hw] at hc
  rw [hw2] at hc2
  refine ⟨fun x hx => ?_, ?_, ?_, fun x y hx hy => ?_, fun x y hx hy => ?_⟩
  · obtain ⟨lx, _, bx⟩ := poly_of h (.inl rfl) hx
    rw [hH, rawOk_iff, List.length_take, hw2]
    refine ⟨by omega, fun v hv => ?_⟩
    have := bx v (List.mem_of_mem_take hv)
    omega
  · rw [hH]
    have e1 : zeroL 7 fp fn = List.replicate fn.toNat 0 := by simp [zeroL, ringWidth]
    have e2 : zeroL 7 fp tn = List.replicate tn.toNat 0 := by simp [zeroL, ringWidth]
    rw [e1, e2, List.take_replicate]; congr 1; omega
  · rw [hH]
    apply cg_ext
    · rw [List.length_take, oneL_length, oneL_length, hw, hw2]; omega
    · intro m hm
      rw [List.length_take, oneL_length, hw] at hm
      rw [take_cg (by omega), oneL, oneL, cg_set (by rw [hw]; simp; omega), cg_set (by rw [hw2]; simp; omega)]
      simp [unit, cg_replicate]
  · obtain ⟨lx, _, _⟩ := poly_of h (.inl rfl) hx
    obtain ⟨ly, _, _⟩ := poly_of h (.inl rfl) hy
    rw [hH, hH, hH, addL_zip (.inl rfl), addL_zip (.inl rfl), List.take_zipWith]
  · obtain ⟨lx, _, _⟩ := poly_of h (.inl rfl) hx
    obtain ⟨ly, _, _⟩ := poly_of h (.inl rfl) hy
    rw [hw] at lx ly
    have lx2 : (x.take tn.toNat).length = tn.toNat := by rw [List.length_take]; omega
    have ly2 : (y.take tn.toNat).length = tn.toNat := by rw [List.length_take]; omega
    rw [hH, hH, hH, mulL_cnv (.inl rfl), mulL_cnv (.inl rfl), e7]
    apply cg_ext
    · rw [List.length_take, cnv_length, cnv_length, lx2]; omega
    · intro m hm
      rw [List.length_take, cnv_length] at hm
      have hmt : m < tn.toNat := by omega
      rw [take_cg hmt, cnv_cg hc fp lx ly (by omega), cnv_cg hc2 fp lx2 ly2 hmt]
      congr 1
      rw [sm_cut (t := tn.toNat) (by omega) (fun s h1 h2 => by
        rw [sm_congr (g := fun _ => 0) (fun t ht => by rw [cf_f (by omega), if_neg (by omega)]; simp), sm_zero])]
      apply sm_congr; intro s hs
      rw [sm_cut (t := tn.toNat) (by omega) (fun t h1 h2 => by rw [cf_f (by omega), if_neg (by omega)]; simp)]
      apply sm_congr; intro t ht
      rw [cf_f (by omega), cf_f hmt, take_cg hs, take_cg ht]

/-! ### values of polynomials -/
def ev (a : Int) : List Int → Int
  | [] => 0
  | b :: t => ev a t * a + b
theorem horner_ev (p a : Int) : ∀ l, horner p a l = ev a l % p
  | [] => rfl
  | b :: t => by
    rw [horner, ev, horner_ev p a t, Int.add_emod (ev a t % p * a), mod_mul_in, ← Int.add_emod]
theorem four {x : List Int} (h : x.length = 4) : x = [cg x 0, cg x 1, cg x 2, cg x 3] := by
  match x, h with
  | [a, b, c, d], _ => rfl
theorem ev_four (a : Int) {x : List Int} (h : x.length = 4) : ev a x = cg x 0 + cg x 1 * a + cg x 2 * (a * a) + cg x 3 * (a * a * a) := by
  rw [four h]
  simp only [ev]
  have e0 : cg [cg x 0, cg x 1, cg x 2, cg x 3] 0 = cg x 0 := rfl
  have e1 : cg [cg x 0, cg x 1, cg x 2, cg x 3] 1 = cg x 1 := rfl
  have e2 : cg [cg x 0, cg x 1, cg x 2, cg x 3] 2 = cg x 2 := rfl
  have e3 : cg [cg x 0, cg x 1, cg x 2, cg x 3] 3 = cg x 3 := rfl
  rw [e0, e1, e2, e3]
  grind
theorem sm4 (f : Nat → Int) : sm 4 f = f 0 + f 1 + f 2 + f 3 := by simp [sm]
theorem emod_congr {a b p : Int} (h : ∃ c, a = b + p * c) : a % p = b % p := by
  obtain ⟨c, rfl⟩ := h
  rw [Int.add_mul_emod_self_left]
theorem emod_split2 (a p : Int) : ∃ c, a % p = a + p * c := ⟨-(a / p), by have := Int.emod_add_mul_ediv a p; rw [Int.mul_neg]; omega⟩
theorem root_id (a p c x0 x1 x2 x3 y0 y1 y2 y3 c0 c1 c2 c3 : Int) (h : a * a * (a * a) = -1 + p * c) :
    (x0 * y0 - x1 * y3 - x2 * y2 - x3 * y1 + p * c0) + (x0 * y1 + x1 * y0 - x2 * y3 - x3 * y2 + p * c1) * a + (x0 * y2 + x1 * y1 + x2 * y0 - x3 * y3 + p * c2) * (a * a) + (x0 * y3 + x1 * y2 + x2 * y1 + x3 * y0 + p * c3) * (a * a * a) =
    (x0 + x1 * a + x2 * (a * a) + x3 * (a * a * a)) * (y0 + y1 * a + y2 * (a * a) + y3 * (a * a * a)) + p * (c0 + c1 * a + c2 * (a * a) + c3 * (a * a * a) - c * (x1 * y3 + x2 * y2 + x3 * y1 + (x2 * y3 + x3 * y2) * a + x3 * y3 * (a * a))) := by
  grind
theorem keeps6 {fp fn tn ha : Int} (h : ringOk 8 fp fn = true) (h2 : ringOk 2 fp tn = true) (hr : rootOk fp ha = true) : Keeps 8 fp fn 2 fp tn 6 ha := by
  obtain ⟨hc, hp⟩ := co_of h (.inr rfl)
  have e8 : decide ((8 : Int) = 8) = true := by decide
  rw [e8] at hc
  have hw : (ringWidth 8 fn).toNat = 4 := by simp [ringWidth]
  rw [hw] at hc
  have hH : ∀ x, homL 8 fp 2 fp tn 6 ha x = [ev ha x % fp] := fun x => by simp [homL, horner_ev]
  have htop2 : ringTop 2 fp tn = fp - 1 := by simp [ringTop]
  have hroot : ∃ c, ha * ha * (ha * ha) = -1 + fp * c := by
    simp [rootOk] at hr
    have h3 := hr.2
    obtain ⟨c1, e1⟩ := emod_split2 (ha * ha) fp
    obtain ⟨c2, e2⟩ := emod_split2 (ha * ha % fp * (ha * ha % fp)) fp
    rw [e2, e1] at h3
    refine ⟨1 - c2 - c1 * (ha * ha) - c1 * (ha * ha) - fp * (c1 * c1), ?_⟩
    grind
  obtain ⟨c, hroot⟩ := hroot
  refine ⟨fun x hx => ?_, ?_, ?_, fun x y hx hy => ?_, fun x y hx hy => ?_⟩
  · rw [hH, ok_one (by omega) (by omega)]
    have := mod_bound (ev ha x) (p := fp) (by omega)
    exact ⟨this.1, by omega⟩
  · have e : zeroL 8 fp fn = [0, 0, 0, 0] := by first | (simp [zeroL, ringWidth]; done) | (simp [zeroL, ringWidth]; rfl)
    rw [hH, e, zero_one (k := 2) (by omega) (by omega)]; simp [ev]
  · have e : oneL 8 fp fn = [1, 0, 0, 0] := by first | (simp [oneL, ringWidth, unit]; done) | (simp [oneL, ringWidth, unit]; rfl)
    rw [hH, e, one_one (k := 2) (by omega) (by omega)]
    simp [ev, unit]; exact Int.emod_eq_of_lt (by omega) (by omega)
  · obtain ⟨lx, _, _⟩ := poly_of h (.inr rfl) hx
    obtain ⟨ly, _, _⟩ := poly_of h (.inr rfl) hy
    rw [hw] at lx ly
    rw [hH, hH, hH, addL_one, addL_zip (.inr rfl)]
    have l3 : (List.zipWith (fun a b => (a + b) % fp) x y).length = 4 := by simp [lx, ly]
    rw [ev_four ha lx, ev_four ha ly, ev_four ha l3, zip_cg lx ly (by omega), zip_cg lx ly (by omega), zip_cg lx ly (by omega), zip_cg lx ly (by omega)]
    have ea : ∀ u v, add1 2 fp u v = (u + v) % fp := fun u v => by simp [add1]
    rw [ea, ← Int.add_emod]
    congr 1
    obtain ⟨c0, e0⟩ := emod_split2 (cg x 0 + cg y 0) fp
    obtain ⟨c1, e1⟩ := emod_split2 (cg x 1 + cg y 1) fp
    obtain ⟨c2, e2⟩ := emod_split2 (cg x 2 + cg y 2) fp
    obtain ⟨c3, e3⟩ := emod_split2 (cg x 3 + cg y 3) fp
    rw [e0, e1, e2, e3]
    apply emod_congr
    refine ⟨c0 + c1 * ha + c2 * (ha * ha) + c3 * (ha * ha * ha), ?_⟩
    grind
  · obtain ⟨lx, _, _⟩ := poly_of h (.inr rfl) hx
    obtain ⟨ly, _, _⟩ := poly_of h (.inr rfl) hy
    rw [hw] at lx ly
    rw [hH, hH, hH, mulL_one (by omega) (by omega), mulL_cnv (.inr rfl), e8]
    have l3 : (cnv true fp x y).length = 4 := by rw [cnv_length, lx]
    have em : ∀ u v, mul1 2 fp u v = u * v % fp := fun u v => by simp [mul1]
    rw [em, ← Int.mul_emod]
    congr 1
    rw [ev_four ha lx, ev_four ha ly, ev_four ha l3, cnv_cg hc fp lx ly (by omega), cnv_cg hc fp lx ly (by omega), cnv_cg hc fp lx ly (by omega), cnv_cg hc fp lx ly (by omega)]
    simp only [sm4]
    obtain ⟨c0, e0⟩ := emod_split2 (cg x 0 * cg y 0 - cg x 1 * cg y 3 - cg x 2 * cg y 2 - cg x 3 * cg y 1) fp
    obtain ⟨c1, e1⟩ := emod_split2 (cg x 0 * cg y 1 + cg x 1 * cg y 0 - cg x 2 * cg y 3 - cg x 3 * cg y 2) fp
    obtain ⟨c2, e2⟩ := emod_split2 (cg x 0 * cg y 2 + cg x 1 * cg y 1 + cg x 2 * cg y 0 - cg x 3 * cg y 3) fp
    obtain ⟨c3, e3⟩ := emod_split2 (cg x 0 * cg y 3 + cg x 1 * cg y 2 + cg x 2 * cg y 1 + cg x 3 * cg y 0) fp
    have k0 : cg x 0 * cg y 0 - cg x 1 * cg y 3 - cg x 2 * cg y 2 - cg x 3 * cg y 1 = cf true 4 (0 + 0) 0 * (cg x 0 * cg y 0) + cf true 4 (0 + 1) 0 * (cg x 0 * cg y 1) + cf true 4 (0 + 2) 0 * (cg x 0 * cg y 2) + cf true 4 (0 + 3) 0 * (cg x 0 * cg y 3) + (cf true 4 (1 + 0) 0 * (cg x 1 * cg y 0) + cf true 4 (1 + 1) 0 * (cg x 1 * cg y 1) + cf true 4 (1 + 2) 0 * (cg x 1 * cg y 2) + cf true 4 (1 + 3) 0 * (cg x 1 * cg y 3)) + (cf true 4 (2 + 0) 0 * (cg x 2 * cg y 0) + cf true 4 (2 + 1) 0 * (cg x 2 * cg y 1) + cf true 4 (2 + 2) 0 * (cg x 2 * cg y 2) + cf true 4 (2 + 3) 0 * (cg x 2 * cg y 3)) + (cf true 4 (3 + 0) 0 * (cg x 3 * cg y 0) + cf true 4 (3 + 1) 0 * (cg x 3 * cg y 1) + cf true 4 (3 + 2) 0 * (cg x 3 * cg y 2) + cf true 4 (3 + 3) 0 * (cg x 3 * cg y 3)) := by first | (simp [cf]; done) | (simp [cf]; omega)
    have k1 : cg x 0 * cg y 1 + cg x 1 * cg y 0 - cg x 2 * cg y 3 - cg x 3 * cg y 2 = cf true 4 (0 + 0) 1 * (cg x 0 * cg y 0) + cf true 4 (0 + 1) 1 * (cg x 0 * cg y 1) + cf true 4 (0 + 2) 1 * (cg x 0 * cg y 2) + cf true 4 (0 + 3) 1 * (cg x 0 * cg y 3) + (cf true 4 (1 + 0) 1 * (cg x 1 * cg y 0) + cf true 4 (1 + 1) 1 * (cg x 1 * cg y 1) + cf true 4 (1 + 2) 1 * (cg x 1 * cg y 2) + cf true 4 (1 + 3) 1 * (cg x 1 * cg y 3)) + (cf true 4 (2 + 0) 1 * (cg x 2 * cg y 0) + cf true 4 (2 + 1) 1 * (cg x 2 * cg y 1) + cf true 4 (2 + 2) 1 * (cg x 2 * cg y 2) + cf true 4 (2 + 3) 1 * (cg x 2 * cg y 3)) + (cf true 4 (3 + 0) 1 * (cg x 3 * cg y 0) + cf true 4 (3 + 1) 1 * (cg x 3 * cg y 1) + cf true 4 (3 + 2) 1 * (cg x 3 * cg y 2) + cf true 4 (3 + 3) 1 * (cg x 3 * cg y 3)) := by first | (simp [cf]; done) | (simp [cf]; omega)
    have k2 : cg x 0 * cg y 2 + cg x 1 * cg y 1 + cg x 2 * cg y 0 - cg x 3 * cg y 3 = cf true 4 (0 + 0) 2 * (cg x 0 * cg y 0) + cf true 4 (0 + 1) 2 * (cg x 0 * cg y 1) + cf true 4 (0 + 2) 2 * (cg x 0 * cg y 2) + cf true 4 (0 + 3) 2 * (cg x 0 * cg y 3) + (cf true 4 (1 + 0) 2 * (cg x 1 * cg y 0) + cf true 4 (1 + 1) 2 * (cg x 1 * cg y 1) + cf true 4 (1 + 2) 2 * (cg x 1 * cg y 2) + cf true 4 (1 + 3) 2 * (cg x 1 * cg y 3)) + (cf true 4 (2 + 0) 2 * (cg x 2 * cg y 0) + cf true 4 (2 + 1) 2 * (cg x 2 * cg y 1) + cf true 4 (2 + 2) 2 * (cg x 2 * cg y 2) + cf true 4 (2 + 3) 2 * (cg x 2 * cg y 3)) + (cf true 4 (3 + 0) 2 * (cg x 3 * cg y 0) + cf true 4 (3 + 1) 2 * (cg x 3 * cg y 1) + cf true 4 (3 + 2) 2 * (cg x 3 * cg y 2) + cf true 4 (3 + 3) 2 * (cg x 3 * cg y 3)) := by first | (simp [cf]; done) | (simp [cf]; omega)
    have k3 : cg x 0 * cg y 3 + cg x 1 * cg y 2 + cg x 2 * cg y 1 + cg x 3 * cg y 0 = cf true 4 (0 + 0) 3 * (cg x 0 * cg y 0) + cf true 4 (0 + 1) 3 * (cg x 0 * cg y 1) + cf true 4 (0 + 2) 3 * (cg x 0 * cg y 2) + cf true 4 (0 + 3) 3 * (cg x 0 * cg y 3) + (cf true 4 (1 + 0) 3 * (cg x 1 * cg y 0) + cf true 4 (1 + 1) 3 * (cg x 1 * cg y 1) + cf true 4 (1 + 2) 3 * (cg x 1 * cg y 2) + cf true 4 (1 + 3) 3 * (cg x 1 * cg y 3)) + (cf true 4 (2 + 0) 3 * (cg x 2 * cg y 0) + cf true 4 (2 + 1) 3 * (cg x 2 * cg y 1) + cf true 4 (2 + 2) 3 * (cg x 2 * cg y 2) + cf true 4 (2 + 3) 3 * (cg x 2 * cg y 3)) + (cf true 4 (3 + 0) 3 * (cg x 3 * cg y 0) + cf true 4 (3 + 1) 3 * (cg x 3 * cg y 1) + cf true 4 (3 + 2) 3 * (cg x 3 * cg y 2) + cf true 4 (3 + 3) 3 * (cg x 3 * cg y 3)) := by first | (simp [cf]; done) | (simp [cf]; omega)
    rw [← k0, ← k1, ← k2, ← k3, e0, e1, e2, e3]
    apply emod_congr
    generalize cg x 0 = x0; generalize cg x 1 = x1; generalize cg x 2 = x2; generalize cg x 3 = x3
    generalize cg y 0 = y0; generalize cg y 1 = y1; generalize cg y 2 = y2; generalize cg y 3 = y3
    exact ⟨_, root_id ha fp c x0 x1 x2 x3 y0 y1 y2 y3 c0 c1 c2 c3 hroot⟩
theorem keeps_all {fk fp fn tk tp tn hk ha : Int} (h : homOk fk fp fn tk tp tn hk ha = true) : Keeps fk fp fn tk tp tn hk ha := by
  obtain ⟨hr, hr2, hw⟩ := homOk_parts h
  rcases homRaw_cases hw with ⟨rfl, rfl, rfl, rfl, _⟩ | ⟨rfl, h2, rfl, _⟩ | ⟨rfl, rfl, rfl, h3, h4⟩ | ⟨rfl, rfl, rfl, h3, h4⟩ | ⟨rfl, rfl, rfl, rfl, _⟩ | ⟨rfl, rfl, rfl, rfl, h6⟩ | ⟨rfl, rfl, rfl, h7⟩ | ⟨rfl, rfl, rfl, h8⟩
  · exact keeps1
  · exact keeps2 hr h2
  · exact keeps3 hr h3 h4
  · exact keeps4 hr h3 h4
  · exact keeps5 hr hr2
  · exact keeps6 hr hr2 h6
  · rcases h7 with ⟨hk, hle⟩ | ⟨rfl, rfl, hle⟩ | ⟨rfl, hle⟩
    · exact keeps7c hr hr2 hk hle
    · exact keeps7a hr hr2 hle
    · exact keeps7b hr hr2 hle
  · exact keeps8 hr2 h8
end Go.Proofs.Ytpegckmagiaggaa
