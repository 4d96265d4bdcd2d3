/- Products of rows of coefficients: a commutative ring. No program in sight. -/
import Derived.Test.YtlmidcclcnehnaaMuls
namespace Go.Proofs.Ytlmidcclcnehnaa
open Go.RowKit
set_option linter.unusedSimpArgs false
set_option linter.unusedVariables false

/-- The sum of f 0 .. f (n - 1). -/
def sm : Nat → (Nat → Int) → Int
  | 0, _ => 0
  | n + 1, f => sm n f + f n
theorem sm_congr {n : Nat} {f g : Nat → Int} (h : ∀ i, i < n → f i = g i) : sm n f = sm n g := by
  induction n with
  | zero => rfl
  | succ n ih => rw [sm, sm, ih (fun i hi => h i (by omega)), h n (by omega)]
theorem sm_add (n : Nat) (f g : Nat → Int) : sm n (fun i => f i + g i) = sm n f + sm n g := by
  induction n with
  | zero => rfl
  | succ n ih => rw [sm, sm, sm, ih]; omega
theorem sm_mul (n : Nat) (c : Int) (f : Nat → Int) : sm n (fun i => c * f i) = c * sm n f := by
  induction n with
  | zero => simp [sm]
  | succ n ih => rw [sm, sm, ih, Int.mul_add]
theorem sm_mulr (n : Nat) (c : Int) (f : Nat → Int) : sm n (fun i => f i * c) = sm n f * c := by
  rw [Int.mul_comm, ← sm_mul]; exact sm_congr fun i _ => Int.mul_comm _ _
theorem sm_zero (n : Nat) : sm n (fun _ => 0) = 0 := by
  induction n with
  | zero => rfl
  | succ n ih => rw [sm, ih]; rfl
theorem sm_comm (n m : Nat) (f : Nat → Nat → Int) : sm n (fun i => sm m (fun j => f i j)) = sm m (fun j => sm n (fun i => f i j)) := by
  induction n with
  | zero => simp [sm, sm_zero]
  | succ n ih => simp only [sm]; rw [ih, ← sm_add]
theorem sm_one {n : Nat} {f : Nat → Int} {k : Nat} (hk : k < n) (h : ∀ i, i < n → i ≠ k → f i = 0) : sm n f = f k := by
  induction n with
  | zero => omega
  | succ n ih =>
    rw [sm]
    by_cases e : k = n
    · subst e
      rw [sm_congr (g := fun _ => 0) (fun i hi => h i (by omega) (by omega)), sm_zero]; omega
    · rw [ih (by omega) (fun i hi hne => h i (by omega) hne), h n (by omega) (by omega)]; omega
theorem sm_mod (p : Int) {n : Nat} {f g : Nat → Int} (h : ∀ i, i < n → f i % p = g i % p) : sm n f % p = sm n g % p := by
  induction n with
  | zero => rfl
  | succ n ih => rw [sm, sm, Int.add_emod, ih (fun i hi => h i (by omega)), h n (by omega), ← Int.add_emod]
theorem sm_head (n : Nat) (f : Nat → Int) : sm (n + 1) f = f 0 + sm n (fun i => f (i + 1)) := by
  induction n with
  | zero => simp [sm]
  | succ n ih => rw [sm, ih, sm]; omega

/-- The i-th integer of a list, 0 behind its end. -/
def cg (l : List Int) (i : Nat) : Int := l[i]?.getD 0
theorem cg_nil (i : Nat) : cg [] i = 0 := by simp [cg]
theorem cg_cons0 (a : Int) (l : List Int) : cg (a :: l) 0 = a := by simp [cg]
theorem cg_cons (a : Int) (l : List Int) (i : Nat) : cg (a :: l) (i + 1) = cg l i := by simp [cg]
theorem cg_ext {x y : List Int} (hl : x.length = y.length) (h : ∀ i, i < x.length → cg x i = cg y i) : x = y := by
  apply List.ext_getElem hl
  intro i h1 h2
  have := h i h1
  simp [cg, h1, h2] at this
  exact this
theorem cg_mem {l : List Int} {i : Nat} (h : i < l.length) : cg l i ∈ l := by simp [cg, h]
theorem cg_set {l : List Int} {k : Nat} (hk : k < l.length) (v : Int) (m : Nat) : cg (l.set k v) m = if k = m then v else cg l m := by
  unfold cg
  rw [List.getElem?_set]
  split
  · simp [hk]
  · rfl
theorem cg_replicate (n m : Nat) : cg (List.replicate n 0) m = 0 := by
  unfold cg
  by_cases h : m < n <;> simp [h]
theorem cg_out {l : List Int} {i : Nat} (h : l.length ≤ i) : cg l i = 0 := by simp [cg, h]

/-- Where the product of the coefficients i and j stands, and its sign: in a ring of n coefficients. -/
def cf (om : Bool) (n k m : Nat) : Int := if k < n then (if k = m then 1 else 0) else if om = true ∧ k - 4 = m then -1 else 0

theorem put1_cg {om : Bool} {p : Int} {acc : List Int} {k : Nat} (v : Int) {m : Nat} (hm : m < acc.length) (hr : cg acc m % p = cg acc m) (hk : om = true → acc.length = 4 ∧ k < 8) :
    cg (put1 om p acc k v) m = (cg acc m + cf om acc.length k m * v) % p := by
  unfold put1 cf
  by_cases h : k < acc.length
  · simp only [if_pos h]
    rw [cg_set h]
    split
    · rename_i e; subst e; simp [cg]
    · simp [hr]
  · simp only [if_neg h]
    by_cases ho : om = true
    · simp only [if_pos ho]
      have := hk ho
      rw [cg_set (by omega)]
      split
      · rename_i e; subst e; simp [cg, ho, Int.sub_eq_add_neg]
      · rename_i e; simp [e, hr]
    · simp [ho, hr]
/-- Each coefficient is reduced. -/
def Red (p : Int) (l : List Int) : Prop := ∀ m, m < l.length → cg l m % p = cg l m
theorem put1_red {om : Bool} {p : Int} {acc : List Int} {k : Nat} (v : Int) (hr : Red p acc) (hk : om = true → acc.length = 4 ∧ k < 8) : Red p (put1 om p acc k v) := by
  intro m hm
  rw [put1_length] at hm
  rw [put1_cg v hm (hr m hm) hk, Int.emod_emod_of_dvd _ (Int.dvd_refl p)]
theorem mulRow_cg (om : Bool) (p : Int) (i : Nat) (a : Int) : ∀ (y : List Int) (acc : List Int) (j : Nat) (_ : Red p acc) (_ : om = true → acc.length = 4 ∧ i + j + y.length ≤ 8),
    (mulRow om p i a acc j y).length = acc.length ∧ Red p (mulRow om p i a acc j y) ∧
    ∀ m, m < acc.length → cg (mulRow om p i a acc j y) m = (cg acc m + sm y.length (fun t => cf om acc.length (i + j + t) m * (a * cg y t))) % p
  | [], acc, j, hr, hk => ⟨rfl, hr, fun m hm => by simp [mulRow, sm, hr m hm]⟩
  | b :: t, acc, j, hr, hk => by
    have hk1 : om = true → acc.length = 4 ∧ i + j < 8 := fun h => by have := hk h; simp at this; omega
    obtain ⟨h1, h2, h3⟩ := mulRow_cg om p i a t (put1 om p acc (i + j) (a * b)) (j + 1) (put1_red _ hr hk1) (fun h => by have := hk h; rw [put1_length]; simp at this ⊢; omega)
    rw [put1_length] at h1 h3
    refine ⟨h1, h2, fun m hm => ?_⟩
    rw [mulRow, h3 m hm, put1_cg _ hm (hr m hm) hk1, List.length_cons, sm_head]
    simp only [cg_cons0, cg_cons, Nat.add_zero]
    rw [Int.emod_add_emod, Int.add_assoc]
    congr 3
    apply sm_congr
    intro t' _
    rw [show i + (j + 1) + t' = i + j + (t' + 1) by omega]
theorem mulRows_cg (om : Bool) (p : Int) (y : List Int) : ∀ (x : List Int) (acc : List Int) (i : Nat) (_ : Red p acc) (_ : om = true → acc.length = 4 ∧ y.length = 4 ∧ i + x.length ≤ 4),
    ∀ m, m < acc.length → cg (mulRows om p y acc i x) m = (cg acc m + sm x.length (fun s => sm y.length (fun t => cf om acc.length (i + s + t) m * (cg x s * cg y t)))) % p
  | [], acc, i, hr, hk, m, hm => by simp [mulRows, sm, hr m hm]
  | a :: t, acc, i, hr, hk, m, hm => by
    obtain ⟨h1, h2, h3⟩ := mulRow_cg om p i a y acc 0 hr (fun h => by have := hk h; simp at this; omega)
    have h4 := mulRows_cg om p y t (mulRow om p i a acc 0 y) (i + 1) h2 (fun h => by have := hk h; rw [h1]; simp at this; omega) m (by omega)
    rw [mulRows, h4, h3 m hm, h1, List.length_cons, sm_head]
    simp only [cg_cons0, cg_cons, Nat.add_zero]
    rw [Int.emod_add_emod, Int.add_assoc]
    congr 3
    apply sm_congr
    intro s _
    apply sm_congr
    intro t' _
    rw [show i + 1 + s + t' = i + (s + 1) + t' by omega]

/-- The product of two rows of n coefficients. -/
def cnv (om : Bool) (p : Int) (x y : List Int) : List Int := mulRows om p y (List.replicate x.length 0) 0 x
theorem cnv_length (om : Bool) (p : Int) (x y : List Int) : (cnv om p x y).length = x.length := by rw [cnv, mulRows_length, List.length_replicate]
/-- n coefficients: of which kind. -/
structure Co (om : Bool) (n : Nat) : Prop where
  hi : n ≤ 6
  om4 : om = true → n = 4
theorem cnv_cg {om : Bool} {n : Nat} (hn : Co om n) (p : Int) {x y : List Int} (hx : x.length = n) (hy : y.length = n) {m : Nat} (hm : m < n) :
    cg (cnv om p x y) m = sm n (fun s => sm n (fun t => cf om n (s + t) m * (cg x s * cg y t))) % p := by
  have := mulRows_cg om p y x (List.replicate x.length 0) 0 (fun m _ => by rw [cg_replicate]; rfl) (fun h => by have := hn.om4 h; rw [List.length_replicate]; omega) m (by rw [List.length_replicate]; omega)
  rw [cnv, this, cg_replicate, List.length_replicate, hx, hy, Int.zero_add]
  simp only [Nat.zero_add]
theorem cnv_comm {om : Bool} {n : Nat} (hn : Co om n) (p : Int) {x y : List Int} (hx : x.length = n) (hy : y.length = n) : cnv om p x y = cnv om p y x := by
  apply cg_ext (by rw [cnv_length, cnv_length, hx, hy])
  intro m hm
  rw [cnv_length, hx] at hm
  rw [cnv_cg hn p hx hy hm, cnv_cg hn p hy hx hm, sm_comm]
  congr 1
  apply sm_congr; intro s _
  apply sm_congr; intro t _
  rw [Nat.add_comm t s, Int.mul_comm (cg x t)]
theorem cf_assoc_f : ∀ n, n ≤ 6 → ∀ i, i < n → ∀ j, j < n → ∀ l, l < n → ∀ m, m < n → sm n (fun s => cf false n (s + l) m * cf false n (i + j) s) = sm n (fun s => cf false n (i + s) m * cf false n (j + l) s) := by decide +kernel
theorem cf_assoc_t : ∀ i, i < 4 → ∀ j, j < 4 → ∀ l, l < 4 → ∀ m, m < 4 → sm 4 (fun s => cf true 4 (s + l) m * cf true 4 (i + j) s) = sm 4 (fun s => cf true 4 (i + s) m * cf true 4 (j + l) s) := by decide +kernel
theorem cf_assoc {om : Bool} {n : Nat} (hn : Co om n) {i j l m : Nat} (hi : i < n) (hj : j < n) (hl : l < n) (hm : m < n) :
    sm n (fun s => cf om n (s + l) m * cf om n (i + j) s) = sm n (fun s => cf om n (i + s) m * cf om n (j + l) s) := by
  cases om with
  | false => exact cf_assoc_f n hn.hi i hi j hj l hl m hm
  | true => obtain rfl := hn.om4 rfl; exact cf_assoc_t i hi j hj l hl m hm
theorem mod_in (p a b c : Int) : (a * (b % p * c)) % p = (a * (b * c)) % p := by
  rw [Int.mul_emod a (b % p * c), Int.mul_emod (b % p) c, Int.emod_emod_of_dvd _ (Int.dvd_refl p), ← Int.mul_emod b c, ← Int.mul_emod]
theorem cnv_assoc {om : Bool} {n : Nat} (hn : Co om n) (p : Int) {x y z : List Int} (hx : x.length = n) (hy : y.length = n) (hz : z.length = n) : cnv om p (cnv om p x y) z = cnv om p x (cnv om p y z) := by
  apply cg_ext (by rw [cnv_length, cnv_length, cnv_length])
  intro m hm
  rw [cnv_length, cnv_length, hx] at hm
  rw [cnv_cg hn p (by rw [cnv_length]; exact hx) hz hm, cnv_cg hn p hx (by rw [cnv_length]; exact hy) hm]
  have e1 : sm n (fun s => sm n (fun t => cf om n (s + t) m * (cg (cnv om p x y) s * cg z t))) % p = sm n (fun i => sm n (fun j => sm n (fun l => sm n (fun s => cf om n (s + l) m * cf om n (i + j) s) * (cg x i * cg y j * cg z l)))) % p := by
    have : sm n (fun s => sm n (fun t => cf om n (s + t) m * (cg (cnv om p x y) s * cg z t))) % p = sm n (fun s => sm n (fun t => cf om n (s + t) m * (sm n (fun i => sm n (fun j => cf om n (i + j) s * (cg x i * cg y j))) * cg z t))) % p := by
      apply sm_mod; intro s hs
      apply sm_mod; intro t ht
      rw [cnv_cg hn p hx hy hs, mod_in]
    rw [this]
    congr 1
    have e : ∀ s t, s < n → t < n → cf om n (s + t) m * (sm n (fun i => sm n (fun j => cf om n (i + j) s * (cg x i * cg y j))) * cg z t) = sm n (fun i => sm n (fun j => (cf om n (s + t) m * cf om n (i + j) s) * (cg x i * cg y j * cg z t))) := by
      intro s t _ _
      rw [← sm_mulr, ← sm_mul]
      apply sm_congr; intro i _
      rw [← sm_mulr, ← sm_mul]
      apply sm_congr; intro j _
      simp only [Int.mul_assoc]
    rw [sm_congr (fun s hs => sm_congr (fun t ht => e s t hs ht))]
    -- order: s t i j -> i j t s
    rw [sm_congr (fun s hs => sm_comm n n _)]
    rw [sm_comm]
    apply sm_congr; intro i _
    rw [sm_congr (fun s hs => sm_comm n n _)]
    rw [sm_comm]
    apply sm_congr; intro j _
    rw [sm_comm]
    apply sm_congr; intro l _
    rw [sm_mulr]
  have e2 : sm n (fun s => sm n (fun t => cf om n (s + t) m * (cg x s * cg (cnv om p y z) t))) % p = sm n (fun i => sm n (fun j => sm n (fun l => sm n (fun s => cf om n (i + s) m * cf om n (j + l) s) * (cg x i * cg y j * cg z l)))) % p := by
    have : sm n (fun s => sm n (fun t => cf om n (s + t) m * (cg x s * cg (cnv om p y z) t))) % p = sm n (fun s => sm n (fun t => cf om n (s + t) m * (sm n (fun j => sm n (fun l => cf om n (j + l) t * (cg y j * cg z l))) * cg x s))) % p := by
      apply sm_mod; intro s hs
      apply sm_mod; intro t ht
      rw [cnv_cg hn p hy hz ht, Int.mul_comm (cg x s), mod_in]
    rw [this]
    congr 1
    apply sm_congr; intro i _
    have e : ∀ t, t < n → cf om n (i + t) m * (sm n (fun j => sm n (fun l => cf om n (j + l) t * (cg y j * cg z l))) * cg x i) = sm n (fun j => sm n (fun l => (cf om n (i + t) m * cf om n (j + l) t) * (cg x i * cg y j * cg z l))) := by
      intro t _
      rw [← sm_mulr, ← sm_mul]
      apply sm_congr; intro j _
      rw [← sm_mulr, ← sm_mul]
      apply sm_congr; intro l _
      rw [Int.mul_assoc, Int.mul_assoc, Int.mul_comm _ (cg x i)]
      simp only [Int.mul_assoc, Int.mul_left_comm (cg x i)]
    rw [sm_congr (fun t ht => e t ht), sm_comm]
    apply sm_congr; intro j _
    rw [sm_comm]
    apply sm_congr; intro l _
    rw [sm_mulr]
  rw [e1, e2]
  congr 1
  apply sm_congr; intro i hi
  apply sm_congr; intro j hj
  apply sm_congr; intro l hl
  rw [cf_assoc hn hi hj hl hm]
/-- The sum of two rows, mod p. -/
theorem zip_cg {f : Int → Int → Int} {x y : List Int} {n m : Nat} (hx : x.length = n) (hy : y.length = n) (hm : m < n) : cg (List.zipWith f x y) m = f (cg x m) (cg y m) := by
  simp [cg, List.getElem?_zipWith, List.getElem?_eq_getElem (show m < x.length by omega), List.getElem?_eq_getElem (show m < y.length by omega)]
theorem cnv_add {om : Bool} {n : Nat} (hn : Co om n) (p : Int) {x y z : List Int} (hx : x.length = n) (hy : y.length = n) (hz : z.length = n) :
    cnv om p (List.zipWith (fun a b => (a + b) % p) x y) z = List.zipWith (fun a b => (a + b) % p) (cnv om p x z) (cnv om p y z) := by
  have hl : (List.zipWith (fun a b => (a + b) % p) x y).length = n := by simp [hx, hy]
  apply cg_ext (by rw [cnv_length, hl, List.length_zipWith, cnv_length, cnv_length, hx, hy, Nat.min_self])
  intro m hm
  rw [cnv_length, hl] at hm
  rw [cnv_cg hn p hl hz hm, zip_cg (by rw [cnv_length]; exact hx) (by rw [cnv_length]; exact hy) hm, cnv_cg hn p hx hz hm, cnv_cg hn p hy hz hm, ← Int.add_emod, ← sm_add]
  apply sm_mod; intro s hs
  rw [← sm_add]
  apply sm_mod; intro t ht
  rw [zip_cg hx hy hs, mod_in, Int.add_mul, Int.mul_add]
theorem cnv_one {om : Bool} {n : Nat} (hn : Co om n) (p : Int) {x : List Int} (hx : x.length = n) (hr : Red p x) (hp : 2 ≤ p) : cnv om p x ((List.replicate n 0).set 0 1) = x := by
  have hl : ((List.replicate n (0 : Int)).set 0 1).length = n := by simp
  apply cg_ext (by rw [cnv_length])
  intro m hm
  rw [cnv_length, hx] at hm
  rw [cnv_cg hn p hx hl hm]
  rw [sm_congr (g := fun s => cf om n s m * cg x s) (fun s hs => by
    rw [sm_one (k := 0) (by omega) (fun t ht h0 => by rw [cg_set (by simp; omega), if_neg (by omega), cg_replicate]; simp)]
    rw [cg_set (by simp; omega), if_pos rfl]; simp)]
  rw [sm_one (k := m) hm (fun s hs hne => by simp [cf, hs, hne])]
  simp [cf, hm]
  exact hr m (by omega)
theorem cnv_zero {om : Bool} {n : Nat} (hn : Co om n) (p : Int) {x : List Int} (hx : x.length = n) : cnv om p x (List.replicate n 0) = List.replicate n 0 := by
  apply cg_ext (by rw [cnv_length, hx, List.length_replicate])
  intro m hm
  rw [cnv_length, hx] at hm
  rw [cnv_cg hn p hx (by simp) hm, cg_replicate]
  rw [sm_congr (g := fun _ => 0) (fun s hs => by rw [sm_congr (g := fun _ => 0) (fun t ht => by rw [cg_replicate]; simp), sm_zero]), sm_zero]; rfl

end Go.Proofs.Ytlmidcclcnehnaa
