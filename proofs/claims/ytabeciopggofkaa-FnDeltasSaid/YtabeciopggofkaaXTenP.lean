/- Tensors, plain: sizes, validity, elements, indices; drawn tensors. No program in sight. -/
import Derived.Test.YtabeciopggofkaaXBase
import Derived.Test.YtabeciopggofkaaXPutT
namespace Go.Proofs.Ytabeciopggofkaa
open Go.RowKit
set_option linter.unusedSimpArgs false
set_option linter.unusedVariables false

theorem hasL_iff (l : List Int) (x : Int) : hasL l x = true ↔ x ∈ l := by
  simp [hasL]
theorem hasL_not {l : List Int} {x : Int} : hasL l x = false ↔ x ∉ l := by
  rw [← hasL_iff]; simp
/-- What 'TensorSize' asks of the axes. -/
structure AxOk (L D : List Int) : Prop where
  len : L.length = D.length
  rank : L.length ≤ 12
  labs : ∀ l ∈ L, 0 ≤ l ∧ l ≤ 99
  nodup : L.Nodup
  dims : ∀ d ∈ D, 1 ≤ d ∧ d ≤ 8
  size : prodL D ≤ 4096
theorem tsGo_iff : ∀ {L D pre : List Int} {s : Int}, L.length = D.length → 1 ≤ s → s ≤ 4096 →
    (tsGo pre s L D ≠ -1 ↔ (∀ l ∈ L, 0 ≤ l ∧ l ≤ 99 ∧ l ∉ pre) ∧ L.Nodup ∧ (∀ d ∈ D, 1 ≤ d ∧ d ≤ 8) ∧ s * prodL D ≤ 4096)
  | [], [], pre, s, _, h1, h2 => by simp [tsGo, prodL]; omega
  | l :: L, d :: D, pre, s, hl, h1, h2 => by
    by_cases b1 : l < 0 ∨ 99 < l ∨ hasL pre l = true
    · rw [tsGo_bad1 b1]
      constructor
      · intro h; exact absurd rfl h
      · rintro ⟨h, _⟩
        have := h l (by simp)
        rcases b1 with b | b | b
        · omega
        · omega
        · exact absurd ((hasL_iff _ _).1 b) this.2.2
    by_cases b2 : d < 1 ∨ 8 < d ∨ 4096 < s * d
    · rw [tsGo_bad2 b2]
      constructor
      · intro h; exact absurd rfl h
      · rintro ⟨_, _, h, hp⟩
        have hd := h d (by simp)
        have hP := prodL_pos (D := D) fun x hx => h x (by simp [hx])
        rw [prodL_cons, ← Int.mul_assoc] at hp
        have h0 : 0 ≤ s * d := Int.mul_nonneg (by omega) (by omega)
        have : s * d * 1 ≤ s * d * prodL D := Int.mul_le_mul_of_nonneg_left hP h0
        omega
    · have hsd : s * 1 ≤ s * d := Int.mul_le_mul_of_nonneg_left (by omega) (by omega)
      rw [tsGo_good b1 b2, tsGo_iff (by simpa using hl) (by omega) (by omega), prodL_cons, ← Int.mul_assoc, List.nodup_cons]
      have b3 : l ∉ pre := fun h => b1 (.inr (.inr ((hasL_iff _ _).2 h)))
      constructor
      · rintro ⟨h1, h2, h3, h4⟩
        refine ⟨fun x hx => ?_, ⟨fun hm => ?_, h2⟩, fun x hx => ?_, h4⟩
        · rcases List.mem_cons.1 hx with rfl | hx
          · exact ⟨by omega, by omega, b3⟩
          · obtain ⟨a, b, c⟩ := h1 x hx
            exact ⟨a, b, fun h => c (by simp [h])⟩
        · exact (h1 l hm).2.2 (by simp)
        · rcases List.mem_cons.1 hx with rfl | hx
          · omega
          · exact h3 x hx
      · rintro ⟨h1, ⟨h2, h2'⟩, h3, h4⟩
        refine ⟨fun x hx => ?_, h2', fun x hx => h3 x (by simp [hx]), h4⟩
        obtain ⟨a, b, c⟩ := h1 x (by simp [hx])
        refine ⟨a, b, fun h => ?_⟩
        rcases List.mem_append.1 h with h | h
        · exact c h
        · simp at h; subst h; exact h2 hx
theorem tsize_iff {L D : List Int} : tsize L D ≠ -1 ↔ AxOk L D := by
  unfold tsize
  by_cases c : 12 < L.length ∨ L.length ≠ D.length
  · rw [if_pos c]
    constructor
    · intro h; exact absurd rfl h
    · intro h; have := h.len; have := h.rank; omega
  · rw [if_neg c, tsGo_iff (by omega) (by omega) (by omega), Int.one_mul]
    constructor
    · rintro ⟨h1, h2, h3, h4⟩
      exact ⟨by omega, by omega, fun l hl => ⟨(h1 l hl).1, (h1 l hl).2.1⟩, h2, h3, h4⟩
    · intro h
      exact ⟨fun l hl => ⟨(h.labs l hl).1, (h.labs l hl).2, by simp⟩, h.nodup, h.dims, h.size⟩
theorem AxOk.tsize {L D : List Int} (h : AxOk L D) : Proofs.Ytabeciopggofkaa.tsize L D = prodL D := (tsize_prod (tsize_iff.2 h)).1
theorem AxOk.pos {L D : List Int} (h : AxOk L D) : 1 ≤ prodL D := prodL_pos h.dims
theorem AxOk.cap {L D : List Int} (h : AxOk L D) : capGo 4096 1 D = prodL D := tsize_cap (tsize_iff.2 h)

/-- 'TensorOk' -/
def tensOk (k p n : Int) (L D X : List Int) : Bool := ringOk k p n && (!(tsize L D == -1) && (((X.length : Int) == tsize L D * ringWidth k n) && allTo (ringTop k p n) X))
/-- A valid tensor over a valid ring. -/
structure TOk (k p n : Int) (L D X : List Int) : Prop where
  ax : AxOk L D
  len : (X.length : Int) = prodL D * ringWidth k n
  top : allTo (ringTop k p n) X = true
theorem tensOk_iff {k p n : Int} {L D X : List Int} (hr : ringOk k p n = true) : tensOk k p n L D X = true ↔ TOk k p n L D X := by
  unfold tensOk
  rw [hr]
  simp only [Bool.true_and, Bool.and_eq_true, Bool.not_eq_true', beq_eq_false_iff_ne, beq_iff_eq]
  constructor
  · rintro ⟨h1, h2, h3⟩
    have ha := tsize_iff.1 h1
    exact ⟨ha, by rw [h2, ha.tsize], h3⟩
  · intro h
    exact ⟨tsize_iff.2 h.ax, by rw [h.len, h.ax.tsize], h.top⟩
theorem tensOk_no {k p n : Int} {L D X : List Int} (h : ringOk k p n = false) : tensOk k p n L D X = false := by simp [tensOk, h]

/-! ### elements -/
theorem putL_mem {l x : List Int} {o : Nat} {v : Int} (h : v ∈ putL l o x) : v ∈ l ∨ v ∈ x := by
  unfold putL at h
  rcases List.mem_append.1 h with h | h
  · rcases List.mem_append.1 h with h | h
    · exact .inl (List.mem_of_mem_take h)
    · exact .inr h
  · exact .inl (List.mem_of_mem_drop h)
theorem putL_top {t : Int} {l x : List Int} {o : Nat} (hl : allTo t l = true) (hx : allTo t x = true) : allTo t (putL l o x) = true := by
  rw [allTo_iff] at *
  intro v hv
  rcases putL_mem hv with h | h
  · exact hl v h
  · exact hx v h
/-- W of l's numbers, from o on. -/
def getL (l : List Int) (o W : Nat) : List Int := (l.drop o).take W
theorem getL_length {l : List Int} {o W : Nat} (h : o + W ≤ l.length) : (getL l o W).length = W := by simp [getL]; omega
theorem rep_top {t : Int} {x : List Int} (h : allTo t x = true) : ∀ m : Nat, allTo t (rep m x) = true
  | 0 => rfl
  | m + 1 => by
    have ih := rep_top h m
    rw [allTo_iff] at *
    rw [rep_succ]
    intro v hv
    rcases List.mem_append.1 hv with hv | hv
    · exact ih v hv
    · exact h v hv

/-! ### drawn tensors -/
/-- The dimension that a label has. -/
def dimOf (x : Int) : Int := 1 + (x + 1) % 3
theorem dimOf_range (x : Int) : 1 ≤ dimOf x ∧ dimOf x ≤ 3 := by unfold dimOf; omega
/-- Drawn labels: at most m of them, below n, apart. -/
structure Labs (n m : Int) (L : List Int) : Prop where
  len : (L.length : Int) ≤ m
  low : ∀ x ∈ L, 0 ≤ x ∧ x < n
  nodup : L.Nodup
theorem Labs.snoc {n m x : Int} {L : List Int} (h : Labs n m L) (hx : hasL L x = false) (h0 : 0 ≤ x) (h1 : x < n) (hm : (L.length : Int) + 1 ≤ m) : Labs n m (L ++ [x]) := by
  rw [hasL_not] at hx
  refine ⟨by simp; omega, fun y hy => ?_, ?_⟩
  · rcases List.mem_append.1 hy with hy | hy
    · exact h.low y hy
    · simp at hy; subst hy; exact ⟨h0, h1⟩
  · rw [List.nodup_append]
    refine ⟨h.nodup, by simp, fun a ha b hb => ?_⟩
    simp at hb; subst hb
    intro e; subst e; exact hx ha
theorem prod_dims : ∀ L : List Int, prodL (L.map dimOf) ≤ ((3 ^ L.length : Nat) : Int) ∧ 1 ≤ prodL (L.map dimOf)
  | [] => by simp [prodL]
  | x :: L => by
    obtain ⟨h1, h2⟩ := prod_dims L
    obtain ⟨d0, d1⟩ := dimOf_range x
    rw [List.map_cons, prodL_cons, List.length_cons, Nat.pow_succ]
    have a1 : dimOf x * prodL (L.map dimOf) ≤ 3 * prodL (L.map dimOf) := Int.mul_le_mul_of_nonneg_right d1 (by omega)
    have a2 : 1 * prodL (L.map dimOf) ≤ dimOf x * prodL (L.map dimOf) := Int.mul_le_mul_of_nonneg_right d0 (by omega)
    omega
theorem Labs.ax {n : Int} {L : List Int} (h : Labs n 3 L) (hn : n ≤ 100) : AxOk L (L.map dimOf) := by
  have hl := h.len
  refine ⟨by simp, by omega, fun l hl => ?_, h.nodup, fun d hd => ?_, ?_⟩
  · have := h.low l hl; omega
  · obtain ⟨x, _, rfl⟩ := List.mem_map.1 hd
    have := dimOf_range x; omega
  · have := (prod_dims L).1
    have h3 : 3 ^ L.length ≤ 3 ^ 3 := Nat.pow_le_pow_right (by omega) (by omega)
    omega
/-- A drawn tensor. -/
structure DrawnT (k p n : Int) (L D X : List Int) : Prop where
  labs : Labs 6 3 L
  dims : D = L.map dimOf
  len : (X.length : Int) = prodL D * ringWidth k n
  top : allTo (ringTop k p n) X = true
theorem DrawnT.ok {k p n : Int} {L D X : List Int} (h : DrawnT k p n L D X) : TOk k p n L D X := by
  have := h.labs.ax (by omega)
  rw [← h.dims] at this
  exact ⟨this, h.len, h.top⟩

/-! ### the index at an offset -/
/-- The index at the offset n. -/
def idxL : List Int → Int → List Int
  | [], _ => []
  | d :: D, n => (n / prodL D) % d :: idxL D n
theorem emod_split {n a b : Int} (hn : 0 ≤ n) (ha : 0 < a) (hb : 0 < b) : n % (a * b) = (n / b % a) * b + n % b := by
  obtain ⟨n, rfl⟩ := Int.eq_ofNat_of_zero_le hn
  obtain ⟨a, rfl⟩ := Int.eq_ofNat_of_zero_le (Int.le_of_lt ha)
  obtain ⟨b, rfl⟩ := Int.eq_ofNat_of_zero_le (Int.le_of_lt hb)
  have h := Nat.mod_mul (a := b) (b := a) (x := n)
  have e : (a : Int) * (b : Int) = ((b * a : Nat) : Int) := by rw [Int.natCast_mul, Int.mul_comm]
  rw [e, ← Int.natCast_emod, h]
  simp only [Int.natCast_add, Int.natCast_mul, Int.natCast_emod, Int.natCast_ediv]
  rw [Int.mul_comm (b : Int)]; omega
theorem offGo_idx : ∀ {D : List Int} {n m : Int}, (∀ d ∈ D, 1 ≤ d ∧ d ≤ 8) → 0 ≤ n → offGo m D (idxL D n) = m * prodL D + n % prodL D
  | [], n, m, _, _ => by simp [offGo, idxL, prodL, Int.emod_one]
  | d :: D, n, m, h, hn => by
    have hd := h d (by simp)
    have hD : ∀ d ∈ D, 1 ≤ d ∧ d ≤ 8 := fun x hx => h x (by simp [hx])
    have hP := prodL_pos hD
    rw [idxL, offGo, offGo_idx hD hn, prodL_cons, emod_split hn (by omega) (by omega), Int.add_mul, Int.mul_assoc]
    omega
theorem offL_idx {D : List Int} {n : Int} (h : ∀ d ∈ D, 1 ≤ d ∧ d ≤ 8) (h0 : 0 ≤ n) (h1 : n < prodL D) : offL D (idxL D n) = n := by
  unfold offL
  rw [offGo_idx h h0, Int.emod_eq_of_lt h0 h1]; omega
end Go.Proofs.Ytabeciopggofkaa
