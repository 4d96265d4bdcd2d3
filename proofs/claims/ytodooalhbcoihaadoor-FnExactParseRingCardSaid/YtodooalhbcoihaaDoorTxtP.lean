/- Text: numerals, pieces between separators, words, lines. No program in sight. -/
import Derived.Test.YtodooalhbcoihaaDoorBase
import Derived.Lib.AtoiAllCases
import Derived.Lib.ItoaNum
import Derived.Lib.ItoaLen
import Derived.Lib.SplitLaws
import Derived.Lib.Join
namespace Go.Proofs.YtodooalhbcoihaaDoor
open Go.RowKit
set_option linter.unusedSimpArgs false
set_option linter.unusedVariables false
open Go.Lib

theorem str_eq {a b : ByteArray} (h : a.data.toList = b.data.toList) : a = b := by
  cases a; cases b; simp at h; simp [h]
theorem append_bytes (a b : ByteArray) : (a ++ b).data.toList = a.data.toList ++ b.data.toList := by simp
/-! ### numerals -/
theorem dec_digit (u : Nat) : ∀ c ∈ decDigits u, 48 ≤ c.toNat ∧ c.toNat ≤ 57 := by
  induction u using Nat.strongRecOn with
  | _ u ih =>
    intro c hc
    rw [decDigits] at hc
    split at hc
    · simp at hc; subst hc; simp; omega
    · rcases List.mem_append.1 hc with hc | hc
      · exact ih (u / 10) (by omega) c hc
      · simp at hc; subst hc; simp; omega
theorem dec_ne (u : Nat) : decDigits u ≠ [] := by
  rw [decDigits]; split <;> simp
theorem dec_cons (u : Nat) : ∃ c r, decDigits u = c :: r ∧ 48 ≤ c.toNat ∧ c.toNat ≤ 57 := by
  cases h : decDigits u with
  | nil => exact absurd h (dec_ne u)
  | cons c r => exact ⟨c, r, rfl, dec_digit u c (by rw [h]; simp)⟩
theorem nDigits_lt : ∀ (k u : Nat), 1 ≤ k → u < 10 ^ k → nDigits u ≤ k
  | 0, u, h, _ => by omega
  | k + 1, u, _, hu => by
    by_cases h : u < 10
    · rw [nDigits_small h]; omega
    · rw [nDigits_big h]
      have hk : 1 ≤ k := by
        rcases Nat.eq_zero_or_pos k with rfl | h'
        · simp at hu; omega
        · exact h'
      have := nDigits_lt k (u / 10) hk (by rw [Nat.pow_succ] at hu; omega)
      omega
theorem dec_len {u : Nat} (h : u ≤ 9223372036854775808) : 1 ≤ (decDigits u).length ∧ (decDigits u).length ≤ 19 := by
  rw [decDigits_length]
  exact ⟨nDigits_pos u, nDigits_lt 19 u (by omega) (by omega)⟩
/-- An int. -/
def isI64 (v : Int) : Prop := -9223372036854775808 ≤ v ∧ v ≤ 9223372036854775807
theorem itoa_neg {v : Int} (h : v < 0) : itoa v = 45 :: decDigits v.natAbs := by simp [itoa, h]
theorem itoa_nonneg {v : Int} (h : 0 ≤ v) : itoa v = decDigits v.toNat := by simp [itoa, show ¬ v < 0 by omega]
theorem itoa_ne (v : Int) : itoa v ≠ [] := by
  by_cases h : v < 0
  · rw [itoa_neg h]; simp
  · rw [itoa_nonneg (by omega)]; exact dec_ne _
theorem itoa_len {v : Int} (h : isI64 v) : 1 ≤ (itoa v).length ∧ (itoa v).length ≤ 20 := by
  obtain ⟨h0, h1⟩ := h
  by_cases c : v < 0
  · rw [itoa_neg c, List.length_cons]; have := dec_len (u := v.natAbs) (by omega); omega
  · rw [itoa_nonneg (by omega)]; have := dec_len (u := v.toNat) (by omega); omega
/-- What stands in a numeral: digits and '-'. -/
theorem itoa_chars (v : Int) : ∀ c ∈ itoa v, c.toNat = 45 ∨ (48 ≤ c.toNat ∧ c.toNat ≤ 57) := by
  intro c hc
  by_cases h : v < 0
  · rw [itoa_neg h] at hc
    rcases List.mem_cons.1 hc with rfl | hc
    · exact .inl rfl
    · exact .inr (dec_digit _ c hc)
  · rw [itoa_nonneg (by omega)] at hc
    exact .inr (dec_digit _ c hc)
theorem parse_snoc : ∀ (l : List UInt8) (acc u : Nat) (c : UInt8), parseUint10 acc l = .ok u → parseUint10 acc (l ++ [c]) = parseUint10 u [c]
  | [], acc, u, c, h => by simp [parseUint10] at h; subst h; rfl
  | b :: r, acc, u, c, h => by
    simp only [parseUint10] at h
    split at h
    · split at h
      · cases h
      · split at h
        · cases h
        · rename_i h1 h2 h3
          rw [List.cons_append, parseUint10, if_pos h1, if_neg h2, if_neg h3]
          exact parse_snoc r _ u c h
    · cases h
theorem parse_dec {u : Nat} (h : u < 18446744073709551616) : parseUint10 0 (decDigits u) = .ok u := by
  induction u using Nat.strongRecOn with
  | _ u ih =>
    rw [decDigits]
    split
    · rename_i h1
      have e : (UInt8.ofNat (48 + u)).toNat = 48 + u := by simp; omega
      simp only [parseUint10, e]
      rw [if_pos (by omega), if_neg (by omega), if_neg (by omega)]
      congr 1; omega
    · rename_i h1
      rw [parse_snoc _ _ (u / 10) _ (ih (u / 10) (by omega) (by omega))]
      have e : (UInt8.ofNat (48 + u % 10)).toNat = 48 + u % 10 := by simp; omega
      simp only [parseUint10, e]
      rw [if_pos (by omega), if_neg (by omega), if_neg (by omega)]
      congr 1; omega
theorem atoi_itoa {v : Int} (h : isI64 v) : atoiAll (itoa v) = .ok v := by
  obtain ⟨h0, h1⟩ := h
  by_cases c : v < 0
  · rw [itoa_neg c]
    have hp : parseMag (decDigits v.natAbs) = .ok v.natAbs := by rw [parseMag, if_neg (dec_ne _)]; exact parse_dec (by omega)
    have e : (45 : UInt8).toNat = 45 := rfl
    simp only [atoiAll, e, or_true, if_true, hp]
    rw [if_neg (by simp), if_neg (by omega)]
    simp; omega
  · rw [itoa_nonneg (by omega)]
    obtain ⟨d, r, hd, d0, d1⟩ := dec_cons v.toNat
    have hp : parseMag (decDigits v.toNat) = .ok v.toNat := by rw [parseMag, if_neg (dec_ne _)]; exact parse_dec (by omega)
    rw [hd] at hp ⊢
    simp only [atoiAll]
    rw [if_neg (by omega), hp]
    simp only
    rw [if_neg (by omega), if_neg (by omega), if_neg (by omega)]
    congr 1; omega
/-- 'ParseInt': the number, where the text is its numeral. -/
def parseI (s : List UInt8) : Option Int := match atoiAll s with
  | .ok v => if itoa v = s then some v else none
  | _ => none
theorem parseI_itoa {v : Int} (h : isI64 v) : parseI (itoa v) = some v := by simp [parseI, atoi_itoa h]
theorem parseI_some {s : List UInt8} {v : Int} (h : parseI s = some v) : s = itoa v ∧ isI64 v := by
  unfold parseI at h
  split at h
  · rename_i x hx
    split at h
    · rename_i e
      injection h with h
      subst h
      exact ⟨e.symm, atoiAll_bounds hx⟩
    · cases h
  · cases h
theorem itoa_inj {v u : Int} (hv : isI64 v) (hu : isI64 u) (h : itoa v = itoa u) : v = u := by
  have := parseI_itoa hv
  rw [h, parseI_itoa hu] at this
  injection this with this
  exact this.symm
theorem parseI_nil : parseI [] = none := rfl

/-! ### the reference's reading of a numeral -/
/-- Digits, read into a negative number. -/
def digGo (n : Int) : List UInt8 → Option Int
  | [] => some n
  | c :: r => if c.toNat < 48 ∨ 57 < c.toNat then none else if n < Int.tdiv (-9223372036854775808 + ((c.toNat : Int) - 48)) 10 then none else digGo (n * 10 - ((c.toNat : Int) - 48)) r
theorem tdiv_low {d : Int} (h0 : 0 ≤ d) (h1 : d ≤ 9) : Int.tdiv (-9223372036854775808 + d) 10 = -((9223372036854775808 - d) / 10) := by
  rw [show (-9223372036854775808 + d : Int) = -(9223372036854775808 - d) by omega, Int.neg_tdiv, Int.tdiv_eq_ediv_of_nonneg (by omega)]
theorem digGo_snoc : ∀ (l : List UInt8) (n m : Int) (c : UInt8), digGo n l = some m → digGo n (l ++ [c]) = digGo m [c]
  | [], n, m, c, h => by simp [digGo] at h; subst h; rfl
  | b :: r, n, m, c, h => by
    rw [digGo] at h
    split at h
    · cases h
    · split at h
      · cases h
      · rename_i h1 h2
        rw [List.cons_append, digGo, if_neg h1, if_neg h2]
        exact digGo_snoc r _ m c h
theorem digGo_dec {u : Nat} (h : u ≤ 9223372036854775808) : digGo 0 (decDigits u) = some (-(u : Int)) := by
  induction u using Nat.strongRecOn with
  | _ u ih =>
    rw [decDigits]
    split
    · rename_i h1
      have e : (UInt8.ofNat (48 + u)).toNat = 48 + u := by simp; omega
      simp only [digGo, e]
      have ed : (((48 + u : Nat) : Int) - 48) = (u : Int) := by omega
      rw [if_neg (by omega), ed, tdiv_low (by omega) (by omega), if_neg (by omega)]
      congr 1; omega
    · rename_i h1
      rw [digGo_snoc _ _ _ _ (ih (u / 10) (by omega) (by omega))]
      have e : (UInt8.ofNat (48 + u % 10)).toNat = 48 + u % 10 := by simp; omega
      simp only [digGo, e]
      have ed : (((48 + u % 10 : Nat) : Int) - 48) = ((u % 10 : Nat) : Int) := by omega
      rw [if_neg (by omega), ed, tdiv_low (by omega) (by omega), if_neg (by omega)]
      congr 1; omega
theorem digGo_range : ∀ (l : List UInt8) (n m : Int), -9223372036854775808 ≤ n ∧ n ≤ 0 → digGo n l = some m → -9223372036854775808 ≤ m ∧ m ≤ 0
  | [], n, m, hn, h => by simp [digGo] at h; subst h; exact hn
  | b :: r, n, m, hn, h => by
    rw [digGo] at h
    split at h
    · cases h
    · split at h
      · cases h
      · rename_i h1 h2
        rw [tdiv_low (by omega) (by omega)] at h2
        exact digGo_range r _ m (by omega) h
/-- What is left of 'ParseInt' where the number is known. -/
def finI (m : Int) (s : List UInt8) : Option Int := if itoa m = s then some m else none
/-- Has the text a '-' ahead? -/
def signB (s : List UInt8) : Bool := s.head? == some 45
/-- What stands behind the sign. -/
def magL (s : List UInt8) : List UInt8 := if signB s = true then s.tail else s
def sparseN (neg : Bool) (n : Int) (s : List UInt8) : Option Int := if neg = true then finI n s else if n = -9223372036854775808 then none else finI (-n) s
/-- 'ParseInt' as the reference reckons it. -/
def sparse (s : List UInt8) : Option Int := if (magL s).length < 1 ∨ 19 < (magL s).length then none else (digGo 0 (magL s)).bind fun n => sparseN (signB s) n s
theorem finI_some {m v : Int} {s : List UInt8} (h : finI m s = some v) : m = v ∧ itoa v = s := by
  unfold finI at h
  split at h
  · rename_i e
    injection h with h
    subst h
    exact ⟨rfl, e⟩
  · cases h
theorem sparse_some {s : List UInt8} {v : Int} (h : sparse s = some v) : itoa v = s ∧ isI64 v := by
  unfold sparse at h
  split at h
  · cases h
  · cases hn : digGo 0 (magL s) with
    | none => rw [hn] at h; cases h
    | some n =>
      have hr := digGo_range _ _ _ (by omega) hn
      rw [hn, Option.bind_some, sparseN] at h
      split at h
      · obtain ⟨rfl, e⟩ := finI_some h
        exact ⟨e, by unfold isI64; omega⟩
      · split at h
        · cases h
        · obtain ⟨rfl, e⟩ := finI_some h
          exact ⟨e, by unfold isI64; omega⟩
theorem sign_neg {v : Int} (h : v < 0) : signB (itoa v) = true ∧ magL (itoa v) = decDigits v.natAbs := by
  have e : signB (itoa v) = true := by rw [itoa_neg h]; rfl
  exact ⟨e, by rw [magL, if_pos e, itoa_neg h]; rfl⟩
theorem sign_pos {v : Int} (h : 0 ≤ v) : signB (itoa v) = false ∧ magL (itoa v) = decDigits v.toNat := by
  have e : signB (itoa v) = false := by
    obtain ⟨d, r, hd2, d0, d1⟩ := dec_cons v.toNat
    rw [itoa_nonneg h, hd2, signB]
    simp
    intro h
    subst h
    simp at d0
  exact ⟨e, by rw [magL, e, itoa_nonneg h]; rfl⟩
theorem sparse_itoa {v : Int} (h : isI64 v) : sparse (itoa v) = some v := by
  obtain ⟨h0, h1⟩ := h
  by_cases c : v < 0
  · have hl := dec_len (u := v.natAbs) (by omega)
    have hd := digGo_dec (u := v.natAbs) (by omega)
    obtain ⟨e1, e2⟩ := sign_neg c
    rw [sparse, e2, if_neg (by omega), hd, Option.bind_some, e1, sparseN, if_pos rfl, show -(v.natAbs : Int) = v by omega, finI, if_pos rfl]
  · have hl := dec_len (u := v.toNat) (by omega)
    have hd := digGo_dec (u := v.toNat) (by omega)
    obtain ⟨e1, e2⟩ := sign_pos (v := v) (by omega)
    rw [sparse, e2, if_neg (by omega), hd, Option.bind_some, e1, sparseN, if_neg (by simp), if_neg (by omega), show -(-(v.toNat : Int)) = v by omega, finI, if_pos rfl]
theorem sparse_eq (s : List UInt8) : sparse s = parseI s := by
  cases h : sparse s with
  | some v =>
    obtain ⟨e, hv⟩ := sparse_some h
    rw [← e, parseI_itoa hv]
  | none =>
    cases h2 : parseI s with
    | none => rfl
    | some v =>
      obtain ⟨e, hv⟩ := parseI_some h2
      rw [e, sparse_itoa hv] at h
      cases h

/-! ### pieces between separators -/
/-- The pieces of l between the bytes c. -/
def sp (c : UInt8) : List UInt8 → List (List UInt8)
  | [] => [[]]
  | b :: l => if b = c then [] :: sp c l else (b :: (sp c l).headD []) :: (sp c l).tail
theorem sp_ne (c : UInt8) (l : List UInt8) : sp c l ≠ [] := by
  cases l with
  | nil => simp [sp]
  | cons b l => rw [sp]; split <;> simp
theorem sp_shape (c : UInt8) (l : List UInt8) : ∃ h t, sp c l = h :: t := by
  cases hh : sp c l with
  | nil => exact absurd hh (sp_ne c l)
  | cons h t => exact ⟨h, t, rfl⟩
theorem sp_none {c : UInt8} : ∀ {l : List UInt8}, c ∉ l → sp c l = [l]
  | [], _ => rfl
  | b :: l, h => by
    simp at h
    rw [sp, if_neg (fun e => h.1 e.symm), sp_none h.2]; rfl
theorem sp_at {c : UInt8} : ∀ {p q : List UInt8}, c ∉ p → sp c (p ++ c :: q) = p :: sp c q
  | [], q, _ => by simp [sp]
  | b :: p, q, h => by
    simp at h
    rw [List.cons_append, sp, if_neg (fun e => h.1 e.symm), sp_at h.2]; rfl
theorem sp_length (c : UInt8) : ∀ l : List UInt8, (sp c l).length = l.count c + 1
  | [] => rfl
  | b :: l => by
    rw [sp]
    split
    · rename_i e; subst e; rw [List.length_cons, sp_length, List.count_cons_self]
    · rename_i e
      obtain ⟨h, t, ht⟩ := sp_shape c l
      have := sp_length c l
      rw [ht] at this ⊢
      rw [List.count_cons_of_ne (by simpa using e)]
      simpa using this
theorem sp_clean {c : UInt8} : ∀ {l : List UInt8} {p : List UInt8}, p ∈ sp c l → c ∉ p
  | [], p, h => by simp [sp] at h; subst h; simp
  | b :: l, p, h => by
    rw [sp] at h
    split at h
    · rcases List.mem_cons.1 h with rfl | h
      · simp
      · exact sp_clean h
    · rename_i e
      obtain ⟨x, t, ht⟩ := sp_shape c l
      rw [ht] at h
      rcases List.mem_cons.1 h with rfl | h
      · have : c ∉ x := sp_clean (l := l) (by rw [ht]; simp)
        simp [this, Ne.symm e]
      · exact sp_clean (l := l) (by rw [ht]; exact List.mem_cons_of_mem _ h)
/-- The pieces of a join of pieces without the separator. -/
theorem sp_join {c : UInt8} : ∀ {l : List (List UInt8)}, l ≠ [] → (∀ p ∈ l, c ∉ p) → sp c (join l [c]) = l
  | [], h, _ => absurd rfl h
  | [x], _, h => by rw [join_one]; exact sp_none (h x (by simp))
  | x :: y :: l, _, h => by
    have ih := sp_join (c := c) (l := y :: l) (by simp) (fun p hp => h p (List.mem_cons_of_mem _ hp))
    rw [Go.Lib.join_cons] at ih ⊢
    have e : joinTail [c] (y :: l) = c :: (y ++ joinTail [c] l) := by simp [joinTail]
    rw [e, sp_at (h x (by simp)), ih]
theorem occ_one (l : List UInt8) (c : UInt8) (i : Nat) : occAt l [c] i = (l[i]? == some c) := by
  unfold occAt
  cases h : l.drop i with
  | nil =>
    have : l.length ≤ i := by rw [List.drop_eq_nil_iff] at h; exact h
    simp [List.isPrefixOf, List.getElem?_eq_none this]
  | cons b r =>
    have e : l[i]? = some b := by
      have := List.getElem?_drop (xs := l) (i := i) (j := 0)
      rw [h] at this; simpa using this.symm
    rw [e]
    simp [List.isPrefixOf]
    rw [Bool.eq_iff_iff, beq_iff_eq, beq_iff_eq]; exact eq_comm
theorem split_sp (c : UInt8) : ∀ (k : Nat) (l : List UInt8), l.length ≤ k → split l [c] = sp c l := by
  intro k
  induction k with
  | zero =>
    intro l hl
    have : l = [] := List.eq_nil_of_length_eq_zero (by omega)
    subst this
    rfl
  | succ k ih =>
    intro l hl
    rcases index_spec l [c] with ⟨hi, hno⟩ | ⟨i, hi, hle, ho, hn⟩
    · have : c ∉ l := by
        intro hm
        obtain ⟨j, hj⟩ := List.getElem?_of_mem hm
        have hlt := (List.getElem?_eq_some_iff.1 hj).1
        have := hno j (by omega)
        rw [occ_one, hj] at this
        simp at this
      rw [split, count_miss hi, sp_none this]; rfl
    · rw [occ_one] at ho
      have ho : l[i]? = some c := by simpa using ho
      have hlt := (List.getElem?_eq_some_iff.1 ho).1
      have hp : c ∉ l.take i := by
        intro hm
        obtain ⟨j, hj⟩ := List.getElem?_of_mem hm
        have hj2 := (List.getElem?_eq_some_iff.1 hj).1
        rw [List.length_take] at hj2
        rw [List.getElem?_take_of_lt (by omega)] at hj
        have := hn j (by omega)
        rw [occ_one, hj] at this
        simp at this
      have e : l = l.take i ++ c :: l.drop (i + 1) := by
        obtain ⟨h1, h2⟩ := List.getElem?_eq_some_iff.1 ho
        rw [← h2, ← List.drop_eq_getElem_cons hlt, List.take_append_drop]
      have hih := ih (l.drop (i + 1)) (by rw [List.length_drop]; omega)
      rw [split, count_hit (by simp) hi, Nat.add_comm 1, splitK, hi]
      rw [if_neg (by simp), Int.toNat_natCast, Nat.add_zero]
      have e2 : i + ([c] : List UInt8).length = i + 1 := rfl
      rw [e2]
      rw [split] at hih
      rw [hih]
      conv => rhs; rw [e]
      rw [sp_at hp]
theorem split_sp' (c : UInt8) (l : List UInt8) : split l [c] = sp c l := split_sp c l.length l (Nat.le_refl _)

/-! ### words, lines -/
/-- 'Words' -/
def wordsL (s : List UInt8) : List (List UInt8) := (sp 32 s).filter (fun w => !w.isEmpty)
theorem words_nil : wordsL [] = [] := rfl
theorem words_gap {q : List UInt8} : wordsL (32 :: q) = wordsL q := by simp [wordsL, sp]
theorem words_at {p q : List UInt8} (h : 32 ∉ p) (hp : p ≠ []) : wordsL (p ++ 32 :: q) = p :: wordsL q := by
  unfold wordsL
  rw [sp_at h]
  cases p with
  | nil => exact absurd rfl hp
  | cons b p => rfl
theorem words_end {p : List UInt8} (h : 32 ∉ p) (hp : p ≠ []) : wordsL p = [p] := by
  unfold wordsL
  rw [sp_none h]
  cases p with
  | nil => exact absurd rfl hp
  | cons b p => rfl
/-- 'SplitLines' -/
def linesL (s : List UInt8) : List (List UInt8) := if (sp 10 s).getLastD [] = [] then (sp 10 s).dropLast else sp 10 s
theorem lines_at {p q : List UInt8} (h : 10 ∉ p) : linesL (p ++ 10 :: q) = p :: linesL q := by
  unfold linesL
  rw [sp_at h]
  obtain ⟨x, t, ht⟩ := sp_shape 10 q
  rw [ht]
  have e : (p :: x :: t).getLastD [] = (x :: t).getLastD [] := by simp [List.getLastD]
  rw [e]
  split <;> simp
theorem lines_end {p : List UInt8} (h : 10 ∉ p) (hp : p ≠ []) : linesL p = [p] := by
  unfold linesL
  rw [sp_none h]
  simp [hp]
theorem lines_nil : linesL [] = [] := by simp [linesL, sp]

/-! ### lists of integers -/
/-- 'ParseInts', at whatever separator. -/
def intsBy (c : UInt8) (s : List UInt8) : Option (List Int) := if s = [] then some [] else (sp c s).mapM parseI
theorem mapM_parse : ∀ {l : List (List UInt8)} {x : List Int}, l.mapM parseI = some x → l = x.map itoa ∧ ∀ v ∈ x, isI64 v
  | [], x, h => by simp at h; subst h; simp
  | p :: l, x, h => by
    rw [List.mapM_cons] at h
    cases h1 : parseI p with
    | none => rw [h1] at h; simp at h
    | some v =>
      cases h2 : l.mapM parseI with
      | none => rw [h1, h2] at h; simp at h
      | some y =>
        rw [h1, h2] at h
        simp at h
        subst h
        obtain ⟨e, hv⟩ := parseI_some h1
        obtain ⟨e2, hy⟩ := mapM_parse h2
        refine ⟨by rw [e, e2]; rfl, fun u hu => ?_⟩
        rcases List.mem_cons.1 hu with rfl | hu
        · exact hv
        · exact hy u hu
theorem mapM_itoa : ∀ {x : List Int}, (∀ v ∈ x, isI64 v) → (x.map itoa).mapM parseI = some x
  | [], _ => rfl
  | v :: x, h => by
    rw [List.map_cons, List.mapM_cons, parseI_itoa (h v (by simp)), mapM_itoa (x := x) (fun u hu => h u (by simp [hu]))]
    rfl
theorem itoa_clean {c : UInt8} (h1 : c.toNat < 48 ∨ 57 < c.toNat) (h2 : c.toNat ≠ 45) (v : Int) : c ∉ itoa v := by
  intro h
  have := itoa_chars v c h
  omega
theorem intsBy_join {c : UInt8} (h1 : c.toNat < 48 ∨ 57 < c.toNat) (h2 : c.toNat ≠ 45) {x : List Int} (hx : ∀ v ∈ x, isI64 v) : intsBy c (join (x.map itoa) [c]) = some x := by
  unfold intsBy
  cases x with
  | nil => rfl
  | cons v x =>
    have hne : join ((v :: x).map itoa) [c] ≠ [] := by
      rw [List.map_cons, Go.Lib.join_cons]
      simp [itoa_ne v]
    rw [if_neg hne, sp_join (by simp) (fun p hp => by obtain ⟨u, _, rfl⟩ := List.mem_map.1 hp; exact itoa_clean h1 h2 u)]
    exact mapM_itoa hx
end Go.Proofs.YtodooalhbcoihaaDoor
