/- Texts of one kind, merged by program. -/
import Derived.Test.YtlgjddgajdjllaaGreatDoorQFillT
import Derived.Test.YtlgjddgajdjllaaGreatDoorQRingT
import Derived.Test.YtlgjddgajdjllaaGreatDoorQParsesW
/- Tensors, plain: sizes, validity, elements, indices; drawn tensors. No program in sight. -/
set_option linter.unusedSimpArgs false
set_option linter.unusedVariables false
namespace Go.Proofs.YtlgjddgajdjllaaGreatDoor
open Go.RowKit
theorem hasL_iff (l : List Int) (x : Int) : hasL l x = true ↔ x ∈ l := by
  simp [hasL]
theorem hasL_not {l : List Int} {x : Int} : hasL l x = false ↔ x ∉ l := by
  rw [← hasL_iff]; simp
structure AxOk (L D : List Int) : Prop where
  len : L.length = D.length
  rank : L.length ≤ 12
  labs : ∀ l ∈ L, 0 ≤ l ∧ l ≤ 99
  nodup : L.Nodup
  dims : ∀ d ∈ D, 1 ≤ d ∧ d ≤ 8
  size : prodL D ≤ 4096
theorem tsGo_iff : ∀ {L D pre : List Int} {s : Int}, L.length = D.length → 1 ≤ s → s ≤ 4096 →
    (tsGo pre s L D ≠ -1 ↔ (∀ l ∈ L, 0 ≤ l ∧ l ≤ 99 ∧ l ∉ pre) ∧ L.Nodup ∧ (∀ d ∈ D, 1 ≤ d ∧ d ≤ 8) ∧ s * prodL D ≤ 4096)
  | [], [], pre, s, _, h1, h2 => by simp [tsGo, prodL]; omega
  | l :: L, d :: D, pre, s, hl, h1, h2 => by
    by_cases b1 : l < 0 ∨ 99 < l ∨ hasL pre l = true
    · rw [tsGo_bad1 b1]
      constructor
      · intro h; exact absurd rfl h
      · rintro ⟨h, _⟩
        have := h l (by simp)
        rcases b1 with b | b | b
        · omega
        · omega
        · exact absurd ((hasL_iff _ _).1 b) this.2.2
    by_cases b2 : d < 1 ∨ 8 < d ∨ 4096 < s * d
    · rw [tsGo_bad2 b2]
      constructor
      · intro h; exact absurd rfl h
      · rintro ⟨_, _, h, hp⟩
        have hd := h d (by simp)
        have hP := prodL_pos (D := D) fun x hx => h x (by simp [hx])
        rw [prodL_cons, ← Int.mul_assoc] at hp
        have h0 : 0 ≤ s * d := Int.mul_nonneg (by omega) (by omega)
        have : s * d * 1 ≤ s * d * prodL D := Int.mul_le_mul_of_nonneg_left hP h0
        omega
    · have hsd : s * 1 ≤ s * d := Int.mul_le_mul_of_nonneg_left (by omega) (by omega)
      rw [tsGo_good b1 b2, tsGo_iff (by simpa using hl) (by omega) (by omega), prodL_cons, ← Int.mul_assoc, List.nodup_cons]
      have b3 : l ∉ pre := fun h => b1 (.inr (.inr ((hasL_iff _ _).2 h)))
      constructor
      · rintro ⟨h1, h2, h3, h4⟩
        refine ⟨fun x hx => ?_, ⟨fun hm => ?_, h2⟩, fun x hx => ?_, h4⟩
        · rcases List.mem_cons.1 hx with rfl | hx
          · exact ⟨by omega, by omega, b3⟩
          · obtain ⟨a, b, c⟩ := h1 x hx
            exact ⟨a, b, fun h => c (by simp [h])⟩
        · exact (h1 l hm).2.2 (by simp)
        · rcases List.mem_cons.1 hx with rfl | hx
          · omega
          · exact h3 x hx
      · rintro ⟨h1, ⟨h2, h2'⟩, h3, h4⟩
        refine ⟨fun x hx => ?_, h2', fun x hx => h3 x (by simp [hx]), h4⟩
        obtain ⟨a, b, c⟩ := h1 x (by simp [hx])
        refine ⟨a, b, fun h => ?_⟩
        rcases List.mem_append.1 h with h | h
        · exact c h
        · simp at h; subst h; exact h2 hx
theorem tsize_iff {L D : List Int} : tsize L D ≠ -1 ↔ AxOk L D := by
  unfold tsize
  by_cases c : 12 < L.length ∨ L.length ≠ D.length
  · rw [if_pos c]
    constructor
    · intro h; exact absurd rfl h
    · intro h; have := h.len; have := h.rank; omega
  · rw [if_neg c, tsGo_iff (by omega) (by omega) (by omega), Int.one_mul]
    constructor
    · rintro ⟨h1, h2, h3, h4⟩
      exact ⟨by omega, by omega, fun l hl => ⟨(h1 l hl).1, (h1 l hl).2.1⟩, h2, h3, h4⟩
    · intro h
      exact ⟨fun l hl => ⟨(h.labs l hl).1, (h.labs l hl).2, by simp⟩, h.nodup, h.dims, h.size⟩
theorem AxOk.tsize {L D : List Int} (h : AxOk L D) : Proofs.YtlgjddgajdjllaaGreatDoor.tsize L D = prodL D := (tsize_prod (tsize_iff.2 h)).1
theorem AxOk.pos {L D : List Int} (h : AxOk L D) : 1 ≤ prodL D := prodL_pos h.dims
theorem AxOk.cap {L D : List Int} (h : AxOk L D) : capGo 4096 1 D = prodL D := tsize_cap (tsize_iff.2 h)
def tensOk (k p n : Int) (L D X : List Int) : Bool := ringOk k p n && (!(tsize L D == -1) && (((X.length : Int) == tsize L D * ringWidth k n) && allTo (ringTop k p n) X))
structure TOk (k p n : Int) (L D X : List Int) : Prop where
  ax : AxOk L D
  len : (X.length : Int) = prodL D * ringWidth k n
  top : allTo (ringTop k p n) X = true
theorem tensOk_iff {k p n : Int} {L D X : List Int} (hr : ringOk k p n = true) : tensOk k p n L D X = true ↔ TOk k p n L D X := by
  unfold tensOk
  rw [hr]
  simp only [Bool.true_and, Bool.and_eq_true, Bool.not_eq_true', beq_eq_false_iff_ne, beq_iff_eq]
  constructor
  · rintro ⟨h1, h2, h3⟩
    have ha := tsize_iff.1 h1
    exact ⟨ha, by rw [h2, ha.tsize], h3⟩
  · intro h
    exact ⟨tsize_iff.2 h.ax, by rw [h.len, h.ax.tsize], h.top⟩
theorem tensOk_ring {k p n : Int} {L D X : List Int} (h : tensOk k p n L D X = true) : ringOk k p n = true := by
  simp [tensOk] at h; exact h.1
theorem tensOk_no {k p n : Int} {L D X : List Int} (h : ringOk k p n = false) : tensOk k p n L D X = false := by simp [tensOk, h]
def getL (l : List Int) (o W : Nat) : List Int := (l.drop o).take W
theorem getL_length {l : List Int} {o W : Nat} (h : o + W ≤ l.length) : (getL l o W).length = W := by simp [getL]; omega
def dimOf (x : Int) : Int := 1 + (x + 1) % 3
theorem dimOf_range (x : Int) : 1 ≤ dimOf x ∧ dimOf x ≤ 3 := by unfold dimOf; omega
structure Labs (n m : Int) (L : List Int) : Prop where
  len : (L.length : Int) ≤ m
  low : ∀ x ∈ L, 0 ≤ x ∧ x < n
  nodup : L.Nodup
theorem prod_dims : ∀ L : List Int, prodL (L.map dimOf) ≤ ((3 ^ L.length : Nat) : Int) ∧ 1 ≤ prodL (L.map dimOf)
  | [] => by simp [prodL]
  | x :: L => by
    obtain ⟨h1, h2⟩ := prod_dims L
    obtain ⟨d0, d1⟩ := dimOf_range x
    rw [List.map_cons, prodL_cons, List.length_cons, Nat.pow_succ]
    have a1 : dimOf x * prodL (L.map dimOf) ≤ 3 * prodL (L.map dimOf) := Int.mul_le_mul_of_nonneg_right d1 (by omega)
    have a2 : 1 * prodL (L.map dimOf) ≤ dimOf x * prodL (L.map dimOf) := Int.mul_le_mul_of_nonneg_right d0 (by omega)
    omega
theorem Labs.ax {n : Int} {L : List Int} (h : Labs n 3 L) (hn : n ≤ 100) : AxOk L (L.map dimOf) := by
  have hl := h.len
  refine ⟨by simp, by omega, fun l hl => ?_, h.nodup, fun d hd => ?_, ?_⟩
  · have := h.low l hl; omega
  · obtain ⟨x, _, rfl⟩ := List.mem_map.1 hd
    have := dimOf_range x; omega
  · have := (prod_dims L).1
    have h3 : 3 ^ L.length ≤ 3 ^ 3 := Nat.pow_le_pow_right (by omega) (by omega)
    omega
structure DrawnT (k p n : Int) (L D X : List Int) : Prop where
  labs : Labs 6 3 L
  dims : D = L.map dimOf
  len : (X.length : Int) = prodL D * ringWidth k n
  top : allTo (ringTop k p n) X = true
theorem DrawnT.ok {k p n : Int} {L D X : List Int} (h : DrawnT k p n L D X) : TOk k p n L D X := by
  have := h.labs.ax (by omega)
  rw [← h.dims] at this
  exact ⟨this, h.len, h.top⟩
open Go.Lib
def numsOf (p n : Int) : List Int := (if p = 0 then [] else [p]) ++ (if n = 0 then [] else [n])
theorem name_clean (k : Int) : (32 : UInt8) ∉ nameL k := by
  rcases kinds k with rfl | rfl | rfl | rfl | rfl | rfl | rfl | rfl | ⟨e1, e2, e3, e4, e5, e6, e7, e8⟩
  any_goals decide
  simp [nameL, e1, e2, e3, e4, e5, e6, e7, e8]
theorem name_ne {k : Int} (h : 1 ≤ k ∧ k ≤ 8) : nameL k ≠ [] := by
  rcases kinds k with rfl | rfl | rfl | rfl | rfl | rfl | rfl | rfl | ⟨e1, e2, e3, e4, e5, e6, e7, e8⟩
  any_goals decide
  omega
theorem itoa_sp (v : Int) : (32 : UInt8) ∉ itoa v := itoa_clean (by decide) (by decide) v
theorem sp_nums (x : List UInt8) (hx : (32 : UInt8) ∉ x) (p n : Int) : sp 32 (x ++ numT p ++ numT n) = x :: (numsOf p n).map itoa := by
  by_cases hp : p = 0
  · by_cases hn : n = 0
    · subst hp; subst hn
      rw [numT_zero, List.append_nil, List.append_nil, sp_none hx]; rfl
    · subst hp
      rw [numT_zero, List.append_nil, numT_some hn, sp_at hx, sp_none (itoa_sp n)]
      simp [numsOf, hn]
  · by_cases hn : n = 0
    · subst hn
      rw [numT_zero, List.append_nil, numT_some hp, sp_at hx, sp_none (itoa_sp p)]
      simp [numsOf, hp]
    · rw [numT_some hp, numT_some hn, List.append_assoc, List.cons_append, sp_at hx, sp_at (itoa_sp p), sp_none (itoa_sp n)]
      simp [numsOf, hp, hn]
theorem nums_i64 {k p n : Int} (h : ringOk k p n = true) : ∀ v ∈ numsOf p n, isI64 v := by
  obtain ⟨⟨p0, p1⟩, n0, n1⟩ := ringOk_small h
  intro v hv
  unfold numsOf at hv
  have : v = p ∨ v = n := by
    rcases List.mem_append.1 hv with h | h
    · split at h
      · simp at h
      · simp at h; exact .inl h
    · split at h
      · simp at h
      · simp at h; exact .inr h
  unfold isI64
  rcases this with rfl | rfl <;> omega
theorem ring_pieces {k p n : Int} {s : List UInt8} (h : ringOk k p n = true) (e : fmtRing k p n = s) : sp 32 s = nameL k :: (numsOf p n).map itoa := by
  rw [← e, fmtRing_yes h]; exact sp_nums _ (name_clean k) p n
theorem ring_nums {k p n : Int} {s p0 : List UInt8} {pt : List (List UInt8)} (h : ringOk k p n = true) (e : fmtRing k p n = s) (hp : sp 32 s = p0 :: pt) : p0 = nameL k ∧ pt.mapM parseI = some (numsOf p n) := by
  rw [ring_pieces h e] at hp
  injection hp with h1 h2
  exact ⟨h1.symm, by rw [← h2]; exact mapM_itoa (nums_i64 h)⟩
theorem ring_words {k p n : Int} {s : List UInt8} (h : ringOk k p n = true) (e : fmtRing k p n = s) : wordsL s = nameL k :: (numsOf p n).map itoa := by
  rw [wordsL, ring_pieces h e, List.filter_eq_self]
  intro x hx
  have : x ≠ [] := by
    rcases List.mem_cons.1 hx with rfl | hx
    · exact name_ne (ringOk_kind h)
    · obtain ⟨v, _, rfl⟩ := List.mem_map.1 hx
      exact itoa_ne v
  cases x with
  | nil => exact absurd rfl this
  | cons a b => rfl
theorem ring_text_ne {k p n : Int} {s : List UInt8} (h : ringOk k p n = true) (e : fmtRing k p n = s) : s ≠ [] := by
  rw [← e, fmtRing_yes h]
  have := name_ne (ringOk_kind h)
  simp [this]
def kUp : Nat → List UInt8 → Int
  | 0, _ => 0
  | m + 1, l => if nameL ((m : Int) + 1) = l then (m : Int) + 1 else kUp m l
theorem kUp_name {k : Int} (h : 1 ≤ k ∧ k ≤ 8) : kUp 8 (nameL k) = k := by
  rcases kinds k with rfl | rfl | rfl | rfl | rfl | rfl | rfl | rfl | ⟨e1, e2, e3, e4, e5, e6, e7, e8⟩
  any_goals decide
  omega
def assP (k : Int) (xs : List Int) : Int := match xs with
  | [a] => if k = 6 then 0 else a
  | [a, _] => a
  | _ => 0
def assN (k : Int) (xs : List Int) : Int := match xs with
  | [a] => if k = 6 then a else 0
  | [_, b] => b
  | _ => 0
def refP (k : Int) (xs : List Int) : Int := match xs with
  | [] => 0
  | a :: _ => if k = 6 then 0 else a
def refN (k : Int) (xs : List Int) : Int := match xs with
  | [] => 0
  | [a] => if k = 6 then a else 0
  | _ :: b :: _ => b
theorem ringOk_zero {k p n : Int} (h : ringOk k p n = true) : (k = 1 → p = 0) ∧ (k = 6 → p = 0 ∧ n ≠ 0) ∧ (k ≠ 1 → k ≠ 6 → p ≠ 0) ∧ (k ≠ 6 → k ≠ 7 → n = 0) ∧ (k = 7 → n ≠ 0) := by
  rcases kinds k with rfl | rfl | rfl | rfl | rfl | rfl | rfl | rfl | ⟨e1, e2, e3, e4, e5, e6, e7, e8⟩
  · simp [ringOk] at h; omega
  · simp [ringOk] at h; have := isPrime_ge h.1; omega
  · simp [ringOk] at h; omega
  · simp [ringOk] at h; omega
  · simp [ringOk] at h; omega
  · simp [ringOk] at h; omega
  · simp [ringOk] at h; have := isPrime_ge h.1.1; omega
  · simp [ringOk] at h; have := isPrime_ge h.1.1; omega
  · simp [ringOk, e1, e2, e3, e4, e5, e6, e7, e8] at h
theorem ass_nums {k p n : Int} (h : ringOk k p n = true) : assP k (numsOf p n) = p ∧ assN k (numsOf p n) = n ∧ refP k (numsOf p n) = p ∧ refN k (numsOf p n) = n := by
  obtain ⟨z1, z2, z3, z4, z5⟩ := ringOk_zero h
  by_cases h6 : k = 6
  · obtain ⟨rfl, hn⟩ := z2 h6
    simp [numsOf, hn, assP, assN, refP, refN, h6]
  · by_cases h1 : k = 1
    · have := z1 h1
      have hn := z4 h6 (by omega)
      subst this; subst hn
      simp [numsOf, assP, assN, refP, refN]
    · have hp := z3 h1 h6
      by_cases h7 : k = 7
      · have hn := z5 h7
        simp [numsOf, hp, hn, assP, assN, refP, refN, h6]
      · have hn := z4 h6 h7
        subst hn
        simp [numsOf, hp, assP, assN, refP, refN, h6]
structure RP (s : List UInt8) (k p n : Int) (b : Bool) : Prop where
  out : (b = true ∧ ringOk k p n = true ∧ fmtRing k p n = s) ∨ (b = false ∧ k = 0 ∧ p = 0 ∧ n = 0 ∧ ∀ k p n, ringOk k p n = true → fmtRing k p n ≠ s)
theorem ring_one {k p n k' p' n' : Int} {s : List UInt8} (h : ringOk k p n = true) (e : fmtRing k p n = s) (h' : ringOk k' p' n' = true) (e' : fmtRing k' p' n' = s) : k = k' ∧ p = p' ∧ n = n' := by
  obtain ⟨p0, pt, hp⟩ := sp_shape 32 s
  obtain ⟨a1, a2⟩ := ring_nums h e hp
  obtain ⟨b1, b2⟩ := ring_nums h' e' hp
  have hk : k = k' := by
    have h1 := kUp_name (ringOk_kind h)
    have h2 := kUp_name (ringOk_kind h')
    rw [← a1] at h1; rw [← b1] at h2
    rw [← h1, h2]
  subst hk
  have hn : numsOf p n = numsOf p' n' := by rw [a2] at b2; exact Option.some.inj b2
  obtain ⟨c1, c2, _⟩ := ass_nums h
  obtain ⟨d1, d2, _⟩ := ass_nums h'
  rw [hn] at c1 c2
  exact ⟨rfl, by rw [← c1, d1], by rw [← c2, d2]⟩
theorem RP.one {s : List UInt8} {k p n k' p' n' : Int} {b b' : Bool} (h : RP s k p n b) (h' : RP s k' p' n' b') : k = k' ∧ p = p' ∧ n = n' ∧ b = b' := by
  rcases h.out with ⟨rfl, h1, h2⟩ | ⟨rfl, rfl, rfl, rfl, hn⟩
  · rcases h'.out with ⟨rfl, h1', h2'⟩ | ⟨_, _, _, _, hn'⟩
    · obtain ⟨a, b, c⟩ := ring_one h1 h2 h1' h2'; exact ⟨a, b, c, rfl⟩
    · exact absurd h2 (hn' _ _ _ h1)
  · rcases h'.out with ⟨_, h1', h2'⟩ | ⟨rfl, rfl, rfl, rfl, _⟩
    · exact absurd h2' (hn _ _ _ h1')
    · exact ⟨rfl, rfl, rfl, rfl⟩
theorem RP.yes {s : List UInt8} {k p n : Int} (h : ringOk k p n = true) (e : fmtRing k p n = s) : RP s k p n true := ⟨.inl ⟨rfl, h, e⟩⟩
theorem RP.bad {s p0 : List UInt8} {pt : List (List UInt8)} (hp : sp 32 s = p0 :: pt) (h : pt.mapM parseI = none) : RP s 0 0 0 false := by
  refine ⟨.inr ⟨rfl, rfl, rfl, rfl, fun k p n hr e => ?_⟩⟩
  rw [(ring_nums hr e hp).2] at h; cases h
theorem RP.no {s p0 : List UInt8} {pt : List (List UInt8)} {xs : List Int} (hp : sp 32 s = p0 :: pt) (h : pt.mapM parseI = some xs) (hn : ringOk (kUp 8 p0) (assP (kUp 8 p0) xs) (assN (kUp 8 p0) xs) = true → fmtRing (kUp 8 p0) (assP (kUp 8 p0) xs) (assN (kUp 8 p0) xs) ≠ s) : RP s 0 0 0 false := by
  refine ⟨.inr ⟨rfl, rfl, rfl, rfl, fun k p n hr e => ?_⟩⟩
  obtain ⟨h1, h2⟩ := ring_nums hr e hp
  rw [h2] at h
  injection h with h
  subst h1
  subst h
  rw [kUp_name (ringOk_kind hr)] at hn
  obtain ⟨c1, c2, _⟩ := ass_nums hr
  rw [c1, c2] at hn
  exact hn hr e
theorem RP.badW {s : List UInt8} (h : (wordsL s).tail.mapM parseI = none) : RP s 0 0 0 false := by
  refine ⟨.inr ⟨rfl, rfl, rfl, rfl, fun k p n hr e => ?_⟩⟩
  rw [ring_words hr e, List.tail_cons, mapM_itoa (nums_i64 hr)] at h; cases h
theorem RP.noW {s : List UInt8} {xs : List Int} (h : (wordsL s).tail.mapM parseI = some xs) (hn : ∀ k : Nat, 1 ≤ k → k < 9 → s ≠ [] → fmtRing k (refP k xs) (refN k xs) ≠ s) : RP s 0 0 0 false := by
  refine ⟨.inr ⟨rfl, rfl, rfl, rfl, fun k p n hr e => ?_⟩⟩
  rw [ring_words hr e, List.tail_cons, mapM_itoa (nums_i64 hr)] at h
  injection h with h
  subst h
  have hk := ringOk_kind hr
  obtain ⟨_, _, c1, c2⟩ := ass_nums hr
  have := hn k.toNat (by omega) (by omega) (ring_text_ne hr e)
  rw [show ((k.toNat : Nat) : Int) = k by omega, c1, c2] at this
  exact this e
theorem RP.yesW {s : List UInt8} {k p n : Int} (hs : s ≠ []) (e : fmtRing k p n = s) : RP s k p n true := by
  cases hr : ringOk k p n
  · rw [fmtRing_no hr] at e; exact absurd e.symm hs
  · exact RP.yes hr e
def fpV : Value → List Nat
  | .agg xs => xs.toList.flatMap fun x => x.ownBlock.toList
  | v => v.ownBlock.toList
theorem fpV_agg (xs : Array Value) : fpV (.agg xs) = xs.toList.flatMap fun x => x.ownBlock.toList := rfl
def blkOf : Value → Nat
  | .pointer (some q) => q.block
  | _ => 0
def partsOf : Value → List Value
  | .agg xs => xs.toList
  | _ => []
def tup0 : Value → Value
  | .tuple xs => xs.toList.headD undef
  | _ => undef
theorem blkOf_mk (q o : Nat) : blkOf (.pointer (some ⟨q, o, none⟩)) = q := rfl
theorem tup0_mk (u v : Value) : tup0 (.tuple #[u, v]) = u := rfl
theorem partsOf3 (x y z : Value) : partsOf (.agg #[x, y, z]) = [x, y, z] := rfl
structure Asn where
  fp : List Nat
  holds : World → Prop
  loc : ∀ w w', (∀ b ∈ fp, w'.heap[b]? = w.heap[b]?) → holds w → holds w'
  lt : ∀ w, holds w → ∀ b ∈ fp, b < w.heap.size
def emp : Asn := ⟨[], fun _ => True, fun _ _ _ _ => trivial, fun _ _ _ h => by cases h⟩
theorem OwnI.zero {w : World} {B : Nat} {v : Value} {l : List Int} (h : OwnI w B v l) : OwnI w 0 v l := h.mono (Nat.zero_le _)
theorem OwnI.near {w w' : World} {B : Nat} {v : Value} {l : List Int} (h : OwnI w B v l) (e : ∀ b, v.ownBlock = some b → w'.heap[b]? = w.heap[b]?) : OwnI w' B v l := by
  rcases h.own with h | ⟨b, rest, h1, rfl, h3, h4⟩
  · exact ⟨.inl h⟩
  · exact ⟨.inr ⟨b, rest, h1, rfl, h3.block (e b rfl), h4⟩⟩
theorem OwnI.at {w : World} {B B' : Nat} {v : Value} {l : List Int} (h : OwnI w B' v l) (hB : ∀ b, v.ownBlock = some b → B ≤ b) : OwnI w B v l := by
  rcases h.own with h | ⟨b, rest, h1, rfl, h3, h4⟩
  · exact ⟨.inl h⟩
  · exact ⟨.inr ⟨b, rest, hB b rfl, rfl, h3, h4⟩⟩
def aI (v : Value) (l : List Int) : Asn := ⟨v.ownBlock.toList, fun w => OwnI w 0 v l, fun _ _ e h => h.near fun b hb => e b (by simp [hb]), fun w h b hb => (h.block_lt (by simpa using hb)).2⟩
def aB (b : Nat) (T : TypeId) (xs : List Value) : Asn := ⟨[b], fun w => Blk w b T xs, fun _ _ e h => h.block (e b (by simp)), fun w h c hc => by simp at hc; subst hc; exact h.lt⟩
def aT (v : Value) (L D X : List Int) : Asn :=
  ⟨fpV v, fun w => OwnT w 0 v L D X,
   fun w w' e h => by
    obtain ⟨a, b, c, rfl, h1, h2, h3, h4⟩ := h.val
    rw [fpV_agg] at e
    refine ⟨a, b, c, rfl, h1.near fun k hk => e k ?_, h2.near fun k hk => e k ?_, h3.near fun k hk => e k ?_, h4⟩ <;> simp [hk],
   fun w h k hk => by
    obtain ⟨a, b, c, rfl, h1, h2, h3, h4⟩ := h.val
    rw [fpV_agg] at hk
    simp at hk
    rcases hk with hk | hk | hk
    · exact (h1.block_lt hk).2
    · exact (h2.block_lt hk).2
    · exact (h3.block_lt hk).2⟩
theorem Ext.gr {w w' : World} (e : Ext w w') (r : Option Nat) : w.grownBy w' r := ⟨e.below.os, e.below.tape, e.below.output, e.size, fun k hk _ => e.below.block k hk⟩
theorem gr_ext {w w' : World} (g : w.grownBy w' none) : Ext w w' := (Ext.refl w).only g fun _ h => by cases h
theorem gr_above {a w w' : World} {ex ob : Option Nat} (h : a.grownBy w ex) (g : w.grownBy w' ob) (hb : ∀ k, ob = some k → a.heap.size ≤ k) : a.grownBy w' ex :=
  ⟨g.os.trans h.os, g.tape.trans h.tape, g.output.trans h.output, Nat.le_trans h.size g.size, fun k hk hne => (g.block k (Nat.lt_of_lt_of_le hk h.size) fun e => by have := hb k e.symm; omega).trans (h.block k hk hne)⟩
structure HeldX (ex : Option Nat) (a w : World) (L : List Asn) : Prop where
  grown : a.grownBy w ex
  all : ∀ A ∈ L, A.holds w ∧ ∀ b ∈ A.fp, a.heap.size ≤ b
  apart : L.Pairwise fun A A' => ∀ b ∈ A.fp, b ∉ A'.fp
abbrev Held (a w : World) (L : List Asn) : Prop := HeldX none a w L
theorem HeldX.ext {a w : World} {L : List Asn} (h : HeldX none a w L) : Ext a w := gr_ext h.grown
section
variable {ex : Option Nat} {a w w' : World} {L : List Asn} {A A0 : Asn} {k : Nat}
theorem HeldX.newX (g : a.grownBy w ex) (n : Nat) : HeldX ex a w (List.replicate n emp) :=
  ⟨g, fun A hA => by obtain ⟨_, rfl⟩ := List.mem_replicate.1 hA; exact ⟨trivial, fun b hb => by cases hb⟩,
   List.pairwise_replicate.2 (.inr fun b hb => by cases hb)⟩
theorem Held.new (e : Ext a w) (n : Nat) : Held a w (List.replicate n emp) := HeldX.newX (e.gr none) n
theorem HeldX.get (h : HeldX ex a w L) (hk : L[k]? = some A) : A.holds w := (h.all A (List.mem_of_getElem? hk)).1
theorem HeldX.fpr (h : HeldX ex a w L) (hk : L[k]? = some A) : ∀ b ∈ A.fp, a.heap.size ≤ b ∧ b < w.heap.size := fun b hb =>
  ⟨(h.all A (List.mem_of_getElem? hk)).2 b hb, A.lt w (h.get hk) b hb⟩
theorem HeldX.size (h : HeldX ex a w L) : a.heap.size ≤ w.heap.size := h.grown.size
theorem HeldX.grow (h : HeldX ex a w L) (e : Ext w w') : HeldX ex a w' L :=
  ⟨grownBy_trans h.grown (e.gr ex), fun A hA => by
    obtain ⟨h1, h2⟩ := h.all A hA
    exact ⟨A.loc w w' (fun b hb => e.below.block b (A.lt w h1 b hb)) h1, h2⟩, h.apart⟩
theorem pairwise_set {R : Asn → Asn → Prop} : ∀ {L : List Asn} {k : Nat} {A : Asn}, L.Pairwise R → (∀ j A', j ≠ k → L[j]? = some A' → R A A' ∧ R A' A) → (L.set k A).Pairwise R
  | [], _, _, _, _ => by simp
  | x :: L, 0, A, h, hr => by
    rw [List.set_cons_zero, List.pairwise_cons]
    refine ⟨fun y hy => ?_, (List.pairwise_cons.1 h).2⟩
    obtain ⟨j, hj⟩ := List.getElem?_of_mem hy
    exact (hr (j + 1) y (by omega) (by simpa using hj)).1
  | x :: L, k + 1, A, h, hr => by
    rw [List.set_cons_succ, List.pairwise_cons]
    obtain ⟨h1, h2⟩ := List.pairwise_cons.1 h
    refine ⟨fun y hy => ?_, pairwise_set h2 fun j A' hj hA => hr (j + 1) A' (by omega) (by simpa using hA)⟩
    rcases List.mem_or_eq_of_mem_set hy with hy | rfl
    · exact h1 y hy
    · exact (hr 0 x (by omega) (by simp)).2
theorem HeldX.put (h : HeldX ex a w L) (k : Nat) (ob : List Nat) (hs : w.heap.size ≤ w'.heap.size) (hkeep : ∀ b, b < w.heap.size → b ∉ ob → w'.heap[b]? = w.heap[b]?) (hoa : ∀ b ∈ ob, a.heap.size ≤ b) (he : a.grownBy w' ex)
    (hap : ∀ j A', j ≠ k → L[j]? = some A' → ∀ b ∈ ob, b ∉ A'.fp) (hold : A.holds w') (hfp : ∀ b ∈ A.fp, b ∈ ob ∨ w.heap.size ≤ b) : HeldX ex a w' (L.set k A) := by
  have old : ∀ j A', j ≠ k → L[j]? = some A' → A'.holds w' ∧ ∀ b ∈ A'.fp, a.heap.size ≤ b := fun j A' hj hA => by
    have hr := h.fpr hA
    exact ⟨A'.loc w w' (fun b hb => hkeep b (hr b hb).2 fun hob => hap j A' hj hA b hob hb) (h.get hA), fun b hb => (hr b hb).1⟩
  refine ⟨he, fun B hB => ?_, pairwise_set h.apart fun j A' hj hA => ?_⟩
  · obtain ⟨j, hj⟩ := List.getElem?_of_mem hB
    by_cases e : j = k
    · subst e
      have hlt : j < L.length := by have := (List.getElem?_eq_some_iff.1 hj).1; simpa using this
      rw [List.getElem?_set_self hlt] at hj
      obtain rfl := Option.some.inj hj
      exact ⟨hold, fun b hb => by rcases hfp b hb with hb | hb; exact hoa b hb; exact Nat.le_trans h.size hb⟩
    · rw [List.getElem?_set_ne (Ne.symm e)] at hj
      exact old j B e hj
  · have key : ∀ b ∈ A.fp, b ∉ A'.fp := fun b hb hb' => by
      rcases hfp b hb with h1 | h1
      · exact hap j A' hj hA b h1 hb'
      · have := (h.fpr hA b hb').2; omega
    exact ⟨key, fun b hb hb' => key b hb' hb⟩
theorem HeldX.others (h : HeldX ex a w L) (hk : L[k]? = some A0) : ∀ j A', j ≠ k → L[j]? = some A' → ∀ b ∈ A0.fp, b ∉ A'.fp := fun j A' hj hA b hb hb' => by
  rcases Nat.lt_or_gt_of_ne hj with hlt | hlt
  · exact (List.pairwise_iff_getElem.1 h.apart j k (List.getElem?_eq_some_iff.1 hA).1 (List.getElem?_eq_some_iff.1 hk).1 hlt) b (by rw [(List.getElem?_eq_some_iff.1 hA).2]; exact hb') (by rw [(List.getElem?_eq_some_iff.1 hk).2]; exact hb)
  · exact (List.pairwise_iff_getElem.1 h.apart k j (List.getElem?_eq_some_iff.1 hk).1 (List.getElem?_eq_some_iff.1 hA).1 hlt) b (by rw [(List.getElem?_eq_some_iff.1 hk).2]; exact hb) (by rw [(List.getElem?_eq_some_iff.1 hA).2]; exact hb')
theorem HeldX.add (h : HeldX ex a w L) (k : Nat) (e : Ext w w') (hold : A.holds w') (hfp : ∀ b ∈ A.fp, w.heap.size ≤ b) : HeldX ex a w' (L.set k A) :=
  h.put k [] e.size (fun b hb _ => e.below.block b hb) (fun b hb => by cases hb) (grownBy_trans h.grown (e.gr ex)) (fun _ _ _ _ b hb => by cases hb) hold (fun b hb => .inr (hfp b hb))
theorem HeldX.turn (h : HeldX ex a w L) (hk : L[k]? = some A0) {ob : Option Nat} (g : w.grownBy w' ob) (hob : ∀ b, ob = some b → b ∈ A0.fp) (hold : A.holds w') (hfp : ∀ b ∈ A.fp, b ∈ A0.fp ∨ w.heap.size ≤ b) : HeldX ex a w' (L.set k A) := by
  have hr := h.fpr hk
  refine h.put k A0.fp g.size (fun b hb hn => g.block b hb fun e => hn (hob b e.symm)) (fun b hb => (hr b hb).1) (gr_above h.grown g fun b hb => (hr b (hob b hb)).1) (h.others hk) hold hfp
theorem HeldX.drop (h : HeldX ex a w L) (k : Nat) : HeldX ex a w (L.set k emp) :=
  h.put k [] (Nat.le_refl _) (fun _ _ _ => rfl) (fun b hb => by cases hb) h.grown (fun _ _ _ _ b hb => by cases hb) trivial (fun b hb => by cases hb)
theorem HeldX.alter (h : HeldX ex a w L) (hk : L[k]? = some A0) (hold : A.holds w) (hfp : ∀ b ∈ A.fp, b ∈ A0.fp) : HeldX ex a w (L.set k A) :=
  h.put k A0.fp (Nat.le_refl _) (fun _ _ _ => rfl) (fun b hb => ((h.fpr hk) b hb).1) h.grown (h.others hk) hold (fun b hb => .inl (hfp b hb))
theorem HeldX.more (h : HeldX ex a w L) : HeldX ex a w (L ++ [emp]) :=
  ⟨h.grown, fun A hA => by
    rcases List.mem_append.1 hA with hA | hA
    · exact h.all A hA
    · simp at hA; subst hA; exact ⟨trivial, fun b hb => by cases hb⟩,
   List.pairwise_append.2 ⟨h.apart, by simp, fun x _ y hy b _ hb => by simp at hy; subst hy; cases hb⟩⟩
theorem HeldX.sub {L' : List Asn} (h : HeldX ex a w L) (p : L'.Sublist L) : HeldX ex a w L' :=
  ⟨h.grown, fun A hA => h.all A (p.subset hA), h.apart.sublist p⟩
variable {v v' : Value} {l l' : List Int}
theorem aI_fp {b : Nat} (h : b ∈ (aI v l).fp) : v.ownBlock = some b := by simpa [aI] using h
theorem HeldX.own (h : HeldX ex a w L) (hk : L[k]? = some (aI v l)) : OwnI w a.heap.size v l := OwnI.at (h.get hk) fun b hb => (h.fpr hk b (by simp [aI, hb])).1
theorem HeldX.ints (h : HeldX ex a w L) (hk : L[k]? = some (aI v l)) : IntS w v l := (h.own hk).ints
theorem HeldX.addI (h : HeldX ex a w L) (k : Nat) {B : Nat} (e : Ext w w') (o : OwnI w' B v l) (hB : w.heap.size ≤ B) : HeldX ex a w' (L.set k (aI v l)) :=
  h.add k e o.zero fun b hb => Nat.le_trans hB (o.block_lt (aI_fp hb)).1
theorem HeldX.pushed (h : HeldX ex a w L) (hk : L[k]? = some (aI v l)) {B : Nat} (o : OwnI w' B v' l') (g : w.grownBy w' v.ownBlock) (nn : ∀ q, v'.ownBlock = some q → v.ownBlock = some q ∨ w.heap.size ≤ q) : HeldX ex a w' (L.set k (aI v' l')) :=
  h.turn hk g (fun b hb => by simp [aI, hb]) o.zero fun b hb => by
    rcases nn b (aI_fp hb) with e | e
    · exact .inl (by simp [aI, e])
    · exact .inr e
theorem Held.one (e : Ext a w) (o : OwnI w a.heap.size v l) (n : Nat) : Held a w (aI v l :: List.replicate n emp) := by
  have h := (Held.new e n)
  refine ⟨e.gr none, fun A hA => ?_, List.pairwise_cons.2 ⟨fun A' hA b _ hb' => ?_, h.apart⟩⟩
  · rcases List.mem_cons.1 hA with rfl | hA
    · exact ⟨o.zero, fun b hb => (o.block_lt (aI_fp hb)).1⟩
    · exact h.all A hA
  · obtain ⟨_, rfl⟩ := List.mem_replicate.1 hA
    cases hb'
theorem HeldX.mores (h : HeldX ex a w L) : ∀ n, HeldX ex a w (L ++ List.replicate n emp)
  | 0 => by simpa using h
  | n + 1 => by
    have := (HeldX.mores h n).more
    rwa [List.append_assoc, ← List.replicate_succ'] at this
theorem HeldX.nilI (h : HeldX ex a w L) : HeldX ex a w (L ++ [aI (.slice none 0 0) []]) := by
  have h2 := h.more
  have hlt : L.length < (L ++ [emp]).length := by simp
  have h3 := h2.alter (k := L.length) (A0 := emp) (A := aI (.slice none 0 0) []) (by simp) (OwnI.nil _ _) (fun b hb => by simp [aI, Value.ownBlock] at hb)
  rwa [List.set_append_right _ _ (Nat.le_refl _), Nat.sub_self, List.set_cons_zero] at h3
variable {b n : Nat} {T : TypeId} {xs : List Value}
theorem HeldX.blk (h : HeldX ex a w L) (hk : L[k]? = some (aB b T xs)) : Blk w b T xs := h.get hk
theorem HeldX.cl {ex : Option Nat} {a w : World} {L : List Asn} {b : Nat} {T : TypeId} {xs : List Value} {v : Value} (h : HeldX ex a w L) (k j : Nat) (hk : L[k]? = some (aB b T xs)) (hj : xs[j]? = some v) : w.cell? ⟨b, j, none⟩ = some v := (h.blk hk).cell hj
theorem HeldX.bl {ex : Option Nat} {a w : World} {L : List Asn} {b : Nat} {T : TypeId} {xs : List Value} (h : HeldX ex a w L) (k : Nat) (hk : L[k]? = some (aB b T xs)) : b < w.heap.size := (h.blk hk).lt
theorem nof {p : Prop} (h : false = true) : p := absurd h Bool.false_ne_true
theorem HeldX.c3 {ex : Option Nat} {a w : World} {L : List Asn} {b : Nat} {T : TypeId} {x y z : Value} (h : HeldX ex a w L) (k : Nat) (hk : L[k]? = some (aB b T [x, y, z])) : w.cell? ⟨b, 0, none⟩ = some x ∧ w.cell? ⟨b, 1, none⟩ = some y ∧ w.cell? ⟨b, 2, none⟩ = some z ∧ b < w.heap.size := ⟨h.cl k 0 hk rfl, h.cl k 1 hk rfl, h.cl k 2 hk rfl, h.bl k hk⟩
theorem HeldX.c5 {ex : Option Nat} {a w : World} {L : List Asn} {b : Nat} {T : TypeId} {x y z u v : Value} (h : HeldX ex a w L) (k : Nat) (hk : L[k]? = some (aB b T [x, y, z, u, v])) : w.cell? ⟨b, 0, none⟩ = some x ∧ w.cell? ⟨b, 1, none⟩ = some y ∧ w.cell? ⟨b, 2, none⟩ = some z ∧ w.cell? ⟨b, 3, none⟩ = some u ∧ w.cell? ⟨b, 4, none⟩ = some v ∧ b < w.heap.size := ⟨h.cl k 0 hk rfl, h.cl k 1 hk rfl, h.cl k 2 hk rfl, h.cl k 3 hk rfl, h.cl k 4 hk rfl, h.bl k hk⟩
theorem HeldX.fr {ex : Option Nat} {a w : World} {L : List Asn} {b : Nat} {T : TypeId} {xs : List Value} (h : HeldX ex a w L) (k j : Nat) (hk : L[k]? = some (aB b T xs)) : w.frozen? ⟨b, j, none⟩ = false := (h.blk hk).free j
theorem HeldX.addB (h : HeldX ex a w L) (k : Nat) (c : Array Value) (T : TypeId) : HeldX ex a (w.alloc (.cells c T)) (L.set k (aB w.heap.size T c.toList)) :=
  h.add k ((Ext.refl w).alloc _) (Blk.new w c T) fun b hb => by simp [aB] at hb; subst hb; exact Nat.le_refl _
theorem HeldX.setB (h : HeldX ex a w L) (hk : L[k]? = some (aB b T xs)) (j : Nat) (u : Value) : HeldX ex a (w.setCell ⟨b, j, none⟩ u) (L.set k (aB b T (xs.set j u))) :=
  h.turn hk (grown_setCell (grown_refl w (some b)) j u) (fun c hc => by cases hc; simp [aB]) ((h.blk hk).set j u) fun c hc => .inl hc
theorem set_set_same : ∀ (L : List Asn) (k : Nat) (A B : Asn), (L.set k A).set k B = L.set k B
  | [], _, _, _ => rfl
  | _ :: _, 0, _, _ => rfl
  | x :: L, k + 1, A, B => by simp
theorem HeldX.setB3 (h : HeldX ex a w L) (hk : L[k]? = some (aB b T xs)) (x y z : Value) : HeldX ex a (((w.setCell ⟨b, 0, none⟩ x).setCell ⟨b, 1, none⟩ y).setCell ⟨b, 2, none⟩ z) (L.set k (aB b T (((xs.set 0 x).set 1 y).set 2 z))) := by
  have hlt : k < L.length := (List.getElem?_eq_some_iff.1 hk).1
  have h1 := h.setB hk 0 x
  have h2 := h1.setB (List.getElem?_set_self hlt) 1 y
  rw [set_set_same] at h2
  have h3 := h2.setB (List.getElem?_set_self hlt) 2 z
  rw [set_set_same] at h3
  exact h3
theorem HeldX.setB3' (h : HeldX ex a w L) {p q r : Value} (hk : L[k]? = some (aB b T [p, q, r])) (x y z : Value) : HeldX ex a (((w.setCell ⟨b, 0, none⟩ x).setCell ⟨b, 1, none⟩ y).setCell ⟨b, 2, none⟩ z) (L.set k (aB b T [x, y, z])) := h.setB3 hk x y z
theorem HeldX.built (h : HeldX ex a w L) (k : Nat) (l : List Int) (n : Nat) (hn : l.length = n) (hl : n ≤ maxLen) (c : Array Value) (hc : c.toList = Proofs.YtlgjddgajdjllaaGreatDoor.ints l) : HeldX ex a (w.alloc (.cells c 3)) (L.set k (aI (.slice (some ⟨w.heap.size, 0, none⟩) n n) l)) := by
  refine h.addI k ((Ext.refl w).alloc _) (OwnI.mk' (B := w.heap.size) hn (Nat.le_refl _) ?_ hl) (Nat.le_refl _)
  have := Blk.new w c 3
  rwa [hc] at this
variable {D X : List Int} {x y z : Value}
theorem OwnT.zero {B : Nat} (h : OwnT w B v l D X) : OwnT w 0 v l D X := h.mono (Nat.zero_le _)
theorem OwnT.fp_ge {B : Nat} (h : OwnT w B v l D X) {b : Nat} (hb : b ∈ fpV v) : B ≤ b := by
  obtain ⟨p, q, r, rfl, h1, h2, h3, _⟩ := h.val
  rw [fpV_agg] at hb
  simp at hb
  rcases hb with hb | hb | hb
  · exact (h1.block_lt hb).1
  · exact (h2.block_lt hb).1
  · exact (h3.block_lt hb).1
theorem HeldX.addT (h : HeldX ex a w L) (k : Nat) {B : Nat} (e : Ext w w') (o : OwnT w' B v l D X) (hB : w.heap.size ≤ B) : HeldX ex a w' (L.set k (aT v l D X)) :=
  h.add k e o.zero fun b hb => Nat.le_trans hB (o.fp_ge hb)
theorem HeldX.tens (h : HeldX ex a w L) (hk : L[k]? = some (aT v l D X)) : TenS w v l D X := OwnT.tens (h.get hk)
end
theorem Tryz.infoTensor : (Tryz.prog.info? 52).map (fun i => (i.zero, i.size, i.bytes)) = some (some (.agg #[.slice none 0 0, .slice none 0 0, .slice none 0 0]), 3, 72) := by kernel_rfl
def fpC (c : Value × Value × Value) : List Nat := c.1.ownBlock.toList ++ c.2.1.ownBlock.toList ++ c.2.2.ownBlock.toList
abbrev Ten3 := List Int × List Int × List Int
theorem ownsRow_near {w w' : World} {B size n : Nat} {T : TypeId} {v : Value} {xs : List Value} (h : w.ownsRow B T size v n xs) (e : ∀ b, v.ownBlock = some b → w'.heap[b]? = w.heap[b]?) : w'.ownsRow B T size v n xs := by
  refine ⟨h.1, ?_⟩
  rcases h.2 with h2 | ⟨g, cap, cur, rfl, h3, h4, h5⟩
  · exact .inl h2
  · exact .inr ⟨g, cap, cur, rfl, h3, (e g rfl).trans h4, h5⟩
theorem ownsRow_lt {w : World} {B size n : Nat} {T : TypeId} {v : Value} {xs : List Value} (h : w.ownsRow B T size v n xs) {b : Nat} (hb : v.ownBlock = some b) : B ≤ b ∧ b < w.heap.size := by
  rcases h.2 with ⟨rfl, _⟩ | ⟨g, cap, cur, rfl, h3, h4, _⟩
  · simp [Value.ownBlock] at hb
  · simp [Value.ownBlock] at hb; subst hb; exact ⟨h3, (Array.getElem?_eq_some_iff.1 h4).1⟩
theorem ownsRow_row {w : World} {B size n : Nat} {T : TypeId} {v : Value} {xs : List Value} (h : w.ownsRow B T size v n xs) : Row w size v n xs := by
  refine ⟨h.1, ?_⟩
  rcases h.2 with ⟨rfl, h0⟩ | ⟨g, cap, cur, rfl, h3, h4, h5, h6, h7, h8⟩
  · exact ⟨none, 0, by rw [h0], by omega, Nat.zero_le _, fun hp => by rw [h.1, h0] at hp; simp at hp⟩
  · refine ⟨some ⟨g, 0, none⟩, cap, rfl, h5, h6, fun _ => ⟨g, 0, rfl, fun j u hj => ?_⟩⟩
    have hlt : j < xs.length := (List.getElem?_eq_some_iff.1 hj).1
    rw [h.1] at hlt
    rw [← h8, List.getElem?_take_of_lt hlt, Array.getElem?_toList] at hj
    simp [World.cell?, h4, hj]
theorem ownsRow_any {w : World} {B size n : Nat} {T : TypeId} {v : Value} {xs : List Value} (h : w.ownsRow B T size v n xs) : w.ownsRow 0 T size v n xs := by
  refine ⟨h.1, ?_⟩
  rcases h.2 with h2 | ⟨g, cap, cur, rfl, h3, h4⟩
  · exact .inl h2
  · exact .inr ⟨g, cap, cur, rfl, Nat.zero_le _, h4⟩
structure OwnTs (w : World) (v : Value) (cs : List (Value × Value × Value)) (ts : List Ten3) : Prop where
  len : cs.length = ts.length
  row : w.ownsRow 0 52 3 v ts.length (cs.flatMap cells3)
  elem : ∀ (i : Nat) (c : Value × Value × Value) (t : Ten3), cs[i]? = some c → ts[i]? = some t → OwnI w 0 c.1 t.1 ∧ OwnI w 0 c.2.1 t.2.1 ∧ OwnI w 0 c.2.2 t.2.2
theorem mem_fpC {c : Value × Value × Value} {b : Nat} : b ∈ fpC c ↔ c.1.ownBlock = some b ∨ c.2.1.ownBlock = some b ∨ c.2.2.ownBlock = some b := by
  unfold fpC
  simp [or_assoc]
def aTs (v : Value) (cs : List (Value × Value × Value)) (ts : List Ten3) : Asn :=
  ⟨v.ownBlock.toList ++ cs.flatMap fpC, fun w => OwnTs w v cs ts,
   fun w w' e h => ⟨h.len, ownsRow_near h.row fun b hb => e b (by simp [hb]), fun i c t hc ht => by
     have hm : c ∈ cs := List.mem_of_getElem? hc
     obtain ⟨h1, h2, h3⟩ := h.elem i c t hc ht
     have em : ∀ b, b ∈ fpC c → w'.heap[b]? = w.heap[b]? := fun b hb => e b (List.mem_append_right _ (List.mem_flatMap.2 ⟨c, hm, hb⟩))
     exact ⟨h1.near fun b hb => em b (mem_fpC.2 (.inl hb)), h2.near fun b hb => em b (mem_fpC.2 (.inr (.inl hb))), h3.near fun b hb => em b (mem_fpC.2 (.inr (.inr hb)))⟩⟩,
   fun w h b hb => by
     rcases List.mem_append.1 hb with hb | hb
     · exact (ownsRow_lt h.row (by simpa using hb)).2
     · obtain ⟨c, hc, hb⟩ := List.mem_flatMap.1 hb
       obtain ⟨i, hi⟩ := List.getElem?_of_mem hc
       have hlt : i < ts.length := by rw [← h.len]; exact (List.getElem?_eq_some_iff.1 hi).1
       obtain ⟨h1, h2, h3⟩ := h.elem i c ts[i] hi (List.getElem?_eq_getElem hlt)
       rcases mem_fpC.1 hb with e | e | e
       · exact (h1.block_lt e).2
       · exact (h2.block_lt e).2
       · exact (h3.block_lt e).2⟩
theorem OwnTs.tensS {w : World} {v : Value} {cs : List (Value × Value × Value)} {ts : List Ten3} (h : OwnTs w v cs ts) : TensS w v ts :=
  ⟨cs, h.len, ownsRow_row h.row, fun i c t hc ht => by obtain ⟨h1, h2, h3⟩ := h.elem i c t hc ht; exact ⟨h1.ints, h2.ints, h3.ints⟩⟩
theorem OwnTs.nil (w : World) : OwnTs w (.slice none 0 0) [] [] := ⟨rfl, ⟨rfl, .inl ⟨rfl, rfl⟩⟩, fun i c t h => by simp at h⟩
section
variable {ex : Option Nat} {a w w' : World} {L : List Asn} {k k1 k2 : Nat}
theorem HeldX.tensS {v : Value} {cs : List (Value × Value × Value)} {ts : List Ten3} (h : HeldX ex a w L) (hk : L[k]? = some (aTs v cs ts)) : TensS w v ts := OwnTs.tensS (h.get hk)
theorem HeldX.merge {A A1 A2 : Asn} (h : HeldX ex a w L) (h1 : L[k1]? = some A1) (h2 : L[k2]? = some A2) (hne : k1 ≠ k2) {ob : Option Nat} (g : w.grownBy w' ob) (hob : ∀ b, ob = some b → b ∈ A1.fp) (hold : A.holds w')
    (hfp : ∀ b ∈ A.fp, b ∈ A1.fp ∨ b ∈ A2.fp ∨ w.heap.size ≤ b) : HeldX ex a w' ((L.set k2 emp).set k1 A) := by
  have r1 := h.fpr h1
  have r2 := h.fpr h2
  have o1 := h.others h1
  have o2 := h.others h2
  refine (h.drop k2).put k1 (A1.fp ++ A2.fp) g.size (fun b hb hn => g.block b hb fun e => hn (List.mem_append_left _ (hob b e.symm))) (fun b hb => ?_) (gr_above h.grown g fun b hb => (r1 b (hob b hb)).1) (fun j A' hj hA b hb => ?_) hold fun b hb => ?_
  · rcases List.mem_append.1 hb with hb | hb
    · exact (r1 b hb).1
    · exact (r2 b hb).1
  · by_cases e : j = k2
    · subst e
      have hlt : j < L.length := by have := (List.getElem?_eq_some_iff.1 hA).1; simpa using this
      rw [List.getElem?_set_self hlt] at hA
      obtain rfl := Option.some.inj hA
      exact fun h => by cases h
    · rw [List.getElem?_set_ne (Ne.symm e)] at hA
      rcases List.mem_append.1 hb with hb | hb
      · exact o1 j A' hj hA b hb
      · exact o2 j A' e hA b hb
  · rcases hfp b hb with h | h | h
    · exact .inl (List.mem_append_left _ h)
    · exact .inl (List.mem_append_right _ h)
    · exact .inr h
end
theorem ints_not_tens {w : World} {B B' size n b : Nat} {v v' : Value} {xs : List Value} {l : List Int} (h : w.ownsRow B 52 size v n xs) (hb : v.ownBlock = some b) (o : OwnI w B' v' l) {c : Nat} (hc : v'.ownBlock = some c) : c ≠ b := by
  rintro rfl
  rcases h.2 with ⟨rfl, _⟩ | ⟨g, cap, cur, rfl, h3, h4, _⟩
  · simp [Value.ownBlock] at hb
  · simp [Value.ownBlock] at hb
    subst hb
    rcases o.own with ⟨rfl, _⟩ | ⟨b', rest, h1, rfl, h5, _⟩
    · simp [Value.ownBlock] at hc
    · simp [Value.ownBlock] at hc
      subst hc
      rw [h5.row] at h4
      simp at h4
theorem OwnTs.cells {w : World} {b n cap : Nat} {cs : List (Value × Value × Value)} {ts : List Ten3} (h : OwnTs w (.slice (some ⟨b, 0, none⟩) n cap) cs ts) {i : Nat} (hi : i < ts.length) :
    ∃ x y z, w.cell? ⟨b, i * 3, none⟩ = some x ∧ w.cell? ⟨b, i * 3 + 1, none⟩ = some y ∧ w.cell? ⟨b, i * 3 + 2, none⟩ = some z ∧ w.frozen? ⟨b, i * 3, none⟩ = false ∧ w.frozen? ⟨b, i * 3 + 1, none⟩ = false ∧ w.frozen? ⟨b, i * 3 + 2, none⟩ = false ∧ b < w.heap.size := by
  rw [Nat.mul_comm i 3]
  have hr := (ownsRow_row h.row).val
  obtain ⟨a', c', hv, _, _, h3⟩ := hr
  cases hv
  obtain ⟨b', off, hb, hc⟩ := h3 (by rw [h.row.1]; omega)
  cases hb
  have hil : i < cs.length := by rw [h.len]; exact hi
  have hci : cs[i]? = some cs[i] := List.getElem?_eq_getElem hil
  obtain ⟨g1, g2, g3⟩ := cells3_get hci
  have c1 := hc _ _ g1; have c2 := hc _ _ g2; have c3 := hc _ _ g3
  rw [Nat.zero_add] at c1 c2 c3
  have hlt := (ownsRow_lt h.row (b := b) rfl).2
  rcases h.row.2 with ⟨h0, _⟩ | ⟨g, cap', cur, hv, h3, h4, _⟩
  · cases h0
  · cases hv
    exact ⟨_, _, _, c1, c2, c3, by simp [World.frozen?, h4], by simp [World.frozen?, h4], by simp [World.frozen?, h4], hlt⟩
theorem OwnTs.get {w : World} {b n cap : Nat} {cs : List (Value × Value × Value)} {ts : List Ten3} (h : OwnTs w (.slice (some ⟨b, 0, none⟩) n cap) cs ts) {i : Nat} {t : Ten3} (ht : ts[i]? = some t) :
    ∃ x y z, cs[i]? = some (x, y, z) ∧ w.cell? ⟨b, i * 3, none⟩ = some x ∧ w.cell? ⟨b, i * 3 + 1, none⟩ = some y ∧ w.cell? ⟨b, i * 3 + 2, none⟩ = some z ∧ OwnI w 0 x t.1 ∧ OwnI w 0 y t.2.1 ∧ OwnI w 0 z t.2.2 ∧ b < w.heap.size := by
  rw [Nat.mul_comm i 3]
  have hi : i < ts.length := (List.getElem?_eq_some_iff.1 ht).1
  have hr := (ownsRow_row h.row).val
  obtain ⟨a', c', hv, _, _, h3⟩ := hr
  cases hv
  obtain ⟨b', off, hb, hc⟩ := h3 (by rw [h.row.1]; omega)
  cases hb
  have hil : i < cs.length := by rw [h.len]; exact hi
  have hci : cs[i]? = some cs[i] := List.getElem?_eq_getElem hil
  obtain ⟨g1, g2, g3⟩ := cells3_get hci
  have c1 := hc _ _ g1; have c2 := hc _ _ g2; have c3 := hc _ _ g3
  rw [Nat.zero_add] at c1 c2 c3
  obtain ⟨e1, e2, e3⟩ := h.elem i _ _ hci ht
  exact ⟨_, _, _, hci, c1, c2, c3, e1, e2, e3, (ownsRow_lt h.row (b := b) rfl).2⟩
section
variable {ex : Option Nat} {a w w' : World} {L : List Asn} {k1 k2 : Nat}
theorem row_one3 (w : World) (x y z : Value) (T : TypeId) : Row (w.alloc (.cells #[x, y, z] T)) 3 (.slice (some ⟨w.heap.size, 0, none⟩) 1 1) 1 [x, y, z] := by
  refine ⟨rfl, some ⟨w.heap.size, 0, none⟩, 1, rfl, Nat.le_refl _, by unfold maxLen; omega, fun _ => ⟨_, 0, rfl, fun j u hj => ?_⟩⟩
  have hB := Blk.new w #[x, y, z] T
  rw [Nat.zero_add]
  exact hB.cell hj
theorem run_pushT2 (ty : TypeId) {v src x y z : Value} {cs : List (Value × Value × Value)} {ts : List Ten3} {L1 D1 X1 : List Int} (h : HeldX ex a w L) (h1 : L[k1]? = some (aTs v cs ts)) (h2 : L[k2]? = some (aT (.agg #[x, y, z]) L1 D1 X1)) (hne : k1 ≠ k2) (hr : Row w 3 src 1 [x, y, z]) (hb : ts.length + 1 ≤ 1099511627) :
    ∃ v' w', (Builtin.append_ #[26, 26] ty #[v, src]).run Tryz.prog w = .ok v' w' ∧ HeldX ex a w' ((L.set k2 emp).set k1 (aTs v' (cs ++ [(x, y, z)]) (ts ++ [(L1, D1, X1)]))) ∧ w.grownBy w' v.ownBlock := by
  have ho : OwnTs w v cs ts := h.get h1
  have hx : OwnT w 0 (.agg #[x, y, z]) L1 D1 X1 := h.get h2
  obtain ⟨p, q, r, hv, g1, g2, g3, _⟩ := hx.val
  simp at hv
  obtain ⟨rfl, rfl, rfl⟩ := hv
  obtain ⟨i, hi, hzz⟩ := Option.map_eq_some_iff.1 Tryz.infoTensor
  simp only [Prod.mk.injEq] at hzz
  obtain ⟨hz, hsz, hby⟩ := hzz
  obtain ⟨_, _, rfl, _⟩ := g1.ints.val
  obtain ⟨_, _, rfl, _⟩ := g2.ints.val
  obtain ⟨_, _, rfl, _⟩ := g3.ints.val
  obtain ⟨v', w', e1, e2, e3, e4⟩ := run_app (P := Tryz.prog) w 0 26 ty 52 i _ 3 72 Tryz.underlying26 hi hz hsz hby rfl (by omega) v _ _ ho.row src 1 _ hr (by intro u hu; simp at hu; rcases hu with rfl | rfl | rfl <;> rfl) (by unfold maxLen; omega) (by omega) (Nat.zero_le _)
  refine ⟨v', w', e1, h.merge h1 h2 hne e3 (fun b hb => by simp [aTs, hb]) ?_ fun c hc => ?_, e3⟩
  · have hob := h.others h1 k2 _ (Ne.symm hne) h2
    have far : ∀ {u : Value} {l : List Int}, OwnI w 0 u l → OwnI w' 0 u l := fun {u l} o =>
      o.near fun c hc => by
        refine e3.block c (o.block_lt hc).2 fun e => ?_
        exact ints_not_tens ho.row e.symm o hc rfl
    refine ⟨by simp [ho.len], ?_, fun j c t hc ht => ?_⟩
    · rw [List.length_append, List.flatMap_append]
      exact ownsRow_any e2
    · have hl := ho.len
      rcases Nat.lt_or_ge j ts.length with hj | hj
      · rw [List.getElem?_append_left (by omega)] at hc
        rw [List.getElem?_append_left hj] at ht
        obtain ⟨f1, f2, f3⟩ := ho.elem j c t hc ht
        exact ⟨far f1, far f2, far f3⟩
      · rw [List.getElem?_append_right (by omega)] at hc
        rw [List.getElem?_append_right hj] at ht
        have e0 : j - ts.length = 0 := by
          have := (List.getElem?_eq_some_iff.1 ht).1
          simp at this; omega
        rw [e0] at ht
        rw [show j - cs.length = 0 by omega] at hc
        simp at hc ht
        subst hc ht
        exact ⟨far g1, far g2, far g3⟩
  · rcases List.mem_append.1 hc with hc | hc
    · rcases e4 with e4 | e4
      · exact .inl (List.mem_append_left _ (by rw [← e4]; exact hc))
      · rw [e4] at hc; simp at hc; exact .inr (.inr (by omega))
    · obtain ⟨d, hd, hc⟩ := List.mem_flatMap.1 hc
      rcases List.mem_append.1 hd with hd | hd
      · exact .inl (List.mem_append_right _ (List.mem_flatMap.2 ⟨d, hd, hc⟩))
      · simp at hd
        subst hd
        refine .inr (.inl ?_)
        show c ∈ fpV (.agg _)
        rw [fpV_agg]
        rcases mem_fpC.1 hc with e | e | e <;> simp at e <;> simp [e]
end
def arrV (A : List Int) : Array Value := (Proofs.YtlgjddgajdjllaaGreatDoor.ints A).toArray
theorem arrV_list (A : List Int) : (arrV A).toList = Proofs.YtlgjddgajdjllaaGreatDoor.ints A := by simp [arrV]
theorem arrV_size (A : List Int) : (arrV A).size = A.length := by simp [arrV, Proofs.YtlgjddgajdjllaaGreatDoor.ints]
theorem Tryz.infoArr : (Tryz.prog.info? 62).map (fun i => (i.zero, i.size)) = some (some (.agg (Array.replicate 100 (.int .i64 0))), 100) := by kernel_rfl
theorem arr_zero : arrV (List.replicate 100 0) = Array.replicate 100 (.int .i64 0) := by
  apply Array.ext'
  rw [arrV_list]
  simp [Proofs.YtlgjddgajdjllaaGreatDoor.ints]
theorem Tryz.sizeArr : (Tryz.prog.info? 62).map (·.size) = some 100 := by
  obtain ⟨i, hi, hz⟩ := Option.map_eq_some_iff.1 Tryz.infoArr
  rw [hi]
  simp only [Prod.mk.injEq] at hz
  simp [hz.2]
section
variable {ops : Array Oper} {rest : List Oper} {o : Oper} {a : Act} {w : World} {Q : Exit → Act → World → Prop}
theorem run_alloc_arr (w : World) : (Instr.alloc 62 true (.tuple #[])).run Tryz.prog w = .ok (.pointer (some ⟨w.heap.size, 0, none⟩)) (w.alloc (.cells (arrV (List.replicate 100 0)) 62)) := by
  obtain ⟨i, hi, hz⟩ := Option.map_eq_some_iff.1 Tryz.infoArr
  simp only [Prod.mk.injEq] at hz
  rw [arr_zero]
  simp [Instr.alloc, zeroValue, typeInfo, hi, hz.1, newVar, newRow, Value.cells, Sem.run_bind]
theorem wpList_alloc_arr (hg : o.guard = none) (ho : o.op = .alloc 62) (h : wpList Tryz.prog ops Q rest (a.put o.dst (.pointer (some ⟨w.heap.size, 0, none⟩))) (w.alloc (.cells (arrV (List.replicate 100 0)) 62))) : wpList Tryz.prog ops Q (o :: rest) a w := by
  refine wpList_plain hg fun K hK => ?_
  unfold Oper.wp execOp
  simp only [ho, Sem.run_bind, run_alloc_arr, Sem.run_pure, Result.andThen_ok]
  exact hK _ _ h
theorem wpList_load_arr (hg : o.guard = none) (x : Operand) (ho : o.op = .load 62 x) {b : Nat} {A : List Int} (hx : a.eval x = .pointer (some ⟨b, 0, none⟩)) (hB : Blk w b 62 (Proofs.YtlgjddgajdjllaaGreatDoor.ints A)) (hl : A.length = 100)
    (h : wpList Tryz.prog ops Q rest (a.put o.dst (.agg (arrV A))) w) : wpList Tryz.prog ops Q (o :: rest) a w := by
  refine wpList_load_mid (P := Tryz.prog) hg _ x ho b 0 hx (Proofs.YtlgjddgajdjllaaGreatDoor.ints A) (.array 100 3) (fun j v hj => by rw [Nat.zero_add]; exact hB.cell hj) (by kernel_rfl) rfl (by rw [Tryz.sizeArr, ints_length, hl]) ?_
  exact h
theorem setCells_grown : ∀ (vs : List Value) (b o : Nat) (w0 w : World), w0.grownBy w (some b) → w0.grownBy (w.setCells b o vs) (some b)
  | [], _, _, _, _, h => h
  | v :: vs, b, o, w0, w, h => setCells_grown vs b (o + 1) w0 _ (grown_setCell h o v)
theorem setCells_blk {T : TypeId} : ∀ (vs : List Value) (b o : Nat) (w : World) (xs : List Value), Blk w b T xs → o + vs.length ≤ xs.length → Blk (w.setCells b o vs) b T (xs.take o ++ vs ++ xs.drop (o + vs.length))
  | [], b, o, w, xs, h, _ => by
    have e : xs.take o ++ [] ++ xs.drop (o + ([] : List Value).length) = xs := by simp
    rw [e]; exact h
  | v :: vs, b, o, w, xs, h, hl => by
    have h2 := setCells_blk vs b (o + 1) _ _ (h.set o v) (by simp at hl ⊢; omega)
    have e : (xs.set o v).take (o + 1) ++ vs ++ (xs.set o v).drop (o + 1 + vs.length) = xs.take o ++ v :: vs ++ xs.drop (o + (v :: vs).length) := by
      have ho : o < xs.length := by simp at hl; omega
      rw [List.take_set, List.drop_set_of_lt (by omega), List.take_succ_eq_append_getElem ho, List.set_append_right _ _ (by rw [List.length_take]; omega), List.length_cons]
      have e1 : o - (xs.take o).length = 0 := by simp; omega
      rw [e1]
      simp only [List.set_cons_zero, List.append_assoc, List.cons_append, List.nil_append, Nat.add_assoc, Nat.add_comm 1]
    rw [e] at h2
    exact h2
theorem wpList_store_arr (hg : o.guard = none) (x y : Operand) (ho : o.op = .store 62 x y) {b : Nat} {A A0 : List Int} (hx : a.eval x = .pointer (some ⟨b, 0, none⟩)) (hy : a.eval y = .agg (arrV A)) (hB : Blk w b 62 (Proofs.YtlgjddgajdjllaaGreatDoor.ints A0)) (hl : A.length = 100) (hl0 : A0.length = 100)
    (h : ∀ w', w.grownBy w' (some b) → Blk w' b 62 (Proofs.YtlgjddgajdjllaaGreatDoor.ints A) → w'.heap.size = w.heap.size → wpList Tryz.prog ops Q rest (a.put o.dst undef) w') : wpList Tryz.prog ops Q (o :: rest) a w := by
  refine wpList_store_mid (P := Tryz.prog) hg _ x y ho b 0 (arrV A) hx hy (fun j hj => ?_) (by rw [Tryz.sizeArr, arrV_size, hl]) ?_ ?_
  · rw [arrV_size, hl] at hj
    obtain ⟨v, hv⟩ : ∃ v, A0[j]? = some v := ⟨_, List.getElem?_eq_getElem (by omega)⟩
    rw [Nat.zero_add]
    exact ⟨by rw [hB.cell (j := j) (u := .int .i64 v) (by rw [ints_get, hv]; rfl)]; rfl, hB.free j⟩
  · rw [Array.all_eq_true_iff_forall_mem]
    intro v hv
    rw [arrV, List.mem_toArray, Proofs.YtlgjddgajdjllaaGreatDoor.ints, List.mem_map] at hv
    obtain ⟨z, _, rfl⟩ := hv
    rfl
  · rw [arrV_list]
    refine h _ (setCells_grown _ _ _ _ _ (grown_refl _ _)) ?_ ?_
    · have := setCells_blk (Proofs.YtlgjddgajdjllaaGreatDoor.ints A) b 0 w _ hB (by rw [ints_length, ints_length, hl, hl0]; decide)
      rw [List.take_zero, List.nil_append, Nat.zero_add, List.drop_eq_nil_of_le (by rw [ints_length, ints_length]; omega), List.append_nil] at this
      exact this
    · have e : ∀ (vs : List Value) (o : Nat) (w : World), (w.setCells b o vs).heap.size = w.heap.size := by
        intro vs
        induction vs with
        | nil => intro o w; rfl
        | cons v vs ih => intro o w; exact (ih (o + 1) _).trans (by simp [World.setCell])
      exact e _ _ _
theorem results_arr {fn : Func} {t t2 : Tmp} (hf : fn.results = #[.cell t 62, .tmp t2]) {tmps : Array Value} {b : Nat} {A : List Int} {v : Value} (h1 : tmps.getD t undef = .pointer (some ⟨b, 0, none⟩)) (h2 : tmps.getD t2 undef = v) (hB : Blk w b 62 (Proofs.YtlgjddgajdjllaaGreatDoor.ints A)) (hl : A.length = 100) :
    (results fn tmps).run Tryz.prog w = .ok (.tuple #[.agg (arrV A), v]) w := by
  have hr := run_loadVar_mid (P := Tryz.prog) w b 0 62 (Proofs.YtlgjddgajdjllaaGreatDoor.ints A) (.array 100 3) (fun j v hj => by rw [Nat.zero_add]; exact hB.cell hj) (by kernel_rfl) rfl (by rw [Tryz.sizeArr, ints_length, hl])
  rw [results_cell_tmp hf, h1]
  simp [asAddr, Sem.run_bind, hr, h2, arrV]
end
structure Uni (dm : Int → Int) (U : List Int) : Prop where
  ok : AxOk U (U.map dm)
structure Sub (U L : List Int) : Prop where
  nodup : L.Nodup
  sub : ∀ l ∈ L, l ∈ U
theorem Uni.dim {dm : Int → Int} {U : List Int} (u : Uni dm U) {l : Int} (h : l ∈ U) : 1 ≤ dm l ∧ dm l ≤ 8 := u.ok.dims _ (List.mem_map_of_mem h)
def axs (dm : Int → Int) (L : List Int) : List (Int × Int) := L.map fun l => (l, dm l)
theorem axs_cons (dm : Int → Int) (l : Int) (L : List Int) : axs dm (l :: L) = (l, dm l) :: axs dm L := rfl
theorem size_axs {dm : Int → Int} : ∀ {L : List Int}, (∀ l ∈ L, 1 ≤ dm l) → ((size (axs dm L) : Nat) : Int) = prodL (L.map dm)
  | [], _ => rfl
  | l :: L, h => by
    have h1 := h l (by simp)
    rw [axs_cons, size, List.map_cons, prodL_cons, Int.natCast_mul, size_axs fun x hx => h x (by simp [hx]), Int.toNat_of_nonneg (by omega)]
theorem Uni.size {dm : Int → Int} {U L : List Int} (u : Uni dm U) (h : Sub U L) : ((Proofs.YtlgjddgajdjllaaGreatDoor.size (axs dm L) : Nat) : Int) = prodL (L.map dm) := size_axs fun l hl => (u.dim (h.sub l hl)).1
section
variable {ex : Option Nat} {a w w' : World} {L : List Asn} {k1 k2 : Nat}
theorem HeldX.nilTs (h : HeldX ex a w L) : HeldX ex a w (L ++ [aTs (.slice none 0 0) [] []]) := by
  have h2 := h.more
  have h3 := h2.alter (k := L.length) (A0 := emp) (A := aTs (.slice none 0 0) [] []) (by simp) (OwnTs.nil _) (fun b hb => by simp [aTs, Value.ownBlock] at hb)
  rwa [List.set_append_right _ _ (Nat.le_refl _), Nat.sub_self, List.set_cons_zero] at h3
end
end Go.Proofs.YtlgjddgajdjllaaGreatDoor
