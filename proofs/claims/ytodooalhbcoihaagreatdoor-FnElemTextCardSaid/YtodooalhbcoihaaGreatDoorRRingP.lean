/- 'ParseRing': the ring that a text names, plainly. -/
import Derived.Test.YtodooalhbcoihaaGreatDoorRBase
import Derived.Test.YtodooalhbcoihaaGreatDoorRRingT
import Derived.Test.YtodooalhbcoihaaGreatDoorRParsesW
namespace Go.Proofs.YtodooalhbcoihaaGreatDoor
open Go.RowKit
set_option linter.unusedSimpArgs false
set_option linter.unusedVariables false
open Go.Lib

/-- The numbers that are written. -/
def numsOf (p n : Int) : List Int := (if p = 0 then [] else [p]) ++ (if n = 0 then [] else [n])
theorem name_clean (k : Int) : (32 : UInt8) ∉ nameL k := by
  rcases kinds k with rfl | rfl | rfl | rfl | rfl | rfl | rfl | rfl | ⟨e1, e2, e3, e4, e5, e6, e7, e8⟩
  any_goals decide
  simp [nameL, e1, e2, e3, e4, e5, e6, e7, e8]
theorem itoa_sp (v : Int) : (32 : UInt8) ∉ itoa v := itoa_clean (by decide) (by decide) v
theorem sp_nums (x : List UInt8) (hx : (32 : UInt8) ∉ x) (p n : Int) : sp 32 (x ++ numT p ++ numT n) = x :: (numsOf p n).map itoa := by
  by_cases hp : p = 0
  · by_cases hn : n = 0
    · subst hp; subst hn
      rw [numT_zero, List.append_nil, List.append_nil, sp_none hx]; rfl
    · subst hp
      rw [numT_zero, List.append_nil, numT_some hn, sp_at hx, sp_none (itoa_sp n)]
      simp [numsOf, hn]
  · by_cases hn : n = 0
    · subst hn
      rw [numT_zero, List.append_nil, numT_some hp, sp_at hx, sp_none (itoa_sp p)]
      simp [numsOf, hp]
    · rw [numT_some hp, numT_some hn, List.append_assoc, List.cons_append, sp_at hx, sp_at (itoa_sp p), sp_none (itoa_sp n)]
      simp [numsOf, hp, hn]
theorem nums_i64 {k p n : Int} (h : ringOk k p n = true) : ∀ v ∈ numsOf p n, isI64 v := by
  obtain ⟨⟨p0, p1⟩, n0, n1⟩ := ringOk_small h
  intro v hv
  unfold numsOf at hv
  have : v = p ∨ v = n := by
    rcases List.mem_append.1 hv with h | h
    · split at h
      · simp at h
      · simp at h; exact .inl h
    · split at h
      · simp at h
      · simp at h; exact .inr h
  unfold isI64
  rcases this with rfl | rfl <;> omega
/-- The text of a ring in pieces: its name and its numbers. -/
theorem ring_pieces {k p n : Int} {s : List UInt8} (h : ringOk k p n = true) (e : fmtRing k p n = s) : sp 32 s = nameL k :: (numsOf p n).map itoa := by
  rw [← e, fmtRing_yes h]; exact sp_nums _ (name_clean k) p n
theorem ring_nums {k p n : Int} {s p0 : List UInt8} {pt : List (List UInt8)} (h : ringOk k p n = true) (e : fmtRing k p n = s) (hp : sp 32 s = p0 :: pt) : p0 = nameL k ∧ pt.mapM parseI = some (numsOf p n) := by
  rw [ring_pieces h e] at hp
  injection hp with h1 h2
  exact ⟨h1.symm, by rw [← h2]; exact mapM_itoa (nums_i64 h)⟩
/-- The last of the kinds 1 .. m with that name. -/
def kUp : Nat → List UInt8 → Int
  | 0, _ => 0
  | m + 1, l => if nameL ((m : Int) + 1) = l then (m : Int) + 1 else kUp m l
theorem kUp_name {k : Int} (h : 1 ≤ k ∧ k ≤ 8) : kUp 8 (nameL k) = k := by
  rcases kinds k with rfl | rfl | rfl | rfl | rfl | rfl | rfl | rfl | ⟨e1, e2, e3, e4, e5, e6, e7, e8⟩
  any_goals decide
  omega
/-- The numbers of the ring, as the program gives them out. -/
def assP (k : Int) (xs : List Int) : Int := match xs with
  | [a] => if k = 6 then 0 else a
  | [a, _] => a
  | _ => 0
def assN (k : Int) (xs : List Int) : Int := match xs with
  | [a] => if k = 6 then a else 0
  | [_, b] => b
  | _ => 0
/-- The same, as the reference does. -/
def refP (k : Int) (xs : List Int) : Int := match xs with
  | [] => 0
  | a :: _ => if k = 6 then 0 else a
def refN (k : Int) (xs : List Int) : Int := match xs with
  | [] => 0
  | [a] => if k = 6 then a else 0
  | _ :: b :: _ => b
theorem ringOk_zero {k p n : Int} (h : ringOk k p n = true) : (k = 1 → p = 0) ∧ (k = 6 → p = 0 ∧ n ≠ 0) ∧ (k ≠ 1 → k ≠ 6 → p ≠ 0) ∧ (k ≠ 6 → k ≠ 7 → n = 0) ∧ (k = 7 → n ≠ 0) := by
  rcases kinds k with rfl | rfl | rfl | rfl | rfl | rfl | rfl | rfl | ⟨e1, e2, e3, e4, e5, e6, e7, e8⟩
  · simp [ringOk] at h; omega
  · simp [ringOk] at h; have := isPrime_ge h.1; omega
  · simp [ringOk] at h; omega
  · simp [ringOk] at h; omega
  · simp [ringOk] at h; omega
  · simp [ringOk] at h; omega
  · simp [ringOk] at h; have := isPrime_ge h.1.1; omega
  · simp [ringOk] at h; have := isPrime_ge h.1.1; omega
  · simp [ringOk, e1, e2, e3, e4, e5, e6, e7, e8] at h
theorem ass_nums {k p n : Int} (h : ringOk k p n = true) : assP k (numsOf p n) = p ∧ assN k (numsOf p n) = n ∧ refP k (numsOf p n) = p ∧ refN k (numsOf p n) = n := by
  obtain ⟨z1, z2, z3, z4, z5⟩ := ringOk_zero h
  by_cases h6 : k = 6
  · obtain ⟨rfl, hn⟩ := z2 h6
    simp [numsOf, hn, assP, assN, refP, refN, h6]
  · by_cases h1 : k = 1
    · have := z1 h1
      have hn := z4 h6 (by omega)
      subst this; subst hn
      simp [numsOf, assP, assN, refP, refN]
    · have hp := z3 h1 h6
      by_cases h7 : k = 7
      · have hn := z5 h7
        simp [numsOf, hp, hn, assP, assN, refP, refN, h6]
      · have hn := z4 h6 h7
        subst hn
        simp [numsOf, hp, assP, assN, refP, refN, h6]
/-- What 'ParseRing' answers: the ring with that text; or none. -/
structure RP (s : List UInt8) (k p n : Int) (b : Bool) : Prop where
  out : (b = true ∧ ringOk k p n = true ∧ fmtRing k p n = s) ∨ (b = false ∧ k = 0 ∧ p = 0 ∧ n = 0 ∧ ∀ k p n, ringOk k p n = true → fmtRing k p n ≠ s)
theorem ring_one {k p n k' p' n' : Int} {s : List UInt8} (h : ringOk k p n = true) (e : fmtRing k p n = s) (h' : ringOk k' p' n' = true) (e' : fmtRing k' p' n' = s) : k = k' ∧ p = p' ∧ n = n' := by
  obtain ⟨p0, pt, hp⟩ := sp_shape 32 s
  obtain ⟨a1, a2⟩ := ring_nums h e hp
  obtain ⟨b1, b2⟩ := ring_nums h' e' hp
  have hk : k = k' := by
    have h1 := kUp_name (ringOk_kind h)
    have h2 := kUp_name (ringOk_kind h')
    rw [← a1] at h1; rw [← b1] at h2
    rw [← h1, h2]
  subst hk
  have hn : numsOf p n = numsOf p' n' := by rw [a2] at b2; exact Option.some.inj b2
  obtain ⟨c1, c2, _⟩ := ass_nums h
  obtain ⟨d1, d2, _⟩ := ass_nums h'
  rw [hn] at c1 c2
  exact ⟨rfl, by rw [← c1, d1], by rw [← c2, d2]⟩
theorem RP.one {s : List UInt8} {k p n k' p' n' : Int} {b b' : Bool} (h : RP s k p n b) (h' : RP s k' p' n' b') : k = k' ∧ p = p' ∧ n = n' ∧ b = b' := by
  rcases h.out with ⟨rfl, h1, h2⟩ | ⟨rfl, rfl, rfl, rfl, hn⟩
  · rcases h'.out with ⟨rfl, h1', h2'⟩ | ⟨_, _, _, _, hn'⟩
    · obtain ⟨a, b, c⟩ := ring_one h1 h2 h1' h2'; exact ⟨a, b, c, rfl⟩
    · exact absurd h2 (hn' _ _ _ h1)
  · rcases h'.out with ⟨_, h1', h2'⟩ | ⟨rfl, rfl, rfl, rfl, _⟩
    · exact absurd h2' (hn _ _ _ h1')
    · exact ⟨rfl, rfl, rfl, rfl⟩
theorem RP.yes {s : List UInt8} {k p n : Int} (h : ringOk k p n = true) (e : fmtRing k p n = s) : RP s k p n true := ⟨.inl ⟨rfl, h, e⟩⟩
/-- A number that is none. -/
theorem RP.bad {s p0 : List UInt8} {pt : List (List UInt8)} (hp : sp 32 s = p0 :: pt) (h : pt.mapM parseI = none) : RP s 0 0 0 false := by
  refine ⟨.inr ⟨rfl, rfl, rfl, rfl, fun k p n hr e => ?_⟩⟩
  rw [(ring_nums hr e hp).2] at h; cases h
/-- The ring that the program puts together is not the one. -/
theorem RP.no {s p0 : List UInt8} {pt : List (List UInt8)} {xs : List Int} (hp : sp 32 s = p0 :: pt) (h : pt.mapM parseI = some xs) (hn : ringOk (kUp 8 p0) (assP (kUp 8 p0) xs) (assN (kUp 8 p0) xs) = true → fmtRing (kUp 8 p0) (assP (kUp 8 p0) xs) (assN (kUp 8 p0) xs) ≠ s) : RP s 0 0 0 false := by
  refine ⟨.inr ⟨rfl, rfl, rfl, rfl, fun k p n hr e => ?_⟩⟩
  obtain ⟨h1, h2⟩ := ring_nums hr e hp
  rw [h2] at h
  injection h with h
  subst h1
  subst h
  rw [kUp_name (ringOk_kind hr)] at hn
  obtain ⟨c1, c2, _⟩ := ass_nums hr
  rw [c1, c2] at hn
  exact hn hr e
end Go.Proofs.YtodooalhbcoihaaGreatDoor
