/- Lists of integers read from their text. -/
import Derived.Test.YtodooalhbcoihaaDoorSplitW
import Derived.Test.YtodooalhbcoihaaDoorParseW
import Derived.Test.YtodooalhbcoihaaDoorPushI
namespace Go.Proofs.YtodooalhbcoihaaDoor
open Go.RowKit
set_option linter.unusedSimpArgs false
set_option linter.unusedVariables false
open Go.Lib

theorem mapM_snoc {α β : Type} (f : α → Option β) : ∀ {l : List α} {x : α} {ys : List β} {y : β}, l.mapM f = some ys → f x = some y → (l ++ [x]).mapM f = some (ys ++ [y])
  | [], x, ys, y, h, hy => by simp at h; subst h; simp [hy]
  | a :: l, x, ys, y, h, hy => by
    rw [List.mapM_cons] at h
    rw [List.cons_append, List.mapM_cons]
    cases h1 : f a with
    | none => rw [h1] at h; simp at h
    | some b =>
      cases h2 : l.mapM f with
      | none => rw [h1, h2] at h; simp at h
      | some zs =>
        rw [h1, h2] at h
        simp at h
        subst h
        rw [mapM_snoc f h2 hy]; rfl
theorem mapM_none {α β : Type} (f : α → Option β) : ∀ {l : List α} {x : α}, x ∈ l → f x = none → l.mapM f = none
  | a :: l, x, h, hn => by
    rw [List.mapM_cons]
    rcases List.mem_cons.1 h with rfl | h
    · rw [hn]; rfl
    · rw [mapM_none f h hn]
      cases f a <;> rfl
theorem mapM_len {α β : Type} (f : α → Option β) : ∀ {l : List α} {ys : List β}, l.mapM f = some ys → ys.length = l.length
  | [], ys, h => by simp at h; subst h; rfl
  | a :: l, ys, h => by
    rw [List.mapM_cons] at h
    cases h1 : f a with
    | none => rw [h1] at h; simp at h
    | some b =>
      cases h2 : l.mapM f with
      | none => rw [h1, h2] at h; simp at h
      | some zs =>
        rw [h1, h2] at h
        simp at h
        subst h
        simp [mapM_len f h2]
/-- The results of 'ParseInts'. -/
def piv (c : UInt8) (s : List UInt8) : List Int := (intsBy c s).getD []
def pib (c : UInt8) (s : List UInt8) : Bool := (intsBy c s).isSome
theorem piv_none {c : UInt8} {s : List UInt8} (h : intsBy c s = none) : piv c s = [] := by rw [piv, h]; rfl
theorem pib_none {c : UInt8} {s : List UInt8} (h : intsBy c s = none) : pib c s = false := by rw [pib, h]; rfl
theorem piv_some {c : UInt8} {s : List UInt8} {x : List Int} (h : intsBy c s = some x) : piv c s = x := by rw [piv, h]; rfl
theorem pib_some {c : UInt8} {s : List UInt8} {x : List Int} (h : intsBy c s = some x) : pib c s = true := by rw [pib, h]; rfl
theorem intsBy_ne {c : UInt8} {s : List UInt8} (h : s ≠ []) : intsBy c s = (sp c s).mapM parseI := by rw [intsBy, if_neg h]
theorem pib_some' {x : List UInt8} {n : Int} (h : parseI x = some n) : pv x = n ∧ pb x = true := by rw [pv, pb, h]; exact ⟨rfl, rfl⟩
theorem pib_none' {x : List UInt8} (h : parseI x = none) : pb x = false := by rw [pb, h]; rfl
theorem ne_of_size {s : ByteArray} (h : s.size ≠ 0) : s.data.toList ≠ [] := by
  intro e
  have := congrArg List.length e
  rw [slen] at this
  exact h this
theorem sp_piece_le {c : UInt8} : ∀ {l : List UInt8} {p : List UInt8}, p ∈ sp c l → p.length ≤ l.length
  | [], p, h => by simp [sp] at h; subst h; simp
  | b :: l, p, h => by
    rw [sp] at h
    split at h
    · rcases List.mem_cons.1 h with rfl | h
      · simp
      · have := sp_piece_le h; rw [List.length_cons]; omega
    · obtain ⟨x, t, ht⟩ := sp_shape c l
      rw [ht] at h
      rcases List.mem_cons.1 h with rfl | h
      · have : x.length ≤ l.length := sp_piece_le (c := c) (l := l) (by rw [ht]; simp)
        simp; exact this
      · have : p.length ≤ l.length := sp_piece_le (c := c) (l := l) (by rw [ht]; exact List.mem_cons_of_mem _ h)
        rw [List.length_cons]; omega
theorem beq_no {s : ByteArray} (h : s.size ≠ 0) : (s.toList == ([] : List UInt8)) = false := by
  rw [beq_eq_false_iff_ne, ByteArray.toList_eq]; exact ne_of_size h
theorem is_empty {s : ByteArray} (h : s.size = 0) : s = ⟨#[]⟩ := by
  apply str_eq
  have : s.data.toList.length = 0 := by rw [slen]; exact h
  rw [List.eq_nil_of_length_eq_zero this]

/-- Two results: a list of the call's own, and whether. -/
structure ParR (w w' : World) (e : Ending) (x : List Int) (b : Bool) : Prop where
  out : ∃ v, e = .returned (.tuple #[v, .bool b]) ∧ OwnI w' w.heap.size v x ∧ Ext w w'
/-- What is left of the pieces: one that began at k; or nothing. -/
def PSt (c : UInt8) (l : List UInt8) (j k : Nat) (done : List (List UInt8)) : Prop := (k ≤ j ∧ j ≤ l.length ∧ c ∉ (l.take j).drop k ∧ done ++ sp c (l.drop k) = sp c l) ∨ (j = l.length + 1 ∧ done = sp c l)

theorem pst_len {c : UInt8} {l : List UInt8} {j k : Nat} {done : List (List UInt8)} (h : PSt c l j k done) : done.length ≤ l.length + 1 := by
  have e := sp_length c l
  have := List.count_le_length (a := c) (l := l)
  rcases h with ⟨_, _, _, h⟩ | ⟨_, h⟩
  · rw [← h, List.length_append] at e; omega
  · rw [h]; omega
theorem pst_gap {c : UInt8} {l : List UInt8} {j k : Nat} {done : List (List UInt8)} (h : PSt c l j k done) (hj : l[j]? = some c) : PSt c l (j + 1) (j + 1) (done ++ [(l.take j).drop k]) := by
  have hlt := (List.getElem?_eq_some_iff.1 hj).1
  rcases h with ⟨h1, h2, h3, h4⟩ | ⟨h1, _⟩
  · refine .inl ⟨Nat.le_refl _, by omega, ?_, ?_⟩
    · rw [List.drop_eq_nil_of_le (by rw [List.length_take]; omega)]; simp
    · rw [← h4, List.append_assoc]
      congr 1
      rw [piece_at h1 hj, sp_at h3]; rfl
  · omega
theorem pst_end {c : UInt8} {l : List UInt8} {k k' : Nat} {done : List (List UInt8)} (h : PSt c l l.length k done) : PSt c l (l.length + 1) k' (done ++ [(l.take l.length).drop k]) := by
  rcases h with ⟨h1, h2, h3, h4⟩ | ⟨h1, _⟩
  · refine .inr ⟨rfl, ?_⟩
    rw [← h4]
    congr 1
    rw [List.take_length] at h3 ⊢
    rw [sp_none h3]
  · omega
theorem pst_more {c d : UInt8} {l : List UInt8} {j k : Nat} {done : List (List UInt8)} (h : PSt c l j k done) (hj : l[j]? = some d) (hd : d ≠ c) : PSt c l (j + 1) k done := by
  have hlt := (List.getElem?_eq_some_iff.1 hj).1
  rcases h with ⟨h1, h2, h3, h4⟩ | ⟨h1, _⟩
  · exact .inl ⟨by omega, by omega, piece_more h1 hj h3 hd, h4⟩
  · omega
theorem pst_fin {c : UInt8} {l : List UInt8} {k : Nat} {done : List (List UInt8)} (h : PSt c l (l.length + 1) k done) : done = sp c l := by
  rcases h with ⟨_, h2, _⟩ | ⟨_, h⟩
  · omega
  · exact h
/-- A piece that is cut is one of the pieces. -/
theorem pst_mem {c : UInt8} {l : List UInt8} {j k j' k' : Nat} {done : List (List UInt8)} {x : List UInt8} (h : PSt c l j k (done ++ [x])) : x ∈ sp c l := by
  rcases h with ⟨_, _, _, h⟩ | ⟨_, h⟩
  · rw [← h]; simp
  · rw [← h]; simp

theorem OwnI.empty' {w : World} {B b : Nat} (hb : B ≤ b) (hs : b = w.heap.size) : OwnI (w.alloc (.cells #[] 3)) B (.slice (some ⟨b, 0, none⟩) 0 0) [] := by
  subst hs; exact OwnI.of (l := []) hb (Blk.new w #[] 3) (by simp [maxLen])
end Go.Proofs.YtodooalhbcoihaaDoor
