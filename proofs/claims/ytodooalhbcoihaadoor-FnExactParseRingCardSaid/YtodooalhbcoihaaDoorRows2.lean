/- Slices of slices of integers: the laws' helpers szIntS, szIntSS, toIntSS, eqIntSS. -/
import Derived.Test.YtodooalhbcoihaaDoorSlices
import Derived.Test.YtodooalhbcoihaaDoorBoxes
import Derived.Test.YtodooalhbcoihaaDoorData
import Derived.Deep.RegionHeld3
namespace Go.Proofs.YtodooalhbcoihaaDoor
open Go.RowKit
set_option linter.unusedSimpArgs false
set_option linter.unusedVariables false

theorem RowsS.val {w : World} {v : Value} {ll : List (List Int)} (h : RowsS w v ll) : ∃ a cap, v = .slice a ll.length cap ∧ ll.length ≤ cap ∧ cap ≤ 9223372036854775807 := by
  obtain ⟨vs, _, hr, _⟩ := h.rows
  obtain ⟨a, cap, hv, h1, h2, _⟩ := hr.val
  exact ⟨a, cap, hv, h1, h2⟩
theorem RowsS.get {w : World} {a : Option Addr} {n cap : Nat} {ll : List (List Int)} (h : RowsS w (.slice a n cap) ll) {i : Nat} (hi : i < ll.length) :
    ∃ b off u l, a = some ⟨b, off, none⟩ ∧ w.cell? ⟨b, off + i, none⟩ = some u ∧ IntS w u l ∧ ll[i]? = some l ∧ ll.drop i = l :: ll.drop (i + 1) := by
  obtain ⟨vs, hl, hr, hs⟩ := h.rows
  obtain ⟨a', cap', hv, _, _, h3⟩ := hr.val
  cases hv
  obtain ⟨b, off, ha, hc⟩ := h3 (by omega)
  have hi' : i < vs.length := by omega
  refine ⟨b, off, vs[i], ll[i], ha, hc i _ (List.getElem?_eq_getElem hi'), hs i _ _ (List.getElem?_eq_getElem hi') (List.getElem?_eq_getElem hi), List.getElem?_eq_getElem hi, List.drop_eq_getElem_cons hi⟩
theorem OwnI.setBelow {w : World} {B : Nat} {v : Value} {l : List Int} (h : OwnI w B v l) {p : Addr} (hp : p.block < B) (u : Value) : OwnI (w.setCell p u) B v l := by
  rcases h.own with h | ⟨b, rest, h1, h2, h3, h4⟩
  · exact ⟨.inl h⟩
  · exact ⟨.inr ⟨b, rest, h1, h2, h3.other (by omega) _, h4⟩⟩

/-- v is a slice of slices of integers of the call's own (all blocks from B on, each of its own), that reads as ll. -/
structure OwnRows (w : World) (B : Nat) (v : Value) (ll : List (List Int)) : Prop where
  own : (v = .slice none 0 0 ∧ ll = []) ∨ ∃ b vs rest, B ≤ b ∧ v = .slice (some ⟨b, 0, none⟩) ll.length (ll.length + rest.length) ∧ vs.length = ll.length ∧ Blk w b 30 (vs ++ rest) ∧ ll.length + rest.length ≤ maxLen ∧
    (∀ (i : Nat) (u : Value) (l : List Int), vs[i]? = some u → ll[i]? = some l → OwnI w B u l ∧ u.ownBlock ≠ some b) ∧
    (∀ (i j : Nat) (u u' : Value) (k : Nat), i < j → vs[i]? = some u → vs[j]? = some u' → u.ownBlock = some k → u'.ownBlock ≠ some k)
theorem OwnRows.ext {w w' : World} {B : Nat} {v : Value} {ll : List (List Int)} (h : OwnRows w B v ll) (e : Ext w w') : OwnRows w' B v ll := by
  rcases h.own with h | ⟨b, vs, rest, h1, h2, h3, h4, h5, h6, h7⟩
  · exact ⟨.inl h⟩
  · exact ⟨.inr ⟨b, vs, rest, h1, h2, h3, h4.ext e, h5, fun i u l a c => ⟨(h6 i u l a c).1.ext e, (h6 i u l a c).2⟩, h7⟩⟩
theorem OwnRows.mono {w : World} {B B' : Nat} {v : Value} {ll : List (List Int)} (h : OwnRows w B v ll) (hB : B' ≤ B) : OwnRows w B' v ll := by
  rcases h.own with h | ⟨b, vs, rest, h1, h2, h3, h4, h5, h6, h7⟩
  · exact ⟨.inl h⟩
  · exact ⟨.inr ⟨b, vs, rest, Nat.le_trans hB h1, h2, h3, h4, h5, fun i u l a c => ⟨(h6 i u l a c).1.mono hB, (h6 i u l a c).2⟩, h7⟩⟩
theorem OwnRows.setBelow {w : World} {B : Nat} {v : Value} {ll : List (List Int)} (h : OwnRows w B v ll) {p : Addr} (hp : p.block < B) (x : Value) : OwnRows (w.setCell p x) B v ll := by
  rcases h.own with h | ⟨b, vs, rest, h1, h2, h3, h4, h5, h6, h7⟩
  · exact ⟨.inl h⟩
  · exact ⟨.inr ⟨b, vs, rest, h1, h2, h3, h4.other (by omega) _, h5, fun i u l a c => ⟨(h6 i u l a c).1.setBelow hp x, (h6 i u l a c).2⟩, h7⟩⟩
theorem OwnRows.rows {w : World} {B : Nat} {v : Value} {ll : List (List Int)} (h : OwnRows w B v ll) : RowsS w v ll := by
  rcases h.own with ⟨rfl, rfl⟩ | ⟨b, vs, rest, h1, rfl, h3, h4, h5, h6, h7⟩
  · exact ⟨[], rfl, ⟨rfl, none, 0, rfl, Nat.le_refl _, Nat.zero_le _, by simp⟩, by simp⟩
  · refine ⟨vs, h3, ⟨by rw [h3]; simp, some ⟨b, 0, none⟩, _, rfl, by omega, h5, fun _ => ⟨b, 0, rfl, fun j u hj => ?_⟩⟩, fun i u l a c => (h6 i u l a c).1.ints⟩
    have : (vs ++ rest)[j]? = some u := by
      rw [List.getElem?_append_left (List.getElem?_eq_some_iff.1 hj).1, hj]
    simpa using h4.cell this
/-- How much is left of 'left' behind n values; negative: too many. -/
structure Left (left r : Int) (n : Nat) : Prop where
  out : r = -1 ∨ (0 ≤ r ∧ r = left - n)
/-- The values of a list of lists. -/
def sizeSS (ll : List (List Int)) : Nat := (ll.map List.length).sum
theorem sizeSS_cons (l : List Int) (ll : List (List Int)) : sizeSS (l :: ll) = l.length + sizeSS ll := by simp [sizeSS]
theorem Tryd.infoInts : (Tryd.prog.info? 30).map (fun i => (i.zero, i.size, i.bytes)) = some (some (.slice none 0 0), 1, 24) := by kernel_rfl
theorem madeRows_toList (n : Nat) : (madeCells #[.slice none 0 0] n).toList = List.replicate n (.slice none 0 0) := by
  apply List.ext_getElem?
  intro i
  by_cases h : i < n
  · simp [madeCells, h, Nat.mod_one]
  · simp [madeCells, h]

end Go.Proofs.YtodooalhbcoihaaDoor
