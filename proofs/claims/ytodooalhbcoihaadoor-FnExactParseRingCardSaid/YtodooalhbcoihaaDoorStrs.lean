/- Slices of strings: the laws' helpers szStringS, toStringS, eqStringS. -/
import Derived.Test.YtodooalhbcoihaaDoorSlices
import Derived.Test.YtodooalhbcoihaaDoorData
import Derived.Test.YtodooalhbcoihaaDoorBoxes
namespace Go.Proofs.YtodooalhbcoihaaDoor
open Go.RowKit
set_option linter.unusedSimpArgs false
set_option linter.unusedVariables false

theorem StrS.val {w : World} {v : Value} {l : List ByteArray} (h : StrS w v l) : ∃ a cap, v = .slice a l.length cap ∧ l.length ≤ cap ∧ cap ≤ 9223372036854775807 := by
  obtain ⟨a, cap, hv, h1, h2, _⟩ := h.row.val
  exact ⟨a, cap, hv, h1, h2⟩
theorem strs_get (l : List ByteArray) (i : Nat) : (strs l)[i]? = (l[i]?).map .string := by simp [strs]
theorem strs_length (l : List ByteArray) : (strs l).length = l.length := by simp [strs]
theorem strs_set (l : List ByteArray) (j : Nat) (x : ByteArray) : (strs l).set j (.string x) = strs (l.set j x) := by simp [strs, List.map_set]
theorem StrS.get {w : World} {a : Option Addr} {n cap : Nat} {l : List ByteArray} (h : StrS w (.slice a n cap) l) {i : Nat} (hi : i < l.length) :
    ∃ b off x, a = some ⟨b, off, none⟩ ∧ w.cell? ⟨b, off + i, none⟩ = some (.string x) ∧ l[i]? = some x ∧ l.drop i = x :: l.drop (i + 1) := by
  obtain ⟨a', cap', hv, _, _, h3⟩ := h.row.val
  cases hv
  obtain ⟨b, off, ha, hc⟩ := h3 (by rw [strs_length]; omega)
  refine ⟨b, off, l[i], ha, hc i _ ?_, List.getElem?_eq_getElem hi, List.drop_eq_getElem_cons hi⟩
  rw [strs_get]; simp [hi]

/-- v is a slice of strings of the call's own (its block from B on), that reads as l. -/
structure OwnStr (w : World) (B : Nat) (v : Value) (l : List ByteArray) : Prop where
  own : (v = .slice none 0 0 ∧ l = []) ∨ ∃ b rest, B ≤ b ∧ v = .slice (some ⟨b, 0, none⟩) l.length (l.length + rest.length) ∧ Blk w b 9 (strs l ++ rest) ∧ l.length + rest.length ≤ maxLen
theorem OwnStr.ext {w w' : World} {B : Nat} {v : Value} {l : List ByteArray} (h : OwnStr w B v l) (e : Ext w w') : OwnStr w' B v l := by
  rcases h.own with h | ⟨b, rest, h1, h2, h3, h4⟩
  · exact ⟨.inl h⟩
  · exact ⟨.inr ⟨b, rest, h1, h2, h3.ext e, h4⟩⟩
theorem OwnStr.mono {w : World} {B B' : Nat} {v : Value} {l : List ByteArray} (h : OwnStr w B v l) (hB : B' ≤ B) : OwnStr w B' v l := by
  rcases h.own with h | ⟨b, rest, h1, h2, h3, h4⟩
  · exact ⟨.inl h⟩
  · exact ⟨.inr ⟨b, rest, Nat.le_trans hB h1, h2, h3, h4⟩⟩
theorem OwnStr.strs {w : World} {B : Nat} {v : Value} {l : List ByteArray} (h : OwnStr w B v l) : StrS w v l := by
  rcases h.own with ⟨rfl, rfl⟩ | ⟨b, rest, h1, rfl, h3, h4⟩
  · exact ⟨⟨rfl, none, 0, rfl, Nat.le_refl _, Nat.zero_le _, by simp [Proofs.YtodooalhbcoihaaDoor.strs]⟩⟩
  · refine ⟨⟨by simp [Proofs.YtodooalhbcoihaaDoor.strs], some ⟨b, 0, none⟩, _, rfl, by omega, h4, fun _ => ⟨b, 0, rfl, fun j u hj => ?_⟩⟩⟩
    have : (Proofs.YtodooalhbcoihaaDoor.strs l ++ rest)[j]? = some u := by
      have hlt : j < (Proofs.YtodooalhbcoihaaDoor.strs l).length := (List.getElem?_eq_some_iff.1 hj).1
      rw [List.getElem?_append_left hlt, hj]
    simpa using h3.cell this

/-- The bytes of all strings of a list. -/
def sizeStr (l : List ByteArray) : Nat := (l.map ByteArray.size).sum
theorem sizeStr_cons (s : ByteArray) (l : List ByteArray) : sizeStr (s :: l) = s.size + sizeStr l := by simp [sizeStr]
end Go.Proofs.YtodooalhbcoihaaDoor
