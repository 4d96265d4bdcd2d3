/- Slices of strings, of bytes, of slices of integers, as they are read. No program in sight. -/
import Derived.Test.YtodooalhbcoihaaDoorMem
namespace Go.Proofs.YtodooalhbcoihaaDoor
open Go.RowKit
set_option linter.unusedSimpArgs false
set_option linter.unusedVariables false

/-- Strings as cells. -/
def strs (l : List ByteArray) : List Value := l.map .string
/-- v is a slice of strings that reads as l. -/
structure StrS (w : World) (v : Value) (l : List ByteArray) : Prop where
  row : Row w 1 v l.length (strs l)
/-- v is a slice of bytes that reads as l. -/
structure ByteS (w : World) (v : Value) (l : List Int) : Prop where
  row : Row w 1 v l.length (l.map (.int .u8))
/-- v is a slice of slices of integers that reads as ll. -/
structure RowsS (w : World) (v : Value) (ll : List (List Int)) : Prop where
  rows : ∃ vs : List Value, vs.length = ll.length ∧ Row w 1 v ll.length vs ∧ ∀ (i : Nat) (u : Value) (l : List Int), vs[i]? = some u → ll[i]? = some l → IntS w u l
theorem StrS.ext {w w' : World} {v : Value} {l : List ByteArray} (h : StrS w v l) (e : Ext w w') : StrS w' v l := ⟨h.row.ext e⟩
theorem ByteS.ext {w w' : World} {v : Value} {l : List Int} (h : ByteS w v l) (e : Ext w w') : ByteS w' v l := ⟨h.row.ext e⟩
theorem RowsS.ext {w w' : World} {v : Value} {l : List (List Int)} (h : RowsS w v l) (e : Ext w w') : RowsS w' v l := by
  obtain ⟨vs, a, b, c⟩ := h
  exact ⟨vs, a, b.ext e, fun i u l h1 h2 => (c i u l h1 h2).ext e⟩

end Go.Proofs.YtodooalhbcoihaaDoor
