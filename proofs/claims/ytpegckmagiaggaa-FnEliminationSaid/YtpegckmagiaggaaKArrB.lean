/- Arrays of a hundred truths in memory: the labels that occur; markLabels of the program. -/
import Derived.Test.YtpegckmagiaggaaKAxesW
set_option linter.unusedSimpArgs false
set_option linter.unusedVariables false
namespace Go.Proofs.Ytpegckmagiaggaa
open Go.RowKit
def bls (l : List Bool) : List Value := l.map .bool
theorem bls_get (l : List Bool) (i : Nat) : (bls l)[i]? = (l[i]?).map .bool := by simp [bls]
theorem IntS.notB {w : World} {b off n cap q : Nat} {l : List Int} {T : TypeId} {A : List Bool} (h : IntS w (.slice (some ⟨b, off, none⟩) n cap) l) (hl : 0 < l.length) (B : Blk w q T (bls A)) : b ≠ q := by
  rintro rfl
  obtain ⟨b', off', x, hb, hc, _, _⟩ := h.get (i := 0) hl
  cases hb
  have h2 : w.cell? ⟨b, off + 0, none⟩ = (bls A)[off + 0]? := by simp [World.cell?, B.row]
  rw [h2, bls_get] at hc
  cases hA : A[off + 0]? with
  | none => rw [hA] at hc; simp at hc
  | some z => rw [hA] at hc; simp at hc
end Go.Proofs.Ytpegckmagiaggaa
