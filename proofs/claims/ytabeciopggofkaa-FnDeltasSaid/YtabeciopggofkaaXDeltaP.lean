/- DeltaTensor: the plain function. -/
import Derived.Test.YtabeciopggofkaaXBase
import Derived.Test.YtabeciopggofkaaXElemT
namespace Go.Proofs.Ytabeciopggofkaa
open Go.RowKit
set_option linter.unusedSimpArgs false
set_option linter.unusedVariables false

theorem idxOk_rep {v d : Int} (h0 : 0 ≤ v) (h1 : v < d) : ∀ m : Nat, idxOk (List.replicate m d) (List.replicate m v) = true
  | 0 => rfl
  | m + 1 => by
    rw [List.replicate_succ, List.replicate_succ, idxOk, idxOk_rep h0 h1 m]
    simp [h0, h1]
/-- The place of the element with the index v, .., v. -/
def diag (m : Nat) (d v : Int) : Int := offL (List.replicate m d) (List.replicate m v)
theorem rep_dims {d : Int} (h0 : 1 ≤ d) (h1 : d ≤ 8) (m : Nat) : ∀ x ∈ List.replicate m d, 1 ≤ x ∧ x ≤ 8 := fun x hx => by
  rw [List.eq_of_mem_replicate hx]; exact ⟨h0, h1⟩
theorem diag_bounds {m : Nat} {d v : Int} (h0 : 1 ≤ d) (h1 : d ≤ 8) (hv : 0 ≤ v) (hd : v < d) : 0 ≤ diag m d v ∧ diag m d v < prodL (List.replicate m d) :=
  offL_bounds (idxOk_rep hv hd m) (rep_dims h0 h1 m)
/-- X with the elements at 0 .. 0, 1 .. 1, up to before v .. v, replaced. -/
def deltaX (m W : Nat) (one X : List Int) (d : Int) : Nat → List Int
  | 0 => X
  | v + 1 => putL (deltaX m W one X d v) ((diag m d v).toNat * W) one
theorem diag_fit {m W : Nat} {d : Int} {v P : Nat} (h0 : 1 ≤ d) (h1 : d ≤ 8) (hd : (v : Int) < d) (hP : prodL (List.replicate m d) = P) : (diag m d v).toNat * W + W ≤ P * W := by
  obtain ⟨b0, b1⟩ := diag_bounds (m := m) (v := v) h0 h1 (by omega) hd
  have : ((diag m d v).toNat + 1) * W ≤ P * W := Nat.mul_le_mul_right _ (by omega)
  rwa [Nat.add_mul, Nat.one_mul] at this
theorem deltaX_length {m W : Nat} {one X : List Int} {d : Int} {P : Nat} (h0 : 1 ≤ d) (h1 : d ≤ 8) (hP : prodL (List.replicate m d) = P) (ho : one.length = W) (hX : X.length = P * W) : ∀ v : Nat, (v : Int) ≤ d → (deltaX m W one X d v).length = P * W
  | 0, _ => hX
  | v + 1, hv => by
    have ih := deltaX_length h0 h1 hP ho hX v (by omega)
    rw [deltaX, putL_length]
    · exact ih
    · rw [ih, ho]; exact diag_fit h0 h1 (by omega) hP
/-- 'DeltaTensor' -/
def deltaTok (k p n : Int) (L : List Int) (d : Int) : Bool := ringOk k p n && (decide (1 ≤ d) && decide (d ≤ 8)) && !(tsize L (List.replicate L.length d) == -1)
def deltaTL (k p n : Int) (L : List Int) (d : Int) : List Int := if deltaTok k p n L d = true then L else []
def deltaTD (k p n : Int) (L : List Int) (d : Int) : List Int := if deltaTok k p n L d = true then List.replicate L.length d else []
def deltaTX (k p n : Int) (L : List Int) (d : Int) : List Int := if deltaTok k p n L d = true then deltaX L.length (ringWidth k n).toNat (oneL k p n) (rep (prodL (List.replicate L.length d)).toNat (zeroL k p n)) d d.toNat else []
theorem mix_rep (m : Nat) (v : Int) (I : List Int) (hI : I.length = m) : mix (List.replicate m v) I m = List.replicate m v := by
  have h : (List.replicate m v).length = I.length := by simp [hI]
  have := mix_all h
  rwa [hI] at this
end Go.Proofs.Ytabeciopggofkaa
