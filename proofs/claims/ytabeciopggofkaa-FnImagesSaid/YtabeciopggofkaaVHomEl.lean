/- Homomorphisms on elements. No program in sight. -/
import Derived.Test.YtabeciopggofkaaVBase
import Derived.Test.YtabeciopggofkaaVContr
import Derived.Test.YtabeciopggofkaaVAlgH
namespace Go.Proofs.Ytabeciopggofkaa
open Go.RowKit
set_option linter.unusedSimpArgs false
set_option linter.unusedVariables false

section
variable {fk fp fn tk tp tn hk ha : Int} (h : Keeps fk fp fn tk tp tn hk ha) (hr : ringOk fk fp fn = true) (hr2 : ringOk tk tp tn = true)
/-- The image of an element. -/
def homEl (x : El fk fp fn) : El tk tp tn := ⟨homL fk fp tk tp tn hk ha x.1, h.ok x.1 x.2⟩
theorem homEl_zero : homEl h (rig hr).zero = (rig hr2).zero := Subtype.ext h.zero
theorem homEl_one : homEl h (rig hr).one = (rig hr2).one := Subtype.ext h.one
theorem homEl_add (a b : El fk fp fn) : homEl h ((rig hr).add a b) = (rig hr2).add (homEl h a) (homEl h b) := Subtype.ext (h.add a.1 b.1 a.2 b.2)
theorem homEl_mul (a b : El fk fp fn) : homEl h ((rig hr).mul a b) = (rig hr2).mul (homEl h a) (homEl h b) := Subtype.ext (h.mul a.1 b.1 a.2 b.2)
/-- The image of a tensor's value is the value of the image. -/
theorem valT_hom {dm : Int → Int} {L : List Int} (xs : List (El fk fp fn)) (σ : Int → Int) : valT hr2 dm L (xs.map (homEl h)) σ = homEl h (valT hr dm L xs σ) := by
  unfold valT
  rw [List.getD_eq_getElem?_getD, List.getD_eq_getElem?_getD, List.getElem?_map]
  cases xs[off (axs dm L) σ]? with
  | none => exact (homEl_zero h hr hr2).symm
  | some x => rfl
/-- The law of images, plain: mapping and contracting commute. -/
theorem contr_hom (dm : Int → Int) (all keep : List Int) (A B : (Int → Int) → El fk fp fn) :
    (tab (axs dm (keepL all keep)) (contrF (rig hr) dm all keep fun τ => (rig hr).mul (A τ) (B τ)) σ0).map (homEl h) =
      tab (axs dm (keepL all keep)) (contrF (rig hr2) dm all keep fun τ => (rig hr2).mul (homEl h (A τ)) (homEl h (B τ))) σ0 := by
  rw [tab_map]
  congr 1
  funext τ
  rw [contrF_hom (rig hr) (rig hr2) (homEl_zero h hr hr2) (homEl_add h hr hr2)]
  exact sumA_ext _ _ τ fun υ => homEl_mul h hr hr2 _ _
end
end Go.Proofs.Ytabeciopggofkaa
