/- NetworkValue of the program. -/
import Derived.Test.YtpegckmagiaggaaTNetVW
set_option linter.unusedSimpArgs false
set_option linter.unusedVariables false
namespace Go.Proofs.Ytpegckmagiaggaa
open Go.RowKit
theorem axesOf_ten {dm : Int → Int} {S L : List Int} (hL : ∀ x ∈ L, (0 ≤ x ∧ x ≤ 99) ∧ x ∈ S) (hlen : L.length ≤ 1000) (v : Value) (w : World) (hv : IntS w v L) :
    Calls Try.prog 104 #[.agg (arrV (arrL dm S)), v] w fun e w' => ∃ u, e = .returned u ∧ OwnT w' w.heap.size u L (L.map dm) [] ∧ Ext w w' :=
  (axesOf_any hL hlen v w hv).mono fun e w' ⟨x, y, he, hJ⟩ => ⟨_, he, hJ.nilI.close3 (i := 0) (j := 1) (m := 2) rfl rfl rfl (by decide) (by decide) (by decide), hJ.ext⟩
theorem OwnT.shape3 {w : World} {B : Nat} {v : Value} {L D X : List Int} (h : OwnT w B v L D X) (k1 k2 k3 : Nat) (h1 : L.length = k1) (h2 : D.length = k2) (h3 : X.length = k3) :
    ∃ a1 c1 a2 c2 a3 c3, v = .agg #[.slice a1 k1 c1, .slice a2 k2 c2, .slice a3 k3 c3] := h.shapeN h1 h2 h3
theorem OwnI.shape1 {w : World} {B : Nat} {v : Value} {l : List Int} (h : OwnI w B v l) (k1 : Nat) (h1 : l.length = k1) : ∃ a c, v = .slice a k1 c := h.shapeN h1
end Go.Proofs.Ytpegckmagiaggaa
