/- ContractPair of the program. -/
import Derived.Test.YtpegckmagiaggaaTG7
set_option linter.unusedSimpArgs false
set_option linter.unusedVariables false
namespace Go.Proofs.Ytpegckmagiaggaa
open Go.RowKit
theorem OwnT.shapeN {w : World} {B n1 n2 n3 : Nat} {v : Value} {L D X : List Int} (h : OwnT w B v L D X) (h1 : L.length = n1) (h2 : D.length = n2) (h3 : X.length = n3) :
    ∃ a1 c1 a2 c2 a3 c3, v = .agg #[.slice a1 n1 c1, .slice a2 n2 c2, .slice a3 n3 c3] := by
  subst h1 h2 h3
  obtain ⟨a, b, c, rfl, g1, g2, g3, _⟩ := h.val
  obtain ⟨x1, y1, rfl, _, _⟩ := g1.ints.val
  obtain ⟨x2, y2, rfl, _, _⟩ := g2.ints.val
  obtain ⟨x3, y3, rfl, _, _⟩ := g3.ints.val
  exact ⟨_, _, _, _, _, _, rfl⟩
theorem OwnI.shapeN {w : World} {B n : Nat} {v : Value} {l : List Int} (h : OwnI w B v l) (h1 : l.length = n) : ∃ a c, v = .slice a n c := by
  subst h1
  obtain ⟨a, c, rfl, _, _⟩ := h.ints.val
  exact ⟨_, _, rfl⟩
end Go.Proofs.Ytpegckmagiaggaa
