/- l12Dims, NetworkOk, l12Weight of the reference. -/
import Derived.Test.YtpegckmagiaggaaTNetVX
set_option linter.unusedSimpArgs false
set_option linter.unusedVariables false
namespace Go.Proofs.Ytpegckmagiaggaa
open Go.RowKit
theorem find_nat {l : List Int} {x : Int} (h : x ∈ l) : ∃ f : Nat, findL l x = (f : Int) ∧ l[f]? = some x := by
  obtain ⟨j, a, _, c, _⟩ := map_get_find (dm := id) h
  exact ⟨j, a, c⟩
end Go.Proofs.Ytpegckmagiaggaa
