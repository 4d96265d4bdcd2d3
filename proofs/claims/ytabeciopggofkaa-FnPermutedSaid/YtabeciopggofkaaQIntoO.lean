/- mulInto, addInto onto slices of the call's own. -/
import Derived.Test.YtabeciopggofkaaQBase
import Derived.Test.YtabeciopggofkaaQContrP
import Derived.Test.YtabeciopggofkaaQPermW
namespace Go.Proofs.Ytabeciopggofkaa
open Go.RowKit
set_option linter.unusedSimpArgs false
set_option linter.unusedVariables false

/-- The dimensions of a contraction, as they are gathered. -/
theorem mixM_at {f g : Int → Int} {M : List Int} {j : Nat} {m : Int} (h : M[j]? = some m) : (mixM f g M j)[j]? = some (g m) := by
  obtain ⟨hj, rfl⟩ := List.getElem?_eq_some_iff.1 h
  have e : ((M.take j).map f).length = j := by rw [List.length_map, List.length_take]; omega
  unfold mixM
  rw [List.getElem?_append_right (by omega), e, Nat.sub_self, List.drop_eq_getElem_cons hj]; rfl
end Go.Proofs.Ytabeciopggofkaa
