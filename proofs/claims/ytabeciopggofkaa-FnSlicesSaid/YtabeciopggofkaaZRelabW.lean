/- MakeList; renamed, RelabelTensor of the program. -/
import Derived.Test.YtabeciopggofkaaZBase
import Derived.Test.YtabeciopggofkaaZSortT
import Derived.Test.YtabeciopggofkaaZDrawT
import Derived.Test.YtabeciopggofkaaZScalT
import Derived.Test.YtabeciopggofkaaZIntoO
namespace Go.Proofs.Ytabeciopggofkaa
open Go.RowKit
set_option linter.unusedSimpArgs false
set_option linter.unusedVariables false

/-- 'renamed' -/
def renL (F G : List Int) (x : Int) : Int := match F, G with
  | f :: F, g :: G => if f = x then g else renL F G x
  | _, _ => x
end Go.Proofs.Ytabeciopggofkaa
