/- The law of permuted axes, plain. No program in sight. -/
import Derived.Test.YtpegckmagiaggaaEBase
import Derived.Test.YtpegckmagiaggaaEG10
import Derived.Test.YtpegckmagiaggaaEG11
import Derived.Test.YtpegckmagiaggaaEG6
import Derived.Test.YtpegckmagiaggaaEIntoO
namespace Go.Proofs.Ytpegckmagiaggaa
open Go.RowKit
set_option linter.unusedSimpArgs false
set_option linter.unusedVariables false

section
variable {k p n : Int} (hr : ringOk k p n = true)
theorem perm_isT {dm : Int → Int} {U L M : List Int} {xs : List (El k p n)} (h : IsT k p n dm U L xs) (hM : L.Perm M) : IsT k p n dm U M (permXs hr dm L M xs) := IsT.tab h.uni (h.sub.perm hM) _
end
end Go.Proofs.Ytpegckmagiaggaa
