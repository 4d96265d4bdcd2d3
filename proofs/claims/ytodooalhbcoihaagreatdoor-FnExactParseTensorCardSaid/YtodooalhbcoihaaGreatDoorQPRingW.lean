/- ParseRing of the program. -/
import Derived.Test.YtodooalhbcoihaaGreatDoorQBase
import Derived.Test.YtodooalhbcoihaaGreatDoorQRingP
namespace Go.Proofs.YtodooalhbcoihaaGreatDoor
open Go.RowKit
set_option linter.unusedSimpArgs false
set_option linter.unusedVariables false
open Go.Lib

theorem bytes_beq (a b : ByteArray) (h : a.data.toList = b.data.toList) : (a.toList == b.toList) = true := by rw [beq_iff_eq, ByteArray.toList_eq, ByteArray.toList_eq]; exact h
end Go.Proofs.YtodooalhbcoihaaGreatDoor
