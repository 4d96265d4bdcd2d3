/- Drawn tensors: l05Labels, l05Fill, l05Draw, MakeTensor. -/
import Derived.Deep.RegionHeld3
import Derived.Test.YtodooalhbcoihaaGreatDoorQBase
import Derived.Test.YtodooalhbcoihaaGreatDoorQTenP
import Derived.Test.YtodooalhbcoihaaGreatDoorQFillT
import Derived.Test.YtodooalhbcoihaaGreatDoorQHomA
namespace Go.Proofs.YtodooalhbcoihaaGreatDoor
open Go.RowKit
set_option linter.unusedSimpArgs false
set_option linter.unusedVariables false

theorem Cur.drew {w : World} {b : Nat} {l : List Int} (h : Cur w b l) : Cur w.drew b l := h.ext ((Ext.refl _).drew)
end Go.Proofs.YtodooalhbcoihaaGreatDoor
