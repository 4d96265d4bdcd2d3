/- RingWidth, RingOk: the laws' walks. -/
import Derived.Test.YtodooalhbcoihaaDoorRings
namespace Go.Proofs.YtodooalhbcoihaaDoor
open Go.RowKit
set_option linter.unusedSimpArgs false
set_option linter.unusedVariables false

/-- 'RingWidth' of a valid ring. -/
def ringWidth (k n : Int) : Int := if k = 7 then n else if k = 8 then 4 else 1

/-- 'RingWidth' of any ring. -/
def ringWidthAll (k p n : Int) : Int := if ringOk k p n = true then ringWidth k n else 0
theorem ringWidthAll_ok {k p n : Int} (h : ringOk k p n = true) : ringWidthAll k p n = ringWidth k n := by simp [ringWidthAll, h]
theorem ringWidthAll_no {k p n : Int} (h : ringOk k p n = false) : ringWidthAll k p n = 0 := by simp [ringWidthAll, h]

end Go.Proofs.YtodooalhbcoihaaDoor
