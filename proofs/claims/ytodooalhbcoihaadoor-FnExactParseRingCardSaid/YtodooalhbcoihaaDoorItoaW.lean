/- FormatInt of the program. -/
import Derived.Test.YtodooalhbcoihaaDoorFmtW
import Derived.Test.YtodooalhbcoihaaDoorLaid
import Derived.Test.YtodooalhbcoihaaDoorShelf
import Derived.Lib.AppendIntMem
namespace Go.Proofs.YtodooalhbcoihaaDoor
open Go.RowKit
set_option linter.unusedSimpArgs false
set_option linter.unusedVariables false
open Go.Lib

theorem grow_ext (w : World) (k : Nat) (os : Array Obj) : Ext w (Go.Sort.grow (w.drewN k) os) := ⟨Lib.below_grow _ w (Nat.le_refl _) k os⟩
theorem formatInt_impl (n : Int) (h : isI64 n) (w : World) (ht : Tab w) : Calls Tryd.prog 23 #[.int .i64 n] w fun e w' => e = .returned (.string (mkS (itoa n))) ∧ Ext w w' := by
  obtain ⟨h0, h1⟩ := h
  go_enter Tryd.func23, Tryd.ntmps23
  go_wp2_with fail
  refine (Tryd.strconv_Itoa n h0 h1 _ ht.tab).mono ?_; rintro e1 w1 ⟨rfl, k, os, rfl⟩
  go_wp2
  go_ret
  exact ⟨rfl, grow_ext _ _ _⟩
end Go.Proofs.YtodooalhbcoihaaDoor
