/- FormatInt of the program. -/
import Derived.Test.YtlgjddgajdjllaaGreatDoorQFmtW
import Derived.Test.YtlgjddgajdjllaaGreatDoorQShelf
set_option linter.unusedSimpArgs false
set_option linter.unusedVariables false
namespace Go.Proofs.YtlgjddgajdjllaaGreatDoor
open Go.RowKit
open Go.Lib
theorem grow_ext (w : World) (k : Nat) (os : Array Obj) : Ext w (Go.Sort.grow (w.drewN k) os) := ⟨Lib.below_grow _ w (Nat.le_refl _) k os⟩
theorem formatInt_impl (n : Int) (h : isI64 n) (w : World) (ht : Tab w) : Calls Tryz.prog 24 #[.int .i64 n] w fun e w' => e = .returned (.string (mkS (itoa n))) ∧ Ext w w' := by
 obtain ⟨h0, h1⟩ := h
 go_enter Tryz.func24, Tryz.ntmps24
 go_wp2_with fail
 refine (Tryz.strconv_Itoa n h0 h1 _ ht.tab).mono ?_; rintro e1 w1 ⟨rfl, k, os, rfl⟩
 go_wp2
 go_ret
 exact ⟨rfl, grow_ext _ _ _⟩
end Go.Proofs.YtlgjddgajdjllaaGreatDoor
