/- The law 'FnExactFormatInt', walked. -/
import Derived.Test.YtpimpahmhipifaaDoorItoaW
namespace Go.Proofs.YtpimpahmhipifaaDoor
open Go.RowKit
set_option linter.unusedSimpArgs false
set_option linter.unusedVariables false
open Go.Lib

theorem walkFnExactFormatInt (a : Int) (ha : -9223372036854775808 ≤ a ∧ a ≤ 9223372036854775807) (w : World) (hT : Vars_fnExactFormatInt w) :
    Calls Tryd.prog 3 #[.int .i64 a] w fun e w' => e = .returned (.bool true) ∧ Ext w w' := by
  go_enter Tryd.func3, Tryd.ntmps3
  go_wp2_with fail
  refine (formatInt_spec a ha _).mono ?_; rintro e1 w1 ⟨rfl, h1⟩
  go_wp2_with fail
  refine (formatInt_impl a ha _ (hT.ext h1)).mono ?_; rintro e2 w2 ⟨rfl, h2⟩
  go_wp2
  go_ret
  exact ⟨rfl, h1.trans h2⟩
end Go.Proofs.YtpimpahmhipifaaDoor
