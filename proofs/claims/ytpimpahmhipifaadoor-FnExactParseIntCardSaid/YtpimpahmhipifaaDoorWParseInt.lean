/- The law 'FnExactParseInt', walked. -/
import Derived.Test.YtpimpahmhipifaaDoorParseW
namespace Go.Proofs.YtpimpahmhipifaaDoor
open Go.RowKit
set_option linter.unusedSimpArgs false
set_option linter.unusedVariables false
open Go.Lib

theorem walkFnExactParseInt (s : ByteArray) (w : World) (hT : Vars_fnExactParseInt w) (hs : s.size ≤ maxLen) :
    Calls Tryd.prog 9 #[.string s] w fun e w' => e = .returned (.bool true) ∧ Ext w w' := by
  have hkk : ∀ b : Bool, (b != b) = false := by decide
  have hok := hkk (pb s.data.toList)
  have hs9 : s.size ≤ 9223372036854775807 := hs
  clear hkk hs
  by_cases big : 1048576 < s.size
  · go_enter Tryd.func9, Tryd.ntmps9
    go_wp2
    go_ret
    exact ⟨rfl, Ext.refl _⟩
  go_enter Tryd.func9, Tryd.ntmps9
  go_wp2_with fail
  refine (parseInt_spec s (by omega) _).mono ?_; rintro e1 w1 ⟨rfl, h1⟩
  go_wp2_with fail
  refine (parseInt_impl s (by omega) _ (hT.ext h1)).mono ?_; rintro e2 w2 ⟨rfl, h2⟩
  go_wp2
  go_ret
  exact ⟨rfl, h1.trans h2⟩
end Go.Proofs.YtpimpahmhipifaaDoor
