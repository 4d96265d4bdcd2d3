/- Drawn numbers: MakeNum, MakeSize. -/
import Derived.Test.YtlgjddgajdjllaaGreatHDrawE
set_option linter.unusedSimpArgs false
set_option linter.unusedVariables false
namespace Go.Proofs.YtlgjddgajdjllaaGreat
open Go.RowKit
theorem makeNum_any (v : Value) (l : List Int) (c : Int) (w : World) (hl : Code w v l) (hn : 0 ≤ c ∧ c ≤ 1000000) : Calls Tryz.prog 6 #[v, .int .i64 c] w fun e w' =>
 ∃ x : Int, e = .returned (.int .i64 x) ∧ (0 ≤ x ∧ x ≤ 65535) ∧ Ext w w' := by
 obtain ⟨a, cap, rfl, hc1, hc2⟩ := hl.bytes.val
 go_enter Tryz.func6, Tryz.ntmps6
 go_wp2_with fail
 refine (l45At_any _ l _ _ (hl.ext xt) hn).mono ?_; rintro e1 w1 ⟨b, rfl, hb, c1, h1⟩
 go_wp2_with fail
 refine (l01Byte_any b _ c1).mono ?_; rintro e2 w2 ⟨x, rfl, ⟨x0, x1⟩, c2, g2⟩
 go_wp2_with fail
 refine (l01Byte_any b _ c2).mono ?_; rintro e3 w3 ⟨y, rfl, ⟨y0, y1⟩, c3, g3⟩
 have E3 : Ext w w3 := h1.only (grownBy_trans g2 g3) (fun k hk => by injection hk with hk; omega)
 go_wp2
 go_ret
 exact ⟨_, rfl, ⟨by omega, by omega⟩, E3⟩
end Go.Proofs.YtlgjddgajdjllaaGreat
