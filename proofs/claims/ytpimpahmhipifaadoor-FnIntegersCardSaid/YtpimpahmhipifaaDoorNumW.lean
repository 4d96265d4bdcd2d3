/- Drawn numbers. -/
import Derived.Test.YtpimpahmhipifaaDoorCur
namespace Go.Proofs.YtpimpahmhipifaaDoor
open Go.RowKit
set_option linter.unusedSimpArgs false
set_option linter.unusedVariables false

set_option maxHeartbeats 1000000 in
theorem makeNum_any (v : Value) (l : List Int) (n : Int) (w : World) (hl : Code w v l) (hn : 0 ≤ n ∧ n ≤ 1000000) : Calls Tryd.prog 38 #[v, .int .i64 n] w fun e w' =>
    ∃ x : Int, e = .returned (.int .i64 x) ∧ (0 ≤ x ∧ x ≤ 65535) ∧ Ext w w' := by
  obtain ⟨a, cap, rfl, hc1, hc2⟩ := hl.bytes.val
  go_enter Tryd.func38, Tryd.ntmps38
  go_wp2_with fail
  refine (l45At_any _ l n _ hl hn).mono ?_; rintro e1 w1 ⟨b, rfl, hb, c1, h1⟩
  go_wp2_with fail
  refine (l01Byte_any b _ c1).mono ?_; rintro e2 w2 ⟨x, rfl, ⟨x0, x1⟩, c2, g2⟩
  have h2 : Ext w w2 := h1.only g2 (fun k hk => by injection hk with hk; omega)
  go_wp2_with fail
  refine (l01Byte_any b _ c2).mono ?_; rintro e3 w3 ⟨y, rfl, ⟨y0, y1⟩, c3, g3⟩
  have h3 : Ext w w3 := h2.only g3 (fun k hk => by injection hk with hk; omega)
  go_wp2
  go_ret
  exact ⟨_, rfl, by omega, h3⟩
end Go.Proofs.YtpimpahmhipifaaDoor
