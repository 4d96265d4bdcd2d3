/- Drawn numbers: MakeNum, MakeSize. -/
import Derived.Test.YtpegckmagiaggaaGDrawE
set_option linter.unusedSimpArgs false
set_option linter.unusedVariables false
namespace Go.Proofs.Ytpegckmagiaggaa
open Go.RowKit
theorem makeNum_any (v : Value) (l : List Int) (c : Int) (w : World) (hl : Code w v l) (hn : 0 ≤ c ∧ c ≤ 1000000) : Calls Try.prog 73 #[v, .int .i64 c] w fun e w' =>
 ∃ x : Int, e = .returned (.int .i64 x) ∧ (0 ≤ x ∧ x ≤ 65535) ∧ Ext w w' := by
 obtain ⟨a, cap, rfl, hc1, hc2⟩ := hl.bytes.val
 go_enter Try.func73, Try.ntmps73
 go_wp2_with fail
 refine (l45At_any _ l _ _ (hl.ext (by repeat' (first | (with_reducible first | exact Ext.refl _ | assumption | apply Ext.alloc | apply Ext.drew | apply Ext.drewN) | (refine Ext.setAt ?_ (by omega) _ _) | (refine Ext.trans ?_ (by assumption))))) hn).mono ?_; rintro e1 w1 ⟨b, rfl, hb, c1, h1⟩
 go_wp2_with fail
 refine (l01Byte_any b _ c1).mono ?_; rintro e2 w2 ⟨x, rfl, ⟨x0, x1⟩, c2, g2⟩
 go_wp2_with fail
 refine (l01Byte_any b _ c2).mono ?_; rintro e3 w3 ⟨y, rfl, ⟨y0, y1⟩, c3, g3⟩
 have E3 : Ext w w3 := h1.only (grownBy_trans g2 g3) (fun k hk => by injection hk with hk; omega)
 go_wp2
 go_ret
 exact ⟨_, rfl, ⟨by omega, by omega⟩, E3⟩
theorem makeSize_any (v : Value) (l : List Int) (c lo hi : Int) (w : World) (hl : Code w v l) (hn : 0 ≤ c ∧ c ≤ 1000000) (hlh : 0 ≤ lo ∧ lo ≤ hi ∧ hi ≤ 1000000) : Calls Try.prog 19 #[v, .int .i64 c, .int .i64 lo, .int .i64 hi] w fun e w' =>
 ∃ x : Int, e = .returned (.int .i64 x) ∧ (lo ≤ x ∧ x ≤ hi) ∧ Ext w w' := by
 obtain ⟨a, cap, rfl, hc1, hc2⟩ := hl.bytes.val
 obtain ⟨l0, l1, l2⟩ := hlh
 go_enter Try.func19, Try.ntmps19
 go_wp2_with fail
 refine (makeNum_any _ l _ _ (hl.ext (by repeat' (first | (with_reducible first | exact Ext.refl _ | assumption | apply Ext.alloc | apply Ext.drew | apply Ext.drewN) | (refine Ext.setAt ?_ (by omega) _ _) | (refine Ext.trans ?_ (by assumption))))) hn).mono ?_; rintro e1 w1 ⟨x, rfl, ⟨x0, x1⟩, h1⟩
 have r0 := Int.emod_nonneg x (show hi - lo + 1 ≠ 0 by omega)
 have r1 := Int.emod_lt_of_pos x (show 0 < hi - lo + 1 by omega)
 go_wp2
 go_ret
 exact ⟨_, rfl, ⟨by omega, by omega⟩, h1⟩
end Go.Proofs.Ytpegckmagiaggaa
