/- ScalarTensor of the program and of the reference. -/
import Derived.Test.YtlgjddgajdjllaaGreatDoorTHomA
set_option linter.unusedSimpArgs false
set_option linter.unusedVariables false
namespace Go.Proofs.YtlgjddgajdjllaaGreatDoor
open Go.RowKit
theorem l05Ints_any (v : Value) (l : List Int) (w : World) (hl : IntS w v l) (hlen : l.length ≤ 1099511627776) : Calls Tryz.prog 80 #[v] w fun e w' =>
 ∃ v', e = .returned v' ∧ OwnI w' w.heap.size v' l ∧ Ext w w' := by
 obtain ⟨a, cap, rfl, hc1, hc2⟩ := hl.val
 go_enter Tryz.func80, Tryz.ntmps80
 go_wp2_with (at_builtin; refine wpList_app _ rfl _ _ 27 rfl _ _ rfl rfl _ (run_app_ints _ _ w.heap.size (.slice (some ⟨w.heap.size, 0, none⟩) 0 0) _ [] l (OwnI.empty (by omega) rfl) (hl.ext (by repeat' (first | (with_reducible first | exact Ext.refl _ | assumption | apply Ext.alloc | apply Ext.drew | apply Ext.drewN) | (refine Ext.setAt ?_ (by omega) _ _) | (refine Ext.trans ?_ (by assumption))))) (by simpa using hlen) (by first | (simp [World.setCell]; done) | (simp [World.setCell]; omega) | omega)) ?_; rintro v1 w1 ⟨o1, g1, _⟩)
 go_ret
 exact ⟨_, rfl, o1, (show Ext w _ from (by repeat' (first | (with_reducible first | exact Ext.refl _ | assumption | apply Ext.alloc | apply Ext.drew | apply Ext.drewN) | (refine Ext.setAt ?_ (by omega) _ _) | (refine Ext.trans ?_ (by assumption))))).only g1 (fun k hk => by simp [Value.ownBlock] at hk; omega)⟩
end Go.Proofs.YtlgjddgajdjllaaGreatDoor
