/- RingWidth, RingOk: the laws' walks. -/
import Derived.Test.YtlmidcclcnehnaaRings
namespace Go.Proofs.Ytlmidcclcnehnaa
open Go.RowKit
set_option linter.unusedSimpArgs false
set_option linter.unusedVariables false

theorem toRing_any (k p n : Int) (w : World) : Calls Try.prog 16 #[ringV k p n] w fun e w' =>
    e = .returned (ringV k p n) ∧ Ext w w' := by
  go_enter Try.func16, Try.ntmps16
  go_wp2
  go_returns
  exact ⟨rfl, (by repeat' (first | (with_reducible exact Ext.refl _) | (with_reducible assumption) | (with_reducible apply Ext.alloc) | (with_reducible apply Ext.drew) | (with_reducible apply Ext.drewN) | (refine Ext.setAt ?_ (by omega) _ _) | (refine Ext.trans ?_ (by assumption))))⟩

/-- 'RingWidth' of a valid ring. -/
def ringWidth (k n : Int) : Int := if k = 7 then n else if k = 8 then 4 else 1

theorem rawWidth_any (k p n : Int) (w : World) : Calls Try.prog 85 #[ringV k p n] w fun e w' =>
    e = .returned (.int .i64 (ringWidth k n)) ∧ Ext w w' := by
  have hk : k = 7 ∨ k = 8 ∨ (¬ k = 7 ∧ ¬ k = 8) := by omega
  rcases hk with rfl | rfl | ⟨e7, e8⟩
  all_goals
    go_enter Try.func85, Try.ntmps85
    go_wp2
    go_ret
    exact ⟨ret_int (by simp [ringWidth, *]), (by repeat' (first | (with_reducible exact Ext.refl _) | (with_reducible assumption) | (with_reducible apply Ext.alloc) | (with_reducible apply Ext.drew) | (with_reducible apply Ext.drewN) | (refine Ext.setAt ?_ (by omega) _ _) | (refine Ext.trans ?_ (by assumption))))⟩
theorem l02Width_any (k p n : Int) (w : World) : Calls Try.prog 109 #[ringV k p n] w fun e w' =>
    e = .returned (.int .i64 (ringWidth k n)) ∧ Ext w w' := by
  have hk : k = 7 ∨ k = 8 ∨ (¬ k = 7 ∧ ¬ k = 8) := by omega
  rcases hk with rfl | rfl | ⟨e7, e8⟩
  all_goals
    go_enter Try.func109, Try.ntmps109
    go_wp2
    go_ret
    exact ⟨ret_int (by simp [ringWidth, *]), (by repeat' (first | (with_reducible exact Ext.refl _) | (with_reducible assumption) | (with_reducible apply Ext.alloc) | (with_reducible apply Ext.drew) | (with_reducible apply Ext.drewN) | (refine Ext.setAt ?_ (by omega) _ _) | (refine Ext.trans ?_ (by assumption))))⟩

/-- 'RingWidth' of any ring. -/
def ringWidthAll (k p n : Int) : Int := if ringOk k p n = true then ringWidth k n else 0
theorem ringWidthAll_ok {k p n : Int} (h : ringOk k p n = true) : ringWidthAll k p n = ringWidth k n := by simp [ringWidthAll, h]
theorem ringWidthAll_no {k p n : Int} (h : ringOk k p n = false) : ringWidthAll k p n = 0 := by simp [ringWidthAll, h]

theorem ringWidth_impl (k p n : Int) (w : World) : Calls Try.prog 45 #[ringV k p n] w fun e w' =>
    e = .returned (.int .i64 (ringWidthAll k p n)) ∧ Ext w w' := by
  cases hr : ringOk k p n
  all_goals
    have HR := Lib.hid hr
    go_enter Try.func45, Try.ntmps45
    go_wp2_with (first | (go_at_call 73; refine (ringOk_impl _ _ _ _).mono ?_; rintro e1 w1 ⟨rfl, h1⟩; have s1 := h1.size; (try simp at s1); have t1_0 : w.heap.size < w1.heap.size := (by omega); have c1_0 := fun o => h1.cells (w.heap.size) o (by first | (simp; done) | (simp; omega) | omega)) | (go_at_call 85; refine (rawWidth_any _ _ _ _).mono ?_; rintro e2 w2 ⟨rfl, h2⟩; have s2 := h2.size; (try simp at s2); have t2_0 : w.heap.size < w2.heap.size := (by omega); have c2_0 := fun o => h2.cells (w.heap.size) o (by first | (simp; done) | (simp; omega) | omega)))
    go_ret
  · exact ⟨ret_int (ringWidthAll_no HR.out).symm, (by repeat' (first | (with_reducible exact Ext.refl _) | (with_reducible assumption) | (with_reducible apply Ext.alloc) | (with_reducible apply Ext.drew) | (with_reducible apply Ext.drewN) | (refine Ext.setAt ?_ (by omega) _ _) | (refine Ext.trans ?_ (by assumption))))⟩
  · exact ⟨ret_int (ringWidthAll_ok HR.out).symm, (by repeat' (first | (with_reducible exact Ext.refl _) | (with_reducible assumption) | (with_reducible apply Ext.alloc) | (with_reducible apply Ext.drew) | (with_reducible apply Ext.drewN) | (refine Ext.setAt ?_ (by omega) _ _) | (refine Ext.trans ?_ (by assumption))))⟩
end Go.Proofs.Ytlmidcclcnehnaa
