/- ZeroOf, OneOf, CountElem of the program and of the reference; the laws' walks. -/
import Derived.Test.YtlmidcclcnehnaaUnits
namespace Go.Proofs.Ytlmidcclcnehnaa
open Go.RowKit
set_option linter.unusedSimpArgs false
set_option linter.unusedVariables false

/-- 'ZeroOf' -/
def zeroOf (k p n : Int) : List Int := if ringOk k p n = true then zeroL k p n else []
/-- 'OneOf' -/
def oneOf (k p n : Int) : List Int := if ringOk k p n = true then oneL k p n else []
theorem zeroOf_yes {k p n : Int} (h : ringOk k p n = true) : zeroOf k p n = zeroL k p n := by simp [zeroOf, h]
theorem zeroOf_no {k p n : Int} (h : ringOk k p n = false) : zeroOf k p n = [] := by simp [zeroOf, h]
theorem oneOf_yes {k p n : Int} (h : ringOk k p n = true) : oneOf k p n = oneL k p n := by simp [oneOf, h]
theorem oneOf_no {k p n : Int} (h : ringOk k p n = false) : oneOf k p n = [] := by simp [oneOf, h]

theorem zeroOf_impl (k p n : Int) (w : World) : Calls Try.prog 43 #[ringV k p n] w fun e w' =>
    ∃ v, e = .returned v ∧ OwnI w' w.heap.size v (zeroOf k p n) ∧ Ext w w' := by
  cases hr : ringOk k p n
  · rw [zeroOf_no hr]
    go_enter Try.func43, Try.ntmps43
    go_wp2_with (go_at_call 73; refine (ringOk_impl _ _ _ _).mono ?_; rintro e1 w1 ⟨rfl, h1⟩; have s1 := h1.size; (try simp at s1); have t1_0 : w.heap.size < w1.heap.size := (by omega); have c1_0 := fun o => h1.cells (w.heap.size) o (by first | (simp; done) | (simp; omega) | omega))
    go_ret
    exact ⟨_, rfl, OwnI.nil _ _, (by repeat' (first | (with_reducible exact Ext.refl _) | (with_reducible assumption) | (with_reducible apply Ext.alloc) | (with_reducible apply Ext.drew) | (with_reducible apply Ext.drewN) | (refine Ext.setAt ?_ (by omega) _ _) | (refine Ext.trans ?_ (by assumption))))⟩
  · rw [zeroOf_yes hr]
    have hw := ringOk_wide hr
    go_enter Try.func43, Try.ntmps43
    go_wp2_with (first | (go_at_call 73; refine (ringOk_impl _ _ _ _).mono ?_; rintro e1 w1 ⟨rfl, h1⟩; have s1 := h1.size; (try simp at s1); have t1_0 : w.heap.size < w1.heap.size := (by omega); have c1_0 := fun o => h1.cells (w.heap.size) o (by first | (simp; done) | (simp; omega) | omega)) | (go_at_call 75; refine (rawZero_any _ _ _ hw _).mono ?_; rintro e2 w2 ⟨v2, rfl, o2, h2⟩; have s2 := h2.size; (try simp at s2); have t2_0 : w.heap.size < w2.heap.size := (by omega); have c2_0 := fun o => h2.cells (w.heap.size) o (by first | (simp; done) | (simp; omega) | omega)))
    go_ret
    exact ⟨_, rfl, o2.mono (by omega), (by repeat' (first | (with_reducible exact Ext.refl _) | (with_reducible assumption) | (with_reducible apply Ext.alloc) | (with_reducible apply Ext.drew) | (with_reducible apply Ext.drewN) | (refine Ext.setAt ?_ (by omega) _ _) | (refine Ext.trans ?_ (by assumption))))⟩
theorem oneOf_impl (k p n : Int) (w : World) : Calls Try.prog 44 #[ringV k p n] w fun e w' =>
    ∃ v, e = .returned v ∧ OwnI w' w.heap.size v (oneOf k p n) ∧ Ext w w' := by
  cases hr : ringOk k p n
  · rw [oneOf_no hr]
    go_enter Try.func44, Try.ntmps44
    go_wp2_with (go_at_call 73; refine (ringOk_impl _ _ _ _).mono ?_; rintro e1 w1 ⟨rfl, h1⟩; have s1 := h1.size; (try simp at s1); have t1_0 : w.heap.size < w1.heap.size := (by omega); have c1_0 := fun o => h1.cells (w.heap.size) o (by first | (simp; done) | (simp; omega) | omega))
    go_ret
    exact ⟨_, rfl, OwnI.nil _ _, (by repeat' (first | (with_reducible exact Ext.refl _) | (with_reducible assumption) | (with_reducible apply Ext.alloc) | (with_reducible apply Ext.drew) | (with_reducible apply Ext.drewN) | (refine Ext.setAt ?_ (by omega) _ _) | (refine Ext.trans ?_ (by assumption))))⟩
  · rw [oneOf_yes hr]
    have hw := ringOk_wide hr
    have hf := ringOk_fit hr
    go_enter Try.func44, Try.ntmps44
    go_wp2_with (first | (go_at_call 73; refine (ringOk_impl _ _ _ _).mono ?_; rintro e1 w1 ⟨rfl, h1⟩; have s1 := h1.size; (try simp at s1); have t1_0 : w.heap.size < w1.heap.size := (by omega); have c1_0 := fun o => h1.cells (w.heap.size) o (by first | (simp; done) | (simp; omega) | omega)) | (go_at_call 87; refine (rawOne_any _ _ _ hw hf _).mono ?_; rintro e2 w2 ⟨v2, rfl, o2, h2⟩; have s2 := h2.size; (try simp at s2); have t2_0 : w.heap.size < w2.heap.size := (by omega); have c2_0 := fun o => h2.cells (w.heap.size) o (by first | (simp; done) | (simp; omega) | omega)))
    go_ret
    exact ⟨_, rfl, o2.mono (by omega), (by repeat' (first | (with_reducible exact Ext.refl _) | (with_reducible assumption) | (with_reducible apply Ext.alloc) | (with_reducible apply Ext.drew) | (with_reducible apply Ext.drewN) | (refine Ext.setAt ?_ (by omega) _ _) | (refine Ext.trans ?_ (by assumption))))⟩
/-- The length of a result is small. -/
theorem zeroOf_short (k p n : Int) : (zeroOf k p n).length ≤ 6 := by
  unfold zeroOf
  split
  · have := (ringOk_wide ‹_›).hi; rw [zeroL_length]; omega
  · simp
theorem oneOf_short (k p n : Int) : (oneOf k p n).length ≤ 6 := by
  unfold oneOf
  split
  · have := (ringOk_wide ‹_›).hi; rw [oneL_length]; omega
  · simp
theorem beq_same (l : List Int) : (l == l) = true := by simp

end Go.Proofs.Ytlmidcclcnehnaa
