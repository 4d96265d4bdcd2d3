/- MulElem of the program and of the reference. -/
import Derived.Test.YtlmidcclcnehnaaMulsS
import Derived.Test.YtlmidcclcnehnaaMulsI
import Derived.Test.YtlmidcclcnehnaaAddW
namespace Go.Proofs.Ytlmidcclcnehnaa
open Go.RowKit
set_option linter.unusedSimpArgs false
set_option linter.unusedVariables false

/-- 'MulElem' -/
def mulOf (k p n : Int) (x y : List Int) : List Int := if elemOk k p n x = true ∧ elemOk k p n y = true then mulL k p x y else []
theorem mulOf_yes {k p n : Int} {x y : List Int} (hx : elemOk k p n x = true) (hy : elemOk k p n y = true) : mulOf k p n x y = mulL k p x y := by simp [mulOf, hx, hy]
theorem mulOf_no1 {k p n : Int} {x y : List Int} (hx : elemOk k p n x = false) : mulOf k p n x y = [] := by simp [mulOf, hx]
theorem mulOf_no2 {k p n : Int} {x y : List Int} (hy : elemOk k p n y = false) : mulOf k p n x y = [] := by simp [mulOf, hy]
theorem mulOf_short (k p n : Int) (x y : List Int) : (mulOf k p n x y).length ≤ 6 := by
  unfold mulOf
  split
  · rename_i h
    have := (elemOk_len h.1).2
    rw [mulL_length (by have := (rawOk_fit (elemOk_parts h.1).1 (elemOk_parts h.1).2).2; have := (rawOk_fit (elemOk_parts h.2).1 (elemOk_parts h.2).2).2; omega)]; exact this
  · simp

set_option maxHeartbeats 400000 in
theorem mulElem_spec (k p n : Int) (vx vy : Value) (x y : List Int) (w : World) (hvx : IntS w vx x) (hvy : IntS w vy y) : Calls Try.prog 27 #[ringV k p n, vx, vy] w fun e w' =>
    ∃ v, e = .returned v ∧ OwnI w' w.heap.size v (mulOf k p n x y) ∧ Ext w w' := by
  obtain ⟨ax, capx, rfl, hc1, hc2⟩ := hvx.val
  obtain ⟨ay, capy, rfl, hc3, hc4⟩ := hvy.val
  cases hx : elemOk k p n x
  · rw [mulOf_no1 hx]
    go_enter Try.func27, Try.ntmps27
    go_wp2_with (go_at_call 63; refine (elemOk_spec _ _ _ _ x _ (hvx.ext (by repeat' (first | (with_reducible exact Ext.refl _) | (with_reducible assumption) | (with_reducible apply Ext.alloc) | (with_reducible apply Ext.drew) | (with_reducible apply Ext.drewN) | (refine Ext.setAt ?_ (by omega) _ _) | (refine Ext.trans ?_ (by assumption)))))).mono ?_; rintro e1 w1 ⟨rfl, h1⟩; have s1 := h1.size; (try simp at s1); have t1_0 : w.heap.size < w1.heap.size := (by omega); have c1_0 := fun o => h1.cells (w.heap.size) o (by first | (simp; done) | (simp; omega) | omega))
    go_ret
    exact ⟨_, rfl, OwnI.nil _ _, (by repeat' (first | (with_reducible exact Ext.refl _) | (with_reducible assumption) | (with_reducible apply Ext.alloc) | (with_reducible apply Ext.drew) | (with_reducible apply Ext.drewN) | (refine Ext.setAt ?_ (by omega) _ _) | (refine Ext.trans ?_ (by assumption))))⟩
  cases hy : elemOk k p n y
  · rw [mulOf_no2 hy]
    go_enter Try.func27, Try.ntmps27
    go_wp2_with fail
    refine (elemOk_spec _ _ _ _ x _ (hvx.ext (by repeat' (first | (with_reducible exact Ext.refl _) | (with_reducible assumption) | (with_reducible apply Ext.alloc) | (with_reducible apply Ext.drew) | (with_reducible apply Ext.drewN) | (refine Ext.setAt ?_ (by omega) _ _) | (refine Ext.trans ?_ (by assumption)))))).mono ?_; rintro e1 w1 ⟨rfl, h1⟩; have s1 := h1.size; (try simp at s1); have t1_0 : w.heap.size < w1.heap.size := (by omega); have c1_0 := fun o => h1.cells (w.heap.size) o (by first | (simp; done) | (simp; omega) | omega); go_wp2_with fail
    refine (elemOk_spec _ _ _ _ y _ (hvy.ext (by repeat' (first | (with_reducible exact Ext.refl _) | (with_reducible assumption) | (with_reducible apply Ext.alloc) | (with_reducible apply Ext.drew) | (with_reducible apply Ext.drewN) | (refine Ext.setAt ?_ (by omega) _ _) | (refine Ext.trans ?_ (by assumption)))))).mono ?_; rintro e2 w2 ⟨rfl, h2⟩
    go_wp2
    go_ret
    exact ⟨_, rfl, OwnI.nil _ _, (by repeat' (first | (with_reducible exact Ext.refl _) | (with_reducible assumption) | (with_reducible apply Ext.alloc) | (with_reducible apply Ext.drew) | (with_reducible apply Ext.drewN) | (refine Ext.setAt ?_ (by omega) _ _) | (refine Ext.trans ?_ (by assumption))))⟩
  · rw [mulOf_yes hx hy]
    obtain ⟨hr, rx⟩ := elemOk_parts hx
    obtain ⟨_, ry⟩ := elemOk_parts hy
    go_enter Try.func27, Try.ntmps27
    go_wp2_with fail
    refine (elemOk_spec _ _ _ _ x _ (hvx.ext (by repeat' (first | (with_reducible exact Ext.refl _) | (with_reducible assumption) | (with_reducible apply Ext.alloc) | (with_reducible apply Ext.drew) | (with_reducible apply Ext.drewN) | (refine Ext.setAt ?_ (by omega) _ _) | (refine Ext.trans ?_ (by assumption)))))).mono ?_; rintro e1 w1 ⟨rfl, h1⟩; have s1 := h1.size; (try simp at s1); have t1_0 : w.heap.size < w1.heap.size := (by omega); have c1_0 := fun o => h1.cells (w.heap.size) o (by first | (simp; done) | (simp; omega) | omega); go_wp2_with fail
    refine (elemOk_spec _ _ _ _ y _ (hvy.ext (by repeat' (first | (with_reducible exact Ext.refl _) | (with_reducible assumption) | (with_reducible apply Ext.alloc) | (with_reducible apply Ext.drew) | (with_reducible apply Ext.drewN) | (refine Ext.setAt ?_ (by omega) _ _) | (refine Ext.trans ?_ (by assumption)))))).mono ?_; rintro e2 w2 ⟨rfl, h2⟩; have s2 := h2.size; (try simp at s2); have t2_0 : w.heap.size < w2.heap.size := (by omega); have c2_0 := fun o => h2.cells (w.heap.size) o (by first | (simp; done) | (simp; omega) | omega); go_wp2_with fail
    refine (l02Mul_any _ _ _ _ _ x y _ hr (hvx.ext (by repeat' (first | (with_reducible exact Ext.refl _) | (with_reducible assumption) | (with_reducible apply Ext.alloc) | (with_reducible apply Ext.drew) | (with_reducible apply Ext.drewN) | (refine Ext.setAt ?_ (by omega) _ _) | (refine Ext.trans ?_ (by assumption))))) (hvy.ext (by repeat' (first | (with_reducible exact Ext.refl _) | (with_reducible assumption) | (with_reducible apply Ext.alloc) | (with_reducible apply Ext.drew) | (with_reducible apply Ext.drewN) | (refine Ext.setAt ?_ (by omega) _ _) | (refine Ext.trans ?_ (by assumption))))) rx ry).mono ?_; rintro e3 w3 ⟨v3, rfl, o3, h3⟩; have s3 := h3.size; (try simp at s3); have t3_0 : w.heap.size < w3.heap.size := (by omega); have c3_0 := fun o => h3.cells (w.heap.size) o (by first | (simp; done) | (simp; omega) | omega); go_wp2_with fail
    go_ret
    exact ⟨_, rfl, o3.mono (by omega), (by repeat' (first | (with_reducible exact Ext.refl _) | (with_reducible assumption) | (with_reducible apply Ext.alloc) | (with_reducible apply Ext.drew) | (with_reducible apply Ext.drewN) | (refine Ext.setAt ?_ (by omega) _ _) | (refine Ext.trans ?_ (by assumption))))⟩

set_option maxHeartbeats 400000 in
theorem mulElem_impl (k p n : Int) (vx vy : Value) (x y : List Int) (w : World) (hvx : IntS w vx x) (hvy : IntS w vy y) : Calls Try.prog 28 #[ringV k p n, vx, vy] w fun e w' =>
    ∃ v, e = .returned v ∧ OwnI w' w.heap.size v (mulOf k p n x y) ∧ Ext w w' := by
  obtain ⟨ax, capx, rfl, hc1, hc2⟩ := hvx.val
  obtain ⟨ay, capy, hvv, hc3, hc4⟩ := hvy.val
  cases hx : elemOk k p n x
  · rw [mulOf_no1 hx]
    subst hvv
    go_enter Try.func28, Try.ntmps28
    go_wp2_with (go_at_call 41; refine (elemOk_impl _ _ _ _ x _ (hvx.ext (by repeat' (first | (with_reducible exact Ext.refl _) | (with_reducible assumption) | (with_reducible apply Ext.alloc) | (with_reducible apply Ext.drew) | (with_reducible apply Ext.drewN) | (refine Ext.setAt ?_ (by omega) _ _) | (refine Ext.trans ?_ (by assumption)))))).mono ?_; rintro e1 w1 ⟨rfl, h1⟩; have s1 := h1.size; (try simp at s1); have t1_0 : w.heap.size < w1.heap.size := (by omega); have c1_0 := fun o => h1.cells (w.heap.size) o (by first | (simp; done) | (simp; omega) | omega))
    go_ret
    exact ⟨_, rfl, OwnI.nil _ _, (by repeat' (first | (with_reducible exact Ext.refl _) | (with_reducible assumption) | (with_reducible apply Ext.alloc) | (with_reducible apply Ext.drew) | (with_reducible apply Ext.drewN) | (refine Ext.setAt ?_ (by omega) _ _) | (refine Ext.trans ?_ (by assumption))))⟩
  cases hy : elemOk k p n y
  · rw [mulOf_no2 hy]
    subst hvv
    go_enter Try.func28, Try.ntmps28
    go_wp2_with fail
    refine (elemOk_impl _ _ _ _ x _ (hvx.ext (by repeat' (first | (with_reducible exact Ext.refl _) | (with_reducible assumption) | (with_reducible apply Ext.alloc) | (with_reducible apply Ext.drew) | (with_reducible apply Ext.drewN) | (refine Ext.setAt ?_ (by omega) _ _) | (refine Ext.trans ?_ (by assumption)))))).mono ?_; rintro e1 w1 ⟨rfl, h1⟩; have s1 := h1.size; (try simp at s1); have t1_0 : w.heap.size < w1.heap.size := (by omega); have c1_0 := fun o => h1.cells (w.heap.size) o (by first | (simp; done) | (simp; omega) | omega); go_wp2_with fail
    refine (elemOk_impl _ _ _ _ y _ (hvy.ext (by repeat' (first | (with_reducible exact Ext.refl _) | (with_reducible assumption) | (with_reducible apply Ext.alloc) | (with_reducible apply Ext.drew) | (with_reducible apply Ext.drewN) | (refine Ext.setAt ?_ (by omega) _ _) | (refine Ext.trans ?_ (by assumption)))))).mono ?_; rintro e2 w2 ⟨rfl, h2⟩
    go_wp2
    go_ret
    exact ⟨_, rfl, OwnI.nil _ _, (by repeat' (first | (with_reducible exact Ext.refl _) | (with_reducible assumption) | (with_reducible apply Ext.alloc) | (with_reducible apply Ext.drew) | (with_reducible apply Ext.drewN) | (refine Ext.setAt ?_ (by omega) _ _) | (refine Ext.trans ?_ (by assumption))))⟩
  · rw [mulOf_yes hx hy]
    obtain ⟨hr, rx⟩ := elemOk_parts hx
    obtain ⟨_, ry⟩ := elemOk_parts hy
    obtain ⟨l1, l2⟩ := elemOk_len hx
    obtain ⟨l3, l4⟩ := elemOk_len hy
    subst hvv
    go_enter Try.func28, Try.ntmps28
    go_wp2_with fail
    refine (elemOk_impl _ _ _ _ x _ (hvx.ext (by repeat' (first | (with_reducible exact Ext.refl _) | (with_reducible assumption) | (with_reducible apply Ext.alloc) | (with_reducible apply Ext.drew) | (with_reducible apply Ext.drewN) | (refine Ext.setAt ?_ (by omega) _ _) | (refine Ext.trans ?_ (by assumption)))))).mono ?_; rintro e1 w1 ⟨rfl, h1⟩; have s1 := h1.size; (try simp at s1); have t1_0 : w.heap.size < w1.heap.size := (by omega); have c1_0 := fun o => h1.cells (w.heap.size) o (by first | (simp; done) | (simp; omega) | omega); go_wp2_with fail
    refine (elemOk_impl _ _ _ _ y _ (hvy.ext (by repeat' (first | (with_reducible exact Ext.refl _) | (with_reducible assumption) | (with_reducible apply Ext.alloc) | (with_reducible apply Ext.drew) | (with_reducible apply Ext.drewN) | (refine Ext.setAt ?_ (by omega) _ _) | (refine Ext.trans ?_ (by assumption)))))).mono ?_; rintro e2 w2 ⟨rfl, h2⟩; have s2 := h2.size; (try simp at s2); have t2_0 : w.heap.size < w2.heap.size := (by omega); have c2_0 := fun o => h2.cells (w.heap.size) o (by first | (simp; done) | (simp; omega) | omega); go_wp2_with fail
    refine (rawMul_any _ _ _ _ _ x y _ hr (hvx.ext (by repeat' (first | (with_reducible exact Ext.refl _) | (with_reducible assumption) | (with_reducible apply Ext.alloc) | (with_reducible apply Ext.drew) | (with_reducible apply Ext.drewN) | (refine Ext.setAt ?_ (by omega) _ _) | (refine Ext.trans ?_ (by assumption))))) (hvy.ext (by repeat' (first | (with_reducible exact Ext.refl _) | (with_reducible assumption) | (with_reducible apply Ext.alloc) | (with_reducible apply Ext.drew) | (with_reducible apply Ext.drewN) | (refine Ext.setAt ?_ (by omega) _ _) | (refine Ext.trans ?_ (by assumption))))) rx ry).mono ?_; rintro e3 w3 ⟨v3, rfl, o3, h3⟩; have s3 := h3.size; (try simp at s3); have t3_0 : w.heap.size < w3.heap.size := (by omega); have c3_0 := fun o => h3.cells (w.heap.size) o (by first | (simp; done) | (simp; omega) | omega); go_wp2_with fail
    go_ret
    exact ⟨_, rfl, o3.mono (by omega), (by repeat' (first | (with_reducible exact Ext.refl _) | (with_reducible assumption) | (with_reducible apply Ext.alloc) | (with_reducible apply Ext.drew) | (with_reducible apply Ext.drewN) | (refine Ext.setAt ?_ (by omega) _ _) | (refine Ext.trans ?_ (by assumption))))⟩
end Go.Proofs.Ytlmidcclcnehnaa
