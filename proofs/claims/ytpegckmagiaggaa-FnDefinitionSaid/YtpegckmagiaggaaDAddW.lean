/- AddElem of the program and of the reference. -/
import Derived.Test.YtpegckmagiaggaaDBase
import Derived.Test.YtpegckmagiaggaaDAddsS
namespace Go.Proofs.Ytpegckmagiaggaa
open Go.RowKit
set_option linter.unusedSimpArgs false
set_option linter.unusedVariables false

/-- 'AddElem' -/
def addOf (k p n : Int) (x y : List Int) : List Int := if elemOk k p n x = true ∧ elemOk k p n y = true then addL k p x y else []
theorem addOf_yes {k p n : Int} {x y : List Int} (hx : elemOk k p n x = true) (hy : elemOk k p n y = true) : addOf k p n x y = addL k p x y := by simp [addOf, hx, hy]
theorem addOf_no1 {k p n : Int} {x y : List Int} (hx : elemOk k p n x = false) : addOf k p n x y = [] := by simp [addOf, hx]
theorem addOf_no2 {k p n : Int} {x y : List Int} (hy : elemOk k p n y = false) : addOf k p n x y = [] := by simp [addOf, hy]
theorem elemOk_parts {k p n : Int} {x : List Int} (h : elemOk k p n x = true) : ringOk k p n = true ∧ rawOk k p n x = true := by
  cases hr : ringOk k p n
  · rw [elemOk_no hr] at h; cases h
  · exact ⟨rfl, by rwa [elemOk_yes hr] at h⟩
theorem elemOk_len {k p n : Int} {x : List Int} (h : elemOk k p n x = true) : 1 ≤ x.length ∧ x.length ≤ 6 := by
  obtain ⟨hr, hx⟩ := elemOk_parts h
  obtain ⟨_, hl⟩ := rawOk_fit hr hx
  have := (ringOk_wide hr).lo
  have := (ringOk_wide hr).hi
  omega
set_option maxHeartbeats 400000 in
theorem addElem_impl (k p n : Int) (vx vy : Value) (x y : List Int) (w : World) (hvx : IntS w vx x) (hvy : IntS w vy y) : Calls Try.prog 29 #[ringV k p n, vx, vy] w fun e w' =>
    ∃ v, e = .returned v ∧ OwnI w' w.heap.size v (addOf k p n x y) ∧ Ext w w' := by
  obtain ⟨ax, capx, rfl, hc1, hc2⟩ := hvx.val
  obtain ⟨ay, capy, hvv, hc3, hc4⟩ := hvy.val
  cases hx : elemOk k p n x
  · rw [addOf_no1 hx]
    subst hvv
    go_enter Try.func29, Try.ntmps29
    go_wp2_with (go_at_call 99; refine (elemOk_impl _ _ _ _ x _ (hvx.ext (by repeat' (first | (with_reducible exact Ext.refl _) | (with_reducible assumption) | (with_reducible apply Ext.alloc) | (with_reducible apply Ext.drew) | (with_reducible apply Ext.drewN) | (refine Ext.setAt ?_ (by omega) _ _) | (refine Ext.trans ?_ (by assumption)))))).mono ?_; rintro e1 w1 ⟨rfl, h1⟩; have s1 := h1.size; (try simp at s1); have t1_0 : w.heap.size < w1.heap.size := (by omega); have c1_0 := fun o => h1.cells (w.heap.size) o (by first | (simp; done) | (simp; omega) | omega))
    go_ret
    exact ⟨_, rfl, OwnI.nil _ _, (by repeat' (first | (with_reducible exact Ext.refl _) | (with_reducible assumption) | (with_reducible apply Ext.alloc) | (with_reducible apply Ext.drew) | (with_reducible apply Ext.drewN) | (refine Ext.setAt ?_ (by omega) _ _) | (refine Ext.trans ?_ (by assumption))))⟩
  cases hy : elemOk k p n y
  · rw [addOf_no2 hy]
    subst hvv
    go_enter Try.func29, Try.ntmps29
    go_wp2_with fail
    refine (elemOk_impl _ _ _ _ x _ (hvx.ext (by repeat' (first | (with_reducible exact Ext.refl _) | (with_reducible assumption) | (with_reducible apply Ext.alloc) | (with_reducible apply Ext.drew) | (with_reducible apply Ext.drewN) | (refine Ext.setAt ?_ (by omega) _ _) | (refine Ext.trans ?_ (by assumption)))))).mono ?_; rintro e1 w1 ⟨rfl, h1⟩; have s1 := h1.size; (try simp at s1); have t1_0 : w.heap.size < w1.heap.size := (by omega); have c1_0 := fun o => h1.cells (w.heap.size) o (by first | (simp; done) | (simp; omega) | omega); go_wp2_with fail
    refine (elemOk_impl _ _ _ _ y _ (hvy.ext (by repeat' (first | (with_reducible exact Ext.refl _) | (with_reducible assumption) | (with_reducible apply Ext.alloc) | (with_reducible apply Ext.drew) | (with_reducible apply Ext.drewN) | (refine Ext.setAt ?_ (by omega) _ _) | (refine Ext.trans ?_ (by assumption)))))).mono ?_; rintro e2 w2 ⟨rfl, h2⟩
    go_wp2
    go_ret
    exact ⟨_, rfl, OwnI.nil _ _, (by repeat' (first | (with_reducible exact Ext.refl _) | (with_reducible assumption) | (with_reducible apply Ext.alloc) | (with_reducible apply Ext.drew) | (with_reducible apply Ext.drewN) | (refine Ext.setAt ?_ (by omega) _ _) | (refine Ext.trans ?_ (by assumption))))⟩
  · rw [addOf_yes hx hy]
    obtain ⟨hr, rx⟩ := elemOk_parts hx
    obtain ⟨_, ry⟩ := elemOk_parts hy
    obtain ⟨l1, l2⟩ := elemOk_len hx
    obtain ⟨l3, l4⟩ := elemOk_len hy
    have hlt := fun k => hvy.block_lt (k := k) l3
    have HB := Lib.hid hlt; clear hlt
    subst hvv
    go_enter Try.func29, Try.ntmps29
    go_wp2_with fail
    refine (elemOk_impl _ _ _ _ x _ (hvx.ext (by repeat' (first | (with_reducible exact Ext.refl _) | (with_reducible assumption) | (with_reducible apply Ext.alloc) | (with_reducible apply Ext.drew) | (with_reducible apply Ext.drewN) | (refine Ext.setAt ?_ (by omega) _ _) | (refine Ext.trans ?_ (by assumption)))))).mono ?_; rintro e1 w1 ⟨rfl, h1⟩; have s1 := h1.size; (try simp at s1); have t1_0 : w.heap.size < w1.heap.size := (by omega); have c1_0 := fun o => h1.cells (w.heap.size) o (by first | (simp; done) | (simp; omega) | omega); go_wp2_with fail
    refine (elemOk_impl _ _ _ _ y _ (hvy.ext (by repeat' (first | (with_reducible exact Ext.refl _) | (with_reducible assumption) | (with_reducible apply Ext.alloc) | (with_reducible apply Ext.drew) | (with_reducible apply Ext.drewN) | (refine Ext.setAt ?_ (by omega) _ _) | (refine Ext.trans ?_ (by assumption)))))).mono ?_; rintro e2 w2 ⟨rfl, h2⟩; have s2 := h2.size; (try simp at s2); have t2_0 : w.heap.size < w2.heap.size := (by omega); have c2_0 := fun o => h2.cells (w.heap.size) o (by first | (simp; done) | (simp; omega) | omega); go_wp2_with fail
    refine (copyInts_any _ x _ (hvx.ext (by repeat' (first | (with_reducible exact Ext.refl _) | (with_reducible assumption) | (with_reducible apply Ext.alloc) | (with_reducible apply Ext.drew) | (with_reducible apply Ext.drewN) | (refine Ext.setAt ?_ (by omega) _ _) | (refine Ext.trans ?_ (by assumption))))) (by omega)).mono ?_; rintro e3 w3 ⟨v3, rfl, o3, h3⟩; have s3 := h3.size; (try simp at s3); have t3_0 : w.heap.size < w3.heap.size := (by omega); have c3_0 := fun o => h3.cells (w.heap.size) o (by first | (simp; done) | (simp; omega) | omega)
    obtain ⟨b, cap, hb, rfl, _, _⟩ := o3.open (by omega)
    obtain ⟨rest, hP, rfl, _, _, hm⟩ := o3.part
    go_wp2_with fail
    refine (addInto_any _ _ _ b 0 _ _ _ x y _ hr hP (hvy.ext (by repeat' (first | (with_reducible exact Ext.refl _) | (with_reducible assumption) | (with_reducible apply Ext.alloc) | (with_reducible apply Ext.drew) | (with_reducible apply Ext.drewN) | (refine Ext.setAt ?_ (by omega) _ _) | (refine Ext.trans ?_ (by assumption))))) (fun e => ?_) rx ry).mono ?_
    · have := HB.out b e; omega
    rintro e4 w4 ⟨rfl, hB4, g4⟩
    have h4 : Ext w w4 := (show Ext w w3 from (by repeat' (first | (with_reducible exact Ext.refl _) | (with_reducible assumption) | (with_reducible apply Ext.alloc) | (with_reducible apply Ext.drew) | (with_reducible apply Ext.drewN) | (refine Ext.setAt ?_ (by omega) _ _) | (refine Ext.trans ?_ (by assumption))))).only g4 (fun k hk => by injection hk with hk; omega)
    go_wp2
    go_ret
    exact ⟨_, rfl, OwnI.of_part (by omega) hB4 (by rw [addL_length (by have := (rawOk_fit hr rx).2; have := (rawOk_fit hr ry).2; omega)]) hm, h4⟩
end Go.Proofs.Ytpegckmagiaggaa
