/- ScalarTensor of the program and of the reference. -/
import Derived.Test.YtpegckmagiaggaaJHomA
set_option linter.unusedSimpArgs false
set_option linter.unusedVariables false
namespace Go.Proofs.Ytpegckmagiaggaa
open Go.RowKit
theorem l05Ints_any (v : Value) (l : List Int) (w : World) (hl : IntS w v l) (hlen : l.length ≤ 1099511627776) : Calls Try.prog 190 #[v] w fun e w' =>
 ∃ v', e = .returned v' ∧ OwnI w' w.heap.size v' l ∧ Ext w w' := by
 obtain ⟨a, cap, rfl, hc1, hc2⟩ := hl.val
 go_enter Try.func190, Try.ntmps190
 go_wp2_with (at_builtin; refine wpList_app _ rfl _ _ 27 rfl _ _ rfl rfl _ (run_app_ints _ _ w.heap.size (.slice (some ⟨w.heap.size, 0, none⟩) 0 0) _ [] l (OwnI.empty (by omega) rfl) (hl.ext (by repeat' (first | (with_reducible exact Ext.refl _) | (with_reducible assumption) | (with_reducible apply Ext.alloc) | (with_reducible apply Ext.drew) | (with_reducible apply Ext.drewN) | (refine Ext.setAt ?_ (by omega) _ _) | (refine Ext.trans ?_ (by assumption))))) (by simpa using hlen) (by first | (simp [World.setCell]; done) | (simp [World.setCell]; omega) | omega)) ?_; rintro v1 w1 ⟨o1, g1, _⟩)
 go_ret
 exact ⟨_, rfl, o1, (show Ext w _ from (by repeat' (first | (with_reducible exact Ext.refl _) | (with_reducible assumption) | (with_reducible apply Ext.alloc) | (with_reducible apply Ext.drew) | (with_reducible apply Ext.drewN) | (refine Ext.setAt ?_ (by omega) _ _) | (refine Ext.trans ?_ (by assumption))))).only g1 (fun k hk => by simp [Value.ownBlock] at hk; omega)⟩
def scalX (k p n : Int) (x : List Int) : List Int := if elemOk k p n x = true then x else []
theorem scalX_yes {k p n : Int} {x : List Int} (h : elemOk k p n x = true) : scalX k p n x = x := by simp [scalX, h]
theorem scalX_no {k p n : Int} {x : List Int} (h : elemOk k p n x = false) : scalX k p n x = [] := by simp [scalX, h]
theorem scalarTensor_impl (k p n : Int) (vx : Value) (x : List Int) (w : World) (hvx : IntS w vx x) : Calls Try.prog 127 #[ringV k p n, vx] w fun e w' =>
 ∃ v, e = .returned v ∧ OwnT w' w.heap.size v [] [] (scalX k p n x) ∧ Ext w w' := by
 obtain ⟨ax, capx, rfl, hc1, hc2⟩ := hvx.val
 cases h : elemOk k p n x
 · rw [scalX_no h]
   go_enter Try.func127, Try.ntmps127
   go_wp2_with fail
   refine (elemOk_impl _ _ _ _ x _ (hvx.ext (by repeat' (first | (with_reducible exact Ext.refl _) | (with_reducible assumption) | (with_reducible apply Ext.alloc) | (with_reducible apply Ext.drew) | (with_reducible apply Ext.drewN) | (refine Ext.setAt ?_ (by omega) _ _) | (refine Ext.trans ?_ (by assumption)))))).mono ?_; rintro e1 w1 ⟨rfl, h1⟩; have s1 := h1.size; (try simp at s1); have t1_0 : w.heap.size < w1.heap.size := (by omega); have c1_0 := fun o => h1.cells (w.heap.size) o (by first | (simp; done) | (simp; omega) | omega); have t1_1 : w.heap.size + 1 < w1.heap.size := (by omega); have c1_1 := fun o => h1.cells (w.heap.size + 1) o (by first | (simp; done) | (simp; omega) | omega); have f1_0 := fun o => h1.frozens (w.heap.size) o (by first | (simp; done) | (simp; omega) | omega); have f1_1 := fun o => h1.frozens (w.heap.size + 1) o (by first | (simp; done) | (simp; omega) | omega); go_wp2_with fail
   refine bodyPost_ret (v := .agg #[.slice none 0 0, .slice none 0 0, .slice none 0 0]) (by simp [results, Try.results127, go_sem, *]) rfl ?_
   exact ⟨_, rfl, OwnT.empty _ _, (by repeat' (first | (with_reducible exact Ext.refl _) | (with_reducible assumption) | (with_reducible apply Ext.alloc) | (with_reducible apply Ext.drew) | (with_reducible apply Ext.drewN) | (refine Ext.setAt ?_ (by omega) _ _) | (refine Ext.trans ?_ (by assumption))))⟩
 · rw [scalX_yes h]
   have hl := (elemOk_len h).2
   go_enter Try.func127, Try.ntmps127
   go_wp2_with fail
   refine (elemOk_impl _ _ _ _ x _ (hvx.ext (by repeat' (first | (with_reducible exact Ext.refl _) | (with_reducible assumption) | (with_reducible apply Ext.alloc) | (with_reducible apply Ext.drew) | (with_reducible apply Ext.drewN) | (refine Ext.setAt ?_ (by omega) _ _) | (refine Ext.trans ?_ (by assumption)))))).mono ?_; rintro e1 w1 ⟨rfl, h1⟩; have s1 := h1.size; (try simp at s1); have t1_0 : w.heap.size < w1.heap.size := (by omega); have c1_0 := fun o => h1.cells (w.heap.size) o (by first | (simp; done) | (simp; omega) | omega); have t1_1 : w.heap.size + 1 < w1.heap.size := (by omega); have c1_1 := fun o => h1.cells (w.heap.size + 1) o (by first | (simp; done) | (simp; omega) | omega); have f1_0 := fun o => h1.frozens (w.heap.size) o (by first | (simp; done) | (simp; omega) | omega); have f1_1 := fun o => h1.frozens (w.heap.size + 1) o (by first | (simp; done) | (simp; omega) | omega); go_wp2_with fail
   refine (copyInts_any _ x _ (hvx.ext (by repeat' (first | (with_reducible exact Ext.refl _) | (with_reducible assumption) | (with_reducible apply Ext.alloc) | (with_reducible apply Ext.drew) | (with_reducible apply Ext.drewN) | (refine Ext.setAt ?_ (by omega) _ _) | (refine Ext.trans ?_ (by assumption))))) (by omega)).mono ?_; rintro e2 w2 ⟨v2, rfl, o2, h2⟩; have s2 := h2.size; (try simp at s2); have t2_0 : w.heap.size < w2.heap.size := (by omega); have c2_0 := fun o => h2.cells (w.heap.size) o (by first | (simp; done) | (simp; omega) | omega); have t2_1 : w.heap.size + 1 < w2.heap.size := (by omega); have c2_1 := fun o => h2.cells (w.heap.size + 1) o (by first | (simp; done) | (simp; omega) | omega); have f2_0 := fun o => h2.frozens (w.heap.size) o (by first | (simp; done) | (simp; omega) | omega); have f2_1 := fun o => h2.frozens (w.heap.size + 1) o (by first | (simp; done) | (simp; omega) | omega)
   obtain ⟨a2, cap2, rfl, hd1, hd2⟩ := o2.ints.val
   go_wp2
   refine bodyPost_ret (v := .agg #[.slice none 0 0, .slice none 0 0, .slice a2 x.length cap2]) (by simp [results, Try.results127, go_sem, *]) rfl ?_
   exact ⟨_, rfl, OwnT.data (((o2.setBelow (by first | (simp [World.setCell]; done) | (simp [World.setCell]; omega) | omega) _).setBelow (by first | (simp [World.setCell]; done) | (simp [World.setCell]; omega) | omega) _).setBelow (by first | (simp [World.setCell]; done) | (simp [World.setCell]; omega) | omega) _ |>.mono (by first | (simp [World.setCell]; done) | (simp [World.setCell]; omega) | omega)), (by repeat' (first | (with_reducible exact Ext.refl _) | (with_reducible assumption) | (with_reducible apply Ext.alloc) | (with_reducible apply Ext.drew) | (with_reducible apply Ext.drewN) | (refine Ext.setAt ?_ (by omega) _ _) | (refine Ext.trans ?_ (by assumption))))⟩
end Go.Proofs.Ytpegckmagiaggaa
