/- The laws on RingOk and RingWidth, walked. -/
import Derived.Test.YtikkhkllbifblaaRingsW0
namespace Go.Proofs.Ytikkhkllbifblaa
open Go.RowKit
set_option linter.unusedSimpArgs false
set_option linter.unusedVariables false
theorem walkFnExactRingOk (k p n : Int) (b : I64s [k, p, n]) (w : World) :
    Calls Try.prog 6 #[ringV k p n] w fun e w' => e = .returned (.bool true) ∧ Ext w w' := by
  go_enter Try.func6, Try.ntmps6
  go_wp2_with (first | (go_at_call 20; refine (toRing_any _ _ _ _).mono ?_; rintro e1 w1 ⟨rfl, h1⟩; have s1 := h1.size; (try simp at s1); have c1_0 := fun o => h1.cells (w.heap.size) o (by first | (simp; done) | (simp; omega) | omega)) | (go_at_call 21; refine (ringOk_impl _ _ _ _).mono ?_; rintro e2 w2 ⟨rfl, h2⟩; have s2 := h2.size; (try simp at s2); have c2_0 := fun o => h2.cells (w.heap.size) o (by first | (simp; done) | (simp; omega) | omega)) | (go_at_call 19; refine (ringOk_spec _ _ _ _).mono ?_; rintro e3 w3 ⟨rfl, h3⟩; have s3 := h3.size; (try simp at s3); have c3_0 := fun o => h3.cells (w.heap.size) o (by first | (simp; done) | (simp; omega) | omega)))
  go_ret
  exact ⟨rfl, (by repeat' (first | (with_reducible exact Ext.refl _) | (with_reducible assumption) | (with_reducible apply Ext.alloc) | (with_reducible apply Ext.drew) | (with_reducible apply Ext.drewN) | (refine Ext.trans ?_ (by assumption))))⟩
theorem walkFnExactRingWidth (k p n : Int) (b : I64s [k, p, n]) (w : World) :
    Calls Try.prog 7 #[ringV k p n] w fun e w' => e = .returned (.bool true) ∧ Ext w w' := by
  go_enter Try.func7, Try.ntmps7
  go_wp2_with (first | (go_at_call 20; refine (toRing_any _ _ _ _).mono ?_; rintro e1 w1 ⟨rfl, h1⟩; have s1 := h1.size; (try simp at s1); have c1_0 := fun o => h1.cells (w.heap.size) o (by first | (simp; done) | (simp; omega) | omega)) | (go_at_call 23; refine (ringWidth_impl _ _ _ _).mono ?_; rintro e2 w2 ⟨rfl, h2⟩; have s2 := h2.size; (try simp at s2); have c2_0 := fun o => h2.cells (w.heap.size) o (by first | (simp; done) | (simp; omega) | omega)) | (go_at_call 22; refine (ringWidth_spec _ _ _ _).mono ?_; rintro e3 w3 ⟨rfl, h3⟩; have s3 := h3.size; (try simp at s3); have c3_0 := fun o => h3.cells (w.heap.size) o (by first | (simp; done) | (simp; omega) | omega)))
  go_ret
  exact ⟨rfl, (by repeat' (first | (with_reducible exact Ext.refl _) | (with_reducible assumption) | (with_reducible apply Ext.alloc) | (with_reducible apply Ext.drew) | (with_reducible apply Ext.drewN) | (refine Ext.trans ?_ (by assumption))))⟩
end Go.Proofs.Ytikkhkllbifblaa
