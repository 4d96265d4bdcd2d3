/- The laws of the texts of rings, lists and elements, walked. -/
import Derived.Test.YtpimpahmhipifaaDoorRingT
import Derived.Test.YtpimpahmhipifaaDoorElemTx
import Derived.Test.YtpimpahmhipifaaDoorVars
namespace Go.Proofs.YtpimpahmhipifaaDoor
open Go.RowKit
set_option linter.unusedSimpArgs false
set_option linter.unusedVariables false
open Go.Lib

theorem i64s_of {l : List Int} (h : I64s l) : ∀ x ∈ l, isI64 x := fun x hx => h x hx
theorem walkFnExactFormatRing (k p n : Int) (w : World) (hT : Vars_fnExactFormatRing w) : Calls Tryd.prog 6 #[ringV k p n] w fun e w' => e = .returned (.bool true) ∧ Ext w w' := by
  go_enter Tryd.func6, Tryd.ntmps6
  go_wp2_with fail
  refine (toRing_any _ _ _ _).mono ?_; rintro e1 w1 ⟨rfl, h1⟩; have s1 := h1.size; (try simp at s1); have t1_0 : w.heap.size < w1.heap.size := (by omega); have c1_0 := fun o => h1.cells (w.heap.size) o (by first | (simp; done) | (simp; omega) | omega)
  go_wp2_with fail
  refine (formatRing_spec k p n _).mono ?_; rintro e2 w2 ⟨rfl, h2⟩; have s2 := h2.size; (try simp at s2); have t2_0 : w.heap.size < w2.heap.size := (by omega); have c2_0 := fun o => h2.cells (w.heap.size) o (by first | (simp; done) | (simp; omega) | omega)
  go_wp2_with fail
  refine (toRing_any _ _ _ _).mono ?_; rintro e3 w3 ⟨rfl, h3⟩; have s3 := h3.size; (try simp at s3); have t3_0 : w.heap.size < w3.heap.size := (by omega); have c3_0 := fun o => h3.cells (w.heap.size) o (by first | (simp; done) | (simp; omega) | omega)
  go_wp2_with fail
  refine (formatRing_impl k p n _ (hT.ext (by repeat' (first | (with_reducible exact Ext.refl _) | (with_reducible assumption) | (with_reducible apply Ext.alloc) | (with_reducible apply Ext.drew) | (with_reducible apply Ext.drewN) | (refine Ext.setAt ?_ (by omega) _ _) | (refine Ext.trans ?_ (by assumption)))))).mono ?_; rintro e4 w4 ⟨rfl, h4⟩
  go_wp2
  go_ret
  exact ⟨rfl, (by repeat' (first | (with_reducible exact Ext.refl _) | (with_reducible assumption) | (with_reducible apply Ext.alloc) | (with_reducible apply Ext.drew) | (with_reducible apply Ext.drewN) | (refine Ext.setAt ?_ (by omega) _ _) | (refine Ext.trans ?_ (by assumption))))⟩
theorem walkFnExactFormatInts (v : Value) (l : List Int) (w : World) (hT : Vars_fnExactFormatInts w) (hl : IntS w v l) (h64 : I64s l) : Calls Tryd.prog 7 #[v] w fun e w' => e = .returned (.bool true) ∧ Ext w w' := by
  obtain ⟨a, cap, rfl, hc1, hc2⟩ := hl.val
  have H64 := Lib.hid (i64s_of h64)
  have q0 : (l == l) = true := by simp
  clear h64
  by_cases big : 1048576 < l.length
  · go_enter Tryd.func7, Tryd.ntmps7
    go_wp2
    go_ret
    exact ⟨rfl, (by repeat' (first | (with_reducible exact Ext.refl _) | (with_reducible assumption) | (with_reducible apply Ext.alloc) | (with_reducible apply Ext.drew) | (with_reducible apply Ext.drewN) | (refine Ext.setAt ?_ (by omega) _ _) | (refine Ext.trans ?_ (by assumption))))⟩
  go_enter Tryd.func7, Tryd.ntmps7
  go_wp2_with fail
  refine (toIntS_any _ l _ hl (by omega)).mono ?_; rintro e1 w1 ⟨v1, rfl, o1, h1⟩
  go_wp2_with fail
  refine (formatInts_spec _ l _ o1.ints H64.out (by omega)).mono ?_; rintro e2 w2 ⟨rfl, h2⟩
  go_wp2_with fail
  refine (toIntS_any _ l _ (hl.ext (by repeat' (first | (with_reducible exact Ext.refl _) | (with_reducible assumption) | (with_reducible apply Ext.alloc) | (with_reducible apply Ext.drew) | (with_reducible apply Ext.drewN) | (refine Ext.setAt ?_ (by omega) _ _) | (refine Ext.trans ?_ (by assumption))))) (by omega)).mono ?_; rintro e3 w3 ⟨v3, rfl, o3, h3⟩
  go_wp2_with fail
  refine (formatInts_impl _ l _ o3.ints H64.out (by omega) (hT.ext (by repeat' (first | (with_reducible exact Ext.refl _) | (with_reducible assumption) | (with_reducible apply Ext.alloc) | (with_reducible apply Ext.drew) | (with_reducible apply Ext.drewN) | (refine Ext.setAt ?_ (by omega) _ _) | (refine Ext.trans ?_ (by assumption)))))).mono ?_; rintro e4 w4 ⟨rfl, h4⟩
  go_wp2_with fail
  refine (toIntS_any _ l _ (hl.ext (by repeat' (first | (with_reducible exact Ext.refl _) | (with_reducible assumption) | (with_reducible apply Ext.alloc) | (with_reducible apply Ext.drew) | (with_reducible apply Ext.drewN) | (refine Ext.setAt ?_ (by omega) _ _) | (refine Ext.trans ?_ (by assumption))))) (by omega)).mono ?_; rintro e5 w5 ⟨v5, rfl, o5, h5⟩
  go_wp2_with fail
  refine (eqIntS_any _ _ l l _ (o3.ints.ext (by repeat' (first | (with_reducible exact Ext.refl _) | (with_reducible assumption) | (with_reducible apply Ext.alloc) | (with_reducible apply Ext.drew) | (with_reducible apply Ext.drewN) | (refine Ext.setAt ?_ (by omega) _ _) | (refine Ext.trans ?_ (by assumption))))) o5.ints).mono ?_; rintro e6 w6 ⟨rfl, h6⟩
  go_wp2
  go_ret
  exact ⟨rfl, (by repeat' (first | (with_reducible exact Ext.refl _) | (with_reducible assumption) | (with_reducible apply Ext.alloc) | (with_reducible apply Ext.drew) | (with_reducible apply Ext.drewN) | (refine Ext.setAt ?_ (by omega) _ _) | (refine Ext.trans ?_ (by assumption))))⟩
theorem walkFnExactFormatElem (k p n : Int) (v : Value) (l : List Int) (w : World) (hT : Vars_fnExactFormatElem w) (hl : IntS w v l) (h64 : I64s l) : Calls Tryd.prog 8 #[ringV k p n, v] w fun e w' => e = .returned (.bool true) ∧ Ext w w' := by
  obtain ⟨a, cap, rfl, hc1, hc2⟩ := hl.val
  have q0 : (l == l) = true := by simp
  clear h64
  by_cases big : 1048576 < l.length
  · go_enter Tryd.func8, Tryd.ntmps8
    go_wp2
    go_ret
    exact ⟨rfl, (by repeat' (first | (with_reducible exact Ext.refl _) | (with_reducible assumption) | (with_reducible apply Ext.alloc) | (with_reducible apply Ext.drew) | (with_reducible apply Ext.drewN) | (refine Ext.setAt ?_ (by omega) _ _) | (refine Ext.trans ?_ (by assumption))))⟩
  go_enter Tryd.func8, Tryd.ntmps8
  go_wp2_with fail
  refine (toRing_any _ _ _ _).mono ?_; rintro e0 w0 ⟨rfl, h0⟩; have s0 := h0.size; (try simp at s0); have t0_0 : w.heap.size < w0.heap.size := (by omega); have c0_0 := fun o => h0.cells (w.heap.size) o (by first | (simp; done) | (simp; omega) | omega)
  go_wp2_with fail
  refine (toIntS_any _ l _ (hl.ext (by repeat' (first | (with_reducible exact Ext.refl _) | (with_reducible assumption) | (with_reducible apply Ext.alloc) | (with_reducible apply Ext.drew) | (with_reducible apply Ext.drewN) | (refine Ext.setAt ?_ (by omega) _ _) | (refine Ext.trans ?_ (by assumption))))) (by omega)).mono ?_; rintro e1 w1 ⟨v1, rfl, o1, h1⟩; have s1 := h1.size; (try simp at s1); have t1_0 : w.heap.size < w1.heap.size := (by omega); have c1_0 := fun o => h1.cells (w.heap.size) o (by first | (simp; done) | (simp; omega) | omega)
  go_wp2_with fail
  refine (formatElem_spec k p n _ l _ o1.ints).mono ?_; rintro e2 w2 ⟨rfl, h2⟩; have s2 := h2.size; (try simp at s2); have t2_0 : w.heap.size < w2.heap.size := (by omega); have c2_0 := fun o => h2.cells (w.heap.size) o (by first | (simp; done) | (simp; omega) | omega)
  go_wp2_with fail
  refine (toIntS_any _ l _ (hl.ext (by repeat' (first | (with_reducible exact Ext.refl _) | (with_reducible assumption) | (with_reducible apply Ext.alloc) | (with_reducible apply Ext.drew) | (with_reducible apply Ext.drewN) | (refine Ext.setAt ?_ (by omega) _ _) | (refine Ext.trans ?_ (by assumption))))) (by omega)).mono ?_; rintro e3 w3 ⟨v3, rfl, o3, h3⟩; have s3 := h3.size; (try simp at s3); have t3_0 : w.heap.size < w3.heap.size := (by omega); have c3_0 := fun o => h3.cells (w.heap.size) o (by first | (simp; done) | (simp; omega) | omega)
  go_wp2_with fail
  refine (toRing_any _ _ _ _).mono ?_; rintro e4 w4 ⟨rfl, h4⟩; have s4 := h4.size; (try simp at s4); have t4_0 : w.heap.size < w4.heap.size := (by omega); have c4_0 := fun o => h4.cells (w.heap.size) o (by first | (simp; done) | (simp; omega) | omega)
  go_wp2_with fail
  refine (formatElem_impl k p n _ l _ (o3.ints.ext (by repeat' (first | (with_reducible exact Ext.refl _) | (with_reducible assumption) | (with_reducible apply Ext.alloc) | (with_reducible apply Ext.drew) | (with_reducible apply Ext.drewN) | (refine Ext.setAt ?_ (by omega) _ _) | (refine Ext.trans ?_ (by assumption))))) (hT.ext (by repeat' (first | (with_reducible exact Ext.refl _) | (with_reducible assumption) | (with_reducible apply Ext.alloc) | (with_reducible apply Ext.drew) | (with_reducible apply Ext.drewN) | (refine Ext.setAt ?_ (by omega) _ _) | (refine Ext.trans ?_ (by assumption)))))).mono ?_; rintro e5 w5 ⟨rfl, h5⟩
  go_wp2_with fail
  refine (toIntS_any _ l _ (hl.ext (by repeat' (first | (with_reducible exact Ext.refl _) | (with_reducible assumption) | (with_reducible apply Ext.alloc) | (with_reducible apply Ext.drew) | (with_reducible apply Ext.drewN) | (refine Ext.setAt ?_ (by omega) _ _) | (refine Ext.trans ?_ (by assumption))))) (by omega)).mono ?_; rintro e6 w6 ⟨v6, rfl, o6, h6⟩
  go_wp2_with fail
  refine (eqIntS_any _ _ l l _ (o3.ints.ext (by repeat' (first | (with_reducible exact Ext.refl _) | (with_reducible assumption) | (with_reducible apply Ext.alloc) | (with_reducible apply Ext.drew) | (with_reducible apply Ext.drewN) | (refine Ext.setAt ?_ (by omega) _ _) | (refine Ext.trans ?_ (by assumption))))) o6.ints).mono ?_; rintro e7 w7 ⟨rfl, h7⟩
  go_wp2
  go_ret
  exact ⟨rfl, (by repeat' (first | (with_reducible exact Ext.refl _) | (with_reducible assumption) | (with_reducible apply Ext.alloc) | (with_reducible apply Ext.drew) | (with_reducible apply Ext.drewN) | (refine Ext.setAt ?_ (by omega) _ _) | (refine Ext.trans ?_ (by assumption))))⟩
end Go.Proofs.YtpimpahmhipifaaDoor
