/- Elements as text. -/
import Derived.Test.YtodooalhbcoihaaGreatDoorRBase
import Derived.Test.YtodooalhbcoihaaGreatDoorRFmtInts
namespace Go.Proofs.YtodooalhbcoihaaGreatDoor
open Go.RowKit
set_option linter.unusedSimpArgs false
set_option linter.unusedVariables false
open Go.Lib

/-- 'FormatElem' -/
def fmtElem (k p n : Int) (x : List Int) : List UInt8 := if elemOk k p n x = true then fmtL 44 x else []
theorem fmtElem_no {k p n : Int} {x : List Int} (h : elemOk k p n x = false) : fmtElem k p n x = [] := by simp [fmtElem, h]
theorem fmtElem_yes {k p n : Int} {x : List Int} (h : elemOk k p n x = true) : fmtElem k p n x = fmtL 44 x := by simp [fmtElem, h]
theorem elemOk_i64 {k p n : Int} {x : List Int} (h : elemOk k p n x = true) : (∀ v ∈ x, isI64 v) ∧ x.length ≤ 6 := by
  have hr : ringOk k p n = true := by simp [elemOk] at h; exact h.1.1
  rw [elemOk_yes hr] at h
  have ht := ringTop_le (ringOk_fit hr)
  have hw := (ringOk_wide hr).hi
  unfold rawOk at h
  simp [allTo] at h
  exact ⟨fun v hv => by have := h.2 v hv; unfold isI64; omega, by omega⟩
theorem formatElem_impl (k p n : Int) (v : Value) (x : List Int) (w : World) (hx : IntS w v x) (hT : Tab w) : Calls Tryz.prog 13 #[ringV k p n, v] w fun e w' =>
    e = .returned (.string (mkS (fmtElem k p n x))) ∧ Ext w w' := by
  obtain ⟨a, cap, rfl, hc1, hc2⟩ := hx.val
  cases he : elemOk k p n x
  · have HZ := Lib.hid (fmtElem_no he)
    go_enter Tryz.func13, Tryz.ntmps13
    go_wp2_with fail
    refine (elemOk_impl _ _ _ _ x _ (hx.ext (by repeat' (first | (with_reducible exact Ext.refl _) | (with_reducible assumption) | (with_reducible apply Ext.alloc) | (with_reducible apply Ext.drew) | (with_reducible apply Ext.drewN) | (refine Ext.setAt ?_ (by omega) _ _) | (refine Ext.trans ?_ (by assumption)))))).mono ?_; rintro e1 w1 ⟨rfl, h1⟩; rw [he]
    go_wp2
    go_ret
    exact ⟨ret_str (by rw [mkS_list, HZ.out]), (by repeat' (first | (with_reducible exact Ext.refl _) | (with_reducible assumption) | (with_reducible apply Ext.alloc) | (with_reducible apply Ext.drew) | (with_reducible apply Ext.drewN) | (refine Ext.setAt ?_ (by omega) _ _) | (refine Ext.trans ?_ (by assumption))))⟩
  · have HZ := Lib.hid (fmtElem_yes he)
    obtain ⟨h64, hl⟩ := elemOk_i64 he
    have H64 := Lib.hid h64; have HE := Lib.hid he
    clear h64 he
    go_enter Tryz.func13, Tryz.ntmps13
    go_wp2_with fail
    refine (elemOk_impl _ _ _ _ x _ (hx.ext (by repeat' (first | (with_reducible exact Ext.refl _) | (with_reducible assumption) | (with_reducible apply Ext.alloc) | (with_reducible apply Ext.drew) | (with_reducible apply Ext.drewN) | (refine Ext.setAt ?_ (by omega) _ _) | (refine Ext.trans ?_ (by assumption)))))).mono ?_; rintro e1 w1 ⟨rfl, h1⟩; rw [HE.out]
    go_wp2_with fail
    refine (rawElemText_any _ x _ (hx.ext (by repeat' (first | (with_reducible exact Ext.refl _) | (with_reducible assumption) | (with_reducible apply Ext.alloc) | (with_reducible apply Ext.drew) | (with_reducible apply Ext.drewN) | (refine Ext.setAt ?_ (by omega) _ _) | (refine Ext.trans ?_ (by assumption))))) H64.out (by omega) (hT.ext (by repeat' (first | (with_reducible exact Ext.refl _) | (with_reducible assumption) | (with_reducible apply Ext.alloc) | (with_reducible apply Ext.drew) | (with_reducible apply Ext.drewN) | (refine Ext.setAt ?_ (by omega) _ _) | (refine Ext.trans ?_ (by assumption)))))).mono ?_; rintro e2 w2 ⟨rfl, h2⟩
    go_wp2
    go_ret
    exact ⟨ret_str (by rw [mkS_list, mkS_list, HZ.out]), (by repeat' (first | (with_reducible exact Ext.refl _) | (with_reducible assumption) | (with_reducible apply Ext.alloc) | (with_reducible apply Ext.drew) | (with_reducible apply Ext.drewN) | (refine Ext.setAt ?_ (by omega) _ _) | (refine Ext.trans ?_ (by assumption))))⟩

end Go.Proofs.YtodooalhbcoihaaGreatDoor
