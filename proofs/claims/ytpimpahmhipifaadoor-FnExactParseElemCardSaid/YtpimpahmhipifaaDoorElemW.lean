/- ElemOk of the program and of the reference; the law's walk. -/
import Derived.Test.YtpimpahmhipifaaDoorElem
namespace Go.Proofs.YtpimpahmhipifaaDoor
open Go.RowKit
set_option linter.unusedSimpArgs false
set_option linter.unusedVariables false

/-- 'ElemOk' -/
def elemOk (k p n : Int) (l : List Int) : Bool := ringOk k p n && ((l.length : Int) == ringWidth k n) && allTo (ringTop k p n) l
/-- An element of a valid ring. -/
def rawOk (k p n : Int) (l : List Int) : Bool := ((l.length : Int) == ringWidth k n) && allTo (ringTop k p n) l
theorem elemOk_no {k p n : Int} {l : List Int} (h : ringOk k p n = false) : elemOk k p n l = false := by simp [elemOk, h]
theorem elemOk_yes {k p n : Int} {l : List Int} (h : ringOk k p n = true) : elemOk k p n l = rawOk k p n l := by simp [elemOk, rawOk, h]
theorem rawOk_len {k p n : Int} {l : List Int} (h : ((l.length : Int) == ringWidth k n) = true) : rawOk k p n l = allTo (ringTop k p n) l := by simp [rawOk, h]
theorem rawOk_nolen {k p n : Int} {l : List Int} (h : ((l.length : Int) == ringWidth k n) = false) : rawOk k p n l = false := by simp [rawOk, h]

set_option maxHeartbeats 400000 in
theorem elemOk_impl (k p n : Int) (v : Value) (l : List Int) (w : World) (hl : IntS w v l) : Calls Tryd.prog 55 #[ringV k p n, v] w fun e w' =>
    e = .returned (.bool (elemOk k p n l)) ∧ Ext w w' := by
  obtain ⟨a, cap, hv, hc1, hc2⟩ := hl.val
  cases hr : ringOk k p n
  · have HF := Lib.hid (elemOk_no (l := l) hr)
    subst hv
    go_enter Tryd.func55, Tryd.ntmps55
    go_wp2_with (go_at_call 51; refine (ringOk_impl _ _ _ _).mono ?_; rintro e1 w1 ⟨rfl, h1⟩; have s1 := h1.size; (try simp at s1); have t1_0 : w.heap.size < w1.heap.size := (by omega); have c1_0 := fun o => h1.cells (w.heap.size) o (by first | (simp; done) | (simp; omega) | omega))
    go_ret
    exact ⟨ret_bool HF.out.symm, (by repeat' (first | (with_reducible exact Ext.refl _) | (with_reducible assumption) | (with_reducible apply Ext.alloc) | (with_reducible apply Ext.drew) | (with_reducible apply Ext.drewN) | (refine Ext.setAt ?_ (by omega) _ _) | (refine Ext.trans ?_ (by assumption))))⟩
  · have HY := Lib.hid (elemOk_yes (l := l) hr)
    have hf := ringOk_fit hr
    cases hw : ((l.length : Int) == ringWidth k n)
    · have HF := Lib.hid (HY.out.trans (rawOk_nolen (p := p) hw))
      subst hv
      go_enter Tryd.func55, Tryd.ntmps55
      go_wp2_with (first | (go_at_call 51; refine (ringOk_impl _ _ _ _).mono ?_; rintro e1 w1 ⟨rfl, h1⟩; have s1 := h1.size; (try simp at s1); have t1_0 : w.heap.size < w1.heap.size := (by omega); have c1_0 := fun o => h1.cells (w.heap.size) o (by first | (simp; done) | (simp; omega) | omega)) | (go_at_call 68; refine (rawWidth_any _ _ _ _).mono ?_; rintro e2 w2 ⟨rfl, h2⟩; have s2 := h2.size; (try simp at s2); have t2_0 : w.heap.size < w2.heap.size := (by omega); have c2_0 := fun o => h2.cells (w.heap.size) o (by first | (simp; done) | (simp; omega) | omega)))
      go_ret
      exact ⟨ret_bool HF.out.symm, (by repeat' (first | (with_reducible exact Ext.refl _) | (with_reducible assumption) | (with_reducible apply Ext.alloc) | (with_reducible apply Ext.drew) | (with_reducible apply Ext.drewN) | (refine Ext.setAt ?_ (by omega) _ _) | (refine Ext.trans ?_ (by assumption))))⟩
    · have HF := Lib.hid (HY.out.trans (rawOk_len (p := p) hw))
      subst hv
      go_enter Tryd.func55, Tryd.ntmps55
      go_wp2_with (first | (go_at_call 51; refine (ringOk_impl _ _ _ _).mono ?_; rintro e1 w1 ⟨rfl, h1⟩; have s1 := h1.size; (try simp at s1); have t1_0 : w.heap.size < w1.heap.size := (by omega); have c1_0 := fun o => h1.cells (w.heap.size) o (by first | (simp; done) | (simp; omega) | omega)) | (go_at_call 68; refine (rawWidth_any _ _ _ _).mono ?_; rintro e2 w2 ⟨rfl, h2⟩; have s2 := h2.size; (try simp at s2); have t2_0 : w.heap.size < w2.heap.size := (by omega); have c2_0 := fun o => h2.cells (w.heap.size) o (by first | (simp; done) | (simp; omega) | omega)) | (go_at_call 69; refine (inRing_any _ _ _ hf _ _ _ (hl.ext (by repeat' (first | (with_reducible exact Ext.refl _) | (with_reducible assumption) | (with_reducible apply Ext.alloc) | (with_reducible apply Ext.drew) | (with_reducible apply Ext.drewN) | (refine Ext.setAt ?_ (by omega) _ _) | (refine Ext.trans ?_ (by assumption)))))).mono ?_; rintro e3 w3 ⟨rfl, h3⟩; have s3 := h3.size; (try simp at s3); have t3_0 : w.heap.size < w3.heap.size := (by omega); have c3_0 := fun o => h3.cells (w.heap.size) o (by first | (simp; done) | (simp; omega) | omega)))
      go_ret
      exact ⟨ret_bool HF.out.symm, (by repeat' (first | (with_reducible exact Ext.refl _) | (with_reducible assumption) | (with_reducible apply Ext.alloc) | (with_reducible apply Ext.drew) | (with_reducible apply Ext.drewN) | (refine Ext.setAt ?_ (by omega) _ _) | (refine Ext.trans ?_ (by assumption))))⟩

theorem rawOk_out {k p n : Int} {l : List Int} (h : allTo (ringTop k p n) l = false) : rawOk k p n l = false := by simp [rawOk, h]
theorem rawOk_all {k p n : Int} {l : List Int} (h : allTo (ringTop k p n) l = true) : rawOk k p n l = ((l.length : Int) == ringWidth k n) := by simp [rawOk, h]

set_option maxHeartbeats 400000 in
theorem l02Elem_any (k p n : Int) (h : RingFit k p n) (v : Value) (l : List Int) (w : World) (hl : IntS w v l) : Calls Tryd.prog 67 #[ringV k p n, v] w fun e w' =>
    e = .returned (.bool (rawOk k p n l)) ∧ Ext w w' := by
  obtain ⟨a, cap, rfl, hc1, hc2⟩ := hl.val
  go_enter Tryd.func67, Tryd.ntmps67
  go_wp2
  go_loopw [9] (fun i wr => ∃ j : Nat, j ≤ l.length ∧ i = .int .i64 j ∧ allTo (ringTop k p n) (l.drop j) = allTo (ringTop k p n) l ∧ Ext (w.alloc (.cells #[.int .i64 k, .int .i64 p, .int .i64 n] 32)) wr) (fun i _ => l.length - (intOf i).toNat)
  case atStart => exact ⟨0, Nat.zero_le _, rfl, rfl, Ext.refl _⟩
  case round =>
    obtain ⟨j, hj, rfl, ha, hE⟩ := hrel
    have HA := Lib.hid ha; clear ha
    have h0 : Ext w wr := (Ext.alloc (Ext.refl w) _).trans hE
    have c0 := fun o => hE.cells w.heap.size o (by simp)
    have s0 := hE.size
    simp at s0
    by_cases hlt : j < l.length
    · obtain ⟨b, off, x, rfl, hcell, _, hd⟩ := (hl.ext h0).get hlt
      have HD := Lib.hid hd; clear hd
      by_cases g0 : x < 0
      · have hb : decide (0 ≤ x) = false := by simpa using g0
        go_wp2_with (first | (go_at_call 80; refine (l02Top_any _ _ _ h _).mono ?_; rintro e1 w1 ⟨rfl, h1⟩; have s1 := h1.size; (try simp at s1); have t1_0 : w.heap.size < w1.heap.size := (by omega); have c1_0 := fun o => h1.cells (w.heap.size) o (by first | (simp; done) | (simp; omega) | omega)) | (go_at_call 57; refine (in_any _ _ _ _).mono ?_; rintro e2 w2 ⟨rfl, rfl⟩))
        go_ret
        exact ⟨ret_bool (by rw [rawOk_out]; rw [← HA.out, HD.out, allTo_out (.inl g0)]), (by repeat' (first | (with_reducible exact Ext.refl _) | (with_reducible assumption) | (with_reducible apply Ext.alloc) | (with_reducible apply Ext.drew) | (with_reducible apply Ext.drewN) | (refine Ext.setAt ?_ (by omega) _ _) | (refine Ext.trans ?_ (by assumption))))⟩
      by_cases g1 : ringTop k p n < x
      · have hb : decide (x ≤ ringTop k p n) = false := by simpa using g1
        go_wp2_with (first | (go_at_call 80; refine (l02Top_any _ _ _ h _).mono ?_; rintro e1 w1 ⟨rfl, h1⟩; have s1 := h1.size; (try simp at s1); have t1_0 : w.heap.size < w1.heap.size := (by omega); have c1_0 := fun o => h1.cells (w.heap.size) o (by first | (simp; done) | (simp; omega) | omega)) | (go_at_call 57; refine (in_any _ _ _ _).mono ?_; rintro e2 w2 ⟨rfl, rfl⟩))
        go_ret
        exact ⟨ret_bool (by rw [rawOk_out]; rw [← HA.out, HD.out, allTo_out (.inr g1)]), (by repeat' (first | (with_reducible exact Ext.refl _) | (with_reducible assumption) | (with_reducible apply Ext.alloc) | (with_reducible apply Ext.drew) | (with_reducible apply Ext.drewN) | (refine Ext.setAt ?_ (by omega) _ _) | (refine Ext.trans ?_ (by assumption))))⟩
      · have hb : decide (x ≤ ringTop k p n) = true := by simpa using g1
        go_wp2_with (first | (go_at_call 80; refine (l02Top_any _ _ _ h _).mono ?_; rintro e1 w1 ⟨rfl, h1⟩; have s1 := h1.size; (try simp at s1); have t1_0 : w.heap.size < w1.heap.size := (by omega); have c1_0 := fun o => h1.cells (w.heap.size) o (by first | (simp; done) | (simp; omega) | omega)) | (go_at_call 57; refine (in_any _ _ _ _).mono ?_; rintro e2 w2 ⟨rfl, rfl⟩))
        go_roundw
        case rel => exact ⟨j + 1, by omega, by go_num, by rw [← HA.out, HD.out, allTo_in (by omega) (by omega)], (by repeat' (first | (with_reducible exact Ext.refl _) | (with_reducible assumption) | (with_reducible apply Ext.alloc) | (with_reducible apply Ext.drew) | (with_reducible apply Ext.drewN) | (refine Ext.setAt ?_ (by omega) _ _) | (refine Ext.trans ?_ (by assumption))))⟩
        case measure => simp [intOf]; omega
    · have : j = l.length := by omega
      subst this
      go_wp2_with (go_at_call 81; refine (l02Width_any _ _ _ _).mono ?_; rintro e1 w1 ⟨rfl, h1⟩; have s1 := h1.size; (try simp at s1); have t1_0 : w.heap.size < w1.heap.size := (by omega); have c1_0 := fun o => h1.cells (w.heap.size) o (by first | (simp; done) | (simp; omega) | omega))
      go_ret
      exact ⟨ret_bool (by rw [rawOk_all]; rw [← HA.out, drop_len, allTo_nil]), (by repeat' (first | (with_reducible exact Ext.refl _) | (with_reducible assumption) | (with_reducible apply Ext.alloc) | (with_reducible apply Ext.drew) | (with_reducible apply Ext.drewN) | (refine Ext.setAt ?_ (by omega) _ _) | (refine Ext.trans ?_ (by assumption))))⟩

set_option maxHeartbeats 400000 in
theorem elemOk_spec (k p n : Int) (v : Value) (l : List Int) (w : World) (hl : IntS w v l) : Calls Tryd.prog 54 #[ringV k p n, v] w fun e w' =>
    e = .returned (.bool (elemOk k p n l)) ∧ Ext w w' := by
  obtain ⟨a, cap, hv, hc1, hc2⟩ := hl.val
  cases hr : ringOk k p n
  · have HF := Lib.hid (elemOk_no (l := l) hr)
    subst hv
    go_enter Tryd.func54, Tryd.ntmps54
    go_wp2_with (go_at_call 49; refine (ringOk_spec _ _ _ _).mono ?_; rintro e1 w1 ⟨rfl, h1⟩; have s1 := h1.size; (try simp at s1); have t1_0 : w.heap.size < w1.heap.size := (by omega); have c1_0 := fun o => h1.cells (w.heap.size) o (by first | (simp; done) | (simp; omega) | omega))
    go_ret
    exact ⟨ret_bool HF.out.symm, (by repeat' (first | (with_reducible exact Ext.refl _) | (with_reducible assumption) | (with_reducible apply Ext.alloc) | (with_reducible apply Ext.drew) | (with_reducible apply Ext.drewN) | (refine Ext.setAt ?_ (by omega) _ _) | (refine Ext.trans ?_ (by assumption))))⟩
  · have HF := Lib.hid (elemOk_yes (l := l) hr)
    have hf := ringOk_fit hr
    subst hv
    go_enter Tryd.func54, Tryd.ntmps54
    go_wp2_with (first | (go_at_call 49; refine (ringOk_spec _ _ _ _).mono ?_; rintro e1 w1 ⟨rfl, h1⟩; have s1 := h1.size; (try simp at s1); have t1_0 : w.heap.size < w1.heap.size := (by omega); have c1_0 := fun o => h1.cells (w.heap.size) o (by first | (simp; done) | (simp; omega) | omega)) | (go_at_call 67; refine (l02Elem_any _ _ _ hf _ _ _ (hl.ext (by repeat' (first | (with_reducible exact Ext.refl _) | (with_reducible assumption) | (with_reducible apply Ext.alloc) | (with_reducible apply Ext.drew) | (with_reducible apply Ext.drewN) | (refine Ext.setAt ?_ (by omega) _ _) | (refine Ext.trans ?_ (by assumption)))))).mono ?_; rintro e3 w3 ⟨rfl, h3⟩; have s3 := h3.size; (try simp at s3); have t3_0 : w.heap.size < w3.heap.size := (by omega); have c3_0 := fun o => h3.cells (w.heap.size) o (by first | (simp; done) | (simp; omega) | omega)))
    go_ret
    exact ⟨ret_bool HF.out.symm, (by repeat' (first | (with_reducible exact Ext.refl _) | (with_reducible assumption) | (with_reducible apply Ext.alloc) | (with_reducible apply Ext.drew) | (with_reducible apply Ext.drewN) | (refine Ext.setAt ?_ (by omega) _ _) | (refine Ext.trans ?_ (by assumption))))⟩

end Go.Proofs.YtpimpahmhipifaaDoor
