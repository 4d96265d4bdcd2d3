/- ZeroOf, OneOf, CountElem of the program and of the reference; the laws' walks. -/
import Derived.Test.YtikkhkllbifblaaUnits
namespace Go.Proofs.Ytikkhkllbifblaa
open Go.RowKit
set_option linter.unusedSimpArgs false
set_option linter.unusedVariables false

/-- 'ZeroOf' -/
def zeroOf (k p n : Int) : List Int := if ringOk k p n = true then zeroL k p n else []
/-- 'OneOf' -/
def oneOf (k p n : Int) : List Int := if ringOk k p n = true then oneL k p n else []
theorem zeroOf_yes {k p n : Int} (h : ringOk k p n = true) : zeroOf k p n = zeroL k p n := by simp [zeroOf, h]
theorem zeroOf_no {k p n : Int} (h : ringOk k p n = false) : zeroOf k p n = [] := by simp [zeroOf, h]
theorem oneOf_yes {k p n : Int} (h : ringOk k p n = true) : oneOf k p n = oneL k p n := by simp [oneOf, h]
theorem oneOf_no {k p n : Int} (h : ringOk k p n = false) : oneOf k p n = [] := by simp [oneOf, h]

theorem zeroOf_impl (k p n : Int) (w : World) : Calls Try.prog 35 #[ringV k p n] w fun e w' =>
    ∃ v, e = .returned v ∧ OwnI w' w.heap.size v (zeroOf k p n) ∧ Ext w w' := by
  cases hr : ringOk k p n
  · rw [zeroOf_no hr]
    go_enter Try.func35, Try.ntmps35
    go_wp2_with (go_at_call 21; refine (ringOk_impl _ _ _ _).mono ?_; rintro e1 w1 ⟨rfl, h1⟩; have s1 := h1.size; (try simp at s1); have t1_0 : w.heap.size < w1.heap.size := (by omega); have c1_0 := fun o => h1.cells (w.heap.size) o (by first | (simp; done) | (simp; omega) | omega))
    go_ret
    exact ⟨_, rfl, OwnI.nil _ _, (by repeat' (first | (with_reducible exact Ext.refl _) | (with_reducible assumption) | (with_reducible apply Ext.alloc) | (with_reducible apply Ext.drew) | (with_reducible apply Ext.drewN) | (refine Ext.trans ?_ (by assumption))))⟩
  · rw [zeroOf_yes hr]
    have hw := ringOk_wide hr
    go_enter Try.func35, Try.ntmps35
    go_wp2_with (first | (go_at_call 21; refine (ringOk_impl _ _ _ _).mono ?_; rintro e1 w1 ⟨rfl, h1⟩; have s1 := h1.size; (try simp at s1); have t1_0 : w.heap.size < w1.heap.size := (by omega); have c1_0 := fun o => h1.cells (w.heap.size) o (by first | (simp; done) | (simp; omega) | omega)) | (go_at_call 58; refine (rawZero_any _ _ _ hw _).mono ?_; rintro e2 w2 ⟨v2, rfl, o2, h2⟩; have s2 := h2.size; (try simp at s2); have t2_0 : w.heap.size < w2.heap.size := (by omega); have c2_0 := fun o => h2.cells (w.heap.size) o (by first | (simp; done) | (simp; omega) | omega)))
    go_ret
    exact ⟨_, rfl, o2.mono (by omega), (by repeat' (first | (with_reducible exact Ext.refl _) | (with_reducible assumption) | (with_reducible apply Ext.alloc) | (with_reducible apply Ext.drew) | (with_reducible apply Ext.drewN) | (refine Ext.trans ?_ (by assumption))))⟩
theorem zeroOf_spec (k p n : Int) (w : World) : Calls Try.prog 34 #[ringV k p n] w fun e w' =>
    ∃ v, e = .returned v ∧ OwnI w' w.heap.size v (zeroOf k p n) ∧ Ext w w' := by
  cases hr : ringOk k p n
  · rw [zeroOf_no hr]
    go_enter Try.func34, Try.ntmps34
    go_wp2_with (go_at_call 19; refine (ringOk_spec _ _ _ _).mono ?_; rintro e1 w1 ⟨rfl, h1⟩; have s1 := h1.size; (try simp at s1); have t1_0 : w.heap.size < w1.heap.size := (by omega); have c1_0 := fun o => h1.cells (w.heap.size) o (by first | (simp; done) | (simp; omega) | omega))
    go_ret
    exact ⟨_, rfl, OwnI.nil _ _, (by repeat' (first | (with_reducible exact Ext.refl _) | (with_reducible assumption) | (with_reducible apply Ext.alloc) | (with_reducible apply Ext.drew) | (with_reducible apply Ext.drewN) | (refine Ext.trans ?_ (by assumption))))⟩
  · rw [zeroOf_yes hr]
    have hw := ringOk_wide hr
    go_enter Try.func34, Try.ntmps34
    go_wp2_with (first | (go_at_call 19; refine (ringOk_spec _ _ _ _).mono ?_; rintro e1 w1 ⟨rfl, h1⟩; have s1 := h1.size; (try simp at s1); have t1_0 : w.heap.size < w1.heap.size := (by omega); have c1_0 := fun o => h1.cells (w.heap.size) o (by first | (simp; done) | (simp; omega) | omega)) | (go_at_call 57; refine (l02Zero_any _ _ _ hw _).mono ?_; rintro e2 w2 ⟨v2, rfl, o2, h2⟩; have s2 := h2.size; (try simp at s2); have t2_0 : w.heap.size < w2.heap.size := (by omega); have c2_0 := fun o => h2.cells (w.heap.size) o (by first | (simp; done) | (simp; omega) | omega)))
    go_ret
    exact ⟨_, rfl, o2.mono (by omega), (by repeat' (first | (with_reducible exact Ext.refl _) | (with_reducible assumption) | (with_reducible apply Ext.alloc) | (with_reducible apply Ext.drew) | (with_reducible apply Ext.drewN) | (refine Ext.trans ?_ (by assumption))))⟩
theorem oneOf_impl (k p n : Int) (w : World) : Calls Try.prog 46 #[ringV k p n] w fun e w' =>
    ∃ v, e = .returned v ∧ OwnI w' w.heap.size v (oneOf k p n) ∧ Ext w w' := by
  cases hr : ringOk k p n
  · rw [oneOf_no hr]
    go_enter Try.func46, Try.ntmps46
    go_wp2_with (go_at_call 21; refine (ringOk_impl _ _ _ _).mono ?_; rintro e1 w1 ⟨rfl, h1⟩; have s1 := h1.size; (try simp at s1); have t1_0 : w.heap.size < w1.heap.size := (by omega); have c1_0 := fun o => h1.cells (w.heap.size) o (by first | (simp; done) | (simp; omega) | omega))
    go_ret
    exact ⟨_, rfl, OwnI.nil _ _, (by repeat' (first | (with_reducible exact Ext.refl _) | (with_reducible assumption) | (with_reducible apply Ext.alloc) | (with_reducible apply Ext.drew) | (with_reducible apply Ext.drewN) | (refine Ext.trans ?_ (by assumption))))⟩
  · rw [oneOf_yes hr]
    have hw := ringOk_wide hr
    have hf := ringOk_fit hr
    go_enter Try.func46, Try.ntmps46
    go_wp2_with (first | (go_at_call 21; refine (ringOk_impl _ _ _ _).mono ?_; rintro e1 w1 ⟨rfl, h1⟩; have s1 := h1.size; (try simp at s1); have t1_0 : w.heap.size < w1.heap.size := (by omega); have c1_0 := fun o => h1.cells (w.heap.size) o (by first | (simp; done) | (simp; omega) | omega)) | (go_at_call 64; refine (rawOne_any _ _ _ hw hf _).mono ?_; rintro e2 w2 ⟨v2, rfl, o2, h2⟩; have s2 := h2.size; (try simp at s2); have t2_0 : w.heap.size < w2.heap.size := (by omega); have c2_0 := fun o => h2.cells (w.heap.size) o (by first | (simp; done) | (simp; omega) | omega)))
    go_ret
    exact ⟨_, rfl, o2.mono (by omega), (by repeat' (first | (with_reducible exact Ext.refl _) | (with_reducible assumption) | (with_reducible apply Ext.alloc) | (with_reducible apply Ext.drew) | (with_reducible apply Ext.drewN) | (refine Ext.trans ?_ (by assumption))))⟩
theorem oneOf_spec (k p n : Int) (w : World) : Calls Try.prog 45 #[ringV k p n] w fun e w' =>
    ∃ v, e = .returned v ∧ OwnI w' w.heap.size v (oneOf k p n) ∧ Ext w w' := by
  cases hr : ringOk k p n
  · rw [oneOf_no hr]
    go_enter Try.func45, Try.ntmps45
    go_wp2_with (go_at_call 19; refine (ringOk_spec _ _ _ _).mono ?_; rintro e1 w1 ⟨rfl, h1⟩; have s1 := h1.size; (try simp at s1); have t1_0 : w.heap.size < w1.heap.size := (by omega); have c1_0 := fun o => h1.cells (w.heap.size) o (by first | (simp; done) | (simp; omega) | omega))
    go_ret
    exact ⟨_, rfl, OwnI.nil _ _, (by repeat' (first | (with_reducible exact Ext.refl _) | (with_reducible assumption) | (with_reducible apply Ext.alloc) | (with_reducible apply Ext.drew) | (with_reducible apply Ext.drewN) | (refine Ext.trans ?_ (by assumption))))⟩
  · rw [oneOf_yes hr]
    have hw := ringOk_wide hr
    have hf := ringOk_fit hr
    go_enter Try.func45, Try.ntmps45
    go_wp2_with (first | (go_at_call 19; refine (ringOk_spec _ _ _ _).mono ?_; rintro e1 w1 ⟨rfl, h1⟩; have s1 := h1.size; (try simp at s1); have t1_0 : w.heap.size < w1.heap.size := (by omega); have c1_0 := fun o => h1.cells (w.heap.size) o (by first | (simp; done) | (simp; omega) | omega)) | (go_at_call 63; refine (l02One_any _ _ _ hw hf _).mono ?_; rintro e2 w2 ⟨v2, rfl, o2, h2⟩; have s2 := h2.size; (try simp at s2); have t2_0 : w.heap.size < w2.heap.size := (by omega); have c2_0 := fun o => h2.cells (w.heap.size) o (by first | (simp; done) | (simp; omega) | omega)))
    go_ret
    exact ⟨_, rfl, o2.mono (by omega), (by repeat' (first | (with_reducible exact Ext.refl _) | (with_reducible assumption) | (with_reducible apply Ext.alloc) | (with_reducible apply Ext.drew) | (with_reducible apply Ext.drewN) | (refine Ext.trans ?_ (by assumption))))⟩

/-- The length of a result is small. -/
theorem zeroOf_short (k p n : Int) : (zeroOf k p n).length ≤ 6 := by
  unfold zeroOf
  split
  · have := (ringOk_wide ‹_›).hi; rw [zeroL_length]; omega
  · simp
theorem oneOf_short (k p n : Int) : (oneOf k p n).length ≤ 6 := by
  unfold oneOf
  split
  · have := (ringOk_wide ‹_›).hi; rw [oneL_length]; omega
  · simp
theorem beq_same (l : List Int) : (l == l) = true := by simp

set_option maxHeartbeats 400000 in
theorem walkFnExactZeroOf (k p n : Int) (b : I64s [k, p, n]) (w : World) :
    Calls Try.prog 10 #[ringV k p n] w fun e w' => e = .returned (.bool true) ∧ Ext w w' := by
  have hs := zeroOf_short k p n
  have hq := beq_same (zeroOf k p n)
  go_enter Try.func10, Try.ntmps10
  go_wp2_with fail
  refine (toRing_any _ _ _ _).mono ?_; rintro e1 w1 ⟨rfl, h1⟩; have s1 := h1.size; (try simp at s1); have t1_0 : w.heap.size < w1.heap.size := (by omega); have c1_0 := fun o => h1.cells (w.heap.size) o (by first | (simp; done) | (simp; omega) | omega); go_wp2_with fail
  refine (zeroOf_spec _ _ _ _).mono ?_; rintro e2 w2 ⟨v2, rfl, o2, h2⟩; have s2 := h2.size; (try simp at s2); have t2_0 : w.heap.size < w2.heap.size := (by omega); have c2_0 := fun o => h2.cells (w.heap.size) o (by first | (simp; done) | (simp; omega) | omega); go_wp2_with fail
  refine (toRing_any _ _ _ _).mono ?_; rintro e3 w3 ⟨rfl, h3⟩; have s3 := h3.size; (try simp at s3); have t3_0 : w.heap.size < w3.heap.size := (by omega); have c3_0 := fun o => h3.cells (w.heap.size) o (by first | (simp; done) | (simp; omega) | omega); go_wp2_with fail
  refine (zeroOf_impl _ _ _ _).mono ?_; rintro e4 w4 ⟨v4, rfl, o4, h4⟩; have s4 := h4.size; (try simp at s4); have t4_0 : w.heap.size < w4.heap.size := (by omega); have c4_0 := fun o => h4.cells (w.heap.size) o (by first | (simp; done) | (simp; omega) | omega); go_wp2_with fail
  refine (eqIntS_any _ _ _ _ _ o4.ints (o2.ints.ext (by repeat' (first | (with_reducible exact Ext.refl _) | (with_reducible assumption) | (with_reducible apply Ext.alloc) | (with_reducible apply Ext.drew) | (with_reducible apply Ext.drewN) | (refine Ext.trans ?_ (by assumption)))))).mono ?_; rintro e5 w5 ⟨rfl, h5⟩; have s5 := h5.size; (try simp at s5); have t5_0 : w.heap.size < w5.heap.size := (by omega); have c5_0 := fun o => h5.cells (w.heap.size) o (by first | (simp; done) | (simp; omega) | omega); go_wp2_with fail
  refine (markIntS_any w3.heap.size v4 _ 1 _ (o4.ext h5) (by omega) (by omega)).mono ?_; rintro e6 w6 ⟨rfl, o6, b6⟩; have h6 : Ext w3 w6 := (h4.trans h5).below' b6; have s6 := h6.size; (try simp at s6); have t6_0 : w.heap.size < w6.heap.size := (by omega); have c6_0 := fun o => h6.cells (w.heap.size) o (by first | (simp; done) | (simp; omega) | omega); go_wp2_with fail
  refine (heldIntS_any v4 (zeroOf k p n).length 1 _ o6.ints (by omega) (by omega)).mono ?_; rintro e7 w7 ⟨rfl, h7⟩; have s7 := h7.size; (try simp at s7); have t7_0 : w.heap.size < w7.heap.size := (by omega); have c7_0 := fun o => h7.cells (w.heap.size) o (by first | (simp; done) | (simp; omega) | omega); go_wp2_with fail
  refine (toRing_any _ _ _ _).mono ?_; rintro e8 w8 ⟨rfl, h8⟩; have s8 := h8.size; (try simp at s8); have t8_0 : w.heap.size < w8.heap.size := (by omega); have c8_0 := fun o => h8.cells (w.heap.size) o (by first | (simp; done) | (simp; omega) | omega); go_wp2_with fail
  refine (zeroOf_impl _ _ _ _).mono ?_; rintro e9 w9 ⟨v9, rfl, o9, h9⟩; have s9 := h9.size; (try simp at s9); have t9_0 : w.heap.size < w9.heap.size := (by omega); have c9_0 := fun o => h9.cells (w.heap.size) o (by first | (simp; done) | (simp; omega) | omega); go_wp2_with fail
  refine (eqIntS_any _ _ _ _ _ o9.ints (o2.ints.ext (by repeat' (first | (with_reducible exact Ext.refl _) | (with_reducible assumption) | (with_reducible apply Ext.alloc) | (with_reducible apply Ext.drew) | (with_reducible apply Ext.drewN) | (refine Ext.trans ?_ (by assumption)))))).mono ?_; rintro e10 w10 ⟨rfl, h10⟩; have s10 := h10.size; (try simp at s10); have t10_0 : w.heap.size < w10.heap.size := (by omega); have c10_0 := fun o => h10.cells (w.heap.size) o (by first | (simp; done) | (simp; omega) | omega); go_wp2_with fail
  refine (heldIntS_any v4 (zeroOf k p n).length 1 _ (o6.ints.ext (by repeat' (first | (with_reducible exact Ext.refl _) | (with_reducible assumption) | (with_reducible apply Ext.alloc) | (with_reducible apply Ext.drew) | (with_reducible apply Ext.drewN) | (refine Ext.trans ?_ (by assumption))))) (by omega) (by omega)).mono ?_; rintro e11 w11 ⟨rfl, h11⟩; have s11 := h11.size; (try simp at s11); have t11_0 : w.heap.size < w11.heap.size := (by omega); have c11_0 := fun o => h11.cells (w.heap.size) o (by first | (simp; done) | (simp; omega) | omega); go_wp2_with fail
  go_ret
  exact ⟨rfl, (by repeat' (first | (with_reducible exact Ext.refl _) | (with_reducible assumption) | (with_reducible apply Ext.alloc) | (with_reducible apply Ext.drew) | (with_reducible apply Ext.drewN) | (refine Ext.trans ?_ (by assumption))))⟩
set_option maxHeartbeats 400000 in
theorem walkFnExactOneOf (k p n : Int) (b : I64s [k, p, n]) (w : World) :
    Calls Try.prog 13 #[ringV k p n] w fun e w' => e = .returned (.bool true) ∧ Ext w w' := by
  have hs := oneOf_short k p n
  have hq := beq_same (oneOf k p n)
  go_enter Try.func13, Try.ntmps13
  go_wp2_with fail
  refine (toRing_any _ _ _ _).mono ?_; rintro e1 w1 ⟨rfl, h1⟩; have s1 := h1.size; (try simp at s1); have t1_0 : w.heap.size < w1.heap.size := (by omega); have c1_0 := fun o => h1.cells (w.heap.size) o (by first | (simp; done) | (simp; omega) | omega); go_wp2_with fail
  refine (oneOf_spec _ _ _ _).mono ?_; rintro e2 w2 ⟨v2, rfl, o2, h2⟩; have s2 := h2.size; (try simp at s2); have t2_0 : w.heap.size < w2.heap.size := (by omega); have c2_0 := fun o => h2.cells (w.heap.size) o (by first | (simp; done) | (simp; omega) | omega); go_wp2_with fail
  refine (toRing_any _ _ _ _).mono ?_; rintro e3 w3 ⟨rfl, h3⟩; have s3 := h3.size; (try simp at s3); have t3_0 : w.heap.size < w3.heap.size := (by omega); have c3_0 := fun o => h3.cells (w.heap.size) o (by first | (simp; done) | (simp; omega) | omega); go_wp2_with fail
  refine (oneOf_impl _ _ _ _).mono ?_; rintro e4 w4 ⟨v4, rfl, o4, h4⟩; have s4 := h4.size; (try simp at s4); have t4_0 : w.heap.size < w4.heap.size := (by omega); have c4_0 := fun o => h4.cells (w.heap.size) o (by first | (simp; done) | (simp; omega) | omega); go_wp2_with fail
  refine (eqIntS_any _ _ _ _ _ o4.ints (o2.ints.ext (by repeat' (first | (with_reducible exact Ext.refl _) | (with_reducible assumption) | (with_reducible apply Ext.alloc) | (with_reducible apply Ext.drew) | (with_reducible apply Ext.drewN) | (refine Ext.trans ?_ (by assumption)))))).mono ?_; rintro e5 w5 ⟨rfl, h5⟩; have s5 := h5.size; (try simp at s5); have t5_0 : w.heap.size < w5.heap.size := (by omega); have c5_0 := fun o => h5.cells (w.heap.size) o (by first | (simp; done) | (simp; omega) | omega); go_wp2_with fail
  refine (markIntS_any w3.heap.size v4 _ 1 _ (o4.ext h5) (by omega) (by omega)).mono ?_; rintro e6 w6 ⟨rfl, o6, b6⟩; have h6 : Ext w3 w6 := (h4.trans h5).below' b6; have s6 := h6.size; (try simp at s6); have t6_0 : w.heap.size < w6.heap.size := (by omega); have c6_0 := fun o => h6.cells (w.heap.size) o (by first | (simp; done) | (simp; omega) | omega); go_wp2_with fail
  refine (heldIntS_any v4 (oneOf k p n).length 1 _ o6.ints (by omega) (by omega)).mono ?_; rintro e7 w7 ⟨rfl, h7⟩; have s7 := h7.size; (try simp at s7); have t7_0 : w.heap.size < w7.heap.size := (by omega); have c7_0 := fun o => h7.cells (w.heap.size) o (by first | (simp; done) | (simp; omega) | omega); go_wp2_with fail
  refine (toRing_any _ _ _ _).mono ?_; rintro e8 w8 ⟨rfl, h8⟩; have s8 := h8.size; (try simp at s8); have t8_0 : w.heap.size < w8.heap.size := (by omega); have c8_0 := fun o => h8.cells (w.heap.size) o (by first | (simp; done) | (simp; omega) | omega); go_wp2_with fail
  refine (oneOf_impl _ _ _ _).mono ?_; rintro e9 w9 ⟨v9, rfl, o9, h9⟩; have s9 := h9.size; (try simp at s9); have t9_0 : w.heap.size < w9.heap.size := (by omega); have c9_0 := fun o => h9.cells (w.heap.size) o (by first | (simp; done) | (simp; omega) | omega); go_wp2_with fail
  refine (eqIntS_any _ _ _ _ _ o9.ints (o2.ints.ext (by repeat' (first | (with_reducible exact Ext.refl _) | (with_reducible assumption) | (with_reducible apply Ext.alloc) | (with_reducible apply Ext.drew) | (with_reducible apply Ext.drewN) | (refine Ext.trans ?_ (by assumption)))))).mono ?_; rintro e10 w10 ⟨rfl, h10⟩; have s10 := h10.size; (try simp at s10); have t10_0 : w.heap.size < w10.heap.size := (by omega); have c10_0 := fun o => h10.cells (w.heap.size) o (by first | (simp; done) | (simp; omega) | omega); go_wp2_with fail
  refine (heldIntS_any v4 (oneOf k p n).length 1 _ (o6.ints.ext (by repeat' (first | (with_reducible exact Ext.refl _) | (with_reducible assumption) | (with_reducible apply Ext.alloc) | (with_reducible apply Ext.drew) | (with_reducible apply Ext.drewN) | (refine Ext.trans ?_ (by assumption))))) (by omega) (by omega)).mono ?_; rintro e11 w11 ⟨rfl, h11⟩; have s11 := h11.size; (try simp at s11); have t11_0 : w.heap.size < w11.heap.size := (by omega); have c11_0 := fun o => h11.cells (w.heap.size) o (by first | (simp; done) | (simp; omega) | omega); go_wp2_with fail
  go_ret
  exact ⟨rfl, (by repeat' (first | (with_reducible exact Ext.refl _) | (with_reducible assumption) | (with_reducible apply Ext.alloc) | (with_reducible apply Ext.drew) | (with_reducible apply Ext.drewN) | (refine Ext.trans ?_ (by assumption))))⟩
end Go.Proofs.Ytikkhkllbifblaa
