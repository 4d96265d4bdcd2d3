/- CountElem of the program and of the reference; the law's walk. -/
import Derived.Test.YtlmidcclcnehnaaUnitsW
namespace Go.Proofs.Ytlmidcclcnehnaa
open Go.RowKit
set_option linter.unusedSimpArgs false
set_option linter.unusedVariables false

/-- The first integer of the sum of c ones (c positive). -/
def count1 (k p n c : Int) : Int := if k = 3 then min c p else if k = 2 ∨ k = 7 ∨ k = 8 then c % p else unit k p n
/-- 'CountElem' -/
def countOf (k p n c : Int) : List Int :=
  if ringOk k p n = true then (if c < 0 then [] else if c = 0 then zeroL k p n else (oneL k p n).set 0 (count1 k p n c)) else []
theorem countOf_no {k p n c : Int} (h : ringOk k p n = false) : countOf k p n c = [] := by simp [countOf, h]
theorem countOf_neg {k p n c : Int} (h : c < 0) : countOf k p n c = [] := by simp [countOf, h]
theorem countOf_zero {k p n : Int} (h : ringOk k p n = true) : countOf k p n 0 = zeroL k p n := by simp [countOf, h]
theorem countOf_pos {k p n c : Int} (h : ringOk k p n = true) (hc : 0 < c) : countOf k p n c = (oneL k p n).set 0 (count1 k p n c) := by
  have h1 : ¬ c < 0 := by omega
  have h2 : ¬ c = 0 := by omega
  simp [countOf, h, h1, h2]
theorem countOf_same {k p n c : Int} (h : ringOk k p n = true) (hc : 0 < c) (h2 : ¬ k = 2) (h3 : ¬ k = 3) (h7 : ¬ k = 7) (h8 : ¬ k = 8) : countOf k p n c = oneL k p n := by
  rw [countOf_pos h hc]
  simp [count1, h2, h3, h7, h8, oneL]
theorem countOf_short (k p n c : Int) : (countOf k p n c).length ≤ 6 := by
  cases h : ringOk k p n
  · rw [countOf_no h]; simp
  · have := (ringOk_wide h).hi
    unfold countOf
    rw [if_pos h]
    split
    · simp
    · split
      · rw [zeroL_length]; omega
      · rw [List.length_set, oneL_length]; omega
theorem oneL_get {k p n : Int} (h : RingWide k n) : (oneL k p n)[0]? = some (unit k p n) := by
  have := h.lo
  have : 0 < (ringWidth k n).toNat := by omega
  simp [oneL, this]
/-- p is positive where it is a modulus or a cap. -/
theorem ringOk_pos {k p n : Int} (h : ringOk k p n = true) (hk : k = 2 ∨ k = 3 ∨ k = 4 ∨ k = 5 ∨ k = 7 ∨ k = 8) : 1 ≤ p ∧ p ≤ 1000003 := by
  rcases hk with rfl | rfl | rfl | rfl | rfl | rfl
  all_goals simp [ringOk] at h
  · exact ⟨by have := isPrime_ge h.1; omega, isPrime_le h.1⟩
  · omega
  · omega
  · omega
  · exact ⟨by have := isPrime_ge h.1.1; omega, isPrime_le h.1.1⟩
  · exact ⟨by have := isPrime_ge h.1.1; omega, isPrime_le h.1.1⟩

set_option maxHeartbeats 400000 in
theorem countElem_impl (k p n c : Int) (hc : -9223372036854775808 ≤ c ∧ c ≤ 9223372036854775807) (w : World) : Calls Try.prog 47 #[ringV k p n, .int .i64 c] w fun e w' =>
    ∃ v, e = .returned v ∧ OwnI w' w.heap.size v (countOf k p n c) ∧ Ext w w' := by
  cases hr : ringOk k p n
  · rw [countOf_no hr]
    go_enter Try.func47, Try.ntmps47
    go_wp2_with (go_at_call 73; refine (ringOk_impl _ _ _ _).mono ?_; rintro e1 w1 ⟨rfl, h1⟩; have s1 := h1.size; (try simp at s1); have t1_0 : w.heap.size < w1.heap.size := (by omega); have c1_0 := fun o => h1.cells (w.heap.size) o (by first | (simp; done) | (simp; omega) | omega))
    go_ret
    exact ⟨_, rfl, OwnI.nil _ _, (by repeat' (first | (with_reducible exact Ext.refl _) | (with_reducible assumption) | (with_reducible apply Ext.alloc) | (with_reducible apply Ext.drew) | (with_reducible apply Ext.drewN) | (refine Ext.setAt ?_ (by omega) _ _) | (refine Ext.trans ?_ (by assumption))))⟩
  by_cases h0 : c < 0
  · rw [countOf_neg h0]
    go_enter Try.func47, Try.ntmps47
    go_wp2_with (go_at_call 73; refine (ringOk_impl _ _ _ _).mono ?_; rintro e1 w1 ⟨rfl, h1⟩; have s1 := h1.size; (try simp at s1); have t1_0 : w.heap.size < w1.heap.size := (by omega); have c1_0 := fun o => h1.cells (w.heap.size) o (by first | (simp; done) | (simp; omega) | omega))
    go_ret
    exact ⟨_, rfl, OwnI.nil _ _, (by repeat' (first | (with_reducible exact Ext.refl _) | (with_reducible assumption) | (with_reducible apply Ext.alloc) | (with_reducible apply Ext.drew) | (with_reducible apply Ext.drewN) | (refine Ext.setAt ?_ (by omega) _ _) | (refine Ext.trans ?_ (by assumption))))⟩
  have hw := ringOk_wide hr
  have hf := ringOk_fit hr
  by_cases h1 : c = 0
  · subst h1
    rw [countOf_zero hr]
    go_enter Try.func47, Try.ntmps47
    go_wp2_with (first | (go_at_call 73; refine (ringOk_impl _ _ _ _).mono ?_; rintro e1 w1 ⟨rfl, h1⟩; have s1 := h1.size; (try simp at s1); have t1_0 : w.heap.size < w1.heap.size := (by omega); have c1_0 := fun o => h1.cells (w.heap.size) o (by first | (simp; done) | (simp; omega) | omega)) | (go_at_call 75; refine (rawZero_any _ _ _ hw _).mono ?_; rintro e2 w2 ⟨v2, rfl, o2, h2⟩; have s2 := h2.size; (try simp at s2); have t2_0 : w.heap.size < w2.heap.size := (by omega); have c2_0 := fun o => h2.cells (w.heap.size) o (by first | (simp; done) | (simp; omega) | omega)))
    go_ret
    exact ⟨_, rfl, o2.mono (by omega), (by repeat' (first | (with_reducible exact Ext.refl _) | (with_reducible assumption) | (with_reducible apply Ext.alloc) | (with_reducible apply Ext.drew) | (with_reducible apply Ext.drewN) | (refine Ext.setAt ?_ (by omega) _ _) | (refine Ext.trans ?_ (by assumption))))⟩
  have hpos : 0 < c := by omega
  have hlen : 0 < (oneL k p n).length := by have := hw.lo; rw [oneL_length]; omega
  by_cases hk : k = 2 ∨ k = 3 ∨ k = 7 ∨ k = 8
  · rw [countOf_pos hr hpos]
    have hg := oneL_get (p := p) hw
    obtain ⟨hp1, hp2⟩ := ringOk_pos hr (by omega)
    obtain ⟨x, hx⟩ : ∃ x, count1 k p n c = x := ⟨_, rfl⟩
    have hx' : (k = 3 ∧ ((c ≤ p ∧ x = c) ∨ (p < c ∧ x = p))) ∨ ((k = 2 ∨ k = 7 ∨ k = 8) ∧ x = c % p) := by
      subst hx
      rcases hk with rfl | rfl | rfl | rfl
      · right; simp [count1]
      · left; simp [count1]; omega
      · right; simp [count1]
      · right; simp [count1]
    rw [hx]
    clear hx hk
    rcases hx' with ⟨rfl, ⟨hle, rfl⟩ | ⟨hle, rfl⟩⟩ | ⟨rfl | rfl | rfl, rfl⟩
    all_goals
      go_enter Try.func47, Try.ntmps47
      go_wp2_with fail
      refine (ringOk_impl _ _ _ _).mono ?_; rintro e1 w1 ⟨rfl, h1⟩; have s1 := h1.size; (try simp at s1); have t1_0 : w.heap.size < w1.heap.size := (by omega); have c1_0 := fun o => h1.cells (w.heap.size) o (by first | (simp; done) | (simp; omega) | omega); go_wp2_with fail
      refine (rawOne_any _ _ _ hw hf _).mono ?_; rintro e2 w2 ⟨v2, rfl, o2, h2⟩; have s2 := h2.size; (try simp at s2); have t2_0 : w.heap.size < w2.heap.size := (by omega); have c2_0 := fun o => h2.cells (w.heap.size) o (by first | (simp; done) | (simp; omega) | omega)
      obtain ⟨b, cap, hb, rfl, hc1, hc2⟩ := o2.open hlen
      obtain ⟨ho, hfr⟩ := o2.cell hg
      have HG := Lib.hid hg; clear hg
      go_wp2
      go_ret
      exact ⟨_, rfl, (o2.set 0 hlen _).mono (by omega), Ext.setAt (by repeat' (first | (with_reducible exact Ext.refl _) | (with_reducible assumption) | (with_reducible apply Ext.alloc) | (with_reducible apply Ext.drew) | (with_reducible apply Ext.drewN) | (refine Ext.setAt ?_ (by omega) _ _) | (refine Ext.trans ?_ (by assumption)))) (by omega) _ _⟩
  · have h2 : ¬ k = 2 := by omega
    have h3 : ¬ k = 3 := by omega
    have h7 : ¬ k = 7 := by omega
    have h8 : ¬ k = 8 := by omega
    rw [countOf_same hr hpos h2 h3 h7 h8]
    go_enter Try.func47, Try.ntmps47
    go_wp2_with (first | (go_at_call 73; refine (ringOk_impl _ _ _ _).mono ?_; rintro e1 w1 ⟨rfl, h1⟩; have s1 := h1.size; (try simp at s1); have t1_0 : w.heap.size < w1.heap.size := (by omega); have c1_0 := fun o => h1.cells (w.heap.size) o (by first | (simp; done) | (simp; omega) | omega)) | (go_at_call 87; refine (rawOne_any _ _ _ hw hf _).mono ?_; rintro e2 w2 ⟨v2, rfl, o2, h2'⟩; have s2 := h2'.size; (try simp at s2); have t2_0 : w.heap.size < w2.heap.size := (by omega); have c2_0 := fun o => h2'.cells (w.heap.size) o (by first | (simp; done) | (simp; omega) | omega)))
    go_ret
    exact ⟨_, rfl, o2.mono (by omega), (by repeat' (first | (with_reducible exact Ext.refl _) | (with_reducible assumption) | (with_reducible apply Ext.alloc) | (with_reducible apply Ext.drew) | (with_reducible apply Ext.drewN) | (refine Ext.setAt ?_ (by omega) _ _) | (refine Ext.trans ?_ (by assumption))))⟩
end Go.Proofs.Ytlmidcclcnehnaa
