/- HomOk of the reference. -/
import Derived.Test.YtlmidcclcnehnaaHoms
namespace Go.Proofs.Ytlmidcclcnehnaa
open Go.RowKit
set_option linter.unusedSimpArgs false
set_option linter.unusedVariables false

set_option maxHeartbeats 1000000 in
set_option maxRecDepth 100000 in
theorem homOk_spec6a (fk fp fn tk tp tn ha : Int) (q8 : ¬ fk = 8) (hr : ringOk fk fp fn = true) (hr2 : ringOk tk tp tn = true) (w : World) : Calls Try.prog 96 #[ringV fk fp fn, ringV tk tp tn, homV 6 ha] w fun e w' =>
    e = .returned (.bool (homOk fk fp fn tk tp tn 6 ha)) ∧ Ext w w' := by
  have HF := Lib.hid (homOk_yes (hk := 6) (ha := ha) hr hr2)
  have HR : Hid (homRaw fk fp fn tk tp tn 6 ha = false) := Lib.hid (by simp [homRaw]; omega)
  have z8 : (fk == 8) = false := by rw [beq_eq_false_iff_ne]; exact q8
  go_enter Try.func96, Try.ntmps96
  go_wp2_with fail
  refine (ringOk_spec _ _ _ _).mono ?_; rintro e1 w1 ⟨rfl, h1⟩; have s1 := h1.size; (try simp at s1); have t1_0 : w.heap.size < w1.heap.size := (by omega); have c1_0 := fun o => h1.cells (w.heap.size) o (by first | (simp; done) | (simp; omega) | omega); have t1_1 : w.heap.size + 1 < w1.heap.size := (by omega); have c1_1 := fun o => h1.cells (w.heap.size + 1) o (by first | (simp; done) | (simp; omega) | omega); have t1_2 : w.heap.size + 2 < w1.heap.size := (by omega); have c1_2 := fun o => h1.cells (w.heap.size + 2) o (by first | (simp; done) | (simp; omega) | omega); go_wp2_with fail
  refine (ringOk_spec _ _ _ _).mono ?_; rintro e2 w2 ⟨rfl, h2⟩; have s2 := h2.size; (try simp at s2); have t2_0 : w.heap.size < w2.heap.size := (by omega); have c2_0 := fun o => h2.cells (w.heap.size) o (by first | (simp; done) | (simp; omega) | omega); have t2_1 : w.heap.size + 1 < w2.heap.size := (by omega); have c2_1 := fun o => h2.cells (w.heap.size + 1) o (by first | (simp; done) | (simp; omega) | omega); have t2_2 : w.heap.size + 2 < w2.heap.size := (by omega); have c2_2 := fun o => h2.cells (w.heap.size + 2) o (by first | (simp; done) | (simp; omega) | omega)
  go_wp2
  go_quiet ((go_at_call 76; exact Calls.quiet_of_same (in_quiet _ _ _ _)))
  go_wp2
  all_goals
    go_ret
    exact ⟨ret_bool (by rw [HF.out, HR.out]), (by repeat' (first | (with_reducible exact Ext.refl _) | (with_reducible assumption) | (with_reducible apply Ext.alloc) | (with_reducible apply Ext.drew) | (with_reducible apply Ext.drewN) | (refine Ext.setAt ?_ (by omega) _ _) | (refine Ext.trans ?_ (by assumption))))⟩

set_option maxHeartbeats 1000000 in
set_option maxRecDepth 100000 in
theorem homOk_spec6b (fk fp fn tk tp tn ha : Int) (q8 : fk = 8) (q2 : ¬ tk = 2) (hr : ringOk fk fp fn = true) (hr2 : ringOk tk tp tn = true) (w : World) : Calls Try.prog 96 #[ringV fk fp fn, ringV tk tp tn, homV 6 ha] w fun e w' =>
    e = .returned (.bool (homOk fk fp fn tk tp tn 6 ha)) ∧ Ext w w' := by
  have HF := Lib.hid (homOk_yes (hk := 6) (ha := ha) hr hr2)
  subst q8
  have HR : Hid (homRaw 8 fp fn tk tp tn 6 ha = false) := Lib.hid (by simp [homRaw]; omega)
  have z2 : (tk == 2) = false := by rw [beq_eq_false_iff_ne]; exact q2
  go_enter Try.func96, Try.ntmps96
  go_wp2_with fail
  refine (ringOk_spec _ _ _ _).mono ?_; rintro e1 w1 ⟨rfl, h1⟩; have s1 := h1.size; (try simp at s1); have t1_0 : w.heap.size < w1.heap.size := (by omega); have c1_0 := fun o => h1.cells (w.heap.size) o (by first | (simp; done) | (simp; omega) | omega); have t1_1 : w.heap.size + 1 < w1.heap.size := (by omega); have c1_1 := fun o => h1.cells (w.heap.size + 1) o (by first | (simp; done) | (simp; omega) | omega); have t1_2 : w.heap.size + 2 < w1.heap.size := (by omega); have c1_2 := fun o => h1.cells (w.heap.size + 2) o (by first | (simp; done) | (simp; omega) | omega); go_wp2_with fail
  refine (ringOk_spec _ _ _ _).mono ?_; rintro e2 w2 ⟨rfl, h2⟩; have s2 := h2.size; (try simp at s2); have t2_0 : w.heap.size < w2.heap.size := (by omega); have c2_0 := fun o => h2.cells (w.heap.size) o (by first | (simp; done) | (simp; omega) | omega); have t2_1 : w.heap.size + 1 < w2.heap.size := (by omega); have c2_1 := fun o => h2.cells (w.heap.size + 1) o (by first | (simp; done) | (simp; omega) | omega); have t2_2 : w.heap.size + 2 < w2.heap.size := (by omega); have c2_2 := fun o => h2.cells (w.heap.size + 2) o (by first | (simp; done) | (simp; omega) | omega)
  go_wp2
  go_quiet ((go_at_call 76; exact Calls.quiet_of_same (in_quiet _ _ _ _)))
  go_wp2
  all_goals
    go_ret
    exact ⟨ret_bool (by rw [HF.out, HR.out]), (by repeat' (first | (with_reducible exact Ext.refl _) | (with_reducible assumption) | (with_reducible apply Ext.alloc) | (with_reducible apply Ext.drew) | (with_reducible apply Ext.drewN) | (refine Ext.setAt ?_ (by omega) _ _) | (refine Ext.trans ?_ (by assumption))))⟩

set_option maxHeartbeats 1000000 in
set_option maxRecDepth 100000 in
theorem homOk_spec6c (fk fp fn tk tp tn ha : Int) (q8 : fk = 8) (q2 : tk = 2) (q3 : ¬ fp = tp) (hr : ringOk fk fp fn = true) (hr2 : ringOk tk tp tn = true) (w : World) : Calls Try.prog 96 #[ringV fk fp fn, ringV tk tp tn, homV 6 ha] w fun e w' =>
    e = .returned (.bool (homOk fk fp fn tk tp tn 6 ha)) ∧ Ext w w' := by
  have HF := Lib.hid (homOk_yes (hk := 6) (ha := ha) hr hr2)
  subst q8
  subst q2
  have HR : Hid (homRaw 8 fp fn 2 tp tn 6 ha = false) := Lib.hid (by simp [homRaw]; omega)
  have z3 : (fp == tp) = false := by rw [beq_eq_false_iff_ne]; exact q3
  go_enter Try.func96, Try.ntmps96
  go_wp2_with fail
  refine (ringOk_spec _ _ _ _).mono ?_; rintro e1 w1 ⟨rfl, h1⟩; have s1 := h1.size; (try simp at s1); have t1_0 : w.heap.size < w1.heap.size := (by omega); have c1_0 := fun o => h1.cells (w.heap.size) o (by first | (simp; done) | (simp; omega) | omega); have t1_1 : w.heap.size + 1 < w1.heap.size := (by omega); have c1_1 := fun o => h1.cells (w.heap.size + 1) o (by first | (simp; done) | (simp; omega) | omega); have t1_2 : w.heap.size + 2 < w1.heap.size := (by omega); have c1_2 := fun o => h1.cells (w.heap.size + 2) o (by first | (simp; done) | (simp; omega) | omega); go_wp2_with fail
  refine (ringOk_spec _ _ _ _).mono ?_; rintro e2 w2 ⟨rfl, h2⟩; have s2 := h2.size; (try simp at s2); have t2_0 : w.heap.size < w2.heap.size := (by omega); have c2_0 := fun o => h2.cells (w.heap.size) o (by first | (simp; done) | (simp; omega) | omega); have t2_1 : w.heap.size + 1 < w2.heap.size := (by omega); have c2_1 := fun o => h2.cells (w.heap.size + 1) o (by first | (simp; done) | (simp; omega) | omega); have t2_2 : w.heap.size + 2 < w2.heap.size := (by omega); have c2_2 := fun o => h2.cells (w.heap.size + 2) o (by first | (simp; done) | (simp; omega) | omega)
  go_wp2
  go_quiet ((go_at_call 76; exact Calls.quiet_of_same (in_quiet _ _ _ _)))
  go_wp2
  all_goals
    go_ret
    exact ⟨ret_bool (by rw [HF.out, HR.out]), (by repeat' (first | (with_reducible exact Ext.refl _) | (with_reducible assumption) | (with_reducible apply Ext.alloc) | (with_reducible apply Ext.drew) | (with_reducible apply Ext.drewN) | (refine Ext.setAt ?_ (by omega) _ _) | (refine Ext.trans ?_ (by assumption))))⟩

set_option maxHeartbeats 1000000 in
set_option maxRecDepth 100000 in
theorem homOk_spec1 (fk fp fn tk tp tn ha : Int) (hr : ringOk fk fp fn = true) (hr2 : ringOk tk tp tn = true) (w : World) : Calls Try.prog 96 #[ringV fk fp fn, ringV tk tp tn, homV 1 ha] w fun e w' =>
    e = .returned (.bool (homOk fk fp fn tk tp tn 1 ha)) ∧ Ext w w' := by
  have HF := Lib.hid (homOk_yes (hk := 1) (ha := ha) hr hr2)
  by_cases ha0 : ha = 0
  · subst ha0
    go_enter Try.func96, Try.ntmps96
    go_wp2_with fail
    refine (ringOk_spec _ _ _ _).mono ?_; rintro e1 w1 ⟨rfl, h1⟩; have s1 := h1.size; (try simp at s1); have t1_0 : w.heap.size < w1.heap.size := (by omega); have c1_0 := fun o => h1.cells (w.heap.size) o (by first | (simp; done) | (simp; omega) | omega); have t1_1 : w.heap.size + 1 < w1.heap.size := (by omega); have c1_1 := fun o => h1.cells (w.heap.size + 1) o (by first | (simp; done) | (simp; omega) | omega); have t1_2 : w.heap.size + 2 < w1.heap.size := (by omega); have c1_2 := fun o => h1.cells (w.heap.size + 2) o (by first | (simp; done) | (simp; omega) | omega); go_wp2_with fail
    refine (ringOk_spec _ _ _ _).mono ?_; rintro e2 w2 ⟨rfl, h2⟩; have s2 := h2.size; (try simp at s2); have t2_0 : w.heap.size < w2.heap.size := (by omega); have c2_0 := fun o => h2.cells (w.heap.size) o (by first | (simp; done) | (simp; omega) | omega); have t2_1 : w.heap.size + 1 < w2.heap.size := (by omega); have c2_1 := fun o => h2.cells (w.heap.size + 1) o (by first | (simp; done) | (simp; omega) | omega); have t2_2 : w.heap.size + 2 < w2.heap.size := (by omega); have c2_2 := fun o => h2.cells (w.heap.size + 2) o (by first | (simp; done) | (simp; omega) | omega)
    go_wp2
    all_goals
      go_ret
      exact ⟨ret_bool (by subst_vars; rw [HF.out]; simp [homRaw, *] <;> omega), (by repeat' (first | (with_reducible exact Ext.refl _) | (with_reducible assumption) | (with_reducible apply Ext.alloc) | (with_reducible apply Ext.drew) | (with_reducible apply Ext.drewN) | (refine Ext.setAt ?_ (by omega) _ _) | (refine Ext.trans ?_ (by assumption))))⟩
  · go_enter Try.func96, Try.ntmps96
    go_wp2_with fail
    refine (ringOk_spec _ _ _ _).mono ?_; rintro e1 w1 ⟨rfl, h1⟩; have s1 := h1.size; (try simp at s1); have t1_0 : w.heap.size < w1.heap.size := (by omega); have c1_0 := fun o => h1.cells (w.heap.size) o (by first | (simp; done) | (simp; omega) | omega); have t1_1 : w.heap.size + 1 < w1.heap.size := (by omega); have c1_1 := fun o => h1.cells (w.heap.size + 1) o (by first | (simp; done) | (simp; omega) | omega); have t1_2 : w.heap.size + 2 < w1.heap.size := (by omega); have c1_2 := fun o => h1.cells (w.heap.size + 2) o (by first | (simp; done) | (simp; omega) | omega); go_wp2_with fail
    refine (ringOk_spec _ _ _ _).mono ?_; rintro e2 w2 ⟨rfl, h2⟩; have s2 := h2.size; (try simp at s2); have t2_0 : w.heap.size < w2.heap.size := (by omega); have c2_0 := fun o => h2.cells (w.heap.size) o (by first | (simp; done) | (simp; omega) | omega); have t2_1 : w.heap.size + 1 < w2.heap.size := (by omega); have c2_1 := fun o => h2.cells (w.heap.size + 1) o (by first | (simp; done) | (simp; omega) | omega); have t2_2 : w.heap.size + 2 < w2.heap.size := (by omega); have c2_2 := fun o => h2.cells (w.heap.size + 2) o (by first | (simp; done) | (simp; omega) | omega)
    go_wp2
    all_goals
      go_ret
      exact ⟨ret_bool (by subst_vars; rw [HF.out]; simp [homRaw, *]), (by repeat' (first | (with_reducible exact Ext.refl _) | (with_reducible assumption) | (with_reducible apply Ext.alloc) | (with_reducible apply Ext.drew) | (with_reducible apply Ext.drewN) | (refine Ext.setAt ?_ (by omega) _ _) | (refine Ext.trans ?_ (by assumption))))⟩

set_option maxHeartbeats 1000000 in
set_option maxRecDepth 100000 in
theorem homOk_spec2 (fk fp fn tk tp tn ha : Int) (hr : ringOk fk fp fn = true) (hr2 : ringOk tk tp tn = true) (w : World) : Calls Try.prog 96 #[ringV fk fp fn, ringV tk tp tn, homV 2 ha] w fun e w' =>
    e = .returned (.bool (homOk fk fp fn tk tp tn 2 ha)) ∧ Ext w w' := by
  have HF := Lib.hid (homOk_yes (hk := 2) (ha := ha) hr hr2)
  by_cases ha0 : ha = 0
  · subst ha0
    go_enter Try.func96, Try.ntmps96
    go_wp2_with fail
    refine (ringOk_spec _ _ _ _).mono ?_; rintro e1 w1 ⟨rfl, h1⟩; have s1 := h1.size; (try simp at s1); have t1_0 : w.heap.size < w1.heap.size := (by omega); have c1_0 := fun o => h1.cells (w.heap.size) o (by first | (simp; done) | (simp; omega) | omega); have t1_1 : w.heap.size + 1 < w1.heap.size := (by omega); have c1_1 := fun o => h1.cells (w.heap.size + 1) o (by first | (simp; done) | (simp; omega) | omega); have t1_2 : w.heap.size + 2 < w1.heap.size := (by omega); have c1_2 := fun o => h1.cells (w.heap.size + 2) o (by first | (simp; done) | (simp; omega) | omega); go_wp2_with fail
    refine (ringOk_spec _ _ _ _).mono ?_; rintro e2 w2 ⟨rfl, h2⟩; have s2 := h2.size; (try simp at s2); have t2_0 : w.heap.size < w2.heap.size := (by omega); have c2_0 := fun o => h2.cells (w.heap.size) o (by first | (simp; done) | (simp; omega) | omega); have t2_1 : w.heap.size + 1 < w2.heap.size := (by omega); have c2_1 := fun o => h2.cells (w.heap.size + 1) o (by first | (simp; done) | (simp; omega) | omega); have t2_2 : w.heap.size + 2 < w2.heap.size := (by omega); have c2_2 := fun o => h2.cells (w.heap.size + 2) o (by first | (simp; done) | (simp; omega) | omega)
    go_wp2
    all_goals
      go_ret
      exact ⟨ret_bool (by subst_vars; rw [HF.out]; simp [homRaw, *] <;> omega), (by repeat' (first | (with_reducible exact Ext.refl _) | (with_reducible assumption) | (with_reducible apply Ext.alloc) | (with_reducible apply Ext.drew) | (with_reducible apply Ext.drewN) | (refine Ext.setAt ?_ (by omega) _ _) | (refine Ext.trans ?_ (by assumption))))⟩
  · go_enter Try.func96, Try.ntmps96
    go_wp2_with fail
    refine (ringOk_spec _ _ _ _).mono ?_; rintro e1 w1 ⟨rfl, h1⟩; have s1 := h1.size; (try simp at s1); have t1_0 : w.heap.size < w1.heap.size := (by omega); have c1_0 := fun o => h1.cells (w.heap.size) o (by first | (simp; done) | (simp; omega) | omega); have t1_1 : w.heap.size + 1 < w1.heap.size := (by omega); have c1_1 := fun o => h1.cells (w.heap.size + 1) o (by first | (simp; done) | (simp; omega) | omega); have t1_2 : w.heap.size + 2 < w1.heap.size := (by omega); have c1_2 := fun o => h1.cells (w.heap.size + 2) o (by first | (simp; done) | (simp; omega) | omega); go_wp2_with fail
    refine (ringOk_spec _ _ _ _).mono ?_; rintro e2 w2 ⟨rfl, h2⟩; have s2 := h2.size; (try simp at s2); have t2_0 : w.heap.size < w2.heap.size := (by omega); have c2_0 := fun o => h2.cells (w.heap.size) o (by first | (simp; done) | (simp; omega) | omega); have t2_1 : w.heap.size + 1 < w2.heap.size := (by omega); have c2_1 := fun o => h2.cells (w.heap.size + 1) o (by first | (simp; done) | (simp; omega) | omega); have t2_2 : w.heap.size + 2 < w2.heap.size := (by omega); have c2_2 := fun o => h2.cells (w.heap.size + 2) o (by first | (simp; done) | (simp; omega) | omega)
    go_wp2
    all_goals
      go_ret
      exact ⟨ret_bool (by subst_vars; rw [HF.out]; simp [homRaw, *]), (by repeat' (first | (with_reducible exact Ext.refl _) | (with_reducible assumption) | (with_reducible apply Ext.alloc) | (with_reducible apply Ext.drew) | (with_reducible apply Ext.drewN) | (refine Ext.setAt ?_ (by omega) _ _) | (refine Ext.trans ?_ (by assumption))))⟩

set_option maxHeartbeats 1000000 in
set_option maxRecDepth 100000 in
theorem homOk_spec3 (fk fp fn tk tp tn ha : Int) (hr : ringOk fk fp fn = true) (hr2 : ringOk tk tp tn = true) (w : World) : Calls Try.prog 96 #[ringV fk fp fn, ringV tk tp tn, homV 3 ha] w fun e w' =>
    e = .returned (.bool (homOk fk fp fn tk tp tn 3 ha)) ∧ Ext w w' := by
  have HF := Lib.hid (homOk_yes (hk := 3) (ha := ha) hr hr2)
  obtain ⟨bn, bn2, bp, bp2⟩ := ringOk_bounds hr
  have HD : Hid (decide (ha ≤ fn - 1) = decide (ha < fn)) := Lib.hid (by simp; omega)
  go_enter Try.func96, Try.ntmps96
  go_wp2_with fail
  refine (ringOk_spec _ _ _ _).mono ?_; rintro e1 w1 ⟨rfl, h1⟩; have s1 := h1.size; (try simp at s1); have t1_0 : w.heap.size < w1.heap.size := (by omega); have c1_0 := fun o => h1.cells (w.heap.size) o (by first | (simp; done) | (simp; omega) | omega); have t1_1 : w.heap.size + 1 < w1.heap.size := (by omega); have c1_1 := fun o => h1.cells (w.heap.size + 1) o (by first | (simp; done) | (simp; omega) | omega); have t1_2 : w.heap.size + 2 < w1.heap.size := (by omega); have c1_2 := fun o => h1.cells (w.heap.size + 2) o (by first | (simp; done) | (simp; omega) | omega); go_wp2_with fail
  refine (ringOk_spec _ _ _ _).mono ?_; rintro e2 w2 ⟨rfl, h2⟩; have s2 := h2.size; (try simp at s2); have t2_0 : w.heap.size < w2.heap.size := (by omega); have c2_0 := fun o => h2.cells (w.heap.size) o (by first | (simp; done) | (simp; omega) | omega); have t2_1 : w.heap.size + 1 < w2.heap.size := (by omega); have c2_1 := fun o => h2.cells (w.heap.size + 1) o (by first | (simp; done) | (simp; omega) | omega); have t2_2 : w.heap.size + 2 < w2.heap.size := (by omega); have c2_2 := fun o => h2.cells (w.heap.size + 2) o (by first | (simp; done) | (simp; omega) | omega)
  go_wp2_with (go_at_call 76; refine (in_any _ _ _ _).mono ?_; rintro e3 w3 ⟨rfl, rfl⟩)
  all_goals
    go_ret
    exact ⟨ret_bool (by subst_vars; rw [HF.out]; simp [homRaw, HD.out, *] <;> omega), (by repeat' (first | (with_reducible exact Ext.refl _) | (with_reducible assumption) | (with_reducible apply Ext.alloc) | (with_reducible apply Ext.drew) | (with_reducible apply Ext.drewN) | (refine Ext.setAt ?_ (by omega) _ _) | (refine Ext.trans ?_ (by assumption))))⟩

set_option maxHeartbeats 1000000 in
set_option maxRecDepth 100000 in
theorem homOk_spec4 (fk fp fn tk tp tn ha : Int) (hr : ringOk fk fp fn = true) (hr2 : ringOk tk tp tn = true) (w : World) : Calls Try.prog 96 #[ringV fk fp fn, ringV tk tp tn, homV 4 ha] w fun e w' =>
    e = .returned (.bool (homOk fk fp fn tk tp tn 4 ha)) ∧ Ext w w' := by
  have HF := Lib.hid (homOk_yes (hk := 4) (ha := ha) hr hr2)
  obtain ⟨bn, bn2, bp, bp2⟩ := ringOk_bounds hr
  go_enter Try.func96, Try.ntmps96
  go_wp2_with fail
  refine (ringOk_spec _ _ _ _).mono ?_; rintro e1 w1 ⟨rfl, h1⟩; have s1 := h1.size; (try simp at s1); have t1_0 : w.heap.size < w1.heap.size := (by omega); have c1_0 := fun o => h1.cells (w.heap.size) o (by first | (simp; done) | (simp; omega) | omega); have t1_1 : w.heap.size + 1 < w1.heap.size := (by omega); have c1_1 := fun o => h1.cells (w.heap.size + 1) o (by first | (simp; done) | (simp; omega) | omega); have t1_2 : w.heap.size + 2 < w1.heap.size := (by omega); have c1_2 := fun o => h1.cells (w.heap.size + 2) o (by first | (simp; done) | (simp; omega) | omega); go_wp2_with fail
  refine (ringOk_spec _ _ _ _).mono ?_; rintro e2 w2 ⟨rfl, h2⟩; have s2 := h2.size; (try simp at s2); have t2_0 : w.heap.size < w2.heap.size := (by omega); have c2_0 := fun o => h2.cells (w.heap.size) o (by first | (simp; done) | (simp; omega) | omega); have t2_1 : w.heap.size + 1 < w2.heap.size := (by omega); have c2_1 := fun o => h2.cells (w.heap.size + 1) o (by first | (simp; done) | (simp; omega) | omega); have t2_2 : w.heap.size + 2 < w2.heap.size := (by omega); have c2_2 := fun o => h2.cells (w.heap.size + 2) o (by first | (simp; done) | (simp; omega) | omega)
  go_wp2_with (go_at_call 76; refine (in_any _ _ _ _).mono ?_; rintro e3 w3 ⟨rfl, rfl⟩)
  all_goals
    go_ret
    exact ⟨ret_bool (by subst_vars; rw [HF.out]; simp [homRaw, *] <;> omega), (by repeat' (first | (with_reducible exact Ext.refl _) | (with_reducible assumption) | (with_reducible apply Ext.alloc) | (with_reducible apply Ext.drew) | (with_reducible apply Ext.drewN) | (refine Ext.setAt ?_ (by omega) _ _) | (refine Ext.trans ?_ (by assumption))))⟩

set_option maxHeartbeats 1000000 in
set_option maxRecDepth 100000 in
theorem homOk_spec5 (fk fp fn tk tp tn ha : Int) (hr : ringOk fk fp fn = true) (hr2 : ringOk tk tp tn = true) (w : World) : Calls Try.prog 96 #[ringV fk fp fn, ringV tk tp tn, homV 5 ha] w fun e w' =>
    e = .returned (.bool (homOk fk fp fn tk tp tn 5 ha)) ∧ Ext w w' := by
  have HF := Lib.hid (homOk_yes (hk := 5) (ha := ha) hr hr2)
  by_cases ha0 : ha = 0
  · subst ha0
    go_enter Try.func96, Try.ntmps96
    go_wp2_with fail
    refine (ringOk_spec _ _ _ _).mono ?_; rintro e1 w1 ⟨rfl, h1⟩; have s1 := h1.size; (try simp at s1); have t1_0 : w.heap.size < w1.heap.size := (by omega); have c1_0 := fun o => h1.cells (w.heap.size) o (by first | (simp; done) | (simp; omega) | omega); have t1_1 : w.heap.size + 1 < w1.heap.size := (by omega); have c1_1 := fun o => h1.cells (w.heap.size + 1) o (by first | (simp; done) | (simp; omega) | omega); have t1_2 : w.heap.size + 2 < w1.heap.size := (by omega); have c1_2 := fun o => h1.cells (w.heap.size + 2) o (by first | (simp; done) | (simp; omega) | omega); go_wp2_with fail
    refine (ringOk_spec _ _ _ _).mono ?_; rintro e2 w2 ⟨rfl, h2⟩; have s2 := h2.size; (try simp at s2); have t2_0 : w.heap.size < w2.heap.size := (by omega); have c2_0 := fun o => h2.cells (w.heap.size) o (by first | (simp; done) | (simp; omega) | omega); have t2_1 : w.heap.size + 1 < w2.heap.size := (by omega); have c2_1 := fun o => h2.cells (w.heap.size + 1) o (by first | (simp; done) | (simp; omega) | omega); have t2_2 : w.heap.size + 2 < w2.heap.size := (by omega); have c2_2 := fun o => h2.cells (w.heap.size + 2) o (by first | (simp; done) | (simp; omega) | omega)
    go_wp2
    all_goals
      go_ret
      exact ⟨ret_bool (by subst_vars; rw [HF.out]; simp [homRaw, *] <;> omega), (by repeat' (first | (with_reducible exact Ext.refl _) | (with_reducible assumption) | (with_reducible apply Ext.alloc) | (with_reducible apply Ext.drew) | (with_reducible apply Ext.drewN) | (refine Ext.setAt ?_ (by omega) _ _) | (refine Ext.trans ?_ (by assumption))))⟩
  · go_enter Try.func96, Try.ntmps96
    go_wp2_with fail
    refine (ringOk_spec _ _ _ _).mono ?_; rintro e1 w1 ⟨rfl, h1⟩; have s1 := h1.size; (try simp at s1); have t1_0 : w.heap.size < w1.heap.size := (by omega); have c1_0 := fun o => h1.cells (w.heap.size) o (by first | (simp; done) | (simp; omega) | omega); have t1_1 : w.heap.size + 1 < w1.heap.size := (by omega); have c1_1 := fun o => h1.cells (w.heap.size + 1) o (by first | (simp; done) | (simp; omega) | omega); have t1_2 : w.heap.size + 2 < w1.heap.size := (by omega); have c1_2 := fun o => h1.cells (w.heap.size + 2) o (by first | (simp; done) | (simp; omega) | omega); go_wp2_with fail
    refine (ringOk_spec _ _ _ _).mono ?_; rintro e2 w2 ⟨rfl, h2⟩; have s2 := h2.size; (try simp at s2); have t2_0 : w.heap.size < w2.heap.size := (by omega); have c2_0 := fun o => h2.cells (w.heap.size) o (by first | (simp; done) | (simp; omega) | omega); have t2_1 : w.heap.size + 1 < w2.heap.size := (by omega); have c2_1 := fun o => h2.cells (w.heap.size + 1) o (by first | (simp; done) | (simp; omega) | omega); have t2_2 : w.heap.size + 2 < w2.heap.size := (by omega); have c2_2 := fun o => h2.cells (w.heap.size + 2) o (by first | (simp; done) | (simp; omega) | omega)
    go_wp2
    all_goals
      go_ret
      exact ⟨ret_bool (by subst_vars; rw [HF.out]; simp [homRaw, *]), (by repeat' (first | (with_reducible exact Ext.refl _) | (with_reducible assumption) | (with_reducible apply Ext.alloc) | (with_reducible apply Ext.drew) | (with_reducible apply Ext.drewN) | (refine Ext.setAt ?_ (by omega) _ _) | (refine Ext.trans ?_ (by assumption))))⟩

set_option maxHeartbeats 1000000 in
set_option maxRecDepth 100000 in
theorem homOk_spec6 (fk fp fn tk tp tn ha : Int) (hr : ringOk fk fp fn = true) (hr2 : ringOk tk tp tn = true) (w : World) : Calls Try.prog 96 #[ringV fk fp fn, ringV tk tp tn, homV 6 ha] w fun e w' =>
    e = .returned (.bool (homOk fk fp fn tk tp tn 6 ha)) ∧ Ext w w' := by
  have HF := Lib.hid (homOk_yes (hk := 6) (ha := ha) hr hr2)
  by_cases g8 : fk = 8 ∧ tk = 2 ∧ fp = tp
  · obtain ⟨rfl, rfl, rfl⟩ := g8
    have hp1 : 1 ≤ fp ∧ fp ≤ 1000003 := by
      simp [ringOk] at hr
      exact ⟨by have := isPrime_ge hr.1.1; omega, isPrime_le hr.1.1⟩
    obtain ⟨hp1, hp2⟩ := hp1
    by_cases g : 1 ≤ ha ∧ ha ≤ fp - 1
    · obtain ⟨g1, g2⟩ := g
      obtain ⟨q1, q2⟩ := sq_bound g1 g2 hp2
      have q3 := Int.emod_nonneg (ha * ha) (show fp ≠ 0 by omega)
      have q4 := Int.emod_lt_of_pos (ha * ha) (show 0 < fp by omega)
      obtain ⟨q5, q6⟩ := mul_bound q3 q4 (show 0 ≤ ha by omega) (show ha < fp by omega) hp2
      have q7 := Int.emod_nonneg (ha * ha % fp * ha) (show fp ≠ 0 by omega)
      have q8 := Int.emod_lt_of_pos (ha * ha % fp * ha) (show 0 < fp by omega)
      obtain ⟨q9, q10⟩ := mul_bound q7 q8 (show 0 ≤ ha by omega) (show ha < fp by omega) hp2
      have HR : Hid (rootOk fp ha = (ha * ha % fp * ha % fp * ha % fp == fp - 1)) := Lib.hid (by rw [fourth]; simp [rootOk, g1, g2])
      have d1 : decide (1 ≤ ha) = true := by simpa using g1
      have d2 : decide (ha ≤ fp - 1) = true := by simpa using g2
      go_enter Try.func96, Try.ntmps96
      go_wp2_with fail
      refine (ringOk_spec _ _ _ _).mono ?_; rintro e1 w1 ⟨rfl, h1⟩; have s1 := h1.size; (try simp at s1); have t1_0 : w.heap.size < w1.heap.size := (by omega); have c1_0 := fun o => h1.cells (w.heap.size) o (by first | (simp; done) | (simp; omega) | omega); have t1_1 : w.heap.size + 1 < w1.heap.size := (by omega); have c1_1 := fun o => h1.cells (w.heap.size + 1) o (by first | (simp; done) | (simp; omega) | omega); have t1_2 : w.heap.size + 2 < w1.heap.size := (by omega); have c1_2 := fun o => h1.cells (w.heap.size + 2) o (by first | (simp; done) | (simp; omega) | omega); go_wp2_with fail
      refine (ringOk_spec _ _ _ _).mono ?_; rintro e2 w2 ⟨rfl, h2⟩; have s2 := h2.size; (try simp at s2); have t2_0 : w.heap.size < w2.heap.size := (by omega); have c2_0 := fun o => h2.cells (w.heap.size) o (by first | (simp; done) | (simp; omega) | omega); have t2_1 : w.heap.size + 1 < w2.heap.size := (by omega); have c2_1 := fun o => h2.cells (w.heap.size + 1) o (by first | (simp; done) | (simp; omega) | omega); have t2_2 : w.heap.size + 2 < w2.heap.size := (by omega); have c2_2 := fun o => h2.cells (w.heap.size + 2) o (by first | (simp; done) | (simp; omega) | omega)
      go_wp2
      go_quiet ((go_at_call 76; exact Calls.quiet_of_same (in_quiet _ _ _ _)))
      go_wp2
      all_goals
        go_ret
        exact ⟨ret_bool (by rw [HF.out]; simp only [homRaw, HR.out]; simp), (by repeat' (first | (with_reducible exact Ext.refl _) | (with_reducible assumption) | (with_reducible apply Ext.alloc) | (with_reducible apply Ext.drew) | (with_reducible apply Ext.drewN) | (refine Ext.setAt ?_ (by omega) _ _) | (refine Ext.trans ?_ (by assumption))))⟩
    · have HR : Hid (rootOk fp ha = false) := Lib.hid (by simp [rootOk]; omega)
      have d1 : (decide (1 ≤ ha) && decide (ha ≤ fp - 1)) = false := by simp; omega
      go_enter Try.func96, Try.ntmps96
      go_wp2_with fail
      refine (ringOk_spec _ _ _ _).mono ?_; rintro e1 w1 ⟨rfl, h1⟩; have s1 := h1.size; (try simp at s1); have t1_0 : w.heap.size < w1.heap.size := (by omega); have c1_0 := fun o => h1.cells (w.heap.size) o (by first | (simp; done) | (simp; omega) | omega); have t1_1 : w.heap.size + 1 < w1.heap.size := (by omega); have c1_1 := fun o => h1.cells (w.heap.size + 1) o (by first | (simp; done) | (simp; omega) | omega); have t1_2 : w.heap.size + 2 < w1.heap.size := (by omega); have c1_2 := fun o => h1.cells (w.heap.size + 2) o (by first | (simp; done) | (simp; omega) | omega); go_wp2_with fail
      refine (ringOk_spec _ _ _ _).mono ?_; rintro e2 w2 ⟨rfl, h2⟩; have s2 := h2.size; (try simp at s2); have t2_0 : w.heap.size < w2.heap.size := (by omega); have c2_0 := fun o => h2.cells (w.heap.size) o (by first | (simp; done) | (simp; omega) | omega); have t2_1 : w.heap.size + 1 < w2.heap.size := (by omega); have c2_1 := fun o => h2.cells (w.heap.size + 1) o (by first | (simp; done) | (simp; omega) | omega); have t2_2 : w.heap.size + 2 < w2.heap.size := (by omega); have c2_2 := fun o => h2.cells (w.heap.size + 2) o (by first | (simp; done) | (simp; omega) | omega)
      go_wp2
      go_quiet ((go_at_call 76; exact Calls.quiet_of_same (in_quiet _ _ _ _)))
      go_wp2
      all_goals
        go_ret
        exact ⟨ret_bool (by rw [HF.out]; simp only [homRaw, HR.out]; simp), (by repeat' (first | (with_reducible exact Ext.refl _) | (with_reducible assumption) | (with_reducible apply Ext.alloc) | (with_reducible apply Ext.drew) | (with_reducible apply Ext.drewN) | (refine Ext.setAt ?_ (by omega) _ _) | (refine Ext.trans ?_ (by assumption))))⟩
  · by_cases q8 : fk = 8
    · by_cases q2 : tk = 2
      · exact homOk_spec6c fk fp fn tk tp tn ha q8 q2 (fun e => g8 ⟨q8, q2, e⟩) hr hr2 w
      · exact homOk_spec6b fk fp fn tk tp tn ha q8 q2 hr hr2 w
    · exact homOk_spec6a fk fp fn tk tp tn ha q8 hr hr2 w

set_option maxHeartbeats 1000000 in
set_option maxRecDepth 100000 in
theorem homOk_spec7 (fk fp fn tk tp tn ha : Int) (hr : ringOk fk fp fn = true) (hr2 : ringOk tk tp tn = true) (w : World) : Calls Try.prog 96 #[ringV fk fp fn, ringV tk tp tn, homV 7 ha] w fun e w' =>
    e = .returned (.bool (homOk fk fp fn tk tp tn 7 ha)) ∧ Ext w w' := by
  have HF := Lib.hid (homOk_yes (hk := 7) (ha := ha) hr hr2)
  by_cases ha0 : ha = 0
  · subst ha0
    have hs : (fk = 6 → fp = 0) ∧ (tk = 6 → tp = 0) := ⟨fun e => by subst e; simp [ringOk] at hr; exact hr.1.1, fun e => by subst e; simp [ringOk] at hr2; exact hr2.1.1⟩
    have HS := Lib.hid hs; clear hs
    have hk : fk = 3 ∨ fk = 4 ∨ fk = 5 ∨ fk = 7 ∨ fk = 6 ∨ (¬ fk = 3 ∧ ¬ fk = 4 ∧ ¬ fk = 5 ∧ ¬ fk = 7 ∧ ¬ fk = 6) := by omega
    by_cases hft : fk = tk
    · subst hft
      have hz : fk = 6 → fp = tp := fun e => by have := HS.out.1 e; have := HS.out.2 e; omega
      clear HS
      rcases hk with rfl | rfl | rfl | rfl | rfl | ⟨e3, e4, e5, e7, e6⟩
      all_goals try (obtain rfl := hz rfl)
      all_goals clear hz
      all_goals
        go_enter Try.func96, Try.ntmps96
        go_wp2_with fail
        refine (ringOk_spec _ _ _ _).mono ?_; rintro e1 w1 ⟨rfl, h1⟩; have s1 := h1.size; (try simp at s1); have t1_0 : w.heap.size < w1.heap.size := (by omega); have c1_0 := fun o => h1.cells (w.heap.size) o (by first | (simp; done) | (simp; omega) | omega); have t1_1 : w.heap.size + 1 < w1.heap.size := (by omega); have c1_1 := fun o => h1.cells (w.heap.size + 1) o (by first | (simp; done) | (simp; omega) | omega); have t1_2 : w.heap.size + 2 < w1.heap.size := (by omega); have c1_2 := fun o => h1.cells (w.heap.size + 2) o (by first | (simp; done) | (simp; omega) | omega); go_wp2_with fail
        refine (ringOk_spec _ _ _ _).mono ?_; rintro e2 w2 ⟨rfl, h2⟩; have s2 := h2.size; (try simp at s2); have t2_0 : w.heap.size < w2.heap.size := (by omega); have c2_0 := fun o => h2.cells (w.heap.size) o (by first | (simp; done) | (simp; omega) | omega); have t2_1 : w.heap.size + 1 < w2.heap.size := (by omega); have c2_1 := fun o => h2.cells (w.heap.size + 1) o (by first | (simp; done) | (simp; omega) | omega); have t2_2 : w.heap.size + 2 < w2.heap.size := (by omega); have c2_2 := fun o => h2.cells (w.heap.size + 2) o (by first | (simp; done) | (simp; omega) | omega)
        go_wp2
        all_goals
          go_ret
          exact ⟨ret_bool (by subst_vars; rw [HF.out]; simp [homRaw, cutOk, *] <;> omega), (by repeat' (first | (with_reducible exact Ext.refl _) | (with_reducible assumption) | (with_reducible apply Ext.alloc) | (with_reducible apply Ext.drew) | (with_reducible apply Ext.drewN) | (refine Ext.setAt ?_ (by omega) _ _) | (refine Ext.trans ?_ (by assumption))))⟩
    · have hft2 : ¬ tk = fk := fun e => hft e.symm
      rcases hk with rfl | rfl | rfl | rfl | rfl | ⟨e3, e4, e5, e7, e6⟩
      all_goals
        go_enter Try.func96, Try.ntmps96
        go_wp2_with fail
        refine (ringOk_spec _ _ _ _).mono ?_; rintro e1 w1 ⟨rfl, h1⟩; have s1 := h1.size; (try simp at s1); have t1_0 : w.heap.size < w1.heap.size := (by omega); have c1_0 := fun o => h1.cells (w.heap.size) o (by first | (simp; done) | (simp; omega) | omega); have t1_1 : w.heap.size + 1 < w1.heap.size := (by omega); have c1_1 := fun o => h1.cells (w.heap.size + 1) o (by first | (simp; done) | (simp; omega) | omega); have t1_2 : w.heap.size + 2 < w1.heap.size := (by omega); have c1_2 := fun o => h1.cells (w.heap.size + 2) o (by first | (simp; done) | (simp; omega) | omega); go_wp2_with fail
        refine (ringOk_spec _ _ _ _).mono ?_; rintro e2 w2 ⟨rfl, h2⟩; have s2 := h2.size; (try simp at s2); have t2_0 : w.heap.size < w2.heap.size := (by omega); have c2_0 := fun o => h2.cells (w.heap.size) o (by first | (simp; done) | (simp; omega) | omega); have t2_1 : w.heap.size + 1 < w2.heap.size := (by omega); have c2_1 := fun o => h2.cells (w.heap.size + 1) o (by first | (simp; done) | (simp; omega) | omega); have t2_2 : w.heap.size + 2 < w2.heap.size := (by omega); have c2_2 := fun o => h2.cells (w.heap.size + 2) o (by first | (simp; done) | (simp; omega) | omega)
        go_wp2
        all_goals
          go_ret
          exact ⟨ret_bool (by rw [HF.out]; simp [homRaw, cutOk, *] <;> omega), (by repeat' (first | (with_reducible exact Ext.refl _) | (with_reducible assumption) | (with_reducible apply Ext.alloc) | (with_reducible apply Ext.drew) | (with_reducible apply Ext.drewN) | (refine Ext.setAt ?_ (by omega) _ _) | (refine Ext.trans ?_ (by assumption))))⟩
  · go_enter Try.func96, Try.ntmps96
    go_wp2_with fail
    refine (ringOk_spec _ _ _ _).mono ?_; rintro e1 w1 ⟨rfl, h1⟩; have s1 := h1.size; (try simp at s1); have t1_0 : w.heap.size < w1.heap.size := (by omega); have c1_0 := fun o => h1.cells (w.heap.size) o (by first | (simp; done) | (simp; omega) | omega); have t1_1 : w.heap.size + 1 < w1.heap.size := (by omega); have c1_1 := fun o => h1.cells (w.heap.size + 1) o (by first | (simp; done) | (simp; omega) | omega); have t1_2 : w.heap.size + 2 < w1.heap.size := (by omega); have c1_2 := fun o => h1.cells (w.heap.size + 2) o (by first | (simp; done) | (simp; omega) | omega); go_wp2_with fail
    refine (ringOk_spec _ _ _ _).mono ?_; rintro e2 w2 ⟨rfl, h2⟩; have s2 := h2.size; (try simp at s2); have t2_0 : w.heap.size < w2.heap.size := (by omega); have c2_0 := fun o => h2.cells (w.heap.size) o (by first | (simp; done) | (simp; omega) | omega); have t2_1 : w.heap.size + 1 < w2.heap.size := (by omega); have c2_1 := fun o => h2.cells (w.heap.size + 1) o (by first | (simp; done) | (simp; omega) | omega); have t2_2 : w.heap.size + 2 < w2.heap.size := (by omega); have c2_2 := fun o => h2.cells (w.heap.size + 2) o (by first | (simp; done) | (simp; omega) | omega)
    go_wp2
    all_goals
      go_ret
      exact ⟨ret_bool (by subst_vars; rw [HF.out]; simp [homRaw, *]), (by repeat' (first | (with_reducible exact Ext.refl _) | (with_reducible assumption) | (with_reducible apply Ext.alloc) | (with_reducible apply Ext.drew) | (with_reducible apply Ext.drewN) | (refine Ext.setAt ?_ (by omega) _ _) | (refine Ext.trans ?_ (by assumption))))⟩

set_option maxHeartbeats 1000000 in
set_option maxRecDepth 100000 in
theorem homOk_spec8 (fk fp fn tk tp tn ha : Int) (hr : ringOk fk fp fn = true) (hr2 : ringOk tk tp tn = true) (w : World) : Calls Try.prog 96 #[ringV fk fp fn, ringV tk tp tn, homV 8 ha] w fun e w' =>
    e = .returned (.bool (homOk fk fp fn tk tp tn 8 ha)) ∧ Ext w w' := by
  have HF := Lib.hid (homOk_yes (hk := 8) (ha := ha) hr hr2)
  by_cases ha0 : ha = 0
  · subst ha0
    go_enter Try.func96, Try.ntmps96
    go_wp2_with fail
    refine (ringOk_spec _ _ _ _).mono ?_; rintro e1 w1 ⟨rfl, h1⟩; have s1 := h1.size; (try simp at s1); have t1_0 : w.heap.size < w1.heap.size := (by omega); have c1_0 := fun o => h1.cells (w.heap.size) o (by first | (simp; done) | (simp; omega) | omega); have t1_1 : w.heap.size + 1 < w1.heap.size := (by omega); have c1_1 := fun o => h1.cells (w.heap.size + 1) o (by first | (simp; done) | (simp; omega) | omega); have t1_2 : w.heap.size + 2 < w1.heap.size := (by omega); have c1_2 := fun o => h1.cells (w.heap.size + 2) o (by first | (simp; done) | (simp; omega) | omega); go_wp2_with fail
    refine (ringOk_spec _ _ _ _).mono ?_; rintro e2 w2 ⟨rfl, h2⟩; have s2 := h2.size; (try simp at s2); have t2_0 : w.heap.size < w2.heap.size := (by omega); have c2_0 := fun o => h2.cells (w.heap.size) o (by first | (simp; done) | (simp; omega) | omega); have t2_1 : w.heap.size + 1 < w2.heap.size := (by omega); have c2_1 := fun o => h2.cells (w.heap.size + 1) o (by first | (simp; done) | (simp; omega) | omega); have t2_2 : w.heap.size + 2 < w2.heap.size := (by omega); have c2_2 := fun o => h2.cells (w.heap.size + 2) o (by first | (simp; done) | (simp; omega) | omega)
    go_wp2
    all_goals
      go_ret
      exact ⟨ret_bool (by subst_vars; rw [HF.out]; simp [homRaw, *] <;> omega), (by repeat' (first | (with_reducible exact Ext.refl _) | (with_reducible assumption) | (with_reducible apply Ext.alloc) | (with_reducible apply Ext.drew) | (with_reducible apply Ext.drewN) | (refine Ext.setAt ?_ (by omega) _ _) | (refine Ext.trans ?_ (by assumption))))⟩
  · go_enter Try.func96, Try.ntmps96
    go_wp2_with fail
    refine (ringOk_spec _ _ _ _).mono ?_; rintro e1 w1 ⟨rfl, h1⟩; have s1 := h1.size; (try simp at s1); have t1_0 : w.heap.size < w1.heap.size := (by omega); have c1_0 := fun o => h1.cells (w.heap.size) o (by first | (simp; done) | (simp; omega) | omega); have t1_1 : w.heap.size + 1 < w1.heap.size := (by omega); have c1_1 := fun o => h1.cells (w.heap.size + 1) o (by first | (simp; done) | (simp; omega) | omega); have t1_2 : w.heap.size + 2 < w1.heap.size := (by omega); have c1_2 := fun o => h1.cells (w.heap.size + 2) o (by first | (simp; done) | (simp; omega) | omega); go_wp2_with fail
    refine (ringOk_spec _ _ _ _).mono ?_; rintro e2 w2 ⟨rfl, h2⟩; have s2 := h2.size; (try simp at s2); have t2_0 : w.heap.size < w2.heap.size := (by omega); have c2_0 := fun o => h2.cells (w.heap.size) o (by first | (simp; done) | (simp; omega) | omega); have t2_1 : w.heap.size + 1 < w2.heap.size := (by omega); have c2_1 := fun o => h2.cells (w.heap.size + 1) o (by first | (simp; done) | (simp; omega) | omega); have t2_2 : w.heap.size + 2 < w2.heap.size := (by omega); have c2_2 := fun o => h2.cells (w.heap.size + 2) o (by first | (simp; done) | (simp; omega) | omega)
    go_wp2
    all_goals
      go_ret
      exact ⟨ret_bool (by subst_vars; rw [HF.out]; simp [homRaw, *]), (by repeat' (first | (with_reducible exact Ext.refl _) | (with_reducible assumption) | (with_reducible apply Ext.alloc) | (with_reducible apply Ext.drew) | (with_reducible apply Ext.drewN) | (refine Ext.setAt ?_ (by omega) _ _) | (refine Ext.trans ?_ (by assumption))))⟩

set_option maxHeartbeats 1000000 in
set_option maxRecDepth 100000 in
theorem homOk_spec0 (fk fp fn tk tp tn ha : Int) (hk : Int) (e : ¬ hk = 1 ∧ ¬ hk = 2 ∧ ¬ hk = 3 ∧ ¬ hk = 4 ∧ ¬ hk = 5 ∧ ¬ hk = 6 ∧ ¬ hk = 7 ∧ ¬ hk = 8) (hr : ringOk fk fp fn = true) (hr2 : ringOk tk tp tn = true) (w : World) : Calls Try.prog 96 #[ringV fk fp fn, ringV tk tp tn, homV hk ha] w fun e w' =>
    e = .returned (.bool (homOk fk fp fn tk tp tn hk ha)) ∧ Ext w w' := by
  have HF := Lib.hid (homOk_yes (hk := hk) (ha := ha) hr hr2)
  obtain ⟨e1, e2, e3, e4, e5, e6, e7, e8⟩ := e
  by_cases ha0 : ha = 0
  · subst ha0
    go_enter Try.func96, Try.ntmps96
    go_wp2_with fail
    refine (ringOk_spec _ _ _ _).mono ?_; rintro e1 w1 ⟨rfl, h1⟩; have s1 := h1.size; (try simp at s1); have t1_0 : w.heap.size < w1.heap.size := (by omega); have c1_0 := fun o => h1.cells (w.heap.size) o (by first | (simp; done) | (simp; omega) | omega); have t1_1 : w.heap.size + 1 < w1.heap.size := (by omega); have c1_1 := fun o => h1.cells (w.heap.size + 1) o (by first | (simp; done) | (simp; omega) | omega); have t1_2 : w.heap.size + 2 < w1.heap.size := (by omega); have c1_2 := fun o => h1.cells (w.heap.size + 2) o (by first | (simp; done) | (simp; omega) | omega); go_wp2_with fail
    refine (ringOk_spec _ _ _ _).mono ?_; rintro e2 w2 ⟨rfl, h2⟩; have s2 := h2.size; (try simp at s2); have t2_0 : w.heap.size < w2.heap.size := (by omega); have c2_0 := fun o => h2.cells (w.heap.size) o (by first | (simp; done) | (simp; omega) | omega); have t2_1 : w.heap.size + 1 < w2.heap.size := (by omega); have c2_1 := fun o => h2.cells (w.heap.size + 1) o (by first | (simp; done) | (simp; omega) | omega); have t2_2 : w.heap.size + 2 < w2.heap.size := (by omega); have c2_2 := fun o => h2.cells (w.heap.size + 2) o (by first | (simp; done) | (simp; omega) | omega)
    go_wp2
    all_goals
      go_ret
      exact ⟨ret_bool (by subst_vars; rw [HF.out]; simp [homRaw, *] <;> omega), (by repeat' (first | (with_reducible exact Ext.refl _) | (with_reducible assumption) | (with_reducible apply Ext.alloc) | (with_reducible apply Ext.drew) | (with_reducible apply Ext.drewN) | (refine Ext.setAt ?_ (by omega) _ _) | (refine Ext.trans ?_ (by assumption))))⟩
  · go_enter Try.func96, Try.ntmps96
    go_wp2_with fail
    refine (ringOk_spec _ _ _ _).mono ?_; rintro e1 w1 ⟨rfl, h1⟩; have s1 := h1.size; (try simp at s1); have t1_0 : w.heap.size < w1.heap.size := (by omega); have c1_0 := fun o => h1.cells (w.heap.size) o (by first | (simp; done) | (simp; omega) | omega); have t1_1 : w.heap.size + 1 < w1.heap.size := (by omega); have c1_1 := fun o => h1.cells (w.heap.size + 1) o (by first | (simp; done) | (simp; omega) | omega); have t1_2 : w.heap.size + 2 < w1.heap.size := (by omega); have c1_2 := fun o => h1.cells (w.heap.size + 2) o (by first | (simp; done) | (simp; omega) | omega); go_wp2_with fail
    refine (ringOk_spec _ _ _ _).mono ?_; rintro e2 w2 ⟨rfl, h2⟩; have s2 := h2.size; (try simp at s2); have t2_0 : w.heap.size < w2.heap.size := (by omega); have c2_0 := fun o => h2.cells (w.heap.size) o (by first | (simp; done) | (simp; omega) | omega); have t2_1 : w.heap.size + 1 < w2.heap.size := (by omega); have c2_1 := fun o => h2.cells (w.heap.size + 1) o (by first | (simp; done) | (simp; omega) | omega); have t2_2 : w.heap.size + 2 < w2.heap.size := (by omega); have c2_2 := fun o => h2.cells (w.heap.size + 2) o (by first | (simp; done) | (simp; omega) | omega)
    go_wp2
    all_goals
      go_ret
      exact ⟨ret_bool (by subst_vars; rw [HF.out]; simp [homRaw, *]), (by repeat' (first | (with_reducible exact Ext.refl _) | (with_reducible assumption) | (with_reducible apply Ext.alloc) | (with_reducible apply Ext.drew) | (with_reducible apply Ext.drewN) | (refine Ext.setAt ?_ (by omega) _ _) | (refine Ext.trans ?_ (by assumption))))⟩

set_option maxHeartbeats 1000000 in
set_option maxRecDepth 100000 in
theorem homOk_spec (fk fp fn tk tp tn hk ha : Int) (w : World) : Calls Try.prog 96 #[ringV fk fp fn, ringV tk tp tn, homV hk ha] w fun e w' =>
    e = .returned (.bool (homOk fk fp fn tk tp tn hk ha)) ∧ Ext w w' := by
  cases hr : ringOk fk fp fn
  · have HF := Lib.hid (homOk_no1 (tk := tk) (tp := tp) (tn := tn) (hk := hk) (ha := ha) hr)
    go_enter Try.func96, Try.ntmps96
    go_wp2_with (go_at_call 70; refine (ringOk_spec _ _ _ _).mono ?_; rintro e1 w1 ⟨rfl, h1⟩; have s1 := h1.size; (try simp at s1); have t1_0 : w.heap.size < w1.heap.size := (by omega); have c1_0 := fun o => h1.cells (w.heap.size) o (by first | (simp; done) | (simp; omega) | omega); have t1_1 : w.heap.size + 1 < w1.heap.size := (by omega); have c1_1 := fun o => h1.cells (w.heap.size + 1) o (by first | (simp; done) | (simp; omega) | omega); have t1_2 : w.heap.size + 2 < w1.heap.size := (by omega); have c1_2 := fun o => h1.cells (w.heap.size + 2) o (by first | (simp; done) | (simp; omega) | omega))
    go_ret
    exact ⟨ret_bool HF.out.symm, (by repeat' (first | (with_reducible exact Ext.refl _) | (with_reducible assumption) | (with_reducible apply Ext.alloc) | (with_reducible apply Ext.drew) | (with_reducible apply Ext.drewN) | (refine Ext.setAt ?_ (by omega) _ _) | (refine Ext.trans ?_ (by assumption))))⟩
  cases hr2 : ringOk tk tp tn
  · have HF := Lib.hid (homOk_no2 (fk := fk) (fp := fp) (fn := fn) (hk := hk) (ha := ha) hr2)
    go_enter Try.func96, Try.ntmps96
    go_wp2_with fail
    refine (ringOk_spec _ _ _ _).mono ?_; rintro e1 w1 ⟨rfl, h1⟩; have s1 := h1.size; (try simp at s1); have t1_0 : w.heap.size < w1.heap.size := (by omega); have c1_0 := fun o => h1.cells (w.heap.size) o (by first | (simp; done) | (simp; omega) | omega); have t1_1 : w.heap.size + 1 < w1.heap.size := (by omega); have c1_1 := fun o => h1.cells (w.heap.size + 1) o (by first | (simp; done) | (simp; omega) | omega); have t1_2 : w.heap.size + 2 < w1.heap.size := (by omega); have c1_2 := fun o => h1.cells (w.heap.size + 2) o (by first | (simp; done) | (simp; omega) | omega); go_wp2_with fail
    refine (ringOk_spec _ _ _ _).mono ?_; rintro e2 w2 ⟨rfl, h2⟩; have s2 := h2.size; (try simp at s2); have t2_0 : w.heap.size < w2.heap.size := (by omega); have c2_0 := fun o => h2.cells (w.heap.size) o (by first | (simp; done) | (simp; omega) | omega); have t2_1 : w.heap.size + 1 < w2.heap.size := (by omega); have c2_1 := fun o => h2.cells (w.heap.size + 1) o (by first | (simp; done) | (simp; omega) | omega); have t2_2 : w.heap.size + 2 < w2.heap.size := (by omega); have c2_2 := fun o => h2.cells (w.heap.size + 2) o (by first | (simp; done) | (simp; omega) | omega)
    go_wp2
    go_ret
    exact ⟨ret_bool HF.out.symm, (by repeat' (first | (with_reducible exact Ext.refl _) | (with_reducible assumption) | (with_reducible apply Ext.alloc) | (with_reducible apply Ext.drew) | (with_reducible apply Ext.drewN) | (refine Ext.setAt ?_ (by omega) _ _) | (refine Ext.trans ?_ (by assumption))))⟩
  rcases kinds hk with rfl | rfl | rfl | rfl | rfl | rfl | rfl | rfl | e
  · exact homOk_spec1 fk fp fn tk tp tn ha hr hr2 w
  · exact homOk_spec2 fk fp fn tk tp tn ha hr hr2 w
  · exact homOk_spec3 fk fp fn tk tp tn ha hr hr2 w
  · exact homOk_spec4 fk fp fn tk tp tn ha hr hr2 w
  · exact homOk_spec5 fk fp fn tk tp tn ha hr hr2 w
  · exact homOk_spec6 fk fp fn tk tp tn ha hr hr2 w
  · exact homOk_spec7 fk fp fn tk tp tn ha hr hr2 w
  · exact homOk_spec8 fk fp fn tk tp tn ha hr hr2 w
  · exact homOk_spec0 fk fp fn tk tp tn ha hk e hr hr2 w
end Go.Proofs.Ytlmidcclcnehnaa
