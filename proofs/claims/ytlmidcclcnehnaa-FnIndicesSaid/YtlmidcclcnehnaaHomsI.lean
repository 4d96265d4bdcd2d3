/- HomOk of the program. -/
import Derived.Test.YtlmidcclcnehnaaHoms
namespace Go.Proofs.Ytlmidcclcnehnaa
open Go.RowKit
set_option linter.unusedSimpArgs false
set_option linter.unusedVariables false

set_option maxHeartbeats 1000000 in
set_option maxRecDepth 100000 in
theorem homOk_impl1 (fk fp fn tk tp tn ha : Int) (hr : ringOk fk fp fn = true) (hr2 : ringOk tk tp tn = true) (w : World) : Calls Try.prog 62 #[ringV fk fp fn, ringV tk tp tn, homV 1 ha] w fun e w' =>
    e = .returned (.bool (homOk fk fp fn tk tp tn 1 ha)) ∧ Ext w w' := by
  have HF := Lib.hid (homOk_yes (hk := 1) (ha := ha) hr hr2)
  go_enter Try.func62, Try.ntmps62
  go_wp2_with fail
  refine (ringOk_impl _ _ _ _).mono ?_; rintro e1 w1 ⟨rfl, h1⟩; have s1 := h1.size; (try simp at s1); have t1_0 : w.heap.size < w1.heap.size := (by omega); have c1_0 := fun o => h1.cells (w.heap.size) o (by first | (simp; done) | (simp; omega) | omega); have t1_1 : w.heap.size + 1 < w1.heap.size := (by omega); have c1_1 := fun o => h1.cells (w.heap.size + 1) o (by first | (simp; done) | (simp; omega) | omega); have t1_2 : w.heap.size + 2 < w1.heap.size := (by omega); have c1_2 := fun o => h1.cells (w.heap.size + 2) o (by first | (simp; done) | (simp; omega) | omega); go_wp2_with fail
  refine (ringOk_impl _ _ _ _).mono ?_; rintro e2 w2 ⟨rfl, h2⟩; have s2 := h2.size; (try simp at s2); have t2_0 : w.heap.size < w2.heap.size := (by omega); have c2_0 := fun o => h2.cells (w.heap.size) o (by first | (simp; done) | (simp; omega) | omega); have t2_1 : w.heap.size + 1 < w2.heap.size := (by omega); have c2_1 := fun o => h2.cells (w.heap.size + 1) o (by first | (simp; done) | (simp; omega) | omega); have t2_2 : w.heap.size + 2 < w2.heap.size := (by omega); have c2_2 := fun o => h2.cells (w.heap.size + 2) o (by first | (simp; done) | (simp; omega) | omega)
  go_wp2
  all_goals
    go_ret
    exact ⟨ret_bool (by subst_vars; rw [HF.out]; simp [homRaw, *] <;> omega), (by repeat' (first | (with_reducible exact Ext.refl _) | (with_reducible assumption) | (with_reducible apply Ext.alloc) | (with_reducible apply Ext.drew) | (with_reducible apply Ext.drewN) | (refine Ext.setAt ?_ (by omega) _ _) | (refine Ext.trans ?_ (by assumption))))⟩

set_option maxHeartbeats 1000000 in
set_option maxRecDepth 100000 in
theorem homOk_impl2 (fk fp fn tk tp tn ha : Int) (hr : ringOk fk fp fn = true) (hr2 : ringOk tk tp tn = true) (w : World) : Calls Try.prog 62 #[ringV fk fp fn, ringV tk tp tn, homV 2 ha] w fun e w' =>
    e = .returned (.bool (homOk fk fp fn tk tp tn 2 ha)) ∧ Ext w w' := by
  have HF := Lib.hid (homOk_yes (hk := 2) (ha := ha) hr hr2)
  go_enter Try.func62, Try.ntmps62
  go_wp2_with fail
  refine (ringOk_impl _ _ _ _).mono ?_; rintro e1 w1 ⟨rfl, h1⟩; have s1 := h1.size; (try simp at s1); have t1_0 : w.heap.size < w1.heap.size := (by omega); have c1_0 := fun o => h1.cells (w.heap.size) o (by first | (simp; done) | (simp; omega) | omega); have t1_1 : w.heap.size + 1 < w1.heap.size := (by omega); have c1_1 := fun o => h1.cells (w.heap.size + 1) o (by first | (simp; done) | (simp; omega) | omega); have t1_2 : w.heap.size + 2 < w1.heap.size := (by omega); have c1_2 := fun o => h1.cells (w.heap.size + 2) o (by first | (simp; done) | (simp; omega) | omega); go_wp2_with fail
  refine (ringOk_impl _ _ _ _).mono ?_; rintro e2 w2 ⟨rfl, h2⟩; have s2 := h2.size; (try simp at s2); have t2_0 : w.heap.size < w2.heap.size := (by omega); have c2_0 := fun o => h2.cells (w.heap.size) o (by first | (simp; done) | (simp; omega) | omega); have t2_1 : w.heap.size + 1 < w2.heap.size := (by omega); have c2_1 := fun o => h2.cells (w.heap.size + 1) o (by first | (simp; done) | (simp; omega) | omega); have t2_2 : w.heap.size + 2 < w2.heap.size := (by omega); have c2_2 := fun o => h2.cells (w.heap.size + 2) o (by first | (simp; done) | (simp; omega) | omega)
  go_wp2
  all_goals
    go_ret
    exact ⟨ret_bool (by subst_vars; rw [HF.out]; simp [homRaw, *] <;> omega), (by repeat' (first | (with_reducible exact Ext.refl _) | (with_reducible assumption) | (with_reducible apply Ext.alloc) | (with_reducible apply Ext.drew) | (with_reducible apply Ext.drewN) | (refine Ext.setAt ?_ (by omega) _ _) | (refine Ext.trans ?_ (by assumption))))⟩

set_option maxHeartbeats 1000000 in
set_option maxRecDepth 100000 in
theorem homOk_impl3 (fk fp fn tk tp tn ha : Int) (hr : ringOk fk fp fn = true) (hr2 : ringOk tk tp tn = true) (w : World) : Calls Try.prog 62 #[ringV fk fp fn, ringV tk tp tn, homV 3 ha] w fun e w' =>
    e = .returned (.bool (homOk fk fp fn tk tp tn 3 ha)) ∧ Ext w w' := by
  have HF := Lib.hid (homOk_yes (hk := 3) (ha := ha) hr hr2)
  go_enter Try.func62, Try.ntmps62
  go_wp2_with fail
  refine (ringOk_impl _ _ _ _).mono ?_; rintro e1 w1 ⟨rfl, h1⟩; have s1 := h1.size; (try simp at s1); have t1_0 : w.heap.size < w1.heap.size := (by omega); have c1_0 := fun o => h1.cells (w.heap.size) o (by first | (simp; done) | (simp; omega) | omega); have t1_1 : w.heap.size + 1 < w1.heap.size := (by omega); have c1_1 := fun o => h1.cells (w.heap.size + 1) o (by first | (simp; done) | (simp; omega) | omega); have t1_2 : w.heap.size + 2 < w1.heap.size := (by omega); have c1_2 := fun o => h1.cells (w.heap.size + 2) o (by first | (simp; done) | (simp; omega) | omega); go_wp2_with fail
  refine (ringOk_impl _ _ _ _).mono ?_; rintro e2 w2 ⟨rfl, h2⟩; have s2 := h2.size; (try simp at s2); have t2_0 : w.heap.size < w2.heap.size := (by omega); have c2_0 := fun o => h2.cells (w.heap.size) o (by first | (simp; done) | (simp; omega) | omega); have t2_1 : w.heap.size + 1 < w2.heap.size := (by omega); have c2_1 := fun o => h2.cells (w.heap.size + 1) o (by first | (simp; done) | (simp; omega) | omega); have t2_2 : w.heap.size + 2 < w2.heap.size := (by omega); have c2_2 := fun o => h2.cells (w.heap.size + 2) o (by first | (simp; done) | (simp; omega) | omega)
  go_wp2
  all_goals
    go_ret
    exact ⟨ret_bool (by subst_vars; rw [HF.out]; simp [homRaw, *] <;> omega), (by repeat' (first | (with_reducible exact Ext.refl _) | (with_reducible assumption) | (with_reducible apply Ext.alloc) | (with_reducible apply Ext.drew) | (with_reducible apply Ext.drewN) | (refine Ext.setAt ?_ (by omega) _ _) | (refine Ext.trans ?_ (by assumption))))⟩

set_option maxHeartbeats 1000000 in
set_option maxRecDepth 100000 in
theorem homOk_impl4 (fk fp fn tk tp tn ha : Int) (hr : ringOk fk fp fn = true) (hr2 : ringOk tk tp tn = true) (w : World) : Calls Try.prog 62 #[ringV fk fp fn, ringV tk tp tn, homV 4 ha] w fun e w' =>
    e = .returned (.bool (homOk fk fp fn tk tp tn 4 ha)) ∧ Ext w w' := by
  have HF := Lib.hid (homOk_yes (hk := 4) (ha := ha) hr hr2)
  go_enter Try.func62, Try.ntmps62
  go_wp2_with fail
  refine (ringOk_impl _ _ _ _).mono ?_; rintro e1 w1 ⟨rfl, h1⟩; have s1 := h1.size; (try simp at s1); have t1_0 : w.heap.size < w1.heap.size := (by omega); have c1_0 := fun o => h1.cells (w.heap.size) o (by first | (simp; done) | (simp; omega) | omega); have t1_1 : w.heap.size + 1 < w1.heap.size := (by omega); have c1_1 := fun o => h1.cells (w.heap.size + 1) o (by first | (simp; done) | (simp; omega) | omega); have t1_2 : w.heap.size + 2 < w1.heap.size := (by omega); have c1_2 := fun o => h1.cells (w.heap.size + 2) o (by first | (simp; done) | (simp; omega) | omega); go_wp2_with fail
  refine (ringOk_impl _ _ _ _).mono ?_; rintro e2 w2 ⟨rfl, h2⟩; have s2 := h2.size; (try simp at s2); have t2_0 : w.heap.size < w2.heap.size := (by omega); have c2_0 := fun o => h2.cells (w.heap.size) o (by first | (simp; done) | (simp; omega) | omega); have t2_1 : w.heap.size + 1 < w2.heap.size := (by omega); have c2_1 := fun o => h2.cells (w.heap.size + 1) o (by first | (simp; done) | (simp; omega) | omega); have t2_2 : w.heap.size + 2 < w2.heap.size := (by omega); have c2_2 := fun o => h2.cells (w.heap.size + 2) o (by first | (simp; done) | (simp; omega) | omega)
  go_wp2
  all_goals
    go_ret
    exact ⟨ret_bool (by subst_vars; rw [HF.out]; simp [homRaw, *] <;> omega), (by repeat' (first | (with_reducible exact Ext.refl _) | (with_reducible assumption) | (with_reducible apply Ext.alloc) | (with_reducible apply Ext.drew) | (with_reducible apply Ext.drewN) | (refine Ext.setAt ?_ (by omega) _ _) | (refine Ext.trans ?_ (by assumption))))⟩

set_option maxHeartbeats 1000000 in
set_option maxRecDepth 100000 in
theorem homOk_impl5 (fk fp fn tk tp tn ha : Int) (hr : ringOk fk fp fn = true) (hr2 : ringOk tk tp tn = true) (w : World) : Calls Try.prog 62 #[ringV fk fp fn, ringV tk tp tn, homV 5 ha] w fun e w' =>
    e = .returned (.bool (homOk fk fp fn tk tp tn 5 ha)) ∧ Ext w w' := by
  have HF := Lib.hid (homOk_yes (hk := 5) (ha := ha) hr hr2)
  go_enter Try.func62, Try.ntmps62
  go_wp2_with fail
  refine (ringOk_impl _ _ _ _).mono ?_; rintro e1 w1 ⟨rfl, h1⟩; have s1 := h1.size; (try simp at s1); have t1_0 : w.heap.size < w1.heap.size := (by omega); have c1_0 := fun o => h1.cells (w.heap.size) o (by first | (simp; done) | (simp; omega) | omega); have t1_1 : w.heap.size + 1 < w1.heap.size := (by omega); have c1_1 := fun o => h1.cells (w.heap.size + 1) o (by first | (simp; done) | (simp; omega) | omega); have t1_2 : w.heap.size + 2 < w1.heap.size := (by omega); have c1_2 := fun o => h1.cells (w.heap.size + 2) o (by first | (simp; done) | (simp; omega) | omega); go_wp2_with fail
  refine (ringOk_impl _ _ _ _).mono ?_; rintro e2 w2 ⟨rfl, h2⟩; have s2 := h2.size; (try simp at s2); have t2_0 : w.heap.size < w2.heap.size := (by omega); have c2_0 := fun o => h2.cells (w.heap.size) o (by first | (simp; done) | (simp; omega) | omega); have t2_1 : w.heap.size + 1 < w2.heap.size := (by omega); have c2_1 := fun o => h2.cells (w.heap.size + 1) o (by first | (simp; done) | (simp; omega) | omega); have t2_2 : w.heap.size + 2 < w2.heap.size := (by omega); have c2_2 := fun o => h2.cells (w.heap.size + 2) o (by first | (simp; done) | (simp; omega) | omega)
  go_wp2
  all_goals
    go_ret
    exact ⟨ret_bool (by subst_vars; rw [HF.out]; simp [homRaw, *] <;> omega), (by repeat' (first | (with_reducible exact Ext.refl _) | (with_reducible assumption) | (with_reducible apply Ext.alloc) | (with_reducible apply Ext.drew) | (with_reducible apply Ext.drewN) | (refine Ext.setAt ?_ (by omega) _ _) | (refine Ext.trans ?_ (by assumption))))⟩

set_option maxHeartbeats 1000000 in
set_option maxRecDepth 100000 in
theorem homOk_impl6 (fk fp fn tk tp tn ha : Int) (hr : ringOk fk fp fn = true) (hr2 : ringOk tk tp tn = true) (w : World) : Calls Try.prog 62 #[ringV fk fp fn, ringV tk tp tn, homV 6 ha] w fun e w' =>
    e = .returned (.bool (homOk fk fp fn tk tp tn 6 ha)) ∧ Ext w w' := by
  have HF := Lib.hid (homOk_yes (hk := 6) (ha := ha) hr hr2)
  by_cases g8 : fk = 8 ∧ tk = 2 ∧ fp = tp
  · obtain ⟨rfl, rfl, rfl⟩ := g8
    have hp1 : 1 ≤ fp ∧ fp ≤ 1000003 := by
      simp [ringOk] at hr
      exact ⟨by have := isPrime_ge hr.1.1; omega, isPrime_le hr.1.1⟩
    obtain ⟨hp1, hp2⟩ := hp1
    go_enter Try.func62, Try.ntmps62
    go_wp2_with fail
    refine (ringOk_impl _ _ _ _).mono ?_; rintro e1 w1 ⟨rfl, h1⟩; have s1 := h1.size; (try simp at s1); have t1_0 : w.heap.size < w1.heap.size := (by omega); have c1_0 := fun o => h1.cells (w.heap.size) o (by first | (simp; done) | (simp; omega) | omega); have t1_1 : w.heap.size + 1 < w1.heap.size := (by omega); have c1_1 := fun o => h1.cells (w.heap.size + 1) o (by first | (simp; done) | (simp; omega) | omega); have t1_2 : w.heap.size + 2 < w1.heap.size := (by omega); have c1_2 := fun o => h1.cells (w.heap.size + 2) o (by first | (simp; done) | (simp; omega) | omega); go_wp2_with fail
    refine (ringOk_impl _ _ _ _).mono ?_; rintro e2 w2 ⟨rfl, h2⟩; have s2 := h2.size; (try simp at s2); have t2_0 : w.heap.size < w2.heap.size := (by omega); have c2_0 := fun o => h2.cells (w.heap.size) o (by first | (simp; done) | (simp; omega) | omega); have t2_1 : w.heap.size + 1 < w2.heap.size := (by omega); have c2_1 := fun o => h2.cells (w.heap.size + 1) o (by first | (simp; done) | (simp; omega) | omega); have t2_2 : w.heap.size + 2 < w2.heap.size := (by omega); have c2_2 := fun o => h2.cells (w.heap.size + 2) o (by first | (simp; done) | (simp; omega) | omega)
    go_wp2_with (go_at_call 101; refine (rootOk_any _ _ hp1 hp2 _).mono ?_; rintro e3 w3 ⟨rfl, rfl⟩)
    all_goals
      go_ret
      exact ⟨ret_bool (by subst_vars; rw [HF.out]; simp [homRaw, *] <;> omega), (by repeat' (first | (with_reducible exact Ext.refl _) | (with_reducible assumption) | (with_reducible apply Ext.alloc) | (with_reducible apply Ext.drew) | (with_reducible apply Ext.drewN) | (refine Ext.setAt ?_ (by omega) _ _) | (refine Ext.trans ?_ (by assumption))))⟩
  · have HR : Hid (homRaw fk fp fn tk tp tn 6 ha = false) := Lib.hid (by simp [homRaw]; omega)
    by_cases q8 : fk = 8 <;> by_cases q2 : tk = 2
    all_goals try subst q8
    all_goals try subst q2
    all_goals try (have q3 : ¬ fp = tp := fun e => g8 ⟨rfl, rfl, e⟩)
    all_goals clear g8
    all_goals
      go_enter Try.func62, Try.ntmps62
      go_wp2_with fail
      refine (ringOk_impl _ _ _ _).mono ?_; rintro e1 w1 ⟨rfl, h1⟩; have s1 := h1.size; (try simp at s1); have t1_0 : w.heap.size < w1.heap.size := (by omega); have c1_0 := fun o => h1.cells (w.heap.size) o (by first | (simp; done) | (simp; omega) | omega); have t1_1 : w.heap.size + 1 < w1.heap.size := (by omega); have c1_1 := fun o => h1.cells (w.heap.size + 1) o (by first | (simp; done) | (simp; omega) | omega); have t1_2 : w.heap.size + 2 < w1.heap.size := (by omega); have c1_2 := fun o => h1.cells (w.heap.size + 2) o (by first | (simp; done) | (simp; omega) | omega); go_wp2_with fail
      refine (ringOk_impl _ _ _ _).mono ?_; rintro e2 w2 ⟨rfl, h2⟩; have s2 := h2.size; (try simp at s2); have t2_0 : w.heap.size < w2.heap.size := (by omega); have c2_0 := fun o => h2.cells (w.heap.size) o (by first | (simp; done) | (simp; omega) | omega); have t2_1 : w.heap.size + 1 < w2.heap.size := (by omega); have c2_1 := fun o => h2.cells (w.heap.size + 1) o (by first | (simp; done) | (simp; omega) | omega); have t2_2 : w.heap.size + 2 < w2.heap.size := (by omega); have c2_2 := fun o => h2.cells (w.heap.size + 2) o (by first | (simp; done) | (simp; omega) | omega)
      go_wp2
      all_goals
        go_ret
        exact ⟨ret_bool (by rw [HF.out, HR.out]), (by repeat' (first | (with_reducible exact Ext.refl _) | (with_reducible assumption) | (with_reducible apply Ext.alloc) | (with_reducible apply Ext.drew) | (with_reducible apply Ext.drewN) | (refine Ext.setAt ?_ (by omega) _ _) | (refine Ext.trans ?_ (by assumption))))⟩

set_option maxHeartbeats 1000000 in
set_option maxRecDepth 100000 in
theorem homOk_impl7 (fk fp fn tk tp tn ha : Int) (hr : ringOk fk fp fn = true) (hr2 : ringOk tk tp tn = true) (w : World) : Calls Try.prog 62 #[ringV fk fp fn, ringV tk tp tn, homV 7 ha] w fun e w' =>
    e = .returned (.bool (homOk fk fp fn tk tp tn 7 ha)) ∧ Ext w w' := by
  have HF := Lib.hid (homOk_yes (hk := 7) (ha := ha) hr hr2)
  by_cases ha0 : ha = 0
  · subst ha0
    go_enter Try.func62, Try.ntmps62
    go_wp2_with fail
    refine (ringOk_impl _ _ _ _).mono ?_; rintro e1 w1 ⟨rfl, h1⟩; have s1 := h1.size; (try simp at s1); have t1_0 : w.heap.size < w1.heap.size := (by omega); have c1_0 := fun o => h1.cells (w.heap.size) o (by first | (simp; done) | (simp; omega) | omega); have t1_1 : w.heap.size + 1 < w1.heap.size := (by omega); have c1_1 := fun o => h1.cells (w.heap.size + 1) o (by first | (simp; done) | (simp; omega) | omega); have t1_2 : w.heap.size + 2 < w1.heap.size := (by omega); have c1_2 := fun o => h1.cells (w.heap.size + 2) o (by first | (simp; done) | (simp; omega) | omega); go_wp2_with fail
    refine (ringOk_impl _ _ _ _).mono ?_; rintro e2 w2 ⟨rfl, h2⟩; have s2 := h2.size; (try simp at s2); have t2_0 : w.heap.size < w2.heap.size := (by omega); have c2_0 := fun o => h2.cells (w.heap.size) o (by first | (simp; done) | (simp; omega) | omega); have t2_1 : w.heap.size + 1 < w2.heap.size := (by omega); have c2_1 := fun o => h2.cells (w.heap.size + 1) o (by first | (simp; done) | (simp; omega) | omega); have t2_2 : w.heap.size + 2 < w2.heap.size := (by omega); have c2_2 := fun o => h2.cells (w.heap.size + 2) o (by first | (simp; done) | (simp; omega) | omega)
    go_wp2_with (go_at_call 102; refine (cutOk_any _ _ _ _ _ _ _).mono ?_; rintro e3 w3 ⟨rfl, h3⟩; have s3 := h3.size; (try simp at s3); have t3_0 : w.heap.size < w3.heap.size := (by omega); have c3_0 := fun o => h3.cells (w.heap.size) o (by first | (simp; done) | (simp; omega) | omega); have t3_1 : w.heap.size + 1 < w3.heap.size := (by omega); have c3_1 := fun o => h3.cells (w.heap.size + 1) o (by first | (simp; done) | (simp; omega) | omega); have t3_2 : w.heap.size + 2 < w3.heap.size := (by omega); have c3_2 := fun o => h3.cells (w.heap.size + 2) o (by first | (simp; done) | (simp; omega) | omega))
    all_goals
      go_ret
      exact ⟨ret_bool (by subst_vars; rw [HF.out]; simp [homRaw, *] <;> omega), (by repeat' (first | (with_reducible exact Ext.refl _) | (with_reducible assumption) | (with_reducible apply Ext.alloc) | (with_reducible apply Ext.drew) | (with_reducible apply Ext.drewN) | (refine Ext.setAt ?_ (by omega) _ _) | (refine Ext.trans ?_ (by assumption))))⟩
  · go_enter Try.func62, Try.ntmps62
    go_wp2_with fail
    refine (ringOk_impl _ _ _ _).mono ?_; rintro e1 w1 ⟨rfl, h1⟩; have s1 := h1.size; (try simp at s1); have t1_0 : w.heap.size < w1.heap.size := (by omega); have c1_0 := fun o => h1.cells (w.heap.size) o (by first | (simp; done) | (simp; omega) | omega); have t1_1 : w.heap.size + 1 < w1.heap.size := (by omega); have c1_1 := fun o => h1.cells (w.heap.size + 1) o (by first | (simp; done) | (simp; omega) | omega); have t1_2 : w.heap.size + 2 < w1.heap.size := (by omega); have c1_2 := fun o => h1.cells (w.heap.size + 2) o (by first | (simp; done) | (simp; omega) | omega); go_wp2_with fail
    refine (ringOk_impl _ _ _ _).mono ?_; rintro e2 w2 ⟨rfl, h2⟩; have s2 := h2.size; (try simp at s2); have t2_0 : w.heap.size < w2.heap.size := (by omega); have c2_0 := fun o => h2.cells (w.heap.size) o (by first | (simp; done) | (simp; omega) | omega); have t2_1 : w.heap.size + 1 < w2.heap.size := (by omega); have c2_1 := fun o => h2.cells (w.heap.size + 1) o (by first | (simp; done) | (simp; omega) | omega); have t2_2 : w.heap.size + 2 < w2.heap.size := (by omega); have c2_2 := fun o => h2.cells (w.heap.size + 2) o (by first | (simp; done) | (simp; omega) | omega)
    go_wp2
    all_goals
      go_ret
      exact ⟨ret_bool (by subst_vars; rw [HF.out]; simp [homRaw, *] <;> omega), (by repeat' (first | (with_reducible exact Ext.refl _) | (with_reducible assumption) | (with_reducible apply Ext.alloc) | (with_reducible apply Ext.drew) | (with_reducible apply Ext.drewN) | (refine Ext.setAt ?_ (by omega) _ _) | (refine Ext.trans ?_ (by assumption))))⟩

set_option maxHeartbeats 1000000 in
set_option maxRecDepth 100000 in
theorem homOk_impl8 (fk fp fn tk tp tn ha : Int) (hr : ringOk fk fp fn = true) (hr2 : ringOk tk tp tn = true) (w : World) : Calls Try.prog 62 #[ringV fk fp fn, ringV tk tp tn, homV 8 ha] w fun e w' =>
    e = .returned (.bool (homOk fk fp fn tk tp tn 8 ha)) ∧ Ext w w' := by
  have HF := Lib.hid (homOk_yes (hk := 8) (ha := ha) hr hr2)
  go_enter Try.func62, Try.ntmps62
  go_wp2_with fail
  refine (ringOk_impl _ _ _ _).mono ?_; rintro e1 w1 ⟨rfl, h1⟩; have s1 := h1.size; (try simp at s1); have t1_0 : w.heap.size < w1.heap.size := (by omega); have c1_0 := fun o => h1.cells (w.heap.size) o (by first | (simp; done) | (simp; omega) | omega); have t1_1 : w.heap.size + 1 < w1.heap.size := (by omega); have c1_1 := fun o => h1.cells (w.heap.size + 1) o (by first | (simp; done) | (simp; omega) | omega); have t1_2 : w.heap.size + 2 < w1.heap.size := (by omega); have c1_2 := fun o => h1.cells (w.heap.size + 2) o (by first | (simp; done) | (simp; omega) | omega); go_wp2_with fail
  refine (ringOk_impl _ _ _ _).mono ?_; rintro e2 w2 ⟨rfl, h2⟩; have s2 := h2.size; (try simp at s2); have t2_0 : w.heap.size < w2.heap.size := (by omega); have c2_0 := fun o => h2.cells (w.heap.size) o (by first | (simp; done) | (simp; omega) | omega); have t2_1 : w.heap.size + 1 < w2.heap.size := (by omega); have c2_1 := fun o => h2.cells (w.heap.size + 1) o (by first | (simp; done) | (simp; omega) | omega); have t2_2 : w.heap.size + 2 < w2.heap.size := (by omega); have c2_2 := fun o => h2.cells (w.heap.size + 2) o (by first | (simp; done) | (simp; omega) | omega)
  go_wp2
  all_goals
    go_ret
    exact ⟨ret_bool (by subst_vars; rw [HF.out]; simp [homRaw, *] <;> omega), (by repeat' (first | (with_reducible exact Ext.refl _) | (with_reducible assumption) | (with_reducible apply Ext.alloc) | (with_reducible apply Ext.drew) | (with_reducible apply Ext.drewN) | (refine Ext.setAt ?_ (by omega) _ _) | (refine Ext.trans ?_ (by assumption))))⟩

set_option maxHeartbeats 1000000 in
set_option maxRecDepth 100000 in
theorem homOk_impl0 (fk fp fn tk tp tn ha : Int) (hk : Int) (e : ¬ hk = 1 ∧ ¬ hk = 2 ∧ ¬ hk = 3 ∧ ¬ hk = 4 ∧ ¬ hk = 5 ∧ ¬ hk = 6 ∧ ¬ hk = 7 ∧ ¬ hk = 8) (hr : ringOk fk fp fn = true) (hr2 : ringOk tk tp tn = true) (w : World) : Calls Try.prog 62 #[ringV fk fp fn, ringV tk tp tn, homV hk ha] w fun e w' =>
    e = .returned (.bool (homOk fk fp fn tk tp tn hk ha)) ∧ Ext w w' := by
  have HF := Lib.hid (homOk_yes (hk := hk) (ha := ha) hr hr2)
  obtain ⟨e1, e2, e3, e4, e5, e6, e7, e8⟩ := e
  go_enter Try.func62, Try.ntmps62
  go_wp2_with fail
  refine (ringOk_impl _ _ _ _).mono ?_; rintro e1 w1 ⟨rfl, h1⟩; have s1 := h1.size; (try simp at s1); have t1_0 : w.heap.size < w1.heap.size := (by omega); have c1_0 := fun o => h1.cells (w.heap.size) o (by first | (simp; done) | (simp; omega) | omega); have t1_1 : w.heap.size + 1 < w1.heap.size := (by omega); have c1_1 := fun o => h1.cells (w.heap.size + 1) o (by first | (simp; done) | (simp; omega) | omega); have t1_2 : w.heap.size + 2 < w1.heap.size := (by omega); have c1_2 := fun o => h1.cells (w.heap.size + 2) o (by first | (simp; done) | (simp; omega) | omega); go_wp2_with fail
  refine (ringOk_impl _ _ _ _).mono ?_; rintro e2 w2 ⟨rfl, h2⟩; have s2 := h2.size; (try simp at s2); have t2_0 : w.heap.size < w2.heap.size := (by omega); have c2_0 := fun o => h2.cells (w.heap.size) o (by first | (simp; done) | (simp; omega) | omega); have t2_1 : w.heap.size + 1 < w2.heap.size := (by omega); have c2_1 := fun o => h2.cells (w.heap.size + 1) o (by first | (simp; done) | (simp; omega) | omega); have t2_2 : w.heap.size + 2 < w2.heap.size := (by omega); have c2_2 := fun o => h2.cells (w.heap.size + 2) o (by first | (simp; done) | (simp; omega) | omega)
  go_wp2
  all_goals
    go_ret
    exact ⟨ret_bool (by subst_vars; rw [HF.out]; simp [homRaw, *] <;> omega), (by repeat' (first | (with_reducible exact Ext.refl _) | (with_reducible assumption) | (with_reducible apply Ext.alloc) | (with_reducible apply Ext.drew) | (with_reducible apply Ext.drewN) | (refine Ext.setAt ?_ (by omega) _ _) | (refine Ext.trans ?_ (by assumption))))⟩

set_option maxHeartbeats 1000000 in
set_option maxRecDepth 100000 in
theorem homOk_impl (fk fp fn tk tp tn hk ha : Int) (w : World) : Calls Try.prog 62 #[ringV fk fp fn, ringV tk tp tn, homV hk ha] w fun e w' =>
    e = .returned (.bool (homOk fk fp fn tk tp tn hk ha)) ∧ Ext w w' := by
  cases hr : ringOk fk fp fn
  · have HF := Lib.hid (homOk_no1 (tk := tk) (tp := tp) (tn := tn) (hk := hk) (ha := ha) hr)
    go_enter Try.func62, Try.ntmps62
    go_wp2_with (go_at_call 73; refine (ringOk_impl _ _ _ _).mono ?_; rintro e1 w1 ⟨rfl, h1⟩; have s1 := h1.size; (try simp at s1); have t1_0 : w.heap.size < w1.heap.size := (by omega); have c1_0 := fun o => h1.cells (w.heap.size) o (by first | (simp; done) | (simp; omega) | omega); have t1_1 : w.heap.size + 1 < w1.heap.size := (by omega); have c1_1 := fun o => h1.cells (w.heap.size + 1) o (by first | (simp; done) | (simp; omega) | omega); have t1_2 : w.heap.size + 2 < w1.heap.size := (by omega); have c1_2 := fun o => h1.cells (w.heap.size + 2) o (by first | (simp; done) | (simp; omega) | omega))
    go_ret
    exact ⟨ret_bool HF.out.symm, (by repeat' (first | (with_reducible exact Ext.refl _) | (with_reducible assumption) | (with_reducible apply Ext.alloc) | (with_reducible apply Ext.drew) | (with_reducible apply Ext.drewN) | (refine Ext.setAt ?_ (by omega) _ _) | (refine Ext.trans ?_ (by assumption))))⟩
  cases hr2 : ringOk tk tp tn
  · have HF := Lib.hid (homOk_no2 (fk := fk) (fp := fp) (fn := fn) (hk := hk) (ha := ha) hr2)
    go_enter Try.func62, Try.ntmps62
    go_wp2_with fail
    refine (ringOk_impl _ _ _ _).mono ?_; rintro e1 w1 ⟨rfl, h1⟩; have s1 := h1.size; (try simp at s1); have t1_0 : w.heap.size < w1.heap.size := (by omega); have c1_0 := fun o => h1.cells (w.heap.size) o (by first | (simp; done) | (simp; omega) | omega); have t1_1 : w.heap.size + 1 < w1.heap.size := (by omega); have c1_1 := fun o => h1.cells (w.heap.size + 1) o (by first | (simp; done) | (simp; omega) | omega); have t1_2 : w.heap.size + 2 < w1.heap.size := (by omega); have c1_2 := fun o => h1.cells (w.heap.size + 2) o (by first | (simp; done) | (simp; omega) | omega); go_wp2_with fail
    refine (ringOk_impl _ _ _ _).mono ?_; rintro e2 w2 ⟨rfl, h2⟩; have s2 := h2.size; (try simp at s2); have t2_0 : w.heap.size < w2.heap.size := (by omega); have c2_0 := fun o => h2.cells (w.heap.size) o (by first | (simp; done) | (simp; omega) | omega); have t2_1 : w.heap.size + 1 < w2.heap.size := (by omega); have c2_1 := fun o => h2.cells (w.heap.size + 1) o (by first | (simp; done) | (simp; omega) | omega); have t2_2 : w.heap.size + 2 < w2.heap.size := (by omega); have c2_2 := fun o => h2.cells (w.heap.size + 2) o (by first | (simp; done) | (simp; omega) | omega)
    go_wp2
    go_ret
    exact ⟨ret_bool HF.out.symm, (by repeat' (first | (with_reducible exact Ext.refl _) | (with_reducible assumption) | (with_reducible apply Ext.alloc) | (with_reducible apply Ext.drew) | (with_reducible apply Ext.drewN) | (refine Ext.setAt ?_ (by omega) _ _) | (refine Ext.trans ?_ (by assumption))))⟩
  rcases kinds hk with rfl | rfl | rfl | rfl | rfl | rfl | rfl | rfl | e
  · exact homOk_impl1 fk fp fn tk tp tn ha hr hr2 w
  · exact homOk_impl2 fk fp fn tk tp tn ha hr hr2 w
  · exact homOk_impl3 fk fp fn tk tp tn ha hr hr2 w
  · exact homOk_impl4 fk fp fn tk tp tn ha hr hr2 w
  · exact homOk_impl5 fk fp fn tk tp tn ha hr hr2 w
  · exact homOk_impl6 fk fp fn tk tp tn ha hr hr2 w
  · exact homOk_impl7 fk fp fn tk tp tn ha hr hr2 w
  · exact homOk_impl8 fk fp fn tk tp tn ha hr hr2 w
  · exact homOk_impl0 fk fp fn tk tp tn ha hk e hr hr2 w
end Go.Proofs.Ytlmidcclcnehnaa
