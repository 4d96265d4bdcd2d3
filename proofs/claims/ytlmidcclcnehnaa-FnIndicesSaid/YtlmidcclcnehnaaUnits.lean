/- The zero and the one of a ring, of the program and of the reference. -/
import Derived.Test.YtlmidcclcnehnaaElem
namespace Go.Proofs.Ytlmidcclcnehnaa
open Go.RowKit
set_option linter.unusedSimpArgs false
set_option linter.unusedVariables false

/-- 'make([]int, m)', m an int. -/
theorem mkIntsI (m : Int) (h0 : 0 ≤ m) (h : m ≤ 35184372088832) (w : World) : (Instr.makeSlice 24 (.int .i64 m) (.int .i64 m)).run Try.prog w =
    .ok (.slice (some ⟨w.heap.size, 0, none⟩) m.toNat m.toNat) (w.alloc (.cells (madeCells #[.int .i64 0] m.toNat) 3)) := by
  have := mkInts m.toNat (by omega) w
  rwa [Int.toNat_of_nonneg h0] at this
theorem made_get {n j : Nat} (h : j < n) : (madeCells #[.int .i64 0] n)[j]? = some (.int .i64 0) := by simp [madeCells, h, Nat.mod_one]

/-- The ring's numbers and its width. -/
structure RingWide (k n : Int) : Prop where
  lo : 1 ≤ ringWidth k n
  hi : ringWidth k n ≤ 6
theorem ringOk_wide {k p n : Int} (h : ringOk k p n = true) : RingWide k n := by
  rcases kinds k with rfl | rfl | rfl | rfl | rfl | rfl | rfl | rfl | ⟨e1, e2, e3, e4, e5, e6, e7, e8⟩
  all_goals simp [ringOk, *] at h
  all_goals constructor
  all_goals simp [ringWidth]
  · exact h.1.2
  · exact h.2

/-- The zero. -/
def zeroL (k p n : Int) : List Int := if k = 4 then (List.replicate (ringWidth k n).toNat 0).set 0 p else List.replicate (ringWidth k n).toNat 0
/-- The first integer of the one. -/
def unit (k p n : Int) : Int := if k = 4 then 0 else if k = 5 then p else if k = 6 then 2 ^ n.toNat - 1 else 1
/-- The one. -/
def oneL (k p n : Int) : List Int := (List.replicate (ringWidth k n).toNat 0).set 0 (unit k p n)
theorem zeroL_length (k p n : Int) : (zeroL k p n).length = (ringWidth k n).toNat := by unfold zeroL; split <;> simp
theorem oneL_length (k p n : Int) : (oneL k p n).length = (ringWidth k n).toNat := by simp [oneL]

/-- A made block with its first cell set. -/
theorem blk_made_set (w : World) (n : Nat) (x : Int) (b : Nat) (hb : b = w.heap.size) : Blk (w.alloc (.cells ((madeCells #[.int .i64 0] n).setIfInBounds 0 (.int .i64 x)) 3)) b 3 (ints ((List.replicate n 0).set 0 x)) := by
  subst hb
  have := Blk.new w ((madeCells #[.int .i64 0] n).setIfInBounds 0 (.int .i64 x)) 3
  rwa [Array.toList_setIfInBounds, made_zero, ints_set] at this
theorem blk_made (w : World) (n : Nat) (b : Nat) (hb : b = w.heap.size) : Blk (w.alloc (.cells (madeCells #[.int .i64 0] n) 3)) b 3 (ints (List.replicate n 0)) := by
  subst hb
  have := Blk.new w (madeCells #[.int .i64 0] n) 3
  rwa [made_zero] at this

theorem fits (m : Int) (h : m ≤ 6) : m.toNat ≤ maxLen := by unfold maxLen; omega
theorem unit_one {k p n : Int} (h4 : ¬ k = 4) (h5 : ¬ k = 5) (h6 : ¬ k = 6) : unit k p n = 1 := by simp [unit, h4, h5, h6]
set_option maxHeartbeats 400000 in
theorem rawZero_any (k p n : Int) (hw : RingWide k n) (w : World) : Calls Try.prog 75 #[ringV k p n] w fun e w' =>
    ∃ v, e = .returned v ∧ OwnI w' w.heap.size v (zeroL k p n) ∧ Ext w w' := by
  obtain ⟨h1, h2⟩ := hw
  have hmk := mkIntsI (ringWidth k n) (by omega) (by omega)
  have hg := made_get (n := (ringWidth k n).toNat) (j := 0) (by omega)
  by_cases h4 : k = 4
  · subst h4
    go_enter Try.func75, Try.ntmps75
    go_wp2_with (go_at_call 85; refine (rawWidth_any _ _ _ _).mono ?_; rintro e1 w1 ⟨rfl, h1⟩; have s1 := h1.size; (try simp at s1); have t1_0 : w.heap.size < w1.heap.size := (by omega); have c1_0 := fun o => h1.cells (w.heap.size) o (by first | (simp; done) | (simp; omega) | omega))
    go_ret
    exact ⟨_, rfl, OwnI.mk' (by simp [zeroL]) (Nat.le_of_lt t1_0) (blk_made_set w1 _ p _ rfl) (fits _ h2), (by repeat' (first | (with_reducible exact Ext.refl _) | (with_reducible assumption) | (with_reducible apply Ext.alloc) | (with_reducible apply Ext.drew) | (with_reducible apply Ext.drewN) | (refine Ext.setAt ?_ (by omega) _ _) | (refine Ext.trans ?_ (by assumption))))⟩
  · go_enter Try.func75, Try.ntmps75
    go_wp2_with (go_at_call 85; refine (rawWidth_any _ _ _ _).mono ?_; rintro e1 w1 ⟨rfl, h1⟩; have s1 := h1.size; (try simp at s1); have t1_0 : w.heap.size < w1.heap.size := (by omega); have c1_0 := fun o => h1.cells (w.heap.size) o (by first | (simp; done) | (simp; omega) | omega))
    go_ret
    exact ⟨_, rfl, OwnI.mk' (by simp [zeroL, h4]) (Nat.le_of_lt t1_0) (by rw [zeroL, if_neg h4]; exact blk_made w1 _ _ rfl) (fits _ h2), (by repeat' (first | (with_reducible exact Ext.refl _) | (with_reducible assumption) | (with_reducible apply Ext.alloc) | (with_reducible apply Ext.drew) | (with_reducible apply Ext.drewN) | (refine Ext.setAt ?_ (by omega) _ _) | (refine Ext.trans ?_ (by assumption))))⟩
set_option maxHeartbeats 400000 in
theorem l02Zero_any (k p n : Int) (hw : RingWide k n) (w : World) : Calls Try.prog 80 #[ringV k p n] w fun e w' =>
    ∃ v, e = .returned v ∧ OwnI w' w.heap.size v (zeroL k p n) ∧ Ext w w' := by
  obtain ⟨h1, h2⟩ := hw
  have hmk := mkIntsI (ringWidth k n) (by omega) (by omega)
  have hg := made_get (n := (ringWidth k n).toNat) (j := 0) (by omega)
  by_cases h4 : k = 4
  · subst h4
    go_enter Try.func80, Try.ntmps80
    go_wp2_with (go_at_call 109; refine (l02Width_any _ _ _ _).mono ?_; rintro e1 w1 ⟨rfl, h1⟩; have s1 := h1.size; (try simp at s1); have t1_0 : w.heap.size < w1.heap.size := (by omega); have c1_0 := fun o => h1.cells (w.heap.size) o (by first | (simp; done) | (simp; omega) | omega))
    go_ret
    exact ⟨_, rfl, OwnI.mk' (by simp [zeroL]) (Nat.le_of_lt t1_0) (blk_made_set w1 _ p _ rfl) (fits _ h2), (by repeat' (first | (with_reducible exact Ext.refl _) | (with_reducible assumption) | (with_reducible apply Ext.alloc) | (with_reducible apply Ext.drew) | (with_reducible apply Ext.drewN) | (refine Ext.setAt ?_ (by omega) _ _) | (refine Ext.trans ?_ (by assumption))))⟩
  · go_enter Try.func80, Try.ntmps80
    go_wp2_with (go_at_call 109; refine (l02Width_any _ _ _ _).mono ?_; rintro e1 w1 ⟨rfl, h1⟩; have s1 := h1.size; (try simp at s1); have t1_0 : w.heap.size < w1.heap.size := (by omega); have c1_0 := fun o => h1.cells (w.heap.size) o (by first | (simp; done) | (simp; omega) | omega))
    go_ret
    exact ⟨_, rfl, OwnI.mk' (by simp [zeroL, h4]) (Nat.le_of_lt t1_0) (by rw [zeroL, if_neg h4]; exact blk_made w1 _ _ rfl) (fits _ h2), (by repeat' (first | (with_reducible exact Ext.refl _) | (with_reducible assumption) | (with_reducible apply Ext.alloc) | (with_reducible apply Ext.drew) | (with_reducible apply Ext.drewN) | (refine Ext.setAt ?_ (by omega) _ _) | (refine Ext.trans ?_ (by assumption))))⟩
set_option maxHeartbeats 400000 in
theorem rawOne_any (k p n : Int) (hw : RingWide k n) (hf : RingFit k p n) (w : World) : Calls Try.prog 87 #[ringV k p n] w fun e w' =>
    ∃ v, e = .returned v ∧ OwnI w' w.heap.size v (oneL k p n) ∧ Ext w w' := by
  obtain ⟨h1, h2⟩ := hw
  have hmk := mkIntsI (ringWidth k n) (by omega) (by omega)
  have hg := made_get (n := (ringWidth k n).toNat) (j := 0) (by omega)
  have hk : k = 4 ∨ k = 5 ∨ k = 6 ∨ (¬ k = 4 ∧ ¬ k = 5 ∧ ¬ k = 6) := by omega
  rcases hk with rfl | rfl | rfl | ⟨e4, e5, e6⟩
  · go_enter Try.func87, Try.ntmps87
    go_wp2_with (go_at_call 85; refine (rawWidth_any _ _ _ _).mono ?_; rintro e1 w1 ⟨rfl, h1⟩; have s1 := h1.size; (try simp at s1); have t1_0 : w.heap.size < w1.heap.size := (by omega); have c1_0 := fun o => h1.cells (w.heap.size) o (by first | (simp; done) | (simp; omega) | omega))
    go_ret
    exact ⟨_, rfl, OwnI.mk' (oneL_length _ _ _) (Nat.le_of_lt t1_0) (blk_made_set w1 _ _ _ rfl) (fits _ h2), (by repeat' (first | (with_reducible exact Ext.refl _) | (with_reducible assumption) | (with_reducible apply Ext.alloc) | (with_reducible apply Ext.drew) | (with_reducible apply Ext.drewN) | (refine Ext.setAt ?_ (by omega) _ _) | (refine Ext.trans ?_ (by assumption))))⟩
  · go_enter Try.func87, Try.ntmps87
    go_wp2_with (first | (go_at_call 85; refine (rawWidth_any _ _ _ _).mono ?_; rintro e1 w1 ⟨rfl, h1⟩; have s1 := h1.size; (try simp at s1); have t1_0 : w.heap.size < w1.heap.size := (by omega); have c1_0 := fun o => h1.cells (w.heap.size) o (by first | (simp; done) | (simp; omega) | omega)) | (go_at_call 115; refine (rawTop_any _ _ _ hf _).mono ?_; rintro e2 w2 ⟨rfl, h2⟩; have s2 := h2.size; (try simp at s2); have t2_0 : w.heap.size < w2.heap.size := (by omega); have c2_0 := fun o => h2.cells (w.heap.size) o (by first | (simp; done) | (simp; omega) | omega)))
    go_ret
    exact ⟨_, rfl, OwnI.mk' (oneL_length _ _ _) (Nat.le_of_lt t1_0) (blk_made_set w1 _ _ _ rfl) (fits _ h2), (by repeat' (first | (with_reducible exact Ext.refl _) | (with_reducible assumption) | (with_reducible apply Ext.alloc) | (with_reducible apply Ext.drew) | (with_reducible apply Ext.drewN) | (refine Ext.setAt ?_ (by omega) _ _) | (refine Ext.trans ?_ (by assumption))))⟩
  · go_enter Try.func87, Try.ntmps87
    go_wp2_with fail
    refine (rawWidth_any _ _ _ _).mono ?_; rintro e1 w1 ⟨rfl, h1⟩; have s1 := h1.size; (try simp at s1); have t1_0 : w.heap.size < w1.heap.size := (by omega); have c1_0 := fun o => h1.cells (w.heap.size) o (by first | (simp; done) | (simp; omega) | omega); go_wp2_with fail
    have B1 := blk_made w1 (ringWidth 6 n).toNat _ rfl
    refine (rawTop_any _ _ _ hf _).mono ?_; rintro e2 w2 ⟨rfl, h2'⟩; have s2 := h2'.size; (try simp at s2)
    have B2 := B1.ext h2'
    have ho := B2.cell (j := 0) (u := .int .i64 0) (by rw [ints_get, List.getElem?_replicate, if_pos (by omega)]; rfl)
    have hfr := B2.free 0
    go_wp2
    go_ret
    exact ⟨_, rfl, OwnI.mk' (oneL_length _ _ _) (Nat.le_of_lt t1_0) (by rw [oneL, ← ints_set]; exact B2.set _ _) (fits _ h2), Ext.setCell (by repeat' (first | (with_reducible exact Ext.refl _) | (with_reducible assumption) | (with_reducible apply Ext.alloc) | (with_reducible apply Ext.drew) | (with_reducible apply Ext.drewN) | (refine Ext.setAt ?_ (by omega) _ _) | (refine Ext.trans ?_ (by assumption)))) (Nat.le_of_lt t1_0) _⟩
  · go_enter Try.func87, Try.ntmps87
    go_wp2_with (go_at_call 85; refine (rawWidth_any _ _ _ _).mono ?_; rintro e1 w1 ⟨rfl, h1⟩; have s1 := h1.size; (try simp at s1); have t1_0 : w.heap.size < w1.heap.size := (by omega); have c1_0 := fun o => h1.cells (w.heap.size) o (by first | (simp; done) | (simp; omega) | omega))
    go_ret
    exact ⟨_, rfl, OwnI.mk' (oneL_length _ _ _) (Nat.le_of_lt t1_0) (by rw [oneL, unit_one e4 e5 e6]; exact blk_made_set w1 _ _ _ rfl) (fits _ h2), (by repeat' (first | (with_reducible exact Ext.refl _) | (with_reducible assumption) | (with_reducible apply Ext.alloc) | (with_reducible apply Ext.drew) | (with_reducible apply Ext.drewN) | (refine Ext.setAt ?_ (by omega) _ _) | (refine Ext.trans ?_ (by assumption))))⟩
set_option maxHeartbeats 400000 in
theorem l02One_any (k p n : Int) (hw : RingWide k n) (hf : RingFit k p n) (w : World) : Calls Try.prog 77 #[ringV k p n] w fun e w' =>
    ∃ v, e = .returned v ∧ OwnI w' w.heap.size v (oneL k p n) ∧ Ext w w' := by
  obtain ⟨h1, h2⟩ := hw
  have hmk := mkIntsI (ringWidth k n) (by omega) (by omega)
  have hg := made_get (n := (ringWidth k n).toNat) (j := 0) (by omega)
  have hk : k = 4 ∨ k = 5 ∨ k = 6 ∨ (¬ k = 4 ∧ ¬ k = 5 ∧ ¬ k = 6) := by omega
  rcases hk with rfl | rfl | rfl | ⟨e4, e5, e6⟩
  · go_enter Try.func77, Try.ntmps77
    go_wp2_with (go_at_call 109; refine (l02Width_any _ _ _ _).mono ?_; rintro e1 w1 ⟨rfl, h1⟩; have s1 := h1.size; (try simp at s1); have t1_0 : w.heap.size < w1.heap.size := (by omega); have c1_0 := fun o => h1.cells (w.heap.size) o (by first | (simp; done) | (simp; omega) | omega))
    go_ret
    exact ⟨_, rfl, OwnI.mk' (oneL_length _ _ _) (Nat.le_of_lt t1_0) (blk_made_set w1 _ _ _ rfl) (fits _ h2), (by repeat' (first | (with_reducible exact Ext.refl _) | (with_reducible assumption) | (with_reducible apply Ext.alloc) | (with_reducible apply Ext.drew) | (with_reducible apply Ext.drewN) | (refine Ext.setAt ?_ (by omega) _ _) | (refine Ext.trans ?_ (by assumption))))⟩
  · go_enter Try.func77, Try.ntmps77
    go_wp2_with fail
    refine (l02Width_any _ _ _ _).mono ?_; rintro e1 w1 ⟨rfl, h1⟩; have s1 := h1.size; (try simp at s1); have t1_0 : w.heap.size < w1.heap.size := (by omega); have c1_0 := fun o => h1.cells (w.heap.size) o (by first | (simp; done) | (simp; omega) | omega); go_wp2_with fail
    have B1 := blk_made w1 (ringWidth 5 n).toNat _ rfl
    refine (l02Top_any _ _ _ hf _).mono ?_; rintro e2 w2 ⟨rfl, h2'⟩; have s2 := h2'.size; (try simp at s2)
    have B2 := B1.ext h2'
    have ho := B2.cell (j := 0) (u := .int .i64 0) (by rw [ints_get, List.getElem?_replicate, if_pos (by omega)]; rfl)
    have hfr := B2.free 0
    go_wp2
    go_ret
    exact ⟨_, rfl, OwnI.mk' (oneL_length _ _ _) (Nat.le_of_lt t1_0) (by rw [oneL, ← ints_set]; exact B2.set _ _) (fits _ h2), Ext.setCell (by repeat' (first | (with_reducible exact Ext.refl _) | (with_reducible assumption) | (with_reducible apply Ext.alloc) | (with_reducible apply Ext.drew) | (with_reducible apply Ext.drewN) | (refine Ext.setAt ?_ (by omega) _ _) | (refine Ext.trans ?_ (by assumption)))) (Nat.le_of_lt t1_0) _⟩
  · go_enter Try.func77, Try.ntmps77
    go_wp2_with fail
    refine (l02Width_any _ _ _ _).mono ?_; rintro e1 w1 ⟨rfl, h1⟩; have s1 := h1.size; (try simp at s1); have t1_0 : w.heap.size < w1.heap.size := (by omega); have c1_0 := fun o => h1.cells (w.heap.size) o (by first | (simp; done) | (simp; omega) | omega); go_wp2_with fail
    have B1 := blk_made w1 (ringWidth 6 n).toNat _ rfl
    refine (l02Top_any _ _ _ hf _).mono ?_; rintro e2 w2 ⟨rfl, h2'⟩; have s2 := h2'.size; (try simp at s2)
    have B2 := B1.ext h2'
    have ho := B2.cell (j := 0) (u := .int .i64 0) (by rw [ints_get, List.getElem?_replicate, if_pos (by omega)]; rfl)
    have hfr := B2.free 0
    go_wp2
    go_ret
    exact ⟨_, rfl, OwnI.mk' (oneL_length _ _ _) (Nat.le_of_lt t1_0) (by rw [oneL, ← ints_set]; exact B2.set _ _) (fits _ h2), Ext.setCell (by repeat' (first | (with_reducible exact Ext.refl _) | (with_reducible assumption) | (with_reducible apply Ext.alloc) | (with_reducible apply Ext.drew) | (with_reducible apply Ext.drewN) | (refine Ext.setAt ?_ (by omega) _ _) | (refine Ext.trans ?_ (by assumption)))) (Nat.le_of_lt t1_0) _⟩
  · go_enter Try.func77, Try.ntmps77
    go_wp2_with (go_at_call 109; refine (l02Width_any _ _ _ _).mono ?_; rintro e1 w1 ⟨rfl, h1⟩; have s1 := h1.size; (try simp at s1); have t1_0 : w.heap.size < w1.heap.size := (by omega); have c1_0 := fun o => h1.cells (w.heap.size) o (by first | (simp; done) | (simp; omega) | omega))
    go_ret
    exact ⟨_, rfl, OwnI.mk' (oneL_length _ _ _) (Nat.le_of_lt t1_0) (by rw [oneL, unit_one e4 e5 e6]; exact blk_made_set w1 _ _ _ rfl) (fits _ h2), (by repeat' (first | (with_reducible exact Ext.refl _) | (with_reducible assumption) | (with_reducible apply Ext.alloc) | (with_reducible apply Ext.drew) | (with_reducible apply Ext.drewN) | (refine Ext.setAt ?_ (by omega) _ _) | (refine Ext.trans ?_ (by assumption))))⟩
end Go.Proofs.Ytlmidcclcnehnaa
