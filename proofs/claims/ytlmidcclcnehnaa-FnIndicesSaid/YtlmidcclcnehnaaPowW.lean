/- PowElem of the program and of the reference. -/
import Derived.Test.YtlmidcclcnehnaaMulW
import Derived.Test.YtlmidcclcnehnaaClosed
namespace Go.Proofs.Ytlmidcclcnehnaa
open Go.RowKit
set_option linter.unusedSimpArgs false
set_option linter.unusedVariables false

/-- z times the m-th power of x. -/
def powL (k p : Int) (x : List Int) : List Int → Nat → List Int
  | z, 0 => z
  | z, m + 1 => powL k p x (mulL k p z x) m
theorem powL_step {k p : Int} {x z : List Int} {m : Nat} (h : 0 < m) : powL k p x z m = powL k p x (mulL k p z x) (m - 1) := by
  obtain ⟨j, rfl⟩ : ∃ j, m = j + 1 := ⟨m - 1, by omega⟩
  rfl
theorem rawOk_pow {k p n : Int} {x : List Int} (h : ringOk k p n = true) (hx : rawOk k p n x = true) : ∀ (m : Nat) {z : List Int}, rawOk k p n z = true → rawOk k p n (powL k p x z m) = true
  | 0, _, hz => hz
  | m + 1, _, hz => rawOk_pow h hx m (rawOk_mul h hz hx)
/-- 'PowElem' -/
def powOf (k p n : Int) (x : List Int) (c : Int) : List Int := if elemOk k p n x = true ∧ (0 ≤ c ∧ c ≤ 1000) then powL k p x (oneL k p n) c.toNat else []
theorem powOf_yes {k p n : Int} {x : List Int} {c : Int} (hx : elemOk k p n x = true) (hc : 0 ≤ c ∧ c ≤ 1000) : powOf k p n x c = powL k p x (oneL k p n) c.toNat := by simp [powOf, hx, hc]
theorem powOf_no1 {k p n : Int} {x : List Int} {c : Int} (hx : elemOk k p n x = false) : powOf k p n x c = [] := by simp [powOf, hx]
theorem powOf_no2 {k p n : Int} {x : List Int} {c : Int} (hc : ¬ (0 ≤ c ∧ c ≤ 1000)) : powOf k p n x c = [] := by
  unfold powOf; rw [if_neg (fun h => hc h.2)]
theorem powOf_short (k p n : Int) (x : List Int) (c : Int) : (powOf k p n x c).length ≤ 6 := by
  unfold powOf
  split
  · rename_i h
    obtain ⟨hr, hx⟩ := elemOk_parts h.1
    have := (rawOk_iff.1 (rawOk_pow hr hx c.toNat (rawOk_one hr))).1
    have := (ringOk_wide hr).hi
    omega
  · simp

set_option maxRecDepth 100000 in
set_option maxHeartbeats 1000000 in
theorem rawPow_any (k p n c : Int) (vx : Value) (x : List Int) (w : World) (hr : ringOk k p n = true) (hvx : IntS w vx x) (hx : rawOk k p n x = true) (hc : 0 ≤ c ∧ c ≤ 1000) :
    Calls Try.prog 78 #[ringV k p n, vx, .int .i64 c] w fun e w' => ∃ v, e = .returned v ∧ OwnI w' w.heap.size v (powL k p x (oneL k p n) c.toNat) ∧ Ext w w' := by
  have hw := ringOk_wide hr
  have hf := ringOk_fit hr
  have HR := Lib.hid hr; clear hr
  have HX := Lib.hid hx; clear hx
  obtain ⟨ax, capx, rfl, hc1, hc2⟩ := hvx.val
  obtain ⟨c0, c1⟩ := hc
  go_enter Try.func78, Try.ntmps78
  go_wp2_with fail
  refine (rawOne_any _ _ _ hw hf _).mono ?_; rintro e1 w1 ⟨v1, rfl, o1, h1⟩; have s1 := h1.size; (try simp at s1); have t1_0 : w.heap.size < w1.heap.size := (by omega); have c1_0 := fun o => h1.cells (w.heap.size) o (by first | (simp; done) | (simp; omega) | omega); go_wp2_with fail
  go_loopw [7, 8] (fun v i wr => ∃ (j : Nat) (z : List Int), (j : Int) ≤ c ∧ i = .int .i64 j ∧ rawOk k p n z = true ∧ powL k p x z (c.toNat - j) = powL k p x (oneL k p n) c.toNat ∧ OwnI wr w.heap.size v z ∧ Ext w wr ∧
      wr.cell? ⟨w.heap.size, 0, none⟩ = some (.int .i64 k) ∧ wr.cell? ⟨w.heap.size, 1, none⟩ = some (.int .i64 p) ∧ wr.cell? ⟨w.heap.size, 2, none⟩ = some (.int .i64 n)) (fun v i wr => c.toNat - (intOf i).toNat)
  case atStart => exact ⟨0, _, by omega, rfl, rawOk_one HR.out, rfl, o1.mono (by first | (simp [World.setCell]; done) | (simp [World.setCell]; omega) | omega), (by repeat' (first | (with_reducible exact Ext.refl _) | (with_reducible assumption) | (with_reducible apply Ext.alloc) | (with_reducible apply Ext.drew) | (with_reducible apply Ext.drewN) | (refine Ext.setAt ?_ (by omega) _ _) | (refine Ext.trans ?_ (by assumption)))), by simp [c1_0, go_sem], by simp [c1_0, go_sem], by simp [c1_0, go_sem]⟩
  case round =>
    obtain ⟨j, z, hj, rfl, hz, hE, hO, hEx, q0, q1, q2⟩ := hrel
    have HE := Lib.hid hE; clear hE
    have HZ := Lib.hid hz; clear hz
    by_cases hlt : (j : Int) < c
    · go_wp2_with fail
      refine (rawMul_any _ _ _ _ _ z x _ HR.out (hO.ints.ext (by repeat' (first | (with_reducible exact Ext.refl _) | (with_reducible assumption) | (with_reducible apply Ext.alloc) | (with_reducible apply Ext.drew) | (with_reducible apply Ext.drewN) | (refine Ext.setAt ?_ (by omega) _ _) | (refine Ext.trans ?_ (by assumption))))) (hvx.ext (by repeat' (first | (with_reducible exact Ext.refl _) | (with_reducible assumption) | (with_reducible apply Ext.alloc) | (with_reducible apply Ext.drew) | (with_reducible apply Ext.drewN) | (refine Ext.setAt ?_ (by omega) _ _) | (refine Ext.trans ?_ (by assumption))))) HZ.out HX.out).mono ?_; rintro e2 w2 ⟨v2, rfl, o2, h2⟩
      have hsz := h2.size
      have hsz0 := hEx.size
      have hE2 : powL k p x (mulL k p z x) (c.toNat - (j + 1)) = powL k p x (oneL k p n) c.toNat := by
        rw [← HE.out, powL_step (m := c.toNat - j) (by omega)]; rfl
      have r0 := h2.cell q0
      have r1 := h2.cell q1
      have r2 := h2.cell q2
      go_wp2
      go_roundw
      case rel => exact ⟨j + 1, _, by omega, by go_num, rawOk_mul HR.out HZ.out HX.out, hE2, o2.mono (by omega), (by repeat' (first | (with_reducible exact Ext.refl _) | (with_reducible assumption) | (with_reducible apply Ext.alloc) | (with_reducible apply Ext.drew) | (with_reducible apply Ext.drewN) | (refine Ext.setAt ?_ (by omega) _ _) | (refine Ext.trans ?_ (by assumption)))), r0, r1, r2⟩
      case measure => simp [intOf]; omega
    · have e : c.toNat - j = 0 := by omega
      go_wp2
      go_ret
      have := HE.out
      rw [e] at this
      rw [← this]
      exact ⟨_, rfl, hO, hEx⟩

set_option maxHeartbeats 400000 in
theorem powElem_impl (k p n : Int) (vx : Value) (c : Int) (x : List Int) (w : World) (hvx : IntS w vx x) (hc : -9223372036854775808 ≤ c ∧ c ≤ 9223372036854775807) : Calls Try.prog 32 #[ringV k p n, vx, .int .i64 c] w fun e w' =>
    ∃ v, e = .returned v ∧ OwnI w' w.heap.size v (powOf k p n x c) ∧ Ext w w' := by
  obtain ⟨ax, capx, rfl, hc1, hc2⟩ := hvx.val
  cases hx : elemOk k p n x
  · rw [powOf_no1 hx]
    go_enter Try.func32, Try.ntmps32
    go_wp2_with (go_at_call 41; refine (elemOk_impl _ _ _ _ x _ (hvx.ext (by repeat' (first | (with_reducible exact Ext.refl _) | (with_reducible assumption) | (with_reducible apply Ext.alloc) | (with_reducible apply Ext.drew) | (with_reducible apply Ext.drewN) | (refine Ext.setAt ?_ (by omega) _ _) | (refine Ext.trans ?_ (by assumption)))))).mono ?_; rintro e1 w1 ⟨rfl, h1⟩; have s1 := h1.size; (try simp at s1); have t1_0 : w.heap.size < w1.heap.size := (by omega); have c1_0 := fun o => h1.cells (w.heap.size) o (by first | (simp; done) | (simp; omega) | omega))
    go_ret
    exact ⟨_, rfl, OwnI.nil _ _, (by repeat' (first | (with_reducible exact Ext.refl _) | (with_reducible assumption) | (with_reducible apply Ext.alloc) | (with_reducible apply Ext.drew) | (with_reducible apply Ext.drewN) | (refine Ext.setAt ?_ (by omega) _ _) | (refine Ext.trans ?_ (by assumption))))⟩
  by_cases h0 : 0 ≤ c ∧ c ≤ 1000
  · rw [powOf_yes hx h0]
    obtain ⟨hr, rx⟩ := elemOk_parts hx
    have hcc := h0
    obtain ⟨c0, c1⟩ := h0
    go_enter Try.func32, Try.ntmps32
    go_wp2_with fail
    refine (elemOk_impl _ _ _ _ x _ (hvx.ext (by repeat' (first | (with_reducible exact Ext.refl _) | (with_reducible assumption) | (with_reducible apply Ext.alloc) | (with_reducible apply Ext.drew) | (with_reducible apply Ext.drewN) | (refine Ext.setAt ?_ (by omega) _ _) | (refine Ext.trans ?_ (by assumption)))))).mono ?_; rintro e1 w1 ⟨rfl, h1⟩; have s1 := h1.size; (try simp at s1); have t1_0 : w.heap.size < w1.heap.size := (by omega); have c1_0 := fun o => h1.cells (w.heap.size) o (by first | (simp; done) | (simp; omega) | omega); go_wp2_with fail
    refine (rawPow_any _ _ _ c _ x _ hr (hvx.ext (by repeat' (first | (with_reducible exact Ext.refl _) | (with_reducible assumption) | (with_reducible apply Ext.alloc) | (with_reducible apply Ext.drew) | (with_reducible apply Ext.drewN) | (refine Ext.setAt ?_ (by omega) _ _) | (refine Ext.trans ?_ (by assumption))))) rx hcc).mono ?_; rintro e2 w2 ⟨v2, rfl, o2, h2⟩; have s2 := h2.size; (try simp at s2); have t2_0 : w.heap.size < w2.heap.size := (by omega); have c2_0 := fun o => h2.cells (w.heap.size) o (by first | (simp; done) | (simp; omega) | omega); go_wp2_with fail
    go_ret
    exact ⟨_, rfl, o2.mono (by omega), (by repeat' (first | (with_reducible exact Ext.refl _) | (with_reducible assumption) | (with_reducible apply Ext.alloc) | (with_reducible apply Ext.drew) | (with_reducible apply Ext.drewN) | (refine Ext.setAt ?_ (by omega) _ _) | (refine Ext.trans ?_ (by assumption))))⟩
  · rw [powOf_no2 h0]
    have h0' : c < 0 ∨ 1000 < c := by omega
    clear h0
    rcases h0' with h0 | h0
    · go_enter Try.func32, Try.ntmps32
      go_wp2_with (go_at_call 41; refine (elemOk_impl _ _ _ _ x _ (hvx.ext (by repeat' (first | (with_reducible exact Ext.refl _) | (with_reducible assumption) | (with_reducible apply Ext.alloc) | (with_reducible apply Ext.drew) | (with_reducible apply Ext.drewN) | (refine Ext.setAt ?_ (by omega) _ _) | (refine Ext.trans ?_ (by assumption)))))).mono ?_; rintro e1 w1 ⟨rfl, h1⟩; have s1 := h1.size; (try simp at s1); have t1_0 : w.heap.size < w1.heap.size := (by omega); have c1_0 := fun o => h1.cells (w.heap.size) o (by first | (simp; done) | (simp; omega) | omega))
      go_ret
      exact ⟨_, rfl, OwnI.nil _ _, (by repeat' (first | (with_reducible exact Ext.refl _) | (with_reducible assumption) | (with_reducible apply Ext.alloc) | (with_reducible apply Ext.drew) | (with_reducible apply Ext.drewN) | (refine Ext.setAt ?_ (by omega) _ _) | (refine Ext.trans ?_ (by assumption))))⟩
    · have h1 : 0 ≤ c := by omega
      go_enter Try.func32, Try.ntmps32
      go_wp2_with (go_at_call 41; refine (elemOk_impl _ _ _ _ x _ (hvx.ext (by repeat' (first | (with_reducible exact Ext.refl _) | (with_reducible assumption) | (with_reducible apply Ext.alloc) | (with_reducible apply Ext.drew) | (with_reducible apply Ext.drewN) | (refine Ext.setAt ?_ (by omega) _ _) | (refine Ext.trans ?_ (by assumption)))))).mono ?_; rintro e1 w1 ⟨rfl, h1⟩; have s1 := h1.size; (try simp at s1); have t1_0 : w.heap.size < w1.heap.size := (by omega); have c1_0 := fun o => h1.cells (w.heap.size) o (by first | (simp; done) | (simp; omega) | omega))
      go_ret
      exact ⟨_, rfl, OwnI.nil _ _, (by repeat' (first | (with_reducible exact Ext.refl _) | (with_reducible assumption) | (with_reducible apply Ext.alloc) | (with_reducible apply Ext.drew) | (with_reducible apply Ext.drewN) | (refine Ext.setAt ?_ (by omega) _ _) | (refine Ext.trans ?_ (by assumption))))⟩

set_option maxRecDepth 100000 in
set_option maxHeartbeats 1000000 in
theorem powElem_spec (k p n : Int) (vx : Value) (c : Int) (x : List Int) (w : World) (hvx : IntS w vx x) (hc : -9223372036854775808 ≤ c ∧ c ≤ 9223372036854775807) : Calls Try.prog 31 #[ringV k p n, vx, .int .i64 c] w fun e w' =>
    ∃ v, e = .returned v ∧ OwnI w' w.heap.size v (powOf k p n x c) ∧ Ext w w' := by
  obtain ⟨ax, capx, rfl, hc1, hc2⟩ := hvx.val
  cases hx : elemOk k p n x
  · rw [powOf_no1 hx]
    go_enter Try.func31, Try.ntmps31
    go_wp2_with (go_at_call 63; refine (elemOk_spec _ _ _ _ x _ (hvx.ext (by repeat' (first | (with_reducible exact Ext.refl _) | (with_reducible assumption) | (with_reducible apply Ext.alloc) | (with_reducible apply Ext.drew) | (with_reducible apply Ext.drewN) | (refine Ext.setAt ?_ (by omega) _ _) | (refine Ext.trans ?_ (by assumption)))))).mono ?_; rintro e1 w1 ⟨rfl, h1⟩; have s1 := h1.size; (try simp at s1); have t1_0 : w.heap.size < w1.heap.size := (by omega); have c1_0 := fun o => h1.cells (w.heap.size) o (by first | (simp; done) | (simp; omega) | omega))
    go_ret
    exact ⟨_, rfl, OwnI.nil _ _, (by repeat' (first | (with_reducible exact Ext.refl _) | (with_reducible assumption) | (with_reducible apply Ext.alloc) | (with_reducible apply Ext.drew) | (with_reducible apply Ext.drewN) | (refine Ext.setAt ?_ (by omega) _ _) | (refine Ext.trans ?_ (by assumption))))⟩
  by_cases h0 : 0 ≤ c ∧ c ≤ 1000
  · rw [powOf_yes hx h0]
    obtain ⟨hr, rx⟩ := elemOk_parts hx
    have hw := ringOk_wide hr
    have hf := ringOk_fit hr
    have HR := Lib.hid hr; clear hr
    have HX := Lib.hid rx; clear rx
    have hb : (decide (0 ≤ c) && decide (c ≤ 1000)) = true := by simp [h0]
    obtain ⟨c0, c1⟩ := h0
    go_enter Try.func31, Try.ntmps31
    go_wp2_with fail
    refine (elemOk_spec _ _ _ _ x _ (hvx.ext (by repeat' (first | (with_reducible exact Ext.refl _) | (with_reducible assumption) | (with_reducible apply Ext.alloc) | (with_reducible apply Ext.drew) | (with_reducible apply Ext.drewN) | (refine Ext.setAt ?_ (by omega) _ _) | (refine Ext.trans ?_ (by assumption)))))).mono ?_; rintro e1 w1 ⟨rfl, h1⟩; have s1 := h1.size; (try simp at s1); have t1_0 : w.heap.size < w1.heap.size := (by omega); have c1_0 := fun o => h1.cells (w.heap.size) o (by first | (simp; done) | (simp; omega) | omega); go_wp2_with fail
    refine (in_any _ _ _ _).mono ?_; rintro e2 w2 ⟨rfl, rfl⟩
    go_wp2_with fail
    refine (l02One_any _ _ _ hw hf _).mono ?_; rintro e3 w3 ⟨v3, rfl, o3, h3⟩; have s3 := h3.size; (try simp at s3); have t3_0 : w.heap.size < w3.heap.size := (by omega); have c3_0 := fun o => h3.cells (w.heap.size) o (by first | (simp; done) | (simp; omega) | omega); go_wp2_with fail
    go_loopw [2, 7] (fun i v wr => ∃ (j : Nat) (z : List Int), (j : Int) ≤ c ∧ i = .int .i64 (c - j) ∧ rawOk k p n z = true ∧ powL k p x z (c.toNat - j) = powL k p x (oneL k p n) c.toNat ∧ OwnI wr w.heap.size v z ∧ Ext w wr ∧
        wr.cell? ⟨w.heap.size, 0, none⟩ = some (.int .i64 k) ∧ wr.cell? ⟨w.heap.size, 1, none⟩ = some (.int .i64 p) ∧ wr.cell? ⟨w.heap.size, 2, none⟩ = some (.int .i64 n)) (fun i v wr => (intOf i).toNat)
    case atStart => exact ⟨0, _, by omega, by simp, rawOk_one HR.out, rfl, o3.mono (by first | (simp [World.setCell]; done) | (simp [World.setCell]; omega) | omega), (by repeat' (first | (with_reducible exact Ext.refl _) | (with_reducible assumption) | (with_reducible apply Ext.alloc) | (with_reducible apply Ext.drew) | (with_reducible apply Ext.drewN) | (refine Ext.setAt ?_ (by omega) _ _) | (refine Ext.trans ?_ (by assumption)))), by simp [c3_0, c1_0, go_sem], by simp [c3_0, c1_0, go_sem], by simp [c3_0, c1_0, go_sem]⟩
    case round =>
      obtain ⟨j, z, hj, rfl, hz, hE, hO, hEx, q0, q1, q2⟩ := hrel
      have HE := Lib.hid hE; clear hE
      have HZ := Lib.hid hz; clear hz
      by_cases hlt : (j : Int) < c
      · have hlt' : 0 < c - (j : Int) := by omega
        go_wp2_with fail
        refine (l02Mul_any _ _ _ _ _ z x _ HR.out (hO.ints.ext (by repeat' (first | (with_reducible exact Ext.refl _) | (with_reducible assumption) | (with_reducible apply Ext.alloc) | (with_reducible apply Ext.drew) | (with_reducible apply Ext.drewN) | (refine Ext.setAt ?_ (by omega) _ _) | (refine Ext.trans ?_ (by assumption))))) (hvx.ext (by repeat' (first | (with_reducible exact Ext.refl _) | (with_reducible assumption) | (with_reducible apply Ext.alloc) | (with_reducible apply Ext.drew) | (with_reducible apply Ext.drewN) | (refine Ext.setAt ?_ (by omega) _ _) | (refine Ext.trans ?_ (by assumption))))) HZ.out HX.out).mono ?_; rintro e2 w2 ⟨v2, rfl, o2, h2⟩
        have hsz := h2.size
        have hsz0 := hEx.size
        have hE2 : powL k p x (mulL k p z x) (c.toNat - (j + 1)) = powL k p x (oneL k p n) c.toNat := by
          rw [← HE.out, powL_step (m := c.toNat - j) (by omega)]; rfl
        have r0 := h2.cell q0
        have r1 := h2.cell q1
        have r2 := h2.cell q2
        go_wp2
        go_roundw
        case rel => exact ⟨j + 1, _, by omega, by congr 1; omega, rawOk_mul HR.out HZ.out HX.out, hE2, o2.mono (by omega), (by repeat' (first | (with_reducible exact Ext.refl _) | (with_reducible assumption) | (with_reducible apply Ext.alloc) | (with_reducible apply Ext.drew) | (with_reducible apply Ext.drewN) | (refine Ext.setAt ?_ (by omega) _ _) | (refine Ext.trans ?_ (by assumption)))), r0, r1, r2⟩
        case measure => simp [intOf]; omega
      · have e : c.toNat - j = 0 := by omega
        have hlt' : ¬ 0 < c - (j : Int) := by omega
        go_wp2
        go_ret
        have := HE.out
        rw [e] at this
        rw [← this]
        exact ⟨_, rfl, hO, hEx⟩
  · rw [powOf_no2 h0]
    have h0' : (decide (0 ≤ c) && decide (c ≤ 1000)) = false := by simpa using h0
    go_enter Try.func31, Try.ntmps31
    go_wp2_with fail
    refine (elemOk_spec _ _ _ _ x _ (hvx.ext (by repeat' (first | (with_reducible exact Ext.refl _) | (with_reducible assumption) | (with_reducible apply Ext.alloc) | (with_reducible apply Ext.drew) | (with_reducible apply Ext.drewN) | (refine Ext.setAt ?_ (by omega) _ _) | (refine Ext.trans ?_ (by assumption)))))).mono ?_; rintro e1 w1 ⟨rfl, h1⟩; have s1 := h1.size; (try simp at s1); have t1_0 : w.heap.size < w1.heap.size := (by omega); have c1_0 := fun o => h1.cells (w.heap.size) o (by first | (simp; done) | (simp; omega) | omega); go_wp2_with fail
    refine (in_any _ _ _ _).mono ?_; rintro e2 w2 ⟨rfl, rfl⟩
    go_wp2_with fail
    go_ret
    exact ⟨_, rfl, OwnI.nil _ _, (by repeat' (first | (with_reducible exact Ext.refl _) | (with_reducible assumption) | (with_reducible apply Ext.alloc) | (with_reducible apply Ext.drew) | (with_reducible apply Ext.drewN) | (refine Ext.setAt ?_ (by omega) _ _) | (refine Ext.trans ?_ (by assumption))))⟩
end Go.Proofs.Ytlmidcclcnehnaa
