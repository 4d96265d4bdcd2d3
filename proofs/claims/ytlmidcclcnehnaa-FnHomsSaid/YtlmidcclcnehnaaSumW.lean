/- SumElems of the program and of the reference. -/
import Derived.Test.YtlmidcclcnehnaaAddW
import Derived.Test.YtlmidcclcnehnaaClosed
import Derived.Test.YtlmidcclcnehnaaTurn
namespace Go.Proofs.Ytlmidcclcnehnaa
open Go.RowKit
set_option linter.unusedSimpArgs false
set_option linter.unusedVariables false

/-- The sum of rows that are all valid, from z on. -/
def sumGo (k p n : Int) : List Int → List (List Int) → List Int
  | z, [] => z
  | z, x :: t => if rawOk k p n x = true then sumGo k p n (addL k p z x) t else []
/-- 'SumElems' -/
def sumOf (k p n : Int) (ll : List (List Int)) : List Int := if ringOk k p n = true then sumGo k p n (zeroL k p n) ll else []
theorem sumGo_yes {k p n : Int} {z x : List Int} {t : List (List Int)} (h : rawOk k p n x = true) : sumGo k p n z (x :: t) = sumGo k p n (addL k p z x) t := by simp [sumGo, h]
theorem sumGo_no {k p n : Int} {z x : List Int} {t : List (List Int)} (h : rawOk k p n x = false) : sumGo k p n z (x :: t) = [] := by simp [sumGo, h]
theorem rawOk_sum {k p n : Int} (h : ringOk k p n = true) : ∀ (ll : List (List Int)) {z : List Int}, rawOk k p n z = true → (sumGo k p n z ll).length ≤ 6
  | [], z, hz => by have := (rawOk_iff.1 hz).1; have := (ringOk_wide h).hi; rw [sumGo]; omega
  | x :: t, z, hz => by
    cases hx : rawOk k p n x
    · rw [sumGo_no hx]; simp
    · rw [sumGo_yes hx]; exact rawOk_sum h t (rawOk_add h hz hx)
theorem sumOf_short (k p n : Int) (ll : List (List Int)) : (sumOf k p n ll).length ≤ 6 := by
  unfold sumOf
  split
  · rename_i h; exact rawOk_sum h ll (rawOk_zero h)
  · simp

set_option maxRecDepth 100000 in
set_option maxHeartbeats 1000000 in
theorem sumElems_spec (k p n : Int) (vx : Value) (ll : List (List Int)) (w : World) (hvx : RowsS w vx ll) : Calls Try.prog 34 #[ringV k p n, vx] w fun e w' =>
    ∃ v, e = .returned v ∧ OwnI w' w.heap.size v (sumOf k p n ll) ∧ Ext w w' := by
  obtain ⟨ax, capx, rfl, hc1, hc2⟩ := hvx.val
  cases hr : ringOk k p n
  · rw [show sumOf k p n ll = [] by simp [sumOf, hr]]
    go_enter Try.func34, Try.ntmps34
    go_wp2_with (go_at_call 70; refine (ringOk_spec _ _ _ _).mono ?_; rintro e1 w1 ⟨rfl, h1⟩; have s1 := h1.size; (try simp at s1); have t1_0 : w.heap.size < w1.heap.size := (by omega); have c1_0 := fun o => h1.cells (w.heap.size) o (by first | (simp; done) | (simp; omega) | omega))
    go_ret
    exact ⟨_, rfl, OwnI.nil _ _, (by repeat' (first | (with_reducible exact Ext.refl _) | (with_reducible assumption) | (with_reducible apply Ext.alloc) | (with_reducible apply Ext.drew) | (with_reducible apply Ext.drewN) | (refine Ext.setAt ?_ (by omega) _ _) | (refine Ext.trans ?_ (by assumption))))⟩
  · rw [show sumOf k p n ll = sumGo k p n (zeroL k p n) ll by simp [sumOf, hr]]
    have hw := ringOk_wide hr
    have hf := ringOk_fit hr
    have HR := Lib.hid hr
    go_enter Try.func34, Try.ntmps34
    go_wp2_with fail
    refine (ringOk_spec _ _ _ _).mono ?_; rintro e1 w1 ⟨rfl, h1⟩; have s1 := h1.size; (try simp at s1); have t1_0 : w.heap.size < w1.heap.size := (by omega); have c1_0 := fun o => h1.cells (w.heap.size) o (by first | (simp; done) | (simp; omega) | omega); go_wp2_with fail
    refine (l02Zero_any _ _ _ hw _).mono ?_; rintro e2 w2 ⟨v2, rfl, o2, h2⟩; have s2 := h2.size; (try simp at s2); have t2_0 : w.heap.size < w2.heap.size := (by omega); have c2_0 := fun o => h2.cells (w.heap.size) o (by first | (simp; done) | (simp; omega) | omega); go_wp2_with fail
    clear hr
    go_loopw [5, 15] (fun v i wr => ∃ (j : Nat) (z : List Int), j ≤ ll.length ∧ i = .int .i64 j ∧ rawOk k p n z = true ∧ sumGo k p n z (ll.drop j) = sumGo k p n (zeroL k p n) ll ∧ OwnI wr w.heap.size v z ∧ Ext w wr ∧
        wr.cell? ⟨w.heap.size, 0, none⟩ = some (.int .i64 k) ∧ wr.cell? ⟨w.heap.size, 1, none⟩ = some (.int .i64 p) ∧ wr.cell? ⟨w.heap.size, 2, none⟩ = some (.int .i64 n)) (fun v i wr => ll.length - (intOf i).toNat)
    case atStart => exact ⟨0, _, Nat.zero_le _, rfl, rawOk_zero HR.out, rfl, o2.mono (by first | (simp [World.setCell]; done) | (simp [World.setCell]; omega) | omega), (by repeat' (first | (with_reducible exact Ext.refl _) | (with_reducible assumption) | (with_reducible apply Ext.alloc) | (with_reducible apply Ext.drew) | (with_reducible apply Ext.drewN) | (refine Ext.setAt ?_ (by omega) _ _) | (refine Ext.trans ?_ (by assumption)))), by simp [c2_0, c1_0, go_sem], by simp [c2_0, c1_0, go_sem], by simp [c2_0, c1_0, go_sem]⟩
    case round =>
      obtain ⟨j, z, hj, rfl, hz, hE, hO, hEx, q0, q1, q2⟩ := hrel
      have HZ := Lib.hid hz; clear hz
      by_cases hlt : j < ll.length
      · obtain ⟨b, off, u, l, rfl, hcell, hu, hlj, hd⟩ := (hvx.ext hEx).get hlt
        rw [hd] at hE
        have HE := Lib.hid hE
        clear hlj hd hE
        have hsz0 := hEx.size
        cases hl : rawOk k p n l
        · go_wp2_with fail
          refine (l02Elem_any _ _ _ hf _ l _ hu).mono ?_; rintro e3 w3 ⟨rfl, h3⟩; rw [hl]
          go_wp2
          go_ret
          rw [sumGo_no hl] at HE
          rw [← HE.out]
          exact ⟨_, rfl, OwnI.nil _ _, (by repeat' (first | (with_reducible exact Ext.refl _) | (with_reducible assumption) | (with_reducible apply Ext.alloc) | (with_reducible apply Ext.drew) | (with_reducible apply Ext.drewN) | (refine Ext.setAt ?_ (by omega) _ _) | (refine Ext.trans ?_ (by assumption))))⟩
        · have HL := Lib.hid hl
          rw [sumGo_yes hl] at HE
          go_wp2_with fail
          refine (l02Elem_any _ _ _ hf _ l _ hu).mono ?_; rintro e3 w3 ⟨rfl, h3⟩; rw [hl]
          have r0 := h3.cell q0
          have r1 := h3.cell q1
          have r2 := h3.cell q2
          have s3 := h3.size
          clear hl
          go_wp2_with fail
          refine (l02Add_any _ _ _ _ _ z l _ HR.out (hO.ints.ext (by repeat' (first | (with_reducible exact Ext.refl _) | (with_reducible assumption) | (with_reducible apply Ext.alloc) | (with_reducible apply Ext.drew) | (with_reducible apply Ext.drewN) | (refine Ext.setAt ?_ (by omega) _ _) | (refine Ext.trans ?_ (by assumption))))) (hu.ext (by repeat' (first | (with_reducible exact Ext.refl _) | (with_reducible assumption) | (with_reducible apply Ext.alloc) | (with_reducible apply Ext.drew) | (with_reducible apply Ext.drewN) | (refine Ext.setAt ?_ (by omega) _ _) | (refine Ext.trans ?_ (by assumption))))) HZ.out HL.out).mono ?_; rintro e4 w4 ⟨v4, rfl, o4, h4⟩
          have u0 := h4.cell r0
          have u1 := h4.cell r1
          have u2 := h4.cell r2
          go_wp2
          go_roundw
          case rel => exact ⟨j + 1, _, by omega, by go_num, rawOk_add HR.out HZ.out HL.out, HE.out, o4.mono (by omega), (by repeat' (first | (with_reducible exact Ext.refl _) | (with_reducible assumption) | (with_reducible apply Ext.alloc) | (with_reducible apply Ext.drew) | (with_reducible apply Ext.drewN) | (refine Ext.setAt ?_ (by omega) _ _) | (refine Ext.trans ?_ (by assumption)))), u0, u1, u2⟩
          case measure => simp [intOf]; omega
      · have : j = ll.length := by omega
        subst this
        have HE := Lib.hid hE; clear hE
        go_wp2
        go_ret
        have := HE.out
        rw [List.drop_length, sumGo] at this
        rw [← this]
        exact ⟨_, rfl, hO, hEx⟩

set_option maxRecDepth 100000 in
set_option maxHeartbeats 1000000 in
theorem sumElems_impl (k p n : Int) (vx : Value) (ll : List (List Int)) (w : World) (hvx : RowsS w vx ll) : Calls Try.prog 36 #[ringV k p n, vx] w fun e w' =>
    ∃ v, e = .returned v ∧ OwnI w' w.heap.size v (sumOf k p n ll) ∧ Ext w w' := by
  obtain ⟨ax, capx, rfl, hc1, hc2⟩ := hvx.val
  cases hr : ringOk k p n
  · rw [show sumOf k p n ll = [] by simp [sumOf, hr]]
    go_enter Try.func36, Try.ntmps36
    go_wp2_with (go_at_call 73; refine (ringOk_impl _ _ _ _).mono ?_; rintro e1 w1 ⟨rfl, h1⟩; have s1 := h1.size; (try simp at s1); have t1_0 : w.heap.size < w1.heap.size := (by omega); have c1_0 := fun o => h1.cells (w.heap.size) o (by first | (simp; done) | (simp; omega) | omega))
    go_ret
    exact ⟨_, rfl, OwnI.nil _ _, (by repeat' (first | (with_reducible exact Ext.refl _) | (with_reducible assumption) | (with_reducible apply Ext.alloc) | (with_reducible apply Ext.drew) | (with_reducible apply Ext.drewN) | (refine Ext.setAt ?_ (by omega) _ _) | (refine Ext.trans ?_ (by assumption))))⟩
  · rw [show sumOf k p n ll = sumGo k p n (zeroL k p n) ll by simp [sumOf, hr]]
    have hw := ringOk_wide hr
    have hf := ringOk_fit hr
    have hzw := (rawOk_iff.1 (rawOk_zero hr)).1
    have hw0 := hw.lo
    have hw1 := hw.hi
    have HR := Lib.hid hr
    go_enter Try.func36, Try.ntmps36
    go_wp2_with fail
    refine (ringOk_impl _ _ _ _).mono ?_; rintro e1 w1 ⟨rfl, h1⟩; have s1 := h1.size; (try simp at s1); have t1_0 : w.heap.size < w1.heap.size := (by omega); have c1_0 := fun o => h1.cells (w.heap.size) o (by first | (simp; done) | (simp; omega) | omega); go_wp2_with fail
    refine (rawZero_any _ _ _ hw _).mono ?_; rintro e2 w2 ⟨v2, rfl, o2, h2⟩; have s2 := h2.size; (try simp at s2); have t2_0 : w.heap.size < w2.heap.size := (by omega); have c2_0 := fun o => h2.cells (w.heap.size) o (by first | (simp; done) | (simp; omega) | omega); go_wp2_with fail
    clear hr
    obtain ⟨b, cap, hb, rfl, hcp1, hcp2⟩ := o2.open (by omega)
    clear hzw
    generalize hm : (zeroL k p n).length = m at o2 hcp1 ⊢
    have HM := Lib.hid hm; clear hm
    go_loopw [15] (fun i wr => ∃ (j : Nat) (z : List Int), j ≤ ll.length ∧ i = .int .i64 j ∧ rawOk k p n z = true ∧ sumGo k p n z (ll.drop j) = sumGo k p n (zeroL k p n) ll ∧ OwnI wr (w.heap.size + 1) (.slice (some ⟨b, 0, none⟩) m cap) z ∧ Ext w wr ∧
        wr.cell? ⟨w.heap.size, 0, none⟩ = some (.int .i64 k) ∧ wr.cell? ⟨w.heap.size, 1, none⟩ = some (.int .i64 p) ∧ wr.cell? ⟨w.heap.size, 2, none⟩ = some (.int .i64 n)) (fun i wr => ll.length - (intOf i).toNat)
    case atStart => exact ⟨0, _, Nat.zero_le _, rfl, rawOk_zero HR.out, rfl, o2.mono (by first | (simp [World.setCell]; done) | (simp [World.setCell]; omega) | omega), (by repeat' (first | (with_reducible exact Ext.refl _) | (with_reducible assumption) | (with_reducible apply Ext.alloc) | (with_reducible apply Ext.drew) | (with_reducible apply Ext.drewN) | (refine Ext.setAt ?_ (by omega) _ _) | (refine Ext.trans ?_ (by assumption)))), by simp [c2_0, c1_0, go_sem], by simp [c2_0, c1_0, go_sem], by simp [c2_0, c1_0, go_sem]⟩
    case round =>
      obtain ⟨j, z, hj, rfl, hz, hE, hO, hEx, q0, q1, q2⟩ := hrel
      have HZ := Lib.hid hz; clear hz
      by_cases hlt : j < ll.length
      · obtain ⟨b2, off, u, l, rfl, hcell, hu0, hlj, hd⟩ := hvx.get hlt
        rw [hd] at hE
        have HE := Lib.hid hE
        clear hlj hd hE
        have hsz0 := hEx.size
        have hcell' := hEx.cell hcell
        have hu := hu0.ext hEx
        cases hl : rawOk k p n l
        · go_wp2_with fail
          refine (elemOk_impl _ _ _ _ l _ hu).mono ?_; rintro e3 w3 ⟨rfl, h3⟩; rw [elemOk_yes HR.out, hl]
          go_wp2
          go_ret
          rw [sumGo_no hl] at HE
          rw [← HE.out]
          exact ⟨_, rfl, OwnI.nil _ _, (by repeat' (first | (with_reducible exact Ext.refl _) | (with_reducible assumption) | (with_reducible apply Ext.alloc) | (with_reducible apply Ext.drew) | (with_reducible apply Ext.drewN) | (refine Ext.setAt ?_ (by omega) _ _) | (refine Ext.trans ?_ (by assumption))))⟩
        · have HL := Lib.hid hl
          rw [sumGo_yes hl] at HE
          go_wp2_with fail
          refine (elemOk_impl _ _ _ _ l _ hu).mono ?_; rintro e3 w3 ⟨rfl, h3⟩; rw [elemOk_yes HR.out, hl]
          have r0 := h3.cell q0
          have r1 := h3.cell q1
          have r2 := h3.cell q2
          have s3 := h3.size
          have hlo := fun x => hu0.block_lt (k := x) (by have := (rawOk_iff.1 hl).1; omega)
          have HLO := Lib.hid hlo; clear hlo
          clear hl
          obtain ⟨rest, hP, hcap3, hm3, hB3, hm4⟩ := (hO.ext h3).part
          subst hm3
          have HC := Lib.hid hcap3; clear hcap3
          go_wp2_with fail
          refine (addInto_any _ _ _ b 0 _ _ _ z l _ HR.out hP (hu.ext (by repeat' (first | (with_reducible exact Ext.refl _) | (with_reducible assumption) | (with_reducible apply Ext.alloc) | (with_reducible apply Ext.drew) | (with_reducible apply Ext.drewN) | (refine Ext.setAt ?_ (by omega) _ _) | (refine Ext.trans ?_ (by assumption))))) (fun e => by have := HLO.out b e; omega) HZ.out HL.out).mono ?_
          rintro e4 w4 ⟨rfl, hB4, g4⟩
          have h4 : Ext w w4 := (show Ext w w3 from (by repeat' (first | (with_reducible exact Ext.refl _) | (with_reducible assumption) | (with_reducible apply Ext.alloc) | (with_reducible apply Ext.drew) | (with_reducible apply Ext.drewN) | (refine Ext.setAt ?_ (by omega) _ _) | (refine Ext.trans ?_ (by assumption))))).only g4 (fun k hk => by injection hk with hk; omega)
          have u0 := grown_cell g4 (by omega) r0
          have u1 := grown_cell g4 (by omega) r1
          have u2 := grown_cell g4 (by omega) r2
          go_wp2
          go_roundw
          case rel => exact ⟨j + 1, _, by omega, by go_num, rawOk_add HR.out HZ.out HL.out, HE.out, by rw [HC.out]; exact OwnI.of_part (by omega) hB4 (by rw [addL_length (by have := (rawOk_iff.1 HZ.out).1; have := (rawOk_iff.1 HL.out).1; omega)]) hm4, h4, u0, u1, u2⟩
          case measure => simp [intOf]; omega
      · have : j = ll.length := by omega
        subst this
        have HE := Lib.hid hE; clear hE
        go_wp2
        go_ret
        have := HE.out
        rw [List.drop_length, sumGo] at this
        rw [← this]
        exact ⟨_, rfl, hO.mono (by omega), hEx⟩
end Go.Proofs.Ytlmidcclcnehnaa
