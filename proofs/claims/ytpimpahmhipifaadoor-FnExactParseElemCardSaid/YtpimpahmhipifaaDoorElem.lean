/- Elements of rings: tops, ElemOk. -/
import Derived.Test.YtpimpahmhipifaaDoorRingsW0
import Derived.Test.YtpimpahmhipifaaDoorSlices
namespace Go.Proofs.YtpimpahmhipifaaDoor
open Go.RowKit
set_option linter.unusedSimpArgs false
set_option linter.unusedVariables false

/-- The greatest integer of an element of a valid ring. -/
def ringTop (k p n : Int) : Int := if k = 1 then 1 else if k = 3 ∨ k = 4 ∨ k = 5 then p else if k = 6 then 2 ^ n.toNat - 1 else p - 1
theorem pow_small (n : Nat) (h : n ≤ 20) : 1 ≤ (2 : Int) ^ n ∧ (2 : Int) ^ n ≤ 1048576 := by
  have h1 : (2 : Nat) ^ n ≤ 2 ^ 20 := Nat.pow_le_pow_right (by omega) h
  have h2 : 0 < (2 : Nat) ^ n := Nat.pow_pos (by omega)
  have h3 : ((2 ^ n : Nat) : Int) = (2 : Int) ^ n := by simp
  rw [← h3]
  omega
theorem pow_wrap (n : Nat) (h : n ≤ 20) : wrap64 (wrap64 (2 ^ n) - 1) = 2 ^ n - 1 := by
  have := pow_small n h
  have e : wrap64 (2 ^ n) = 2 ^ n := IntWalk.wrap64_in _ (by omega)
  rw [e]
  exact IntWalk.wrap64_in _ (by omega)
/-- What a ring's numbers have to satisfy for its top to be reckoned. -/
structure RingFit (k p n : Int) : Prop where
  six : k = 6 → 1 ≤ n ∧ n ≤ 20
  lo : -9223372036854775808 < p
  hi : p ≤ 9223372036854775807
theorem ringOk_fit {k p n : Int} (h : ringOk k p n = true) : RingFit k p n := by
  rcases kinds k with rfl | rfl | rfl | rfl | rfl | rfl | rfl | rfl | ⟨e1, e2, e3, e4, e5, e6, e7, e8⟩
  all_goals simp [ringOk, *] at h
  · exact ⟨by omega, by omega, by omega⟩
  · have := isPrime_ge h.1; have := isPrime_le h.1; exact ⟨by omega, by omega, by omega⟩
  · exact ⟨by omega, by omega, by omega⟩
  · exact ⟨by omega, by omega, by omega⟩
  · exact ⟨by omega, by omega, by omega⟩
  · exact ⟨by omega, by omega, by omega⟩
  · have := isPrime_ge h.1.1; have := isPrime_le h.1.1; exact ⟨by omega, by omega, by omega⟩
  · have := isPrime_ge h.1.1; have := isPrime_le h.1.1; exact ⟨by omega, by omega, by omega⟩
theorem ringTop_le {k p n : Int} (h : RingFit k p n) : ringTop k p n ≤ 9223372036854775807 := by
  have := h.lo; have := h.hi
  unfold ringTop
  split
  · omega
  · split
    · omega
    · split
      · have := pow_small n.toNat (by have := h.six (by assumption); omega); omega
      · omega

theorem rawTop_any (k p n : Int) (h : RingFit k p n) (w : World) : Calls Tryd.prog 82 #[ringV k p n] w fun e w' =>
    e = .returned (.int .i64 (ringTop k p n)) ∧ Ext w w' := by
  obtain ⟨h6, hp, hp2⟩ := h
  by_cases e6 : k = 6
  · subst e6
    obtain ⟨g1, g2⟩ := h6 rfl
    clear h6
    go_enter Tryd.func82, Tryd.ntmps82
    go_wp2
    go_ret
    exact ⟨ret_int ((pow_wrap n.toNat (by omega)).trans (by simp [ringTop])), (by repeat' (first | (with_reducible exact Ext.refl _) | (with_reducible assumption) | (with_reducible apply Ext.alloc) | (with_reducible apply Ext.drew) | (with_reducible apply Ext.drewN) | (refine Ext.setAt ?_ (by omega) _ _) | (refine Ext.trans ?_ (by assumption))))⟩
  clear h6
  have hk : k = 1 ∨ k = 3 ∨ k = 4 ∨ k = 5 ∨ (¬ k = 1 ∧ ¬ k = 3 ∧ ¬ k = 4 ∧ ¬ k = 5) := by omega
  rcases hk with rfl | rfl | rfl | rfl | ⟨e1, e3, e4, e5⟩
  all_goals
    go_enter Tryd.func82, Tryd.ntmps82
    go_wp2
    go_ret
    exact ⟨ret_int (by simp [ringTop, *]), (by repeat' (first | (with_reducible exact Ext.refl _) | (with_reducible assumption) | (with_reducible apply Ext.alloc) | (with_reducible apply Ext.drew) | (with_reducible apply Ext.drewN) | (refine Ext.setAt ?_ (by omega) _ _) | (refine Ext.trans ?_ (by assumption))))⟩
theorem l02Top_any (k p n : Int) (h : RingFit k p n) (w : World) : Calls Tryd.prog 80 #[ringV k p n] w fun e w' =>
    e = .returned (.int .i64 (ringTop k p n)) ∧ Ext w w' := by
  obtain ⟨h6, hp, hp2⟩ := h
  by_cases e6 : k = 6
  · subst e6
    obtain ⟨g1, g2⟩ := h6 rfl
    clear h6
    go_enter Tryd.func80, Tryd.ntmps80
    go_wp2
    go_ret
    exact ⟨ret_int ((pow_wrap n.toNat (by omega)).trans (by simp [ringTop])), (by repeat' (first | (with_reducible exact Ext.refl _) | (with_reducible assumption) | (with_reducible apply Ext.alloc) | (with_reducible apply Ext.drew) | (with_reducible apply Ext.drewN) | (refine Ext.setAt ?_ (by omega) _ _) | (refine Ext.trans ?_ (by assumption))))⟩
  clear h6
  have hk : k = 1 ∨ k = 3 ∨ k = 4 ∨ k = 5 ∨ (¬ k = 1 ∧ ¬ k = 3 ∧ ¬ k = 4 ∧ ¬ k = 5) := by omega
  rcases hk with rfl | rfl | rfl | rfl | ⟨e1, e3, e4, e5⟩
  all_goals
    go_enter Tryd.func80, Tryd.ntmps80
    go_wp2
    go_ret
    exact ⟨ret_int (by simp [ringTop, *]), (by repeat' (first | (with_reducible exact Ext.refl _) | (with_reducible assumption) | (with_reducible apply Ext.alloc) | (with_reducible apply Ext.drew) | (with_reducible apply Ext.drewN) | (refine Ext.setAt ?_ (by omega) _ _) | (refine Ext.trans ?_ (by assumption))))⟩

/-- All integers of l are from 0 to top. -/
def allTo (top : Int) (l : List Int) : Bool := l.all fun v => decide (0 ≤ v) && decide (v ≤ top)
theorem allTo_nil (top : Int) : allTo top [] = true := rfl
theorem allTo_cons (top v : Int) (l : List Int) : allTo top (v :: l) = (decide (0 ≤ v) && decide (v ≤ top) && allTo top l) := rfl
theorem allTo_in {top v : Int} {l : List Int} (h1 : 0 ≤ v) (h2 : v ≤ top) : allTo top (v :: l) = allTo top l := by simp [allTo_cons, h1, h2]
theorem allTo_out {top v : Int} {l : List Int} (h : v < 0 ∨ top < v) : allTo top (v :: l) = false := by
  rw [allTo_cons]
  rcases h with h | h
  · have : ¬ 0 ≤ v := by omega
    simp [this]
  · have : ¬ v ≤ top := by omega
    simp [this]

theorem inRing_any (k p n : Int) (h : RingFit k p n) (v : Value) (l : List Int) (w : World) (hl : IntS w v l) : Calls Tryd.prog 69 #[ringV k p n, v] w fun e w' =>
    e = .returned (.bool (allTo (ringTop k p n) l)) ∧ Ext w w' := by
  obtain ⟨a, cap, rfl, hc1, hc2⟩ := hl.val
  go_enter Tryd.func69, Tryd.ntmps69
  go_wp2_with (go_at_call 82; refine (rawTop_any _ _ _ h _).mono ?_; rintro e1 w1 ⟨rfl, h1⟩)
  have hl1 := hl.ext (show Ext w w1 from (by repeat' (first | (with_reducible exact Ext.refl _) | (with_reducible assumption) | (with_reducible apply Ext.alloc) | (with_reducible apply Ext.drew) | (with_reducible apply Ext.drewN) | (refine Ext.setAt ?_ (by omega) _ _) | (refine Ext.trans ?_ (by assumption)))))
  have ht := ringTop_le h
  go_loop [12] (fun i => ∃ j : Nat, j ≤ l.length ∧ allTo (ringTop k p n) (l.drop j) = allTo (ringTop k p n) l ∧ i = .int .i64 j) (fun i => l.length - (intOf i).toNat)
  case atStart => exact ⟨0, Nat.zero_le _, rfl, rfl⟩
  case round =>
    obtain ⟨j, hj, ha, rfl⟩ := hrel
    have HA := Lib.hid ha; clear ha
    by_cases hlt : j < l.length
    · obtain ⟨b, off, x, rfl, hcell, _, hd⟩ := hl1.get hlt
      have HD := Lib.hid hd; clear hd
      by_cases g0 : x < 0
      · go_wp2
        go_ret
        exact ⟨ret_bool (by rw [← HA.out, HD.out, allTo_out (.inl g0)]), (by repeat' (first | (with_reducible exact Ext.refl _) | (with_reducible assumption) | (with_reducible apply Ext.alloc) | (with_reducible apply Ext.drew) | (with_reducible apply Ext.drewN) | (refine Ext.setAt ?_ (by omega) _ _) | (refine Ext.trans ?_ (by assumption))))⟩
      by_cases g1 : ringTop k p n < x
      · go_wp2
        go_ret
        exact ⟨ret_bool (by rw [← HA.out, HD.out, allTo_out (.inr g1)]), (by repeat' (first | (with_reducible exact Ext.refl _) | (with_reducible assumption) | (with_reducible apply Ext.alloc) | (with_reducible apply Ext.drew) | (with_reducible apply Ext.drewN) | (refine Ext.setAt ?_ (by omega) _ _) | (refine Ext.trans ?_ (by assumption))))⟩
      · go_wp2
        go_round
        case rel => exact ⟨j + 1, by omega, by rw [← HA.out, HD.out, allTo_in (by omega) (by omega)], by go_num⟩
        case measure => simp [intOf]; omega
    · have : j = l.length := by omega
      subst this
      go_wp2
      go_ret
      exact ⟨ret_bool (by rw [← HA.out, drop_len, allTo_nil]), (by repeat' (first | (with_reducible exact Ext.refl _) | (with_reducible assumption) | (with_reducible apply Ext.alloc) | (with_reducible apply Ext.drew) | (with_reducible apply Ext.drewN) | (refine Ext.setAt ?_ (by omega) _ _) | (refine Ext.trans ?_ (by assumption))))⟩
end Go.Proofs.YtpimpahmhipifaaDoor
