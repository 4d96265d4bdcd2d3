/- Decompositions: eqIntSS, szDecomposition, toDecomposition, eqDecomposition, WidthOf; the law's walk. -/
import Derived.Test.YtlmidcclcnehnaaRows2
namespace Go.Proofs.Ytlmidcclcnehnaa
open Go.RowKit
set_option linter.unusedSimpArgs false
set_option linter.unusedVariables false

theorem RowsS.len {w : World} {v : Value} {ll : List (List Int)} (h : RowsS w v ll) : True := trivial
set_option maxHeartbeats 800000 in
theorem eqIntSS_any (v u : Value) (ll mm : List (List Int)) (w : World) (hl : RowsS w v ll) (hm : RowsS w u mm) : Calls Try.prog 37 #[v, u] w fun e w' =>
    e = .returned (.bool (ll == mm)) ∧ Ext w w' := by
  obtain ⟨a, cap, rfl, hc1, hc2⟩ := hl.val
  obtain ⟨a2, cap2, rfl, hc3, hc4⟩ := hm.val
  by_cases hne : ll.length = mm.length
  · have HN := Lib.hid hne; clear hne
    have hne2 : ((ll.length : Int) == (mm.length : Int)) = true := by rw [beq_iff_eq]; have := HN.out; omega
    go_enter Try.func37, Try.ntmps37
    go_wp2
    go_loopw [5] (fun i wr => ∃ j : Nat, j ≤ ll.length ∧ i = .int .i64 j ∧ (ll.drop j == mm.drop j) = (ll == mm) ∧ Ext w wr) (fun i _ => ll.length - (intOf i).toNat)
    case atStart => exact ⟨0, Nat.zero_le _, rfl, rfl, (by repeat' (first | (with_reducible exact Ext.refl _) | (with_reducible assumption) | (with_reducible apply Ext.alloc) | (with_reducible apply Ext.drew) | (with_reducible apply Ext.drewN) | (refine Ext.setAt ?_ (by omega) _ _) | (refine Ext.trans ?_ (by assumption))))⟩
    case round =>
      obtain ⟨j, hj, rfl, hq, hE⟩ := hrel
      have HQ := Lib.hid hq; clear hq
      by_cases hlt : j < ll.length
      · obtain ⟨b, off, x, l, rfl, hcell, hx, _, hxd⟩ := (hl.ext hE).get hlt
        obtain ⟨b2, off2, y, m, rfl, hcell2, hy, _, hyd⟩ := (hm.ext hE).get (i := j) (by have := HN.out; omega)
        have HX := Lib.hid hxd; clear hxd
        have HY := Lib.hid hyd; clear hyd
        have hlt2 : j < mm.length := by have := HN.out; omega
        have hlm : (ll == mm) = ((l == m) && (ll.drop (j + 1) == mm.drop (j + 1))) := by rw [← HQ.out, HX.out, HY.out]; rfl
        have HLM := Lib.hid hlm; clear hlm
        cases hxy : (l == m)
        · go_wp2
          go_quiet ((go_at_call 20; exact Calls.quiet_of ((eqIntS_quiet _ _ l m _ (hx.ext ((Ext.refl _).drewN _)) (hy.ext ((Ext.refl _).drewN _))))))
          go_wp2
          go_ret
          exact ⟨ret_bool (by rw [HLM.out, hxy]; rfl), (by repeat' (first | (with_reducible exact Ext.refl _) | (with_reducible assumption) | (with_reducible apply Ext.alloc) | (with_reducible apply Ext.drew) | (with_reducible apply Ext.drewN) | (refine Ext.setAt ?_ (by omega) _ _) | (refine Ext.trans ?_ (by assumption))))⟩
        · go_wp2
          go_quiet ((go_at_call 20; exact Calls.quiet_of ((eqIntS_quiet _ _ l m _ (hx.ext ((Ext.refl _).drewN _)) (hy.ext ((Ext.refl _).drewN _))))))
          go_wp2
          go_roundw
          case rel => exact ⟨j + 1, by omega, by go_num, by rw [HLM.out, hxy]; rfl, (by repeat' (first | (with_reducible exact Ext.refl _) | (with_reducible assumption) | (with_reducible apply Ext.alloc) | (with_reducible apply Ext.drew) | (with_reducible apply Ext.drewN) | (refine Ext.setAt ?_ (by omega) _ _) | (refine Ext.trans ?_ (by assumption))))⟩
          case measure => simp [intOf]; omega
      · have : j = ll.length := by omega
        subst this
        go_wp2
        go_ret
        exact ⟨ret_bool (by rw [← HQ.out, drop_len, HN.out, drop_len]; rfl), (by repeat' (first | (with_reducible exact Ext.refl _) | (with_reducible assumption) | (with_reducible apply Ext.alloc) | (with_reducible apply Ext.drew) | (with_reducible apply Ext.drewN) | (refine Ext.setAt ?_ (by omega) _ _) | (refine Ext.trans ?_ (by assumption))))⟩
  · have hne2 : ((ll.length : Int) == (mm.length : Int)) = false := by rw [beq_eq_false_iff_ne]; omega
    have hne3 : ((ll.length : Int) != (mm.length : Int)) = true := by rw [bne_iff_ne]; omega
    have hf : (ll == mm) = false := by
      rw [beq_eq_false_iff_ne]
      intro e; exact hne (by rw [e])
    have HF := Lib.hid hf; clear hf
    go_enter Try.func37, Try.ntmps37
    go_wp2
    go_ret
    exact ⟨ret_bool HF.out.symm, (by repeat' (first | (with_reducible exact Ext.refl _) | (with_reducible assumption) | (with_reducible apply Ext.alloc) | (with_reducible apply Ext.drew) | (with_reducible apply Ext.drewN) | (refine Ext.setAt ?_ (by omega) _ _) | (refine Ext.trans ?_ (by assumption))))⟩

/-- The greatest length. -/
def widest (w : Int) : List (List Int) → Int
  | [] => w
  | l :: ll => widest (max w l.length) ll
theorem mem_size {ll : List (List Int)} {l : List Int} (h : l ∈ ll) : l.length ≤ sizeSS ll := by
  induction ll with
  | nil => simp at h
  | cons x xs ih =>
    rw [sizeSS_cons]
    rcases List.mem_cons.1 h with rfl | h
    · omega
    · have := ih h; omega
theorem widest_bounds (ll : List (List Int)) (m : Int) (h : ∀ l ∈ ll, (l.length : Int) ≤ 1048576) (h0 : 0 ≤ m) (h1 : m ≤ 1048576) : 0 ≤ widest m ll ∧ widest m ll ≤ 1048576 := by
  induction ll generalizing m with
  | nil => exact ⟨h0, h1⟩
  | cons x xs ih =>
    have := h x (by simp)
    exact ih _ (fun l hl => h l (by simp [hl])) (by omega) (by omega)

end Go.Proofs.Ytlmidcclcnehnaa
