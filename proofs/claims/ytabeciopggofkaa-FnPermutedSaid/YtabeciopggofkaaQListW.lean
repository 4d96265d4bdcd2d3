/- joinLabels, keptOnly, withoutInt, sameLabels of the program. -/
import Derived.Test.YtabeciopggofkaaQBase
import Derived.Test.YtabeciopggofkaaQStrideW
namespace Go.Proofs.Ytabeciopggofkaa
open Go.RowKit
set_option linter.unusedSimpArgs false
set_option linter.unusedVariables false

theorem take_snoc' {l : List Int} {j : Nat} {x : Int} (h : l[j]? = some x) : l.take (j + 1) = l.take j ++ [x] := by
  obtain ⟨hj, rfl⟩ := List.getElem?_eq_some_iff.1 h
  exact List.take_succ_eq_append_getElem hj
theorem IntS.takeS {w : World} {a : Option Addr} {n cap : Nat} {l : List Int} (h : IntS w (.slice a n cap) l) {j : Nat} (hj : j ≤ l.length) : IntS w (.slice a j cap) (l.take j) := by
  obtain ⟨hl, a', cap', hv, h1, h2, h3⟩ := h.row
  cases hv
  have e : (l.take j).length = j := by rw [List.length_take]; omega
  refine ⟨⟨by rw [ints_length]; omega, a, cap, by rw [e], by omega, h2, fun hp => ?_⟩⟩
  obtain ⟨b', off', ha, hc⟩ := h3 (by rw [ints_length] at hp ⊢; omega)
  refine ⟨b', off', ha, fun i u hi => hc i u ?_⟩
  have hi2 := (List.getElem?_eq_some_iff.1 hi).1
  rw [ints_length, e] at hi2
  rw [ints_get] at hi ⊢
  rw [List.getElem?_take_of_lt hi2] at hi
  exact hi
set_option maxHeartbeats 1000000 in
/-- 'sameLabels' of a list in another order. -/
theorem sameLabels_yes (va vb : Value) (a b : List Int) (w : World) (ha : IntS w va a) (hb : IntS w vb b) (hp : a.Perm b) (hn : b.Nodup) : Calls Try.prog 68 #[va, vb] w fun e w' =>
    e = .returned (.bool true) ∧ w = w' := by
  obtain ⟨aA, cA, rfl, hcA, hdA⟩ := ha.val
  obtain ⟨aB, cB, rfl, hcB, hdB⟩ := hb.val
  have hl := hp.length_eq
  have hne : ((b.length : Int) != (a.length : Int)) = false := by rw [hl]; simp
  have HP := Lib.hid hp; clear hp
  have HL := Lib.hid hl; clear hl
  have HN := Lib.hid hn; clear hn
  go_enter Try.func68, Try.ntmps68
  go_wp2
  go_loop [14] (fun i => ∃ j : Nat, j ≤ b.length ∧ i = .int .i64 j) (fun i => b.length - (RowKit.intOf i).toNat)
  case atStart => exact ⟨0, Nat.zero_le _, rfl⟩
  case round =>
    obtain ⟨j, hj, rfl⟩ := hrel
    by_cases hlt : j < b.length
    · obtain ⟨b2, off2, x, rfl, hcx, hx, hxd⟩ := hb.get hlt
      have htk := hb.takeS (j := j) (by omega)
      have h1 : hasL (b.take j) x = false := by
        rw [hasL_not]
        intro hm
        have := HN.out
        rw [← List.take_append_drop j b, hxd, List.nodup_append] at this
        exact this.2.2 x hm x (by simp) rfl
      have h2 : hasL a x = true := by rw [hasL_iff]; exact HP.out.mem_iff.2 (List.mem_of_getElem? hx)
      have H1 := Lib.hid h1; have H2 := Lib.hid h2
      clear h1 h2 hx hxd
      have hjc : j ≤ cB := by omega
      go_wp2_with fail
      refine (hasInt_any _ (b.take j) x _ htk).mono ?_; rintro e2 w2 ⟨rfl, rfl⟩
      rw [H1.out]
      go_wp2_with fail
      refine (hasInt_any _ a x _ ha).mono ?_; rintro e2 w2 ⟨rfl, rfl⟩
      rw [H2.out]
      go_wp2
      go_round
      case rel => exact ⟨j + 1, by omega, by go_num⟩
      case measure => simp [RowKit.intOf]; omega
    · have : j = b.length := by omega
      subst this
      go_wp2
      go_ret
      exact ⟨rfl, rfl⟩
end Go.Proofs.Ytabeciopggofkaa
