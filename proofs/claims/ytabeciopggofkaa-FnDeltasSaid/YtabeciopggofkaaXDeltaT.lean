/- DeltaTensor over a universe of labels; the laws' cut. -/
import Derived.Test.YtabeciopggofkaaXBase
import Derived.Test.YtabeciopggofkaaXDeltaJ
import Derived.Test.YtabeciopggofkaaXDeltasQ
namespace Go.Proofs.Ytabeciopggofkaa
open Go.RowKit
set_option linter.unusedSimpArgs false
set_option linter.unusedVariables false

section
variable {k p n : Int} (hr : ringOk k p n = true)
theorem deltaT_any {dm : Int → Int} {U L : List Int} (u : Uni dm U) (s : Sub U L) {d : Int} (hd : ∀ l ∈ L, dm l = d) (h0 : 1 ≤ d) (h8 : d ≤ 8) {l0 : Int} (hl : l0 ∈ L) (vL : Value) (w : World) (hL : IntS w vL L) :
    Calls Try.prog 34 #[ringV k p n, vL, .int .i64 d] w fun e w' => ∃ v, e = .returned (.tuple #[v, .bool true]) ∧ OwnT w' w.heap.size v L (L.map dm) (flat (deltaXs hr dm L l0)) ∧ Ext w w' := by
  have ax := u.ax s
  have hD : L.map dm = List.replicate L.length d := map_const hd
  have hz : deltaTok k p n L d = true := by
    have := ax.pos
    unfold deltaTok
    rw [hr, ← hD, ax.tsize]
    simp [h0, h8]
    omega
  obtain ⟨W, hW⟩ : ∃ W : Nat, ringWidth k n = W := ⟨(ringWidth k n).toNat, by have := (ringOk_wide hr).lo; omega⟩
  have hx : deltaTX k p n L d = flat (deltaXs hr dm L l0) := by
    have e : (prodL (L.map dm)).toNat = size (axs dm L) := by have := u.size s; omega
    unfold deltaTX
    rw [if_pos hz, ← hD, e, hW, ← deltaE_all hr u s hd h0 hl]
    exact deltaX_flat hr hW u s hd h0 h8 _ (by omega)
  refine (deltaTensor_impl k p n vL d L w hL ⟨by omega, by omega⟩ (by have := ax.rank; omega)).mono ?_
  rintro e w' ⟨v, rfl, o, h⟩
  rw [hz]
  rw [hx, show deltaTL k p n L d = L by unfold deltaTL; rw [if_pos hz], show deltaTD k p n L d = L.map dm by unfold deltaTD; rw [if_pos hz, hD]] at o
  exact ⟨v, rfl, o, h⟩
theorem putL_whole {l x : List Int} (h : l.length = x.length) : putL l 0 x = x := by
  unfold putL
  rw [List.take_zero, List.nil_append, Nat.zero_add, ← h, List.drop_length, List.append_nil]
include hr in
theorem delta0_any (w : World) : Calls Try.prog 34 #[ringV k p n, .slice none 0 0, .int .i64 2] w fun e w' => ∃ v, e = .returned (.tuple #[v, .bool true]) ∧ OwnT w' w.heap.size v [] [] (oneL k p n) ∧ Ext w w' := by
  have hz : deltaTok k p n [] 2 = true := by
    unfold deltaTok
    rw [hr]
    decide
  have hl : (zeroL k p n).length = (oneL k p n).length := by
    have h1 := (rawOk_iff.1 (rawOk_zero hr)).1
    have h2 := (rawOk_iff.1 (rawOk_one hr)).1
    omega
  have hx : deltaTX k p n [] 2 = oneL k p n := by
    unfold deltaTX
    rw [if_pos hz]
    have e1 : rep (prodL (List.replicate ([] : List Int).length 2)).toNat (zeroL k p n) = zeroL k p n := by
      show rep 1 (zeroL k p n) = _
      simp [rep]
    rw [e1]
    show putL (putL (zeroL k p n) ((diag 0 2 0).toNat * _) (oneL k p n)) ((diag 0 2 1).toNat * _) (oneL k p n) = _
    have e2 : ∀ v, (diag 0 2 v).toNat = 0 := fun v => rfl
    rw [e2, e2, Nat.zero_mul, putL_whole hl, putL_whole rfl]
  refine (deltaTensor_impl k p n _ 2 [] w (IntS.nil w) ⟨by omega, by omega⟩ (by simp)).mono ?_
  rintro e w' ⟨v, rfl, o, h⟩
  rw [hz]
  rw [hx, show deltaTL k p n [] 2 = [] by unfold deltaTL; rw [if_pos hz], show deltaTD k p n [] 2 = [] by unfold deltaTD; rw [if_pos hz]; rfl] at o
  exact ⟨v, rfl, o, h⟩
end
set_option maxHeartbeats 1000000 in
theorem lawsCut_any (va : Value) (a : List Int) (z : Int) (w : World) (ha : IntS w va a) (hla : a.length ≤ 1000) : Calls Try.prog 36 #[va, .int .i64 z] w fun e w' =>
    ∃ v, e = .returned v ∧ OwnI w' w.heap.size v (cutL a z) ∧ Ext w w' := by
  obtain ⟨aA, cA, rfl, hcA, hdA⟩ := ha.val
  go_enter Try.func36, Try.ntmps36
  go_wp2
  go_loopw [5, 11] (fun q i wr => ∃ j : Nat, j ≤ a.length ∧ i = .int .i64 j ∧ OwnI wr w.heap.size q (cutL (a.take j) z) ∧ Ext w wr) (fun q i wr => a.length - (RowKit.intOf i).toNat)
  case atStart => exact ⟨0, Nat.zero_le _, rfl, OwnI.empty (Nat.le_refl _) rfl, (Ext.refl _).alloc _⟩
  case round =>
    obtain ⟨j, hj, rfl, hO, hE⟩ := hrel
    obtain ⟨aq, cq, rfl, hq1, hq2⟩ := hO.ints.val
    have hjl := cutL_len (a.take j) z
    rw [List.length_take] at hjl
    by_cases hlt : j < a.length
    · obtain ⟨b2, off2, x, rfl, hcx, hx, _⟩ := (ha.ext hE).get hlt
      have HX := Lib.hid hx; clear hx
      have hs := hE.size
      by_cases hh : x = z
      · subst hh
        go_wp2
        go_roundw
        case rel => exact ⟨j + 1, by omega, by go_num, by rw [take_snoc' HX.out, cutL_snoc_no]; exact hO, hE⟩
        case measure => simp [RowKit.intOf]; omega
      · have hne : (x != z) = true := by rw [bne_iff_ne]; exact hh
        go_wp2_with (at_builtin; refine wpList_app _ rfl _ _ 29 rfl _ _ rfl rfl _ (run_push _ wr w.heap.size _ _ x hO (by omega) hs) ?_; rintro v3 w3 ⟨o3, g3, _⟩)
        go_roundw
        case rel => exact ⟨j + 1, by omega, by go_num, by rw [take_snoc' HX.out, cutL_snoc_yes hh]; exact o3, hE.mark hO g3⟩
        case measure => simp [RowKit.intOf]; omega
    · have : j = a.length := by omega
      subst this
      rw [List.take_length] at hO
      have HO := Lib.hid hO; clear hO
      rw [List.take_length]
      go_wp2
      go_ret
      exact ⟨_, rfl, HO.out, hE⟩
end Go.Proofs.Ytabeciopggofkaa
