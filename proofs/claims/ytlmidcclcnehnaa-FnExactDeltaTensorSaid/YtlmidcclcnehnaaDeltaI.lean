/- DeltaTensor of the reference, whole, and of the program. -/
import Derived.Test.YtlmidcclcnehnaaDeltaS
namespace Go.Proofs.Ytlmidcclcnehnaa
open Go.RowKit
set_option linter.unusedSimpArgs false
set_option linter.unusedVariables false

theorem deltaTok_no {k p n d : Int} {L : List Int} (h : deltaTok k p n L d = false) : deltaTL k p n L d = [] ∧ deltaTD k p n L d = [] ∧ deltaTX k p n L d = [] := by
  simp [deltaTL, deltaTD, deltaTX, h]
theorem deltaTok_yes {k p n d : Int} {L : List Int} (h : deltaTok k p n L d = true) : deltaTL k p n L d = L ∧ deltaTD k p n L d = List.replicate L.length d ∧ deltaTX k p n L d = deltaX L.length (ringWidth k n).toNat (oneL k p n) (rep (prodL (List.replicate L.length d)).toNat (zeroL k p n)) d d.toNat := by
  simp [deltaTL, deltaTD, deltaTX, h]
theorem deltaTok_parts {k p n d : Int} {L : List Int} (h : deltaTok k p n L d = true) : ringOk k p n = true ∧ (1 ≤ d ∧ d ≤ 8) ∧ tsize L (List.replicate L.length d) ≠ -1 := by
  simp [deltaTok] at h
  exact ⟨h.1.1, h.1.2, h.2⟩
theorem deltaT_short (k p n : Int) (L : List Int) (d : Int) : (deltaTL k p n L d).length ≤ 12 ∧ (deltaTD k p n L d).length ≤ 12 ∧ (deltaTX k p n L d).length ≤ 30000 := by
  cases h : deltaTok k p n L d
  · obtain ⟨z1, z2, z3⟩ := deltaTok_no h
    rw [z1, z2, z3]; simp
  · obtain ⟨z1, z2, z3⟩ := deltaTok_yes h
    obtain ⟨hr, ⟨d0, d1⟩, ht⟩ := deltaTok_parts h
    obtain ⟨_, p1, p2, p3, p4, _, _⟩ := tsize_prod ht
    have hw := ringOk_wide hr
    rw [z1, z2, z3, List.length_replicate]
    refine ⟨p4, p4, ?_⟩
    obtain ⟨P, hP⟩ : ∃ P : Nat, prodL (List.replicate L.length d) = P := ⟨(prodL (List.replicate L.length d)).toNat, by omega⟩
    obtain ⟨W, hW⟩ : ∃ W : Nat, ringWidth k n = W := ⟨(ringWidth k n).toNat, by have := hw.lo; omega⟩
    have eP : (prodL (List.replicate L.length d)).toNat = P := by omega
    have eW : (ringWidth k n).toNat = W := by omega
    have hW6 : W ≤ 6 := by have := hw.hi; omega
    rw [eP, eW, deltaX_length d0 d1 hP (by rw [oneL_length, eW]) (by rw [rep_length, zeroL_length, eW]) d.toNat (by omega)]
    have : P * W ≤ 4096 * 6 := Nat.mul_le_mul (by omega) hW6
    omega

set_option maxRecDepth 100000 in
set_option maxHeartbeats 2000000 in
theorem deltaTensor_spec (k p n : Int) (vL : Value) (d : Int) (L : List Int) (w : World) (hL : IntS w vL L) (hd : -9223372036854775808 ≤ d ∧ d ≤ 9223372036854775807) (hlen : L.length ≤ 1048576) : Calls Try.prog 59 #[ringV k p n, vL, .int .i64 d] w fun e w' =>
    ∃ v, e = .returned (.tuple #[v, .bool (deltaTok k p n L d)]) ∧ OwnT w' w.heap.size v (deltaTL k p n L d) (deltaTD k p n L d) (deltaTX k p n L d) ∧ Ext w w' := by
  obtain ⟨aL, cL, rfl, hcL, hdL⟩ := hL.val
  go_enter Try.func59, Try.ntmps59
  go_wp2_with fail
  have BK : Blk (((w.alloc (.cells #[.int .i64 k, .int .i64 p, .int .i64 n] 28)).alloc (.cells #[.slice none 0 0, .slice none 0 0, .slice none 0 0] 26)).alloc (.cells #[] 3)) w.heap.size 28 [.int .i64 k, .int .i64 p, .int .i64 n] := Blk.ext (Blk.new w #[.int .i64 k, .int .i64 p, .int .i64 n] 28) (by repeat' (first | (with_reducible exact Ext.refl _) | (with_reducible assumption) | (with_reducible apply Ext.alloc) | (with_reducible apply Ext.drew) | (with_reducible apply Ext.drewN) | (refine Ext.setAt ?_ (by omega) _ _) | (refine Ext.trans ?_ (by assumption))))
  have BR : Blk (((w.alloc (.cells #[.int .i64 k, .int .i64 p, .int .i64 n] 28)).alloc (.cells #[.slice none 0 0, .slice none 0 0, .slice none 0 0] 26)).alloc (.cells #[] 3)) (w.heap.size + 1) 26 [.slice none 0 0, .slice none 0 0, .slice none 0 0] := Blk.ext (w := (w.alloc (.cells #[.int .i64 k, .int .i64 p, .int .i64 n] 28)).alloc (.cells #[.slice none 0 0, .slice none 0 0, .slice none 0 0] 26)) (by simpa using Blk.new (w.alloc (.cells #[.int .i64 k, .int .i64 p, .int .i64 n] 28)) #[.slice none 0 0, .slice none 0 0, .slice none 0 0] 26) (by repeat' (first | (with_reducible exact Ext.refl _) | (with_reducible assumption) | (with_reducible apply Ext.alloc) | (with_reducible apply Ext.drew) | (with_reducible apply Ext.drewN) | (refine Ext.setAt ?_ (by omega) _ _) | (refine Ext.trans ?_ (by assumption))))
  go_loopw [8, 12] (fun q i wr => ∃ j : Nat, j ≤ L.length ∧ i = .int .i64 j ∧ OwnI wr (w.heap.size + 2) q (List.replicate j d) ∧ Ext w wr ∧ Blk wr w.heap.size 28 [.int .i64 k, .int .i64 p, .int .i64 n] ∧ Blk wr (w.heap.size + 1) 26 [.slice none 0 0, .slice none 0 0, .slice none 0 0]) (fun q i wr => L.length - (intOf i).toNat)
  case atStart => exact ⟨0, Nat.zero_le _, rfl, OwnI.empty (by omega) (by simp), (by repeat' (first | (with_reducible exact Ext.refl _) | (with_reducible assumption) | (with_reducible apply Ext.alloc) | (with_reducible apply Ext.drew) | (with_reducible apply Ext.drewN) | (refine Ext.setAt ?_ (by omega) _ _) | (refine Ext.trans ?_ (by assumption)))), BK, BR⟩
  case round =>
    obtain ⟨j, hj, rfl, hV, hE, hK, hR⟩ := hrel
    obtain ⟨ad, cd, rfl, hcd1, hcd2⟩ := hV.ints.val
    have hKl := hK.lt
    have hRl := hR.lt
    by_cases hlt : j < L.length
    · have hne : ∀ q, (Value.slice ad (List.replicate j d).length cd).ownBlock = some q → w.heap.size + 2 ≤ q := fun q hq => (hV.block_lt hq).1
      have HNE := Lib.hid hne; clear hne
      go_wp2_with (at_builtin; refine wpList_app _ rfl _ _ 24 rfl _ _ rfl rfl _ (run_app_ints _ _ (w.heap.size + 2) _ _ (List.replicate j d) [d] (hV.ext (by repeat' (first | (with_reducible exact Ext.refl _) | (with_reducible assumption) | (with_reducible apply Ext.alloc) | (with_reducible apply Ext.drew) | (with_reducible apply Ext.drewN) | (refine Ext.setAt ?_ (by omega) _ _) | (refine Ext.trans ?_ (by assumption))))) (IntS.one _ _) (by simp; omega) (by first | omega | (simp; omega))) ?_; rintro v4 w4 ⟨o4, g4, _⟩; rw [rep_snoc] at o4)
      go_roundw
      case rel =>
        have g5 : (wr.alloc (.cells #[.int .i64 d] 3)).grownBy w4 (Value.slice ad (List.replicate j d).length cd).ownBlock := g4
        have hE1 : Ext wr (wr.alloc (.cells #[.int .i64 d] 3)) := (by repeat' (first | (with_reducible exact Ext.refl _) | (with_reducible assumption) | (with_reducible apply Ext.alloc) | (with_reducible apply Ext.drew) | (with_reducible apply Ext.drewN) | (refine Ext.setAt ?_ (by omega) _ _) | (refine Ext.trans ?_ (by assumption))))
        refine ⟨j + 1, by omega, by go_num, o4, (hE.trans hE1).only g5 (fun q hq => by have := HNE.out q hq; omega), (hK.ext hE1).block (g5.block _ (by simp; omega) (fun e => by have := HNE.out _ e.symm; omega)), (hR.ext hE1).block (g5.block _ (by simp; omega) (fun e => by have := HNE.out _ e.symm; omega))⟩
      case measure => simp [intOf]; omega
    · have : j = L.length := by omega
      subst this
      have i0 := hK.cell (j := 0) rfl
      have i1 := hK.cell (j := 1) rfl
      have i2 := hK.cell (j := 2) rfl
      have hVi := hV.ints
      rw [List.length_replicate] at hVi
      cases hr : ringOk k p n
      · have hz : deltaTok k p n L d = false := by simp [deltaTok, hr]
        have HZ := Lib.hid hz; clear hz
        go_wp2_with fail
        refine (ringOk_spec _ _ _ _).mono ?_; rintro e1 w1 ⟨rfl, h1⟩; rw [hr]
        have hR1 := hR.ext h1
        have f0 := hR1.free 0
        have f1 := hR1.free 1
        have f2 := hR1.free 2
        have r0 := hR1.cell (j := 0) rfl
        have r1 := hR1.cell (j := 1) rfl
        have r2 := hR1.cell (j := 2) rfl
        have hRl1 := hR1.lt
        go_wp2
        refine bodyPost_ret (v := .tuple #[.agg #[.slice none 0 0, .slice none 0 0, .slice none 0 0], .bool false]) (by simp [results, Try.results59, go_sem, *]) rfl ?_
        exact ⟨_, by rw [HZ.out], by rw [(deltaTok_no HZ.out).1, (deltaTok_no HZ.out).2.1, (deltaTok_no HZ.out).2.2]; exact OwnT.empty _ _, (by repeat' (first | (with_reducible exact Ext.refl _) | (with_reducible assumption) | (with_reducible apply Ext.alloc) | (with_reducible apply Ext.drew) | (with_reducible apply Ext.drewN) | (refine Ext.setAt ?_ (by omega) _ _) | (refine Ext.trans ?_ (by assumption))))⟩
      cases hin : (decide (1 ≤ d) && decide (d ≤ 8))
      · have hz : deltaTok k p n L d = false := by simp only [deltaTok, hin, Bool.and_false, Bool.false_and]
        have HZ := Lib.hid hz; clear hz
        go_wp2_with fail
        refine (ringOk_spec _ _ _ _).mono ?_; rintro e1 w1 ⟨rfl, h1⟩; rw [hr]
        have hR1 := hR.ext h1
        have f0 := hR1.free 0
        have f1 := hR1.free 1
        have f2 := hR1.free 2
        have r0 := hR1.cell (j := 0) rfl
        have r1 := hR1.cell (j := 1) rfl
        have r2 := hR1.cell (j := 2) rfl
        have hRl1 := hR1.lt
        go_wp2_with fail
        refine (in_any _ _ _ _).mono ?_; rintro e w' ⟨rfl, rfl⟩; rw [hin]
        go_wp2
        refine bodyPost_ret (v := .tuple #[.agg #[.slice none 0 0, .slice none 0 0, .slice none 0 0], .bool false]) (by simp [results, Try.results59, go_sem, *]) rfl ?_
        exact ⟨_, by rw [HZ.out], by rw [(deltaTok_no HZ.out).1, (deltaTok_no HZ.out).2.1, (deltaTok_no HZ.out).2.2]; exact OwnT.empty _ _, (by repeat' (first | (with_reducible exact Ext.refl _) | (with_reducible assumption) | (with_reducible apply Ext.alloc) | (with_reducible apply Ext.drew) | (with_reducible apply Ext.drewN) | (refine Ext.setAt ?_ (by omega) _ _) | (refine Ext.trans ?_ (by assumption))))⟩
      have hd01 : 1 ≤ d ∧ d ≤ 8 := by simpa using hin
      have hw := ringOk_wide hr
      have hf := ringOk_fit hr
      by_cases ht : tsize L (List.replicate L.length d) = -1
      · have hz : deltaTok k p n L d = false := by simp [deltaTok, ht]
        have HZ := Lib.hid hz; clear hz
        have HT := Lib.hid ht; clear ht
        go_wp2_with fail
        refine (ringOk_spec _ _ _ _).mono ?_; rintro e1 w1 ⟨rfl, h1⟩; rw [hr]
        have hR1 := hR.ext h1
        go_wp2_with fail
        refine (in_any _ _ _ _).mono ?_; rintro e w' ⟨rfl, rfl⟩; rw [hin]
        go_wp2_with fail
        refine (tensorSize_spec _ L (List.replicate L.length d) [] _ ⟨_, _, _, rfl, hL.ext (by repeat' (first | (with_reducible exact Ext.refl _) | (with_reducible assumption) | (with_reducible apply Ext.alloc) | (with_reducible apply Ext.drew) | (with_reducible apply Ext.drewN) | (refine Ext.setAt ?_ (by omega) _ _) | (refine Ext.trans ?_ (by assumption)))), hVi.ext (by repeat' (first | (with_reducible exact Ext.refl _) | (with_reducible assumption) | (with_reducible apply Ext.alloc) | (with_reducible apply Ext.drew) | (with_reducible apply Ext.drewN) | (refine Ext.setAt ?_ (by omega) _ _) | (refine Ext.trans ?_ (by assumption)))), IntS.nil _⟩).mono ?_; rintro e2 w2 ⟨rfl, h2⟩; rw [HT.out]
        have hR2 := hR1.ext h2
        have f0 := hR2.free 0
        have f1 := hR2.free 1
        have f2 := hR2.free 2
        have r0 := hR2.cell (j := 0) rfl
        have r1 := hR2.cell (j := 1) rfl
        have r2 := hR2.cell (j := 2) rfl
        have hRl1 := hR2.lt
        go_wp2
        refine bodyPost_ret (v := .tuple #[.agg #[.slice none 0 0, .slice none 0 0, .slice none 0 0], .bool false]) (by simp [results, Try.results59, go_sem, *]) rfl ?_
        exact ⟨_, by rw [HZ.out], by rw [(deltaTok_no HZ.out).1, (deltaTok_no HZ.out).2.1, (deltaTok_no HZ.out).2.2]; exact OwnT.empty _ _, (by repeat' (first | (with_reducible exact Ext.refl _) | (with_reducible assumption) | (with_reducible apply Ext.alloc) | (with_reducible apply Ext.drew) | (with_reducible apply Ext.drewN) | (refine Ext.setAt ?_ (by omega) _ _) | (refine Ext.trans ?_ (by assumption))))⟩
      · have hz : deltaTok k p n L d = true := by unfold deltaTok; rw [hr, hin]; simp [ht]
        have HZ := Lib.hid hz; clear hz
        obtain ⟨p0, p1, p2, p3, p4, p5, p6⟩ := tsize_prod ht
        have pc := tsize_cap ht
        have hge : 0 ≤ tsize L (List.replicate L.length d) := by omega
        have PC := Lib.hid pc
        have P1 := Lib.hid p1
        clear p0 p2 p3 p5 p6 pc p1 ht
        go_wp2_with fail
        refine (ringOk_spec _ _ _ _).mono ?_; rintro e1 w1 ⟨rfl, h1⟩; rw [hr]
        have hR1 := hR.ext h1
        have hK1 := hK.ext h1
        go_wp2_with fail
        refine (in_any _ _ _ _).mono ?_; rintro e w' ⟨rfl, rfl⟩; rw [hin]
        go_wp2_with fail
        refine (tensorSize_spec _ L (List.replicate L.length d) [] _ ⟨_, _, _, rfl, hL.ext (by repeat' (first | (with_reducible exact Ext.refl _) | (with_reducible assumption) | (with_reducible apply Ext.alloc) | (with_reducible apply Ext.drew) | (with_reducible apply Ext.drewN) | (refine Ext.setAt ?_ (by omega) _ _) | (refine Ext.trans ?_ (by assumption)))), hVi.ext (by repeat' (first | (with_reducible exact Ext.refl _) | (with_reducible assumption) | (with_reducible apply Ext.alloc) | (with_reducible apply Ext.drew) | (with_reducible apply Ext.drewN) | (refine Ext.setAt ?_ (by omega) _ _) | (refine Ext.trans ?_ (by assumption)))), IntS.nil _⟩).mono ?_; rintro e2 w2 ⟨rfl, h2⟩
        have hR2 := hR1.ext h2
        have hK2 := hK1.ext h2
        have j0 := hK2.cell (j := 0) rfl
        have j1 := hK2.cell (j := 1) rfl
        have j2 := hK2.cell (j := 2) rfl
        have hKl2 := hK2.lt
        go_wp2_with fail
        refine (l10Delta_any k p n d hw hf _ L _ (hL.ext (by repeat' (first | (with_reducible exact Ext.refl _) | (with_reducible assumption) | (with_reducible apply Ext.alloc) | (with_reducible apply Ext.drew) | (with_reducible apply Ext.drewN) | (refine Ext.setAt ?_ (by omega) _ _) | (refine Ext.trans ?_ (by assumption))))) p4 hd01.1 hd01.2 P1.out PC.out).mono ?_; rintro e3 w3 ⟨v3, rfl, o3, h3⟩
        have hR3 := hR2.ext h3
        have f0 := hR3.free 0
        have f1 := hR3.free 1
        have f2 := hR3.free 2
        have r0 := hR3.cell (j := 0) rfl
        have r1 := hR3.cell (j := 1) rfl
        have r2 := hR3.cell (j := 2) rfl
        have hRl1 := hR3.lt
        have hs2 := hR2.lt
        have hs3 := hR1.lt
        have E2 : Ext w w2 := (by repeat' (first | (with_reducible exact Ext.refl _) | (with_reducible assumption) | (with_reducible apply Ext.alloc) | (with_reducible apply Ext.drew) | (with_reducible apply Ext.drewN) | (refine Ext.setAt ?_ (by omega) _ _) | (refine Ext.trans ?_ (by assumption))))
        have hs4 := E2.size
        obtain ⟨b1, m1, c1, b2, m2, c2, b3, m3, c3, rfl⟩ := o3.shape
        go_wp2
        refine bodyPost_ret (v := .tuple #[.agg #[.slice b1 m1 c1, .slice b2 m2 c2, .slice b3 m3 c3], .bool true]) (by simp [results, Try.results59, go_sem, *]) rfl ?_
        exact ⟨_, by rw [HZ.out], by rw [(deltaTok_yes HZ.out).1, (deltaTok_yes HZ.out).2.1, (deltaTok_yes HZ.out).2.2]; exact (((o3.setBelow (by first | (simp [World.setCell]; done) | (simp [World.setCell]; omega) | omega) _).setBelow (by first | (simp [World.setCell]; done) | (simp [World.setCell]; omega) | omega) _).setBelow (by first | (simp [World.setCell]; done) | (simp [World.setCell]; omega) | omega) _).mono (by first | (simp [World.setCell]; done) | (simp [World.setCell]; omega) | omega), (by repeat' (first | (with_reducible exact Ext.refl _) | (with_reducible assumption) | (with_reducible apply Ext.alloc) | (with_reducible apply Ext.drew) | (with_reducible apply Ext.drewN) | (refine Ext.setAt ?_ (by omega) _ _) | (refine Ext.trans ?_ (by assumption))))⟩
end Go.Proofs.Ytlmidcclcnehnaa
