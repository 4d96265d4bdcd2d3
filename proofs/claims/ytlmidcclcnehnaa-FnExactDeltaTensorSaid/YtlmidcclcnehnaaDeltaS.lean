/- DeltaTensor of the reference. -/
import Derived.Test.YtlmidcclcnehnaaDeltaP
import Derived.Deep.RegionHeld3
namespace Go.Proofs.Ytlmidcclcnehnaa
open Go.RowKit
set_option linter.unusedSimpArgs false
set_option linter.unusedVariables false

theorem l05Put_len (k p n i : Int) (o nd : Nat) (a1 a2 : Option Addr) (m1 c1 m2 c2 bd cd B : Nat) (vx : Value) (X x : List Int) (w : World) (hnd : X.length = nd) (hX : OwnI w B (.slice (some ⟨bd, 0, none⟩) nd cd) X) (hx : IntS w vx x)
    (hne : ∀ q, vx.ownBlock = some q → q ≠ bd) (ho : i * ringWidth k n = o) (hi : 0 ≤ i) (hw : RingWide k n) (hfit : o + x.length ≤ nd) (hlen : nd ≤ 1048576) :
    Calls Try.prog 121 #[ringV k p n, .agg #[.slice a1 m1 c1, .slice a2 m2 c2, .slice (some ⟨bd, 0, none⟩) nd cd], .int .i64 i, vx] w fun e w' =>
      e = .returned (.tuple #[]) ∧ OwnI w' B (.slice (some ⟨bd, 0, none⟩) nd cd) (putL X o x) ∧ w.grownBy w' (some bd) := by
  subst hnd
  exact l05Put_any k p n i o a1 a2 m1 c1 m2 c2 bd cd B vx X x w hX hx hne ho hi hw hfit hlen
theorem l05Offset_diag (vD vI : Value) (m : Nat) (d v : Int) (w : World) (hl : IntS w vD (List.replicate m d)) (hi : IntS w vI (List.replicate m v)) (h0 : 1 ≤ d) (h1 : d ≤ 8) (v0 : 0 ≤ v) (v1 : v < d) (hp : prodL (List.replicate m d) ≤ 4096) : Calls Try.prog 122 #[vD, vI] w fun e w' =>
    e = .returned (.int .i64 (diag m d v)) ∧ w = w' :=
  l05Offset_any vD vI _ _ w hl hi (idxOk_rep v0 v1 m) (rep_dims h0 h1 m) hp

set_option maxRecDepth 100000 in
set_option maxHeartbeats 2000000 in
theorem l10Delta_any (k p n d : Int) (hw : RingWide k n) (hf : RingFit k p n) (vL : Value) (L : List Int) (w : World) (hL : IntS w vL L) (hl : L.length ≤ 12) (hd0 : 1 ≤ d) (hd1 : d ≤ 8) (hp : prodL (List.replicate L.length d) ≤ 4096) (hc : capGo 4096 1 (List.replicate L.length d) = prodL (List.replicate L.length d)) :
    Calls Try.prog 99 #[ringV k p n, vL, .int .i64 d] w fun e w' => ∃ v, e = .returned v ∧ OwnT w' w.heap.size v L (List.replicate L.length d) (deltaX L.length (ringWidth k n).toNat (oneL k p n) (rep (prodL (List.replicate L.length d)).toNat (zeroL k p n)) d d.toNat) ∧ Ext w w' := by
  obtain ⟨aL, cL, rfl, hcL, hdL⟩ := hL.val
  obtain ⟨W, hW⟩ : ∃ W : Nat, ringWidth k n = W := ⟨(ringWidth k n).toNat, by have := hw.lo; omega⟩
  obtain ⟨P, hP⟩ : ∃ P : Nat, prodL (List.replicate L.length d) = P := ⟨(prodL (List.replicate L.length d)).toNat, by have := prodL_pos (rep_dims hd0 hd1 L.length); omega⟩
  obtain ⟨D, hD⟩ : ∃ D : Nat, d = D := ⟨d.toNat, by omega⟩
  subst hD
  have hoL : (oneL k p n).length = W := by rw [oneL_length, hW]; rfl
  have hzL : (zeroL k p n).length = W := by rw [zeroL_length, hW]; rfl
  have hX0 : (rep P (zeroL k p n)).length = P * W := by rw [rep_length, hzL]
  have hP1 : 1 ≤ P := by have := prodL_pos (rep_dims hd0 hd1 L.length); omega
  have hW1 : 1 ≤ W := by have := hw.lo; omega
  have hW6 : W ≤ 6 := by have := hw.hi; omega
  have hPW1 : 1 ≤ P * W := Nat.mul_le_mul hP1 hW1
  have hPW : P * W ≤ 4096 * 6 := Nat.mul_le_mul (by omega) hW6
  rw [hP] at hp
  have e1 : (ringWidth k n).toNat = W := by rw [hW]; rfl
  have e2 : (prodL (List.replicate L.length (D : Int))).toNat = P := by rw [hP]; rfl
  rw [e1, e2, Int.toNat_natCast]
  have HOL := Lib.hid hoL; have HX0 := Lib.hid hX0; have HWW := Lib.hid hW; have HP := Lib.hid hP; have HC := Lib.hid hc
  clear hoL hzL hX0 hW hP hc e1 e2
  go_enter Try.func99, Try.ntmps99
  go_wp2_with fail
  have BK : Blk (((w.alloc (.cells #[.int .i64 k, .int .i64 p, .int .i64 n] 28)).alloc (.cells #[.slice none 0 0, .slice none 0 0, .slice none 0 0] 26)).alloc (.cells #[] 3)) w.heap.size 28 [.int .i64 k, .int .i64 p, .int .i64 n] := Blk.ext (Blk.new w #[.int .i64 k, .int .i64 p, .int .i64 n] 28) (by repeat' (first | (with_reducible exact Ext.refl _) | (with_reducible assumption) | (with_reducible apply Ext.alloc) | (with_reducible apply Ext.drew) | (with_reducible apply Ext.drewN) | (refine Ext.setAt ?_ (by omega) _ _) | (refine Ext.trans ?_ (by assumption))))
  have BR : Blk (((w.alloc (.cells #[.int .i64 k, .int .i64 p, .int .i64 n] 28)).alloc (.cells #[.slice none 0 0, .slice none 0 0, .slice none 0 0] 26)).alloc (.cells #[] 3)) (w.heap.size + 1) 26 [.slice none 0 0, .slice none 0 0, .slice none 0 0] := Blk.ext (w := (w.alloc (.cells #[.int .i64 k, .int .i64 p, .int .i64 n] 28)).alloc (.cells #[.slice none 0 0, .slice none 0 0, .slice none 0 0] 26)) (by simpa using Blk.new (w.alloc (.cells #[.int .i64 k, .int .i64 p, .int .i64 n] 28)) #[.slice none 0 0, .slice none 0 0, .slice none 0 0] 26) (by repeat' (first | (with_reducible exact Ext.refl _) | (with_reducible assumption) | (with_reducible apply Ext.alloc) | (with_reducible apply Ext.drew) | (with_reducible apply Ext.drewN) | (refine Ext.setAt ?_ (by omega) _ _) | (refine Ext.trans ?_ (by assumption))))
  go_loopw [7, 14] (fun q i wr => ∃ j : Nat, j ≤ L.length ∧ i = .int .i64 j ∧ OwnI wr (w.heap.size + 2) q (List.replicate j (D : Int)) ∧ Ext w wr ∧ Blk wr w.heap.size 28 [.int .i64 k, .int .i64 p, .int .i64 n] ∧ Blk wr (w.heap.size + 1) 26 [.slice none 0 0, .slice none 0 0, .slice none 0 0]) (fun q i wr => L.length - (intOf i).toNat)
  case atStart => exact ⟨0, Nat.zero_le _, rfl, OwnI.empty (by omega) (by simp), (by repeat' (first | (with_reducible exact Ext.refl _) | (with_reducible assumption) | (with_reducible apply Ext.alloc) | (with_reducible apply Ext.drew) | (with_reducible apply Ext.drewN) | (refine Ext.setAt ?_ (by omega) _ _) | (refine Ext.trans ?_ (by assumption)))), BK, BR⟩
  case round =>
    obtain ⟨j, hj, rfl, hV, hE, hK, hR⟩ := hrel
    obtain ⟨ad, cd, rfl, hcd1, hcd2⟩ := hV.ints.val
    have hKl := hK.lt
    have hRl := hR.lt
    by_cases hlt : j < L.length
    · have hne : ∀ q, (Value.slice ad (List.replicate j (D : Int)).length cd).ownBlock = some q → w.heap.size + 2 ≤ q := fun q hq => (hV.block_lt hq).1
      have HNE := Lib.hid hne; clear hne
      go_wp2_with (at_builtin; refine wpList_app _ rfl _ _ 24 rfl _ _ rfl rfl _ (run_app_ints _ _ (w.heap.size + 2) _ _ (List.replicate j (D : Int)) [(D : Int)] (hV.ext (by repeat' (first | (with_reducible exact Ext.refl _) | (with_reducible assumption) | (with_reducible apply Ext.alloc) | (with_reducible apply Ext.drew) | (with_reducible apply Ext.drewN) | (refine Ext.setAt ?_ (by omega) _ _) | (refine Ext.trans ?_ (by assumption))))) (IntS.one _ _) (by simp; omega) (by first | omega | (simp; omega))) ?_; rintro v4 w4 ⟨o4, g4, _⟩; rw [rep_snoc] at o4)
      go_roundw
      case rel =>
        have g5 : (wr.alloc (.cells #[.int .i64 (D : Int)] 3)).grownBy w4 (Value.slice ad (List.replicate j (D : Int)).length cd).ownBlock := g4
        have hE1 : Ext wr (wr.alloc (.cells #[.int .i64 (D : Int)] 3)) := (by repeat' (first | (with_reducible exact Ext.refl _) | (with_reducible assumption) | (with_reducible apply Ext.alloc) | (with_reducible apply Ext.drew) | (with_reducible apply Ext.drewN) | (refine Ext.setAt ?_ (by omega) _ _) | (refine Ext.trans ?_ (by assumption))))
        refine ⟨j + 1, by omega, by go_num, o4, (hE.trans hE1).only g5 (fun q hq => by have := HNE.out q hq; omega), (hK.ext hE1).block (g5.block _ (by simp; omega) (fun e => by have := HNE.out _ e.symm; omega)), (hR.ext hE1).block (g5.block _ (by simp; omega) (fun e => by have := HNE.out _ e.symm; omega))⟩
      case measure => simp [intOf]; omega
    · have : j = L.length := by omega
      subst this
      have i0 := hK.cell (j := 0) rfl
      have i1 := hK.cell (j := 1) rfl
      have i2 := hK.cell (j := 2) rfl
      go_wp2_with fail
      have z1 : prodL (List.replicate L.length (D : Int)) ≤ 4096 := by rw [HP.out]; omega
      have hlr : (List.replicate L.length (D : Int)).length ≤ 12 := by rw [List.length_replicate]; exact hl
      have hVi := hV.ints
      rw [List.length_replicate] at hVi
      have z2 := l05Zero_any k p n hw _ _ L (List.replicate L.length (D : Int)) wr (hL.ext hE) hVi hl hlr (rep_dims hd0 hd1 _) z1 HC.out
      refine z2.mono ?_; rintro e3 w3 ⟨v3, rfl, o3, h3⟩
      clear z2 z1 hVi
      obtain ⟨va, vb, vd, rfl, oa, ob, od, ap1, ap2⟩ := o3.val
      have eP : (prodL (List.replicate L.length (D : Int))).toNat = P := by rw [HP.out, Int.toNat_natCast]
      rw [eP] at od
      have hpos : 0 < (rep P (zeroL k p n)).length := by rw [HX0.out]; omega
      obtain ⟨bd, cd2, hbd, rfl, hcd3, hcd4⟩ := od.open hpos
      rw [HX0.out] at od hcd3 ⊢
      obtain ⟨aa, ca, rfl, _, _⟩ := oa.ints.val
      obtain ⟨ab, cb, rfl, _, _⟩ := ob.ints.val
      rw [List.length_replicate] at ob
      have hbd3 : bd < w3.heap.size := (od.block_lt rfl).2
      have hbdw : w.heap.size + 1 < bd := by omega
      have NA : Hid (∀ q, (Value.slice aa L.length ca).ownBlock = some q → q ≠ bd ∧ w.heap.size + 1 < q) := Lib.hid fun q hq => ⟨fun e => (ap1 q hq).2 (by rw [e]; rfl), by have := (oa.block_lt hq).1; omega⟩
      have NB : Hid (∀ q, (Value.slice ab L.length cb).ownBlock = some q → q ≠ bd ∧ w.heap.size + 1 < q) := Lib.hid fun q hq => ⟨fun e => ap2 q (by rw [List.length_replicate]; exact hq) (by rw [e]; rfl), by have := (ob.block_lt hq).1; omega⟩
      have NAB : Hid (∀ q, (Value.slice aa L.length ca).ownBlock = some q → (Value.slice ab L.length cb).ownBlock ≠ some q) := Lib.hid fun q hq e => (ap1 q hq).1 (by rw [List.length_replicate]; exact e)
      have ND : Hid (∀ q, (Value.slice ad L.length cd).ownBlock = some q → q ≠ bd) := Lib.hid fun q hq => by have := (hV.block_lt (by rw [List.length_replicate]; exact hq)).2; omega
      clear o3 eP hpos ap1 ap2
      have hE3 : Ext w w3 := hE.trans h3
      have hK3 := hK.ext h3
      have hR3 := hR.ext h3
      have hV3 := hV.ext h3
      have hT3 : Blk (w3.alloc (.cells #[.slice aa L.length ca, .slice ab L.length cb, .slice (some ⟨bd, 0, none⟩) (P * W) cd2] 26)) w3.heap.size 26 [.slice aa L.length ca, .slice ab L.length cb, .slice (some ⟨bd, 0, none⟩) (P * W) cd2] := Blk.new w3 #[_, _, _] 26
      go_wp2_with fail
      go_loopw [9] (fun i wr => ∃ v : Nat, v ≤ D ∧ i = .int .i64 v ∧ Ext w wr ∧ w3.heap.size < wr.heap.size ∧ Blk wr w3.heap.size 26 [.slice aa L.length ca, .slice ab L.length cb, .slice (some ⟨bd, 0, none⟩) (P * W) cd2] ∧ OwnI wr w.heap.size (.slice aa L.length ca) L ∧ OwnI wr w.heap.size (.slice ab L.length cb) (List.replicate L.length (D : Int)) ∧
          OwnI wr w.heap.size (.slice (some ⟨bd, 0, none⟩) (P * W) cd2) (deltaX L.length W (oneL k p n) (rep P (zeroL k p n)) D v) ∧ OwnI wr w.heap.size (.slice ad L.length cd) (List.replicate L.length (D : Int)) ∧ Blk wr w.heap.size 28 [.int .i64 k, .int .i64 p, .int .i64 n] ∧ Blk wr (w.heap.size + 1) 26 [.slice none 0 0, .slice none 0 0, .slice none 0 0]) (fun i wr => D - (intOf i).toNat)
      case atStart =>
        have hVr := hV3
        rw [List.length_replicate] at hVr
        have hsz := hE.size
        exact ⟨0, Nat.zero_le _, rfl, (by repeat' (first | (with_reducible exact Ext.refl _) | (with_reducible assumption) | (with_reducible apply Ext.alloc) | (with_reducible apply Ext.drew) | (with_reducible apply Ext.drewN) | (refine Ext.setAt ?_ (by omega) _ _) | (refine Ext.trans ?_ (by assumption)))), by simp, hT3.ext (by repeat' (first | (with_reducible exact Ext.refl _) | (with_reducible assumption) | (with_reducible apply Ext.alloc) | (with_reducible apply Ext.drew) | (with_reducible apply Ext.drewN) | (refine Ext.setAt ?_ (by omega) _ _) | (refine Ext.trans ?_ (by assumption)))), (oa.mono hsz).ext (by repeat' (first | (with_reducible exact Ext.refl _) | (with_reducible assumption) | (with_reducible apply Ext.alloc) | (with_reducible apply Ext.drew) | (with_reducible apply Ext.drewN) | (refine Ext.setAt ?_ (by omega) _ _) | (refine Ext.trans ?_ (by assumption)))), (ob.mono hsz).ext (by repeat' (first | (with_reducible exact Ext.refl _) | (with_reducible assumption) | (with_reducible apply Ext.alloc) | (with_reducible apply Ext.drew) | (with_reducible apply Ext.drewN) | (refine Ext.setAt ?_ (by omega) _ _) | (refine Ext.trans ?_ (by assumption)))), (od.mono hsz).ext (by repeat' (first | (with_reducible exact Ext.refl _) | (with_reducible assumption) | (with_reducible apply Ext.alloc) | (with_reducible apply Ext.drew) | (with_reducible apply Ext.drewN) | (refine Ext.setAt ?_ (by omega) _ _) | (refine Ext.trans ?_ (by assumption)))), (hVr.mono (by omega)).ext (by repeat' (first | (with_reducible exact Ext.refl _) | (with_reducible assumption) | (with_reducible apply Ext.alloc) | (with_reducible apply Ext.drew) | (with_reducible apply Ext.drewN) | (refine Ext.setAt ?_ (by omega) _ _) | (refine Ext.trans ?_ (by assumption)))), hK3.ext (by repeat' (first | (with_reducible exact Ext.refl _) | (with_reducible assumption) | (with_reducible apply Ext.alloc) | (with_reducible apply Ext.drew) | (with_reducible apply Ext.drewN) | (refine Ext.setAt ?_ (by omega) _ _) | (refine Ext.trans ?_ (by assumption)))), hR3.ext (by repeat' (first | (with_reducible exact Ext.refl _) | (with_reducible assumption) | (with_reducible apply Ext.alloc) | (with_reducible apply Ext.drew) | (with_reducible apply Ext.drewN) | (refine Ext.setAt ?_ (by omega) _ _) | (refine Ext.trans ?_ (by assumption))))⟩
      case round =>
        obtain ⟨v, hv, rfl, hE', hS', hT', hA', hB', hX', hD', hK', hR'⟩ := hrel
        rename World => wo
        by_cases hlv : v < D
        · go_wp2_with fail
          go_loopw [10, 33] (fun q i wr' => ∃ j : Nat, j ≤ L.length ∧ i = .int .i64 j ∧ OwnI wr' wo.heap.size q (List.replicate j (v : Int)) ∧ Ext wo wr') (fun q i wr' => L.length - (intOf i).toNat)
          case atStart => exact ⟨0, Nat.zero_le _, rfl, OwnI.empty (by omega) (by simp), (by repeat' (first | (with_reducible exact Ext.refl _) | (with_reducible assumption) | (with_reducible apply Ext.alloc) | (with_reducible apply Ext.drew) | (with_reducible apply Ext.drewN) | (refine Ext.setAt ?_ (by omega) _ _) | (refine Ext.trans ?_ (by assumption))))⟩
          case round =>
            obtain ⟨j, hj, rfl, hI, hEr⟩ := hrel
            obtain ⟨ai, ci, rfl, hci1, hci2⟩ := hI.ints.val
            by_cases hlt : j < L.length
            · have hne : ∀ q, (Value.slice ai (List.replicate j (v : Int)).length ci).ownBlock = some q → wo.heap.size ≤ q := fun q hq => (hI.block_lt hq).1
              have HNE := Lib.hid hne; clear hne
              have hsr := hEr.size
              go_wp2_with (at_builtin; refine wpList_app _ rfl _ _ 24 rfl _ _ rfl rfl _ (run_app_ints _ _ wo.heap.size _ _ (List.replicate j (v : Int)) [(v : Int)] (hI.ext (by repeat' (first | (with_reducible exact Ext.refl _) | (with_reducible assumption) | (with_reducible apply Ext.alloc) | (with_reducible apply Ext.drew) | (with_reducible apply Ext.drewN) | (refine Ext.setAt ?_ (by omega) _ _) | (refine Ext.trans ?_ (by assumption))))) (IntS.one _ _) (by simp; omega) (by first | omega | (simp; omega))) ?_; rintro v4 w4 ⟨o4, g4, _⟩; rw [rep_snoc] at o4)
              go_roundw
              case rel =>
                exact ⟨j + 1, by omega, by go_num, o4, (show Ext wo _ from (by repeat' (first | (with_reducible exact Ext.refl _) | (with_reducible assumption) | (with_reducible apply Ext.alloc) | (with_reducible apply Ext.drew) | (with_reducible apply Ext.drewN) | (refine Ext.setAt ?_ (by omega) _ _) | (refine Ext.trans ?_ (by assumption))))).only g4 (fun q hq => HNE.out q hq)⟩
              case measure => simp [intOf]; omega
            · have : j = L.length := by omega
              subst this
              have hIi := hI
              rw [List.length_replicate] at hIi
              have z1 : prodL (List.replicate L.length (D : Int)) ≤ 4096 := by rw [HP.out]; omega
              have Z1 := Lib.hid z1; clear z1
              have hXl := deltaX_length (X := rep P (zeroL k p n)) hd0 hd1 HP.out HOL.out HX0.out v (by omega)
              have hfit := diag_fit (W := W) hd0 hd1 (show (v : Int) < D by omega) HP.out
              have hdg := diag_bounds (m := L.length) (v := (v : Int)) hd0 hd1 (by omega) (show (v : Int) < D by omega)
              have hdg0 := hdg.1; clear hdg
              obtain ⟨X, hXE⟩ : ∃ X, deltaX L.length W (oneL k p n) (rep P (zeroL k p n)) D v = X := ⟨_, rfl⟩
              rw [hXE] at hX' hXl
              have hoo : diag L.length (D : Int) (v : Int) * ringWidth k n = (((diag L.length (D : Int) (v : Int)).toNat * W : Nat) : Int) := by
                rw [HWW.out, Int.natCast_mul, Int.toNat_of_nonneg hdg0]
              have HXL := Lib.hid hXl; have HF := Lib.hid hfit; have HXE := Lib.hid hXE; have HOO := Lib.hid hoo
              clear hXl hfit hXE hoo
              have hsE := hEr.size
              have hT1 := hT'.ext hEr
              have hK1 := hK'.ext hEr
              have hR1 := hR'.ext hEr
              have hA1 := hA'.ext hEr
              have hB1 := hB'.ext hEr
              have hX1 := hX'.ext hEr
              have hD1 := hD'.ext hEr
              have hW1' : Ext w wr := hE'.trans hEr
              have i0 := hK1.cell (j := 0) rfl
              have i1 := hK1.cell (j := 1) rfl
              have i2 := hK1.cell (j := 2) rfl
              have t0 := hT1.cell (j := 0) rfl
              have t1 := hT1.cell (j := 1) rfl
              have t2 := hT1.cell (j := 2) rfl
              have D0 : Ext wr wr.drew := (Ext.refl _).drew
              have hvl : (v : Int) < D := by omega
              go_wp2_with fail
              go_region_held3 (fun w' => w'.cell? ⟨w.heap.size, 0, none⟩ = some (.int .i64 k) ∧ w'.cell? ⟨w.heap.size, 1, none⟩ = some (.int .i64 p) ∧ w'.cell? ⟨w.heap.size, 2, none⟩ = some (.int .i64 n) ∧ w'.cell? ⟨w3.heap.size, 0, none⟩ = some (.slice aa L.length ca) ∧ w'.cell? ⟨w3.heap.size, 1, none⟩ = some (.slice ab L.length cb) ∧ w'.cell? ⟨w3.heap.size, 2, none⟩ = some (.slice (some ⟨bd, 0, none⟩) (P * W) cd2))
                (refine ⟨?_, ?_, ?_, ?_, ?_, ?_⟩ <;> first | assumption | (simp [*]; done))
                (first | (go_at_call 122; (with_reducible refine (l05Offset_diag _ _ L.length (D : Int) (v : Int) _ (hD1.ints.ext D0) (hIi.ints.ext D0) hd0 hd1 (Int.natCast_nonneg v) hvl Z1.out).mono ?_); rintro e1 u1 ⟨rfl, rfl⟩) | (go_at_call 77; (with_reducible refine (l02One_any _ _ _ hw hf _).mono ?_); rintro e5 w5 ⟨v5, rfl, o5, h5⟩; have g5 : Ext wr w5 := D0.trans h5; have j0 := g5.cell i0; have j1 := g5.cell i1; have j2 := g5.cell i2; have j3 := g5.cell t0; have j4 := g5.cell t1; have j5 := g5.cell t2) | (go_at_call 121; (with_reducible refine (l05Put_len k p n (diag L.length (D : Int) (v : Int)) ((diag L.length (D : Int) (v : Int)).toNat * W) (P * W) _ _ _ _ _ _ bd cd2 w.heap.size v5 X (oneL k p n) w5 HXL.out (hX1.ext g5) o5.ints (fun q hq => by have := (o5.block_lt hq).1; simp at this; omega) HOO.out hdg0 hw (by rw [HOL.out]; exact HF.out) (by omega)).mono ?_); rintro e6 w6 ⟨rfl, o6, g6⟩; have l0 := grown_cell g6 (show w.heap.size ≠ bd by omega) j0; have l1 := grown_cell g6 (show w.heap.size ≠ bd by omega) j1; have l2 := grown_cell g6 (show w.heap.size ≠ bd by omega) j2; have l3 := grown_cell g6 (show w3.heap.size ≠ bd by omega) j3; have l4 := grown_cell g6 (show w3.heap.size ≠ bd by omega) j4; have l5 := grown_cell g6 (show w3.heap.size ≠ bd by omega) j5))
              go_wp2
              go_roundw
              case rel =>
                have s5 := g5.size
                have s6 := g6.size
                have hE6 : Ext w w6 := (hW1'.trans g5).only g6 (fun q hq => by injection hq with hq; omega)
                have hT6 := (hT1.ext g5).block (g6.block _ (by omega) (fun e => by injection e with e; omega))
                have hK6 := (hK1.ext g5).block (g6.block _ (by have := hK1.lt; omega) (fun e => by injection e with e; omega))
                have hR6 := (hR1.ext g5).block (g6.block _ (by have := hR1.lt; omega) (fun e => by injection e with e; omega))
                have hA6 := (hA1.ext g5).only g6 (fun q hq e => by injection e with e; exact (NA.out q hq).1 e.symm)
                have hB6 := (hB1.ext g5).only g6 (fun q hq e => by injection e with e; exact (NB.out q hq).1 e.symm)
                have hD6 := (hD1.ext g5).only g6 (fun q hq e => by injection e with e; exact ND.out q hq e.symm)
                exact ⟨v + 1, by omega, by go_num, hE6, by omega, hT6, hA6, hB6, by rw [deltaX, HXE.out]; exact o6, hD6, hK6, hR6⟩
              case measure => simp [intOf]; omega
        · have : v = D := by omega
          subst this
          have q0 := hT'.cell (j := 0) rfl
          have q1 := hT'.cell (j := 1) rfl
          have q2 := hT'.cell (j := 2) rfl
          have f0 := hR'.free 0
          have f1 := hR'.free 1
          have f2 := hR'.free 2
          have r0 := hR'.cell (j := 0) rfl
          have r1 := hR'.cell (j := 1) rfl
          have r2 := hR'.cell (j := 2) rfl
          have hRl := hR'.lt
          go_wp2
          refine bodyPost_ret (v := .agg #[.slice aa L.length ca, .slice ab L.length cb, .slice (some ⟨bd, 0, none⟩) (P * W) cd2]) (by simp [results, Try.results99, go_sem, *]) rfl ?_
          refine ⟨_, rfl, ⟨_, _, _, rfl, ?_, ?_, ?_, fun q hq => ⟨fun e => ?_, fun e => ?_⟩, fun q hq e => ?_⟩, (by repeat' (first | (with_reducible exact Ext.refl _) | (with_reducible assumption) | (with_reducible apply Ext.alloc) | (with_reducible apply Ext.drew) | (with_reducible apply Ext.drewN) | (refine Ext.setAt ?_ (by omega) _ _) | (refine Ext.trans ?_ (by assumption))))⟩
          · exact ((hA'.setOther (fun q hq => by have := NA.out q hq; first | omega | (simp; omega)) _).setOther (fun q hq => by have := NA.out q hq; first | omega | (simp; omega)) _).setOther (fun q hq => by have := NA.out q hq; first | omega | (simp; omega)) _
          · exact ((hB'.setOther (fun q hq => by have := NB.out q hq; first | omega | (simp; omega)) _).setOther (fun q hq => by have := NB.out q hq; first | omega | (simp; omega)) _).setOther (fun q hq => by have := NB.out q hq; first | omega | (simp; omega)) _
          · exact ((hX'.setOther (fun q hq => by simp [Value.ownBlock] at hq; first | omega | (simp; omega)) _).setOther (fun q hq => by simp [Value.ownBlock] at hq; first | omega | (simp; omega)) _).setOther (fun q hq => by simp [Value.ownBlock] at hq; first | omega | (simp; omega)) _
          · exact NAB.out q hq e
          · simp [Value.ownBlock] at e; exact (NA.out q hq).1 e.symm
          · simp [Value.ownBlock] at e; exact (NB.out q hq).1 e.symm
end Go.Proofs.Ytlmidcclcnehnaa
