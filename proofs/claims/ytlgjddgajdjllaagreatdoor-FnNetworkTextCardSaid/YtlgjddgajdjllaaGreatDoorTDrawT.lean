/- Drawn tensors: l05Labels, l05Fill, l05Draw, MakeTensor. -/
import Derived.Test.YtlgjddgajdjllaaGreatDoorTDrawE
import Derived.Test.YtlgjddgajdjllaaGreatDoorTElemT
set_option linter.unusedSimpArgs false
set_option linter.unusedVariables false
namespace Go.Proofs.YtlgjddgajdjllaaGreatDoor
open Go.RowKit
theorem Cur.drew {w : World} {b : Nat} {l : List Int} (h : Cur w b l) : Cur w.drew b l := h.ext ((Ext.refl _).drew)
theorem Cur.onlyA {w w' : World} {b q : Nat} {l : List Int} (h : Cur w b l) (g : w.grownBy w' (some q)) (hq : b < q) : Cur w' b l := by
  obtain ⟨v, i, h, hb, hc, i0, i1, r0, r1, hlow⟩ := h.has
  exact ⟨v, i, h, hb.block (g.block _ hb.lt (fun e => by injection e with e; omega)), ⟨hc.bytes.only g (fun hp e => by have := hlow hp q e; omega), hc.all, hc.len⟩, i0, i1, r0, r1, hlow⟩
theorem Cur.onlyV {w w' : World} {b : Nat} {l : List Int} {r : Option Nat} (h : Cur w b l) (g : w.grownBy w' r) (hq : ∀ q, r = some q → b < q) : Cur w' b l := by
  cases r with
  | some q => exact h.onlyA g (hq q rfl)
  | none => exact h.ext ((Ext.refl w).only g (fun k hk => by cases hk))
theorem grown_some {a c : World} {r : Option Nat} {b : Option Nat} (g : a.grownBy c r) (h : ∀ q, r = some q → a.heap.size ≤ q) : a.grownBy c b :=
  ⟨g.os, g.tape, g.output, g.size, fun k hk _ => g.block k hk (fun e => by have := h k e.symm; omega)⟩
theorem grown_more {w a c : World} {r : Option Nat} {b : Option Nat} (g0 : w.grownBy a b) (g : a.grownBy c r) (h : ∀ q, r = some q → w.heap.size ≤ q) : w.grownBy c b :=
  ⟨g.os.trans g0.os, g.tape.trans g0.tape, g.output.trans g0.output, Nat.le_trans g0.size g.size, fun k hk hne => (g.block k (Nat.lt_of_lt_of_le hk g0.size) (fun e => by have := h k e.symm; omega)).trans (g0.block k hk hne)⟩
set_option maxRecDepth 100000 in
set_option maxHeartbeats 1000000 in
theorem l05Labels_any (b : Nat) {l : List Int} (n most : Int) (hn : 1 ≤ n ∧ n ≤ 100) (hm : 0 ≤ most ∧ most ≤ 12) (w : World) (hc : Cur w b l) : Calls Tryz.prog 78 #[.pointer (some ⟨b, 0, none⟩), .int .i64 n, .int .i64 most] w fun e w' =>
 ∃ v u L, e = .returned (.tuple #[v, u]) ∧ OwnI w' w.heap.size v L ∧ OwnI w' w.heap.size u (L.map dimOf) ∧ (∀ q, v.ownBlock = some q → u.ownBlock ≠ some q) ∧ Labs n most L ∧ Cur w' b l ∧ w.grownBy w' (some b) := by
 obtain ⟨n0, n1⟩ := hn
 obtain ⟨m0, m1⟩ := hm
 have hbl := hc.lt
 go_enter Tryz.func78, Tryz.ntmps78
 go_wp2_with fail
 refine (l01Below_any b (most + 1) _ (hc.ext (by repeat' (first | (with_reducible first | exact Ext.refl _ | assumption | apply Ext.alloc | apply Ext.drew | apply Ext.drewN) | (refine Ext.setAt ?_ (by omega) _ _) | (refine Ext.trans ?_ (by assumption))))) (by omega)).mono ?_; rintro e1 w1 ⟨x, rfl, ⟨x0, _, x1⟩, c1, g1⟩
 have xm := x1 (by omega)
 clear x1
 have G1 : w.grownBy w1 (some b) := grownBy_trans (show w.grownBy _ (some b) from (by repeat' (first | (with_reducible exact grown_refl _ _) | (with_reducible assumption) | (with_reducible apply grown_alloc) | (with_reducible apply grown_drew) | (with_reducible apply grown_drewN) | (with_reducible refine grown_setCell ?_ _ _) | (refine grownBy_trans ?_ (by assumption))))) g1
 have o1 : OwnI w1 w.heap.size (.slice (some ⟨w.heap.size, 0, none⟩) 0 0) [] := (OwnI.ext (w := w.alloc (.cells #[] 3)) (OwnI.empty (Nat.le_refl _) rfl) (by repeat' (first | (with_reducible first | exact Ext.refl _ | assumption | apply Ext.alloc | apply Ext.drew | apply Ext.drewN) | (refine Ext.setAt ?_ (by omega) _ _) | (refine Ext.trans ?_ (by assumption))))).onlyB g1 hbl
 have o2 : OwnI w1 w.heap.size (.slice (some ⟨w.heap.size + 1, 0, none⟩) 0 0) [] := (OwnI.empty (w := w.alloc (.cells #[] 3)) (by omega) (by simp)).onlyB g1 hbl
 go_wp2_with fail
 go_loopw [8, 9, 10] (fun q u i wr => ∃ (L : List Int) (kk : Int), i = .int .i64 kk ∧ 0 ≤ kk ∧ (L.length : Int) + kk ≤ most ∧ OwnI wr w.heap.size q L ∧ OwnI wr w.heap.size u (L.map dimOf) ∧ (∀ z, q.ownBlock = some z → u.ownBlock ≠ some z) ∧ Labs n most L ∧ Cur wr b l ∧ w.grownBy wr (some b)) (fun q u i wr => (RowKit.intOf i).toNat)
 case atStart => exact ⟨[], x, rfl, x0, by simp; omega, o1, o2, by simp [Value.ownBlock], ⟨by simp; omega, by simp, by simp⟩, c1, G1⟩
 case round =>
  obtain ⟨L, kk, rfl, hk0, hkm, hQ, hU, hdis, hL, hC, hG⟩ := hrel
  have HL := Lib.hid hL; clear hL
  obtain ⟨aq, cq, rfl, hq1, hq2⟩ := hQ.ints.val
  obtain ⟨au, cu, rfl, hu1, hu2⟩ := hU.ints.val
  rw [List.length_map] at hU hdis
  have HDis := Lib.hid hdis; clear hdis
  by_cases hk : 0 < kk
  · go_wp2_with fail
    refine (l01Below_any b n _ hC (by omega)).mono ?_; rintro e2 w2 ⟨y, rfl, ⟨y0, _, y1⟩, c2, g2⟩
    have yn := y1 (by omega)
    clear y1
    have hQ2 := hQ.onlyB g2 hbl
    have hU2 := hU.onlyB g2 hbl
    have G2 := grownBy_trans hG g2
    go_wp2_with fail
    refine (l05Find_any _ L y _ hQ2.ints).mono ?_; rintro e3 w3 ⟨rfl, rfl⟩
    cases hh : hasL L y
    · have hneg := findL_neg hh
      have hL' := HL.out.snoc hh y0 yn (by omega)
      have HL' := Lib.hid hL'
      have r0 := Int.emod_nonneg (y + 1) (show (3 : Int) ≠ 0 by omega)
      have r1 := Int.emod_lt_of_pos (y + 1) (show (0 : Int) < 3 by omega)
      rw [hneg]
      have HH := Lib.hid hh
      have hmap : (L ++ [y]).map dimOf = L.map dimOf ++ [dimOf y] := by simp
      have HMap := Lib.hid hmap
      have hs2 := G2.size
      clear hneg hL' hh hmap
      have hb1 : ∀ z, (Value.slice aq L.length cq).ownBlock = some z → w.heap.size ≤ z ∧ z < w2.heap.size := fun z hz => hQ2.block_lt hz
      have hb2 : ∀ z, (Value.slice au L.length cu).ownBlock = some z → w.heap.size ≤ z ∧ z < w2.heap.size := fun z hz => hU2.block_lt hz
      have HB1 := Lib.hid hb1; have HB2 := Lib.hid hb2
      clear hb1 hb2
      go_wp2_with (at_builtin; first | (refine wpList_app (o := ⟨some 32, _, _, _, _, _⟩) _ rfl _ _ 27 rfl _ _ rfl rfl _ (run_push _ w2 w.heap.size (.slice aq L.length cq) L y hQ2 (by omega) hs2) ?_; rintro v4 w4 ⟨o4, g4, d4⟩; have hU4 := hU2.only g4 (fun q hq e => HDis.out q e hq); have hs4 := g4.size; have D4 := Lib.hid d4; clear d4) | (refine wpList_app (o := ⟨some 39, _, _, _, _, _⟩) _ rfl _ _ 27 rfl _ _ rfl rfl _ (run_push _ w4 w.heap.size (.slice au L.length cu) (L.map dimOf) (dimOf y) hU4 (by rw [List.length_map]; omega) (by omega)) ?_; rintro v5 w5 ⟨o5, g5, d5⟩; have D5 := Lib.hid d5; clear d5))
      go_roundw
      case rel =>
       have n1 : ∀ q, v4.ownBlock = some q → (Value.slice au L.length cu).ownBlock ≠ some q := fun q hq e => by
        rcases D4.out q hq with h | h
        · exact HDis.out q h e
        · have := (HB2.out q e).2; omega
       have hC5 := (c2.onlyV g4 (fun q hq => by have := (HB1.out q hq).1; omega)).onlyV g5 (fun q hq => by have := (HB2.out q hq).1; omega)
       have G5 := grown_more (grown_more G2 g4 (fun q hq => (HB1.out q hq).1)) g5 (fun q hq => (HB2.out q hq).1)
       refine ⟨L ++ [y], kk - 1, rfl, by omega, by simp; omega, o4.only g5 (fun q hq e => n1 q hq e), by rw [HMap.out]; exact o5, fun q hq e => ?_, HL'.out, hC5, G5⟩
       rcases D5.out q e with h | h
       · exact n1 q hq h
       · have := (o4.block_lt hq).2; omega
      case measure => simp [RowKit.intOf]; omega
    · have hpos := findL_pos hh
      go_wp2
      go_roundw
      case rel => exact ⟨L, kk - 1, rfl, by omega, by omega, hQ2, hU2, HDis.out, HL.out, c2, G2⟩
      case measure => simp [RowKit.intOf]; omega
  · go_wp2
    go_ret2
    exact ⟨_, _, rfl, L, hQ, hU, HDis.out, HL.out, hC, hG⟩
set_option maxRecDepth 100000 in
set_option maxHeartbeats 2000000 in
theorem l05Fill_any (b : Nat) {l : List Int} (k p n : Int) (hr : ringOk k p n = true) (vL vD : Value) (L D : List Int) (ax : AxOk L D) (w : World) (hc : Cur w b l) (hL : IntS w vL L) (hD : IntS w vD D) (hne : ∀ q, vD.ownBlock = some q → q ≠ b ∧ q < w.heap.size) : Calls Tryz.prog 79 #[.pointer (some ⟨b, 0, none⟩), ringV k p n, vL, vD] w fun e w' =>
    ∃ v X, e = .returned v ∧ OwnT w' w.heap.size v L D X ∧ (X.length : Int) = prodL D * ringWidth k n ∧ allTo (ringTop k p n) X = true ∧ Cur w' b l ∧ w.grownBy w' (some b) := by
  obtain ⟨aL, cL, rfl, hcL, hdL⟩ := hL.val
  obtain ⟨aD, cD, rfl, hcD, hdD⟩ := hD.val
  have hbl := hc.lt
  have hw := ringOk_wide hr
  obtain ⟨W, hW⟩ : ∃ W : Nat, ringWidth k n = W := ⟨(ringWidth k n).toNat, by have := hw.lo; omega⟩
  obtain ⟨P, hP⟩ : ∃ P : Nat, prodL D = P := ⟨(prodL D).toNat, by have := ax.pos; omega⟩
  have hzt := (rawOk_iff.1 (rawOk_zero hr)).2
  have hW1 : 1 ≤ W := by have := hw.lo; omega
  have hW6 : W ≤ 6 := by have := hw.hi; omega
  have hPP : P ≤ 4096 := by have := ax.size; omega
  have hP1 : 1 ≤ P := by have := ax.pos; omega
  have hPW1 : 1 ≤ P * W := Nat.mul_le_mul hP1 hW1
  have hPW : P * W ≤ 4096 * 6 := Nat.mul_le_mul hPP hW6
  have eP : (prodL D).toNat = P := by omega
  have hzL : (zeroL k p n).length = W := by rw [zeroL_length, hW]; rfl
  have hX0 : (rep P (zeroL k p n)).length = P * W := by rw [rep_length, hzL]
  have hXt := rep_top (allTo_iff.2 hzt) P
  have hrk := ax.rank
  have hln := ax.len
  have hdl : D.length ≤ 12 := by omega
  have HDn : Hid (∀ q, q = b ∨ w.heap.size + 1 < q → (Value.slice aD D.length cD).ownBlock ≠ some q) := Lib.hid fun q hq e => by have := hne q e; omega
  clear hne
  have AX := Lib.hid ax
  have HX0 := Lib.hid hX0; have HWW := Lib.hid hW; have HP := Lib.hid hP; have HR := Lib.hid hr; have HXT0 := Lib.hid hXt
  clear hX0 hW hP hr hzt hzL hXt hln ax
  go_enter Tryz.func79, Tryz.ntmps79
  go_wp2_with fail
  refine (l05Zero_any k p n hw _ _ L D _ (hL.ext (by repeat' (first | (with_reducible first | exact Ext.refl _ | assumption | apply Ext.alloc | apply Ext.drew | apply Ext.drewN) | (refine Ext.setAt ?_ (by omega) _ _) | (refine Ext.trans ?_ (by assumption))))) (hD.ext (by repeat' (first | (with_reducible first | exact Ext.refl _ | assumption | apply Ext.alloc | apply Ext.drew | apply Ext.drewN) | (refine Ext.setAt ?_ (by omega) _ _) | (refine Ext.trans ?_ (by assumption))))) hrk hdl AX.out.dims AX.out.size AX.out.cap).mono ?_; rintro e1 w1 ⟨v1, rfl, o1, h1⟩
  rw [eP] at o1
  clear eP
  have E1 : Ext w w1 := (by repeat' (first | (with_reducible first | exact Ext.refl _ | assumption | apply Ext.alloc | apply Ext.drew | apply Ext.drewN) | (refine Ext.setAt ?_ (by omega) _ _) | (refine Ext.trans ?_ (by assumption))))
  have hsz1 := h1.size
  simp at hsz1
  have BK : Blk w1 w.heap.size 24 [.int .i64 k, .int .i64 p, .int .i64 n] := Blk.ext (w := (w.alloc (.cells #[.int .i64 k, .int .i64 p, .int .i64 n] 24)).alloc (.cells #[.slice none 0 0, .slice none 0 0, .slice none 0 0] 52)) (Blk.ext (Blk.new w #[.int .i64 k, .int .i64 p, .int .i64 n] 24) (by repeat' (first | (with_reducible first | exact Ext.refl _ | assumption | apply Ext.alloc | apply Ext.drew | apply Ext.drewN) | (refine Ext.setAt ?_ (by omega) _ _) | (refine Ext.trans ?_ (by assumption))))) h1
  have BR : Blk w1 (w.heap.size + 1) 52 [.slice none 0 0, .slice none 0 0, .slice none 0 0] := Blk.ext (w := (w.alloc (.cells #[.int .i64 k, .int .i64 p, .int .i64 n] 24)).alloc (.cells #[.slice none 0 0, .slice none 0 0, .slice none 0 0] 52)) (by simpa using Blk.new (w.alloc (.cells #[.int .i64 k, .int .i64 p, .int .i64 n] 24)) #[.slice none 0 0, .slice none 0 0, .slice none 0 0] 52) h1
  obtain ⟨va, vb, vd, rfl, oa, ob, od, ap1, ap2⟩ := o1.val
  have hpos : 0 < (rep P (zeroL k p n)).length := by rw [HX0.out]; omega
  obtain ⟨bd, cd2, hbd, rfl, hcd3, hcd4⟩ := od.open hpos
  rw [HX0.out] at od hcd3 ⊢
  obtain ⟨aa, ca, rfl, _, _⟩ := oa.ints.val
  obtain ⟨ab, cb, rfl, _, _⟩ := ob.ints.val
  simp at hbd
  have hbd3 : bd < w1.heap.size := (od.block_lt rfl).2
  have hbdw : w.heap.size + 1 < bd := by omega
  have NA : Hid (∀ q, (Value.slice aa L.length ca).ownBlock = some q → q ≠ bd ∧ w.heap.size + 1 < q ∧ q < w1.heap.size) := Lib.hid fun q hq => ⟨fun e => (ap1 q hq).2 (by rw [e]; rfl), by have := oa.block_lt hq; simp at this; omega⟩
  have NB : Hid (∀ q, (Value.slice ab D.length cb).ownBlock = some q → q ≠ bd ∧ w.heap.size + 1 < q ∧ q < w1.heap.size) := Lib.hid fun q hq => ⟨fun e => ap2 q hq (by rw [e]; rfl), by have := ob.block_lt hq; simp at this; omega⟩
  have NAB : Hid (∀ q, (Value.slice aa L.length ca).ownBlock = some q → (Value.slice ab D.length cb).ownBlock ≠ some q) := Lib.hid fun q hq e => (ap1 q hq).1 e
  clear o1 hpos ap1 ap2
  have hT1 : Blk (w1.alloc (.cells #[.slice aa L.length ca, .slice ab D.length cb, .slice (some ⟨bd, 0, none⟩) (P * W) cd2] 52)) w1.heap.size 52 [.slice aa L.length ca, .slice ab D.length cb, .slice (some ⟨bd, 0, none⟩) (P * W) cd2] := Blk.new w1 #[_, _, _] 52
  have hC1 := hc.ext E1
  have hsE := E1.size
  go_wp2_with fail
  go_loopw [10] (fun i wr => ∃ (j : Nat) (X : List Int), j ≤ P ∧ i = .int .i64 j ∧ w1.heap.size < wr.heap.size ∧ Blk wr w1.heap.size 52 [.slice aa L.length ca, .slice ab D.length cb, .slice (some ⟨bd, 0, none⟩) (P * W) cd2] ∧ OwnI wr w.heap.size (.slice aa L.length ca) L ∧ OwnI wr w.heap.size (.slice ab D.length cb) D ∧
      OwnI wr w.heap.size (.slice (some ⟨bd, 0, none⟩) (P * W) cd2) X ∧ X.length = P * W ∧ allTo (ringTop k p n) X = true ∧ IntS wr (.slice aD D.length cD) D ∧ Blk wr w.heap.size 24 [.int .i64 k, .int .i64 p, .int .i64 n] ∧ Blk wr (w.heap.size + 1) 52 [.slice none 0 0, .slice none 0 0, .slice none 0 0] ∧ Cur wr b l ∧ w.grownBy wr (some b)) (fun i wr => P - (RowKit.intOf i).toNat)
  case atStart =>
    exact ⟨0, _, Nat.zero_le _, rfl, by simp, hT1, (oa.mono (by simp; omega)).ext (by repeat' (first | (with_reducible first | exact Ext.refl _ | assumption | apply Ext.alloc | apply Ext.drew | apply Ext.drewN) | (refine Ext.setAt ?_ (by omega) _ _) | (refine Ext.trans ?_ (by assumption)))), (ob.mono (by simp; omega)).ext (by repeat' (first | (with_reducible first | exact Ext.refl _ | assumption | apply Ext.alloc | apply Ext.drew | apply Ext.drewN) | (refine Ext.setAt ?_ (by omega) _ _) | (refine Ext.trans ?_ (by assumption)))), (od.mono (by simp; omega)).ext (by repeat' (first | (with_reducible first | exact Ext.refl _ | assumption | apply Ext.alloc | apply Ext.drew | apply Ext.drewN) | (refine Ext.setAt ?_ (by omega) _ _) | (refine Ext.trans ?_ (by assumption)))), HX0.out, HXT0.out, (hD.ext E1).ext (by repeat' (first | (with_reducible first | exact Ext.refl _ | assumption | apply Ext.alloc | apply Ext.drew | apply Ext.drewN) | (refine Ext.setAt ?_ (by omega) _ _) | (refine Ext.trans ?_ (by assumption)))), BK.ext (by repeat' (first | (with_reducible first | exact Ext.refl _ | assumption | apply Ext.alloc | apply Ext.drew | apply Ext.drewN) | (refine Ext.setAt ?_ (by omega) _ _) | (refine Ext.trans ?_ (by assumption)))), BR.ext (by repeat' (first | (with_reducible first | exact Ext.refl _ | assumption | apply Ext.alloc | apply Ext.drew | apply Ext.drewN) | (refine Ext.setAt ?_ (by omega) _ _) | (refine Ext.trans ?_ (by assumption)))), hC1.ext (by repeat' (first | (with_reducible first | exact Ext.refl _ | assumption | apply Ext.alloc | apply Ext.drew | apply Ext.drewN) | (refine Ext.setAt ?_ (by omega) _ _) | (refine Ext.trans ?_ (by assumption)))), grown_alloc (grown_ext (grown_refl w (some b)) E1) _⟩
  case round =>
    obtain ⟨j, X, hj, rfl, hS, hT, hA, hB, hX, hXl, hXt, hDs, hK, hR, hC, hG⟩ := hrel
    have HXL := Lib.hid hXl; have HXT := Lib.hid hXt; have HBot := Lib.hid AX.out.dims
    clear hXl hXt
    have hKl := hK.lt
    have hcap := AX.out.cap
    rw [HP.out] at hcap
    have HCap := Lib.hid hcap; clear hcap
    go_wp2_with fail
    refine (l05Product_any _ D 4096 _ hDs HBot.out (by omega) (by omega)).mono ?_; rintro e2 w2 ⟨rfl, rfl⟩; rw [HCap.out]
    by_cases hlt : j < P
    · have hfit : j * W + W ≤ P * W := by
        have : (j + 1) * W ≤ P * W := Nat.mul_le_mul_right _ (by omega)
        rwa [Nat.add_mul, Nat.one_mul] at this
      have hoo : (j : Int) * ringWidth k n = ((j * W : Nat) : Int) := by rw [HWW.out]; simp
      have HOO := Lib.hid hoo
      clear hoo
      have i0 := hK.cell (j := 0) rfl
      have i1 := hK.cell (j := 1) rfl
      have i2 := hK.cell (j := 2) rfl
      have t0 := hT.cell (j := 0) rfl
      have t1 := hT.cell (j := 1) rfl
      have t2 := hT.cell (j := 2) rfl
      have D0 : Ext wr wr.drew := (Ext.refl _).drew
      have hC0 := hC.drew
      have hs0 := hG.size
      go_wp2_with fail
      go_region_held3 (fun w' => w'.cell? ⟨w.heap.size, 0, none⟩ = some (.int .i64 k) ∧ w'.cell? ⟨w.heap.size, 1, none⟩ = some (.int .i64 p) ∧ w'.cell? ⟨w.heap.size, 2, none⟩ = some (.int .i64 n) ∧ w'.cell? ⟨w1.heap.size, 0, none⟩ = some (.slice aa L.length ca) ∧ w'.cell? ⟨w1.heap.size, 1, none⟩ = some (.slice ab D.length cb) ∧ w'.cell? ⟨w1.heap.size, 2, none⟩ = some (.slice (some ⟨bd, 0, none⟩) (P * W) cd2))
        (refine ⟨?_, ?_, ?_, ?_, ?_, ?_⟩ <;> first | assumption | (simp [*]; done))
        (first | (go_at_call 102; (with_reducible refine (l02Draw_any b k p n HR.out _ hC0).mono ?_); rintro e5 w5 ⟨v5, x, rfl, o5, hx5, c5, g5⟩; have G5 : wr.grownBy w5 (some b) := grownBy_trans (grown_drew (grown_refl _ _)) g5; have j0 := grown_cell G5 (show w.heap.size ≠ b by omega) i0; have j1 := grown_cell G5 (show w.heap.size ≠ b by omega) i1; have j2 := grown_cell G5 (show w.heap.size ≠ b by omega) i2; have j3 := grown_cell G5 (show w1.heap.size ≠ b by omega) t0; have j4 := grown_cell G5 (show w1.heap.size ≠ b by omega) t1; have j5 := grown_cell G5 (show w1.heap.size ≠ b by omega) t2; have hxl : x.length = W := (by have := (rawOk_iff.1 hx5).1; rw [HWW.out] at this; omega); have HXl := Lib.hid hxl; have HX5 := Lib.hid hx5; clear hxl hx5) | (go_at_call 101; (with_reducible refine (l05Put_len k p n (j : Int) (j * W) (P * W) _ _ _ _ _ _ bd cd2 w.heap.size v5 X x w5 HXL.out (hX.onlyB G5 hbl) o5.ints (fun q hq => by have := (o5.block_lt hq).1; simp at this; omega) HOO.out (Int.natCast_nonneg j) hw (by rw [HXl.out]; exact hfit) (by omega)).mono ?_); rintro e6 w6 ⟨rfl, o6, g6⟩; have l0 := grown_cell g6 (show w.heap.size ≠ bd by omega) j0; have l1 := grown_cell g6 (show w.heap.size ≠ bd by omega) j1; have l2 := grown_cell g6 (show w.heap.size ≠ bd by omega) j2; have l3 := grown_cell g6 (show w1.heap.size ≠ bd by omega) j3; have l4 := grown_cell g6 (show w1.heap.size ≠ bd by omega) j4; have l5 := grown_cell g6 (show w1.heap.size ≠ bd by omega) j5))
      go_wp2
      go_roundw
      case rel =>
        have s5 := G5.size
        have s6 := g6.size
        have hT6 := (hT.block (G5.block _ (by omega) (fun e => by injection e with e; omega))).block (g6.block _ (by omega) (fun e => by injection e with e; omega))
        have hK6 := (hK.block (G5.block _ (by omega) (fun e => by injection e with e; omega))).block (g6.block _ (by omega) (fun e => by injection e with e; omega))
        have hR6 := (hR.block (G5.block _ (by omega) (fun e => by injection e with e; omega))).block (g6.block _ (by omega) (fun e => by injection e with e; omega))
        have hA6 := (hA.onlyB G5 hbl).only g6 (fun q hq e => by injection e with e; exact (NA.out q hq).1 e.symm)
        have hB6 := (hB.onlyB G5 hbl).only g6 (fun q hq e => by injection e with e; exact (NB.out q hq).1 e.symm)
        have hD6 := (hDs.only G5 (HDn.out b (Or.inl rfl))).only g6 (HDn.out bd (Or.inr hbdw))
        have G6 := grown_more (grownBy_trans hG G5) g6 (fun q hq => by injection hq with hq; omega)
        refine ⟨j + 1, putL X (j * W) x, by omega, by go_num, by omega, hT6, hA6, hB6, o6, ?_, ?_, hD6, hK6, hR6, c5.onlyA g6 (by omega), G6⟩
        · rw [putL_length (by rw [HXL.out, HXl.out]; exact hfit)]; exact HXL.out
        · exact putL_top HXT.out (allTo_iff.2 (rawOk_iff.1 HX5.out).2)
      case measure => simp [RowKit.intOf]; omega
    · have : j = P := by omega
      subst this
      have q0 := hT.cell (j := 0) rfl
      have q1 := hT.cell (j := 1) rfl
      have q2 := hT.cell (j := 2) rfl
      have f0 := hR.free 0
      have f1 := hR.free 1
      have f2 := hR.free 2
      have r0 := hR.cell (j := 0) rfl
      have r1 := hR.cell (j := 1) rfl
      have r2 := hR.cell (j := 2) rfl
      have hRl := hR.lt
      go_wp2
      refine bodyPost_ret (v := .agg #[.slice aa L.length ca, .slice ab D.length cb, .slice (some ⟨bd, 0, none⟩) (j * W) cd2]) (by simp [results, Tryz.results79, go_sem, *]) rfl ?_
      refine ⟨_, X, rfl, ⟨_, _, _, rfl, ?_, ?_, ?_, fun q hq => ⟨fun e => ?_, fun e => ?_⟩, fun q hq e => ?_⟩, by rw [HXL.out, HWW.out, HP.out]; simp, HXT.out, ((hC.setOther (by omega) _).setOther (by omega) _).setOther (by omega) _, ((hG.setNew (by omega) _).setNew (by omega) _).setNew (by omega) _⟩
      · exact ((hA.setOther (fun q hq => by have := NA.out q hq; first | omega | (simp; omega)) _).setOther (fun q hq => by have := NA.out q hq; first | omega | (simp; omega)) _).setOther (fun q hq => by have := NA.out q hq; first | omega | (simp; omega)) _
      · exact ((hB.setOther (fun q hq => by have := NB.out q hq; first | omega | (simp; omega)) _).setOther (fun q hq => by have := NB.out q hq; first | omega | (simp; omega)) _).setOther (fun q hq => by have := NB.out q hq; first | omega | (simp; omega)) _
      · exact ((hX.setOther (fun q hq => by simp [Value.ownBlock] at hq; first | omega | (simp; omega)) _).setOther (fun q hq => by simp [Value.ownBlock] at hq; first | omega | (simp; omega)) _).setOther (fun q hq => by simp [Value.ownBlock] at hq; first | omega | (simp; omega)) _
      · exact NAB.out q hq e
      · simp [Value.ownBlock] at e; exact (NA.out q hq).1 e.symm
      · simp [Value.ownBlock] at e; exact (NB.out q hq).1 e.symm
theorem l05Draw_any (b : Nat) {l : List Int} (k p n : Int) (hr : ringOk k p n = true) (w : World) (hc : Cur w b l) : Calls Tryz.prog 49 #[.pointer (some ⟨b, 0, none⟩), ringV k p n] w fun e w' =>
 ∃ v L D X, e = .returned v ∧ OwnT w' w.heap.size v L D X ∧ DrawnT k p n L D X ∧ Cur w' b l ∧ w.grownBy w' (some b) := by
 have hbl := hc.lt
 go_enter Tryz.func49, Tryz.ntmps49
 go_wp2_with fail
 refine (l05Labels_any b 6 3 (by omega) (by omega) _ (hc.ext (by repeat' (first | (with_reducible first | exact Ext.refl _ | assumption | apply Ext.alloc | apply Ext.drew | apply Ext.drewN) | (refine Ext.setAt ?_ (by omega) _ _) | (refine Ext.trans ?_ (by assumption)))))).mono ?_; rintro e1 w1 ⟨v1, u1, L, rfl, o1, o2, dis, hL, c1, g1⟩
 simp at o1 o2
 have G1 : w.grownBy w1 (some b) := grownBy_trans (show w.grownBy _ (some b) from (by repeat' (first | (with_reducible exact grown_refl _ _) | (with_reducible assumption) | (with_reducible apply grown_alloc) | (with_reducible apply grown_drew) | (with_reducible apply grown_drewN) | (with_reducible refine grown_setCell ?_ _ _) | (refine grownBy_trans ?_ (by assumption))))) g1
 have hs1 := g1.size
 simp at hs1
 have BK : Blk w1 w.heap.size 24 [.int .i64 k, .int .i64 p, .int .i64 n] := (Blk.ext (w' := (w.alloc (.cells #[.int .i64 k, .int .i64 p, .int .i64 n] 24)).alloc (.cells #[.slice none 0 0, .slice none 0 0, .slice none 0 0] 52)) (Blk.new w #[.int .i64 k, .int .i64 p, .int .i64 n] 24) (by repeat' (first | (with_reducible first | exact Ext.refl _ | assumption | apply Ext.alloc | apply Ext.drew | apply Ext.drewN) | (refine Ext.setAt ?_ (by omega) _ _) | (refine Ext.trans ?_ (by assumption))))).block (g1.block _ (by simp; omega) (fun e => by injection e with e; omega))
 have BR : Blk w1 (w.heap.size + 1) 52 [.slice none 0 0, .slice none 0 0, .slice none 0 0] := Blk.block (w := (w.alloc (.cells #[.int .i64 k, .int .i64 p, .int .i64 n] 24)).alloc (.cells #[.slice none 0 0, .slice none 0 0, .slice none 0 0] 52)) (by simpa using Blk.new (w.alloc (.cells #[.int .i64 k, .int .i64 p, .int .i64 n] 24)) #[.slice none 0 0, .slice none 0 0, .slice none 0 0] 52) (g1.block _ (by simp) (fun e => by injection e with e; omega))
 have i0 := BK.cell (j := 0) rfl
 have i1 := BK.cell (j := 1) rfl
 have i2 := BK.cell (j := 2) rfl
 have hKl := BK.lt
 have hL2 := Lib.hid hL; clear hL dis
 go_wp2_with fail
 refine (l05Fill_any b k p n hr _ _ L (L.map dimOf) (hL2.out.ax (by omega)) _ c1 o1.ints o2.ints (fun q hq => by have := o2.block_lt hq; omega)).mono ?_; rintro e2 w2 ⟨v2, X, rfl, o3, hx, ht, c2, g2⟩
 have hR2 := BR.block (g2.block _ BR.lt (fun e => by injection e with e; omega))
 have f0 := hR2.free 0
 have f1 := hR2.free 1
 have f2 := hR2.free 2
 have r0 := hR2.cell (j := 0) rfl
 have r1 := hR2.cell (j := 1) rfl
 have r2 := hR2.cell (j := 2) rfl
 have hRl := hR2.lt
 have HX := Lib.hid hx; have HT := Lib.hid ht
 clear hx ht
 have G2 := grownBy_trans G1 g2
 obtain ⟨b1, m1, k1, b2, m2, k2, b3, m3, k3, rfl⟩ := o3.shape
 go_wp2
 refine bodyPost_ret (v := .agg #[.slice b1 m1 k1, .slice b2 m2 k2, .slice b3 m3 k3]) (by simp [results, Tryz.results49, go_sem, *]) rfl ?_
 exact ⟨_, L, _, X, rfl, (((o3.setBelow (by simp; omega) _).setBelow (by simp; omega) _).setBelow (by simp; omega) _).mono (by omega), ⟨hL2.out, rfl, HX.out, HT.out⟩, ((c2.setOther (by omega) _).setOther (by omega) _).setOther (by omega) _, ((G2.setNew (by omega) _).setNew (by omega) _).setNew (by omega) _⟩
end Go.Proofs.YtlgjddgajdjllaaGreatDoor
