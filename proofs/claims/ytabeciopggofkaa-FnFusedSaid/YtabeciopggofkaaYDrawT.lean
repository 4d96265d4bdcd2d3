/- Drawn tensors: l05Labels, l05Fill, l05Draw, MakeTensor. -/
import Derived.Deep.RegionHeld3
import Derived.Test.YtabeciopggofkaaYBase
import Derived.Test.YtabeciopggofkaaYG5
import Derived.Test.YtabeciopggofkaaYDrawE
import Derived.Test.YtabeciopggofkaaYHomA
namespace Go.Proofs.Ytabeciopggofkaa
open Go.RowKit
set_option linter.unusedSimpArgs false
set_option linter.unusedVariables false

theorem Cur.drew {w : World} {b : Nat} {l : List Int} (h : Cur w b l) : Cur w.drew b l := h.ext ((Ext.refl _).drew)
theorem Cur.onlyA {w w' : World} {b q : Nat} {l : List Int} (h : Cur w b l) (g : w.grownBy w' (some q)) (hq : b < q) : Cur w' b l := by
  obtain ⟨v, i, h, hb, hc, i0, i1, r0, r1, hlow⟩ := h.has
  exact ⟨v, i, h, hb.block (g.block _ hb.lt (fun e => by injection e with e; omega)), ⟨hc.bytes.only g (fun hp e => by have := hlow hp q e; omega), hc.all, hc.len⟩, i0, i1, r0, r1, hlow⟩
theorem grown_more {w a c : World} {r : Option Nat} {b : Option Nat} (g0 : w.grownBy a b) (g : a.grownBy c r) (h : ∀ q, r = some q → w.heap.size ≤ q) : w.grownBy c b :=
  ⟨g.os.trans g0.os, g.tape.trans g0.tape, g.output.trans g0.output, Nat.le_trans g0.size g.size, fun k hk hne => (g.block k (Nat.lt_of_lt_of_le hk g0.size) (fun e => by have := h k e.symm; omega)).trans (g0.block k hk hne)⟩

set_option maxRecDepth 100000 in
set_option maxHeartbeats 2000000 in
theorem l05Fill_any (b : Nat) {l : List Int} (k p n : Int) (hr : ringOk k p n = true) (vL vD : Value) (L D : List Int) (ax : AxOk L D) (w : World) (hc : Cur w b l) (hL : IntS w vL L) (hD : IntS w vD D) (hne : ∀ q, vD.ownBlock = some q → q ≠ b ∧ q < w.heap.size) : Calls Try.prog 74 #[.pointer (some ⟨b, 0, none⟩), ringV k p n, vL, vD] w fun e w' =>
    ∃ v X, e = .returned v ∧ OwnT w' w.heap.size v L D X ∧ (X.length : Int) = prodL D * ringWidth k n ∧ allTo (ringTop k p n) X = true ∧ Cur w' b l ∧ w.grownBy w' (some b) := by
  obtain ⟨aL, cL, rfl, hcL, hdL⟩ := hL.val
  obtain ⟨aD, cD, rfl, hcD, hdD⟩ := hD.val
  have hbl := hc.lt
  have hw := ringOk_wide hr
  obtain ⟨W, hW⟩ : ∃ W : Nat, ringWidth k n = W := ⟨(ringWidth k n).toNat, by have := hw.lo; omega⟩
  obtain ⟨P, hP⟩ : ∃ P : Nat, prodL D = P := ⟨(prodL D).toNat, by have := ax.pos; omega⟩
  have hzt := (rawOk_iff.1 (rawOk_zero hr)).2
  have hW1 : 1 ≤ W := by have := hw.lo; omega
  have hW6 : W ≤ 6 := by have := hw.hi; omega
  have hPP : P ≤ 4096 := by have := ax.size; omega
  have hP1 : 1 ≤ P := by have := ax.pos; omega
  have hPW1 : 1 ≤ P * W := Nat.mul_le_mul hP1 hW1
  have hPW : P * W ≤ 4096 * 6 := Nat.mul_le_mul hPP hW6
  have eP : (prodL D).toNat = P := by omega
  have hzL : (zeroL k p n).length = W := by rw [zeroL_length, hW]; rfl
  have hX0 : (rep P (zeroL k p n)).length = P * W := by rw [rep_length, hzL]
  have hXt := rep_top (allTo_iff.2 hzt) P
  have hrk := ax.rank
  have hln := ax.len
  have hdl : D.length ≤ 12 := by omega
  have HDn : Hid (∀ q, q = b ∨ w.heap.size + 1 < q → (Value.slice aD D.length cD).ownBlock ≠ some q) := Lib.hid fun q hq e => by have := hne q e; omega
  clear hne
  have AX := Lib.hid ax
  have HX0 := Lib.hid hX0; have HWW := Lib.hid hW; have HP := Lib.hid hP; have HR := Lib.hid hr; have HXT0 := Lib.hid hXt
  clear hX0 hW hP hr hzt hzL hXt hln ax
  go_enter Try.func74, Try.ntmps74
  go_wp2_with fail
  refine (l05Zero_any k p n hw _ _ L D _ (hL.ext (by repeat' (first | (with_reducible exact Ext.refl _) | (with_reducible assumption) | (with_reducible apply Ext.alloc) | (with_reducible apply Ext.drew) | (with_reducible apply Ext.drewN) | (refine Ext.setAt ?_ (by omega) _ _) | (refine Ext.trans ?_ (by assumption))))) (hD.ext (by repeat' (first | (with_reducible exact Ext.refl _) | (with_reducible assumption) | (with_reducible apply Ext.alloc) | (with_reducible apply Ext.drew) | (with_reducible apply Ext.drewN) | (refine Ext.setAt ?_ (by omega) _ _) | (refine Ext.trans ?_ (by assumption))))) hrk hdl AX.out.dims AX.out.size AX.out.cap).mono ?_; rintro e1 w1 ⟨v1, rfl, o1, h1⟩
  rw [eP] at o1
  clear eP
  have E1 : Ext w w1 := (by repeat' (first | (with_reducible exact Ext.refl _) | (with_reducible assumption) | (with_reducible apply Ext.alloc) | (with_reducible apply Ext.drew) | (with_reducible apply Ext.drewN) | (refine Ext.setAt ?_ (by omega) _ _) | (refine Ext.trans ?_ (by assumption))))
  have hsz1 := h1.size
  simp at hsz1
  have BK : Blk w1 w.heap.size 24 [.int .i64 k, .int .i64 p, .int .i64 n] := Blk.ext (w := (w.alloc (.cells #[.int .i64 k, .int .i64 p, .int .i64 n] 24)).alloc (.cells #[.slice none 0 0, .slice none 0 0, .slice none 0 0] 31)) (Blk.ext (Blk.new w #[.int .i64 k, .int .i64 p, .int .i64 n] 24) (by repeat' (first | (with_reducible exact Ext.refl _) | (with_reducible assumption) | (with_reducible apply Ext.alloc) | (with_reducible apply Ext.drew) | (with_reducible apply Ext.drewN) | (refine Ext.setAt ?_ (by omega) _ _) | (refine Ext.trans ?_ (by assumption))))) h1
  have BR : Blk w1 (w.heap.size + 1) 31 [.slice none 0 0, .slice none 0 0, .slice none 0 0] := Blk.ext (w := (w.alloc (.cells #[.int .i64 k, .int .i64 p, .int .i64 n] 24)).alloc (.cells #[.slice none 0 0, .slice none 0 0, .slice none 0 0] 31)) (by simpa using Blk.new (w.alloc (.cells #[.int .i64 k, .int .i64 p, .int .i64 n] 24)) #[.slice none 0 0, .slice none 0 0, .slice none 0 0] 31) h1
  obtain ⟨va, vb, vd, rfl, oa, ob, od, ap1, ap2⟩ := o1.val
  have hpos : 0 < (rep P (zeroL k p n)).length := by rw [HX0.out]; omega
  obtain ⟨bd, cd2, hbd, rfl, hcd3, hcd4⟩ := od.open hpos
  rw [HX0.out] at od hcd3 ⊢
  obtain ⟨aa, ca, rfl, _, _⟩ := oa.ints.val
  obtain ⟨ab, cb, rfl, _, _⟩ := ob.ints.val
  simp at hbd
  have hbd3 : bd < w1.heap.size := (od.block_lt rfl).2
  have hbdw : w.heap.size + 1 < bd := by omega
  have NA : Hid (∀ q, (Value.slice aa L.length ca).ownBlock = some q → q ≠ bd ∧ w.heap.size + 1 < q ∧ q < w1.heap.size) := Lib.hid fun q hq => ⟨fun e => (ap1 q hq).2 (by rw [e]; rfl), by have := oa.block_lt hq; simp at this; omega⟩
  have NB : Hid (∀ q, (Value.slice ab D.length cb).ownBlock = some q → q ≠ bd ∧ w.heap.size + 1 < q ∧ q < w1.heap.size) := Lib.hid fun q hq => ⟨fun e => ap2 q hq (by rw [e]; rfl), by have := ob.block_lt hq; simp at this; omega⟩
  have NAB : Hid (∀ q, (Value.slice aa L.length ca).ownBlock = some q → (Value.slice ab D.length cb).ownBlock ≠ some q) := Lib.hid fun q hq e => (ap1 q hq).1 e
  clear o1 hpos ap1 ap2
  have hT1 : Blk (w1.alloc (.cells #[.slice aa L.length ca, .slice ab D.length cb, .slice (some ⟨bd, 0, none⟩) (P * W) cd2] 31)) w1.heap.size 31 [.slice aa L.length ca, .slice ab D.length cb, .slice (some ⟨bd, 0, none⟩) (P * W) cd2] := Blk.new w1 #[_, _, _] 31
  have hC1 := hc.ext E1
  have hsE := E1.size
  go_wp2_with fail
  go_loopw [10] (fun i wr => ∃ (j : Nat) (X : List Int), j ≤ P ∧ i = .int .i64 j ∧ w1.heap.size < wr.heap.size ∧ Blk wr w1.heap.size 31 [.slice aa L.length ca, .slice ab D.length cb, .slice (some ⟨bd, 0, none⟩) (P * W) cd2] ∧ OwnI wr w.heap.size (.slice aa L.length ca) L ∧ OwnI wr w.heap.size (.slice ab D.length cb) D ∧
      OwnI wr w.heap.size (.slice (some ⟨bd, 0, none⟩) (P * W) cd2) X ∧ X.length = P * W ∧ allTo (ringTop k p n) X = true ∧ IntS wr (.slice aD D.length cD) D ∧ Blk wr w.heap.size 24 [.int .i64 k, .int .i64 p, .int .i64 n] ∧ Blk wr (w.heap.size + 1) 31 [.slice none 0 0, .slice none 0 0, .slice none 0 0] ∧ Cur wr b l ∧ w.grownBy wr (some b)) (fun i wr => P - (RowKit.intOf i).toNat)
  case atStart =>
    exact ⟨0, _, Nat.zero_le _, rfl, by simp, hT1, (oa.mono (by simp; omega)).ext (by repeat' (first | (with_reducible exact Ext.refl _) | (with_reducible assumption) | (with_reducible apply Ext.alloc) | (with_reducible apply Ext.drew) | (with_reducible apply Ext.drewN) | (refine Ext.setAt ?_ (by omega) _ _) | (refine Ext.trans ?_ (by assumption)))), (ob.mono (by simp; omega)).ext (by repeat' (first | (with_reducible exact Ext.refl _) | (with_reducible assumption) | (with_reducible apply Ext.alloc) | (with_reducible apply Ext.drew) | (with_reducible apply Ext.drewN) | (refine Ext.setAt ?_ (by omega) _ _) | (refine Ext.trans ?_ (by assumption)))), (od.mono (by simp; omega)).ext (by repeat' (first | (with_reducible exact Ext.refl _) | (with_reducible assumption) | (with_reducible apply Ext.alloc) | (with_reducible apply Ext.drew) | (with_reducible apply Ext.drewN) | (refine Ext.setAt ?_ (by omega) _ _) | (refine Ext.trans ?_ (by assumption)))), HX0.out, HXT0.out, (hD.ext E1).ext (by repeat' (first | (with_reducible exact Ext.refl _) | (with_reducible assumption) | (with_reducible apply Ext.alloc) | (with_reducible apply Ext.drew) | (with_reducible apply Ext.drewN) | (refine Ext.setAt ?_ (by omega) _ _) | (refine Ext.trans ?_ (by assumption)))), BK.ext (by repeat' (first | (with_reducible exact Ext.refl _) | (with_reducible assumption) | (with_reducible apply Ext.alloc) | (with_reducible apply Ext.drew) | (with_reducible apply Ext.drewN) | (refine Ext.setAt ?_ (by omega) _ _) | (refine Ext.trans ?_ (by assumption)))), BR.ext (by repeat' (first | (with_reducible exact Ext.refl _) | (with_reducible assumption) | (with_reducible apply Ext.alloc) | (with_reducible apply Ext.drew) | (with_reducible apply Ext.drewN) | (refine Ext.setAt ?_ (by omega) _ _) | (refine Ext.trans ?_ (by assumption)))), hC1.ext (by repeat' (first | (with_reducible exact Ext.refl _) | (with_reducible assumption) | (with_reducible apply Ext.alloc) | (with_reducible apply Ext.drew) | (with_reducible apply Ext.drewN) | (refine Ext.setAt ?_ (by omega) _ _) | (refine Ext.trans ?_ (by assumption)))), grown_alloc (grown_ext (grown_refl w (some b)) E1) _⟩
  case round =>
    obtain ⟨j, X, hj, rfl, hS, hT, hA, hB, hX, hXl, hXt, hDs, hK, hR, hC, hG⟩ := hrel
    have HXL := Lib.hid hXl; have HXT := Lib.hid hXt; have HBot := Lib.hid AX.out.dims
    clear hXl hXt
    have hKl := hK.lt
    have hcap := AX.out.cap
    rw [HP.out] at hcap
    have HCap := Lib.hid hcap; clear hcap
    go_wp2_with fail
    refine (l05Product_any _ D 4096 _ hDs HBot.out (by omega) (by omega)).mono ?_; rintro e2 w2 ⟨rfl, rfl⟩; rw [HCap.out]
    by_cases hlt : j < P
    · have hfit : j * W + W ≤ P * W := by
        have : (j + 1) * W ≤ P * W := Nat.mul_le_mul_right _ (by omega)
        rwa [Nat.add_mul, Nat.one_mul] at this
      have hoo : (j : Int) * ringWidth k n = ((j * W : Nat) : Int) := by rw [HWW.out]; simp
      have HOO := Lib.hid hoo
      clear hoo
      have i0 := hK.cell (j := 0) rfl
      have i1 := hK.cell (j := 1) rfl
      have i2 := hK.cell (j := 2) rfl
      have t0 := hT.cell (j := 0) rfl
      have t1 := hT.cell (j := 1) rfl
      have t2 := hT.cell (j := 2) rfl
      have D0 : Ext wr wr.drew := (Ext.refl _).drew
      have hC0 := hC.drew
      have hs0 := hG.size
      go_wp2_with fail
      go_region_held3 (fun w' => w'.cell? ⟨w.heap.size, 0, none⟩ = some (.int .i64 k) ∧ w'.cell? ⟨w.heap.size, 1, none⟩ = some (.int .i64 p) ∧ w'.cell? ⟨w.heap.size, 2, none⟩ = some (.int .i64 n) ∧ w'.cell? ⟨w1.heap.size, 0, none⟩ = some (.slice aa L.length ca) ∧ w'.cell? ⟨w1.heap.size, 1, none⟩ = some (.slice ab D.length cb) ∧ w'.cell? ⟨w1.heap.size, 2, none⟩ = some (.slice (some ⟨bd, 0, none⟩) (P * W) cd2))
        (refine ⟨?_, ?_, ?_, ?_, ?_, ?_⟩ <;> first | assumption | (simp [*]; done))
        (first | (go_at_call 76; (with_reducible refine (l02Draw_any b k p n HR.out _ hC0).mono ?_); rintro e5 w5 ⟨v5, x, rfl, o5, hx5, c5, g5⟩; have G5 : wr.grownBy w5 (some b) := grownBy_trans (grown_drew (grown_refl _ _)) g5; have j0 := grown_cell G5 (show w.heap.size ≠ b by omega) i0; have j1 := grown_cell G5 (show w.heap.size ≠ b by omega) i1; have j2 := grown_cell G5 (show w.heap.size ≠ b by omega) i2; have j3 := grown_cell G5 (show w1.heap.size ≠ b by omega) t0; have j4 := grown_cell G5 (show w1.heap.size ≠ b by omega) t1; have j5 := grown_cell G5 (show w1.heap.size ≠ b by omega) t2; have hxl : x.length = W := (by have := (rawOk_iff.1 hx5).1; rw [HWW.out] at this; omega); have HXl := Lib.hid hxl; have HX5 := Lib.hid hx5; clear hxl hx5) | (go_at_call 102; (with_reducible refine (l05Put_len k p n (j : Int) (j * W) (P * W) _ _ _ _ _ _ bd cd2 w.heap.size v5 X x w5 HXL.out (hX.onlyB G5 hbl) o5.ints (fun q hq => by have := (o5.block_lt hq).1; simp at this; omega) HOO.out (Int.natCast_nonneg j) hw (by rw [HXl.out]; exact hfit) (by omega)).mono ?_); rintro e6 w6 ⟨rfl, o6, g6⟩; have l0 := grown_cell g6 (show w.heap.size ≠ bd by omega) j0; have l1 := grown_cell g6 (show w.heap.size ≠ bd by omega) j1; have l2 := grown_cell g6 (show w.heap.size ≠ bd by omega) j2; have l3 := grown_cell g6 (show w1.heap.size ≠ bd by omega) j3; have l4 := grown_cell g6 (show w1.heap.size ≠ bd by omega) j4; have l5 := grown_cell g6 (show w1.heap.size ≠ bd by omega) j5))
      go_wp2
      go_roundw
      case rel =>
        have s5 := G5.size
        have s6 := g6.size
        have hT6 := (hT.block (G5.block _ (by omega) (fun e => by injection e with e; omega))).block (g6.block _ (by omega) (fun e => by injection e with e; omega))
        have hK6 := (hK.block (G5.block _ (by omega) (fun e => by injection e with e; omega))).block (g6.block _ (by omega) (fun e => by injection e with e; omega))
        have hR6 := (hR.block (G5.block _ (by omega) (fun e => by injection e with e; omega))).block (g6.block _ (by omega) (fun e => by injection e with e; omega))
        have hA6 := (hA.onlyB G5 hbl).only g6 (fun q hq e => by injection e with e; exact (NA.out q hq).1 e.symm)
        have hB6 := (hB.onlyB G5 hbl).only g6 (fun q hq e => by injection e with e; exact (NB.out q hq).1 e.symm)
        have hD6 := (hDs.only G5 (HDn.out b (Or.inl rfl))).only g6 (HDn.out bd (Or.inr hbdw))
        have G6 := grown_more (grownBy_trans hG G5) g6 (fun q hq => by injection hq with hq; omega)
        refine ⟨j + 1, putL X (j * W) x, by omega, by go_num, by omega, hT6, hA6, hB6, o6, ?_, ?_, hD6, hK6, hR6, c5.onlyA g6 (by omega), G6⟩
        · rw [putL_length (by rw [HXL.out, HXl.out]; exact hfit)]; exact HXL.out
        · exact putL_top HXT.out (allTo_iff.2 (rawOk_iff.1 HX5.out).2)
      case measure => simp [RowKit.intOf]; omega
    · have : j = P := by omega
      subst this
      have q0 := hT.cell (j := 0) rfl
      have q1 := hT.cell (j := 1) rfl
      have q2 := hT.cell (j := 2) rfl
      have f0 := hR.free 0
      have f1 := hR.free 1
      have f2 := hR.free 2
      have r0 := hR.cell (j := 0) rfl
      have r1 := hR.cell (j := 1) rfl
      have r2 := hR.cell (j := 2) rfl
      have hRl := hR.lt
      go_wp2
      refine bodyPost_ret (v := .agg #[.slice aa L.length ca, .slice ab D.length cb, .slice (some ⟨bd, 0, none⟩) (j * W) cd2]) (by simp [results, Try.results74, go_sem, *]) rfl ?_
      refine ⟨_, X, rfl, ⟨_, _, _, rfl, ?_, ?_, ?_, fun q hq => ⟨fun e => ?_, fun e => ?_⟩, fun q hq e => ?_⟩, by rw [HXL.out, HWW.out, HP.out]; simp, HXT.out, ((hC.setOther (by omega) _).setOther (by omega) _).setOther (by omega) _, ((hG.setNew (by omega) _).setNew (by omega) _).setNew (by omega) _⟩
      · exact ((hA.setOther (fun q hq => by have := NA.out q hq; first | omega | (simp; omega)) _).setOther (fun q hq => by have := NA.out q hq; first | omega | (simp; omega)) _).setOther (fun q hq => by have := NA.out q hq; first | omega | (simp; omega)) _
      · exact ((hB.setOther (fun q hq => by have := NB.out q hq; first | omega | (simp; omega)) _).setOther (fun q hq => by have := NB.out q hq; first | omega | (simp; omega)) _).setOther (fun q hq => by have := NB.out q hq; first | omega | (simp; omega)) _
      · exact ((hX.setOther (fun q hq => by simp [Value.ownBlock] at hq; first | omega | (simp; omega)) _).setOther (fun q hq => by simp [Value.ownBlock] at hq; first | omega | (simp; omega)) _).setOther (fun q hq => by simp [Value.ownBlock] at hq; first | omega | (simp; omega)) _
      · exact NAB.out q hq e
      · simp [Value.ownBlock] at e; exact (NA.out q hq).1 e.symm
      · simp [Value.ownBlock] at e; exact (NB.out q hq).1 e.symm

theorem OwnT.onlyB {w w' : World} {B b : Nat} {v : Value} {L D X : List Int} (h : OwnT w B v L D X) (g : w.grownBy w' (some b)) (hb : b < B) : OwnT w' B v L D X := by
  obtain ⟨a, b, c, rfl, h1, h2, h3, h4⟩ := h.val
  exact ⟨_, _, _, rfl, h1.onlyB g hb, h2.onlyB g hb, h3.onlyB g hb, h4⟩
end Go.Proofs.Ytabeciopggofkaa
