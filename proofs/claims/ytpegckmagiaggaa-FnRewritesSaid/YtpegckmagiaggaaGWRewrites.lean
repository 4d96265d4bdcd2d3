/- The law 'FnRewrites', walked. -/
import Derived.Test.YtpegckmagiaggaaGSimpN
import Derived.Test.YtpegckmagiaggaaGMrgV
import Derived.Test.YtpegckmagiaggaaGWorthW
import Derived.Test.YtpegckmagiaggaaGDrawS
set_option linter.unusedSimpArgs false
set_option linter.unusedVariables false
namespace Go.Proofs.Ytpegckmagiaggaa
open Go.RowKit
def NetIf (c : Bool) (w : World) (v : Value) (k p n : Int) (T : List (List Int × List Int × List Int)) (O : List Int) : Prop := c = true → ∃ tv ov, v = .agg #[.int .i64 k, .int .i64 p, .int .i64 n, tv, ov] ∧ TensS w tv T ∧ IntS w ov O
theorem NetIf.no (w : World) (v : Value) (k p n : Int) (T : List (List Int × List Int × List Int)) (O : List Int) : NetIf false w v k p n T O := fun h => by cases h
theorem NetIf.ext {c : Bool} {w w' : World} {v : Value} {k p n : Int} {T : List (List Int × List Int × List Int)} {O : List Int} (h : NetIf c w v k p n T O) (e : Ext w w') : NetIf c w' v k p n T O := fun hc => by
  obtain ⟨tv, ov, h1, h2, h3⟩ := h hc
  exact ⟨tv, ov, h1, h2.ext e, h3.ext e⟩
theorem NetIf.at {c : Bool} {w : World} {v u x y : Value} {k p n : Int} {T : List (List Int × List Int × List Int)} {O : List Int} (h : NetIf c w (bif c then v else u) k p n T O) (hc : c = true) (hv : v = .agg #[.int .i64 k, .int .i64 p, .int .i64 n, x, y]) : TensS w x T ∧ IntS w y O := by
  obtain ⟨tv, ov, h1, h2, h3⟩ := h hc
  rw [hc, cond_true, hv] at h1
  simp only [Value.agg.injEq, Array.mk.injEq, List.cons.injEq, and_true, true_and] at h1
  obtain ⟨rfl, rfl⟩ := h1
  exact ⟨h2, h3⟩
def AbsIf (c : Bool) (w : World) (v : Value) (k p n : Int) (hr : ringOk k p n = true) (RX op : List Int) : Prop := c = true → ∃ (AN : List (NT k p n)) (tv ov : Value), v = .agg #[.int .i64 k, .int .i64 p, .int .i64 n, tv, ov] ∧ TensS w tv (AN.map (tenOf dimOf)) ∧ IntS w ov op ∧ IsN k p n dimOf U6 AN op ∧ RX = flat (netXs hr dimOf AN op)
theorem AbsIf.no (w : World) (v : Value) {k p n : Int} (hr : ringOk k p n = true) (RX op : List Int) : AbsIf false w v k p n hr RX op := fun h => by cases h
theorem AbsIf.ext {c : Bool} {w w' : World} {v : Value} {k p n : Int} {hr : ringOk k p n = true} {RX op : List Int} (h : AbsIf c w v k p n hr RX op) (e : Ext w w') : AbsIf c w' v k p n hr RX op := fun hc => by
  obtain ⟨AN, tv, ov, h1, h2, h3, h4⟩ := h hc
  exact ⟨AN, tv, ov, h1, h2.ext e, h3.ext e, h4⟩
theorem AbsIf.at {c : Bool} {w : World} {v u x y : Value} {k p n : Int} {hr : ringOk k p n = true} {RX op : List Int} (h : AbsIf c w (bif c then v else u) k p n hr RX op) (hc : c = true) (hv : v = .agg #[.int .i64 k, .int .i64 p, .int .i64 n, x, y]) : ∃ AN : List (NT k p n), TensS w x (AN.map (tenOf dimOf)) ∧ IntS w y op ∧ IsN k p n dimOf U6 AN op ∧ RX = flat (netXs hr dimOf AN op) := by
  obtain ⟨AN, tv, ov, h1, h2, h3, h4⟩ := h hc
  rw [hc, cond_true, hv] at h1
  simp only [Value.agg.injEq, Array.mk.injEq, List.cons.injEq, and_true, true_and] at h1
  obtain ⟨rfl, rfl⟩ := h1
  exact ⟨AN, h2, h3, h4⟩
set_option maxRecDepth 100000 in
set_option maxHeartbeats 8000000 in
theorem walkFnRewrites (v : Value) (l : List Int) (w : World) (hl : ByteS w v l) (hall : ∀ x ∈ l, 0 ≤ x ∧ x ≤ 255) :
 Calls Try.prog 10 #[v] w fun e w' => e = .returned (.bool true) ∧ Ext w w' := by
 obtain ⟨ca, cap, rfl, hc1, hc2⟩ := hl.val
 by_cases big : 1048576 < l.length
 · go_enter Try.func10, Try.ntmps10
   go_wp2
   go_ret
   exact ⟨rfl, (by repeat' (first | (with_reducible first | exact Ext.refl _ | assumption | apply Ext.alloc | apply Ext.drew | apply Ext.drewN) | (refine Ext.setAt ?_ (by omega) _ _) | (refine Ext.trans ?_ (by assumption))))⟩
 have hC : Code w (.slice ca l.length cap) l := ⟨hl, hall, by omega⟩
 clear hall hl
 have hH : Held w w [] := Held.new (Ext.refl w) 0
 go_enter Try.func10, Try.ntmps10
 go_wp2_with fail
 refine (makeRing_any _ l 0 _ (hC.ext hH.ext) (by omega)).mono ?_; rintro ewn1 wn1 ⟨k, p, n, rfl, hd, hwn1⟩
 have HR := Lib.hid (drawn_ok hd); clear hd
 replace hH : Held w wn1 [] := hH.grow hwn1
 clear hwn1
 go_wp2_with fail
 have hB : Held w (wn1.alloc (.cells #[.int .i64 k, .int .i64 p, .int .i64 n] 24)) [aB (wn1.heap.size) 24 [.int .i64 k, .int .i64 p, .int .i64 n]] := by
  have h := (hH.mores 1).addB 0 #[.int .i64 k, .int .i64 p, .int .i64 n] 24
  exact h
 have hsz : (wn1.alloc (.cells #[.int .i64 k, .int .i64 p, .int .i64 n] 24)).heap.size = wn1.heap.size + 1 := by simp
 generalize wn1.alloc (.cells #[.int .i64 k, .int .i64 p, .int .i64 n] 24) = wn2 at hB hsz ⊢
 replace hH := hB; have HSZwn2 := Lib.hid hsz; clear hB hsz
 obtain ⟨q0_0, q0_1, q0_2, l0_⟩ := hH.c3 0 rfl
 go_wp2_with fail
 clear q0_0 q0_1 q0_2 l0_
 refine (makeNetwork_any _ l 10 k p n 5 HR.out (by omega) (by omega) _ (hC.ext hH.ext) (by omega)).mono ?_; rintro ewN wN ⟨tv, ov, cs, ts, op, rfl, hJ, hN, hmost⟩
 have E0 : Ext w wN := hH.ext.trans hJ.ext
 have hT : TensS wN tv (ts.map (tenOf dimOf)) := hJ.tensS (k := 0) rfl
 have hO : IntS wN ov op := hJ.ints (k := 1) rfl
 have kr_0 := ((hH.grow hJ.ext).blk (k := 0) rfl).cell (j := 0) rfl
 have kr_1 := ((hH.grow hJ.ext).blk (k := 0) rfl).cell (j := 1) rfl
 have kr_2 := ((hH.grow hJ.ext).blk (k := 0) rfl).cell (j := 2) rfl
 have kr_l := ((hH.grow hJ.ext).blk (k := 0) rfl).lt
 have hCN := hC.ext E0
 obtain ⟨m, hm⟩ : ∃ m, ts.length = m := ⟨_, rfl⟩
 obtain ⟨aV, cV, rfl, hcT1, hcT2⟩ := hT.val
 obtain ⟨aO, cO, rfl, hcO1, hcO2⟩ := hO.val
 have hT0 : TensS wN (.slice aV m cV) (ts.map (tenOf dimOf)) := by rw [List.length_map, hm] at hT; exact hT
 rw [List.length_map, hm] at hT hcT1
 rw [List.length_map, hm]
 have hm12 : m ≤ 5 := by rw [← hm]; omega
 have hop12 : op.length ≤ 12 := hN.rank
 have HM := Lib.hid hm; have HN := Lib.hid hN; have HD3 := Lib.hid hN.dims3; clear hm hN hmost hJ hC
 have hTl : Hid ((ts.map (tenOf dimOf)).length = m) := Lib.hid (by rw [List.length_map]; exact HM.out)
 clear hH
 have hC := hCN; clear hCN
 have hH : Held wN wN [] := Held.new (Ext.refl _) 0
 have c_kr_0 := hH.ext.cell kr_0; have c_kr_1 := hH.ext.cell kr_1; have c_kr_2 := hH.ext.cell kr_2
 have c_kr_l := Nat.lt_of_lt_of_le kr_l hH.ext.size
 go_wp2_with fail
 clear c_kr_0 c_kr_1 c_kr_2 c_kr_l
 have hB : Held wN (wN.alloc (.cells #[.int .i64 k, .int .i64 p, .int .i64 n, .slice aV m cV, .slice aO op.length cO] 29)) [aB (wN.heap.size) 29 [.int .i64 k, .int .i64 p, .int .i64 n, .slice aV m cV, .slice aO op.length cO]] := by
  have h := (hH.mores 1).addB 0 #[.int .i64 k, .int .i64 p, .int .i64 n, .slice aV m cV, .slice aO op.length cO] 29
  exact h
 have hsz : (wN.alloc (.cells #[.int .i64 k, .int .i64 p, .int .i64 n, .slice aV m cV, .slice aO op.length cO] 29)).heap.size = wN.heap.size + 1 := by simp
 generalize wN.alloc (.cells #[.int .i64 k, .int .i64 p, .int .i64 n, .slice aV m cV, .slice aO op.length cO] 29) = wn3 at hB hsz ⊢
 replace hH := hB; have HSZwn3 := Lib.hid hsz; clear hB hsz
 have HDN := Lib.hid (drop_isN (op := op) HN.out)
 have HPN := Lib.hid (sumP_isN HR.out HN.out)
 obtain ⟨RX, hRX⟩ : ∃ q, flat (netXs HR.out dimOf ts op) = q := ⟨_, rfl⟩
 have HDV : Hid (RX = flat (netXs HR.out dimOf (dropU dimOf op ts) op)) := Lib.hid (by rw [drop_val HR.out HN.out, hRX])
 have HPV : Hid (RX = flat (netXs HR.out dimOf (sumP HR.out dimOf ts op) op)) := Lib.hid (by rw [sumP_val HR.out HN.out, hRX])
 have HRX := Lib.hid hRX; clear hRX
 refine (worth_any HR.out HN.out _ _ _ (hT0.ext hH.ext) (hO.ext hH.ext)).mono ?_; rintro ewn4 wn4 ⟨u, rfl, ou, hwn4⟩
 rw [HRX.out] at ou
 obtain ⟨p1, n1, d1, p2, n2, d2, p3, n3, d3, rfl⟩ := ou.shape
 replace hH : Held wN wn4 [aB (wN.heap.size) 29 [.int .i64 k, .int .i64 p, .int .i64 n, .slice aV m cV, .slice aO op.length cO], aT (.agg #[.slice p1 n1 d1, .slice p2 n2 d2, .slice p3 n3 d3]) op (op.map dimOf) RX] := (hH.mores 1).addT 1 hwn4 ou (Nat.le_refl _)
 clear hwn4
 obtain ⟨q0_0, q0_1, q0_2, q0_3, q0_4, l0_⟩ := hH.c5 0 rfl; have c_kr_0 := hH.ext.cell kr_0; have c_kr_1 := hH.ext.cell kr_1; have c_kr_2 := hH.ext.cell kr_2
 have c_kr_l := Nat.lt_of_lt_of_le kr_l hH.ext.size
 go_upto_region 6 with fail
 clear q0_0 q0_1 q0_2 q0_3 q0_4 l0_ c_kr_0 c_kr_1 c_kr_2 c_kr_l
 have hB : Held wN (wn4.alloc (.cells #[.slice p1 n1 d1, .slice p2 n2 d2, .slice p3 n3 d3] 32)) [aB (wN.heap.size) 29 [.int .i64 k, .int .i64 p, .int .i64 n, .slice aV m cV, .slice aO op.length cO], aT (.agg #[.slice p1 n1 d1, .slice p2 n2 d2, .slice p3 n3 d3]) op (op.map dimOf) RX, aB (wn4.heap.size) 32 [.slice p1 n1 d1, .slice p2 n2 d2, .slice p3 n3 d3]] := by
  have h := (hH.mores 1).addB 2 #[.slice p1 n1 d1, .slice p2 n2 d2, .slice p3 n3 d3] 32
  exact h
 have hsz : (wn4.alloc (.cells #[.slice p1 n1 d1, .slice p2 n2 d2, .slice p3 n3 d3] 32)).heap.size = wn4.heap.size + 1 := by simp
 generalize wn4.alloc (.cells #[.slice p1 n1 d1, .slice p2 n2 d2, .slice p3 n3 d3] 32) = wn5 at hB hsz ⊢
 replace hH := hB; have HSZwn5 := Lib.hid hsz; clear hB hsz
 obtain ⟨wa, rfl⟩ : ∃ q, q = wn5 := ⟨wn5, rfl⟩
 obtain ⟨q0_0, q0_1, q0_2, q0_3, q0_4, l0_⟩ := hH.c5 0 rfl; obtain ⟨q2_0, q2_1, q2_2, l2_⟩ := hH.c3 2 rfl; have c_kr_0 := hH.ext.cell kr_0; have c_kr_1 := hH.ext.cell kr_1; have c_kr_2 := hH.ext.cell kr_2
 have c_kr_l := Nat.lt_of_lt_of_le kr_l hH.ext.size
 go_wp2_with fail
 clear q0_0 q0_1 q0_2 q0_3 q0_4 l0_ q2_0 q2_1 q2_2 l2_ c_kr_0 c_kr_1 c_kr_2 c_kr_l
 refine (simplifyNetwork_any HR.out HN.out _ _ _ (hT0.ext hH.ext) (hO.ext hH.ext)).mono ?_; rintro ewn6 wn6 ⟨tvS, ovS, csS, us, rfl, hJ, hS, hSt, hNo⟩
 obtain ⟨mS, hmS⟩ : ∃ q, us.length = q := ⟨_, rfl⟩
 obtain ⟨aS, cS, hvb, _, _⟩ := (hJ.tensS (k := 0) rfl).val
 rw [List.length_map, hmS] at hvb
 subst hvb
 obtain ⟨aOS, cOS, rfl⟩ := (hJ.own (k := 1) rfl).shape1 op.length rfl
 have HMS := Lib.hid hmS
 have hmSm : mS ≤ m := by rw [← hmS, ← HM.out]; exact hS.len
 have HS := Lib.hid hS; have HST := Lib.hid hSt; have HNO := Lib.hid hNo
 clear hS hSt hNo hmS
 replace hH : Held wN wn6 [aB (wN.heap.size) 29 [.int .i64 k, .int .i64 p, .int .i64 n, .slice aV m cV, .slice aO op.length cO], aT (.agg #[.slice p1 n1 d1, .slice p2 n2 d2, .slice p3 n3 d3]) op (op.map dimOf) RX, aB (wn4.heap.size) 32 [.slice p1 n1 d1, .slice p2 n2 d2, .slice p3 n3 d3], aTs (.slice aS mS cS) csS (us.map (tenOf dimOf)), aI (.slice aOS op.length cOS) op] := hH.join hJ (fun q hq => by cases hq)
 clear hJ
 have HUV : Hid (RX = flat (netXs HR.out dimOf us op)) := Lib.hid (by rw [HS.out.val, HRX.out])
 have hgt : ¬ (m : Int) < (mS : Int) := by omega
 have hgtn : ¬ m < mS := by omega
 obtain ⟨q0_0, q0_1, q0_2, q0_3, q0_4, l0_⟩ := hH.c5 0 rfl; obtain ⟨q2_0, q2_1, q2_2, l2_⟩ := hH.c3 2 rfl; have c_kr_0 := hH.ext.cell kr_0; have c_kr_1 := hH.ext.cell kr_1; have c_kr_2 := hH.ext.cell kr_2
 have c_kr_l := Nat.lt_of_lt_of_le kr_l hH.ext.size
 go_upto_region 7 with fail
 clear q0_0 q0_1 q0_2 q0_3 q0_4 l0_ q2_0 q2_1 q2_2 l2_ c_kr_0 c_kr_1 c_kr_2 c_kr_l
 have hB : Held wN (wn6.alloc (.cells #[.int .i64 k, .int .i64 p, .int .i64 n, .slice aS mS cS, .slice aOS op.length cOS] 29)) [aB (wN.heap.size) 29 [.int .i64 k, .int .i64 p, .int .i64 n, .slice aV m cV, .slice aO op.length cO], aT (.agg #[.slice p1 n1 d1, .slice p2 n2 d2, .slice p3 n3 d3]) op (op.map dimOf) RX, aB (wn4.heap.size) 32 [.slice p1 n1 d1, .slice p2 n2 d2, .slice p3 n3 d3], aTs (.slice aS mS cS) csS (us.map (tenOf dimOf)), aI (.slice aOS op.length cOS) op, aB (wn6.heap.size) 29 [.int .i64 k, .int .i64 p, .int .i64 n, .slice aS mS cS, .slice aOS op.length cOS]] := by
  have h := (hH.mores 1).addB 5 #[.int .i64 k, .int .i64 p, .int .i64 n, .slice aS mS cS, .slice aOS op.length cOS] 29
  exact h
 have hsz : (wn6.alloc (.cells #[.int .i64 k, .int .i64 p, .int .i64 n, .slice aS mS cS, .slice aOS op.length cOS] 29)).heap.size = wn6.heap.size + 1 := by simp
 generalize wn6.alloc (.cells #[.int .i64 k, .int .i64 p, .int .i64 n, .slice aS mS cS, .slice aOS op.length cOS] 29) = wn7 at hB hsz ⊢
 replace hH := hB; have HSZwn7 := Lib.hid hsz; clear hB hsz
 obtain ⟨wb, rfl⟩ : ∃ q, q = wn7 := ⟨wn7, rfl⟩
 have hG1 := NetIf.no wb undef k p n ((dropU dimOf op ts).map (tenOf dimOf)) op
 have hG7 := NetIf.no wb undef k p n ((sumP HR.out dimOf ts op).map (tenOf dimOf)) op
 have hG27 := NetIf.no wb undef k p n (us.map (tenOf dimOf)) op
 have hG14 : AbsIf false wb undef k p n HR.out RX op := AbsIf.no _ _ _ _ _
 refine wp_region_steps ?Fr7 (fun b t wx => Held wN wx [aB (wN.heap.size) 29 [.int .i64 k, .int .i64 p, .int .i64 n, .slice aV m cV, .slice aO op.length cO], aT (.agg #[.slice p1 n1 d1, .slice p2 n2 d2, .slice p3 n3 d3]) op (op.map dimOf) RX, aB (wn4.heap.size) 32 [.slice p1 n1 d1, .slice p2 n2 d2, .slice p3 n3 d3], aTs (.slice aS mS cS) csS (us.map (tenOf dimOf)), aI (.slice aOS op.length cOS) op, aB (wn6.heap.size) 29 [.int .i64 k, .int .i64 p, .int .i64 n, .slice aS mS cS, .slice aOS op.length cOS]] ∧ NetIf (b 1) wx (bif b 1 then t 1 else undef) k p n ((dropU dimOf op ts).map (tenOf dimOf)) op ∧ NetIf (b 7) wx (bif b 7 then t 7 else undef) k p n ((sumP HR.out dimOf ts op).map (tenOf dimOf)) op ∧ NetIf (b 27) wx (bif b 27 then t 27 else undef) k p n (us.map (tenOf dimOf)) op ∧ AbsIf (b 14) wx (bif b 14 then t 14 else undef) k p n HR.out RX op ∧ (b 0 = true → t 0 = .agg #[.int .i64 k, .int .i64 p, .int .i64 n, .slice aV m cV, .slice aO op.length cO]) ∧ (b 1 = true → ∃ za zb, t 1 = .agg #[.int .i64 k, .int .i64 p, .int .i64 n, za, zb]) ∧ (b 2 = true → t 2 = .agg #[.slice p1 n1 d1, .slice p2 n2 d2, .slice p3 n3 d3]) ∧ (b 3 = true → t 3 = .bool true) ∧ (b 4 = true → t 4 = .bool false) ∧ (b 5 = true → t 5 = .bool false) ∧ (b 6 = true → t 6 = .agg #[.int .i64 k, .int .i64 p, .int .i64 n, .slice aV m cV, .slice aO op.length cO]) ∧ (b 7 = true → ∃ za zb, t 7 = .agg #[.int .i64 k, .int .i64 p, .int .i64 n, za, zb]) ∧ (b 8 = true → t 8 = .agg #[.slice p1 n1 d1, .slice p2 n2 d2, .slice p3 n3 d3]) ∧ (b 9 = true → t 9 = .bool true) ∧ (b 10 = true → t 10 = .bool false) ∧ (b 11 = true → t 11 = .bool false) ∧ (b 12 = true → t 12 = .bool false) ∧ (b 13 = true → t 13 = .agg #[.int .i64 k, .int .i64 p, .int .i64 n, .slice aV m cV, .slice aO op.length cO]) ∧ (b 14 = true → ∃ za zb, t 14 = .agg #[.int .i64 k, .int .i64 p, .int .i64 n, za, zb]) ∧ (b 15 = true → t 15 = .agg #[.slice p1 n1 d1, .slice p2 n2 d2, .slice p3 n3 d3]) ∧ (b 16 = true → t 16 = .bool true) ∧ (b 17 = true → t 17 = .bool false) ∧ (b 18 = true → t 18 = .bool false) ∧ (b 19 = true → t 19 = .bool false) ∧ (b 20 = true → t 20 = .agg #[.int .i64 k, .int .i64 p, .int .i64 n, .slice aS mS cS, .slice aOS op.length cOS]) ∧ (b 21 = true → t 21 = .agg #[.slice p1 n1 d1, .slice p2 n2 d2, .slice p3 n3 d3]) ∧ (b 22 = true → t 22 = .bool true) ∧ (b 23 = true → t 23 = .bool false) ∧ (b 24 = true → t 24 = .bool false) ∧ (b 25 = true → t 25 = .bool false) ∧ (b 26 = true → t 26 = .agg #[.int .i64 k, .int .i64 p, .int .i64 n, .slice aS mS cS, .slice aOS op.length cOS]) ∧ (b 27 = true → ∃ za zb, t 27 = .agg #[.int .i64 k, .int .i64 p, .int .i64 n, za, zb]) ∧ (b 28 = true → t 28 = .agg #[.int .i64 k, .int .i64 p, .int .i64 n, .slice aS mS cS, .slice aOS op.length cOS]) ∧ (b 29 = true → t 29 = .bool true) ∧ (b 30 = true → t 30 = .bool false) ∧ (b 31 = true → t 31 = .bool false) ∧ (b 32 = true → t 32 = .bool false) ∧ (b 33 = true → t 33 = .pointer (some ⟨wn6.heap.size, 3, none⟩)) ∧ (b 34 = true → t 34 = .slice aS mS cS) ∧ (b 35 = true → t 35 = .int .i64 (mS : Int)) ∧ (b 36 = true → t 36 = .pointer (some ⟨wN.heap.size, 3, none⟩)) ∧ (b 37 = true → t 37 = .slice aV m cV) ∧ (b 38 = true → t 38 = .int .i64 (m : Int)) ∧ (b 39 = true → t 39 = .bool false) ∧ (b 40 = true → t 40 = .bool false)) ?hFr7 (by kernel_rfl) (by kernel_rfl) ?hJr7 ?hSr7 ?hEr7
 (case hFr7 => intro t; simp only [putAll, Act.put, List.setIfInBounds_toArray, List.set_cons_zero, List.set_cons_succ, Nat.reduceAdd, Nat.zero_add]; exact rfl)
 case hJr7 => exact ⟨hH.grow ((Ext.refl _).drew), hG1.ext ((Ext.refl _).drew), hG7.ext ((Ext.refl _).drew), hG27.ext ((Ext.refl _).drew), hG14.ext ((Ext.refl _).drew), nof, nof, nof, nof, nof, nof, nof, nof, nof, nof, nof, nof, nof, nof, nof, nof, nof, nof, nof, nof, nof, nof, nof, nof, nof, nof, nof, nof, nof, nof, nof, nof, nof, nof, nof, nof, nof, nof, nof, nof, nof⟩
 case hSr7 => as_aux_lemma =>
   refine AllSteps.cons (j := 1) rfl (fun b t wx hJ hb hd hcl Kc hK => ?_) ?_
   · obtain ⟨hH, hG1, hG7, hG27, hG14, v0, v1, v2, v3, v4, v5, v6, v7, v8, v9, v10, v11, v12, v13, v14, v15, v16, v17, v18, v19, v20, v21, v22, v23, v24, v25, v26, v27, v28, v29, v30, v31, v32, v33, v34, v35, v36, v37, v38, v39, v40⟩ := hJ
     have c_kr_0 := hH.ext.cell kr_0; have c_kr_1 := hH.ext.cell kr_1; have c_kr_2 := hH.ext.cell kr_2; have q0_0 := hH.cl 0 0 rfl rfl; have q0_1 := hH.cl 0 1 rfl rfl; have q0_2 := hH.cl 0 2 rfl rfl; have q0_3 := hH.cl 0 3 rfl rfl; have q0_4 := hH.cl 0 4 rfl rfl
     go_simp
     refine hK.out _ ?_ _ ?_ ?_; rotate_left 2
     · rfl
     exact ⟨hH, hG1, hG7, hG27, hG14, fun _ => rfl, v1, v2, v3, v4, v5, v6, v7, v8, v9, v10, v11, v12, v13, v14, v15, v16, v17, v18, v19, v20, v21, v22, v23, v24, v25, v26, v27, v28, v29, v30, v31, v32, v33, v34, v35, v36, v37, v38, v39, v40⟩
   refine AllSteps.cons (j := 2) rfl (fun b t wx hJ hb hd hcl Kc hK => ?_) ?_
   · obtain ⟨hH, hG1, hG7, hG27, hG14, v0, v1, v2, v3, v4, v5, v6, v7, v8, v9, v10, v11, v12, v13, v14, v15, v16, v17, v18, v19, v20, v21, v22, v23, v24, v25, v26, v27, v28, v29, v30, v31, v32, v33, v34, v35, v36, v37, v38, v39, v40⟩ := hJ
     have d0 := hd.out 0 (by kernel_rfl); have r0 := v0 d0
     go_simp
     go_at_call 59
     refine (dropUnits_any HR.out HN.out _ _ _ (hT0.ext hH.ext) (hO.ext hH.ext)).mono ?_; rintro e1 w1 ⟨y1, z1, g1, rfl, hJ1⟩
     have hE1 := hJ1.ext
     (try go_simp)
     refine hK.out _ ?_ _ ?_ ?_; rotate_left 2
     · (try simp only [r0]); rfl
     exact ⟨by have hX := hH.grow hE1; simpa only [List.set_cons_zero, List.set_cons_succ, updB, updV, blkOf_mk, tup0_mk, partsOf3, Nat.reduceBEq, cond_true, cond_false, hb, d0, r0] using hX, (fun _ => ⟨y1, z1, rfl, hJ1.tensS (k := 0) rfl, hJ1.ints (k := 1) rfl⟩), hG7.ext hE1, hG27.ext hE1, hG14.ext hE1, v0, fun _ => ⟨_, _, rfl⟩, v2, v3, v4, v5, v6, v7, v8, v9, v10, v11, v12, v13, v14, v15, v16, v17, v18, v19, v20, v21, v22, v23, v24, v25, v26, v27, v28, v29, v30, v31, v32, v33, v34, v35, v36, v37, v38, v39, v40⟩
   refine AllSteps.cons (j := 3) rfl (fun b t wx hJ hb hd hcl Kc hK => ?_) ?_
   · obtain ⟨hH, hG1, hG7, hG27, hG14, v0, v1, v2, v3, v4, v5, v6, v7, v8, v9, v10, v11, v12, v13, v14, v15, v16, v17, v18, v19, v20, v21, v22, v23, v24, v25, v26, v27, v28, v29, v30, v31, v32, v33, v34, v35, v36, v37, v38, v39, v40⟩ := hJ
     have c_kr_0 := hH.ext.cell kr_0; have c_kr_1 := hH.ext.cell kr_1; have c_kr_2 := hH.ext.cell kr_2; have q2_0 := hH.cl 2 0 rfl rfl; have q2_1 := hH.cl 2 1 rfl rfl; have q2_2 := hH.cl 2 2 rfl rfl
     go_simp
     refine hK.out _ ?_ _ ?_ ?_; rotate_left 2
     · rfl
     exact ⟨hH, hG1, hG7, hG27, hG14, v0, v1, fun _ => rfl, v3, v4, v5, v6, v7, v8, v9, v10, v11, v12, v13, v14, v15, v16, v17, v18, v19, v20, v21, v22, v23, v24, v25, v26, v27, v28, v29, v30, v31, v32, v33, v34, v35, v36, v37, v38, v39, v40⟩
   refine AllSteps.cons (j := 4) rfl (fun b t wx hJ hb hd hcl Kc hK => ?_) ?_
   · obtain ⟨hH, hG1, hG7, hG27, hG14, v0, v1, v2, v3, v4, v5, v6, v7, v8, v9, v10, v11, v12, v13, v14, v15, v16, v17, v18, v19, v20, v21, v22, v23, v24, v25, v26, v27, v28, v29, v30, v31, v32, v33, v34, v35, v36, v37, v38, v39, v40⟩ := hJ
     have d1 := hd.out 1 (by kernel_rfl); have d2 := hd.out 2 (by kernel_rfl); have r1 := v1 d1; have r2 := v2 d2
     obtain ⟨za_1, zb_1, r1⟩ := r1
     go_simp
     go_at_call 49
     refine (gives_any HR.out HDN.out _ _ _ (hG1.at d1 r1).1 (hG1.at d1 r1).2 _ _ (hH.tens (k := 1) rfl) HDV.out).mono ?_; rintro e3 w3 ⟨rfl, hE3⟩
     (try go_simp)
     refine hK.out _ ?_ _ ?_ ?_; rotate_left 2
     · (try simp only [r1, r2]); rfl
     exact ⟨by have hX := hH.grow hE3; simpa only [List.set_cons_zero, List.set_cons_succ, updB, updV, blkOf_mk, tup0_mk, partsOf3, Nat.reduceBEq, cond_true, cond_false, hb, d1, d2, r1, r2] using hX, hG1.ext hE3, hG7.ext hE3, hG27.ext hE3, hG14.ext hE3, v0, v1, v2, fun _ => rfl, v4, v5, v6, v7, v8, v9, v10, v11, v12, v13, v14, v15, v16, v17, v18, v19, v20, v21, v22, v23, v24, v25, v26, v27, v28, v29, v30, v31, v32, v33, v34, v35, v36, v37, v38, v39, v40⟩
   refine AllSteps.cons (j := 5) rfl (fun b t wx hJ hb hd hcl Kc hK => ?_) ?_
   · obtain ⟨hH, hG1, hG7, hG27, hG14, v0, v1, v2, v3, v4, v5, v6, v7, v8, v9, v10, v11, v12, v13, v14, v15, v16, v17, v18, v19, v20, v21, v22, v23, v24, v25, v26, v27, v28, v29, v30, v31, v32, v33, v34, v35, v36, v37, v38, v39, v40⟩ := hJ
     have d3 := hd.out 3 (by kernel_rfl); have r3 := v3 d3; have c_kr_0 := hH.ext.cell kr_0; have c_kr_1 := hH.ext.cell kr_1; have c_kr_2 := hH.ext.cell kr_2
     go_simp
     refine hK.out _ ?_ _ ?_ ?_; rotate_left 2
     · (try simp only [r3]); rfl
     exact ⟨hH, hG1, hG7, hG27, hG14, v0, v1, v2, v3, fun _ => rfl, v5, v6, v7, v8, v9, v10, v11, v12, v13, v14, v15, v16, v17, v18, v19, v20, v21, v22, v23, v24, v25, v26, v27, v28, v29, v30, v31, v32, v33, v34, v35, v36, v37, v38, v39, v40⟩
   refine AllSteps.cons (j := 6) rfl (fun b t wx hJ hb hd hcl Kc hK => ?_) ?_
   · obtain ⟨hH, hG1, hG7, hG27, hG14, v0, v1, v2, v3, v4, v5, v6, v7, v8, v9, v10, v11, v12, v13, v14, v15, v16, v17, v18, v19, v20, v21, v22, v23, v24, v25, v26, v27, v28, v29, v30, v31, v32, v33, v34, v35, v36, v37, v38, v39, v40⟩ := hJ
     have d3 := hd.out 3 (by kernel_rfl); have d4 := hd.out 4 (by kernel_rfl); have r3 := v3 d3; have r4 := v4 d4; have c_kr_0 := hH.ext.cell kr_0; have c_kr_1 := hH.ext.cell kr_1; have c_kr_2 := hH.ext.cell kr_2
     go_simp
     refine hK.out _ ?_ _ ?_ ?_; rotate_left 2
     · (try simp only [r3, r4]); rfl
     exact ⟨hH, hG1, hG7, hG27, hG14, v0, v1, v2, v3, v4, fun _ => rfl, v6, v7, v8, v9, v10, v11, v12, v13, v14, v15, v16, v17, v18, v19, v20, v21, v22, v23, v24, v25, v26, v27, v28, v29, v30, v31, v32, v33, v34, v35, v36, v37, v38, v39, v40⟩
   refine AllSteps.cons (j := 7) rfl (fun b t wx hJ hb hd hcl Kc hK => ?_) ?_
   · obtain ⟨hH, hG1, hG7, hG27, hG14, v0, v1, v2, v3, v4, v5, v6, v7, v8, v9, v10, v11, v12, v13, v14, v15, v16, v17, v18, v19, v20, v21, v22, v23, v24, v25, v26, v27, v28, v29, v30, v31, v32, v33, v34, v35, v36, v37, v38, v39, v40⟩ := hJ
     have d5 := hd.out 5 (by kernel_rfl); have r5 := v5 d5; have c_kr_0 := hH.ext.cell kr_0; have c_kr_1 := hH.ext.cell kr_1; have c_kr_2 := hH.ext.cell kr_2; have q0_0 := hH.cl 0 0 rfl rfl; have q0_1 := hH.cl 0 1 rfl rfl; have q0_2 := hH.cl 0 2 rfl rfl; have q0_3 := hH.cl 0 3 rfl rfl; have q0_4 := hH.cl 0 4 rfl rfl
     go_simp
     refine hK.out _ ?_ _ ?_ ?_; rotate_left 2
     · (try simp only [r5]); rfl
     exact ⟨hH, hG1, hG7, hG27, hG14, v0, v1, v2, v3, v4, v5, fun _ => rfl, v7, v8, v9, v10, v11, v12, v13, v14, v15, v16, v17, v18, v19, v20, v21, v22, v23, v24, v25, v26, v27, v28, v29, v30, v31, v32, v33, v34, v35, v36, v37, v38, v39, v40⟩
   refine AllSteps.cons (j := 8) rfl (fun b t wx hJ hb hd hcl Kc hK => ?_) ?_
   · obtain ⟨hH, hG1, hG7, hG27, hG14, v0, v1, v2, v3, v4, v5, v6, v7, v8, v9, v10, v11, v12, v13, v14, v15, v16, v17, v18, v19, v20, v21, v22, v23, v24, v25, v26, v27, v28, v29, v30, v31, v32, v33, v34, v35, v36, v37, v38, v39, v40⟩ := hJ
     have d5 := hd.out 5 (by kernel_rfl); have d6 := hd.out 6 (by kernel_rfl); have r5 := v5 d5; have r6 := v6 d6
     go_simp
     go_at_call 60
     refine (sumPrivate_any HR.out HN.out _ _ _ (hT0.ext hH.ext) (hO.ext hH.ext)).mono ?_; rintro e7 w7 ⟨y7, z7, g7, rfl, hJ7⟩
     have hE7 := hJ7.ext
     (try go_simp)
     refine hK.out _ ?_ _ ?_ ?_; rotate_left 2
     · (try simp only [r5, r6]); rfl
     exact ⟨by have hX := hH.grow hE7; simpa only [List.set_cons_zero, List.set_cons_succ, updB, updV, blkOf_mk, tup0_mk, partsOf3, Nat.reduceBEq, cond_true, cond_false, hb, d5, d6, r5, r6] using hX, hG1.ext hE7, (fun _ => ⟨y7, z7, rfl, hJ7.tensS (k := 0) rfl, hJ7.ints (k := 1) rfl⟩), hG27.ext hE7, hG14.ext hE7, v0, v1, v2, v3, v4, v5, v6, fun _ => ⟨_, _, rfl⟩, v8, v9, v10, v11, v12, v13, v14, v15, v16, v17, v18, v19, v20, v21, v22, v23, v24, v25, v26, v27, v28, v29, v30, v31, v32, v33, v34, v35, v36, v37, v38, v39, v40⟩
   refine AllSteps.cons (j := 9) rfl (fun b t wx hJ hb hd hcl Kc hK => ?_) ?_
   · obtain ⟨hH, hG1, hG7, hG27, hG14, v0, v1, v2, v3, v4, v5, v6, v7, v8, v9, v10, v11, v12, v13, v14, v15, v16, v17, v18, v19, v20, v21, v22, v23, v24, v25, v26, v27, v28, v29, v30, v31, v32, v33, v34, v35, v36, v37, v38, v39, v40⟩ := hJ
     have d5 := hd.out 5 (by kernel_rfl); have r5 := v5 d5; have c_kr_0 := hH.ext.cell kr_0; have c_kr_1 := hH.ext.cell kr_1; have c_kr_2 := hH.ext.cell kr_2; have q2_0 := hH.cl 2 0 rfl rfl; have q2_1 := hH.cl 2 1 rfl rfl; have q2_2 := hH.cl 2 2 rfl rfl
     go_simp
     refine hK.out _ ?_ _ ?_ ?_; rotate_left 2
     · (try simp only [r5]); rfl
     exact ⟨hH, hG1, hG7, hG27, hG14, v0, v1, v2, v3, v4, v5, v6, v7, fun _ => rfl, v9, v10, v11, v12, v13, v14, v15, v16, v17, v18, v19, v20, v21, v22, v23, v24, v25, v26, v27, v28, v29, v30, v31, v32, v33, v34, v35, v36, v37, v38, v39, v40⟩
   refine AllSteps.cons (j := 10) rfl (fun b t wx hJ hb hd hcl Kc hK => ?_) ?_
   · obtain ⟨hH, hG1, hG7, hG27, hG14, v0, v1, v2, v3, v4, v5, v6, v7, v8, v9, v10, v11, v12, v13, v14, v15, v16, v17, v18, v19, v20, v21, v22, v23, v24, v25, v26, v27, v28, v29, v30, v31, v32, v33, v34, v35, v36, v37, v38, v39, v40⟩ := hJ
     have d5 := hd.out 5 (by kernel_rfl); have d7 := hd.out 7 (by kernel_rfl); have d8 := hd.out 8 (by kernel_rfl); have r5 := v5 d5; have r7 := v7 d7; have r8 := v8 d8
     obtain ⟨za_7, zb_7, r7⟩ := r7
     go_simp
     go_at_call 49
     refine (gives_any HR.out HPN.out _ _ _ (hG7.at d7 r7).1 (hG7.at d7 r7).2 _ _ (hH.tens (k := 1) rfl) HPV.out).mono ?_; rintro e9 w9 ⟨rfl, hE9⟩
     (try go_simp)
     refine hK.out _ ?_ _ ?_ ?_; rotate_left 2
     · (try simp only [r5, r7, r8]); rfl
     exact ⟨by have hX := hH.grow hE9; simpa only [List.set_cons_zero, List.set_cons_succ, updB, updV, blkOf_mk, tup0_mk, partsOf3, Nat.reduceBEq, cond_true, cond_false, hb, d5, d7, d8, r5, r7, r8] using hX, hG1.ext hE9, hG7.ext hE9, hG27.ext hE9, hG14.ext hE9, v0, v1, v2, v3, v4, v5, v6, v7, v8, fun _ => rfl, v10, v11, v12, v13, v14, v15, v16, v17, v18, v19, v20, v21, v22, v23, v24, v25, v26, v27, v28, v29, v30, v31, v32, v33, v34, v35, v36, v37, v38, v39, v40⟩
   refine AllSteps.cons (j := 11) rfl (fun b t wx hJ hb hd hcl Kc hK => ?_) ?_
   · obtain ⟨hH, hG1, hG7, hG27, hG14, v0, v1, v2, v3, v4, v5, v6, v7, v8, v9, v10, v11, v12, v13, v14, v15, v16, v17, v18, v19, v20, v21, v22, v23, v24, v25, v26, v27, v28, v29, v30, v31, v32, v33, v34, v35, v36, v37, v38, v39, v40⟩ := hJ
     have d5 := hd.out 5 (by kernel_rfl); have d9 := hd.out 9 (by kernel_rfl); have r5 := v5 d5; have r9 := v9 d9; have c_kr_0 := hH.ext.cell kr_0; have c_kr_1 := hH.ext.cell kr_1; have c_kr_2 := hH.ext.cell kr_2
     go_simp
     refine hK.out _ ?_ _ ?_ ?_; rotate_left 2
     · (try simp only [r5, r9]); rfl
     exact ⟨hH, hG1, hG7, hG27, hG14, v0, v1, v2, v3, v4, v5, v6, v7, v8, v9, fun _ => rfl, v11, v12, v13, v14, v15, v16, v17, v18, v19, v20, v21, v22, v23, v24, v25, v26, v27, v28, v29, v30, v31, v32, v33, v34, v35, v36, v37, v38, v39, v40⟩
   refine AllSteps.cons (j := 12) rfl (fun b t wx hJ hb hd hcl Kc hK => ?_) ?_
   · obtain ⟨hH, hG1, hG7, hG27, hG14, v0, v1, v2, v3, v4, v5, v6, v7, v8, v9, v10, v11, v12, v13, v14, v15, v16, v17, v18, v19, v20, v21, v22, v23, v24, v25, v26, v27, v28, v29, v30, v31, v32, v33, v34, v35, v36, v37, v38, v39, v40⟩ := hJ
     have d5 := hd.out 5 (by kernel_rfl); have d10 := hd.out 10 (by kernel_rfl); have r5 := v5 d5; have r10 := v10 d10; have c_kr_0 := hH.ext.cell kr_0; have c_kr_1 := hH.ext.cell kr_1; have c_kr_2 := hH.ext.cell kr_2
     go_simp
     refine hK.out _ ?_ _ ?_ ?_; rotate_left 2
     · (try simp only [r5, r10]); rfl
     exact ⟨hH, hG1, hG7, hG27, hG14, v0, v1, v2, v3, v4, v5, v6, v7, v8, v9, v10, fun _ => rfl, v12, v13, v14, v15, v16, v17, v18, v19, v20, v21, v22, v23, v24, v25, v26, v27, v28, v29, v30, v31, v32, v33, v34, v35, v36, v37, v38, v39, v40⟩
   refine AllSteps.cons (j := 13) rfl (fun b t wx hJ hb hd hcl Kc hK => ?_) ?_
   · obtain ⟨hH, hG1, hG7, hG27, hG14, v0, v1, v2, v3, v4, v5, v6, v7, v8, v9, v10, v11, v12, v13, v14, v15, v16, v17, v18, v19, v20, v21, v22, v23, v24, v25, v26, v27, v28, v29, v30, v31, v32, v33, v34, v35, v36, v37, v38, v39, v40⟩ := hJ
     have d9 := hd.out 9 (by kernel_rfl); have d11 := hd.out 11 (by kernel_rfl); have r9 := v9 d9; have r11 := v11 d11; have c_kr_0 := hH.ext.cell kr_0; have c_kr_1 := hH.ext.cell kr_1; have c_kr_2 := hH.ext.cell kr_2
     go_simp
     refine hK.out _ ?_ _ ?_ ?_; rotate_left 2
     · (try simp only [r9, r11]); rfl
     exact ⟨hH, hG1, hG7, hG27, hG14, v0, v1, v2, v3, v4, v5, v6, v7, v8, v9, v10, v11, fun _ => rfl, v13, v14, v15, v16, v17, v18, v19, v20, v21, v22, v23, v24, v25, v26, v27, v28, v29, v30, v31, v32, v33, v34, v35, v36, v37, v38, v39, v40⟩
   refine AllSteps.cons (j := 14) rfl (fun b t wx hJ hb hd hcl Kc hK => ?_) ?_
   · obtain ⟨hH, hG1, hG7, hG27, hG14, v0, v1, v2, v3, v4, v5, v6, v7, v8, v9, v10, v11, v12, v13, v14, v15, v16, v17, v18, v19, v20, v21, v22, v23, v24, v25, v26, v27, v28, v29, v30, v31, v32, v33, v34, v35, v36, v37, v38, v39, v40⟩ := hJ
     have d12 := hd.out 12 (by kernel_rfl); have r12 := v12 d12; have c_kr_0 := hH.ext.cell kr_0; have c_kr_1 := hH.ext.cell kr_1; have c_kr_2 := hH.ext.cell kr_2; have q0_0 := hH.cl 0 0 rfl rfl; have q0_1 := hH.cl 0 1 rfl rfl; have q0_2 := hH.cl 0 2 rfl rfl; have q0_3 := hH.cl 0 3 rfl rfl; have q0_4 := hH.cl 0 4 rfl rfl
     go_simp
     refine hK.out _ ?_ _ ?_ ?_; rotate_left 2
     · (try simp only [r12]); rfl
     exact ⟨hH, hG1, hG7, hG27, hG14, v0, v1, v2, v3, v4, v5, v6, v7, v8, v9, v10, v11, v12, fun _ => rfl, v14, v15, v16, v17, v18, v19, v20, v21, v22, v23, v24, v25, v26, v27, v28, v29, v30, v31, v32, v33, v34, v35, v36, v37, v38, v39, v40⟩
   refine AllSteps.cons (j := 15) rfl (fun b t wx hJ hb hd hcl Kc hK => ?_) ?_
   · obtain ⟨hH, hG1, hG7, hG27, hG14, v0, v1, v2, v3, v4, v5, v6, v7, v8, v9, v10, v11, v12, v13, v14, v15, v16, v17, v18, v19, v20, v21, v22, v23, v24, v25, v26, v27, v28, v29, v30, v31, v32, v33, v34, v35, v36, v37, v38, v39, v40⟩ := hJ
     have d12 := hd.out 12 (by kernel_rfl); have d13 := hd.out 13 (by kernel_rfl); have r12 := v12 d12; have r13 := v13 d13
     go_simp
     go_at_call 61
     refine (absorbTensors_any HR.out HN.out _ _ _ (hT0.ext hH.ext) (hO.ext hH.ext)).mono ?_; rintro e14 w14 ⟨y14, z14, g14, an, rfl, hJ14, hAT, hNP⟩
     have hE14 := hJ14.ext
     (try go_simp)
     refine hK.out _ ?_ _ ?_ ?_; rotate_left 2
     · (try simp only [r12, r13]); rfl
     exact ⟨by have hX := hH.grow hE14; simpa only [List.set_cons_zero, List.set_cons_succ, updB, updV, blkOf_mk, tup0_mk, partsOf3, Nat.reduceBEq, cond_true, cond_false, hb, d12, d13, r12, r13] using hX, hG1.ext hE14, hG7.ext hE14, hG27.ext hE14, (fun _ => ⟨an, y14, z14, rfl, hJ14.tensS (k := 0) rfl, hJ14.ints (k := 1) rfl, hAT.isN, by rw [hAT.val, HRX.out]⟩), v0, v1, v2, v3, v4, v5, v6, v7, v8, v9, v10, v11, v12, v13, fun _ => ⟨_, _, rfl⟩, v15, v16, v17, v18, v19, v20, v21, v22, v23, v24, v25, v26, v27, v28, v29, v30, v31, v32, v33, v34, v35, v36, v37, v38, v39, v40⟩
   refine AllSteps.cons (j := 16) rfl (fun b t wx hJ hb hd hcl Kc hK => ?_) ?_
   · obtain ⟨hH, hG1, hG7, hG27, hG14, v0, v1, v2, v3, v4, v5, v6, v7, v8, v9, v10, v11, v12, v13, v14, v15, v16, v17, v18, v19, v20, v21, v22, v23, v24, v25, v26, v27, v28, v29, v30, v31, v32, v33, v34, v35, v36, v37, v38, v39, v40⟩ := hJ
     have d12 := hd.out 12 (by kernel_rfl); have r12 := v12 d12; have c_kr_0 := hH.ext.cell kr_0; have c_kr_1 := hH.ext.cell kr_1; have c_kr_2 := hH.ext.cell kr_2; have q2_0 := hH.cl 2 0 rfl rfl; have q2_1 := hH.cl 2 1 rfl rfl; have q2_2 := hH.cl 2 2 rfl rfl
     go_simp
     refine hK.out _ ?_ _ ?_ ?_; rotate_left 2
     · (try simp only [r12]); rfl
     exact ⟨hH, hG1, hG7, hG27, hG14, v0, v1, v2, v3, v4, v5, v6, v7, v8, v9, v10, v11, v12, v13, v14, fun _ => rfl, v16, v17, v18, v19, v20, v21, v22, v23, v24, v25, v26, v27, v28, v29, v30, v31, v32, v33, v34, v35, v36, v37, v38, v39, v40⟩
   refine AllSteps.cons (j := 17) rfl (fun b t wx hJ hb hd hcl Kc hK => ?_) ?_
   · obtain ⟨hH, hG1, hG7, hG27, hG14, v0, v1, v2, v3, v4, v5, v6, v7, v8, v9, v10, v11, v12, v13, v14, v15, v16, v17, v18, v19, v20, v21, v22, v23, v24, v25, v26, v27, v28, v29, v30, v31, v32, v33, v34, v35, v36, v37, v38, v39, v40⟩ := hJ
     have d12 := hd.out 12 (by kernel_rfl); have d14 := hd.out 14 (by kernel_rfl); have d15 := hd.out 15 (by kernel_rfl); have r12 := v12 d12; have r14 := v14 d14; have r15 := v15 d15
     obtain ⟨za_14, zb_14, r14⟩ := r14
     obtain ⟨an, hq1, hq2, hq3, hq4⟩ := hG14.at d14 r14
     go_simp
     go_at_call 49
     refine (gives_any HR.out hq3 _ _ _ hq1 hq2 _ _ (hH.tens (k := 1) rfl) hq4).mono ?_; rintro e16 w16 ⟨rfl, hE16⟩
     (try go_simp)
     refine hK.out _ ?_ _ ?_ ?_; rotate_left 2
     · (try simp only [r12, r14, r15]); rfl
     exact ⟨by have hX := hH.grow hE16; simpa only [List.set_cons_zero, List.set_cons_succ, updB, updV, blkOf_mk, tup0_mk, partsOf3, Nat.reduceBEq, cond_true, cond_false, hb, d12, d14, d15, r12, r14, r15] using hX, hG1.ext hE16, hG7.ext hE16, hG27.ext hE16, hG14.ext hE16, v0, v1, v2, v3, v4, v5, v6, v7, v8, v9, v10, v11, v12, v13, v14, v15, fun _ => rfl, v17, v18, v19, v20, v21, v22, v23, v24, v25, v26, v27, v28, v29, v30, v31, v32, v33, v34, v35, v36, v37, v38, v39, v40⟩
   refine AllSteps.cons (j := 18) rfl (fun b t wx hJ hb hd hcl Kc hK => ?_) ?_
   · obtain ⟨hH, hG1, hG7, hG27, hG14, v0, v1, v2, v3, v4, v5, v6, v7, v8, v9, v10, v11, v12, v13, v14, v15, v16, v17, v18, v19, v20, v21, v22, v23, v24, v25, v26, v27, v28, v29, v30, v31, v32, v33, v34, v35, v36, v37, v38, v39, v40⟩ := hJ
     have d12 := hd.out 12 (by kernel_rfl); have d16 := hd.out 16 (by kernel_rfl); have r12 := v12 d12; have r16 := v16 d16; have c_kr_0 := hH.ext.cell kr_0; have c_kr_1 := hH.ext.cell kr_1; have c_kr_2 := hH.ext.cell kr_2
     go_simp
     refine hK.out _ ?_ _ ?_ ?_; rotate_left 2
     · (try simp only [r12, r16]); rfl
     exact ⟨hH, hG1, hG7, hG27, hG14, v0, v1, v2, v3, v4, v5, v6, v7, v8, v9, v10, v11, v12, v13, v14, v15, v16, fun _ => rfl, v18, v19, v20, v21, v22, v23, v24, v25, v26, v27, v28, v29, v30, v31, v32, v33, v34, v35, v36, v37, v38, v39, v40⟩
   refine AllSteps.cons (j := 19) rfl (fun b t wx hJ hb hd hcl Kc hK => ?_) ?_
   · obtain ⟨hH, hG1, hG7, hG27, hG14, v0, v1, v2, v3, v4, v5, v6, v7, v8, v9, v10, v11, v12, v13, v14, v15, v16, v17, v18, v19, v20, v21, v22, v23, v24, v25, v26, v27, v28, v29, v30, v31, v32, v33, v34, v35, v36, v37, v38, v39, v40⟩ := hJ
     have d12 := hd.out 12 (by kernel_rfl); have d17 := hd.out 17 (by kernel_rfl); have r12 := v12 d12; have r17 := v17 d17; have c_kr_0 := hH.ext.cell kr_0; have c_kr_1 := hH.ext.cell kr_1; have c_kr_2 := hH.ext.cell kr_2
     go_simp
     refine hK.out _ ?_ _ ?_ ?_; rotate_left 2
     · (try simp only [r12, r17]); rfl
     exact ⟨hH, hG1, hG7, hG27, hG14, v0, v1, v2, v3, v4, v5, v6, v7, v8, v9, v10, v11, v12, v13, v14, v15, v16, v17, fun _ => rfl, v19, v20, v21, v22, v23, v24, v25, v26, v27, v28, v29, v30, v31, v32, v33, v34, v35, v36, v37, v38, v39, v40⟩
   refine AllSteps.cons (j := 20) rfl (fun b t wx hJ hb hd hcl Kc hK => ?_) ?_
   · obtain ⟨hH, hG1, hG7, hG27, hG14, v0, v1, v2, v3, v4, v5, v6, v7, v8, v9, v10, v11, v12, v13, v14, v15, v16, v17, v18, v19, v20, v21, v22, v23, v24, v25, v26, v27, v28, v29, v30, v31, v32, v33, v34, v35, v36, v37, v38, v39, v40⟩ := hJ
     have d16 := hd.out 16 (by kernel_rfl); have d18 := hd.out 18 (by kernel_rfl); have r16 := v16 d16; have r18 := v18 d18; have c_kr_0 := hH.ext.cell kr_0; have c_kr_1 := hH.ext.cell kr_1; have c_kr_2 := hH.ext.cell kr_2
     go_simp
     refine hK.out _ ?_ _ ?_ ?_; rotate_left 2
     · (try simp only [r16, r18]); rfl
     exact ⟨hH, hG1, hG7, hG27, hG14, v0, v1, v2, v3, v4, v5, v6, v7, v8, v9, v10, v11, v12, v13, v14, v15, v16, v17, v18, fun _ => rfl, v20, v21, v22, v23, v24, v25, v26, v27, v28, v29, v30, v31, v32, v33, v34, v35, v36, v37, v38, v39, v40⟩
   refine AllSteps.cons (j := 21) rfl (fun b t wx hJ hb hd hcl Kc hK => ?_) ?_
   · obtain ⟨hH, hG1, hG7, hG27, hG14, v0, v1, v2, v3, v4, v5, v6, v7, v8, v9, v10, v11, v12, v13, v14, v15, v16, v17, v18, v19, v20, v21, v22, v23, v24, v25, v26, v27, v28, v29, v30, v31, v32, v33, v34, v35, v36, v37, v38, v39, v40⟩ := hJ
     have d19 := hd.out 19 (by kernel_rfl); have r19 := v19 d19; have c_kr_0 := hH.ext.cell kr_0; have c_kr_1 := hH.ext.cell kr_1; have c_kr_2 := hH.ext.cell kr_2; have q5_0 := hH.cl 5 0 rfl rfl; have q5_1 := hH.cl 5 1 rfl rfl; have q5_2 := hH.cl 5 2 rfl rfl; have q5_3 := hH.cl 5 3 rfl rfl; have q5_4 := hH.cl 5 4 rfl rfl
     go_simp
     refine hK.out _ ?_ _ ?_ ?_; rotate_left 2
     · (try simp only [r19]); rfl
     exact ⟨hH, hG1, hG7, hG27, hG14, v0, v1, v2, v3, v4, v5, v6, v7, v8, v9, v10, v11, v12, v13, v14, v15, v16, v17, v18, v19, fun _ => rfl, v21, v22, v23, v24, v25, v26, v27, v28, v29, v30, v31, v32, v33, v34, v35, v36, v37, v38, v39, v40⟩
   refine AllSteps.cons (j := 22) rfl (fun b t wx hJ hb hd hcl Kc hK => ?_) ?_
   · obtain ⟨hH, hG1, hG7, hG27, hG14, v0, v1, v2, v3, v4, v5, v6, v7, v8, v9, v10, v11, v12, v13, v14, v15, v16, v17, v18, v19, v20, v21, v22, v23, v24, v25, v26, v27, v28, v29, v30, v31, v32, v33, v34, v35, v36, v37, v38, v39, v40⟩ := hJ
     have d19 := hd.out 19 (by kernel_rfl); have r19 := v19 d19; have c_kr_0 := hH.ext.cell kr_0; have c_kr_1 := hH.ext.cell kr_1; have c_kr_2 := hH.ext.cell kr_2; have q2_0 := hH.cl 2 0 rfl rfl; have q2_1 := hH.cl 2 1 rfl rfl; have q2_2 := hH.cl 2 2 rfl rfl
     go_simp
     refine hK.out _ ?_ _ ?_ ?_; rotate_left 2
     · (try simp only [r19]); rfl
     exact ⟨hH, hG1, hG7, hG27, hG14, v0, v1, v2, v3, v4, v5, v6, v7, v8, v9, v10, v11, v12, v13, v14, v15, v16, v17, v18, v19, v20, fun _ => rfl, v22, v23, v24, v25, v26, v27, v28, v29, v30, v31, v32, v33, v34, v35, v36, v37, v38, v39, v40⟩
   refine AllSteps.cons (j := 23) rfl (fun b t wx hJ hb hd hcl Kc hK => ?_) ?_
   · obtain ⟨hH, hG1, hG7, hG27, hG14, v0, v1, v2, v3, v4, v5, v6, v7, v8, v9, v10, v11, v12, v13, v14, v15, v16, v17, v18, v19, v20, v21, v22, v23, v24, v25, v26, v27, v28, v29, v30, v31, v32, v33, v34, v35, v36, v37, v38, v39, v40⟩ := hJ
     have d19 := hd.out 19 (by kernel_rfl); have d20 := hd.out 20 (by kernel_rfl); have d21 := hd.out 21 (by kernel_rfl); have r19 := v19 d19; have r20 := v20 d20; have r21 := v21 d21
     go_simp
     go_at_call 49
     refine (gives_any HR.out HS.out.isN _ _ _ (hH.tensS (k := 3) rfl) (hH.ints (k := 4) rfl) _ _ (hH.tens (k := 1) rfl) HUV.out).mono ?_; rintro e22 w22 ⟨rfl, hE22⟩
     (try go_simp)
     refine hK.out _ ?_ _ ?_ ?_; rotate_left 2
     · (try simp only [r19, r20, r21]); rfl
     exact ⟨by have hX := hH.grow hE22; simpa only [List.set_cons_zero, List.set_cons_succ, updB, updV, blkOf_mk, tup0_mk, partsOf3, Nat.reduceBEq, cond_true, cond_false, hb, d19, d20, d21, r19, r20, r21] using hX, hG1.ext hE22, hG7.ext hE22, hG27.ext hE22, hG14.ext hE22, v0, v1, v2, v3, v4, v5, v6, v7, v8, v9, v10, v11, v12, v13, v14, v15, v16, v17, v18, v19, v20, v21, fun _ => rfl, v23, v24, v25, v26, v27, v28, v29, v30, v31, v32, v33, v34, v35, v36, v37, v38, v39, v40⟩
   refine AllSteps.cons (j := 24) rfl (fun b t wx hJ hb hd hcl Kc hK => ?_) ?_
   · obtain ⟨hH, hG1, hG7, hG27, hG14, v0, v1, v2, v3, v4, v5, v6, v7, v8, v9, v10, v11, v12, v13, v14, v15, v16, v17, v18, v19, v20, v21, v22, v23, v24, v25, v26, v27, v28, v29, v30, v31, v32, v33, v34, v35, v36, v37, v38, v39, v40⟩ := hJ
     have d19 := hd.out 19 (by kernel_rfl); have d22 := hd.out 22 (by kernel_rfl); have r19 := v19 d19; have r22 := v22 d22; have c_kr_0 := hH.ext.cell kr_0; have c_kr_1 := hH.ext.cell kr_1; have c_kr_2 := hH.ext.cell kr_2
     go_simp
     refine hK.out _ ?_ _ ?_ ?_; rotate_left 2
     · (try simp only [r19, r22]); rfl
     exact ⟨hH, hG1, hG7, hG27, hG14, v0, v1, v2, v3, v4, v5, v6, v7, v8, v9, v10, v11, v12, v13, v14, v15, v16, v17, v18, v19, v20, v21, v22, fun _ => rfl, v24, v25, v26, v27, v28, v29, v30, v31, v32, v33, v34, v35, v36, v37, v38, v39, v40⟩
   refine AllSteps.cons (j := 25) rfl (fun b t wx hJ hb hd hcl Kc hK => ?_) ?_
   · obtain ⟨hH, hG1, hG7, hG27, hG14, v0, v1, v2, v3, v4, v5, v6, v7, v8, v9, v10, v11, v12, v13, v14, v15, v16, v17, v18, v19, v20, v21, v22, v23, v24, v25, v26, v27, v28, v29, v30, v31, v32, v33, v34, v35, v36, v37, v38, v39, v40⟩ := hJ
     have d19 := hd.out 19 (by kernel_rfl); have d23 := hd.out 23 (by kernel_rfl); have r19 := v19 d19; have r23 := v23 d23; have c_kr_0 := hH.ext.cell kr_0; have c_kr_1 := hH.ext.cell kr_1; have c_kr_2 := hH.ext.cell kr_2
     go_simp
     refine hK.out _ ?_ _ ?_ ?_; rotate_left 2
     · (try simp only [r19, r23]); rfl
     exact ⟨hH, hG1, hG7, hG27, hG14, v0, v1, v2, v3, v4, v5, v6, v7, v8, v9, v10, v11, v12, v13, v14, v15, v16, v17, v18, v19, v20, v21, v22, v23, fun _ => rfl, v25, v26, v27, v28, v29, v30, v31, v32, v33, v34, v35, v36, v37, v38, v39, v40⟩
   refine AllSteps.cons (j := 26) rfl (fun b t wx hJ hb hd hcl Kc hK => ?_) ?_
   · obtain ⟨hH, hG1, hG7, hG27, hG14, v0, v1, v2, v3, v4, v5, v6, v7, v8, v9, v10, v11, v12, v13, v14, v15, v16, v17, v18, v19, v20, v21, v22, v23, v24, v25, v26, v27, v28, v29, v30, v31, v32, v33, v34, v35, v36, v37, v38, v39, v40⟩ := hJ
     have d22 := hd.out 22 (by kernel_rfl); have d24 := hd.out 24 (by kernel_rfl); have r22 := v22 d22; have r24 := v24 d24; have c_kr_0 := hH.ext.cell kr_0; have c_kr_1 := hH.ext.cell kr_1; have c_kr_2 := hH.ext.cell kr_2
     go_simp
     refine hK.out _ ?_ _ ?_ ?_; rotate_left 2
     · (try simp only [r22, r24]); rfl
     exact ⟨hH, hG1, hG7, hG27, hG14, v0, v1, v2, v3, v4, v5, v6, v7, v8, v9, v10, v11, v12, v13, v14, v15, v16, v17, v18, v19, v20, v21, v22, v23, v24, fun _ => rfl, v26, v27, v28, v29, v30, v31, v32, v33, v34, v35, v36, v37, v38, v39, v40⟩
   refine AllSteps.cons (j := 27) rfl (fun b t wx hJ hb hd hcl Kc hK => ?_) ?_
   · obtain ⟨hH, hG1, hG7, hG27, hG14, v0, v1, v2, v3, v4, v5, v6, v7, v8, v9, v10, v11, v12, v13, v14, v15, v16, v17, v18, v19, v20, v21, v22, v23, v24, v25, v26, v27, v28, v29, v30, v31, v32, v33, v34, v35, v36, v37, v38, v39, v40⟩ := hJ
     have d25 := hd.out 25 (by kernel_rfl); have r25 := v25 d25; have c_kr_0 := hH.ext.cell kr_0; have c_kr_1 := hH.ext.cell kr_1; have c_kr_2 := hH.ext.cell kr_2; have q5_0 := hH.cl 5 0 rfl rfl; have q5_1 := hH.cl 5 1 rfl rfl; have q5_2 := hH.cl 5 2 rfl rfl; have q5_3 := hH.cl 5 3 rfl rfl; have q5_4 := hH.cl 5 4 rfl rfl
     go_simp
     refine hK.out _ ?_ _ ?_ ?_; rotate_left 2
     · (try simp only [r25]); rfl
     exact ⟨hH, hG1, hG7, hG27, hG14, v0, v1, v2, v3, v4, v5, v6, v7, v8, v9, v10, v11, v12, v13, v14, v15, v16, v17, v18, v19, v20, v21, v22, v23, v24, v25, fun _ => rfl, v27, v28, v29, v30, v31, v32, v33, v34, v35, v36, v37, v38, v39, v40⟩
   refine AllSteps.cons (j := 28) rfl (fun b t wx hJ hb hd hcl Kc hK => ?_) ?_
   · obtain ⟨hH, hG1, hG7, hG27, hG14, v0, v1, v2, v3, v4, v5, v6, v7, v8, v9, v10, v11, v12, v13, v14, v15, v16, v17, v18, v19, v20, v21, v22, v23, v24, v25, v26, v27, v28, v29, v30, v31, v32, v33, v34, v35, v36, v37, v38, v39, v40⟩ := hJ
     have d25 := hd.out 25 (by kernel_rfl); have d26 := hd.out 26 (by kernel_rfl); have r25 := v25 d25; have r26 := v26 d26
     go_simp
     go_at_call 58
     refine (simplifyNetwork_any HR.out HS.out.isN _ _ _ (hH.tensS (k := 3) rfl) (hH.ints (k := 4) rfl)).mono ?_; rintro e27 w27 ⟨y27, z27, g27, us2, rfl, hJ27, hS27, hSt27, hNo27⟩
     have hE27 := hJ27.ext
     have e27 := hS27.fix HST.out HNO.out
     subst e27
     (try go_simp)
     refine hK.out _ ?_ _ ?_ ?_; rotate_left 2
     · (try simp only [r25, r26]); rfl
     exact ⟨by have hX := hH.grow hE27; simpa only [List.set_cons_zero, List.set_cons_succ, updB, updV, blkOf_mk, tup0_mk, partsOf3, Nat.reduceBEq, cond_true, cond_false, hb, d25, d26, r25, r26] using hX, hG1.ext hE27, hG7.ext hE27, (fun _ => ⟨y27, z27, rfl, hJ27.tensS (k := 0) rfl, hJ27.ints (k := 1) rfl⟩), hG14.ext hE27, v0, v1, v2, v3, v4, v5, v6, v7, v8, v9, v10, v11, v12, v13, v14, v15, v16, v17, v18, v19, v20, v21, v22, v23, v24, v25, v26, fun _ => ⟨_, _, rfl⟩, v28, v29, v30, v31, v32, v33, v34, v35, v36, v37, v38, v39, v40⟩
   refine AllSteps.cons (j := 29) rfl (fun b t wx hJ hb hd hcl Kc hK => ?_) ?_
   · obtain ⟨hH, hG1, hG7, hG27, hG14, v0, v1, v2, v3, v4, v5, v6, v7, v8, v9, v10, v11, v12, v13, v14, v15, v16, v17, v18, v19, v20, v21, v22, v23, v24, v25, v26, v27, v28, v29, v30, v31, v32, v33, v34, v35, v36, v37, v38, v39, v40⟩ := hJ
     have d25 := hd.out 25 (by kernel_rfl); have r25 := v25 d25; have c_kr_0 := hH.ext.cell kr_0; have c_kr_1 := hH.ext.cell kr_1; have c_kr_2 := hH.ext.cell kr_2; have q5_0 := hH.cl 5 0 rfl rfl; have q5_1 := hH.cl 5 1 rfl rfl; have q5_2 := hH.cl 5 2 rfl rfl; have q5_3 := hH.cl 5 3 rfl rfl; have q5_4 := hH.cl 5 4 rfl rfl
     go_simp
     refine hK.out _ ?_ _ ?_ ?_; rotate_left 2
     · (try simp only [r25]); rfl
     exact ⟨hH, hG1, hG7, hG27, hG14, v0, v1, v2, v3, v4, v5, v6, v7, v8, v9, v10, v11, v12, v13, v14, v15, v16, v17, v18, v19, v20, v21, v22, v23, v24, v25, v26, v27, fun _ => rfl, v29, v30, v31, v32, v33, v34, v35, v36, v37, v38, v39, v40⟩
   refine AllSteps.cons (j := 30) rfl (fun b t wx hJ hb hd hcl Kc hK => ?_) ?_
   · obtain ⟨hH, hG1, hG7, hG27, hG14, v0, v1, v2, v3, v4, v5, v6, v7, v8, v9, v10, v11, v12, v13, v14, v15, v16, v17, v18, v19, v20, v21, v22, v23, v24, v25, v26, v27, v28, v29, v30, v31, v32, v33, v34, v35, v36, v37, v38, v39, v40⟩ := hJ
     have d25 := hd.out 25 (by kernel_rfl); have d27 := hd.out 27 (by kernel_rfl); have d28 := hd.out 28 (by kernel_rfl); have r25 := v25 d25; have r27 := v27 d27; have r28 := v28 d28
     obtain ⟨za_27, zb_27, r27⟩ := r27
     go_simp
     go_at_call 62
     refine (nets_same k p n _ op _ _ _ _ _ (hG27.at d27 r27).1 (hG27.at d27 r27).2 (hH.tensS (k := 3) rfl) (hH.ints (k := 4) rfl)).mono ?_; rintro e29 w29 ⟨rfl, hE29⟩
     (try go_simp)
     refine hK.out _ ?_ _ ?_ ?_; rotate_left 2
     · (try simp only [r25, r27, r28]); rfl
     exact ⟨by have hX := hH.grow hE29; simpa only [List.set_cons_zero, List.set_cons_succ, updB, updV, blkOf_mk, tup0_mk, partsOf3, Nat.reduceBEq, cond_true, cond_false, hb, d25, d27, d28, r25, r27, r28] using hX, hG1.ext hE29, hG7.ext hE29, hG27.ext hE29, hG14.ext hE29, v0, v1, v2, v3, v4, v5, v6, v7, v8, v9, v10, v11, v12, v13, v14, v15, v16, v17, v18, v19, v20, v21, v22, v23, v24, v25, v26, v27, v28, fun _ => rfl, v30, v31, v32, v33, v34, v35, v36, v37, v38, v39, v40⟩
   refine AllSteps.cons (j := 31) rfl (fun b t wx hJ hb hd hcl Kc hK => ?_) ?_
   · obtain ⟨hH, hG1, hG7, hG27, hG14, v0, v1, v2, v3, v4, v5, v6, v7, v8, v9, v10, v11, v12, v13, v14, v15, v16, v17, v18, v19, v20, v21, v22, v23, v24, v25, v26, v27, v28, v29, v30, v31, v32, v33, v34, v35, v36, v37, v38, v39, v40⟩ := hJ
     have d25 := hd.out 25 (by kernel_rfl); have d29 := hd.out 29 (by kernel_rfl); have r25 := v25 d25; have r29 := v29 d29; have c_kr_0 := hH.ext.cell kr_0; have c_kr_1 := hH.ext.cell kr_1; have c_kr_2 := hH.ext.cell kr_2
     go_simp
     refine hK.out _ ?_ _ ?_ ?_; rotate_left 2
     · (try simp only [r25, r29]); rfl
     exact ⟨hH, hG1, hG7, hG27, hG14, v0, v1, v2, v3, v4, v5, v6, v7, v8, v9, v10, v11, v12, v13, v14, v15, v16, v17, v18, v19, v20, v21, v22, v23, v24, v25, v26, v27, v28, v29, fun _ => rfl, v31, v32, v33, v34, v35, v36, v37, v38, v39, v40⟩
   refine AllSteps.cons (j := 32) rfl (fun b t wx hJ hb hd hcl Kc hK => ?_) ?_
   · obtain ⟨hH, hG1, hG7, hG27, hG14, v0, v1, v2, v3, v4, v5, v6, v7, v8, v9, v10, v11, v12, v13, v14, v15, v16, v17, v18, v19, v20, v21, v22, v23, v24, v25, v26, v27, v28, v29, v30, v31, v32, v33, v34, v35, v36, v37, v38, v39, v40⟩ := hJ
     have d25 := hd.out 25 (by kernel_rfl); have d30 := hd.out 30 (by kernel_rfl); have r25 := v25 d25; have r30 := v30 d30; have c_kr_0 := hH.ext.cell kr_0; have c_kr_1 := hH.ext.cell kr_1; have c_kr_2 := hH.ext.cell kr_2
     go_simp
     refine hK.out _ ?_ _ ?_ ?_; rotate_left 2
     · (try simp only [r25, r30]); rfl
     exact ⟨hH, hG1, hG7, hG27, hG14, v0, v1, v2, v3, v4, v5, v6, v7, v8, v9, v10, v11, v12, v13, v14, v15, v16, v17, v18, v19, v20, v21, v22, v23, v24, v25, v26, v27, v28, v29, v30, fun _ => rfl, v32, v33, v34, v35, v36, v37, v38, v39, v40⟩
   refine AllSteps.cons (j := 33) rfl (fun b t wx hJ hb hd hcl Kc hK => ?_) ?_
   · obtain ⟨hH, hG1, hG7, hG27, hG14, v0, v1, v2, v3, v4, v5, v6, v7, v8, v9, v10, v11, v12, v13, v14, v15, v16, v17, v18, v19, v20, v21, v22, v23, v24, v25, v26, v27, v28, v29, v30, v31, v32, v33, v34, v35, v36, v37, v38, v39, v40⟩ := hJ
     have d29 := hd.out 29 (by kernel_rfl); have d31 := hd.out 31 (by kernel_rfl); have r29 := v29 d29; have r31 := v31 d31; have c_kr_0 := hH.ext.cell kr_0; have c_kr_1 := hH.ext.cell kr_1; have c_kr_2 := hH.ext.cell kr_2
     go_simp
     refine hK.out _ ?_ _ ?_ ?_; rotate_left 2
     · (try simp only [r29, r31]); rfl
     exact ⟨hH, hG1, hG7, hG27, hG14, v0, v1, v2, v3, v4, v5, v6, v7, v8, v9, v10, v11, v12, v13, v14, v15, v16, v17, v18, v19, v20, v21, v22, v23, v24, v25, v26, v27, v28, v29, v30, v31, fun _ => rfl, v33, v34, v35, v36, v37, v38, v39, v40⟩
   refine AllSteps.cons (j := 34) rfl (fun b t wx hJ hb hd hcl Kc hK => ?_) ?_
   · obtain ⟨hH, hG1, hG7, hG27, hG14, v0, v1, v2, v3, v4, v5, v6, v7, v8, v9, v10, v11, v12, v13, v14, v15, v16, v17, v18, v19, v20, v21, v22, v23, v24, v25, v26, v27, v28, v29, v30, v31, v32, v33, v34, v35, v36, v37, v38, v39, v40⟩ := hJ
     have d32 := hd.out 32 (by kernel_rfl); have r32 := v32 d32; have c_kr_0 := hH.ext.cell kr_0; have c_kr_1 := hH.ext.cell kr_1; have c_kr_2 := hH.ext.cell kr_2
     go_simp
     refine hK.out _ ?_ _ ?_ ?_; rotate_left 2
     · (try simp only [r32]); rfl
     exact ⟨hH, hG1, hG7, hG27, hG14, v0, v1, v2, v3, v4, v5, v6, v7, v8, v9, v10, v11, v12, v13, v14, v15, v16, v17, v18, v19, v20, v21, v22, v23, v24, v25, v26, v27, v28, v29, v30, v31, v32, fun _ => rfl, v34, v35, v36, v37, v38, v39, v40⟩
   refine AllSteps.cons (j := 35) rfl (fun b t wx hJ hb hd hcl Kc hK => ?_) ?_
   · obtain ⟨hH, hG1, hG7, hG27, hG14, v0, v1, v2, v3, v4, v5, v6, v7, v8, v9, v10, v11, v12, v13, v14, v15, v16, v17, v18, v19, v20, v21, v22, v23, v24, v25, v26, v27, v28, v29, v30, v31, v32, v33, v34, v35, v36, v37, v38, v39, v40⟩ := hJ
     have d32 := hd.out 32 (by kernel_rfl); have d33 := hd.out 33 (by kernel_rfl); have r32 := v32 d32; have r33 := v33 d33; have c_kr_0 := hH.ext.cell kr_0; have c_kr_1 := hH.ext.cell kr_1; have c_kr_2 := hH.ext.cell kr_2; have q5_3 := hH.cl 5 3 rfl rfl
     go_simp
     refine hK.out _ ?_ _ ?_ ?_; rotate_left 2
     · (try simp only [r32, r33]); rfl
     exact ⟨hH, hG1, hG7, hG27, hG14, v0, v1, v2, v3, v4, v5, v6, v7, v8, v9, v10, v11, v12, v13, v14, v15, v16, v17, v18, v19, v20, v21, v22, v23, v24, v25, v26, v27, v28, v29, v30, v31, v32, v33, fun _ => rfl, v35, v36, v37, v38, v39, v40⟩
   refine AllSteps.cons (j := 36) rfl (fun b t wx hJ hb hd hcl Kc hK => ?_) ?_
   · obtain ⟨hH, hG1, hG7, hG27, hG14, v0, v1, v2, v3, v4, v5, v6, v7, v8, v9, v10, v11, v12, v13, v14, v15, v16, v17, v18, v19, v20, v21, v22, v23, v24, v25, v26, v27, v28, v29, v30, v31, v32, v33, v34, v35, v36, v37, v38, v39, v40⟩ := hJ
     have d32 := hd.out 32 (by kernel_rfl); have d34 := hd.out 34 (by kernel_rfl); have r32 := v32 d32; have r34 := v34 d34; have c_kr_0 := hH.ext.cell kr_0; have c_kr_1 := hH.ext.cell kr_1; have c_kr_2 := hH.ext.cell kr_2
     go_simp
     refine hK.out _ ?_ _ ?_ ?_; rotate_left 2
     · (try simp only [r32, r34]); rfl
     exact ⟨hH, hG1, hG7, hG27, hG14, v0, v1, v2, v3, v4, v5, v6, v7, v8, v9, v10, v11, v12, v13, v14, v15, v16, v17, v18, v19, v20, v21, v22, v23, v24, v25, v26, v27, v28, v29, v30, v31, v32, v33, v34, fun _ => rfl, v36, v37, v38, v39, v40⟩
   refine AllSteps.cons (j := 37) rfl (fun b t wx hJ hb hd hcl Kc hK => ?_) ?_
   · obtain ⟨hH, hG1, hG7, hG27, hG14, v0, v1, v2, v3, v4, v5, v6, v7, v8, v9, v10, v11, v12, v13, v14, v15, v16, v17, v18, v19, v20, v21, v22, v23, v24, v25, v26, v27, v28, v29, v30, v31, v32, v33, v34, v35, v36, v37, v38, v39, v40⟩ := hJ
     have d32 := hd.out 32 (by kernel_rfl); have r32 := v32 d32; have c_kr_0 := hH.ext.cell kr_0; have c_kr_1 := hH.ext.cell kr_1; have c_kr_2 := hH.ext.cell kr_2
     go_simp
     refine hK.out _ ?_ _ ?_ ?_; rotate_left 2
     · (try simp only [r32]); rfl
     exact ⟨hH, hG1, hG7, hG27, hG14, v0, v1, v2, v3, v4, v5, v6, v7, v8, v9, v10, v11, v12, v13, v14, v15, v16, v17, v18, v19, v20, v21, v22, v23, v24, v25, v26, v27, v28, v29, v30, v31, v32, v33, v34, v35, fun _ => rfl, v37, v38, v39, v40⟩
   refine AllSteps.cons (j := 38) rfl (fun b t wx hJ hb hd hcl Kc hK => ?_) ?_
   · obtain ⟨hH, hG1, hG7, hG27, hG14, v0, v1, v2, v3, v4, v5, v6, v7, v8, v9, v10, v11, v12, v13, v14, v15, v16, v17, v18, v19, v20, v21, v22, v23, v24, v25, v26, v27, v28, v29, v30, v31, v32, v33, v34, v35, v36, v37, v38, v39, v40⟩ := hJ
     have d32 := hd.out 32 (by kernel_rfl); have d36 := hd.out 36 (by kernel_rfl); have r32 := v32 d32; have r36 := v36 d36; have c_kr_0 := hH.ext.cell kr_0; have c_kr_1 := hH.ext.cell kr_1; have c_kr_2 := hH.ext.cell kr_2; have q0_3 := hH.cl 0 3 rfl rfl
     go_simp
     refine hK.out _ ?_ _ ?_ ?_; rotate_left 2
     · (try simp only [r32, r36]); rfl
     exact ⟨hH, hG1, hG7, hG27, hG14, v0, v1, v2, v3, v4, v5, v6, v7, v8, v9, v10, v11, v12, v13, v14, v15, v16, v17, v18, v19, v20, v21, v22, v23, v24, v25, v26, v27, v28, v29, v30, v31, v32, v33, v34, v35, v36, fun _ => rfl, v38, v39, v40⟩
   refine AllSteps.cons (j := 39) rfl (fun b t wx hJ hb hd hcl Kc hK => ?_) ?_
   · obtain ⟨hH, hG1, hG7, hG27, hG14, v0, v1, v2, v3, v4, v5, v6, v7, v8, v9, v10, v11, v12, v13, v14, v15, v16, v17, v18, v19, v20, v21, v22, v23, v24, v25, v26, v27, v28, v29, v30, v31, v32, v33, v34, v35, v36, v37, v38, v39, v40⟩ := hJ
     have d32 := hd.out 32 (by kernel_rfl); have d37 := hd.out 37 (by kernel_rfl); have r32 := v32 d32; have r37 := v37 d37; have c_kr_0 := hH.ext.cell kr_0; have c_kr_1 := hH.ext.cell kr_1; have c_kr_2 := hH.ext.cell kr_2
     go_simp
     refine hK.out _ ?_ _ ?_ ?_; rotate_left 2
     · (try simp only [r32, r37]); rfl
     exact ⟨hH, hG1, hG7, hG27, hG14, v0, v1, v2, v3, v4, v5, v6, v7, v8, v9, v10, v11, v12, v13, v14, v15, v16, v17, v18, v19, v20, v21, v22, v23, v24, v25, v26, v27, v28, v29, v30, v31, v32, v33, v34, v35, v36, v37, fun _ => rfl, v39, v40⟩
   refine AllSteps.cons (j := 40) rfl (fun b t wx hJ hb hd hcl Kc hK => ?_) ?_
   · obtain ⟨hH, hG1, hG7, hG27, hG14, v0, v1, v2, v3, v4, v5, v6, v7, v8, v9, v10, v11, v12, v13, v14, v15, v16, v17, v18, v19, v20, v21, v22, v23, v24, v25, v26, v27, v28, v29, v30, v31, v32, v33, v34, v35, v36, v37, v38, v39, v40⟩ := hJ
     have d32 := hd.out 32 (by kernel_rfl); have d35 := hd.out 35 (by kernel_rfl); have d38 := hd.out 38 (by kernel_rfl); have r32 := v32 d32; have r35 := v35 d35; have r38 := v38 d38; have c_kr_0 := hH.ext.cell kr_0; have c_kr_1 := hH.ext.cell kr_1; have c_kr_2 := hH.ext.cell kr_2
     go_simp
     refine hK.out _ ?_ _ ?_ ?_; rotate_left 2
     · (try simp only [r32, r35, r38]); rfl
     exact ⟨hH, hG1, hG7, hG27, hG14, v0, v1, v2, v3, v4, v5, v6, v7, v8, v9, v10, v11, v12, v13, v14, v15, v16, v17, v18, v19, v20, v21, v22, v23, v24, v25, v26, v27, v28, v29, v30, v31, v32, v33, v34, v35, v36, v37, v38, fun _ => rfl, v40⟩
   refine AllSteps.cons (j := 41) rfl (fun b t wx hJ hb hd hcl Kc hK => ?_) ?_
   · obtain ⟨hH, hG1, hG7, hG27, hG14, v0, v1, v2, v3, v4, v5, v6, v7, v8, v9, v10, v11, v12, v13, v14, v15, v16, v17, v18, v19, v20, v21, v22, v23, v24, v25, v26, v27, v28, v29, v30, v31, v32, v33, v34, v35, v36, v37, v38, v39, v40⟩ := hJ
     have d32 := hd.out 32 (by kernel_rfl); have d39 := hd.out 39 (by kernel_rfl); have r32 := v32 d32; have r39 := v39 d39; have c_kr_0 := hH.ext.cell kr_0; have c_kr_1 := hH.ext.cell kr_1; have c_kr_2 := hH.ext.cell kr_2
     go_simp
     refine hK.out _ ?_ _ ?_ ?_; rotate_left 2
     · (try simp only [r32, r39]); rfl
     exact ⟨hH, hG1, hG7, hG27, hG14, v0, v1, v2, v3, v4, v5, v6, v7, v8, v9, v10, v11, v12, v13, v14, v15, v16, v17, v18, v19, v20, v21, v22, v23, v24, v25, v26, v27, v28, v29, v30, v31, v32, v33, v34, v35, v36, v37, v38, v39, fun _ => rfl⟩
   exact AllSteps.nil
 case hEr7 =>
  intro b t wr7 hJ hall
  obtain ⟨hHr7, hG1r7, hG7r7, hG27r7, hG14r7, v0, v1, v2, v3, v4, v5, v6, v7, v8, v9, v10, v11, v12, v13, v14, v15, v16, v17, v18, v19, v20, v21, v22, v23, v24, v25, v26, v27, v28, v29, v30, v31, v32, v33, v34, v35, v36, v37, v38, v39, v40⟩ := hJ
  have a0 := hall 0 (by decide); have a1 := hall 1 (by decide); have a2 := hall 2 (by decide); have a3 := hall 3 (by decide); have a4 := hall 4 (by decide); have a5 := hall 5 (by decide); have a6 := hall 6 (by decide); have a7 := hall 7 (by decide); have a8 := hall 8 (by decide); have a9 := hall 9 (by decide); have a10 := hall 10 (by decide); have a11 := hall 11 (by decide); have a12 := hall 12 (by decide); have a13 := hall 13 (by decide); have a14 := hall 14 (by decide); have a15 := hall 15 (by decide); have a16 := hall 16 (by decide); have a17 := hall 17 (by decide); have a18 := hall 18 (by decide); have a19 := hall 19 (by decide); have a20 := hall 20 (by decide); have a21 := hall 21 (by decide); have a22 := hall 22 (by decide); have a23 := hall 23 (by decide); have a24 := hall 24 (by decide); have a25 := hall 25 (by decide); have a26 := hall 26 (by decide); have a27 := hall 27 (by decide); have a28 := hall 28 (by decide); have a29 := hall 29 (by decide); have a30 := hall 30 (by decide); have a31 := hall 31 (by decide); have a32 := hall 32 (by decide); have a33 := hall 33 (by decide); have a34 := hall 34 (by decide); have a35 := hall 35 (by decide); have a36 := hall 36 (by decide); have a37 := hall 37 (by decide); have a38 := hall 38 (by decide); have a39 := hall 39 (by decide); have a40 := hall 40 (by decide)
  (try simp only [a0, a1, a2, a3, a4, a5, a6, a7, a8, a9, a10, a11, a12, a13, a14, a15, a16, a17, a18, a19, a20, a21, a22, a23, a24, a25, a26, a27, a28, a29, a30, a31, a32, a33, a34, a35, a36, a37, a38, a39, a40, cond_true] at hHr7)
  (try simp only [a0, a1, a2, a3, a4, a5, a6, a7, a8, a9, a10, a11, a12, a13, a14, a15, a16, a17, a18, a19, a20, a21, a22, a23, a24, a25, a26, a27, a28, a29, a30, a31, a32, a33, a34, a35, a36, a37, a38, a39, a40, cond_true] at hG1r7)
  (try simp only [a0, a1, a2, a3, a4, a5, a6, a7, a8, a9, a10, a11, a12, a13, a14, a15, a16, a17, a18, a19, a20, a21, a22, a23, a24, a25, a26, a27, a28, a29, a30, a31, a32, a33, a34, a35, a36, a37, a38, a39, a40, cond_true] at hG7r7)
  (try simp only [a0, a1, a2, a3, a4, a5, a6, a7, a8, a9, a10, a11, a12, a13, a14, a15, a16, a17, a18, a19, a20, a21, a22, a23, a24, a25, a26, a27, a28, a29, a30, a31, a32, a33, a34, a35, a36, a37, a38, a39, a40, cond_true] at hG27r7)
  (try simp only [a0, a1, a2, a3, a4, a5, a6, a7, a8, a9, a10, a11, a12, a13, a14, a15, a16, a17, a18, a19, a20, a21, a22, a23, a24, a25, a26, a27, a28, a29, a30, a31, a32, a33, a34, a35, a36, a37, a38, a39, a40, cond_true] at hG14r7)
  replace v0 := v0 a0; replace v1 := v1 a1; replace v2 := v2 a2; replace v3 := v3 a3; replace v4 := v4 a4; replace v5 := v5 a5; replace v6 := v6 a6; replace v7 := v7 a7; replace v8 := v8 a8; replace v9 := v9 a9; replace v10 := v10 a10; replace v11 := v11 a11; replace v12 := v12 a12; replace v13 := v13 a13; replace v14 := v14 a14; replace v15 := v15 a15; replace v16 := v16 a16; replace v17 := v17 a17; replace v18 := v18 a18; replace v19 := v19 a19; replace v20 := v20 a20; replace v21 := v21 a21; replace v22 := v22 a22; replace v23 := v23 a23; replace v24 := v24 a24; replace v25 := v25 a25; replace v26 := v26 a26; replace v27 := v27 a27; replace v28 := v28 a28; replace v29 := v29 a29; replace v30 := v30 a30; replace v31 := v31 a31; replace v32 := v32 a32; replace v33 := v33 a33; replace v34 := v34 a34; replace v35 := v35 a35; replace v36 := v36 a36; replace v37 := v37 a37; replace v38 := v38 a38; replace v39 := v39 a39; replace v40 := v40 a40
  clear hall a0 a1 a2 a3 a4 a5 a6 a7 a8 a9 a10 a11 a12 a13 a14 a15 a16 a17 a18 a19 a20 a21 a22 a23 a24 a25 a26 a27 a28 a29 a30 a31 a32 a33 a34 a35 a36 a37 a38 a39 a40
  generalize t 40 = x40 at hHr7 v40 ⊢; generalize t 39 = x39 at hHr7 v39 ⊢; generalize t 38 = x38 at hHr7 v38 ⊢; generalize t 37 = x37 at hHr7 v37 ⊢; generalize t 36 = x36 at hHr7 v36 ⊢; generalize t 35 = x35 at hHr7 v35 ⊢; generalize t 34 = x34 at hHr7 v34 ⊢; generalize t 33 = x33 at hHr7 v33 ⊢; generalize t 32 = x32 at hHr7 v32 ⊢; generalize t 31 = x31 at hHr7 v31 ⊢; generalize t 30 = x30 at hHr7 v30 ⊢; generalize t 29 = x29 at hHr7 v29 ⊢; generalize t 28 = x28 at hHr7 v28 ⊢; generalize t 27 = x27 at hHr7 v27 hG27r7 ⊢; generalize t 26 = x26 at hHr7 v26 ⊢; generalize t 25 = x25 at hHr7 v25 ⊢; generalize t 24 = x24 at hHr7 v24 ⊢; generalize t 23 = x23 at hHr7 v23 ⊢; generalize t 22 = x22 at hHr7 v22 ⊢; generalize t 21 = x21 at hHr7 v21 ⊢; generalize t 20 = x20 at hHr7 v20 ⊢; generalize t 19 = x19 at hHr7 v19 ⊢; generalize t 18 = x18 at hHr7 v18 ⊢; generalize t 17 = x17 at hHr7 v17 ⊢; generalize t 16 = x16 at hHr7 v16 ⊢; generalize t 15 = x15 at hHr7 v15 ⊢; generalize t 14 = x14 at hHr7 v14 hG14r7 ⊢; generalize t 13 = x13 at hHr7 v13 ⊢; generalize t 12 = x12 at hHr7 v12 ⊢; generalize t 11 = x11 at hHr7 v11 ⊢; generalize t 10 = x10 at hHr7 v10 ⊢; generalize t 9 = x9 at hHr7 v9 ⊢; generalize t 8 = x8 at hHr7 v8 ⊢; generalize t 7 = x7 at hHr7 v7 hG7r7 ⊢; generalize t 6 = x6 at hHr7 v6 ⊢; generalize t 5 = x5 at hHr7 v5 ⊢; generalize t 4 = x4 at hHr7 v4 ⊢; generalize t 3 = x3 at hHr7 v3 ⊢; generalize t 2 = x2 at hHr7 v2 ⊢; generalize t 1 = x1 at hHr7 v1 hG1r7 ⊢; generalize t 0 = x0 at hHr7 v0 ⊢; subst v0
  obtain ⟨zar71, zbr71, rfl⟩ := v1
  subst v2; subst v3; subst v4; subst v5; subst v6
  obtain ⟨zar77, zbr77, rfl⟩ := v7
  subst v8; subst v9; subst v10; subst v11; subst v12; subst v13
  obtain ⟨zar714, zbr714, rfl⟩ := v14
  subst v15; subst v16; subst v17; subst v18; subst v19; subst v20; subst v21; subst v22; subst v23; subst v24; subst v25; subst v26
  obtain ⟨zar727, zbr727, rfl⟩ := v27
  subst v28; subst v29; subst v30; subst v31; subst v32; subst v33; subst v34; subst v35; subst v36; subst v37; subst v38; subst v39; subst v40
  clear b
  replace hH := hHr7; clear hHr7
  replace hH : Held wN wr7 [aB (wN.heap.size) 29 [.int .i64 k, .int .i64 p, .int .i64 n, .slice aV m cV, .slice aO op.length cO], aT (.agg #[.slice p1 n1 d1, .slice p2 n2 d2, .slice p3 n3 d3]) op (op.map dimOf) RX, aB (wn4.heap.size) 32 [.slice p1 n1 d1, .slice p2 n2 d2, .slice p3 n3 d3], aTs (.slice aS mS cS) csS (us.map (tenOf dimOf)), aI (.slice aOS op.length cOS) op, aB (wn6.heap.size) 29 [.int .i64 k, .int .i64 p, .int .i64 n, .slice aS mS cS, .slice aOS op.length cOS]] := hH
  clear hG1r7 hG7r7 hG14r7 hG27r7 hG1 hG7 hG14 hG27
  obtain ⟨wc, rfl⟩ : ∃ q, q = wr7 := ⟨wr7, rfl⟩
  by_cases hm2 : m < 2
  ·
   obtain ⟨q0_0, q0_1, q0_2, q0_3, q0_4, l0_⟩ := hH.c5 0 rfl; obtain ⟨q2_0, q2_1, q2_2, l2_⟩ := hH.c3 2 rfl; obtain ⟨q5_0, q5_1, q5_2, q5_3, q5_4, l5_⟩ := hH.c5 5 rfl; have c_kr_0 := hH.ext.cell kr_0; have c_kr_1 := hH.ext.cell kr_1; have c_kr_2 := hH.ext.cell kr_2
   have c_kr_l := Nat.lt_of_lt_of_le kr_l hH.ext.size
   have HE := Lib.hid (E0.trans hH.ext); clear hH
   go_wp2
   go_ret
   exact ⟨rfl, HE.out⟩
  ·
   obtain ⟨q0_0, q0_1, q0_2, q0_3, q0_4, l0_⟩ := hH.c5 0 rfl; obtain ⟨q2_0, q2_1, q2_2, l2_⟩ := hH.c3 2 rfl; obtain ⟨q5_0, q5_1, q5_2, q5_3, q5_4, l5_⟩ := hH.c5 5 rfl; have c_kr_0 := hH.ext.cell kr_0; have c_kr_1 := hH.ext.cell kr_1; have c_kr_2 := hH.ext.cell kr_2
   have c_kr_l := Nat.lt_of_lt_of_le kr_l hH.ext.size
   go_wp2_with fail
   clear q0_0 q0_1 q0_2 q0_3 q0_4 l0_ q2_0 q2_1 q2_2 l2_ q5_0 q5_1 q5_2 q5_3 q5_4 l5_ c_kr_0 c_kr_1 c_kr_2 c_kr_l
   refine (makeSize_any _ l 100 0 ((m : Int) - 1) _ (hC.ext hH.ext) (by omega) (by omega)).mono ?_; rintro ewn8 wn8 ⟨zi, rfl, hzi, hwn8⟩
   obtain ⟨pi, rfl⟩ := Int.eq_ofNat_of_zero_le hzi.1
   have hpi : pi < m := by omega
   clear hzi
   replace hH : Held wN wn8 [aB (wN.heap.size) 29 [.int .i64 k, .int .i64 p, .int .i64 n, .slice aV m cV, .slice aO op.length cO], aT (.agg #[.slice p1 n1 d1, .slice p2 n2 d2, .slice p3 n3 d3]) op (op.map dimOf) RX, aB (wn4.heap.size) 32 [.slice p1 n1 d1, .slice p2 n2 d2, .slice p3 n3 d3], aTs (.slice aS mS cS) csS (us.map (tenOf dimOf)), aI (.slice aOS op.length cOS) op, aB (wn6.heap.size) 29 [.int .i64 k, .int .i64 p, .int .i64 n, .slice aS mS cS, .slice aOS op.length cOS]] := hH.grow hwn8
   clear hwn8
   obtain ⟨q0_0, q0_1, q0_2, q0_3, q0_4, l0_⟩ := hH.c5 0 rfl; obtain ⟨q2_0, q2_1, q2_2, l2_⟩ := hH.c3 2 rfl; obtain ⟨q5_0, q5_1, q5_2, q5_3, q5_4, l5_⟩ := hH.c5 5 rfl; have c_kr_0 := hH.ext.cell kr_0; have c_kr_1 := hH.ext.cell kr_1; have c_kr_2 := hH.ext.cell kr_2
   have c_kr_l := Nat.lt_of_lt_of_le kr_l hH.ext.size
   go_wp2_with fail
   clear q0_0 q0_1 q0_2 q0_3 q0_4 l0_ q2_0 q2_1 q2_2 l2_ q5_0 q5_1 q5_2 q5_3 q5_4 l5_ c_kr_0 c_kr_1 c_kr_2 c_kr_l
   refine (makeSize_any _ l 102 0 ((m : Int) - 1) _ (hC.ext hH.ext) (by omega) (by omega)).mono ?_; rintro ewn9 wn9 ⟨zj, rfl, hzj, hwn9⟩
   obtain ⟨pj, rfl⟩ := Int.eq_ofNat_of_zero_le hzj.1
   have hpj : pj < m := by omega
   clear hzj
   replace hH : Held wN wn9 [aB (wN.heap.size) 29 [.int .i64 k, .int .i64 p, .int .i64 n, .slice aV m cV, .slice aO op.length cO], aT (.agg #[.slice p1 n1 d1, .slice p2 n2 d2, .slice p3 n3 d3]) op (op.map dimOf) RX, aB (wn4.heap.size) 32 [.slice p1 n1 d1, .slice p2 n2 d2, .slice p3 n3 d3], aTs (.slice aS mS cS) csS (us.map (tenOf dimOf)), aI (.slice aOS op.length cOS) op, aB (wn6.heap.size) 29 [.int .i64 k, .int .i64 p, .int .i64 n, .slice aS mS cS, .slice aOS op.length cOS]] := hH.grow hwn9
   clear hwn9
   obtain ⟨q0_0, q0_1, q0_2, q0_3, q0_4, l0_⟩ := hH.c5 0 rfl; obtain ⟨q2_0, q2_1, q2_2, l2_⟩ := hH.c3 2 rfl; obtain ⟨q5_0, q5_1, q5_2, q5_3, q5_4, l5_⟩ := hH.c5 5 rfl; have c_kr_0 := hH.ext.cell kr_0; have c_kr_1 := hH.ext.cell kr_1; have c_kr_2 := hH.ext.cell kr_2
   have c_kr_l := Nat.lt_of_lt_of_le kr_l hH.ext.size
   go_wp2_with fail
   clear q0_0 q0_1 q0_2 q0_3 q0_4 l0_ q2_0 q2_1 q2_2 l2_ q5_0 q5_1 q5_2 q5_3 q5_4 l5_ c_kr_0 c_kr_1 c_kr_2 c_kr_l
   obtain ⟨wd, hwd⟩ : ∃ q, q = wn9 := ⟨_, rfl⟩
   clear hwd wd
   rcases Nat.lt_trichotomy pi pj with hlt | heq | hlt
   ·
    have hMK := mrg_ok HR.out HN.out (i := pi) (j := pj) (by omega) (by rw [HM.out]; omega) (by rw [HM.out]; omega)
    have hML := mrgL_len HR.out (dm := dimOf) (ts := ts) (op := op) (i := pi) (j := pj) (by omega) (by rw [HM.out]; omega) (by rw [HM.out]; omega)
    rw [HM.out] at hML
    refine (mergeTensors_lt HR.out HN.out _ _ _ (hT0.ext hH.ext) (hO.ext hH.ext) pi pj (by rw [HM.out]; exact hpi) (by rw [HM.out]; exact hpj) hlt).mono ?_; rintro ewn10 wn10 ⟨tvM, ovM, csM, rfl, hJ⟩
    obtain ⟨MM, hMM⟩ : ∃ q, mrgL HR.out dimOf ts op pi pj = q := ⟨_, rfl⟩
    rw [hMM] at hJ hMK hML
    obtain ⟨mM, hmM⟩ : ∃ q, MM.length = q := ⟨_, rfl⟩
    obtain ⟨aM, cM, hvb, _, _⟩ := (hJ.tensS (k := 0) rfl).val
    rw [List.length_map, hmM] at hvb
    subst hvb
    obtain ⟨aOM, cOM, rfl⟩ := (hJ.own (k := 1) rfl).shape1 op.length rfl
    rw [hmM] at hML
    have HMN := Lib.hid hMK.1
    have HMV : Hid (RX = flat (netXs HR.out dimOf MM op)) := Lib.hid (by rw [hMK.2, HRX.out])
    clear hMK hmM hMM
    replace hH : Held wN wn10 [aB (wN.heap.size) 29 [.int .i64 k, .int .i64 p, .int .i64 n, .slice aV m cV, .slice aO op.length cO], aT (.agg #[.slice p1 n1 d1, .slice p2 n2 d2, .slice p3 n3 d3]) op (op.map dimOf) RX, aB (wn4.heap.size) 32 [.slice p1 n1 d1, .slice p2 n2 d2, .slice p3 n3 d3], aTs (.slice aS mS cS) csS (us.map (tenOf dimOf)), aI (.slice aOS op.length cOS) op, aB (wn6.heap.size) 29 [.int .i64 k, .int .i64 p, .int .i64 n, .slice aS mS cS, .slice aOS op.length cOS], aTs (.slice aM mM cM) csM (MM.map (tenOf dimOf)), aI (.slice aOM op.length cOM) op] := hH.join hJ (fun q hq => by cases hq)
    clear hJ
    have hnb : ((pi : Int) == (pj : Int)) = false := by rw [beq_eq_false_iff_ne]; omega
    have hne : ¬ (pi : Int) = (pj : Int) := by omega
    have hbn : ((pi : Int) != (pj : Int)) = true := by rw [bne_iff_ne]; exact hne
    have hnn : ¬ pi = pj := by omega
    have hm1 : m = mM + 1 := by omega
    have HM1 := Lib.hid hm1; clear hm1 hML hlt
    obtain ⟨q0_0, q0_1, q0_2, q0_3, q0_4, l0_⟩ := hH.c5 0 rfl; obtain ⟨q2_0, q2_1, q2_2, l2_⟩ := hH.c3 2 rfl; obtain ⟨q5_0, q5_1, q5_2, q5_3, q5_4, l5_⟩ := hH.c5 5 rfl; have c_kr_0 := hH.ext.cell kr_0; have c_kr_1 := hH.ext.cell kr_1; have c_kr_2 := hH.ext.cell kr_2
    have c_kr_l := Nat.lt_of_lt_of_le kr_l hH.ext.size
    go_upto_region 15 with fail
    clear q0_0 q0_1 q0_2 q0_3 q0_4 l0_ q2_0 q2_1 q2_2 l2_ q5_0 q5_1 q5_2 q5_3 q5_4 l5_ c_kr_0 c_kr_1 c_kr_2 c_kr_l
    have hB : Held wN (wn10.alloc (.cells #[.int .i64 k, .int .i64 p, .int .i64 n, .slice aM mM cM, .slice aOM op.length cOM] 29)) [aB (wN.heap.size) 29 [.int .i64 k, .int .i64 p, .int .i64 n, .slice aV m cV, .slice aO op.length cO], aT (.agg #[.slice p1 n1 d1, .slice p2 n2 d2, .slice p3 n3 d3]) op (op.map dimOf) RX, aB (wn4.heap.size) 32 [.slice p1 n1 d1, .slice p2 n2 d2, .slice p3 n3 d3], aTs (.slice aS mS cS) csS (us.map (tenOf dimOf)), aI (.slice aOS op.length cOS) op, aB (wn6.heap.size) 29 [.int .i64 k, .int .i64 p, .int .i64 n, .slice aS mS cS, .slice aOS op.length cOS], aTs (.slice aM mM cM) csM (MM.map (tenOf dimOf)), aI (.slice aOM op.length cOM) op, aB (wn10.heap.size) 29 [.int .i64 k, .int .i64 p, .int .i64 n, .slice aM mM cM, .slice aOM op.length cOM]] := by
     have h := (hH.mores 1).addB 8 #[.int .i64 k, .int .i64 p, .int .i64 n, .slice aM mM cM, .slice aOM op.length cOM] 29
     exact h
    have hsz : (wn10.alloc (.cells #[.int .i64 k, .int .i64 p, .int .i64 n, .slice aM mM cM, .slice aOM op.length cOM] 29)).heap.size = wn10.heap.size + 1 := by simp
    generalize wn10.alloc (.cells #[.int .i64 k, .int .i64 p, .int .i64 n, .slice aM mM cM, .slice aOM op.length cOM] 29) = wn11 at hB hsz ⊢
    replace hH := hB; have HSZwn11 := Lib.hid hsz; clear hB hsz
    obtain ⟨we, rfl⟩ : ∃ q, q = wn11 := ⟨wn11, rfl⟩
    obtain ⟨q0_0, q0_1, q0_2, q0_3, q0_4, l0_⟩ := hH.c5 0 rfl; obtain ⟨q2_0, q2_1, q2_2, l2_⟩ := hH.c3 2 rfl; obtain ⟨q5_0, q5_1, q5_2, q5_3, q5_4, l5_⟩ := hH.c5 5 rfl; obtain ⟨q8_0, q8_1, q8_2, q8_3, q8_4, l8_⟩ := hH.c5 8 rfl; have c_kr_0 := hH.ext.cell kr_0; have c_kr_1 := hH.ext.cell kr_1; have c_kr_2 := hH.ext.cell kr_2
    have c_kr_l := Nat.lt_of_lt_of_le kr_l hH.ext.size
    go_wp2_with fail
    clear q0_0 q0_1 q0_2 q0_3 q0_4 l0_ q2_0 q2_1 q2_2 l2_ q5_0 q5_1 q5_2 q5_3 q5_4 l5_ q8_0 q8_1 q8_2 q8_3 q8_4 l8_ c_kr_0 c_kr_1 c_kr_2 c_kr_l
    refine (gives_any HR.out HMN.out _ _ _ (hH.tensS (k := 6) rfl) (hH.ints (k := 7) rfl) _ _ (hH.tens (k := 1) rfl) HMV.out).mono ?_; rintro ewn12 wn12 ⟨rfl, hwn12⟩
    replace hH : Held wN wn12 [aB (wN.heap.size) 29 [.int .i64 k, .int .i64 p, .int .i64 n, .slice aV m cV, .slice aO op.length cO], aT (.agg #[.slice p1 n1 d1, .slice p2 n2 d2, .slice p3 n3 d3]) op (op.map dimOf) RX, aB (wn4.heap.size) 32 [.slice p1 n1 d1, .slice p2 n2 d2, .slice p3 n3 d3], aTs (.slice aS mS cS) csS (us.map (tenOf dimOf)), aI (.slice aOS op.length cOS) op, aB (wn6.heap.size) 29 [.int .i64 k, .int .i64 p, .int .i64 n, .slice aS mS cS, .slice aOS op.length cOS], aTs (.slice aM mM cM) csM (MM.map (tenOf dimOf)), aI (.slice aOM op.length cOM) op, aB (wn10.heap.size) 29 [.int .i64 k, .int .i64 p, .int .i64 n, .slice aM mM cM, .slice aOM op.length cOM]] := hH.grow hwn12
    clear hwn12
    have hkm : ((mM : Int) == (m : Int) - 1) = true := by have h := HM1.out; rw [beq_iff_eq]; omega
    obtain ⟨q0_0, q0_1, q0_2, q0_3, q0_4, l0_⟩ := hH.c5 0 rfl; obtain ⟨q2_0, q2_1, q2_2, l2_⟩ := hH.c3 2 rfl; obtain ⟨q5_0, q5_1, q5_2, q5_3, q5_4, l5_⟩ := hH.c5 5 rfl; obtain ⟨q8_0, q8_1, q8_2, q8_3, q8_4, l8_⟩ := hH.c5 8 rfl; have c_kr_0 := hH.ext.cell kr_0; have c_kr_1 := hH.ext.cell kr_1; have c_kr_2 := hH.ext.cell kr_2
    have c_kr_l := Nat.lt_of_lt_of_le kr_l hH.ext.size
    have HE := Lib.hid (E0.trans hH.ext); clear hH
    go_wp2
    go_ret
    exact ⟨rfl, HE.out⟩
   ·
    subst heq
    have hnb : ((pi : Int) == (pi : Int)) = true := by simp
    refine (mergeTensors_eq HR.out HN.out _ _ _ (hT0.ext hH.ext) (hO.ext hH.ext) pi (by rw [HM.out]; exact hpi)).mono ?_; rintro ewn13 wn13 ⟨rfl, hwn13⟩
    replace hH : Held wN wn13 [aB (wN.heap.size) 29 [.int .i64 k, .int .i64 p, .int .i64 n, .slice aV m cV, .slice aO op.length cO], aT (.agg #[.slice p1 n1 d1, .slice p2 n2 d2, .slice p3 n3 d3]) op (op.map dimOf) RX, aB (wn4.heap.size) 32 [.slice p1 n1 d1, .slice p2 n2 d2, .slice p3 n3 d3], aTs (.slice aS mS cS) csS (us.map (tenOf dimOf)), aI (.slice aOS op.length cOS) op, aB (wn6.heap.size) 29 [.int .i64 k, .int .i64 p, .int .i64 n, .slice aS mS cS, .slice aOS op.length cOS]] := hH.grow hwn13
    clear hwn13
    obtain ⟨q0_0, q0_1, q0_2, q0_3, q0_4, l0_⟩ := hH.c5 0 rfl; obtain ⟨q2_0, q2_1, q2_2, l2_⟩ := hH.c3 2 rfl; obtain ⟨q5_0, q5_1, q5_2, q5_3, q5_4, l5_⟩ := hH.c5 5 rfl; have c_kr_0 := hH.ext.cell kr_0; have c_kr_1 := hH.ext.cell kr_1; have c_kr_2 := hH.ext.cell kr_2
    have c_kr_l := Nat.lt_of_lt_of_le kr_l hH.ext.size
    go_upto_region 15 with fail
    clear q0_0 q0_1 q0_2 q0_3 q0_4 l0_ q2_0 q2_1 q2_2 l2_ q5_0 q5_1 q5_2 q5_3 q5_4 l5_ c_kr_0 c_kr_1 c_kr_2 c_kr_l
    have hB : Held wN (wn13.alloc (.cells #[.int .i64 0, .int .i64 0, .int .i64 0, .slice none 0 0, .slice none 0 0] 29)) [aB (wN.heap.size) 29 [.int .i64 k, .int .i64 p, .int .i64 n, .slice aV m cV, .slice aO op.length cO], aT (.agg #[.slice p1 n1 d1, .slice p2 n2 d2, .slice p3 n3 d3]) op (op.map dimOf) RX, aB (wn4.heap.size) 32 [.slice p1 n1 d1, .slice p2 n2 d2, .slice p3 n3 d3], aTs (.slice aS mS cS) csS (us.map (tenOf dimOf)), aI (.slice aOS op.length cOS) op, aB (wn6.heap.size) 29 [.int .i64 k, .int .i64 p, .int .i64 n, .slice aS mS cS, .slice aOS op.length cOS], aB (wn13.heap.size) 29 [.int .i64 0, .int .i64 0, .int .i64 0, .slice none 0 0, .slice none 0 0]] := by
     have h := (hH.mores 1).addB 6 #[.int .i64 0, .int .i64 0, .int .i64 0, .slice none 0 0, .slice none 0 0] 29
     exact h
    have hsz : (wn13.alloc (.cells #[.int .i64 0, .int .i64 0, .int .i64 0, .slice none 0 0, .slice none 0 0] 29)).heap.size = wn13.heap.size + 1 := by simp
    generalize wn13.alloc (.cells #[.int .i64 0, .int .i64 0, .int .i64 0, .slice none 0 0, .slice none 0 0] 29) = wn14 at hB hsz ⊢
    replace hH := hB; have HSZwn14 := Lib.hid hsz; clear hB hsz
    obtain ⟨we, rfl⟩ : ∃ q, q = wn14 := ⟨wn14, rfl⟩
    obtain ⟨q0_0, q0_1, q0_2, q0_3, q0_4, l0_⟩ := hH.c5 0 rfl; obtain ⟨q2_0, q2_1, q2_2, l2_⟩ := hH.c3 2 rfl; obtain ⟨q5_0, q5_1, q5_2, q5_3, q5_4, l5_⟩ := hH.c5 5 rfl; obtain ⟨q6_0, q6_1, q6_2, q6_3, q6_4, l6_⟩ := hH.c5 6 rfl; have c_kr_0 := hH.ext.cell kr_0; have c_kr_1 := hH.ext.cell kr_1; have c_kr_2 := hH.ext.cell kr_2
    have c_kr_l := Nat.lt_of_lt_of_le kr_l hH.ext.size
    have HE := Lib.hid (E0.trans hH.ext); clear hH
    go_wp2
    go_ret
    exact ⟨rfl, HE.out⟩
   ·
    have hMK := mrg_ok HR.out HN.out (i := pj) (j := pi) (by omega) (by rw [HM.out]; omega) (by rw [HM.out]; omega)
    have hML := mrgL_len HR.out (dm := dimOf) (ts := ts) (op := op) (i := pj) (j := pi) (by omega) (by rw [HM.out]; omega) (by rw [HM.out]; omega)
    rw [HM.out] at hML
    refine (mergeTensors_gt HR.out HN.out _ _ _ (hT0.ext hH.ext) (hO.ext hH.ext) pi pj (by rw [HM.out]; exact hpi) (by rw [HM.out]; exact hpj) hlt).mono ?_; rintro ewn15 wn15 ⟨tvM, ovM, csM, rfl, hJ⟩
    obtain ⟨MM, hMM⟩ : ∃ q, mrgL HR.out dimOf ts op pj pi = q := ⟨_, rfl⟩
    rw [hMM] at hJ hMK hML
    obtain ⟨mM, hmM⟩ : ∃ q, MM.length = q := ⟨_, rfl⟩
    obtain ⟨aM, cM, hvb, _, _⟩ := (hJ.tensS (k := 0) rfl).val
    rw [List.length_map, hmM] at hvb
    subst hvb
    obtain ⟨aOM, cOM, rfl⟩ := (hJ.own (k := 1) rfl).shape1 op.length rfl
    rw [hmM] at hML
    have HMN := Lib.hid hMK.1
    have HMV : Hid (RX = flat (netXs HR.out dimOf MM op)) := Lib.hid (by rw [hMK.2, HRX.out])
    clear hMK hmM hMM
    replace hH : Held wN wn15 [aB (wN.heap.size) 29 [.int .i64 k, .int .i64 p, .int .i64 n, .slice aV m cV, .slice aO op.length cO], aT (.agg #[.slice p1 n1 d1, .slice p2 n2 d2, .slice p3 n3 d3]) op (op.map dimOf) RX, aB (wn4.heap.size) 32 [.slice p1 n1 d1, .slice p2 n2 d2, .slice p3 n3 d3], aTs (.slice aS mS cS) csS (us.map (tenOf dimOf)), aI (.slice aOS op.length cOS) op, aB (wn6.heap.size) 29 [.int .i64 k, .int .i64 p, .int .i64 n, .slice aS mS cS, .slice aOS op.length cOS], aTs (.slice aM mM cM) csM (MM.map (tenOf dimOf)), aI (.slice aOM op.length cOM) op] := hH.join hJ (fun q hq => by cases hq)
    clear hJ
    have hnb : ((pi : Int) == (pj : Int)) = false := by rw [beq_eq_false_iff_ne]; omega
    have hne : ¬ (pi : Int) = (pj : Int) := by omega
    have hbn : ((pi : Int) != (pj : Int)) = true := by rw [bne_iff_ne]; exact hne
    have hnn : ¬ pi = pj := by omega
    have hm1 : m = mM + 1 := by omega
    have HM1 := Lib.hid hm1; clear hm1 hML hlt
    obtain ⟨q0_0, q0_1, q0_2, q0_3, q0_4, l0_⟩ := hH.c5 0 rfl; obtain ⟨q2_0, q2_1, q2_2, l2_⟩ := hH.c3 2 rfl; obtain ⟨q5_0, q5_1, q5_2, q5_3, q5_4, l5_⟩ := hH.c5 5 rfl; have c_kr_0 := hH.ext.cell kr_0; have c_kr_1 := hH.ext.cell kr_1; have c_kr_2 := hH.ext.cell kr_2
    have c_kr_l := Nat.lt_of_lt_of_le kr_l hH.ext.size
    go_upto_region 15 with fail
    clear q0_0 q0_1 q0_2 q0_3 q0_4 l0_ q2_0 q2_1 q2_2 l2_ q5_0 q5_1 q5_2 q5_3 q5_4 l5_ c_kr_0 c_kr_1 c_kr_2 c_kr_l
    have hB : Held wN (wn15.alloc (.cells #[.int .i64 k, .int .i64 p, .int .i64 n, .slice aM mM cM, .slice aOM op.length cOM] 29)) [aB (wN.heap.size) 29 [.int .i64 k, .int .i64 p, .int .i64 n, .slice aV m cV, .slice aO op.length cO], aT (.agg #[.slice p1 n1 d1, .slice p2 n2 d2, .slice p3 n3 d3]) op (op.map dimOf) RX, aB (wn4.heap.size) 32 [.slice p1 n1 d1, .slice p2 n2 d2, .slice p3 n3 d3], aTs (.slice aS mS cS) csS (us.map (tenOf dimOf)), aI (.slice aOS op.length cOS) op, aB (wn6.heap.size) 29 [.int .i64 k, .int .i64 p, .int .i64 n, .slice aS mS cS, .slice aOS op.length cOS], aTs (.slice aM mM cM) csM (MM.map (tenOf dimOf)), aI (.slice aOM op.length cOM) op, aB (wn15.heap.size) 29 [.int .i64 k, .int .i64 p, .int .i64 n, .slice aM mM cM, .slice aOM op.length cOM]] := by
     have h := (hH.mores 1).addB 8 #[.int .i64 k, .int .i64 p, .int .i64 n, .slice aM mM cM, .slice aOM op.length cOM] 29
     exact h
    have hsz : (wn15.alloc (.cells #[.int .i64 k, .int .i64 p, .int .i64 n, .slice aM mM cM, .slice aOM op.length cOM] 29)).heap.size = wn15.heap.size + 1 := by simp
    generalize wn15.alloc (.cells #[.int .i64 k, .int .i64 p, .int .i64 n, .slice aM mM cM, .slice aOM op.length cOM] 29) = wn16 at hB hsz ⊢
    replace hH := hB; have HSZwn16 := Lib.hid hsz; clear hB hsz
    obtain ⟨we, rfl⟩ : ∃ q, q = wn16 := ⟨wn16, rfl⟩
    obtain ⟨q0_0, q0_1, q0_2, q0_3, q0_4, l0_⟩ := hH.c5 0 rfl; obtain ⟨q2_0, q2_1, q2_2, l2_⟩ := hH.c3 2 rfl; obtain ⟨q5_0, q5_1, q5_2, q5_3, q5_4, l5_⟩ := hH.c5 5 rfl; obtain ⟨q8_0, q8_1, q8_2, q8_3, q8_4, l8_⟩ := hH.c5 8 rfl; have c_kr_0 := hH.ext.cell kr_0; have c_kr_1 := hH.ext.cell kr_1; have c_kr_2 := hH.ext.cell kr_2
    have c_kr_l := Nat.lt_of_lt_of_le kr_l hH.ext.size
    go_wp2_with fail
    clear q0_0 q0_1 q0_2 q0_3 q0_4 l0_ q2_0 q2_1 q2_2 l2_ q5_0 q5_1 q5_2 q5_3 q5_4 l5_ q8_0 q8_1 q8_2 q8_3 q8_4 l8_ c_kr_0 c_kr_1 c_kr_2 c_kr_l
    refine (gives_any HR.out HMN.out _ _ _ (hH.tensS (k := 6) rfl) (hH.ints (k := 7) rfl) _ _ (hH.tens (k := 1) rfl) HMV.out).mono ?_; rintro ewn17 wn17 ⟨rfl, hwn17⟩
    replace hH : Held wN wn17 [aB (wN.heap.size) 29 [.int .i64 k, .int .i64 p, .int .i64 n, .slice aV m cV, .slice aO op.length cO], aT (.agg #[.slice p1 n1 d1, .slice p2 n2 d2, .slice p3 n3 d3]) op (op.map dimOf) RX, aB (wn4.heap.size) 32 [.slice p1 n1 d1, .slice p2 n2 d2, .slice p3 n3 d3], aTs (.slice aS mS cS) csS (us.map (tenOf dimOf)), aI (.slice aOS op.length cOS) op, aB (wn6.heap.size) 29 [.int .i64 k, .int .i64 p, .int .i64 n, .slice aS mS cS, .slice aOS op.length cOS], aTs (.slice aM mM cM) csM (MM.map (tenOf dimOf)), aI (.slice aOM op.length cOM) op, aB (wn15.heap.size) 29 [.int .i64 k, .int .i64 p, .int .i64 n, .slice aM mM cM, .slice aOM op.length cOM]] := hH.grow hwn17
    clear hwn17
    have hkm : ((mM : Int) == (m : Int) - 1) = true := by have h := HM1.out; rw [beq_iff_eq]; omega
    obtain ⟨q0_0, q0_1, q0_2, q0_3, q0_4, l0_⟩ := hH.c5 0 rfl; obtain ⟨q2_0, q2_1, q2_2, l2_⟩ := hH.c3 2 rfl; obtain ⟨q5_0, q5_1, q5_2, q5_3, q5_4, l5_⟩ := hH.c5 5 rfl; obtain ⟨q8_0, q8_1, q8_2, q8_3, q8_4, l8_⟩ := hH.c5 8 rfl; have c_kr_0 := hH.ext.cell kr_0; have c_kr_1 := hH.ext.cell kr_1; have c_kr_2 := hH.ext.cell kr_2
    have c_kr_l := Nat.lt_of_lt_of_le kr_l hH.ext.size
    have HE := Lib.hid (E0.trans hH.ext); clear hH
    go_wp2
    go_ret
    exact ⟨rfl, HE.out⟩
end Go.Proofs.Ytpegckmagiaggaa
