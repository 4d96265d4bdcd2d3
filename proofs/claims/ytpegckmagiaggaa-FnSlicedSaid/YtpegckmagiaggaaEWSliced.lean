/- The law 'FnSliced', walked. -/
import Derived.Test.YtpegckmagiaggaaEBase
import Derived.Test.YtpegckmagiaggaaESliceNW
import Derived.Test.YtpegckmagiaggaaELinW
import Derived.Test.YtpegckmagiaggaaEG10
import Derived.Test.YtpegckmagiaggaaEWorthW
import Derived.Test.YtpegckmagiaggaaEG15
namespace Go.Proofs.Ytpegckmagiaggaa
open Go.RowKit
set_option linter.unusedSimpArgs false
set_option linter.unusedVariables false
/-- The object number j in the place of number i. -/
theorem HeldX.move {ex : Option Nat} {a w : World} {L : List Asn} {A : Asn} (h : HeldX ex a w L) (i j : Nat) (hj : L[j]? = some A) (hij : i ≠ j) : HeldX ex a w ((L.set j emp).set i A) := by
  have hd := h.drop j
  have hr := h.fpr hj
  refine hd.put i A.fp (Nat.le_refl _) (fun _ _ _ => rfl) (fun b hb => (hr b hb).1) hd.grown (fun q A' hq hA b hb hb' => ?_) (h.get hj) fun b hb => .inl hb
  by_cases e : q = j
  · subst e
    have hlt : q < L.length := (List.getElem?_eq_some_iff.1 hj).1
    rw [List.getElem?_set_self hlt] at hA
    obtain rfl := Option.some.inj hA
    cases hb'
  · rw [List.getElem?_set_ne (Ne.symm e)] at hA
    exact h.others hj q A' e hA b hb hb'
theorem cutL_out {l : List Int} {x : Int} (h : x ∉ l) : cutL l x = l := List.filter_eq_self.2 fun y hy => by simp; rintro rfl; exact h hy
set_option maxRecDepth 100000 in
set_option maxHeartbeats 8000000 in
theorem walkFnSliced (v : Value) (l : List Int) (w : World) (hl : ByteS w v l) (hall : ∀ x ∈ l, 0 ≤ x ∧ x ≤ 255) :
    Calls Try.prog 7 #[v] w fun e w' => e = .returned (.bool true) ∧ Ext w w' := by
  obtain ⟨ca, cap, rfl, hc1, hc2⟩ := hl.val
  by_cases big : 1048576 < l.length
  · go_enter Try.func7, Try.ntmps7
    go_wp2
    go_ret
    exact ⟨rfl, (by repeat' (first | (with_reducible exact Ext.refl _) | (with_reducible assumption) | (with_reducible apply Ext.alloc) | (with_reducible apply Ext.drew) | (with_reducible apply Ext.drewN) | (refine Ext.setAt ?_ (by omega) _ _) | (refine Ext.trans ?_ (by assumption))))⟩
  have hC : Code w (.slice ca l.length cap) l := ⟨hl, hall, by omega⟩
  clear hall hl
  have hH : Held w w [] := Held.new (Ext.refl w) 0
  go_enter Try.func7, Try.ntmps7
  go_wp2_with fail
  refine (makeRing_any _ l 0 _ (hC.ext hH.ext) (by omega)).mono ?_; rintro ewn1 wn1 ⟨k, p, n, rfl, hd, hwn1⟩
  have HR := Lib.hid (drawn_ok hd); clear hd
  replace hH : Held w wn1 [] := hH.grow hwn1
  clear hwn1
  go_wp2_with fail
  have hB : Held w (wn1.alloc (.cells #[.int .i64 k, .int .i64 p, .int .i64 n] 24)) [aB (wn1.heap.size) 24 [.int .i64 k, .int .i64 p, .int .i64 n]] := by
    have h := (hH.mores 1).addB 0 #[.int .i64 k, .int .i64 p, .int .i64 n] 24
    exact h
  have hsz : (wn1.alloc (.cells #[.int .i64 k, .int .i64 p, .int .i64 n] 24)).heap.size = wn1.heap.size + 1 := by simp
  generalize wn1.alloc (.cells #[.int .i64 k, .int .i64 p, .int .i64 n] 24) = wn2 at hB hsz ⊢
  replace hH := hB; have HSZwn2 := Lib.hid hsz; clear hB hsz
  have q0_0 := (hH.blk (k := 0) rfl).cell (j := 0) rfl
  have q0_1 := (hH.blk (k := 0) rfl).cell (j := 1) rfl
  have q0_2 := (hH.blk (k := 0) rfl).cell (j := 2) rfl
  have l0_ := (hH.blk (k := 0) rfl).lt
  go_wp2_with fail
  clear q0_0 q0_1 q0_2 l0_
  refine (makeNetwork_any _ l 10 k p n 4 HR.out (by omega) (by omega) _ (hC.ext hH.ext) (by omega)).mono ?_; rintro ewN wN ⟨tv, ov, cs, ts, op, rfl, hJ, hN, hmost⟩
  have E0 : Ext w wN := hH.ext.trans hJ.ext
  have hT : TensS wN tv (ts.map (tenOf dimOf)) := hJ.tensS (k := 0) rfl
  have hO : IntS wN ov op := hJ.ints (k := 1) rfl
  have kr_0 := ((hH.grow hJ.ext).blk (k := 0) rfl).cell (j := 0) rfl
  have kr_1 := ((hH.grow hJ.ext).blk (k := 0) rfl).cell (j := 1) rfl
  have kr_2 := ((hH.grow hJ.ext).blk (k := 0) rfl).cell (j := 2) rfl
  have kr_l := ((hH.grow hJ.ext).blk (k := 0) rfl).lt
  have hCN := hC.ext E0
  obtain ⟨m, hm⟩ : ∃ m, ts.length = m := ⟨_, rfl⟩
  obtain ⟨aV, cV, rfl, hcT1, hcT2⟩ := hT.val
  obtain ⟨aO, cO, rfl, hcO1, hcO2⟩ := hO.val
  have hT0 : TensS wN (.slice aV m cV) (ts.map (tenOf dimOf)) := by rw [List.length_map, hm] at hT; exact hT
  rw [List.length_map, hm] at hT hcT1
  rw [List.length_map, hm]
  have hm12 : m ≤ 4 := by rw [← hm]; omega
  have hop12 : op.length ≤ 12 := hN.rank
  have HM := Lib.hid hm; have HN := Lib.hid hN; have HD3 := Lib.hid hN.dims3; clear hm hN hmost hJ hC
  have hTl : Hid ((ts.map (tenOf dimOf)).length = m) := Lib.hid (by rw [List.length_map]; exact HM.out)
  clear hH
  have hC := hCN; clear hCN
  have hH : Held wN wN [] := Held.new (Ext.refl _) 0
  have c_kr_0 := hH.ext.cell kr_0
  have c_kr_1 := hH.ext.cell kr_1
  have c_kr_2 := hH.ext.cell kr_2
  have c_kr_l := Nat.lt_of_lt_of_le kr_l hH.ext.size
  go_wp2_with fail
  clear c_kr_0 c_kr_1 c_kr_2 c_kr_l
  have hB : Held wN (wN.alloc (.cells #[.int .i64 k, .int .i64 p, .int .i64 n, .slice aV m cV, .slice aO op.length cO] 29)) [aB (wN.heap.size) 29 [.int .i64 k, .int .i64 p, .int .i64 n, .slice aV m cV, .slice aO op.length cO]] := by
    have h := (hH.mores 1).addB 0 #[.int .i64 k, .int .i64 p, .int .i64 n, .slice aV m cV, .slice aO op.length cO] 29
    exact h
  have hsz : (wN.alloc (.cells #[.int .i64 k, .int .i64 p, .int .i64 n, .slice aV m cV, .slice aO op.length cO] 29)).heap.size = wN.heap.size + 1 := by simp
  generalize wN.alloc (.cells #[.int .i64 k, .int .i64 p, .int .i64 n, .slice aV m cV, .slice aO op.length cO] 29) = wn3 at hB hsz ⊢
  replace hH := hB; have HSZwn3 := Lib.hid hsz; clear hB hsz
  obtain ⟨AL, hAL⟩ : ∃ q, ascL (occ ts) = q := ⟨_, rfl⟩
  have HAM : Hid (∀ x ∈ AL, (0 ≤ x ∧ x ≤ 99) ∧ x ∈ occ ts) := Lib.hid fun x hx => by rw [← hAL] at hx; exact mem_ascL.1 hx
  have hal12 : AL.length ≤ 12 := by rw [← hAL]; exact (HN.out.uni.ax HN.out.ascSub).rank
  have UU := Lib.hid HN.out.uni
  have SO := Lib.hid HN.out.sub
  have HAL := Lib.hid hAL
  have HTX := Lib.hid (netXs_isT HR.out HN.out)
  have HFA := Lib.hid (fun (x : Int) (hx : x ∉ op) (hxo : x ∈ occ ts) (d : Nat) (hd : dimOf x = (d : Int)) => sliceAcc_all HR.out HN.out hx hxo hd)
  have HFO := Lib.hid (fun (x v : Int) (hx : x ∈ op) => net_cut_open HR.out HN.out (v := v) hx)
  obtain ⟨RX, hRX⟩ : ∃ q, netXs HR.out dimOf ts op = q := ⟨_, rfl⟩
  rw [hRX] at HTX HFA HFO
  have HRX := Lib.hid hRX
  have HZ0 := Lib.hid (fun x : Int => sliceAcc_zero HR.out dimOf ts op x)
  have HCI := Lib.hid (fun x v : Int => cut_isN HR.out HN.out x v)
  have HSI := Lib.hid (fun (x : Int) (v : Nat) => sliceAcc_isT HR.out HN.out x v)
  have HSS := Lib.hid (fun (x : Int) (v : Nat) (hx : x ∉ op) => sliceAcc_step HR.out HN.out x v (by have h := cut_isN HR.out HN.out x (v : Int); rw [cutL_out hx] at h; exact h))
  clear hAL hRX
  refine (worth_any HR.out HN.out _ _ _ (hT0.ext hH.ext) (hO.ext hH.ext)).mono ?_; rintro ewn4 wn4 ⟨uw, rfl, ow, hwn4⟩
  rw [HRX.out] at ow
  obtain ⟨wd1, we1, wf1, wd2, we2, wf2, wd3, we3, wf3, rfl⟩ := ow.shape
  obtain ⟨_, _, _, hvv, hVL, hVD, hVX⟩ := ow.tens.val
  simp at hvv
  obtain ⟨rfl, rfl, rfl⟩ := hvv
  obtain ⟨_, _, hvv, _, _⟩ := hVL.val
  cases hvv
  obtain ⟨_, _, hvv, _, _⟩ := hVD.val
  rw [List.length_map] at hvv
  cases hvv
  clear hVL hVD hVX
  replace hH : Held wN wn4 [aB (wN.heap.size) 29 [.int .i64 k, .int .i64 p, .int .i64 n, .slice aV m cV, .slice aO op.length cO], aT (.agg #[.slice wd1 op.length wf1, .slice wd2 op.length wf2, .slice wd3 we3 wf3]) op (op.map dimOf) (flat RX)] := (hH.mores 1).addT 1 hwn4 ow (Nat.le_refl _)
  clear hwn4
  have q0_0 := (hH.blk (k := 0) rfl).cell (j := 0) rfl
  have q0_1 := (hH.blk (k := 0) rfl).cell (j := 1) rfl
  have q0_2 := (hH.blk (k := 0) rfl).cell (j := 2) rfl
  have q0_3 := (hH.blk (k := 0) rfl).cell (j := 3) rfl
  have q0_4 := (hH.blk (k := 0) rfl).cell (j := 4) rfl
  have l0_ := (hH.blk (k := 0) rfl).lt
  have c_kr_0 := hH.ext.cell kr_0
  have c_kr_1 := hH.ext.cell kr_1
  have c_kr_2 := hH.ext.cell kr_2
  have c_kr_l := Nat.lt_of_lt_of_le kr_l hH.ext.size
  go_wp2_with fail
  clear q0_0 q0_1 q0_2 q0_3 q0_4 l0_ c_kr_0 c_kr_1 c_kr_2 c_kr_l
  have hB : Held wN (wn4.alloc (.cells #[.slice wd1 op.length wf1, .slice wd2 op.length wf2, .slice wd3 we3 wf3] 32)) [aB (wN.heap.size) 29 [.int .i64 k, .int .i64 p, .int .i64 n, .slice aV m cV, .slice aO op.length cO], aT (.agg #[.slice wd1 op.length wf1, .slice wd2 op.length wf2, .slice wd3 we3 wf3]) op (op.map dimOf) (flat RX), aB (wn4.heap.size) 32 [.slice wd1 op.length wf1, .slice wd2 op.length wf2, .slice wd3 we3 wf3]] := by
    have h := (hH.mores 1).addB 2 #[.slice wd1 op.length wf1, .slice wd2 op.length wf2, .slice wd3 we3 wf3] 32
    exact h
  have hsz : (wn4.alloc (.cells #[.slice wd1 op.length wf1, .slice wd2 op.length wf2, .slice wd3 we3 wf3] 32)).heap.size = wn4.heap.size + 1 := by simp
  generalize wn4.alloc (.cells #[.slice wd1 op.length wf1, .slice wd2 op.length wf2, .slice wd3 we3 wf3] 32) = wn5 at hB hsz ⊢
  replace hH := hB; have HSZwn5 := Lib.hid hsz; clear hB hsz
  have q0_0 := (hH.blk (k := 0) rfl).cell (j := 0) rfl
  have q0_1 := (hH.blk (k := 0) rfl).cell (j := 1) rfl
  have q0_2 := (hH.blk (k := 0) rfl).cell (j := 2) rfl
  have q0_3 := (hH.blk (k := 0) rfl).cell (j := 3) rfl
  have q0_4 := (hH.blk (k := 0) rfl).cell (j := 4) rfl
  have l0_ := (hH.blk (k := 0) rfl).lt
  have q2_0 := (hH.blk (k := 2) rfl).cell (j := 0) rfl
  have q2_1 := (hH.blk (k := 2) rfl).cell (j := 1) rfl
  have q2_2 := (hH.blk (k := 2) rfl).cell (j := 2) rfl
  have l2_ := (hH.blk (k := 2) rfl).lt
  have c_kr_0 := hH.ext.cell kr_0
  have c_kr_1 := hH.ext.cell kr_1
  have c_kr_2 := hH.ext.cell kr_2
  have c_kr_l := Nat.lt_of_lt_of_le kr_l hH.ext.size
  go_wp2_with fail
  clear q0_0 q0_1 q0_2 q0_3 q0_4 l0_ q2_0 q2_1 q2_2 l2_ c_kr_0 c_kr_1 c_kr_2 c_kr_l
  refine (labelsOf_any HR.out HN.out _ _ _ (hT.ext hH.ext) (hO.ext hH.ext)).mono ?_; rintro ewn6 wn6 ⟨u, rfl, hJ⟩
  rw [HAL.out] at hJ
  obtain ⟨al, cl, rfl⟩ := (hJ.own (k := 0) rfl).shape1 AL.length rfl
  replace hH : Held wN wn6 [aB (wN.heap.size) 29 [.int .i64 k, .int .i64 p, .int .i64 n, .slice aV m cV, .slice aO op.length cO], aT (.agg #[.slice wd1 op.length wf1, .slice wd2 op.length wf2, .slice wd3 we3 wf3]) op (op.map dimOf) (flat RX), aB (wn4.heap.size) 32 [.slice wd1 op.length wf1, .slice wd2 op.length wf2, .slice wd3 we3 wf3], aI (.slice al AL.length cl) AL] := hH.join hJ (fun q hq => by cases hq)
  clear hJ
  have q0_0 := (hH.blk (k := 0) rfl).cell (j := 0) rfl
  have q0_1 := (hH.blk (k := 0) rfl).cell (j := 1) rfl
  have q0_2 := (hH.blk (k := 0) rfl).cell (j := 2) rfl
  have q0_3 := (hH.blk (k := 0) rfl).cell (j := 3) rfl
  have q0_4 := (hH.blk (k := 0) rfl).cell (j := 4) rfl
  have l0_ := (hH.blk (k := 0) rfl).lt
  have q2_0 := (hH.blk (k := 2) rfl).cell (j := 0) rfl
  have q2_1 := (hH.blk (k := 2) rfl).cell (j := 1) rfl
  have q2_2 := (hH.blk (k := 2) rfl).cell (j := 2) rfl
  have l2_ := (hH.blk (k := 2) rfl).lt
  have c_kr_0 := hH.ext.cell kr_0
  have c_kr_1 := hH.ext.cell kr_1
  have c_kr_2 := hH.ext.cell kr_2
  have c_kr_l := Nat.lt_of_lt_of_le kr_l hH.ext.size
  go_wp2_with fail
  clear q0_0 q0_1 q0_2 q0_3 q0_4 l0_ q2_0 q2_1 q2_2 l2_ c_kr_0 c_kr_1 c_kr_2 c_kr_l
  refine (labelsOf_spec HR.out HN.out _ _ _ (hT0.ext hH.ext) (hO.ext hH.ext)).mono ?_; rintro ewn7 wn7 ⟨vl, rfl, ol, hwn7⟩
  rw [HAL.out] at ol
  obtain ⟨al2, cl2, rfl⟩ := ol.shape1 AL.length rfl
  replace hH : Held wN wn7 [aB (wN.heap.size) 29 [.int .i64 k, .int .i64 p, .int .i64 n, .slice aV m cV, .slice aO op.length cO], aT (.agg #[.slice wd1 op.length wf1, .slice wd2 op.length wf2, .slice wd3 we3 wf3]) op (op.map dimOf) (flat RX), aB (wn4.heap.size) 32 [.slice wd1 op.length wf1, .slice wd2 op.length wf2, .slice wd3 we3 wf3], aI (.slice al AL.length cl) AL] := hH.grow hwn7
  clear hwn7
  have q0_0 := (hH.blk (k := 0) rfl).cell (j := 0) rfl
  have q0_1 := (hH.blk (k := 0) rfl).cell (j := 1) rfl
  have q0_2 := (hH.blk (k := 0) rfl).cell (j := 2) rfl
  have q0_3 := (hH.blk (k := 0) rfl).cell (j := 3) rfl
  have q0_4 := (hH.blk (k := 0) rfl).cell (j := 4) rfl
  have l0_ := (hH.blk (k := 0) rfl).lt
  have q2_0 := (hH.blk (k := 2) rfl).cell (j := 0) rfl
  have q2_1 := (hH.blk (k := 2) rfl).cell (j := 1) rfl
  have q2_2 := (hH.blk (k := 2) rfl).cell (j := 2) rfl
  have l2_ := (hH.blk (k := 2) rfl).lt
  have c_kr_0 := hH.ext.cell kr_0
  have c_kr_1 := hH.ext.cell kr_1
  have c_kr_2 := hH.ext.cell kr_2
  have c_kr_l := Nat.lt_of_lt_of_le kr_l hH.ext.size
  go_wp2_with fail
  clear q0_0 q0_1 q0_2 q0_3 q0_4 l0_ q2_0 q2_1 q2_2 l2_ c_kr_0 c_kr_1 c_kr_2 c_kr_l
  go_loopw [38] (fun i wr => ∃ j : Nat, j ≤ AL.length ∧ i = .int .i64 (j : Int) ∧ Held wN wr [aB (wN.heap.size) 29 [.int .i64 k, .int .i64 p, .int .i64 n, .slice aV m cV, .slice aO op.length cO], aT (.agg #[.slice wd1 op.length wf1, .slice wd2 op.length wf2, .slice wd3 we3 wf3]) op (op.map dimOf) (flat RX), aB (wn4.heap.size) 32 [.slice wd1 op.length wf1, .slice wd2 op.length wf2, .slice wd3 we3 wf3], aI (.slice al AL.length cl) AL]) (fun i wr => AL.length - (RowKit.intOf i).toNat)
  case atStart => exact ⟨0, Nat.zero_le _, rfl, hH⟩
  case round =>
    clear hH
    obtain ⟨j, hj, rfl, hH⟩ := hrel
    obtain ⟨wq, rfl⟩ : ∃ q, q = wr := ⟨wr, rfl⟩
    by_cases hlt : j < AL.length
    · skip
      obtain ⟨bA, oA, x, rfl, hcx, hx, _⟩ := (hH.ints (k := 3) rfl).get hlt
      obtain ⟨⟨hx0, hx1⟩, hxo⟩ := HAM.out x (List.mem_of_getElem? hx)
      obtain ⟨c, rfl⟩ : ∃ c : Nat, x = (c : Int) := ⟨x.toNat, by omega⟩
      have hc : c < 100 := by omega
      have hdc := HN.out.opDim hxo
      obtain ⟨d, hd⟩ : ∃ d : Nat, dimOf (c : Int) = (d : Int) := ⟨(dimOf (c : Int)).toNat, by omega⟩
      have hd1 : 1 ≤ d := by omega
      have hd8 : d ≤ 8 := by omega
      have HD := Lib.hid hd
      have HXO := Lib.hid hxo
      have HXH := Lib.hid ((hasL_iff _ _).2 hxo)
      clear hx hxo hdc hd
      have q0_0 := (hH.blk (k := 0) rfl).cell (j := 0) rfl
      have q0_1 := (hH.blk (k := 0) rfl).cell (j := 1) rfl
      have q0_2 := (hH.blk (k := 0) rfl).cell (j := 2) rfl
      have q0_3 := (hH.blk (k := 0) rfl).cell (j := 3) rfl
      have q0_4 := (hH.blk (k := 0) rfl).cell (j := 4) rfl
      have l0_ := (hH.blk (k := 0) rfl).lt
      have q2_0 := (hH.blk (k := 2) rfl).cell (j := 0) rfl
      have q2_1 := (hH.blk (k := 2) rfl).cell (j := 1) rfl
      have q2_2 := (hH.blk (k := 2) rfl).cell (j := 2) rfl
      have l2_ := (hH.blk (k := 2) rfl).lt
      have c_kr_0 := hH.ext.cell kr_0
      have c_kr_1 := hH.ext.cell kr_1
      have c_kr_2 := hH.ext.cell kr_2
      have c_kr_l := Nat.lt_of_lt_of_le kr_l hH.ext.size
      go_wp2_with fail
      clear q0_0 q0_1 q0_2 q0_3 q0_4 l0_ q2_0 q2_1 q2_2 l2_ c_kr_0 c_kr_1 c_kr_2 c_kr_l
      clear hcx
      refine (zeroT_any HR.out UU.out SO.out _ _ _ (by have h := (hH.parts (k := 1) rfl).1.ints; exact h) (by have h := (hH.parts (k := 1) rfl).2.1.ints; exact h)).mono ?_; rintro ewn8 wn8 ⟨v9, rfl, o9, hwn8⟩
      rw [← HZ0.out (c : Int)] at o9
      obtain ⟨p1, n1, d1, p2, n2, d2, p3, n3, d3, rfl⟩ := o9.shape
      replace hH : Held wN wn8 [aB (wN.heap.size) 29 [.int .i64 k, .int .i64 p, .int .i64 n, .slice aV m cV, .slice aO op.length cO], aT (.agg #[.slice wd1 op.length wf1, .slice wd2 op.length wf2, .slice wd3 we3 wf3]) op (op.map dimOf) (flat RX), aB (wn4.heap.size) 32 [.slice wd1 op.length wf1, .slice wd2 op.length wf2, .slice wd3 we3 wf3], aI (.slice (some ⟨bA, oA, none⟩) AL.length cl) AL, aT (.agg #[.slice p1 n1 d1, .slice p2 n2 d2, .slice p3 n3 d3]) op (op.map dimOf) (flat (sliceAcc HR.out dimOf ts op (c : Int) 0))] := (hH.mores 1).addT 4 hwn8 o9 (Nat.le_refl _)
      clear hwn8
      have q0_0 := (hH.blk (k := 0) rfl).cell (j := 0) rfl
      have q0_1 := (hH.blk (k := 0) rfl).cell (j := 1) rfl
      have q0_2 := (hH.blk (k := 0) rfl).cell (j := 2) rfl
      have q0_3 := (hH.blk (k := 0) rfl).cell (j := 3) rfl
      have q0_4 := (hH.blk (k := 0) rfl).cell (j := 4) rfl
      have l0_ := (hH.blk (k := 0) rfl).lt
      have q2_0 := (hH.blk (k := 2) rfl).cell (j := 0) rfl
      have q2_1 := (hH.blk (k := 2) rfl).cell (j := 1) rfl
      have q2_2 := (hH.blk (k := 2) rfl).cell (j := 2) rfl
      have l2_ := (hH.blk (k := 2) rfl).lt
      have c_kr_0 := hH.ext.cell kr_0
      have c_kr_1 := hH.ext.cell kr_1
      have c_kr_2 := hH.ext.cell kr_2
      have c_kr_l := Nat.lt_of_lt_of_le kr_l hH.ext.size
      go_upto_region 13 with fail
      clear q0_0 q0_1 q0_2 q0_3 q0_4 l0_ q2_0 q2_1 q2_2 l2_ c_kr_0 c_kr_1 c_kr_2 c_kr_l
      have hB : Held wN (wn8.alloc (.cells #[.slice p1 n1 d1, .slice p2 n2 d2, .slice p3 n3 d3] 32)) [aB (wN.heap.size) 29 [.int .i64 k, .int .i64 p, .int .i64 n, .slice aV m cV, .slice aO op.length cO], aT (.agg #[.slice wd1 op.length wf1, .slice wd2 op.length wf2, .slice wd3 we3 wf3]) op (op.map dimOf) (flat RX), aB (wn4.heap.size) 32 [.slice wd1 op.length wf1, .slice wd2 op.length wf2, .slice wd3 we3 wf3], aI (.slice (some ⟨bA, oA, none⟩) AL.length cl) AL, aT (.agg #[.slice p1 n1 d1, .slice p2 n2 d2, .slice p3 n3 d3]) op (op.map dimOf) (flat (sliceAcc HR.out dimOf ts op (c : Int) 0)), aB (wn8.heap.size) 32 [.slice p1 n1 d1, .slice p2 n2 d2, .slice p3 n3 d3]] := by
        have h := (hH.mores 1).addB 5 #[.slice p1 n1 d1, .slice p2 n2 d2, .slice p3 n3 d3] 32
        exact h
      have hsz : (wn8.alloc (.cells #[.slice p1 n1 d1, .slice p2 n2 d2, .slice p3 n3 d3] 32)).heap.size = wn8.heap.size + 1 := by simp
      generalize wn8.alloc (.cells #[.slice p1 n1 d1, .slice p2 n2 d2, .slice p3 n3 d3] 32) = wn9 at hB hsz ⊢
      replace hH := hB; have HSZwn9 := Lib.hid hsz; clear hB hsz
      have q0_0 := (hH.blk (k := 0) rfl).cell (j := 0) rfl
      have q0_1 := (hH.blk (k := 0) rfl).cell (j := 1) rfl
      have q0_2 := (hH.blk (k := 0) rfl).cell (j := 2) rfl
      have q0_3 := (hH.blk (k := 0) rfl).cell (j := 3) rfl
      have q0_4 := (hH.blk (k := 0) rfl).cell (j := 4) rfl
      have l0_ := (hH.blk (k := 0) rfl).lt
      have q2_0 := (hH.blk (k := 2) rfl).cell (j := 0) rfl
      have q2_1 := (hH.blk (k := 2) rfl).cell (j := 1) rfl
      have q2_2 := (hH.blk (k := 2) rfl).cell (j := 2) rfl
      have l2_ := (hH.blk (k := 2) rfl).lt
      have q5_0 := (hH.blk (k := 5) rfl).cell (j := 0) rfl
      have q5_1 := (hH.blk (k := 5) rfl).cell (j := 1) rfl
      have q5_2 := (hH.blk (k := 5) rfl).cell (j := 2) rfl
      have l5_ := (hH.blk (k := 5) rfl).lt
      have c_kr_0 := hH.ext.cell kr_0
      have c_kr_1 := hH.ext.cell kr_1
      have c_kr_2 := hH.ext.cell kr_2
      have c_kr_l := Nat.lt_of_lt_of_le kr_l hH.ext.size
      go_wp2_with fail
      clear q0_0 q0_1 q0_2 q0_3 q0_4 l0_ q2_0 q2_1 q2_2 l2_ q5_0 q5_1 q5_2 l5_ c_kr_0 c_kr_1 c_kr_2 c_kr_l
      by_cases hxop : (c : Int) ∈ op
      · skip
        have HXP := Lib.hid hxop; clear hxop
        have HIN := Lib.hid ((hasL_iff _ _).2 HXP.out)
        have HCUT := Lib.hid (fun v : Int => HFO.out (c : Int) v HXP.out)
        replace hH := hH.drop 4
        go_loopw [11] (fun i wr => ∃ (v : Nat) (s1 s2 s3 : Value), v ≤ d ∧ i = .int .i64 (v : Int) ∧ Hid (0 < v → s1 = .slice wd1 op.length wf1 ∧ s2 = .slice wd2 op.length wf2 ∧ s3 = .slice wd3 we3 wf3) ∧ Held wN wr [aB (wN.heap.size) 29 [.int .i64 k, .int .i64 p, .int .i64 n, .slice aV m cV, .slice aO op.length cO], aT (.agg #[.slice wd1 op.length wf1, .slice wd2 op.length wf2, .slice wd3 we3 wf3]) op (op.map dimOf) (flat RX), aB (wn4.heap.size) 32 [.slice wd1 op.length wf1, .slice wd2 op.length wf2, .slice wd3 we3 wf3], aI (.slice (some ⟨bA, oA, none⟩) AL.length cl) AL, emp, aB (wn8.heap.size) 32 [s1, s2, s3]]) (fun i wr => d - (RowKit.intOf i).toNat)
        case atStart => exact ⟨0, _, _, _, Nat.zero_le _, rfl, Lib.hid fun h => absurd h (Nat.lt_irrefl 0), hH⟩
        case round =>
          clear hH
          obtain ⟨v, s1, s2, s3, hv, rfl, HSW, hH⟩ := hrel
          obtain ⟨wv, rfl⟩ : ∃ q, q = wr := ⟨wr, rfl⟩
          have q0_0 := (hH.blk (k := 0) rfl).cell (j := 0) rfl
          have q0_1 := (hH.blk (k := 0) rfl).cell (j := 1) rfl
          have q0_2 := (hH.blk (k := 0) rfl).cell (j := 2) rfl
          have q0_3 := (hH.blk (k := 0) rfl).cell (j := 3) rfl
          have q0_4 := (hH.blk (k := 0) rfl).cell (j := 4) rfl
          have l0_ := (hH.blk (k := 0) rfl).lt
          have q2_0 := (hH.blk (k := 2) rfl).cell (j := 0) rfl
          have q2_1 := (hH.blk (k := 2) rfl).cell (j := 1) rfl
          have q2_2 := (hH.blk (k := 2) rfl).cell (j := 2) rfl
          have l2_ := (hH.blk (k := 2) rfl).lt
          have q5_0 := (hH.blk (k := 5) rfl).cell (j := 0) rfl
          have q5_1 := (hH.blk (k := 5) rfl).cell (j := 1) rfl
          have q5_2 := (hH.blk (k := 5) rfl).cell (j := 2) rfl
          have l5_ := (hH.blk (k := 5) rfl).lt
          have c_kr_0 := hH.ext.cell kr_0
          have c_kr_1 := hH.ext.cell kr_1
          have c_kr_2 := hH.ext.cell kr_2
          have c_kr_l := Nat.lt_of_lt_of_le kr_l hH.ext.size
          go_wp2_with fail
          clear q0_0 q0_1 q0_2 q0_3 q0_4 l0_ q2_0 q2_1 q2_2 l2_ q5_0 q5_1 q5_2 l5_ c_kr_0 c_kr_1 c_kr_2 c_kr_l
          refine (dimOf_any HR.out HN.out _ _ _ (hT.ext hH.ext) (hO.ext hH.ext) c hc).mono ?_; rintro ewn10 wn10 ⟨rfl, hwn10⟩
          rw [if_pos HXH.out, HD.out]
          replace hH : Held wN wn10 [aB (wN.heap.size) 29 [.int .i64 k, .int .i64 p, .int .i64 n, .slice aV m cV, .slice aO op.length cO], aT (.agg #[.slice wd1 op.length wf1, .slice wd2 op.length wf2, .slice wd3 we3 wf3]) op (op.map dimOf) (flat RX), aB (wn4.heap.size) 32 [.slice wd1 op.length wf1, .slice wd2 op.length wf2, .slice wd3 we3 wf3], aI (.slice (some ⟨bA, oA, none⟩) AL.length cl) AL, emp, aB (wn8.heap.size) 32 [s1, s2, s3]] := hH.grow hwn10
          clear hwn10
          by_cases hlv : v < d
          · skip
            have hvd : (v : Int) < dimOf (c : Int) := by rw [HD.out]; omega
            have HVD := Lib.hid hvd; clear hvd
            have HCN := Lib.hid (HCI.out (c : Int) (v : Int))
            obtain ⟨CT, hCT⟩ : ∃ q, ts.map (cutT HR.out dimOf (c : Int) (v : Int)) = q := ⟨_, rfl⟩
            have HCL : Hid (CT.length = m) := Lib.hid (by rw [← hCT, List.length_map]; exact HM.out)
            have hcv := HCUT.out (v : Int)
            have hcv2 := hcv.resolve_right (fun h => h ⟨by omega, HVD.out⟩)
            obtain ⟨OC, hOC⟩ : ∃ q, cutL op (c : Int) = q := ⟨_, rfl⟩
            rw [hCT, hOC] at HCN hcv2
            have HCV := Lib.hid hcv2; have HOC := Lib.hid hOC; clear hcv hcv2 hOC
            have HCT := Lib.hid hCT; clear hCT
            have hv0 : (0 : Int) ≤ (v : Int) := by omega
            have q0_0 := (hH.blk (k := 0) rfl).cell (j := 0) rfl
            have q0_1 := (hH.blk (k := 0) rfl).cell (j := 1) rfl
            have q0_2 := (hH.blk (k := 0) rfl).cell (j := 2) rfl
            have q0_3 := (hH.blk (k := 0) rfl).cell (j := 3) rfl
            have q0_4 := (hH.blk (k := 0) rfl).cell (j := 4) rfl
            have l0_ := (hH.blk (k := 0) rfl).lt
            have q2_0 := (hH.blk (k := 2) rfl).cell (j := 0) rfl
            have q2_1 := (hH.blk (k := 2) rfl).cell (j := 1) rfl
            have q2_2 := (hH.blk (k := 2) rfl).cell (j := 2) rfl
            have l2_ := (hH.blk (k := 2) rfl).lt
            have q5_0 := (hH.blk (k := 5) rfl).cell (j := 0) rfl
            have q5_1 := (hH.blk (k := 5) rfl).cell (j := 1) rfl
            have q5_2 := (hH.blk (k := 5) rfl).cell (j := 2) rfl
            have l5_ := (hH.blk (k := 5) rfl).lt
            have c_kr_0 := hH.ext.cell kr_0
            have c_kr_1 := hH.ext.cell kr_1
            have c_kr_2 := hH.ext.cell kr_2
            have c_kr_l := Nat.lt_of_lt_of_le kr_l hH.ext.size
            go_wp2_with fail
            clear q0_0 q0_1 q0_2 q0_3 q0_4 l0_ q2_0 q2_1 q2_2 l2_ q5_0 q5_1 q5_2 l5_ c_kr_0 c_kr_1 c_kr_2 c_kr_l
            refine (sliceNetwork_any HR.out HN.out _ _ _ (hT0.ext hH.ext) (hO.ext hH.ext) c hc HXO.out (v : Int) hv0 HVD.out).mono ?_; rintro ewn11 wn11 ⟨tv2, ov2, cs2, rfl, hJ⟩
            rw [HCT.out, HOC.out] at hJ
            obtain ⟨aP, cP, rfl, _, _⟩ := (hJ.ints (k := 1) rfl).val
            obtain ⟨aM, cM, rfl, _, _⟩ := (hJ.tensS (k := 0) rfl).val
            rw [List.length_map, HCL.out] at hJ ⊢
            replace hH : Held wN wn11 [aB (wN.heap.size) 29 [.int .i64 k, .int .i64 p, .int .i64 n, .slice aV m cV, .slice aO op.length cO], aT (.agg #[.slice wd1 op.length wf1, .slice wd2 op.length wf2, .slice wd3 we3 wf3]) op (op.map dimOf) (flat RX), aB (wn4.heap.size) 32 [.slice wd1 op.length wf1, .slice wd2 op.length wf2, .slice wd3 we3 wf3], aI (.slice (some ⟨bA, oA, none⟩) AL.length cl) AL, emp, aB (wn8.heap.size) 32 [s1, s2, s3], aTs (.slice aM m cM) cs2 (CT.map (tenOf dimOf)), aI (.slice aP OC.length cP) OC] := hH.join hJ (fun q hq => by cases hq)
            clear hJ
            have q0_0 := (hH.blk (k := 0) rfl).cell (j := 0) rfl
            have q0_1 := (hH.blk (k := 0) rfl).cell (j := 1) rfl
            have q0_2 := (hH.blk (k := 0) rfl).cell (j := 2) rfl
            have q0_3 := (hH.blk (k := 0) rfl).cell (j := 3) rfl
            have q0_4 := (hH.blk (k := 0) rfl).cell (j := 4) rfl
            have l0_ := (hH.blk (k := 0) rfl).lt
            have q2_0 := (hH.blk (k := 2) rfl).cell (j := 0) rfl
            have q2_1 := (hH.blk (k := 2) rfl).cell (j := 1) rfl
            have q2_2 := (hH.blk (k := 2) rfl).cell (j := 2) rfl
            have l2_ := (hH.blk (k := 2) rfl).lt
            have q5_0 := (hH.blk (k := 5) rfl).cell (j := 0) rfl
            have q5_1 := (hH.blk (k := 5) rfl).cell (j := 1) rfl
            have q5_2 := (hH.blk (k := 5) rfl).cell (j := 2) rfl
            have l5_ := (hH.blk (k := 5) rfl).lt
            have c_kr_0 := hH.ext.cell kr_0
            have c_kr_1 := hH.ext.cell kr_1
            have c_kr_2 := hH.ext.cell kr_2
            have c_kr_l := Nat.lt_of_lt_of_le kr_l hH.ext.size
            go_upto_region 17 with fail
            clear q0_0 q0_1 q0_2 q0_3 q0_4 l0_ q2_0 q2_1 q2_2 l2_ q5_0 q5_1 q5_2 l5_ c_kr_0 c_kr_1 c_kr_2 c_kr_l
            have hB : Held wN (wn11.alloc (.cells #[.int .i64 k, .int .i64 p, .int .i64 n, .slice aM m cM, .slice aP OC.length cP] 29)) [aB (wN.heap.size) 29 [.int .i64 k, .int .i64 p, .int .i64 n, .slice aV m cV, .slice aO op.length cO], aT (.agg #[.slice wd1 op.length wf1, .slice wd2 op.length wf2, .slice wd3 we3 wf3]) op (op.map dimOf) (flat RX), aB (wn4.heap.size) 32 [.slice wd1 op.length wf1, .slice wd2 op.length wf2, .slice wd3 we3 wf3], aI (.slice (some ⟨bA, oA, none⟩) AL.length cl) AL, emp, aB (wn8.heap.size) 32 [s1, s2, s3], aTs (.slice aM m cM) cs2 (CT.map (tenOf dimOf)), aI (.slice aP OC.length cP) OC, aB (wn11.heap.size) 29 [.int .i64 k, .int .i64 p, .int .i64 n, .slice aM m cM, .slice aP OC.length cP]] := by
              have h := (hH.mores 1).addB 8 #[.int .i64 k, .int .i64 p, .int .i64 n, .slice aM m cM, .slice aP OC.length cP] 29
              exact h
            have hsz : (wn11.alloc (.cells #[.int .i64 k, .int .i64 p, .int .i64 n, .slice aM m cM, .slice aP OC.length cP] 29)).heap.size = wn11.heap.size + 1 := by simp
            generalize wn11.alloc (.cells #[.int .i64 k, .int .i64 p, .int .i64 n, .slice aM m cM, .slice aP OC.length cP] 29) = wn12 at hB hsz ⊢
            replace hH := hB; have HSZwn12 := Lib.hid hsz; clear hB hsz
            have q0_0 := (hH.blk (k := 0) rfl).cell (j := 0) rfl
            have q0_1 := (hH.blk (k := 0) rfl).cell (j := 1) rfl
            have q0_2 := (hH.blk (k := 0) rfl).cell (j := 2) rfl
            have q0_3 := (hH.blk (k := 0) rfl).cell (j := 3) rfl
            have q0_4 := (hH.blk (k := 0) rfl).cell (j := 4) rfl
            have l0_ := (hH.blk (k := 0) rfl).lt
            have q2_0 := (hH.blk (k := 2) rfl).cell (j := 0) rfl
            have q2_1 := (hH.blk (k := 2) rfl).cell (j := 1) rfl
            have q2_2 := (hH.blk (k := 2) rfl).cell (j := 2) rfl
            have l2_ := (hH.blk (k := 2) rfl).lt
            have q5_0 := (hH.blk (k := 5) rfl).cell (j := 0) rfl
            have q5_1 := (hH.blk (k := 5) rfl).cell (j := 1) rfl
            have q5_2 := (hH.blk (k := 5) rfl).cell (j := 2) rfl
            have l5_ := (hH.blk (k := 5) rfl).lt
            have q8_0 := (hH.blk (k := 8) rfl).cell (j := 0) rfl
            have q8_1 := (hH.blk (k := 8) rfl).cell (j := 1) rfl
            have q8_2 := (hH.blk (k := 8) rfl).cell (j := 2) rfl
            have q8_3 := (hH.blk (k := 8) rfl).cell (j := 3) rfl
            have q8_4 := (hH.blk (k := 8) rfl).cell (j := 4) rfl
            have l8_ := (hH.blk (k := 8) rfl).lt
            have c_kr_0 := hH.ext.cell kr_0
            have c_kr_1 := hH.ext.cell kr_1
            have c_kr_2 := hH.ext.cell kr_2
            have c_kr_l := Nat.lt_of_lt_of_le kr_l hH.ext.size
            go_wp2_with fail
            clear q0_0 q0_1 q0_2 q0_3 q0_4 l0_ q2_0 q2_1 q2_2 l2_ q5_0 q5_1 q5_2 l5_ q8_0 q8_1 q8_2 q8_3 q8_4 l8_ c_kr_0 c_kr_1 c_kr_2 c_kr_l
            obtain ⟨RY, hRY⟩ : ∃ q, netXs HR.out dimOf CT OC = q := ⟨_, rfl⟩
            have HRY := Lib.hid hRY
            rw [hRY] at HCV
            clear hRY
            refine (networkValue_any HR.out HCN.out _ _ _ (by have h := hH.tensS (k := 6) rfl; exact h) (hH.ints (k := 7) rfl)).mono ?_; rintro ewn13 wn13 ⟨ut, rfl, ot, hwn13⟩
            rw [show netXs HR.out dimOf CT OC = RY from HRY.out] at ot
            obtain ⟨e1, m1, f1, e2, m2, f2, e3, m3, f3, rfl⟩ := ot.shape
            replace hH : Held wN wn13 [aB (wN.heap.size) 29 [.int .i64 k, .int .i64 p, .int .i64 n, .slice aV m cV, .slice aO op.length cO], aT (.agg #[.slice wd1 op.length wf1, .slice wd2 op.length wf2, .slice wd3 we3 wf3]) op (op.map dimOf) (flat RX), aB (wn4.heap.size) 32 [.slice wd1 op.length wf1, .slice wd2 op.length wf2, .slice wd3 we3 wf3], aI (.slice (some ⟨bA, oA, none⟩) AL.length cl) AL, emp, aB (wn8.heap.size) 32 [s1, s2, s3], aTs (.slice aM m cM) cs2 (CT.map (tenOf dimOf)), aI (.slice aP OC.length cP) OC, aB (wn11.heap.size) 29 [.int .i64 k, .int .i64 p, .int .i64 n, .slice aM m cM, .slice aP OC.length cP], aT (.agg #[.slice e1 m1 f1, .slice e2 m2 f2, .slice e3 m3 f3]) OC (OC.map dimOf) (flat RY)] := (hH.mores 1).addT 9 hwn13 ot (Nat.le_refl _)
            clear hwn13
            have q0_0 := (hH.blk (k := 0) rfl).cell (j := 0) rfl
            have q0_1 := (hH.blk (k := 0) rfl).cell (j := 1) rfl
            have q0_2 := (hH.blk (k := 0) rfl).cell (j := 2) rfl
            have q0_3 := (hH.blk (k := 0) rfl).cell (j := 3) rfl
            have q0_4 := (hH.blk (k := 0) rfl).cell (j := 4) rfl
            have l0_ := (hH.blk (k := 0) rfl).lt
            have q2_0 := (hH.blk (k := 2) rfl).cell (j := 0) rfl
            have q2_1 := (hH.blk (k := 2) rfl).cell (j := 1) rfl
            have q2_2 := (hH.blk (k := 2) rfl).cell (j := 2) rfl
            have l2_ := (hH.blk (k := 2) rfl).lt
            have q5_0 := (hH.blk (k := 5) rfl).cell (j := 0) rfl
            have q5_1 := (hH.blk (k := 5) rfl).cell (j := 1) rfl
            have q5_2 := (hH.blk (k := 5) rfl).cell (j := 2) rfl
            have l5_ := (hH.blk (k := 5) rfl).lt
            have q8_0 := (hH.blk (k := 8) rfl).cell (j := 0) rfl
            have q8_1 := (hH.blk (k := 8) rfl).cell (j := 1) rfl
            have q8_2 := (hH.blk (k := 8) rfl).cell (j := 2) rfl
            have q8_3 := (hH.blk (k := 8) rfl).cell (j := 3) rfl
            have q8_4 := (hH.blk (k := 8) rfl).cell (j := 4) rfl
            have l8_ := (hH.blk (k := 8) rfl).lt
            have c_kr_0 := hH.ext.cell kr_0
            have c_kr_1 := hH.ext.cell kr_1
            have c_kr_2 := hH.ext.cell kr_2
            have c_kr_l := Nat.lt_of_lt_of_le kr_l hH.ext.size
            go_upto_region 18 with fail
            clear q0_0 q0_1 q0_2 q0_3 q0_4 l0_ q2_0 q2_1 q2_2 l2_ q5_0 q5_1 q5_2 l5_ q8_0 q8_1 q8_2 q8_3 q8_4 l8_ c_kr_0 c_kr_1 c_kr_2 c_kr_l
            have hB : Held wN (wn13.alloc (.cells #[.slice e1 m1 f1, .slice e2 m2 f2, .slice e3 m3 f3] 32)) [aB (wN.heap.size) 29 [.int .i64 k, .int .i64 p, .int .i64 n, .slice aV m cV, .slice aO op.length cO], aT (.agg #[.slice wd1 op.length wf1, .slice wd2 op.length wf2, .slice wd3 we3 wf3]) op (op.map dimOf) (flat RX), aB (wn4.heap.size) 32 [.slice wd1 op.length wf1, .slice wd2 op.length wf2, .slice wd3 we3 wf3], aI (.slice (some ⟨bA, oA, none⟩) AL.length cl) AL, emp, aB (wn8.heap.size) 32 [s1, s2, s3], aTs (.slice aM m cM) cs2 (CT.map (tenOf dimOf)), aI (.slice aP OC.length cP) OC, aB (wn11.heap.size) 29 [.int .i64 k, .int .i64 p, .int .i64 n, .slice aM m cM, .slice aP OC.length cP], aT (.agg #[.slice e1 m1 f1, .slice e2 m2 f2, .slice e3 m3 f3]) OC (OC.map dimOf) (flat RY), aB (wn13.heap.size) 32 [.slice e1 m1 f1, .slice e2 m2 f2, .slice e3 m3 f3]] := by
              have h := (hH.mores 1).addB 10 #[.slice e1 m1 f1, .slice e2 m2 f2, .slice e3 m3 f3] 32
              exact h
            have hsz : (wn13.alloc (.cells #[.slice e1 m1 f1, .slice e2 m2 f2, .slice e3 m3 f3] 32)).heap.size = wn13.heap.size + 1 := by simp
            generalize wn13.alloc (.cells #[.slice e1 m1 f1, .slice e2 m2 f2, .slice e3 m3 f3] 32) = wn14 at hB hsz ⊢
            replace hH := hB; have HSZwn14 := Lib.hid hsz; clear hB hsz
            have q0_0 := (hH.blk (k := 0) rfl).cell (j := 0) rfl
            have q0_1 := (hH.blk (k := 0) rfl).cell (j := 1) rfl
            have q0_2 := (hH.blk (k := 0) rfl).cell (j := 2) rfl
            have q0_3 := (hH.blk (k := 0) rfl).cell (j := 3) rfl
            have q0_4 := (hH.blk (k := 0) rfl).cell (j := 4) rfl
            have l0_ := (hH.blk (k := 0) rfl).lt
            have q2_0 := (hH.blk (k := 2) rfl).cell (j := 0) rfl
            have q2_1 := (hH.blk (k := 2) rfl).cell (j := 1) rfl
            have q2_2 := (hH.blk (k := 2) rfl).cell (j := 2) rfl
            have l2_ := (hH.blk (k := 2) rfl).lt
            have q5_0 := (hH.blk (k := 5) rfl).cell (j := 0) rfl
            have q5_1 := (hH.blk (k := 5) rfl).cell (j := 1) rfl
            have q5_2 := (hH.blk (k := 5) rfl).cell (j := 2) rfl
            have l5_ := (hH.blk (k := 5) rfl).lt
            have q8_0 := (hH.blk (k := 8) rfl).cell (j := 0) rfl
            have q8_1 := (hH.blk (k := 8) rfl).cell (j := 1) rfl
            have q8_2 := (hH.blk (k := 8) rfl).cell (j := 2) rfl
            have q8_3 := (hH.blk (k := 8) rfl).cell (j := 3) rfl
            have q8_4 := (hH.blk (k := 8) rfl).cell (j := 4) rfl
            have l8_ := (hH.blk (k := 8) rfl).lt
            have q10_0 := (hH.blk (k := 10) rfl).cell (j := 0) rfl
            have q10_1 := (hH.blk (k := 10) rfl).cell (j := 1) rfl
            have q10_2 := (hH.blk (k := 10) rfl).cell (j := 2) rfl
            have l10_ := (hH.blk (k := 10) rfl).lt
            have c_kr_0 := hH.ext.cell kr_0
            have c_kr_1 := hH.ext.cell kr_1
            have c_kr_2 := hH.ext.cell kr_2
            have c_kr_l := Nat.lt_of_lt_of_le kr_l hH.ext.size
            go_wp2_with fail
            clear q0_0 q0_1 q0_2 q0_3 q0_4 l0_ q2_0 q2_1 q2_2 l2_ q5_0 q5_1 q5_2 l5_ q8_0 q8_1 q8_2 q8_3 q8_4 l8_ q10_0 q10_1 q10_2 l10_ c_kr_0 c_kr_1 c_kr_2 c_kr_l
            refine (lawsIn_any _ op (c : Int) _ (hO.ext hH.ext)).mono ?_; rintro e3' w3' ⟨rfl, rfl⟩; rw [HIN.out]
            have q0_0 := (hH.blk (k := 0) rfl).cell (j := 0) rfl
            have q0_1 := (hH.blk (k := 0) rfl).cell (j := 1) rfl
            have q0_2 := (hH.blk (k := 0) rfl).cell (j := 2) rfl
            have q0_3 := (hH.blk (k := 0) rfl).cell (j := 3) rfl
            have q0_4 := (hH.blk (k := 0) rfl).cell (j := 4) rfl
            have l0_ := (hH.blk (k := 0) rfl).lt
            have q2_0 := (hH.blk (k := 2) rfl).cell (j := 0) rfl
            have q2_1 := (hH.blk (k := 2) rfl).cell (j := 1) rfl
            have q2_2 := (hH.blk (k := 2) rfl).cell (j := 2) rfl
            have l2_ := (hH.blk (k := 2) rfl).lt
            have q5_0 := (hH.blk (k := 5) rfl).cell (j := 0) rfl
            have q5_1 := (hH.blk (k := 5) rfl).cell (j := 1) rfl
            have q5_2 := (hH.blk (k := 5) rfl).cell (j := 2) rfl
            have l5_ := (hH.blk (k := 5) rfl).lt
            have q8_0 := (hH.blk (k := 8) rfl).cell (j := 0) rfl
            have q8_1 := (hH.blk (k := 8) rfl).cell (j := 1) rfl
            have q8_2 := (hH.blk (k := 8) rfl).cell (j := 2) rfl
            have q8_3 := (hH.blk (k := 8) rfl).cell (j := 3) rfl
            have q8_4 := (hH.blk (k := 8) rfl).cell (j := 4) rfl
            have l8_ := (hH.blk (k := 8) rfl).lt
            have q10_0 := (hH.blk (k := 10) rfl).cell (j := 0) rfl
            have q10_1 := (hH.blk (k := 10) rfl).cell (j := 1) rfl
            have q10_2 := (hH.blk (k := 10) rfl).cell (j := 2) rfl
            have l10_ := (hH.blk (k := 10) rfl).lt
            have c_kr_0 := hH.ext.cell kr_0
            have c_kr_1 := hH.ext.cell kr_1
            have c_kr_2 := hH.ext.cell kr_2
            have c_kr_l := Nat.lt_of_lt_of_le kr_l hH.ext.size
            go_wp2_with fail
            clear q0_0 q0_1 q0_2 q0_3 q0_4 l0_ q2_0 q2_1 q2_2 l2_ q5_0 q5_1 q5_2 l5_ q8_0 q8_1 q8_2 q8_3 q8_4 l8_ q10_0 q10_1 q10_2 l10_ c_kr_0 c_kr_1 c_kr_2 c_kr_l
            refine (sliceTensor_any HR.out HTX.out (c : Int) (v : Int) HXP.out hv0 HVD.out _ _ (hH.tens (k := 1) rfl)).mono ?_; rintro ewn15 wn15 ⟨us, rfl, os, hwn15⟩
            rw [HOC.out, ← HCV.out] at os
            obtain ⟨b1, g1, a1, b2, g2, a2, b3, g3, a3, rfl⟩ := os.shape
            replace hH : Held wN wn15 [aB (wN.heap.size) 29 [.int .i64 k, .int .i64 p, .int .i64 n, .slice aV m cV, .slice aO op.length cO], aT (.agg #[.slice wd1 op.length wf1, .slice wd2 op.length wf2, .slice wd3 we3 wf3]) op (op.map dimOf) (flat RX), aB (wn4.heap.size) 32 [.slice wd1 op.length wf1, .slice wd2 op.length wf2, .slice wd3 we3 wf3], aI (.slice (some ⟨bA, oA, none⟩) AL.length cl) AL, emp, aB (wn8.heap.size) 32 [s1, s2, s3], aTs (.slice aM m cM) cs2 (CT.map (tenOf dimOf)), aI (.slice aP OC.length cP) OC, aB (wn11.heap.size) 29 [.int .i64 k, .int .i64 p, .int .i64 n, .slice aM m cM, .slice aP OC.length cP], aT (.agg #[.slice e1 m1 f1, .slice e2 m2 f2, .slice e3 m3 f3]) OC (OC.map dimOf) (flat RY), aB (wn13.heap.size) 32 [.slice e1 m1 f1, .slice e2 m2 f2, .slice e3 m3 f3], aT (.agg #[.slice b1 g1 a1, .slice b2 g2 a2, .slice b3 g3 a3]) OC (OC.map dimOf) (flat RY)] := (hH.mores 1).addT 11 hwn15 os (Nat.le_refl _)
            clear hwn15
            have q0_0 := (hH.blk (k := 0) rfl).cell (j := 0) rfl
            have q0_1 := (hH.blk (k := 0) rfl).cell (j := 1) rfl
            have q0_2 := (hH.blk (k := 0) rfl).cell (j := 2) rfl
            have q0_3 := (hH.blk (k := 0) rfl).cell (j := 3) rfl
            have q0_4 := (hH.blk (k := 0) rfl).cell (j := 4) rfl
            have l0_ := (hH.blk (k := 0) rfl).lt
            have q2_0 := (hH.blk (k := 2) rfl).cell (j := 0) rfl
            have q2_1 := (hH.blk (k := 2) rfl).cell (j := 1) rfl
            have q2_2 := (hH.blk (k := 2) rfl).cell (j := 2) rfl
            have l2_ := (hH.blk (k := 2) rfl).lt
            have q5_0 := (hH.blk (k := 5) rfl).cell (j := 0) rfl
            have q5_1 := (hH.blk (k := 5) rfl).cell (j := 1) rfl
            have q5_2 := (hH.blk (k := 5) rfl).cell (j := 2) rfl
            have l5_ := (hH.blk (k := 5) rfl).lt
            have q8_0 := (hH.blk (k := 8) rfl).cell (j := 0) rfl
            have q8_1 := (hH.blk (k := 8) rfl).cell (j := 1) rfl
            have q8_2 := (hH.blk (k := 8) rfl).cell (j := 2) rfl
            have q8_3 := (hH.blk (k := 8) rfl).cell (j := 3) rfl
            have q8_4 := (hH.blk (k := 8) rfl).cell (j := 4) rfl
            have l8_ := (hH.blk (k := 8) rfl).lt
            have q10_0 := (hH.blk (k := 10) rfl).cell (j := 0) rfl
            have q10_1 := (hH.blk (k := 10) rfl).cell (j := 1) rfl
            have q10_2 := (hH.blk (k := 10) rfl).cell (j := 2) rfl
            have l10_ := (hH.blk (k := 10) rfl).lt
            have c_kr_0 := hH.ext.cell kr_0
            have c_kr_1 := hH.ext.cell kr_1
            have c_kr_2 := hH.ext.cell kr_2
            have c_kr_l := Nat.lt_of_lt_of_le kr_l hH.ext.size
            go_upto_region 22 with fail
            clear q0_0 q0_1 q0_2 q0_3 q0_4 l0_ q2_0 q2_1 q2_2 l2_ q5_0 q5_1 q5_2 l5_ q8_0 q8_1 q8_2 q8_3 q8_4 l8_ q10_0 q10_1 q10_2 l10_ c_kr_0 c_kr_1 c_kr_2 c_kr_l
            have hB : Held wN (wn15.alloc (.cells #[.slice b1 g1 a1, .slice b2 g2 a2, .slice b3 g3 a3] 32)) [aB (wN.heap.size) 29 [.int .i64 k, .int .i64 p, .int .i64 n, .slice aV m cV, .slice aO op.length cO], aT (.agg #[.slice wd1 op.length wf1, .slice wd2 op.length wf2, .slice wd3 we3 wf3]) op (op.map dimOf) (flat RX), aB (wn4.heap.size) 32 [.slice wd1 op.length wf1, .slice wd2 op.length wf2, .slice wd3 we3 wf3], aI (.slice (some ⟨bA, oA, none⟩) AL.length cl) AL, emp, aB (wn8.heap.size) 32 [s1, s2, s3], aTs (.slice aM m cM) cs2 (CT.map (tenOf dimOf)), aI (.slice aP OC.length cP) OC, aB (wn11.heap.size) 29 [.int .i64 k, .int .i64 p, .int .i64 n, .slice aM m cM, .slice aP OC.length cP], aT (.agg #[.slice e1 m1 f1, .slice e2 m2 f2, .slice e3 m3 f3]) OC (OC.map dimOf) (flat RY), aB (wn13.heap.size) 32 [.slice e1 m1 f1, .slice e2 m2 f2, .slice e3 m3 f3], aT (.agg #[.slice b1 g1 a1, .slice b2 g2 a2, .slice b3 g3 a3]) OC (OC.map dimOf) (flat RY), aB (wn15.heap.size) 32 [.slice b1 g1 a1, .slice b2 g2 a2, .slice b3 g3 a3]] := by
              have h := (hH.mores 1).addB 12 #[.slice b1 g1 a1, .slice b2 g2 a2, .slice b3 g3 a3] 32
              exact h
            have hsz : (wn15.alloc (.cells #[.slice b1 g1 a1, .slice b2 g2 a2, .slice b3 g3 a3] 32)).heap.size = wn15.heap.size + 1 := by simp
            generalize wn15.alloc (.cells #[.slice b1 g1 a1, .slice b2 g2 a2, .slice b3 g3 a3] 32) = wn16 at hB hsz ⊢
            replace hH := hB; have HSZwn16 := Lib.hid hsz; clear hB hsz
            have q0_0 := (hH.blk (k := 0) rfl).cell (j := 0) rfl
            have q0_1 := (hH.blk (k := 0) rfl).cell (j := 1) rfl
            have q0_2 := (hH.blk (k := 0) rfl).cell (j := 2) rfl
            have q0_3 := (hH.blk (k := 0) rfl).cell (j := 3) rfl
            have q0_4 := (hH.blk (k := 0) rfl).cell (j := 4) rfl
            have l0_ := (hH.blk (k := 0) rfl).lt
            have q2_0 := (hH.blk (k := 2) rfl).cell (j := 0) rfl
            have q2_1 := (hH.blk (k := 2) rfl).cell (j := 1) rfl
            have q2_2 := (hH.blk (k := 2) rfl).cell (j := 2) rfl
            have l2_ := (hH.blk (k := 2) rfl).lt
            have q5_0 := (hH.blk (k := 5) rfl).cell (j := 0) rfl
            have q5_1 := (hH.blk (k := 5) rfl).cell (j := 1) rfl
            have q5_2 := (hH.blk (k := 5) rfl).cell (j := 2) rfl
            have l5_ := (hH.blk (k := 5) rfl).lt
            have q8_0 := (hH.blk (k := 8) rfl).cell (j := 0) rfl
            have q8_1 := (hH.blk (k := 8) rfl).cell (j := 1) rfl
            have q8_2 := (hH.blk (k := 8) rfl).cell (j := 2) rfl
            have q8_3 := (hH.blk (k := 8) rfl).cell (j := 3) rfl
            have q8_4 := (hH.blk (k := 8) rfl).cell (j := 4) rfl
            have l8_ := (hH.blk (k := 8) rfl).lt
            have q10_0 := (hH.blk (k := 10) rfl).cell (j := 0) rfl
            have q10_1 := (hH.blk (k := 10) rfl).cell (j := 1) rfl
            have q10_2 := (hH.blk (k := 10) rfl).cell (j := 2) rfl
            have l10_ := (hH.blk (k := 10) rfl).lt
            have q12_0 := (hH.blk (k := 12) rfl).cell (j := 0) rfl
            have q12_1 := (hH.blk (k := 12) rfl).cell (j := 1) rfl
            have q12_2 := (hH.blk (k := 12) rfl).cell (j := 2) rfl
            have l12_ := (hH.blk (k := 12) rfl).lt
            have c_kr_0 := hH.ext.cell kr_0
            have c_kr_1 := hH.ext.cell kr_1
            have c_kr_2 := hH.ext.cell kr_2
            have c_kr_l := Nat.lt_of_lt_of_le kr_l hH.ext.size
            go_wp2_with fail
            clear q0_0 q0_1 q0_2 q0_3 q0_4 l0_ q2_0 q2_1 q2_2 l2_ q5_0 q5_1 q5_2 l5_ q8_0 q8_1 q8_2 q8_3 q8_4 l8_ q10_0 q10_1 q10_2 l10_ q12_0 q12_1 q12_2 l12_ c_kr_0 c_kr_1 c_kr_2 c_kr_l
            refine (same_same _ _ _ _ _ _ _ _ _ (hH.tens (k := 11) rfl) (hH.tens (k := 9) rfl) rfl rfl rfl).mono ?_; rintro ewn17 wn17 ⟨rfl, hwn17⟩
            replace hH : Held wN wn17 [aB (wN.heap.size) 29 [.int .i64 k, .int .i64 p, .int .i64 n, .slice aV m cV, .slice aO op.length cO], aT (.agg #[.slice wd1 op.length wf1, .slice wd2 op.length wf2, .slice wd3 we3 wf3]) op (op.map dimOf) (flat RX), aB (wn4.heap.size) 32 [.slice wd1 op.length wf1, .slice wd2 op.length wf2, .slice wd3 we3 wf3], aI (.slice (some ⟨bA, oA, none⟩) AL.length cl) AL, emp, aB (wn8.heap.size) 32 [s1, s2, s3], aTs (.slice aM m cM) cs2 (CT.map (tenOf dimOf)), aI (.slice aP OC.length cP) OC, aB (wn11.heap.size) 29 [.int .i64 k, .int .i64 p, .int .i64 n, .slice aM m cM, .slice aP OC.length cP], aT (.agg #[.slice e1 m1 f1, .slice e2 m2 f2, .slice e3 m3 f3]) OC (OC.map dimOf) (flat RY), aB (wn13.heap.size) 32 [.slice e1 m1 f1, .slice e2 m2 f2, .slice e3 m3 f3], aT (.agg #[.slice b1 g1 a1, .slice b2 g2 a2, .slice b3 g3 a3]) OC (OC.map dimOf) (flat RY), aB (wn15.heap.size) 32 [.slice b1 g1 a1, .slice b2 g2 a2, .slice b3 g3 a3]] := hH.grow hwn17
            clear hwn17
            have q0_0 := (hH.blk (k := 0) rfl).cell (j := 0) rfl
            have q0_1 := (hH.blk (k := 0) rfl).cell (j := 1) rfl
            have q0_2 := (hH.blk (k := 0) rfl).cell (j := 2) rfl
            have q0_3 := (hH.blk (k := 0) rfl).cell (j := 3) rfl
            have q0_4 := (hH.blk (k := 0) rfl).cell (j := 4) rfl
            have l0_ := (hH.blk (k := 0) rfl).lt
            have q2_0 := (hH.blk (k := 2) rfl).cell (j := 0) rfl
            have q2_1 := (hH.blk (k := 2) rfl).cell (j := 1) rfl
            have q2_2 := (hH.blk (k := 2) rfl).cell (j := 2) rfl
            have l2_ := (hH.blk (k := 2) rfl).lt
            have q5_0 := (hH.blk (k := 5) rfl).cell (j := 0) rfl
            have f5_0 := (hH.blk (k := 5) rfl).free 0
            have q5_1 := (hH.blk (k := 5) rfl).cell (j := 1) rfl
            have f5_1 := (hH.blk (k := 5) rfl).free 1
            have q5_2 := (hH.blk (k := 5) rfl).cell (j := 2) rfl
            have f5_2 := (hH.blk (k := 5) rfl).free 2
            have l5_ := (hH.blk (k := 5) rfl).lt
            have q8_0 := (hH.blk (k := 8) rfl).cell (j := 0) rfl
            have q8_1 := (hH.blk (k := 8) rfl).cell (j := 1) rfl
            have q8_2 := (hH.blk (k := 8) rfl).cell (j := 2) rfl
            have q8_3 := (hH.blk (k := 8) rfl).cell (j := 3) rfl
            have q8_4 := (hH.blk (k := 8) rfl).cell (j := 4) rfl
            have l8_ := (hH.blk (k := 8) rfl).lt
            have q10_0 := (hH.blk (k := 10) rfl).cell (j := 0) rfl
            have q10_1 := (hH.blk (k := 10) rfl).cell (j := 1) rfl
            have q10_2 := (hH.blk (k := 10) rfl).cell (j := 2) rfl
            have l10_ := (hH.blk (k := 10) rfl).lt
            have q12_0 := (hH.blk (k := 12) rfl).cell (j := 0) rfl
            have q12_1 := (hH.blk (k := 12) rfl).cell (j := 1) rfl
            have q12_2 := (hH.blk (k := 12) rfl).cell (j := 2) rfl
            have l12_ := (hH.blk (k := 12) rfl).lt
            have c_kr_0 := hH.ext.cell kr_0
            have c_kr_1 := hH.ext.cell kr_1
            have c_kr_2 := hH.ext.cell kr_2
            have c_kr_l := Nat.lt_of_lt_of_le kr_l hH.ext.size
            go_wp2_with fail
            have hHs := hH.setB3' (k := 5) rfl (.slice wd1 op.length wf1) (.slice wd2 op.length wf2) (.slice wd3 we3 wf3)
            go_roundw
            case rel => exact ⟨v + 1, _, _, _, by omega, by go_num, Lib.hid fun _ => ⟨rfl, rfl, rfl⟩, hHs.sub (.cons_cons _ (.cons_cons _ (.cons_cons _ (.cons_cons _ (.cons_cons _ (.cons_cons _ (.cons _ (.cons _ (.cons _ (.cons _ (.cons _ (.cons _ (.cons _ .slnil)))))))))))))⟩
            case measure => simp [RowKit.intOf]; omega
          · skip
            have hve : v = d := by omega
            subst hve
            obtain ⟨rfl, rfl, rfl⟩ := HSW.out (by omega)
            have q0_0 := (hH.blk (k := 0) rfl).cell (j := 0) rfl
            have q0_1 := (hH.blk (k := 0) rfl).cell (j := 1) rfl
            have q0_2 := (hH.blk (k := 0) rfl).cell (j := 2) rfl
            have q0_3 := (hH.blk (k := 0) rfl).cell (j := 3) rfl
            have q0_4 := (hH.blk (k := 0) rfl).cell (j := 4) rfl
            have l0_ := (hH.blk (k := 0) rfl).lt
            have q2_0 := (hH.blk (k := 2) rfl).cell (j := 0) rfl
            have q2_1 := (hH.blk (k := 2) rfl).cell (j := 1) rfl
            have q2_2 := (hH.blk (k := 2) rfl).cell (j := 2) rfl
            have l2_ := (hH.blk (k := 2) rfl).lt
            have q5_0 := (hH.blk (k := 5) rfl).cell (j := 0) rfl
            have q5_1 := (hH.blk (k := 5) rfl).cell (j := 1) rfl
            have q5_2 := (hH.blk (k := 5) rfl).cell (j := 2) rfl
            have l5_ := (hH.blk (k := 5) rfl).lt
            have c_kr_0 := hH.ext.cell kr_0
            have c_kr_1 := hH.ext.cell kr_1
            have c_kr_2 := hH.ext.cell kr_2
            have c_kr_l := Nat.lt_of_lt_of_le kr_l hH.ext.size
            go_wp2_with fail
            clear q0_0 q0_1 q0_2 q0_3 q0_4 l0_ q2_0 q2_1 q2_2 l2_ q5_0 q5_1 q5_2 l5_ c_kr_0 c_kr_1 c_kr_2 c_kr_l
            refine (same_same _ _ _ _ _ _ _ _ _ (hH.tens (k := 1) rfl) (hH.tens (k := 1) rfl) rfl rfl rfl).mono ?_; rintro ewn11 wn11 ⟨rfl, hwn11⟩
            replace hH : Held wN wn11 [aB (wN.heap.size) 29 [.int .i64 k, .int .i64 p, .int .i64 n, .slice aV m cV, .slice aO op.length cO], aT (.agg #[.slice wd1 op.length wf1, .slice wd2 op.length wf2, .slice wd3 we3 wf3]) op (op.map dimOf) (flat RX), aB (wn4.heap.size) 32 [.slice wd1 op.length wf1, .slice wd2 op.length wf2, .slice wd3 we3 wf3], aI (.slice (some ⟨bA, oA, none⟩) AL.length cl) AL, emp, aB (wn8.heap.size) 32 [.slice wd1 op.length wf1, .slice wd2 op.length wf2, .slice wd3 we3 wf3]] := hH.grow hwn11
            clear hwn11
            go_wp2_with fail
            go_roundw
            case rel => exact ⟨j + 1, by omega, by go_num, hH.sub (.cons_cons _ (.cons_cons _ (.cons_cons _ (.cons_cons _ (.cons _ (.cons _ .slnil))))))⟩
            case measure => simp [RowKit.intOf]; omega
      · skip
        have HXP := Lib.hid hxop; clear hxop
        have HIN := Lib.hid (hasL_not.2 HXP.out)
        have HST := Lib.hid (fun v : Nat => HSS.out (c : Int) v HXP.out)
        have HCO := Lib.hid (cutL_out HXP.out)
        go_loopw [11] (fun i wr => ∃ (v : Nat) (s1 s2 s3 : Value), v ≤ d ∧ i = .int .i64 (v : Int) ∧ Held wN wr [aB (wN.heap.size) 29 [.int .i64 k, .int .i64 p, .int .i64 n, .slice aV m cV, .slice aO op.length cO], aT (.agg #[.slice wd1 op.length wf1, .slice wd2 op.length wf2, .slice wd3 we3 wf3]) op (op.map dimOf) (flat RX), aB (wn4.heap.size) 32 [.slice wd1 op.length wf1, .slice wd2 op.length wf2, .slice wd3 we3 wf3], aI (.slice (some ⟨bA, oA, none⟩) AL.length cl) AL, aT (.agg #[s1, s2, s3]) op (op.map dimOf) (flat (sliceAcc HR.out dimOf ts op (c : Int) v)), aB (wn8.heap.size) 32 [s1, s2, s3]]) (fun i wr => d - (RowKit.intOf i).toNat)
        case atStart => exact ⟨0, _, _, _, Nat.zero_le _, rfl, hH⟩
        case round =>
          clear hH
          obtain ⟨v, s1, s2, s3, hv, rfl, hH⟩ := hrel
          obtain ⟨wv, rfl⟩ : ∃ q, q = wr := ⟨wr, rfl⟩
          obtain ⟨s1x, s1y, s1z, s2x, s2y, s2z, s3x, s3y, s3z, hss⟩ := (hH.tens (k := 4) rfl).shape
          simp at hss
          obtain ⟨rfl, rfl, rfl⟩ := hss
          have q0_0 := (hH.blk (k := 0) rfl).cell (j := 0) rfl
          have q0_1 := (hH.blk (k := 0) rfl).cell (j := 1) rfl
          have q0_2 := (hH.blk (k := 0) rfl).cell (j := 2) rfl
          have q0_3 := (hH.blk (k := 0) rfl).cell (j := 3) rfl
          have q0_4 := (hH.blk (k := 0) rfl).cell (j := 4) rfl
          have l0_ := (hH.blk (k := 0) rfl).lt
          have q2_0 := (hH.blk (k := 2) rfl).cell (j := 0) rfl
          have q2_1 := (hH.blk (k := 2) rfl).cell (j := 1) rfl
          have q2_2 := (hH.blk (k := 2) rfl).cell (j := 2) rfl
          have l2_ := (hH.blk (k := 2) rfl).lt
          have q5_0 := (hH.blk (k := 5) rfl).cell (j := 0) rfl
          have q5_1 := (hH.blk (k := 5) rfl).cell (j := 1) rfl
          have q5_2 := (hH.blk (k := 5) rfl).cell (j := 2) rfl
          have l5_ := (hH.blk (k := 5) rfl).lt
          have c_kr_0 := hH.ext.cell kr_0
          have c_kr_1 := hH.ext.cell kr_1
          have c_kr_2 := hH.ext.cell kr_2
          have c_kr_l := Nat.lt_of_lt_of_le kr_l hH.ext.size
          go_wp2_with fail
          clear q0_0 q0_1 q0_2 q0_3 q0_4 l0_ q2_0 q2_1 q2_2 l2_ q5_0 q5_1 q5_2 l5_ c_kr_0 c_kr_1 c_kr_2 c_kr_l
          refine (dimOf_any HR.out HN.out _ _ _ (hT.ext hH.ext) (hO.ext hH.ext) c hc).mono ?_; rintro ewn10 wn10 ⟨rfl, hwn10⟩
          rw [if_pos HXH.out, HD.out]
          replace hH : Held wN wn10 [aB (wN.heap.size) 29 [.int .i64 k, .int .i64 p, .int .i64 n, .slice aV m cV, .slice aO op.length cO], aT (.agg #[.slice wd1 op.length wf1, .slice wd2 op.length wf2, .slice wd3 we3 wf3]) op (op.map dimOf) (flat RX), aB (wn4.heap.size) 32 [.slice wd1 op.length wf1, .slice wd2 op.length wf2, .slice wd3 we3 wf3], aI (.slice (some ⟨bA, oA, none⟩) AL.length cl) AL, aT (.agg #[.slice s1x s1y s1z, .slice s2x s2y s2z, .slice s3x s3y s3z]) op (op.map dimOf) (flat (sliceAcc HR.out dimOf ts op (c : Int) v)), aB (wn8.heap.size) 32 [.slice s1x s1y s1z, .slice s2x s2y s2z, .slice s3x s3y s3z]] := hH.grow hwn10
          clear hwn10
          by_cases hlv : v < d
          · skip
            have hvd : (v : Int) < dimOf (c : Int) := by rw [HD.out]; omega
            have HVD := Lib.hid hvd; clear hvd
            have HCN := Lib.hid (HCI.out (c : Int) (v : Int))
            obtain ⟨CT, hCT⟩ : ∃ q, ts.map (cutT HR.out dimOf (c : Int) (v : Int)) = q := ⟨_, rfl⟩
            have HCL : Hid (CT.length = m) := Lib.hid (by rw [← hCT, List.length_map]; exact HM.out)
            rw [HCO.out] at HCN
            have HSTV := Lib.hid (HST.out v)
            rw [hCT] at HCN HSTV
            have HCT := Lib.hid hCT; clear hCT
            have hv0 : (0 : Int) ≤ (v : Int) := by omega
            have q0_0 := (hH.blk (k := 0) rfl).cell (j := 0) rfl
            have q0_1 := (hH.blk (k := 0) rfl).cell (j := 1) rfl
            have q0_2 := (hH.blk (k := 0) rfl).cell (j := 2) rfl
            have q0_3 := (hH.blk (k := 0) rfl).cell (j := 3) rfl
            have q0_4 := (hH.blk (k := 0) rfl).cell (j := 4) rfl
            have l0_ := (hH.blk (k := 0) rfl).lt
            have q2_0 := (hH.blk (k := 2) rfl).cell (j := 0) rfl
            have q2_1 := (hH.blk (k := 2) rfl).cell (j := 1) rfl
            have q2_2 := (hH.blk (k := 2) rfl).cell (j := 2) rfl
            have l2_ := (hH.blk (k := 2) rfl).lt
            have q5_0 := (hH.blk (k := 5) rfl).cell (j := 0) rfl
            have q5_1 := (hH.blk (k := 5) rfl).cell (j := 1) rfl
            have q5_2 := (hH.blk (k := 5) rfl).cell (j := 2) rfl
            have l5_ := (hH.blk (k := 5) rfl).lt
            have c_kr_0 := hH.ext.cell kr_0
            have c_kr_1 := hH.ext.cell kr_1
            have c_kr_2 := hH.ext.cell kr_2
            have c_kr_l := Nat.lt_of_lt_of_le kr_l hH.ext.size
            go_wp2_with fail
            clear q0_0 q0_1 q0_2 q0_3 q0_4 l0_ q2_0 q2_1 q2_2 l2_ q5_0 q5_1 q5_2 l5_ c_kr_0 c_kr_1 c_kr_2 c_kr_l
            refine (sliceNetwork_any HR.out HN.out _ _ _ (hT0.ext hH.ext) (hO.ext hH.ext) c hc HXO.out (v : Int) hv0 HVD.out).mono ?_; rintro ewn11 wn11 ⟨tv2, ov2, cs2, rfl, hJ⟩
            rw [HCT.out, HCO.out] at hJ
            obtain ⟨aP, cP, rfl, _, _⟩ := (hJ.ints (k := 1) rfl).val
            obtain ⟨aM, cM, rfl, _, _⟩ := (hJ.tensS (k := 0) rfl).val
            rw [List.length_map, HCL.out] at hJ ⊢
            replace hH : Held wN wn11 [aB (wN.heap.size) 29 [.int .i64 k, .int .i64 p, .int .i64 n, .slice aV m cV, .slice aO op.length cO], aT (.agg #[.slice wd1 op.length wf1, .slice wd2 op.length wf2, .slice wd3 we3 wf3]) op (op.map dimOf) (flat RX), aB (wn4.heap.size) 32 [.slice wd1 op.length wf1, .slice wd2 op.length wf2, .slice wd3 we3 wf3], aI (.slice (some ⟨bA, oA, none⟩) AL.length cl) AL, aT (.agg #[.slice s1x s1y s1z, .slice s2x s2y s2z, .slice s3x s3y s3z]) op (op.map dimOf) (flat (sliceAcc HR.out dimOf ts op (c : Int) v)), aB (wn8.heap.size) 32 [.slice s1x s1y s1z, .slice s2x s2y s2z, .slice s3x s3y s3z], aTs (.slice aM m cM) cs2 (CT.map (tenOf dimOf)), aI (.slice aP op.length cP) op] := hH.join hJ (fun q hq => by cases hq)
            clear hJ
            have q0_0 := (hH.blk (k := 0) rfl).cell (j := 0) rfl
            have q0_1 := (hH.blk (k := 0) rfl).cell (j := 1) rfl
            have q0_2 := (hH.blk (k := 0) rfl).cell (j := 2) rfl
            have q0_3 := (hH.blk (k := 0) rfl).cell (j := 3) rfl
            have q0_4 := (hH.blk (k := 0) rfl).cell (j := 4) rfl
            have l0_ := (hH.blk (k := 0) rfl).lt
            have q2_0 := (hH.blk (k := 2) rfl).cell (j := 0) rfl
            have q2_1 := (hH.blk (k := 2) rfl).cell (j := 1) rfl
            have q2_2 := (hH.blk (k := 2) rfl).cell (j := 2) rfl
            have l2_ := (hH.blk (k := 2) rfl).lt
            have q5_0 := (hH.blk (k := 5) rfl).cell (j := 0) rfl
            have q5_1 := (hH.blk (k := 5) rfl).cell (j := 1) rfl
            have q5_2 := (hH.blk (k := 5) rfl).cell (j := 2) rfl
            have l5_ := (hH.blk (k := 5) rfl).lt
            have c_kr_0 := hH.ext.cell kr_0
            have c_kr_1 := hH.ext.cell kr_1
            have c_kr_2 := hH.ext.cell kr_2
            have c_kr_l := Nat.lt_of_lt_of_le kr_l hH.ext.size
            go_upto_region 17 with fail
            clear q0_0 q0_1 q0_2 q0_3 q0_4 l0_ q2_0 q2_1 q2_2 l2_ q5_0 q5_1 q5_2 l5_ c_kr_0 c_kr_1 c_kr_2 c_kr_l
            have hB : Held wN (wn11.alloc (.cells #[.int .i64 k, .int .i64 p, .int .i64 n, .slice aM m cM, .slice aP op.length cP] 29)) [aB (wN.heap.size) 29 [.int .i64 k, .int .i64 p, .int .i64 n, .slice aV m cV, .slice aO op.length cO], aT (.agg #[.slice wd1 op.length wf1, .slice wd2 op.length wf2, .slice wd3 we3 wf3]) op (op.map dimOf) (flat RX), aB (wn4.heap.size) 32 [.slice wd1 op.length wf1, .slice wd2 op.length wf2, .slice wd3 we3 wf3], aI (.slice (some ⟨bA, oA, none⟩) AL.length cl) AL, aT (.agg #[.slice s1x s1y s1z, .slice s2x s2y s2z, .slice s3x s3y s3z]) op (op.map dimOf) (flat (sliceAcc HR.out dimOf ts op (c : Int) v)), aB (wn8.heap.size) 32 [.slice s1x s1y s1z, .slice s2x s2y s2z, .slice s3x s3y s3z], aTs (.slice aM m cM) cs2 (CT.map (tenOf dimOf)), aI (.slice aP op.length cP) op, aB (wn11.heap.size) 29 [.int .i64 k, .int .i64 p, .int .i64 n, .slice aM m cM, .slice aP op.length cP]] := by
              have h := (hH.mores 1).addB 8 #[.int .i64 k, .int .i64 p, .int .i64 n, .slice aM m cM, .slice aP op.length cP] 29
              exact h
            have hsz : (wn11.alloc (.cells #[.int .i64 k, .int .i64 p, .int .i64 n, .slice aM m cM, .slice aP op.length cP] 29)).heap.size = wn11.heap.size + 1 := by simp
            generalize wn11.alloc (.cells #[.int .i64 k, .int .i64 p, .int .i64 n, .slice aM m cM, .slice aP op.length cP] 29) = wn12 at hB hsz ⊢
            replace hH := hB; have HSZwn12 := Lib.hid hsz; clear hB hsz
            have q0_0 := (hH.blk (k := 0) rfl).cell (j := 0) rfl
            have q0_1 := (hH.blk (k := 0) rfl).cell (j := 1) rfl
            have q0_2 := (hH.blk (k := 0) rfl).cell (j := 2) rfl
            have q0_3 := (hH.blk (k := 0) rfl).cell (j := 3) rfl
            have q0_4 := (hH.blk (k := 0) rfl).cell (j := 4) rfl
            have l0_ := (hH.blk (k := 0) rfl).lt
            have q2_0 := (hH.blk (k := 2) rfl).cell (j := 0) rfl
            have q2_1 := (hH.blk (k := 2) rfl).cell (j := 1) rfl
            have q2_2 := (hH.blk (k := 2) rfl).cell (j := 2) rfl
            have l2_ := (hH.blk (k := 2) rfl).lt
            have q5_0 := (hH.blk (k := 5) rfl).cell (j := 0) rfl
            have q5_1 := (hH.blk (k := 5) rfl).cell (j := 1) rfl
            have q5_2 := (hH.blk (k := 5) rfl).cell (j := 2) rfl
            have l5_ := (hH.blk (k := 5) rfl).lt
            have q8_0 := (hH.blk (k := 8) rfl).cell (j := 0) rfl
            have q8_1 := (hH.blk (k := 8) rfl).cell (j := 1) rfl
            have q8_2 := (hH.blk (k := 8) rfl).cell (j := 2) rfl
            have q8_3 := (hH.blk (k := 8) rfl).cell (j := 3) rfl
            have q8_4 := (hH.blk (k := 8) rfl).cell (j := 4) rfl
            have l8_ := (hH.blk (k := 8) rfl).lt
            have c_kr_0 := hH.ext.cell kr_0
            have c_kr_1 := hH.ext.cell kr_1
            have c_kr_2 := hH.ext.cell kr_2
            have c_kr_l := Nat.lt_of_lt_of_le kr_l hH.ext.size
            go_wp2_with fail
            clear q0_0 q0_1 q0_2 q0_3 q0_4 l0_ q2_0 q2_1 q2_2 l2_ q5_0 q5_1 q5_2 l5_ q8_0 q8_1 q8_2 q8_3 q8_4 l8_ c_kr_0 c_kr_1 c_kr_2 c_kr_l
            obtain ⟨RY, hRY⟩ : ∃ q, netXs HR.out dimOf CT op = q := ⟨_, rfl⟩
            have HRY := Lib.hid hRY
            rw [hRY] at HSTV
            have HTY := Lib.hid (netXs_isT HR.out HCN.out)
            rw [hRY] at HTY
            clear hRY
            refine (networkValue_any HR.out HCN.out _ _ _ (by have h := hH.tensS (k := 6) rfl; exact h) (hH.ints (k := 7) rfl)).mono ?_; rintro ewn13 wn13 ⟨ut, rfl, ot, hwn13⟩
            rw [show netXs HR.out dimOf CT op = RY from HRY.out] at ot
            obtain ⟨e1, m1, f1, e2, m2, f2, e3, m3, f3, rfl⟩ := ot.shape
            replace hH : Held wN wn13 [aB (wN.heap.size) 29 [.int .i64 k, .int .i64 p, .int .i64 n, .slice aV m cV, .slice aO op.length cO], aT (.agg #[.slice wd1 op.length wf1, .slice wd2 op.length wf2, .slice wd3 we3 wf3]) op (op.map dimOf) (flat RX), aB (wn4.heap.size) 32 [.slice wd1 op.length wf1, .slice wd2 op.length wf2, .slice wd3 we3 wf3], aI (.slice (some ⟨bA, oA, none⟩) AL.length cl) AL, aT (.agg #[.slice s1x s1y s1z, .slice s2x s2y s2z, .slice s3x s3y s3z]) op (op.map dimOf) (flat (sliceAcc HR.out dimOf ts op (c : Int) v)), aB (wn8.heap.size) 32 [.slice s1x s1y s1z, .slice s2x s2y s2z, .slice s3x s3y s3z], aTs (.slice aM m cM) cs2 (CT.map (tenOf dimOf)), aI (.slice aP op.length cP) op, aB (wn11.heap.size) 29 [.int .i64 k, .int .i64 p, .int .i64 n, .slice aM m cM, .slice aP op.length cP], aT (.agg #[.slice e1 m1 f1, .slice e2 m2 f2, .slice e3 m3 f3]) op (op.map dimOf) (flat RY)] := (hH.mores 1).addT 9 hwn13 ot (Nat.le_refl _)
            clear hwn13
            have q0_0 := (hH.blk (k := 0) rfl).cell (j := 0) rfl
            have q0_1 := (hH.blk (k := 0) rfl).cell (j := 1) rfl
            have q0_2 := (hH.blk (k := 0) rfl).cell (j := 2) rfl
            have q0_3 := (hH.blk (k := 0) rfl).cell (j := 3) rfl
            have q0_4 := (hH.blk (k := 0) rfl).cell (j := 4) rfl
            have l0_ := (hH.blk (k := 0) rfl).lt
            have q2_0 := (hH.blk (k := 2) rfl).cell (j := 0) rfl
            have q2_1 := (hH.blk (k := 2) rfl).cell (j := 1) rfl
            have q2_2 := (hH.blk (k := 2) rfl).cell (j := 2) rfl
            have l2_ := (hH.blk (k := 2) rfl).lt
            have q5_0 := (hH.blk (k := 5) rfl).cell (j := 0) rfl
            have q5_1 := (hH.blk (k := 5) rfl).cell (j := 1) rfl
            have q5_2 := (hH.blk (k := 5) rfl).cell (j := 2) rfl
            have l5_ := (hH.blk (k := 5) rfl).lt
            have q8_0 := (hH.blk (k := 8) rfl).cell (j := 0) rfl
            have q8_1 := (hH.blk (k := 8) rfl).cell (j := 1) rfl
            have q8_2 := (hH.blk (k := 8) rfl).cell (j := 2) rfl
            have q8_3 := (hH.blk (k := 8) rfl).cell (j := 3) rfl
            have q8_4 := (hH.blk (k := 8) rfl).cell (j := 4) rfl
            have l8_ := (hH.blk (k := 8) rfl).lt
            have c_kr_0 := hH.ext.cell kr_0
            have c_kr_1 := hH.ext.cell kr_1
            have c_kr_2 := hH.ext.cell kr_2
            have c_kr_l := Nat.lt_of_lt_of_le kr_l hH.ext.size
            go_upto_region 18 with fail
            clear q0_0 q0_1 q0_2 q0_3 q0_4 l0_ q2_0 q2_1 q2_2 l2_ q5_0 q5_1 q5_2 l5_ q8_0 q8_1 q8_2 q8_3 q8_4 l8_ c_kr_0 c_kr_1 c_kr_2 c_kr_l
            have hB : Held wN (wn13.alloc (.cells #[.slice e1 m1 f1, .slice e2 m2 f2, .slice e3 m3 f3] 32)) [aB (wN.heap.size) 29 [.int .i64 k, .int .i64 p, .int .i64 n, .slice aV m cV, .slice aO op.length cO], aT (.agg #[.slice wd1 op.length wf1, .slice wd2 op.length wf2, .slice wd3 we3 wf3]) op (op.map dimOf) (flat RX), aB (wn4.heap.size) 32 [.slice wd1 op.length wf1, .slice wd2 op.length wf2, .slice wd3 we3 wf3], aI (.slice (some ⟨bA, oA, none⟩) AL.length cl) AL, aT (.agg #[.slice s1x s1y s1z, .slice s2x s2y s2z, .slice s3x s3y s3z]) op (op.map dimOf) (flat (sliceAcc HR.out dimOf ts op (c : Int) v)), aB (wn8.heap.size) 32 [.slice s1x s1y s1z, .slice s2x s2y s2z, .slice s3x s3y s3z], aTs (.slice aM m cM) cs2 (CT.map (tenOf dimOf)), aI (.slice aP op.length cP) op, aB (wn11.heap.size) 29 [.int .i64 k, .int .i64 p, .int .i64 n, .slice aM m cM, .slice aP op.length cP], aT (.agg #[.slice e1 m1 f1, .slice e2 m2 f2, .slice e3 m3 f3]) op (op.map dimOf) (flat RY), aB (wn13.heap.size) 32 [.slice e1 m1 f1, .slice e2 m2 f2, .slice e3 m3 f3]] := by
              have h := (hH.mores 1).addB 10 #[.slice e1 m1 f1, .slice e2 m2 f2, .slice e3 m3 f3] 32
              exact h
            have hsz : (wn13.alloc (.cells #[.slice e1 m1 f1, .slice e2 m2 f2, .slice e3 m3 f3] 32)).heap.size = wn13.heap.size + 1 := by simp
            generalize wn13.alloc (.cells #[.slice e1 m1 f1, .slice e2 m2 f2, .slice e3 m3 f3] 32) = wn14 at hB hsz ⊢
            replace hH := hB; have HSZwn14 := Lib.hid hsz; clear hB hsz
            have q0_0 := (hH.blk (k := 0) rfl).cell (j := 0) rfl
            have q0_1 := (hH.blk (k := 0) rfl).cell (j := 1) rfl
            have q0_2 := (hH.blk (k := 0) rfl).cell (j := 2) rfl
            have q0_3 := (hH.blk (k := 0) rfl).cell (j := 3) rfl
            have q0_4 := (hH.blk (k := 0) rfl).cell (j := 4) rfl
            have l0_ := (hH.blk (k := 0) rfl).lt
            have q2_0 := (hH.blk (k := 2) rfl).cell (j := 0) rfl
            have q2_1 := (hH.blk (k := 2) rfl).cell (j := 1) rfl
            have q2_2 := (hH.blk (k := 2) rfl).cell (j := 2) rfl
            have l2_ := (hH.blk (k := 2) rfl).lt
            have q5_0 := (hH.blk (k := 5) rfl).cell (j := 0) rfl
            have q5_1 := (hH.blk (k := 5) rfl).cell (j := 1) rfl
            have q5_2 := (hH.blk (k := 5) rfl).cell (j := 2) rfl
            have l5_ := (hH.blk (k := 5) rfl).lt
            have q8_0 := (hH.blk (k := 8) rfl).cell (j := 0) rfl
            have q8_1 := (hH.blk (k := 8) rfl).cell (j := 1) rfl
            have q8_2 := (hH.blk (k := 8) rfl).cell (j := 2) rfl
            have q8_3 := (hH.blk (k := 8) rfl).cell (j := 3) rfl
            have q8_4 := (hH.blk (k := 8) rfl).cell (j := 4) rfl
            have l8_ := (hH.blk (k := 8) rfl).lt
            have q10_0 := (hH.blk (k := 10) rfl).cell (j := 0) rfl
            have q10_1 := (hH.blk (k := 10) rfl).cell (j := 1) rfl
            have q10_2 := (hH.blk (k := 10) rfl).cell (j := 2) rfl
            have l10_ := (hH.blk (k := 10) rfl).lt
            have c_kr_0 := hH.ext.cell kr_0
            have c_kr_1 := hH.ext.cell kr_1
            have c_kr_2 := hH.ext.cell kr_2
            have c_kr_l := Nat.lt_of_lt_of_le kr_l hH.ext.size
            go_wp2_with fail
            clear q0_0 q0_1 q0_2 q0_3 q0_4 l0_ q2_0 q2_1 q2_2 l2_ q5_0 q5_1 q5_2 l5_ q8_0 q8_1 q8_2 q8_3 q8_4 l8_ q10_0 q10_1 q10_2 l10_ c_kr_0 c_kr_1 c_kr_2 c_kr_l
            refine (lawsIn_any _ op (c : Int) _ (hO.ext hH.ext)).mono ?_; rintro e3' w3' ⟨rfl, rfl⟩; rw [HIN.out]
            have q0_0 := (hH.blk (k := 0) rfl).cell (j := 0) rfl
            have q0_1 := (hH.blk (k := 0) rfl).cell (j := 1) rfl
            have q0_2 := (hH.blk (k := 0) rfl).cell (j := 2) rfl
            have q0_3 := (hH.blk (k := 0) rfl).cell (j := 3) rfl
            have q0_4 := (hH.blk (k := 0) rfl).cell (j := 4) rfl
            have l0_ := (hH.blk (k := 0) rfl).lt
            have q2_0 := (hH.blk (k := 2) rfl).cell (j := 0) rfl
            have q2_1 := (hH.blk (k := 2) rfl).cell (j := 1) rfl
            have q2_2 := (hH.blk (k := 2) rfl).cell (j := 2) rfl
            have l2_ := (hH.blk (k := 2) rfl).lt
            have q5_0 := (hH.blk (k := 5) rfl).cell (j := 0) rfl
            have q5_1 := (hH.blk (k := 5) rfl).cell (j := 1) rfl
            have q5_2 := (hH.blk (k := 5) rfl).cell (j := 2) rfl
            have l5_ := (hH.blk (k := 5) rfl).lt
            have q8_0 := (hH.blk (k := 8) rfl).cell (j := 0) rfl
            have q8_1 := (hH.blk (k := 8) rfl).cell (j := 1) rfl
            have q8_2 := (hH.blk (k := 8) rfl).cell (j := 2) rfl
            have q8_3 := (hH.blk (k := 8) rfl).cell (j := 3) rfl
            have q8_4 := (hH.blk (k := 8) rfl).cell (j := 4) rfl
            have l8_ := (hH.blk (k := 8) rfl).lt
            have q10_0 := (hH.blk (k := 10) rfl).cell (j := 0) rfl
            have q10_1 := (hH.blk (k := 10) rfl).cell (j := 1) rfl
            have q10_2 := (hH.blk (k := 10) rfl).cell (j := 2) rfl
            have l10_ := (hH.blk (k := 10) rfl).lt
            have c_kr_0 := hH.ext.cell kr_0
            have c_kr_1 := hH.ext.cell kr_1
            have c_kr_2 := hH.ext.cell kr_2
            have c_kr_l := Nat.lt_of_lt_of_le kr_l hH.ext.size
            go_wp2_with fail
            clear q0_0 q0_1 q0_2 q0_3 q0_4 l0_ q2_0 q2_1 q2_2 l2_ q5_0 q5_1 q5_2 l5_ q8_0 q8_1 q8_2 q8_3 q8_4 l8_ q10_0 q10_1 q10_2 l10_ c_kr_0 c_kr_1 c_kr_2 c_kr_l
            refine (addTensors_any HR.out (HSI.out (c : Int) v) HTY.out (List.Perm.refl _) _ _ _ (hH.tens (k := 4) rfl) (hH.tens (k := 9) rfl)).mono ?_; rintro ewn15 wn15 ⟨us, rfl, os, hwn15⟩
            rw [HSTV.out] at os
            obtain ⟨b1, g1, a1, b2, g2, a2, b3, g3, a3, rfl⟩ := os.shape
            replace hH : Held wN wn15 [aB (wN.heap.size) 29 [.int .i64 k, .int .i64 p, .int .i64 n, .slice aV m cV, .slice aO op.length cO], aT (.agg #[.slice wd1 op.length wf1, .slice wd2 op.length wf2, .slice wd3 we3 wf3]) op (op.map dimOf) (flat RX), aB (wn4.heap.size) 32 [.slice wd1 op.length wf1, .slice wd2 op.length wf2, .slice wd3 we3 wf3], aI (.slice (some ⟨bA, oA, none⟩) AL.length cl) AL, aT (.agg #[.slice s1x s1y s1z, .slice s2x s2y s2z, .slice s3x s3y s3z]) op (op.map dimOf) (flat (sliceAcc HR.out dimOf ts op (c : Int) v)), aB (wn8.heap.size) 32 [.slice s1x s1y s1z, .slice s2x s2y s2z, .slice s3x s3y s3z], aTs (.slice aM m cM) cs2 (CT.map (tenOf dimOf)), aI (.slice aP op.length cP) op, aB (wn11.heap.size) 29 [.int .i64 k, .int .i64 p, .int .i64 n, .slice aM m cM, .slice aP op.length cP], aT (.agg #[.slice e1 m1 f1, .slice e2 m2 f2, .slice e3 m3 f3]) op (op.map dimOf) (flat RY), aB (wn13.heap.size) 32 [.slice e1 m1 f1, .slice e2 m2 f2, .slice e3 m3 f3], aT (.agg #[.slice b1 g1 a1, .slice b2 g2 a2, .slice b3 g3 a3]) op (op.map dimOf) (flat (sliceAcc HR.out dimOf ts op (c : Int) (v + 1)))] := (hH.mores 1).addT 11 hwn15 os (Nat.le_refl _)
            clear hwn15
            have q0_0 := (hH.blk (k := 0) rfl).cell (j := 0) rfl
            have q0_1 := (hH.blk (k := 0) rfl).cell (j := 1) rfl
            have q0_2 := (hH.blk (k := 0) rfl).cell (j := 2) rfl
            have q0_3 := (hH.blk (k := 0) rfl).cell (j := 3) rfl
            have q0_4 := (hH.blk (k := 0) rfl).cell (j := 4) rfl
            have l0_ := (hH.blk (k := 0) rfl).lt
            have q2_0 := (hH.blk (k := 2) rfl).cell (j := 0) rfl
            have q2_1 := (hH.blk (k := 2) rfl).cell (j := 1) rfl
            have q2_2 := (hH.blk (k := 2) rfl).cell (j := 2) rfl
            have l2_ := (hH.blk (k := 2) rfl).lt
            have q5_0 := (hH.blk (k := 5) rfl).cell (j := 0) rfl
            have f5_0 := (hH.blk (k := 5) rfl).free 0
            have q5_1 := (hH.blk (k := 5) rfl).cell (j := 1) rfl
            have f5_1 := (hH.blk (k := 5) rfl).free 1
            have q5_2 := (hH.blk (k := 5) rfl).cell (j := 2) rfl
            have f5_2 := (hH.blk (k := 5) rfl).free 2
            have l5_ := (hH.blk (k := 5) rfl).lt
            have q8_0 := (hH.blk (k := 8) rfl).cell (j := 0) rfl
            have q8_1 := (hH.blk (k := 8) rfl).cell (j := 1) rfl
            have q8_2 := (hH.blk (k := 8) rfl).cell (j := 2) rfl
            have q8_3 := (hH.blk (k := 8) rfl).cell (j := 3) rfl
            have q8_4 := (hH.blk (k := 8) rfl).cell (j := 4) rfl
            have l8_ := (hH.blk (k := 8) rfl).lt
            have q10_0 := (hH.blk (k := 10) rfl).cell (j := 0) rfl
            have q10_1 := (hH.blk (k := 10) rfl).cell (j := 1) rfl
            have q10_2 := (hH.blk (k := 10) rfl).cell (j := 2) rfl
            have l10_ := (hH.blk (k := 10) rfl).lt
            have c_kr_0 := hH.ext.cell kr_0
            have c_kr_1 := hH.ext.cell kr_1
            have c_kr_2 := hH.ext.cell kr_2
            have c_kr_l := Nat.lt_of_lt_of_le kr_l hH.ext.size
            go_wp2_with fail
            have hHs := hH.setB3' (k := 5) rfl (.slice b1 g1 a1) (.slice b2 g2 a2) (.slice b3 g3 a3)
            go_roundw
            case rel => exact ⟨v + 1, _, _, _, by omega, by go_num, (hHs.move 4 11 rfl (by decide)).sub (.cons_cons _ (.cons_cons _ (.cons_cons _ (.cons_cons _ (.cons_cons _ (.cons_cons _ (.cons _ (.cons _ (.cons _ (.cons _ (.cons _ (.cons _ .slnil))))))))))))⟩
            case measure => simp [RowKit.intOf]; omega
          · skip
            have hve : v = d := by omega
            subst hve
            have HFIN := Lib.hid (HFA.out (c : Int) HXP.out HXO.out v HD.out)
            rw [HFIN.out] at hH
            have q0_0 := (hH.blk (k := 0) rfl).cell (j := 0) rfl
            have q0_1 := (hH.blk (k := 0) rfl).cell (j := 1) rfl
            have q0_2 := (hH.blk (k := 0) rfl).cell (j := 2) rfl
            have q0_3 := (hH.blk (k := 0) rfl).cell (j := 3) rfl
            have q0_4 := (hH.blk (k := 0) rfl).cell (j := 4) rfl
            have l0_ := (hH.blk (k := 0) rfl).lt
            have q2_0 := (hH.blk (k := 2) rfl).cell (j := 0) rfl
            have q2_1 := (hH.blk (k := 2) rfl).cell (j := 1) rfl
            have q2_2 := (hH.blk (k := 2) rfl).cell (j := 2) rfl
            have l2_ := (hH.blk (k := 2) rfl).lt
            have q5_0 := (hH.blk (k := 5) rfl).cell (j := 0) rfl
            have q5_1 := (hH.blk (k := 5) rfl).cell (j := 1) rfl
            have q5_2 := (hH.blk (k := 5) rfl).cell (j := 2) rfl
            have l5_ := (hH.blk (k := 5) rfl).lt
            have c_kr_0 := hH.ext.cell kr_0
            have c_kr_1 := hH.ext.cell kr_1
            have c_kr_2 := hH.ext.cell kr_2
            have c_kr_l := Nat.lt_of_lt_of_le kr_l hH.ext.size
            go_wp2_with fail
            clear q0_0 q0_1 q0_2 q0_3 q0_4 l0_ q2_0 q2_1 q2_2 l2_ q5_0 q5_1 q5_2 l5_ c_kr_0 c_kr_1 c_kr_2 c_kr_l
            refine (same_same _ _ _ _ _ _ _ _ _ (hH.tens (k := 4) rfl) (hH.tens (k := 1) rfl) rfl rfl rfl).mono ?_; rintro ewn11 wn11 ⟨rfl, hwn11⟩
            replace hH : Held wN wn11 [aB (wN.heap.size) 29 [.int .i64 k, .int .i64 p, .int .i64 n, .slice aV m cV, .slice aO op.length cO], aT (.agg #[.slice wd1 op.length wf1, .slice wd2 op.length wf2, .slice wd3 we3 wf3]) op (op.map dimOf) (flat RX), aB (wn4.heap.size) 32 [.slice wd1 op.length wf1, .slice wd2 op.length wf2, .slice wd3 we3 wf3], aI (.slice (some ⟨bA, oA, none⟩) AL.length cl) AL, aT (.agg #[.slice s1x s1y s1z, .slice s2x s2y s2z, .slice s3x s3y s3z]) op (op.map dimOf) (flat RX), aB (wn8.heap.size) 32 [.slice s1x s1y s1z, .slice s2x s2y s2z, .slice s3x s3y s3z]] := hH.grow hwn11
            clear hwn11
            go_wp2_with fail
            go_roundw
            case rel => exact ⟨j + 1, by omega, by go_num, hH.sub (.cons_cons _ (.cons_cons _ (.cons_cons _ (.cons_cons _ (.cons _ (.cons _ .slnil))))))⟩
            case measure => simp [RowKit.intOf]; omega
    · skip
      have HE := Lib.hid (E0.trans hH.ext); clear hH
      go_wp2
      go_ret
      exact ⟨rfl, HE.out⟩
end Go.Proofs.Ytpegckmagiaggaa
