/- JoinNetworks of the program. -/
import Derived.Test.YtpegckmagiaggaaJG18
import Derived.Test.YtpegckmagiaggaaJNetQ
set_option linter.unusedSimpArgs false
set_option linter.unusedVariables false
namespace Go.Proofs.Ytpegckmagiaggaa
open Go.RowKit
set_option maxRecDepth 100000 in
set_option maxHeartbeats 8000000 in
theorem joinNetworks_any {k p n : Int} (hr : ringOk k p n = true) {dm : Int → Int} {U : List Int} {ts : List (NT k p n)} {op : List Int} (hN : IsN k p n dm U ts op) (tv ov : Value) (w : World) (hT : TensS w tv (ts.map (tenOf dm))) (hO : IntS w ov op) {ts2 : List (NT k p n)} {op2 K : List Int} (hN2 : IsN k p n dm U ts2 op2) (hNJ : IsN k p n dm U (ts ++ ts2) K) (hcom : ∀ x ∈ occ ts, x ∈ occ ts2 → x ∈ op ∧ x ∈ op2) (tv2 ov2 kv : Value) (hT2 : TensS w tv2 (ts2.map (tenOf dm))) (hO2 : IntS w ov2 op2) (hK : IntS w kv K) :
 Calls Try.prog 44 #[.agg #[.int .i64 k, .int .i64 p, .int .i64 n, tv, ov], .agg #[.int .i64 k, .int .i64 p, .int .i64 n, tv2, ov2], kv] w fun e w' => ∃ tv' ov' cs, e = .returned (.tuple #[.agg #[.int .i64 k, .int .i64 p, .int .i64 n, tv', ov'], .bool true]) ∧
  Held w w' [aTs tv' cs ((ts ++ ts2).map (tenOf dm)), aI ov' K] := by
 have hT0 := hT
 have hO0 := hO
 obtain ⟨m, hm⟩ : ∃ m, ts.length = m := ⟨_, rfl⟩
 obtain ⟨aV, cV, rfl, hcT1, hcT2⟩ := hT.val
 obtain ⟨aO, cO, rfl, hcO1, hcO2⟩ := hO.val
 rw [List.length_map, hm] at hT hT0 hcT1
 rw [List.length_map, hm]
 have hm12 : m ≤ 12 := by rw [← hm]; exact hN.len
 have hop12 : op.length ≤ 12 := hN.rank
 have HM := Lib.hid hm; have HR := Lib.hid hr; have HN := Lib.hid hN; have HD3 := Lib.hid hN.dims3; clear hm  hN
 have hTl : Hid ((ts.map (tenOf dm)).length = m) := Lib.hid (by rw [List.length_map]; exact HM.out)
 obtain ⟨m2, hm2⟩ : ∃ q, ts2.length = q := ⟨_, rfl⟩
 obtain ⟨aV2, cV2, rfl, hcV1, hcV2⟩ := hT2.val
 obtain ⟨aO2, cO2, rfl, _, _⟩ := hO2.val
 obtain ⟨aX, cX, rfl, _, _⟩ := hK.val
 rw [List.length_map, hm2] at hT2 hcV1
 rw [List.length_map, hm2]
 have hm212 : m2 ≤ 12 := by rw [← hm2]; exact hN2.len
 have hk12 : K.length ≤ 12 := hNJ.rank
 have HM2 := Lib.hid hm2; have HN2 := Lib.hid hN2; have HNJ := Lib.hid hNJ; have HCOM := Lib.hid hcom
 clear hm2 hN2 hNJ hcom
 obtain ⟨AL, hAL⟩ : ∃ q, ascL (occ ts) = q := ⟨_, rfl⟩
 have HAM : Hid (∀ x ∈ AL, (0 ≤ x ∧ x ≤ 99) ∧ x ∈ occ ts) := Lib.hid fun x hx => by rw [← hAL] at hx; exact mem_ascL.1 hx
 have hal12 : AL.length ≤ 12 := by rw [← hAL]; exact (HN.out.uni.ax HN.out.ascSub).rank
 have HAL := Lib.hid hAL; clear hAL
 obtain ⟨T1, hT1⟩ : ∃ q, ts.map (tenOf dm) = q := ⟨_, rfl⟩
 obtain ⟨T2, hTT2⟩ : ∃ q, ts2.map (tenOf dm) = q := ⟨_, rfl⟩
 have H1L : Hid (T1.length = m) := Lib.hid (by rw [← hT1]; exact hTl.out)
 have H2L : Hid (T2.length = m2) := Lib.hid (by rw [← hTT2, List.length_map]; exact HM2.out)
 have HT12 : Hid ((ts ++ ts2).map (tenOf dm) = T1 ++ T2) := Lib.hid (by rw [List.map_append, hT1, hTT2])
 have HT1 := Lib.hid hT1; have HT2 := Lib.hid hTT2
 clear hT1 hTT2
 go_enter Try.func44, Try.ntmps44
 go_upto_region 1 with fail
 have hH : Held w w [] := Held.new (Ext.refl w) 0
 have hB : Held w (w.alloc (.cells #[.int .i64 k, .int .i64 p, .int .i64 n, .slice aV m cV, .slice aO op.length cO] 29)) [aB (w.heap.size) 29 [.int .i64 k, .int .i64 p, .int .i64 n, .slice aV m cV, .slice aO op.length cO]] := by
  have h := (hH.mores 1).addB 0 #[.int .i64 k, .int .i64 p, .int .i64 n, .slice aV m cV, .slice aO op.length cO] 29
  exact h
 have hsz : (w.alloc (.cells #[.int .i64 k, .int .i64 p, .int .i64 n, .slice aV m cV, .slice aO op.length cO] 29)).heap.size = w.heap.size + 1 := by simp
 generalize w.alloc (.cells #[.int .i64 k, .int .i64 p, .int .i64 n, .slice aV m cV, .slice aO op.length cO] 29) = wn1 at hB hsz ⊢
 replace hH := hB; have HSZwn1 := Lib.hid hsz; clear hB hsz
 have hB : Held w (wn1.alloc (.cells #[.int .i64 k, .int .i64 p, .int .i64 n, .slice aV2 m2 cV2, .slice aO2 op2.length cO2] 29)) [aB (w.heap.size) 29 [.int .i64 k, .int .i64 p, .int .i64 n, .slice aV m cV, .slice aO op.length cO], aB (w.heap.size + 1) 29 [.int .i64 k, .int .i64 p, .int .i64 n, .slice aV2 m2 cV2, .slice aO2 op2.length cO2]] := by
  have h := (hH.mores 1).addB 1 #[.int .i64 k, .int .i64 p, .int .i64 n, .slice aV2 m2 cV2, .slice aO2 op2.length cO2] 29
  rw [HSZwn1.out] at h
  exact h
 have hsz : (wn1.alloc (.cells #[.int .i64 k, .int .i64 p, .int .i64 n, .slice aV2 m2 cV2, .slice aO2 op2.length cO2] 29)).heap.size = w.heap.size + 1 + 1 := by rw [← HSZwn1.out]; simp
 generalize wn1.alloc (.cells #[.int .i64 k, .int .i64 p, .int .i64 n, .slice aV2 m2 cV2, .slice aO2 op2.length cO2] 29) = wn2 at hB hsz ⊢
 replace hH := hB; have HSZwn2 := Lib.hid hsz; clear hB hsz
 have hB : Held w (wn2.alloc (.cells #[.int .i64 0, .int .i64 0, .int .i64 0, .slice none 0 0, .slice none 0 0] 29)) [aB (w.heap.size) 29 [.int .i64 k, .int .i64 p, .int .i64 n, .slice aV m cV, .slice aO op.length cO], aB (w.heap.size + 1) 29 [.int .i64 k, .int .i64 p, .int .i64 n, .slice aV2 m2 cV2, .slice aO2 op2.length cO2], aB (w.heap.size + 1 + 1) 29 [.int .i64 0, .int .i64 0, .int .i64 0, .slice none 0 0, .slice none 0 0]] := by
  have h := (hH.mores 1).addB 2 #[.int .i64 0, .int .i64 0, .int .i64 0, .slice none 0 0, .slice none 0 0] 29
  rw [HSZwn2.out] at h
  exact h
 have hsz : (wn2.alloc (.cells #[.int .i64 0, .int .i64 0, .int .i64 0, .slice none 0 0, .slice none 0 0] 29)).heap.size = w.heap.size + 1 + 1 + 1 := by rw [← HSZwn2.out]; simp
 generalize wn2.alloc (.cells #[.int .i64 0, .int .i64 0, .int .i64 0, .slice none 0 0, .slice none 0 0] 29) = wn3 at hB hsz ⊢
 replace hH := hB; have HSZwn3 := Lib.hid hsz; clear hB hsz
 have q0_0 := hH.cl 0 0 rfl rfl; have q0_1 := hH.cl 0 1 rfl rfl; have q0_2 := hH.cl 0 2 rfl rfl; have q0_3 := hH.cl 0 3 rfl rfl; have q0_4 := hH.cl 0 4 rfl rfl; have l0_ := hH.bl 0 rfl; have q1_0 := hH.cl 1 0 rfl rfl; have q1_1 := hH.cl 1 1 rfl rfl; have q1_2 := hH.cl 1 2 rfl rfl; have q1_3 := hH.cl 1 3 rfl rfl; have q1_4 := hH.cl 1 4 rfl rfl; have l1_ := hH.bl 1 rfl; have q2_0 := hH.cl 2 0 rfl rfl; have q2_1 := hH.cl 2 1 rfl rfl; have q2_2 := hH.cl 2 2 rfl rfl; have q2_3 := hH.cl 2 3 rfl rfl; have q2_4 := hH.cl 2 4 rfl rfl; have l2_ := hH.bl 2 rfl
 go_wp2_with fail
 clear q0_0 q0_1 q0_2 q0_3 q0_4 l0_ q1_0 q1_1 q1_2 q1_3 q1_4 l1_ q2_0 q2_1 q2_2 q2_3 q2_4 l2_
 refine (networkOk_any HR.out HN.out _ _ _ (hT0.ext hH.ext) (hO0.ext hH.ext)).mono ?_; rintro ewn4 wn4 ⟨rfl, hwn4⟩
 replace hH : Held w wn4 [aB (w.heap.size) 29 [.int .i64 k, .int .i64 p, .int .i64 n, .slice aV m cV, .slice aO op.length cO], aB (w.heap.size + 1) 29 [.int .i64 k, .int .i64 p, .int .i64 n, .slice aV2 m2 cV2, .slice aO2 op2.length cO2], aB (w.heap.size + 1 + 1) 29 [.int .i64 0, .int .i64 0, .int .i64 0, .slice none 0 0, .slice none 0 0]] := hH.grow hwn4
 clear hwn4
 have q0_0 := hH.cl 0 0 rfl rfl; have q0_1 := hH.cl 0 1 rfl rfl; have q0_2 := hH.cl 0 2 rfl rfl; have q0_3 := hH.cl 0 3 rfl rfl; have q0_4 := hH.cl 0 4 rfl rfl; have l0_ := hH.bl 0 rfl; have q1_0 := hH.cl 1 0 rfl rfl; have q1_1 := hH.cl 1 1 rfl rfl; have q1_2 := hH.cl 1 2 rfl rfl; have q1_3 := hH.cl 1 3 rfl rfl; have q1_4 := hH.cl 1 4 rfl rfl; have l1_ := hH.bl 1 rfl; have q2_0 := hH.cl 2 0 rfl rfl; have q2_1 := hH.cl 2 1 rfl rfl; have q2_2 := hH.cl 2 2 rfl rfl; have q2_3 := hH.cl 2 3 rfl rfl; have q2_4 := hH.cl 2 4 rfl rfl; have l2_ := hH.bl 2 rfl
 go_wp2_with fail
 clear q0_0 q0_1 q0_2 q0_3 q0_4 l0_ q1_0 q1_1 q1_2 q1_3 q1_4 l1_ q2_0 q2_1 q2_2 q2_3 q2_4 l2_
 refine (networkOk_any HR.out HN2.out _ _ _ (hT2.ext hH.ext) (hO2.ext hH.ext)).mono ?_; rintro ewn5 wn5 ⟨rfl, hwn5⟩
 replace hH : Held w wn5 [aB (w.heap.size) 29 [.int .i64 k, .int .i64 p, .int .i64 n, .slice aV m cV, .slice aO op.length cO], aB (w.heap.size + 1) 29 [.int .i64 k, .int .i64 p, .int .i64 n, .slice aV2 m2 cV2, .slice aO2 op2.length cO2], aB (w.heap.size + 1 + 1) 29 [.int .i64 0, .int .i64 0, .int .i64 0, .slice none 0 0, .slice none 0 0]] := hH.grow hwn5
 clear hwn5
 have q0_0 := hH.cl 0 0 rfl rfl; have q0_1 := hH.cl 0 1 rfl rfl; have q0_2 := hH.cl 0 2 rfl rfl; have q0_3 := hH.cl 0 3 rfl rfl; have q0_4 := hH.cl 0 4 rfl rfl; have l0_ := hH.bl 0 rfl; have q1_0 := hH.cl 1 0 rfl rfl; have q1_1 := hH.cl 1 1 rfl rfl; have q1_2 := hH.cl 1 2 rfl rfl; have q1_3 := hH.cl 1 3 rfl rfl; have q1_4 := hH.cl 1 4 rfl rfl; have l1_ := hH.bl 1 rfl; have q2_0 := hH.cl 2 0 rfl rfl; have q2_1 := hH.cl 2 1 rfl rfl; have q2_2 := hH.cl 2 2 rfl rfl; have q2_3 := hH.cl 2 3 rfl rfl; have q2_4 := hH.cl 2 4 rfl rfl; have l2_ := hH.bl 2 rfl
 go_wp2_with fail
 clear q0_0 q0_1 q0_2 q0_3 q0_4 l0_ q1_0 q1_1 q1_2 q1_3 q1_4 l1_ q2_0 q2_1 q2_2 q2_3 q2_4 l2_
 refine (labelsOf_any HR.out HN.out _ _ _ (hT0.ext hH.ext) (hO0.ext hH.ext)).mono ?_; rintro ewn6 wn6 ⟨u, rfl, hJ⟩
 rw [HAL.out] at hJ
 obtain ⟨al, cl, rfl⟩ := (hJ.own (k := 0) rfl).shape1 AL.length rfl
 replace hH : Held w wn6 [aB (w.heap.size) 29 [.int .i64 k, .int .i64 p, .int .i64 n, .slice aV m cV, .slice aO op.length cO], aB (w.heap.size + 1) 29 [.int .i64 k, .int .i64 p, .int .i64 n, .slice aV2 m2 cV2, .slice aO2 op2.length cO2], aB (w.heap.size + 1 + 1) 29 [.int .i64 0, .int .i64 0, .int .i64 0, .slice none 0 0, .slice none 0 0], aI (.slice al AL.length cl) AL] := hH.join hJ (fun q hq => by cases hq)
 clear hJ
 have q0_0 := hH.cl 0 0 rfl rfl; have q0_1 := hH.cl 0 1 rfl rfl; have q0_2 := hH.cl 0 2 rfl rfl; have q0_3 := hH.cl 0 3 rfl rfl; have q0_4 := hH.cl 0 4 rfl rfl; have l0_ := hH.bl 0 rfl; have q1_0 := hH.cl 1 0 rfl rfl; have q1_1 := hH.cl 1 1 rfl rfl; have q1_2 := hH.cl 1 2 rfl rfl; have q1_3 := hH.cl 1 3 rfl rfl; have q1_4 := hH.cl 1 4 rfl rfl; have l1_ := hH.bl 1 rfl; have q2_0 := hH.cl 2 0 rfl rfl; have q2_1 := hH.cl 2 1 rfl rfl; have q2_2 := hH.cl 2 2 rfl rfl; have q2_3 := hH.cl 2 3 rfl rfl; have q2_4 := hH.cl 2 4 rfl rfl; have l2_ := hH.bl 2 rfl
 go_wp2_with fail
 clear q0_0 q0_1 q0_2 q0_3 q0_4 l0_ q1_0 q1_1 q1_2 q1_3 q1_4 l1_ q2_0 q2_1 q2_2 q2_3 q2_4 l2_
 go_loopw [30] (fun i wr => ∃ (j : Nat), j ≤ AL.length ∧ i = .int .i64 (j : Int) ∧ Held w wr [aB (w.heap.size) 29 [.int .i64 k, .int .i64 p, .int .i64 n, .slice aV m cV, .slice aO op.length cO], aB (w.heap.size + 1) 29 [.int .i64 k, .int .i64 p, .int .i64 n, .slice aV2 m2 cV2, .slice aO2 op2.length cO2], aB (w.heap.size + 1 + 1) 29 [.int .i64 0, .int .i64 0, .int .i64 0, .slice none 0 0, .slice none 0 0], aI (.slice al AL.length cl) AL]) (fun i wr => AL.length - (RowKit.intOf i).toNat)
 case atStart => exact ⟨0, Nat.zero_le _, rfl, hH⟩
 case round =>
  clear hH
  obtain ⟨j, hj, rfl, hH⟩ := hrel
  obtain ⟨wq, rfl⟩ : ∃ q, q = wr := ⟨wr, rfl⟩
  by_cases hlt : j < AL.length
  ·
   obtain ⟨bA, oA, x, hVa, hcx, hx, _⟩ := (hH.ints (k := 3) rfl).get (i := j) hlt
   subst hVa
   obtain ⟨⟨hx0, hx1⟩, hxo⟩ := HAM.out x (List.mem_of_getElem? hx)
   obtain ⟨c, rfl⟩ : ∃ c : Nat, x = (c : Int) := ⟨x.toNat, by omega⟩
   have hc : c < 100 := by omega
   have HXO := Lib.hid hxo
   clear hx hxo hx0 hx1
   have q0_0 := hH.cl 0 0 rfl rfl; have q0_1 := hH.cl 0 1 rfl rfl; have q0_2 := hH.cl 0 2 rfl rfl; have q0_3 := hH.cl 0 3 rfl rfl; have q0_4 := hH.cl 0 4 rfl rfl; have l0_ := hH.bl 0 rfl; have q1_0 := hH.cl 1 0 rfl rfl; have q1_1 := hH.cl 1 1 rfl rfl; have q1_2 := hH.cl 1 2 rfl rfl; have q1_3 := hH.cl 1 3 rfl rfl; have q1_4 := hH.cl 1 4 rfl rfl; have l1_ := hH.bl 1 rfl; have q2_0 := hH.cl 2 0 rfl rfl; have q2_1 := hH.cl 2 1 rfl rfl; have q2_2 := hH.cl 2 2 rfl rfl; have q2_3 := hH.cl 2 3 rfl rfl; have q2_4 := hH.cl 2 4 rfl rfl; have l2_ := hH.bl 2 rfl
   go_wp2_with fail
   clear q0_0 q0_1 q0_2 q0_3 q0_4 l0_ q1_0 q1_1 q1_2 q1_3 q1_4 l1_ q2_0 q2_1 q2_2 q2_3 q2_4 l2_
   refine (dimOf_any HR.out HN2.out _ _ _ (hT2.ext hH.ext) (hO2.ext hH.ext) c hc).mono ?_; rintro ewn7 wn7 ⟨rfl, hwn7⟩
   replace hH : Held w wn7 [aB (w.heap.size) 29 [.int .i64 k, .int .i64 p, .int .i64 n, .slice aV m cV, .slice aO op.length cO], aB (w.heap.size + 1) 29 [.int .i64 k, .int .i64 p, .int .i64 n, .slice aV2 m2 cV2, .slice aO2 op2.length cO2], aB (w.heap.size + 1 + 1) 29 [.int .i64 0, .int .i64 0, .int .i64 0, .slice none 0 0, .slice none 0 0], aI (.slice (some ⟨bA, oA, none⟩) AL.length cl) AL] := hH.grow hwn7
   clear hwn7
   by_cases hx2 : (c : Int) ∈ occ ts2
   ·
    have hdd := HN2.out.opDim hx2
    have hbo := HCOM.out _ HXO.out hx2
    have HB1 := Lib.hid ((hasL_iff _ _).2 hbo.1); have HB2 := Lib.hid ((hasL_iff _ _).2 hbo.2)
    rw [if_pos ((hasL_iff _ _).2 hx2)]
    obtain ⟨dd, hd1⟩ : ∃ q, dm (c : Int) = q := ⟨_, rfl⟩
    rw [hd1] at hdd ⊢
    have hne : (dd != 0) = true := by rw [bne_iff_ne]; omega
    clear hbo hx2 hd1
    have q0_0 := hH.cl 0 0 rfl rfl; have q0_1 := hH.cl 0 1 rfl rfl; have q0_2 := hH.cl 0 2 rfl rfl; have q0_3 := hH.cl 0 3 rfl rfl; have q0_4 := hH.cl 0 4 rfl rfl; have l0_ := hH.bl 0 rfl; have q1_0 := hH.cl 1 0 rfl rfl; have q1_1 := hH.cl 1 1 rfl rfl; have q1_2 := hH.cl 1 2 rfl rfl; have q1_3 := hH.cl 1 3 rfl rfl; have q1_4 := hH.cl 1 4 rfl rfl; have l1_ := hH.bl 1 rfl; have q2_0 := hH.cl 2 0 rfl rfl; have q2_1 := hH.cl 2 1 rfl rfl; have q2_2 := hH.cl 2 2 rfl rfl; have q2_3 := hH.cl 2 3 rfl rfl; have q2_4 := hH.cl 2 4 rfl rfl; have l2_ := hH.bl 2 rfl
    go_wp2_with fail
    clear q0_0 q0_1 q0_2 q0_3 q0_4 l0_ q1_0 q1_1 q1_2 q1_3 q1_4 l1_ q2_0 q2_1 q2_2 q2_3 q2_4 l2_
    refine (hasInt_any _ op (c : Int) _ (hO.ext hH.ext)).mono ?_; rintro e3 w3 ⟨rfl, rfl⟩; rw [HB1.out]
    have q0_0 := hH.cl 0 0 rfl rfl; have q0_1 := hH.cl 0 1 rfl rfl; have q0_2 := hH.cl 0 2 rfl rfl; have q0_3 := hH.cl 0 3 rfl rfl; have q0_4 := hH.cl 0 4 rfl rfl; have l0_ := hH.bl 0 rfl; have q1_0 := hH.cl 1 0 rfl rfl; have q1_1 := hH.cl 1 1 rfl rfl; have q1_2 := hH.cl 1 2 rfl rfl; have q1_3 := hH.cl 1 3 rfl rfl; have q1_4 := hH.cl 1 4 rfl rfl; have l1_ := hH.bl 1 rfl; have q2_0 := hH.cl 2 0 rfl rfl; have q2_1 := hH.cl 2 1 rfl rfl; have q2_2 := hH.cl 2 2 rfl rfl; have q2_3 := hH.cl 2 3 rfl rfl; have q2_4 := hH.cl 2 4 rfl rfl; have l2_ := hH.bl 2 rfl
    go_wp2_with fail
    clear q0_0 q0_1 q0_2 q0_3 q0_4 l0_ q1_0 q1_1 q1_2 q1_3 q1_4 l1_ q2_0 q2_1 q2_2 q2_3 q2_4 l2_
    refine (hasInt_any _ op2 (c : Int) _ (hO2.ext hH.ext)).mono ?_; rintro e4 w4 ⟨rfl, rfl⟩; rw [HB2.out]
    have q0_0 := hH.cl 0 0 rfl rfl; have q0_1 := hH.cl 0 1 rfl rfl; have q0_2 := hH.cl 0 2 rfl rfl; have q0_3 := hH.cl 0 3 rfl rfl; have q0_4 := hH.cl 0 4 rfl rfl; have l0_ := hH.bl 0 rfl; have q1_0 := hH.cl 1 0 rfl rfl; have q1_1 := hH.cl 1 1 rfl rfl; have q1_2 := hH.cl 1 2 rfl rfl; have q1_3 := hH.cl 1 3 rfl rfl; have q1_4 := hH.cl 1 4 rfl rfl; have l1_ := hH.bl 1 rfl; have q2_0 := hH.cl 2 0 rfl rfl; have q2_1 := hH.cl 2 1 rfl rfl; have q2_2 := hH.cl 2 2 rfl rfl; have q2_3 := hH.cl 2 3 rfl rfl; have q2_4 := hH.cl 2 4 rfl rfl; have l2_ := hH.bl 2 rfl
    go_wp2_with fail
    go_roundw
    case rel => exact ⟨j + 1, by omega, by go_num, hH.sub (.cons_cons _ (.cons_cons _ (.cons_cons _ (.cons_cons _ .slnil))))⟩
    case measure => simp [RowKit.intOf]; omega
   ·
    rw [if_neg (fun h => hx2 ((hasL_iff _ _).1 h))]
    clear hx2
    have q0_0 := hH.cl 0 0 rfl rfl; have q0_1 := hH.cl 0 1 rfl rfl; have q0_2 := hH.cl 0 2 rfl rfl; have q0_3 := hH.cl 0 3 rfl rfl; have q0_4 := hH.cl 0 4 rfl rfl; have l0_ := hH.bl 0 rfl; have q1_0 := hH.cl 1 0 rfl rfl; have q1_1 := hH.cl 1 1 rfl rfl; have q1_2 := hH.cl 1 2 rfl rfl; have q1_3 := hH.cl 1 3 rfl rfl; have q1_4 := hH.cl 1 4 rfl rfl; have l1_ := hH.bl 1 rfl; have q2_0 := hH.cl 2 0 rfl rfl; have q2_1 := hH.cl 2 1 rfl rfl; have q2_2 := hH.cl 2 2 rfl rfl; have q2_3 := hH.cl 2 3 rfl rfl; have q2_4 := hH.cl 2 4 rfl rfl; have l2_ := hH.bl 2 rfl
    go_wp2_with fail
    go_roundw
    case rel => exact ⟨j + 1, by omega, by go_num, hH.sub (.cons_cons _ (.cons_cons _ (.cons_cons _ (.cons_cons _ .slnil))))⟩
    case measure => simp [RowKit.intOf]; omega
  ·
   replace hH : Held w wq [aB (w.heap.size) 29 [.int .i64 k, .int .i64 p, .int .i64 n, .slice aV m cV, .slice aO op.length cO], aB (w.heap.size + 1) 29 [.int .i64 k, .int .i64 p, .int .i64 n, .slice aV2 m2 cV2, .slice aO2 op2.length cO2], aB (w.heap.size + 1 + 1) 29 [.int .i64 0, .int .i64 0, .int .i64 0, .slice none 0 0, .slice none 0 0]] := hH.sub (.cons_cons _ (.cons_cons _ (.cons_cons _ (.cons _ .slnil))))
   have q0_0 := hH.cl 0 0 rfl rfl; have q0_1 := hH.cl 0 1 rfl rfl; have q0_2 := hH.cl 0 2 rfl rfl; have q0_3 := hH.cl 0 3 rfl rfl; have q0_4 := hH.cl 0 4 rfl rfl; have l0_ := hH.bl 0 rfl; have q1_0 := hH.cl 1 0 rfl rfl; have q1_1 := hH.cl 1 1 rfl rfl; have q1_2 := hH.cl 1 2 rfl rfl; have q1_3 := hH.cl 1 3 rfl rfl; have q1_4 := hH.cl 1 4 rfl rfl; have l1_ := hH.bl 1 rfl; have q2_0 := hH.cl 2 0 rfl rfl; have q2_1 := hH.cl 2 1 rfl rfl; have q2_2 := hH.cl 2 2 rfl rfl; have q2_3 := hH.cl 2 3 rfl rfl; have q2_4 := hH.cl 2 4 rfl rfl; have l2_ := hH.bl 2 rfl
   go_wp2_with fail
   clear q0_0 q0_1 q0_2 q0_3 q0_4 l0_ q1_0 q1_1 q1_2 q1_3 q1_4 l1_ q2_0 q2_1 q2_2 q2_3 q2_4 l2_
   refine (copyNetwork_any HR.out HN.out _ _ _ (hT0.ext hH.ext) (hO0.ext hH.ext)).mono ?_; rintro ewn8 wn8 ⟨tv9, ov9, cs, rfl, hJ⟩
   rw [HT1.out] at hJ
   obtain ⟨aP, cP, rfl⟩ := (hJ.own (k := 1) rfl).shape1 op.length rfl
   obtain ⟨aK, cK, rfl, _, _⟩ := (hJ.tensS (k := 0) rfl).val
   rw [H1L.out] at hJ ⊢
   replace hH : Held w wn8 [aB (w.heap.size) 29 [.int .i64 k, .int .i64 p, .int .i64 n, .slice aV m cV, .slice aO op.length cO], aB (w.heap.size + 1) 29 [.int .i64 k, .int .i64 p, .int .i64 n, .slice aV2 m2 cV2, .slice aO2 op2.length cO2], aB (w.heap.size + 1 + 1) 29 [.int .i64 0, .int .i64 0, .int .i64 0, .slice none 0 0, .slice none 0 0], aTs (.slice aK m cK) cs T1, aI (.slice aP op.length cP) op] := hH.join hJ (fun q hq => by cases hq)
   clear hJ
   have q0_0 := hH.cl 0 0 rfl rfl; have q0_1 := hH.cl 0 1 rfl rfl; have q0_2 := hH.cl 0 2 rfl rfl; have q0_3 := hH.cl 0 3 rfl rfl; have q0_4 := hH.cl 0 4 rfl rfl; have l0_ := hH.bl 0 rfl; have q1_0 := hH.cl 1 0 rfl rfl; have q1_1 := hH.cl 1 1 rfl rfl; have q1_2 := hH.cl 1 2 rfl rfl; have q1_3 := hH.cl 1 3 rfl rfl; have q1_4 := hH.cl 1 4 rfl rfl; have l1_ := hH.bl 1 rfl; have q2_0 := hH.cl 2 0 rfl rfl; have q2_1 := hH.cl 2 1 rfl rfl; have q2_2 := hH.cl 2 2 rfl rfl; have q2_3 := hH.cl 2 3 rfl rfl; have q2_4 := hH.cl 2 4 rfl rfl; have l2_ := hH.bl 2 rfl
   go_upto_region 10 with fail
   clear q0_0 q0_1 q0_2 q0_3 q0_4 l0_ q1_0 q1_1 q1_2 q1_3 q1_4 l1_ q2_0 q2_1 q2_2 q2_3 q2_4 l2_
   have hB : Held w (wn8.alloc (.cells #[.int .i64 k, .int .i64 p, .int .i64 n, .slice aK m cK, .slice aP op.length cP] 29)) [aB (w.heap.size) 29 [.int .i64 k, .int .i64 p, .int .i64 n, .slice aV m cV, .slice aO op.length cO], aB (w.heap.size + 1) 29 [.int .i64 k, .int .i64 p, .int .i64 n, .slice aV2 m2 cV2, .slice aO2 op2.length cO2], aB (w.heap.size + 1 + 1) 29 [.int .i64 0, .int .i64 0, .int .i64 0, .slice none 0 0, .slice none 0 0], aTs (.slice aK m cK) cs T1, aI (.slice aP op.length cP) op, aB (wn8.heap.size) 29 [.int .i64 k, .int .i64 p, .int .i64 n, .slice aK m cK, .slice aP op.length cP]] := by
    have h := (hH.mores 1).addB 5 #[.int .i64 k, .int .i64 p, .int .i64 n, .slice aK m cK, .slice aP op.length cP] 29
    exact h
   have hsz : (wn8.alloc (.cells #[.int .i64 k, .int .i64 p, .int .i64 n, .slice aK m cK, .slice aP op.length cP] 29)).heap.size = wn8.heap.size + 1 := by simp
   generalize wn8.alloc (.cells #[.int .i64 k, .int .i64 p, .int .i64 n, .slice aK m cK, .slice aP op.length cP] 29) = wn9 at hB hsz ⊢
   replace hH := hB; have HSZwn9 := Lib.hid hsz; clear hB hsz
   obtain ⟨wy, rfl⟩ : ∃ q, q = wn9 := ⟨wn9, rfl⟩
   replace hH := hH.mores 2
   replace hH : Held w wy [aB (w.heap.size) 29 [.int .i64 k, .int .i64 p, .int .i64 n, .slice aV m cV, .slice aO op.length cO], aB (w.heap.size + 1) 29 [.int .i64 k, .int .i64 p, .int .i64 n, .slice aV2 m2 cV2, .slice aO2 op2.length cO2], aB (w.heap.size + 1 + 1) 29 [.int .i64 0, .int .i64 0, .int .i64 0, .slice none 0 0, .slice none 0 0], aTs (.slice aK m cK) cs T1, aI (.slice aP op.length cP) op, aB (wn8.heap.size) 29 [.int .i64 k, .int .i64 p, .int .i64 n, .slice aK m cK, .slice aP op.length cP], emp, emp] := hH
   refine wp_region_steps ?Fa (fun b t wx => ∃ (cs3 : List (Value × Value × Value)), Held w wx [aB (w.heap.size) 29 [.int .i64 k, .int .i64 p, .int .i64 n, .slice aV m cV, .slice aO op.length cO], aB (w.heap.size + 1) 29 [.int .i64 k, .int .i64 p, .int .i64 n, .slice aV2 m2 cV2, .slice aO2 op2.length cO2], aB (w.heap.size + 1 + 1) 29 [.int .i64 0, .int .i64 0, .int .i64 0, .slice none 0 0, .slice none 0 0], (bif b 5 then aTs (t 5) (cs ++ cs3) (T1 ++ T2) else aTs (.slice aK m cK) cs T1), aI (.slice aP op.length cP) op, (bif b 7 then aB wn8.heap.size 29 [.int .i64 k, .int .i64 p, .int .i64 n, t 5, .slice aP op.length cP] else aB (wn8.heap.size) 29 [.int .i64 k, .int .i64 p, .int .i64 n, .slice aK m cK, .slice aP op.length cP]), (bif b 5 then emp else (bif b 3 then aTs (netT (t 3)) cs3 T2 else emp)), (bif b 3 then aI (netO (t 3)) op2 else emp)] ∧ (b 0 = true → t 0 = .pointer (some ⟨wn8.heap.size, 3, none⟩)) ∧ (b 1 = true → t 1 = .slice aK m cK) ∧ (b 2 = true → t 2 = .agg #[.int .i64 k, .int .i64 p, .int .i64 n, .slice aV2 m2 cV2, .slice aO2 op2.length cO2]) ∧ (b 3 = true → ∃ a1 c1 a2 c2, t 3 = .agg #[.int .i64 k, .int .i64 p, .int .i64 n, .slice a1 m2 c1, .slice a2 op2.length c2]) ∧ (b 4 = true → t 4 = netT (t 3)) ∧ (b 5 = true → ∃ a c, t 5 = .slice a (m + m2) c) ∧ (b 6 = true → t 6 = .pointer (some ⟨wn8.heap.size, 3, none⟩))) ?hFa (by kernel_rfl) (by kernel_rfl) ?hJa ?hSa ?hEa
   (case hFa => intro t; simp only [putAll, Act.put, List.setIfInBounds_toArray, List.set_cons_zero, List.set_cons_succ, Nat.reduceAdd, Nat.zero_add]; exact rfl)
   case hJa => exact ⟨[], hH.grow ((Ext.refl _).drew), fun h => absurd h Bool.false_ne_true, fun h => absurd h Bool.false_ne_true, fun h => absurd h Bool.false_ne_true, fun h => absurd h Bool.false_ne_true, fun h => absurd h Bool.false_ne_true, fun h => absurd h Bool.false_ne_true, fun h => absurd h Bool.false_ne_true⟩
   case hSa => as_aux_lemma =>
     refine AllSteps.cons (j := 1) rfl (fun b t wx hJ hb hd hcl Kc hK => ?_) ?_
     · obtain ⟨cs3, hH, v0, v1, v2, v3, v4, v5, v6⟩ := hJ
       go_simp
       refine hK.out _ ?_ _ ?_ ?_; rotate_left 2
       · rfl
       exact ⟨cs3, hH, fun _ => rfl, v1, v2, v3, v4, v5, v6⟩
     refine AllSteps.cons (j := 2) rfl (fun b t wx hJ hb hd hcl Kc hK => ?_) ?_
     · obtain ⟨cs3, hH, v0, v1, v2, v3, v4, v5, v6⟩ := hJ
       have d0 := hd.out 0 (by kernel_rfl)
       have n7 : b 7 = false := Bool.eq_false_iff.2 fun h => absurd (hcl.out 7 1 (by kernel_rfl) (h)) (by rw [hb]; exact Bool.false_ne_true)
       have r0 := v0 d0
       have hN := hH; (try simp only [hb, d0, n7, cond_true, cond_false] at hN)
       have q5_3 := hN.cl 5 3 rfl rfl
       go_simp
       refine hK.out _ ?_ _ ?_ ?_; rotate_left 2
       · (try simp only [r0]); rfl
       exact ⟨cs3, hH, v0, fun _ => rfl, v2, v3, v4, v5, v6⟩
     refine AllSteps.cons (j := 3) rfl (fun b t wx hJ hb hd hcl Kc hK => ?_) ?_
     · obtain ⟨cs3, hH, v0, v1, v2, v3, v4, v5, v6⟩ := hJ
       have q1_0 := hH.cl 1 0 rfl rfl; have q1_1 := hH.cl 1 1 rfl rfl; have q1_2 := hH.cl 1 2 rfl rfl; have q1_3 := hH.cl 1 3 rfl rfl; have q1_4 := hH.cl 1 4 rfl rfl
       go_simp
       refine hK.out _ ?_ _ ?_ ?_; rotate_left 2
       · rfl
       exact ⟨cs3, hH, v0, v1, fun _ => rfl, v3, v4, v5, v6⟩
     refine AllSteps.cons (j := 4) rfl (fun b t wx hJ hb hd hcl Kc hK => ?_) ?_
     · obtain ⟨cs3, hH, v0, v1, v2, v3, v4, v5, v6⟩ := hJ
       have d2 := hd.out 2 (by kernel_rfl)
       have n4 : b 4 = false := Bool.eq_false_iff.2 fun h => absurd (hcl.out 4 3 (by kernel_rfl) (h)) (by rw [hb]; exact Bool.false_ne_true)
       have n5 : b 5 = false := Bool.eq_false_iff.2 fun h => absurd (hcl.out 5 3 (by kernel_rfl) (h)) (by rw [hb]; exact Bool.false_ne_true)
       have r2 := v2 d2
       have hN := hH; (try simp only [hb, d2, n4, n5, cond_true, cond_false] at hN)
       go_simp
       go_at_call 125
       refine (copyNetwork_any HR.out HN2.out _ _ _ (hT2.ext hH.ext) (hO2.ext hH.ext)).mono ?_; rintro e3 w3 ⟨tv3, ov3, cs', rfl, hJ3⟩
       rw [HT2.out] at hJ3
       obtain ⟨x1, y1, rfl, _, _⟩ := (hJ3.tensS (k := 0) rfl).val
       obtain ⟨x2, y2, rfl, _, _⟩ := (hJ3.ints (k := 1) rfl).val
       rw [H2L.out] at hJ3 ⊢
       (try go_simp)
       refine hK.out _ ?_ _ ?_ ?_; rotate_left 2
       · (try simp only [r2]); rfl
       exact ⟨cs', by have hX := (hN.join hJ3 (fun z hz => by cases hz)).sub (.cons_cons _ (.cons_cons _ (.cons_cons _ (.cons_cons _ (.cons_cons _ (.cons_cons _ (.cons _ (.cons _ (.cons_cons _ (.cons_cons _ .slnil)))))))))); simpa only [List.set_cons_zero, List.set_cons_succ, updB, updV, blkOf_mk, tup0_mk, partsOf3, netT_mk, netO_mk, Nat.reduceBEq, cond_true, cond_false, hb, d2, n4, n5, r2] using hX, v0, v1, v2, fun _ => ⟨_, _, _, _, rfl⟩, fun h => absurd (show b 4 = true from h) (by rw [n4]; exact Bool.false_ne_true), v5, v6⟩
     refine AllSteps.cons (j := 5) rfl (fun b t wx hJ hb hd hcl Kc hK => ?_) ?_
     · obtain ⟨cs3, hH, v0, v1, v2, v3, v4, v5, v6⟩ := hJ
       have d3 := hd.out 3 (by kernel_rfl); have r3 := v3 d3
       obtain ⟨a1_3, c1_3, a2_3, c2_3, r3⟩ := r3
       have e3 := r3 -- d3
       have hfd : ∀ w : World, (Instr.field 29 (.agg #[.int .i64 k, .int .i64 p, .int .i64 n, .slice a1_3 m2 c1_3, .slice a2_3 op2.length c2_3]) 1).run Try.prog w = .ok (.slice a1_3 m2 c1_3) w := fun _ => by kernel_rfl
       go_simp
       refine hK.out _ ?_ _ ?_ ?_; rotate_left 2
       · (try simp only [r3]); rfl
       exact ⟨cs3, hH, v0, v1, v2, v3, fun _ => (by show _ = netT (t 3); rw [r3, netT_mk]; rfl), v5, v6⟩
     refine AllSteps.cons (j := 6) rfl (fun b t wx hJ hb hd hcl Kc hK => ?_) ?_
     · obtain ⟨cs3, hH, v0, v1, v2, v3, v4, v5, v6⟩ := hJ
       have d1 := hd.out 1 (by kernel_rfl); have d3 := hd.out 3 (by kernel_rfl); have d4 := hd.out 4 (by kernel_rfl)
       have n7 : b 7 = false := Bool.eq_false_iff.2 fun h => absurd (hcl.out 7 5 (by kernel_rfl) (h)) (by rw [hb]; exact Bool.false_ne_true)
       have r1 := v1 d1; have r3 := v3 d3; have r4 := v4 d4
       obtain ⟨a1_3, c1_3, a2_3, c2_3, r3⟩ := r3
       have hN := hH; (try simp only [hb, d1, d3, d4, n7, cond_true, cond_false] at hN)
       rw [r3, netT_mk] at r4 -- d3 d4
       have hmk0 := @netT_mk
       refine step_app wx rfl _ _ 26 rfl (.slice aK m cK) (.slice a1_3 m2 c1_3) (by first | rfl | (go_simp; done)) (by first | rfl | (go_simp; done)) _ (run_pushTs _ hN (k1 := 3) (k2 := 6) rfl (by rw [r3, netT_mk]; rfl) (by decide) (by rw [H1L.out, H2L.out]; omega)) ?_; rintro va wa ⟨hHa, ga⟩
       obtain ⟨aa, ca, hva, _, _⟩ := (hHa.tensS (k := 3) rfl).val; rw [List.length_append, H1L.out, H2L.out] at hva; subst hva
       refine hK.out _ ?_ _ ?_ ?_; rotate_left 2
       · (try simp only [r1, r3, r4]); rfl
       exact ⟨cs3, by have hX := hHa; simpa only [List.set_cons_zero, List.set_cons_succ, updB, updV, blkOf_mk, tup0_mk, partsOf3, netT_mk, netO_mk, Nat.reduceBEq, cond_true, cond_false, hb, d1, d3, d4, n7, r1, r3, r4] using hX, v0, v1, v2, v3, v4, fun _ => ⟨_, _, rfl⟩, v6⟩
     refine AllSteps.cons (j := 7) rfl (fun b t wx hJ hb hd hcl Kc hK => ?_) ?_
     · obtain ⟨cs3, hH, v0, v1, v2, v3, v4, v5, v6⟩ := hJ
       have d0 := hd.out 0 (by kernel_rfl); have d1 := hd.out 1 (by kernel_rfl); have d2 := hd.out 2 (by kernel_rfl); have d3 := hd.out 3 (by kernel_rfl); have d4 := hd.out 4 (by kernel_rfl); have d5 := hd.out 5 (by kernel_rfl); have r0 := v0 d0; have r1 := v1 d1; have r2 := v2 d2; have r3 := v3 d3; have r4 := v4 d4; have r5 := v5 d5
       obtain ⟨a1_3, c1_3, a2_3, c2_3, r3⟩ := r3
       obtain ⟨a_5, c_5, r5⟩ := r5
       go_simp
       refine hK.out _ ?_ _ ?_ ?_; rotate_left 2
       · (try simp only [r0, r1, r2, r3, r4, r5]); rfl
       exact ⟨cs3, hH, v0, v1, v2, v3, v4, v5, fun _ => rfl⟩
     refine AllSteps.cons (j := 8) rfl (fun b t wx hJ hb hd hcl Kc hK => ?_) ?_
     · obtain ⟨cs3, hH, v0, v1, v2, v3, v4, v5, v6⟩ := hJ
       have d0 := hd.out 0 (by kernel_rfl); have d1 := hd.out 1 (by kernel_rfl); have d2 := hd.out 2 (by kernel_rfl); have d3 := hd.out 3 (by kernel_rfl); have d4 := hd.out 4 (by kernel_rfl); have d5 := hd.out 5 (by kernel_rfl); have d6 := hd.out 6 (by kernel_rfl); have r0 := v0 d0; have r1 := v1 d1; have r2 := v2 d2; have r3 := v3 d3; have r4 := v4 d4; have r5 := v5 d5; have r6 := v6 d6
       obtain ⟨a1_3, c1_3, a2_3, c2_3, r3⟩ := r3
       obtain ⟨a_5, c_5, r5⟩ := r5
       have hN := hH; (try simp only [hb, d0, d1, d2, d3, d4, d5, d6, cond_true, cond_false] at hN)
       have B := hN.blk (k := 5) rfl; have fB := B.free 3; have zB := B.cell (j := 3) rfl; have lB := B.lt
       go_simp
       refine hK.out _ undef _ ?_ ?_; rotate_left 1
       · (try simp only [r0, r1, r2, r3, r4, r5, r6]); rfl
       exact ⟨cs3, by have hX := hN.setB (k := 5) rfl 3 (t 5); simpa only [List.set_cons_zero, List.set_cons_succ, updB, updV, blkOf_mk, tup0_mk, partsOf3, netT_mk, netO_mk, Nat.reduceBEq, cond_true, cond_false, hb, d0, d1, d2, d3, d4, d5, d6, r0, r1, r2, r3, r4, r5, r6] using hX, v0, v1, v2, v3, v4, v5, v6⟩
     exact AllSteps.nil
   case hEa =>
    intro b t wa hJ hall
    obtain ⟨cs3a, hHa, v0, v1, v2, v3, v4, v5, v6⟩ := hJ
    have a0 := hall 0 (by decide); have a1 := hall 1 (by decide); have a2 := hall 2 (by decide); have a3 := hall 3 (by decide); have a4 := hall 4 (by decide); have a5 := hall 5 (by decide); have a6 := hall 6 (by decide); have a7 := hall 7 (by decide)
    (try simp only [a0, a1, a2, a3, a4, a5, a6, a7, cond_true] at hHa)
    replace v0 := v0 a0; replace v1 := v1 a1; replace v2 := v2 a2; replace v3 := v3 a3; replace v4 := v4 a4; replace v5 := v5 a5; replace v6 := v6 a6
    clear hall a0 a1 a2 a3 a4 a5 a6 a7
    generalize t 6 = x6 at hHa v6 ⊢; generalize t 5 = x5 at hHa v5 ⊢; generalize t 4 = x4 at hHa v4 ⊢; generalize t 3 = x3 at hHa v3 v4 ⊢; generalize t 2 = x2 at hHa v2 ⊢; generalize t 1 = x1 at hHa v1 ⊢; generalize t 0 = x0 at hHa v0 ⊢; subst v0; subst v1; subst v2
    obtain ⟨a1a3, c1a3, a2a3, c2a3, rfl⟩ := v3
    subst v4
    obtain ⟨aa5, ca5, rfl⟩ := v5
    subst v6
    clear b
    replace hH := hHa; clear hHa
    replace hH : Held w wa [aB (w.heap.size) 29 [.int .i64 k, .int .i64 p, .int .i64 n, .slice aV m cV, .slice aO op.length cO], aB (w.heap.size + 1) 29 [.int .i64 k, .int .i64 p, .int .i64 n, .slice aV2 m2 cV2, .slice aO2 op2.length cO2], aB (w.heap.size + 1 + 1) 29 [.int .i64 0, .int .i64 0, .int .i64 0, .slice none 0 0, .slice none 0 0], aTs (.slice aa5 (m + m2) ca5) (cs ++ cs3a) (T1 ++ T2), aI (.slice aP op.length cP) op, aB wn8.heap.size 29 [.int .i64 k, .int .i64 p, .int .i64 n, .slice aa5 (m + m2) ca5, .slice aP op.length cP], emp, aI (.slice a2a3 op2.length c2a3) op2] := hH
    obtain ⟨mm, hmm⟩ : ∃ q, m + m2 = q := ⟨_, rfl⟩
    rw [hmm] at hH ⊢
    have HMM := Lib.hid hmm; clear hmm
    have q0_0 := hH.cl 0 0 rfl rfl; have q0_1 := hH.cl 0 1 rfl rfl; have q0_2 := hH.cl 0 2 rfl rfl; have q0_3 := hH.cl 0 3 rfl rfl; have q0_4 := hH.cl 0 4 rfl rfl; have l0_ := hH.bl 0 rfl; have q1_0 := hH.cl 1 0 rfl rfl; have q1_1 := hH.cl 1 1 rfl rfl; have q1_2 := hH.cl 1 2 rfl rfl; have q1_3 := hH.cl 1 3 rfl rfl; have q1_4 := hH.cl 1 4 rfl rfl; have l1_ := hH.bl 1 rfl; have q2_0 := hH.cl 2 0 rfl rfl; have q2_1 := hH.cl 2 1 rfl rfl; have q2_2 := hH.cl 2 2 rfl rfl; have q2_3 := hH.cl 2 3 rfl rfl; have q2_4 := hH.cl 2 4 rfl rfl; have l2_ := hH.bl 2 rfl; have q5_0 := hH.cl 5 0 rfl rfl; have q5_1 := hH.cl 5 1 rfl rfl; have q5_2 := hH.cl 5 2 rfl rfl; have q5_3 := hH.cl 5 3 rfl rfl; have q5_4 := hH.cl 5 4 rfl rfl; have l5_ := hH.bl 5 rfl
    go_wp2_with fail
    clear q0_0 q0_1 q0_2 q0_3 q0_4 l0_ q1_0 q1_1 q1_2 q1_3 q1_4 l1_ q2_0 q2_1 q2_2 q2_3 q2_4 l2_ q5_0 q5_1 q5_2 q5_3 q5_4 l5_
    refine (copyInts_any _ K _ (hK.ext hH.ext) (by omega)).mono ?_; rintro ewn10 wn10 ⟨v9, rfl, o9, hwn10⟩
    obtain ⟨x9, c9, rfl, _, _⟩ := o9.ints.val
    replace hH : Held w wn10 [aB (w.heap.size) 29 [.int .i64 k, .int .i64 p, .int .i64 n, .slice aV m cV, .slice aO op.length cO], aB (w.heap.size + 1) 29 [.int .i64 k, .int .i64 p, .int .i64 n, .slice aV2 m2 cV2, .slice aO2 op2.length cO2], aB (w.heap.size + 1 + 1) 29 [.int .i64 0, .int .i64 0, .int .i64 0, .slice none 0 0, .slice none 0 0], aTs (.slice aa5 mm ca5) (cs ++ cs3a) (T1 ++ T2), aI (.slice aP op.length cP) op, aB wn8.heap.size 29 [.int .i64 k, .int .i64 p, .int .i64 n, .slice aa5 mm ca5, .slice aP op.length cP], emp, aI (.slice a2a3 op2.length c2a3) op2, aI (.slice x9 K.length c9) K] := (hH.mores 1).addI 8 hwn10 o9 (Nat.le_refl _)
    clear hwn10
    have q0_0 := hH.cl 0 0 rfl rfl; have q0_1 := hH.cl 0 1 rfl rfl; have q0_2 := hH.cl 0 2 rfl rfl; have q0_3 := hH.cl 0 3 rfl rfl; have q0_4 := hH.cl 0 4 rfl rfl; have l0_ := hH.bl 0 rfl; have q1_0 := hH.cl 1 0 rfl rfl; have q1_1 := hH.cl 1 1 rfl rfl; have q1_2 := hH.cl 1 2 rfl rfl; have q1_3 := hH.cl 1 3 rfl rfl; have q1_4 := hH.cl 1 4 rfl rfl; have l1_ := hH.bl 1 rfl; have q2_0 := hH.cl 2 0 rfl rfl; have q2_1 := hH.cl 2 1 rfl rfl; have q2_2 := hH.cl 2 2 rfl rfl; have q2_3 := hH.cl 2 3 rfl rfl; have q2_4 := hH.cl 2 4 rfl rfl; have l2_ := hH.bl 2 rfl; have q5_0 := hH.cl 5 0 rfl rfl; have f5_0 := hH.fr 5 0 rfl; have q5_1 := hH.cl 5 1 rfl rfl; have f5_1 := hH.fr 5 1 rfl; have q5_2 := hH.cl 5 2 rfl rfl; have f5_2 := hH.fr 5 2 rfl; have q5_3 := hH.cl 5 3 rfl rfl; have f5_3 := hH.fr 5 3 rfl; have q5_4 := hH.cl 5 4 rfl rfl; have f5_4 := hH.fr 5 4 rfl; have l5_ := hH.bl 5 rfl
    go_upto_region 12 with fail
    have hHs := hH.setB (k := 5) rfl 4 (.slice x9 K.length c9)
    have hHq : Held w _ [aB (w.heap.size) 29 [.int .i64 k, .int .i64 p, .int .i64 n, .slice aV m cV, .slice aO op.length cO], aB (w.heap.size + 1) 29 [.int .i64 k, .int .i64 p, .int .i64 n, .slice aV2 m2 cV2, .slice aO2 op2.length cO2], aB (w.heap.size + 1 + 1) 29 [.int .i64 0, .int .i64 0, .int .i64 0, .slice none 0 0, .slice none 0 0], aTs (.slice aa5 mm ca5) (cs ++ cs3a) (T1 ++ T2), aI (.slice aP op.length cP) op, aB wn8.heap.size 29 [.int .i64 k, .int .i64 p, .int .i64 n, .slice aa5 mm ca5, .slice x9 K.length c9], emp, aI (.slice a2a3 op2.length c2a3) op2, aI (.slice x9 K.length c9) K] := hHs
    generalize wn10.setCell ⟨wn8.heap.size, 4, none⟩ (.slice x9 K.length c9) = ws at hHs hHq ⊢
    clear hH hHs; have hH := hHq; clear hHq
    have q0_0 := hH.cl 0 0 rfl rfl; have q0_1 := hH.cl 0 1 rfl rfl; have q0_2 := hH.cl 0 2 rfl rfl; have q0_3 := hH.cl 0 3 rfl rfl; have q0_4 := hH.cl 0 4 rfl rfl; have l0_ := hH.bl 0 rfl; have q1_0 := hH.cl 1 0 rfl rfl; have q1_1 := hH.cl 1 1 rfl rfl; have q1_2 := hH.cl 1 2 rfl rfl; have q1_3 := hH.cl 1 3 rfl rfl; have q1_4 := hH.cl 1 4 rfl rfl; have l1_ := hH.bl 1 rfl; have q2_0 := hH.cl 2 0 rfl rfl; have q2_1 := hH.cl 2 1 rfl rfl; have q2_2 := hH.cl 2 2 rfl rfl; have q2_3 := hH.cl 2 3 rfl rfl; have q2_4 := hH.cl 2 4 rfl rfl; have l2_ := hH.bl 2 rfl; have q5_0 := hH.cl 5 0 rfl rfl; have q5_1 := hH.cl 5 1 rfl rfl; have q5_2 := hH.cl 5 2 rfl rfl; have q5_3 := hH.cl 5 3 rfl rfl; have q5_4 := hH.cl 5 4 rfl rfl; have l5_ := hH.bl 5 rfl
    go_wp2_with fail
    clear q0_0 q0_1 q0_2 q0_3 q0_4 l0_ q1_0 q1_1 q1_2 q1_3 q1_4 l1_ q2_0 q2_1 q2_2 q2_3 q2_4 l2_ q5_0 q5_1 q5_2 q5_3 q5_4 l5_
    have hTJ : TensS ws (.slice aa5 mm ca5) ((ts ++ ts2).map (tenOf dm)) := by rw [HT12.out]; exact hH.tensS (k := 3) rfl
    refine (networkOk_any HR.out HNJ.out _ _ _ hTJ (hH.ints (k := 8) rfl)).mono ?_; rintro ewn11 wn11 ⟨rfl, hwn11⟩
    replace hH : Held w wn11 [aB (w.heap.size) 29 [.int .i64 k, .int .i64 p, .int .i64 n, .slice aV m cV, .slice aO op.length cO], aB (w.heap.size + 1) 29 [.int .i64 k, .int .i64 p, .int .i64 n, .slice aV2 m2 cV2, .slice aO2 op2.length cO2], aB (w.heap.size + 1 + 1) 29 [.int .i64 0, .int .i64 0, .int .i64 0, .slice none 0 0, .slice none 0 0], aTs (.slice aa5 mm ca5) (cs ++ cs3a) (T1 ++ T2), aI (.slice aP op.length cP) op, aB wn8.heap.size 29 [.int .i64 k, .int .i64 p, .int .i64 n, .slice aa5 mm ca5, .slice x9 K.length c9], emp, aI (.slice a2a3 op2.length c2a3) op2, aI (.slice x9 K.length c9) K] := hH.grow hwn11
    clear hwn11
    clear hTJ
    have q0_0 := hH.cl 0 0 rfl rfl; have q0_1 := hH.cl 0 1 rfl rfl; have q0_2 := hH.cl 0 2 rfl rfl; have q0_3 := hH.cl 0 3 rfl rfl; have q0_4 := hH.cl 0 4 rfl rfl; have l0_ := hH.bl 0 rfl; have q1_0 := hH.cl 1 0 rfl rfl; have q1_1 := hH.cl 1 1 rfl rfl; have q1_2 := hH.cl 1 2 rfl rfl; have q1_3 := hH.cl 1 3 rfl rfl; have q1_4 := hH.cl 1 4 rfl rfl; have l1_ := hH.bl 1 rfl; have q2_0 := hH.cl 2 0 rfl rfl; have f2_0 := hH.fr 2 0 rfl; have q2_1 := hH.cl 2 1 rfl rfl; have f2_1 := hH.fr 2 1 rfl; have q2_2 := hH.cl 2 2 rfl rfl; have f2_2 := hH.fr 2 2 rfl; have q2_3 := hH.cl 2 3 rfl rfl; have f2_3 := hH.fr 2 3 rfl; have q2_4 := hH.cl 2 4 rfl rfl; have f2_4 := hH.fr 2 4 rfl; have l2_ := hH.bl 2 rfl; have q5_0 := hH.cl 5 0 rfl rfl; have q5_1 := hH.cl 5 1 rfl rfl; have q5_2 := hH.cl 5 2 rfl rfl; have q5_3 := hH.cl 5 3 rfl rfl; have q5_4 := hH.cl 5 4 rfl rfl; have l5_ := hH.bl 5 rfl
    go_upto_region 14 with fail
    repeat go_step
    refine bodyPost_ret (v := .tuple #[.agg #[.int .i64 k, .int .i64 p, .int .i64 n, .slice aa5 mm ca5, .slice x9 K.length c9], .bool true]) (by simp [results, Try.results44, go_sem, *]) rfl ?_
    rw [HT12.out]
    exact ⟨_, _, cs ++ cs3a, rfl, (hH.setB5 (k := 2) rfl (.int .i64 k) (.int .i64 p) (.int .i64 n) (.slice aa5 mm ca5) (.slice x9 K.length c9)).sub (.cons _ (.cons _ (.cons _ (.cons_cons _ (.cons _ (.cons _ (.cons _ (.cons _ (.cons_cons _ .slnil)))))))))⟩
end Go.Proofs.Ytpegckmagiaggaa
