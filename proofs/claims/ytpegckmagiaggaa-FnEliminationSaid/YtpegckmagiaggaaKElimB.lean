/- BestWidth of the program. -/
import Derived.Test.YtpegckmagiaggaaKElimM
import Derived.Test.YtpegckmagiaggaaKSetW
set_option linter.unusedSimpArgs false
set_option linter.unusedVariables false
namespace Go.Proofs.Ytpegckmagiaggaa
open Go.RowKit
theorem bits_or64 (a b : Nat) (ha : a < 1099511627776) (hb : b < 1099511627776) : bits .or .i64 (a : Int) (b : Int) = ((a ||| b : Nat) : Int) :=
  (bits_nat .i64 40 (by decide) (fun n h0 h1 => by rw [IntKind.wrap_i64]; omega) a b ha hb).2
theorem wrap_pow2 (q : Nat) (h : q ≤ 10) {P : Nat} (hP : 2 ^ q = P) : wrap64 ((2 : Int) ^ q) = (P : Int) ∧ IntKind.i64.wrap ((2 : Int) ^ q) = (P : Int) ∧ P ≤ 1024 := by
  have h2 : P ≤ 1024 := by
    have h : 2 ^ q ≤ 2 ^ 10 := Nat.pow_le_pow_right (by decide) h
    rw [hP] at h; exact h
  have e : (2 : Int) ^ q = (P : Int) := by rw [← hP, Int.natCast_pow]; rfl
  refine ⟨by rw [← hP]; exact wrap_pow q (by omega), ?_, h2⟩
  rw [e, IntKind.wrap_i64]
  clear e hP
  omega
set_option maxRecDepth 100000 in
set_option maxHeartbeats 4000000 in
theorem bestWidth_any {k p n : Int} (hr : ringOk k p n = true) {dm : Int → Int} {U : List Int} {ts : List (NT k p n)} {op : List Int} (hN : IsN k p n dm U ts op) (tv ov : Value) (w : World) (hT : TensS w tv (ts.map (tenOf dm))) (hO : IntS w ov op) (hc10 : (closedL ts op).length ≤ 10) :
 Calls Try.prog 80 #[.agg #[.int .i64 k, .int .i64 p, .int .i64 n, tv, ov]] w fun e w' => ∃ T, e = .returned (.int .i64 (tabL T (2 ^ (closedL ts op).length - 1))) ∧ (∃ i, TabE (ts.map (·.1)) (closedL ts op) T (2 ^ (closedL ts op).length) i) ∧ Ext w w' := by
 have hT0 := hT
 have hO0 := hO
 obtain ⟨m, hm⟩ : ∃ m, ts.length = m := ⟨_, rfl⟩
 obtain ⟨aV, cV, rfl, hcT1, hcT2⟩ := hT.val
 obtain ⟨aO, cO, rfl, hcO1, hcO2⟩ := hO.val
 rw [List.length_map, hm] at hT hT0 hcT1
 rw [List.length_map, hm]
 have hm12 : m ≤ 12 := by rw [← hm]; exact hN.len
 have hop12 : op.length ≤ 12 := hN.rank
 have HM := Lib.hid hm; have HR := Lib.hid hr; have HN := Lib.hid hN; have HD3 := Lib.hid hN.dims3; clear hm  hN
 have hTl : Hid ((ts.map (tenOf dm)).length = m) := Lib.hid (by rw [List.length_map]; exact HM.out)
 have HCN : Hid (closedL ts op).Nodup := Lib.hid (closedL_nodup ts op)
 have HCO : Hid (∀ x ∈ closedL ts op, ∃ q ∈ ts.map (·.1), x ∈ q) := Lib.hid fun x hx => by
  obtain ⟨t, ht, hxt⟩ := mem_occ.1 ((mem_closedL HN.out).1 hx).1
  exact ⟨t.1, List.mem_map_of_mem ht, hxt⟩
 obtain ⟨CC, hCC⟩ : ∃ q, closedL ts op = q := ⟨_, rfl⟩
 rw [hCC] at HCN HCO hc10 ⊢
 have HCC := Lib.hid hCC; clear hCC
 have HLU := Lib.hid (lists_ok HN.out)
 have HLM : Hid ((ts.map (·.1)).length ≤ 12) := Lib.hid (by rw [List.length_map]; exact HN.out.len)
 obtain ⟨LS, hLS⟩ : ∃ q, ts.map (·.1) = q := ⟨_, rfl⟩
 rw [hLS] at HLU HLM HCO ⊢
 have HLS := Lib.hid hLS; clear hLS
 obtain ⟨cN, hcN⟩ : ∃ q, CC.length = q := ⟨_, rfl⟩
 rw [hcN] at hc10 ⊢
 have HCL := Lib.hid hcN; clear hcN
 have hw64 : wrap64 ((2 : Int) ^ cN) = ((2 ^ cN : Nat) : Int) := wrap_pow cN (by omega)
 obtain ⟨M, hM⟩ : ∃ q : Nat, 2 ^ cN = q := ⟨_, rfl⟩
 have hM1 : 1 ≤ M := by rw [← hM]; exact Nat.one_le_two_pow
 have hM2 : M ≤ 1024 := by rw [← hM]; exact Nat.pow_le_pow_right (n := 2) (by decide) hc10
 rw [hM] at hw64 ⊢
 have HMM := Lib.hid hM; have HW64 := Lib.hid hw64; clear hM hw64
 go_enter Try.func80, Try.ntmps80
 go_upto_region 1 with fail
 have hH : Held w w [] := Held.new (Ext.refl w) 0
 have hB : Held w (w.alloc (.cells #[.int .i64 k, .int .i64 p, .int .i64 n, .slice aV m cV, .slice aO op.length cO] 29)) [aB (w.heap.size) 29 [.int .i64 k, .int .i64 p, .int .i64 n, .slice aV m cV, .slice aO op.length cO]] := by
  have h := (hH.mores 1).addB 0 #[.int .i64 k, .int .i64 p, .int .i64 n, .slice aV m cV, .slice aO op.length cO] 29
  exact h
 have hsz : (w.alloc (.cells #[.int .i64 k, .int .i64 p, .int .i64 n, .slice aV m cV, .slice aO op.length cO] 29)).heap.size = w.heap.size + 1 := by simp
 generalize w.alloc (.cells #[.int .i64 k, .int .i64 p, .int .i64 n, .slice aV m cV, .slice aO op.length cO] 29) = wn1 at hB hsz ⊢
 replace hH := hB; have HSZwn1 := Lib.hid hsz; clear hB hsz
 have q0_0 := hH.cl 0 0 rfl rfl; have q0_1 := hH.cl 0 1 rfl rfl; have q0_2 := hH.cl 0 2 rfl rfl; have q0_3 := hH.cl 0 3 rfl rfl; have q0_4 := hH.cl 0 4 rfl rfl; have l0_ := hH.bl 0 rfl
 go_wp2_with fail
 clear q0_0 q0_1 q0_2 q0_3 q0_4 l0_
 refine (closedLabels_any HR.out HN.out _ _ _ (hT0.ext hH.ext) (hO.ext hH.ext)).mono ?_; rintro e1 w1 ⟨v1, rfl, o1, h1⟩
 rw [HCC.out] at o1
 obtain ⟨ac, cc, rfl⟩ := o1.shape1 cN HCL.out
 replace hH := (hH.mores 1).addI 1 h1 o1 (Nat.le_refl _); clear h1 o1
 replace hH : Held w w1 [aB (w.heap.size) 29 [.int .i64 k, .int .i64 p, .int .i64 n, .slice aV m cV, .slice aO op.length cO], aI (.slice ac cN cc) CC] := hH
 have q0_0 := hH.cl 0 0 rfl rfl; have q0_1 := hH.cl 0 1 rfl rfl; have q0_2 := hH.cl 0 2 rfl rfl; have q0_3 := hH.cl 0 3 rfl rfl; have q0_4 := hH.cl 0 4 rfl rfl; have l0_ := hH.bl 0 rfl
 go_wp2_with fail
 clear q0_0 q0_1 q0_2 q0_3 q0_4 l0_
 refine (networkOk_any HR.out HN.out _ _ _ (hT0.ext hH.ext) (hO0.ext hH.ext)).mono ?_; rintro ewn2 wn2 ⟨rfl, hwn2⟩
 replace hH : Held w wn2 [aB (w.heap.size) 29 [.int .i64 k, .int .i64 p, .int .i64 n, .slice aV m cV, .slice aO op.length cO], aI (.slice ac cN cc) CC] := hH.grow hwn2
 clear hwn2
 have hn10 : ¬ (10 : Int) < (cN : Int) := by omega
 have hw64 := HW64.out
 have hmk := mkInts M (by omega)
 have q0_0 := hH.cl 0 0 rfl rfl; have q0_1 := hH.cl 0 1 rfl rfl; have q0_2 := hH.cl 0 2 rfl rfl; have q0_3 := hH.cl 0 3 rfl rfl; have q0_4 := hH.cl 0 4 rfl rfl; have l0_ := hH.bl 0 rfl
 go_wp2_with fail
 clear q0_0 q0_1 q0_2 q0_3 q0_4 l0_
 clear hmk hw64 hn10
 obtain ⟨bb, hbb⟩ : ∃ q, wn2.heap.size = q := ⟨_, rfl⟩
 have hB := (hH.mores 1).madeI 2 M (by omega)
 rw [hbb] at hB ⊢
 generalize wn2.alloc (.cells (madeCells #[.int .i64 0] M) 3) = wn3 at hB ⊢
 clear hbb
 replace hH : Held w wn3 [aB (w.heap.size) 29 [.int .i64 k, .int .i64 p, .int .i64 n, .slice aV m cV, .slice aO op.length cO], aI (.slice ac cN cc) CC, aI (.slice (some ⟨bb, 0, none⟩) M M) (List.replicate M 0)] := hB
 clear hB
 go_loopw [29] (fun i wr => ∃ (j : Nat) (T : List Int), j ≤ M ∧ i = .int .i64 (j : Int) ∧ Hid (T.length = M ∧ tabL T 0 = 0 ∧ ∀ t, 1 ≤ t → t < j → 1 ≤ tabL T t) ∧ Held w wr [aB (w.heap.size) 29 [.int .i64 k, .int .i64 p, .int .i64 n, .slice aV m cV, .slice aO op.length cO], aI (.slice ac cN cc) CC, aI (.slice (some ⟨bb, 0, none⟩) M M) T]) (fun i wr => M - (RowKit.intOf i).toNat)
 case atStart => exact ⟨0, _, Nat.zero_le _, rfl, Lib.hid ⟨List.length_replicate .., tabL_zeros _ _, fun t h1 h2 => by omega⟩, hH⟩
 case round =>
  clear hH
  obtain ⟨j, T, hj, rfl, HT, hH⟩ := hrel
  obtain ⟨wq, rfl⟩ : ∃ q, q = wr := ⟨wr, rfl⟩
  by_cases hlt : j < M
  ·
   by_cases hj0 : 0 < j
   ·
    have hj0i : (0 : Int) < (j : Int) := by omega
    have q0_0 := hH.cl 0 0 rfl rfl; have q0_1 := hH.cl 0 1 rfl rfl; have q0_2 := hH.cl 0 2 rfl rfl; have q0_3 := hH.cl 0 3 rfl rfl; have q0_4 := hH.cl 0 4 rfl rfl; have l0_ := hH.bl 0 rfl
    go_wp2_with fail
    clear q0_0 q0_1 q0_2 q0_3 q0_4 l0_
    refine (labelsOf_any HR.out HN.out _ _ _ (hT0.ext hH.ext) (hO.ext hH.ext)).mono ?_; rintro e3 w3 ⟨v3, rfl, hJ⟩
    obtain ⟨kL, hkL⟩ : ∃ q, (ascL (occ ts)).length = q := ⟨_, rfl⟩
    have hkL12 : kL ≤ 12 := by rw [← hkL]; exact (HN.out.uni.ax HN.out.ascSub).rank
    obtain ⟨a3, c3, rfl⟩ := (hJ.own (k := 0) rfl).shape1 kL hkL
    replace hH := hH.grow hJ.ext; clear hJ hkL
    obtain ⟨z, hz⟩ : ∃ z, T[j]? = some z := ⟨_, List.getElem?_eq_getElem (by rw [HT.out.1]; exact hlt)⟩
    obtain ⟨hcF, hfF⟩ := (hH.own (k := 2) rfl).cell hz
    have hlF := ((hH.own (k := 2) rfl).block_lt rfl).2
    have hH2 := hH.setI (k := 2) rfl j (by rw [HT.out.1]; exact hlt) ((kL : Int) + 1)
    clear hz
    go_wp2_with fail
    go_roundw
    case rel => exact ⟨j + 1, T.set j ((kL : Int) + 1), by omega, by go_num, Lib.hid ⟨by rw [List.length_set]; exact HT.out.1, by rw [tabL_set_ne (by omega)]; exact HT.out.2.1, fun t h1 h2 => by
     by_cases e : j = t
     · subst e; rw [tabL_set_self (by rw [HT.out.1]; exact hlt)]; omega
     · rw [tabL_set_ne e]; exact HT.out.2.2 t h1 (by omega)⟩, hH2⟩
    case measure => simp [RowKit.intOf]; omega
   ·
    have hje : j = 0 := by omega
    subst hje
    go_wp2_with fail
    go_roundw
    case rel => exact ⟨1, T, by omega, by go_num, Lib.hid ⟨HT.out.1, HT.out.2.1, fun t h1 h2 => by omega⟩, hH⟩
    case measure => simp [RowKit.intOf]; omega
  ·
   have hje : j = M := by omega
   subst hje
   obtain ⟨M, hMj⟩ : ∃ q, q = j := ⟨j, rfl⟩
   subst hMj
   have HTE : Hid (TabE LS CC T 0 0) := Lib.hid (TabE.start (by rw [HCL.out, HMM.out]; exact HT.out.1) HT.out.2.1 (fun t h1 h2 => HT.out.2.2 t h1 (by rw [HCL.out, HMM.out] at h2; exact h2)))
   clear HT
   have q0_0 := hH.cl 0 0 rfl rfl; have q0_1 := hH.cl 0 1 rfl rfl; have q0_2 := hH.cl 0 2 rfl rfl; have q0_3 := hH.cl 0 3 rfl rfl; have q0_4 := hH.cl 0 4 rfl rfl; have l0_ := hH.bl 0 rfl
   go_wp2_with fail
   clear q0_0 q0_1 q0_2 q0_3 q0_4 l0_
   go_loopw [44] (fun i wr => ∃ (s : Nat) (T : List Int), s ≤ M ∧ i = .int .i64 (s : Int) ∧ Hid (TabE LS CC T s 0) ∧ Held w wr [aB (w.heap.size) 29 [.int .i64 k, .int .i64 p, .int .i64 n, .slice aV m cV, .slice aO op.length cO], aI (.slice ac cN cc) CC, aI (.slice (some ⟨bb, 0, none⟩) M M) T]) (fun i wr => M - (RowKit.intOf i).toNat)
   case atStart => exact ⟨0, T, Nat.zero_le _, rfl, HTE, hH⟩
   case round =>
    clear hH HTE T
    obtain ⟨s, T0, hs, rfl, HTE0, hH⟩ := hrel
    obtain ⟨wp0, rfl⟩ : ∃ q, q = wr := ⟨wr, rfl⟩
    have HTL0 : Hid (T0.length = M) := Lib.hid (by rw [HTE0.out.len, HCL.out, HMM.out])
    by_cases hlt2 : s < M
    ·
     have q0_0 := hH.cl 0 0 rfl rfl; have q0_1 := hH.cl 0 1 rfl rfl; have q0_2 := hH.cl 0 2 rfl rfl; have q0_3 := hH.cl 0 3 rfl rfl; have q0_4 := hH.cl 0 4 rfl rfl; have l0_ := hH.bl 0 rfl
     go_wp2_with fail
     clear q0_0 q0_1 q0_2 q0_3 q0_4 l0_
     refine (labelLists_any HR.out HN.out _ _ _ (hT0.ext hH.ext) (hO.ext hH.ext)).mono ?_; rintro e4 w4 ⟨vr, vs0, rfl, oR, h4, f4⟩
     rw [HLS.out] at oR
     replace hH := (hH.mores 1).add 3 (A := aLs vr vs0 LS) h4 oR f4; clear h4 oR f4
     replace hH : Held w w4 [aB (w.heap.size) 29 [.int .i64 k, .int .i64 p, .int .i64 n, .slice aV m cV, .slice aO op.length cO], aI (.slice ac cN cc) CC, aI (.slice (some ⟨bb, 0, none⟩) M M) T0, aLs vr vs0 LS] := hH
     have q0_0 := hH.cl 0 0 rfl rfl; have q0_1 := hH.cl 0 1 rfl rfl; have q0_2 := hH.cl 0 2 rfl rfl; have q0_3 := hH.cl 0 3 rfl rfl; have q0_4 := hH.cl 0 4 rfl rfl; have l0_ := hH.bl 0 rfl
     go_wp2_with fail
     clear q0_0 q0_1 q0_2 q0_3 q0_4 l0_
     go_loopw [7, 51] (fun vl i wr => ∃ (q : Nat) (vs : List Value), q ≤ cN ∧ i = .int .i64 (q : Int) ∧ Held w wr [aB (w.heap.size) 29 [.int .i64 k, .int .i64 p, .int .i64 n, .slice aV m cV, .slice aO op.length cO], aI (.slice ac cN cc) CC, aI (.slice (some ⟨bb, 0, none⟩) M M) T0, aLs vl vs (elimAll LS (selL CC s q))]) (fun vl i wr => cN - (RowKit.intOf i).toNat)
     case atStart => exact ⟨0, _, Nat.zero_le _, rfl, hH⟩
     case round =>
      clear hH
      obtain ⟨q, vs, hq, rfl, hH⟩ := hrel
      obtain ⟨wk, rfl⟩ : ∃ q, q = wr := ⟨wr, rfl⟩
      have hsl : (selL CC s q).length ≤ q := by unfold selL; exact Nat.le_trans (List.length_filterMap_le _ _) (by simp)
      have HEU := Lib.hid (HLU.out.all (selL CC s q))
      have HEN : Hid ((elimAll LS (selL CC s q)).length ≤ 1000) := Lib.hid (by
       have h := elimAll_len (selL CC s q) LS
       have h1 := HLM.out
       omega)
      have HES : Hid (∀ x, elimAll LS (selL CC s q ++ [x]) = elimL (elimAll LS (selL CC s q)) x) := Lib.hid fun x => elimAll_snoc _ _ _
      obtain ⟨EJ, hEJ⟩ : ∃ z, elimAll LS (selL CC s q) = z := ⟨_, rfl⟩
      have HEJ := Lib.hid hEJ
      rw [hEJ] at HEU HEN HES hH
      obtain ⟨av, cv, rfl, _, _⟩ := (hH.rowsS (k := 3) rfl).val
      clear hEJ hsl
      by_cases hlt3 : q < cN
      ·
       obtain ⟨bC, oC, x, hVC, hcx, hx, _⟩ := (hH.ints (k := 1) rfl).get (i := q) (by rw [HCL.out]; exact hlt3)
       cases hVC
       have HXQ := Lib.hid hx; clear hx
       have hbit := bit_and1 s q (by omega)
       by_cases hb : s.testBit q = true
       ·
        rw [if_pos hb] at hbit; have HSL := Lib.hid (selL_yes hb HXQ.out); clear hb
        go_wp2_with fail
        clear hcx hbit
        refine (eliminateFrom_any HEU.out HEN.out _ vs x _ (hH.get (k := 3) rfl)).mono ?_; rintro e7 w7 ⟨v7, us, rfl, o7, h7, f7⟩
        rw [← HES.out x] at o7
        replace hH := hH.turn (k := 3) (A := aLs v7 us (elimAll LS (selL CC s q ++ [x]))) rfl (ob := none) (h7.gr none) (fun b hb => by cases hb) o7 (fun b hb => (f7 b hb).imp (fun h => List.mem_append_right _ h) id); clear h7 o7 f7
        go_wp2_with fail
        go_roundw
        case rel => exact ⟨q + 1, us, by omega, by go_num, by rw [HSL.out]; exact hH⟩
        case measure => simp [RowKit.intOf]; omega
       ·
        have hbf := eq_false_of_ne_true hb; rw [if_neg hb] at hbit; have HSL := Lib.hid (selL_no (C := CC) hbf); clear hb hbf
        go_wp2_with fail
        clear hcx hbit
        go_roundw
        case rel => exact ⟨q + 1, vs, by omega, by go_num, by rw [HSL.out, HEJ.out]; exact hH⟩
        case measure => simp [RowKit.intOf]; omega
      ·
       have hqe : q = cN := by omega
       subst hqe
       obtain ⟨cN, hcq⟩ : ∃ z, z = q := ⟨q, rfl⟩
       subst hcq
       have q0_0 := hH.cl 0 0 rfl rfl; have q0_1 := hH.cl 0 1 rfl rfl; have q0_2 := hH.cl 0 2 rfl rfl; have q0_3 := hH.cl 0 3 rfl rfl; have q0_4 := hH.cl 0 4 rfl rfl; have l0_ := hH.bl 0 rfl
       go_wp2_with fail
       clear q0_0 q0_1 q0_2 q0_3 q0_4 l0_
       go_loopw [67] (fun i wr => ∃ (q : Nat) (T : List Int), q ≤ cN ∧ i = .int .i64 (q : Int) ∧ Hid (TabE LS CC T s q) ∧ Held w wr [aB (w.heap.size) 29 [.int .i64 k, .int .i64 p, .int .i64 n, .slice aV m cV, .slice aO op.length cO], aI (.slice ac cN cc) CC, aI (.slice (some ⟨bb, 0, none⟩) M M) T, aLs (.slice av EJ.length cv) vs EJ]) (fun i wr => cN - (RowKit.intOf i).toNat)
       case atStart => exact ⟨0, T0, Nat.zero_le _, rfl, HTE0, hH⟩
       case round =>
        clear hH
        obtain ⟨q, T, hq, rfl, HTE, hH⟩ := hrel
        have HTL : Hid (T.length = M) := Lib.hid (by rw [HTE.out.len, HCL.out, HMM.out])
        obtain ⟨wo, rfl⟩ : ∃ q, q = wr := ⟨wr, rfl⟩
        by_cases hlt3 : q < cN
        ·
         obtain ⟨bC, oC, x, hVC, hcx, hx, _⟩ := (hH.ints (k := 1) rfl).get (i := q) (by rw [HCL.out]; exact hlt3)
         cases hVC
         have HXQ := Lib.hid hx; clear hx
         have hbit := bit_and1 s q (by omega)
         by_cases hb : s.testBit q = true
         ·
          rw [if_pos hb] at hbit; have HS2 := Lib.hid (HTE.out.skip hb); clear hb
          go_wp2_with fail
          clear hcx hbit
          go_roundw
          case rel => exact ⟨q + 1, T, by omega, by go_num, HS2, hH⟩
          case measure => simp [RowKit.intOf]; omega
         ·
          have hbf := eq_false_of_ne_true hb
          rw [if_neg hb] at hbit
          have HS2 := Lib.hid (HTE.out.turn HLU.out.nodup HCN.out HCO.out hbf (by rw [HCL.out]; exact hlt3) (by rw [HCL.out, HMM.out]; exact hlt2))
          obtain ⟨P, hP⟩ : ∃ z : Nat, 2 ^ q = z := ⟨_, rfl⟩
          obtain ⟨hwP, hWP, hP2⟩ := wrap_pow2 q (by omega) hP
          have HWP := Lib.hid hWP; clear hWP
          obtain ⟨u, hu⟩ : ∃ z : Nat, s ||| P = z := ⟨_, rfl⟩
          have huM : u < M := by
           rw [← hu, ← hP, ← HMM.out]
           exact Nat.or_lt_two_pow (by rw [HMM.out]; exact hlt2) (Nat.pow_lt_pow_right (by decide) hlt3)
          have hor : bits .or .i64 (s : Int) (P : Int) = (u : Int) := by rw [bits_or64 s P (Nat.lt_of_lt_of_le hlt2 (Nat.le_trans hM2 (by decide))) (Nat.lt_of_le_of_lt hP2 (by decide)), hu]
          obtain ⟨BN, hBN⟩ : ∃ z, (bucketL EJ x).length = z := ⟨_, rfl⟩
          have hb12 : BN ≤ 12 := by rw [← hBN]; exact HEU.out.bucket x
          obtain ⟨VMX, hvx⟩ : ∃ z, max (tabL T s) (BN : Int) = z := ⟨_, rfl⟩
          obtain ⟨VMN, hvn⟩ : ∃ z, min (tabL T u) VMX = z := ⟨_, rfl⟩
          have HSE : Hid (TabE LS CC (T.set u VMN) s (q + 1)) := Lib.hid (by
           have h := HS2.out
           have e : widS LS CC s q = (BN : Int) := by
            unfold widS
            rw [HCL.out, HEJ.out, List.getD_eq_getElem?_getD, HXQ.out]
            show ((bucketL EJ x).length : Int) = _
            rw [hBN]
           rw [hP, hu, e, hvx, hvn] at h
           exact h)
          have HV1 := Lib.hid hvx; have HV2 := Lib.hid hvn; have HBN := Lib.hid hBN
          have HTS := Lib.hid (tabL_get (C := T) (s := s) (by rw [HTL.out]; exact hlt2))
          have HTU := Lib.hid (tabL_get (C := T) (s := u) (by rw [HTL.out]; exact huM))
          obtain ⟨zs, hzs⟩ : ∃ z, tabL T s = z := ⟨_, rfl⟩
          obtain ⟨zu, hzu⟩ : ∃ z, tabL T u = z := ⟨_, rfl⟩
          rw [hzs] at HV1 HTS
          rw [hzu] at HV2 HTU
          clear hb hbf HS2 hP hu hBN hvx hvn hzs hzu
          have hbit2 := hbit
          go_upto_region 25 with fail
          clear hcx hbit hbit2
          refine wp_region_steps ?Fa (fun b t wx => Held w wx [aB (w.heap.size) 29 [.int .i64 k, .int .i64 p, .int .i64 n, .slice aV m cV, .slice aO op.length cO], aI (.slice (some ⟨bC, oC, none⟩) cN cc) CC, aI (.slice (some ⟨bb, 0, none⟩) M M) T, aLs (.slice av EJ.length cv) vs EJ] ∧ (b 0 = true → t 0 = .slice (some ⟨bb, 0, none⟩) M M) ∧ (b 1 = true → t 1 = .int .i64 (s : Int)) ∧ (b 2 = true → t 2 = .pointer (some ⟨bb, s, none⟩)) ∧ (b 3 = true → t 3 = .int .i64 zs) ∧ (b 4 = true → t 4 = .slice av EJ.length cv) ∧ (b 5 = true → t 5 = .int .i64 x) ∧ (b 6 = true → ∃ y c, t 6 = .slice y BN c) ∧ (b 7 = true → t 7 = .int .i64 (BN : Int)) ∧ (b 8 = true → t 8 = .int .i64 VMX) ∧ (b 9 = true → t 9 = t 8)) ?hFa (by kernel_rfl) (by kernel_rfl) ?hJa ?hSa ?hEa
          (case hFa => intro t; simp only [putAll, Act.put, List.setIfInBounds_toArray, List.set_cons_zero, List.set_cons_succ, Nat.reduceAdd, Nat.zero_add]; exact rfl)
          case hJa => exact ⟨hH.grow ((Ext.refl _).drew), fun h => absurd h Bool.false_ne_true, fun h => absurd h Bool.false_ne_true, fun h => absurd h Bool.false_ne_true, fun h => absurd h Bool.false_ne_true, fun h => absurd h Bool.false_ne_true, fun h => absurd h Bool.false_ne_true, fun h => absurd h Bool.false_ne_true, fun h => absurd h Bool.false_ne_true, fun h => absurd h Bool.false_ne_true, fun h => absurd h Bool.false_ne_true⟩
          case hSa => as_aux_lemma =>
            refine AllSteps.cons (j := 1) rfl (fun b t wx hJ hb hd hcl Kc hK => ?_) ?_
            · obtain ⟨hH, v0, v1, v2, v3, v4, v5, v6, v7, v8, v9⟩ := hJ
              go_simp
              refine hK.out _ ?_ _ ?_ ?_; rotate_left 2
              · rfl
              exact ⟨hH, fun _ => rfl, v1, v2, v3, v4, v5, v6, v7, v8, v9⟩
            refine AllSteps.cons (j := 2) rfl (fun b t wx hJ hb hd hcl Kc hK => ?_) ?_
            · obtain ⟨hH, v0, v1, v2, v3, v4, v5, v6, v7, v8, v9⟩ := hJ
              go_simp
              refine hK.out _ ?_ _ ?_ ?_; rotate_left 2
              · rfl
              exact ⟨hH, v0, fun _ => rfl, v2, v3, v4, v5, v6, v7, v8, v9⟩
            refine AllSteps.cons (j := 3) rfl (fun b t wx hJ hb hd hcl Kc hK => ?_) ?_
            · obtain ⟨hH, v0, v1, v2, v3, v4, v5, v6, v7, v8, v9⟩ := hJ
              have d0 := hd.out 0 (by kernel_rfl); have d1 := hd.out 1 (by kernel_rfl); have r0 := v0 d0; have r1 := v1 d1
              go_simp
              refine hK.out _ ?_ _ ?_ ?_; rotate_left 2
              · (try simp only [r0, r1]); rfl
              exact ⟨hH, v0, v1, fun _ => rfl, v3, v4, v5, v6, v7, v8, v9⟩
            refine AllSteps.cons (j := 4) rfl (fun b t wx hJ hb hd hcl Kc hK => ?_) ?_
            · obtain ⟨hH, v0, v1, v2, v3, v4, v5, v6, v7, v8, v9⟩ := hJ
              have d2 := hd.out 2 (by kernel_rfl); have r2 := v2 d2
              obtain ⟨zx, fx⟩ := (hH.own (k := 2) rfl).cell HTS.out
              go_simp
              refine hK.out _ ?_ _ ?_ ?_; rotate_left 2
              · (try simp only [r2]); rfl
              exact ⟨hH, v0, v1, v2, fun _ => rfl, v4, v5, v6, v7, v8, v9⟩
            refine AllSteps.cons (j := 5) rfl (fun b t wx hJ hb hd hcl Kc hK => ?_) ?_
            · obtain ⟨hH, v0, v1, v2, v3, v4, v5, v6, v7, v8, v9⟩ := hJ
              go_simp
              refine hK.out _ ?_ _ ?_ ?_; rotate_left 2
              · rfl
              exact ⟨hH, v0, v1, v2, v3, fun _ => rfl, v5, v6, v7, v8, v9⟩
            refine AllSteps.cons (j := 6) rfl (fun b t wx hJ hb hd hcl Kc hK => ?_) ?_
            · obtain ⟨hH, v0, v1, v2, v3, v4, v5, v6, v7, v8, v9⟩ := hJ
              go_simp
              refine hK.out _ ?_ _ ?_ ?_; rotate_left 2
              · rfl
              exact ⟨hH, v0, v1, v2, v3, v4, fun _ => rfl, v6, v7, v8, v9⟩
            refine AllSteps.cons (j := 7) rfl (fun b t wx hJ hb hd hcl Kc hK => ?_) ?_
            · obtain ⟨hH, v0, v1, v2, v3, v4, v5, v6, v7, v8, v9⟩ := hJ
              have d4 := hd.out 4 (by kernel_rfl); have d5 := hd.out 5 (by kernel_rfl); have r4 := v4 d4; have r5 := v5 d5
              go_simp
              go_at_call 154
              refine (bucketLabels_any HEU.out _ x _ (hH.rowsS (k := 3) rfl)).mono ?_; rintro e6 w6 ⟨v6, rfl, o6, h6⟩
              obtain ⟨y6, c6, rfl⟩ := o6.shape1 BN HBN.out
              (try go_simp)
              refine hK.out _ ?_ _ ?_ ?_; rotate_left 2
              · (try simp only [r4, r5]); rfl
              exact ⟨by have hX := hH.grow h6; simpa only [List.set_cons_zero, List.set_cons_succ, updB, updV, blkOf_mk, tup0_mk, partsOf3, Nat.reduceBEq, cond_true, cond_false, hb, d4, d5, r4, r5] using hX, v0, v1, v2, v3, v4, v5, fun _ => ⟨_, _, rfl⟩, v7, v8, v9⟩
            refine AllSteps.cons (j := 8) rfl (fun b t wx hJ hb hd hcl Kc hK => ?_) ?_
            · obtain ⟨hH, v0, v1, v2, v3, v4, v5, v6, v7, v8, v9⟩ := hJ
              have d6 := hd.out 6 (by kernel_rfl); have r6 := v6 d6
              obtain ⟨y_6, c_6, r6⟩ := r6
              have e6 := r6 -- d6
              go_simp
              refine hK.out _ ?_ _ ?_ ?_; rotate_left 2
              · (try simp only [r6]); rfl
              exact ⟨hH, v0, v1, v2, v3, v4, v5, v6, fun _ => rfl, v8, v9⟩
            refine AllSteps.cons (j := 9) rfl (fun b t wx hJ hb hd hcl Kc hK => ?_) ?_
            · obtain ⟨hH, v0, v1, v2, v3, v4, v5, v6, v7, v8, v9⟩ := hJ
              have d3 := hd.out 3 (by kernel_rfl); have d7 := hd.out 7 (by kernel_rfl)
              have n9 : b 9 = false := Bool.eq_false_iff.2 fun h => absurd (hcl.out 9 8 (by kernel_rfl) (h)) (by rw [hb]; exact Bool.false_ne_true)
              have r3 := v3 d3; have r7 := v7 d7
              go_simp
              refine hK.out _ ?_ _ ?_ ?_; rotate_left 2
              · (try simp only [r3, r7]); rfl
              exact ⟨hH, v0, v1, v2, v3, v4, v5, v6, v7, fun _ => (by show Value.int .i64 (if zs < (BN : Int) then (BN : Int) else zs) = _; rw [← HV1.out, Int.max_def]; split <;> split <;> first | rfl | (congr 1; omega)), fun h => absurd (show b 9 = true from h) (by rw [n9]; exact Bool.false_ne_true)⟩
            refine AllSteps.cons (j := 10) rfl (fun b t wx hJ hb hd hcl Kc hK => ?_) ?_
            · obtain ⟨hH, v0, v1, v2, v3, v4, v5, v6, v7, v8, v9⟩ := hJ
              have d0 := hd.out 0 (by kernel_rfl); have d1 := hd.out 1 (by kernel_rfl); have d2 := hd.out 2 (by kernel_rfl); have d3 := hd.out 3 (by kernel_rfl); have d4 := hd.out 4 (by kernel_rfl); have d5 := hd.out 5 (by kernel_rfl); have d6 := hd.out 6 (by kernel_rfl); have d7 := hd.out 7 (by kernel_rfl); have d8 := hd.out 8 (by kernel_rfl); have r0 := v0 d0; have r1 := v1 d1; have r2 := v2 d2; have r3 := v3 d3; have r4 := v4 d4; have r5 := v5 d5; have r6 := v6 d6; have r7 := v7 d7; have r8 := v8 d8
              obtain ⟨y_6, c_6, r6⟩ := r6
              go_simp
              refine hK.out _ ?_ _ ?_ ?_; rotate_left 2
              · (try simp only [r0, r1, r2, r3, r4, r5, r6, r7, r8]); rfl
              exact ⟨hH, v0, v1, v2, v3, v4, v5, v6, v7, v8, fun _ => (by first | rfl | exact r8.symm)⟩
            exact AllSteps.nil
          case hEa =>
           intro b t wa hJ hall
           obtain ⟨hHa, v0, v1, v2, v3, v4, v5, v6, v7, v8, v9⟩ := hJ
           have a0 := hall 0 (by decide); have a1 := hall 1 (by decide); have a2 := hall 2 (by decide); have a3 := hall 3 (by decide); have a4 := hall 4 (by decide); have a5 := hall 5 (by decide); have a6 := hall 6 (by decide); have a7 := hall 7 (by decide); have a8 := hall 8 (by decide); have a9 := hall 9 (by decide)
           (try simp only [a0, a1, a2, a3, a4, a5, a6, a7, a8, a9, cond_true] at hHa)
           replace v0 := v0 a0; replace v1 := v1 a1; replace v2 := v2 a2; replace v3 := v3 a3; replace v4 := v4 a4; replace v5 := v5 a5; replace v6 := v6 a6; replace v7 := v7 a7; replace v8 := v8 a8; replace v9 := v9 a9
           clear hall a0 a1 a2 a3 a4 a5 a6 a7 a8 a9
           generalize t 9 = x9 at hHa v9 ⊢; generalize t 8 = x8 at hHa v8 v9 ⊢; generalize t 7 = x7 at hHa v7 ⊢; generalize t 6 = x6 at hHa v6 ⊢; generalize t 5 = x5 at hHa v5 ⊢; generalize t 4 = x4 at hHa v4 ⊢; generalize t 3 = x3 at hHa v3 ⊢; generalize t 2 = x2 at hHa v2 ⊢; generalize t 1 = x1 at hHa v1 ⊢; generalize t 0 = x0 at hHa v0 ⊢; subst v0; subst v1; subst v2; subst v3; subst v4; subst v5
           obtain ⟨ya6, ca6, rfl⟩ := v6
           subst v7; subst v8; subst v9
           clear b
           replace hH := hHa; clear hHa
           replace hH : Held w wa [aB (w.heap.size) 29 [.int .i64 k, .int .i64 p, .int .i64 n, .slice aV m cV, .slice aO op.length cO], aI (.slice (some ⟨bC, oC, none⟩) cN cc) CC, aI (.slice (some ⟨bb, 0, none⟩) M M) T, aLs (.slice av EJ.length cv) vs EJ] := hH
           have hlb := ((hH.own (k := 2) rfl).block_lt rfl).2
           clear hlb
           go_upto_region 26 with fail
           refine wp_region_steps ?Fc (fun b t wx => Held w wx [aB (w.heap.size) 29 [.int .i64 k, .int .i64 p, .int .i64 n, .slice aV m cV, .slice aO op.length cO], aI (.slice (some ⟨bC, oC, none⟩) cN cc) CC, (bif b 15 then aI (.slice (some ⟨bb, 0, none⟩) M M) (T.set u VMN) else aI (.slice (some ⟨bb, 0, none⟩) M M) T), aLs (.slice av EJ.length cv) vs EJ] ∧ (b 0 = true → t 0 = .slice (some ⟨bb, 0, none⟩) M M) ∧ (b 1 = true → t 1 = .int .i64 (s : Int)) ∧ (b 2 = true → t 2 = .int .i64 (q : Int)) ∧ (b 3 = true → t 3 = .int .i64 (P : Int)) ∧ (b 4 = true → t 4 = .int .i64 (u : Int)) ∧ (b 5 = true → t 5 = .slice (some ⟨bb, 0, none⟩) M M) ∧ (b 6 = true → t 6 = .int .i64 (s : Int)) ∧ (b 7 = true → t 7 = .int .i64 (q : Int)) ∧ (b 8 = true → t 8 = .int .i64 (P : Int)) ∧ (b 9 = true → t 9 = .int .i64 (u : Int)) ∧ (b 10 = true → t 10 = .pointer (some ⟨bb, u, none⟩)) ∧ (b 11 = true → t 11 = .int .i64 zu) ∧ (b 12 = true → t 12 = .int .i64 VMX) ∧ (b 13 = true → t 13 = .int .i64 VMN) ∧ (b 14 = true → t 14 = .pointer (some ⟨bb, u, none⟩))) ?hFc (by kernel_rfl) (by kernel_rfl) ?hJc ?hSc ?hEc
           (case hFc => intro t; simp only [putAll, Act.put, List.setIfInBounds_toArray, List.set_cons_zero, List.set_cons_succ, Nat.reduceAdd, Nat.zero_add]; exact rfl)
           case hJc => exact ⟨hH.grow ((Ext.refl _).drew), fun h => absurd h Bool.false_ne_true, fun h => absurd h Bool.false_ne_true, fun h => absurd h Bool.false_ne_true, fun h => absurd h Bool.false_ne_true, fun h => absurd h Bool.false_ne_true, fun h => absurd h Bool.false_ne_true, fun h => absurd h Bool.false_ne_true, fun h => absurd h Bool.false_ne_true, fun h => absurd h Bool.false_ne_true, fun h => absurd h Bool.false_ne_true, fun h => absurd h Bool.false_ne_true, fun h => absurd h Bool.false_ne_true, fun h => absurd h Bool.false_ne_true, fun h => absurd h Bool.false_ne_true, fun h => absurd h Bool.false_ne_true⟩
           case hSc => as_aux_lemma =>
             refine AllSteps.cons (j := 1) rfl (fun b t wx hJ hb hd hcl Kc hK => ?_) ?_
             · obtain ⟨hH, v0, v1, v2, v3, v4, v5, v6, v7, v8, v9, v10, v11, v12, v13, v14⟩ := hJ
               go_simp
               refine hK.out _ ?_ _ ?_ ?_; rotate_left 2
               · rfl
               exact ⟨hH, fun _ => rfl, v1, v2, v3, v4, v5, v6, v7, v8, v9, v10, v11, v12, v13, v14⟩
             refine AllSteps.cons (j := 2) rfl (fun b t wx hJ hb hd hcl Kc hK => ?_) ?_
             · obtain ⟨hH, v0, v1, v2, v3, v4, v5, v6, v7, v8, v9, v10, v11, v12, v13, v14⟩ := hJ
               go_simp
               refine hK.out _ ?_ _ ?_ ?_; rotate_left 2
               · rfl
               exact ⟨hH, v0, fun _ => rfl, v2, v3, v4, v5, v6, v7, v8, v9, v10, v11, v12, v13, v14⟩
             refine AllSteps.cons (j := 3) rfl (fun b t wx hJ hb hd hcl Kc hK => ?_) ?_
             · obtain ⟨hH, v0, v1, v2, v3, v4, v5, v6, v7, v8, v9, v10, v11, v12, v13, v14⟩ := hJ
               go_simp
               refine hK.out _ ?_ _ ?_ ?_; rotate_left 2
               · rfl
               exact ⟨hH, v0, v1, fun _ => rfl, v3, v4, v5, v6, v7, v8, v9, v10, v11, v12, v13, v14⟩
             refine AllSteps.cons (j := 4) rfl (fun b t wx hJ hb hd hcl Kc hK => ?_) ?_
             · obtain ⟨hH, v0, v1, v2, v3, v4, v5, v6, v7, v8, v9, v10, v11, v12, v13, v14⟩ := hJ
               have d2 := hd.out 2 (by kernel_rfl); have r2 := v2 d2
               go_simp
               refine hK.out _ ?_ _ ?_ ?_; rotate_left 2
               · (try simp only [r2]); rfl
               exact ⟨hH, v0, v1, v2, fun _ => (by show Value.int .i64 (IntKind.i64.wrap (2 ^ q)) = _; rw [HWP.out]), v4, v5, v6, v7, v8, v9, v10, v11, v12, v13, v14⟩
             refine AllSteps.cons (j := 5) rfl (fun b t wx hJ hb hd hcl Kc hK => ?_) ?_
             · obtain ⟨hH, v0, v1, v2, v3, v4, v5, v6, v7, v8, v9, v10, v11, v12, v13, v14⟩ := hJ
               have d1 := hd.out 1 (by kernel_rfl); have d3 := hd.out 3 (by kernel_rfl); have r1 := v1 d1; have r3 := v3 d3
               go_simp
               refine hK.out _ ?_ _ ?_ ?_; rotate_left 2
               · (try simp only [r1, r3]); rfl
               exact ⟨hH, v0, v1, v2, v3, fun _ => rfl, v5, v6, v7, v8, v9, v10, v11, v12, v13, v14⟩
             refine AllSteps.cons (j := 6) rfl (fun b t wx hJ hb hd hcl Kc hK => ?_) ?_
             · obtain ⟨hH, v0, v1, v2, v3, v4, v5, v6, v7, v8, v9, v10, v11, v12, v13, v14⟩ := hJ
               go_simp
               refine hK.out _ ?_ _ ?_ ?_; rotate_left 2
               · rfl
               exact ⟨hH, v0, v1, v2, v3, v4, fun _ => rfl, v6, v7, v8, v9, v10, v11, v12, v13, v14⟩
             refine AllSteps.cons (j := 7) rfl (fun b t wx hJ hb hd hcl Kc hK => ?_) ?_
             · obtain ⟨hH, v0, v1, v2, v3, v4, v5, v6, v7, v8, v9, v10, v11, v12, v13, v14⟩ := hJ
               go_simp
               refine hK.out _ ?_ _ ?_ ?_; rotate_left 2
               · rfl
               exact ⟨hH, v0, v1, v2, v3, v4, v5, fun _ => rfl, v7, v8, v9, v10, v11, v12, v13, v14⟩
             refine AllSteps.cons (j := 8) rfl (fun b t wx hJ hb hd hcl Kc hK => ?_) ?_
             · obtain ⟨hH, v0, v1, v2, v3, v4, v5, v6, v7, v8, v9, v10, v11, v12, v13, v14⟩ := hJ
               go_simp
               refine hK.out _ ?_ _ ?_ ?_; rotate_left 2
               · rfl
               exact ⟨hH, v0, v1, v2, v3, v4, v5, v6, fun _ => rfl, v8, v9, v10, v11, v12, v13, v14⟩
             refine AllSteps.cons (j := 9) rfl (fun b t wx hJ hb hd hcl Kc hK => ?_) ?_
             · obtain ⟨hH, v0, v1, v2, v3, v4, v5, v6, v7, v8, v9, v10, v11, v12, v13, v14⟩ := hJ
               have d7 := hd.out 7 (by kernel_rfl); have r7 := v7 d7
               go_simp
               refine hK.out _ ?_ _ ?_ ?_; rotate_left 2
               · (try simp only [r7]); rfl
               exact ⟨hH, v0, v1, v2, v3, v4, v5, v6, v7, fun _ => (by show Value.int .i64 (IntKind.i64.wrap (2 ^ q)) = _; rw [HWP.out]), v9, v10, v11, v12, v13, v14⟩
             refine AllSteps.cons (j := 10) rfl (fun b t wx hJ hb hd hcl Kc hK => ?_) ?_
             · obtain ⟨hH, v0, v1, v2, v3, v4, v5, v6, v7, v8, v9, v10, v11, v12, v13, v14⟩ := hJ
               have d6 := hd.out 6 (by kernel_rfl); have d8 := hd.out 8 (by kernel_rfl); have r6 := v6 d6; have r8 := v8 d8
               go_simp
               refine hK.out _ ?_ _ ?_ ?_; rotate_left 2
               · (try simp only [r6, r8]); rfl
               exact ⟨hH, v0, v1, v2, v3, v4, v5, v6, v7, v8, fun _ => rfl, v10, v11, v12, v13, v14⟩
             refine AllSteps.cons (j := 11) rfl (fun b t wx hJ hb hd hcl Kc hK => ?_) ?_
             · obtain ⟨hH, v0, v1, v2, v3, v4, v5, v6, v7, v8, v9, v10, v11, v12, v13, v14⟩ := hJ
               have d5 := hd.out 5 (by kernel_rfl); have d9 := hd.out 9 (by kernel_rfl); have r5 := v5 d5; have r9 := v9 d9
               go_simp
               refine hK.out _ ?_ _ ?_ ?_; rotate_left 2
               · (try simp only [r5, r9]); rfl
               exact ⟨hH, v0, v1, v2, v3, v4, v5, v6, v7, v8, v9, fun _ => rfl, v11, v12, v13, v14⟩
             refine AllSteps.cons (j := 12) rfl (fun b t wx hJ hb hd hcl Kc hK => ?_) ?_
             · obtain ⟨hH, v0, v1, v2, v3, v4, v5, v6, v7, v8, v9, v10, v11, v12, v13, v14⟩ := hJ
               have d10 := hd.out 10 (by kernel_rfl)
               have n15 : b 15 = false := Bool.eq_false_iff.2 fun h => absurd (hcl.out 15 11 (by kernel_rfl) (h)) (by rw [hb]; exact Bool.false_ne_true)
               have r10 := v10 d10
               have hN := hH; (try simp only [hb, d10, n15, cond_true, cond_false] at hN)
               obtain ⟨zx, fx⟩ := (hN.own (k := 2) rfl).cell HTU.out
               go_simp
               refine hK.out _ ?_ _ ?_ ?_; rotate_left 2
               · (try simp only [r10]); rfl
               exact ⟨hH, v0, v1, v2, v3, v4, v5, v6, v7, v8, v9, v10, fun _ => rfl, v12, v13, v14⟩
             refine AllSteps.cons (j := 13) rfl (fun b t wx hJ hb hd hcl Kc hK => ?_) ?_
             · obtain ⟨hH, v0, v1, v2, v3, v4, v5, v6, v7, v8, v9, v10, v11, v12, v13, v14⟩ := hJ
               go_simp
               refine hK.out _ ?_ _ ?_ ?_; rotate_left 2
               · rfl
               exact ⟨hH, v0, v1, v2, v3, v4, v5, v6, v7, v8, v9, v10, v11, fun _ => rfl, v13, v14⟩
             refine AllSteps.cons (j := 14) rfl (fun b t wx hJ hb hd hcl Kc hK => ?_) ?_
             · obtain ⟨hH, v0, v1, v2, v3, v4, v5, v6, v7, v8, v9, v10, v11, v12, v13, v14⟩ := hJ
               have d11 := hd.out 11 (by kernel_rfl); have d12 := hd.out 12 (by kernel_rfl); have r11 := v11 d11; have r12 := v12 d12
               go_simp
               refine hK.out _ ?_ _ ?_ ?_; rotate_left 2
               · (try simp only [r11, r12]); rfl
               exact ⟨hH, v0, v1, v2, v3, v4, v5, v6, v7, v8, v9, v10, v11, v12, fun _ => (by show Value.int .i64 (if VMX < zu then VMX else zu) = _; rw [← HV2.out, Int.min_def]; split <;> split <;> first | rfl | (congr 1; omega)), v14⟩
             refine AllSteps.cons (j := 15) rfl (fun b t wx hJ hb hd hcl Kc hK => ?_) ?_
             · obtain ⟨hH, v0, v1, v2, v3, v4, v5, v6, v7, v8, v9, v10, v11, v12, v13, v14⟩ := hJ
               have d0 := hd.out 0 (by kernel_rfl); have d1 := hd.out 1 (by kernel_rfl); have d2 := hd.out 2 (by kernel_rfl); have d3 := hd.out 3 (by kernel_rfl); have d4 := hd.out 4 (by kernel_rfl); have d5 := hd.out 5 (by kernel_rfl); have d6 := hd.out 6 (by kernel_rfl); have d7 := hd.out 7 (by kernel_rfl); have d8 := hd.out 8 (by kernel_rfl); have d9 := hd.out 9 (by kernel_rfl); have d10 := hd.out 10 (by kernel_rfl); have d11 := hd.out 11 (by kernel_rfl); have d12 := hd.out 12 (by kernel_rfl); have d13 := hd.out 13 (by kernel_rfl); have r0 := v0 d0; have r1 := v1 d1; have r2 := v2 d2; have r3 := v3 d3; have r4 := v4 d4; have r5 := v5 d5; have r6 := v6 d6; have r7 := v7 d7; have r8 := v8 d8; have r9 := v9 d9; have r10 := v10 d10; have r11 := v11 d11; have r12 := v12 d12; have r13 := v13 d13
               go_simp
               refine hK.out _ ?_ _ ?_ ?_; rotate_left 2
               · (try simp only [r0, r1, r2, r3, r4, r5, r6, r7, r8, r9, r10, r11, r12, r13]); rfl
               exact ⟨hH, v0, v1, v2, v3, v4, v5, v6, v7, v8, v9, v10, v11, v12, v13, fun _ => rfl⟩
             refine AllSteps.cons (j := 16) rfl (fun b t wx hJ hb hd hcl Kc hK => ?_) ?_
             · obtain ⟨hH, v0, v1, v2, v3, v4, v5, v6, v7, v8, v9, v10, v11, v12, v13, v14⟩ := hJ
               have d0 := hd.out 0 (by kernel_rfl); have d1 := hd.out 1 (by kernel_rfl); have d2 := hd.out 2 (by kernel_rfl); have d3 := hd.out 3 (by kernel_rfl); have d4 := hd.out 4 (by kernel_rfl); have d5 := hd.out 5 (by kernel_rfl); have d6 := hd.out 6 (by kernel_rfl); have d7 := hd.out 7 (by kernel_rfl); have d8 := hd.out 8 (by kernel_rfl); have d9 := hd.out 9 (by kernel_rfl); have d10 := hd.out 10 (by kernel_rfl); have d11 := hd.out 11 (by kernel_rfl); have d12 := hd.out 12 (by kernel_rfl); have d13 := hd.out 13 (by kernel_rfl); have d14 := hd.out 14 (by kernel_rfl); have r0 := v0 d0; have r1 := v1 d1; have r2 := v2 d2; have r3 := v3 d3; have r4 := v4 d4; have r5 := v5 d5; have r6 := v6 d6; have r7 := v7 d7; have r8 := v8 d8; have r9 := v9 d9; have r10 := v10 d10; have r11 := v11 d11; have r12 := v12 d12; have r13 := v13 d13; have r14 := v14 d14
               have hN := hH; (try simp only [hb, d0, d1, d2, d3, d4, d5, d6, d7, d8, d9, d10, d11, d12, d13, d14, cond_true, cond_false] at hN)
               obtain ⟨zx, fx⟩ := (hN.own (k := 2) rfl).cell HTU.out
               have lx := ((hN.own (k := 2) rfl).block_lt (k := bb) rfl).2
               go_simp
               refine hK.out _ undef _ ?_ ?_; rotate_left 1
               · (try simp only [r0, r1, r2, r3, r4, r5, r6, r7, r8, r9, r10, r11, r12, r13, r14]); rfl
               exact ⟨by have hX := hN.setI (k := 2) rfl u (by rw [HTL.out]; exact huM) VMN; simpa only [List.set_cons_zero, List.set_cons_succ, updB, updV, blkOf_mk, tup0_mk, partsOf3, Nat.reduceBEq, cond_true, cond_false, hb, d0, d1, d2, d3, d4, d5, d6, d7, d8, d9, d10, d11, d12, d13, d14, r0, r1, r2, r3, r4, r5, r6, r7, r8, r9, r10, r11, r12, r13, r14] using hX, v0, v1, v2, v3, v4, v5, v6, v7, v8, v9, v10, v11, v12, v13, v14⟩
             exact AllSteps.nil
           case hEc =>
            intro b t wc hJ hall
            obtain ⟨hHc, v0, v1, v2, v3, v4, v5, v6, v7, v8, v9, v10, v11, v12, v13, v14⟩ := hJ
            have a0 := hall 0 (by decide); have a1 := hall 1 (by decide); have a2 := hall 2 (by decide); have a3 := hall 3 (by decide); have a4 := hall 4 (by decide); have a5 := hall 5 (by decide); have a6 := hall 6 (by decide); have a7 := hall 7 (by decide); have a8 := hall 8 (by decide); have a9 := hall 9 (by decide); have a10 := hall 10 (by decide); have a11 := hall 11 (by decide); have a12 := hall 12 (by decide); have a13 := hall 13 (by decide); have a14 := hall 14 (by decide); have a15 := hall 15 (by decide)
            (try simp only [a0, a1, a2, a3, a4, a5, a6, a7, a8, a9, a10, a11, a12, a13, a14, a15, cond_true] at hHc)
            replace v0 := v0 a0; replace v1 := v1 a1; replace v2 := v2 a2; replace v3 := v3 a3; replace v4 := v4 a4; replace v5 := v5 a5; replace v6 := v6 a6; replace v7 := v7 a7; replace v8 := v8 a8; replace v9 := v9 a9; replace v10 := v10 a10; replace v11 := v11 a11; replace v12 := v12 a12; replace v13 := v13 a13; replace v14 := v14 a14
            clear hall a0 a1 a2 a3 a4 a5 a6 a7 a8 a9 a10 a11 a12 a13 a14 a15
            generalize t 14 = x14 at hHc v14 ⊢; generalize t 13 = x13 at hHc v13 ⊢; generalize t 12 = x12 at hHc v12 ⊢; generalize t 11 = x11 at hHc v11 ⊢; generalize t 10 = x10 at hHc v10 ⊢; generalize t 9 = x9 at hHc v9 ⊢; generalize t 8 = x8 at hHc v8 ⊢; generalize t 7 = x7 at hHc v7 ⊢; generalize t 6 = x6 at hHc v6 ⊢; generalize t 5 = x5 at hHc v5 ⊢; generalize t 4 = x4 at hHc v4 ⊢; generalize t 3 = x3 at hHc v3 ⊢; generalize t 2 = x2 at hHc v2 ⊢; generalize t 1 = x1 at hHc v1 ⊢; generalize t 0 = x0 at hHc v0 ⊢; subst v0; subst v1; subst v2; subst v3; subst v4; subst v5; subst v6; subst v7; subst v8; subst v9; subst v10; subst v11; subst v12; subst v13; subst v14
            clear b
            replace hH := hHc; clear hHc
            replace hH : Held w wc [aB (w.heap.size) 29 [.int .i64 k, .int .i64 p, .int .i64 n, .slice aV m cV, .slice aO op.length cO], aI (.slice (some ⟨bC, oC, none⟩) cN cc) CC, aI (.slice (some ⟨bb, 0, none⟩) M M) (T.set u VMN), aLs (.slice av EJ.length cv) vs EJ] := hH
            clear hwP hor
            go_wp2_with fail
            go_roundw
            case rel => exact ⟨q + 1, T.set u VMN, by omega, by go_num, HSE, hH⟩
            case measure => simp [RowKit.intOf]; omega
        ·
         have HS3 := Lib.hid (HTE.out.next (by rw [HCL.out]; omega))
         go_wp2_with fail
         go_roundw
         case rel => exact ⟨s + 1, T, by omega, by go_num, HS3, hH.sub (.cons_cons _ (.cons_cons _ (.cons_cons _ (.cons _ .slnil))))⟩
         case measure => simp [RowKit.intOf]; omega
    ·
     have hse : s = M := by omega
     subst hse
     obtain ⟨M1, rfl⟩ : ∃ z, s = z + 1 := ⟨s - 1, by omega⟩
     have HTS := Lib.hid (tabL_get (C := T0) (s := M1) (by rw [HTL0.out]; omega))
     obtain ⟨hcF, hfF⟩ := (hH.own (k := 2) rfl).cell HTS.out
     have hlF := ((hH.own (k := 2) rfl).block_lt rfl).2
     obtain ⟨zf, hzf⟩ : ∃ z, tabL T0 M1 = z := ⟨_, rfl⟩
     have HZF := Lib.hid hzf
     rw [hzf] at hcF
     have HE := Lib.hid hH.ext
     have HT2 : Hid (TabE LS CC T0 (M1 + 1) 0) := HTE0
     clear hH hfF hzf
     go_wp2
     go_ret
     exact ⟨T0, by (try rw [Nat.add_sub_cancel]); rw [HZF.out]; rfl, ⟨0, HT2.out⟩, HE.out⟩
end Go.Proofs.Ytpegckmagiaggaa
