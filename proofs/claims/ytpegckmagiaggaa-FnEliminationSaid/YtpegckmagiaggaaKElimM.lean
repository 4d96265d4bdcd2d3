/- MinDegreeOrder of the program. -/
import Derived.Test.YtpegckmagiaggaaKElimO
import Derived.Test.YtpegckmagiaggaaKG17
set_option linter.unusedSimpArgs false
set_option linter.unusedVariables false
namespace Go.Proofs.Ytpegckmagiaggaa
open Go.RowKit
theorem closedL_len {k p n : Int} {dm : Int → Int} {U : List Int} {ts : List (NT k p n)} {op : List Int} (h : IsN k p n dm U ts op) : (closedL ts op).length ≤ 12 := by
  unfold closedL
  exact Nat.le_trans (List.length_filter_le _ _) (h.uni.ax h.ascSub).rank
theorem cut_step {C od lf : List Int} (hC : C.Nodup) (h : C.Perm (od ++ lf)) {b : Int} (hb : b ∈ lf) : C.Perm ((od ++ [b]) ++ cutL lf b) ∧ (cutL lf b).length < lf.length := by
  have hn : (od ++ lf).Nodup := h.nodup_iff.1 hC
  have hl : lf.Nodup := (List.nodup_append.1 hn).2.1
  have hp : lf.Perm (b :: cutL lf b) := by
    refine (List.perm_ext_iff_of_nodup hl ?_).2 fun x => ?_
    · refine List.nodup_cons.2 ⟨fun h => (mem_cutL'.1 h).2 rfl, ?_⟩
      unfold cutL; exact hl.filter _
    · rw [List.mem_cons, mem_cutL']
      constructor
      · intro hx
        by_cases e : x = b
        · exact .inl e
        · exact .inr ⟨hx, e⟩
      · rintro (rfl | hx)
        · exact hb
        · exact hx.1
  refine ⟨?_, by have := hp.length_eq; rw [List.length_cons] at this; omega⟩
  rw [List.append_assoc, List.singleton_append]
  exact h.trans (List.Perm.append_left _ hp)
set_option maxRecDepth 100000 in
set_option maxHeartbeats 4000000 in
theorem minDegreeOrder_any {k p n : Int} (hr : ringOk k p n = true) {dm : Int → Int} {U : List Int} {ts : List (NT k p n)} {op : List Int} (hN : IsN k p n dm U ts op) (tv ov : Value) (w : World) (hT : TensS w tv (ts.map (tenOf dm))) (hO : IntS w ov op) :
 Calls Try.prog 78 #[.agg #[.int .i64 k, .int .i64 p, .int .i64 n, tv, ov]] w fun e w' => ∃ u l, e = .returned u ∧ OwnI w' w.heap.size u l ∧ (closedL ts op).Perm l ∧ Ext w w' := by
 have hT0 := hT
 have hO0 := hO
 obtain ⟨m, hm⟩ : ∃ m, ts.length = m := ⟨_, rfl⟩
 obtain ⟨aV, cV, rfl, hcT1, hcT2⟩ := hT.val
 obtain ⟨aO, cO, rfl, hcO1, hcO2⟩ := hO.val
 rw [List.length_map, hm] at hT hT0 hcT1
 rw [List.length_map, hm]
 have hm12 : m ≤ 12 := by rw [← hm]; exact hN.len
 have hop12 : op.length ≤ 12 := hN.rank
 have HM := Lib.hid hm; have HR := Lib.hid hr; have HN := Lib.hid hN; have HD3 := Lib.hid hN.dims3; clear hm  hN
 have hTl : Hid ((ts.map (tenOf dm)).length = m) := Lib.hid (by rw [List.length_map]; exact HM.out)
 have HCL : Hid ((closedL ts op).length ≤ 12) := Lib.hid (closedL_len HN.out)
 have HCN : Hid (closedL ts op).Nodup := Lib.hid (closedL_nodup ts op)
 have HCU : Hid (∀ x ∈ closedL ts op, 0 ≤ x ∧ x ≤ 99) := Lib.hid fun x hx => HN.out.uni.labs (HN.out.occU ((mem_closedL HN.out).1 hx).1)
 obtain ⟨CC, hCC⟩ : ∃ q, closedL ts op = q := ⟨_, rfl⟩
 rw [hCC] at HCL HCN HCU ⊢
 have HCC := Lib.hid hCC; clear hCC
 have HLU := Lib.hid (lists_ok HN.out)
 have HLM : Hid ((ts.map (·.1)).length ≤ 12) := Lib.hid (by rw [List.length_map]; exact HN.out.len)
 obtain ⟨LS, hLS⟩ : ∃ q, ts.map (·.1) = q := ⟨_, rfl⟩
 rw [hLS] at HLU HLM
 have HLS := Lib.hid hLS; clear hLS
 go_enter Try.func78, Try.ntmps78
 go_upto_region 1 with fail
 have hH : Held w w [] := Held.new (Ext.refl w) 0
 have hB : Held w (w.alloc (.cells #[.int .i64 k, .int .i64 p, .int .i64 n, .slice aV m cV, .slice aO op.length cO] 29)) [aB (w.heap.size) 29 [.int .i64 k, .int .i64 p, .int .i64 n, .slice aV m cV, .slice aO op.length cO]] := by
  have h := (hH.mores 1).addB 0 #[.int .i64 k, .int .i64 p, .int .i64 n, .slice aV m cV, .slice aO op.length cO] 29
  exact h
 have hsz : (w.alloc (.cells #[.int .i64 k, .int .i64 p, .int .i64 n, .slice aV m cV, .slice aO op.length cO] 29)).heap.size = w.heap.size + 1 := by simp
 generalize w.alloc (.cells #[.int .i64 k, .int .i64 p, .int .i64 n, .slice aV m cV, .slice aO op.length cO] 29) = wn1 at hB hsz ⊢
 replace hH := hB; have HSZwn1 := Lib.hid hsz; clear hB hsz
 have q0_0 := hH.cl 0 0 rfl rfl; have q0_1 := hH.cl 0 1 rfl rfl; have q0_2 := hH.cl 0 2 rfl rfl; have q0_3 := hH.cl 0 3 rfl rfl; have q0_4 := hH.cl 0 4 rfl rfl; have l0_ := hH.bl 0 rfl
 go_wp2_with fail
 clear q0_0 q0_1 q0_2 q0_3 q0_4 l0_
 refine (closedLabels_any HR.out HN.out _ _ _ (hT0.ext hH.ext) (hO.ext hH.ext)).mono ?_; rintro e1 w1 ⟨v1, rfl, o1, h1⟩
 rw [HCC.out] at o1
 replace hH := (hH.mores 1).addI 1 h1 o1 (Nat.le_refl _); clear h1 o1
 replace hH : Held w w1 [aB (w.heap.size) 29 [.int .i64 k, .int .i64 p, .int .i64 n, .slice aV m cV, .slice aO op.length cO], aI v1 CC] := hH
 have q0_0 := hH.cl 0 0 rfl rfl; have q0_1 := hH.cl 0 1 rfl rfl; have q0_2 := hH.cl 0 2 rfl rfl; have q0_3 := hH.cl 0 3 rfl rfl; have q0_4 := hH.cl 0 4 rfl rfl; have l0_ := hH.bl 0 rfl
 go_wp2_with fail
 clear q0_0 q0_1 q0_2 q0_3 q0_4 l0_
 refine (labelLists_any HR.out HN.out _ _ _ (hT0.ext hH.ext) (hO.ext hH.ext)).mono ?_; rintro e2 w2 ⟨vr, vs0, rfl, oR, h2, f2⟩
 rw [HLS.out] at oR
 replace hH := (hH.mores 1).add 2 (A := aLs vr vs0 LS) h2 oR f2; clear h2 oR f2
 replace hH : Held w w2 [aB (w.heap.size) 29 [.int .i64 k, .int .i64 p, .int .i64 n, .slice aV m cV, .slice aO op.length cO], aI v1 CC, aLs vr vs0 LS] := hH
 have q0_0 := hH.cl 0 0 rfl rfl; have q0_1 := hH.cl 0 1 rfl rfl; have q0_2 := hH.cl 0 2 rfl rfl; have q0_3 := hH.cl 0 3 rfl rfl; have q0_4 := hH.cl 0 4 rfl rfl; have l0_ := hH.bl 0 rfl
 go_wp2_with fail
 clear q0_0 q0_1 q0_2 q0_3 q0_4 l0_
 replace hH := hH.nilI
 replace hH : Held w w2 [aB (w.heap.size) 29 [.int .i64 k, .int .i64 p, .int .i64 n, .slice aV m cV, .slice aO op.length cO], aI v1 CC, aLs vr vs0 LS, aI (.slice none 0 0) []] := hH
 go_loopw [3, 4, 5] (fun vf vl vo wr => ∃ (lf od : List Int) (vs : List Value), Hid (CC.Perm (od ++ lf)) ∧ Held w wr [aB (w.heap.size) 29 [.int .i64 k, .int .i64 p, .int .i64 n, .slice aV m cV, .slice aO op.length cO], aI vf lf, aLs vl vs (elimAll LS od), aI vo od]) (fun vf vl vo wr => lenV vf)
 case atStart => exact ⟨CC, [], _, Lib.hid (List.Perm.refl _), hH⟩
 case round =>
  clear hH
  obtain ⟨lf, od, vs, HP, hH⟩ := hrel
  obtain ⟨wq, rfl⟩ : ∃ q, q = wr := ⟨wr, rfl⟩
  have HPL : Hid (od.length + lf.length ≤ 12) := Lib.hid (by have h := HP.out.length_eq; rw [List.length_append] at h; have := HCL.out; omega)
  have HEU := Lib.hid (HLU.out.all od)
  have HEN : Hid ((elimAll LS od).length ≤ 1000) := Lib.hid (by
   have h := elimAll_len od LS
   have h1 := HLM.out
   have h2 := HPL.out
   omega)
  have HES : Hid (∀ x, elimAll LS (od ++ [x]) = elimL (elimAll LS od) x) := Lib.hid fun x => elimAll_snoc _ _ _
  obtain ⟨EJ, hEJ⟩ : ∃ q, elimAll LS od = q := ⟨_, rfl⟩
  rw [hEJ] at HEU HEN HES hH
  clear hEJ
  obtain ⟨m1, hm1⟩ : ∃ q, lf.length = q := ⟨_, rfl⟩
  have HM1 := Lib.hid hm1
  obtain ⟨af, cf, rfl⟩ := (hH.own (k := 1) rfl).shape1 m1 hm1
  obtain ⟨mo, hmo⟩ : ∃ q, od.length = q := ⟨_, rfl⟩
  have HMO := Lib.hid hmo
  obtain ⟨ao, co, rfl⟩ := (hH.own (k := 3) rfl).shape1 mo hmo
  have h12 := HPL.out
  rw [hm1, hmo] at h12
  clear hm1 hmo
  obtain ⟨av, cv, rfl, _, _⟩ := (hH.rowsS (k := 2) rfl).val
  by_cases hlt : 0 < m1
  ·
   have q0_0 := hH.cl 0 0 rfl rfl; have q0_1 := hH.cl 0 1 rfl rfl; have q0_2 := hH.cl 0 2 rfl rfl; have q0_3 := hH.cl 0 3 rfl rfl; have q0_4 := hH.cl 0 4 rfl rfl; have l0_ := hH.bl 0 rfl
   go_wp2_with fail
   clear q0_0 q0_1 q0_2 q0_3 q0_4 l0_
   go_loopw [6, 7, 20] (fun vb vw i wr => ∃ (q : Nat) (b z : Int), q ≤ m1 ∧ i = .int .i64 (q : Int) ∧ vb = .int .i64 b ∧ vw = .int .i64 z ∧ 0 ≤ z ∧ z ≤ 12 ∧ Hid ((q = 0 ∧ b = -1) ∨ b ∈ lf) ∧ Held w wr [aB (w.heap.size) 29 [.int .i64 k, .int .i64 p, .int .i64 n, .slice aV m cV, .slice aO op.length cO], aI (.slice af m1 cf) lf, aLs (.slice av EJ.length cv) vs EJ, aI (.slice ao mo co) od]) (fun vb vw i wr => m1 - (RowKit.intOf i).toNat)
   case atStart => exact ⟨0, -1, 0, Nat.zero_le _, rfl, rfl, rfl, Int.le_refl _, by decide, Lib.hid (.inl ⟨rfl, rfl⟩), hH⟩
   case round =>
    clear hH
    obtain ⟨q, b, z, hq, rfl, rfl, rfl, hz0, hz1, HB, hH⟩ := hrel
    obtain ⟨wp0, rfl⟩ : ∃ q, q = wr := ⟨wr, rfl⟩
    by_cases hlt2 : q < m1
    ·
     obtain ⟨bF, oF, x, hVF, hcx, hx, _⟩ := (hH.ints (k := 1) rfl).get (i := q) (by rw [HM1.out]; exact hlt2)
     cases hVF
     have HXM : Hid (x ∈ lf) := Lib.hid (List.mem_of_getElem? hx); clear hx
     have q0_0 := hH.cl 0 0 rfl rfl; have q0_1 := hH.cl 0 1 rfl rfl; have q0_2 := hH.cl 0 2 rfl rfl; have q0_3 := hH.cl 0 3 rfl rfl; have q0_4 := hH.cl 0 4 rfl rfl; have l0_ := hH.bl 0 rfl
     go_wp2_with fail
     clear q0_0 q0_1 q0_2 q0_3 q0_4 l0_
     clear hcx
     refine (bucketLabels_any HEU.out _ x _ (hH.rowsS (k := 2) rfl)).mono ?_; rintro e4 w4 ⟨v4, rfl, o4, h4⟩
     replace hH := hH.grow h4; clear h4
     have hb12 : (bucketL EJ x).length ≤ 12 := HEU.out.bucket x
     obtain ⟨BN, hBN⟩ : ∃ q, (bucketL EJ x).length = q := ⟨_, rfl⟩
     rw [hBN] at hb12
     obtain ⟨eb, cb, rfl⟩ := o4.shape1 BN hBN
     clear hBN o4
     by_cases hb : b < 0
     ·
      have q0_0 := hH.cl 0 0 rfl rfl; have q0_1 := hH.cl 0 1 rfl rfl; have q0_2 := hH.cl 0 2 rfl rfl; have q0_3 := hH.cl 0 3 rfl rfl; have q0_4 := hH.cl 0 4 rfl rfl; have l0_ := hH.bl 0 rfl
      go_wp2_with fail
      clear q0_0 q0_1 q0_2 q0_3 q0_4 l0_
      go_roundw
      case rel => exact ⟨q + 1, x, (BN : Int), by omega, by go_num, rfl, rfl, by omega, by omega, Lib.hid (.inr HXM.out), hH⟩
      case measure => simp [RowKit.intOf]; omega
     ·
      have HBM : Hid (b ∈ lf) := Lib.hid (HB.out.resolve_left fun h => by omega)
      by_cases hw : (BN : Int) < z
      ·
       have q0_0 := hH.cl 0 0 rfl rfl; have q0_1 := hH.cl 0 1 rfl rfl; have q0_2 := hH.cl 0 2 rfl rfl; have q0_3 := hH.cl 0 3 rfl rfl; have q0_4 := hH.cl 0 4 rfl rfl; have l0_ := hH.bl 0 rfl
       go_wp2_with fail
       clear q0_0 q0_1 q0_2 q0_3 q0_4 l0_
       go_roundw
       case rel => exact ⟨q + 1, x, (BN : Int), by omega, by go_num, rfl, rfl, by omega, by omega, Lib.hid (.inr HXM.out), hH⟩
       case measure => simp [RowKit.intOf]; omega
      ·
       have q0_0 := hH.cl 0 0 rfl rfl; have q0_1 := hH.cl 0 1 rfl rfl; have q0_2 := hH.cl 0 2 rfl rfl; have q0_3 := hH.cl 0 3 rfl rfl; have q0_4 := hH.cl 0 4 rfl rfl; have l0_ := hH.bl 0 rfl
       go_wp2_with fail
       clear q0_0 q0_1 q0_2 q0_3 q0_4 l0_
       go_roundw
       case rel => exact ⟨q + 1, b, z, by omega, by go_num, rfl, rfl, hz0, hz1, Lib.hid (.inr HBM.out), hH⟩
       case measure => simp [RowKit.intOf]; omega
    ·
     have HBM : Hid (b ∈ lf) := Lib.hid (HB.out.resolve_left fun h => by omega)
     have HCS := Lib.hid (cut_step HCN.out HP.out HBM.out)
     have q0_0 := hH.cl 0 0 rfl rfl; have q0_1 := hH.cl 0 1 rfl rfl; have q0_2 := hH.cl 0 2 rfl rfl; have q0_3 := hH.cl 0 3 rfl rfl; have q0_4 := hH.cl 0 4 rfl rfl; have l0_ := hH.bl 0 rfl
     go_wp2_with (at_builtin; refine wpList_app _ rfl _ _ 27 rfl _ _ rfl rfl _ (run_push _ _ w.heap.size _ od b (hH.own (k := 3) rfl) (by rw [HMO.out]; omega) hH.size) ?_; rintro v6 w6 ⟨o6, g6, n6⟩)
     clear q0_0 q0_1 q0_2 q0_3 q0_4 l0_
     replace hH := hH.pushed (k := 3) rfl o6 g6 n6; clear o6 g6 n6
     replace hH : Held w w6 [aB (w.heap.size) 29 [.int .i64 k, .int .i64 p, .int .i64 n, .slice aV m cV, .slice aO op.length cO], aI (.slice af m1 cf) lf, aLs (.slice av EJ.length cv) vs EJ, aI v6 (od ++ [b])] := hH
     have q0_0 := hH.cl 0 0 rfl rfl; have q0_1 := hH.cl 0 1 rfl rfl; have q0_2 := hH.cl 0 2 rfl rfl; have q0_3 := hH.cl 0 3 rfl rfl; have q0_4 := hH.cl 0 4 rfl rfl; have l0_ := hH.bl 0 rfl
     go_wp2_with fail
     clear q0_0 q0_1 q0_2 q0_3 q0_4 l0_
     refine (eliminateFrom_any HEU.out HEN.out _ vs b _ (hH.get (k := 2) rfl)).mono ?_; rintro e7 w7 ⟨v7, us, rfl, o7, h7, f7⟩
     rw [← HES.out b] at o7
     replace hH := hH.turn (k := 2) (A := aLs v7 us (elimAll LS (od ++ [b]))) rfl (ob := none) (h7.gr none) (fun b hb => by cases hb) o7 (fun b hb => (f7 b hb).imp (fun h => List.mem_append_right _ h) id); clear h7 o7 f7
     replace hH : Held w w7 [aB (w.heap.size) 29 [.int .i64 k, .int .i64 p, .int .i64 n, .slice aV m cV, .slice aO op.length cO], aI (.slice af m1 cf) lf, aLs v7 us (elimAll LS (od ++ [b])), aI v6 (od ++ [b])] := hH
     have q0_0 := hH.cl 0 0 rfl rfl; have q0_1 := hH.cl 0 1 rfl rfl; have q0_2 := hH.cl 0 2 rfl rfl; have q0_3 := hH.cl 0 3 rfl rfl; have q0_4 := hH.cl 0 4 rfl rfl; have l0_ := hH.bl 0 rfl
     go_wp2_with fail
     clear q0_0 q0_1 q0_2 q0_3 q0_4 l0_
     refine (withoutInt_any _ lf b _ (hH.ints (k := 1) rfl) (by rw [HM1.out]; omega)).mono ?_; rintro e8 w8 ⟨v8, rfl, o8, h8⟩
     obtain ⟨m8, hm8⟩ : ∃ q, (cutL lf b).length = q := ⟨_, rfl⟩
     obtain ⟨a8, c8, rfl⟩ := o8.shape1 m8 hm8
     have hm8lt : m8 < m1 := by have h := HCS.out.2; rw [hm8, HM1.out] at h; exact h
     clear hm8
     replace hH := ((hH.drop 1).addI 1 h8 o8 (Nat.le_refl _)); clear h8 o8
     replace hH : Held w w8 [aB (w.heap.size) 29 [.int .i64 k, .int .i64 p, .int .i64 n, .slice aV m cV, .slice aO op.length cO], aI (.slice a8 m8 c8) (cutL lf b), aLs v7 us (elimAll LS (od ++ [b])), aI v6 (od ++ [b])] := hH
     go_wp2_with fail
     go_roundw
     case rel => exact ⟨cutL lf b, od ++ [b], us, Lib.hid HCS.out.1, hH⟩
     case measure => exact hm8lt
  ·
   have hm0 : m1 = 0 := by omega
   subst hm0
   have HF : Hid (CC.Perm od) := Lib.hid (by have h := HP.out; rw [List.length_eq_zero_iff.1 HM1.out, List.append_nil] at h; exact h)
   have HO := Lib.hid (hH.own (k := 3) rfl); have HE := Lib.hid hH.ext; clear hH
   go_wp2
   go_ret
   exact ⟨_, od, rfl, HO.out, HF.out, HE.out⟩
end Go.Proofs.Ytpegckmagiaggaa
