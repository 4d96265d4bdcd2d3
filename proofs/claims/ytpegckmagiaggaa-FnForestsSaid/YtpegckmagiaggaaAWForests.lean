/- The law 'FnForests', walked. -/
import Derived.Test.YtpegckmagiaggaaABase
import Derived.Test.YtpegckmagiaggaaAForestW
import Derived.Test.YtpegckmagiaggaaADrawE
namespace Go.Proofs.Ytpegckmagiaggaa
open Go.RowKit
set_option linter.unusedSimpArgs false
set_option linter.unusedVariables false
theorem forest_true {k p n : Int} {ts : List (NT k p n)} {U op P : List Int} {dm : Int → Int} (hN : IsN k p n dm U ts op) {m : Nat} (hm : ts.length = m) (hp : Mrgs (idL m) (pairsL (ts.map (·.1)) m) P) (hl : P.length = m) (hr : ∀ q ∈ P, 0 ≤ q ∧ q < (m : Int)) :
    m + (ascL (occ ts)).length ≤ (edgesL m (ts.map (·.1)) m).length + (partsL P m m).length ∧ (forestGo (idL (m + 100)) (edgesL m (ts.map (·.1)) m) = true ↔ (edgesL m (ts.map (·.1)) m).length + (partsL P m m).length = m + (ascL (occ ts)).length) := by
  have hc : (partsL P m m).length = cntL P m := by
    rw [partsL_hit]
    refine hitL_cnt fun i hi => ?_
    have h2 := List.getElem?_eq_getElem (l := P) (i := i) (by omega)
    have h3 : atL P i = P[i]'(by omega) := by unfold atL; rw [List.getD_eq_getElem?_getD, h2]; rfl
    rw [h3]
    exact hr _ (List.getElem_mem _)
  have hf : (ts.map (·.1)).flatten = occ ts := by unfold occ; rw [List.flatMap_def]
  have h := forest_law (T := m) (Ls := ts.map (·.1)) (by rw [List.length_map]; exact hm) (fun i hi x hx => by
    have hm2 := List.mem_of_getElem? (labL_get (Ls := ts.map (·.1)) (i := i) (by rw [List.length_map]; omega))
    obtain ⟨t, ht, e⟩ := List.mem_map.1 hm2
    rw [← e] at hx
    exact hN.uni.labs (hN.occU (mem_occ.2 ⟨t, ht, hx⟩))) hp
  rw [hc, ← hf]
  exact h
set_option maxRecDepth 100000 in
set_option maxHeartbeats 8000000 in
theorem walkFnForests (v : Value) (l : List Int) (w : World) (hl : ByteS w v l) (hall : ∀ x ∈ l, 0 ≤ x ∧ x ≤ 255) :
    Calls Try.prog 3 #[v] w fun e w' => e = .returned (.bool true) ∧ Ext w w' := by
  obtain ⟨ca, cap, rfl, hc1, hc2⟩ := hl.val
  by_cases big : 1048576 < l.length
  · go_enter Try.func3, Try.ntmps3
    go_wp2
    go_ret
    exact ⟨rfl, (by repeat' (first | (with_reducible exact Ext.refl _) | (with_reducible assumption) | (with_reducible apply Ext.alloc) | (with_reducible apply Ext.drew) | (with_reducible apply Ext.drewN) | (refine Ext.setAt ?_ (by omega) _ _) | (refine Ext.trans ?_ (by assumption))))⟩
  have hC : Code w (.slice ca l.length cap) l := ⟨hl, hall, by omega⟩
  clear hall hl
  have hH : Held w w [] := Held.new (Ext.refl w) 0
  go_enter Try.func3, Try.ntmps3
  go_wp2_with fail
  refine (makeRing_any _ l 0 _ (hC.ext hH.ext) (by omega)).mono ?_; rintro ewn1 wn1 ⟨k, p, n, rfl, hd, hwn1⟩
  have HR := Lib.hid (drawn_ok hd); clear hd
  replace hH : Held w wn1 [] := hH.grow hwn1
  clear hwn1
  go_wp2_with fail
  have hB : Held w (wn1.alloc (.cells #[.int .i64 k, .int .i64 p, .int .i64 n] 24)) [aB (wn1.heap.size) 24 [.int .i64 k, .int .i64 p, .int .i64 n]] := by
    have h := (hH.mores 1).addB 0 #[.int .i64 k, .int .i64 p, .int .i64 n] 24
    exact h
  have hsz : (wn1.alloc (.cells #[.int .i64 k, .int .i64 p, .int .i64 n] 24)).heap.size = wn1.heap.size + 1 := by simp
  generalize wn1.alloc (.cells #[.int .i64 k, .int .i64 p, .int .i64 n] 24) = wn2 at hB hsz ⊢
  replace hH := hB; have HSZwn2 := Lib.hid hsz; clear hB hsz
  have q0_0 := (hH.blk (k := 0) rfl).cell (j := 0) rfl
  have q0_1 := (hH.blk (k := 0) rfl).cell (j := 1) rfl
  have q0_2 := (hH.blk (k := 0) rfl).cell (j := 2) rfl
  have l0_ := (hH.blk (k := 0) rfl).lt
  go_wp2_with fail
  clear q0_0 q0_1 q0_2 l0_
  refine (makeNetwork_any _ l 10 k p n 4 HR.out (by omega) (by omega) _ (hC.ext hH.ext) (by omega)).mono ?_; rintro ewN wN ⟨tv, ov, cs, ts, op, rfl, hJ, hN, hmost⟩
  have E0 : Ext w wN := hH.ext.trans hJ.ext
  have hT : TensS wN tv (ts.map (tenOf dimOf)) := hJ.tensS (k := 0) rfl
  have hO : IntS wN ov op := hJ.ints (k := 1) rfl
  have kr_0 := ((hH.grow hJ.ext).blk (k := 0) rfl).cell (j := 0) rfl
  have kr_1 := ((hH.grow hJ.ext).blk (k := 0) rfl).cell (j := 1) rfl
  have kr_2 := ((hH.grow hJ.ext).blk (k := 0) rfl).cell (j := 2) rfl
  have hCN := hC.ext E0
  obtain ⟨m, hm⟩ : ∃ m, ts.length = m := ⟨_, rfl⟩
  obtain ⟨aV, cV, rfl, hcT1, hcT2⟩ := hT.val
  obtain ⟨aO, cO, rfl, hcO1, hcO2⟩ := hO.val
  have hT0 : TensS wN (.slice aV m cV) (ts.map (tenOf dimOf)) := by rw [List.length_map, hm] at hT; exact hT
  rw [List.length_map, hm] at hT hcT1
  rw [List.length_map, hm]
  have hm12 : m ≤ 4 := by rw [← hm]; omega
  have hop12 : op.length ≤ 12 := hN.rank
  have HM := Lib.hid hm; have HN := Lib.hid hN; have HD3 := Lib.hid hN.dims3; clear hm hN hmost hJ hC
  have hTl : Hid ((ts.map (tenOf dimOf)).length = m) := Lib.hid (by rw [List.length_map]; exact HM.out)
  clear hH
  have hC := hCN; clear hCN
  have hH : Held wN wN [] := Held.new (Ext.refl _) 0
  have c_kr_0 := hH.ext.cell kr_0
  have c_kr_1 := hH.ext.cell kr_1
  have c_kr_2 := hH.ext.cell kr_2
  go_wp2_with fail
  clear c_kr_0 c_kr_1 c_kr_2
  have hB : Held wN (wN.alloc (.cells #[.int .i64 k, .int .i64 p, .int .i64 n, .slice aV m cV, .slice aO op.length cO] 29)) [aB (wN.heap.size) 29 [.int .i64 k, .int .i64 p, .int .i64 n, .slice aV m cV, .slice aO op.length cO]] := by
    have h := (hH.mores 1).addB 0 #[.int .i64 k, .int .i64 p, .int .i64 n, .slice aV m cV, .slice aO op.length cO] 29
    exact h
  have hsz : (wN.alloc (.cells #[.int .i64 k, .int .i64 p, .int .i64 n, .slice aV m cV, .slice aO op.length cO] 29)).heap.size = wN.heap.size + 1 := by simp
  generalize wN.alloc (.cells #[.int .i64 k, .int .i64 p, .int .i64 n, .slice aV m cV, .slice aO op.length cO] 29) = wn3 at hB hsz ⊢
  replace hH := hB; have HSZwn3 := Lib.hid hsz; clear hB hsz
  have q0_0 := (hH.blk (k := 0) rfl).cell (j := 0) rfl
  have q0_1 := (hH.blk (k := 0) rfl).cell (j := 1) rfl
  have q0_2 := (hH.blk (k := 0) rfl).cell (j := 2) rfl
  have q0_3 := (hH.blk (k := 0) rfl).cell (j := 3) rfl
  have q0_4 := (hH.blk (k := 0) rfl).cell (j := 4) rfl
  have l0_ := (hH.blk (k := 0) rfl).lt
  have c_kr_0 := hH.ext.cell kr_0
  have c_kr_1 := hH.ext.cell kr_1
  have c_kr_2 := hH.ext.cell kr_2
  go_wp2_with fail
  clear q0_0 q0_1 q0_2 q0_3 q0_4 l0_ c_kr_0 c_kr_1 c_kr_2
  go_loopw [5, 21] (fun ed i wr => ∃ j : Nat, j ≤ m ∧ i = .int .i64 (j : Int) ∧ ed = .int .i64 ((edgesL m (ts.map (·.1)) j).length : Nat) ∧ (edgesL m (ts.map (·.1)) j).length ≤ 12 * j ∧ Held wN wr [aB (wN.heap.size) 29 [.int .i64 k, .int .i64 p, .int .i64 n, .slice aV m cV, .slice aO op.length cO]]) (fun ed i wr => m - (RowKit.intOf i).toNat)
  case atStart => exact ⟨0, Nat.zero_le _, rfl, rfl, Nat.zero_le _, hH⟩
  case round =>
    clear hH
    obtain ⟨j, hj, rfl, rfl, hed, hH⟩ := hrel
    obtain ⟨ED, hED⟩ : ∃ q, (edgesL m (ts.map (·.1)) j).length = q := ⟨_, rfl⟩
    rw [hED] at hed ⊢
    by_cases hlt : j < m
    · skip
      obtain ⟨bT, oT, u1, u2, u3, t3, hV, hu0I, hu1I, hu2I, ht3, hTuI⟩ := hT.get (i := j) (by rw [hTl.out]; exact hlt)
      subst hV
      obtain ⟨t, htj, rfl⟩ : ∃ t, ts[j]? = some t ∧ tenOf dimOf t = t3 := by rw [List.getElem?_map] at ht3; exact Option.map_eq_some_iff.1 ht3
      have HTJI := Lib.hid htj; have HTII := Lib.hid (HN.out.ten t (List.mem_of_getElem? htj)); clear ht3 htj
      obtain ⟨tlI, xsI⟩ := t
      obtain ⟨e1I, m1, f1I, e2I, m2, f2I, e3I, m3I, f3I, hvv⟩ := hTuI.shape
      simp at hvv
      obtain ⟨rfl, rfl, rfl⟩ := hvv
      rw [Nat.mul_comm 3 j] at hu0I hu1I hu2I
      obtain ⟨_, _, _, hvv, hTLI, hTDI, hTXI⟩ := hTuI.val
      simp at hvv
      obtain ⟨rfl, rfl, rfl⟩ := hvv
      simp only [tenOf] at hTuI hTLI hTDI hTXI HTII
      obtain ⟨_, _, hvv, _, _⟩ := hTLI.val
      simp at hvv
      obtain ⟨rfl, rfl, rfl⟩ := hvv
      obtain ⟨_, _, hvv, _, _⟩ := hTDI.val
      simp at hvv
      obtain ⟨rfl, rfl, rfl⟩ := hvv
      have HLI : labL (ts.map (·.1)) j = tlI := labL_of (by rw [List.getElem?_map, HTJI.out]; rfl)
      have hes : (edgesL m (ts.map (·.1)) (j + 1)).length = ED + tlI.length := by rw [edgesL_succ, List.length_append, hED, edgeTo_len, HLI]
      have hrk : tlI.length ≤ 12 := HTII.out.ax.rank
      have HES := Lib.hid hes; clear hes hED HLI
      have q0_0 := (hH.blk (k := 0) rfl).cell (j := 0) rfl
      have q0_1 := (hH.blk (k := 0) rfl).cell (j := 1) rfl
      have q0_2 := (hH.blk (k := 0) rfl).cell (j := 2) rfl
      have q0_3 := (hH.blk (k := 0) rfl).cell (j := 3) rfl
      have q0_4 := (hH.blk (k := 0) rfl).cell (j := 4) rfl
      have l0_ := (hH.blk (k := 0) rfl).lt
      have c_kr_0 := hH.ext.cell kr_0
      have c_kr_1 := hH.ext.cell kr_1
      have c_kr_2 := hH.ext.cell kr_2
      have c_hu0I := hH.ext.cell hu0I
      have c_hu1I := hH.ext.cell hu1I
      have c_hu2I := hH.ext.cell hu2I
      go_upto_region 9 with fail
      clear q0_0 q0_1 q0_2 q0_3 q0_4 l0_ c_kr_0 c_kr_1 c_kr_2 c_hu0I c_hu1I c_hu2I
      have hB : Held wN (wr.alloc (.cells #[.slice e1I tlI.length f1I, .slice e2I tlI.length f2I, .slice e3I m3I f3I] 32)) [aB (wN.heap.size) 29 [.int .i64 k, .int .i64 p, .int .i64 n, .slice (some ⟨bT, oT, none⟩) m cV, .slice aO op.length cO], aB (wr.heap.size) 32 [.slice e1I tlI.length f1I, .slice e2I tlI.length f2I, .slice e3I m3I f3I]] := by
        have h := (hH.mores 1).addB 1 #[.slice e1I tlI.length f1I, .slice e2I tlI.length f2I, .slice e3I m3I f3I] 32
        exact h
      have hsz : (wr.alloc (.cells #[.slice e1I tlI.length f1I, .slice e2I tlI.length f2I, .slice e3I m3I f3I] 32)).heap.size = wr.heap.size + 1 := by simp
      generalize wr.alloc (.cells #[.slice e1I tlI.length f1I, .slice e2I tlI.length f2I, .slice e3I m3I f3I] 32) = wn4 at hB hsz ⊢
      replace hH := hB; have HSZwn4 := Lib.hid hsz; clear hB hsz
      have q0_0 := (hH.blk (k := 0) rfl).cell (j := 0) rfl
      have q0_1 := (hH.blk (k := 0) rfl).cell (j := 1) rfl
      have q0_2 := (hH.blk (k := 0) rfl).cell (j := 2) rfl
      have q0_3 := (hH.blk (k := 0) rfl).cell (j := 3) rfl
      have q0_4 := (hH.blk (k := 0) rfl).cell (j := 4) rfl
      have l0_ := (hH.blk (k := 0) rfl).lt
      have q1_0 := (hH.blk (k := 1) rfl).cell (j := 0) rfl
      have q1_1 := (hH.blk (k := 1) rfl).cell (j := 1) rfl
      have q1_2 := (hH.blk (k := 1) rfl).cell (j := 2) rfl
      have l1_ := (hH.blk (k := 1) rfl).lt
      have c_kr_0 := hH.ext.cell kr_0
      have c_kr_1 := hH.ext.cell kr_1
      have c_kr_2 := hH.ext.cell kr_2
      have c_hu0I := hH.ext.cell hu0I
      have c_hu1I := hH.ext.cell hu1I
      have c_hu2I := hH.ext.cell hu2I
      go_wp2_with fail
      clear q0_0 q0_1 q0_2 q0_3 q0_4 l0_ q1_0 q1_1 q1_2 l1_ c_kr_0 c_kr_1 c_kr_2 c_hu0I c_hu1I c_hu2I
      go_roundw
      case rel => exact ⟨j + 1, by omega, by go_num, by rw [HES.out]; go_num, by rw [HES.out]; omega, hH.sub (.cons_cons _ (.cons _ .slnil))⟩
      case measure => simp [RowKit.intOf]; omega
    · skip
      have hje : j = m := by omega
      subst hje
      obtain ⟨m, hmj⟩ : ∃ q, q = j := ⟨j, rfl⟩
      subst hmj
      have HED := Lib.hid hED; clear hED hj hlt
      obtain ⟨wa, rfl⟩ : ∃ q, q = wr := ⟨wr, rfl⟩
      have q0_0 := (hH.blk (k := 0) rfl).cell (j := 0) rfl
      have q0_1 := (hH.blk (k := 0) rfl).cell (j := 1) rfl
      have q0_2 := (hH.blk (k := 0) rfl).cell (j := 2) rfl
      have q0_3 := (hH.blk (k := 0) rfl).cell (j := 3) rfl
      have q0_4 := (hH.blk (k := 0) rfl).cell (j := 4) rfl
      have l0_ := (hH.blk (k := 0) rfl).lt
      have c_kr_0 := hH.ext.cell kr_0
      have c_kr_1 := hH.ext.cell kr_1
      have c_kr_2 := hH.ext.cell kr_2
      go_wp2_with fail
      clear q0_0 q0_1 q0_2 q0_3 q0_4 l0_ c_kr_0 c_kr_1 c_kr_2
      refine (partsOf_any HR.out HN.out _ _ _ (hT.ext hH.ext) (hO.ext hH.ext)).mono ?_; rintro ewn5 wn5 ⟨u1, vs1, P, rfl, hJ, hP, hPl, hPr⟩
      rw [HM.out] at hJ hP hPl hPr
      obtain ⟨a1, c1, rfl, _, _⟩ := (hJ.rowsS (k := 0) rfl).val
      replace hH : Held wN wn5 [aB (wN.heap.size) 29 [.int .i64 k, .int .i64 p, .int .i64 n, .slice aV m cV, .slice aO op.length cO], aLs (.slice a1 (partsL P m m).length c1) vs1 (partsL P m m)] := hH.join hJ (fun q hq => by cases hq)
      clear hJ
      have hpl := partsL_len P m m
      have HF := Lib.hid (forest_true HN.out HM.out hP hPl hPr)
      obtain ⟨PN, hPN⟩ : ∃ q, (partsL P m m).length = q := ⟨_, rfl⟩
      rw [hPN] at hpl hH HF ⊢
      clear hP hPl hPr hPN
      obtain ⟨LL, hLL⟩ : ∃ q, (ascL (occ ts)).length = q := ⟨_, rfl⟩
      have hLL2 : LL ≤ 100 := by rw [← hLL]; unfold ascL; refine Nat.le_trans (List.length_filter_le _ _) ?_; rw [all100_len]; omega
      rw [HED.out, hLL] at HF
      have HLL := Lib.hid hLL; clear hLL
      have q0_0 := (hH.blk (k := 0) rfl).cell (j := 0) rfl
      have q0_1 := (hH.blk (k := 0) rfl).cell (j := 1) rfl
      have q0_2 := (hH.blk (k := 0) rfl).cell (j := 2) rfl
      have q0_3 := (hH.blk (k := 0) rfl).cell (j := 3) rfl
      have q0_4 := (hH.blk (k := 0) rfl).cell (j := 4) rfl
      have l0_ := (hH.blk (k := 0) rfl).lt
      have c_kr_0 := hH.ext.cell kr_0
      have c_kr_1 := hH.ext.cell kr_1
      have c_kr_2 := hH.ext.cell kr_2
      go_upto_region 12 with fail
      clear q0_0 q0_1 q0_2 q0_3 q0_4 l0_ c_kr_0 c_kr_1 c_kr_2
      replace hH := hH.mores 1
      replace hH : Held wN wn5 [aB (wN.heap.size) 29 [.int .i64 k, .int .i64 p, .int .i64 n, .slice aV m cV, .slice aO op.length cO], aLs (.slice a1 PN c1) vs1 (partsL P m m), emp] := hH
      refine wp_region_steps ?Fa (fun b t wx => Held wN wx [aB (wN.heap.size) 29 [.int .i64 k, .int .i64 p, .int .i64 n, .slice aV m cV, .slice aO op.length cO], aLs (.slice a1 PN c1) vs1 (partsL P m m), (bif b 4 then aI (t 4) (ascL (occ ts)) else emp)] ∧ (b 0 = true → t 0 = .pointer (some ⟨wN.heap.size, 3, none⟩)) ∧ (b 1 = true → t 1 = .slice aV m cV) ∧ (b 2 = true → t 2 = .int .i64 (m : Int)) ∧ (b 3 = true → t 3 = .agg #[.int .i64 k, .int .i64 p, .int .i64 n, .slice aV m cV, .slice aO op.length cO]) ∧ (b 4 = true → ∃ x c, t 4 = .slice x LL c) ∧ (b 5 = true → t 5 = .int .i64 (LL : Int)) ∧ (b 6 = true → t 6 = .int .i64 ((m : Int) + (LL : Int))) ∧ (b 7 = true → t 7 = .int .i64 ((m : Int) + (LL : Int)))) ?hFa (by kernel_rfl) (by kernel_rfl) ?hJa ?hSa ?hEa
      (case hFa => intro t; simp only [putAll, Act.put, List.setIfInBounds_toArray, List.set_cons_zero, List.set_cons_succ, Nat.reduceAdd, Nat.zero_add]; exact rfl)
      case hJa => exact ⟨hH.grow ((Ext.refl _).drew), fun h => absurd h Bool.false_ne_true, fun h => absurd h Bool.false_ne_true, fun h => absurd h Bool.false_ne_true, fun h => absurd h Bool.false_ne_true, fun h => absurd h Bool.false_ne_true, fun h => absurd h Bool.false_ne_true, fun h => absurd h Bool.false_ne_true, fun h => absurd h Bool.false_ne_true⟩
      case hSa =>
        as_aux_lemma =>
          refine AllSteps.cons (j := 1) rfl (fun b t wx hJ hb hd hcl Kc hK => ?_) ?_
          · obtain ⟨hH, v0, v1, v2, v3, v4, v5, v6, v7⟩ := hJ
            have c_kr_0 := hH.ext.cell kr_0
            have c_kr_1 := hH.ext.cell kr_1
            have c_kr_2 := hH.ext.cell kr_2
            go_simp
            refine hK.out _ ?_ _ ?_ ?_; rotate_left 2
            · rfl
            exact ⟨hH, fun _ => rfl, v1, v2, v3, v4, v5, v6, v7⟩
          refine AllSteps.cons (j := 2) rfl (fun b t wx hJ hb hd hcl Kc hK => ?_) ?_
          · obtain ⟨hH, v0, v1, v2, v3, v4, v5, v6, v7⟩ := hJ
            have d0 : b 0 = true := hd.out 0 (by kernel_rfl)
            have r0 := v0 d0
            have c_kr_0 := hH.ext.cell kr_0
            have c_kr_1 := hH.ext.cell kr_1
            have c_kr_2 := hH.ext.cell kr_2
            have q0_3 := (hH.blk (k := 0) rfl).cell (j := 3) rfl
            go_simp
            refine hK.out _ ?_ _ ?_ ?_; rotate_left 2
            · (try simp only [r0]); rfl
            exact ⟨hH, v0, fun _ => rfl, v2, v3, v4, v5, v6, v7⟩
          refine AllSteps.cons (j := 3) rfl (fun b t wx hJ hb hd hcl Kc hK => ?_) ?_
          · obtain ⟨hH, v0, v1, v2, v3, v4, v5, v6, v7⟩ := hJ
            have d1 : b 1 = true := hd.out 1 (by kernel_rfl)
            have r1 := v1 d1
            have c_kr_0 := hH.ext.cell kr_0
            have c_kr_1 := hH.ext.cell kr_1
            have c_kr_2 := hH.ext.cell kr_2
            go_simp
            refine hK.out _ ?_ _ ?_ ?_; rotate_left 2
            · (try simp only [r1]); rfl
            exact ⟨hH, v0, v1, fun _ => rfl, v3, v4, v5, v6, v7⟩
          refine AllSteps.cons (j := 4) rfl (fun b t wx hJ hb hd hcl Kc hK => ?_) ?_
          · obtain ⟨hH, v0, v1, v2, v3, v4, v5, v6, v7⟩ := hJ
            have c_kr_0 := hH.ext.cell kr_0
            have c_kr_1 := hH.ext.cell kr_1
            have c_kr_2 := hH.ext.cell kr_2
            have q0_0 := (hH.blk (k := 0) rfl).cell (j := 0) rfl
            have q0_1 := (hH.blk (k := 0) rfl).cell (j := 1) rfl
            have q0_2 := (hH.blk (k := 0) rfl).cell (j := 2) rfl
            have q0_3 := (hH.blk (k := 0) rfl).cell (j := 3) rfl
            have q0_4 := (hH.blk (k := 0) rfl).cell (j := 4) rfl
            go_simp
            refine hK.out _ ?_ _ ?_ ?_; rotate_left 2
            · rfl
            exact ⟨hH, v0, v1, v2, fun _ => rfl, v4, v5, v6, v7⟩
          refine AllSteps.cons (j := 5) rfl (fun b t wx hJ hb hd hcl Kc hK => ?_) ?_
          · obtain ⟨hH, v0, v1, v2, v3, v4, v5, v6, v7⟩ := hJ
            have d3 : b 3 = true := hd.out 3 (by kernel_rfl)
            have r3 := v3 d3
            have hN := hH; (try simp only [hb, d3, cond_true, cond_false] at hN)
            go_simp
            go_at_call 17
            refine (labelsOf_any HR.out HN.out _ _ _ (hT.ext hH.ext) (hO.ext hH.ext)).mono ?_; rintro e4 w4 ⟨u4, rfl, hJ⟩
            obtain ⟨x4, c4, rfl, _, _⟩ := (hJ.ints (k := 0) rfl).val
            have HJ := Lib.hid hJ; clear hJ
            rw [HLL.out] at HJ ⊢
            (try go_simp)
            refine hK.out _ ?_ _ ?_ ?_; rotate_left 2
            · (try simp only [r3]); rfl
            exact ⟨by have hX := (hN.join HJ.out (fun q hq => by cases hq)).sub (.cons_cons _ (.cons_cons _ (.cons _ (.cons_cons _ .slnil)))); (try simp only [List.set_cons_zero, List.set_cons_succ] at hX); simpa only [updB, updV, blkOf_mk, tup0_mk, partsOf3, Nat.reduceBEq, cond_true, cond_false, hb, d3, r3] using hX, v0, v1, v2, v3, fun _ => ⟨_, _, rfl⟩, v5, v6, v7⟩
          refine AllSteps.cons (j := 6) rfl (fun b t wx hJ hb hd hcl Kc hK => ?_) ?_
          · obtain ⟨hH, v0, v1, v2, v3, v4, v5, v6, v7⟩ := hJ
            have d4 : b 4 = true := hd.out 4 (by kernel_rfl)
            have r4 := v4 d4
            obtain ⟨x_4, c_4, r4⟩ := r4
            have c_kr_0 := hH.ext.cell kr_0
            have c_kr_1 := hH.ext.cell kr_1
            have c_kr_2 := hH.ext.cell kr_2
            go_simp
            refine hK.out _ ?_ _ ?_ ?_; rotate_left 2
            · (try simp only [r4]); rfl
            exact ⟨hH, v0, v1, v2, v3, v4, fun _ => rfl, v6, v7⟩
          refine AllSteps.cons (j := 7) rfl (fun b t wx hJ hb hd hcl Kc hK => ?_) ?_
          · obtain ⟨hH, v0, v1, v2, v3, v4, v5, v6, v7⟩ := hJ
            have d2 : b 2 = true := hd.out 2 (by kernel_rfl)
            have d5 : b 5 = true := hd.out 5 (by kernel_rfl)
            have r2 := v2 d2
            have r5 := v5 d5
            have hwr : IntKind.i64.wrap ((m : Int) + (LL : Int)) = (m : Int) + (LL : Int) := by rw [IntKind.wrap_i64]; omega
            go_simp
            refine hK.out _ ?_ _ ?_ ?_; rotate_left 2
            · (try simp only [r2, r5]); rfl
            exact ⟨hH, v0, v1, v2, v3, v4, v5, fun _ => rfl, v7⟩
          refine AllSteps.cons (j := 8) rfl (fun b t wx hJ hb hd hcl Kc hK => ?_) ?_
          · obtain ⟨hH, v0, v1, v2, v3, v4, v5, v6, v7⟩ := hJ
            have d0 : b 0 = true := hd.out 0 (by kernel_rfl)
            have d1 : b 1 = true := hd.out 1 (by kernel_rfl)
            have d2 : b 2 = true := hd.out 2 (by kernel_rfl)
            have d3 : b 3 = true := hd.out 3 (by kernel_rfl)
            have d4 : b 4 = true := hd.out 4 (by kernel_rfl)
            have d5 : b 5 = true := hd.out 5 (by kernel_rfl)
            have d6 : b 6 = true := hd.out 6 (by kernel_rfl)
            have r0 := v0 d0
            have r1 := v1 d1
            have r2 := v2 d2
            have r3 := v3 d3
            have r4 := v4 d4
            have r5 := v5 d5
            have r6 := v6 d6
            obtain ⟨x_4, c_4, r4⟩ := r4
            have c_kr_0 := hH.ext.cell kr_0
            have c_kr_1 := hH.ext.cell kr_1
            have c_kr_2 := hH.ext.cell kr_2
            go_simp
            refine hK.out _ ?_ _ ?_ ?_; rotate_left 2
            · (try simp only [r0, r1, r2, r3, r4, r5, r6]); rfl
            exact ⟨hH, v0, v1, v2, v3, v4, v5, v6, fun _ => rfl⟩
          exact AllSteps.nil
      case hEa =>
        intro b t wa hJ hall
        obtain ⟨hHa, v0, v1, v2, v3, v4, v5, v6, v7⟩ := hJ
        have a0 : b 0 = true := hall 0 (by decide)
        have a1 : b 1 = true := hall 1 (by decide)
        have a2 : b 2 = true := hall 2 (by decide)
        have a3 : b 3 = true := hall 3 (by decide)
        have a4 : b 4 = true := hall 4 (by decide)
        have a5 : b 5 = true := hall 5 (by decide)
        have a6 : b 6 = true := hall 6 (by decide)
        have a7 : b 7 = true := hall 7 (by decide)
        (try simp only [a0, a1, a2, a3, a4, a5, a6, a7, cond_true] at hHa)
        replace v0 := v0 a0
        replace v1 := v1 a1
        replace v2 := v2 a2
        replace v3 := v3 a3
        replace v4 := v4 a4
        replace v5 := v5 a5
        replace v6 := v6 a6
        replace v7 := v7 a7
        clear hall a0 a1 a2 a3 a4 a5 a6 a7
        generalize t 7 = x7 at hHa v7 ⊢
        generalize t 6 = x6 at hHa v6 ⊢
        generalize t 5 = x5 at hHa v5 ⊢
        generalize t 4 = x4 at hHa v4 ⊢
        generalize t 3 = x3 at hHa v3 ⊢
        generalize t 2 = x2 at hHa v2 ⊢
        generalize t 1 = x1 at hHa v1 ⊢
        generalize t 0 = x0 at hHa v0 ⊢
        subst v0
        subst v1
        subst v2
        subst v3
        obtain ⟨xa4, ca4, rfl⟩ := v4
        subst v5
        subst v6
        subst v7
        clear b
        replace hH := hHa; clear hHa
        replace hH : Held wN wa [aB (wN.heap.size) 29 [.int .i64 k, .int .i64 p, .int .i64 n, .slice aV m cV, .slice aO op.length cO], aLs (.slice a1 PN c1) vs1 (partsL P m m), aI (.slice xa4 LL ca4) (ascL (occ ts))] := hH
        have q0_0 := (hH.blk (k := 0) rfl).cell (j := 0) rfl
        have q0_1 := (hH.blk (k := 0) rfl).cell (j := 1) rfl
        have q0_2 := (hH.blk (k := 0) rfl).cell (j := 2) rfl
        have q0_3 := (hH.blk (k := 0) rfl).cell (j := 3) rfl
        have q0_4 := (hH.blk (k := 0) rfl).cell (j := 4) rfl
        have l0_ := (hH.blk (k := 0) rfl).lt
        have c_kr_0 := hH.ext.cell kr_0
        have c_kr_1 := hH.ext.cell kr_1
        have c_kr_2 := hH.ext.cell kr_2
        go_wp2_with fail
        clear q0_0 q0_1 q0_2 q0_3 q0_4 l0_ c_kr_0 c_kr_1 c_kr_2
        refine (isForest_any HR.out HN.out _ _ _ (hT.ext hH.ext) (hO.ext hH.ext)).mono ?_; rintro ewn6 wn6 ⟨rfl, hwn6⟩
        rw [HM.out]
        replace hH : Held wN wn6 [aB (wN.heap.size) 29 [.int .i64 k, .int .i64 p, .int .i64 n, .slice aV m cV, .slice aO op.length cO], aLs (.slice a1 PN c1) vs1 (partsL P m m), aI (.slice xa4 LL ca4) (ascL (occ ts))] := hH.grow hwn6
        clear hwn6
        obtain ⟨FB, hFB⟩ : ∃ q, forestGo (idL (m + 100)) (edgesL m (ts.map (·.1)) m) = q := ⟨_, rfl⟩
        rw [hFB] at HF ⊢
        clear hFB
        have HE := Lib.hid (E0.trans hH.ext); clear hH
        cases FB
        · skip
          have hne : ¬ (ED : Int) = (m : Int) + (LL : Int) - (PN : Int) := fun h => by have h2 := HF.out.2.2 (by omega); cases h2
          have hge : (m : Int) + (LL : Int) - (PN : Int) ≤ (ED : Int) := by have := HF.out.1; omega
          go_wp2
          go_ret
          exact ⟨by simp [hne], HE.out⟩
        · skip
          have heq : (ED : Int) = (m : Int) + (LL : Int) - (PN : Int) := by have h2 := HF.out.2.1 rfl; omega
          have hge : (m : Int) + (LL : Int) - (PN : Int) ≤ (ED : Int) := by have := HF.out.1; omega
          go_wp2
          go_ret
          exact ⟨by simp, HE.out⟩
end Go.Proofs.Ytpegckmagiaggaa
