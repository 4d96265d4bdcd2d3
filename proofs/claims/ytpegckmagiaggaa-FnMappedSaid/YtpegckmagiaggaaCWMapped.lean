/- The law 'FnMapped', walked. -/
import Derived.Test.YtpegckmagiaggaaCBase
import Derived.Test.YtpegckmagiaggaaCMapNW
import Derived.Test.YtpegckmagiaggaaCWorthW
import Derived.Test.YtpegckmagiaggaaCNetVX
import Derived.Test.YtpegckmagiaggaaCG5
namespace Go.Proofs.Ytpegckmagiaggaa
open Go.RowKit
set_option linter.unusedSimpArgs false
set_option linter.unusedVariables false
set_option maxRecDepth 100000 in
set_option maxHeartbeats 8000000 in
theorem walkFnMapped (v : Value) (l : List Int) (w : World) (hl : ByteS w v l) (hall : ∀ x ∈ l, 0 ≤ x ∧ x ≤ 255) :
    Calls Try.prog 6 #[v] w fun e w' => e = .returned (.bool true) ∧ Ext w w' := by
  obtain ⟨ca, cap, rfl, hc1, hc2⟩ := hl.val
  by_cases big : 1048576 < l.length
  · go_enter Try.func6, Try.ntmps6
    go_wp2
    go_ret
    exact ⟨rfl, (by repeat' (first | (with_reducible exact Ext.refl _) | (with_reducible assumption) | (with_reducible apply Ext.alloc) | (with_reducible apply Ext.drew) | (with_reducible apply Ext.drewN) | (refine Ext.setAt ?_ (by omega) _ _) | (refine Ext.trans ?_ (by assumption))))⟩
  have hC : Code w (.slice ca l.length cap) l := ⟨hl, hall, by omega⟩
  clear hall hl
  have hH : Held w w [] := Held.new (Ext.refl w) 0
  go_enter Try.func6, Try.ntmps6
  go_wp2_with fail
  refine (makeHom_any _ l 0 _ (hC.ext hH.ext) (by omega)).mono ?_; rintro ewn1 wn1 ⟨k, p, n, tk, tp, tn, hk, ha, rfl, ⟨hd, hok⟩, hwn1⟩
  have HH := Lib.hid hok; have HR := Lib.hid (homOk_parts hok).1; have HR2 := Lib.hid (homOk_parts hok).2.1; have H := keeps_all hok; clear hd hok
  replace hH : Held w wn1 [] := hH.grow hwn1
  clear hwn1
  go_upto_region 4 with fail
  have hB : Held w (wn1.alloc (.cells #[.int .i64 k, .int .i64 p, .int .i64 n] 24)) [aB (wn1.heap.size) 24 [.int .i64 k, .int .i64 p, .int .i64 n]] := by
    have h := (hH.mores 1).addB 0 #[.int .i64 k, .int .i64 p, .int .i64 n] 24
    exact h
  have hsz : (wn1.alloc (.cells #[.int .i64 k, .int .i64 p, .int .i64 n] 24)).heap.size = wn1.heap.size + 1 := by simp
  generalize wn1.alloc (.cells #[.int .i64 k, .int .i64 p, .int .i64 n] 24) = wn2 at hB hsz ⊢
  replace hH := hB; have HSZwn2 := Lib.hid hsz; clear hB hsz
  have hB : Held w (wn2.alloc (.cells #[.int .i64 tk, .int .i64 tp, .int .i64 tn] 24)) [aB (wn1.heap.size) 24 [.int .i64 k, .int .i64 p, .int .i64 n], aB (wn1.heap.size + 1) 24 [.int .i64 tk, .int .i64 tp, .int .i64 tn]] := by
    have h := (hH.mores 1).addB 1 #[.int .i64 tk, .int .i64 tp, .int .i64 tn] 24
    rw [HSZwn2.out] at h
    exact h
  have hsz : (wn2.alloc (.cells #[.int .i64 tk, .int .i64 tp, .int .i64 tn] 24)).heap.size = wn1.heap.size + 1 + 1 := by rw [← HSZwn2.out]; simp
  generalize wn2.alloc (.cells #[.int .i64 tk, .int .i64 tp, .int .i64 tn] 24) = wn3 at hB hsz ⊢
  replace hH := hB; have HSZwn3 := Lib.hid hsz; clear hB hsz
  have hB : Held w (wn3.alloc (.cells #[.int .i64 hk, .int .i64 ha] 56)) [aB (wn1.heap.size) 24 [.int .i64 k, .int .i64 p, .int .i64 n], aB (wn1.heap.size + 1) 24 [.int .i64 tk, .int .i64 tp, .int .i64 tn], aB (wn1.heap.size + 1 + 1) 56 [.int .i64 hk, .int .i64 ha]] := by
    have h := (hH.mores 1).addB 2 #[.int .i64 hk, .int .i64 ha] 56
    rw [HSZwn3.out] at h
    exact h
  have hsz : (wn3.alloc (.cells #[.int .i64 hk, .int .i64 ha] 56)).heap.size = wn1.heap.size + 1 + 1 + 1 := by rw [← HSZwn3.out]; simp
  generalize wn3.alloc (.cells #[.int .i64 hk, .int .i64 ha] 56) = wn4 at hB hsz ⊢
  replace hH := hB; have HSZwn4 := Lib.hid hsz; clear hB hsz
  have q0_0 := (hH.blk (k := 0) rfl).cell (j := 0) rfl
  have q0_1 := (hH.blk (k := 0) rfl).cell (j := 1) rfl
  have q0_2 := (hH.blk (k := 0) rfl).cell (j := 2) rfl
  have l0_ := (hH.blk (k := 0) rfl).lt
  have q1_0 := (hH.blk (k := 1) rfl).cell (j := 0) rfl
  have q1_1 := (hH.blk (k := 1) rfl).cell (j := 1) rfl
  have q1_2 := (hH.blk (k := 1) rfl).cell (j := 2) rfl
  have l1_ := (hH.blk (k := 1) rfl).lt
  have q2_0 := (hH.blk (k := 2) rfl).cell (j := 0) rfl
  have q2_1 := (hH.blk (k := 2) rfl).cell (j := 1) rfl
  have l2_ := (hH.blk (k := 2) rfl).lt
  go_wp2_with fail
  clear q0_0 q0_1 q0_2 l0_ q1_0 q1_1 q1_2 l1_ q2_0 q2_1 l2_
  refine (makeNetwork_any _ l 10 k p n 4 HR.out (by omega) (by omega) _ (hC.ext hH.ext) (by omega)).mono ?_; rintro ewN wN ⟨tv, ov, cs, ts, op, rfl, hJ, hN, hmost⟩
  have E0 : Ext w wN := hH.ext.trans hJ.ext
  have hT : TensS wN tv (ts.map (tenOf dimOf)) := hJ.tensS (k := 0) rfl
  have hO : IntS wN ov op := hJ.ints (k := 1) rfl
  have kf_0 := ((hH.grow hJ.ext).blk (k := 0) rfl).cell (j := 0) rfl
  have kf_1 := ((hH.grow hJ.ext).blk (k := 0) rfl).cell (j := 1) rfl
  have kf_2 := ((hH.grow hJ.ext).blk (k := 0) rfl).cell (j := 2) rfl
  have kf_l := ((hH.grow hJ.ext).blk (k := 0) rfl).lt
  have kt_0 := ((hH.grow hJ.ext).blk (k := 1) rfl).cell (j := 0) rfl
  have kt_1 := ((hH.grow hJ.ext).blk (k := 1) rfl).cell (j := 1) rfl
  have kt_2 := ((hH.grow hJ.ext).blk (k := 1) rfl).cell (j := 2) rfl
  have kt_l := ((hH.grow hJ.ext).blk (k := 1) rfl).lt
  have kh_0 := ((hH.grow hJ.ext).blk (k := 2) rfl).cell (j := 0) rfl
  have kh_1 := ((hH.grow hJ.ext).blk (k := 2) rfl).cell (j := 1) rfl
  have kh_l := ((hH.grow hJ.ext).blk (k := 2) rfl).lt
  have hCN := hC.ext E0
  obtain ⟨m, hm⟩ : ∃ m, ts.length = m := ⟨_, rfl⟩
  obtain ⟨aV, cV, rfl, hcT1, hcT2⟩ := hT.val
  obtain ⟨aO, cO, rfl, hcO1, hcO2⟩ := hO.val
  have hT0 : TensS wN (.slice aV m cV) (ts.map (tenOf dimOf)) := by rw [List.length_map, hm] at hT; exact hT
  rw [List.length_map, hm] at hT hcT1
  rw [List.length_map, hm]
  have hm12 : m ≤ 4 := by rw [← hm]; omega
  have hop12 : op.length ≤ 12 := hN.rank
  have HM := Lib.hid hm; have HN := Lib.hid hN; have HD3 := Lib.hid hN.dims3; clear hm hN hmost hJ hC
  have hTl : Hid ((ts.map (tenOf dimOf)).length = m) := Lib.hid (by rw [List.length_map]; exact HM.out)
  clear hH
  have hC := hCN; clear hCN
  have hH : Held wN wN [] := Held.new (Ext.refl _) 0
  have c_kf_0 := hH.ext.cell kf_0
  have c_kf_1 := hH.ext.cell kf_1
  have c_kf_2 := hH.ext.cell kf_2
  have c_kt_0 := hH.ext.cell kt_0
  have c_kt_1 := hH.ext.cell kt_1
  have c_kt_2 := hH.ext.cell kt_2
  have c_kh_0 := hH.ext.cell kh_0
  have c_kh_1 := hH.ext.cell kh_1
  have c_kf_l := Nat.lt_of_lt_of_le kf_l hH.ext.size
  have c_kt_l := Nat.lt_of_lt_of_le kt_l hH.ext.size
  have c_kh_l := Nat.lt_of_lt_of_le kh_l hH.ext.size
  go_wp2_with fail
  clear c_kf_0 c_kf_1 c_kf_2 c_kt_0 c_kt_1 c_kt_2 c_kh_0 c_kh_1 c_kf_l c_kt_l c_kh_l
  have hB : Held wN (wN.alloc (.cells #[.int .i64 k, .int .i64 p, .int .i64 n, .slice aV m cV, .slice aO op.length cO] 29)) [aB (wN.heap.size) 29 [.int .i64 k, .int .i64 p, .int .i64 n, .slice aV m cV, .slice aO op.length cO]] := by
    have h := (hH.mores 1).addB 0 #[.int .i64 k, .int .i64 p, .int .i64 n, .slice aV m cV, .slice aO op.length cO] 29
    exact h
  have hsz : (wN.alloc (.cells #[.int .i64 k, .int .i64 p, .int .i64 n, .slice aV m cV, .slice aO op.length cO] 29)).heap.size = wN.heap.size + 1 := by simp
  generalize wN.alloc (.cells #[.int .i64 k, .int .i64 p, .int .i64 n, .slice aV m cV, .slice aO op.length cO] 29) = wn5 at hB hsz ⊢
  replace hH := hB; have HSZwn5 := Lib.hid hsz; clear hB hsz
  obtain ⟨MN, hMN⟩ : ∃ q, mapN H ts = q := ⟨_, rfl⟩
  have HMI : Hid (IsN tk tp tn dimOf U6 MN op) := Lib.hid (by rw [← hMN]; exact mapN_isN H HN.out)
  have HML : Hid (MN.length = m) := Lib.hid (by rw [← hMN]; unfold mapN; rw [List.length_map]; exact HM.out)
  have HMX : Hid (netXs HR2.out dimOf MN op = (netXs HR.out dimOf ts op).map (homEl H)) := Lib.hid (by rw [← hMN]; exact netXs_hom H HR.out HR2.out dimOf ts op)
  have HTI := Lib.hid (netXs_isT HR.out HN.out)
  obtain ⟨RX, hRX⟩ : ∃ q, netXs HR.out dimOf ts op = q := ⟨_, rfl⟩
  rw [hRX] at HMX HTI
  have HRX := Lib.hid hRX; have HMN := Lib.hid hMN; clear hRX hMN
  obtain ⟨RX2, hRX2⟩ : ∃ q, RX.map (homEl H) = q := ⟨_, rfl⟩
  rw [hRX2] at HMX
  have HRX2 := Lib.hid hRX2; clear hRX2
  have q0_0 := (hH.blk (k := 0) rfl).cell (j := 0) rfl
  have q0_1 := (hH.blk (k := 0) rfl).cell (j := 1) rfl
  have q0_2 := (hH.blk (k := 0) rfl).cell (j := 2) rfl
  have q0_3 := (hH.blk (k := 0) rfl).cell (j := 3) rfl
  have q0_4 := (hH.blk (k := 0) rfl).cell (j := 4) rfl
  have l0_ := (hH.blk (k := 0) rfl).lt
  have c_kf_0 := hH.ext.cell kf_0
  have c_kf_1 := hH.ext.cell kf_1
  have c_kf_2 := hH.ext.cell kf_2
  have c_kt_0 := hH.ext.cell kt_0
  have c_kt_1 := hH.ext.cell kt_1
  have c_kt_2 := hH.ext.cell kt_2
  have c_kh_0 := hH.ext.cell kh_0
  have c_kh_1 := hH.ext.cell kh_1
  have c_kf_l := Nat.lt_of_lt_of_le kf_l hH.ext.size
  have c_kt_l := Nat.lt_of_lt_of_le kt_l hH.ext.size
  have c_kh_l := Nat.lt_of_lt_of_le kh_l hH.ext.size
  go_wp2_with fail
  clear q0_0 q0_1 q0_2 q0_3 q0_4 l0_ c_kf_0 c_kf_1 c_kf_2 c_kt_0 c_kt_1 c_kt_2 c_kh_0 c_kh_1 c_kf_l c_kt_l c_kh_l
  refine (mapNetwork_any H HH.out HR.out HN.out _ _ _ (hT.ext hH.ext) (hO.ext hH.ext)).mono ?_; rintro ewn6 wn6 ⟨tv2, ov2, cs2, rfl, hJ⟩
  rw [HMN.out] at hJ
  obtain ⟨aP, cP, rfl, _, _⟩ := (hJ.ints (k := 1) rfl).val
  obtain ⟨aM, cM, rfl, _, _⟩ := (hJ.tensS (k := 0) rfl).val
  rw [List.length_map, HML.out] at hJ ⊢
  replace hH : Held wN wn6 [aB (wN.heap.size) 29 [.int .i64 k, .int .i64 p, .int .i64 n, .slice aV m cV, .slice aO op.length cO], aTs (.slice aM m cM) cs2 (MN.map (tenOf dimOf)), aI (.slice aP op.length cP) op] := hH.join hJ (fun q hq => by cases hq)
  clear hJ
  have q0_0 := (hH.blk (k := 0) rfl).cell (j := 0) rfl
  have q0_1 := (hH.blk (k := 0) rfl).cell (j := 1) rfl
  have q0_2 := (hH.blk (k := 0) rfl).cell (j := 2) rfl
  have q0_3 := (hH.blk (k := 0) rfl).cell (j := 3) rfl
  have q0_4 := (hH.blk (k := 0) rfl).cell (j := 4) rfl
  have l0_ := (hH.blk (k := 0) rfl).lt
  have c_kf_0 := hH.ext.cell kf_0
  have c_kf_1 := hH.ext.cell kf_1
  have c_kf_2 := hH.ext.cell kf_2
  have c_kt_0 := hH.ext.cell kt_0
  have c_kt_1 := hH.ext.cell kt_1
  have c_kt_2 := hH.ext.cell kt_2
  have c_kh_0 := hH.ext.cell kh_0
  have c_kh_1 := hH.ext.cell kh_1
  have c_kf_l := Nat.lt_of_lt_of_le kf_l hH.ext.size
  have c_kt_l := Nat.lt_of_lt_of_le kt_l hH.ext.size
  have c_kh_l := Nat.lt_of_lt_of_le kh_l hH.ext.size
  go_upto_region 6 with fail
  clear q0_0 q0_1 q0_2 q0_3 q0_4 l0_ c_kf_0 c_kf_1 c_kf_2 c_kt_0 c_kt_1 c_kt_2 c_kh_0 c_kh_1 c_kf_l c_kt_l c_kh_l
  have hB : Held wN (wn6.alloc (.cells #[.int .i64 tk, .int .i64 tp, .int .i64 tn, .slice aM m cM, .slice aP op.length cP] 29)) [aB (wN.heap.size) 29 [.int .i64 k, .int .i64 p, .int .i64 n, .slice aV m cV, .slice aO op.length cO], aTs (.slice aM m cM) cs2 (MN.map (tenOf dimOf)), aI (.slice aP op.length cP) op, aB (wn6.heap.size) 29 [.int .i64 tk, .int .i64 tp, .int .i64 tn, .slice aM m cM, .slice aP op.length cP]] := by
    have h := (hH.mores 1).addB 3 #[.int .i64 tk, .int .i64 tp, .int .i64 tn, .slice aM m cM, .slice aP op.length cP] 29
    exact h
  have hsz : (wn6.alloc (.cells #[.int .i64 tk, .int .i64 tp, .int .i64 tn, .slice aM m cM, .slice aP op.length cP] 29)).heap.size = wn6.heap.size + 1 := by simp
  generalize wn6.alloc (.cells #[.int .i64 tk, .int .i64 tp, .int .i64 tn, .slice aM m cM, .slice aP op.length cP] 29) = wn7 at hB hsz ⊢
  replace hH := hB; have HSZwn7 := Lib.hid hsz; clear hB hsz
  replace hH := hH.mores 3
  replace hH : Held wN wn7 [aB (wN.heap.size) 29 [.int .i64 k, .int .i64 p, .int .i64 n, .slice aV m cV, .slice aO op.length cO], aTs (.slice aM m cM) cs2 (MN.map (tenOf dimOf)), aI (.slice aP op.length cP) op, aB (wn6.heap.size) 29 [.int .i64 tk, .int .i64 tp, .int .i64 tn, .slice aM m cM, .slice aP op.length cP], emp, emp, emp] := hH
  refine wp_region_steps ?Fa (fun b t wx => Held wN wx [aB (wN.heap.size) 29 [.int .i64 k, .int .i64 p, .int .i64 n, .slice aV m cV, .slice aO op.length cO], aTs (.slice aM m cM) cs2 (MN.map (tenOf dimOf)), aI (.slice aP op.length cP) op, aB (wn6.heap.size) 29 [.int .i64 tk, .int .i64 tp, .int .i64 tn, .slice aM m cM, .slice aP op.length cP], (bif b 4 then aT (t 4) op (op.map dimOf) (flat RX) else emp), (bif b 5 then aT (tup0 (t 5)) op (op.map dimOf) (flat RX2) else emp), (bif b 10 then aB (blkOf (t 9)) 32 (partsOf (t 7)) else (bif b 9 then aB (blkOf (t 9)) 32 [.slice none 0 0, .slice none 0 0, .slice none 0 0] else emp))] ∧ (b 0 = true → t 0 = .agg #[.int .i64 k, .int .i64 p, .int .i64 n]) ∧ (b 1 = true → t 1 = .agg #[.int .i64 tk, .int .i64 tp, .int .i64 tn]) ∧ (b 2 = true → t 2 = .agg #[.int .i64 hk, .int .i64 ha]) ∧ (b 3 = true → t 3 = .agg #[.int .i64 k, .int .i64 p, .int .i64 n, .slice aV m cV, .slice aO op.length cO]) ∧ (b 4 = true → ∃ p1 n1 c1 p2 n2 c2 p3 n3 c3, t 4 = .agg #[.slice p1 n1 c1, .slice p2 n2 c2, .slice p3 n3 c3]) ∧ (b 5 = true → ∃ p1 n1 c1 p2 n2 c2 p3 n3 c3, t 5 = .tuple #[.agg #[.slice p1 n1 c1, .slice p2 n2 c2, .slice p3 n3 c3], .bool true]) ∧ (b 6 = true → t 6 = t 5) ∧ (b 7 = true → t 7 = tup0 (t 5)) ∧ (b 8 = true → t 8 = .bool true) ∧ (b 9 = true → ∃ q, t 9 = .pointer (some ⟨q, 0, none⟩)) ∧ (b 11 = true → t 11 = .bool true)) ?hFa (by kernel_rfl) (by kernel_rfl) ?hJa ?hSa ?hEa
  (case hFa => intro t; simp only [putAll, Act.put, List.setIfInBounds_toArray, List.set_cons_zero, List.set_cons_succ, Nat.reduceAdd, Nat.zero_add]; exact rfl)
  case hJa => exact ⟨hH.grow ((Ext.refl _).drew), fun h => absurd h Bool.false_ne_true, fun h => absurd h Bool.false_ne_true, fun h => absurd h Bool.false_ne_true, fun h => absurd h Bool.false_ne_true, fun h => absurd h Bool.false_ne_true, fun h => absurd h Bool.false_ne_true, fun h => absurd h Bool.false_ne_true, fun h => absurd h Bool.false_ne_true, fun h => absurd h Bool.false_ne_true, fun h => absurd h Bool.false_ne_true, fun h => absurd h Bool.false_ne_true⟩
  case hSa =>
    as_aux_lemma =>
      refine AllSteps.cons (j := 1) rfl (fun b t wx hJ hb hd hcl Kc hK => ?_) ?_
      · obtain ⟨hH, v0, v1, v2, v3, v4, v5, v6, v7, v8, v9, v11⟩ := hJ
        have c_kf_0 := hH.ext.cell kf_0
        have c_kf_1 := hH.ext.cell kf_1
        have c_kf_2 := hH.ext.cell kf_2
        have c_kt_0 := hH.ext.cell kt_0
        have c_kt_1 := hH.ext.cell kt_1
        have c_kt_2 := hH.ext.cell kt_2
        have c_kh_0 := hH.ext.cell kh_0
        have c_kh_1 := hH.ext.cell kh_1
        go_simp
        refine hK.out _ ?_ _ ?_ ?_; rotate_left 2
        · rfl
        exact ⟨hH, fun _ => rfl, v1, v2, v3, v4, v5, v6, v7, v8, v9, v11⟩
      refine AllSteps.cons (j := 2) rfl (fun b t wx hJ hb hd hcl Kc hK => ?_) ?_
      · obtain ⟨hH, v0, v1, v2, v3, v4, v5, v6, v7, v8, v9, v11⟩ := hJ
        have c_kf_0 := hH.ext.cell kf_0
        have c_kf_1 := hH.ext.cell kf_1
        have c_kf_2 := hH.ext.cell kf_2
        have c_kt_0 := hH.ext.cell kt_0
        have c_kt_1 := hH.ext.cell kt_1
        have c_kt_2 := hH.ext.cell kt_2
        have c_kh_0 := hH.ext.cell kh_0
        have c_kh_1 := hH.ext.cell kh_1
        go_simp
        refine hK.out _ ?_ _ ?_ ?_; rotate_left 2
        · rfl
        exact ⟨hH, v0, fun _ => rfl, v2, v3, v4, v5, v6, v7, v8, v9, v11⟩
      refine AllSteps.cons (j := 3) rfl (fun b t wx hJ hb hd hcl Kc hK => ?_) ?_
      · obtain ⟨hH, v0, v1, v2, v3, v4, v5, v6, v7, v8, v9, v11⟩ := hJ
        have c_kf_0 := hH.ext.cell kf_0
        have c_kf_1 := hH.ext.cell kf_1
        have c_kf_2 := hH.ext.cell kf_2
        have c_kt_0 := hH.ext.cell kt_0
        have c_kt_1 := hH.ext.cell kt_1
        have c_kt_2 := hH.ext.cell kt_2
        have c_kh_0 := hH.ext.cell kh_0
        have c_kh_1 := hH.ext.cell kh_1
        go_simp
        refine hK.out _ ?_ _ ?_ ?_; rotate_left 2
        · rfl
        exact ⟨hH, v0, v1, fun _ => rfl, v3, v4, v5, v6, v7, v8, v9, v11⟩
      refine AllSteps.cons (j := 4) rfl (fun b t wx hJ hb hd hcl Kc hK => ?_) ?_
      · obtain ⟨hH, v0, v1, v2, v3, v4, v5, v6, v7, v8, v9, v11⟩ := hJ
        have c_kf_0 := hH.ext.cell kf_0
        have c_kf_1 := hH.ext.cell kf_1
        have c_kf_2 := hH.ext.cell kf_2
        have c_kt_0 := hH.ext.cell kt_0
        have c_kt_1 := hH.ext.cell kt_1
        have c_kt_2 := hH.ext.cell kt_2
        have c_kh_0 := hH.ext.cell kh_0
        have c_kh_1 := hH.ext.cell kh_1
        have q0_0 := (hH.blk (k := 0) rfl).cell (j := 0) rfl
        have q0_1 := (hH.blk (k := 0) rfl).cell (j := 1) rfl
        have q0_2 := (hH.blk (k := 0) rfl).cell (j := 2) rfl
        have q0_3 := (hH.blk (k := 0) rfl).cell (j := 3) rfl
        have q0_4 := (hH.blk (k := 0) rfl).cell (j := 4) rfl
        go_simp
        refine hK.out _ ?_ _ ?_ ?_; rotate_left 2
        · rfl
        exact ⟨hH, v0, v1, v2, fun _ => rfl, v4, v5, v6, v7, v8, v9, v11⟩
      refine AllSteps.cons (j := 5) rfl (fun b t wx hJ hb hd hcl Kc hK => ?_) ?_
      · obtain ⟨hH, v0, v1, v2, v3, v4, v5, v6, v7, v8, v9, v11⟩ := hJ
        have d3 : b 3 = true := hd.out 3 (by kernel_rfl)
        have r3 := v3 d3
        have hN := hH; (try simp only [hb, d3, cond_true, cond_false] at hN)
        go_simp
        go_at_call 37
        refine (worth_any HR.out HN.out _ _ _ (hT.ext hH.ext) (hO.ext hH.ext)).mono ?_; rintro e4 w4 ⟨v4, rfl, o4, h4⟩
        rw [HRX.out] at o4
        obtain ⟨p1, y1, c1, p2, y2, c2, p3, y3, c3, rfl⟩ := o4.shape
        (try go_simp)
        refine hK.out _ ?_ _ ?_ ?_; rotate_left 2
        · (try simp only [r3]); rfl
        exact ⟨by have hX := hN.addT 4 h4 o4 (Nat.le_refl _); (try simp only [List.set_cons_zero, List.set_cons_succ] at hX); simpa only [updB, updV, blkOf_mk, tup0_mk, partsOf3, Nat.reduceBEq, cond_true, cond_false, hb, d3, r3] using hX, v0, v1, v2, v3, fun _ => ⟨_, _, _, _, _, _, _, _, _, rfl⟩, v5, v6, v7, v8, v9, v11⟩
      refine AllSteps.cons (j := 6) rfl (fun b t wx hJ hb hd hcl Kc hK => ?_) ?_
      · obtain ⟨hH, v0, v1, v2, v3, v4, v5, v6, v7, v8, v9, v11⟩ := hJ
        have d0 : b 0 = true := hd.out 0 (by kernel_rfl)
        have d1 : b 1 = true := hd.out 1 (by kernel_rfl)
        have d2 : b 2 = true := hd.out 2 (by kernel_rfl)
        have d4 : b 4 = true := hd.out 4 (by kernel_rfl)
        have n6 : b 6 = false := Bool.eq_false_iff.2 fun h => absurd (hcl.out 6 5 (by kernel_rfl) (h)) (by rw [hb]; exact Bool.false_ne_true)
        have n7 : b 7 = false := Bool.eq_false_iff.2 fun h => absurd (hcl.out 6 5 (by kernel_rfl) (hcl.out 7 6 (by kernel_rfl) (h))) (by rw [hb]; exact Bool.false_ne_true)
        have r0 := v0 d0
        have r1 := v1 d1
        have r2 := v2 d2
        have r4 := v4 d4
        obtain ⟨p1_4, n1_4, c1_4, p2_4, n2_4, c2_4, p3_4, n3_4, c3_4, r4⟩ := r4
        have hN := hH; (try simp only [hb, d0, d1, d2, d4, n6, n7, cond_true, cond_false] at hN)
        rw [r4] at hN -- d4
        have hT4 := hN.tens (k := 4) rfl
        go_simp
        go_at_call 36
        refine (mapTensor_any H HH.out HTI.out _ _ hT4).mono ?_; rintro e5 w5 ⟨vc, rfl, oc, hc⟩
        rw [HRX2.out] at oc
        obtain ⟨p1, y1, c1, p2, y2, c2, p3, y3, c3, rfl⟩ := oc.shape
        (try go_simp)
        refine hK.out _ ?_ _ ?_ ?_; rotate_left 2
        · (try simp only [r0, r1, r2, r4]); rfl
        exact ⟨by have hX := hN.addT 5 hc oc (Nat.le_refl _); (try simp only [List.set_cons_zero, List.set_cons_succ] at hX); simpa only [updB, updV, blkOf_mk, tup0_mk, partsOf3, Nat.reduceBEq, cond_true, cond_false, hb, d0, d1, d2, d4, n6, n7, r0, r1, r2, r4] using hX, v0, v1, v2, v3, v4, fun _ => ⟨_, _, _, _, _, _, _, _, _, rfl⟩, fun h => absurd (show b 6 = true from h) (by rw [n6]; exact Bool.false_ne_true), fun h => absurd (show b 7 = true from h) (by rw [n7]; exact Bool.false_ne_true), v8, v9, v11⟩
      refine AllSteps.cons (j := 7) rfl (fun b t wx hJ hb hd hcl Kc hK => ?_) ?_
      · obtain ⟨hH, v0, v1, v2, v3, v4, v5, v6, v7, v8, v9, v11⟩ := hJ
        have d5 : b 5 = true := hd.out 5 (by kernel_rfl)
        have r5 := v5 d5
        obtain ⟨p1_5, n1_5, c1_5, p2_5, n2_5, c2_5, p3_5, n3_5, c3_5, r5⟩ := r5
        have c_kf_0 := hH.ext.cell kf_0
        have c_kf_1 := hH.ext.cell kf_1
        have c_kf_2 := hH.ext.cell kf_2
        have c_kt_0 := hH.ext.cell kt_0
        have c_kt_1 := hH.ext.cell kt_1
        have c_kt_2 := hH.ext.cell kt_2
        have c_kh_0 := hH.ext.cell kh_0
        have c_kh_1 := hH.ext.cell kh_1
        go_simp
        refine hK.out _ ?_ _ ?_ ?_; rotate_left 2
        · (try simp only [r5]); rfl
        exact ⟨hH, v0, v1, v2, v3, v4, v5, fun _ => (by first | rfl | exact r5.symm), v7, v8, v9, v11⟩
      refine AllSteps.cons (j := 8) rfl (fun b t wx hJ hb hd hcl Kc hK => ?_) ?_
      · obtain ⟨hH, v0, v1, v2, v3, v4, v5, v6, v7, v8, v9, v11⟩ := hJ
        have d5 : b 5 = true := hcl.out 6 5 (by kernel_rfl) (hd.out 6 (by kernel_rfl))
        have d6 : b 6 = true := hd.out 6 (by kernel_rfl)
        have n10 : b 10 = false := Bool.eq_false_iff.2 fun h => absurd (hcl.out 10 7 (by kernel_rfl) (h)) (by rw [hb]; exact Bool.false_ne_true)
        have r5 := v5 d5
        have r6 := v6 d6
        obtain ⟨p1_5, n1_5, c1_5, p2_5, n2_5, c2_5, p3_5, n3_5, c3_5, r5⟩ := r5
        have hN := hH; (try simp only [hb, d5, d6, n10, cond_true, cond_false] at hN)
        have e5 := r5 -- d5
        go_simp
        refine hK.out _ ?_ _ ?_ ?_; rotate_left 2
        · (try simp only [r5, r6]); rfl
        exact ⟨by have hX := hN; (try simp only [List.set_cons_zero, List.set_cons_succ] at hX); simpa only [updB, updV, blkOf_mk, tup0_mk, partsOf3, Nat.reduceBEq, cond_true, cond_false, hb, d5, d6, n10, r5, r6] using hX, v0, v1, v2, v3, v4, v5, v6, fun _ => (by show _ = tup0 (t 5); rw [r5]; rfl), v8, v9, v11⟩
      refine AllSteps.cons (j := 9) rfl (fun b t wx hJ hb hd hcl Kc hK => ?_) ?_
      · obtain ⟨hH, v0, v1, v2, v3, v4, v5, v6, v7, v8, v9, v11⟩ := hJ
        have d5 : b 5 = true := hcl.out 6 5 (by kernel_rfl) (hd.out 6 (by kernel_rfl))
        have d6 : b 6 = true := hd.out 6 (by kernel_rfl)
        have r5 := v5 d5
        have r6 := v6 d6
        obtain ⟨p1_5, n1_5, c1_5, p2_5, n2_5, c2_5, p3_5, n3_5, c3_5, r5⟩ := r5
        have e5 := r5 -- d5
        go_simp
        refine hK.out _ ?_ _ ?_ ?_; rotate_left 2
        · (try simp only [r5, r6]); rfl
        exact ⟨hH, v0, v1, v2, v3, v4, v5, v6, v7, fun _ => rfl, v9, v11⟩
      refine AllSteps.cons (j := 10) rfl (fun b t wx hJ hb hd hcl Kc hK => ?_) ?_
      · obtain ⟨hH, v0, v1, v2, v3, v4, v5, v6, v7, v8, v9, v11⟩ := hJ
        have n10 : b 10 = false := Bool.eq_false_iff.2 fun h => absurd (hcl.out 10 9 (by kernel_rfl) (h)) (by rw [hb]; exact Bool.false_ne_true)
        have hN := hH; (try simp only [hb, n10, cond_true, cond_false] at hN)
        go_simp
        refine hK.out _ ?_ _ ?_ ?_; rotate_left 2
        · rfl
        exact ⟨by have hX := hN.addB 6 #[.slice none 0 0, .slice none 0 0, .slice none 0 0] 32; (try simp only [List.set_cons_zero, List.set_cons_succ] at hX); simpa only [updB, updV, blkOf_mk, tup0_mk, partsOf3, Nat.reduceBEq, cond_true, cond_false, hb, n10] using hX, v0, v1, v2, v3, v4, v5, v6, v7, v8, fun _ => ⟨_, rfl⟩, v11⟩
      refine AllSteps.cons (j := 11) rfl (fun b t wx hJ hb hd hcl Kc hK => ?_) ?_
      · obtain ⟨hH, v0, v1, v2, v3, v4, v5, v6, v7, v8, v9, v11⟩ := hJ
        have d0 : b 0 = true := hd.out 0 (by kernel_rfl)
        have d1 : b 1 = true := hd.out 1 (by kernel_rfl)
        have d2 : b 2 = true := hd.out 2 (by kernel_rfl)
        have d3 : b 3 = true := hd.out 3 (by kernel_rfl)
        have d4 : b 4 = true := hd.out 4 (by kernel_rfl)
        have d5 : b 5 = true := hd.out 5 (by kernel_rfl)
        have d6 : b 6 = true := hd.out 6 (by kernel_rfl)
        have d7 : b 7 = true := hd.out 7 (by kernel_rfl)
        have d9 : b 9 = true := hd.out 9 (by kernel_rfl)
        have r0 := v0 d0
        have r1 := v1 d1
        have r2 := v2 d2
        have r3 := v3 d3
        have r4 := v4 d4
        have r5 := v5 d5
        have r6 := v6 d6
        have r7 := v7 d7
        have r9 := v9 d9
        obtain ⟨p1_4, n1_4, c1_4, p2_4, n2_4, c2_4, p3_4, n3_4, c3_4, r4⟩ := r4
        obtain ⟨p1_5, n1_5, c1_5, p2_5, n2_5, c2_5, p3_5, n3_5, c3_5, r5⟩ := r5
        obtain ⟨q_9, r9⟩ := r9
        have hN := hH; (try simp only [hb, d0, d1, d2, d3, d4, d5, d6, d7, d9, cond_true, cond_false] at hN)
        rw [r5, tup0_mk] at r7 -- d5
        simp only [r9, r7, blkOf_mk, tup0_mk, partsOf3] at hN
        have B := hN.blk (k := 6) rfl
        have f0 := B.free 0; have z0 := B.cell (j := 0) rfl
        have f1 := B.free 1; have z1 := B.cell (j := 1) rfl
        have f2 := B.free 2; have z2 := B.cell (j := 2) rfl
        have lB := B.lt; have hmk0 := @tup0_mk
        go_simp
        refine hK.out _ undef _ ?_ ?_; rotate_left 1
        · (try simp only [r0, r1, r2, r3, r4, r5, r6, r7, r9]); rfl
        exact ⟨by have hX := hN.setB3' (k := 6) rfl (.slice p1_5 n1_5 c1_5) (.slice p2_5 n2_5 c2_5) (.slice p3_5 n3_5 c3_5); (try simp only [List.set_cons_zero, List.set_cons_succ] at hX); simpa only [updB, updV, blkOf_mk, tup0_mk, partsOf3, Nat.reduceBEq, cond_true, cond_false, hb, d0, d1, d2, d3, d4, d5, d6, d7, d9, r0, r1, r2, r3, r4, r5, r6, r7, r9] using hX, v0, v1, v2, v3, v4, v5, v6, v7, v8, v9, v11⟩
      refine AllSteps.cons (j := 12) rfl (fun b t wx hJ hb hd hcl Kc hK => ?_) ?_
      · obtain ⟨hH, v0, v1, v2, v3, v4, v5, v6, v7, v8, v9, v11⟩ := hJ
        have d0 : b 0 = true := hd.out 0 (by kernel_rfl)
        have d1 : b 1 = true := hd.out 1 (by kernel_rfl)
        have d2 : b 2 = true := hd.out 2 (by kernel_rfl)
        have d3 : b 3 = true := hd.out 3 (by kernel_rfl)
        have d4 : b 4 = true := hd.out 4 (by kernel_rfl)
        have d5 : b 5 = true := hd.out 5 (by kernel_rfl)
        have d6 : b 6 = true := hd.out 6 (by kernel_rfl)
        have d7 : b 7 = true := hd.out 7 (by kernel_rfl)
        have d8 : b 8 = true := hd.out 8 (by kernel_rfl)
        have d9 : b 9 = true := hd.out 9 (by kernel_rfl)
        have d10 : b 10 = true := hd.out 10 (by kernel_rfl)
        have r0 := v0 d0
        have r1 := v1 d1
        have r2 := v2 d2
        have r3 := v3 d3
        have r4 := v4 d4
        have r5 := v5 d5
        have r6 := v6 d6
        have r7 := v7 d7
        have r8 := v8 d8
        have r9 := v9 d9
        obtain ⟨p1_4, n1_4, c1_4, p2_4, n2_4, c2_4, p3_4, n3_4, c3_4, r4⟩ := r4
        obtain ⟨p1_5, n1_5, c1_5, p2_5, n2_5, c2_5, p3_5, n3_5, c3_5, r5⟩ := r5
        obtain ⟨q_9, r9⟩ := r9
        have c_kf_0 := hH.ext.cell kf_0
        have c_kf_1 := hH.ext.cell kf_1
        have c_kf_2 := hH.ext.cell kf_2
        have c_kt_0 := hH.ext.cell kt_0
        have c_kt_1 := hH.ext.cell kt_1
        have c_kt_2 := hH.ext.cell kt_2
        have c_kh_0 := hH.ext.cell kh_0
        have c_kh_1 := hH.ext.cell kh_1
        go_simp
        refine hK.out _ ?_ _ ?_ ?_; rotate_left 2
        · (try simp only [r0, r1, r2, r3, r4, r5, r6, r7, r8, r9]); rfl
        exact ⟨hH, v0, v1, v2, v3, v4, v5, v6, v7, v8, v9, fun _ => rfl⟩
      exact AllSteps.nil
  case hEa =>
    intro b t wa hJ hall
    obtain ⟨hHa, v0, v1, v2, v3, v4, v5, v6, v7, v8, v9, v11⟩ := hJ
    have a0 : b 0 = true := hall 0 (by decide)
    have a1 : b 1 = true := hall 1 (by decide)
    have a2 : b 2 = true := hall 2 (by decide)
    have a3 : b 3 = true := hall 3 (by decide)
    have a4 : b 4 = true := hall 4 (by decide)
    have a5 : b 5 = true := hall 5 (by decide)
    have a6 : b 6 = true := hall 6 (by decide)
    have a7 : b 7 = true := hall 7 (by decide)
    have a8 : b 8 = true := hall 8 (by decide)
    have a9 : b 9 = true := hall 9 (by decide)
    have a10 : b 10 = true := hall 10 (by decide)
    have a11 : b 11 = true := hall 11 (by decide)
    (try simp only [a0, a1, a2, a3, a4, a5, a6, a7, a8, a9, a10, a11, cond_true] at hHa)
    replace v0 := v0 a0
    replace v1 := v1 a1
    replace v2 := v2 a2
    replace v3 := v3 a3
    replace v4 := v4 a4
    replace v5 := v5 a5
    replace v6 := v6 a6
    replace v7 := v7 a7
    replace v8 := v8 a8
    replace v9 := v9 a9
    replace v11 := v11 a11
    clear hall a0 a1 a2 a3 a4 a5 a6 a7 a8 a9 a10 a11
    generalize t 11 = x11 at hHa v11 ⊢
    generalize t 9 = x9 at hHa v9 ⊢
    generalize t 8 = x8 at hHa v8 ⊢
    generalize t 7 = x7 at hHa v7 ⊢
    generalize t 6 = x6 at hHa v6 ⊢
    generalize t 5 = x5 at hHa v5 v6 v7 ⊢
    generalize t 4 = x4 at hHa v4 ⊢
    generalize t 3 = x3 at hHa v3 ⊢
    generalize t 2 = x2 at hHa v2 ⊢
    generalize t 1 = x1 at hHa v1 ⊢
    generalize t 0 = x0 at hHa v0 ⊢
    subst v0
    subst v1
    subst v2
    subst v3
    obtain ⟨p1a4, n1a4, c1a4, p2a4, n2a4, c2a4, p3a4, n3a4, c3a4, rfl⟩ := v4
    obtain ⟨p1a5, n1a5, c1a5, p2a5, n2a5, c2a5, p3a5, n3a5, c3a5, rfl⟩ := v5
    subst v6
    subst v7
    subst v8
    obtain ⟨qa9, rfl⟩ := v9
    subst v11
    simp only [blkOf_mk, tup0_mk, partsOf3] at hHa
    clear b
    replace hH := hHa; clear hHa
    replace hH : Held wN wa [aB (wN.heap.size) 29 [.int .i64 k, .int .i64 p, .int .i64 n, .slice aV m cV, .slice aO op.length cO], aTs (.slice aM m cM) cs2 (MN.map (tenOf dimOf)), aI (.slice aP op.length cP) op, aB (wn6.heap.size) 29 [.int .i64 tk, .int .i64 tp, .int .i64 tn, .slice aM m cM, .slice aP op.length cP], aT (.agg #[.slice p1a4 n1a4 c1a4, .slice p2a4 n2a4 c2a4, .slice p3a4 n3a4 c3a4]) op (op.map dimOf) (flat RX), aT (.agg #[.slice p1a5 n1a5 c1a5, .slice p2a5 n2a5 c2a5, .slice p3a5 n3a5 c3a5]) op (op.map dimOf) (flat RX2), aB qa9 32 [.slice p1a5 n1a5 c1a5, .slice p2a5 n2a5 c2a5, .slice p3a5 n3a5 c3a5]] := hH
    have q0_0 := (hH.blk (k := 0) rfl).cell (j := 0) rfl
    have q0_1 := (hH.blk (k := 0) rfl).cell (j := 1) rfl
    have q0_2 := (hH.blk (k := 0) rfl).cell (j := 2) rfl
    have q0_3 := (hH.blk (k := 0) rfl).cell (j := 3) rfl
    have q0_4 := (hH.blk (k := 0) rfl).cell (j := 4) rfl
    have l0_ := (hH.blk (k := 0) rfl).lt
    have q3_0 := (hH.blk (k := 3) rfl).cell (j := 0) rfl
    have q3_1 := (hH.blk (k := 3) rfl).cell (j := 1) rfl
    have q3_2 := (hH.blk (k := 3) rfl).cell (j := 2) rfl
    have q3_3 := (hH.blk (k := 3) rfl).cell (j := 3) rfl
    have q3_4 := (hH.blk (k := 3) rfl).cell (j := 4) rfl
    have l3_ := (hH.blk (k := 3) rfl).lt
    have q6_0 := (hH.blk (k := 6) rfl).cell (j := 0) rfl
    have q6_1 := (hH.blk (k := 6) rfl).cell (j := 1) rfl
    have q6_2 := (hH.blk (k := 6) rfl).cell (j := 2) rfl
    have l6_ := (hH.blk (k := 6) rfl).lt
    have c_kf_0 := hH.ext.cell kf_0
    have c_kf_1 := hH.ext.cell kf_1
    have c_kf_2 := hH.ext.cell kf_2
    have c_kt_0 := hH.ext.cell kt_0
    have c_kt_1 := hH.ext.cell kt_1
    have c_kt_2 := hH.ext.cell kt_2
    have c_kh_0 := hH.ext.cell kh_0
    have c_kh_1 := hH.ext.cell kh_1
    have c_kf_l := Nat.lt_of_lt_of_le kf_l hH.ext.size
    have c_kt_l := Nat.lt_of_lt_of_le kt_l hH.ext.size
    have c_kh_l := Nat.lt_of_lt_of_le kh_l hH.ext.size
    go_wp2_with fail
    clear q0_0 q0_1 q0_2 q0_3 q0_4 l0_ q3_0 q3_1 q3_2 q3_3 q3_4 l3_ q6_0 q6_1 q6_2 l6_ c_kf_0 c_kf_1 c_kf_2 c_kt_0 c_kt_1 c_kt_2 c_kh_0 c_kh_1 c_kf_l c_kt_l c_kh_l
    refine (networkValue_any HR2.out HMI.out _ _ _ (by have h := hH.tensS (k := 1) rfl; exact h) (hH.ints (k := 2) rfl)).mono ?_; rintro ewn8 wn8 ⟨u, rfl, ou, hwn8⟩
    rw [HMX.out] at ou
    obtain ⟨e1, m1, f1, e2, m2, f2, e3, m3, f3, rfl⟩ := ou.shape
    replace hH : Held wN wn8 [aB (wN.heap.size) 29 [.int .i64 k, .int .i64 p, .int .i64 n, .slice aV m cV, .slice aO op.length cO], aTs (.slice aM m cM) cs2 (MN.map (tenOf dimOf)), aI (.slice aP op.length cP) op, aB (wn6.heap.size) 29 [.int .i64 tk, .int .i64 tp, .int .i64 tn, .slice aM m cM, .slice aP op.length cP], aT (.agg #[.slice p1a4 n1a4 c1a4, .slice p2a4 n2a4 c2a4, .slice p3a4 n3a4 c3a4]) op (op.map dimOf) (flat RX), aT (.agg #[.slice p1a5 n1a5 c1a5, .slice p2a5 n2a5 c2a5, .slice p3a5 n3a5 c3a5]) op (op.map dimOf) (flat RX2), aB qa9 32 [.slice p1a5 n1a5 c1a5, .slice p2a5 n2a5 c2a5, .slice p3a5 n3a5 c3a5], aT (.agg #[.slice e1 m1 f1, .slice e2 m2 f2, .slice e3 m3 f3]) op (op.map dimOf) (flat RX2)] := (hH.mores 1).addT 7 hwn8 ou (Nat.le_refl _)
    clear hwn8
    have q0_0 := (hH.blk (k := 0) rfl).cell (j := 0) rfl
    have q0_1 := (hH.blk (k := 0) rfl).cell (j := 1) rfl
    have q0_2 := (hH.blk (k := 0) rfl).cell (j := 2) rfl
    have q0_3 := (hH.blk (k := 0) rfl).cell (j := 3) rfl
    have q0_4 := (hH.blk (k := 0) rfl).cell (j := 4) rfl
    have l0_ := (hH.blk (k := 0) rfl).lt
    have q3_0 := (hH.blk (k := 3) rfl).cell (j := 0) rfl
    have q3_1 := (hH.blk (k := 3) rfl).cell (j := 1) rfl
    have q3_2 := (hH.blk (k := 3) rfl).cell (j := 2) rfl
    have q3_3 := (hH.blk (k := 3) rfl).cell (j := 3) rfl
    have q3_4 := (hH.blk (k := 3) rfl).cell (j := 4) rfl
    have l3_ := (hH.blk (k := 3) rfl).lt
    have q6_0 := (hH.blk (k := 6) rfl).cell (j := 0) rfl
    have q6_1 := (hH.blk (k := 6) rfl).cell (j := 1) rfl
    have q6_2 := (hH.blk (k := 6) rfl).cell (j := 2) rfl
    have l6_ := (hH.blk (k := 6) rfl).lt
    have c_kf_0 := hH.ext.cell kf_0
    have c_kf_1 := hH.ext.cell kf_1
    have c_kf_2 := hH.ext.cell kf_2
    have c_kt_0 := hH.ext.cell kt_0
    have c_kt_1 := hH.ext.cell kt_1
    have c_kt_2 := hH.ext.cell kt_2
    have c_kh_0 := hH.ext.cell kh_0
    have c_kh_1 := hH.ext.cell kh_1
    have c_kf_l := Nat.lt_of_lt_of_le kf_l hH.ext.size
    have c_kt_l := Nat.lt_of_lt_of_le kt_l hH.ext.size
    have c_kh_l := Nat.lt_of_lt_of_le kh_l hH.ext.size
    go_upto_region 8 with fail
    clear q0_0 q0_1 q0_2 q0_3 q0_4 l0_ q3_0 q3_1 q3_2 q3_3 q3_4 l3_ q6_0 q6_1 q6_2 l6_ c_kf_0 c_kf_1 c_kf_2 c_kt_0 c_kt_1 c_kt_2 c_kh_0 c_kh_1 c_kf_l c_kt_l c_kh_l
    have hB : Held wN (wn8.alloc (.cells #[.slice e1 m1 f1, .slice e2 m2 f2, .slice e3 m3 f3] 32)) [aB (wN.heap.size) 29 [.int .i64 k, .int .i64 p, .int .i64 n, .slice aV m cV, .slice aO op.length cO], aTs (.slice aM m cM) cs2 (MN.map (tenOf dimOf)), aI (.slice aP op.length cP) op, aB (wn6.heap.size) 29 [.int .i64 tk, .int .i64 tp, .int .i64 tn, .slice aM m cM, .slice aP op.length cP], aT (.agg #[.slice p1a4 n1a4 c1a4, .slice p2a4 n2a4 c2a4, .slice p3a4 n3a4 c3a4]) op (op.map dimOf) (flat RX), aT (.agg #[.slice p1a5 n1a5 c1a5, .slice p2a5 n2a5 c2a5, .slice p3a5 n3a5 c3a5]) op (op.map dimOf) (flat RX2), aB qa9 32 [.slice p1a5 n1a5 c1a5, .slice p2a5 n2a5 c2a5, .slice p3a5 n3a5 c3a5], aT (.agg #[.slice e1 m1 f1, .slice e2 m2 f2, .slice e3 m3 f3]) op (op.map dimOf) (flat RX2), aB (wn8.heap.size) 32 [.slice e1 m1 f1, .slice e2 m2 f2, .slice e3 m3 f3]] := by
      have h := (hH.mores 1).addB 8 #[.slice e1 m1 f1, .slice e2 m2 f2, .slice e3 m3 f3] 32
      exact h
    have hsz : (wn8.alloc (.cells #[.slice e1 m1 f1, .slice e2 m2 f2, .slice e3 m3 f3] 32)).heap.size = wn8.heap.size + 1 := by simp
    generalize wn8.alloc (.cells #[.slice e1 m1 f1, .slice e2 m2 f2, .slice e3 m3 f3] 32) = wn9 at hB hsz ⊢
    replace hH := hB; have HSZwn9 := Lib.hid hsz; clear hB hsz
    have q0_0 := (hH.blk (k := 0) rfl).cell (j := 0) rfl
    have q0_1 := (hH.blk (k := 0) rfl).cell (j := 1) rfl
    have q0_2 := (hH.blk (k := 0) rfl).cell (j := 2) rfl
    have q0_3 := (hH.blk (k := 0) rfl).cell (j := 3) rfl
    have q0_4 := (hH.blk (k := 0) rfl).cell (j := 4) rfl
    have l0_ := (hH.blk (k := 0) rfl).lt
    have q3_0 := (hH.blk (k := 3) rfl).cell (j := 0) rfl
    have q3_1 := (hH.blk (k := 3) rfl).cell (j := 1) rfl
    have q3_2 := (hH.blk (k := 3) rfl).cell (j := 2) rfl
    have q3_3 := (hH.blk (k := 3) rfl).cell (j := 3) rfl
    have q3_4 := (hH.blk (k := 3) rfl).cell (j := 4) rfl
    have l3_ := (hH.blk (k := 3) rfl).lt
    have q6_0 := (hH.blk (k := 6) rfl).cell (j := 0) rfl
    have q6_1 := (hH.blk (k := 6) rfl).cell (j := 1) rfl
    have q6_2 := (hH.blk (k := 6) rfl).cell (j := 2) rfl
    have l6_ := (hH.blk (k := 6) rfl).lt
    have q8_0 := (hH.blk (k := 8) rfl).cell (j := 0) rfl
    have q8_1 := (hH.blk (k := 8) rfl).cell (j := 1) rfl
    have q8_2 := (hH.blk (k := 8) rfl).cell (j := 2) rfl
    have l8_ := (hH.blk (k := 8) rfl).lt
    have c_kf_0 := hH.ext.cell kf_0
    have c_kf_1 := hH.ext.cell kf_1
    have c_kf_2 := hH.ext.cell kf_2
    have c_kt_0 := hH.ext.cell kt_0
    have c_kt_1 := hH.ext.cell kt_1
    have c_kt_2 := hH.ext.cell kt_2
    have c_kh_0 := hH.ext.cell kh_0
    have c_kh_1 := hH.ext.cell kh_1
    have c_kf_l := Nat.lt_of_lt_of_le kf_l hH.ext.size
    have c_kt_l := Nat.lt_of_lt_of_le kt_l hH.ext.size
    have c_kh_l := Nat.lt_of_lt_of_le kh_l hH.ext.size
    go_wp2_with fail
    clear q0_0 q0_1 q0_2 q0_3 q0_4 l0_ q3_0 q3_1 q3_2 q3_3 q3_4 l3_ q6_0 q6_1 q6_2 l6_ q8_0 q8_1 q8_2 l8_ c_kf_0 c_kf_1 c_kf_2 c_kt_0 c_kt_1 c_kt_2 c_kh_0 c_kh_1 c_kf_l c_kt_l c_kh_l
    refine (same_same _ _ _ _ _ _ _ _ _ (hH.tens (k := 7) rfl) (hH.tens (k := 5) rfl) rfl rfl rfl).mono ?_; rintro ewn10 wn10 ⟨rfl, hwn10⟩
    replace hH : Held wN wn10 [aB (wN.heap.size) 29 [.int .i64 k, .int .i64 p, .int .i64 n, .slice aV m cV, .slice aO op.length cO], aTs (.slice aM m cM) cs2 (MN.map (tenOf dimOf)), aI (.slice aP op.length cP) op, aB (wn6.heap.size) 29 [.int .i64 tk, .int .i64 tp, .int .i64 tn, .slice aM m cM, .slice aP op.length cP], aT (.agg #[.slice p1a4 n1a4 c1a4, .slice p2a4 n2a4 c2a4, .slice p3a4 n3a4 c3a4]) op (op.map dimOf) (flat RX), aT (.agg #[.slice p1a5 n1a5 c1a5, .slice p2a5 n2a5 c2a5, .slice p3a5 n3a5 c3a5]) op (op.map dimOf) (flat RX2), aB qa9 32 [.slice p1a5 n1a5 c1a5, .slice p2a5 n2a5 c2a5, .slice p3a5 n3a5 c3a5], aT (.agg #[.slice e1 m1 f1, .slice e2 m2 f2, .slice e3 m3 f3]) op (op.map dimOf) (flat RX2), aB (wn8.heap.size) 32 [.slice e1 m1 f1, .slice e2 m2 f2, .slice e3 m3 f3]] := hH.grow hwn10
    clear hwn10
    have HE := Lib.hid (E0.trans hH.ext); clear hH
    go_wp2
    go_ret
    exact ⟨rfl, HE.out⟩
end Go.Proofs.Ytpegckmagiaggaa
