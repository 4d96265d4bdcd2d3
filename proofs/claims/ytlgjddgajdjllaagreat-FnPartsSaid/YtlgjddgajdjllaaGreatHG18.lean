/- Texts of one kind, merged by program. -/
import Derived.Test.YtlgjddgajdjllaaGreatHPartN
import Derived.Test.YtlgjddgajdjllaaGreatHNetSX
/- Contract of the program, of a valid order: the value of the network. -/
set_option linter.unusedSimpArgs false
set_option linter.unusedVariables false
set_option maxRecDepth 100000
set_option maxHeartbeats 4000000
namespace Go.Proofs.YtlgjddgajdjllaaGreat
open Go.RowKit
theorem contract_net_any {k p n : Int} (hr : ringOk k p n = true) {dm : Int → Int} {U : List Int} {ts : List (NT k p n)} {op : List Int} (hN : IsN k p n dm U ts op) (tv ov : Value) (w : World) (hT : TensS w tv (ts.map (tenOf dm))) (hO : IntS w ov op) {os : List (Int × Int)} (hok : okO (numL ts.length) (ts.length : Int) os) (hol : os.length = ts.length - 1) (vo : Value) (hVo : StepsS w vo os) :
 Calls Tryz.prog 11 #[.agg #[.int .i64 k, .int .i64 p, .int .i64 n, tv, ov], vo] w fun e w' => ∃ u, e = .returned (.tuple #[u, .bool true]) ∧ OwnT w' w.heap.size u op (op.map dm) (flat (netXs hr dm ts op)) ∧ Ext w w' := by
 obtain ⟨m, aV, cV, aO, cO, rfl, rfl, hcT1, hcT2, hcO1, hcO2, hm12, hop12, HM, HD3, hTl⟩ := net_in hN hT hO
 have hT0 := hT; have hO0 := hO; have HR := Lib.hid hr; have HN := Lib.hid hN; clear hN; try rw [HM.out]
 obtain ⟨RX, hRX⟩ : ∃ q, netXs hr dm ts op = q := ⟨_, rfl⟩
 rw [hRX]
 have HRX := Lib.hid hRX; clear hRX
 have hm2 := HM
 obtain ⟨aQ, cQ, rfl, hcq1, hcq2⟩ := hVo.val
 have HOK := Lib.hid hok; have HOL := Lib.hid hol
 have hol2 : os.length ≤ m := by rw [← hm2.out]; omega
 clear hok hol
 go_enter Tryz.func11, Tryz.ntmps11
 go_upto_region 1 with fail
 have hH : Held w w [] := Held.new (Ext.refl w) 0
 obtain ⟨hB, hsz⟩ := hH.laid #[.int .i64 k, .int .i64 p, .int .i64 n, .slice aV m cV, .slice aO op.length cO] 29
 generalize w.alloc (.cells #[.int .i64 k, .int .i64 p, .int .i64 n, .slice aV m cV, .slice aO op.length cO] 29) = wn1 at hB hsz ⊢
 replace hH : Held w wn1 [nB w.heap.size k p n aV m cV aO op.length cO] := hB
 have HSZwn1 := Lib.hid (show wn1.heap.size = w.heap.size + 1 by rw [hsz]); clear hB hsz
 obtain ⟨hB, hsz⟩ := hH.laid #[.slice none 0 0, .slice none 0 0, .slice none 0 0] 35
 generalize wn1.alloc (.cells #[.slice none 0 0, .slice none 0 0, .slice none 0 0] 35) = wn2 at hB hsz ⊢
 replace hH : Held w wn2 [nB w.heap.size k p n aV m cV aO op.length cO, tB (w.heap.size + 1) none 0 0 none 0 0 none 0 0] := by rw [HSZwn1.out] at hB; exact hB
 have HSZwn2 := Lib.hid (show wn2.heap.size = w.heap.size + 1 + 1 by rw [hsz, HSZwn1.out]); clear hB hsz
 obtain ⟨q0_0, q0_1, q0_2, q0_3, q0_4, l0_⟩ := hH.c5 0 rfl; obtain ⟨q1_0, q1_1, q1_2, l1_⟩ := hH.c3 1 rfl
 go_wp2_with fail
 clear q0_0 q0_1 q0_2 q0_3 q0_4 l0_ q1_0 q1_1 q1_2 l1_
 refine (partialNetwork_any HR.out HN.out _ _ _ (hT0.ext hH.ext) (hO0.ext hH.ext) HOK.out HOL.out _ (hVo.ext hH.ext) os.length (Nat.le_refl _)).mono ?_; rintro ewn3 wn3 ⟨tv2, ov2, ns, tj, rfl, hA, hTT, hOO, hwn3⟩
 have HA := Lib.hid hA
 obtain ⟨aK, cK, rfl, hct1, hct2⟩ := hTT.val
 obtain ⟨aP, cP, rfl, hcp1, hcp2⟩ := hOO.val
 obtain ⟨mj, hmj⟩ : ∃ q, tj.length = q := ⟨_, rfl⟩
 rw [List.length_map, hmj] at hTT hct1
 rw [List.length_map, hmj]
 have HMJ := Lib.hid hmj
 clear hA hmj
 replace hH : Held w wn3 [nB w.heap.size k p n aV m cV aO op.length cO, tB (w.heap.size + 1) none 0 0 none 0 0 none 0 0] := hH.grow hwn3
 clear hwn3
 obtain ⟨q0_0, q0_1, q0_2, q0_3, q0_4, l0_⟩ := hH.c5 0 rfl; obtain ⟨q1_0, q1_1, q1_2, l1_⟩ := hH.c3 1 rfl
 go_upto_region 2 with fail
 clear q0_0 q0_1 q0_2 q0_3 q0_4 l0_ q1_0 q1_1 q1_2 l1_
 have hB : Held w (wn3.alloc (.cells #[.int .i64 k, .int .i64 p, .int .i64 n, .slice aK mj cK, .slice aP op.length cP] 29)) [nB w.heap.size k p n aV m cV aO op.length cO, tB (w.heap.size + 1) none 0 0 none 0 0 none 0 0, nB wn3.heap.size k p n aK mj cK aP op.length cP] := by
  have h := (hH.mores 1).addB 2 #[.int .i64 k, .int .i64 p, .int .i64 n, .slice aK mj cK, .slice aP op.length cP] 29
  exact h
 have hTTB : TensS (wn3.alloc (.cells #[.int .i64 k, .int .i64 p, .int .i64 n, .slice aK mj cK, .slice aP op.length cP] 29)) (.slice aK mj cK) (tj.map (tenOf dm)) := hTT.ext ((Ext.refl _).alloc _)
 have hsz : (wn3.alloc (.cells #[.int .i64 k, .int .i64 p, .int .i64 n, .slice aK mj cK, .slice aP op.length cP] 29)).heap.size = wn3.heap.size + 1 := by simp
 generalize wn3.alloc (.cells #[.int .i64 k, .int .i64 p, .int .i64 n, .slice aK mj cK, .slice aP op.length cP] 29) = wn4 at hB hsz hTTB ⊢
 replace hH := hB; have HSZwn4 := Lib.hid hsz; clear hB hsz; replace hTT := hTTB; clear hTTB
 rcases Nat.eq_zero_or_pos m with hz | hz
 ·
  have hmj : mj = 0 := by have h1 := HA.out.left; have h2 := HOL.out; have h3 := HM.out; have h4 := HMJ.out; omega
  subst hmj
  clear hTT
  have HTZ : Hid (ts = []) := Lib.hid (List.length_eq_zero_iff.1 (by rw [HM.out]; exact hz))
  have HNN := Lib.hid (net_nil HR.out dm op (by have h := HN.out.occ; rw [HTZ.out] at h; exact h))
  have HRE : Hid (RX = [(rig HR.out).one]) := Lib.hid (by rw [← HRX.out]; have h := HNN.out.2; rw [← HTZ.out] at h; exact h)
  clear hz
  obtain ⟨q0_0, q0_1, q0_2, q0_3, q0_4, l0_⟩ := hH.c5 0 rfl; obtain ⟨q1_0, q1_1, q1_2, l1_⟩ := hH.c3 1 rfl; obtain ⟨q2_0, q2_1, q2_2, q2_3, q2_4, l2_⟩ := hH.c5 2 rfl
  go_wp2_with fail
  clear q0_0 q0_1 q0_2 q0_3 q0_4 l0_ q1_0 q1_1 q1_2 l1_ q2_0 q2_1 q2_2 q2_3 q2_4 l2_
  refine (scalarOne_any HR.out _).mono ?_; rintro ewn5 wn5 ⟨u, rfl, ou, hwn5⟩
  obtain ⟨p1, n1, c1, p2, n2, c2, p3, n3, c3, rfl⟩ := ou.shape
  replace hH : Held w wn5 [nB w.heap.size k p n aV m cV aO op.length cO, tB (w.heap.size + 1) none 0 0 none 0 0 none 0 0, nB wn3.heap.size k p n aK 0 cK aP op.length cP, aT (.agg #[.slice p1 n1 c1, .slice p2 n2 c2, .slice p3 n3 c3]) [] [] (oneL k p n)] := (hH.mores 1).addT 3 hwn5 ou (Nat.le_refl _)
  clear hwn5
  obtain ⟨q0_0, q0_1, q0_2, q0_3, q0_4, l0_⟩ := hH.c5 0 rfl; obtain ⟨q1_0, q1_1, q1_2, l1_⟩ := hH.c3 1 rfl; have f1_0 := hH.fr 1 0 rfl; have f1_1 := hH.fr 1 1 rfl; have f1_2 := hH.fr 1 2 rfl; obtain ⟨q2_0, q2_1, q2_2, q2_3, q2_4, l2_⟩ := hH.c5 2 rfl
  go_wp2_with fail
  refine bodyPost_ret (v := .tuple #[.agg #[.slice p1 n1 c1, .slice p2 n2 c2, .slice p3 n3 c3], .bool true]) (by simp [results, Tryz.results11, go_sem, *]) rfl ?_
  have hf := (hH.setB3' (k := 1) rfl (.slice p1 n1 c1) (.slice p2 n2 c2) (.slice p3 n3 c3))
  rw [HRE.out, HNN.out.1, flat_one]
  exact ⟨_, rfl, hf.ownT (k := 3) rfl, hf.ext⟩
 have hmj : mj = 1 := by have h1 := HA.out.left; have h2 := HOL.out; have h3 := HM.out; have h4 := HMJ.out; omega
 subst hmj
 have HMP := Lib.hid hz; clear hz
 obtain ⟨bT, oT, u1, u2, u3, t3, hV, hx0, hx1, hx2, ht3, hTu⟩ := hTT.get (i := 0) (by rw [List.length_map, HMJ.out]; omega)
 subst hV
 obtain ⟨⟨tl, xs⟩, htj, rfl⟩ : ∃ t, tj[0]? = some t ∧ tenOf dm t = t3 := by rw [List.getElem?_map] at ht3; exact Option.map_eq_some_iff.1 ht3
 have HTE : Hid (tj = [(tl, xs)]) := Lib.hid (by
  have h1 := HMJ.out
  match tj, h1, htj with
  | [t], _, h => simpa using h)
 have HTI : Hid (IsT k p n dm U tl xs) := Lib.hid (HA.out.isN.ten (tl, xs) (by rw [HTE.out]; simp))
 have HSUB : Hid (∀ x ∈ op, x ∈ tl) := Lib.hid (fun x hx => by
  have h := HA.out.isN.occ x hx
  rw [HTE.out, show occ [(tl, xs)] = tl ++ [] from rfl, List.append_nil] at h
  exact h)
 have HFX : Hid (finXs HR.out dm tl op xs = RX) := Lib.hid (by
  rw [fin_one HR.out HTI.out HN.out.sub HSUB.out, ← HTE.out, HA.out.val]; exact HRX.out)
 simp only [tenOf] at hTu
 simp only [Nat.mul_zero, Nat.add_zero, Nat.zero_add] at hx0 hx1 hx2
 clear ht3 htj
 clear hTT
 obtain ⟨q0_0, q0_1, q0_2, q0_3, q0_4, l0_⟩ := hH.c5 0 rfl; obtain ⟨q1_0, q1_1, q1_2, l1_⟩ := hH.c3 1 rfl; obtain ⟨q2_0, q2_1, q2_2, q2_3, q2_4, l2_⟩ := hH.c5 2 rfl
 go_upto_region 6 with fail
 clear q0_0 q0_1 q0_2 q0_3 q0_4 l0_ q1_0 q1_1 q1_2 l1_ q2_0 q2_1 q2_2 q2_3 q2_4 l2_
 obtain ⟨wk, rfl⟩ : ∃ q, q = wn4 := ⟨_, rfl⟩
 have hEK : OrExt false wk wk := .inr (Ext.refl wk)
 replace hH := hH.mores 1
 replace hH : Held w wk [nB w.heap.size k p n aV m cV aO op.length cO, tB (w.heap.size + 1) none 0 0 none 0 0 none 0 0, nB wn3.heap.size k p n (some ⟨bT, oT, none⟩) 1 cK aP op.length cP, emp] := hH
 refine wp_region_steps ?Fa (fun b t wx => Held w wx [nB w.heap.size k p n aV m cV aO op.length cO, (bif b 8 then aB (w.heap.size + 1) 35 (partsOf (t 6)) else tB (w.heap.size + 1) none 0 0 none 0 0 none 0 0), nB wn3.heap.size k p n (some ⟨bT, oT, none⟩) 1 cK aP op.length cP, (bif b 5 then aT (tup0 (t 5)) op (op.map dm) (flat RX) else emp)] ∧ OrExt (b 8) wk wx ∧ (b 0 = true → t 0 = .agg #[.int .i64 k, .int .i64 p, .int .i64 n, .slice aV m cV, .slice aO op.length cO]) ∧ (b 1 = true → t 1 = .pointer (some ⟨wn3.heap.size, 3, none⟩)) ∧ (b 2 = true → t 2 = .slice (some ⟨bT, oT, none⟩) 1 cK) ∧ (b 3 = true → t 3 = .pointer (some ⟨bT, oT, none⟩)) ∧ (b 4 = true → t 4 = .agg #[u1, u2, u3]) ∧ (b 5 = true → ∃ p1 n1 c1 p2 n2 c2 p3 n3 c3, t 5 = .tuple #[.agg #[.slice p1 n1 c1, .slice p2 n2 c2, .slice p3 n3 c3], .bool true]) ∧ (b 6 = true → t 6 = tup0 (t 5)) ∧ (b 7 = true → t 7 = .bool true) ∧ (b 9 = true → t 9 = .bool true)) ?hFa (by kernel_rfl) (by kernel_rfl) ?hJa ?hSa ?hEa
 (case hFa => intro t; simp only [putAll, Act.put, List.setIfInBounds_toArray, List.set_cons_zero, List.set_cons_succ, Nat.reduceAdd, Nat.zero_add]; exact rfl)
 case hJa => exact ⟨hH.grow ((Ext.refl _).drew), hEK.ext ((Ext.refl _).drew), nof, nof, nof, nof, nof, nof, nof, nof, nof⟩
 case hSa => as_aux_lemma =>
  refine st 1 rfl (fun b t wx hJ hb hd hcl Kc hK => ?_) ?_
  · obtain ⟨hH, hEK, hV⟩ := hJ
    obtain ⟨q0_0, q0_1, q0_2, q0_3, q0_4, _⟩ := hH.c5 0 rfl
    go_simp
    apply sk hK
    · rfl
    exact ⟨hH, hEK, rp (fun _ => rfl) hV⟩
  refine st 2 rfl (fun b t wx hJ hb hd hcl Kc hK => ?_) ?_
  · obtain ⟨hH, hEK, hV⟩ := hJ
    go_simp
    apply sk hK
    · rfl
    exact ⟨hH, hEK, jA (rp (fun _ => rfl)) hV⟩
  refine st 3 rfl (fun b t wx hJ hb hd hcl Kc hK => ?_) ?_
  · obtain ⟨hH, hEK, hV⟩ := hJ
    have d1 := so hd 1; have r1 := hV.2.1 d1; have q2_3 := hH.cl 2 3 rfl rfl
    go_simp
    apply sk hK
    · (try simp only [r1]); rfl
    exact ⟨hH, hEK, jB (rp (fun _ => rfl)) hV⟩
  refine st 4 rfl (fun b t wx hJ hb hd hcl Kc hK => ?_) ?_
  · obtain ⟨hH, hEK, hV⟩ := hJ
    have d2 := so hd 2; have r2 := hV.2.2.1 d2
    go_simp
    apply sk hK
    · (try simp only [r2]); rfl
    exact ⟨hH, hEK, jB (jA (rp (fun _ => rfl))) hV⟩
  refine st 5 rfl (fun b t wx hJ hb hd hcl Kc hK => ?_) ?_
  · obtain ⟨hH, hEK, hV⟩ := hJ
    have d3 := so hd 3
    have n8 : b 8 = false := nf hb fun h => sc hcl 8 4 (h)
    have r3 := hV.2.2.2.1 d3
    have E := hEK.out n8; have x0 := E.cell hx0; have x1 := E.cell hx1; have x2 := E.cell hx2
    go_simp
    apply sk hK
    · (try simp only [r3]); rfl
    exact ⟨hH, hEK, jD (rp (fun _ => rfl)) hV⟩
  refine st 6 rfl (fun b t wx hJ hb hd hcl Kc hK => ?_) ?_
  · obtain ⟨hH, hEK, v0, v1, v2, v3, v4, v5, v6, v7, v9⟩ := hJ
    have d0 := so hd 0; have d4 := so hd 4
    have n6 : b 6 = false := nf hb fun h => sc hcl 6 5 (h)
    have n8 : b 8 = false := nf hb fun h => sc hcl 8 5 (h)
    have r0 := v0 d0; have r4 := v4 d4
    have hN := hH; (try simp only [hb, d0, d4, n6, n8, cond_true, cond_false] at hN)
    go_simp
    go_at_call 27
    refine (finishTensor_any HR.out HN.out _ _ _ (hT0.ext hH.ext) (hO0.ext hH.ext) HTI.out HSUB.out _ (hTu.ext (hEK.out n8))).mono ?_; rintro e5 w5 ⟨v10, rfl, o10, h10⟩
    rw [HFX.out] at o10
    obtain ⟨pb1, nb1, cb1, pb2, nb2, cb2, pb3, nb3, cb3, rfl⟩ := o10.shape
    (try go_simp)
    apply sk hK
    · (try simp only [r0, r4]); rfl
    exact ⟨by have hX := hN.addT 3 h10 o10 (Nat.le_refl _); simpa only [List.set_cons_zero, List.set_cons_succ, updB, updV, blkOf_mk, tup0_mk, partsOf3, Nat.reduceBEq, cond_true, cond_false, hb, d0, d4, n6, n8, r0, r4] using hX, hEK.ext h10, v0, v1, v2, v3, v4, fun _ => ⟨_, _, _, _, _, _, _, _, _, rfl⟩, ab n6, v7, v9⟩
  refine st 7 rfl (fun b t wx hJ hb hd hcl Kc hK => ?_) ?_
  · obtain ⟨hH, hEK, hV⟩ := hJ
    have d5 := so hd 5
    have n8 : b 8 = false := nf hb fun h => sc hcl 8 6 (h)
    have r5 := hV.2.2.2.2.2.1 d5
    obtain ⟨p1_5, n1_5, c1_5, p2_5, n2_5, c2_5, p3_5, n3_5, c3_5, r5⟩ := r5
    have hN := hH; (try simp only [hb, d5, n8, cond_true, cond_false] at hN)
    have e5 := r5 -- d5
    go_simp
    apply sk hK
    · (try simp only [r5]); rfl
    exact ⟨by have hX := hN; simpa only [List.set_cons_zero, List.set_cons_succ, updB, updV, blkOf_mk, tup0_mk, partsOf3, Nat.reduceBEq, cond_true, cond_false, hb, d5, n8, r5] using hX, hEK, jD (jB (rp (fun _ => (by show _ = tup0 (t 5); rw [r5]; rfl)))) hV⟩
  refine st 8 rfl (fun b t wx hJ hb hd hcl Kc hK => ?_) ?_
  · obtain ⟨hH, hEK, hV⟩ := hJ
    have d5 := so hd 5; have r5 := hV.2.2.2.2.2.1 d5
    obtain ⟨p1_5, n1_5, c1_5, p2_5, n2_5, c2_5, p3_5, n3_5, c3_5, r5⟩ := r5
    have e5 := r5 -- d5
    go_simp
    apply sk hK
    · (try simp only [r5]); rfl
    exact ⟨hH, hEK, jD (jB (jA (rp (fun _ => rfl)))) hV⟩
  refine st 9 rfl (fun b t wx hJ hb hd hcl Kc hK => ?_) ?_
  · obtain ⟨hH, hEK, hV⟩ := hJ
    have d0 := so hd 0; have d1 := so hd 1; have d2 := so hd 2; have d3 := so hd 3; have d4 := so hd 4; have d5 := so hd 5; have d6 := so hd 6; have d7 := so hd 7; have r0 := hV.1 d0; have r1 := hV.2.1 d1; have r2 := hV.2.2.1 d2; have r3 := hV.2.2.2.1 d3; have r4 := hV.2.2.2.2.1 d4; have r5 := hV.2.2.2.2.2.1 d5; have r6 := hV.2.2.2.2.2.2.1 d6; have r7 := hV.2.2.2.2.2.2.2.1 d7
    obtain ⟨p1_5, n1_5, c1_5, p2_5, n2_5, c2_5, p3_5, n3_5, c3_5, r5⟩ := r5
    have hN := hH; (try simp only [hb, d0, d1, d2, d3, d4, d5, d6, d7, cond_true, cond_false] at hN)
    rw [r5, tup0_mk] at r6 -- d5 d6
    have B := hN.blk (k := 1) rfl
    have f0 := B.free 0; have f1 := B.free 1; have f2 := B.free 2; have z0 := B.cell (j := 0) rfl; have z1 := B.cell (j := 1) rfl; have z2 := B.cell (j := 2) rfl; have lB := B.lt; have hmk0 := @tup0_mk
    go_simp
    refine hK.out _ undef _ ?_ ?_; rotate_left 1
    · (try simp only [r0, r1, r2, r3, r4, r5, r6, r7]); rfl
    exact ⟨by have hX := hN.setB3' (k := 1) rfl (.slice p1_5 n1_5 c1_5) (.slice p2_5 n2_5 c2_5) (.slice p3_5 n3_5 c3_5); simpa only [List.set_cons_zero, List.set_cons_succ, updB, updV, blkOf_mk, tup0_mk, partsOf3, Nat.reduceBEq, cond_true, cond_false, hb, d0, d1, d2, d3, d4, d5, d6, d7, r0, r1, r2, r3, r4, r5, r6, r7] using hX, (.inl rfl), hV⟩
  refine st 10 rfl (fun b t wx hJ hb hd hcl Kc hK => ?_) ?_
  · obtain ⟨hH, hEK, hV⟩ := hJ
    have d0 := so hd 0; have d1 := so hd 1; have d2 := so hd 2; have d3 := so hd 3; have d4 := so hd 4; have d5 := so hd 5; have d6 := so hd 6; have d7 := so hd 7; have d8 := so hd 8; have r0 := hV.1 d0; have r1 := hV.2.1 d1; have r2 := hV.2.2.1 d2; have r3 := hV.2.2.2.1 d3; have r4 := hV.2.2.2.2.1 d4; have r5 := hV.2.2.2.2.2.1 d5; have r6 := hV.2.2.2.2.2.2.1 d6; have r7 := hV.2.2.2.2.2.2.2.1 d7
    obtain ⟨p1_5, n1_5, c1_5, p2_5, n2_5, c2_5, p3_5, n3_5, c3_5, r5⟩ := r5
    go_simp
    apply sk hK
    · (try simp only [r0, r1, r2, r3, r4, r5, r6, r7]); rfl
    exact ⟨hH, hEK, jD (jD (fun _ => fun _ => rfl)) hV⟩
  exact AllSteps.nil
 intro b t wa hJ hall
 obtain ⟨hHa, hEKa, v0, v1, v2, v3, v4, v5, v6, v7, v9⟩ := hJ
 have a0 := hall 0 (by decide); have a1 := hall 1 (by decide); have a2 := hall 2 (by decide); have a3 := hall 3 (by decide); have a4 := hall 4 (by decide); have a5 := hall 5 (by decide); have a6 := hall 6 (by decide); have a7 := hall 7 (by decide); have a8 := hall 8 (by decide); have a9 := hall 9 (by decide)
 (try simp only [a0, a1, a2, a3, a4, a5, a6, a7, a8, a9, cond_true] at hHa)
 (try simp only [a0, a1, a2, a3, a4, a5, a6, a7, a8, a9, cond_true] at hEKa)
 replace v0 := v0 a0; replace v1 := v1 a1; replace v2 := v2 a2; replace v3 := v3 a3; replace v4 := v4 a4; replace v5 := v5 a5; replace v6 := v6 a6; replace v7 := v7 a7; replace v9 := v9 a9
 clear hall a0 a1 a2 a3 a4 a5 a6 a7 a8 a9
 generalize t 9 = x9 at hHa v9 ⊢; generalize t 7 = x7 at hHa v7 ⊢; generalize t 6 = x6 at hHa v6 ⊢; generalize t 5 = x5 at hHa v5 v6 ⊢; generalize t 4 = x4 at hHa v4 ⊢; generalize t 3 = x3 at hHa v3 ⊢; generalize t 2 = x2 at hHa v2 ⊢; generalize t 1 = x1 at hHa v1 ⊢; generalize t 0 = x0 at hHa v0 ⊢; subst v0; subst v1; subst v2; subst v3; subst v4
 obtain ⟨p1a5, n1a5, c1a5, p2a5, n2a5, c2a5, p3a5, n3a5, c3a5, rfl⟩ := v5
 subst v6; subst v7; subst v9
 simp only [blkOf_mk, tup0_mk, partsOf3] at hHa
 clear b
 replace hH := hHa; clear hHa
 replace hH : Held w wa [nB w.heap.size k p n aV m cV aO op.length cO, tB (w.heap.size + 1) p1a5 n1a5 c1a5 p2a5 n2a5 c2a5 p3a5 n3a5 c3a5, nB wn3.heap.size k p n (some ⟨bT, oT, none⟩) 1 cK aP op.length cP, aT (.agg #[.slice p1a5 n1a5 c1a5, .slice p2a5 n2a5 c2a5, .slice p3a5 n3a5 c3a5]) op (op.map dm) (flat RX)] := hH
 clear hx0 hx1 hx2 hEKa
 obtain ⟨q0_0, q0_1, q0_2, q0_3, q0_4, l0_⟩ := hH.c5 0 rfl; obtain ⟨q1_0, q1_1, q1_2, l1_⟩ := hH.c3 1 rfl; have f1_0 := hH.fr 1 0 rfl; have f1_1 := hH.fr 1 1 rfl; have f1_2 := hH.fr 1 2 rfl; obtain ⟨q2_0, q2_1, q2_2, q2_3, q2_4, l2_⟩ := hH.c5 2 rfl
 go_wp2_with fail
 refine bodyPost_ret (v := .tuple #[.agg #[.slice p1a5 n1a5 c1a5, .slice p2a5 n2a5 c2a5, .slice p3a5 n3a5 c3a5], .bool true]) (by simp [results, Tryz.results11, go_sem, *]) rfl ?_
 have hf := hH
 exact ⟨_, rfl, hf.ownT (k := 3) rfl, hf.ext⟩
theorem worth_any {k p n : Int} (hr : ringOk k p n = true) {dm : Int → Int} {U : List Int} {ts : List (NT k p n)} {op : List Int} (hN : IsN k p n dm U ts op) (tv ov : Value) (w : World) (hT : TensS w tv (ts.map (tenOf dm))) (hO : IntS w ov op) :
 Calls Tryz.prog 10 #[.agg #[.int .i64 k, .int .i64 p, .int .i64 n, tv, ov]] w fun e w' => ∃ u, e = .returned u ∧ OwnT w' w.heap.size u op (op.map dm) (flat (netXs hr dm ts op)) ∧ Ext w w' := by
 obtain ⟨m, aV, cV, aO, cO, rfl, rfl, hcT1, hcT2, hcO1, hcO2, hm12, hop12, HM, HD3, hTl⟩ := net_in hN hT hO
 have hT0 := hT; have hO0 := hO; have HR := Lib.hid hr; have HN := Lib.hid hN; clear hN; try rw [HM.out]
 obtain ⟨RX, hRX⟩ : ∃ q, flat (netXs hr dm ts op) = q := ⟨_, rfl⟩
 rw [hRX]
 have HRX := Lib.hid hRX; clear hRX
 go_enter Tryz.func10, Tryz.ntmps10
 go_upto_region 1 with fail
 have hH : Held w w [] := Held.new (Ext.refl w) 0
 obtain ⟨hB, hsz⟩ := hH.laid #[.int .i64 k, .int .i64 p, .int .i64 n, .slice aV m cV, .slice aO op.length cO] 29
 generalize w.alloc (.cells #[.int .i64 k, .int .i64 p, .int .i64 n, .slice aV m cV, .slice aO op.length cO] 29) = wn1 at hB hsz ⊢
 replace hH : Held w wn1 [nB w.heap.size k p n aV m cV aO op.length cO] := hB
 have HSZwn1 := Lib.hid (show wn1.heap.size = w.heap.size + 1 by rw [hsz]); clear hB hsz
 obtain ⟨hB, hsz⟩ := hH.laid #[.slice none 0 0, .slice none 0 0, .slice none 0 0] 35
 generalize wn1.alloc (.cells #[.slice none 0 0, .slice none 0 0, .slice none 0 0] 35) = wn2 at hB hsz ⊢
 replace hH : Held w wn2 [nB w.heap.size k p n aV m cV aO op.length cO, tB (w.heap.size + 1) none 0 0 none 0 0 none 0 0] := by rw [HSZwn1.out] at hB; exact hB
 have HSZwn2 := Lib.hid (show wn2.heap.size = w.heap.size + 1 + 1 by rw [hsz, HSZwn1.out]); clear hB hsz
 obtain ⟨q0_0, q0_1, q0_2, q0_3, q0_4, l0_⟩ := hH.c5 0 rfl; obtain ⟨q1_0, q1_1, q1_2, l1_⟩ := hH.c3 1 rfl
 go_wp2_with fail
 clear q0_0 q0_1 q0_2 q0_3 q0_4 l0_ q1_0 q1_1 q1_2 l1_
 refine (networkValue_spec HR.out HN.out _ _ _ (hT0.ext hH.ext) (hO0.ext hH.ext)).mono ?_; rintro ewn3 wn3 ⟨u, rfl, ou, hwn3⟩
 rw [show flat (netXs HR.out dm ts op) = RX from HRX.out] at ou
 obtain ⟨p1, n1, d1, p2, n2, d2, p3, n3, d3, rfl⟩ := ou.shape
 replace hH : Held w wn3 [nB w.heap.size k p n aV m cV aO op.length cO, tB (w.heap.size + 1) none 0 0 none 0 0 none 0 0, aT (.agg #[.slice p1 n1 d1, .slice p2 n2 d2, .slice p3 n3 d3]) op (op.map dm) RX] := (hH.mores 1).addT 2 hwn3 ou (Nat.le_refl _)
 clear hwn3
 obtain ⟨q0_0, q0_1, q0_2, q0_3, q0_4, l0_⟩ := hH.c5 0 rfl; obtain ⟨q1_0, q1_1, q1_2, l1_⟩ := hH.c3 1 rfl
 go_upto_region 2 with fail
 clear q0_0 q0_1 q0_2 q0_3 q0_4 l0_ q1_0 q1_1 q1_2 l1_
 obtain ⟨hB, hsz⟩ := hH.laid #[.slice p1 n1 d1, .slice p2 n2 d2, .slice p3 n3 d3] 35
 generalize wn3.alloc (.cells #[.slice p1 n1 d1, .slice p2 n2 d2, .slice p3 n3 d3] 35) = wn4 at hB hsz ⊢
 replace hH : Held w wn4 [nB w.heap.size k p n aV m cV aO op.length cO, tB (w.heap.size + 1) none 0 0 none 0 0 none 0 0, aT (.agg #[.slice p1 n1 d1, .slice p2 n2 d2, .slice p3 n3 d3]) op (op.map dm) RX, tB wn3.heap.size p1 n1 d1 p2 n2 d2 p3 n3 d3] := hB
 have HSZwn4 := Lib.hid (show wn4.heap.size = wn3.heap.size + 1 by rw [hsz]); clear hB hsz
 obtain ⟨q0_0, q0_1, q0_2, q0_3, q0_4, l0_⟩ := hH.c5 0 rfl; obtain ⟨q1_0, q1_1, q1_2, l1_⟩ := hH.c3 1 rfl; have f1_0 := hH.fr 1 0 rfl; have f1_1 := hH.fr 1 1 rfl; have f1_2 := hH.fr 1 2 rfl; obtain ⟨q3_0, q3_1, q3_2, l3_⟩ := hH.c3 3 rfl
 go_wp2_with fail
 refine bodyPost_ret (v := .agg #[.slice p1 n1 d1, .slice p2 n2 d2, .slice p3 n3 d3]) (by simp [results, Tryz.results10, go_sem, *]) rfl ?_
 have hHR := hH.setB3' (k := 1) rfl (.slice p1 n1 d1) (.slice p2 n2 d2) (.slice p3 n3 d3)
 exact ⟨_, rfl, hHR.ownT (k := 2) rfl, hHR.ext⟩
end Go.Proofs.YtlgjddgajdjllaaGreat
