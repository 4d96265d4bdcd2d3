/- Contract of the program, of a valid order: the value of the network. -/
import Derived.Test.YtpegckmagiaggaaFBase
import Derived.Test.YtpegckmagiaggaaFPartN
import Derived.Test.YtpegckmagiaggaaFG22
import Derived.Test.YtpegckmagiaggaaFG5
set_option linter.unusedSimpArgs false
set_option linter.unusedVariables false
namespace Go.Proofs.Ytpegckmagiaggaa
open Go.RowKit
set_option maxRecDepth 100000 in
set_option maxHeartbeats 4000000 in
theorem contract_net_any {k p n : Int} (hr : ringOk k p n = true) {dm : Int → Int} {U : List Int} {ts : List (NT k p n)} {op : List Int} (hN : IsN k p n dm U ts op) (tv ov : Value) (w : World) (hT : TensS w tv (ts.map (tenOf dm))) (hO : IntS w ov op) {os : List (Int × Int)} (hok : okO (numL ts.length) (ts.length : Int) os) (hol : os.length = ts.length - 1) (vo : Value) (hVo : StepsS w vo os) :
    Calls Try.prog 67 #[.agg #[.int .i64 k, .int .i64 p, .int .i64 n, tv, ov], vo] w fun e w' => ∃ u, e = .returned (.tuple #[u, .bool true]) ∧ OwnT w' w.heap.size u op (op.map dm) (flat (netXs hr dm ts op)) ∧ Ext w w' := by
  have hT0 := hT
  have hO0 := hO
  obtain ⟨m, hm⟩ : ∃ m, ts.length = m := ⟨_, rfl⟩
  obtain ⟨aV, cV, rfl, hcT1, hcT2⟩ := hT.val
  obtain ⟨aO, cO, rfl, hcO1, hcO2⟩ := hO.val
  rw [List.length_map, hm] at hT hT0 hcT1
  rw [List.length_map, hm]
  have hm12 : m ≤ 12 := by rw [← hm]; exact hN.len
  have hop12 : op.length ≤ 12 := hN.rank
  have HM := Lib.hid hm; have HR := Lib.hid hr; have HN := Lib.hid hN; have HD3 := Lib.hid hN.dims3; clear hm  hN
  have hTl : Hid ((ts.map (tenOf dm)).length = m) := Lib.hid (by rw [List.length_map]; exact HM.out)
  obtain ⟨RX, hRX⟩ : ∃ q, netXs hr dm ts op = q := ⟨_, rfl⟩
  rw [hRX]
  have HRX := Lib.hid hRX; clear hRX
  have hm2 := HM
  obtain ⟨aQ, cQ, rfl, hcq1, hcq2⟩ := hVo.val
  have HOK := Lib.hid hok; have HOL := Lib.hid hol
  have hol2 : os.length ≤ m := by rw [← hm2.out]; omega
  clear hok hol
  go_enter Try.func67, Try.ntmps67
  go_upto_region 1 with fail
  have hH : Held w w [] := Held.new (Ext.refl w) 0
  have hB : Held w (w.alloc (.cells #[.int .i64 k, .int .i64 p, .int .i64 n, .slice aV m cV, .slice aO op.length cO] 29)) [aB (w.heap.size) 29 [.int .i64 k, .int .i64 p, .int .i64 n, .slice aV m cV, .slice aO op.length cO]] := by
    have h := (hH.mores 1).addB 0 #[.int .i64 k, .int .i64 p, .int .i64 n, .slice aV m cV, .slice aO op.length cO] 29
    exact h
  have hsz : (w.alloc (.cells #[.int .i64 k, .int .i64 p, .int .i64 n, .slice aV m cV, .slice aO op.length cO] 29)).heap.size = w.heap.size + 1 := by simp
  generalize w.alloc (.cells #[.int .i64 k, .int .i64 p, .int .i64 n, .slice aV m cV, .slice aO op.length cO] 29) = wn1 at hB hsz ⊢
  replace hH := hB; have HSZwn1 := Lib.hid hsz; clear hB hsz
  have hB : Held w (wn1.alloc (.cells #[.slice none 0 0, .slice none 0 0, .slice none 0 0] 32)) [aB (w.heap.size) 29 [.int .i64 k, .int .i64 p, .int .i64 n, .slice aV m cV, .slice aO op.length cO], aB (w.heap.size + 1) 32 [.slice none 0 0, .slice none 0 0, .slice none 0 0]] := by
    have h := (hH.mores 1).addB 1 #[.slice none 0 0, .slice none 0 0, .slice none 0 0] 32
    rw [HSZwn1.out] at h
    exact h
  have hsz : (wn1.alloc (.cells #[.slice none 0 0, .slice none 0 0, .slice none 0 0] 32)).heap.size = w.heap.size + 1 + 1 := by rw [← HSZwn1.out]; simp
  generalize wn1.alloc (.cells #[.slice none 0 0, .slice none 0 0, .slice none 0 0] 32) = wn2 at hB hsz ⊢
  replace hH := hB; have HSZwn2 := Lib.hid hsz; clear hB hsz
  have q0_0 := hH.cl 0 0 rfl rfl; have q0_1 := hH.cl 0 1 rfl rfl; have q0_2 := hH.cl 0 2 rfl rfl; have q0_3 := hH.cl 0 3 rfl rfl; have q0_4 := hH.cl 0 4 rfl rfl; have l0_ := hH.bl 0 rfl; have q1_0 := hH.cl 1 0 rfl rfl; have q1_1 := hH.cl 1 1 rfl rfl; have q1_2 := hH.cl 1 2 rfl rfl; have l1_ := hH.bl 1 rfl
  go_wp2_with fail
  clear q0_0 q0_1 q0_2 q0_3 q0_4 l0_ q1_0 q1_1 q1_2 l1_
  refine (partialNetwork_any HR.out HN.out _ _ _ (hT0.ext hH.ext) (hO0.ext hH.ext) HOK.out HOL.out _ (hVo.ext hH.ext) os.length (Nat.le_refl _)).mono ?_; rintro ewn3 wn3 ⟨tv2, ov2, ns, tj, rfl, hA, hTT, hOO, hwn3⟩
  have HA := Lib.hid hA
  obtain ⟨aK, cK, rfl, hct1, hct2⟩ := hTT.val
  obtain ⟨aP, cP, rfl, hcp1, hcp2⟩ := hOO.val
  obtain ⟨mj, hmj⟩ : ∃ q, tj.length = q := ⟨_, rfl⟩
  rw [List.length_map, hmj] at hTT hct1
  rw [List.length_map, hmj]
  have HMJ := Lib.hid hmj
  clear hA hmj
  replace hH : Held w wn3 [aB (w.heap.size) 29 [.int .i64 k, .int .i64 p, .int .i64 n, .slice aV m cV, .slice aO op.length cO], aB (w.heap.size + 1) 32 [.slice none 0 0, .slice none 0 0, .slice none 0 0]] := hH.grow hwn3
  clear hwn3
  have q0_0 := hH.cl 0 0 rfl rfl; have q0_1 := hH.cl 0 1 rfl rfl; have q0_2 := hH.cl 0 2 rfl rfl; have q0_3 := hH.cl 0 3 rfl rfl; have q0_4 := hH.cl 0 4 rfl rfl; have l0_ := hH.bl 0 rfl; have q1_0 := hH.cl 1 0 rfl rfl; have q1_1 := hH.cl 1 1 rfl rfl; have q1_2 := hH.cl 1 2 rfl rfl; have l1_ := hH.bl 1 rfl
  go_upto_region 2 with fail
  clear q0_0 q0_1 q0_2 q0_3 q0_4 l0_ q1_0 q1_1 q1_2 l1_
  have hB : Held w (wn3.alloc (.cells #[.int .i64 k, .int .i64 p, .int .i64 n, .slice aK mj cK, .slice aP op.length cP] 29)) [aB (w.heap.size) 29 [.int .i64 k, .int .i64 p, .int .i64 n, .slice aV m cV, .slice aO op.length cO], aB (w.heap.size + 1) 32 [.slice none 0 0, .slice none 0 0, .slice none 0 0], aB (wn3.heap.size) 29 [.int .i64 k, .int .i64 p, .int .i64 n, .slice aK mj cK, .slice aP op.length cP]] := by
    have h := (hH.mores 1).addB 2 #[.int .i64 k, .int .i64 p, .int .i64 n, .slice aK mj cK, .slice aP op.length cP] 29
    exact h
  have hTTB : TensS (wn3.alloc (.cells #[.int .i64 k, .int .i64 p, .int .i64 n, .slice aK mj cK, .slice aP op.length cP] 29)) (.slice aK mj cK) (tj.map (tenOf dm)) := hTT.ext ((Ext.refl _).alloc _)
  have hsz : (wn3.alloc (.cells #[.int .i64 k, .int .i64 p, .int .i64 n, .slice aK mj cK, .slice aP op.length cP] 29)).heap.size = wn3.heap.size + 1 := by simp
  generalize wn3.alloc (.cells #[.int .i64 k, .int .i64 p, .int .i64 n, .slice aK mj cK, .slice aP op.length cP] 29) = wn4 at hB hsz hTTB ⊢
  replace hH := hB; have HSZwn4 := Lib.hid hsz; clear hB hsz; replace hTT := hTTB; clear hTTB
  rcases Nat.eq_zero_or_pos m with hz | hz
  · skip
    have hmj : mj = 0 := by have h1 := HA.out.left; have h2 := HOL.out; have h3 := HM.out; have h4 := HMJ.out; omega
    subst hmj
    clear hTT
    have HTZ : Hid (ts = []) := Lib.hid (List.length_eq_zero_iff.1 (by rw [HM.out]; exact hz))
    have HNN := Lib.hid (net_nil HR.out dm op (by have h := HN.out.occ; rw [HTZ.out] at h; exact h))
    have HRE : Hid (RX = [(rig HR.out).one]) := Lib.hid (by rw [← HRX.out]; have h := HNN.out.2; rw [← HTZ.out] at h; exact h)
    clear hz
    have q0_0 := hH.cl 0 0 rfl rfl; have q0_1 := hH.cl 0 1 rfl rfl; have q0_2 := hH.cl 0 2 rfl rfl; have q0_3 := hH.cl 0 3 rfl rfl; have q0_4 := hH.cl 0 4 rfl rfl; have l0_ := hH.bl 0 rfl; have q1_0 := hH.cl 1 0 rfl rfl; have q1_1 := hH.cl 1 1 rfl rfl; have q1_2 := hH.cl 1 2 rfl rfl; have l1_ := hH.bl 1 rfl; have q2_0 := hH.cl 2 0 rfl rfl; have q2_1 := hH.cl 2 1 rfl rfl; have q2_2 := hH.cl 2 2 rfl rfl; have q2_3 := hH.cl 2 3 rfl rfl; have q2_4 := hH.cl 2 4 rfl rfl; have l2_ := hH.bl 2 rfl
    go_wp2_with fail
    clear q0_0 q0_1 q0_2 q0_3 q0_4 l0_ q1_0 q1_1 q1_2 l1_ q2_0 q2_1 q2_2 q2_3 q2_4 l2_
    refine (scalarOne_any HR.out _).mono ?_; rintro ewn5 wn5 ⟨u, rfl, ou, hwn5⟩
    obtain ⟨p1, n1, c1, p2, n2, c2, p3, n3, c3, rfl⟩ := ou.shape
    replace hH : Held w wn5 [aB (w.heap.size) 29 [.int .i64 k, .int .i64 p, .int .i64 n, .slice aV m cV, .slice aO op.length cO], aB (w.heap.size + 1) 32 [.slice none 0 0, .slice none 0 0, .slice none 0 0], aB (wn3.heap.size) 29 [.int .i64 k, .int .i64 p, .int .i64 n, .slice aK 0 cK, .slice aP op.length cP], aT (.agg #[.slice p1 n1 c1, .slice p2 n2 c2, .slice p3 n3 c3]) [] [] (oneL k p n)] := (hH.mores 1).addT 3 hwn5 ou (Nat.le_refl _)
    clear hwn5
    have q0_0 := hH.cl 0 0 rfl rfl; have q0_1 := hH.cl 0 1 rfl rfl; have q0_2 := hH.cl 0 2 rfl rfl; have q0_3 := hH.cl 0 3 rfl rfl; have q0_4 := hH.cl 0 4 rfl rfl; have l0_ := hH.bl 0 rfl; have q1_0 := hH.cl 1 0 rfl rfl; have f1_0 := hH.fr 1 0 rfl; have q1_1 := hH.cl 1 1 rfl rfl; have f1_1 := hH.fr 1 1 rfl; have q1_2 := hH.cl 1 2 rfl rfl; have f1_2 := hH.fr 1 2 rfl; have l1_ := hH.bl 1 rfl; have q2_0 := hH.cl 2 0 rfl rfl; have q2_1 := hH.cl 2 1 rfl rfl; have q2_2 := hH.cl 2 2 rfl rfl; have q2_3 := hH.cl 2 3 rfl rfl; have q2_4 := hH.cl 2 4 rfl rfl; have l2_ := hH.bl 2 rfl
    go_wp2_with fail
    refine bodyPost_ret (v := .tuple #[.agg #[.slice p1 n1 c1, .slice p2 n2 c2, .slice p3 n3 c3], .bool true]) (by simp [results, Try.results67, go_sem, *]) rfl ?_
    have hf := (hH.setB3' (k := 1) rfl (.slice p1 n1 c1) (.slice p2 n2 c2) (.slice p3 n3 c3))
    rw [HRE.out, HNN.out.1, flat_one]
    exact ⟨_, rfl, hf.ownT (k := 3) rfl, hf.ext⟩
  · skip
    have hmj : mj = 1 := by have h1 := HA.out.left; have h2 := HOL.out; have h3 := HM.out; have h4 := HMJ.out; omega
    subst hmj
    have HMP := Lib.hid hz; clear hz
    obtain ⟨bT, oT, u1, u2, u3, t3, hV, hx0, hx1, hx2, ht3, hTu⟩ := hTT.get (i := 0) (by rw [List.length_map, HMJ.out]; omega)
    subst hV
    obtain ⟨⟨tl, xs⟩, htj, rfl⟩ : ∃ t, tj[0]? = some t ∧ tenOf dm t = t3 := by rw [List.getElem?_map] at ht3; exact Option.map_eq_some_iff.1 ht3
    have HTE : Hid (tj = [(tl, xs)]) := Lib.hid (by
      have h1 := HMJ.out
      match tj, h1, htj with
      | [t], _, h => simpa using h)
    have HTI : Hid (IsT k p n dm U tl xs) := Lib.hid (HA.out.isN.ten (tl, xs) (by rw [HTE.out]; simp))
    have HSUB : Hid (∀ x ∈ op, x ∈ tl) := Lib.hid (fun x hx => by
      have h := HA.out.isN.occ x hx
      rw [HTE.out, show occ [(tl, xs)] = tl ++ [] from rfl, List.append_nil] at h
      exact h)
    have HFX : Hid (finXs HR.out dm tl op xs = RX) := Lib.hid (by
      rw [fin_one HR.out HTI.out HN.out.sub HSUB.out, ← HTE.out, HA.out.val]; exact HRX.out)
    simp only [tenOf] at hTu
    simp only [Nat.mul_zero, Nat.add_zero, Nat.zero_add] at hx0 hx1 hx2
    clear ht3 htj
    clear hTT
    have q0_0 := hH.cl 0 0 rfl rfl; have q0_1 := hH.cl 0 1 rfl rfl; have q0_2 := hH.cl 0 2 rfl rfl; have q0_3 := hH.cl 0 3 rfl rfl; have q0_4 := hH.cl 0 4 rfl rfl; have l0_ := hH.bl 0 rfl; have q1_0 := hH.cl 1 0 rfl rfl; have q1_1 := hH.cl 1 1 rfl rfl; have q1_2 := hH.cl 1 2 rfl rfl; have l1_ := hH.bl 1 rfl; have q2_0 := hH.cl 2 0 rfl rfl; have q2_1 := hH.cl 2 1 rfl rfl; have q2_2 := hH.cl 2 2 rfl rfl; have q2_3 := hH.cl 2 3 rfl rfl; have q2_4 := hH.cl 2 4 rfl rfl; have l2_ := hH.bl 2 rfl
    go_upto_region 6 with fail
    clear q0_0 q0_1 q0_2 q0_3 q0_4 l0_ q1_0 q1_1 q1_2 l1_ q2_0 q2_1 q2_2 q2_3 q2_4 l2_
    obtain ⟨wk, rfl⟩ : ∃ q, q = wn4 := ⟨_, rfl⟩
    have hEK : OrExt false wk wk := .inr (Ext.refl wk)
    replace hH := hH.mores 1
    replace hH : Held w wk [aB (w.heap.size) 29 [.int .i64 k, .int .i64 p, .int .i64 n, .slice aV m cV, .slice aO op.length cO], aB (w.heap.size + 1) 32 [.slice none 0 0, .slice none 0 0, .slice none 0 0], aB (wn3.heap.size) 29 [.int .i64 k, .int .i64 p, .int .i64 n, .slice (some ⟨bT, oT, none⟩) 1 cK, .slice aP op.length cP], emp] := hH
    refine wp_region_steps ?Fa (fun b t wx => Held w wx [aB (w.heap.size) 29 [.int .i64 k, .int .i64 p, .int .i64 n, .slice aV m cV, .slice aO op.length cO], (bif b 8 then aB (w.heap.size + 1) 32 (partsOf (t 6)) else aB (w.heap.size + 1) 32 [.slice none 0 0, .slice none 0 0, .slice none 0 0]), aB (wn3.heap.size) 29 [.int .i64 k, .int .i64 p, .int .i64 n, .slice (some ⟨bT, oT, none⟩) 1 cK, .slice aP op.length cP], (bif b 5 then aT (tup0 (t 5)) op (op.map dm) (flat RX) else emp)] ∧ OrExt (b 8) wk wx ∧ (b 0 = true → t 0 = .agg #[.int .i64 k, .int .i64 p, .int .i64 n, .slice aV m cV, .slice aO op.length cO]) ∧ (b 1 = true → t 1 = .pointer (some ⟨wn3.heap.size, 3, none⟩)) ∧ (b 2 = true → t 2 = .slice (some ⟨bT, oT, none⟩) 1 cK) ∧ (b 3 = true → t 3 = .pointer (some ⟨bT, oT, none⟩)) ∧ (b 4 = true → t 4 = .agg #[u1, u2, u3]) ∧ (b 5 = true → ∃ p1 n1 c1 p2 n2 c2 p3 n3 c3, t 5 = .tuple #[.agg #[.slice p1 n1 c1, .slice p2 n2 c2, .slice p3 n3 c3], .bool true]) ∧ (b 6 = true → t 6 = tup0 (t 5)) ∧ (b 7 = true → t 7 = .bool true) ∧ (b 9 = true → t 9 = .bool true)) ?hFa (by kernel_rfl) (by kernel_rfl) ?hJa ?hSa ?hEa
    (case hFa => intro t; simp only [putAll, Act.put, List.setIfInBounds_toArray, List.set_cons_zero, List.set_cons_succ, Nat.reduceAdd, Nat.zero_add]; exact rfl)
    case hJa => exact ⟨hH.grow ((Ext.refl _).drew), hEK.ext ((Ext.refl _).drew), fun h => absurd h Bool.false_ne_true, fun h => absurd h Bool.false_ne_true, fun h => absurd h Bool.false_ne_true, fun h => absurd h Bool.false_ne_true, fun h => absurd h Bool.false_ne_true, fun h => absurd h Bool.false_ne_true, fun h => absurd h Bool.false_ne_true, fun h => absurd h Bool.false_ne_true, fun h => absurd h Bool.false_ne_true⟩
    case hSa => as_aux_lemma =>
     refine AllSteps.cons (j := 1) rfl (fun b t wx hJ hb hd hcl Kc hK => ?_) ?_
     · obtain ⟨hH, hEK, v0, v1, v2, v3, v4, v5, v6, v7, v9⟩ := hJ
       have q0_0 := hH.cl 0 0 rfl rfl; have q0_1 := hH.cl 0 1 rfl rfl; have q0_2 := hH.cl 0 2 rfl rfl; have q0_3 := hH.cl 0 3 rfl rfl; have q0_4 := hH.cl 0 4 rfl rfl
       go_simp
       refine hK.out _ ?_ _ ?_ ?_; rotate_left 2
       · rfl
       exact ⟨hH, hEK, fun _ => rfl, v1, v2, v3, v4, v5, v6, v7, v9⟩
     refine AllSteps.cons (j := 2) rfl (fun b t wx hJ hb hd hcl Kc hK => ?_) ?_
     · obtain ⟨hH, hEK, v0, v1, v2, v3, v4, v5, v6, v7, v9⟩ := hJ
       go_simp
       refine hK.out _ ?_ _ ?_ ?_; rotate_left 2
       · rfl
       exact ⟨hH, hEK, v0, fun _ => rfl, v2, v3, v4, v5, v6, v7, v9⟩
     refine AllSteps.cons (j := 3) rfl (fun b t wx hJ hb hd hcl Kc hK => ?_) ?_
     · obtain ⟨hH, hEK, v0, v1, v2, v3, v4, v5, v6, v7, v9⟩ := hJ
       have d1 := hd.out 1 (by kernel_rfl); have r1 := v1 d1; have q2_3 := hH.cl 2 3 rfl rfl
       go_simp
       refine hK.out _ ?_ _ ?_ ?_; rotate_left 2
       · (try simp only [r1]); rfl
       exact ⟨hH, hEK, v0, v1, fun _ => rfl, v3, v4, v5, v6, v7, v9⟩
     refine AllSteps.cons (j := 4) rfl (fun b t wx hJ hb hd hcl Kc hK => ?_) ?_
     · obtain ⟨hH, hEK, v0, v1, v2, v3, v4, v5, v6, v7, v9⟩ := hJ
       have d2 := hd.out 2 (by kernel_rfl); have r2 := v2 d2
       go_simp
       refine hK.out _ ?_ _ ?_ ?_; rotate_left 2
       · (try simp only [r2]); rfl
       exact ⟨hH, hEK, v0, v1, v2, fun _ => rfl, v4, v5, v6, v7, v9⟩
     refine AllSteps.cons (j := 5) rfl (fun b t wx hJ hb hd hcl Kc hK => ?_) ?_
     · obtain ⟨hH, hEK, v0, v1, v2, v3, v4, v5, v6, v7, v9⟩ := hJ
       have d3 := hd.out 3 (by kernel_rfl)
       have n8 : b 8 = false := Bool.eq_false_iff.2 fun h => absurd (hcl.out 8 4 (by kernel_rfl) (h)) (by rw [hb]; exact Bool.false_ne_true)
       have r3 := v3 d3
       have E := hEK.out n8; have x0 := E.cell hx0; have x1 := E.cell hx1; have x2 := E.cell hx2
       go_simp
       refine hK.out _ ?_ _ ?_ ?_; rotate_left 2
       · (try simp only [r3]); rfl
       exact ⟨hH, hEK, v0, v1, v2, v3, fun _ => rfl, v5, v6, v7, v9⟩
     refine AllSteps.cons (j := 6) rfl (fun b t wx hJ hb hd hcl Kc hK => ?_) ?_
     · obtain ⟨hH, hEK, v0, v1, v2, v3, v4, v5, v6, v7, v9⟩ := hJ
       have d0 := hd.out 0 (by kernel_rfl); have d4 := hd.out 4 (by kernel_rfl)
       have n6 : b 6 = false := Bool.eq_false_iff.2 fun h => absurd (hcl.out 6 5 (by kernel_rfl) (h)) (by rw [hb]; exact Bool.false_ne_true)
       have n8 : b 8 = false := Bool.eq_false_iff.2 fun h => absurd (hcl.out 8 5 (by kernel_rfl) (h)) (by rw [hb]; exact Bool.false_ne_true)
       have r0 := v0 d0; have r4 := v4 d4
       have hN := hH; (try simp only [hb, d0, d4, n6, n8, cond_true, cond_false] at hN)
       go_simp
       go_at_call 66
       refine (finishTensor_any HR.out HN.out _ _ _ (hT0.ext hH.ext) (hO0.ext hH.ext) HTI.out HSUB.out _ (hTu.ext (hEK.out n8))).mono ?_; rintro e5 w5 ⟨v10, rfl, o10, h10⟩
       rw [HFX.out] at o10
       obtain ⟨pb1, nb1, cb1, pb2, nb2, cb2, pb3, nb3, cb3, rfl⟩ := o10.shape
       (try go_simp)
       refine hK.out _ ?_ _ ?_ ?_; rotate_left 2
       · (try simp only [r0, r4]); rfl
       exact ⟨by have hX := hN.addT 3 h10 o10 (Nat.le_refl _); simpa only [List.set_cons_zero, List.set_cons_succ, updB, updV, blkOf_mk, tup0_mk, partsOf3, Nat.reduceBEq, cond_true, cond_false, hb, d0, d4, n6, n8, r0, r4] using hX, hEK.ext h10, v0, v1, v2, v3, v4, fun _ => ⟨_, _, _, _, _, _, _, _, _, rfl⟩, fun h => absurd (show b 6 = true from h) (by rw [n6]; exact Bool.false_ne_true), v7, v9⟩
     refine AllSteps.cons (j := 7) rfl (fun b t wx hJ hb hd hcl Kc hK => ?_) ?_
     · obtain ⟨hH, hEK, v0, v1, v2, v3, v4, v5, v6, v7, v9⟩ := hJ
       have d5 := hd.out 5 (by kernel_rfl)
       have n8 : b 8 = false := Bool.eq_false_iff.2 fun h => absurd (hcl.out 8 6 (by kernel_rfl) (h)) (by rw [hb]; exact Bool.false_ne_true)
       have r5 := v5 d5
       obtain ⟨p1_5, n1_5, c1_5, p2_5, n2_5, c2_5, p3_5, n3_5, c3_5, r5⟩ := r5
       have hN := hH; (try simp only [hb, d5, n8, cond_true, cond_false] at hN)
       have e5 := r5 -- d5
       go_simp
       refine hK.out _ ?_ _ ?_ ?_; rotate_left 2
       · (try simp only [r5]); rfl
       exact ⟨by have hX := hN; simpa only [List.set_cons_zero, List.set_cons_succ, updB, updV, blkOf_mk, tup0_mk, partsOf3, Nat.reduceBEq, cond_true, cond_false, hb, d5, n8, r5] using hX, hEK, v0, v1, v2, v3, v4, v5, fun _ => (by show _ = tup0 (t 5); rw [r5]; rfl), v7, v9⟩
     refine AllSteps.cons (j := 8) rfl (fun b t wx hJ hb hd hcl Kc hK => ?_) ?_
     · obtain ⟨hH, hEK, v0, v1, v2, v3, v4, v5, v6, v7, v9⟩ := hJ
       have d5 := hd.out 5 (by kernel_rfl); have r5 := v5 d5
       obtain ⟨p1_5, n1_5, c1_5, p2_5, n2_5, c2_5, p3_5, n3_5, c3_5, r5⟩ := r5
       have e5 := r5 -- d5
       go_simp
       refine hK.out _ ?_ _ ?_ ?_; rotate_left 2
       · (try simp only [r5]); rfl
       exact ⟨hH, hEK, v0, v1, v2, v3, v4, v5, v6, fun _ => rfl, v9⟩
     refine AllSteps.cons (j := 9) rfl (fun b t wx hJ hb hd hcl Kc hK => ?_) ?_
     · obtain ⟨hH, hEK, v0, v1, v2, v3, v4, v5, v6, v7, v9⟩ := hJ
       have d0 := hd.out 0 (by kernel_rfl); have d1 := hd.out 1 (by kernel_rfl); have d2 := hd.out 2 (by kernel_rfl); have d3 := hd.out 3 (by kernel_rfl); have d4 := hd.out 4 (by kernel_rfl); have d5 := hd.out 5 (by kernel_rfl); have d6 := hd.out 6 (by kernel_rfl); have d7 := hd.out 7 (by kernel_rfl); have r0 := v0 d0; have r1 := v1 d1; have r2 := v2 d2; have r3 := v3 d3; have r4 := v4 d4; have r5 := v5 d5; have r6 := v6 d6; have r7 := v7 d7
       obtain ⟨p1_5, n1_5, c1_5, p2_5, n2_5, c2_5, p3_5, n3_5, c3_5, r5⟩ := r5
       have hN := hH; (try simp only [hb, d0, d1, d2, d3, d4, d5, d6, d7, cond_true, cond_false] at hN)
       rw [r5, tup0_mk] at r6 -- d5 d6
       have B := hN.blk (k := 1) rfl
       have f0 := B.free 0; have f1 := B.free 1; have f2 := B.free 2; have z0 := B.cell (j := 0) rfl; have z1 := B.cell (j := 1) rfl; have z2 := B.cell (j := 2) rfl; have lB := B.lt; have hmk0 := @tup0_mk
       go_simp
       refine hK.out _ undef _ ?_ ?_; rotate_left 1
       · (try simp only [r0, r1, r2, r3, r4, r5, r6, r7]); rfl
       exact ⟨by have hX := hN.setB3' (k := 1) rfl (.slice p1_5 n1_5 c1_5) (.slice p2_5 n2_5 c2_5) (.slice p3_5 n3_5 c3_5); simpa only [List.set_cons_zero, List.set_cons_succ, updB, updV, blkOf_mk, tup0_mk, partsOf3, Nat.reduceBEq, cond_true, cond_false, hb, d0, d1, d2, d3, d4, d5, d6, d7, r0, r1, r2, r3, r4, r5, r6, r7] using hX, (.inl rfl), v0, v1, v2, v3, v4, v5, v6, v7, v9⟩
     refine AllSteps.cons (j := 10) rfl (fun b t wx hJ hb hd hcl Kc hK => ?_) ?_
     · obtain ⟨hH, hEK, v0, v1, v2, v3, v4, v5, v6, v7, v9⟩ := hJ
       have d0 := hd.out 0 (by kernel_rfl); have d1 := hd.out 1 (by kernel_rfl); have d2 := hd.out 2 (by kernel_rfl); have d3 := hd.out 3 (by kernel_rfl); have d4 := hd.out 4 (by kernel_rfl); have d5 := hd.out 5 (by kernel_rfl); have d6 := hd.out 6 (by kernel_rfl); have d7 := hd.out 7 (by kernel_rfl); have d8 := hd.out 8 (by kernel_rfl); have r0 := v0 d0; have r1 := v1 d1; have r2 := v2 d2; have r3 := v3 d3; have r4 := v4 d4; have r5 := v5 d5; have r6 := v6 d6; have r7 := v7 d7
       obtain ⟨p1_5, n1_5, c1_5, p2_5, n2_5, c2_5, p3_5, n3_5, c3_5, r5⟩ := r5
       go_simp
       refine hK.out _ ?_ _ ?_ ?_; rotate_left 2
       · (try simp only [r0, r1, r2, r3, r4, r5, r6, r7]); rfl
       exact ⟨hH, hEK, v0, v1, v2, v3, v4, v5, v6, v7, fun _ => rfl⟩
     exact AllSteps.nil
    case hEa =>
     intro b t wa hJ hall
     obtain ⟨hHa, hEKa, v0, v1, v2, v3, v4, v5, v6, v7, v9⟩ := hJ
     have a0 := hall 0 (by decide); have a1 := hall 1 (by decide); have a2 := hall 2 (by decide); have a3 := hall 3 (by decide); have a4 := hall 4 (by decide); have a5 := hall 5 (by decide); have a6 := hall 6 (by decide); have a7 := hall 7 (by decide); have a8 := hall 8 (by decide); have a9 := hall 9 (by decide)
     (try simp only [a0, a1, a2, a3, a4, a5, a6, a7, a8, a9, cond_true] at hHa)
     (try simp only [a0, a1, a2, a3, a4, a5, a6, a7, a8, a9, cond_true] at hEKa)
     replace v0 := v0 a0; replace v1 := v1 a1; replace v2 := v2 a2; replace v3 := v3 a3; replace v4 := v4 a4; replace v5 := v5 a5; replace v6 := v6 a6; replace v7 := v7 a7; replace v9 := v9 a9
     clear hall a0 a1 a2 a3 a4 a5 a6 a7 a8 a9
     generalize t 9 = x9 at hHa v9 ⊢; generalize t 7 = x7 at hHa v7 ⊢; generalize t 6 = x6 at hHa v6 ⊢; generalize t 5 = x5 at hHa v5 v6 ⊢; generalize t 4 = x4 at hHa v4 ⊢; generalize t 3 = x3 at hHa v3 ⊢; generalize t 2 = x2 at hHa v2 ⊢; generalize t 1 = x1 at hHa v1 ⊢; generalize t 0 = x0 at hHa v0 ⊢; subst v0; subst v1; subst v2; subst v3; subst v4
     obtain ⟨p1a5, n1a5, c1a5, p2a5, n2a5, c2a5, p3a5, n3a5, c3a5, rfl⟩ := v5
     subst v6; subst v7; subst v9
     simp only [blkOf_mk, tup0_mk, partsOf3] at hHa
     clear b
     replace hH := hHa; clear hHa
     replace hH : Held w wa [aB (w.heap.size) 29 [.int .i64 k, .int .i64 p, .int .i64 n, .slice aV m cV, .slice aO op.length cO], aB (w.heap.size + 1) 32 [.slice p1a5 n1a5 c1a5, .slice p2a5 n2a5 c2a5, .slice p3a5 n3a5 c3a5], aB (wn3.heap.size) 29 [.int .i64 k, .int .i64 p, .int .i64 n, .slice (some ⟨bT, oT, none⟩) 1 cK, .slice aP op.length cP], aT (.agg #[.slice p1a5 n1a5 c1a5, .slice p2a5 n2a5 c2a5, .slice p3a5 n3a5 c3a5]) op (op.map dm) (flat RX)] := hH
     clear hx0 hx1 hx2 hEKa
     have q0_0 := hH.cl 0 0 rfl rfl; have q0_1 := hH.cl 0 1 rfl rfl; have q0_2 := hH.cl 0 2 rfl rfl; have q0_3 := hH.cl 0 3 rfl rfl; have q0_4 := hH.cl 0 4 rfl rfl; have l0_ := hH.bl 0 rfl; have q1_0 := hH.cl 1 0 rfl rfl; have f1_0 := hH.fr 1 0 rfl; have q1_1 := hH.cl 1 1 rfl rfl; have f1_1 := hH.fr 1 1 rfl; have q1_2 := hH.cl 1 2 rfl rfl; have f1_2 := hH.fr 1 2 rfl; have l1_ := hH.bl 1 rfl; have q2_0 := hH.cl 2 0 rfl rfl; have q2_1 := hH.cl 2 1 rfl rfl; have q2_2 := hH.cl 2 2 rfl rfl; have q2_3 := hH.cl 2 3 rfl rfl; have q2_4 := hH.cl 2 4 rfl rfl; have l2_ := hH.bl 2 rfl
     go_wp2_with fail
     refine bodyPost_ret (v := .tuple #[.agg #[.slice p1a5 n1a5 c1a5, .slice p2a5 n2a5 c2a5, .slice p3a5 n3a5 c3a5], .bool true]) (by simp [results, Try.results67, go_sem, *]) rfl ?_
     have hf := hH
     exact ⟨_, rfl, hf.ownT (k := 3) rfl, hf.ext⟩
end Go.Proofs.Ytpegckmagiaggaa
