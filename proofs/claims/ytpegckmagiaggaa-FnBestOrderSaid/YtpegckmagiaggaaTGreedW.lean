/- greedySteps, GreedyOrder of the program. -/
import Derived.Test.YtpegckmagiaggaaTGreedP
set_option linter.unusedSimpArgs false
set_option linter.unusedVariables false
namespace Go.Proofs.Ytpegckmagiaggaa
open Go.RowKit
set_option maxRecDepth 100000 in
set_option maxHeartbeats 4000000 in
theorem greedySteps_any {k p n : Int} (hr : ringOk k p n = true) {dm : Int → Int} {U : List Int} {ts : List (NT k p n)} {op : List Int} (hN : IsN k p n dm U ts op) {s : Nat} {cs0 : List (Int × Value)} (w : World) (hS0 : OrdS w s (arrL dm (occ ts)) op cs0 (ts.map (·.1)) (ts.length : Int)) (hC0 : cs0.map (·.1) = numL ts.length) :
 Calls Try.prog 148 #[.pointer (some ⟨s, 0, none⟩)] w fun e w' => ∃ u os, e = .returned u ∧ HeldX (some s) w w' [aSt u os] ∧ okO (numL ts.length) (ts.length : Int) os ∧ os.length = ts.length - 1 := by
 have HR := Lib.hid hr; have HN := Lib.hid hN; have HC0 := Lib.hid hC0; clear hN hC0
 obtain ⟨m, hm⟩ : ∃ m, ts.length = m := ⟨_, rfl⟩
 have hm12 : m ≤ 12 := by rw [← hm]; exact HN.out.len
 have HM := Lib.hid hm; clear hm
 have hsw := hS0.lt
 go_enter Try.func148, Try.ntmps148
 go_wp2_with fail
 go_loopw [3] (fun vo wr => ∃ (os : List (Int × Int)) (cs : List (Int × Value)) (ns : List Int) (tj : List (NT k p n)), Hid (MakG HR.out dm U op ts os ns tj) ∧ Hid (cs.map (·.1) = ns) ∧ OrdV wr s vo (arrL dm (occ ts)) op cs (tj.map (·.1)) ((ts.length : Int) + os.length) ∧ HeldX (some s) w wr [aSt vo os]) (fun vo wr => 13 - lenV vo)
 case atStart => exact ⟨[], cs0, numL ts.length, ts, Lib.hid (MakG.start HN.out), HC0, by rw [show (ts.length : Int) + (([] : List (Int × Int)).length : Int) = (ts.length : Int) by simp]; exact OrdV.nil hS0 rfl, (HeldX.newX (grown_refl w (some s)) 0).nilR 138 2⟩
 case round =>
  clear hS0 HC0
  obtain ⟨os, cs, ns, tj, HK, HC, hSV, hX⟩ := hrel
  obtain ⟨wq, rfl⟩ : ∃ q, q = wr := ⟨wr, rfl⟩
  obtain ⟨aq, cq, rfl, _, _⟩ := (hX.steps (k := 0) rfl).val
  have HOSV := Lib.hid hSV
  have hS := hSV.st
  have hleft := HK.out.ats.left
  rw [HM.out] at hleft
  have hll : (tj.map (·.1)).length ≤ 1000 := by rw [List.length_map]; omega
  have hrk : ∀ l ∈ tj.map (·.1), l.length ≤ 500 := fun l hl => Nat.le_trans (HK.out.ats.rank l hl) (by omega)
  have hnx0 : (0 : Int) ≤ (ts.length : Int) + os.length := by omega
  have hnx1 : (ts.length : Int) + os.length ≤ 2000 := by rw [HM.out]; omega
  have HRK2 := Lib.hid hrk; have HNX := Lib.hid (And.intro hnx0 hnx1); have HLL2 := Lib.hid hll
  clear hrk hnx0 hnx1 hll
  obtain ⟨ov, lv, hB, hov, hovs, hLv⟩ := hS.has
  obtain ⟨aV, cV, rfl, hcV1, hcV2⟩ := hLv.val
  obtain ⟨mj, hmj⟩ : ∃ q, tj.length = q := ⟨_, rfl⟩
  have HMJ := Lib.hid hmj
  rw [List.length_map, hmj] at hLv hcV1 hB
  have k101 := (state_100 (arrL_length _ _) hB).2.1
  have kst := hB.lt
  clear hB hov hovs hmj
  rw [HMJ.out] at hleft
  have hol12 : os.length ≤ 12 := by omega
  have HLF := Lib.hid hleft; clear hleft
  clear hSV
  have HOS : Hid (OrdS wq s (arrL dm (occ ts)) op cs (tj.map (·.1)) ((ts.length : Int) + os.length)) := Lib.hid hS; clear hS
  have HSZ := Lib.hid (fun (wx : World) (hS : OrdS wx s (arrL dm (occ ts)) op cs (tj.map (·.1)) ((ts.length : Int) + os.length)) (L : List Int) => size_any (dm := dm) (S := occ ts) (L := L) wx hS HLL2.out)
  by_cases hlt1 : 1 < mj
  ·
   have hlt1i : (1 : Int) < (mj : Int) := by omega
   have hH : Held wq wq [] := Held.new (Ext.refl wq) 0
   have c_k101 := hH.ext.cell k101
   have c_kst := Nat.lt_of_lt_of_le kst hH.ext.size
   go_wp2_with fail
   clear c_k101 c_kst
   go_loopw [4, 5, 6, 21] (fun vI vJ vb iv wr => ∃ (i : Nat) (bI bJ z : Int), i ≤ mj ∧ iv = .int .i64 (i : Int) ∧ vI = .int .i64 bI ∧ vJ = .int .i64 bJ ∧ vb = .int .i64 z ∧ Hid ((bI = -1 ∧ i = 0) ∨ ∃ x y : Nat, bI = (x : Int) ∧ bJ = (y : Int) ∧ x < y ∧ y < mj) ∧ Held wq wr []) (fun vI vJ vb iv wr => mj - (RowKit.intOf iv).toNat)
   case atStart => exact ⟨0, -1, -1, 0, Nat.zero_le _, rfl, rfl, rfl, rfl, Lib.hid (.inl ⟨rfl, rfl⟩), hH⟩
   case round =>
    clear hH
    obtain ⟨i, bI, bJ, z, hi, rfl, rfl, rfl, rfl, HB, hH⟩ := hrel
    obtain ⟨wp0, rfl⟩ : ∃ q, q = wr := ⟨wr, rfl⟩
    by_cases hlt2 : i < mj
    ·
     have c_k101 := hH.ext.cell k101
     have c_kst := Nat.lt_of_lt_of_le kst hH.ext.size
     go_wp2_with fail
     clear c_k101 c_kst
     go_loopw [4, 5, 6, 8] (fun vI vJ vb jv wr => ∃ (j : Nat) (bI bJ z : Int), i + 1 ≤ j ∧ j ≤ mj ∧ jv = .int .i64 (j : Int) ∧ vI = .int .i64 bI ∧ vJ = .int .i64 bJ ∧ vb = .int .i64 z ∧ Hid ((bI = -1 ∧ i = 0 ∧ j = i + 1) ∨ ∃ x y : Nat, bI = (x : Int) ∧ bJ = (y : Int) ∧ x < y ∧ y < mj) ∧ Held wq wr []) (fun vI vJ vb jv wr => mj - (RowKit.intOf jv).toNat)
     case atStart => exact ⟨i + 1, bI, bJ, z, Nat.le_refl _, by omega, by first | rfl | go_num, rfl, rfl, rfl, Lib.hid (HB.out.imp (fun h => ⟨h.1, h.2, rfl⟩) id), hH⟩
     case round =>
      clear hH HB
      obtain ⟨j, bI, bJ, z, hij, hj, rfl, rfl, rfl, rfl, HB, hH⟩ := hrel
      obtain ⟨wk, rfl⟩ : ∃ q, q = wr := ⟨wr, rfl⟩
      by_cases hlt3 : j < mj
      ·
       obtain ⟨bL, oL, ca, la, hV, hcj, hlj, hq0a, hq1a, hIa⟩ := hLv.get (i := i) (by rw [List.length_map, HMJ.out]; exact hlt2)
       subst hV
       obtain ⟨na, ua⟩ := ca
       simp only at hq0a hq1a hIa
       obtain ⟨eaa, eca, rfl, _, _⟩ := hIa.val
       rw [Nat.mul_comm 2 (i)] at hq0a hq1a
       rw [← Nat.add_assoc] at hq1a
       have HLa := Lib.hid (show labAt (tj.map (·.1)) (i) = la from labAt_get hlj)
       have HMta : Hid (∃ t ∈ tj, t.1 = la) := Lib.hid (by rw [List.getElem?_map] at hlj; obtain ⟨t, ht, he⟩ := Option.map_eq_some_iff.1 hlj; exact ⟨t, List.mem_of_getElem? ht, he⟩)
       clear hcj hlj
       obtain ⟨_, _, cb, lb, hV, hcj, hlj, hq0b, hq1b, hIb⟩ := hLv.get (i := j) (by rw [List.length_map, HMJ.out]; exact hlt3)
       cases hV
       obtain ⟨nb, ub⟩ := cb
       simp only at hq0b hq1b hIb
       obtain ⟨eab, ecb, rfl, _, _⟩ := hIb.val
       rw [Nat.mul_comm 2 (j)] at hq0b hq1b
       rw [← Nat.add_assoc] at hq1b
       have HLb := Lib.hid (show labAt (tj.map (·.1)) (j) = lb from labAt_get hlj)
       have HMtb : Hid (∃ t ∈ tj, t.1 = lb) := Lib.hid (by rw [List.getElem?_map] at hlj; obtain ⟨t, ht, he⟩ := Option.map_eq_some_iff.1 hlj; exact ⟨t, List.mem_of_getElem? ht, he⟩)
       clear hcj hlj
       have HSA := Lib.hid (HK.out.ats.szOk HK.out.ok (numL_len _) (L := la) (fun x hx => by obtain ⟨t, ht, he⟩ := HMta.out; rw [← he] at hx; exact mem_occ.2 ⟨t, ht, hx⟩) (by obtain ⟨t, ht, he⟩ := HMta.out; rw [← he]; exact (HK.out.ats.isN.ten t ht).sub.nodup))
       have HSB := Lib.hid (HK.out.ats.szOk HK.out.ok (numL_len _) (L := lb) (fun x hx => by obtain ⟨t, ht, he⟩ := HMtb.out; rw [← he] at hx; exact mem_occ.2 ⟨t, ht, hx⟩) (by obtain ⟨t, ht, he⟩ := HMtb.out; rw [← he]; exact (HK.out.ats.isN.ten t ht).sub.nodup))
       obtain ⟨RL, hRL⟩ : ∃ q, resL op (tj.map (·.1)) i j = q := ⟨_, rfl⟩
       have HSR := Lib.hid (HK.out.ats.szOk HK.out.ok (numL_len _) (L := RL) (fun x hx => by
        rw [← hRL] at hx
        unfold resL at hx
        rw [HLa.out, HLb.out] at hx
        rcases mem_joinL.1 (mem_keepL.1 hx).1 with hx | hx
        · obtain ⟨t, ht, he⟩ := HMta.out; rw [← he] at hx; exact mem_occ.2 ⟨t, ht, hx⟩
        · obtain ⟨t, ht, he⟩ := HMtb.out; rw [← he] at hx; exact mem_occ.2 ⟨t, ht, hx⟩) (by
        rw [← hRL]
        unfold resL
        rw [HLa.out, HLb.out]
        obtain ⟨t, ht, he⟩ := HMta.out
        obtain ⟨t', ht', he'⟩ := HMtb.out
        rw [← he, ← he']
        exact (((HK.out.ats.isN.ten t ht).sub.join (HK.out.ats.isN.ten t' ht').sub).filter _).nodup))
       obtain ⟨PA, hPA⟩ : ∃ q, prodL (la.map dm) = q := ⟨_, rfl⟩
       obtain ⟨PB, hPB⟩ : ∃ q, prodL (lb.map dm) = q := ⟨_, rfl⟩
       obtain ⟨PR, hPR⟩ : ∃ q, prodL (RL.map dm) = q := ⟨_, rfl⟩
       have h1 : 1 ≤ PA ∧ PA ≤ 4096 := by rw [← hPA]; exact ⟨prodL_pos HSA.out.2.1, HSA.out.2.2.1⟩
       have h2 : 1 ≤ PB ∧ PB ≤ 4096 := by rw [← hPB]; exact ⟨prodL_pos HSB.out.2.1, HSB.out.2.2.1⟩
       have h3 : 1 ≤ PR ∧ PR ≤ 4096 := by rw [← hPR]; exact ⟨prodL_pos HSR.out.2.1, HSR.out.2.2.1⟩
       obtain ⟨G1, hG1⟩ : ∃ q, PR - PA = q := ⟨_, rfl⟩
       obtain ⟨G2, hG2⟩ : ∃ q, G1 - PB = q := ⟨_, rfl⟩
       have HG1 : Hid (IntKind.i64.wrap (PR - PA) = G1) := Lib.hid (by rw [IntKind.wrap_i64]; omega)
       have HG2 : Hid (IntKind.i64.wrap (G1 - PB) = G2) := Lib.hid (by rw [IntKind.wrap_i64]; omega)
       have HPA := Lib.hid hPA; have HPB := Lib.hid hPB; have HPR := Lib.hid hPR; have HRL := Lib.hid hRL
       clear hPA hPB hPR hRL hG1 hG2 h1 h2 h3
       have c_k101 := hH.ext.cell k101; have c_hq0a := hH.ext.cell hq0a; have c_hq1a := hH.ext.cell hq1a; have c_hq0b := hH.ext.cell hq0b; have c_hq1b := hH.ext.cell hq1b
       have c_kst := Nat.lt_of_lt_of_le kst hH.ext.size
       go_upto_region 10 with fail
       clear c_k101 c_hq0a c_hq1a c_hq0b c_hq1b c_kst
       replace hH := hH.mores 1
       replace hH : Held wq wk [emp] := hH
       refine wp_region_steps ?Fa (fun b t wx => Held wq wx [(bif b 4 then aI (t 4) RL else emp)] ∧ (b 0 = true → t 0 = .pointer (some ⟨s, 0, none⟩)) ∧ (b 1 = true → t 1 = .pointer (some ⟨s, 0, none⟩)) ∧ (b 2 = true → t 2 = .int .i64 (i : Int)) ∧ (b 3 = true → t 3 = .int .i64 (j : Int)) ∧ (b 4 = true → ∃ x c n, t 4 = .slice x n c) ∧ (b 5 = true → t 5 = .int .i64 PR) ∧ (b 6 = true → t 6 = .pointer (some ⟨s, 0, none⟩)) ∧ (b 7 = true → t 7 = .pointer (some ⟨s, 0, none⟩)) ∧ (b 8 = true → t 8 = .pointer (some ⟨s, 0, none⟩)) ∧ (b 9 = true → t 9 = .pointer (some ⟨s, 101, none⟩)) ∧ (b 10 = true → t 10 = .slice (some ⟨bL, oL, none⟩) mj cV) ∧ (b 11 = true → t 11 = .int .i64 (i : Int)) ∧ (b 12 = true → t 12 = .pointer (some ⟨bL, oL + i * 2, none⟩)) ∧ (b 13 = true → t 13 = .pointer (some ⟨bL, oL + i * 2 + 1, none⟩)) ∧ (b 14 = true → t 14 = .slice eaa la.length eca) ∧ (b 15 = true → t 15 = .int .i64 PA) ∧ (b 16 = true → t 16 = .int .i64 G1) ∧ (b 17 = true → t 17 = .pointer (some ⟨s, 0, none⟩)) ∧ (b 18 = true → t 18 = .pointer (some ⟨s, 0, none⟩)) ∧ (b 19 = true → t 19 = .pointer (some ⟨s, 0, none⟩)) ∧ (b 20 = true → t 20 = .pointer (some ⟨s, 101, none⟩)) ∧ (b 21 = true → t 21 = .slice (some ⟨bL, oL, none⟩) mj cV) ∧ (b 22 = true → t 22 = .int .i64 (j : Int)) ∧ (b 23 = true → t 23 = .pointer (some ⟨bL, oL + j * 2, none⟩)) ∧ (b 24 = true → t 24 = .pointer (some ⟨bL, oL + j * 2 + 1, none⟩)) ∧ (b 25 = true → t 25 = .slice eab lb.length ecb) ∧ (b 26 = true → t 26 = .int .i64 PB) ∧ (b 27 = true → t 27 = .int .i64 G2) ∧ (b 28 = true → t 28 = t 27)) ?hFa (by kernel_rfl) (by kernel_rfl) ?hJa ?hSa ?hEa
       (case hFa => intro t; simp only [putAll, Act.put, List.setIfInBounds_toArray, List.set_cons_zero, List.set_cons_succ, Nat.reduceAdd, Nat.zero_add]; exact rfl)
       case hJa => exact ⟨hH.grow ((Ext.refl _).drew), fun h => absurd h Bool.false_ne_true, fun h => absurd h Bool.false_ne_true, fun h => absurd h Bool.false_ne_true, fun h => absurd h Bool.false_ne_true, fun h => absurd h Bool.false_ne_true, fun h => absurd h Bool.false_ne_true, fun h => absurd h Bool.false_ne_true, fun h => absurd h Bool.false_ne_true, fun h => absurd h Bool.false_ne_true, fun h => absurd h Bool.false_ne_true, fun h => absurd h Bool.false_ne_true, fun h => absurd h Bool.false_ne_true, fun h => absurd h Bool.false_ne_true, fun h => absurd h Bool.false_ne_true, fun h => absurd h Bool.false_ne_true, fun h => absurd h Bool.false_ne_true, fun h => absurd h Bool.false_ne_true, fun h => absurd h Bool.false_ne_true, fun h => absurd h Bool.false_ne_true, fun h => absurd h Bool.false_ne_true, fun h => absurd h Bool.false_ne_true, fun h => absurd h Bool.false_ne_true, fun h => absurd h Bool.false_ne_true, fun h => absurd h Bool.false_ne_true, fun h => absurd h Bool.false_ne_true, fun h => absurd h Bool.false_ne_true, fun h => absurd h Bool.false_ne_true, fun h => absurd h Bool.false_ne_true, fun h => absurd h Bool.false_ne_true⟩
       case hSa => as_aux_lemma =>
         refine AllSteps.cons (j := 1) rfl (fun b t wx hJ hb hd hcl Kc hK => ?_) ?_
         · obtain ⟨hH, v0, v1, v2, v3, v4, v5, v6, v7, v8, v9, v10, v11, v12, v13, v14, v15, v16, v17, v18, v19, v20, v21, v22, v23, v24, v25, v26, v27, v28⟩ := hJ
           have c_k101 := hH.ext.cell k101; have c_hq1a := hH.ext.cell hq1a; have c_hq1b := hH.ext.cell hq1b
           go_simp
           refine hK.out _ ?_ _ ?_ ?_; rotate_left 2
           · rfl
           exact ⟨hH, fun _ => rfl, v1, v2, v3, v4, v5, v6, v7, v8, v9, v10, v11, v12, v13, v14, v15, v16, v17, v18, v19, v20, v21, v22, v23, v24, v25, v26, v27, v28⟩
         refine AllSteps.cons (j := 2) rfl (fun b t wx hJ hb hd hcl Kc hK => ?_) ?_
         · obtain ⟨hH, v0, v1, v2, v3, v4, v5, v6, v7, v8, v9, v10, v11, v12, v13, v14, v15, v16, v17, v18, v19, v20, v21, v22, v23, v24, v25, v26, v27, v28⟩ := hJ
           have c_k101 := hH.ext.cell k101; have c_hq1a := hH.ext.cell hq1a; have c_hq1b := hH.ext.cell hq1b
           go_simp
           refine hK.out _ ?_ _ ?_ ?_; rotate_left 2
           · rfl
           exact ⟨hH, v0, fun _ => rfl, v2, v3, v4, v5, v6, v7, v8, v9, v10, v11, v12, v13, v14, v15, v16, v17, v18, v19, v20, v21, v22, v23, v24, v25, v26, v27, v28⟩
         refine AllSteps.cons (j := 3) rfl (fun b t wx hJ hb hd hcl Kc hK => ?_) ?_
         · obtain ⟨hH, v0, v1, v2, v3, v4, v5, v6, v7, v8, v9, v10, v11, v12, v13, v14, v15, v16, v17, v18, v19, v20, v21, v22, v23, v24, v25, v26, v27, v28⟩ := hJ
           have c_k101 := hH.ext.cell k101; have c_hq1a := hH.ext.cell hq1a; have c_hq1b := hH.ext.cell hq1b
           go_simp
           refine hK.out _ ?_ _ ?_ ?_; rotate_left 2
           · rfl
           exact ⟨hH, v0, v1, fun _ => rfl, v3, v4, v5, v6, v7, v8, v9, v10, v11, v12, v13, v14, v15, v16, v17, v18, v19, v20, v21, v22, v23, v24, v25, v26, v27, v28⟩
         refine AllSteps.cons (j := 4) rfl (fun b t wx hJ hb hd hcl Kc hK => ?_) ?_
         · obtain ⟨hH, v0, v1, v2, v3, v4, v5, v6, v7, v8, v9, v10, v11, v12, v13, v14, v15, v16, v17, v18, v19, v20, v21, v22, v23, v24, v25, v26, v27, v28⟩ := hJ
           have c_k101 := hH.ext.cell k101; have c_hq1a := hH.ext.cell hq1a; have c_hq1b := hH.ext.cell hq1b
           go_simp
           refine hK.out _ ?_ _ ?_ ?_; rotate_left 2
           · rfl
           exact ⟨hH, v0, v1, v2, fun _ => rfl, v4, v5, v6, v7, v8, v9, v10, v11, v12, v13, v14, v15, v16, v17, v18, v19, v20, v21, v22, v23, v24, v25, v26, v27, v28⟩
         refine AllSteps.cons (j := 5) rfl (fun b t wx hJ hb hd hcl Kc hK => ?_) ?_
         · obtain ⟨hH, v0, v1, v2, v3, v4, v5, v6, v7, v8, v9, v10, v11, v12, v13, v14, v15, v16, v17, v18, v19, v20, v21, v22, v23, v24, v25, v26, v27, v28⟩ := hJ
           have d1 := hd.out 1 (by kernel_rfl); have d2 := hd.out 2 (by kernel_rfl); have d3 := hd.out 3 (by kernel_rfl); have r1 := v1 d1; have r2 := v2 d2; have r3 := v3 d3
           have hN := hH; (try simp only [hb, d1, d2, d3, cond_true, cond_false] at hN)
           go_simp
           go_at_call 141
           refine (resultLabels_any (arrL_length _ _) _ (HOS.out.ext hH.ext) HLL2.out HRK2.out i j (by rw [List.length_map, HMJ.out]; exact hlt2) (by rw [List.length_map, HMJ.out]; exact hlt3)).mono ?_; rintro e4 w4 ⟨v4, rfl, o4, h4⟩
           rw [HRL.out] at o4
           obtain ⟨x4, c4, rfl⟩ := o4.shapeN rfl
           (try go_simp)
           refine hK.out _ ?_ _ ?_ ?_; rotate_left 2
           · (try simp only [r1, r2, r3]); rfl
           exact ⟨by have hX := hN.addI 0 h4 o4 (Nat.le_refl _); simpa only [List.set_cons_zero, List.set_cons_succ, updB, updV, blkOf_mk, tup0_mk, partsOf3, Nat.reduceBEq, cond_true, cond_false, hb, d1, d2, d3, r1, r2, r3] using hX, v0, v1, v2, v3, fun _ => ⟨_, _, _, rfl⟩, v5, v6, v7, v8, v9, v10, v11, v12, v13, v14, v15, v16, v17, v18, v19, v20, v21, v22, v23, v24, v25, v26, v27, v28⟩
         refine AllSteps.cons (j := 6) rfl (fun b t wx hJ hb hd hcl Kc hK => ?_) ?_
         · obtain ⟨hH, v0, v1, v2, v3, v4, v5, v6, v7, v8, v9, v10, v11, v12, v13, v14, v15, v16, v17, v18, v19, v20, v21, v22, v23, v24, v25, v26, v27, v28⟩ := hJ
           have d0 := hd.out 0 (by kernel_rfl); have d4 := hd.out 4 (by kernel_rfl); have r0 := v0 d0; have r4 := v4 d4
           obtain ⟨x_4, c_4, n_4, r4⟩ := r4
           have hN := hH; (try simp only [hb, d0, d4, cond_true, cond_false] at hN)
           go_simp
           go_at_call 137
           refine (HSZ.out _ (HOS.out.ext hH.ext) RL HSR.out.1 HSR.out.2.1 HSR.out.2.2.1 HSR.out.2.2.2 _ (by have h := hN.ints (k := 0) rfl; rw [r4] at h; exact h)).mono ?_; rintro e5 w5 ⟨rfl, h5⟩
           rw [HPR.out]
           (try go_simp)
           refine hK.out _ ?_ _ ?_ ?_; rotate_left 2
           · (try simp only [r0, r4]); rfl
           exact ⟨by have hX := hH.grow h5; simpa only [List.set_cons_zero, List.set_cons_succ, updB, updV, blkOf_mk, tup0_mk, partsOf3, Nat.reduceBEq, cond_true, cond_false, hb, d0, d4, r0, r4] using hX, v0, v1, v2, v3, v4, fun _ => rfl, v6, v7, v8, v9, v10, v11, v12, v13, v14, v15, v16, v17, v18, v19, v20, v21, v22, v23, v24, v25, v26, v27, v28⟩
         refine AllSteps.cons (j := 7) rfl (fun b t wx hJ hb hd hcl Kc hK => ?_) ?_
         · obtain ⟨hH, v0, v1, v2, v3, v4, v5, v6, v7, v8, v9, v10, v11, v12, v13, v14, v15, v16, v17, v18, v19, v20, v21, v22, v23, v24, v25, v26, v27, v28⟩ := hJ
           have c_k101 := hH.ext.cell k101; have c_hq1a := hH.ext.cell hq1a; have c_hq1b := hH.ext.cell hq1b
           go_simp
           refine hK.out _ ?_ _ ?_ ?_; rotate_left 2
           · rfl
           exact ⟨hH, v0, v1, v2, v3, v4, v5, fun _ => rfl, v7, v8, v9, v10, v11, v12, v13, v14, v15, v16, v17, v18, v19, v20, v21, v22, v23, v24, v25, v26, v27, v28⟩
         refine AllSteps.cons (j := 8) rfl (fun b t wx hJ hb hd hcl Kc hK => ?_) ?_
         · obtain ⟨hH, v0, v1, v2, v3, v4, v5, v6, v7, v8, v9, v10, v11, v12, v13, v14, v15, v16, v17, v18, v19, v20, v21, v22, v23, v24, v25, v26, v27, v28⟩ := hJ
           have c_k101 := hH.ext.cell k101; have c_hq1a := hH.ext.cell hq1a; have c_hq1b := hH.ext.cell hq1b
           go_simp
           refine hK.out _ ?_ _ ?_ ?_; rotate_left 2
           · rfl
           exact ⟨hH, v0, v1, v2, v3, v4, v5, v6, fun _ => rfl, v8, v9, v10, v11, v12, v13, v14, v15, v16, v17, v18, v19, v20, v21, v22, v23, v24, v25, v26, v27, v28⟩
         refine AllSteps.cons (j := 9) rfl (fun b t wx hJ hb hd hcl Kc hK => ?_) ?_
         · obtain ⟨hH, v0, v1, v2, v3, v4, v5, v6, v7, v8, v9, v10, v11, v12, v13, v14, v15, v16, v17, v18, v19, v20, v21, v22, v23, v24, v25, v26, v27, v28⟩ := hJ
           have d7 := hd.out 7 (by kernel_rfl); have r7 := v7 d7; have c_k101 := hH.ext.cell k101; have c_hq1a := hH.ext.cell hq1a; have c_hq1b := hH.ext.cell hq1b
           go_simp
           refine hK.out _ ?_ _ ?_ ?_; rotate_left 2
           · (try simp only [r7]); rfl
           exact ⟨hH, v0, v1, v2, v3, v4, v5, v6, v7, fun _ => rfl, v9, v10, v11, v12, v13, v14, v15, v16, v17, v18, v19, v20, v21, v22, v23, v24, v25, v26, v27, v28⟩
         refine AllSteps.cons (j := 10) rfl (fun b t wx hJ hb hd hcl Kc hK => ?_) ?_
         · obtain ⟨hH, v0, v1, v2, v3, v4, v5, v6, v7, v8, v9, v10, v11, v12, v13, v14, v15, v16, v17, v18, v19, v20, v21, v22, v23, v24, v25, v26, v27, v28⟩ := hJ
           have d8 := hd.out 8 (by kernel_rfl); have r8 := v8 d8; have c_k101 := hH.ext.cell k101; have c_hq1a := hH.ext.cell hq1a; have c_hq1b := hH.ext.cell hq1b
           go_simp
           refine hK.out _ ?_ _ ?_ ?_; rotate_left 2
           · (try simp only [r8]); rfl
           exact ⟨hH, v0, v1, v2, v3, v4, v5, v6, v7, v8, fun _ => rfl, v10, v11, v12, v13, v14, v15, v16, v17, v18, v19, v20, v21, v22, v23, v24, v25, v26, v27, v28⟩
         refine AllSteps.cons (j := 11) rfl (fun b t wx hJ hb hd hcl Kc hK => ?_) ?_
         · obtain ⟨hH, v0, v1, v2, v3, v4, v5, v6, v7, v8, v9, v10, v11, v12, v13, v14, v15, v16, v17, v18, v19, v20, v21, v22, v23, v24, v25, v26, v27, v28⟩ := hJ
           have d9 := hd.out 9 (by kernel_rfl); have r9 := v9 d9; have c_k101 := hH.ext.cell k101; have c_hq1a := hH.ext.cell hq1a; have c_hq1b := hH.ext.cell hq1b
           go_simp
           refine hK.out _ ?_ _ ?_ ?_; rotate_left 2
           · (try simp only [r9]); rfl
           exact ⟨hH, v0, v1, v2, v3, v4, v5, v6, v7, v8, v9, fun _ => rfl, v11, v12, v13, v14, v15, v16, v17, v18, v19, v20, v21, v22, v23, v24, v25, v26, v27, v28⟩
         refine AllSteps.cons (j := 12) rfl (fun b t wx hJ hb hd hcl Kc hK => ?_) ?_
         · obtain ⟨hH, v0, v1, v2, v3, v4, v5, v6, v7, v8, v9, v10, v11, v12, v13, v14, v15, v16, v17, v18, v19, v20, v21, v22, v23, v24, v25, v26, v27, v28⟩ := hJ
           have c_k101 := hH.ext.cell k101; have c_hq1a := hH.ext.cell hq1a; have c_hq1b := hH.ext.cell hq1b
           go_simp
           refine hK.out _ ?_ _ ?_ ?_; rotate_left 2
           · rfl
           exact ⟨hH, v0, v1, v2, v3, v4, v5, v6, v7, v8, v9, v10, fun _ => rfl, v12, v13, v14, v15, v16, v17, v18, v19, v20, v21, v22, v23, v24, v25, v26, v27, v28⟩
         refine AllSteps.cons (j := 13) rfl (fun b t wx hJ hb hd hcl Kc hK => ?_) ?_
         · obtain ⟨hH, v0, v1, v2, v3, v4, v5, v6, v7, v8, v9, v10, v11, v12, v13, v14, v15, v16, v17, v18, v19, v20, v21, v22, v23, v24, v25, v26, v27, v28⟩ := hJ
           have d10 := hd.out 10 (by kernel_rfl); have d11 := hd.out 11 (by kernel_rfl); have r10 := v10 d10; have r11 := v11 d11; have c_k101 := hH.ext.cell k101; have c_hq1a := hH.ext.cell hq1a; have c_hq1b := hH.ext.cell hq1b
           go_simp
           refine hK.out _ ?_ _ ?_ ?_; rotate_left 2
           · (try simp only [r10, r11]); rfl
           exact ⟨hH, v0, v1, v2, v3, v4, v5, v6, v7, v8, v9, v10, v11, fun _ => rfl, v13, v14, v15, v16, v17, v18, v19, v20, v21, v22, v23, v24, v25, v26, v27, v28⟩
         refine AllSteps.cons (j := 14) rfl (fun b t wx hJ hb hd hcl Kc hK => ?_) ?_
         · obtain ⟨hH, v0, v1, v2, v3, v4, v5, v6, v7, v8, v9, v10, v11, v12, v13, v14, v15, v16, v17, v18, v19, v20, v21, v22, v23, v24, v25, v26, v27, v28⟩ := hJ
           have d12 := hd.out 12 (by kernel_rfl); have r12 := v12 d12; have c_k101 := hH.ext.cell k101; have c_hq1a := hH.ext.cell hq1a; have c_hq1b := hH.ext.cell hq1b
           go_simp
           refine hK.out _ ?_ _ ?_ ?_; rotate_left 2
           · (try simp only [r12]); rfl
           exact ⟨hH, v0, v1, v2, v3, v4, v5, v6, v7, v8, v9, v10, v11, v12, fun _ => rfl, v14, v15, v16, v17, v18, v19, v20, v21, v22, v23, v24, v25, v26, v27, v28⟩
         refine AllSteps.cons (j := 15) rfl (fun b t wx hJ hb hd hcl Kc hK => ?_) ?_
         · obtain ⟨hH, v0, v1, v2, v3, v4, v5, v6, v7, v8, v9, v10, v11, v12, v13, v14, v15, v16, v17, v18, v19, v20, v21, v22, v23, v24, v25, v26, v27, v28⟩ := hJ
           have d13 := hd.out 13 (by kernel_rfl); have r13 := v13 d13; have c_k101 := hH.ext.cell k101; have c_hq1a := hH.ext.cell hq1a; have c_hq1b := hH.ext.cell hq1b
           go_simp
           refine hK.out _ ?_ _ ?_ ?_; rotate_left 2
           · (try simp only [r13]); rfl
           exact ⟨hH, v0, v1, v2, v3, v4, v5, v6, v7, v8, v9, v10, v11, v12, v13, fun _ => rfl, v15, v16, v17, v18, v19, v20, v21, v22, v23, v24, v25, v26, v27, v28⟩
         refine AllSteps.cons (j := 16) rfl (fun b t wx hJ hb hd hcl Kc hK => ?_) ?_
         · obtain ⟨hH, v0, v1, v2, v3, v4, v5, v6, v7, v8, v9, v10, v11, v12, v13, v14, v15, v16, v17, v18, v19, v20, v21, v22, v23, v24, v25, v26, v27, v28⟩ := hJ
           have d5 := hd.out 5 (by kernel_rfl); have d6 := hd.out 6 (by kernel_rfl); have d14 := hd.out 14 (by kernel_rfl); have r5 := v5 d5; have r6 := v6 d6; have r14 := v14 d14
           go_simp
           go_at_call 137
           refine (HSZ.out _ (HOS.out.ext hH.ext) la HSA.out.1 HSA.out.2.1 HSA.out.2.2.1 HSA.out.2.2.2 _ (hIa.ext hH.ext)).mono ?_; rintro e15 w15 ⟨rfl, h15⟩
           rw [HPA.out]
           (try go_simp)
           refine hK.out _ ?_ _ ?_ ?_; rotate_left 2
           · (try simp only [r5, r6, r14]); rfl
           exact ⟨by have hX := hH.grow h15; simpa only [List.set_cons_zero, List.set_cons_succ, updB, updV, blkOf_mk, tup0_mk, partsOf3, Nat.reduceBEq, cond_true, cond_false, hb, d5, d6, d14, r5, r6, r14] using hX, v0, v1, v2, v3, v4, v5, v6, v7, v8, v9, v10, v11, v12, v13, v14, fun _ => rfl, v16, v17, v18, v19, v20, v21, v22, v23, v24, v25, v26, v27, v28⟩
         refine AllSteps.cons (j := 17) rfl (fun b t wx hJ hb hd hcl Kc hK => ?_) ?_
         · obtain ⟨hH, v0, v1, v2, v3, v4, v5, v6, v7, v8, v9, v10, v11, v12, v13, v14, v15, v16, v17, v18, v19, v20, v21, v22, v23, v24, v25, v26, v27, v28⟩ := hJ
           have d5 := hd.out 5 (by kernel_rfl); have d15 := hd.out 15 (by kernel_rfl); have r5 := v5 d5; have r15 := v15 d15; have c_k101 := hH.ext.cell k101; have c_hq1a := hH.ext.cell hq1a; have c_hq1b := hH.ext.cell hq1b
           go_simp
           refine hK.out _ ?_ _ ?_ ?_; rotate_left 2
           · (try simp only [r5, r15]); rfl
           exact ⟨hH, v0, v1, v2, v3, v4, v5, v6, v7, v8, v9, v10, v11, v12, v13, v14, v15, fun _ => (by show Value.int .i64 (IntKind.i64.wrap (PR - PA)) = _; rw [HG1.out]), v17, v18, v19, v20, v21, v22, v23, v24, v25, v26, v27, v28⟩
         refine AllSteps.cons (j := 18) rfl (fun b t wx hJ hb hd hcl Kc hK => ?_) ?_
         · obtain ⟨hH, v0, v1, v2, v3, v4, v5, v6, v7, v8, v9, v10, v11, v12, v13, v14, v15, v16, v17, v18, v19, v20, v21, v22, v23, v24, v25, v26, v27, v28⟩ := hJ
           have c_k101 := hH.ext.cell k101; have c_hq1a := hH.ext.cell hq1a; have c_hq1b := hH.ext.cell hq1b
           go_simp
           refine hK.out _ ?_ _ ?_ ?_; rotate_left 2
           · rfl
           exact ⟨hH, v0, v1, v2, v3, v4, v5, v6, v7, v8, v9, v10, v11, v12, v13, v14, v15, v16, fun _ => rfl, v18, v19, v20, v21, v22, v23, v24, v25, v26, v27, v28⟩
         refine AllSteps.cons (j := 19) rfl (fun b t wx hJ hb hd hcl Kc hK => ?_) ?_
         · obtain ⟨hH, v0, v1, v2, v3, v4, v5, v6, v7, v8, v9, v10, v11, v12, v13, v14, v15, v16, v17, v18, v19, v20, v21, v22, v23, v24, v25, v26, v27, v28⟩ := hJ
           have c_k101 := hH.ext.cell k101; have c_hq1a := hH.ext.cell hq1a; have c_hq1b := hH.ext.cell hq1b
           go_simp
           refine hK.out _ ?_ _ ?_ ?_; rotate_left 2
           · rfl
           exact ⟨hH, v0, v1, v2, v3, v4, v5, v6, v7, v8, v9, v10, v11, v12, v13, v14, v15, v16, v17, fun _ => rfl, v19, v20, v21, v22, v23, v24, v25, v26, v27, v28⟩
         refine AllSteps.cons (j := 20) rfl (fun b t wx hJ hb hd hcl Kc hK => ?_) ?_
         · obtain ⟨hH, v0, v1, v2, v3, v4, v5, v6, v7, v8, v9, v10, v11, v12, v13, v14, v15, v16, v17, v18, v19, v20, v21, v22, v23, v24, v25, v26, v27, v28⟩ := hJ
           have d18 := hd.out 18 (by kernel_rfl); have r18 := v18 d18; have c_k101 := hH.ext.cell k101; have c_hq1a := hH.ext.cell hq1a; have c_hq1b := hH.ext.cell hq1b
           go_simp
           refine hK.out _ ?_ _ ?_ ?_; rotate_left 2
           · (try simp only [r18]); rfl
           exact ⟨hH, v0, v1, v2, v3, v4, v5, v6, v7, v8, v9, v10, v11, v12, v13, v14, v15, v16, v17, v18, fun _ => rfl, v20, v21, v22, v23, v24, v25, v26, v27, v28⟩
         refine AllSteps.cons (j := 21) rfl (fun b t wx hJ hb hd hcl Kc hK => ?_) ?_
         · obtain ⟨hH, v0, v1, v2, v3, v4, v5, v6, v7, v8, v9, v10, v11, v12, v13, v14, v15, v16, v17, v18, v19, v20, v21, v22, v23, v24, v25, v26, v27, v28⟩ := hJ
           have d19 := hd.out 19 (by kernel_rfl); have r19 := v19 d19; have c_k101 := hH.ext.cell k101; have c_hq1a := hH.ext.cell hq1a; have c_hq1b := hH.ext.cell hq1b
           go_simp
           refine hK.out _ ?_ _ ?_ ?_; rotate_left 2
           · (try simp only [r19]); rfl
           exact ⟨hH, v0, v1, v2, v3, v4, v5, v6, v7, v8, v9, v10, v11, v12, v13, v14, v15, v16, v17, v18, v19, fun _ => rfl, v21, v22, v23, v24, v25, v26, v27, v28⟩
         refine AllSteps.cons (j := 22) rfl (fun b t wx hJ hb hd hcl Kc hK => ?_) ?_
         · obtain ⟨hH, v0, v1, v2, v3, v4, v5, v6, v7, v8, v9, v10, v11, v12, v13, v14, v15, v16, v17, v18, v19, v20, v21, v22, v23, v24, v25, v26, v27, v28⟩ := hJ
           have d20 := hd.out 20 (by kernel_rfl); have r20 := v20 d20; have c_k101 := hH.ext.cell k101; have c_hq1a := hH.ext.cell hq1a; have c_hq1b := hH.ext.cell hq1b
           go_simp
           refine hK.out _ ?_ _ ?_ ?_; rotate_left 2
           · (try simp only [r20]); rfl
           exact ⟨hH, v0, v1, v2, v3, v4, v5, v6, v7, v8, v9, v10, v11, v12, v13, v14, v15, v16, v17, v18, v19, v20, fun _ => rfl, v22, v23, v24, v25, v26, v27, v28⟩
         refine AllSteps.cons (j := 23) rfl (fun b t wx hJ hb hd hcl Kc hK => ?_) ?_
         · obtain ⟨hH, v0, v1, v2, v3, v4, v5, v6, v7, v8, v9, v10, v11, v12, v13, v14, v15, v16, v17, v18, v19, v20, v21, v22, v23, v24, v25, v26, v27, v28⟩ := hJ
           have c_k101 := hH.ext.cell k101; have c_hq1a := hH.ext.cell hq1a; have c_hq1b := hH.ext.cell hq1b
           go_simp
           refine hK.out _ ?_ _ ?_ ?_; rotate_left 2
           · rfl
           exact ⟨hH, v0, v1, v2, v3, v4, v5, v6, v7, v8, v9, v10, v11, v12, v13, v14, v15, v16, v17, v18, v19, v20, v21, fun _ => rfl, v23, v24, v25, v26, v27, v28⟩
         refine AllSteps.cons (j := 24) rfl (fun b t wx hJ hb hd hcl Kc hK => ?_) ?_
         · obtain ⟨hH, v0, v1, v2, v3, v4, v5, v6, v7, v8, v9, v10, v11, v12, v13, v14, v15, v16, v17, v18, v19, v20, v21, v22, v23, v24, v25, v26, v27, v28⟩ := hJ
           have d21 := hd.out 21 (by kernel_rfl); have d22 := hd.out 22 (by kernel_rfl); have r21 := v21 d21; have r22 := v22 d22; have c_k101 := hH.ext.cell k101; have c_hq1a := hH.ext.cell hq1a; have c_hq1b := hH.ext.cell hq1b
           go_simp
           refine hK.out _ ?_ _ ?_ ?_; rotate_left 2
           · (try simp only [r21, r22]); rfl
           exact ⟨hH, v0, v1, v2, v3, v4, v5, v6, v7, v8, v9, v10, v11, v12, v13, v14, v15, v16, v17, v18, v19, v20, v21, v22, fun _ => rfl, v24, v25, v26, v27, v28⟩
         refine AllSteps.cons (j := 25) rfl (fun b t wx hJ hb hd hcl Kc hK => ?_) ?_
         · obtain ⟨hH, v0, v1, v2, v3, v4, v5, v6, v7, v8, v9, v10, v11, v12, v13, v14, v15, v16, v17, v18, v19, v20, v21, v22, v23, v24, v25, v26, v27, v28⟩ := hJ
           have d23 := hd.out 23 (by kernel_rfl); have r23 := v23 d23; have c_k101 := hH.ext.cell k101; have c_hq1a := hH.ext.cell hq1a; have c_hq1b := hH.ext.cell hq1b
           go_simp
           refine hK.out _ ?_ _ ?_ ?_; rotate_left 2
           · (try simp only [r23]); rfl
           exact ⟨hH, v0, v1, v2, v3, v4, v5, v6, v7, v8, v9, v10, v11, v12, v13, v14, v15, v16, v17, v18, v19, v20, v21, v22, v23, fun _ => rfl, v25, v26, v27, v28⟩
         refine AllSteps.cons (j := 26) rfl (fun b t wx hJ hb hd hcl Kc hK => ?_) ?_
         · obtain ⟨hH, v0, v1, v2, v3, v4, v5, v6, v7, v8, v9, v10, v11, v12, v13, v14, v15, v16, v17, v18, v19, v20, v21, v22, v23, v24, v25, v26, v27, v28⟩ := hJ
           have d24 := hd.out 24 (by kernel_rfl); have r24 := v24 d24; have c_k101 := hH.ext.cell k101; have c_hq1a := hH.ext.cell hq1a; have c_hq1b := hH.ext.cell hq1b
           go_simp
           refine hK.out _ ?_ _ ?_ ?_; rotate_left 2
           · (try simp only [r24]); rfl
           exact ⟨hH, v0, v1, v2, v3, v4, v5, v6, v7, v8, v9, v10, v11, v12, v13, v14, v15, v16, v17, v18, v19, v20, v21, v22, v23, v24, fun _ => rfl, v26, v27, v28⟩
         refine AllSteps.cons (j := 27) rfl (fun b t wx hJ hb hd hcl Kc hK => ?_) ?_
         · obtain ⟨hH, v0, v1, v2, v3, v4, v5, v6, v7, v8, v9, v10, v11, v12, v13, v14, v15, v16, v17, v18, v19, v20, v21, v22, v23, v24, v25, v26, v27, v28⟩ := hJ
           have d15 := hd.out 15 (by kernel_rfl); have d17 := hd.out 17 (by kernel_rfl); have d25 := hd.out 25 (by kernel_rfl); have r15 := v15 d15; have r17 := v17 d17; have r25 := v25 d25
           go_simp
           go_at_call 137
           refine (HSZ.out _ (HOS.out.ext hH.ext) lb HSB.out.1 HSB.out.2.1 HSB.out.2.2.1 HSB.out.2.2.2 _ (hIb.ext hH.ext)).mono ?_; rintro e26 w26 ⟨rfl, h26⟩
           rw [HPB.out]
           (try go_simp)
           refine hK.out _ ?_ _ ?_ ?_; rotate_left 2
           · (try simp only [r15, r17, r25]); rfl
           exact ⟨by have hX := hH.grow h26; simpa only [List.set_cons_zero, List.set_cons_succ, updB, updV, blkOf_mk, tup0_mk, partsOf3, Nat.reduceBEq, cond_true, cond_false, hb, d15, d17, d25, r15, r17, r25] using hX, v0, v1, v2, v3, v4, v5, v6, v7, v8, v9, v10, v11, v12, v13, v14, v15, v16, v17, v18, v19, v20, v21, v22, v23, v24, v25, fun _ => rfl, v27, v28⟩
         refine AllSteps.cons (j := 28) rfl (fun b t wx hJ hb hd hcl Kc hK => ?_) ?_
         · obtain ⟨hH, v0, v1, v2, v3, v4, v5, v6, v7, v8, v9, v10, v11, v12, v13, v14, v15, v16, v17, v18, v19, v20, v21, v22, v23, v24, v25, v26, v27, v28⟩ := hJ
           have d16 := hd.out 16 (by kernel_rfl); have d26 := hd.out 26 (by kernel_rfl)
           have n28 : b 28 = false := Bool.eq_false_iff.2 fun h => absurd (hcl.out 28 27 (by kernel_rfl) (h)) (by rw [hb]; exact Bool.false_ne_true)
           have r16 := v16 d16; have r26 := v26 d26; have c_k101 := hH.ext.cell k101; have c_hq1a := hH.ext.cell hq1a; have c_hq1b := hH.ext.cell hq1b
           go_simp
           refine hK.out _ ?_ _ ?_ ?_; rotate_left 2
           · (try simp only [r16, r26]); rfl
           exact ⟨hH, v0, v1, v2, v3, v4, v5, v6, v7, v8, v9, v10, v11, v12, v13, v14, v15, v16, v17, v18, v19, v20, v21, v22, v23, v24, v25, v26, fun _ => (by show Value.int .i64 (IntKind.i64.wrap (G1 - PB)) = _; rw [HG2.out]), fun h => absurd (show b 28 = true from h) (by rw [n28]; exact Bool.false_ne_true)⟩
         refine AllSteps.cons (j := 29) rfl (fun b t wx hJ hb hd hcl Kc hK => ?_) ?_
         · obtain ⟨hH, v0, v1, v2, v3, v4, v5, v6, v7, v8, v9, v10, v11, v12, v13, v14, v15, v16, v17, v18, v19, v20, v21, v22, v23, v24, v25, v26, v27, v28⟩ := hJ
           have d0 := hd.out 0 (by kernel_rfl); have d1 := hd.out 1 (by kernel_rfl); have d2 := hd.out 2 (by kernel_rfl); have d3 := hd.out 3 (by kernel_rfl); have d4 := hd.out 4 (by kernel_rfl); have d5 := hd.out 5 (by kernel_rfl); have d6 := hd.out 6 (by kernel_rfl); have d7 := hd.out 7 (by kernel_rfl); have d8 := hd.out 8 (by kernel_rfl); have d9 := hd.out 9 (by kernel_rfl); have d10 := hd.out 10 (by kernel_rfl); have d11 := hd.out 11 (by kernel_rfl); have d12 := hd.out 12 (by kernel_rfl); have d13 := hd.out 13 (by kernel_rfl); have d14 := hd.out 14 (by kernel_rfl); have d15 := hd.out 15 (by kernel_rfl); have d16 := hd.out 16 (by kernel_rfl); have d17 := hd.out 17 (by kernel_rfl); have d18 := hd.out 18 (by kernel_rfl); have d19 := hd.out 19 (by kernel_rfl); have d20 := hd.out 20 (by kernel_rfl); have d21 := hd.out 21 (by kernel_rfl); have d22 := hd.out 22 (by kernel_rfl); have d23 := hd.out 23 (by kernel_rfl); have d24 := hd.out 24 (by kernel_rfl); have d25 := hd.out 25 (by kernel_rfl); have d26 := hd.out 26 (by kernel_rfl); have d27 := hd.out 27 (by kernel_rfl); have r0 := v0 d0; have r1 := v1 d1; have r2 := v2 d2; have r3 := v3 d3; have r4 := v4 d4; have r5 := v5 d5; have r6 := v6 d6; have r7 := v7 d7; have r8 := v8 d8; have r9 := v9 d9; have r10 := v10 d10; have r11 := v11 d11; have r12 := v12 d12; have r13 := v13 d13; have r14 := v14 d14; have r15 := v15 d15; have r16 := v16 d16; have r17 := v17 d17; have r18 := v18 d18; have r19 := v19 d19; have r20 := v20 d20; have r21 := v21 d21; have r22 := v22 d22; have r23 := v23 d23; have r24 := v24 d24; have r25 := v25 d25; have r26 := v26 d26; have r27 := v27 d27
           obtain ⟨x_4, c_4, n_4, r4⟩ := r4
           have c_k101 := hH.ext.cell k101; have c_hq1a := hH.ext.cell hq1a; have c_hq1b := hH.ext.cell hq1b
           go_simp
           refine hK.out _ ?_ _ ?_ ?_; rotate_left 2
           · (try simp only [r0, r1, r2, r3, r4, r5, r6, r7, r8, r9, r10, r11, r12, r13, r14, r15, r16, r17, r18, r19, r20, r21, r22, r23, r24, r25, r26, r27]); rfl
           exact ⟨hH, v0, v1, v2, v3, v4, v5, v6, v7, v8, v9, v10, v11, v12, v13, v14, v15, v16, v17, v18, v19, v20, v21, v22, v23, v24, v25, v26, v27, fun _ => (by first | rfl | exact r27.symm)⟩
         exact AllSteps.nil
       case hEa =>
        intro b t wa hJ hall
        obtain ⟨hHa, v0, v1, v2, v3, v4, v5, v6, v7, v8, v9, v10, v11, v12, v13, v14, v15, v16, v17, v18, v19, v20, v21, v22, v23, v24, v25, v26, v27, v28⟩ := hJ
        have a0 := hall 0 (by decide); have a1 := hall 1 (by decide); have a2 := hall 2 (by decide); have a3 := hall 3 (by decide); have a4 := hall 4 (by decide); have a5 := hall 5 (by decide); have a6 := hall 6 (by decide); have a7 := hall 7 (by decide); have a8 := hall 8 (by decide); have a9 := hall 9 (by decide); have a10 := hall 10 (by decide); have a11 := hall 11 (by decide); have a12 := hall 12 (by decide); have a13 := hall 13 (by decide); have a14 := hall 14 (by decide); have a15 := hall 15 (by decide); have a16 := hall 16 (by decide); have a17 := hall 17 (by decide); have a18 := hall 18 (by decide); have a19 := hall 19 (by decide); have a20 := hall 20 (by decide); have a21 := hall 21 (by decide); have a22 := hall 22 (by decide); have a23 := hall 23 (by decide); have a24 := hall 24 (by decide); have a25 := hall 25 (by decide); have a26 := hall 26 (by decide); have a27 := hall 27 (by decide); have a28 := hall 28 (by decide)
        (try simp only [a0, a1, a2, a3, a4, a5, a6, a7, a8, a9, a10, a11, a12, a13, a14, a15, a16, a17, a18, a19, a20, a21, a22, a23, a24, a25, a26, a27, a28, cond_true] at hHa)
        replace v0 := v0 a0; replace v1 := v1 a1; replace v2 := v2 a2; replace v3 := v3 a3; replace v4 := v4 a4; replace v5 := v5 a5; replace v6 := v6 a6; replace v7 := v7 a7; replace v8 := v8 a8; replace v9 := v9 a9; replace v10 := v10 a10; replace v11 := v11 a11; replace v12 := v12 a12; replace v13 := v13 a13; replace v14 := v14 a14; replace v15 := v15 a15; replace v16 := v16 a16; replace v17 := v17 a17; replace v18 := v18 a18; replace v19 := v19 a19; replace v20 := v20 a20; replace v21 := v21 a21; replace v22 := v22 a22; replace v23 := v23 a23; replace v24 := v24 a24; replace v25 := v25 a25; replace v26 := v26 a26; replace v27 := v27 a27; replace v28 := v28 a28
        clear hall a0 a1 a2 a3 a4 a5 a6 a7 a8 a9 a10 a11 a12 a13 a14 a15 a16 a17 a18 a19 a20 a21 a22 a23 a24 a25 a26 a27 a28
        generalize t 28 = x28 at hHa v28 ⊢; generalize t 27 = x27 at hHa v27 v28 ⊢; generalize t 26 = x26 at hHa v26 ⊢; generalize t 25 = x25 at hHa v25 ⊢; generalize t 24 = x24 at hHa v24 ⊢; generalize t 23 = x23 at hHa v23 ⊢; generalize t 22 = x22 at hHa v22 ⊢; generalize t 21 = x21 at hHa v21 ⊢; generalize t 20 = x20 at hHa v20 ⊢; generalize t 19 = x19 at hHa v19 ⊢; generalize t 18 = x18 at hHa v18 ⊢; generalize t 17 = x17 at hHa v17 ⊢; generalize t 16 = x16 at hHa v16 ⊢; generalize t 15 = x15 at hHa v15 ⊢; generalize t 14 = x14 at hHa v14 ⊢; generalize t 13 = x13 at hHa v13 ⊢; generalize t 12 = x12 at hHa v12 ⊢; generalize t 11 = x11 at hHa v11 ⊢; generalize t 10 = x10 at hHa v10 ⊢; generalize t 9 = x9 at hHa v9 ⊢; generalize t 8 = x8 at hHa v8 ⊢; generalize t 7 = x7 at hHa v7 ⊢; generalize t 6 = x6 at hHa v6 ⊢; generalize t 5 = x5 at hHa v5 ⊢; generalize t 4 = x4 at hHa v4 ⊢; generalize t 3 = x3 at hHa v3 ⊢; generalize t 2 = x2 at hHa v2 ⊢; generalize t 1 = x1 at hHa v1 ⊢; generalize t 0 = x0 at hHa v0 ⊢; subst v0; subst v1; subst v2; subst v3
        obtain ⟨xa4, ca4, na4, rfl⟩ := v4
        subst v5; subst v6; subst v7; subst v8; subst v9; subst v10; subst v11; subst v12; subst v13; subst v14; subst v15; subst v16; subst v17; subst v18; subst v19; subst v20; subst v21; subst v22; subst v23; subst v24; subst v25; subst v26; subst v27; subst v28
        clear b
        replace hH := hHa; clear hHa
        replace hH : Held wq wa [aI (.slice xa4 na4 ca4) RL] := hH
        replace hH := hH.sub (L' := []) (.cons _ .slnil)
        by_cases hb : bI < 0
        ·
         go_wp2_with fail
         go_roundw
         case rel => exact ⟨j + 1, (i : Int), (j : Int), G2, by omega, by omega, by first | rfl | go_num, rfl, rfl, rfl, Lib.hid (.inr ⟨i, j, rfl, rfl, by omega, hlt3⟩), hH⟩
         case measure => simp [RowKit.intOf]; omega
        ·
         have HB2 := Lib.hid (HB.out.resolve_left fun h => by omega)
         by_cases hg : G2 < z
         ·
          go_wp2_with fail
          go_roundw
          case rel => exact ⟨j + 1, (i : Int), (j : Int), G2, by omega, by omega, by first | rfl | go_num, rfl, rfl, rfl, Lib.hid (.inr ⟨i, j, rfl, rfl, by omega, hlt3⟩), hH⟩
          case measure => simp [RowKit.intOf]; omega
         ·
          go_wp2_with fail
          go_roundw
          case rel => exact ⟨j + 1, bI, bJ, z, by omega, by omega, by first | rfl | go_num, rfl, rfl, rfl, Lib.hid (.inr HB2.out), hH⟩
          case measure => simp [RowKit.intOf]; omega
      ·
       have HB2 := Lib.hid (HB.out.resolve_left fun h => by omega)
       have c_k101 := hH.ext.cell k101
       have c_kst := Nat.lt_of_lt_of_le kst hH.ext.size
       go_wp2_with fail
       clear c_k101 c_kst
       go_roundw
       case rel => exact ⟨i + 1, bI, bJ, z, by omega, by go_num, rfl, rfl, rfl, Lib.hid (.inr HB2.out), hH⟩
       case measure => simp [RowKit.intOf]; omega
    ·
     obtain ⟨x, y, hbx, hby, hxy, hym⟩ := HB.out.resolve_left fun h => by omega
     subst hbx hby
     have c_k101 := hH.ext.cell k101
     have c_kst := Nat.lt_of_lt_of_le kst hH.ext.size
     go_wp2_with fail
     clear c_k101 c_kst
     refine (contract_anyV (arrL_length _ _) _ (HOSV.out.ext hH.ext) HLL2.out HRK2.out x y (by rw [List.length_map, HMJ.out]; omega) (by rw [List.length_map, HMJ.out]; omega) HNX.out.1 HNX.out.2).mono ?_; rintro e5 w5 ⟨ea, eb, u5, rfl, hea, heb, g5, hS5⟩
     have hX5 := (hX.grow hH.ext).turnX hsw g5
     have HST := Lib.hid (HK.out.step HN.out (i := x) (j := y) (a := ea) (b := eb) hxy (by rw [← HC.out, List.getElem?_map]; exact hea) (by rw [← HC.out, List.getElem?_map]; exact heb))
     have HS5 := Lib.hid hS5
     have hol13 : os.length ≤ 11 := by have := HLF.out; omega
     clear hS5 g5 hX hH hea heb
     go_wp2_with (at_builtin; refine wpList_app _ rfl _ _ 72 rfl _ _ rfl rfl _ (run_pushSt3 _ (hX5.grow ((Ext.refl _).alloc _)) (k := 0) rfl (row_one2 _ _ _ _) (by omega)) ?_; rintro vp wp ⟨hHp, gp, sp, np⟩)
     obtain ⟨ap, cp, hvp, _, _⟩ := sp.val
     rw [List.length_append, List.length_singleton] at hvp
     have HSV := Lib.hid ((HS5.out.ext ((Ext.refl _).alloc _)).push gp np (fun z hz => (hHp.fpr (k := 0) rfl z (by simp [aSt, aR, hz])).2))
     have HHP := Lib.hid hHp
     clear hHp gp sp np hX5
     subst hvp
     go_roundw
     case rel => exact ⟨os ++ [(ea, eb)], drop2 cs x y ++ [((ts.length : Int) + os.length, u5)], _, _, HST, Lib.hid (by rw [List.map_append, ← drop2_map, HC.out]; rfl), by rw [stepN_lab, show (ts.length : Int) + ((os ++ [(ea, eb)]).length : Int) = (ts.length : Int) + os.length + 1 by rw [List.length_append, List.length_singleton]; push_cast; omega]; exact HSV.out, HHP.out⟩
     case measure => show 13 - (os.length + 1) < 13 - os.length; omega
  ·
   have HD := Lib.hid (HK.out.done (by rw [HMJ.out]; omega))
   have HX := Lib.hid hX; clear hX
   go_wp2
   go_ret
   exact ⟨_, os, rfl, HX.out, HK.out.ok, HD.out⟩
set_option maxRecDepth 100000 in
set_option maxHeartbeats 4000000 in
theorem greedyOrder_any {k p n : Int} (hr : ringOk k p n = true) {dm : Int → Int} {U : List Int} {ts : List (NT k p n)} {op : List Int} (hN : IsN k p n dm U ts op) (tv ov : Value) (w : World) (hT : TensS w tv (ts.map (tenOf dm))) (hO : IntS w ov op) :
 Calls Try.prog 71 #[.agg #[.int .i64 k, .int .i64 p, .int .i64 n, tv, ov]] w fun e w' => ∃ u os, e = .returned u ∧ Held w w' [aSt u os] ∧ okO (numL ts.length) (ts.length : Int) os ∧ os.length = ts.length - 1 := by
 have hT0 := hT
 have hO0 := hO
 obtain ⟨m, hm⟩ : ∃ m, ts.length = m := ⟨_, rfl⟩
 obtain ⟨aV, cV, rfl, hcT1, hcT2⟩ := hT.val
 obtain ⟨aO, cO, rfl, hcO1, hcO2⟩ := hO.val
 rw [List.length_map, hm] at hT hT0 hcT1
 rw [List.length_map, hm]
 have hm12 : m ≤ 12 := by rw [← hm]; exact hN.len
 have hop12 : op.length ≤ 12 := hN.rank
 have HM := Lib.hid hm; have HR := Lib.hid hr; have HN := Lib.hid hN; have HD3 := Lib.hid hN.dims3; clear hm  hN
 have hTl : Hid ((ts.map (tenOf dm)).length = m) := Lib.hid (by rw [List.length_map]; exact HM.out)
 go_enter Try.func71, Try.ntmps71
 go_upto_region 1 with fail
 have hH : Held w w [] := Held.new (Ext.refl w) 0
 have hB : Held w (w.alloc (.cells #[.int .i64 k, .int .i64 p, .int .i64 n, .slice aV m cV, .slice aO op.length cO] 29)) [aB (w.heap.size) 29 [.int .i64 k, .int .i64 p, .int .i64 n, .slice aV m cV, .slice aO op.length cO]] := by
  have h := (hH.mores 1).addB 0 #[.int .i64 k, .int .i64 p, .int .i64 n, .slice aV m cV, .slice aO op.length cO] 29
  exact h
 have hsz : (w.alloc (.cells #[.int .i64 k, .int .i64 p, .int .i64 n, .slice aV m cV, .slice aO op.length cO] 29)).heap.size = w.heap.size + 1 := by simp
 generalize w.alloc (.cells #[.int .i64 k, .int .i64 p, .int .i64 n, .slice aV m cV, .slice aO op.length cO] 29) = wn1 at hB hsz ⊢
 replace hH := hB; have HSZwn1 := Lib.hid hsz; clear hB hsz
 have q0_0 := hH.cl 0 0 rfl rfl; have q0_1 := hH.cl 0 1 rfl rfl; have q0_2 := hH.cl 0 2 rfl rfl; have q0_3 := hH.cl 0 3 rfl rfl; have q0_4 := hH.cl 0 4 rfl rfl; have l0_ := hH.bl 0 rfl
 go_wp2_with fail
 clear q0_0 q0_1 q0_2 q0_3 q0_4 l0_
 refine (networkOk_any HR.out HN.out _ _ _ (hT0.ext hH.ext) (hO0.ext hH.ext)).mono ?_; rintro ewn2 wn2 ⟨rfl, hwn2⟩
 replace hH : Held w wn2 [aB (w.heap.size) 29 [.int .i64 k, .int .i64 p, .int .i64 n, .slice aV m cV, .slice aO op.length cO]] := hH.grow hwn2
 clear hwn2
 have q0_0 := hH.cl 0 0 rfl rfl; have q0_1 := hH.cl 0 1 rfl rfl; have q0_2 := hH.cl 0 2 rfl rfl; have q0_3 := hH.cl 0 3 rfl rfl; have q0_4 := hH.cl 0 4 rfl rfl; have l0_ := hH.bl 0 rfl
 go_wp2_with fail
 clear q0_0 q0_1 q0_2 q0_3 q0_4 l0_
 refine (startState_any HR.out HN.out _ _ _ (hT0.ext hH.ext) (hO0.ext hH.ext)).mono ?_; rintro e1 w1 ⟨s, cs0, rfl, h1, hsw1, hS0, hc0⟩
 have hNF : ∀ A ∈ [aB (w.heap.size) 29 [.int .i64 k, .int .i64 p, .int .i64 n, .slice aV m cV, .slice aO op.length cO]], s ∉ A.fp := fun A hA hc => by
  simp at hA; subst hA
  have := (hH.fpr (k := 0) rfl s hc).2
  omega
 have hsz := hH.size
 have HC0 := Lib.hid hc0
 replace hH := hH.grow h1
 clear h1 hc0
 go_wp2_with fail
 refine (greedySteps_any HR.out HN.out _ hS0 HC0.out).mono ?_; rintro e2 w2 ⟨u, os, rfl, hX, hok, hol⟩
 have HJ := Lib.hid ((hH.join hX (fun q hq => by cases hq; exact ⟨by omega, hNF⟩)).sub (L' := [aSt u os]) (.cons _ (.cons_cons _ .slnil)))
 rw [HM.out] at hok hol
 have HOK := Lib.hid (And.intro hok hol)
 clear hH hX hok hol
 go_wp2
 go_ret
 exact ⟨_, os, rfl, HJ.out, HOK.out.1, HOK.out.2⟩
end Go.Proofs.Ytpegckmagiaggaa
