/- MergeTensors of the program. -/
import Derived.Test.YtpegckmagiaggaaGRewW
set_option linter.unusedSimpArgs false
set_option linter.unusedVariables false
namespace Go.Proofs.Ytpegckmagiaggaa
open Go.RowKit
theorem elsL_comm {k p n : Int} (ts : List (NT k p n)) (op : List Int) (i j : Nat) : elsL ts op i j = elsL ts op j i := by
  unfold elsL elsGo dropGo
  have e : (fun q : Nat => if q = i ∨ q = j then none else ts[q]?) = fun q => if q = j ∨ q = i then none else ts[q]? := by
    funext q; simp only [or_comm]
  rw [e]
theorem mrgG_len {k p n : Int} (hr : ringOk k p n = true) (dm : Int → Int) (ts : List (NT k p n)) (op : List Int) (i j q : Nat) : (mrgG hr dm ts op i j q).length ≤ q := by
  unfold mrgG
  exact Nat.le_trans (List.length_filterMap_le _ _) (by simp)
set_option maxRecDepth 100000 in
set_option maxHeartbeats 8000000 in
theorem mergeTensors_lt {k p n : Int} (hr : ringOk k p n = true) {dm : Int → Int} {U : List Int} {ts : List (NT k p n)} {op : List Int} (hN : IsN k p n dm U ts op) (tv ov : Value) (w : World) (hT : TensS w tv (ts.map (tenOf dm))) (hO : IntS w ov op) (pi pj : Nat) (hpi : pi < ts.length) (hpj : pj < ts.length) (hlh : pi < pj) :
 Calls Try.prog 63 #[.agg #[.int .i64 k, .int .i64 p, .int .i64 n, tv, ov], .int .i64 (pi : Int), .int .i64 (pj : Int)] w fun e w' => ∃ tv' ov' cs, e = .returned (.tuple #[.agg #[.int .i64 k, .int .i64 p, .int .i64 n, tv', ov'], .bool true]) ∧
  Held w w' [aTs tv' cs ((mrgL hr dm ts op pi pj).map (tenOf dm)), aI ov' op] := by
 have hT0 := hT
 have hO0 := hO
 obtain ⟨m, hm⟩ : ∃ m, ts.length = m := ⟨_, rfl⟩
 obtain ⟨aV, cV, rfl, hcT1, hcT2⟩ := hT.val
 obtain ⟨aO, cO, rfl, hcO1, hcO2⟩ := hO.val
 rw [List.length_map, hm] at hT hT0 hcT1
 rw [List.length_map, hm]
 have hm12 : m ≤ 12 := by rw [← hm]; exact hN.len
 have hop12 : op.length ≤ 12 := hN.rank
 have HM := Lib.hid hm; have HR := Lib.hid hr; have HN := Lib.hid hN; have HD3 := Lib.hid hN.dims3; clear hm  hN
 have hTl : Hid ((ts.map (tenOf dm)).length = m) := Lib.hid (by rw [List.length_map]; exact HM.out)
 rw [HM.out] at hpi hpj
 have hMF : ∃ MG : Nat → List (NT k p n), (fun q => mrgG hr dm ts op pi pj q) = MG := ⟨_, rfl⟩
 obtain ⟨MG, hMG⟩ := hMF
 have HG0 : Hid (MG 0 = []) := Lib.hid (by rw [← hMG]; rfl)
 have HGA : Hid (MG (pi + 1) = MG pi ++ [mrgT hr dm ts op pi pj]) := Lib.hid (by rw [← hMG]; exact mrgG_at hr)
 have HGN : Hid (MG (pj + 1) = MG pj) := Lib.hid (by rw [← hMG]; exact mrgG_no hr (by omega))
 have HGY : Hid (∀ q t, q ≠ pi → q ≠ pj → ts[q]? = some t → MG (q + 1) = MG q ++ [t]) := Lib.hid fun q t h1 h2 ht => by rw [← hMG]; exact mrgG_yes hr h1 h2 ht
 have HGL : Hid (∀ q, (MG q).length ≤ q) := Lib.hid fun q => by rw [← hMG]; exact mrgG_len hr dm ts op _ _ q
 have HGE : Hid (mrgL hr dm ts op pi pj = MG m) := Lib.hid (by rw [← hMG, ← HM.out]; rfl)
 rw [HGE.out]
 clear hMG
 have hi0 : ¬ (pi : Int) < 0 := by omega
 have hj0 : ¬ (pj : Int) < 0 := by omega
 have hi1 : ¬ (m : Int) ≤ (pi : Int) := by omega
 have hj1 : ¬ (m : Int) ≤ (pj : Int) := by omega
 have hne : ¬ (pi : Int) = (pj : Int) := by omega
 have hnb : ((pi : Int) == (pj : Int)) = false := by simpa using hne
 have hi1n : ¬ m ≤ pi := by omega
 have hj1n : ¬ m ≤ pj := by omega
 have hnn : ¬ pi = pj := by omega
 have hlt1n : ¬ pj < pi := by omega
 have hlt1 : (pi : Int) < (pj : Int) := by omega
 have hlt2 : ¬ (pj : Int) < (pi : Int) := by omega
 go_enter Try.func63, Try.ntmps63
 go_upto_region 1 with fail
 have hH : Held w w [] := Held.new (Ext.refl w) 0
 have hB : Held w (w.alloc (.cells #[.int .i64 k, .int .i64 p, .int .i64 n, .slice aV m cV, .slice aO op.length cO] 29)) [aB (w.heap.size) 29 [.int .i64 k, .int .i64 p, .int .i64 n, .slice aV m cV, .slice aO op.length cO]] := by
  have h := (hH.mores 1).addB 0 #[.int .i64 k, .int .i64 p, .int .i64 n, .slice aV m cV, .slice aO op.length cO] 29
  exact h
 have hsz : (w.alloc (.cells #[.int .i64 k, .int .i64 p, .int .i64 n, .slice aV m cV, .slice aO op.length cO] 29)).heap.size = w.heap.size + 1 := by simp
 generalize w.alloc (.cells #[.int .i64 k, .int .i64 p, .int .i64 n, .slice aV m cV, .slice aO op.length cO] 29) = wn1 at hB hsz ⊢
 replace hH := hB; have HSZwn1 := Lib.hid hsz; clear hB hsz
 have hB : Held w (wn1.alloc (.cells #[.int .i64 0, .int .i64 0, .int .i64 0, .slice none 0 0, .slice none 0 0] 29)) [aB (w.heap.size) 29 [.int .i64 k, .int .i64 p, .int .i64 n, .slice aV m cV, .slice aO op.length cO], aB (w.heap.size + 1) 29 [.int .i64 0, .int .i64 0, .int .i64 0, .slice none 0 0, .slice none 0 0]] := by
  have h := (hH.mores 1).addB 1 #[.int .i64 0, .int .i64 0, .int .i64 0, .slice none 0 0, .slice none 0 0] 29
  rw [HSZwn1.out] at h
  exact h
 have hsz : (wn1.alloc (.cells #[.int .i64 0, .int .i64 0, .int .i64 0, .slice none 0 0, .slice none 0 0] 29)).heap.size = w.heap.size + 1 + 1 := by rw [← HSZwn1.out]; simp
 generalize wn1.alloc (.cells #[.int .i64 0, .int .i64 0, .int .i64 0, .slice none 0 0, .slice none 0 0] 29) = wn2 at hB hsz ⊢
 replace hH := hB; have HSZwn2 := Lib.hid hsz; clear hB hsz
 obtain ⟨bT, oT, u1, u2, u3, t3, hV, hu0a, hu1a, hu2a, ht3, hTua⟩ := hT.get (i := pi) (by rw [hTl.out]; exact (show pi < m by omega))
 subst hV
 obtain ⟨t, htj, rfl⟩ : ∃ t, ts[pi]? = some t ∧ tenOf dm t = t3 := by rw [List.getElem?_map] at ht3; exact Option.map_eq_some_iff.1 ht3
 have HTJa := Lib.hid htj; have HTIa := Lib.hid (HN.out.ten t (List.mem_of_getElem? htj)); clear ht3 htj
 obtain ⟨tla, xsa⟩ := t
 obtain ⟨e1a, m1, f1a, e2a, m2, f2a, e3a, m3a, f3a, hvv⟩ := hTua.shape
 simp at hvv
 obtain ⟨rfl, rfl, rfl⟩ := hvv
 rw [Nat.mul_comm 3 pi] at hu0a hu1a hu2a
 obtain ⟨_, _, _, hvv, hTLa, hTDa, hTXa⟩ := hTua.val
 simp at hvv
 obtain ⟨rfl, rfl, rfl⟩ := hvv
 simp only [tenOf] at hTua hTLa hTDa hTXa HTIa
 obtain ⟨_, _, hvv, _, _⟩ := hTLa.val
 simp at hvv
 obtain ⟨rfl, rfl, rfl⟩ := hvv
 obtain ⟨_, _, hvv, _, _⟩ := hTDa.val
 simp at hvv
 obtain ⟨rfl, rfl, rfl⟩ := hvv
 obtain ⟨_, _, u1, u2, u3, t3, hV, hu0b, hu1b, hu2b, ht3, hTub⟩ := hT.get (i := pj) (by rw [hTl.out]; exact (show pj < m by omega))
 cases hV
 obtain ⟨t, htj, rfl⟩ : ∃ t, ts[pj]? = some t ∧ tenOf dm t = t3 := by rw [List.getElem?_map] at ht3; exact Option.map_eq_some_iff.1 ht3
 have HTJb := Lib.hid htj; have HTIb := Lib.hid (HN.out.ten t (List.mem_of_getElem? htj)); clear ht3 htj
 obtain ⟨tlb, xsb⟩ := t
 obtain ⟨e1b, m1, f1b, e2b, m2, f2b, e3b, m3b, f3b, hvv⟩ := hTub.shape
 simp at hvv
 obtain ⟨rfl, rfl, rfl⟩ := hvv
 rw [Nat.mul_comm 3 pj] at hu0b hu1b hu2b
 obtain ⟨_, _, _, hvv, hTLb, hTDb, hTXb⟩ := hTub.val
 simp at hvv
 obtain ⟨rfl, rfl, rfl⟩ := hvv
 simp only [tenOf] at hTub hTLb hTDb hTXb HTIb
 obtain ⟨_, _, hvv, _, _⟩ := hTLb.val
 simp at hvv
 obtain ⟨rfl, rfl, rfl⟩ := hvv
 obtain ⟨_, _, hvv, _, _⟩ := hTDb.val
 simp at hvv
 obtain ⟨rfl, rfl, rfl⟩ := hvv
 have htla12 : tla.length ≤ 12 := HTIa.out.ax.rank; have htlb12 : tlb.length ≤ 12 := HTIb.out.ax.rank
 obtain ⟨q0_0, q0_1, q0_2, q0_3, q0_4, l0_⟩ := hH.c5 0 rfl; obtain ⟨q1_0, q1_1, q1_2, q1_3, q1_4, l1_⟩ := hH.c5 1 rfl
 go_wp2_with fail
 clear q0_0 q0_1 q0_2 q0_3 q0_4 l0_ q1_0 q1_1 q1_2 q1_3 q1_4 l1_
 refine (networkOk_any HR.out HN.out _ _ _ (hT0.ext hH.ext) (hO0.ext hH.ext)).mono ?_; rintro ewn3 wn3 ⟨rfl, hwn3⟩
 replace hH : Held w wn3 [aB (w.heap.size) 29 [.int .i64 k, .int .i64 p, .int .i64 n, .slice (some ⟨bT, oT, none⟩) m cV, .slice aO op.length cO], aB (w.heap.size + 1) 29 [.int .i64 0, .int .i64 0, .int .i64 0, .slice none 0 0, .slice none 0 0]] := hH.grow hwn3
 clear hwn3
 obtain ⟨q0_0, q0_1, q0_2, q0_3, q0_4, l0_⟩ := hH.c5 0 rfl; obtain ⟨q1_0, q1_1, q1_2, q1_3, q1_4, l1_⟩ := hH.c5 1 rfl
 go_upto_region 5 with fail
 clear q0_0 q0_1 q0_2 q0_3 q0_4 l0_ q1_0 q1_1 q1_2 q1_3 q1_4 l1_
 clear hi0 hj0 hi1 hj1 hne hnb hlt1 hlt2 hi1n hj1n hnn hlt1n
 obtain ⟨EK, hEK⟩ : ∃ q, elsL ts op pi pj = q := ⟨_, rfl⟩
 have HMT : Hid (mrgT HR.out dm ts op pi pj = (keepL (joinL tla tlb) EK, contrXs HR.out dm tla tlb EK xsa xsb)) := Lib.hid (by rw [mrgT_eq HR.out HTJa.out HTJb.out, hEK])
 have HEK := Lib.hid hEK; clear hEK
 obtain ⟨wz, rfl⟩ : ∃ q, q = wn3 := ⟨wn3, rfl⟩
 replace hH := hH.mores 3
 replace hH : Held w wz [aB (w.heap.size) 29 [.int .i64 k, .int .i64 p, .int .i64 n, .slice (some ⟨bT, oT, none⟩) m cV, .slice aO op.length cO], aB (w.heap.size + 1) 29 [.int .i64 0, .int .i64 0, .int .i64 0, .slice none 0 0, .slice none 0 0], emp, emp, emp] := hH
 refine wp_region_steps ?Fb (fun b t wx => Held w wx [aB (w.heap.size) 29 [.int .i64 k, .int .i64 p, .int .i64 n, .slice (some ⟨bT, oT, none⟩) m cV, .slice aO op.length cO], aB (w.heap.size + 1) 29 [.int .i64 0, .int .i64 0, .int .i64 0, .slice none 0 0, .slice none 0 0], (bif b 15 then aI (t 15) EK else emp), (bif b 16 then aT (tup0 (t 16)) (keepL (joinL tla tlb) EK) ((keepL (joinL tla tlb) EK).map dm) (flat (contrXs HR.out dm tla tlb EK xsa xsb)) else emp), (bif b 21 then aB (blkOf (t 20)) 32 (partsOf (t 18)) else (bif b 20 then aB (blkOf (t 20)) 32 [.slice none 0 0, .slice none 0 0, .slice none 0 0] else emp))] ∧ (b 0 = true → t 0 = .pointer (some ⟨w.heap.size, 0, none⟩)) ∧ (b 1 = true → t 1 = .agg #[.int .i64 k, .int .i64 p, .int .i64 n]) ∧ (b 2 = true → t 2 = .pointer (some ⟨w.heap.size, 3, none⟩)) ∧ (b 3 = true → t 3 = .slice (some ⟨bT, oT, none⟩) m cV) ∧ (b 4 = true → t 4 = .int .i64 (pi : Int)) ∧ (b 5 = true → t 5 = .pointer (some ⟨bT, oT + pi * 3, none⟩)) ∧ (b 6 = true → t 6 = .agg #[.slice e1a tla.length f1a, .slice e2a tla.length f2a, .slice e3a m3a f3a]) ∧ (b 7 = true → t 7 = .pointer (some ⟨w.heap.size, 3, none⟩)) ∧ (b 8 = true → t 8 = .slice (some ⟨bT, oT, none⟩) m cV) ∧ (b 9 = true → t 9 = .int .i64 (pj : Int)) ∧ (b 10 = true → t 10 = .pointer (some ⟨bT, oT + pj * 3, none⟩)) ∧ (b 11 = true → t 11 = .agg #[.slice e1b tlb.length f1b, .slice e2b tlb.length f2b, .slice e3b m3b f3b]) ∧ (b 12 = true → t 12 = .agg #[.int .i64 k, .int .i64 p, .int .i64 n, .slice (some ⟨bT, oT, none⟩) m cV, .slice aO op.length cO]) ∧ (b 13 = true → t 13 = .int .i64 (pi : Int)) ∧ (b 14 = true → t 14 = .int .i64 (pj : Int)) ∧ (b 15 = true → ∃ x c n, t 15 = .slice x n c) ∧ (b 16 = true → ∃ p1 n1 c1 p2 n2 c2 p3 n3 c3, t 16 = .tuple #[.agg #[.slice p1 n1 c1, .slice p2 n2 c2, .slice p3 n3 c3], .bool true]) ∧ (b 17 = true → t 17 = t 16) ∧ (b 18 = true → t 18 = tup0 (t 16)) ∧ (b 19 = true → t 19 = .bool true) ∧ (b 20 = true → ∃ q, t 20 = .pointer (some ⟨q, 0, none⟩)) ∧ (b 22 = true → t 22 = .bool true)) ?hFb (by kernel_rfl) (by kernel_rfl) ?hJb ?hSb ?hEb
 (case hFb => intro t; simp only [putAll, Act.put, List.setIfInBounds_toArray, List.set_cons_zero, List.set_cons_succ, Nat.reduceAdd, Nat.zero_add]; exact rfl)
 case hJb => exact ⟨hH.grow ((Ext.refl _).drew), nof, nof, nof, nof, nof, nof, nof, nof, nof, nof, nof, nof, nof, nof, nof, nof, nof, nof, nof, nof, nof, nof⟩
 case hSb => as_aux_lemma =>
   refine AllSteps.cons (j := 1) rfl (fun b t wx hJ hb hd hcl Kc hK => ?_) ?_
   · obtain ⟨hH, v0, v1, v2, v3, v4, v5, v6, v7, v8, v9, v10, v11, v12, v13, v14, v15, v16, v17, v18, v19, v20, v22⟩ := hJ
     have c_hu0a := hH.ext.cell hu0a; have c_hu1a := hH.ext.cell hu1a; have c_hu2a := hH.ext.cell hu2a; have c_hu0b := hH.ext.cell hu0b; have c_hu1b := hH.ext.cell hu1b; have c_hu2b := hH.ext.cell hu2b
     go_simp
     refine hK.out _ ?_ _ ?_ ?_; rotate_left 2
     · rfl
     exact ⟨hH, fun _ => rfl, v1, v2, v3, v4, v5, v6, v7, v8, v9, v10, v11, v12, v13, v14, v15, v16, v17, v18, v19, v20, v22⟩
   refine AllSteps.cons (j := 2) rfl (fun b t wx hJ hb hd hcl Kc hK => ?_) ?_
   · obtain ⟨hH, v0, v1, v2, v3, v4, v5, v6, v7, v8, v9, v10, v11, v12, v13, v14, v15, v16, v17, v18, v19, v20, v22⟩ := hJ
     have d0 := hd.out 0 (by kernel_rfl); have r0 := v0 d0; have c_hu0a := hH.ext.cell hu0a; have c_hu1a := hH.ext.cell hu1a; have c_hu2a := hH.ext.cell hu2a; have c_hu0b := hH.ext.cell hu0b; have c_hu1b := hH.ext.cell hu1b; have c_hu2b := hH.ext.cell hu2b; have q0_0 := hH.cl 0 0 rfl rfl; have q0_1 := hH.cl 0 1 rfl rfl; have q0_2 := hH.cl 0 2 rfl rfl
     go_simp
     refine hK.out _ ?_ _ ?_ ?_; rotate_left 2
     · (try simp only [r0]); rfl
     exact ⟨hH, v0, fun _ => rfl, v2, v3, v4, v5, v6, v7, v8, v9, v10, v11, v12, v13, v14, v15, v16, v17, v18, v19, v20, v22⟩
   refine AllSteps.cons (j := 3) rfl (fun b t wx hJ hb hd hcl Kc hK => ?_) ?_
   · obtain ⟨hH, v0, v1, v2, v3, v4, v5, v6, v7, v8, v9, v10, v11, v12, v13, v14, v15, v16, v17, v18, v19, v20, v22⟩ := hJ
     have c_hu0a := hH.ext.cell hu0a; have c_hu1a := hH.ext.cell hu1a; have c_hu2a := hH.ext.cell hu2a; have c_hu0b := hH.ext.cell hu0b; have c_hu1b := hH.ext.cell hu1b; have c_hu2b := hH.ext.cell hu2b
     go_simp
     refine hK.out _ ?_ _ ?_ ?_; rotate_left 2
     · rfl
     exact ⟨hH, v0, v1, fun _ => rfl, v3, v4, v5, v6, v7, v8, v9, v10, v11, v12, v13, v14, v15, v16, v17, v18, v19, v20, v22⟩
   refine AllSteps.cons (j := 4) rfl (fun b t wx hJ hb hd hcl Kc hK => ?_) ?_
   · obtain ⟨hH, v0, v1, v2, v3, v4, v5, v6, v7, v8, v9, v10, v11, v12, v13, v14, v15, v16, v17, v18, v19, v20, v22⟩ := hJ
     have d2 := hd.out 2 (by kernel_rfl); have r2 := v2 d2; have c_hu0a := hH.ext.cell hu0a; have c_hu1a := hH.ext.cell hu1a; have c_hu2a := hH.ext.cell hu2a; have c_hu0b := hH.ext.cell hu0b; have c_hu1b := hH.ext.cell hu1b; have c_hu2b := hH.ext.cell hu2b; have q0_3 := hH.cl 0 3 rfl rfl
     go_simp
     refine hK.out _ ?_ _ ?_ ?_; rotate_left 2
     · (try simp only [r2]); rfl
     exact ⟨hH, v0, v1, v2, fun _ => rfl, v4, v5, v6, v7, v8, v9, v10, v11, v12, v13, v14, v15, v16, v17, v18, v19, v20, v22⟩
   refine AllSteps.cons (j := 5) rfl (fun b t wx hJ hb hd hcl Kc hK => ?_) ?_
   · obtain ⟨hH, v0, v1, v2, v3, v4, v5, v6, v7, v8, v9, v10, v11, v12, v13, v14, v15, v16, v17, v18, v19, v20, v22⟩ := hJ
     have c_hu0a := hH.ext.cell hu0a; have c_hu1a := hH.ext.cell hu1a; have c_hu2a := hH.ext.cell hu2a; have c_hu0b := hH.ext.cell hu0b; have c_hu1b := hH.ext.cell hu1b; have c_hu2b := hH.ext.cell hu2b
     go_simp
     refine hK.out _ ?_ _ ?_ ?_; rotate_left 2
     · rfl
     exact ⟨hH, v0, v1, v2, v3, fun _ => rfl, v5, v6, v7, v8, v9, v10, v11, v12, v13, v14, v15, v16, v17, v18, v19, v20, v22⟩
   refine AllSteps.cons (j := 6) rfl (fun b t wx hJ hb hd hcl Kc hK => ?_) ?_
   · obtain ⟨hH, v0, v1, v2, v3, v4, v5, v6, v7, v8, v9, v10, v11, v12, v13, v14, v15, v16, v17, v18, v19, v20, v22⟩ := hJ
     have d3 := hd.out 3 (by kernel_rfl); have d4 := hd.out 4 (by kernel_rfl); have r3 := v3 d3; have r4 := v4 d4; have c_hu0a := hH.ext.cell hu0a; have c_hu1a := hH.ext.cell hu1a; have c_hu2a := hH.ext.cell hu2a; have c_hu0b := hH.ext.cell hu0b; have c_hu1b := hH.ext.cell hu1b; have c_hu2b := hH.ext.cell hu2b
     go_simp
     refine hK.out _ ?_ _ ?_ ?_; rotate_left 2
     · (try simp only [r3, r4]); rfl
     exact ⟨hH, v0, v1, v2, v3, v4, fun _ => rfl, v6, v7, v8, v9, v10, v11, v12, v13, v14, v15, v16, v17, v18, v19, v20, v22⟩
   refine AllSteps.cons (j := 7) rfl (fun b t wx hJ hb hd hcl Kc hK => ?_) ?_
   · obtain ⟨hH, v0, v1, v2, v3, v4, v5, v6, v7, v8, v9, v10, v11, v12, v13, v14, v15, v16, v17, v18, v19, v20, v22⟩ := hJ
     have d5 := hd.out 5 (by kernel_rfl); have r5 := v5 d5; have c_hu0a := hH.ext.cell hu0a; have c_hu1a := hH.ext.cell hu1a; have c_hu2a := hH.ext.cell hu2a; have c_hu0b := hH.ext.cell hu0b; have c_hu1b := hH.ext.cell hu1b; have c_hu2b := hH.ext.cell hu2b
     go_simp
     refine hK.out _ ?_ _ ?_ ?_; rotate_left 2
     · (try simp only [r5]); rfl
     exact ⟨hH, v0, v1, v2, v3, v4, v5, fun _ => rfl, v7, v8, v9, v10, v11, v12, v13, v14, v15, v16, v17, v18, v19, v20, v22⟩
   refine AllSteps.cons (j := 8) rfl (fun b t wx hJ hb hd hcl Kc hK => ?_) ?_
   · obtain ⟨hH, v0, v1, v2, v3, v4, v5, v6, v7, v8, v9, v10, v11, v12, v13, v14, v15, v16, v17, v18, v19, v20, v22⟩ := hJ
     have c_hu0a := hH.ext.cell hu0a; have c_hu1a := hH.ext.cell hu1a; have c_hu2a := hH.ext.cell hu2a; have c_hu0b := hH.ext.cell hu0b; have c_hu1b := hH.ext.cell hu1b; have c_hu2b := hH.ext.cell hu2b
     go_simp
     refine hK.out _ ?_ _ ?_ ?_; rotate_left 2
     · rfl
     exact ⟨hH, v0, v1, v2, v3, v4, v5, v6, fun _ => rfl, v8, v9, v10, v11, v12, v13, v14, v15, v16, v17, v18, v19, v20, v22⟩
   refine AllSteps.cons (j := 9) rfl (fun b t wx hJ hb hd hcl Kc hK => ?_) ?_
   · obtain ⟨hH, v0, v1, v2, v3, v4, v5, v6, v7, v8, v9, v10, v11, v12, v13, v14, v15, v16, v17, v18, v19, v20, v22⟩ := hJ
     have d7 := hd.out 7 (by kernel_rfl); have r7 := v7 d7; have c_hu0a := hH.ext.cell hu0a; have c_hu1a := hH.ext.cell hu1a; have c_hu2a := hH.ext.cell hu2a; have c_hu0b := hH.ext.cell hu0b; have c_hu1b := hH.ext.cell hu1b; have c_hu2b := hH.ext.cell hu2b; have q0_3 := hH.cl 0 3 rfl rfl
     go_simp
     refine hK.out _ ?_ _ ?_ ?_; rotate_left 2
     · (try simp only [r7]); rfl
     exact ⟨hH, v0, v1, v2, v3, v4, v5, v6, v7, fun _ => rfl, v9, v10, v11, v12, v13, v14, v15, v16, v17, v18, v19, v20, v22⟩
   refine AllSteps.cons (j := 10) rfl (fun b t wx hJ hb hd hcl Kc hK => ?_) ?_
   · obtain ⟨hH, v0, v1, v2, v3, v4, v5, v6, v7, v8, v9, v10, v11, v12, v13, v14, v15, v16, v17, v18, v19, v20, v22⟩ := hJ
     have c_hu0a := hH.ext.cell hu0a; have c_hu1a := hH.ext.cell hu1a; have c_hu2a := hH.ext.cell hu2a; have c_hu0b := hH.ext.cell hu0b; have c_hu1b := hH.ext.cell hu1b; have c_hu2b := hH.ext.cell hu2b
     go_simp
     refine hK.out _ ?_ _ ?_ ?_; rotate_left 2
     · rfl
     exact ⟨hH, v0, v1, v2, v3, v4, v5, v6, v7, v8, fun _ => rfl, v10, v11, v12, v13, v14, v15, v16, v17, v18, v19, v20, v22⟩
   refine AllSteps.cons (j := 11) rfl (fun b t wx hJ hb hd hcl Kc hK => ?_) ?_
   · obtain ⟨hH, v0, v1, v2, v3, v4, v5, v6, v7, v8, v9, v10, v11, v12, v13, v14, v15, v16, v17, v18, v19, v20, v22⟩ := hJ
     have d8 := hd.out 8 (by kernel_rfl); have d9 := hd.out 9 (by kernel_rfl); have r8 := v8 d8; have r9 := v9 d9; have c_hu0a := hH.ext.cell hu0a; have c_hu1a := hH.ext.cell hu1a; have c_hu2a := hH.ext.cell hu2a; have c_hu0b := hH.ext.cell hu0b; have c_hu1b := hH.ext.cell hu1b; have c_hu2b := hH.ext.cell hu2b
     go_simp
     refine hK.out _ ?_ _ ?_ ?_; rotate_left 2
     · (try simp only [r8, r9]); rfl
     exact ⟨hH, v0, v1, v2, v3, v4, v5, v6, v7, v8, v9, fun _ => rfl, v11, v12, v13, v14, v15, v16, v17, v18, v19, v20, v22⟩
   refine AllSteps.cons (j := 12) rfl (fun b t wx hJ hb hd hcl Kc hK => ?_) ?_
   · obtain ⟨hH, v0, v1, v2, v3, v4, v5, v6, v7, v8, v9, v10, v11, v12, v13, v14, v15, v16, v17, v18, v19, v20, v22⟩ := hJ
     have d10 := hd.out 10 (by kernel_rfl); have r10 := v10 d10; have c_hu0a := hH.ext.cell hu0a; have c_hu1a := hH.ext.cell hu1a; have c_hu2a := hH.ext.cell hu2a; have c_hu0b := hH.ext.cell hu0b; have c_hu1b := hH.ext.cell hu1b; have c_hu2b := hH.ext.cell hu2b
     go_simp
     refine hK.out _ ?_ _ ?_ ?_; rotate_left 2
     · (try simp only [r10]); rfl
     exact ⟨hH, v0, v1, v2, v3, v4, v5, v6, v7, v8, v9, v10, fun _ => rfl, v12, v13, v14, v15, v16, v17, v18, v19, v20, v22⟩
   refine AllSteps.cons (j := 13) rfl (fun b t wx hJ hb hd hcl Kc hK => ?_) ?_
   · obtain ⟨hH, v0, v1, v2, v3, v4, v5, v6, v7, v8, v9, v10, v11, v12, v13, v14, v15, v16, v17, v18, v19, v20, v22⟩ := hJ
     have c_hu0a := hH.ext.cell hu0a; have c_hu1a := hH.ext.cell hu1a; have c_hu2a := hH.ext.cell hu2a; have c_hu0b := hH.ext.cell hu0b; have c_hu1b := hH.ext.cell hu1b; have c_hu2b := hH.ext.cell hu2b; have q0_0 := hH.cl 0 0 rfl rfl; have q0_1 := hH.cl 0 1 rfl rfl; have q0_2 := hH.cl 0 2 rfl rfl; have q0_3 := hH.cl 0 3 rfl rfl; have q0_4 := hH.cl 0 4 rfl rfl
     go_simp
     refine hK.out _ ?_ _ ?_ ?_; rotate_left 2
     · rfl
     exact ⟨hH, v0, v1, v2, v3, v4, v5, v6, v7, v8, v9, v10, v11, fun _ => rfl, v13, v14, v15, v16, v17, v18, v19, v20, v22⟩
   refine AllSteps.cons (j := 14) rfl (fun b t wx hJ hb hd hcl Kc hK => ?_) ?_
   · obtain ⟨hH, v0, v1, v2, v3, v4, v5, v6, v7, v8, v9, v10, v11, v12, v13, v14, v15, v16, v17, v18, v19, v20, v22⟩ := hJ
     have c_hu0a := hH.ext.cell hu0a; have c_hu1a := hH.ext.cell hu1a; have c_hu2a := hH.ext.cell hu2a; have c_hu0b := hH.ext.cell hu0b; have c_hu1b := hH.ext.cell hu1b; have c_hu2b := hH.ext.cell hu2b
     go_simp
     refine hK.out _ ?_ _ ?_ ?_; rotate_left 2
     · rfl
     exact ⟨hH, v0, v1, v2, v3, v4, v5, v6, v7, v8, v9, v10, v11, v12, fun _ => rfl, v14, v15, v16, v17, v18, v19, v20, v22⟩
   refine AllSteps.cons (j := 15) rfl (fun b t wx hJ hb hd hcl Kc hK => ?_) ?_
   · obtain ⟨hH, v0, v1, v2, v3, v4, v5, v6, v7, v8, v9, v10, v11, v12, v13, v14, v15, v16, v17, v18, v19, v20, v22⟩ := hJ
     have c_hu0a := hH.ext.cell hu0a; have c_hu1a := hH.ext.cell hu1a; have c_hu2a := hH.ext.cell hu2a; have c_hu0b := hH.ext.cell hu0b; have c_hu1b := hH.ext.cell hu1b; have c_hu2b := hH.ext.cell hu2b
     go_simp
     refine hK.out _ ?_ _ ?_ ?_; rotate_left 2
     · rfl
     exact ⟨hH, v0, v1, v2, v3, v4, v5, v6, v7, v8, v9, v10, v11, v12, v13, fun _ => rfl, v15, v16, v17, v18, v19, v20, v22⟩
   refine AllSteps.cons (j := 16) rfl (fun b t wx hJ hb hd hcl Kc hK => ?_) ?_
   · obtain ⟨hH, v0, v1, v2, v3, v4, v5, v6, v7, v8, v9, v10, v11, v12, v13, v14, v15, v16, v17, v18, v19, v20, v22⟩ := hJ
     have d12 := hd.out 12 (by kernel_rfl); have d13 := hd.out 13 (by kernel_rfl); have d14 := hd.out 14 (by kernel_rfl); have r12 := v12 d12; have r13 := v13 d13; have r14 := v14 d14
     have hN := hH; (try simp only [hb, d12, d13, d14, cond_true, cond_false] at hN)
     go_simp
     go_at_call 143
     refine (labelsElsewhere_any HR.out HN.out _ _ _ (hT0.ext hH.ext) (hO0.ext hH.ext) pi pj).mono ?_; rintro e15 w15 ⟨v15, rfl, o15, h15⟩
     rw [HEK.out] at o15
     obtain ⟨x15, c15, rfl, _, _⟩ := o15.ints.val
     (try go_simp)
     refine hK.out _ ?_ _ ?_ ?_; rotate_left 2
     · (try simp only [r12, r13, r14]); rfl
     exact ⟨by have hX := hN.addI 2 h15 o15 (Nat.le_refl _); simpa only [List.set_cons_zero, List.set_cons_succ, updB, updV, blkOf_mk, tup0_mk, partsOf3, Nat.reduceBEq, cond_true, cond_false, hb, d12, d13, d14, r12, r13, r14] using hX, v0, v1, v2, v3, v4, v5, v6, v7, v8, v9, v10, v11, v12, v13, v14, fun _ => ⟨_, _, _, rfl⟩, v16, v17, v18, v19, v20, v22⟩
   refine AllSteps.cons (j := 17) rfl (fun b t wx hJ hb hd hcl Kc hK => ?_) ?_
   · obtain ⟨hH, v0, v1, v2, v3, v4, v5, v6, v7, v8, v9, v10, v11, v12, v13, v14, v15, v16, v17, v18, v19, v20, v22⟩ := hJ
     have d1 := hd.out 1 (by kernel_rfl); have d6 := hd.out 6 (by kernel_rfl); have d11 := hd.out 11 (by kernel_rfl); have d15 := hd.out 15 (by kernel_rfl)
     have n17 : b 17 = false := Bool.eq_false_iff.2 fun h => absurd (hcl.out 17 16 (by kernel_rfl) (h)) (by rw [hb]; exact Bool.false_ne_true)
     have n18 : b 18 = false := Bool.eq_false_iff.2 fun h => absurd (hcl.out 17 16 (by kernel_rfl) (hcl.out 18 17 (by kernel_rfl) (h))) (by rw [hb]; exact Bool.false_ne_true)
     have r1 := v1 d1; have r6 := v6 d6; have r11 := v11 d11; have r15 := v15 d15
     obtain ⟨x_15, c_15, n_15, r15⟩ := r15
     have hN := hH; (try simp only [hb, d1, d6, d11, d15, n17, n18, cond_true, cond_false] at hN)
     go_simp
     go_at_call 47
     refine (contractPair_any HR.out HTIa.out HTIb.out EK _ _ _ _ (hTua.ext hH.ext) (hTub.ext hH.ext) (by have h := hN.ints (k := 2) rfl; rw [r15] at h; exact h)).mono ?_; rintro e16 w16 ⟨vc, rfl, oc, hc⟩
     obtain ⟨pa1, na1, ca1, pa2, na2, ca2, pa3, na3, ca3, rfl⟩ := oc.shape
     (try go_simp)
     refine hK.out _ ?_ _ ?_ ?_; rotate_left 2
     · (try simp only [r1, r6, r11, r15]); rfl
     exact ⟨by have hX := hN.addT 3 hc oc (Nat.le_refl _); simpa only [List.set_cons_zero, List.set_cons_succ, updB, updV, blkOf_mk, tup0_mk, partsOf3, Nat.reduceBEq, cond_true, cond_false, hb, d1, d6, d11, d15, n17, n18, r1, r6, r11, r15] using hX, v0, v1, v2, v3, v4, v5, v6, v7, v8, v9, v10, v11, v12, v13, v14, v15, fun _ => ⟨_, _, _, _, _, _, _, _, _, rfl⟩, fun h => absurd (show b 17 = true from h) (by rw [n17]; exact Bool.false_ne_true), fun h => absurd (show b 18 = true from h) (by rw [n18]; exact Bool.false_ne_true), v19, v20, v22⟩
   refine AllSteps.cons (j := 18) rfl (fun b t wx hJ hb hd hcl Kc hK => ?_) ?_
   · obtain ⟨hH, v0, v1, v2, v3, v4, v5, v6, v7, v8, v9, v10, v11, v12, v13, v14, v15, v16, v17, v18, v19, v20, v22⟩ := hJ
     have d16 := hd.out 16 (by kernel_rfl); have r16 := v16 d16
     obtain ⟨p1_16, n1_16, c1_16, p2_16, n2_16, c2_16, p3_16, n3_16, c3_16, r16⟩ := r16
     have c_hu0a := hH.ext.cell hu0a; have c_hu1a := hH.ext.cell hu1a; have c_hu2a := hH.ext.cell hu2a; have c_hu0b := hH.ext.cell hu0b; have c_hu1b := hH.ext.cell hu1b; have c_hu2b := hH.ext.cell hu2b
     go_simp
     refine hK.out _ ?_ _ ?_ ?_; rotate_left 2
     · (try simp only [r16]); rfl
     exact ⟨hH, v0, v1, v2, v3, v4, v5, v6, v7, v8, v9, v10, v11, v12, v13, v14, v15, v16, fun _ => (by first | rfl | exact r16.symm), v18, v19, v20, v22⟩
   refine AllSteps.cons (j := 19) rfl (fun b t wx hJ hb hd hcl Kc hK => ?_) ?_
   · obtain ⟨hH, v0, v1, v2, v3, v4, v5, v6, v7, v8, v9, v10, v11, v12, v13, v14, v15, v16, v17, v18, v19, v20, v22⟩ := hJ
     have d16 := hcl.out 17 16 (by kernel_rfl) (hd.out 17 (by kernel_rfl)); have d17 := hd.out 17 (by kernel_rfl)
     have n21 : b 21 = false := Bool.eq_false_iff.2 fun h => absurd (hcl.out 21 18 (by kernel_rfl) (h)) (by rw [hb]; exact Bool.false_ne_true)
     have r16 := v16 d16; have r17 := v17 d17
     obtain ⟨p1_16, n1_16, c1_16, p2_16, n2_16, c2_16, p3_16, n3_16, c3_16, r16⟩ := r16
     have hN := hH; (try simp only [hb, d16, d17, n21, cond_true, cond_false] at hN)
     have e16 := r16 -- d16
     go_simp
     refine hK.out _ ?_ _ ?_ ?_; rotate_left 2
     · (try simp only [r16, r17]); rfl
     exact ⟨by have hX := hN; simpa only [List.set_cons_zero, List.set_cons_succ, updB, updV, blkOf_mk, tup0_mk, partsOf3, Nat.reduceBEq, cond_true, cond_false, hb, d16, d17, n21, r16, r17] using hX, v0, v1, v2, v3, v4, v5, v6, v7, v8, v9, v10, v11, v12, v13, v14, v15, v16, v17, fun _ => (by show _ = tup0 (t 16); rw [r16]; rfl), v19, v20, v22⟩
   refine AllSteps.cons (j := 20) rfl (fun b t wx hJ hb hd hcl Kc hK => ?_) ?_
   · obtain ⟨hH, v0, v1, v2, v3, v4, v5, v6, v7, v8, v9, v10, v11, v12, v13, v14, v15, v16, v17, v18, v19, v20, v22⟩ := hJ
     have d16 := hcl.out 17 16 (by kernel_rfl) (hd.out 17 (by kernel_rfl)); have d17 := hd.out 17 (by kernel_rfl); have r16 := v16 d16; have r17 := v17 d17
     obtain ⟨p1_16, n1_16, c1_16, p2_16, n2_16, c2_16, p3_16, n3_16, c3_16, r16⟩ := r16
     have e16 := r16 -- d16
     go_simp
     refine hK.out _ ?_ _ ?_ ?_; rotate_left 2
     · (try simp only [r16, r17]); rfl
     exact ⟨hH, v0, v1, v2, v3, v4, v5, v6, v7, v8, v9, v10, v11, v12, v13, v14, v15, v16, v17, v18, fun _ => rfl, v20, v22⟩
   refine AllSteps.cons (j := 21) rfl (fun b t wx hJ hb hd hcl Kc hK => ?_) ?_
   · obtain ⟨hH, v0, v1, v2, v3, v4, v5, v6, v7, v8, v9, v10, v11, v12, v13, v14, v15, v16, v17, v18, v19, v20, v22⟩ := hJ
     have n21 : b 21 = false := Bool.eq_false_iff.2 fun h => absurd (hcl.out 21 20 (by kernel_rfl) (h)) (by rw [hb]; exact Bool.false_ne_true)
     have hN := hH; (try simp only [hb, n21, cond_true, cond_false] at hN)
     go_simp
     refine hK.out _ ?_ _ ?_ ?_; rotate_left 2
     · rfl
     exact ⟨by have hX := hN.addB 4 #[.slice none 0 0, .slice none 0 0, .slice none 0 0] 32; simpa only [List.set_cons_zero, List.set_cons_succ, updB, updV, blkOf_mk, tup0_mk, partsOf3, Nat.reduceBEq, cond_true, cond_false, hb, n21] using hX, v0, v1, v2, v3, v4, v5, v6, v7, v8, v9, v10, v11, v12, v13, v14, v15, v16, v17, v18, v19, fun _ => ⟨_, rfl⟩, v22⟩
   refine AllSteps.cons (j := 22) rfl (fun b t wx hJ hb hd hcl Kc hK => ?_) ?_
   · obtain ⟨hH, v0, v1, v2, v3, v4, v5, v6, v7, v8, v9, v10, v11, v12, v13, v14, v15, v16, v17, v18, v19, v20, v22⟩ := hJ
     have d0 := hd.out 0 (by kernel_rfl); have d1 := hd.out 1 (by kernel_rfl); have d2 := hd.out 2 (by kernel_rfl); have d3 := hd.out 3 (by kernel_rfl); have d4 := hd.out 4 (by kernel_rfl); have d5 := hd.out 5 (by kernel_rfl); have d6 := hd.out 6 (by kernel_rfl); have d7 := hd.out 7 (by kernel_rfl); have d8 := hd.out 8 (by kernel_rfl); have d9 := hd.out 9 (by kernel_rfl); have d10 := hd.out 10 (by kernel_rfl); have d11 := hd.out 11 (by kernel_rfl); have d12 := hd.out 12 (by kernel_rfl); have d13 := hd.out 13 (by kernel_rfl); have d14 := hd.out 14 (by kernel_rfl); have d15 := hd.out 15 (by kernel_rfl); have d16 := hd.out 16 (by kernel_rfl); have d17 := hd.out 17 (by kernel_rfl); have d18 := hd.out 18 (by kernel_rfl); have d20 := hd.out 20 (by kernel_rfl); have r0 := v0 d0; have r1 := v1 d1; have r2 := v2 d2; have r3 := v3 d3; have r4 := v4 d4; have r5 := v5 d5; have r6 := v6 d6; have r7 := v7 d7; have r8 := v8 d8; have r9 := v9 d9; have r10 := v10 d10; have r11 := v11 d11; have r12 := v12 d12; have r13 := v13 d13; have r14 := v14 d14; have r15 := v15 d15; have r16 := v16 d16; have r17 := v17 d17; have r18 := v18 d18; have r20 := v20 d20
     obtain ⟨x_15, c_15, n_15, r15⟩ := r15
     obtain ⟨p1_16, n1_16, c1_16, p2_16, n2_16, c2_16, p3_16, n3_16, c3_16, r16⟩ := r16
     obtain ⟨q_20, r20⟩ := r20
     have hN := hH; (try simp only [hb, d0, d1, d2, d3, d4, d5, d6, d7, d8, d9, d10, d11, d12, d13, d14, d15, d16, d17, d18, d20, cond_true, cond_false] at hN)
     rw [r16, tup0_mk] at r18 -- d16
     simp only [r20, r18, blkOf_mk, tup0_mk, partsOf3] at hN
     have B := hN.blk (k := 4) rfl
     have f0 := B.free 0; have z0 := B.cell (j := 0) rfl
     have f1 := B.free 1; have z1 := B.cell (j := 1) rfl
     have f2 := B.free 2; have z2 := B.cell (j := 2) rfl
     have lB := B.lt; have hmk0 := @tup0_mk
     go_simp
     refine hK.out _ undef _ ?_ ?_; rotate_left 1
     · (try simp only [r0, r1, r2, r3, r4, r5, r6, r7, r8, r9, r10, r11, r12, r13, r14, r15, r16, r17, r18, r20]); rfl
     exact ⟨by have hX := hN.setB3' (k := 4) rfl (.slice p1_16 n1_16 c1_16) (.slice p2_16 n2_16 c2_16) (.slice p3_16 n3_16 c3_16); simpa only [List.set_cons_zero, List.set_cons_succ, updB, updV, blkOf_mk, tup0_mk, partsOf3, Nat.reduceBEq, cond_true, cond_false, hb, d0, d1, d2, d3, d4, d5, d6, d7, d8, d9, d10, d11, d12, d13, d14, d15, d16, d17, d18, d20, r0, r1, r2, r3, r4, r5, r6, r7, r8, r9, r10, r11, r12, r13, r14, r15, r16, r17, r18, r20] using hX, v0, v1, v2, v3, v4, v5, v6, v7, v8, v9, v10, v11, v12, v13, v14, v15, v16, v17, v18, v19, v20, v22⟩
   refine AllSteps.cons (j := 23) rfl (fun b t wx hJ hb hd hcl Kc hK => ?_) ?_
   · obtain ⟨hH, v0, v1, v2, v3, v4, v5, v6, v7, v8, v9, v10, v11, v12, v13, v14, v15, v16, v17, v18, v19, v20, v22⟩ := hJ
     have d0 := hd.out 0 (by kernel_rfl); have d1 := hd.out 1 (by kernel_rfl); have d2 := hd.out 2 (by kernel_rfl); have d3 := hd.out 3 (by kernel_rfl); have d4 := hd.out 4 (by kernel_rfl); have d5 := hd.out 5 (by kernel_rfl); have d6 := hd.out 6 (by kernel_rfl); have d7 := hd.out 7 (by kernel_rfl); have d8 := hd.out 8 (by kernel_rfl); have d9 := hd.out 9 (by kernel_rfl); have d10 := hd.out 10 (by kernel_rfl); have d11 := hd.out 11 (by kernel_rfl); have d12 := hd.out 12 (by kernel_rfl); have d13 := hd.out 13 (by kernel_rfl); have d14 := hd.out 14 (by kernel_rfl); have d15 := hd.out 15 (by kernel_rfl); have d16 := hd.out 16 (by kernel_rfl); have d17 := hd.out 17 (by kernel_rfl); have d18 := hd.out 18 (by kernel_rfl); have d19 := hd.out 19 (by kernel_rfl); have d20 := hd.out 20 (by kernel_rfl); have d21 := hd.out 21 (by kernel_rfl); have r0 := v0 d0; have r1 := v1 d1; have r2 := v2 d2; have r3 := v3 d3; have r4 := v4 d4; have r5 := v5 d5; have r6 := v6 d6; have r7 := v7 d7; have r8 := v8 d8; have r9 := v9 d9; have r10 := v10 d10; have r11 := v11 d11; have r12 := v12 d12; have r13 := v13 d13; have r14 := v14 d14; have r15 := v15 d15; have r16 := v16 d16; have r17 := v17 d17; have r18 := v18 d18; have r19 := v19 d19; have r20 := v20 d20
     obtain ⟨x_15, c_15, n_15, r15⟩ := r15
     obtain ⟨p1_16, n1_16, c1_16, p2_16, n2_16, c2_16, p3_16, n3_16, c3_16, r16⟩ := r16
     obtain ⟨q_20, r20⟩ := r20
     have c_hu0a := hH.ext.cell hu0a; have c_hu1a := hH.ext.cell hu1a; have c_hu2a := hH.ext.cell hu2a; have c_hu0b := hH.ext.cell hu0b; have c_hu1b := hH.ext.cell hu1b; have c_hu2b := hH.ext.cell hu2b
     go_simp
     refine hK.out _ ?_ _ ?_ ?_; rotate_left 2
     · (try simp only [r0, r1, r2, r3, r4, r5, r6, r7, r8, r9, r10, r11, r12, r13, r14, r15, r16, r17, r18, r19, r20]); rfl
     exact ⟨hH, v0, v1, v2, v3, v4, v5, v6, v7, v8, v9, v10, v11, v12, v13, v14, v15, v16, v17, v18, v19, v20, fun _ => rfl⟩
   exact AllSteps.nil
 case hEb =>
  intro b t wb hJ hall
  obtain ⟨hHb, v0, v1, v2, v3, v4, v5, v6, v7, v8, v9, v10, v11, v12, v13, v14, v15, v16, v17, v18, v19, v20, v22⟩ := hJ
  have a0 := hall 0 (by decide); have a1 := hall 1 (by decide); have a2 := hall 2 (by decide); have a3 := hall 3 (by decide); have a4 := hall 4 (by decide); have a5 := hall 5 (by decide); have a6 := hall 6 (by decide); have a7 := hall 7 (by decide); have a8 := hall 8 (by decide); have a9 := hall 9 (by decide); have a10 := hall 10 (by decide); have a11 := hall 11 (by decide); have a12 := hall 12 (by decide); have a13 := hall 13 (by decide); have a14 := hall 14 (by decide); have a15 := hall 15 (by decide); have a16 := hall 16 (by decide); have a17 := hall 17 (by decide); have a18 := hall 18 (by decide); have a19 := hall 19 (by decide); have a20 := hall 20 (by decide); have a21 := hall 21 (by decide); have a22 := hall 22 (by decide)
  (try simp only [a0, a1, a2, a3, a4, a5, a6, a7, a8, a9, a10, a11, a12, a13, a14, a15, a16, a17, a18, a19, a20, a21, a22, cond_true] at hHb)
  replace v0 := v0 a0; replace v1 := v1 a1; replace v2 := v2 a2; replace v3 := v3 a3; replace v4 := v4 a4; replace v5 := v5 a5; replace v6 := v6 a6; replace v7 := v7 a7; replace v8 := v8 a8; replace v9 := v9 a9; replace v10 := v10 a10; replace v11 := v11 a11; replace v12 := v12 a12; replace v13 := v13 a13; replace v14 := v14 a14; replace v15 := v15 a15; replace v16 := v16 a16; replace v17 := v17 a17; replace v18 := v18 a18; replace v19 := v19 a19; replace v20 := v20 a20; replace v22 := v22 a22
  clear hall a0 a1 a2 a3 a4 a5 a6 a7 a8 a9 a10 a11 a12 a13 a14 a15 a16 a17 a18 a19 a20 a21 a22
  generalize t 22 = x22 at hHb v22 ⊢; generalize t 20 = x20 at hHb v20 ⊢; generalize t 19 = x19 at hHb v19 ⊢; generalize t 18 = x18 at hHb v18 ⊢; generalize t 17 = x17 at hHb v17 ⊢; generalize t 16 = x16 at hHb v16 v17 v18 ⊢; generalize t 15 = x15 at hHb v15 ⊢; generalize t 14 = x14 at hHb v14 ⊢; generalize t 13 = x13 at hHb v13 ⊢; generalize t 12 = x12 at hHb v12 ⊢; generalize t 11 = x11 at hHb v11 ⊢; generalize t 10 = x10 at hHb v10 ⊢; generalize t 9 = x9 at hHb v9 ⊢; generalize t 8 = x8 at hHb v8 ⊢; generalize t 7 = x7 at hHb v7 ⊢; generalize t 6 = x6 at hHb v6 ⊢; generalize t 5 = x5 at hHb v5 ⊢; generalize t 4 = x4 at hHb v4 ⊢; generalize t 3 = x3 at hHb v3 ⊢; generalize t 2 = x2 at hHb v2 ⊢; generalize t 1 = x1 at hHb v1 ⊢; generalize t 0 = x0 at hHb v0 ⊢; subst v0; subst v1; subst v2; subst v3; subst v4; subst v5; subst v6; subst v7; subst v8; subst v9; subst v10; subst v11; subst v12; subst v13; subst v14
  obtain ⟨xb15, cb15, nb15, rfl⟩ := v15
  obtain ⟨p1b16, n1b16, c1b16, p2b16, n2b16, c2b16, p3b16, n3b16, c3b16, rfl⟩ := v16
  subst v17; subst v18; subst v19
  obtain ⟨qb20, rfl⟩ := v20
  subst v22
  simp only [blkOf_mk, tup0_mk, partsOf3] at hHb
  clear b
  replace hH := hHb; clear hHb
  replace hH : Held w wb [aB (w.heap.size) 29 [.int .i64 k, .int .i64 p, .int .i64 n, .slice (some ⟨bT, oT, none⟩) m cV, .slice aO op.length cO], aB (w.heap.size + 1) 29 [.int .i64 0, .int .i64 0, .int .i64 0, .slice none 0 0, .slice none 0 0], aI (.slice xb15 nb15 cb15) EK, aT (.agg #[.slice p1b16 n1b16 c1b16, .slice p2b16 n2b16 c2b16, .slice p3b16 n3b16 c3b16]) (keepL (joinL tla tlb) EK) ((keepL (joinL tla tlb) EK).map dm) (flat (contrXs HR.out dm tla tlb EK xsa xsb)), aB qb20 32 [.slice p1b16 n1b16 c1b16, .slice p2b16 n2b16 c2b16, .slice p3b16 n3b16 c3b16]] := hH
  obtain ⟨q0_0, q0_1, q0_2, q0_3, q0_4, l0_⟩ := hH.c5 0 rfl; obtain ⟨q1_0, q1_1, q1_2, q1_3, q1_4, l1_⟩ := hH.c5 1 rfl; obtain ⟨q4_0, q4_1, q4_2, l4_⟩ := hH.c3 4 rfl
  go_upto_region 8 with fail
  clear q0_0 q0_1 q0_2 q0_3 q0_4 l0_ q1_0 q1_1 q1_2 q1_3 q1_4 l1_ q4_0 q4_1 q4_2 l4_
  obtain ⟨wy, rfl⟩ : ∃ q, q = wb := ⟨wb, rfl⟩
  replace hH := hH.mores 2
  replace hH : Held w wy [aB (w.heap.size) 29 [.int .i64 k, .int .i64 p, .int .i64 n, .slice (some ⟨bT, oT, none⟩) m cV, .slice aO op.length cO], aB (w.heap.size + 1) 29 [.int .i64 0, .int .i64 0, .int .i64 0, .slice none 0 0, .slice none 0 0], aI (.slice xb15 nb15 cb15) EK, aT (.agg #[.slice p1b16 n1b16 c1b16, .slice p2b16 n2b16 c2b16, .slice p3b16 n3b16 c3b16]) (keepL (joinL tla tlb) EK) ((keepL (joinL tla tlb) EK).map dm) (flat (contrXs HR.out dm tla tlb EK xsa xsb)), aB qb20 32 [.slice p1b16 n1b16 c1b16, .slice p2b16 n2b16 c2b16, .slice p3b16 n3b16 c3b16], emp, emp] := hH
  refine wp_region_steps ?Fc (fun b t wx => Held w wx [aB (w.heap.size) 29 [.int .i64 k, .int .i64 p, .int .i64 n, .slice (some ⟨bT, oT, none⟩) m cV, .slice aO op.length cO], aB (w.heap.size + 1) 29 [.int .i64 0, .int .i64 0, .int .i64 0, .slice none 0 0, .slice none 0 0], aI (.slice xb15 nb15 cb15) EK, aT (.agg #[.slice p1b16 n1b16 c1b16, .slice p2b16 n2b16 c2b16, .slice p3b16 n3b16 c3b16]) (keepL (joinL tla tlb) EK) ((keepL (joinL tla tlb) EK).map dm) (flat (contrXs HR.out dm tla tlb EK xsa xsb)), aB qb20 32 [.slice p1b16 n1b16 c1b16, .slice p2b16 n2b16 c2b16, .slice p3b16 n3b16 c3b16], (bif b 4 then aI (t 4) op else emp), (bif b 7 then aB (blkOf (t 6)) 29 (partsN (t 5)) else (bif b 6 then aB (blkOf (t 6)) 29 [.int .i64 0, .int .i64 0, .int .i64 0, .slice none 0 0, .slice none 0 0] else emp))] ∧ (b 0 = true → t 0 = .pointer (some ⟨w.heap.size, 0, none⟩)) ∧ (b 1 = true → t 1 = .agg #[.int .i64 k, .int .i64 p, .int .i64 n]) ∧ (b 2 = true → t 2 = .pointer (some ⟨w.heap.size, 4, none⟩)) ∧ (b 3 = true → t 3 = .slice aO op.length cO) ∧ (b 4 = true → ∃ x c, t 4 = .slice x op.length c) ∧ (b 5 = true → t 5 = .agg #[.int .i64 k, .int .i64 p, .int .i64 n, .slice none 0 0, t 4]) ∧ (b 6 = true → ∃ q, t 6 = .pointer (some ⟨q, 0, none⟩))) ?hFc (by kernel_rfl) (by kernel_rfl) ?hJc ?hSc ?hEc
  (case hFc => intro t; simp only [putAll, Act.put, List.setIfInBounds_toArray, List.set_cons_zero, List.set_cons_succ, Nat.reduceAdd, Nat.zero_add]; exact rfl)
  case hJc => exact ⟨hH.grow ((Ext.refl _).drew), nof, nof, nof, nof, nof, nof, nof⟩
  case hSc => as_aux_lemma =>
    refine AllSteps.cons (j := 1) rfl (fun b t wx hJ hb hd hcl Kc hK => ?_) ?_
    · obtain ⟨hH, v0, v1, v2, v3, v4, v5, v6⟩ := hJ
      go_simp
      refine hK.out _ ?_ _ ?_ ?_; rotate_left 2
      · rfl
      exact ⟨hH, fun _ => rfl, v1, v2, v3, v4, v5, v6⟩
    refine AllSteps.cons (j := 2) rfl (fun b t wx hJ hb hd hcl Kc hK => ?_) ?_
    · obtain ⟨hH, v0, v1, v2, v3, v4, v5, v6⟩ := hJ
      have d0 := hd.out 0 (by kernel_rfl); have r0 := v0 d0; have q0_0 := hH.cl 0 0 rfl rfl; have q0_1 := hH.cl 0 1 rfl rfl; have q0_2 := hH.cl 0 2 rfl rfl
      go_simp
      refine hK.out _ ?_ _ ?_ ?_; rotate_left 2
      · (try simp only [r0]); rfl
      exact ⟨hH, v0, fun _ => rfl, v2, v3, v4, v5, v6⟩
    refine AllSteps.cons (j := 3) rfl (fun b t wx hJ hb hd hcl Kc hK => ?_) ?_
    · obtain ⟨hH, v0, v1, v2, v3, v4, v5, v6⟩ := hJ
      go_simp
      refine hK.out _ ?_ _ ?_ ?_; rotate_left 2
      · rfl
      exact ⟨hH, v0, v1, fun _ => rfl, v3, v4, v5, v6⟩
    refine AllSteps.cons (j := 4) rfl (fun b t wx hJ hb hd hcl Kc hK => ?_) ?_
    · obtain ⟨hH, v0, v1, v2, v3, v4, v5, v6⟩ := hJ
      have d2 := hd.out 2 (by kernel_rfl); have r2 := v2 d2; have q0_4 := hH.cl 0 4 rfl rfl
      go_simp
      refine hK.out _ ?_ _ ?_ ?_; rotate_left 2
      · (try simp only [r2]); rfl
      exact ⟨hH, v0, v1, v2, fun _ => rfl, v4, v5, v6⟩
    refine AllSteps.cons (j := 5) rfl (fun b t wx hJ hb hd hcl Kc hK => ?_) ?_
    · obtain ⟨hH, v0, v1, v2, v3, v4, v5, v6⟩ := hJ
      have d3 := hd.out 3 (by kernel_rfl)
      have n5 : b 5 = false := Bool.eq_false_iff.2 fun h => absurd (hcl.out 5 4 (by kernel_rfl) (h)) (by rw [hb]; exact Bool.false_ne_true)
      have r3 := v3 d3
      have hN := hH; (try simp only [hb, d3, n5, cond_true, cond_false] at hN)
      go_simp
      go_at_call 100
      refine (copyInts_any _ op _ (hO.ext hH.ext) (by omega)).mono ?_; rintro e4 w4 ⟨v4, rfl, o4, h4⟩
      obtain ⟨x4, c4, rfl, _, _⟩ := o4.ints.val
      (try go_simp)
      refine hK.out _ ?_ _ ?_ ?_; rotate_left 2
      · (try simp only [r3]); rfl
      exact ⟨by have hX := hN.addI 5 h4 o4 (Nat.le_refl _); simpa only [List.set_cons_zero, List.set_cons_succ, updB, updV, blkOf_mk, tup0_mk, partsOf3, partsN_mk, Nat.reduceBEq, cond_true, cond_false, hb, d3, n5, r3] using hX, v0, v1, v2, v3, fun _ => ⟨_, _, rfl⟩, fun h => absurd (show b 5 = true from h) (by rw [n5]; exact Bool.false_ne_true), v6⟩
    refine AllSteps.cons (j := 6) rfl (fun b t wx hJ hb hd hcl Kc hK => ?_) ?_
    · obtain ⟨hH, v0, v1, v2, v3, v4, v5, v6⟩ := hJ
      have d1 := hd.out 1 (by kernel_rfl); have d4 := hd.out 4 (by kernel_rfl)
      have n7 : b 7 = false := Bool.eq_false_iff.2 fun h => absurd (hcl.out 7 5 (by kernel_rfl) (h)) (by rw [hb]; exact Bool.false_ne_true)
      have r1 := v1 d1; have r4 := v4 d4
      obtain ⟨x_4, c_4, r4⟩ := r4
      have hN := hH; (try simp only [hb, d1, d4, n7, cond_true, cond_false] at hN)
      have e4 := r4 -- d4
      go_simp
      refine hK.out _ ?_ _ ?_ ?_; rotate_left 2
      · (try simp only [r1, r4]); rfl
      exact ⟨by have hX := hN; simpa only [List.set_cons_zero, List.set_cons_succ, updB, updV, blkOf_mk, tup0_mk, partsOf3, partsN_mk, Nat.reduceBEq, cond_true, cond_false, hb, d1, d4, n7, r1, r4] using hX, v0, v1, v2, v3, v4, fun _ => (by show Value.agg _ = Value.agg #[_, _, _, _, t 4]; rw [r4]), v6⟩
    refine AllSteps.cons (j := 7) rfl (fun b t wx hJ hb hd hcl Kc hK => ?_) ?_
    · obtain ⟨hH, v0, v1, v2, v3, v4, v5, v6⟩ := hJ
      have n7 : b 7 = false := Bool.eq_false_iff.2 fun h => absurd (hcl.out 7 6 (by kernel_rfl) (h)) (by rw [hb]; exact Bool.false_ne_true)
      have hN := hH; (try simp only [hb, n7, cond_true, cond_false] at hN)
      go_simp
      refine hK.out _ ?_ _ ?_ ?_; rotate_left 2
      · rfl
      exact ⟨by have hX := hN.addB 6 #[.int .i64 0, .int .i64 0, .int .i64 0, .slice none 0 0, .slice none 0 0] 29; simpa only [List.set_cons_zero, List.set_cons_succ, updB, updV, blkOf_mk, tup0_mk, partsOf3, partsN_mk, Nat.reduceBEq, cond_true, cond_false, hb, n7] using hX, v0, v1, v2, v3, v4, v5, fun _ => ⟨_, rfl⟩⟩
    refine AllSteps.cons (j := 8) rfl (fun b t wx hJ hb hd hcl Kc hK => ?_) ?_
    · obtain ⟨hH, v0, v1, v2, v3, v4, v5, v6⟩ := hJ
      have d0 := hd.out 0 (by kernel_rfl); have d1 := hd.out 1 (by kernel_rfl); have d2 := hd.out 2 (by kernel_rfl); have d3 := hd.out 3 (by kernel_rfl); have d4 := hd.out 4 (by kernel_rfl); have d5 := hd.out 5 (by kernel_rfl); have d6 := hd.out 6 (by kernel_rfl); have r0 := v0 d0; have r1 := v1 d1; have r2 := v2 d2; have r3 := v3 d3; have r4 := v4 d4; have r5 := v5 d5; have r6 := v6 d6
      obtain ⟨x_4, c_4, r4⟩ := r4
      obtain ⟨q_6, r6⟩ := r6
      have hN := hH; (try simp only [hb, d0, d1, d2, d3, d4, d5, d6, cond_true, cond_false] at hN)
      rw [r4] at r5 -- d4 d5
      simp only [r6, r5, blkOf_mk, tup0_mk, partsN_mk] at hN
      have B := hN.blk (k := 6) rfl
      have f0 := B.free 0; have z0 := B.cell (j := 0) rfl
      have f1 := B.free 1; have z1 := B.cell (j := 1) rfl
      have f2 := B.free 2; have z2 := B.cell (j := 2) rfl
      have f3 := B.free 3; have z3 := B.cell (j := 3) rfl
      have f4 := B.free 4; have z4 := B.cell (j := 4) rfl
      have lB := B.lt; have hmk0 := @tup0_mk
      go_simp
      refine hK.out _ undef _ ?_ ?_; rotate_left 1
      · (try simp only [r0, r1, r2, r3, r4, r5, r6]); rfl
      exact ⟨by have hX := hN.setB5 (k := 6) rfl (.int .i64 k) (.int .i64 p) (.int .i64 n) (.slice none 0 0) (.slice x_4 op.length c_4); simpa only [List.set_cons_zero, List.set_cons_succ, updB, updV, blkOf_mk, tup0_mk, partsOf3, partsN_mk, Nat.reduceBEq, cond_true, cond_false, hb, d0, d1, d2, d3, d4, d5, d6, r0, r1, r2, r3, r4, r5, r6] using hX, v0, v1, v2, v3, v4, v5, v6⟩
    exact AllSteps.nil
  case hEc =>
   intro b t wc hJ hall
   obtain ⟨hHc, v0, v1, v2, v3, v4, v5, v6⟩ := hJ
   have a0 := hall 0 (by decide); have a1 := hall 1 (by decide); have a2 := hall 2 (by decide); have a3 := hall 3 (by decide); have a4 := hall 4 (by decide); have a5 := hall 5 (by decide); have a6 := hall 6 (by decide); have a7 := hall 7 (by decide)
   (try simp only [a0, a1, a2, a3, a4, a5, a6, a7, cond_true] at hHc)
   replace v0 := v0 a0; replace v1 := v1 a1; replace v2 := v2 a2; replace v3 := v3 a3; replace v4 := v4 a4; replace v5 := v5 a5; replace v6 := v6 a6
   clear hall a0 a1 a2 a3 a4 a5 a6 a7
   generalize t 6 = x6 at hHc v6 ⊢; generalize t 5 = x5 at hHc v5 ⊢; generalize t 4 = x4 at hHc v4 v5 ⊢; generalize t 3 = x3 at hHc v3 ⊢; generalize t 2 = x2 at hHc v2 ⊢; generalize t 1 = x1 at hHc v1 ⊢; generalize t 0 = x0 at hHc v0 ⊢; subst v0; subst v1; subst v2; subst v3
   obtain ⟨xc4, cc4, rfl⟩ := v4
   subst v5
   obtain ⟨qc6, rfl⟩ := v6
   simp only [blkOf_mk, tup0_mk, partsOf3, partsN_mk] at hHc
   clear b
   replace hH := hHc; clear hHc
   replace hH : Held w wc [aB (w.heap.size) 29 [.int .i64 k, .int .i64 p, .int .i64 n, .slice (some ⟨bT, oT, none⟩) m cV, .slice aO op.length cO], aB (w.heap.size + 1) 29 [.int .i64 0, .int .i64 0, .int .i64 0, .slice none 0 0, .slice none 0 0], aI (.slice xb15 nb15 cb15) EK, aT (.agg #[.slice p1b16 n1b16 c1b16, .slice p2b16 n2b16 c2b16, .slice p3b16 n3b16 c3b16]) (keepL (joinL tla tlb) EK) ((keepL (joinL tla tlb) EK).map dm) (flat (contrXs HR.out dm tla tlb EK xsa xsb)), aB qb20 32 [.slice p1b16 n1b16 c1b16, .slice p2b16 n2b16 c2b16, .slice p3b16 n3b16 c3b16], aI (.slice xc4 op.length cc4) op, aB qc6 29 [.int .i64 k, .int .i64 p, .int .i64 n, .slice none 0 0, .slice xc4 op.length cc4]] := hH
   replace hH := hH.nilTs
   replace hH : Held w wc [aB (w.heap.size) 29 [.int .i64 k, .int .i64 p, .int .i64 n, .slice (some ⟨bT, oT, none⟩) m cV, .slice aO op.length cO], aB (w.heap.size + 1) 29 [.int .i64 0, .int .i64 0, .int .i64 0, .slice none 0 0, .slice none 0 0], aI (.slice xb15 nb15 cb15) EK, aT (.agg #[.slice p1b16 n1b16 c1b16, .slice p2b16 n2b16 c2b16, .slice p3b16 n3b16 c3b16]) (keepL (joinL tla tlb) EK) ((keepL (joinL tla tlb) EK).map dm) (flat (contrXs HR.out dm tla tlb EK xsa xsb)), aB qb20 32 [.slice p1b16 n1b16 c1b16, .slice p2b16 n2b16 c2b16, .slice p3b16 n3b16 c3b16], aI (.slice xc4 op.length cc4) op, aB qc6 29 [.int .i64 k, .int .i64 p, .int .i64 n, .slice none 0 0, .slice xc4 op.length cc4], aTs (.slice none 0 0) [] []] := hH
   obtain ⟨q0_0, q0_1, q0_2, q0_3, q0_4, l0_⟩ := hH.c5 0 rfl; obtain ⟨q1_0, q1_1, q1_2, q1_3, q1_4, l1_⟩ := hH.c5 1 rfl; obtain ⟨q4_0, q4_1, q4_2, l4_⟩ := hH.c3 4 rfl; obtain ⟨q6_0, q6_1, q6_2, q6_3, q6_4, l6_⟩ := hH.c5 6 rfl
   go_wp2_with fail
   clear q0_0 q0_1 q0_2 q0_3 q0_4 l0_ q1_0 q1_1 q1_2 q1_3 q1_4 l1_ q4_0 q4_1 q4_2 l4_ q6_0 q6_1 q6_2 q6_3 q6_4 l6_
   obtain ⟨wa, rfl⟩ : ∃ q, q = wc := ⟨wc, rfl⟩
   go_loopw [84] (fun i wr => ∃ (j : Nat) (tv : Value) (cs : List (Value × Value × Value)) (A : Asn), j ≤ m ∧ i = .int .i64 (j : Int) ∧ Hid (j ≤ pi → A = aT (.agg #[.slice p1b16 n1b16 c1b16, .slice p2b16 n2b16 c2b16, .slice p3b16 n3b16 c3b16]) (keepL (joinL tla tlb) EK) ((keepL (joinL tla tlb) EK).map dm) (flat (contrXs HR.out dm tla tlb EK xsa xsb))) ∧ Held w wr [aB (w.heap.size) 29 [.int .i64 k, .int .i64 p, .int .i64 n, .slice (some ⟨bT, oT, none⟩) m cV, .slice aO op.length cO], aB (w.heap.size + 1) 29 [.int .i64 0, .int .i64 0, .int .i64 0, .slice none 0 0, .slice none 0 0], aI (.slice xb15 nb15 cb15) EK, A, aB qb20 32 [.slice p1b16 n1b16 c1b16, .slice p2b16 n2b16 c2b16, .slice p3b16 n3b16 c3b16], aI (.slice xc4 op.length cc4) op, aB qc6 29 [.int .i64 k, .int .i64 p, .int .i64 n, tv, .slice xc4 op.length cc4], aTs (tv) cs ((MG j).map (tenOf dm))]) (fun i wr => m - (RowKit.intOf i).toNat)
   case atStart => exact ⟨0, _, _, _, Nat.zero_le _, rfl, Lib.hid fun _ => rfl, by rw [HG0.out]; exact hH⟩
   case round =>
    clear hH
    obtain ⟨j, tv, cs, A, hj, rfl, HA, hH⟩ := hrel
    obtain ⟨QS, hQS⟩ : ∃ q, (MG j).map (tenOf dm) = q := ⟨_, rfl⟩
    rw [hQS] at hH
    obtain ⟨nq, hql⟩ : ∃ q, QS.length = q := ⟨_, rfl⟩
    have hnq : nq ≤ j := by rw [← hql, ← hQS, List.length_map]; exact HGL.out j
    have HQL := Lib.hid hql; have HQS := Lib.hid hQS; clear hql hQS
    obtain ⟨aS, cS, rfl, _, _⟩ := (hH.tensS (k := 7) rfl).val
    rw [HQL.out] at hH
    obtain ⟨wq, rfl⟩ : ∃ q, q = wr := ⟨wr, rfl⟩
    by_cases hlt : j < m
    ·
     obtain ⟨_, _, u1, u2, u3, t3, hV, hu0, hu1, hu2, ht3, hTu⟩ := hT.get (i := j) (by rw [hTl.out]; exact hlt)
     cases hV
     obtain ⟨t, htj, rfl⟩ : ∃ t, ts[j]? = some t ∧ tenOf dm t = t3 := by rw [List.getElem?_map] at ht3; exact Option.map_eq_some_iff.1 ht3
     have HTJ := Lib.hid htj; have HTI := Lib.hid (HN.out.ten t (List.mem_of_getElem? htj)); clear ht3 htj
     obtain ⟨tl, xs⟩ := t
     obtain ⟨e1, m1, f1, e2, m2, f2, e3, m3, f3, hvv⟩ := hTu.shape
     simp at hvv
     obtain ⟨rfl, rfl, rfl⟩ := hvv
     rw [Nat.mul_comm 3 j] at hu0 hu1 hu2
     obtain ⟨_, _, _, hvv, hTL, hTD, hTX⟩ := hTu.val
     simp at hvv
     obtain ⟨rfl, rfl, rfl⟩ := hvv
     simp only [tenOf] at hTu hTL hTD hTX HTI
     obtain ⟨_, _, hvv, _, _⟩ := hTL.val
     simp at hvv
     obtain ⟨rfl, rfl, rfl⟩ := hvv
     obtain ⟨_, _, hvv, _, _⟩ := hTD.val
     simp at hvv
     obtain ⟨rfl, rfl, rfl⟩ := hvv
     have hxl := HTI.out.flatLen HR.out; have hrk : tl.length ≤ 12 := HTI.out.ax.rank; have HXL := Lib.hid hxl; clear hxl
     obtain ⟨q0_0, q0_1, q0_2, q0_3, q0_4, l0_⟩ := hH.c5 0 rfl; obtain ⟨q1_0, q1_1, q1_2, q1_3, q1_4, l1_⟩ := hH.c5 1 rfl; obtain ⟨q4_0, q4_1, q4_2, l4_⟩ := hH.c3 4 rfl; obtain ⟨q6_0, q6_1, q6_2, q6_3, q6_4, l6_⟩ := hH.c5 6 rfl; have c_hu0 := hH.ext.cell hu0; have c_hu1 := hH.ext.cell hu1; have c_hu2 := hH.ext.cell hu2
     go_upto_region 12 with fail
     clear q0_0 q0_1 q0_2 q0_3 q0_4 l0_ q1_0 q1_1 q1_2 q1_3 q1_4 l1_ q4_0 q4_1 q4_2 l4_ q6_0 q6_1 q6_2 q6_3 q6_4 l6_ c_hu0 c_hu1 c_hu2
     have hB : Held w (wq.alloc (.cells #[.slice e1 tl.length f1, .slice e2 tl.length f2, .slice e3 m3 f3] 32)) [aB (w.heap.size) 29 [.int .i64 k, .int .i64 p, .int .i64 n, .slice (some ⟨bT, oT, none⟩) m cV, .slice aO op.length cO], aB (w.heap.size + 1) 29 [.int .i64 0, .int .i64 0, .int .i64 0, .slice none 0 0, .slice none 0 0], aI (.slice xb15 nb15 cb15) EK, A, aB qb20 32 [.slice p1b16 n1b16 c1b16, .slice p2b16 n2b16 c2b16, .slice p3b16 n3b16 c3b16], aI (.slice xc4 op.length cc4) op, aB qc6 29 [.int .i64 k, .int .i64 p, .int .i64 n, .slice aS nq cS, .slice xc4 op.length cc4], aTs (.slice aS nq cS) cs QS, aB (wq.heap.size) 32 [.slice e1 tl.length f1, .slice e2 tl.length f2, .slice e3 m3 f3]] := by
      have h := (hH.mores 1).addB 8 #[.slice e1 tl.length f1, .slice e2 tl.length f2, .slice e3 m3 f3] 32
      exact h
     have hsz : (wq.alloc (.cells #[.slice e1 tl.length f1, .slice e2 tl.length f2, .slice e3 m3 f3] 32)).heap.size = wq.heap.size + 1 := by simp
     generalize wq.alloc (.cells #[.slice e1 tl.length f1, .slice e2 tl.length f2, .slice e3 m3 f3] 32) = wn4 at hB hsz ⊢
     replace hH := hB; have HSZwn4 := Lib.hid hsz; clear hB hsz
     obtain ⟨wb, rfl⟩ : ∃ q, q = wn4 := ⟨wn4, rfl⟩
     by_cases hqi : (j : Int) = (pi : Int)
     ·
      have hjl : j = pi := by omega
      subst hjl
      have hA := HA.out (Nat.le_refl _)
      subst hA
      have HMS := Lib.hid (show (MG (j + 1)).map (tenOf dm) = QS ++ [((keepL (joinL tla tlb) EK), (keepL (joinL tla tlb) EK).map dm, flat (contrXs HR.out dm tla tlb EK xsa xsb))] by rw [HGA.out, List.map_append, HQS.out, HMT.out]; rfl)
      obtain ⟨q0_0, q0_1, q0_2, q0_3, q0_4, l0_⟩ := hH.c5 0 rfl; obtain ⟨q1_0, q1_1, q1_2, q1_3, q1_4, l1_⟩ := hH.c5 1 rfl; obtain ⟨q4_0, q4_1, q4_2, l4_⟩ := hH.c3 4 rfl; obtain ⟨q6_0, q6_1, q6_2, q6_3, q6_4, l6_⟩ := hH.c5 6 rfl; have f6_0 := hH.fr 6 0 rfl; have f6_1 := hH.fr 6 1 rfl; have f6_2 := hH.fr 6 2 rfl; have f6_3 := hH.fr 6 3 rfl; have f6_4 := hH.fr 6 4 rfl; obtain ⟨q8_0, q8_1, q8_2, l8_⟩ := hH.c3 8 rfl; have c_hu0 := hH.ext.cell hu0; have c_hu1 := hH.ext.cell hu1; have c_hu2 := hH.ext.cell hu2
      go_wp2_with (at_builtin; refine wpList_app _ rfl _ _ 26 rfl _ _ rfl rfl _ (run_pushT2 _ (hH.grow ((Ext.refl _).alloc _)) (k1 := 7) (k2 := 3) rfl rfl (by decide) (row_one3 _ _ _ _ _) (by rw [HQL.out]; omega)) ?_; rintro vp wp ⟨hHp, gp⟩; obtain ⟨ap, cp, hvp, _, _⟩ := (hHp.tensS (k := 7) rfl).val; rw [List.length_append, List.length_singleton, HQL.out] at hvp; subst hvp; have yB := hHp.blk (k := 6) rfl; have yl := yB.lt; have y3 := yB.cell (j := 3) rfl; have y3f := yB.free 3; clear yB)
      have hHq := hHp.setB (k := 6) rfl 3 (.slice ap (nq + 1) cp)
      go_roundw
      case rel => exact ⟨j + 1, _, _, emp, by omega, by go_num, Lib.hid fun h => by omega, by rw [HMS.out]; exact hHq.sub (.cons_cons _ (.cons_cons _ (.cons_cons _ (.cons_cons _ (.cons_cons _ (.cons_cons _ (.cons_cons _ (.cons_cons _ (.cons _ .slnil)))))))))⟩
      case measure => simp [RowKit.intOf]; omega
     ·
      have hbi : ((j : Int) == (pi : Int)) = false := by simpa using hqi
      by_cases hqj : (j : Int) = (pj : Int)
      ·
       have HMS : Hid ((MG (j + 1)).map (tenOf dm) = QS) := Lib.hid (by rw [show j = pj by omega, HGN.out, ← show j = pj by omega, HQS.out])
       have hgt : ¬ j + 1 ≤ pi := by omega
       obtain ⟨q0_0, q0_1, q0_2, q0_3, q0_4, l0_⟩ := hH.c5 0 rfl; obtain ⟨q1_0, q1_1, q1_2, q1_3, q1_4, l1_⟩ := hH.c5 1 rfl; obtain ⟨q4_0, q4_1, q4_2, l4_⟩ := hH.c3 4 rfl; obtain ⟨q6_0, q6_1, q6_2, q6_3, q6_4, l6_⟩ := hH.c5 6 rfl; obtain ⟨q8_0, q8_1, q8_2, l8_⟩ := hH.c3 8 rfl; have c_hu0 := hH.ext.cell hu0; have c_hu1 := hH.ext.cell hu1; have c_hu2 := hH.ext.cell hu2
       go_wp2_with fail
       clear q0_0 q0_1 q0_2 q0_3 q0_4 l0_ q1_0 q1_1 q1_2 q1_3 q1_4 l1_ q4_0 q4_1 q4_2 l4_ q6_0 q6_1 q6_2 q6_3 q6_4 l6_ q8_0 q8_1 q8_2 l8_ c_hu0 c_hu1 c_hu2
       go_roundw
       case rel => exact ⟨j + 1, _, cs, A, by omega, by go_num, Lib.hid fun h => absurd h hgt, by rw [HMS.out]; exact hH.sub (.cons_cons _ (.cons_cons _ (.cons_cons _ (.cons_cons _ (.cons_cons _ (.cons_cons _ (.cons_cons _ (.cons_cons _ (.cons _ .slnil)))))))))⟩
       case measure => simp [RowKit.intOf]; omega
      ·
       have hbj : ((j : Int) != (pj : Int)) = true := by simpa using hqj
       have HMS := Lib.hid (show (MG (j + 1)).map (tenOf dm) = QS ++ [(tl, tl.map dm, flat xs)] by rw [HGY.out j _ (by omega) (by omega) HTJ.out, List.map_append, HQS.out]; rfl)
       have HA2 : Hid (j + 1 ≤ pi → A = aT (.agg #[.slice p1b16 n1b16 c1b16, .slice p2b16 n2b16 c2b16, .slice p3b16 n3b16 c3b16]) (keepL (joinL tla tlb) EK) ((keepL (joinL tla tlb) EK).map dm) (flat (contrXs HR.out dm tla tlb EK xsa xsb))) := Lib.hid fun h => HA.out (by omega)
       obtain ⟨q0_0, q0_1, q0_2, q0_3, q0_4, l0_⟩ := hH.c5 0 rfl; obtain ⟨q1_0, q1_1, q1_2, q1_3, q1_4, l1_⟩ := hH.c5 1 rfl; obtain ⟨q4_0, q4_1, q4_2, l4_⟩ := hH.c3 4 rfl; obtain ⟨q6_0, q6_1, q6_2, q6_3, q6_4, l6_⟩ := hH.c5 6 rfl; obtain ⟨q8_0, q8_1, q8_2, l8_⟩ := hH.c3 8 rfl; have c_hu0 := hH.ext.cell hu0; have c_hu1 := hH.ext.cell hu1; have c_hu2 := hH.ext.cell hu2
       go_upto_region 15 with fail
       clear q0_0 q0_1 q0_2 q0_3 q0_4 l0_ q1_0 q1_1 q1_2 q1_3 q1_4 l1_ q4_0 q4_1 q4_2 l4_ q6_0 q6_1 q6_2 q6_3 q6_4 l6_ q8_0 q8_1 q8_2 l8_ c_hu0 c_hu1 c_hu2
       clear hbi hbj hqi hqj
       replace hH := hH.mores 2
       replace hH : Held w wb [aB (w.heap.size) 29 [.int .i64 k, .int .i64 p, .int .i64 n, .slice (some ⟨bT, oT, none⟩) m cV, .slice aO op.length cO], aB (w.heap.size + 1) 29 [.int .i64 0, .int .i64 0, .int .i64 0, .slice none 0 0, .slice none 0 0], aI (.slice xb15 nb15 cb15) EK, A, aB qb20 32 [.slice p1b16 n1b16 c1b16, .slice p2b16 n2b16 c2b16, .slice p3b16 n3b16 c3b16], aI (.slice xc4 op.length cc4) op, aB qc6 29 [.int .i64 k, .int .i64 p, .int .i64 n, .slice aS nq cS, .slice xc4 op.length cc4], aTs (.slice aS nq cS) cs QS, aB (wq.heap.size) 32 [.slice e1 tl.length f1, .slice e2 tl.length f2, .slice e3 m3 f3], emp, emp] := hH
       refine wp_region_steps ?Ff (fun b t wx => Held w wx [aB (w.heap.size) 29 [.int .i64 k, .int .i64 p, .int .i64 n, .slice (some ⟨bT, oT, none⟩) m cV, .slice aO op.length cO], aB (w.heap.size + 1) 29 [.int .i64 0, .int .i64 0, .int .i64 0, .slice none 0 0, .slice none 0 0], aI (.slice xb15 nb15 cb15) EK, A, aB qb20 32 [.slice p1b16 n1b16 c1b16, .slice p2b16 n2b16 c2b16, .slice p3b16 n3b16 c3b16], aI (.slice xc4 op.length cc4) op, (bif b 7 then aB qc6 29 [.int .i64 k, .int .i64 p, .int .i64 n, t 5, .slice xc4 op.length cc4] else aB qc6 29 [.int .i64 k, .int .i64 p, .int .i64 n, .slice aS nq cS, .slice xc4 op.length cc4]), (bif b 5 then aTs (t 5) (cs ++ [cel3 (t 3)]) (QS ++ [(tl, (tl.map dm), (flat xs))]) else aTs (.slice aS nq cS) cs QS), aB (wq.heap.size) 32 [.slice e1 tl.length f1, .slice e2 tl.length f2, .slice e3 m3 f3], (bif b 5 then emp else (bif b 3 then aT (t 3) tl (tl.map dm) (flat xs) else emp)), (bif b 4 then aB (blkS (t 4)) 32 (partsOf (t 3)) else emp)] ∧ (b 0 = true → t 0 = .pointer (some ⟨qc6, 3, none⟩)) ∧ (b 1 = true → t 1 = .slice aS nq cS) ∧ (b 2 = true → t 2 = .agg #[.slice e1 tl.length f1, .slice e2 tl.length f2, .slice e3 m3 f3]) ∧ (b 3 = true → ∃ p1 n1 c1 p2 n2 c2 p3 n3 c3, t 3 = .agg #[.slice p1 n1 c1, .slice p2 n2 c2, .slice p3 n3 c3]) ∧ (b 4 = true → ∃ z, t 4 = .slice (some ⟨z, 0, none⟩) 1 1) ∧ (b 5 = true → ∃ a c, t 5 = .slice a (nq + 1) c) ∧ (b 6 = true → t 6 = .pointer (some ⟨qc6, 3, none⟩))) ?hFf (by kernel_rfl) (by kernel_rfl) ?hJf ?hSf ?hEf
       (case hFf => intro t; simp only [putAll, Act.put, List.setIfInBounds_toArray, List.set_cons_zero, List.set_cons_succ, Nat.reduceAdd, Nat.zero_add]; exact rfl)
       case hJf => exact ⟨hH.grow ((Ext.refl _).drew), nof, nof, nof, nof, nof, nof, nof⟩
       case hSf => as_aux_lemma =>
         refine AllSteps.cons (j := 1) rfl (fun b t wx hJ hb hd hcl Kc hK => ?_) ?_
         · obtain ⟨hH, v0, v1, v2, v3, v4, v5, v6⟩ := hJ
           go_simp
           refine hK.out _ ?_ _ ?_ ?_; rotate_left 2
           · rfl
           exact ⟨hH, fun _ => rfl, v1, v2, v3, v4, v5, v6⟩
         refine AllSteps.cons (j := 2) rfl (fun b t wx hJ hb hd hcl Kc hK => ?_) ?_
         · obtain ⟨hH, v0, v1, v2, v3, v4, v5, v6⟩ := hJ
           have d0 := hd.out 0 (by kernel_rfl)
           have n7 : b 7 = false := Bool.eq_false_iff.2 fun h => absurd (hcl.out 7 1 (by kernel_rfl) (h)) (by rw [hb]; exact Bool.false_ne_true)
           have r0 := v0 d0
           have hN := hH; (try simp only [hb, d0, n7, cond_true, cond_false] at hN)
           have q6_3 := hN.cl 6 3 rfl rfl
           go_simp
           refine hK.out _ ?_ _ ?_ ?_; rotate_left 2
           · (try simp only [r0]); rfl
           exact ⟨hH, v0, fun _ => rfl, v2, v3, v4, v5, v6⟩
         refine AllSteps.cons (j := 3) rfl (fun b t wx hJ hb hd hcl Kc hK => ?_) ?_
         · obtain ⟨hH, v0, v1, v2, v3, v4, v5, v6⟩ := hJ
           have q8_0 := hH.cl 8 0 rfl rfl; have q8_1 := hH.cl 8 1 rfl rfl; have q8_2 := hH.cl 8 2 rfl rfl
           go_simp
           refine hK.out _ ?_ _ ?_ ?_; rotate_left 2
           · rfl
           exact ⟨hH, v0, v1, fun _ => rfl, v3, v4, v5, v6⟩
         refine AllSteps.cons (j := 4) rfl (fun b t wx hJ hb hd hcl Kc hK => ?_) ?_
         · obtain ⟨hH, v0, v1, v2, v3, v4, v5, v6⟩ := hJ
           have d2 := hd.out 2 (by kernel_rfl)
           have n4 : b 4 = false := Bool.eq_false_iff.2 fun h => absurd (hcl.out 4 3 (by kernel_rfl) (h)) (by rw [hb]; exact Bool.false_ne_true)
           have n5 : b 5 = false := Bool.eq_false_iff.2 fun h => absurd (hcl.out 5 3 (by kernel_rfl) (h)) (by rw [hb]; exact Bool.false_ne_true)
           have r2 := v2 d2
           have hN := hH; (try simp only [hb, d2, n4, n5, cond_true, cond_false] at hN)
           go_simp
           go_at_call 91
           refine (copyTensor_any _ tl (tl.map dm) (flat xs) _ (hTu.ext hH.ext) (by omega) (by rw [List.length_map]; omega) HXL.out).mono ?_; rintro e3 w3 ⟨vd, rfl, od, h7⟩
           obtain ⟨pa1, na1, ca1, pa2, na2, ca2, pa3, na3, ca3, rfl⟩ := od.shape
           (try go_simp)
           refine hK.out _ ?_ _ ?_ ?_; rotate_left 2
           · (try simp only [r2]); rfl
           exact ⟨by have hX := hN.addT 9 h7 od (Nat.le_refl _); simpa only [List.set_cons_zero, List.set_cons_succ, updB, updV, blkOf_mk, tup0_mk, partsOf3, blkS_mk, cel3_mk, Nat.reduceBEq, cond_true, cond_false, hb, d2, n4, n5, r2] using hX, v0, v1, v2, fun _ => ⟨_, _, _, _, _, _, _, _, _, rfl⟩, v4, v5, v6⟩
         refine AllSteps.cons (j := 5) rfl (fun b t wx hJ hb hd hcl Kc hK => ?_) ?_
         · obtain ⟨hH, v0, v1, v2, v3, v4, v5, v6⟩ := hJ
           have d3 := hd.out 3 (by kernel_rfl); have r3 := v3 d3
           obtain ⟨p1_3, n1_3, c1_3, p2_3, n2_3, c2_3, p3_3, n3_3, c3_3, r3⟩ := r3
           have hN := hH; (try simp only [hb, d3, cond_true, cond_false] at hN)
           have e3 := r3 -- d3
           go_simp
           refine hK.out _ ?_ _ ?_ ?_; rotate_left 2
           · (try simp only [r3]); rfl
           exact ⟨by have hX := hN.addB 10 #[.slice p1_3 n1_3 c1_3, .slice p2_3 n2_3 c2_3, .slice p3_3 n3_3 c3_3] 32; simpa only [List.set_cons_zero, List.set_cons_succ, updB, updV, blkOf_mk, tup0_mk, partsOf3, blkS_mk, cel3_mk, Nat.reduceBEq, cond_true, cond_false, hb, d3, r3] using hX, v0, v1, v2, v3, fun _ => ⟨_, rfl⟩, v5, v6⟩
         refine AllSteps.cons (j := 6) rfl (fun b t wx hJ hb hd hcl Kc hK => ?_) ?_
         · obtain ⟨hH, v0, v1, v2, v3, v4, v5, v6⟩ := hJ
           have d1 := hd.out 1 (by kernel_rfl); have d3 := hd.out 3 (by kernel_rfl); have d4 := hd.out 4 (by kernel_rfl)
           have n7 : b 7 = false := Bool.eq_false_iff.2 fun h => absurd (hcl.out 7 5 (by kernel_rfl) (h)) (by rw [hb]; exact Bool.false_ne_true)
           have r1 := v1 d1; have r3 := v3 d3; have r4 := v4 d4
           obtain ⟨p1_3, n1_3, c1_3, p2_3, n2_3, c2_3, p3_3, n3_3, c3_3, r3⟩ := r3
           obtain ⟨z_4, r4⟩ := r4
           have hN := hH; (try simp only [hb, d1, d3, d4, n7, cond_true, cond_false] at hN)
           rw [r3] at hN -- d3 d4
           refine step_app wx rfl _ _ 26 rfl (.slice aS nq cS) (t 4) (by first | rfl | (go_simp; done)) (by first | rfl | (go_simp; done)) _ (run_pushT2 _ hN (k1 := 7) (k2 := 9) rfl rfl (by decide) (by rw [r4]; have h := hN.blk (k := 10) rfl; rw [r4] at h; exact row_blk3 h) ((by rw [HQL.out]; omega))) ?_; rintro va wa ⟨hHa, ga⟩
           obtain ⟨aa, ca, hva, _, _⟩ := (hHa.tensS (k := 7) rfl).val; subst hva
           refine hK.out _ ?_ _ ?_ ?_; rotate_left 2
           · (try simp only [r1, r3, r4]); rfl
           exact ⟨by have hX := hHa; simpa only [List.set_cons_zero, List.set_cons_succ, updB, updV, blkOf_mk, tup0_mk, partsOf3, blkS_mk, cel3_mk, Nat.reduceBEq, cond_true, cond_false, hb, d1, d3, d4, n7, r1, r3, r4] using hX, v0, v1, v2, v3, v4, fun _ => ⟨_, _, by rw [List.length_append, HQL.out]; rfl⟩, v6⟩
         refine AllSteps.cons (j := 7) rfl (fun b t wx hJ hb hd hcl Kc hK => ?_) ?_
         · obtain ⟨hH, v0, v1, v2, v3, v4, v5, v6⟩ := hJ
           have d0 := hd.out 0 (by kernel_rfl); have d1 := hd.out 1 (by kernel_rfl); have d2 := hd.out 2 (by kernel_rfl); have d3 := hd.out 3 (by kernel_rfl); have d4 := hd.out 4 (by kernel_rfl); have d5 := hd.out 5 (by kernel_rfl); have r0 := v0 d0; have r1 := v1 d1; have r2 := v2 d2; have r3 := v3 d3; have r4 := v4 d4; have r5 := v5 d5
           obtain ⟨p1_3, n1_3, c1_3, p2_3, n2_3, c2_3, p3_3, n3_3, c3_3, r3⟩ := r3
           obtain ⟨z_4, r4⟩ := r4
           obtain ⟨a_5, c_5, r5⟩ := r5
           go_simp
           refine hK.out _ ?_ _ ?_ ?_; rotate_left 2
           · (try simp only [r0, r1, r2, r3, r4, r5]); rfl
           exact ⟨hH, v0, v1, v2, v3, v4, v5, fun _ => rfl⟩
         refine AllSteps.cons (j := 8) rfl (fun b t wx hJ hb hd hcl Kc hK => ?_) ?_
         · obtain ⟨hH, v0, v1, v2, v3, v4, v5, v6⟩ := hJ
           have d0 := hd.out 0 (by kernel_rfl); have d1 := hd.out 1 (by kernel_rfl); have d2 := hd.out 2 (by kernel_rfl); have d3 := hd.out 3 (by kernel_rfl); have d4 := hd.out 4 (by kernel_rfl); have d5 := hd.out 5 (by kernel_rfl); have d6 := hd.out 6 (by kernel_rfl); have r0 := v0 d0; have r1 := v1 d1; have r2 := v2 d2; have r3 := v3 d3; have r4 := v4 d4; have r5 := v5 d5; have r6 := v6 d6
           obtain ⟨p1_3, n1_3, c1_3, p2_3, n2_3, c2_3, p3_3, n3_3, c3_3, r3⟩ := r3
           obtain ⟨z_4, r4⟩ := r4
           obtain ⟨a_5, c_5, r5⟩ := r5
           have hN := hH; (try simp only [hb, d0, d1, d2, d3, d4, d5, d6, cond_true, cond_false] at hN)
           have B := hN.blk (k := 6) rfl; have fB := B.free 3; have zB := B.cell (j := 3) rfl; have lB := B.lt
           go_simp
           refine hK.out _ undef _ ?_ ?_; rotate_left 1
           · (try simp only [r0, r1, r2, r3, r4, r5, r6]); rfl
           exact ⟨by have hX := hN.setB (k := 6) rfl 3 (t 5); simpa only [List.set_cons_zero, List.set_cons_succ, updB, updV, blkOf_mk, tup0_mk, partsOf3, blkS_mk, cel3_mk, Nat.reduceBEq, cond_true, cond_false, hb, d0, d1, d2, d3, d4, d5, d6, r0, r1, r2, r3, r4, r5, r6] using hX, v0, v1, v2, v3, v4, v5, v6⟩
         exact AllSteps.nil
       case hEf =>
        intro b t wf hJ hall
        obtain ⟨hHf, v0, v1, v2, v3, v4, v5, v6⟩ := hJ
        have a0 := hall 0 (by decide); have a1 := hall 1 (by decide); have a2 := hall 2 (by decide); have a3 := hall 3 (by decide); have a4 := hall 4 (by decide); have a5 := hall 5 (by decide); have a6 := hall 6 (by decide); have a7 := hall 7 (by decide)
        (try simp only [a0, a1, a2, a3, a4, a5, a6, a7, cond_true] at hHf)
        replace v0 := v0 a0; replace v1 := v1 a1; replace v2 := v2 a2; replace v3 := v3 a3; replace v4 := v4 a4; replace v5 := v5 a5; replace v6 := v6 a6
        clear hall a0 a1 a2 a3 a4 a5 a6 a7
        generalize t 6 = x6 at hHf v6 ⊢; generalize t 5 = x5 at hHf v5 ⊢; generalize t 4 = x4 at hHf v4 ⊢; generalize t 3 = x3 at hHf v3 ⊢; generalize t 2 = x2 at hHf v2 ⊢; generalize t 1 = x1 at hHf v1 ⊢; generalize t 0 = x0 at hHf v0 ⊢; subst v0; subst v1; subst v2
        obtain ⟨p1f3, n1f3, c1f3, p2f3, n2f3, c2f3, p3f3, n3f3, c3f3, rfl⟩ := v3
        obtain ⟨zf4, rfl⟩ := v4
        obtain ⟨af5, cf5, rfl⟩ := v5
        subst v6
        simp only [blkOf_mk, tup0_mk, partsOf3, blkS_mk, cel3_mk] at hHf
        clear b
        replace hH := hHf; clear hHf
        replace hH : Held w wf [aB (w.heap.size) 29 [.int .i64 k, .int .i64 p, .int .i64 n, .slice (some ⟨bT, oT, none⟩) m cV, .slice aO op.length cO], aB (w.heap.size + 1) 29 [.int .i64 0, .int .i64 0, .int .i64 0, .slice none 0 0, .slice none 0 0], aI (.slice xb15 nb15 cb15) EK, A, aB qb20 32 [.slice p1b16 n1b16 c1b16, .slice p2b16 n2b16 c2b16, .slice p3b16 n3b16 c3b16], aI (.slice xc4 op.length cc4) op, aB qc6 29 [.int .i64 k, .int .i64 p, .int .i64 n, .slice af5 (nq + 1) cf5, .slice xc4 op.length cc4], aTs (.slice af5 (nq + 1) cf5) (cs ++ [(.slice p1f3 n1f3 c1f3, .slice p2f3 n2f3 c2f3, .slice p3f3 n3f3 c3f3)]) (QS ++ [(tl, (tl.map dm), (flat xs))]), aB (wq.heap.size) 32 [.slice e1 tl.length f1, .slice e2 tl.length f2, .slice e3 m3 f3], emp, aB zf4 32 [.slice p1f3 n1f3 c1f3, .slice p2f3 n2f3 c2f3, .slice p3f3 n3f3 c3f3]] := hH
        go_wp2_with fail
        go_roundw
        case rel => exact ⟨j + 1, _, _, A, by omega, by go_num, HA2, by rw [HMS.out]; exact hH.sub (.cons_cons _ (.cons_cons _ (.cons_cons _ (.cons_cons _ (.cons_cons _ (.cons_cons _ (.cons_cons _ (.cons_cons _ (.cons _ (.cons _ (.cons _ .slnil)))))))))))⟩
        case measure => simp [RowKit.intOf]; omega
    ·
     have hje : j = m := by omega
     have HQF : Hid ((MG m).map (tenOf dm) = QS) := Lib.hid (by rw [← hje]; exact HQS.out)
     obtain ⟨q0_0, q0_1, q0_2, q0_3, q0_4, l0_⟩ := hH.c5 0 rfl; obtain ⟨q1_0, q1_1, q1_2, q1_3, q1_4, l1_⟩ := hH.c5 1 rfl; have f1_0 := hH.fr 1 0 rfl; have f1_1 := hH.fr 1 1 rfl; have f1_2 := hH.fr 1 2 rfl; have f1_3 := hH.fr 1 3 rfl; have f1_4 := hH.fr 1 4 rfl; obtain ⟨q4_0, q4_1, q4_2, l4_⟩ := hH.c3 4 rfl; obtain ⟨q6_0, q6_1, q6_2, q6_3, q6_4, l6_⟩ := hH.c5 6 rfl
     go_wp2_with fail
     refine bodyPost_ret (v := .tuple #[.agg #[.int .i64 k, .int .i64 p, .int .i64 n, .slice aS nq cS, .slice xc4 op.length cc4], .bool true]) (by simp [results, Try.results63, go_sem, *]) rfl ?_
     rw [HQF.out]
     exact ⟨_, _, cs, rfl, ((hH.setB5 (k := 1) rfl (.int .i64 k) (.int .i64 p) (.int .i64 n) (.slice aS nq cS) (.slice xc4 op.length cc4)).sub (.cons _ (.cons _ (.cons _ (.cons _ (.cons _ (.cons_cons _ (.cons _ (.cons_cons _ .slnil))))))))).swap2⟩
end Go.Proofs.Ytpegckmagiaggaa
