/- bestTable of the program. -/
import Derived.Test.YtpegckmagiaggaaTBestT
set_option linter.unusedSimpArgs false
set_option linter.unusedVariables false
namespace Go.Proofs.Ytpegckmagiaggaa
open Go.RowKit
def tup1 : Value → Value
  | .agg xs => xs.toList.getD 1 undef
  | _ => undef
theorem tup1_mk (x y z : Value) : tup1 (.agg #[x, y, z]) = y := rfl
structure BestR {k p n : Int} (dm : Int → Int) (ts : List (NT k p n)) (op : List Int) (w w' : World) (u1 u2 : Value) : Prop where
  has : ∃ C F, (∃ a0, TabT (valS dm ts op) (2 ^ ts.length) C F (2 ^ ts.length) a0) ∧ Held w w' [aI u1 C, aI u2 F]
set_option maxRecDepth 100000 in
set_option maxHeartbeats 8000000 in
theorem bestTable_any {k p n : Int} (hr : ringOk k p n = true) {dm : Int → Int} {U : List Int} {ts : List (NT k p n)} {op : List Int} (hN : IsN k p n dm U ts op) (tv ov : Value) (w : World) (hT : TensS w tv (ts.map (tenOf dm))) (hO : IntS w ov op) (hm5 : ts.length ≤ 5) :
 Calls Try.prog 146 #[.agg #[.int .i64 k, .int .i64 p, .int .i64 n, tv, ov]] w fun e w' => ∃ u1 u2, e = .returned (.tuple #[u1, u2]) ∧ BestR dm ts op w w' u1 u2 := by
 have hT0 := hT
 have hO0 := hO
 obtain ⟨m, hm⟩ : ∃ m, ts.length = m := ⟨_, rfl⟩
 obtain ⟨aV, cV, rfl, hcT1, hcT2⟩ := hT.val
 obtain ⟨aO, cO, rfl, hcO1, hcO2⟩ := hO.val
 rw [List.length_map, hm] at hT hT0 hcT1
 rw [List.length_map, hm]
 have hm12 : m ≤ 12 := by rw [← hm]; exact hN.len
 have hop12 : op.length ≤ 12 := hN.rank
 have HM := Lib.hid hm; have HR := Lib.hid hr; have HN := Lib.hid hN; have HD3 := Lib.hid hN.dims3; clear hm  hN
 have hTl : Hid ((ts.map (tenOf dm)).length = m) := Lib.hid (by rw [List.length_map]; exact HM.out)
 rw [HM.out] at hm5
 have hw64 : wrap64 ((2 : Int) ^ m) = ((2 ^ m : Nat) : Int) := wrap_pow m (by omega)
 obtain ⟨M, hM⟩ : ∃ q : Nat, 2 ^ m = q := ⟨_, rfl⟩
 have hM1 : 1 ≤ M := by rw [← hM]; exact Nat.one_le_two_pow
 have hM2 : M ≤ 32 := by rw [← hM]; exact Nat.pow_le_pow_right (n := 2) (by decide) hm5
 rw [hM] at hw64
 have HMM := Lib.hid hM; have HW64 := Lib.hid hw64; clear hM hw64
 have hmk0 : ∃ RW : Nat → List Int, (fun q => setLab (occ (bitN ts q ts.length)) (occ (nbitN ts q ts.length)) op) = RW := ⟨_, rfl⟩
 obtain ⟨RW, hRW⟩ := hmk0
 have HRW : Hid (∀ q, setLab (occ (bitN ts q ts.length)) (occ (nbitN ts q ts.length)) op = RW q) := Lib.hid fun q => by rw [← hRW]
 have HRJ : Hid (∀ q, RW q = labJ ts op 0 q) := Lib.hid fun q => by rw [← hRW]; unfold labJ; rw [if_neg fun h => Nat.not_lt_zero _ h.2]
 clear hRW
 go_enter Try.func146, Try.ntmps146
 go_upto_region 1 with fail
 have hH : Held w w [] := Held.new (Ext.refl w) 0
 have hB : Held w (w.alloc (.cells #[.int .i64 k, .int .i64 p, .int .i64 n, .slice aV m cV, .slice aO op.length cO] 29)) [aB (w.heap.size) 29 [.int .i64 k, .int .i64 p, .int .i64 n, .slice aV m cV, .slice aO op.length cO]] := by
  have h := (hH.mores 1).addB 0 #[.int .i64 k, .int .i64 p, .int .i64 n, .slice aV m cV, .slice aO op.length cO] 29
  exact h
 have hsz : (w.alloc (.cells #[.int .i64 k, .int .i64 p, .int .i64 n, .slice aV m cV, .slice aO op.length cO] 29)).heap.size = w.heap.size + 1 := by simp
 generalize w.alloc (.cells #[.int .i64 k, .int .i64 p, .int .i64 n, .slice aV m cV, .slice aO op.length cO] 29) = wn1 at hB hsz ⊢
 replace hH := hB; have HSZwn1 := Lib.hid hsz; clear hB hsz
 have q0_0 := hH.cl 0 0 rfl rfl; have q0_1 := hH.cl 0 1 rfl rfl; have q0_2 := hH.cl 0 2 rfl rfl; have q0_3 := hH.cl 0 3 rfl rfl; have q0_4 := hH.cl 0 4 rfl rfl; have l0_ := hH.bl 0 rfl
 go_wp2_with fail
 clear q0_0 q0_1 q0_2 q0_3 q0_4 l0_
 refine (dimsOf_any HD3.out (by rw [hTl.out]; omega) _ _ (hT.ext hH.ext)).mono ?_; rintro ewn2 wn2 ⟨rfl, hwn2⟩
 rw [occ3_ten]
 replace hH : Held w wn2 [aB (w.heap.size) 29 [.int .i64 k, .int .i64 p, .int .i64 n, .slice aV m cV, .slice aO op.length cO]] := hH.grow hwn2
 clear hwn2
 go_upto_region 3 with (first | (refine wpList_alloc_arr rfl rfl ?_) | (refine wpList_store_arr (A0 := (List.replicate 100 0)) rfl _ _ rfl rfl rfl (by have h := Blk.new wn2 (arrV (List.replicate 100 0)) 99; rw [arrV_list] at h; exact h) (arrL_length _ _) (List.length_replicate ..) ?_; rintro wn3 hg hB hs))
 replace hH : Held w wn3 [aB (w.heap.size) 29 [.int .i64 k, .int .i64 p, .int .i64 n, .slice aV m cV, .slice aO op.length cO], aB (wn2.heap.size) 99 (ints (arrL dm (occ ts)))] := (hH.mores 1).add 1 (((Ext.refl _).alloc _).only hg (fun q hq => by cases hq; exact Nat.le_refl _)) hB (fun q hq => by simp [aB] at hq; subst hq; exact Nat.le_refl _)
 clear hg hB hs
 have hw64 := HW64.out
 have hmk := mkSlices M (by omega)
 have q0_0 := hH.cl 0 0 rfl rfl; have q0_1 := hH.cl 0 1 rfl rfl; have q0_2 := hH.cl 0 2 rfl rfl; have q0_3 := hH.cl 0 3 rfl rfl; have q0_4 := hH.cl 0 4 rfl rfl; have l0_ := hH.bl 0 rfl
 go_wp2_with fail
 clear q0_0 q0_1 q0_2 q0_3 q0_4 l0_
 clear hmk hw64
 obtain ⟨lb, hlb⟩ : ∃ q, wn3.heap.size = q := ⟨_, rfl⟩
 have hB := (hH.mores 1).addB 2 (madeCells #[.slice none 0 0] M) 27
 rw [made_nil, hlb] at hB; rw [hlb]
 have hLB := LabR.nil (wn3.alloc (.cells (madeCells #[.slice none 0 0] M) 27)) M
 generalize wn3.alloc (.cells (madeCells #[.slice none 0 0] M) 27) = wn4 at hB hLB ⊢
 clear hlb
 replace hH : Held w wn4 [aB (w.heap.size) 29 [.int .i64 k, .int .i64 p, .int .i64 n, .slice aV m cV, .slice aO op.length cO], aB (wn2.heap.size) 99 (ints (arrL dm (occ ts))), aB lb 27 (List.replicate M (.slice none 0 0))] := hB
 clear hB
 go_loopw [33] (fun i wr => ∃ (j : Nat) (vs : List Value), j ≤ M ∧ i = .int .i64 (j : Int) ∧ LabR wr vs (fun q => if q < j then RW q else []) M ∧ Held w wr [aB (w.heap.size) 29 [.int .i64 k, .int .i64 p, .int .i64 n, .slice aV m cV, .slice aO op.length cO], aB (wn2.heap.size) 99 (ints (arrL dm (occ ts))), aB lb 27 vs]) (fun i wr => M - (RowKit.intOf i).toNat)
 case atStart => exact ⟨0, _, Nat.zero_le _, rfl, hLB.congr fun q _ => by rw [if_neg (Nat.not_lt_zero _)], hH⟩
 case round =>
  clear hH hLB
  obtain ⟨j, vs, hj, rfl, hLB, hH⟩ := hrel
  obtain ⟨wq, rfl⟩ : ∃ q, q = wr := ⟨wr, rfl⟩
  by_cases hlt : j < M
  ·
   have q0_0 := hH.cl 0 0 rfl rfl; have q0_1 := hH.cl 0 1 rfl rfl; have q0_2 := hH.cl 0 2 rfl rfl; have q0_3 := hH.cl 0 3 rfl rfl; have q0_4 := hH.cl 0 4 rfl rfl; have l0_ := hH.bl 0 rfl
   go_wp2_with fail
   clear q0_0 q0_1 q0_2 q0_3 q0_4 l0_
   refine (rawSetLabels_any HR.out HN.out _ _ _ (hT0.ext hH.ext) (hO0.ext hH.ext) j (by omega)).mono ?_; rintro e3 w3 ⟨u, rfl, hJ⟩
   rw [HRW.out] at hJ
   have hIU := hJ.ints (k := 0) rfl
   have hLB3 := hLB.ext hJ.ext
   replace hH := hH.grow hJ.ext; clear hJ hLB
   obtain ⟨ax, cx, rfl, _, _⟩ := hIU.val
   have hBl := hH.blk (k := 2) rfl
   obtain ⟨z, hz⟩ : ∃ z, vs[j]? = some z := ⟨_, List.getElem?_eq_getElem (by rw [hLB3.len]; exact hlt)⟩
   have hcF := hBl.cell hz
   have hfF := hBl.free j
   have hlF := hBl.lt
   have hL4 := hLB3.set (j := j) (g := fun q => if q < j + 1 then RW q else []) hBl (by simp only [if_pos (Nat.lt_succ_self j)]; exact hIU) (fun q hq hne => by
    by_cases h : q < j
    · simp only [if_pos h, if_pos (show q < j + 1 by omega)]
    · simp only [if_neg h, if_neg (show ¬ q < j + 1 by omega)])
   have hH2 := hH.setB (k := 2) rfl j (.slice ax (RW j).length cx)
   have HL4 := Lib.hid hL4
   clear hz hLB3 hBl hL4
   go_wp2_with fail
   go_roundw
   case rel => exact ⟨j + 1, _, by omega, by go_num, HL4.out, hH2⟩
   case measure => simp [RowKit.intOf]; omega
  ·
   have hje : j = M := by omega
   subst hje
   obtain ⟨M, hMj⟩ : ∃ q, q = j := ⟨j, rfl⟩
   subst hMj
   have hL0 := hLB.congr (g := fun q => labJ ts op 0 q) (fun q hq => by simp only [if_pos hq]; exact HRJ.out q)
   clear hLB
   have q0_0 := hH.cl 0 0 rfl rfl; have q0_1 := hH.cl 0 1 rfl rfl; have q0_2 := hH.cl 0 2 rfl rfl; have q0_3 := hH.cl 0 3 rfl rfl; have q0_4 := hH.cl 0 4 rfl rfl; have l0_ := hH.bl 0 rfl
   go_wp2_with fail
   clear q0_0 q0_1 q0_2 q0_3 q0_4 l0_
   go_loopw [46] (fun i wr => ∃ (j : Nat) (vs : List Value), j ≤ m ∧ i = .int .i64 (j : Int) ∧ LabR wr vs (fun q => labJ ts op j q) M ∧ Held w wr [aB (w.heap.size) 29 [.int .i64 k, .int .i64 p, .int .i64 n, .slice aV m cV, .slice aO op.length cO], aB (wn2.heap.size) 99 (ints (arrL dm (occ ts))), aB lb 27 vs]) (fun i wr => m - (RowKit.intOf i).toNat)
   case atStart => exact ⟨0, _, Nat.zero_le _, rfl, hL0, hH⟩
   case round =>
    clear hH hL0
    obtain ⟨j, vs, hj, rfl, hLB, hH⟩ := hrel
    obtain ⟨wp0, rfl⟩ : ∃ q, q = wr := ⟨wr, rfl⟩
    by_cases hlt2 : j < m
    ·
     obtain ⟨bT, oT, u1, u2, u3, t3, hV, hu0, hu1, hu2, ht3, hTu⟩ := hT.get (i := j) (by rw [hTl.out]; exact hlt2)
     subst hV
     obtain ⟨t, htj, rfl⟩ : ∃ t, ts[j]? = some t ∧ tenOf dm t = t3 := by rw [List.getElem?_map] at ht3; exact Option.map_eq_some_iff.1 ht3
     have HTJ := Lib.hid htj; have HTI := Lib.hid (HN.out.ten t (List.mem_of_getElem? htj)); clear ht3 htj
     obtain ⟨tl, xs⟩ := t
     obtain ⟨e1, m1, f1, e2, m2, f2, e3, m3, f3, hvv⟩ := hTu.shape
     simp at hvv
     obtain ⟨rfl, rfl, rfl⟩ := hvv
     rw [Nat.mul_comm 3 j] at hu0 hu1 hu2
     obtain ⟨_, _, _, hvv, hTL, hTD, hTX⟩ := hTu.val
     simp at hvv
     obtain ⟨rfl, rfl, rfl⟩ := hvv
     simp only [tenOf] at hTu hTL hTD hTX HTI
     obtain ⟨_, _, hvv, _, _⟩ := hTL.val
     simp at hvv
     obtain ⟨rfl, rfl, rfl⟩ := hvv
     obtain ⟨_, _, hvv, _, _⟩ := hTD.val
     simp at hvv
     obtain ⟨rfl, rfl, rfl⟩ := hvv
     obtain ⟨P, hP⟩ : ∃ z : Nat, 2 ^ j = z := ⟨_, rfl⟩
     obtain ⟨hwP, hWP, hP2⟩ := wrap_pow2 j (by omega) hP
     have hPM : P < M := by rw [← hP, ← HMM.out]; exact Nat.pow_lt_pow_right (by decide) hlt2
     have HWP := Lib.hid hWP
     have HLS := Lib.hid (labJ_step (op := op) HTJ.out)
     rw [hP] at HLS
     clear hP hWP hwP
     have q0_0 := hH.cl 0 0 rfl rfl; have q0_1 := hH.cl 0 1 rfl rfl; have q0_2 := hH.cl 0 2 rfl rfl; have q0_3 := hH.cl 0 3 rfl rfl; have q0_4 := hH.cl 0 4 rfl rfl; have l0_ := hH.bl 0 rfl; have c_hu0 := hH.ext.cell hu0; have c_hu1 := hH.ext.cell hu1; have c_hu2 := hH.ext.cell hu2
     go_upto_region 12 with fail
     clear q0_0 q0_1 q0_2 q0_3 q0_4 l0_ c_hu0 c_hu1 c_hu2
     have hB : Held w (wp0.alloc (.cells #[.slice e1 tl.length f1, .slice e2 tl.length f2, .slice e3 m3 f3] 32)) [aB (w.heap.size) 29 [.int .i64 k, .int .i64 p, .int .i64 n, .slice (some ⟨bT, oT, none⟩) m cV, .slice aO op.length cO], aB (wn2.heap.size) 99 (ints (arrL dm (occ ts))), aB lb 27 vs, aB (wp0.heap.size) 32 [.slice e1 tl.length f1, .slice e2 tl.length f2, .slice e3 m3 f3]] := by
      have h := (hH.mores 1).addB 3 #[.slice e1 tl.length f1, .slice e2 tl.length f2, .slice e3 m3 f3] 32
      exact h
     have hLBB : LabR (wp0.alloc (.cells #[.slice e1 tl.length f1, .slice e2 tl.length f2, .slice e3 m3 f3] 32)) vs (fun q => labJ ts op j q) M := hLB.ext ((Ext.refl _).alloc _)
     have hsz : (wp0.alloc (.cells #[.slice e1 tl.length f1, .slice e2 tl.length f2, .slice e3 m3 f3] 32)).heap.size = wp0.heap.size + 1 := by simp
     generalize wp0.alloc (.cells #[.slice e1 tl.length f1, .slice e2 tl.length f2, .slice e3 m3 f3] 32) = wn5 at hB hsz hLBB ⊢
     replace hH := hB; have HSZwn5 := Lib.hid hsz; clear hB hsz; replace hLB := hLBB; clear hLBB
     obtain ⟨wz, rfl⟩ : ∃ q, q = wn5 := ⟨_, rfl⟩
     refine wp_region_steps ?Fa (fun b t wx => Held w wx [aB (w.heap.size) 29 [.int .i64 k, .int .i64 p, .int .i64 n, .slice (some ⟨bT, oT, none⟩) m cV, .slice aO op.length cO], aB (wn2.heap.size) 99 (ints (arrL dm (occ ts))), (bif b 6 then aB lb 27 (vs.set P (.slice e1 tl.length f1)) else aB lb 27 vs), aB (wp0.heap.size) 32 [.slice e1 tl.length f1, .slice e2 tl.length f2, .slice e3 m3 f3]] ∧ LabR wx (bif b 6 then vs.set P (.slice e1 tl.length f1) else vs) (bif b 6 then (fun q => labJ ts op (j + 1) q) else (fun q => labJ ts op j q)) M ∧ (b 0 = true → t 0 = .slice (some ⟨lb, 0, none⟩) M M) ∧ (b 1 = true → t 1 = .int .i64 (j : Int)) ∧ (b 2 = true → t 2 = .int .i64 (P : Int)) ∧ (b 3 = true → t 3 = .pointer (some ⟨wp0.heap.size, 0, none⟩)) ∧ (b 4 = true → t 4 = .slice e1 tl.length f1) ∧ (b 5 = true → t 5 = .pointer (some ⟨lb, P, none⟩))) ?hFa (by kernel_rfl) (by kernel_rfl) ?hJa ?hSa ?hEa
     (case hFa => intro t; simp only [putAll, Act.put, List.setIfInBounds_toArray, List.set_cons_zero, List.set_cons_succ, Nat.reduceAdd, Nat.zero_add]; exact rfl)
     case hJa => exact ⟨hH.grow ((Ext.refl _).drew), hLB.ext ((Ext.refl _).drew), fun h => absurd h Bool.false_ne_true, fun h => absurd h Bool.false_ne_true, fun h => absurd h Bool.false_ne_true, fun h => absurd h Bool.false_ne_true, fun h => absurd h Bool.false_ne_true, fun h => absurd h Bool.false_ne_true⟩
     case hSa => as_aux_lemma =>
       refine AllSteps.cons (j := 1) rfl (fun b t wx hJ hb hd hcl Kc hK => ?_) ?_
       · obtain ⟨hH, hLB, v0, v1, v2, v3, v4, v5⟩ := hJ
         go_simp
         refine hK.out _ ?_ _ ?_ ?_; rotate_left 2
         · rfl
         exact ⟨hH, hLB, fun _ => rfl, v1, v2, v3, v4, v5⟩
       refine AllSteps.cons (j := 2) rfl (fun b t wx hJ hb hd hcl Kc hK => ?_) ?_
       · obtain ⟨hH, hLB, v0, v1, v2, v3, v4, v5⟩ := hJ
         go_simp
         refine hK.out _ ?_ _ ?_ ?_; rotate_left 2
         · rfl
         exact ⟨hH, hLB, v0, fun _ => rfl, v2, v3, v4, v5⟩
       refine AllSteps.cons (j := 3) rfl (fun b t wx hJ hb hd hcl Kc hK => ?_) ?_
       · obtain ⟨hH, hLB, v0, v1, v2, v3, v4, v5⟩ := hJ
         have d1 := hd.out 1 (by kernel_rfl); have r1 := v1 d1
         go_simp
         refine hK.out _ ?_ _ ?_ ?_; rotate_left 2
         · (try simp only [r1]); rfl
         exact ⟨hH, hLB, v0, v1, fun _ => (by show Value.int .i64 (IntKind.i64.wrap (2 ^ j)) = _; rw [HWP.out]), v3, v4, v5⟩
       refine AllSteps.cons (j := 4) rfl (fun b t wx hJ hb hd hcl Kc hK => ?_) ?_
       · obtain ⟨hH, hLB, v0, v1, v2, v3, v4, v5⟩ := hJ
         go_simp
         refine hK.out _ ?_ _ ?_ ?_; rotate_left 2
         · rfl
         exact ⟨hH, hLB, v0, v1, v2, fun _ => rfl, v4, v5⟩
       refine AllSteps.cons (j := 5) rfl (fun b t wx hJ hb hd hcl Kc hK => ?_) ?_
       · obtain ⟨hH, hLB, v0, v1, v2, v3, v4, v5⟩ := hJ
         have d3 := hd.out 3 (by kernel_rfl); have r3 := v3 d3; have q3_0 := hH.cl 3 0 rfl rfl
         go_simp
         refine hK.out _ ?_ _ ?_ ?_; rotate_left 2
         · (try simp only [r3]); rfl
         exact ⟨hH, hLB, v0, v1, v2, v3, fun _ => rfl, v5⟩
       refine AllSteps.cons (j := 6) rfl (fun b t wx hJ hb hd hcl Kc hK => ?_) ?_
       · obtain ⟨hH, hLB, v0, v1, v2, v3, v4, v5⟩ := hJ
         have d0 := hd.out 0 (by kernel_rfl); have d1 := hd.out 1 (by kernel_rfl); have d2 := hd.out 2 (by kernel_rfl); have d3 := hd.out 3 (by kernel_rfl); have d4 := hd.out 4 (by kernel_rfl); have r0 := v0 d0; have r1 := v1 d1; have r2 := v2 d2; have r3 := v3 d3; have r4 := v4 d4
         go_simp
         refine hK.out _ ?_ _ ?_ ?_; rotate_left 2
         · (try simp only [r0, r1, r2, r3, r4]); rfl
         exact ⟨hH, hLB, v0, v1, v2, v3, v4, fun _ => rfl⟩
       refine AllSteps.cons (j := 7) rfl (fun b t wx hJ hb hd hcl Kc hK => ?_) ?_
       · obtain ⟨hH, hLB, v0, v1, v2, v3, v4, v5⟩ := hJ
         have d0 := hd.out 0 (by kernel_rfl); have d1 := hd.out 1 (by kernel_rfl); have d2 := hd.out 2 (by kernel_rfl); have d3 := hd.out 3 (by kernel_rfl); have d4 := hd.out 4 (by kernel_rfl); have d5 := hd.out 5 (by kernel_rfl); have r0 := v0 d0; have r1 := v1 d1; have r2 := v2 d2; have r3 := v3 d3; have r4 := v4 d4; have r5 := v5 d5
         have hN := hH; (try simp only [hb, d0, d1, d2, d3, d4, d5, cond_true, cond_false] at hN)
         have hLx : LabR wx vs (fun q => labJ ts op j q) M := by have h := hLB; rw [hb] at h; exact h
         obtain ⟨z, hz⟩ : ∃ z, vs[P]? = some z := ⟨_, List.getElem?_eq_getElem (by rw [hLx.len]; exact hPM)⟩
         have B := hN.blk (k := 2) rfl; have zB := B.cell hz; have fB := B.free P; have lB := B.lt
         clear hz
         go_simp
         refine hK.out _ undef _ ?_ ?_; rotate_left 1
         · (try simp only [r0, r1, r2, r3, r4, r5]); rfl
         exact ⟨by have hX := hN.setB (k := 2) rfl P (.slice e1 tl.length f1); simpa only [List.set_cons_zero, List.set_cons_succ, updB, updV, blkOf_mk, tup0_mk, partsOf3, Nat.reduceBEq, cond_true, cond_false, hb, d0, d1, d2, d3, d4, d5, r0, r1, r2, r3, r4, r5] using hX, (hLx.set (g := fun q => labJ ts op (j + 1) q) B (by show IntS _ _ (labJ ts op (j + 1) P); rw [HLS.out, if_pos rfl]; exact hTL.ext hH.ext) (fun q _ hne => by show labJ ts op j q = labJ ts op (j + 1) q; rw [HLS.out, if_neg hne])), v0, v1, v2, v3, v4, v5⟩
       exact AllSteps.nil
     case hEa =>
      intro b t wa hJ hall
      obtain ⟨hHa, hLBa, v0, v1, v2, v3, v4, v5⟩ := hJ
      have a0 := hall 0 (by decide); have a1 := hall 1 (by decide); have a2 := hall 2 (by decide); have a3 := hall 3 (by decide); have a4 := hall 4 (by decide); have a5 := hall 5 (by decide); have a6 := hall 6 (by decide)
      (try simp only [a0, a1, a2, a3, a4, a5, a6, cond_true] at hHa)
      (try simp only [a0, a1, a2, a3, a4, a5, a6, cond_true] at hLBa)
      replace v0 := v0 a0; replace v1 := v1 a1; replace v2 := v2 a2; replace v3 := v3 a3; replace v4 := v4 a4; replace v5 := v5 a5
      clear hall a0 a1 a2 a3 a4 a5 a6
      generalize t 5 = x5 at hHa v5 ⊢; generalize t 4 = x4 at hHa v4 ⊢; generalize t 3 = x3 at hHa v3 ⊢; generalize t 2 = x2 at hHa v2 ⊢; generalize t 1 = x1 at hHa v1 ⊢; generalize t 0 = x0 at hHa v0 ⊢; subst v0; subst v1; subst v2; subst v3; subst v4; subst v5
      clear b
      replace hH := hHa; clear hHa
      replace hH : Held w wa [aB (w.heap.size) 29 [.int .i64 k, .int .i64 p, .int .i64 n, .slice (some ⟨bT, oT, none⟩) m cV, .slice aO op.length cO], aB (wn2.heap.size) 99 (ints (arrL dm (occ ts))), aB lb 27 (vs.set P (.slice e1 tl.length f1)), aB (wp0.heap.size) 32 [.slice e1 tl.length f1, .slice e2 tl.length f2, .slice e3 m3 f3]] := hH
      have HL4 := Lib.hid hLBa; clear hLBa
      go_wp2_with fail
      go_roundw
      case rel => exact ⟨j + 1, _, by omega, by go_num, HL4.out, hH.sub (.cons_cons _ (.cons_cons _ (.cons_cons _ (.cons _ .slnil))))⟩
      case measure => simp [RowKit.intOf]; omega
    ·
     have hje : j = m := by omega
     have HLR : Hid (LabR wp0 vs (fun q => labS ts op q) M) := Lib.hid (by rw [hje] at hLB; have e : m = ts.length := HM.out.symm; rw [e] at hLB; exact hLB)
     have HBL := Lib.hid (hH.blk (k := 2) rfl)
     have HBD := Lib.hid (hH.blk (k := 1) rfl)
     have HE0 := Lib.hid hH.ext
     clear hLB hje
     have hw64 := HW64.out
     have hmk := mkInts M (by omega)
     have q0_0 := hH.cl 0 0 rfl rfl; have q0_1 := hH.cl 0 1 rfl rfl; have q0_2 := hH.cl 0 2 rfl rfl; have q0_3 := hH.cl 0 3 rfl rfl; have q0_4 := hH.cl 0 4 rfl rfl; have l0_ := hH.bl 0 rfl
     go_upto_region 15 with fail
     clear q0_0 q0_1 q0_2 q0_3 q0_4 l0_
     clear hH
     have hH : Held wp0 wp0 [] := Held.new (Ext.refl wp0) 0
     obtain ⟨cb, hcb⟩ : ∃ q, wp0.heap.size = q := ⟨_, rfl⟩
     have hB := (hH.mores 1).madeI 0 M (by omega)
     rw [hcb] at hB ⊢
     generalize wp0.alloc (.cells (madeCells #[.int .i64 0] M) 3) = wn6 at hB ⊢
     clear hcb
     replace hH : Held wp0 wn6 [aI (.slice (some ⟨cb, 0, none⟩) M M) (List.replicate M 0)] := hB
     clear hB
     go_upto_region 16 with fail
     obtain ⟨fb, hfb⟩ : ∃ q, wn6.heap.size = q := ⟨_, rfl⟩
     have hB := (hH.mores 1).madeI 1 M (by omega)
     rw [hfb] at hB ⊢
     generalize wn6.alloc (.cells (madeCells #[.int .i64 0] M) 3) = wn7 at hB ⊢
     clear hfb
     replace hH : Held wp0 wn7 [aI (.slice (some ⟨cb, 0, none⟩) M M) (List.replicate M 0), aI (.slice (some ⟨fb, 0, none⟩) M M) (List.replicate M 0)] := hB
     clear hB
     clear hmk hw64
     have HT0 : Hid (TabT (valS dm ts op) M (List.replicate M 0) (List.replicate M 0) 1 1) := Lib.hid (TabT.start (by omega))
     have HVO := Lib.hid (fun x y => valS_ok HN.out x y : ∀ x y, 0 ≤ valS dm ts op x y ∧ valS dm ts op x y ≤ 4096)
     go_wp2_with fail
     go_loopw [13] (fun vs wr => ∃ (s : Nat) (C F : List Int), 1 ≤ s ∧ s ≤ M ∧ vs = .int .i64 (s : Int) ∧ Hid (TabT (valS dm ts op) M C F s 1) ∧ Held wp0 wr [aI (.slice (some ⟨cb, 0, none⟩) M M) C, aI (.slice (some ⟨fb, 0, none⟩) M M) F]) (fun vs wr => M - (RowKit.intOf vs).toNat)
     case atStart => exact ⟨1, _, _, Nat.le_refl _, hM1, rfl, HT0, hH⟩
     case round =>
      clear hH HT0
      obtain ⟨s, C0, F0, hs1, hs, rfl, HT, hH⟩ := hrel
      obtain ⟨wk, rfl⟩ : ∃ q, q = wr := ⟨wr, rfl⟩
      have hw64 := HW64.out
      by_cases hlt3 : s < M
      ·
       have hlti : (s : Int) < (M : Int) := by omega
       have hlow := bits_low32 ⟨s, by omega⟩
       have hlo2 := low_le ⟨s, by omega⟩
       simp only at hlow hlo2
       have hng : wrap64 (-(s : Int)) = -(s : Int) := by simp only [wrap64]; omega
       have hng2 : IntKind.i64.wrap (-(s : Int)) = -(s : Int) := by rw [IntKind.wrap_i64]; omega
       obtain ⟨lo, hlo⟩ : ∃ q, lowB s = q := ⟨_, rfl⟩
       rw [hlo] at hlow hlo2
       have HLO := Lib.hid hlo; clear hlo
       go_wp2_with fail
       clear hlow hng hng2 hw64
       go_loopw [15] (fun va wr => ∃ (a : Nat) (C F : List Int), 1 ≤ a ∧ a ≤ s ∧ va = .int .i64 (a : Int) ∧ Hid (TabT (valS dm ts op) M C F s a) ∧ Held wp0 wr [aI (.slice (some ⟨cb, 0, none⟩) M M) C, aI (.slice (some ⟨fb, 0, none⟩) M M) F]) (fun va wr => s - (RowKit.intOf va).toNat)
       case atStart => exact ⟨1, _, _, Nat.le_refl _, hs1, rfl, HT, hH⟩
       case round =>
        clear hH HT
        obtain ⟨a, C, F, ha1, ha, rfl, HT, hH⟩ := hrel
        obtain ⟨wo, rfl⟩ : ∃ q, q = wr := ⟨wr, rfl⟩
        by_cases hlt4 : a < s
        ·
         have hlt4i : (a : Int) < (s : Int) := by omega
         have hand1 := bits_and64 a s (by omega) (by omega)
         have hand2 := bits_and64 a lo (by omega) (by omega)
         by_cases hc1 : a &&& s = a
         ·
          rw [hc1] at hand1
          by_cases hc2 : a &&& lo = 0
          ·
           rw [hc2] at hand2
           have HS2 := Lib.hid (HT.out.skip (fun h => h.2 (by rw [HLO.out]; exact hc2)))
           clear hc1 hc2
           go_wp2_with fail
           go_roundw
           case rel => exact ⟨a + 1, C, F, by omega, by omega, by first | rfl | go_num, HS2, hH⟩
           case measure => simp [RowKit.intOf]; omega
          ·
           have HCUT : Hid (CutOf a s) := Lib.hid ⟨hc1, by rw [HLO.out]; exact hc2⟩
           obtain ⟨x1, x2, x3, x4, x5, x6, x7⟩ := xor_lt32 (by omega) hlt4 HCUT.out
           have hcut := bits_cut32 ⟨s, by omega⟩ ⟨a, by omega⟩ hc1
           simp only at hcut
           obtain ⟨y, hy⟩ : ∃ q, s ^^^ a = q := ⟨_, rfl⟩
           rw [hy] at hcut x3 x4 x5
           clear x6 x7
           have HY := Lib.hid hy; clear hy
           obtain ⟨al, hal⟩ : ∃ q, a &&& lo = q := ⟨_, rfl⟩
           rw [hal] at hand2 hc2
           have hc2i : ¬ ((al : Int) = 0) := by omega
           have hc2b : ((al : Int) == 0) = false := by simpa using hc2i
           have haM : a < M := by omega
           have hyM : y < M := by omega
           clear hal hc1
           obtain ⟨aa, ca, hva, hIa⟩ := HLR.out.get (s := a) (by omega)
           obtain ⟨ab, cb2, hvb, hIb⟩ := HLR.out.get (s := y) (by omega)
           obtain ⟨LA, hLA⟩ : ∃ q, labS ts op a = q := ⟨_, rfl⟩
           obtain ⟨LBb, hLBb⟩ : ∃ q, labS ts op y = q := ⟨_, rfl⟩
           have sA := labS_sub HN.out a; have sB := labS_sub HN.out y
           rw [hLA] at hva hIa sA; rw [hLBb] at hvb hIb sB
           have hla12 : LA.length ≤ 12 := (HN.out.uni.ax sA).rank
           have hlb12 : LBb.length ≤ 12 := (HN.out.uni.ax sB).rank
           have HVJ : Hid (valS dm ts op a y = prodL ((joinL LA LBb).map dm)) := Lib.hid (by unfold valS szL; rw [hLA, hLBb])
           obtain ⟨JN, hJN⟩ : ∃ q, joinL LA LBb = q := ⟨_, rfl⟩
           have sJ := sA.join sB
           rw [hJN] at HVJ sJ
           have aJ := Lib.hid (HN.out.uni.ax sJ)
           have HJO : Hid (∀ x ∈ JN, (0 ≤ x ∧ x ≤ 99) ∧ x ∈ occ ts) := Lib.hid fun x hx => by
            refine ⟨HN.out.uni.labs (sJ.sub x hx), ?_⟩
            rw [← hJN] at hx
            rcases mem_joinL.1 hx with hx | hx
            · rw [← hLA, mem_labS HN.out (by rw [HM.out, HMM.out]; omega)] at hx
              obtain ⟨q, t, _, ht, hx⟩ := hx.1
              exact mem_occ.2 ⟨t, List.mem_of_getElem? ht, hx⟩
            · rw [← hLBb, mem_labS HN.out (by rw [HM.out, HMM.out]; omega)] at hx
              obtain ⟨q, t, _, ht, hx⟩ := hx.1
              exact mem_occ.2 ⟨t, List.mem_of_getElem? ht, hx⟩
           have HJN := Lib.hid hJN
           obtain ⟨VW, hVW⟩ : ∃ q, prodL (JN.map dm) = q := ⟨_, rfl⟩
           have HVW := Lib.hid hVW
           rw [hVW] at HVJ
           have hv0 : 0 ≤ VW ∧ VW ≤ 4096 := by have h := HVO.out a y; rw [HVJ.out] at h; exact h
           have hjl12 : JN.length ≤ 12 := aJ.out.rank
           clear hLA hLBb hJN hVW sA sB sJ hc2
           obtain ⟨ca1, ca2⟩ := HT.out.low a (by omega)
           obtain ⟨cy1, cy2⟩ := HT.out.low y (by omega)
           have HCA := Lib.hid (tabL_get (C := C) (s := a) (by rw [HT.out.lenC]; omega))
           have HCY := Lib.hid (tabL_get (C := C) (s := y) (by rw [HT.out.lenC]; omega))
           have HCS := Lib.hid (tabL_get (C := C) (s := s) (by rw [HT.out.lenC]; omega))
           have HFS := Lib.hid (tabL_get (C := F) (s := s) (by rw [HT.out.lenF]; omega))
           have HTY := Lib.hid (HT.out.turn (by omega) hlt3 HVO.out hlt4 HCUT.out)
           have HKP := Lib.hid (HT.out.keep (by omega) HVO.out hlt4 HCUT.out)
           rw [HY.out, HVJ.out] at HTY HKP
           obtain ⟨za, hza⟩ : ∃ q, tabL C a = q := ⟨_, rfl⟩
           obtain ⟨zy, hzy⟩ : ∃ q, tabL C y = q := ⟨_, rfl⟩
           obtain ⟨zs, hzs⟩ : ∃ q, tabL C s = q := ⟨_, rfl⟩
           obtain ⟨zf, hzf⟩ : ∃ q, tabL F s = q := ⟨_, rfl⟩
           rw [hza] at HCA ca1 ca2; rw [hzy] at HCY cy1 cy2; rw [hzs] at HCS; rw [hzf] at HFS
           rw [hza, hzy, hzs, hzf] at HTY HKP
           have hbb1 : za ≤ 131072 := by omega
           have hbb2 : zy ≤ 131072 := by omega
           obtain ⟨SM, hSM⟩ : ∃ q, za + zy + VW = q := ⟨_, rfl⟩
           rw [hSM] at HTY HKP
           have hsm1 : 0 ≤ SM ∧ SM ≤ 1000000 := by omega
           have HS0 : Hid (IntKind.i64.wrap (za + zy) = za + zy) := Lib.hid (by rw [IntKind.wrap_i64]; omega)
           have HS1 : Hid (IntKind.i64.wrap (za + zy + VW) = SM) := Lib.hid (by rw [IntKind.wrap_i64]; omega)
           have HLA' := Lib.hid hIa; have HLB' := Lib.hid hIb; have HVA := Lib.hid hva; have HVB := Lib.hid hvb
           clear hza hzy hzs hzf hSM hIa hIb hva hvb ca1 ca2 cy1 cy2 x1 x2
           go_upto_region 25 with fail
           clear hand1 hand2 hcut hc2i hc2b
           replace hH := hH.mores 2
           replace hH : Held wp0 wo [aI (.slice (some ⟨cb, 0, none⟩) M M) C, aI (.slice (some ⟨fb, 0, none⟩) M M) F, emp, emp] := hH
           refine wp_region_steps ?Fc (fun b t wx => Held wp0 wx [aI (.slice (some ⟨cb, 0, none⟩) M M) C, aI (.slice (some ⟨fb, 0, none⟩) M M) F, (bif b 9 then aI (t 9) JN else emp), (bif b 10 then aT (t 10) JN (JN.map dm) [] else emp)] ∧ (b 0 = true → t 0 = .agg (arrV (arrL dm (occ ts)))) ∧ (b 1 = true → t 1 = .slice (some ⟨lb, 0, none⟩) M M) ∧ (b 2 = true → t 2 = .int .i64 (a : Int)) ∧ (b 3 = true → t 3 = .pointer (some ⟨lb, a, none⟩)) ∧ (b 4 = true → t 4 = .slice aa LA.length ca) ∧ (b 5 = true → t 5 = .slice (some ⟨lb, 0, none⟩) M M) ∧ (b 6 = true → t 6 = .int .i64 (y : Int)) ∧ (b 7 = true → t 7 = .pointer (some ⟨lb, y, none⟩)) ∧ (b 8 = true → t 8 = .slice ab LBb.length cb2) ∧ (b 9 = true → ∃ x c, t 9 = .slice x JN.length c) ∧ (b 10 = true → ∃ p1 n1 c1 p2 n2 c2 p3 n3 c3, t 10 = .agg #[.slice p1 n1 c1, .slice p2 n2 c2, .slice p3 n3 c3]) ∧ (b 11 = true → t 11 = tup1 (t 10)) ∧ (b 12 = true → t 12 = .int .i64 VW) ∧ (b 13 = true → t 13 = t 12)) ?hFc (by kernel_rfl) (by kernel_rfl) ?hJc ?hSc ?hEc
           (case hFc => intro t; simp only [putAll, Act.put, List.setIfInBounds_toArray, List.set_cons_zero, List.set_cons_succ, Nat.reduceAdd, Nat.zero_add]; exact rfl)
           case hJc => exact ⟨hH.grow ((Ext.refl _).drew), fun h => absurd h Bool.false_ne_true, fun h => absurd h Bool.false_ne_true, fun h => absurd h Bool.false_ne_true, fun h => absurd h Bool.false_ne_true, fun h => absurd h Bool.false_ne_true, fun h => absurd h Bool.false_ne_true, fun h => absurd h Bool.false_ne_true, fun h => absurd h Bool.false_ne_true, fun h => absurd h Bool.false_ne_true, fun h => absurd h Bool.false_ne_true, fun h => absurd h Bool.false_ne_true, fun h => absurd h Bool.false_ne_true, fun h => absurd h Bool.false_ne_true, fun h => absurd h Bool.false_ne_true⟩
           case hSc => as_aux_lemma =>
             refine AllSteps.cons (j := 1) rfl (fun b t wx hJ hb hd hcl Kc hK => ?_) ?_
             · obtain ⟨hH, v0, v1, v2, v3, v4, v5, v6, v7, v8, v9, v10, v11, v12, v13⟩ := hJ
               refine step_load_arr rfl _ rfl rfl (HBD.out.ext hH.ext) (arrL_length _ _) ?_
               refine hK.out _ ?_ _ ?_ ?_; rotate_left 2
               · rfl
               exact ⟨hH, fun _ => rfl, v1, v2, v3, v4, v5, v6, v7, v8, v9, v10, v11, v12, v13⟩
             refine AllSteps.cons (j := 2) rfl (fun b t wx hJ hb hd hcl Kc hK => ?_) ?_
             · obtain ⟨hH, v0, v1, v2, v3, v4, v5, v6, v7, v8, v9, v10, v11, v12, v13⟩ := hJ
               go_simp
               refine hK.out _ ?_ _ ?_ ?_; rotate_left 2
               · rfl
               exact ⟨hH, v0, fun _ => rfl, v2, v3, v4, v5, v6, v7, v8, v9, v10, v11, v12, v13⟩
             refine AllSteps.cons (j := 3) rfl (fun b t wx hJ hb hd hcl Kc hK => ?_) ?_
             · obtain ⟨hH, v0, v1, v2, v3, v4, v5, v6, v7, v8, v9, v10, v11, v12, v13⟩ := hJ
               go_simp
               refine hK.out _ ?_ _ ?_ ?_; rotate_left 2
               · rfl
               exact ⟨hH, v0, v1, fun _ => rfl, v3, v4, v5, v6, v7, v8, v9, v10, v11, v12, v13⟩
             refine AllSteps.cons (j := 4) rfl (fun b t wx hJ hb hd hcl Kc hK => ?_) ?_
             · obtain ⟨hH, v0, v1, v2, v3, v4, v5, v6, v7, v8, v9, v10, v11, v12, v13⟩ := hJ
               have d1 := hd.out 1 (by kernel_rfl); have d2 := hd.out 2 (by kernel_rfl); have r1 := v1 d1; have r2 := v2 d2
               go_simp
               refine hK.out _ ?_ _ ?_ ?_; rotate_left 2
               · (try simp only [r1, r2]); rfl
               exact ⟨hH, v0, v1, v2, fun _ => rfl, v4, v5, v6, v7, v8, v9, v10, v11, v12, v13⟩
             refine AllSteps.cons (j := 5) rfl (fun b t wx hJ hb hd hcl Kc hK => ?_) ?_
             · obtain ⟨hH, v0, v1, v2, v3, v4, v5, v6, v7, v8, v9, v10, v11, v12, v13⟩ := hJ
               have d3 := hd.out 3 (by kernel_rfl); have r3 := v3 d3
               have zx := (HBL.out.ext hH.ext).cell HVA.out
               go_simp
               refine hK.out _ ?_ _ ?_ ?_; rotate_left 2
               · (try simp only [r3]); rfl
               exact ⟨hH, v0, v1, v2, v3, fun _ => rfl, v5, v6, v7, v8, v9, v10, v11, v12, v13⟩
             refine AllSteps.cons (j := 6) rfl (fun b t wx hJ hb hd hcl Kc hK => ?_) ?_
             · obtain ⟨hH, v0, v1, v2, v3, v4, v5, v6, v7, v8, v9, v10, v11, v12, v13⟩ := hJ
               go_simp
               refine hK.out _ ?_ _ ?_ ?_; rotate_left 2
               · rfl
               exact ⟨hH, v0, v1, v2, v3, v4, fun _ => rfl, v6, v7, v8, v9, v10, v11, v12, v13⟩
             refine AllSteps.cons (j := 7) rfl (fun b t wx hJ hb hd hcl Kc hK => ?_) ?_
             · obtain ⟨hH, v0, v1, v2, v3, v4, v5, v6, v7, v8, v9, v10, v11, v12, v13⟩ := hJ
               go_simp
               refine hK.out _ ?_ _ ?_ ?_; rotate_left 2
               · rfl
               exact ⟨hH, v0, v1, v2, v3, v4, v5, fun _ => rfl, v7, v8, v9, v10, v11, v12, v13⟩
             refine AllSteps.cons (j := 8) rfl (fun b t wx hJ hb hd hcl Kc hK => ?_) ?_
             · obtain ⟨hH, v0, v1, v2, v3, v4, v5, v6, v7, v8, v9, v10, v11, v12, v13⟩ := hJ
               have d5 := hd.out 5 (by kernel_rfl); have d6 := hd.out 6 (by kernel_rfl); have r5 := v5 d5; have r6 := v6 d6
               go_simp
               refine hK.out _ ?_ _ ?_ ?_; rotate_left 2
               · (try simp only [r5, r6]); rfl
               exact ⟨hH, v0, v1, v2, v3, v4, v5, v6, fun _ => rfl, v8, v9, v10, v11, v12, v13⟩
             refine AllSteps.cons (j := 9) rfl (fun b t wx hJ hb hd hcl Kc hK => ?_) ?_
             · obtain ⟨hH, v0, v1, v2, v3, v4, v5, v6, v7, v8, v9, v10, v11, v12, v13⟩ := hJ
               have d7 := hd.out 7 (by kernel_rfl); have r7 := v7 d7
               have zx := (HBL.out.ext hH.ext).cell HVB.out
               go_simp
               refine hK.out _ ?_ _ ?_ ?_; rotate_left 2
               · (try simp only [r7]); rfl
               exact ⟨hH, v0, v1, v2, v3, v4, v5, v6, v7, fun _ => rfl, v9, v10, v11, v12, v13⟩
             refine AllSteps.cons (j := 10) rfl (fun b t wx hJ hb hd hcl Kc hK => ?_) ?_
             · obtain ⟨hH, v0, v1, v2, v3, v4, v5, v6, v7, v8, v9, v10, v11, v12, v13⟩ := hJ
               have d4 := hd.out 4 (by kernel_rfl); have d8 := hd.out 8 (by kernel_rfl); have r4 := v4 d4; have r8 := v8 d8
               have hN := hH; (try simp only [hb, d4, d8, cond_true, cond_false] at hN)
               go_simp
               go_at_call 138
               refine (joinLabels_any _ _ LA LBb _ (HLA'.out.ext hH.ext) (HLB'.out.ext hH.ext) (by omega) (by omega)).mono ?_; rintro e9 w9 ⟨v9, rfl, o9, h9⟩
               rw [HJN.out] at o9
               obtain ⟨x9, c9, rfl⟩ := o9.shape1 JN.length rfl
               (try go_simp)
               refine hK.out _ ?_ _ ?_ ?_; rotate_left 2
               · (try simp only [r4, r8]); rfl
               exact ⟨by have hX := hN.addI 2 h9 o9 (Nat.le_refl _); simpa only [List.set_cons_zero, List.set_cons_succ, updB, updV, blkOf_mk, tup0_mk, partsOf3, tup1_mk, Nat.reduceBEq, cond_true, cond_false, hb, d4, d8, r4, r8] using hX, v0, v1, v2, v3, v4, v5, v6, v7, v8, fun _ => ⟨_, _, rfl⟩, v10, v11, v12, v13⟩
             refine AllSteps.cons (j := 11) rfl (fun b t wx hJ hb hd hcl Kc hK => ?_) ?_
             · obtain ⟨hH, v0, v1, v2, v3, v4, v5, v6, v7, v8, v9, v10, v11, v12, v13⟩ := hJ
               have d0 := hd.out 0 (by kernel_rfl); have d9 := hd.out 9 (by kernel_rfl)
               have n11 : b 11 = false := Bool.eq_false_iff.2 fun h => absurd (hcl.out 11 10 (by kernel_rfl) (h)) (by rw [hb]; exact Bool.false_ne_true)
               have r0 := v0 d0; have r9 := v9 d9
               obtain ⟨x_9, c_9, r9⟩ := r9
               have hN := hH; (try simp only [hb, d0, d9, n11, cond_true, cond_false] at hN)
               go_simp
               go_at_call 104
               refine (axesOf_ten HJO.out (by omega) _ _ (by have h := hN.ints (k := 2) rfl; rw [r9] at h; exact h)).mono ?_; rintro e10 w10 ⟨v10, rfl, o10, h10⟩
               obtain ⟨pa1, na1, ca1, pa2, na2, ca2, pa3, na3, ca3, rfl⟩ := o10.shape
               (try go_simp)
               refine hK.out _ ?_ _ ?_ ?_; rotate_left 2
               · (try simp only [r0, r9]); rfl
               exact ⟨by have hX := hN.addT 3 h10 o10 (Nat.le_refl _); simpa only [List.set_cons_zero, List.set_cons_succ, updB, updV, blkOf_mk, tup0_mk, partsOf3, tup1_mk, Nat.reduceBEq, cond_true, cond_false, hb, d0, d9, n11, r0, r9] using hX, v0, v1, v2, v3, v4, v5, v6, v7, v8, v9, fun _ => ⟨_, _, _, _, _, _, _, _, _, rfl⟩, fun h => absurd (show b 11 = true from h) (by rw [n11]; exact Bool.false_ne_true), v12, v13⟩
             refine AllSteps.cons (j := 12) rfl (fun b t wx hJ hb hd hcl Kc hK => ?_) ?_
             · obtain ⟨hH, v0, v1, v2, v3, v4, v5, v6, v7, v8, v9, v10, v11, v12, v13⟩ := hJ
               have d10 := hd.out 10 (by kernel_rfl); have r10 := v10 d10
               obtain ⟨p1_10, n1_10, c1_10, p2_10, n2_10, c2_10, p3_10, n3_10, c3_10, r10⟩ := r10
               have e10 := r10 -- d10
               have hfd : ∀ w : World, (Instr.field 32 (.agg #[.slice p1_10 n1_10 c1_10, .slice p2_10 n2_10 c2_10, .slice p3_10 n3_10 c3_10]) 1).run Try.prog w = .ok (.slice p2_10 n2_10 c2_10) w := fun _ => by kernel_rfl
               go_simp
               refine hK.out _ ?_ _ ?_ ?_; rotate_left 2
               · (try simp only [r10]); rfl
               exact ⟨hH, v0, v1, v2, v3, v4, v5, v6, v7, v8, v9, v10, fun _ => (by show _ = tup1 (t 10); rw [r10]; rfl), v12, v13⟩
             refine AllSteps.cons (j := 13) rfl (fun b t wx hJ hb hd hcl Kc hK => ?_) ?_
             · obtain ⟨hH, v0, v1, v2, v3, v4, v5, v6, v7, v8, v9, v10, v11, v12, v13⟩ := hJ
               have d10 := hd.out 10 (by kernel_rfl); have d11 := hd.out 11 (by kernel_rfl)
               have n13 : b 13 = false := Bool.eq_false_iff.2 fun h => absurd (hcl.out 13 12 (by kernel_rfl) (h)) (by rw [hb]; exact Bool.false_ne_true)
               have r10 := v10 d10; have r11 := v11 d11
               obtain ⟨p1_10, n1_10, c1_10, p2_10, n2_10, c2_10, p3_10, n3_10, c3_10, r10⟩ := r10
               have hN := hH; (try simp only [hb, d10, d11, n13, cond_true, cond_false] at hN)
               rw [r10, tup1_mk] at r11 -- d10 d11
               go_simp
               go_at_call 105
               refine (cappedProduct_any _ (JN.map dm) 1000000000 _ (by have h := hN.parts (k := 3) (by rw [r10]; rfl); exact h.2.1.ints) aJ.out.dims aJ.out.size (by omega) (by omega)).mono ?_; rintro e12 w12 ⟨rfl, h12⟩
               rw [HVW.out]
               (try go_simp)
               refine hK.out _ ?_ _ ?_ ?_; rotate_left 2
               · (try simp only [r10, r11]); rfl
               exact ⟨by have hX := hH.grow h12; simpa only [List.set_cons_zero, List.set_cons_succ, updB, updV, blkOf_mk, tup0_mk, partsOf3, tup1_mk, Nat.reduceBEq, cond_true, cond_false, hb, d10, d11, n13, r10, r11] using hX, v0, v1, v2, v3, v4, v5, v6, v7, v8, v9, v10, v11, fun _ => rfl, fun h => absurd (show b 13 = true from h) (by rw [n13]; exact Bool.false_ne_true)⟩
             refine AllSteps.cons (j := 14) rfl (fun b t wx hJ hb hd hcl Kc hK => ?_) ?_
             · obtain ⟨hH, v0, v1, v2, v3, v4, v5, v6, v7, v8, v9, v10, v11, v12, v13⟩ := hJ
               have d0 := hd.out 0 (by kernel_rfl); have d1 := hd.out 1 (by kernel_rfl); have d2 := hd.out 2 (by kernel_rfl); have d3 := hd.out 3 (by kernel_rfl); have d4 := hd.out 4 (by kernel_rfl); have d5 := hd.out 5 (by kernel_rfl); have d6 := hd.out 6 (by kernel_rfl); have d7 := hd.out 7 (by kernel_rfl); have d8 := hd.out 8 (by kernel_rfl); have d9 := hd.out 9 (by kernel_rfl); have d10 := hd.out 10 (by kernel_rfl); have d11 := hd.out 11 (by kernel_rfl); have d12 := hd.out 12 (by kernel_rfl); have r0 := v0 d0; have r1 := v1 d1; have r2 := v2 d2; have r3 := v3 d3; have r4 := v4 d4; have r5 := v5 d5; have r6 := v6 d6; have r7 := v7 d7; have r8 := v8 d8; have r9 := v9 d9; have r10 := v10 d10; have r11 := v11 d11; have r12 := v12 d12
               obtain ⟨x_9, c_9, r9⟩ := r9
               obtain ⟨p1_10, n1_10, c1_10, p2_10, n2_10, c2_10, p3_10, n3_10, c3_10, r10⟩ := r10
               go_simp
               refine hK.out _ ?_ _ ?_ ?_; rotate_left 2
               · (try simp only [r0, r1, r2, r3, r4, r5, r6, r7, r8, r9, r10, r11, r12]); rfl
               exact ⟨hH, v0, v1, v2, v3, v4, v5, v6, v7, v8, v9, v10, v11, v12, fun _ => (by first | rfl | exact r12.symm)⟩
             exact AllSteps.nil
           case hEc =>
            intro b t wc hJ hall
            obtain ⟨hHc, v0, v1, v2, v3, v4, v5, v6, v7, v8, v9, v10, v11, v12, v13⟩ := hJ
            have a0 := hall 0 (by decide); have a1 := hall 1 (by decide); have a2 := hall 2 (by decide); have a3 := hall 3 (by decide); have a4 := hall 4 (by decide); have a5 := hall 5 (by decide); have a6 := hall 6 (by decide); have a7 := hall 7 (by decide); have a8 := hall 8 (by decide); have a9 := hall 9 (by decide); have a10 := hall 10 (by decide); have a11 := hall 11 (by decide); have a12 := hall 12 (by decide); have a13 := hall 13 (by decide)
            (try simp only [a0, a1, a2, a3, a4, a5, a6, a7, a8, a9, a10, a11, a12, a13, cond_true] at hHc)
            replace v0 := v0 a0; replace v1 := v1 a1; replace v2 := v2 a2; replace v3 := v3 a3; replace v4 := v4 a4; replace v5 := v5 a5; replace v6 := v6 a6; replace v7 := v7 a7; replace v8 := v8 a8; replace v9 := v9 a9; replace v10 := v10 a10; replace v11 := v11 a11; replace v12 := v12 a12; replace v13 := v13 a13
            clear hall a0 a1 a2 a3 a4 a5 a6 a7 a8 a9 a10 a11 a12 a13
            generalize t 13 = x13 at hHc v13 ⊢; generalize t 12 = x12 at hHc v12 v13 ⊢; generalize t 11 = x11 at hHc v11 ⊢; generalize t 10 = x10 at hHc v10 v11 ⊢; generalize t 9 = x9 at hHc v9 ⊢; generalize t 8 = x8 at hHc v8 ⊢; generalize t 7 = x7 at hHc v7 ⊢; generalize t 6 = x6 at hHc v6 ⊢; generalize t 5 = x5 at hHc v5 ⊢; generalize t 4 = x4 at hHc v4 ⊢; generalize t 3 = x3 at hHc v3 ⊢; generalize t 2 = x2 at hHc v2 ⊢; generalize t 1 = x1 at hHc v1 ⊢; generalize t 0 = x0 at hHc v0 ⊢; subst v0; subst v1; subst v2; subst v3; subst v4; subst v5; subst v6; subst v7; subst v8
            obtain ⟨xc9, cc9, rfl⟩ := v9
            obtain ⟨p1c10, n1c10, c1c10, p2c10, n2c10, c2c10, p3c10, n3c10, c3c10, rfl⟩ := v10
            subst v11; subst v12; subst v13
            clear b
            replace hH := hHc; clear hHc
            replace hH : Held wp0 wc [aI (.slice (some ⟨cb, 0, none⟩) M M) C, aI (.slice (some ⟨fb, 0, none⟩) M M) F, aI (.slice xc9 JN.length cc9) JN, aT (.agg #[.slice p1c10 n1c10 c1c10, .slice p2c10 n2c10 c2c10, .slice p3c10 n3c10 c3c10]) JN (JN.map dm) []] := hH
            replace hH := hH.sub (L' := [aI (.slice (some ⟨cb, 0, none⟩) M M) C, aI (.slice (some ⟨fb, 0, none⟩) M M) F]) (.cons_cons _ (.cons_cons _ (.cons _ (.cons _ .slnil))))
            go_upto_region 26 with fail
            refine wp_region_steps ?Fe (fun b t wx => Held wp0 wx [aI (.slice (some ⟨cb, 0, none⟩) M M) C, aI (.slice (some ⟨fb, 0, none⟩) M M) F] ∧ (b 0 = true → t 0 = .slice (some ⟨cb, 0, none⟩) M M) ∧ (b 1 = true → t 1 = .int .i64 (a : Int)) ∧ (b 2 = true → t 2 = .pointer (some ⟨cb, a, none⟩)) ∧ (b 3 = true → t 3 = .int .i64 za) ∧ (b 4 = true → t 4 = .slice (some ⟨cb, 0, none⟩) M M) ∧ (b 5 = true → t 5 = .int .i64 (y : Int)) ∧ (b 6 = true → t 6 = .pointer (some ⟨cb, y, none⟩)) ∧ (b 7 = true → t 7 = .int .i64 zy) ∧ (b 8 = true → t 8 = .int .i64 (za + zy)) ∧ (b 9 = true → t 9 = .int .i64 VW) ∧ (b 10 = true → t 10 = .int .i64 SM) ∧ (b 11 = true → t 11 = .int .i64 SM) ∧ (b 12 = true → t 12 = t 11)) ?hFe (by kernel_rfl) (by kernel_rfl) ?hJe ?hSe ?hEe
            (case hFe => intro t; simp only [putAll, Act.put, List.setIfInBounds_toArray, List.set_cons_zero, List.set_cons_succ, Nat.reduceAdd, Nat.zero_add]; exact rfl)
            case hJe => exact ⟨hH.grow ((Ext.refl _).drew), fun h => absurd h Bool.false_ne_true, fun h => absurd h Bool.false_ne_true, fun h => absurd h Bool.false_ne_true, fun h => absurd h Bool.false_ne_true, fun h => absurd h Bool.false_ne_true, fun h => absurd h Bool.false_ne_true, fun h => absurd h Bool.false_ne_true, fun h => absurd h Bool.false_ne_true, fun h => absurd h Bool.false_ne_true, fun h => absurd h Bool.false_ne_true, fun h => absurd h Bool.false_ne_true, fun h => absurd h Bool.false_ne_true, fun h => absurd h Bool.false_ne_true⟩
            case hSe => as_aux_lemma =>
              refine AllSteps.cons (j := 1) rfl (fun b t wx hJ hb hd hcl Kc hK => ?_) ?_
              · obtain ⟨hH, v0, v1, v2, v3, v4, v5, v6, v7, v8, v9, v10, v11, v12⟩ := hJ
                go_simp
                refine hK.out _ ?_ _ ?_ ?_; rotate_left 2
                · rfl
                exact ⟨hH, fun _ => rfl, v1, v2, v3, v4, v5, v6, v7, v8, v9, v10, v11, v12⟩
              refine AllSteps.cons (j := 2) rfl (fun b t wx hJ hb hd hcl Kc hK => ?_) ?_
              · obtain ⟨hH, v0, v1, v2, v3, v4, v5, v6, v7, v8, v9, v10, v11, v12⟩ := hJ
                go_simp
                refine hK.out _ ?_ _ ?_ ?_; rotate_left 2
                · rfl
                exact ⟨hH, v0, fun _ => rfl, v2, v3, v4, v5, v6, v7, v8, v9, v10, v11, v12⟩
              refine AllSteps.cons (j := 3) rfl (fun b t wx hJ hb hd hcl Kc hK => ?_) ?_
              · obtain ⟨hH, v0, v1, v2, v3, v4, v5, v6, v7, v8, v9, v10, v11, v12⟩ := hJ
                have d0 := hd.out 0 (by kernel_rfl); have d1 := hd.out 1 (by kernel_rfl); have r0 := v0 d0; have r1 := v1 d1
                go_simp
                refine hK.out _ ?_ _ ?_ ?_; rotate_left 2
                · (try simp only [r0, r1]); rfl
                exact ⟨hH, v0, v1, fun _ => rfl, v3, v4, v5, v6, v7, v8, v9, v10, v11, v12⟩
              refine AllSteps.cons (j := 4) rfl (fun b t wx hJ hb hd hcl Kc hK => ?_) ?_
              · obtain ⟨hH, v0, v1, v2, v3, v4, v5, v6, v7, v8, v9, v10, v11, v12⟩ := hJ
                have d2 := hd.out 2 (by kernel_rfl); have r2 := v2 d2
                obtain ⟨zx, fx⟩ := (hH.own (k := 0) rfl).cell HCA.out
                go_simp
                refine hK.out _ ?_ _ ?_ ?_; rotate_left 2
                · (try simp only [r2]); rfl
                exact ⟨hH, v0, v1, v2, fun _ => rfl, v4, v5, v6, v7, v8, v9, v10, v11, v12⟩
              refine AllSteps.cons (j := 5) rfl (fun b t wx hJ hb hd hcl Kc hK => ?_) ?_
              · obtain ⟨hH, v0, v1, v2, v3, v4, v5, v6, v7, v8, v9, v10, v11, v12⟩ := hJ
                go_simp
                refine hK.out _ ?_ _ ?_ ?_; rotate_left 2
                · rfl
                exact ⟨hH, v0, v1, v2, v3, fun _ => rfl, v5, v6, v7, v8, v9, v10, v11, v12⟩
              refine AllSteps.cons (j := 6) rfl (fun b t wx hJ hb hd hcl Kc hK => ?_) ?_
              · obtain ⟨hH, v0, v1, v2, v3, v4, v5, v6, v7, v8, v9, v10, v11, v12⟩ := hJ
                go_simp
                refine hK.out _ ?_ _ ?_ ?_; rotate_left 2
                · rfl
                exact ⟨hH, v0, v1, v2, v3, v4, fun _ => rfl, v6, v7, v8, v9, v10, v11, v12⟩
              refine AllSteps.cons (j := 7) rfl (fun b t wx hJ hb hd hcl Kc hK => ?_) ?_
              · obtain ⟨hH, v0, v1, v2, v3, v4, v5, v6, v7, v8, v9, v10, v11, v12⟩ := hJ
                have d4 := hd.out 4 (by kernel_rfl); have d5 := hd.out 5 (by kernel_rfl); have r4 := v4 d4; have r5 := v5 d5
                go_simp
                refine hK.out _ ?_ _ ?_ ?_; rotate_left 2
                · (try simp only [r4, r5]); rfl
                exact ⟨hH, v0, v1, v2, v3, v4, v5, fun _ => rfl, v7, v8, v9, v10, v11, v12⟩
              refine AllSteps.cons (j := 8) rfl (fun b t wx hJ hb hd hcl Kc hK => ?_) ?_
              · obtain ⟨hH, v0, v1, v2, v3, v4, v5, v6, v7, v8, v9, v10, v11, v12⟩ := hJ
                have d6 := hd.out 6 (by kernel_rfl); have r6 := v6 d6
                obtain ⟨zx, fx⟩ := (hH.own (k := 0) rfl).cell HCY.out
                go_simp
                refine hK.out _ ?_ _ ?_ ?_; rotate_left 2
                · (try simp only [r6]); rfl
                exact ⟨hH, v0, v1, v2, v3, v4, v5, v6, fun _ => rfl, v8, v9, v10, v11, v12⟩
              refine AllSteps.cons (j := 9) rfl (fun b t wx hJ hb hd hcl Kc hK => ?_) ?_
              · obtain ⟨hH, v0, v1, v2, v3, v4, v5, v6, v7, v8, v9, v10, v11, v12⟩ := hJ
                have d3 := hd.out 3 (by kernel_rfl); have d7 := hd.out 7 (by kernel_rfl); have r3 := v3 d3; have r7 := v7 d7
                go_simp
                refine hK.out _ ?_ _ ?_ ?_; rotate_left 2
                · (try simp only [r3, r7]); rfl
                exact ⟨hH, v0, v1, v2, v3, v4, v5, v6, v7, fun _ => (by show Value.int .i64 (IntKind.i64.wrap (za + zy)) = _; rw [HS0.out]), v9, v10, v11, v12⟩
              refine AllSteps.cons (j := 10) rfl (fun b t wx hJ hb hd hcl Kc hK => ?_) ?_
              · obtain ⟨hH, v0, v1, v2, v3, v4, v5, v6, v7, v8, v9, v10, v11, v12⟩ := hJ
                go_simp
                refine hK.out _ ?_ _ ?_ ?_; rotate_left 2
                · rfl
                exact ⟨hH, v0, v1, v2, v3, v4, v5, v6, v7, v8, fun _ => rfl, v10, v11, v12⟩
              refine AllSteps.cons (j := 11) rfl (fun b t wx hJ hb hd hcl Kc hK => ?_) ?_
              · obtain ⟨hH, v0, v1, v2, v3, v4, v5, v6, v7, v8, v9, v10, v11, v12⟩ := hJ
                have d8 := hd.out 8 (by kernel_rfl); have d9 := hd.out 9 (by kernel_rfl); have r8 := v8 d8; have r9 := v9 d9
                go_simp
                refine hK.out _ ?_ _ ?_ ?_; rotate_left 2
                · (try simp only [r8, r9]); rfl
                exact ⟨hH, v0, v1, v2, v3, v4, v5, v6, v7, v8, v9, fun _ => (by show Value.int .i64 (IntKind.i64.wrap (za + zy + VW)) = _; rw [HS1.out]), v11, v12⟩
              refine AllSteps.cons (j := 12) rfl (fun b t wx hJ hb hd hcl Kc hK => ?_) ?_
              · obtain ⟨hH, v0, v1, v2, v3, v4, v5, v6, v7, v8, v9, v10, v11, v12⟩ := hJ
                have d10 := hd.out 10 (by kernel_rfl)
                have n12 : b 12 = false := Bool.eq_false_iff.2 fun h => absurd (hcl.out 12 11 (by kernel_rfl) (h)) (by rw [hb]; exact Bool.false_ne_true)
                have r10 := v10 d10
                go_simp
                refine hK.out _ ?_ _ ?_ ?_; rotate_left 2
                · (try simp only [r10]); rfl
                exact ⟨hH, v0, v1, v2, v3, v4, v5, v6, v7, v8, v9, v10, fun _ => (by show Value.int .i64 (if (1000000000 : Int) < SM then 1000000000 else SM) = _; rw [if_neg (by omega)]), fun h => absurd (show b 12 = true from h) (by rw [n12]; exact Bool.false_ne_true)⟩
              refine AllSteps.cons (j := 13) rfl (fun b t wx hJ hb hd hcl Kc hK => ?_) ?_
              · obtain ⟨hH, v0, v1, v2, v3, v4, v5, v6, v7, v8, v9, v10, v11, v12⟩ := hJ
                have d0 := hd.out 0 (by kernel_rfl); have d1 := hd.out 1 (by kernel_rfl); have d2 := hd.out 2 (by kernel_rfl); have d3 := hd.out 3 (by kernel_rfl); have d4 := hd.out 4 (by kernel_rfl); have d5 := hd.out 5 (by kernel_rfl); have d6 := hd.out 6 (by kernel_rfl); have d7 := hd.out 7 (by kernel_rfl); have d8 := hd.out 8 (by kernel_rfl); have d9 := hd.out 9 (by kernel_rfl); have d10 := hd.out 10 (by kernel_rfl); have d11 := hd.out 11 (by kernel_rfl); have r0 := v0 d0; have r1 := v1 d1; have r2 := v2 d2; have r3 := v3 d3; have r4 := v4 d4; have r5 := v5 d5; have r6 := v6 d6; have r7 := v7 d7; have r8 := v8 d8; have r9 := v9 d9; have r10 := v10 d10; have r11 := v11 d11
                go_simp
                refine hK.out _ ?_ _ ?_ ?_; rotate_left 2
                · (try simp only [r0, r1, r2, r3, r4, r5, r6, r7, r8, r9, r10, r11]); rfl
                exact ⟨hH, v0, v1, v2, v3, v4, v5, v6, v7, v8, v9, v10, v11, fun _ => (by first | rfl | exact r11.symm)⟩
              exact AllSteps.nil
            case hEe =>
             intro b t we hJ hall
             obtain ⟨hHe, v0, v1, v2, v3, v4, v5, v6, v7, v8, v9, v10, v11, v12⟩ := hJ
             have a0 := hall 0 (by decide); have a1 := hall 1 (by decide); have a2 := hall 2 (by decide); have a3 := hall 3 (by decide); have a4 := hall 4 (by decide); have a5 := hall 5 (by decide); have a6 := hall 6 (by decide); have a7 := hall 7 (by decide); have a8 := hall 8 (by decide); have a9 := hall 9 (by decide); have a10 := hall 10 (by decide); have a11 := hall 11 (by decide); have a12 := hall 12 (by decide)
             (try simp only [a0, a1, a2, a3, a4, a5, a6, a7, a8, a9, a10, a11, a12, cond_true] at hHe)
             replace v0 := v0 a0; replace v1 := v1 a1; replace v2 := v2 a2; replace v3 := v3 a3; replace v4 := v4 a4; replace v5 := v5 a5; replace v6 := v6 a6; replace v7 := v7 a7; replace v8 := v8 a8; replace v9 := v9 a9; replace v10 := v10 a10; replace v11 := v11 a11; replace v12 := v12 a12
             clear hall a0 a1 a2 a3 a4 a5 a6 a7 a8 a9 a10 a11 a12
             generalize t 12 = x12 at hHe v12 ⊢; generalize t 11 = x11 at hHe v11 v12 ⊢; generalize t 10 = x10 at hHe v10 ⊢; generalize t 9 = x9 at hHe v9 ⊢; generalize t 8 = x8 at hHe v8 ⊢; generalize t 7 = x7 at hHe v7 ⊢; generalize t 6 = x6 at hHe v6 ⊢; generalize t 5 = x5 at hHe v5 ⊢; generalize t 4 = x4 at hHe v4 ⊢; generalize t 3 = x3 at hHe v3 ⊢; generalize t 2 = x2 at hHe v2 ⊢; generalize t 1 = x1 at hHe v1 ⊢; generalize t 0 = x0 at hHe v0 ⊢; subst v0; subst v1; subst v2; subst v3; subst v4; subst v5; subst v6; subst v7; subst v8; subst v9; subst v10; subst v11; subst v12
             clear b
             replace hH := hHe; clear hHe
             replace hH : Held wp0 we [aI (.slice (some ⟨cb, 0, none⟩) M M) C, aI (.slice (some ⟨fb, 0, none⟩) M M) F] := hH
             obtain ⟨wv, rfl⟩ : ∃ q, q = we := ⟨we, rfl⟩
             obtain ⟨gcS, gfS⟩ := (hH.own (k := 0) rfl).cell HCS.out
             obtain ⟨fcS, ffS⟩ := (hH.own (k := 1) rfl).cell HFS.out
             have glS := ((hH.own (k := 0) rfl).block_lt (k := cb) rfl).2
             have flS := ((hH.own (k := 1) rfl).block_lt (k := fb) rfl).2
             by_cases hzf0 : zf = 0
             ·
              have HT2 := Lib.hid (HTY.out (.inl hzf0))
              subst hzf0
              have hHf := (hH.setI (k := 1) rfl s (by rw [HT.out.lenF]; exact hlt3) (a : Int)).setI (k := 0) rfl s (by rw [HT.out.lenC]; exact hlt3) SM
              have hcb : cb ≠ fb := fun e => hH.others (k := 0) rfl 1 _ (by decide) rfl cb (by simp [aI, Value.ownBlock]) (by simp [aI, Value.ownBlock, e])
              go_wp2_with fail
              go_roundw
              case rel => exact ⟨a + 1, _, _, by omega, by omega, by first | rfl | go_num, HT2, hHf⟩
              case measure => simp [RowKit.intOf]; omega
             ·
              by_cases hlt5 : SM < zs
              ·
               have HT2 := Lib.hid (HTY.out (.inr hlt5))
               have hHf := (hH.setI (k := 1) rfl s (by rw [HT.out.lenF]; exact hlt3) (a : Int)).setI (k := 0) rfl s (by rw [HT.out.lenC]; exact hlt3) SM
               have hcb : cb ≠ fb := fun e => hH.others (k := 0) rfl 1 _ (by decide) rfl cb (by simp [aI, Value.ownBlock]) (by simp [aI, Value.ownBlock, e])
               go_wp2_with fail
               go_roundw
               case rel => exact ⟨a + 1, _, _, by omega, by omega, by first | rfl | go_num, HT2, hHf⟩
               case measure => simp [RowKit.intOf]; omega
              ·
               have HT2 := Lib.hid (HKP.out hzf0 hlt5)
               go_wp2_with fail
               go_roundw
               case rel => exact ⟨a + 1, C, F, by omega, by omega, by first | rfl | go_num, HT2, hH⟩
               case measure => simp [RowKit.intOf]; omega
         ·
          obtain ⟨az, has⟩ : ∃ q, a &&& s = q := ⟨_, rfl⟩
          have HS2 := Lib.hid (HT.out.skip (fun h => hc1 h.1))
          rw [has] at hand1 hc1
          have hc1i : ¬ ((az : Int) = (a : Int)) := by omega
          have hc1b : ((az : Int) != (a : Int)) = true := by simpa using hc1i
          clear has hand2
          go_wp2_with fail
          go_roundw
          case rel => exact ⟨a + 1, C, F, by omega, by omega, by first | rfl | go_num, HS2, hH⟩
          case measure => simp [RowKit.intOf]; omega
        ·
         have HT2 := Lib.hid (HT.out.next (by omega))
         go_wp2_with fail
         go_roundw
         case rel => exact ⟨s + 1, C, F, by omega, by omega, by first | rfl | go_num, HT2, hH⟩
         case measure => simp [RowKit.intOf]; omega
      ·
       have hse : s = M := by omega
       have hns : ¬ (s : Int) < (M : Int) := by omega
       have HTF : Hid (TabT (valS dm ts op) M C0 F0 M 1) := Lib.hid (by have h := HT.out; rw [hse] at h; exact h)
       have HHF := Lib.hid (hH.under HE0.out)
       clear hH hse
       go_wp2
       go_ret2
       exact ⟨_, _, rfl, ⟨C0, F0, ⟨1, by rw [HM.out, HMM.out]; exact HTF.out⟩, HHF.out⟩⟩
end Go.Proofs.Ytpegckmagiaggaa
