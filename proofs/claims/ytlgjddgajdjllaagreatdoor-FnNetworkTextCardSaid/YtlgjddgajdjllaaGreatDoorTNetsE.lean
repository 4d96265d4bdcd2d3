/- The laws' nets, of two networks that read alike. -/
import Derived.Test.YtlgjddgajdjllaaGreatDoorTAxesW
set_option linter.unusedSimpArgs false
set_option linter.unusedVariables false
namespace Go.Proofs.YtlgjddgajdjllaaGreatDoor
open Go.RowKit
theorem ints_sameE (v u : Value) (l : List Int) (w : World) (hl : IntS w v l) (hm : IntS w u l) : Calls Tryz.prog 27 #[v, u] w fun e w' => e = .returned (.bool true) ∧ Ext w w' :=
  (ints_same v u l l w hl hm rfl).mono fun _ _ ⟨he, hn⟩ => ⟨he, hn ▸ Ext.refl w⟩
set_option maxRecDepth 100000 in
set_option maxHeartbeats 4000000 in
theorem nets_same (k p n : Int) (A : List (List Int × List Int × List Int)) (O : List Int) (tv ov tu ou : Value) (w : World) (hA : TensS w tv A) (hO : IntS w ov O) (hB : TensS w tu A) (hQ : IntS w ou O) :
 Calls Tryz.prog 9 #[.agg #[.int .i64 k, .int .i64 p, .int .i64 n, tv, ov], .agg #[.int .i64 k, .int .i64 p, .int .i64 n, tu, ou]] w fun e w' => e = .returned (.bool true) ∧ Ext w w' := by
 have hA0 := hA
 have hB0 := hB
 obtain ⟨m, hm⟩ : ∃ m, A.length = m := ⟨_, rfl⟩
 obtain ⟨aV, cV, rfl, hcT1, hcT2⟩ := hA.val
 obtain ⟨aW, cW, rfl, hcW1, hcW2⟩ := hB.val
 obtain ⟨aO, cO, rfl, hcO1, hcO2⟩ := hO.val
 obtain ⟨aQ, cQ, rfl, hcQ1, hcQ2⟩ := hQ.val
 rw [hm] at hA hA0 hcT1 hB hB0 hcW1
 rw [hm]
 have HM := Lib.hid hm; clear hm
 go_enter Tryz.func9, Tryz.ntmps9
 go_upto_region 1 with fail
 have hH : Held w w [] := Held.new (Ext.refl w) 0
 have hB : Held w (w.alloc (.cells #[.int .i64 k, .int .i64 p, .int .i64 n, .slice aV m cV, .slice aO O.length cO] 29)) [aB (w.heap.size) 29 [.int .i64 k, .int .i64 p, .int .i64 n, .slice aV m cV, .slice aO O.length cO]] := by
  have h := (hH.mores 1).addB 0 #[.int .i64 k, .int .i64 p, .int .i64 n, .slice aV m cV, .slice aO O.length cO] 29
  exact h
 have hsz : (w.alloc (.cells #[.int .i64 k, .int .i64 p, .int .i64 n, .slice aV m cV, .slice aO O.length cO] 29)).heap.size = w.heap.size + 1 := by simp
 generalize w.alloc (.cells #[.int .i64 k, .int .i64 p, .int .i64 n, .slice aV m cV, .slice aO O.length cO] 29) = wn1 at hB hsz ⊢
 replace hH := hB; have HSZwn1 := Lib.hid hsz; clear hB hsz
 have hB : Held w (wn1.alloc (.cells #[.int .i64 k, .int .i64 p, .int .i64 n, .slice aW m cW, .slice aQ O.length cQ] 29)) [aB (w.heap.size) 29 [.int .i64 k, .int .i64 p, .int .i64 n, .slice aV m cV, .slice aO O.length cO], aB (w.heap.size + 1) 29 [.int .i64 k, .int .i64 p, .int .i64 n, .slice aW m cW, .slice aQ O.length cQ]] := by
  have h := (hH.mores 1).addB 1 #[.int .i64 k, .int .i64 p, .int .i64 n, .slice aW m cW, .slice aQ O.length cQ] 29
  rw [HSZwn1.out] at h
  exact h
 have hsz : (wn1.alloc (.cells #[.int .i64 k, .int .i64 p, .int .i64 n, .slice aW m cW, .slice aQ O.length cQ] 29)).heap.size = w.heap.size + 1 + 1 := by rw [← HSZwn1.out]; simp
 generalize wn1.alloc (.cells #[.int .i64 k, .int .i64 p, .int .i64 n, .slice aW m cW, .slice aQ O.length cQ] 29) = wn2 at hB hsz ⊢
 replace hH := hB; have HSZwn2 := Lib.hid hsz; clear hB hsz
 obtain ⟨wz, rfl⟩ : ∃ q, q = wn2 := ⟨wn2, rfl⟩
 obtain ⟨q0_0, q0_1, q0_2, q0_3, q0_4, l0_⟩ := hH.c5 0 rfl; obtain ⟨q1_0, q1_1, q1_2, q1_3, q1_4, l1_⟩ := hH.c5 1 rfl
 go_wp2_with fail
 clear q0_0 q0_1 q0_2 q0_3 q0_4 l0_ q1_0 q1_1 q1_2 q1_3 q1_4 l1_
 go_loopw [10] (fun i wr => ∃ (j : Nat), j ≤ m ∧ i = .int .i64 (j : Int) ∧ Held w wr [aB (w.heap.size) 29 [.int .i64 k, .int .i64 p, .int .i64 n, .slice aV m cV, .slice aO O.length cO], aB (w.heap.size + 1) 29 [.int .i64 k, .int .i64 p, .int .i64 n, .slice aW m cW, .slice aQ O.length cQ]]) (fun i wr => m - (RowKit.intOf i).toNat)
 case atStart => exact ⟨0, Nat.zero_le _, rfl, hH⟩
 case round =>
  clear hH
  obtain ⟨j, hj, rfl, hH⟩ := hrel
  obtain ⟨wq, rfl⟩ : ∃ q, q = wr := ⟨wr, rfl⟩
  by_cases hlt : j < m
  ·
   obtain ⟨bTa, oTa, u1, u2, u3, t3a, hV, hu0a, hu1a, hu2a, ht3, hTua⟩ := hA.get (i := j) (by rw [HM.out]; exact hlt)
   subst hV
   have HTJa := Lib.hid ht3; clear ht3
   obtain ⟨tla, tda, txa⟩ := t3a
   obtain ⟨e1a, m1a, f1a, e2a, m2a, f2a, e3a, m3a, f3a, hvv⟩ := hTua.shape
   simp at hvv
   obtain ⟨rfl, rfl, rfl⟩ := hvv
   rw [Nat.mul_comm 3 j] at hu0a hu1a hu2a
   simp only at hTua
   obtain ⟨bTb, oTb, u1, u2, u3, t3b, hV, hu0b, hu1b, hu2b, ht3, hTub⟩ := hB.get (i := j) (by rw [HM.out]; exact hlt)
   subst hV
   have HTJb := Lib.hid ht3; clear ht3
   obtain ⟨tlb, tdb, txb⟩ := t3b
   obtain ⟨e1b, m1b, f1b, e2b, m2b, f2b, e3b, m3b, f3b, hvv⟩ := hTub.shape
   simp at hvv
   obtain ⟨rfl, rfl, rfl⟩ := hvv
   rw [Nat.mul_comm 3 j] at hu0b hu1b hu2b
   simp only at hTub
   have hee := HTJa.out; rw [HTJb.out] at hee; simp only [Option.some.injEq, Prod.mk.injEq] at hee; obtain ⟨rfl, rfl, rfl⟩ := hee
   obtain ⟨q0_0, q0_1, q0_2, q0_3, q0_4, l0_⟩ := hH.c5 0 rfl; obtain ⟨q1_0, q1_1, q1_2, q1_3, q1_4, l1_⟩ := hH.c5 1 rfl; have c_hu0a := hH.ext.cell hu0a; have c_hu1a := hH.ext.cell hu1a; have c_hu2a := hH.ext.cell hu2a; have c_hu0b := hH.ext.cell hu0b; have c_hu1b := hH.ext.cell hu1b; have c_hu2b := hH.ext.cell hu2b
   go_upto_region 4 with fail
   clear q0_0 q0_1 q0_2 q0_3 q0_4 l0_ q1_0 q1_1 q1_2 q1_3 q1_4 l1_ c_hu0a c_hu1a c_hu2a c_hu0b c_hu1b c_hu2b
   have hB : Held w (wq.alloc (.cells #[.slice e1a m1a f1a, .slice e2a m2a f2a, .slice e3a m3a f3a] 52)) [aB (w.heap.size) 29 [.int .i64 k, .int .i64 p, .int .i64 n, .slice (some ⟨bTa, oTa, none⟩) m cV, .slice aO O.length cO], aB (w.heap.size + 1) 29 [.int .i64 k, .int .i64 p, .int .i64 n, .slice (some ⟨bTb, oTb, none⟩) m cW, .slice aQ O.length cQ], aB (wq.heap.size) 52 [.slice e1a m1a f1a, .slice e2a m2a f2a, .slice e3a m3a f3a]] := by
    have h := (hH.mores 1).addB 2 #[.slice e1a m1a f1a, .slice e2a m2a f2a, .slice e3a m3a f3a] 52
    exact h
   have hsz : (wq.alloc (.cells #[.slice e1a m1a f1a, .slice e2a m2a f2a, .slice e3a m3a f3a] 52)).heap.size = wq.heap.size + 1 := by simp
   generalize wq.alloc (.cells #[.slice e1a m1a f1a, .slice e2a m2a f2a, .slice e3a m3a f3a] 52) = wn3 at hB hsz ⊢
   replace hH := hB; have HSZwn3 := Lib.hid hsz; clear hB hsz
   obtain ⟨wy, rfl⟩ : ∃ q, q = wn3 := ⟨wn3, rfl⟩
   have hnm : ¬ (m : Int) ≤ (j : Int) := by omega
   refine wp_region_steps ?Fs (fun b t wx => Held w wx [aB (w.heap.size) 29 [.int .i64 k, .int .i64 p, .int .i64 n, .slice (some ⟨bTa, oTa, none⟩) m cV, .slice aO O.length cO], aB (w.heap.size + 1) 29 [.int .i64 k, .int .i64 p, .int .i64 n, .slice (some ⟨bTb, oTb, none⟩) m cW, .slice aQ O.length cQ], aB (wq.heap.size) 52 [.slice e1a m1a f1a, .slice e2a m2a f2a, .slice e3a m3a f3a]] ∧ (b 0 = true → t 0 = .int .i64 (j : Int)) ∧ (b 1 = true → t 1 = .pointer (some ⟨w.heap.size + 1, 3, none⟩)) ∧ (b 2 = true → t 2 = .slice (some ⟨bTb, oTb, none⟩) m cW) ∧ (b 3 = true → t 3 = .int .i64 (m : Int)) ∧ (b 4 = true → t 4 = .bool false) ∧ (b 5 = true → t 5 = .bool false) ∧ (b 6 = true → t 6 = .agg #[.slice e1a m1a f1a, .slice e2a m2a f2a, .slice e3a m3a f3a]) ∧ (b 7 = true → t 7 = .pointer (some ⟨w.heap.size + 1, 3, none⟩)) ∧ (b 8 = true → t 8 = .slice (some ⟨bTb, oTb, none⟩) m cW) ∧ (b 9 = true → t 9 = .int .i64 (j : Int)) ∧ (b 10 = true → t 10 = .pointer (some ⟨bTb, oTb + j * 3, none⟩)) ∧ (b 11 = true → t 11 = .agg #[.slice e1b m1b f1b, .slice e2b m2b f2b, .slice e3b m3b f3b]) ∧ (b 12 = true → t 12 = .bool true) ∧ (b 13 = true → t 13 = .bool false) ∧ (b 14 = true → t 14 = .bool false)) ?hFs (by kernel_rfl) (by kernel_rfl) ?hJs ?hSs ?hEs
   (case hFs => intro t; simp only [putAll, Act.put, List.setIfInBounds_toArray, List.set_cons_zero, List.set_cons_succ, Nat.reduceAdd, Nat.zero_add]; exact rfl)
   case hJs => exact ⟨hH.grow ((Ext.refl _).drew), nof, nof, nof, nof, nof, nof, nof, nof, nof, nof, nof, nof, nof, nof, nof⟩
   case hSs => as_aux_lemma =>
     refine AllSteps.cons (j := 1) rfl (fun b t wx hJ hb hd hcl Kc hK => ?_) ?_
     · obtain ⟨hH, v0, v1, v2, v3, v4, v5, v6, v7, v8, v9, v10, v11, v12, v13, v14⟩ := hJ
       have c_hu0b := hH.ext.cell hu0b; have c_hu1b := hH.ext.cell hu1b; have c_hu2b := hH.ext.cell hu2b
       go_simp
       refine hK.out _ ?_ _ ?_ ?_; rotate_left 2
       · rfl
       exact ⟨hH, fun _ => rfl, v1, v2, v3, v4, v5, v6, v7, v8, v9, v10, v11, v12, v13, v14⟩
     refine AllSteps.cons (j := 2) rfl (fun b t wx hJ hb hd hcl Kc hK => ?_) ?_
     · obtain ⟨hH, v0, v1, v2, v3, v4, v5, v6, v7, v8, v9, v10, v11, v12, v13, v14⟩ := hJ
       have c_hu0b := hH.ext.cell hu0b; have c_hu1b := hH.ext.cell hu1b; have c_hu2b := hH.ext.cell hu2b
       go_simp
       refine hK.out _ ?_ _ ?_ ?_; rotate_left 2
       · rfl
       exact ⟨hH, v0, fun _ => rfl, v2, v3, v4, v5, v6, v7, v8, v9, v10, v11, v12, v13, v14⟩
     refine AllSteps.cons (j := 3) rfl (fun b t wx hJ hb hd hcl Kc hK => ?_) ?_
     · obtain ⟨hH, v0, v1, v2, v3, v4, v5, v6, v7, v8, v9, v10, v11, v12, v13, v14⟩ := hJ
       have d1 := hd.out 1 (by kernel_rfl); have r1 := v1 d1; have c_hu0b := hH.ext.cell hu0b; have c_hu1b := hH.ext.cell hu1b; have c_hu2b := hH.ext.cell hu2b; have q1_3 := hH.cl 1 3 rfl rfl
       go_simp
       refine hK.out _ ?_ _ ?_ ?_; rotate_left 2
       · (try simp only [r1]); rfl
       exact ⟨hH, v0, v1, fun _ => rfl, v3, v4, v5, v6, v7, v8, v9, v10, v11, v12, v13, v14⟩
     refine AllSteps.cons (j := 4) rfl (fun b t wx hJ hb hd hcl Kc hK => ?_) ?_
     · obtain ⟨hH, v0, v1, v2, v3, v4, v5, v6, v7, v8, v9, v10, v11, v12, v13, v14⟩ := hJ
       have d2 := hd.out 2 (by kernel_rfl); have r2 := v2 d2; have c_hu0b := hH.ext.cell hu0b; have c_hu1b := hH.ext.cell hu1b; have c_hu2b := hH.ext.cell hu2b
       go_simp
       refine hK.out _ ?_ _ ?_ ?_; rotate_left 2
       · (try simp only [r2]); rfl
       exact ⟨hH, v0, v1, v2, fun _ => rfl, v4, v5, v6, v7, v8, v9, v10, v11, v12, v13, v14⟩
     refine AllSteps.cons (j := 5) rfl (fun b t wx hJ hb hd hcl Kc hK => ?_) ?_
     · obtain ⟨hH, v0, v1, v2, v3, v4, v5, v6, v7, v8, v9, v10, v11, v12, v13, v14⟩ := hJ
       have d0 := hd.out 0 (by kernel_rfl); have d3 := hd.out 3 (by kernel_rfl); have r0 := v0 d0; have r3 := v3 d3; have c_hu0b := hH.ext.cell hu0b; have c_hu1b := hH.ext.cell hu1b; have c_hu2b := hH.ext.cell hu2b
       go_simp
       refine hK.out _ ?_ _ ?_ ?_; rotate_left 2
       · (try simp only [r0, r3]); rfl
       exact ⟨hH, v0, v1, v2, v3, fun _ => rfl, v5, v6, v7, v8, v9, v10, v11, v12, v13, v14⟩
     refine AllSteps.cons (j := 6) rfl (fun b t wx hJ hb hd hcl Kc hK => ?_) ?_
     · obtain ⟨hH, v0, v1, v2, v3, v4, v5, v6, v7, v8, v9, v10, v11, v12, v13, v14⟩ := hJ
       have d4 := hd.out 4 (by kernel_rfl); have r4 := v4 d4; have c_hu0b := hH.ext.cell hu0b; have c_hu1b := hH.ext.cell hu1b; have c_hu2b := hH.ext.cell hu2b
       go_simp
       refine hK.out _ ?_ _ ?_ ?_; rotate_left 2
       · (try simp only [r4]); rfl
       exact ⟨hH, v0, v1, v2, v3, v4, fun _ => rfl, v6, v7, v8, v9, v10, v11, v12, v13, v14⟩
     refine AllSteps.cons (j := 7) rfl (fun b t wx hJ hb hd hcl Kc hK => ?_) ?_
     · obtain ⟨hH, v0, v1, v2, v3, v4, v5, v6, v7, v8, v9, v10, v11, v12, v13, v14⟩ := hJ
       have d5 := hd.out 5 (by kernel_rfl); have r5 := v5 d5; have c_hu0b := hH.ext.cell hu0b; have c_hu1b := hH.ext.cell hu1b; have c_hu2b := hH.ext.cell hu2b; have q2_0 := hH.cl 2 0 rfl rfl; have q2_1 := hH.cl 2 1 rfl rfl; have q2_2 := hH.cl 2 2 rfl rfl
       go_simp
       refine hK.out _ ?_ _ ?_ ?_; rotate_left 2
       · (try simp only [r5]); rfl
       exact ⟨hH, v0, v1, v2, v3, v4, v5, fun _ => rfl, v7, v8, v9, v10, v11, v12, v13, v14⟩
     refine AllSteps.cons (j := 8) rfl (fun b t wx hJ hb hd hcl Kc hK => ?_) ?_
     · obtain ⟨hH, v0, v1, v2, v3, v4, v5, v6, v7, v8, v9, v10, v11, v12, v13, v14⟩ := hJ
       have d5 := hd.out 5 (by kernel_rfl); have r5 := v5 d5; have c_hu0b := hH.ext.cell hu0b; have c_hu1b := hH.ext.cell hu1b; have c_hu2b := hH.ext.cell hu2b
       go_simp
       refine hK.out _ ?_ _ ?_ ?_; rotate_left 2
       · (try simp only [r5]); rfl
       exact ⟨hH, v0, v1, v2, v3, v4, v5, v6, fun _ => rfl, v8, v9, v10, v11, v12, v13, v14⟩
     refine AllSteps.cons (j := 9) rfl (fun b t wx hJ hb hd hcl Kc hK => ?_) ?_
     · obtain ⟨hH, v0, v1, v2, v3, v4, v5, v6, v7, v8, v9, v10, v11, v12, v13, v14⟩ := hJ
       have d5 := hd.out 5 (by kernel_rfl); have d7 := hd.out 7 (by kernel_rfl); have r5 := v5 d5; have r7 := v7 d7; have c_hu0b := hH.ext.cell hu0b; have c_hu1b := hH.ext.cell hu1b; have c_hu2b := hH.ext.cell hu2b; have q1_3 := hH.cl 1 3 rfl rfl
       go_simp
       refine hK.out _ ?_ _ ?_ ?_; rotate_left 2
       · (try simp only [r5, r7]); rfl
       exact ⟨hH, v0, v1, v2, v3, v4, v5, v6, v7, fun _ => rfl, v9, v10, v11, v12, v13, v14⟩
     refine AllSteps.cons (j := 10) rfl (fun b t wx hJ hb hd hcl Kc hK => ?_) ?_
     · obtain ⟨hH, v0, v1, v2, v3, v4, v5, v6, v7, v8, v9, v10, v11, v12, v13, v14⟩ := hJ
       have d5 := hd.out 5 (by kernel_rfl); have r5 := v5 d5; have c_hu0b := hH.ext.cell hu0b; have c_hu1b := hH.ext.cell hu1b; have c_hu2b := hH.ext.cell hu2b
       go_simp
       refine hK.out _ ?_ _ ?_ ?_; rotate_left 2
       · (try simp only [r5]); rfl
       exact ⟨hH, v0, v1, v2, v3, v4, v5, v6, v7, v8, fun _ => rfl, v10, v11, v12, v13, v14⟩
     refine AllSteps.cons (j := 11) rfl (fun b t wx hJ hb hd hcl Kc hK => ?_) ?_
     · obtain ⟨hH, v0, v1, v2, v3, v4, v5, v6, v7, v8, v9, v10, v11, v12, v13, v14⟩ := hJ
       have d5 := hd.out 5 (by kernel_rfl); have d8 := hd.out 8 (by kernel_rfl); have d9 := hd.out 9 (by kernel_rfl); have r5 := v5 d5; have r8 := v8 d8; have r9 := v9 d9; have c_hu0b := hH.ext.cell hu0b; have c_hu1b := hH.ext.cell hu1b; have c_hu2b := hH.ext.cell hu2b
       go_simp
       refine hK.out _ ?_ _ ?_ ?_; rotate_left 2
       · (try simp only [r5, r8, r9]); rfl
       exact ⟨hH, v0, v1, v2, v3, v4, v5, v6, v7, v8, v9, fun _ => rfl, v11, v12, v13, v14⟩
     refine AllSteps.cons (j := 12) rfl (fun b t wx hJ hb hd hcl Kc hK => ?_) ?_
     · obtain ⟨hH, v0, v1, v2, v3, v4, v5, v6, v7, v8, v9, v10, v11, v12, v13, v14⟩ := hJ
       have d5 := hd.out 5 (by kernel_rfl); have d10 := hd.out 10 (by kernel_rfl); have r5 := v5 d5; have r10 := v10 d10; have c_hu0b := hH.ext.cell hu0b; have c_hu1b := hH.ext.cell hu1b; have c_hu2b := hH.ext.cell hu2b
       go_simp
       refine hK.out _ ?_ _ ?_ ?_; rotate_left 2
       · (try simp only [r5, r10]); rfl
       exact ⟨hH, v0, v1, v2, v3, v4, v5, v6, v7, v8, v9, v10, fun _ => rfl, v12, v13, v14⟩
     refine AllSteps.cons (j := 13) rfl (fun b t wx hJ hb hd hcl Kc hK => ?_) ?_
     · obtain ⟨hH, v0, v1, v2, v3, v4, v5, v6, v7, v8, v9, v10, v11, v12, v13, v14⟩ := hJ
       have d5 := hd.out 5 (by kernel_rfl); have d6 := hd.out 6 (by kernel_rfl); have d11 := hd.out 11 (by kernel_rfl); have r5 := v5 d5; have r6 := v6 d6; have r11 := v11 d11
       go_simp
       go_at_call 26
       refine (same_same _ _ _ _ _ _ _ _ _ (hTua.ext hH.ext) (hTub.ext hH.ext) rfl rfl rfl).mono ?_; rintro e12 w12 ⟨rfl, h12⟩
       (try go_simp)
       refine hK.out _ ?_ _ ?_ ?_; rotate_left 2
       · (try simp only [r5, r6, r11]); rfl
       exact ⟨by have hX := hH.grow h12; simpa only [List.set_cons_zero, List.set_cons_succ, updB, updV, blkOf_mk, tup0_mk, partsOf3, Nat.reduceBEq, cond_true, cond_false, hb, d5, d6, d11, r5, r6, r11] using hX, v0, v1, v2, v3, v4, v5, v6, v7, v8, v9, v10, v11, fun _ => rfl, v13, v14⟩
     refine AllSteps.cons (j := 14) rfl (fun b t wx hJ hb hd hcl Kc hK => ?_) ?_
     · obtain ⟨hH, v0, v1, v2, v3, v4, v5, v6, v7, v8, v9, v10, v11, v12, v13, v14⟩ := hJ
       have d5 := hd.out 5 (by kernel_rfl); have d12 := hd.out 12 (by kernel_rfl); have r5 := v5 d5; have r12 := v12 d12; have c_hu0b := hH.ext.cell hu0b; have c_hu1b := hH.ext.cell hu1b; have c_hu2b := hH.ext.cell hu2b
       go_simp
       refine hK.out _ ?_ _ ?_ ?_; rotate_left 2
       · (try simp only [r5, r12]); rfl
       exact ⟨hH, v0, v1, v2, v3, v4, v5, v6, v7, v8, v9, v10, v11, v12, fun _ => rfl, v14⟩
     refine AllSteps.cons (j := 15) rfl (fun b t wx hJ hb hd hcl Kc hK => ?_) ?_
     · obtain ⟨hH, v0, v1, v2, v3, v4, v5, v6, v7, v8, v9, v10, v11, v12, v13, v14⟩ := hJ
       have d5 := hd.out 5 (by kernel_rfl); have d13 := hd.out 13 (by kernel_rfl); have r5 := v5 d5; have r13 := v13 d13; have c_hu0b := hH.ext.cell hu0b; have c_hu1b := hH.ext.cell hu1b; have c_hu2b := hH.ext.cell hu2b
       go_simp
       refine hK.out _ ?_ _ ?_ ?_; rotate_left 2
       · (try simp only [r5, r13]); rfl
       exact ⟨hH, v0, v1, v2, v3, v4, v5, v6, v7, v8, v9, v10, v11, v12, v13, fun _ => rfl⟩
     exact AllSteps.nil
   case hEs =>
    intro b t ws hJ hall
    obtain ⟨hHs, v0, v1, v2, v3, v4, v5, v6, v7, v8, v9, v10, v11, v12, v13, v14⟩ := hJ
    have a0 := hall 0 (by decide); have a1 := hall 1 (by decide); have a2 := hall 2 (by decide); have a3 := hall 3 (by decide); have a4 := hall 4 (by decide); have a5 := hall 5 (by decide); have a6 := hall 6 (by decide); have a7 := hall 7 (by decide); have a8 := hall 8 (by decide); have a9 := hall 9 (by decide); have a10 := hall 10 (by decide); have a11 := hall 11 (by decide); have a12 := hall 12 (by decide); have a13 := hall 13 (by decide); have a14 := hall 14 (by decide)
    (try simp only [a0, a1, a2, a3, a4, a5, a6, a7, a8, a9, a10, a11, a12, a13, a14, cond_true] at hHs)
    replace v0 := v0 a0; replace v1 := v1 a1; replace v2 := v2 a2; replace v3 := v3 a3; replace v4 := v4 a4; replace v5 := v5 a5; replace v6 := v6 a6; replace v7 := v7 a7; replace v8 := v8 a8; replace v9 := v9 a9; replace v10 := v10 a10; replace v11 := v11 a11; replace v12 := v12 a12; replace v13 := v13 a13; replace v14 := v14 a14
    clear hall a0 a1 a2 a3 a4 a5 a6 a7 a8 a9 a10 a11 a12 a13 a14
    generalize t 14 = x14 at hHs v14 ⊢; generalize t 13 = x13 at hHs v13 ⊢; generalize t 12 = x12 at hHs v12 ⊢; generalize t 11 = x11 at hHs v11 ⊢; generalize t 10 = x10 at hHs v10 ⊢; generalize t 9 = x9 at hHs v9 ⊢; generalize t 8 = x8 at hHs v8 ⊢; generalize t 7 = x7 at hHs v7 ⊢; generalize t 6 = x6 at hHs v6 ⊢; generalize t 5 = x5 at hHs v5 ⊢; generalize t 4 = x4 at hHs v4 ⊢; generalize t 3 = x3 at hHs v3 ⊢; generalize t 2 = x2 at hHs v2 ⊢; generalize t 1 = x1 at hHs v1 ⊢; generalize t 0 = x0 at hHs v0 ⊢; subst v0; subst v1; subst v2; subst v3; subst v4; subst v5; subst v6; subst v7; subst v8; subst v9; subst v10; subst v11; subst v12; subst v13; subst v14
    clear b
    replace hH := hHs; clear hHs
    replace hH : Held w ws [aB (w.heap.size) 29 [.int .i64 k, .int .i64 p, .int .i64 n, .slice (some ⟨bTa, oTa, none⟩) m cV, .slice aO O.length cO], aB (w.heap.size + 1) 29 [.int .i64 k, .int .i64 p, .int .i64 n, .slice (some ⟨bTb, oTb, none⟩) m cW, .slice aQ O.length cQ], aB (wq.heap.size) 52 [.slice e1a m1a f1a, .slice e2a m2a f2a, .slice e3a m3a f3a]] := hH
    obtain ⟨wx, rfl⟩ : ∃ q, q = ws := ⟨ws, rfl⟩
    obtain ⟨q0_0, q0_1, q0_2, q0_3, q0_4, l0_⟩ := hH.c5 0 rfl; obtain ⟨q1_0, q1_1, q1_2, q1_3, q1_4, l1_⟩ := hH.c5 1 rfl; obtain ⟨q2_0, q2_1, q2_2, l2_⟩ := hH.c3 2 rfl
    go_wp2_with fail
    clear q0_0 q0_1 q0_2 q0_3 q0_4 l0_ q1_0 q1_1 q1_2 q1_3 q1_4 l1_ q2_0 q2_1 q2_2 l2_
    go_roundw
    case rel => exact ⟨j + 1, by omega, by go_num, hH.sub (.cons_cons _ (.cons_cons _ (.cons _ .slnil)))⟩
    case measure => simp [RowKit.intOf]; omega
  ·
   have hje : j = m := by omega
   subst hje
   obtain ⟨m, hmj⟩ : ∃ q, q = j := ⟨j, rfl⟩
   subst hmj
   have hbb : ((m : Int) == (m : Int)) = true := by simp
   obtain ⟨q0_0, q0_1, q0_2, q0_3, q0_4, l0_⟩ := hH.c5 0 rfl; obtain ⟨q1_0, q1_1, q1_2, q1_3, q1_4, l1_⟩ := hH.c5 1 rfl
   go_wp2_with fail
   clear q0_0 q0_1 q0_2 q0_3 q0_4 l0_ q1_0 q1_1 q1_2 q1_3 q1_4 l1_
   refine (ints_sameE _ _ O _ (hO.ext hH.ext) (hQ.ext hH.ext)).mono ?_; rintro ewn4 wn4 ⟨rfl, hwn4⟩
   replace hH : Held w wn4 [aB (w.heap.size) 29 [.int .i64 k, .int .i64 p, .int .i64 n, .slice aV m cV, .slice aO O.length cO], aB (w.heap.size + 1) 29 [.int .i64 k, .int .i64 p, .int .i64 n, .slice aW m cW, .slice aQ O.length cQ]] := hH.grow hwn4
   clear hwn4
   have HE := Lib.hid hH.ext; clear hH
   go_wp2
   go_ret
   exact ⟨rfl, HE.out⟩
end Go.Proofs.YtlgjddgajdjllaaGreatDoor
