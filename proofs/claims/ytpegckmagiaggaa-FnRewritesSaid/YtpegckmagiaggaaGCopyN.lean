/- copyNetwork of the program: fresh tensors, all apart. -/
import Derived.Test.YtpegckmagiaggaaGSubW
set_option linter.unusedSimpArgs false
set_option linter.unusedVariables false
namespace Go.Proofs.Ytpegckmagiaggaa
open Go.RowKit
theorem HeldX.swap2 {ex : Option Nat} {a w : World} {A B : Asn} (h : HeldX ex a w [A, B]) : HeldX ex a w [B, A] := h.perm (List.Perm.swap _ _ _)
set_option maxRecDepth 100000 in
set_option maxHeartbeats 8000000 in
theorem copyNetwork_any {k p n : Int} (hr : ringOk k p n = true) {dm : Int → Int} {U : List Int} {ts : List (NT k p n)} {op : List Int} (hN : IsN k p n dm U ts op) (tv ov : Value) (w : World) (hT : TensS w tv (ts.map (tenOf dm))) (hO : IntS w ov op) :
 Calls Try.prog 125 #[.agg #[.int .i64 k, .int .i64 p, .int .i64 n, tv, ov]] w fun e w' => ∃ tv' ov' cs, e = .returned (.agg #[.int .i64 k, .int .i64 p, .int .i64 n, tv', ov']) ∧
  Held w w' [aTs tv' cs (ts.map (tenOf dm)), aI ov' op] := by
 have hT0 := hT
 have hO0 := hO
 obtain ⟨m, hm⟩ : ∃ m, ts.length = m := ⟨_, rfl⟩
 obtain ⟨aV, cV, rfl, hcT1, hcT2⟩ := hT.val
 obtain ⟨aO, cO, rfl, hcO1, hcO2⟩ := hO.val
 rw [List.length_map, hm] at hT hT0 hcT1
 rw [List.length_map, hm]
 have hm12 : m ≤ 12 := by rw [← hm]; exact hN.len
 have hop12 : op.length ≤ 12 := hN.rank
 have HM := Lib.hid hm; have HR := Lib.hid hr; have HN := Lib.hid hN; have HD3 := Lib.hid hN.dims3; clear hm hr hN
 have hTl : Hid ((ts.map (tenOf dm)).length = m) := Lib.hid (by rw [List.length_map]; exact HM.out)
 go_enter Try.func125, Try.ntmps125
 go_upto_region 1 with fail
 have hH : Held w w [] := Held.new (Ext.refl w) 0
 have hB : Held w (w.alloc (.cells #[.int .i64 k, .int .i64 p, .int .i64 n, .slice aV m cV, .slice aO op.length cO] 29)) [aB (w.heap.size) 29 [.int .i64 k, .int .i64 p, .int .i64 n, .slice aV m cV, .slice aO op.length cO]] := by
  have h := (hH.mores 1).addB 0 #[.int .i64 k, .int .i64 p, .int .i64 n, .slice aV m cV, .slice aO op.length cO] 29
  exact h
 have hsz : (w.alloc (.cells #[.int .i64 k, .int .i64 p, .int .i64 n, .slice aV m cV, .slice aO op.length cO] 29)).heap.size = w.heap.size + 1 := by simp
 generalize w.alloc (.cells #[.int .i64 k, .int .i64 p, .int .i64 n, .slice aV m cV, .slice aO op.length cO] 29) = wn1 at hB hsz ⊢
 replace hH := hB; have HSZwn1 := Lib.hid hsz; clear hB hsz
 have hB : Held w (wn1.alloc (.cells #[.int .i64 0, .int .i64 0, .int .i64 0, .slice none 0 0, .slice none 0 0] 29)) [aB (w.heap.size) 29 [.int .i64 k, .int .i64 p, .int .i64 n, .slice aV m cV, .slice aO op.length cO], aB (w.heap.size + 1) 29 [.int .i64 0, .int .i64 0, .int .i64 0, .slice none 0 0, .slice none 0 0]] := by
  have h := (hH.mores 1).addB 1 #[.int .i64 0, .int .i64 0, .int .i64 0, .slice none 0 0, .slice none 0 0] 29
  rw [HSZwn1.out] at h
  exact h
 have hsz : (wn1.alloc (.cells #[.int .i64 0, .int .i64 0, .int .i64 0, .slice none 0 0, .slice none 0 0] 29)).heap.size = w.heap.size + 1 + 1 := by rw [← HSZwn1.out]; simp
 generalize wn1.alloc (.cells #[.int .i64 0, .int .i64 0, .int .i64 0, .slice none 0 0, .slice none 0 0] 29) = wn2 at hB hsz ⊢
 replace hH := hB; have HSZwn2 := Lib.hid hsz; clear hB hsz
 replace hH := hH.mores 2
 replace hH : Held w wn2 [aB (w.heap.size) 29 [.int .i64 k, .int .i64 p, .int .i64 n, .slice aV m cV, .slice aO op.length cO], aB (w.heap.size + 1) 29 [.int .i64 0, .int .i64 0, .int .i64 0, .slice none 0 0, .slice none 0 0], emp, emp] := hH
 refine wp_region_steps ?Fc (fun b t wx => Held w wx [aB (w.heap.size) 29 [.int .i64 k, .int .i64 p, .int .i64 n, .slice aV m cV, .slice aO op.length cO], aB (w.heap.size + 1) 29 [.int .i64 0, .int .i64 0, .int .i64 0, .slice none 0 0, .slice none 0 0], (bif b 4 then aI (t 4) op else emp), (bif b 7 then aB (blkOf (t 6)) 29 (partsN (t 5)) else (bif b 6 then aB (blkOf (t 6)) 29 [.int .i64 0, .int .i64 0, .int .i64 0, .slice none 0 0, .slice none 0 0] else emp))] ∧ (b 0 = true → t 0 = .pointer (some ⟨w.heap.size, 0, none⟩)) ∧ (b 1 = true → t 1 = .agg #[.int .i64 k, .int .i64 p, .int .i64 n]) ∧ (b 2 = true → t 2 = .pointer (some ⟨w.heap.size, 4, none⟩)) ∧ (b 3 = true → t 3 = .slice aO op.length cO) ∧ (b 4 = true → ∃ x c, t 4 = .slice x op.length c) ∧ (b 5 = true → t 5 = .agg #[.int .i64 k, .int .i64 p, .int .i64 n, .slice none 0 0, t 4]) ∧ (b 6 = true → ∃ q, t 6 = .pointer (some ⟨q, 0, none⟩))) ?hFc (by kernel_rfl) (by kernel_rfl) ?hJc ?hSc ?hEc
 (case hFc => intro t; simp only [putAll, Act.put, List.setIfInBounds_toArray, List.set_cons_zero, List.set_cons_succ, Nat.reduceAdd, Nat.zero_add]; exact rfl)
 case hJc => exact ⟨hH.grow ((Ext.refl _).drew), nof, nof, nof, nof, nof, nof, nof⟩
 case hSc => as_aux_lemma =>
   refine AllSteps.cons (j := 1) rfl (fun b t wx hJ hb hd hcl Kc hK => ?_) ?_
   · obtain ⟨hH, v0, v1, v2, v3, v4, v5, v6⟩ := hJ
     go_simp
     refine hK.out _ ?_ _ ?_ ?_; rotate_left 2
     · rfl
     exact ⟨hH, fun _ => rfl, v1, v2, v3, v4, v5, v6⟩
   refine AllSteps.cons (j := 2) rfl (fun b t wx hJ hb hd hcl Kc hK => ?_) ?_
   · obtain ⟨hH, v0, v1, v2, v3, v4, v5, v6⟩ := hJ
     have d0 := hd.out 0 (by kernel_rfl); have r0 := v0 d0; have q0_0 := hH.cl 0 0 rfl rfl; have q0_1 := hH.cl 0 1 rfl rfl; have q0_2 := hH.cl 0 2 rfl rfl
     go_simp
     refine hK.out _ ?_ _ ?_ ?_; rotate_left 2
     · (try simp only [r0]); rfl
     exact ⟨hH, v0, fun _ => rfl, v2, v3, v4, v5, v6⟩
   refine AllSteps.cons (j := 3) rfl (fun b t wx hJ hb hd hcl Kc hK => ?_) ?_
   · obtain ⟨hH, v0, v1, v2, v3, v4, v5, v6⟩ := hJ
     go_simp
     refine hK.out _ ?_ _ ?_ ?_; rotate_left 2
     · rfl
     exact ⟨hH, v0, v1, fun _ => rfl, v3, v4, v5, v6⟩
   refine AllSteps.cons (j := 4) rfl (fun b t wx hJ hb hd hcl Kc hK => ?_) ?_
   · obtain ⟨hH, v0, v1, v2, v3, v4, v5, v6⟩ := hJ
     have d2 := hd.out 2 (by kernel_rfl); have r2 := v2 d2; have q0_4 := hH.cl 0 4 rfl rfl
     go_simp
     refine hK.out _ ?_ _ ?_ ?_; rotate_left 2
     · (try simp only [r2]); rfl
     exact ⟨hH, v0, v1, v2, fun _ => rfl, v4, v5, v6⟩
   refine AllSteps.cons (j := 5) rfl (fun b t wx hJ hb hd hcl Kc hK => ?_) ?_
   · obtain ⟨hH, v0, v1, v2, v3, v4, v5, v6⟩ := hJ
     have d3 := hd.out 3 (by kernel_rfl)
     have n5 : b 5 = false := Bool.eq_false_iff.2 fun h => absurd (hcl.out 5 4 (by kernel_rfl) (h)) (by rw [hb]; exact Bool.false_ne_true)
     have r3 := v3 d3
     have hN := hH; (try simp only [hb, d3, n5, cond_true, cond_false] at hN)
     go_simp
     go_at_call 100
     refine (copyInts_any _ op _ (hO.ext hH.ext) (by omega)).mono ?_; rintro e4 w4 ⟨v4, rfl, o4, h4⟩
     obtain ⟨x4, c4, rfl, _, _⟩ := o4.ints.val
     (try go_simp)
     refine hK.out _ ?_ _ ?_ ?_; rotate_left 2
     · (try simp only [r3]); rfl
     exact ⟨by have hX := hN.addI 2 h4 o4 (Nat.le_refl _); simpa only [List.set_cons_zero, List.set_cons_succ, updB, updV, blkOf_mk, tup0_mk, partsOf3, partsN_mk, Nat.reduceBEq, cond_true, cond_false, hb, d3, n5, r3] using hX, v0, v1, v2, v3, fun _ => ⟨_, _, rfl⟩, fun h => absurd (show b 5 = true from h) (by rw [n5]; exact Bool.false_ne_true), v6⟩
   refine AllSteps.cons (j := 6) rfl (fun b t wx hJ hb hd hcl Kc hK => ?_) ?_
   · obtain ⟨hH, v0, v1, v2, v3, v4, v5, v6⟩ := hJ
     have d1 := hd.out 1 (by kernel_rfl); have d4 := hd.out 4 (by kernel_rfl)
     have n7 : b 7 = false := Bool.eq_false_iff.2 fun h => absurd (hcl.out 7 5 (by kernel_rfl) (h)) (by rw [hb]; exact Bool.false_ne_true)
     have r1 := v1 d1; have r4 := v4 d4
     obtain ⟨x_4, c_4, r4⟩ := r4
     have hN := hH; (try simp only [hb, d1, d4, n7, cond_true, cond_false] at hN)
     have e4 := r4 -- d4
     go_simp
     refine hK.out _ ?_ _ ?_ ?_; rotate_left 2
     · (try simp only [r1, r4]); rfl
     exact ⟨by have hX := hN; simpa only [List.set_cons_zero, List.set_cons_succ, updB, updV, blkOf_mk, tup0_mk, partsOf3, partsN_mk, Nat.reduceBEq, cond_true, cond_false, hb, d1, d4, n7, r1, r4] using hX, v0, v1, v2, v3, v4, fun _ => (by show Value.agg _ = Value.agg #[_, _, _, _, t 4]; rw [r4]), v6⟩
   refine AllSteps.cons (j := 7) rfl (fun b t wx hJ hb hd hcl Kc hK => ?_) ?_
   · obtain ⟨hH, v0, v1, v2, v3, v4, v5, v6⟩ := hJ
     have n7 : b 7 = false := Bool.eq_false_iff.2 fun h => absurd (hcl.out 7 6 (by kernel_rfl) (h)) (by rw [hb]; exact Bool.false_ne_true)
     have hN := hH; (try simp only [hb, n7, cond_true, cond_false] at hN)
     go_simp
     refine hK.out _ ?_ _ ?_ ?_; rotate_left 2
     · rfl
     exact ⟨by have hX := hN.addB 3 #[.int .i64 0, .int .i64 0, .int .i64 0, .slice none 0 0, .slice none 0 0] 29; simpa only [List.set_cons_zero, List.set_cons_succ, updB, updV, blkOf_mk, tup0_mk, partsOf3, partsN_mk, Nat.reduceBEq, cond_true, cond_false, hb, n7] using hX, v0, v1, v2, v3, v4, v5, fun _ => ⟨_, rfl⟩⟩
   refine AllSteps.cons (j := 8) rfl (fun b t wx hJ hb hd hcl Kc hK => ?_) ?_
   · obtain ⟨hH, v0, v1, v2, v3, v4, v5, v6⟩ := hJ
     have d0 := hd.out 0 (by kernel_rfl); have d1 := hd.out 1 (by kernel_rfl); have d2 := hd.out 2 (by kernel_rfl); have d3 := hd.out 3 (by kernel_rfl); have d4 := hd.out 4 (by kernel_rfl); have d5 := hd.out 5 (by kernel_rfl); have d6 := hd.out 6 (by kernel_rfl); have r0 := v0 d0; have r1 := v1 d1; have r2 := v2 d2; have r3 := v3 d3; have r4 := v4 d4; have r5 := v5 d5; have r6 := v6 d6
     obtain ⟨x_4, c_4, r4⟩ := r4
     obtain ⟨q_6, r6⟩ := r6
     have hN := hH; (try simp only [hb, d0, d1, d2, d3, d4, d5, d6, cond_true, cond_false] at hN)
     rw [r4] at r5 -- d4 d5
     simp only [r6, r5, blkOf_mk, tup0_mk, partsN_mk] at hN
     have B := hN.blk (k := 3) rfl
     have f0 := B.free 0; have z0 := B.cell (j := 0) rfl
     have f1 := B.free 1; have z1 := B.cell (j := 1) rfl
     have f2 := B.free 2; have z2 := B.cell (j := 2) rfl
     have f3 := B.free 3; have z3 := B.cell (j := 3) rfl
     have f4 := B.free 4; have z4 := B.cell (j := 4) rfl
     have lB := B.lt; have hmk0 := @tup0_mk
     go_simp
     refine hK.out _ undef _ ?_ ?_; rotate_left 1
     · (try simp only [r0, r1, r2, r3, r4, r5, r6]); rfl
     exact ⟨by have hX := hN.setB5 (k := 3) rfl (.int .i64 k) (.int .i64 p) (.int .i64 n) (.slice none 0 0) (.slice x_4 op.length c_4); simpa only [List.set_cons_zero, List.set_cons_succ, updB, updV, blkOf_mk, tup0_mk, partsOf3, partsN_mk, Nat.reduceBEq, cond_true, cond_false, hb, d0, d1, d2, d3, d4, d5, d6, r0, r1, r2, r3, r4, r5, r6] using hX, v0, v1, v2, v3, v4, v5, v6⟩
   exact AllSteps.nil
 case hEc =>
  intro b t wc hJ hall
  obtain ⟨hHc, v0, v1, v2, v3, v4, v5, v6⟩ := hJ
  have a0 := hall 0 (by decide); have a1 := hall 1 (by decide); have a2 := hall 2 (by decide); have a3 := hall 3 (by decide); have a4 := hall 4 (by decide); have a5 := hall 5 (by decide); have a6 := hall 6 (by decide); have a7 := hall 7 (by decide)
  (try simp only [a0, a1, a2, a3, a4, a5, a6, a7, cond_true] at hHc)
  replace v0 := v0 a0; replace v1 := v1 a1; replace v2 := v2 a2; replace v3 := v3 a3; replace v4 := v4 a4; replace v5 := v5 a5; replace v6 := v6 a6
  clear hall a0 a1 a2 a3 a4 a5 a6 a7
  generalize t 6 = x6 at hHc v6 ⊢; generalize t 5 = x5 at hHc v5 ⊢; generalize t 4 = x4 at hHc v4 v5 ⊢; generalize t 3 = x3 at hHc v3 ⊢; generalize t 2 = x2 at hHc v2 ⊢; generalize t 1 = x1 at hHc v1 ⊢; generalize t 0 = x0 at hHc v0 ⊢; subst v0; subst v1; subst v2; subst v3
  obtain ⟨xc4, cc4, rfl⟩ := v4
  subst v5
  obtain ⟨qc6, rfl⟩ := v6
  simp only [blkOf_mk, tup0_mk, partsOf3, partsN_mk] at hHc
  clear b
  replace hH := hHc; clear hHc
  replace hH : Held w wc [aB (w.heap.size) 29 [.int .i64 k, .int .i64 p, .int .i64 n, .slice aV m cV, .slice aO op.length cO], aB (w.heap.size + 1) 29 [.int .i64 0, .int .i64 0, .int .i64 0, .slice none 0 0, .slice none 0 0], aI (.slice xc4 op.length cc4) op, aB qc6 29 [.int .i64 k, .int .i64 p, .int .i64 n, .slice none 0 0, .slice xc4 op.length cc4]] := hH
  replace hH := hH.nilTs
  replace hH : Held w wc [aB (w.heap.size) 29 [.int .i64 k, .int .i64 p, .int .i64 n, .slice aV m cV, .slice aO op.length cO], aB (w.heap.size + 1) 29 [.int .i64 0, .int .i64 0, .int .i64 0, .slice none 0 0, .slice none 0 0], aI (.slice xc4 op.length cc4) op, aB qc6 29 [.int .i64 k, .int .i64 p, .int .i64 n, .slice none 0 0, .slice xc4 op.length cc4], aTs (.slice none 0 0) [] []] := hH
  obtain ⟨q0_0, q0_1, q0_2, q0_3, q0_4, l0_⟩ := hH.c5 0 rfl; obtain ⟨q1_0, q1_1, q1_2, q1_3, q1_4, l1_⟩ := hH.c5 1 rfl; obtain ⟨q3_0, q3_1, q3_2, q3_3, q3_4, l3_⟩ := hH.c5 3 rfl
  go_wp2_with fail
  clear q0_0 q0_1 q0_2 q0_3 q0_4 l0_ q1_0 q1_1 q1_2 q1_3 q1_4 l1_ q3_0 q3_1 q3_2 q3_3 q3_4 l3_
  obtain ⟨wa, rfl⟩ : ∃ q, q = wc := ⟨wc, rfl⟩
  go_loopw [15] (fun i wr => ∃ (j : Nat) (tv : Value) (cs : List (Value × Value × Value)), j ≤ m ∧ i = .int .i64 (j : Int) ∧ Held w wr [aB (w.heap.size) 29 [.int .i64 k, .int .i64 p, .int .i64 n, .slice aV m cV, .slice aO op.length cO], aB (w.heap.size + 1) 29 [.int .i64 0, .int .i64 0, .int .i64 0, .slice none 0 0, .slice none 0 0], aI (.slice xc4 op.length cc4) op, aB qc6 29 [.int .i64 k, .int .i64 p, .int .i64 n, tv, .slice xc4 op.length cc4], aTs (tv) cs ((ts.take j).map (tenOf dm))]) (fun i wr => m - (RowKit.intOf i).toNat)
  case atStart => exact ⟨0, _, _, Nat.zero_le _, rfl, hH⟩
  case round =>
   clear hH
   obtain ⟨j, tv, cs, hj, rfl, hH⟩ := hrel
   obtain ⟨QS, hQS⟩ : ∃ q, (ts.take j).map (tenOf dm) = q := ⟨_, rfl⟩
   rw [hQS] at hH
   have hql : QS.length = j := by rw [← hQS, List.length_map, List.length_take, HM.out]; omega
   have HQL := Lib.hid hql; have HQS := Lib.hid hQS; clear hql hQS
   obtain ⟨aS, cS, rfl, _, _⟩ := (hH.tensS (k := 4) rfl).val
   rw [HQL.out] at hH
   obtain ⟨wq, rfl⟩ : ∃ q, q = wr := ⟨wr, rfl⟩
   by_cases hlt : j < m
   ·
    obtain ⟨bT, oT, u1, u2, u3, t3, hV, hu0, hu1, hu2, ht3, hTu⟩ := hT.get (i := j) (by rw [hTl.out]; exact hlt)
    subst hV
    obtain ⟨t, htj, rfl⟩ : ∃ t, ts[j]? = some t ∧ tenOf dm t = t3 := by rw [List.getElem?_map] at ht3; exact Option.map_eq_some_iff.1 ht3
    have HTJ := Lib.hid htj; have HTI := Lib.hid (HN.out.ten t (List.mem_of_getElem? htj)); clear ht3 htj
    obtain ⟨tl, xs⟩ := t
    obtain ⟨e1, m1, f1, e2, m2, f2, e3, m3, f3, hvv⟩ := hTu.shape
    simp at hvv
    obtain ⟨rfl, rfl, rfl⟩ := hvv
    rw [Nat.mul_comm 3 j] at hu0 hu1 hu2
    obtain ⟨_, _, _, hvv, hTL, hTD, hTX⟩ := hTu.val
    simp at hvv
    obtain ⟨rfl, rfl, rfl⟩ := hvv
    simp only [tenOf] at hTu hTL hTD hTX HTI
    obtain ⟨_, _, hvv, _, _⟩ := hTL.val
    simp at hvv
    obtain ⟨rfl, rfl, rfl⟩ := hvv
    obtain ⟨_, _, hvv, _, _⟩ := hTD.val
    simp at hvv
    obtain ⟨rfl, rfl, rfl⟩ := hvv
    have HMS := Lib.hid (show (ts.take (j + 1)).map (tenOf dm) = QS ++ [(tl, tl.map dm, flat xs)] by rw [List.take_add_one, HTJ.out, List.map_append, HQS.out]; rfl)
    have hxl := HTI.out.flatLen HR.out; have hrk : tl.length ≤ 12 := HTI.out.ax.rank; have HXL := Lib.hid hxl; clear hxl
    obtain ⟨q0_0, q0_1, q0_2, q0_3, q0_4, l0_⟩ := hH.c5 0 rfl; obtain ⟨q1_0, q1_1, q1_2, q1_3, q1_4, l1_⟩ := hH.c5 1 rfl; obtain ⟨q3_0, q3_1, q3_2, q3_3, q3_4, l3_⟩ := hH.c5 3 rfl; have c_hu0 := hH.ext.cell hu0; have c_hu1 := hH.ext.cell hu1; have c_hu2 := hH.ext.cell hu2
    go_upto_region 5 with fail
    clear q0_0 q0_1 q0_2 q0_3 q0_4 l0_ q1_0 q1_1 q1_2 q1_3 q1_4 l1_ q3_0 q3_1 q3_2 q3_3 q3_4 l3_ c_hu0 c_hu1 c_hu2
    have hB : Held w (wq.alloc (.cells #[.slice e1 tl.length f1, .slice e2 tl.length f2, .slice e3 m3 f3] 32)) [aB (w.heap.size) 29 [.int .i64 k, .int .i64 p, .int .i64 n, .slice (some ⟨bT, oT, none⟩) m cV, .slice aO op.length cO], aB (w.heap.size + 1) 29 [.int .i64 0, .int .i64 0, .int .i64 0, .slice none 0 0, .slice none 0 0], aI (.slice xc4 op.length cc4) op, aB qc6 29 [.int .i64 k, .int .i64 p, .int .i64 n, .slice aS j cS, .slice xc4 op.length cc4], aTs (.slice aS j cS) cs QS, aB (wq.heap.size) 32 [.slice e1 tl.length f1, .slice e2 tl.length f2, .slice e3 m3 f3]] := by
     have h := (hH.mores 1).addB 5 #[.slice e1 tl.length f1, .slice e2 tl.length f2, .slice e3 m3 f3] 32
     exact h
    have hsz : (wq.alloc (.cells #[.slice e1 tl.length f1, .slice e2 tl.length f2, .slice e3 m3 f3] 32)).heap.size = wq.heap.size + 1 := by simp
    generalize wq.alloc (.cells #[.slice e1 tl.length f1, .slice e2 tl.length f2, .slice e3 m3 f3] 32) = wn3 at hB hsz ⊢
    replace hH := hB; have HSZwn3 := Lib.hid hsz; clear hB hsz
    replace hH := hH.mores 2
    replace hH : Held w wn3 [aB (w.heap.size) 29 [.int .i64 k, .int .i64 p, .int .i64 n, .slice (some ⟨bT, oT, none⟩) m cV, .slice aO op.length cO], aB (w.heap.size + 1) 29 [.int .i64 0, .int .i64 0, .int .i64 0, .slice none 0 0, .slice none 0 0], aI (.slice xc4 op.length cc4) op, aB qc6 29 [.int .i64 k, .int .i64 p, .int .i64 n, .slice aS j cS, .slice xc4 op.length cc4], aTs (.slice aS j cS) cs QS, aB (wq.heap.size) 32 [.slice e1 tl.length f1, .slice e2 tl.length f2, .slice e3 m3 f3], emp, emp] := hH
    refine wp_region_steps ?Fa (fun b t wx => Held w wx [aB (w.heap.size) 29 [.int .i64 k, .int .i64 p, .int .i64 n, .slice (some ⟨bT, oT, none⟩) m cV, .slice aO op.length cO], aB (w.heap.size + 1) 29 [.int .i64 0, .int .i64 0, .int .i64 0, .slice none 0 0, .slice none 0 0], aI (.slice xc4 op.length cc4) op, (bif b 7 then aB qc6 29 [.int .i64 k, .int .i64 p, .int .i64 n, t 5, .slice xc4 op.length cc4] else aB qc6 29 [.int .i64 k, .int .i64 p, .int .i64 n, .slice aS j cS, .slice xc4 op.length cc4]), (bif b 5 then aTs (t 5) (cs ++ [cel3 (t 3)]) (QS ++ [(tl, (tl.map dm), (flat xs))]) else aTs (.slice aS j cS) cs QS), aB (wq.heap.size) 32 [.slice e1 tl.length f1, .slice e2 tl.length f2, .slice e3 m3 f3], (bif b 5 then emp else (bif b 3 then aT (t 3) tl (tl.map dm) (flat xs) else emp)), (bif b 4 then aB (blkS (t 4)) 32 (partsOf (t 3)) else emp)] ∧ (b 0 = true → t 0 = .pointer (some ⟨qc6, 3, none⟩)) ∧ (b 1 = true → t 1 = .slice aS j cS) ∧ (b 2 = true → t 2 = .agg #[.slice e1 tl.length f1, .slice e2 tl.length f2, .slice e3 m3 f3]) ∧ (b 3 = true → ∃ p1 n1 c1 p2 n2 c2 p3 n3 c3, t 3 = .agg #[.slice p1 n1 c1, .slice p2 n2 c2, .slice p3 n3 c3]) ∧ (b 4 = true → ∃ z, t 4 = .slice (some ⟨z, 0, none⟩) 1 1) ∧ (b 5 = true → ∃ a c, t 5 = .slice a (j + 1) c) ∧ (b 6 = true → t 6 = .pointer (some ⟨qc6, 3, none⟩))) ?hFa (by kernel_rfl) (by kernel_rfl) ?hJa ?hSa ?hEa
    (case hFa => intro t; simp only [putAll, Act.put, List.setIfInBounds_toArray, List.set_cons_zero, List.set_cons_succ, Nat.reduceAdd, Nat.zero_add]; exact rfl)
    case hJa => exact ⟨hH.grow ((Ext.refl _).drew), nof, nof, nof, nof, nof, nof, nof⟩
    case hSa => as_aux_lemma =>
      refine AllSteps.cons (j := 1) rfl (fun b t wx hJ hb hd hcl Kc hK => ?_) ?_
      · obtain ⟨hH, v0, v1, v2, v3, v4, v5, v6⟩ := hJ
        go_simp
        refine hK.out _ ?_ _ ?_ ?_; rotate_left 2
        · rfl
        exact ⟨hH, fun _ => rfl, v1, v2, v3, v4, v5, v6⟩
      refine AllSteps.cons (j := 2) rfl (fun b t wx hJ hb hd hcl Kc hK => ?_) ?_
      · obtain ⟨hH, v0, v1, v2, v3, v4, v5, v6⟩ := hJ
        have d0 := hd.out 0 (by kernel_rfl)
        have n7 : b 7 = false := Bool.eq_false_iff.2 fun h => absurd (hcl.out 7 1 (by kernel_rfl) (h)) (by rw [hb]; exact Bool.false_ne_true)
        have r0 := v0 d0
        have hN := hH; (try simp only [hb, d0, n7, cond_true, cond_false] at hN)
        have q3_3 := hN.cl 3 3 rfl rfl
        go_simp
        refine hK.out _ ?_ _ ?_ ?_; rotate_left 2
        · (try simp only [r0]); rfl
        exact ⟨hH, v0, fun _ => rfl, v2, v3, v4, v5, v6⟩
      refine AllSteps.cons (j := 3) rfl (fun b t wx hJ hb hd hcl Kc hK => ?_) ?_
      · obtain ⟨hH, v0, v1, v2, v3, v4, v5, v6⟩ := hJ
        have q5_0 := hH.cl 5 0 rfl rfl; have q5_1 := hH.cl 5 1 rfl rfl; have q5_2 := hH.cl 5 2 rfl rfl
        go_simp
        refine hK.out _ ?_ _ ?_ ?_; rotate_left 2
        · rfl
        exact ⟨hH, v0, v1, fun _ => rfl, v3, v4, v5, v6⟩
      refine AllSteps.cons (j := 4) rfl (fun b t wx hJ hb hd hcl Kc hK => ?_) ?_
      · obtain ⟨hH, v0, v1, v2, v3, v4, v5, v6⟩ := hJ
        have d2 := hd.out 2 (by kernel_rfl)
        have n4 : b 4 = false := Bool.eq_false_iff.2 fun h => absurd (hcl.out 4 3 (by kernel_rfl) (h)) (by rw [hb]; exact Bool.false_ne_true)
        have n5 : b 5 = false := Bool.eq_false_iff.2 fun h => absurd (hcl.out 5 3 (by kernel_rfl) (h)) (by rw [hb]; exact Bool.false_ne_true)
        have r2 := v2 d2
        have hN := hH; (try simp only [hb, d2, n4, n5, cond_true, cond_false] at hN)
        go_simp
        go_at_call 91
        refine (copyTensor_any _ tl (tl.map dm) (flat xs) _ (hTu.ext hH.ext) (by omega) (by rw [List.length_map]; omega) HXL.out).mono ?_; rintro e3 w3 ⟨vd, rfl, od, h7⟩
        obtain ⟨pa1, na1, ca1, pa2, na2, ca2, pa3, na3, ca3, rfl⟩ := od.shape
        (try go_simp)
        refine hK.out _ ?_ _ ?_ ?_; rotate_left 2
        · (try simp only [r2]); rfl
        exact ⟨by have hX := hN.addT 6 h7 od (Nat.le_refl _); simpa only [List.set_cons_zero, List.set_cons_succ, updB, updV, blkOf_mk, tup0_mk, partsOf3, blkS_mk, cel3_mk, Nat.reduceBEq, cond_true, cond_false, hb, d2, n4, n5, r2] using hX, v0, v1, v2, fun _ => ⟨_, _, _, _, _, _, _, _, _, rfl⟩, v4, v5, v6⟩
      refine AllSteps.cons (j := 5) rfl (fun b t wx hJ hb hd hcl Kc hK => ?_) ?_
      · obtain ⟨hH, v0, v1, v2, v3, v4, v5, v6⟩ := hJ
        have d3 := hd.out 3 (by kernel_rfl); have r3 := v3 d3
        obtain ⟨p1_3, n1_3, c1_3, p2_3, n2_3, c2_3, p3_3, n3_3, c3_3, r3⟩ := r3
        have hN := hH; (try simp only [hb, d3, cond_true, cond_false] at hN)
        have e3 := r3 -- d3
        go_simp
        refine hK.out _ ?_ _ ?_ ?_; rotate_left 2
        · (try simp only [r3]); rfl
        exact ⟨by have hX := hN.addB 7 #[.slice p1_3 n1_3 c1_3, .slice p2_3 n2_3 c2_3, .slice p3_3 n3_3 c3_3] 32; simpa only [List.set_cons_zero, List.set_cons_succ, updB, updV, blkOf_mk, tup0_mk, partsOf3, blkS_mk, cel3_mk, Nat.reduceBEq, cond_true, cond_false, hb, d3, r3] using hX, v0, v1, v2, v3, fun _ => ⟨_, rfl⟩, v5, v6⟩
      refine AllSteps.cons (j := 6) rfl (fun b t wx hJ hb hd hcl Kc hK => ?_) ?_
      · obtain ⟨hH, v0, v1, v2, v3, v4, v5, v6⟩ := hJ
        have d1 := hd.out 1 (by kernel_rfl); have d3 := hd.out 3 (by kernel_rfl); have d4 := hd.out 4 (by kernel_rfl)
        have n7 : b 7 = false := Bool.eq_false_iff.2 fun h => absurd (hcl.out 7 5 (by kernel_rfl) (h)) (by rw [hb]; exact Bool.false_ne_true)
        have r1 := v1 d1; have r3 := v3 d3; have r4 := v4 d4
        obtain ⟨p1_3, n1_3, c1_3, p2_3, n2_3, c2_3, p3_3, n3_3, c3_3, r3⟩ := r3
        obtain ⟨z_4, r4⟩ := r4
        have hN := hH; (try simp only [hb, d1, d3, d4, n7, cond_true, cond_false] at hN)
        rw [r3] at hN -- d3 d4
        refine step_app wx rfl _ _ 26 rfl (.slice aS j cS) (t 4) (by first | rfl | (go_simp; done)) (by first | rfl | (go_simp; done)) _ (run_pushT2 _ hN (k1 := 4) (k2 := 6) rfl rfl (by decide) (by rw [r4]; have h := hN.blk (k := 7) rfl; rw [r4] at h; exact row_blk3 h) ((by rw [HQL.out]; omega))) ?_; rintro va wa ⟨hHa, ga⟩
        obtain ⟨aa, ca, hva, _, _⟩ := (hHa.tensS (k := 4) rfl).val; subst hva
        refine hK.out _ ?_ _ ?_ ?_; rotate_left 2
        · (try simp only [r1, r3, r4]); rfl
        exact ⟨by have hX := hHa; simpa only [List.set_cons_zero, List.set_cons_succ, updB, updV, blkOf_mk, tup0_mk, partsOf3, blkS_mk, cel3_mk, Nat.reduceBEq, cond_true, cond_false, hb, d1, d3, d4, n7, r1, r3, r4] using hX, v0, v1, v2, v3, v4, fun _ => ⟨_, _, by rw [List.length_append, HQL.out]; rfl⟩, v6⟩
      refine AllSteps.cons (j := 7) rfl (fun b t wx hJ hb hd hcl Kc hK => ?_) ?_
      · obtain ⟨hH, v0, v1, v2, v3, v4, v5, v6⟩ := hJ
        have d0 := hd.out 0 (by kernel_rfl); have d1 := hd.out 1 (by kernel_rfl); have d2 := hd.out 2 (by kernel_rfl); have d3 := hd.out 3 (by kernel_rfl); have d4 := hd.out 4 (by kernel_rfl); have d5 := hd.out 5 (by kernel_rfl); have r0 := v0 d0; have r1 := v1 d1; have r2 := v2 d2; have r3 := v3 d3; have r4 := v4 d4; have r5 := v5 d5
        obtain ⟨p1_3, n1_3, c1_3, p2_3, n2_3, c2_3, p3_3, n3_3, c3_3, r3⟩ := r3
        obtain ⟨z_4, r4⟩ := r4
        obtain ⟨a_5, c_5, r5⟩ := r5
        go_simp
        refine hK.out _ ?_ _ ?_ ?_; rotate_left 2
        · (try simp only [r0, r1, r2, r3, r4, r5]); rfl
        exact ⟨hH, v0, v1, v2, v3, v4, v5, fun _ => rfl⟩
      refine AllSteps.cons (j := 8) rfl (fun b t wx hJ hb hd hcl Kc hK => ?_) ?_
      · obtain ⟨hH, v0, v1, v2, v3, v4, v5, v6⟩ := hJ
        have d0 := hd.out 0 (by kernel_rfl); have d1 := hd.out 1 (by kernel_rfl); have d2 := hd.out 2 (by kernel_rfl); have d3 := hd.out 3 (by kernel_rfl); have d4 := hd.out 4 (by kernel_rfl); have d5 := hd.out 5 (by kernel_rfl); have d6 := hd.out 6 (by kernel_rfl); have r0 := v0 d0; have r1 := v1 d1; have r2 := v2 d2; have r3 := v3 d3; have r4 := v4 d4; have r5 := v5 d5; have r6 := v6 d6
        obtain ⟨p1_3, n1_3, c1_3, p2_3, n2_3, c2_3, p3_3, n3_3, c3_3, r3⟩ := r3
        obtain ⟨z_4, r4⟩ := r4
        obtain ⟨a_5, c_5, r5⟩ := r5
        have hN := hH; (try simp only [hb, d0, d1, d2, d3, d4, d5, d6, cond_true, cond_false] at hN)
        have B := hN.blk (k := 3) rfl; have fB := B.free 3; have zB := B.cell (j := 3) rfl; have lB := B.lt
        go_simp
        refine hK.out _ undef _ ?_ ?_; rotate_left 1
        · (try simp only [r0, r1, r2, r3, r4, r5, r6]); rfl
        exact ⟨by have hX := hN.setB (k := 3) rfl 3 (t 5); simpa only [List.set_cons_zero, List.set_cons_succ, updB, updV, blkOf_mk, tup0_mk, partsOf3, blkS_mk, cel3_mk, Nat.reduceBEq, cond_true, cond_false, hb, d0, d1, d2, d3, d4, d5, d6, r0, r1, r2, r3, r4, r5, r6] using hX, v0, v1, v2, v3, v4, v5, v6⟩
      exact AllSteps.nil
    case hEa =>
     intro b t wa hJ hall
     obtain ⟨hHa, v0, v1, v2, v3, v4, v5, v6⟩ := hJ
     have a0 := hall 0 (by decide); have a1 := hall 1 (by decide); have a2 := hall 2 (by decide); have a3 := hall 3 (by decide); have a4 := hall 4 (by decide); have a5 := hall 5 (by decide); have a6 := hall 6 (by decide); have a7 := hall 7 (by decide)
     (try simp only [a0, a1, a2, a3, a4, a5, a6, a7, cond_true] at hHa)
     replace v0 := v0 a0; replace v1 := v1 a1; replace v2 := v2 a2; replace v3 := v3 a3; replace v4 := v4 a4; replace v5 := v5 a5; replace v6 := v6 a6
     clear hall a0 a1 a2 a3 a4 a5 a6 a7
     generalize t 6 = x6 at hHa v6 ⊢; generalize t 5 = x5 at hHa v5 ⊢; generalize t 4 = x4 at hHa v4 ⊢; generalize t 3 = x3 at hHa v3 ⊢; generalize t 2 = x2 at hHa v2 ⊢; generalize t 1 = x1 at hHa v1 ⊢; generalize t 0 = x0 at hHa v0 ⊢; subst v0; subst v1; subst v2
     obtain ⟨p1a3, n1a3, c1a3, p2a3, n2a3, c2a3, p3a3, n3a3, c3a3, rfl⟩ := v3
     obtain ⟨za4, rfl⟩ := v4
     obtain ⟨aa5, ca5, rfl⟩ := v5
     subst v6
     simp only [blkOf_mk, tup0_mk, partsOf3, blkS_mk, cel3_mk] at hHa
     clear b
     replace hH := hHa; clear hHa
     replace hH : Held w wa [aB (w.heap.size) 29 [.int .i64 k, .int .i64 p, .int .i64 n, .slice (some ⟨bT, oT, none⟩) m cV, .slice aO op.length cO], aB (w.heap.size + 1) 29 [.int .i64 0, .int .i64 0, .int .i64 0, .slice none 0 0, .slice none 0 0], aI (.slice xc4 op.length cc4) op, aB qc6 29 [.int .i64 k, .int .i64 p, .int .i64 n, .slice aa5 (j + 1) ca5, .slice xc4 op.length cc4], aTs (.slice aa5 (j + 1) ca5) (cs ++ [(.slice p1a3 n1a3 c1a3, .slice p2a3 n2a3 c2a3, .slice p3a3 n3a3 c3a3)]) (QS ++ [(tl, (tl.map dm), (flat xs))]), aB (wq.heap.size) 32 [.slice e1 tl.length f1, .slice e2 tl.length f2, .slice e3 m3 f3], emp, aB za4 32 [.slice p1a3 n1a3 c1a3, .slice p2a3 n2a3 c2a3, .slice p3a3 n3a3 c3a3]] := hH
     go_wp2_with fail
     go_roundw
     case rel => exact ⟨j + 1, _, _, by omega, by go_num, by rw [HMS.out]; exact hH.sub (.cons_cons _ (.cons_cons _ (.cons_cons _ (.cons_cons _ (.cons_cons _ (.cons _ (.cons _ (.cons _ .slnil))))))))⟩
     case measure => simp [RowKit.intOf]; omega
   ·
    have hje : j = m := by omega
    subst hje
    have HQF : Hid (ts.map (tenOf dm) = QS) := Lib.hid (by rw [← HQS.out, List.take_of_length_le (by rw [HM.out]; exact Nat.le_refl _)])
    obtain ⟨q0_0, q0_1, q0_2, q0_3, q0_4, l0_⟩ := hH.c5 0 rfl; obtain ⟨q1_0, q1_1, q1_2, q1_3, q1_4, l1_⟩ := hH.c5 1 rfl; have f1_0 := hH.fr 1 0 rfl; have f1_1 := hH.fr 1 1 rfl; have f1_2 := hH.fr 1 2 rfl; have f1_3 := hH.fr 1 3 rfl; have f1_4 := hH.fr 1 4 rfl; obtain ⟨q3_0, q3_1, q3_2, q3_3, q3_4, l3_⟩ := hH.c5 3 rfl
    go_wp2_with fail
    refine bodyPost_ret (v := .agg #[.int .i64 k, .int .i64 p, .int .i64 n, .slice aS j cS, .slice xc4 op.length cc4]) (by simp [results, Try.results125, go_sem, *]) rfl ?_
    rw [HQF.out]
    exact ⟨_, _, cs, rfl, ((hH.setB5 (k := 1) rfl (.int .i64 k) (.int .i64 p) (.int .i64 n) (.slice aS j cS) (.slice xc4 op.length cc4)).sub (.cons _ (.cons _ (.cons_cons _ (.cons _ (.cons_cons _ .slnil)))))).swap2⟩
end Go.Proofs.Ytpegckmagiaggaa
