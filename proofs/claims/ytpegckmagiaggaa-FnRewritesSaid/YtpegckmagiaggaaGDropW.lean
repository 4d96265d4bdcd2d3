/- DropUnits of the program. -/
import Derived.Test.YtpegckmagiaggaaGRewW
set_option linter.unusedSimpArgs false
set_option linter.unusedVariables false
namespace Go.Proofs.Ytpegckmagiaggaa
open Go.RowKit
theorem HeldX.join3 {ex : Option Nat} {a w : World} {L : List Asn} {k1 k2 k3 : Nat} {x y z : Value} {l D X : List Int} (h : HeldX ex a w L) (h1 : L[k1]? = some (aI x l)) (h2 : L[k2]? = some (aI y D)) (h3 : L[k3]? = some (aI z X)) (h12 : k1 ≠ k2) (h13 : k1 ≠ k3) (h23 : k2 ≠ k3) :
    HeldX ex a w (((L.set k2 emp).set k3 emp).set k1 (aT (.agg #[x, y, z]) l D X)) := by
  have hO := h.close3 h1 h2 h3 h12 h13 h23
  have m1 := h.merge (w' := w) (ob := none) (A := aAnd (aI x l) (aI y D)) h1 h2 h12 ((Ext.refl w).gr none) (fun b hb => by cases hb) ⟨h.get h1, h.get h2⟩ (fun b hb => (List.mem_append.1 hb).imp id .inl)
  have l1 := (List.getElem?_eq_some_iff.1 h1).1
  have g1 : ((L.set k2 emp).set k1 (aAnd (aI x l) (aI y D)))[k1]? = some (aAnd (aI x l) (aI y D)) := List.getElem?_set_self (by rw [List.length_set]; exact l1)
  have g3 : ((L.set k2 emp).set k1 (aAnd (aI x l) (aI y D)))[k3]? = some (aI z X) := by rw [List.getElem?_set_ne h13, List.getElem?_set_ne h23]; exact h3
  have m2 := m1.merge (w' := w) (ob := none) (A := aT (.agg #[x, y, z]) l D X) g1 g3 h13 ((Ext.refl w).gr none) (fun b hb => by cases hb) hO.zero (fun b hb => by
    have hb' : b ∈ fpV (.agg #[x, y, z]) := hb
    rw [fpV_agg] at hb'
    obtain ⟨u, hu, hbu⟩ := List.mem_flatMap.1 hb'
    simp only [List.mem_cons, List.not_mem_nil, or_false] at hu
    rcases hu with rfl | rfl | rfl
    · exact .inl (List.mem_append_left _ hbu)
    · exact .inl (List.mem_append_right _ hbu)
    · exact .inr (.inl hbu))
  have e : ((L.set k2 emp).set k1 (aAnd (aI x l) (aI y D))).set k3 emp = ((L.set k2 emp).set k3 emp).set k1 (aAnd (aI x l) (aI y D)) := List.set_comm _ _ h13
  rw [e, set_set_same] at m2
  exact m2
theorem keepU_take {dm : Int → Int} {op L : List Int} {i : Nat} {x : Int} (h : L[i]? = some x) : (L.take (i + 1)).filter (keepU dm op) = (L.take i).filter (keepU dm op) ++ if keepU dm op x = true then [x] else [] := by
  rw [List.take_add_one, h, List.filter_append]
  simp only [Option.toList_some, List.filter_cons, List.filter_nil]
set_option maxRecDepth 100000 in
set_option maxHeartbeats 8000000 in
theorem dropUnits_any {k p n : Int} (hr : ringOk k p n = true) {dm : Int → Int} {U : List Int} {ts : List (NT k p n)} {op : List Int} (hN : IsN k p n dm U ts op) (tv ov : Value) (w : World) (hT : TensS w tv (ts.map (tenOf dm))) (hO : IntS w ov op) :
 Calls Try.prog 59 #[.agg #[.int .i64 k, .int .i64 p, .int .i64 n, tv, ov]] w fun e w' => ∃ tv' ov' cs, e = .returned (.agg #[.int .i64 k, .int .i64 p, .int .i64 n, tv', ov']) ∧
  Held w w' [aTs tv' cs ((dropU dm op ts).map (tenOf dm)), aI ov' op] := by
 have hT0 := hT
 have hO0 := hO
 obtain ⟨m, hm⟩ : ∃ m, ts.length = m := ⟨_, rfl⟩
 obtain ⟨aV, cV, rfl, hcT1, hcT2⟩ := hT.val
 obtain ⟨aO, cO, rfl, hcO1, hcO2⟩ := hO.val
 rw [List.length_map, hm] at hT hT0 hcT1
 rw [List.length_map, hm]
 have hm12 : m ≤ 12 := by rw [← hm]; exact hN.len
 have hop12 : op.length ≤ 12 := hN.rank
 have HM := Lib.hid hm; have HR := Lib.hid hr; have HN := Lib.hid hN; have HD3 := Lib.hid hN.dims3; clear hm  hN
 have hTl : Hid ((ts.map (tenOf dm)).length = m) := Lib.hid (by rw [List.length_map]; exact HM.out)
 have hSF : ∃ SG : Nat → List (NT k p n), (fun q => dropU dm op (ts.take q)) = SG := ⟨_, rfl⟩
 obtain ⟨SG, hSG⟩ := hSF
 have HG0 : Hid (SG 0 = []) := Lib.hid (by rw [← hSG]; rfl)
 have HGS : Hid (∀ q t, ts[q]? = some t → SG (q + 1) = SG q ++ [dropT dm op t]) := Lib.hid fun q t h => by rw [← hSG]; show dropU dm op (ts.take (q + 1)) = _; rw [List.take_add_one, h]; unfold dropU; rw [List.map_append]; rfl
 have HGL : Hid (∀ q, q ≤ m → (SG q).length = q) := Lib.hid fun q h => by rw [← hSG]; show (dropU dm op (ts.take q)).length = q; unfold dropU; rw [List.length_map, List.length_take, HM.out]; omega
 have HGE : Hid (dropU dm op ts = SG m) := Lib.hid (by rw [← hSG, ← HM.out]; show _ = dropU dm op (ts.take ts.length); rw [List.take_length])
 rw [HGE.out]
 clear hSG
 go_enter Try.func59, Try.ntmps59
 go_upto_region 1 with fail
 have hH : Held w w [] := Held.new (Ext.refl w) 0
 have hB : Held w (w.alloc (.cells #[.int .i64 k, .int .i64 p, .int .i64 n, .slice aV m cV, .slice aO op.length cO] 29)) [aB (w.heap.size) 29 [.int .i64 k, .int .i64 p, .int .i64 n, .slice aV m cV, .slice aO op.length cO]] := by
  have h := (hH.mores 1).addB 0 #[.int .i64 k, .int .i64 p, .int .i64 n, .slice aV m cV, .slice aO op.length cO] 29
  exact h
 have hsz : (w.alloc (.cells #[.int .i64 k, .int .i64 p, .int .i64 n, .slice aV m cV, .slice aO op.length cO] 29)).heap.size = w.heap.size + 1 := by simp
 generalize w.alloc (.cells #[.int .i64 k, .int .i64 p, .int .i64 n, .slice aV m cV, .slice aO op.length cO] 29) = wn1 at hB hsz ⊢
 replace hH := hB; have HSZwn1 := Lib.hid hsz; clear hB hsz
 have hB : Held w (wn1.alloc (.cells #[.int .i64 0, .int .i64 0, .int .i64 0, .slice none 0 0, .slice none 0 0] 29)) [aB (w.heap.size) 29 [.int .i64 k, .int .i64 p, .int .i64 n, .slice aV m cV, .slice aO op.length cO], aB (w.heap.size + 1) 29 [.int .i64 0, .int .i64 0, .int .i64 0, .slice none 0 0, .slice none 0 0]] := by
  have h := (hH.mores 1).addB 1 #[.int .i64 0, .int .i64 0, .int .i64 0, .slice none 0 0, .slice none 0 0] 29
  rw [HSZwn1.out] at h
  exact h
 have hsz : (wn1.alloc (.cells #[.int .i64 0, .int .i64 0, .int .i64 0, .slice none 0 0, .slice none 0 0] 29)).heap.size = w.heap.size + 1 + 1 := by rw [← HSZwn1.out]; simp
 generalize wn1.alloc (.cells #[.int .i64 0, .int .i64 0, .int .i64 0, .slice none 0 0, .slice none 0 0] 29) = wn2 at hB hsz ⊢
 replace hH := hB; have HSZwn2 := Lib.hid hsz; clear hB hsz
 obtain ⟨q0_0, q0_1, q0_2, q0_3, q0_4, l0_⟩ := hH.c5 0 rfl; obtain ⟨q1_0, q1_1, q1_2, q1_3, q1_4, l1_⟩ := hH.c5 1 rfl
 go_wp2_with fail
 clear q0_0 q0_1 q0_2 q0_3 q0_4 l0_ q1_0 q1_1 q1_2 q1_3 q1_4 l1_
 refine (networkOk_any HR.out HN.out _ _ _ (hT0.ext hH.ext) (hO0.ext hH.ext)).mono ?_; rintro ewn3 wn3 ⟨rfl, hwn3⟩
 replace hH : Held w wn3 [aB (w.heap.size) 29 [.int .i64 k, .int .i64 p, .int .i64 n, .slice aV m cV, .slice aO op.length cO], aB (w.heap.size + 1) 29 [.int .i64 0, .int .i64 0, .int .i64 0, .slice none 0 0, .slice none 0 0]] := hH.grow hwn3
 clear hwn3
 obtain ⟨q0_0, q0_1, q0_2, q0_3, q0_4, l0_⟩ := hH.c5 0 rfl; obtain ⟨q1_0, q1_1, q1_2, q1_3, q1_4, l1_⟩ := hH.c5 1 rfl
 go_upto_region 3 with fail
 clear q0_0 q0_1 q0_2 q0_3 q0_4 l0_ q1_0 q1_1 q1_2 q1_3 q1_4 l1_
 replace hH := hH.mores 2
 replace hH : Held w wn3 [aB (w.heap.size) 29 [.int .i64 k, .int .i64 p, .int .i64 n, .slice aV m cV, .slice aO op.length cO], aB (w.heap.size + 1) 29 [.int .i64 0, .int .i64 0, .int .i64 0, .slice none 0 0, .slice none 0 0], emp, emp] := hH
 refine wp_region_steps ?Fa (fun b t wx => Held w wx [aB (w.heap.size) 29 [.int .i64 k, .int .i64 p, .int .i64 n, .slice aV m cV, .slice aO op.length cO], aB (w.heap.size + 1) 29 [.int .i64 0, .int .i64 0, .int .i64 0, .slice none 0 0, .slice none 0 0], (bif b 4 then aI (t 4) op else emp), (bif b 7 then aB (blkOf (t 6)) 29 (partsN (t 5)) else (bif b 6 then aB (blkOf (t 6)) 29 [.int .i64 0, .int .i64 0, .int .i64 0, .slice none 0 0, .slice none 0 0] else emp))] ∧ (b 0 = true → t 0 = .pointer (some ⟨w.heap.size, 0, none⟩)) ∧ (b 1 = true → t 1 = .agg #[.int .i64 k, .int .i64 p, .int .i64 n]) ∧ (b 2 = true → t 2 = .pointer (some ⟨w.heap.size, 4, none⟩)) ∧ (b 3 = true → t 3 = .slice aO op.length cO) ∧ (b 4 = true → ∃ x c, t 4 = .slice x op.length c) ∧ (b 5 = true → t 5 = .agg #[.int .i64 k, .int .i64 p, .int .i64 n, .slice none 0 0, t 4]) ∧ (b 6 = true → ∃ q, t 6 = .pointer (some ⟨q, 0, none⟩))) ?hFa (by kernel_rfl) (by kernel_rfl) ?hJa ?hSa ?hEa
 (case hFa => intro t; simp only [putAll, Act.put, List.setIfInBounds_toArray, List.set_cons_zero, List.set_cons_succ, Nat.reduceAdd, Nat.zero_add]; exact rfl)
 case hJa => exact ⟨hH.grow ((Ext.refl _).drew), nof, nof, nof, nof, nof, nof, nof⟩
 case hSa => as_aux_lemma =>
   refine AllSteps.cons (j := 1) rfl (fun b t wx hJ hb hd hcl Kc hK => ?_) ?_
   · obtain ⟨hH, v0, v1, v2, v3, v4, v5, v6⟩ := hJ
     go_simp
     refine hK.out _ ?_ _ ?_ ?_; rotate_left 2
     · rfl
     exact ⟨hH, fun _ => rfl, v1, v2, v3, v4, v5, v6⟩
   refine AllSteps.cons (j := 2) rfl (fun b t wx hJ hb hd hcl Kc hK => ?_) ?_
   · obtain ⟨hH, v0, v1, v2, v3, v4, v5, v6⟩ := hJ
     have d0 := hd.out 0 (by kernel_rfl); have r0 := v0 d0; have q0_0 := hH.cl 0 0 rfl rfl; have q0_1 := hH.cl 0 1 rfl rfl; have q0_2 := hH.cl 0 2 rfl rfl
     go_simp
     refine hK.out _ ?_ _ ?_ ?_; rotate_left 2
     · (try simp only [r0]); rfl
     exact ⟨hH, v0, fun _ => rfl, v2, v3, v4, v5, v6⟩
   refine AllSteps.cons (j := 3) rfl (fun b t wx hJ hb hd hcl Kc hK => ?_) ?_
   · obtain ⟨hH, v0, v1, v2, v3, v4, v5, v6⟩ := hJ
     go_simp
     refine hK.out _ ?_ _ ?_ ?_; rotate_left 2
     · rfl
     exact ⟨hH, v0, v1, fun _ => rfl, v3, v4, v5, v6⟩
   refine AllSteps.cons (j := 4) rfl (fun b t wx hJ hb hd hcl Kc hK => ?_) ?_
   · obtain ⟨hH, v0, v1, v2, v3, v4, v5, v6⟩ := hJ
     have d2 := hd.out 2 (by kernel_rfl); have r2 := v2 d2; have q0_4 := hH.cl 0 4 rfl rfl
     go_simp
     refine hK.out _ ?_ _ ?_ ?_; rotate_left 2
     · (try simp only [r2]); rfl
     exact ⟨hH, v0, v1, v2, fun _ => rfl, v4, v5, v6⟩
   refine AllSteps.cons (j := 5) rfl (fun b t wx hJ hb hd hcl Kc hK => ?_) ?_
   · obtain ⟨hH, v0, v1, v2, v3, v4, v5, v6⟩ := hJ
     have d3 := hd.out 3 (by kernel_rfl)
     have n5 : b 5 = false := Bool.eq_false_iff.2 fun h => absurd (hcl.out 5 4 (by kernel_rfl) (h)) (by rw [hb]; exact Bool.false_ne_true)
     have r3 := v3 d3
     have hN := hH; (try simp only [hb, d3, n5, cond_true, cond_false] at hN)
     go_simp
     go_at_call 100
     refine (copyInts_any _ op _ (hO.ext hH.ext) (by omega)).mono ?_; rintro e4 w4 ⟨v4, rfl, o4, h4⟩
     obtain ⟨x4, c4, rfl, _, _⟩ := o4.ints.val
     (try go_simp)
     refine hK.out _ ?_ _ ?_ ?_; rotate_left 2
     · (try simp only [r3]); rfl
     exact ⟨by have hX := hN.addI 2 h4 o4 (Nat.le_refl _); simpa only [List.set_cons_zero, List.set_cons_succ, updB, updV, blkOf_mk, tup0_mk, partsOf3, partsN_mk, Nat.reduceBEq, cond_true, cond_false, hb, d3, n5, r3] using hX, v0, v1, v2, v3, fun _ => ⟨_, _, rfl⟩, fun h => absurd (show b 5 = true from h) (by rw [n5]; exact Bool.false_ne_true), v6⟩
   refine AllSteps.cons (j := 6) rfl (fun b t wx hJ hb hd hcl Kc hK => ?_) ?_
   · obtain ⟨hH, v0, v1, v2, v3, v4, v5, v6⟩ := hJ
     have d1 := hd.out 1 (by kernel_rfl); have d4 := hd.out 4 (by kernel_rfl)
     have n7 : b 7 = false := Bool.eq_false_iff.2 fun h => absurd (hcl.out 7 5 (by kernel_rfl) (h)) (by rw [hb]; exact Bool.false_ne_true)
     have r1 := v1 d1; have r4 := v4 d4
     obtain ⟨x_4, c_4, r4⟩ := r4
     have hN := hH; (try simp only [hb, d1, d4, n7, cond_true, cond_false] at hN)
     have e4 := r4 -- d4
     go_simp
     refine hK.out _ ?_ _ ?_ ?_; rotate_left 2
     · (try simp only [r1, r4]); rfl
     exact ⟨by have hX := hN; simpa only [List.set_cons_zero, List.set_cons_succ, updB, updV, blkOf_mk, tup0_mk, partsOf3, partsN_mk, Nat.reduceBEq, cond_true, cond_false, hb, d1, d4, n7, r1, r4] using hX, v0, v1, v2, v3, v4, fun _ => (by show Value.agg _ = Value.agg #[_, _, _, _, t 4]; rw [r4]), v6⟩
   refine AllSteps.cons (j := 7) rfl (fun b t wx hJ hb hd hcl Kc hK => ?_) ?_
   · obtain ⟨hH, v0, v1, v2, v3, v4, v5, v6⟩ := hJ
     have n7 : b 7 = false := Bool.eq_false_iff.2 fun h => absurd (hcl.out 7 6 (by kernel_rfl) (h)) (by rw [hb]; exact Bool.false_ne_true)
     have hN := hH; (try simp only [hb, n7, cond_true, cond_false] at hN)
     go_simp
     refine hK.out _ ?_ _ ?_ ?_; rotate_left 2
     · rfl
     exact ⟨by have hX := hN.addB 3 #[.int .i64 0, .int .i64 0, .int .i64 0, .slice none 0 0, .slice none 0 0] 29; simpa only [List.set_cons_zero, List.set_cons_succ, updB, updV, blkOf_mk, tup0_mk, partsOf3, partsN_mk, Nat.reduceBEq, cond_true, cond_false, hb, n7] using hX, v0, v1, v2, v3, v4, v5, fun _ => ⟨_, rfl⟩⟩
   refine AllSteps.cons (j := 8) rfl (fun b t wx hJ hb hd hcl Kc hK => ?_) ?_
   · obtain ⟨hH, v0, v1, v2, v3, v4, v5, v6⟩ := hJ
     have d0 := hd.out 0 (by kernel_rfl); have d1 := hd.out 1 (by kernel_rfl); have d2 := hd.out 2 (by kernel_rfl); have d3 := hd.out 3 (by kernel_rfl); have d4 := hd.out 4 (by kernel_rfl); have d5 := hd.out 5 (by kernel_rfl); have d6 := hd.out 6 (by kernel_rfl); have r0 := v0 d0; have r1 := v1 d1; have r2 := v2 d2; have r3 := v3 d3; have r4 := v4 d4; have r5 := v5 d5; have r6 := v6 d6
     obtain ⟨x_4, c_4, r4⟩ := r4
     obtain ⟨q_6, r6⟩ := r6
     have hN := hH; (try simp only [hb, d0, d1, d2, d3, d4, d5, d6, cond_true, cond_false] at hN)
     rw [r4] at r5 -- d4 d5
     simp only [r6, r5, blkOf_mk, tup0_mk, partsN_mk] at hN
     have B := hN.blk (k := 3) rfl
     have f0 := B.free 0; have z0 := B.cell (j := 0) rfl
     have f1 := B.free 1; have z1 := B.cell (j := 1) rfl
     have f2 := B.free 2; have z2 := B.cell (j := 2) rfl
     have f3 := B.free 3; have z3 := B.cell (j := 3) rfl
     have f4 := B.free 4; have z4 := B.cell (j := 4) rfl
     have lB := B.lt; have hmk0 := @tup0_mk
     go_simp
     refine hK.out _ undef _ ?_ ?_; rotate_left 1
     · (try simp only [r0, r1, r2, r3, r4, r5, r6]); rfl
     exact ⟨by have hX := hN.setB5 (k := 3) rfl (.int .i64 k) (.int .i64 p) (.int .i64 n) (.slice none 0 0) (.slice x_4 op.length c_4); simpa only [List.set_cons_zero, List.set_cons_succ, updB, updV, blkOf_mk, tup0_mk, partsOf3, partsN_mk, Nat.reduceBEq, cond_true, cond_false, hb, d0, d1, d2, d3, d4, d5, d6, r0, r1, r2, r3, r4, r5, r6] using hX, v0, v1, v2, v3, v4, v5, v6⟩
   exact AllSteps.nil
 case hEa =>
  intro b t wa hJ hall
  obtain ⟨hHa, v0, v1, v2, v3, v4, v5, v6⟩ := hJ
  have a0 := hall 0 (by decide); have a1 := hall 1 (by decide); have a2 := hall 2 (by decide); have a3 := hall 3 (by decide); have a4 := hall 4 (by decide); have a5 := hall 5 (by decide); have a6 := hall 6 (by decide); have a7 := hall 7 (by decide)
  (try simp only [a0, a1, a2, a3, a4, a5, a6, a7, cond_true] at hHa)
  replace v0 := v0 a0; replace v1 := v1 a1; replace v2 := v2 a2; replace v3 := v3 a3; replace v4 := v4 a4; replace v5 := v5 a5; replace v6 := v6 a6
  clear hall a0 a1 a2 a3 a4 a5 a6 a7
  generalize t 6 = x6 at hHa v6 ⊢; generalize t 5 = x5 at hHa v5 ⊢; generalize t 4 = x4 at hHa v4 v5 ⊢; generalize t 3 = x3 at hHa v3 ⊢; generalize t 2 = x2 at hHa v2 ⊢; generalize t 1 = x1 at hHa v1 ⊢; generalize t 0 = x0 at hHa v0 ⊢; subst v0; subst v1; subst v2; subst v3
  obtain ⟨xa4, ca4, rfl⟩ := v4
  subst v5
  obtain ⟨qa6, rfl⟩ := v6
  simp only [blkOf_mk, tup0_mk, partsOf3, partsN_mk] at hHa
  clear b
  replace hH := hHa; clear hHa
  replace hH : Held w wa [aB (w.heap.size) 29 [.int .i64 k, .int .i64 p, .int .i64 n, .slice aV m cV, .slice aO op.length cO], aB (w.heap.size + 1) 29 [.int .i64 0, .int .i64 0, .int .i64 0, .slice none 0 0, .slice none 0 0], aI (.slice xa4 op.length ca4) op, aB qa6 29 [.int .i64 k, .int .i64 p, .int .i64 n, .slice none 0 0, .slice xa4 op.length ca4]] := hH
  replace hH := hH.nilTs
  replace hH : Held w wa [aB (w.heap.size) 29 [.int .i64 k, .int .i64 p, .int .i64 n, .slice aV m cV, .slice aO op.length cO], aB (w.heap.size + 1) 29 [.int .i64 0, .int .i64 0, .int .i64 0, .slice none 0 0, .slice none 0 0], aI (.slice xa4 op.length ca4) op, aB qa6 29 [.int .i64 k, .int .i64 p, .int .i64 n, .slice none 0 0, .slice xa4 op.length ca4], aTs (.slice none 0 0) [] []] := hH
  obtain ⟨q0_0, q0_1, q0_2, q0_3, q0_4, l0_⟩ := hH.c5 0 rfl; obtain ⟨q1_0, q1_1, q1_2, q1_3, q1_4, l1_⟩ := hH.c5 1 rfl; obtain ⟨q3_0, q3_1, q3_2, q3_3, q3_4, l3_⟩ := hH.c5 3 rfl
  go_wp2_with fail
  clear q0_0 q0_1 q0_2 q0_3 q0_4 l0_ q1_0 q1_1 q1_2 q1_3 q1_4 l1_ q3_0 q3_1 q3_2 q3_3 q3_4 l3_
  obtain ⟨wa, rfl⟩ : ∃ q, q = wa := ⟨wa, rfl⟩
  go_loopw [22] (fun i wr => ∃ (j : Nat) (tv : Value) (cs : List (Value × Value × Value)), j ≤ m ∧ i = .int .i64 (j : Int) ∧ Held w wr [aB (w.heap.size) 29 [.int .i64 k, .int .i64 p, .int .i64 n, .slice aV m cV, .slice aO op.length cO], aB (w.heap.size + 1) 29 [.int .i64 0, .int .i64 0, .int .i64 0, .slice none 0 0, .slice none 0 0], aI (.slice xa4 op.length ca4) op, aB qa6 29 [.int .i64 k, .int .i64 p, .int .i64 n, tv, .slice xa4 op.length ca4], aTs (tv) cs ((SG j).map (tenOf dm))]) (fun i wr => m - (RowKit.intOf i).toNat)
  case atStart => exact ⟨0, _, _, Nat.zero_le _, rfl, by rw [HG0.out]; exact hH⟩
  case round =>
   clear hH
   obtain ⟨j, tv, cs, hj, rfl, hH⟩ := hrel
   obtain ⟨QS, hQS⟩ : ∃ q, (SG j).map (tenOf dm) = q := ⟨_, rfl⟩
   rw [hQS] at hH
   have hql : QS.length = j := by rw [← hQS, List.length_map]; exact HGL.out j hj
   have HQL := Lib.hid hql; have HQS := Lib.hid hQS; clear hql hQS
   obtain ⟨aS, cS, rfl, _, _⟩ := (hH.tensS (k := 4) rfl).val
   rw [HQL.out] at hH
   obtain ⟨wq, rfl⟩ : ∃ q, q = wr := ⟨wr, rfl⟩
   by_cases hlt : j < m
   ·
    obtain ⟨bT, oT, u1, u2, u3, t3, hV, hu0, hu1, hu2, ht3, hTu⟩ := hT.get (i := j) (by rw [hTl.out]; exact hlt)
    subst hV
    obtain ⟨t, htj, rfl⟩ : ∃ t, ts[j]? = some t ∧ tenOf dm t = t3 := by rw [List.getElem?_map] at ht3; exact Option.map_eq_some_iff.1 ht3
    have HTJ := Lib.hid htj; have HTI := Lib.hid (HN.out.ten t (List.mem_of_getElem? htj)); clear ht3 htj
    obtain ⟨tl, xs⟩ := t
    obtain ⟨e1, m1, f1, e2, m2, f2, e3, m3, f3, hvv⟩ := hTu.shape
    simp at hvv
    obtain ⟨rfl, rfl, rfl⟩ := hvv
    rw [Nat.mul_comm 3 j] at hu0 hu1 hu2
    obtain ⟨_, _, _, hvv, hTL, hTD, hTX⟩ := hTu.val
    simp at hvv
    obtain ⟨rfl, rfl, rfl⟩ := hvv
    simp only [tenOf] at hTu hTL hTD hTX HTI
    obtain ⟨_, _, hvv, _, _⟩ := hTL.val
    simp at hvv
    obtain ⟨rfl, rfl, rfl⟩ := hvv
    obtain ⟨_, _, hvv, _, _⟩ := hTD.val
    simp at hvv
    obtain ⟨rfl, rfl, rfl⟩ := hvv
    have HMS := Lib.hid (show (SG (j + 1)).map (tenOf dm) = QS ++ [(tl.filter (keepU dm op), (tl.filter (keepU dm op)).map dm, flat xs)] by rw [HGS.out j _ HTJ.out, List.map_append, HQS.out]; rfl)
    have htl12 : tl.length ≤ 12 := HTI.out.ax.rank
    have hfl := IsT.flatL HR.out HTI.out
    obtain ⟨LF, hLF⟩ : ∃ F : Nat → List Int, (fun i => (tl.take i).filter (keepU dm op)) = F := ⟨_, rfl⟩
    have HF0 : Hid (LF 0 = []) := Lib.hid (by rw [← hLF]; rfl)
    have HFS : Hid (∀ i x, tl[i]? = some x → LF (i + 1) = LF i ++ if keepU dm op x = true then [x] else []) := Lib.hid fun i x h => by rw [← hLF]; exact keepU_take h
    have HFL : Hid (∀ i, (LF i).length ≤ i) := Lib.hid fun i => by rw [← hLF]; exact Nat.le_trans (List.length_filter_le _ _) (by rw [List.length_take]; omega)
    have HFE : Hid (LF tl.length = tl.filter (keepU dm op)) := Lib.hid (by rw [← hLF]; show (tl.take tl.length).filter _ = _; rw [List.take_length])
    clear hLF
    obtain ⟨q0_0, q0_1, q0_2, q0_3, q0_4, l0_⟩ := hH.c5 0 rfl; obtain ⟨q1_0, q1_1, q1_2, q1_3, q1_4, l1_⟩ := hH.c5 1 rfl; obtain ⟨q3_0, q3_1, q3_2, q3_3, q3_4, l3_⟩ := hH.c5 3 rfl; have c_hu0 := hH.ext.cell hu0; have c_hu1 := hH.ext.cell hu1; have c_hu2 := hH.ext.cell hu2
    go_upto_region 7 with fail
    clear q0_0 q0_1 q0_2 q0_3 q0_4 l0_ q1_0 q1_1 q1_2 q1_3 q1_4 l1_ q3_0 q3_1 q3_2 q3_3 q3_4 l3_ c_hu0 c_hu1 c_hu2
    have hB : Held w (wq.alloc (.cells #[.slice e1 tl.length f1, .slice e2 tl.length f2, .slice e3 m3 f3] 32)) [aB (w.heap.size) 29 [.int .i64 k, .int .i64 p, .int .i64 n, .slice (some ⟨bT, oT, none⟩) m cV, .slice aO op.length cO], aB (w.heap.size + 1) 29 [.int .i64 0, .int .i64 0, .int .i64 0, .slice none 0 0, .slice none 0 0], aI (.slice xa4 op.length ca4) op, aB qa6 29 [.int .i64 k, .int .i64 p, .int .i64 n, .slice aS j cS, .slice xa4 op.length ca4], aTs (.slice aS j cS) cs QS, aB (wq.heap.size) 32 [.slice e1 tl.length f1, .slice e2 tl.length f2, .slice e3 m3 f3]] := by
     have h := (hH.mores 1).addB 5 #[.slice e1 tl.length f1, .slice e2 tl.length f2, .slice e3 m3 f3] 32
     exact h
    have hsz : (wq.alloc (.cells #[.slice e1 tl.length f1, .slice e2 tl.length f2, .slice e3 m3 f3] 32)).heap.size = wq.heap.size + 1 := by simp
    generalize wq.alloc (.cells #[.slice e1 tl.length f1, .slice e2 tl.length f2, .slice e3 m3 f3] 32) = wn4 at hB hsz ⊢
    replace hH := hB; have HSZwn4 := Lib.hid hsz; clear hB hsz
    obtain ⟨q0_0, q0_1, q0_2, q0_3, q0_4, l0_⟩ := hH.c5 0 rfl; obtain ⟨q1_0, q1_1, q1_2, q1_3, q1_4, l1_⟩ := hH.c5 1 rfl; obtain ⟨q3_0, q3_1, q3_2, q3_3, q3_4, l3_⟩ := hH.c5 3 rfl; obtain ⟨q5_0, q5_1, q5_2, l5_⟩ := hH.c3 5 rfl; have c_hu0 := hH.ext.cell hu0; have c_hu1 := hH.ext.cell hu1; have c_hu2 := hH.ext.cell hu2
    go_wp2_with fail
    clear q0_0 q0_1 q0_2 q0_3 q0_4 l0_ q1_0 q1_1 q1_2 q1_3 q1_4 l1_ q3_0 q3_1 q3_2 q3_3 q3_4 l3_ q5_0 q5_1 q5_2 l5_ c_hu0 c_hu1 c_hu2
    refine (copyInts_any _ (flat xs) _ (hTX.ext hH.ext) (by omega)).mono ?_; rintro ewn5 wn5 ⟨v4, rfl, o4, hwn5⟩
    obtain ⟨x4, c4, rfl⟩ := o4.shapeN rfl
    replace hH : Held w wn5 [aB (w.heap.size) 29 [.int .i64 k, .int .i64 p, .int .i64 n, .slice (some ⟨bT, oT, none⟩) m cV, .slice aO op.length cO], aB (w.heap.size + 1) 29 [.int .i64 0, .int .i64 0, .int .i64 0, .slice none 0 0, .slice none 0 0], aI (.slice xa4 op.length ca4) op, aB qa6 29 [.int .i64 k, .int .i64 p, .int .i64 n, .slice aS j cS, .slice xa4 op.length ca4], aTs (.slice aS j cS) cs QS, aB (wq.heap.size) 32 [.slice e1 tl.length f1, .slice e2 tl.length f2, .slice e3 m3 f3], aI (.slice x4 (flat xs).length c4) (flat xs)] := (hH.mores 1).addI 6 hwn5 o4 (Nat.le_refl _)
    clear hwn5
    obtain ⟨m4, hm4⟩ : ∃ q, (flat xs).length = q := ⟨_, rfl⟩
    rw [hm4] at hH ⊢; have HM4 := Lib.hid hm4; clear hm4
    obtain ⟨q0_0, q0_1, q0_2, q0_3, q0_4, l0_⟩ := hH.c5 0 rfl; obtain ⟨q1_0, q1_1, q1_2, q1_3, q1_4, l1_⟩ := hH.c5 1 rfl; obtain ⟨q3_0, q3_1, q3_2, q3_3, q3_4, l3_⟩ := hH.c5 3 rfl; obtain ⟨q5_0, q5_1, q5_2, l5_⟩ := hH.c3 5 rfl; have c_hu0 := hH.ext.cell hu0; have c_hu1 := hH.ext.cell hu1; have c_hu2 := hH.ext.cell hu2
    go_upto_region 8 with fail
    clear q0_0 q0_1 q0_2 q0_3 q0_4 l0_ q1_0 q1_1 q1_2 q1_3 q1_4 l1_ q3_0 q3_1 q3_2 q3_3 q3_4 l3_ q5_0 q5_1 q5_2 l5_ c_hu0 c_hu1 c_hu2
    have hB : Held w (wn5.alloc (.cells #[.slice none 0 0, .slice none 0 0, .slice x4 m4 c4] 32)) [aB (w.heap.size) 29 [.int .i64 k, .int .i64 p, .int .i64 n, .slice (some ⟨bT, oT, none⟩) m cV, .slice aO op.length cO], aB (w.heap.size + 1) 29 [.int .i64 0, .int .i64 0, .int .i64 0, .slice none 0 0, .slice none 0 0], aI (.slice xa4 op.length ca4) op, aB qa6 29 [.int .i64 k, .int .i64 p, .int .i64 n, .slice aS j cS, .slice xa4 op.length ca4], aTs (.slice aS j cS) cs QS, aB (wq.heap.size) 32 [.slice e1 tl.length f1, .slice e2 tl.length f2, .slice e3 m3 f3], aI (.slice x4 m4 c4) (flat xs), aB (wn5.heap.size) 32 [.slice none 0 0, .slice none 0 0, .slice x4 m4 c4]] := by
     have h := (hH.mores 1).addB 7 #[.slice none 0 0, .slice none 0 0, .slice x4 m4 c4] 32
     exact h
    have hsz : (wn5.alloc (.cells #[.slice none 0 0, .slice none 0 0, .slice x4 m4 c4] 32)).heap.size = wn5.heap.size + 1 := by simp
    generalize wn5.alloc (.cells #[.slice none 0 0, .slice none 0 0, .slice x4 m4 c4] 32) = wn6 at hB hsz ⊢
    replace hH := hB; have HSZwn6 := Lib.hid hsz; clear hB hsz
    replace hH := hH.nilI.nilI
    replace hH : Held w wn6 [aB (w.heap.size) 29 [.int .i64 k, .int .i64 p, .int .i64 n, .slice (some ⟨bT, oT, none⟩) m cV, .slice aO op.length cO], aB (w.heap.size + 1) 29 [.int .i64 0, .int .i64 0, .int .i64 0, .slice none 0 0, .slice none 0 0], aI (.slice xa4 op.length ca4) op, aB qa6 29 [.int .i64 k, .int .i64 p, .int .i64 n, .slice aS j cS, .slice xa4 op.length ca4], aTs (.slice aS j cS) cs QS, aB (wq.heap.size) 32 [.slice e1 tl.length f1, .slice e2 tl.length f2, .slice e3 m3 f3], aI (.slice x4 m4 c4) (flat xs), aB (wn5.heap.size) 32 [.slice none 0 0, .slice none 0 0, .slice x4 m4 c4], aI (.slice none 0 0) [], aI (.slice none 0 0) []] := hH
    obtain ⟨wb, rfl⟩ : ∃ q, q = wn6 := ⟨wn6, rfl⟩
    obtain ⟨q0_0, q0_1, q0_2, q0_3, q0_4, l0_⟩ := hH.c5 0 rfl; obtain ⟨q1_0, q1_1, q1_2, q1_3, q1_4, l1_⟩ := hH.c5 1 rfl; obtain ⟨q3_0, q3_1, q3_2, q3_3, q3_4, l3_⟩ := hH.c5 3 rfl; obtain ⟨q5_0, q5_1, q5_2, l5_⟩ := hH.c3 5 rfl; obtain ⟨q7_0, q7_1, q7_2, l7_⟩ := hH.c3 7 rfl; have c_hu0 := hH.ext.cell hu0; have c_hu1 := hH.ext.cell hu1; have c_hu2 := hH.ext.cell hu2
    go_wp2_with fail
    clear q0_0 q0_1 q0_2 q0_3 q0_4 l0_ q1_0 q1_1 q1_2 q1_3 q1_4 l1_ q3_0 q3_1 q3_2 q3_3 q3_4 l3_ q5_0 q5_1 q5_2 l5_ q7_0 q7_1 q7_2 l7_ c_hu0 c_hu1 c_hu2
    go_loopw [33] (fun iv wr => ∃ (i : Nat) (va vb : Value), i ≤ tl.length ∧ iv = .int .i64 (i : Int) ∧ Held w wr [aB (w.heap.size) 29 [.int .i64 k, .int .i64 p, .int .i64 n, .slice (some ⟨bT, oT, none⟩) m cV, .slice aO op.length cO], aB (w.heap.size + 1) 29 [.int .i64 0, .int .i64 0, .int .i64 0, .slice none 0 0, .slice none 0 0], aI (.slice xa4 op.length ca4) op, aB qa6 29 [.int .i64 k, .int .i64 p, .int .i64 n, .slice aS j cS, .slice xa4 op.length ca4], aTs (.slice aS j cS) cs QS, aB (wq.heap.size) 32 [.slice e1 tl.length f1, .slice e2 tl.length f2, .slice e3 m3 f3], aI (.slice x4 m4 c4) (flat xs), aB (wn5.heap.size) 32 [va, vb, .slice x4 m4 c4], aI (va) (LF i), aI (vb) ((LF i).map dm)]) (fun iv wr => tl.length - (RowKit.intOf iv).toNat)
    case atStart => exact ⟨0, _, _, Nat.zero_le _, rfl, by rw [HF0.out]; exact hH⟩
    case round =>
     clear hH
     obtain ⟨i, va, vb, hi, rfl, hH⟩ := hrel
     obtain ⟨wk, rfl⟩ : ∃ q, q = wr := ⟨wr, rfl⟩
     have hfi := HFL.out i
     obtain ⟨FI, hFI⟩ : ∃ q, LF i = q := ⟨_, rfl⟩
     rw [hFI] at hH hfi
     have HFI := Lib.hid hFI; clear hFI
     obtain ⟨nl, hnl⟩ : ∃ q, FI.length = q := ⟨_, rfl⟩
     rw [hnl] at hfi
     obtain ⟨a6, c6, rfl⟩ := (hH.own (k := 8) rfl).shape1 nl hnl
     obtain ⟨a7, c7, rfl⟩ := (hH.own (k := 9) rfl).shape1 nl (by rw [List.length_map]; exact hnl)
     have HNL := Lib.hid hnl; clear hnl
     by_cases hlt2 : i < tl.length
     ·
      obtain ⟨bA, oA, x, hVa, hcx, hx, _⟩ := hTL.get (i := i) hlt2
      cases hVa
      obtain ⟨bD, oD, d, hVd, hcd, hd, _⟩ := hTD.get (i := i) (by rw [List.length_map]; exact hlt2)
      cases hVd
      have hdx : d = dm x := by rw [List.getElem?_map, hx] at hd; exact (Option.some.inj hd).symm
      subst hdx
      have HST := Lib.hid (HFS.out i x hx); rw [HFI.out] at HST
      clear hx hd
      by_cases hd1 : 1 < dm x
      ·
       have HKY : Hid (keepU dm op x = true) := Lib.hid (by unfold keepU; rw [decide_eq_true hd1]; rfl)
       have HS2 : Hid (LF (i + 1) = FI ++ [x]) := Lib.hid (by rw [HST.out, if_pos HKY.out])
       obtain ⟨q0_0, q0_1, q0_2, q0_3, q0_4, l0_⟩ := hH.c5 0 rfl; obtain ⟨q1_0, q1_1, q1_2, q1_3, q1_4, l1_⟩ := hH.c5 1 rfl; obtain ⟨q3_0, q3_1, q3_2, q3_3, q3_4, l3_⟩ := hH.c5 3 rfl; obtain ⟨q5_0, q5_1, q5_2, l5_⟩ := hH.c3 5 rfl; obtain ⟨q7_0, q7_1, q7_2, l7_⟩ := hH.c3 7 rfl; have f7_0 := hH.fr 7 0 rfl; have f7_1 := hH.fr 7 1 rfl; have f7_2 := hH.fr 7 2 rfl; have c_hu0 := hH.ext.cell hu0; have c_hu1 := hH.ext.cell hu1; have c_hu2 := hH.ext.cell hu2; have c_hcx := hH.ext.cell hcx; have c_hcd := hH.ext.cell hcd
       go_upto_region 13 with (at_builtin; refine wpList_app _ rfl _ _ 27 rfl _ _ rfl rfl _ (run_push _ _ w.heap.size _ FI x (hH.own (k := 8) rfl) (by rw [HNL.out]; omega) hH.size) ?_; rintro v6 w6 ⟨o6, g6, n6⟩; obtain ⟨a8, c8, hv8⟩ := o6.shape1 (nl + 1) (by rw [List.length_append, HNL.out]; rfl); subst hv8; have hHp := hH.pushed (k := 8) rfl o6 g6 n6; have yB := hHp.blk (k := 7) rfl; have yl := yB.lt; have y0 := yB.cell (j := 0) rfl; have y0f := yB.free 0; clear yB)
       have hHq := hHp.setB (k := 7) rfl 0 (.slice a8 (nl + 1) c8)
       clear hH hHp g6 n6 o6
       obtain ⟨wv, hwv⟩ : ∃ q, q = w6.setCell ⟨wn5.heap.size, 0, none⟩ (.slice a8 (nl + 1) c8) := ⟨_, rfl⟩
       rw [← hwv] at hHq ⊢; have hH : Held w wv [aB (w.heap.size) 29 [.int .i64 k, .int .i64 p, .int .i64 n, .slice (some ⟨bT, oT, none⟩) m cV, .slice aO op.length cO], aB (w.heap.size + 1) 29 [.int .i64 0, .int .i64 0, .int .i64 0, .slice none 0 0, .slice none 0 0], aI (.slice xa4 op.length ca4) op, aB qa6 29 [.int .i64 k, .int .i64 p, .int .i64 n, .slice aS j cS, .slice xa4 op.length ca4], aTs (.slice aS j cS) cs QS, aB (wq.heap.size) 32 [.slice (some ⟨bA, oA, none⟩) tl.length f1, .slice (some ⟨bD, oD, none⟩) tl.length f2, .slice e3 m3 f3], aI (.slice x4 m4 c4) (flat xs), aB (wn5.heap.size) 32 [.slice a8 (nl + 1) c8, .slice a7 nl c7, .slice x4 m4 c4], aI (.slice a8 (nl + 1) c8) (FI ++ [x]), aI (.slice a7 nl c7) (FI.map dm)] := hHq; clear hwv hHq y0 y0f yl
       replace hH := hH.mores 1
       replace hH : Held w wv [aB (w.heap.size) 29 [.int .i64 k, .int .i64 p, .int .i64 n, .slice (some ⟨bT, oT, none⟩) m cV, .slice aO op.length cO], aB (w.heap.size + 1) 29 [.int .i64 0, .int .i64 0, .int .i64 0, .slice none 0 0, .slice none 0 0], aI (.slice xa4 op.length ca4) op, aB qa6 29 [.int .i64 k, .int .i64 p, .int .i64 n, .slice aS j cS, .slice xa4 op.length ca4], aTs (.slice aS j cS) cs QS, aB (wq.heap.size) 32 [.slice (some ⟨bA, oA, none⟩) tl.length f1, .slice (some ⟨bD, oD, none⟩) tl.length f2, .slice e3 m3 f3], aI (.slice x4 m4 c4) (flat xs), aB (wn5.heap.size) 32 [.slice a8 (nl + 1) c8, .slice a7 nl c7, .slice x4 m4 c4], aI (.slice a8 (nl + 1) c8) (FI ++ [x]), aI (.slice a7 nl c7) (FI.map dm), emp] := hH
       refine wp_region_steps ?Fd0 (fun b t wx => Held w wx [aB (w.heap.size) 29 [.int .i64 k, .int .i64 p, .int .i64 n, .slice (some ⟨bT, oT, none⟩) m cV, .slice aO op.length cO], aB (w.heap.size + 1) 29 [.int .i64 0, .int .i64 0, .int .i64 0, .slice none 0 0, .slice none 0 0], aI (.slice xa4 op.length ca4) op, aB qa6 29 [.int .i64 k, .int .i64 p, .int .i64 n, .slice aS j cS, .slice xa4 op.length ca4], aTs (.slice aS j cS) cs QS, aB (wq.heap.size) 32 [.slice (some ⟨bA, oA, none⟩) tl.length f1, .slice (some ⟨bD, oD, none⟩) tl.length f2, .slice e3 m3 f3], aI (.slice x4 m4 c4) (flat xs), (bif b 10 then aB (wn5.heap.size) 32 [.slice a8 (nl + 1) c8, t 8, .slice x4 m4 c4] else aB (wn5.heap.size) 32 [.slice a8 (nl + 1) c8, .slice a7 nl c7, .slice x4 m4 c4]), aI (.slice a8 (nl + 1) c8) (FI ++ [x]), (bif b 8 then aI (t 8) (FI.map dm ++ [dm x]) else aI (.slice a7 nl c7) (FI.map dm)), (bif b 7 then aI (t 7) [dm x] else emp)] ∧ (b 0 = true → t 0 = .pointer (some ⟨wn5.heap.size, 1, none⟩)) ∧ (b 1 = true → t 1 = .slice a7 nl c7) ∧ (b 2 = true → t 2 = .pointer (some ⟨wq.heap.size, 1, none⟩)) ∧ (b 3 = true → t 3 = .slice (some ⟨bD, oD, none⟩) tl.length f2) ∧ (b 4 = true → t 4 = .int .i64 (i : Int)) ∧ (b 5 = true → t 5 = .pointer (some ⟨bD, oD + i, none⟩)) ∧ (b 6 = true → t 6 = .int .i64 (dm x)) ∧ (b 7 = true → ∃ x c, t 7 = .slice x 1 c) ∧ (b 8 = true → ∃ a c, t 8 = .slice a (nl + 1) c) ∧ (b 9 = true → t 9 = .pointer (some ⟨wn5.heap.size, 1, none⟩))) ?hFd0 (by kernel_rfl) (by kernel_rfl) ?hJd0 ?hSd0 ?hEd0
       (case hFd0 => intro t; simp only [putAll, Act.put, List.setIfInBounds_toArray, List.set_cons_zero, List.set_cons_succ, Nat.reduceAdd, Nat.zero_add]; exact rfl)
       case hJd0 => exact ⟨hH.grow ((Ext.refl _).drew), nof, nof, nof, nof, nof, nof, nof, nof, nof, nof⟩
       case hSd0 => as_aux_lemma =>
         refine AllSteps.cons (j := 1) rfl (fun b t wx hJ hb hd hcl Kc hK => ?_) ?_
         · obtain ⟨hH, v0, v1, v2, v3, v4, v5, v6, v7, v8, v9⟩ := hJ
           have c_hcd := hH.ext.cell hcd
           go_simp
           refine hK.out _ ?_ _ ?_ ?_; rotate_left 2
           · rfl
           exact ⟨hH, fun _ => rfl, v1, v2, v3, v4, v5, v6, v7, v8, v9⟩
         refine AllSteps.cons (j := 2) rfl (fun b t wx hJ hb hd hcl Kc hK => ?_) ?_
         · obtain ⟨hH, v0, v1, v2, v3, v4, v5, v6, v7, v8, v9⟩ := hJ
           have d0 := hd.out 0 (by kernel_rfl)
           have n10 : b 10 = false := Bool.eq_false_iff.2 fun h => absurd (hcl.out 10 1 (by kernel_rfl) (h)) (by rw [hb]; exact Bool.false_ne_true)
           have r0 := v0 d0
           have hN := hH; (try simp only [hb, d0, n10, cond_true, cond_false] at hN)
           have c_hcd := hH.ext.cell hcd
           have q7_1 := hN.cl 7 1 rfl rfl
           go_simp
           refine hK.out _ ?_ _ ?_ ?_; rotate_left 2
           · (try simp only [r0]); rfl
           exact ⟨hH, v0, fun _ => rfl, v2, v3, v4, v5, v6, v7, v8, v9⟩
         refine AllSteps.cons (j := 3) rfl (fun b t wx hJ hb hd hcl Kc hK => ?_) ?_
         · obtain ⟨hH, v0, v1, v2, v3, v4, v5, v6, v7, v8, v9⟩ := hJ
           have c_hcd := hH.ext.cell hcd
           go_simp
           refine hK.out _ ?_ _ ?_ ?_; rotate_left 2
           · rfl
           exact ⟨hH, v0, v1, fun _ => rfl, v3, v4, v5, v6, v7, v8, v9⟩
         refine AllSteps.cons (j := 4) rfl (fun b t wx hJ hb hd hcl Kc hK => ?_) ?_
         · obtain ⟨hH, v0, v1, v2, v3, v4, v5, v6, v7, v8, v9⟩ := hJ
           have d2 := hd.out 2 (by kernel_rfl); have r2 := v2 d2; have c_hcd := hH.ext.cell hcd; have q5_1 := hH.cl 5 1 rfl rfl
           go_simp
           refine hK.out _ ?_ _ ?_ ?_; rotate_left 2
           · (try simp only [r2]); rfl
           exact ⟨hH, v0, v1, v2, fun _ => rfl, v4, v5, v6, v7, v8, v9⟩
         refine AllSteps.cons (j := 5) rfl (fun b t wx hJ hb hd hcl Kc hK => ?_) ?_
         · obtain ⟨hH, v0, v1, v2, v3, v4, v5, v6, v7, v8, v9⟩ := hJ
           have c_hcd := hH.ext.cell hcd
           go_simp
           refine hK.out _ ?_ _ ?_ ?_; rotate_left 2
           · rfl
           exact ⟨hH, v0, v1, v2, v3, fun _ => rfl, v5, v6, v7, v8, v9⟩
         refine AllSteps.cons (j := 6) rfl (fun b t wx hJ hb hd hcl Kc hK => ?_) ?_
         · obtain ⟨hH, v0, v1, v2, v3, v4, v5, v6, v7, v8, v9⟩ := hJ
           have d3 := hd.out 3 (by kernel_rfl); have d4 := hd.out 4 (by kernel_rfl); have r3 := v3 d3; have r4 := v4 d4; have c_hcd := hH.ext.cell hcd
           go_simp
           refine hK.out _ ?_ _ ?_ ?_; rotate_left 2
           · (try simp only [r3, r4]); rfl
           exact ⟨hH, v0, v1, v2, v3, v4, fun _ => rfl, v6, v7, v8, v9⟩
         refine AllSteps.cons (j := 7) rfl (fun b t wx hJ hb hd hcl Kc hK => ?_) ?_
         · obtain ⟨hH, v0, v1, v2, v3, v4, v5, v6, v7, v8, v9⟩ := hJ
           have d5 := hd.out 5 (by kernel_rfl); have r5 := v5 d5; have c_hcd := hH.ext.cell hcd
           go_simp
           refine hK.out _ ?_ _ ?_ ?_; rotate_left 2
           · (try simp only [r5]); rfl
           exact ⟨hH, v0, v1, v2, v3, v4, v5, fun _ => rfl, v7, v8, v9⟩
         refine AllSteps.cons (j := 8) rfl (fun b t wx hJ hb hd hcl Kc hK => ?_) ?_
         · obtain ⟨hH, v0, v1, v2, v3, v4, v5, v6, v7, v8, v9⟩ := hJ
           have d6 := hd.out 6 (by kernel_rfl); have r6 := v6 d6
           have hN := hH; (try simp only [hb, d6, cond_true, cond_false] at hN)
           go_simp
           refine hK.out _ ?_ _ ?_ ?_; rotate_left 2
           · (try simp only [r6]); rfl
           exact ⟨by have hX := hN.built 10 [dm x] 1 rfl (by simp [maxLen]) #[.int .i64 (dm x)] rfl; simpa only [List.set_cons_zero, List.set_cons_succ, updB, updV, blkOf_mk, tup0_mk, partsOf3, Nat.reduceBEq, cond_true, cond_false, hb, d6, r6] using hX, v0, v1, v2, v3, v4, v5, v6, fun _ => ⟨_, _, rfl⟩, v8, v9⟩
         refine AllSteps.cons (j := 9) rfl (fun b t wx hJ hb hd hcl Kc hK => ?_) ?_
         · obtain ⟨hH, v0, v1, v2, v3, v4, v5, v6, v7, v8, v9⟩ := hJ
           have d1 := hd.out 1 (by kernel_rfl); have d7 := hd.out 7 (by kernel_rfl)
           have n10 : b 10 = false := Bool.eq_false_iff.2 fun h => absurd (hcl.out 10 8 (by kernel_rfl) (h)) (by rw [hb]; exact Bool.false_ne_true)
           have r1 := v1 d1; have r7 := v7 d7
           obtain ⟨x_7, c_7, r7⟩ := r7
           have hN := hH; (try simp only [hb, d1, d7, n10, cond_true, cond_false] at hN)
           refine step_app wx rfl _ _ 27 rfl (.slice a7 nl c7) (t 7) (by first | rfl | (go_simp; done)) (by first | rfl | (go_simp; done)) _ (run_pushes _ wx 0 _ _ (FI.map dm) [dm x] (hN.own (k := 9) rfl).zero (by have h := hN.ints (k := 10) rfl; exact h) (by have h1 : (FI.map dm).length = nl := (by rw [List.length_map]; exact HNL.out); simp only [h1, List.length_singleton]; omega) (Nat.zero_le _)) ?_; rintro va wa ⟨oa, ga, na⟩; rw [show FI.map dm ++ [dm x] = FI.map dm ++ [dm x] from rfl] at oa
           obtain ⟨aa, ca, hva, _, _⟩ := oa.ints.val; subst hva
           refine hK.out _ ?_ _ ?_ ?_; rotate_left 2
           · (try simp only [r1, r7]); rfl
           exact ⟨by have hX := hN.pushed (k := 9) rfl oa ga na; simpa only [List.set_cons_zero, List.set_cons_succ, updB, updV, blkOf_mk, tup0_mk, partsOf3, Nat.reduceBEq, cond_true, cond_false, hb, d1, d7, n10, r1, r7] using hX, v0, v1, v2, v3, v4, v5, v6, v7, fun _ => ⟨_, _, by rw [show (FI.map dm ++ [dm x]).length = nl + 1 by rw [List.length_append, List.length_map, HNL.out]; rfl]; rfl⟩, v9⟩
         refine AllSteps.cons (j := 10) rfl (fun b t wx hJ hb hd hcl Kc hK => ?_) ?_
         · obtain ⟨hH, v0, v1, v2, v3, v4, v5, v6, v7, v8, v9⟩ := hJ
           have d0 := hd.out 0 (by kernel_rfl); have d1 := hd.out 1 (by kernel_rfl); have d2 := hd.out 2 (by kernel_rfl); have d3 := hd.out 3 (by kernel_rfl); have d4 := hd.out 4 (by kernel_rfl); have d5 := hd.out 5 (by kernel_rfl); have d6 := hd.out 6 (by kernel_rfl); have d7 := hd.out 7 (by kernel_rfl); have d8 := hd.out 8 (by kernel_rfl); have r0 := v0 d0; have r1 := v1 d1; have r2 := v2 d2; have r3 := v3 d3; have r4 := v4 d4; have r5 := v5 d5; have r6 := v6 d6; have r7 := v7 d7; have r8 := v8 d8
           obtain ⟨x_7, c_7, r7⟩ := r7
           obtain ⟨a_8, c_8, r8⟩ := r8
           have c_hcd := hH.ext.cell hcd
           go_simp
           refine hK.out _ ?_ _ ?_ ?_; rotate_left 2
           · (try simp only [r0, r1, r2, r3, r4, r5, r6, r7, r8]); rfl
           exact ⟨hH, v0, v1, v2, v3, v4, v5, v6, v7, v8, fun _ => rfl⟩
         refine AllSteps.cons (j := 11) rfl (fun b t wx hJ hb hd hcl Kc hK => ?_) ?_
         · obtain ⟨hH, v0, v1, v2, v3, v4, v5, v6, v7, v8, v9⟩ := hJ
           have d0 := hd.out 0 (by kernel_rfl); have d1 := hd.out 1 (by kernel_rfl); have d2 := hd.out 2 (by kernel_rfl); have d3 := hd.out 3 (by kernel_rfl); have d4 := hd.out 4 (by kernel_rfl); have d5 := hd.out 5 (by kernel_rfl); have d6 := hd.out 6 (by kernel_rfl); have d7 := hd.out 7 (by kernel_rfl); have d8 := hd.out 8 (by kernel_rfl); have d9 := hd.out 9 (by kernel_rfl); have r0 := v0 d0; have r1 := v1 d1; have r2 := v2 d2; have r3 := v3 d3; have r4 := v4 d4; have r5 := v5 d5; have r6 := v6 d6; have r7 := v7 d7; have r8 := v8 d8; have r9 := v9 d9
           obtain ⟨x_7, c_7, r7⟩ := r7
           obtain ⟨a_8, c_8, r8⟩ := r8
           have hN := hH; (try simp only [hb, d0, d1, d2, d3, d4, d5, d6, d7, d8, d9, cond_true, cond_false] at hN)
           have B := hN.blk (k := 7) rfl; have fB := B.free 1; have zB := B.cell (j := 1) rfl; have lB := B.lt
           go_simp
           refine hK.out _ undef _ ?_ ?_; rotate_left 1
           · (try simp only [r0, r1, r2, r3, r4, r5, r6, r7, r8, r9]); rfl
           exact ⟨by have hX := hN.setB (k := 7) rfl 1 (t 8); simpa only [List.set_cons_zero, List.set_cons_succ, updB, updV, blkOf_mk, tup0_mk, partsOf3, Nat.reduceBEq, cond_true, cond_false, hb, d0, d1, d2, d3, d4, d5, d6, d7, d8, d9, r0, r1, r2, r3, r4, r5, r6, r7, r8, r9] using hX, v0, v1, v2, v3, v4, v5, v6, v7, v8, v9⟩
         exact AllSteps.nil
       case hEd0 =>
        intro b t wd0 hJ hall
        obtain ⟨hHd0, v0, v1, v2, v3, v4, v5, v6, v7, v8, v9⟩ := hJ
        have a0 := hall 0 (by decide); have a1 := hall 1 (by decide); have a2 := hall 2 (by decide); have a3 := hall 3 (by decide); have a4 := hall 4 (by decide); have a5 := hall 5 (by decide); have a6 := hall 6 (by decide); have a7 := hall 7 (by decide); have a8 := hall 8 (by decide); have a9 := hall 9 (by decide); have a10 := hall 10 (by decide)
        (try simp only [a0, a1, a2, a3, a4, a5, a6, a7, a8, a9, a10, cond_true] at hHd0)
        replace v0 := v0 a0; replace v1 := v1 a1; replace v2 := v2 a2; replace v3 := v3 a3; replace v4 := v4 a4; replace v5 := v5 a5; replace v6 := v6 a6; replace v7 := v7 a7; replace v8 := v8 a8; replace v9 := v9 a9
        clear hall a0 a1 a2 a3 a4 a5 a6 a7 a8 a9 a10
        generalize t 9 = x9 at hHd0 v9 ⊢; generalize t 8 = x8 at hHd0 v8 ⊢; generalize t 7 = x7 at hHd0 v7 ⊢; generalize t 6 = x6 at hHd0 v6 ⊢; generalize t 5 = x5 at hHd0 v5 ⊢; generalize t 4 = x4 at hHd0 v4 ⊢; generalize t 3 = x3 at hHd0 v3 ⊢; generalize t 2 = x2 at hHd0 v2 ⊢; generalize t 1 = x1 at hHd0 v1 ⊢; generalize t 0 = x0 at hHd0 v0 ⊢; subst v0; subst v1; subst v2; subst v3; subst v4; subst v5; subst v6
        obtain ⟨xd07, cd07, rfl⟩ := v7
        obtain ⟨ad08, cd08, rfl⟩ := v8
        subst v9
        clear b
        replace hH := hHd0; clear hHd0
        replace hH : Held w wd0 [aB (w.heap.size) 29 [.int .i64 k, .int .i64 p, .int .i64 n, .slice (some ⟨bT, oT, none⟩) m cV, .slice aO op.length cO], aB (w.heap.size + 1) 29 [.int .i64 0, .int .i64 0, .int .i64 0, .slice none 0 0, .slice none 0 0], aI (.slice xa4 op.length ca4) op, aB qa6 29 [.int .i64 k, .int .i64 p, .int .i64 n, .slice aS j cS, .slice xa4 op.length ca4], aTs (.slice aS j cS) cs QS, aB (wq.heap.size) 32 [.slice (some ⟨bA, oA, none⟩) tl.length f1, .slice (some ⟨bD, oD, none⟩) tl.length f2, .slice e3 m3 f3], aI (.slice x4 m4 c4) (flat xs), aB (wn5.heap.size) 32 [.slice a8 (nl + 1) c8, .slice ad08 (nl + 1) cd08, .slice x4 m4 c4], aI (.slice a8 (nl + 1) c8) (FI ++ [x]), aI (.slice ad08 (nl + 1) cd08) (FI.map dm ++ [dm x]), aI (.slice xd07 1 cd07) [dm x]] := hH
        go_wp2_with fail
        go_roundw
        case rel => exact ⟨i + 1, _, _, by omega, by go_num, by rw [HS2.out, List.map_append]; exact hH.sub (.cons_cons _ (.cons_cons _ (.cons_cons _ (.cons_cons _ (.cons_cons _ (.cons_cons _ (.cons_cons _ (.cons_cons _ (.cons_cons _ (.cons_cons _ (.cons _ .slnil)))))))))))⟩
        case measure => simp [RowKit.intOf]; omega
      ·
       obtain ⟨q0_0, q0_1, q0_2, q0_3, q0_4, l0_⟩ := hH.c5 0 rfl; obtain ⟨q1_0, q1_1, q1_2, q1_3, q1_4, l1_⟩ := hH.c5 1 rfl; obtain ⟨q3_0, q3_1, q3_2, q3_3, q3_4, l3_⟩ := hH.c5 3 rfl; obtain ⟨q5_0, q5_1, q5_2, l5_⟩ := hH.c3 5 rfl; obtain ⟨q7_0, q7_1, q7_2, l7_⟩ := hH.c3 7 rfl; have c_hu0 := hH.ext.cell hu0; have c_hu1 := hH.ext.cell hu1; have c_hu2 := hH.ext.cell hu2; have c_hcx := hH.ext.cell hcx; have c_hcd := hH.ext.cell hcd
       go_wp2_with fail
       clear q0_0 q0_1 q0_2 q0_3 q0_4 l0_ q1_0 q1_1 q1_2 q1_3 q1_4 l1_ q3_0 q3_1 q3_2 q3_3 q3_4 l3_ q5_0 q5_1 q5_2 l5_ q7_0 q7_1 q7_2 l7_ c_hu0 c_hu1 c_hu2 c_hcx c_hcd
       refine (hasInt_any _ op x _ (hO.ext hH.ext)).mono ?_; rintro e5 w5 ⟨rfl, rfl⟩
       by_cases hh : hasL op x = true
       ·
        have HKY : Hid (keepU dm op x = true) := Lib.hid (by unfold keepU; rw [hh, Bool.or_true])
        rw [hh]; clear hh
        have HS2 : Hid (LF (i + 1) = FI ++ [x]) := Lib.hid (by rw [HST.out, if_pos HKY.out])
        obtain ⟨q0_0, q0_1, q0_2, q0_3, q0_4, l0_⟩ := hH.c5 0 rfl; obtain ⟨q1_0, q1_1, q1_2, q1_3, q1_4, l1_⟩ := hH.c5 1 rfl; obtain ⟨q3_0, q3_1, q3_2, q3_3, q3_4, l3_⟩ := hH.c5 3 rfl; obtain ⟨q5_0, q5_1, q5_2, l5_⟩ := hH.c3 5 rfl; obtain ⟨q7_0, q7_1, q7_2, l7_⟩ := hH.c3 7 rfl; have f7_0 := hH.fr 7 0 rfl; have f7_1 := hH.fr 7 1 rfl; have f7_2 := hH.fr 7 2 rfl; have c_hu0 := hH.ext.cell hu0; have c_hu1 := hH.ext.cell hu1; have c_hu2 := hH.ext.cell hu2; have c_hcx := hH.ext.cell hcx; have c_hcd := hH.ext.cell hcd
        go_upto_region 13 with (at_builtin; refine wpList_app _ rfl _ _ 27 rfl _ _ rfl rfl _ (run_push _ _ w.heap.size _ FI x (hH.own (k := 8) rfl) (by rw [HNL.out]; omega) hH.size) ?_; rintro v6 w6 ⟨o6, g6, n6⟩; obtain ⟨a8, c8, hv8⟩ := o6.shape1 (nl + 1) (by rw [List.length_append, HNL.out]; rfl); subst hv8; have hHp := hH.pushed (k := 8) rfl o6 g6 n6; have yB := hHp.blk (k := 7) rfl; have yl := yB.lt; have y0 := yB.cell (j := 0) rfl; have y0f := yB.free 0; clear yB)
        have hHq := hHp.setB (k := 7) rfl 0 (.slice a8 (nl + 1) c8)
        clear hH hHp g6 n6 o6
        obtain ⟨wv, hwv⟩ : ∃ q, q = w6.setCell ⟨wn5.heap.size, 0, none⟩ (.slice a8 (nl + 1) c8) := ⟨_, rfl⟩
        rw [← hwv] at hHq ⊢; have hH : Held w wv [aB (w.heap.size) 29 [.int .i64 k, .int .i64 p, .int .i64 n, .slice (some ⟨bT, oT, none⟩) m cV, .slice aO op.length cO], aB (w.heap.size + 1) 29 [.int .i64 0, .int .i64 0, .int .i64 0, .slice none 0 0, .slice none 0 0], aI (.slice xa4 op.length ca4) op, aB qa6 29 [.int .i64 k, .int .i64 p, .int .i64 n, .slice aS j cS, .slice xa4 op.length ca4], aTs (.slice aS j cS) cs QS, aB (wq.heap.size) 32 [.slice (some ⟨bA, oA, none⟩) tl.length f1, .slice (some ⟨bD, oD, none⟩) tl.length f2, .slice e3 m3 f3], aI (.slice x4 m4 c4) (flat xs), aB (wn5.heap.size) 32 [.slice a8 (nl + 1) c8, .slice a7 nl c7, .slice x4 m4 c4], aI (.slice a8 (nl + 1) c8) (FI ++ [x]), aI (.slice a7 nl c7) (FI.map dm)] := hHq; clear hwv hHq y0 y0f yl
        replace hH := hH.mores 1
        replace hH : Held w wv [aB (w.heap.size) 29 [.int .i64 k, .int .i64 p, .int .i64 n, .slice (some ⟨bT, oT, none⟩) m cV, .slice aO op.length cO], aB (w.heap.size + 1) 29 [.int .i64 0, .int .i64 0, .int .i64 0, .slice none 0 0, .slice none 0 0], aI (.slice xa4 op.length ca4) op, aB qa6 29 [.int .i64 k, .int .i64 p, .int .i64 n, .slice aS j cS, .slice xa4 op.length ca4], aTs (.slice aS j cS) cs QS, aB (wq.heap.size) 32 [.slice (some ⟨bA, oA, none⟩) tl.length f1, .slice (some ⟨bD, oD, none⟩) tl.length f2, .slice e3 m3 f3], aI (.slice x4 m4 c4) (flat xs), aB (wn5.heap.size) 32 [.slice a8 (nl + 1) c8, .slice a7 nl c7, .slice x4 m4 c4], aI (.slice a8 (nl + 1) c8) (FI ++ [x]), aI (.slice a7 nl c7) (FI.map dm), emp] := hH
        refine wp_region_steps ?Fd1 (fun b t wx => Held w wx [aB (w.heap.size) 29 [.int .i64 k, .int .i64 p, .int .i64 n, .slice (some ⟨bT, oT, none⟩) m cV, .slice aO op.length cO], aB (w.heap.size + 1) 29 [.int .i64 0, .int .i64 0, .int .i64 0, .slice none 0 0, .slice none 0 0], aI (.slice xa4 op.length ca4) op, aB qa6 29 [.int .i64 k, .int .i64 p, .int .i64 n, .slice aS j cS, .slice xa4 op.length ca4], aTs (.slice aS j cS) cs QS, aB (wq.heap.size) 32 [.slice (some ⟨bA, oA, none⟩) tl.length f1, .slice (some ⟨bD, oD, none⟩) tl.length f2, .slice e3 m3 f3], aI (.slice x4 m4 c4) (flat xs), (bif b 10 then aB (wn5.heap.size) 32 [.slice a8 (nl + 1) c8, t 8, .slice x4 m4 c4] else aB (wn5.heap.size) 32 [.slice a8 (nl + 1) c8, .slice a7 nl c7, .slice x4 m4 c4]), aI (.slice a8 (nl + 1) c8) (FI ++ [x]), (bif b 8 then aI (t 8) (FI.map dm ++ [dm x]) else aI (.slice a7 nl c7) (FI.map dm)), (bif b 7 then aI (t 7) [dm x] else emp)] ∧ (b 0 = true → t 0 = .pointer (some ⟨wn5.heap.size, 1, none⟩)) ∧ (b 1 = true → t 1 = .slice a7 nl c7) ∧ (b 2 = true → t 2 = .pointer (some ⟨wq.heap.size, 1, none⟩)) ∧ (b 3 = true → t 3 = .slice (some ⟨bD, oD, none⟩) tl.length f2) ∧ (b 4 = true → t 4 = .int .i64 (i : Int)) ∧ (b 5 = true → t 5 = .pointer (some ⟨bD, oD + i, none⟩)) ∧ (b 6 = true → t 6 = .int .i64 (dm x)) ∧ (b 7 = true → ∃ x c, t 7 = .slice x 1 c) ∧ (b 8 = true → ∃ a c, t 8 = .slice a (nl + 1) c) ∧ (b 9 = true → t 9 = .pointer (some ⟨wn5.heap.size, 1, none⟩))) ?hFd1 (by kernel_rfl) (by kernel_rfl) ?hJd1 ?hSd1 ?hEd1
        (case hFd1 => intro t; simp only [putAll, Act.put, List.setIfInBounds_toArray, List.set_cons_zero, List.set_cons_succ, Nat.reduceAdd, Nat.zero_add]; exact rfl)
        case hJd1 => exact ⟨hH.grow ((Ext.refl _).drew), nof, nof, nof, nof, nof, nof, nof, nof, nof, nof⟩
        case hSd1 => as_aux_lemma =>
          refine AllSteps.cons (j := 1) rfl (fun b t wx hJ hb hd hcl Kc hK => ?_) ?_
          · obtain ⟨hH, v0, v1, v2, v3, v4, v5, v6, v7, v8, v9⟩ := hJ
            have c_hcd := hH.ext.cell hcd
            go_simp
            refine hK.out _ ?_ _ ?_ ?_; rotate_left 2
            · rfl
            exact ⟨hH, fun _ => rfl, v1, v2, v3, v4, v5, v6, v7, v8, v9⟩
          refine AllSteps.cons (j := 2) rfl (fun b t wx hJ hb hd hcl Kc hK => ?_) ?_
          · obtain ⟨hH, v0, v1, v2, v3, v4, v5, v6, v7, v8, v9⟩ := hJ
            have d0 := hd.out 0 (by kernel_rfl)
            have n10 : b 10 = false := Bool.eq_false_iff.2 fun h => absurd (hcl.out 10 1 (by kernel_rfl) (h)) (by rw [hb]; exact Bool.false_ne_true)
            have r0 := v0 d0
            have hN := hH; (try simp only [hb, d0, n10, cond_true, cond_false] at hN)
            have c_hcd := hH.ext.cell hcd
            have q7_1 := hN.cl 7 1 rfl rfl
            go_simp
            refine hK.out _ ?_ _ ?_ ?_; rotate_left 2
            · (try simp only [r0]); rfl
            exact ⟨hH, v0, fun _ => rfl, v2, v3, v4, v5, v6, v7, v8, v9⟩
          refine AllSteps.cons (j := 3) rfl (fun b t wx hJ hb hd hcl Kc hK => ?_) ?_
          · obtain ⟨hH, v0, v1, v2, v3, v4, v5, v6, v7, v8, v9⟩ := hJ
            have c_hcd := hH.ext.cell hcd
            go_simp
            refine hK.out _ ?_ _ ?_ ?_; rotate_left 2
            · rfl
            exact ⟨hH, v0, v1, fun _ => rfl, v3, v4, v5, v6, v7, v8, v9⟩
          refine AllSteps.cons (j := 4) rfl (fun b t wx hJ hb hd hcl Kc hK => ?_) ?_
          · obtain ⟨hH, v0, v1, v2, v3, v4, v5, v6, v7, v8, v9⟩ := hJ
            have d2 := hd.out 2 (by kernel_rfl); have r2 := v2 d2; have c_hcd := hH.ext.cell hcd; have q5_1 := hH.cl 5 1 rfl rfl
            go_simp
            refine hK.out _ ?_ _ ?_ ?_; rotate_left 2
            · (try simp only [r2]); rfl
            exact ⟨hH, v0, v1, v2, fun _ => rfl, v4, v5, v6, v7, v8, v9⟩
          refine AllSteps.cons (j := 5) rfl (fun b t wx hJ hb hd hcl Kc hK => ?_) ?_
          · obtain ⟨hH, v0, v1, v2, v3, v4, v5, v6, v7, v8, v9⟩ := hJ
            have c_hcd := hH.ext.cell hcd
            go_simp
            refine hK.out _ ?_ _ ?_ ?_; rotate_left 2
            · rfl
            exact ⟨hH, v0, v1, v2, v3, fun _ => rfl, v5, v6, v7, v8, v9⟩
          refine AllSteps.cons (j := 6) rfl (fun b t wx hJ hb hd hcl Kc hK => ?_) ?_
          · obtain ⟨hH, v0, v1, v2, v3, v4, v5, v6, v7, v8, v9⟩ := hJ
            have d3 := hd.out 3 (by kernel_rfl); have d4 := hd.out 4 (by kernel_rfl); have r3 := v3 d3; have r4 := v4 d4; have c_hcd := hH.ext.cell hcd
            go_simp
            refine hK.out _ ?_ _ ?_ ?_; rotate_left 2
            · (try simp only [r3, r4]); rfl
            exact ⟨hH, v0, v1, v2, v3, v4, fun _ => rfl, v6, v7, v8, v9⟩
          refine AllSteps.cons (j := 7) rfl (fun b t wx hJ hb hd hcl Kc hK => ?_) ?_
          · obtain ⟨hH, v0, v1, v2, v3, v4, v5, v6, v7, v8, v9⟩ := hJ
            have d5 := hd.out 5 (by kernel_rfl); have r5 := v5 d5; have c_hcd := hH.ext.cell hcd
            go_simp
            refine hK.out _ ?_ _ ?_ ?_; rotate_left 2
            · (try simp only [r5]); rfl
            exact ⟨hH, v0, v1, v2, v3, v4, v5, fun _ => rfl, v7, v8, v9⟩
          refine AllSteps.cons (j := 8) rfl (fun b t wx hJ hb hd hcl Kc hK => ?_) ?_
          · obtain ⟨hH, v0, v1, v2, v3, v4, v5, v6, v7, v8, v9⟩ := hJ
            have d6 := hd.out 6 (by kernel_rfl); have r6 := v6 d6
            have hN := hH; (try simp only [hb, d6, cond_true, cond_false] at hN)
            go_simp
            refine hK.out _ ?_ _ ?_ ?_; rotate_left 2
            · (try simp only [r6]); rfl
            exact ⟨by have hX := hN.built 10 [dm x] 1 rfl (by simp [maxLen]) #[.int .i64 (dm x)] rfl; simpa only [List.set_cons_zero, List.set_cons_succ, updB, updV, blkOf_mk, tup0_mk, partsOf3, Nat.reduceBEq, cond_true, cond_false, hb, d6, r6] using hX, v0, v1, v2, v3, v4, v5, v6, fun _ => ⟨_, _, rfl⟩, v8, v9⟩
          refine AllSteps.cons (j := 9) rfl (fun b t wx hJ hb hd hcl Kc hK => ?_) ?_
          · obtain ⟨hH, v0, v1, v2, v3, v4, v5, v6, v7, v8, v9⟩ := hJ
            have d1 := hd.out 1 (by kernel_rfl); have d7 := hd.out 7 (by kernel_rfl)
            have n10 : b 10 = false := Bool.eq_false_iff.2 fun h => absurd (hcl.out 10 8 (by kernel_rfl) (h)) (by rw [hb]; exact Bool.false_ne_true)
            have r1 := v1 d1; have r7 := v7 d7
            obtain ⟨x_7, c_7, r7⟩ := r7
            have hN := hH; (try simp only [hb, d1, d7, n10, cond_true, cond_false] at hN)
            refine step_app wx rfl _ _ 27 rfl (.slice a7 nl c7) (t 7) (by first | rfl | (go_simp; done)) (by first | rfl | (go_simp; done)) _ (run_pushes _ wx 0 _ _ (FI.map dm) [dm x] (hN.own (k := 9) rfl).zero (by have h := hN.ints (k := 10) rfl; exact h) (by have h1 : (FI.map dm).length = nl := (by rw [List.length_map]; exact HNL.out); simp only [h1, List.length_singleton]; omega) (Nat.zero_le _)) ?_; rintro va wa ⟨oa, ga, na⟩; rw [show FI.map dm ++ [dm x] = FI.map dm ++ [dm x] from rfl] at oa
            obtain ⟨aa, ca, hva, _, _⟩ := oa.ints.val; subst hva
            refine hK.out _ ?_ _ ?_ ?_; rotate_left 2
            · (try simp only [r1, r7]); rfl
            exact ⟨by have hX := hN.pushed (k := 9) rfl oa ga na; simpa only [List.set_cons_zero, List.set_cons_succ, updB, updV, blkOf_mk, tup0_mk, partsOf3, Nat.reduceBEq, cond_true, cond_false, hb, d1, d7, n10, r1, r7] using hX, v0, v1, v2, v3, v4, v5, v6, v7, fun _ => ⟨_, _, by rw [show (FI.map dm ++ [dm x]).length = nl + 1 by rw [List.length_append, List.length_map, HNL.out]; rfl]; rfl⟩, v9⟩
          refine AllSteps.cons (j := 10) rfl (fun b t wx hJ hb hd hcl Kc hK => ?_) ?_
          · obtain ⟨hH, v0, v1, v2, v3, v4, v5, v6, v7, v8, v9⟩ := hJ
            have d0 := hd.out 0 (by kernel_rfl); have d1 := hd.out 1 (by kernel_rfl); have d2 := hd.out 2 (by kernel_rfl); have d3 := hd.out 3 (by kernel_rfl); have d4 := hd.out 4 (by kernel_rfl); have d5 := hd.out 5 (by kernel_rfl); have d6 := hd.out 6 (by kernel_rfl); have d7 := hd.out 7 (by kernel_rfl); have d8 := hd.out 8 (by kernel_rfl); have r0 := v0 d0; have r1 := v1 d1; have r2 := v2 d2; have r3 := v3 d3; have r4 := v4 d4; have r5 := v5 d5; have r6 := v6 d6; have r7 := v7 d7; have r8 := v8 d8
            obtain ⟨x_7, c_7, r7⟩ := r7
            obtain ⟨a_8, c_8, r8⟩ := r8
            have c_hcd := hH.ext.cell hcd
            go_simp
            refine hK.out _ ?_ _ ?_ ?_; rotate_left 2
            · (try simp only [r0, r1, r2, r3, r4, r5, r6, r7, r8]); rfl
            exact ⟨hH, v0, v1, v2, v3, v4, v5, v6, v7, v8, fun _ => rfl⟩
          refine AllSteps.cons (j := 11) rfl (fun b t wx hJ hb hd hcl Kc hK => ?_) ?_
          · obtain ⟨hH, v0, v1, v2, v3, v4, v5, v6, v7, v8, v9⟩ := hJ
            have d0 := hd.out 0 (by kernel_rfl); have d1 := hd.out 1 (by kernel_rfl); have d2 := hd.out 2 (by kernel_rfl); have d3 := hd.out 3 (by kernel_rfl); have d4 := hd.out 4 (by kernel_rfl); have d5 := hd.out 5 (by kernel_rfl); have d6 := hd.out 6 (by kernel_rfl); have d7 := hd.out 7 (by kernel_rfl); have d8 := hd.out 8 (by kernel_rfl); have d9 := hd.out 9 (by kernel_rfl); have r0 := v0 d0; have r1 := v1 d1; have r2 := v2 d2; have r3 := v3 d3; have r4 := v4 d4; have r5 := v5 d5; have r6 := v6 d6; have r7 := v7 d7; have r8 := v8 d8; have r9 := v9 d9
            obtain ⟨x_7, c_7, r7⟩ := r7
            obtain ⟨a_8, c_8, r8⟩ := r8
            have hN := hH; (try simp only [hb, d0, d1, d2, d3, d4, d5, d6, d7, d8, d9, cond_true, cond_false] at hN)
            have B := hN.blk (k := 7) rfl; have fB := B.free 1; have zB := B.cell (j := 1) rfl; have lB := B.lt
            go_simp
            refine hK.out _ undef _ ?_ ?_; rotate_left 1
            · (try simp only [r0, r1, r2, r3, r4, r5, r6, r7, r8, r9]); rfl
            exact ⟨by have hX := hN.setB (k := 7) rfl 1 (t 8); simpa only [List.set_cons_zero, List.set_cons_succ, updB, updV, blkOf_mk, tup0_mk, partsOf3, Nat.reduceBEq, cond_true, cond_false, hb, d0, d1, d2, d3, d4, d5, d6, d7, d8, d9, r0, r1, r2, r3, r4, r5, r6, r7, r8, r9] using hX, v0, v1, v2, v3, v4, v5, v6, v7, v8, v9⟩
          exact AllSteps.nil
        case hEd1 =>
         intro b t wd1 hJ hall
         obtain ⟨hHd1, v0, v1, v2, v3, v4, v5, v6, v7, v8, v9⟩ := hJ
         have a0 := hall 0 (by decide); have a1 := hall 1 (by decide); have a2 := hall 2 (by decide); have a3 := hall 3 (by decide); have a4 := hall 4 (by decide); have a5 := hall 5 (by decide); have a6 := hall 6 (by decide); have a7 := hall 7 (by decide); have a8 := hall 8 (by decide); have a9 := hall 9 (by decide); have a10 := hall 10 (by decide)
         (try simp only [a0, a1, a2, a3, a4, a5, a6, a7, a8, a9, a10, cond_true] at hHd1)
         replace v0 := v0 a0; replace v1 := v1 a1; replace v2 := v2 a2; replace v3 := v3 a3; replace v4 := v4 a4; replace v5 := v5 a5; replace v6 := v6 a6; replace v7 := v7 a7; replace v8 := v8 a8; replace v9 := v9 a9
         clear hall a0 a1 a2 a3 a4 a5 a6 a7 a8 a9 a10
         generalize t 9 = x9 at hHd1 v9 ⊢; generalize t 8 = x8 at hHd1 v8 ⊢; generalize t 7 = x7 at hHd1 v7 ⊢; generalize t 6 = x6 at hHd1 v6 ⊢; generalize t 5 = x5 at hHd1 v5 ⊢; generalize t 4 = x4 at hHd1 v4 ⊢; generalize t 3 = x3 at hHd1 v3 ⊢; generalize t 2 = x2 at hHd1 v2 ⊢; generalize t 1 = x1 at hHd1 v1 ⊢; generalize t 0 = x0 at hHd1 v0 ⊢; subst v0; subst v1; subst v2; subst v3; subst v4; subst v5; subst v6
         obtain ⟨xd17, cd17, rfl⟩ := v7
         obtain ⟨ad18, cd18, rfl⟩ := v8
         subst v9
         clear b
         replace hH := hHd1; clear hHd1
         replace hH : Held w wd1 [aB (w.heap.size) 29 [.int .i64 k, .int .i64 p, .int .i64 n, .slice (some ⟨bT, oT, none⟩) m cV, .slice aO op.length cO], aB (w.heap.size + 1) 29 [.int .i64 0, .int .i64 0, .int .i64 0, .slice none 0 0, .slice none 0 0], aI (.slice xa4 op.length ca4) op, aB qa6 29 [.int .i64 k, .int .i64 p, .int .i64 n, .slice aS j cS, .slice xa4 op.length ca4], aTs (.slice aS j cS) cs QS, aB (wq.heap.size) 32 [.slice (some ⟨bA, oA, none⟩) tl.length f1, .slice (some ⟨bD, oD, none⟩) tl.length f2, .slice e3 m3 f3], aI (.slice x4 m4 c4) (flat xs), aB (wn5.heap.size) 32 [.slice a8 (nl + 1) c8, .slice ad18 (nl + 1) cd18, .slice x4 m4 c4], aI (.slice a8 (nl + 1) c8) (FI ++ [x]), aI (.slice ad18 (nl + 1) cd18) (FI.map dm ++ [dm x]), aI (.slice xd17 1 cd17) [dm x]] := hH
         go_wp2_with fail
         go_roundw
         case rel => exact ⟨i + 1, _, _, by omega, by go_num, by rw [HS2.out, List.map_append]; exact hH.sub (.cons_cons _ (.cons_cons _ (.cons_cons _ (.cons_cons _ (.cons_cons _ (.cons_cons _ (.cons_cons _ (.cons_cons _ (.cons_cons _ (.cons_cons _ (.cons _ .slnil)))))))))))⟩
         case measure => simp [RowKit.intOf]; omega
       ·
        have HS2 : Hid (LF (i + 1) = FI) := Lib.hid (by rw [HST.out, if_neg (by unfold keepU; rw [decide_eq_false (show ¬ 1 < dm x by omega), eq_false_of_ne_true hh]; exact Bool.false_ne_true), List.append_nil])
        rw [eq_false_of_ne_true hh]; clear hh
        go_wp2_with fail
        go_roundw
        case rel => exact ⟨i + 1, _, _, by omega, by go_num, by rw [HS2.out]; exact hH⟩
        case measure => simp [RowKit.intOf]; omega
     ·
      have hie : i = tl.length := by omega
      have HFF : Hid (tl.filter (keepU dm op) = FI) := Lib.hid (by rw [← HFE.out, ← hie, HFI.out])
      rw [HFF.out] at HMS
      clear hie
      replace hH := hH.join3 (k1 := 8) (k2 := 9) (k3 := 6) rfl rfl rfl (by decide) (by decide) (by decide)
      replace hH : Held w wk [aB (w.heap.size) 29 [.int .i64 k, .int .i64 p, .int .i64 n, .slice (some ⟨bT, oT, none⟩) m cV, .slice aO op.length cO], aB (w.heap.size + 1) 29 [.int .i64 0, .int .i64 0, .int .i64 0, .slice none 0 0, .slice none 0 0], aI (.slice xa4 op.length ca4) op, aB qa6 29 [.int .i64 k, .int .i64 p, .int .i64 n, .slice aS j cS, .slice xa4 op.length ca4], aTs (.slice aS j cS) cs QS, aB (wq.heap.size) 32 [.slice e1 tl.length f1, .slice e2 tl.length f2, .slice e3 m3 f3], emp, aB (wn5.heap.size) 32 [.slice a6 nl c6, .slice a7 nl c7, .slice x4 m4 c4], aT (.agg #[.slice a6 nl c6, .slice a7 nl c7, .slice x4 m4 c4]) FI (FI.map dm) (flat xs), emp] := hH
      obtain ⟨q0_0, q0_1, q0_2, q0_3, q0_4, l0_⟩ := hH.c5 0 rfl; obtain ⟨q1_0, q1_1, q1_2, q1_3, q1_4, l1_⟩ := hH.c5 1 rfl; obtain ⟨q3_0, q3_1, q3_2, q3_3, q3_4, l3_⟩ := hH.c5 3 rfl; obtain ⟨q5_0, q5_1, q5_2, l5_⟩ := hH.c3 5 rfl; obtain ⟨q7_0, q7_1, q7_2, l7_⟩ := hH.c3 7 rfl; have c_hu0 := hH.ext.cell hu0; have c_hu1 := hH.ext.cell hu1; have c_hu2 := hH.ext.cell hu2
      go_upto_region 15 with fail
      clear q0_0 q0_1 q0_2 q0_3 q0_4 l0_ q1_0 q1_1 q1_2 q1_3 q1_4 l1_ q3_0 q3_1 q3_2 q3_3 q3_4 l3_ q5_0 q5_1 q5_2 l5_ q7_0 q7_1 q7_2 l7_ c_hu0 c_hu1 c_hu2; obtain ⟨q0_0, q0_1, q0_2, q0_3, q0_4, l0_⟩ := hH.c5 0 rfl; obtain ⟨q1_0, q1_1, q1_2, q1_3, q1_4, l1_⟩ := hH.c5 1 rfl; obtain ⟨q3_0, q3_1, q3_2, q3_3, q3_4, l3_⟩ := hH.c5 3 rfl; have f3_0 := hH.fr 3 0 rfl; have f3_1 := hH.fr 3 1 rfl; have f3_2 := hH.fr 3 2 rfl; have f3_3 := hH.fr 3 3 rfl; have f3_4 := hH.fr 3 4 rfl; obtain ⟨q5_0, q5_1, q5_2, l5_⟩ := hH.c3 5 rfl; obtain ⟨q7_0, q7_1, q7_2, l7_⟩ := hH.c3 7 rfl; have c_hu0 := hH.ext.cell hu0; have c_hu1 := hH.ext.cell hu1; have c_hu2 := hH.ext.cell hu2
      go_wp2_with (at_builtin; refine wpList_app _ rfl _ _ 26 rfl _ _ rfl rfl _ (run_pushT2 _ (hH.grow ((Ext.refl _).alloc _)) (k1 := 4) (k2 := 8) rfl rfl (by decide) (row_one3 _ _ _ _ _) (by rw [HQL.out]; omega)) ?_; rintro vp wp ⟨hHp, gp⟩; obtain ⟨ap, cp, hvp, _, _⟩ := (hHp.tensS (k := 4) rfl).val; rw [List.length_append, List.length_singleton, HQL.out] at hvp; subst hvp; have yB := hHp.blk (k := 3) rfl; have yl := yB.lt; have y3 := yB.cell (j := 3) rfl; have y3f := yB.free 3; clear yB)
      have hHq := hHp.setB (k := 3) rfl 3 (.slice ap (j + 1) cp)
      go_roundw
      case rel => exact ⟨j + 1, _, _, by omega, by go_num, by rw [HMS.out]; exact hHq.sub (.cons_cons _ (.cons_cons _ (.cons_cons _ (.cons_cons _ (.cons_cons _ (.cons _ (.cons _ (.cons _ (.cons _ (.cons _ .slnil))))))))))⟩
      case measure => simp [RowKit.intOf]; omega
   ·
    have hje : j = m := by omega
    subst hje
    obtain ⟨q0_0, q0_1, q0_2, q0_3, q0_4, l0_⟩ := hH.c5 0 rfl; obtain ⟨q1_0, q1_1, q1_2, q1_3, q1_4, l1_⟩ := hH.c5 1 rfl; have f1_0 := hH.fr 1 0 rfl; have f1_1 := hH.fr 1 1 rfl; have f1_2 := hH.fr 1 2 rfl; have f1_3 := hH.fr 1 3 rfl; have f1_4 := hH.fr 1 4 rfl; obtain ⟨q3_0, q3_1, q3_2, q3_3, q3_4, l3_⟩ := hH.c5 3 rfl
    go_wp2_with fail
    refine bodyPost_ret (v := .agg #[.int .i64 k, .int .i64 p, .int .i64 n, .slice aS j cS, .slice xa4 op.length ca4]) (by simp [results, Try.results59, go_sem, *]) rfl ?_
    rw [HQS.out]
    exact ⟨_, _, cs, rfl, ((hH.setB5 (k := 1) rfl (.int .i64 k) (.int .i64 p) (.int .i64 n) (.slice aS j cS) (.slice xa4 op.length ca4)).sub (.cons _ (.cons _ (.cons_cons _ (.cons _ (.cons_cons _ .slnil)))))).swap2⟩
end Go.Proofs.Ytpegckmagiaggaa
