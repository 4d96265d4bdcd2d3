/- axesOf, occurring of the program. -/
import Derived.Test.YtlgjddgajdjllaaGreatDoorTNetM
set_option linter.unusedSimpArgs false
set_option linter.unusedVariables false
namespace Go.Proofs.YtlgjddgajdjllaaGreatDoor
open Go.RowKit
theorem HeldX.setI {ex : Option Nat} {a w : World} {L : List Asn} {k b n c : Nat} {l : List Int} (h : HeldX ex a w L) (hk : L[k]? = some (aI (.slice (some ⟨b, 0, none⟩) n c) l)) (j : Nat) (hj : j < l.length) (x : Int) :
    HeldX ex a (w.setCell ⟨b, j, none⟩ (.int .i64 x)) (L.set k (aI (.slice (some ⟨b, 0, none⟩) n c) (l.set j x))) :=
  h.turn hk (grown_setCell (grown_refl w (some b)) j _) (fun q hq => by cases hq; simp [aI, Value.ownBlock]) (OwnI.set (h.get hk : OwnI w 0 _ _) j hj x) fun q hq => .inl hq
theorem HeldX.madeI {ex : Option Nat} {a w : World} {L : List Asn} (h : HeldX ex a w L) (k n : Nat) (hn : n ≤ 1000000) : HeldX ex a (w.alloc (.cells (madeCells #[.int .i64 0] n) 3)) (L.set k (aI (.slice (some ⟨w.heap.size, 0, none⟩) n n) (List.replicate n 0))) :=
  h.addI k ((Ext.refl w).alloc _) (OwnI.mk' (B := w.heap.size) (by simp) (Nat.le_refl _) (by have := Blk.new w (madeCells #[.int .i64 0] n) 3; rw [made_zero] at this; exact this) (by unfold maxLen; omega)) (Nat.le_refl _)
def fillZ (l : List Int) (j : Nat) : List Int := l.take j ++ List.replicate (l.length - j) 0
theorem fillZ_zero (l : List Int) : fillZ l 0 = List.replicate l.length 0 := by simp [fillZ]
theorem fillZ_all (l : List Int) : fillZ l l.length = l := by simp [fillZ]
theorem fillZ_len (l : List Int) (j : Nat) (h : j ≤ l.length) : (fillZ l j).length = l.length := by simp [fillZ]; omega
theorem fillZ_set {l : List Int} {j : Nat} {x : Int} (h : l[j]? = some x) : (fillZ l j).set j x = fillZ l (j + 1) := by
  obtain ⟨hlt, rfl⟩ := List.getElem?_eq_some_iff.1 h
  have e : l.length - j = (l.length - (j + 1)) + 1 := by omega
  have e2 : (l.take j).length = j := by rw [List.length_take]; omega
  unfold fillZ
  rw [e, List.replicate_succ, List.set_append_right _ _ (by omega), e2, Nat.sub_self, List.set_cons_zero, List.take_succ_eq_append_getElem hlt, List.append_assoc]
  rfl
set_option maxRecDepth 100000 in
set_option maxHeartbeats 4000000 in
theorem axesOf_any {dm : Int → Int} {S L : List Int} (hL : ∀ x ∈ L, (0 ≤ x ∧ x ≤ 99) ∧ x ∈ S) (hlen : L.length ≤ 1000) (v : Value) (w : World) (hv : IntS w v L) :
 Calls Tryz.prog 32 #[.agg (arrV (arrL dm S)), v] w fun e w' => ∃ x y, e = .returned (.agg #[x, y, .slice none 0 0]) ∧ Held w w' [aI x L, aI y (L.map dm)] := by
 obtain ⟨aL, cL, rfl, hcL1, hcL2⟩ := hv.val
 have HL := Lib.hid hL; clear hL
 have hmk := mkInts L.length (by omega)
 obtain ⟨A, hA⟩ : ∃ A, arrL dm S = A := ⟨_, rfl⟩
 rw [hA]
 have HA := Lib.hid hA; clear hA
 obtain ⟨D, hD⟩ : ∃ D, L.map dm = D := ⟨_, rfl⟩
 have hDl : D.length = L.length := by rw [← hD, List.length_map]
 rw [hD]
 have HD := Lib.hid hD; have HDL := Lib.hid hDl; clear hD hDl
 go_enter Tryz.func32, Tryz.ntmps32
 go_wp2_with fail
 have hH : Held w w [] := Held.new (Ext.refl w) 0
 have hB : Held w (w.alloc (.cells (arrV A) 62)) [aB (w.heap.size) 62 (ints A)] := by
  have h := (hH.mores 1).addB 0 (arrV A) 62; rw [arrV_list] at h
  exact h
 have hsz : (w.alloc (.cells (arrV A) 62)).heap.size = w.heap.size + 1 := by simp
 generalize w.alloc (.cells (arrV A) 62) = wn1 at hB hsz ⊢
 replace hH := hB; have HSZwn1 := Lib.hid hsz; clear hB hsz
 have hB : Held w (wn1.alloc (.cells #[.slice none 0 0, .slice none 0 0, .slice none 0 0] 52)) [aB (w.heap.size) 62 (ints A), aB (w.heap.size + 1) 52 [.slice none 0 0, .slice none 0 0, .slice none 0 0]] := by
  have h := (hH.mores 1).addB 1 #[.slice none 0 0, .slice none 0 0, .slice none 0 0] 52
  rw [HSZwn1.out] at h
  exact h
 have hsz : (wn1.alloc (.cells #[.slice none 0 0, .slice none 0 0, .slice none 0 0] 52)).heap.size = w.heap.size + 1 + 1 := by rw [← HSZwn1.out]; simp
 generalize wn1.alloc (.cells #[.slice none 0 0, .slice none 0 0, .slice none 0 0] 52) = wn2 at hB hsz ⊢
 replace hH := hB; have HSZwn2 := Lib.hid hsz; clear hB hsz
 replace hH := hH.mores 3
 replace hH : Held w wn2 [aB (w.heap.size) 62 (ints A), aB (w.heap.size + 1) 52 [.slice none 0 0, .slice none 0 0, .slice none 0 0], emp, emp, emp] := hH
 refine wp_region_steps ?Fa (fun b t wx => Held w wx [aB (w.heap.size) 62 (ints A), aB (w.heap.size + 1) 52 [.slice none 0 0, .slice none 0 0, .slice none 0 0], (bif b 1 then aI (t 1) L else emp), (bif b 4 then aI (t 4) (List.replicate L.length 0) else emp), (bif b 7 then aB (blkOf (t 6)) 52 (partsOf (t 5)) else (bif b 6 then aB (blkOf (t 6)) 52 [.slice none 0 0, .slice none 0 0, .slice none 0 0] else emp))] ∧ (b 0 = true → t 0 = .slice aL L.length cL) ∧ (b 1 = true → ∃ x c, t 1 = .slice x L.length c) ∧ (b 2 = true → t 2 = .slice aL L.length cL) ∧ (b 3 = true → t 3 = .int .i64 (L.length : Int)) ∧ (b 4 = true → ∃ q, t 4 = .slice (some ⟨q, 0, none⟩) L.length L.length) ∧ (b 5 = true → t 5 = .agg #[t 1, t 4, .slice none 0 0]) ∧ (b 6 = true → ∃ q, t 6 = .pointer (some ⟨q, 0, none⟩))) ?hFa (by kernel_rfl) (by kernel_rfl) ?hJa ?hSa ?hEa
 (case hFa => intro t; simp only [putAll, Act.put, List.setIfInBounds_toArray, List.set_cons_zero, List.set_cons_succ, Nat.reduceAdd, Nat.zero_add]; exact rfl)
 case hJa => exact ⟨hH.grow ((Ext.refl _).drew), nof, nof, nof, nof, nof, nof, nof⟩
 case hSa => as_aux_lemma =>
   refine AllSteps.cons (j := 1) rfl (fun b t wx hJ hb hd hcl Kc hK => ?_) ?_
   · obtain ⟨hH, v0, v1, v2, v3, v4, v5, v6⟩ := hJ
     go_simp
     refine hK.out _ ?_ _ ?_ ?_; rotate_left 2
     · rfl
     exact ⟨hH, fun _ => rfl, v1, v2, v3, v4, v5, v6⟩
   refine AllSteps.cons (j := 2) rfl (fun b t wx hJ hb hd hcl Kc hK => ?_) ?_
   · obtain ⟨hH, v0, v1, v2, v3, v4, v5, v6⟩ := hJ
     have d0 := hd.out 0 (by kernel_rfl)
     have n5 : b 5 = false := Bool.eq_false_iff.2 fun h => absurd (hcl.out 5 1 (by kernel_rfl) (h)) (by rw [hb]; exact Bool.false_ne_true)
     have r0 := v0 d0
     have hN := hH; (try simp only [hb, d0, n5, cond_true, cond_false] at hN)
     go_simp
     go_at_call 68
     refine (copyInts_any _ L _ (hv.ext hH.ext) (by omega)).mono ?_; rintro e1 w1 ⟨v4, rfl, o4, h4⟩
     obtain ⟨x4, c4, rfl, _, _⟩ := o4.ints.val
     (try go_simp)
     refine hK.out _ ?_ _ ?_ ?_; rotate_left 2
     · (try simp only [r0]); rfl
     exact ⟨by have hX := hN.addI 2 h4 o4 (Nat.le_refl _); simpa only [List.set_cons_zero, List.set_cons_succ, updB, updV, blkOf_mk, tup0_mk, partsOf3, Nat.reduceBEq, cond_true, cond_false, hb, d0, n5, r0] using hX, v0, fun _ => ⟨_, _, rfl⟩, v2, v3, v4, fun h => absurd (show b 5 = true from h) (by rw [n5]; exact Bool.false_ne_true), v6⟩
   refine AllSteps.cons (j := 3) rfl (fun b t wx hJ hb hd hcl Kc hK => ?_) ?_
   · obtain ⟨hH, v0, v1, v2, v3, v4, v5, v6⟩ := hJ
     go_simp
     refine hK.out _ ?_ _ ?_ ?_; rotate_left 2
     · rfl
     exact ⟨hH, v0, v1, fun _ => rfl, v3, v4, v5, v6⟩
   refine AllSteps.cons (j := 4) rfl (fun b t wx hJ hb hd hcl Kc hK => ?_) ?_
   · obtain ⟨hH, v0, v1, v2, v3, v4, v5, v6⟩ := hJ
     have d2 := hd.out 2 (by kernel_rfl); have r2 := v2 d2
     go_simp
     refine hK.out _ ?_ _ ?_ ?_; rotate_left 2
     · (try simp only [r2]); rfl
     exact ⟨hH, v0, v1, v2, fun _ => rfl, v4, v5, v6⟩
   refine AllSteps.cons (j := 5) rfl (fun b t wx hJ hb hd hcl Kc hK => ?_) ?_
   · obtain ⟨hH, v0, v1, v2, v3, v4, v5, v6⟩ := hJ
     have d3 := hd.out 3 (by kernel_rfl)
     have n5 : b 5 = false := Bool.eq_false_iff.2 fun h => absurd (hcl.out 5 4 (by kernel_rfl) (h)) (by rw [hb]; exact Bool.false_ne_true)
     have r3 := v3 d3
     have hN := hH; (try simp only [hb, d3, n5, cond_true, cond_false] at hN)
     go_simp
     refine hK.out _ ?_ _ ?_ ?_; rotate_left 2
     · (try simp only [r3]); rfl
     exact ⟨by have hX := hN.madeI 3 L.length (by omega); simpa only [List.set_cons_zero, List.set_cons_succ, updB, updV, blkOf_mk, tup0_mk, partsOf3, Nat.reduceBEq, cond_true, cond_false, hb, d3, n5, r3] using hX, v0, v1, v2, v3, fun _ => ⟨_, rfl⟩, fun h => absurd (show b 5 = true from h) (by rw [n5]; exact Bool.false_ne_true), v6⟩
   refine AllSteps.cons (j := 6) rfl (fun b t wx hJ hb hd hcl Kc hK => ?_) ?_
   · obtain ⟨hH, v0, v1, v2, v3, v4, v5, v6⟩ := hJ
     have d1 := hd.out 1 (by kernel_rfl); have d4 := hd.out 4 (by kernel_rfl)
     have n7 : b 7 = false := Bool.eq_false_iff.2 fun h => absurd (hcl.out 7 5 (by kernel_rfl) (h)) (by rw [hb]; exact Bool.false_ne_true)
     have r1 := v1 d1; have r4 := v4 d4
     obtain ⟨x_1, c_1, r1⟩ := r1
     obtain ⟨q_4, r4⟩ := r4
     have hN := hH; (try simp only [hb, d1, d4, n7, cond_true, cond_false] at hN)
     go_simp
     refine hK.out _ ?_ _ ?_ ?_; rotate_left 2
     · (try simp only [r1, r4]); rfl
     exact ⟨by have hX := hN; simpa only [List.set_cons_zero, List.set_cons_succ, updB, updV, blkOf_mk, tup0_mk, partsOf3, Nat.reduceBEq, cond_true, cond_false, hb, d1, d4, n7, r1, r4] using hX, v0, v1, v2, v3, v4, fun _ => (by show Value.agg _ = Value.agg #[t 1, t 4, _]; rw [r1, r4]), v6⟩
   refine AllSteps.cons (j := 7) rfl (fun b t wx hJ hb hd hcl Kc hK => ?_) ?_
   · obtain ⟨hH, v0, v1, v2, v3, v4, v5, v6⟩ := hJ
     have n7 : b 7 = false := Bool.eq_false_iff.2 fun h => absurd (hcl.out 7 6 (by kernel_rfl) (h)) (by rw [hb]; exact Bool.false_ne_true)
     have hN := hH; (try simp only [hb, n7, cond_true, cond_false] at hN)
     go_simp
     refine hK.out _ ?_ _ ?_ ?_; rotate_left 2
     · rfl
     exact ⟨by have hX := hN.addB 4 #[.slice none 0 0, .slice none 0 0, .slice none 0 0] 52; simpa only [List.set_cons_zero, List.set_cons_succ, updB, updV, blkOf_mk, tup0_mk, partsOf3, Nat.reduceBEq, cond_true, cond_false, hb, n7] using hX, v0, v1, v2, v3, v4, v5, fun _ => ⟨_, rfl⟩⟩
   refine AllSteps.cons (j := 8) rfl (fun b t wx hJ hb hd hcl Kc hK => ?_) ?_
   · obtain ⟨hH, v0, v1, v2, v3, v4, v5, v6⟩ := hJ
     have d0 := hd.out 0 (by kernel_rfl); have d1 := hd.out 1 (by kernel_rfl); have d2 := hd.out 2 (by kernel_rfl); have d3 := hd.out 3 (by kernel_rfl); have d4 := hd.out 4 (by kernel_rfl); have d5 := hd.out 5 (by kernel_rfl); have d6 := hd.out 6 (by kernel_rfl); have r0 := v0 d0; have r1 := v1 d1; have r2 := v2 d2; have r3 := v3 d3; have r4 := v4 d4; have r5 := v5 d5; have r6 := v6 d6
     obtain ⟨x_1, c_1, r1⟩ := r1
     obtain ⟨q_4, r4⟩ := r4
     obtain ⟨q_6, r6⟩ := r6
     have hN := hH; (try simp only [hb, d0, d1, d2, d3, d4, d5, d6, cond_true, cond_false] at hN)
     rw [r1, r4] at r5 -- d1 d4
     simp only [r6, r5, blkOf_mk, tup0_mk, partsOf3] at hN
     have B := hN.blk (k := 4) rfl
     have f0 := B.free 0; have z0 := B.cell (j := 0) rfl
     have f1 := B.free 1; have z1 := B.cell (j := 1) rfl
     have f2 := B.free 2; have z2 := B.cell (j := 2) rfl
     have lB := B.lt; have hmk0 := @tup0_mk
     go_simp
     refine hK.out _ undef _ ?_ ?_; rotate_left 1
     · (try simp only [r0, r1, r2, r3, r4, r5, r6]); rfl
     exact ⟨by have hX := hN.setB3' (k := 4) rfl (.slice x_1 L.length c_1) (.slice (some ⟨q_4, 0, none⟩) L.length L.length) (.slice none 0 0); simpa only [List.set_cons_zero, List.set_cons_succ, updB, updV, blkOf_mk, tup0_mk, partsOf3, Nat.reduceBEq, cond_true, cond_false, hb, d0, d1, d2, d3, d4, d5, d6, r0, r1, r2, r3, r4, r5, r6] using hX, v0, v1, v2, v3, v4, v5, v6⟩
   exact AllSteps.nil
 case hEa =>
  intro b t wa hJ hall
  obtain ⟨hHa, v0, v1, v2, v3, v4, v5, v6⟩ := hJ
  have a0 := hall 0 (by decide); have a1 := hall 1 (by decide); have a2 := hall 2 (by decide); have a3 := hall 3 (by decide); have a4 := hall 4 (by decide); have a5 := hall 5 (by decide); have a6 := hall 6 (by decide); have a7 := hall 7 (by decide)
  (try simp only [a0, a1, a2, a3, a4, a5, a6, a7, cond_true] at hHa)
  replace v0 := v0 a0; replace v1 := v1 a1; replace v2 := v2 a2; replace v3 := v3 a3; replace v4 := v4 a4; replace v5 := v5 a5; replace v6 := v6 a6
  clear hall a0 a1 a2 a3 a4 a5 a6 a7
  generalize t 6 = x6 at hHa v6 ⊢; generalize t 5 = x5 at hHa v5 ⊢; generalize t 4 = x4 at hHa v4 v5 ⊢; generalize t 3 = x3 at hHa v3 ⊢; generalize t 2 = x2 at hHa v2 ⊢; generalize t 1 = x1 at hHa v1 v5 ⊢; generalize t 0 = x0 at hHa v0 ⊢; subst v0
  obtain ⟨xa1, ca1, rfl⟩ := v1
  subst v2; subst v3
  obtain ⟨qa4, rfl⟩ := v4
  subst v5
  obtain ⟨qa6, rfl⟩ := v6
  simp only [blkOf_mk, tup0_mk, partsOf3] at hHa
  clear b
  replace hH := hHa; clear hHa
  replace hH : Held w wa [aB (w.heap.size) 62 (ints A), aB (w.heap.size + 1) 52 [.slice none 0 0, .slice none 0 0, .slice none 0 0], aI (.slice xa1 L.length ca1) L, aI (.slice (some ⟨qa4, 0, none⟩) L.length L.length) (List.replicate L.length 0), aB qa6 52 [.slice xa1 L.length ca1, .slice (some ⟨qa4, 0, none⟩) L.length L.length, .slice none 0 0]] := hH
  obtain ⟨q1_0, q1_1, q1_2, l1_⟩ := hH.c3 1 rfl; obtain ⟨q4_0, q4_1, q4_2, l4_⟩ := hH.c3 4 rfl
  go_wp2_with fail
  clear q1_0 q1_1 q1_2 l1_ q4_0 q4_1 q4_2 l4_
  go_loopw [16] (fun i wr => ∃ j : Nat, j ≤ L.length ∧ i = .int .i64 (j : Int) ∧ Held w wr [aB (w.heap.size) 62 (ints A), aB (w.heap.size + 1) 52 [.slice none 0 0, .slice none 0 0, .slice none 0 0], aI (.slice xa1 L.length ca1) L, aI (.slice (some ⟨qa4, 0, none⟩) L.length L.length) (fillZ D j), aB qa6 52 [.slice xa1 L.length ca1, .slice (some ⟨qa4, 0, none⟩) L.length L.length, .slice none 0 0]]) (fun i wr => L.length - (RowKit.intOf i).toNat)
  case atStart => exact ⟨0, Nat.zero_le _, rfl, by rw [fillZ_zero, HDL.out]; exact hH⟩
  case round =>
   clear hH hmk
   obtain ⟨j, hj, rfl, hH⟩ := hrel
   by_cases hlt : j < L.length
   ·
    obtain ⟨bL, oL, x, rfl, hcL, hx, _⟩ := (hv.ext hH.ext).get hlt
    obtain ⟨⟨hx0, hx1⟩, hxS⟩ := HL.out x (List.mem_of_getElem? hx)
    obtain ⟨c, rfl⟩ : ∃ c : Nat, x = (c : Int) := ⟨x.toNat, by omega⟩
    have hc : c < 100 := by omega
    have hAc : A[c]? = some (dm c) := by rw [← HA.out, arrL_get dm S hc, if_pos ((hasL_iff _ _).2 hxS)]
    have hDj : D[j]? = some (dm c) := by rw [← HD.out, List.getElem?_map, hx]; rfl
    have HDJ := Lib.hid (fillZ_set hDj)
    obtain ⟨F, hF⟩ : ∃ F, fillZ D j = F := ⟨_, rfl⟩
    have hFl : F.length = L.length := by rw [← hF, fillZ_len D j (by rw [HDL.out]; exact hj), HDL.out]
    rw [hF] at hH HDJ
    obtain ⟨z, hz⟩ : ∃ z, F[j]? = some z := ⟨_, List.getElem?_eq_getElem (by omega)⟩
    have hcF := ((hH.own (k := 3) rfl).cell hz).1
    have hfF := ((hH.own (k := 3) rfl).cell hz).2
    have hlF := ((hH.own (k := 3) rfl).block_lt rfl).2
    have hcA := (hH.blk (k := 0) rfl).cell (j := c) (u := .int .i64 (dm c)) (by rw [ints_get, hAc]; rfl)
    have hlA := hH.bl 0 rfl
    have HFL := Lib.hid hFl; have hcL0 : (0 : Int) ≤ (c : Int) := Int.natCast_nonneg c
    have hcL1 : (c : Int) < 100 := by omega
    have HCA := Lib.hid (show (ints A)[c]? = some (.int .i64 (dm c)) by rw [ints_get, hAc]; rfl); have HZ := Lib.hid hz; clear hF hx hxS hAc hDj hz hFl hcF hfF hlF hcA hlA
    replace hH : Held w wr [aB (w.heap.size) 62 (ints A), aB (w.heap.size + 1) 52 [.slice none 0 0, .slice none 0 0, .slice none 0 0], aI (.slice xa1 L.length ca1) L, aI (.slice (some ⟨qa4, 0, none⟩) L.length L.length) F, aB qa6 52 [.slice xa1 L.length ca1, .slice (some ⟨qa4, 0, none⟩) L.length L.length, .slice none 0 0]] := hH
    obtain ⟨q1_0, q1_1, q1_2, l1_⟩ := hH.c3 1 rfl; obtain ⟨q4_0, q4_1, q4_2, l4_⟩ := hH.c3 4 rfl
    go_upto_region 5 with fail
    clear q1_0 q1_1 q1_2 l1_ q4_0 q4_1 q4_2 l4_
    refine wp_region_steps ?Fb (fun b t wx => Held w wx [aB (w.heap.size) 62 (ints A), aB (w.heap.size + 1) 52 [.slice none 0 0, .slice none 0 0, .slice none 0 0], aI (.slice xa1 L.length ca1) L, (bif b 7 then aI (.slice (some ⟨qa4, 0, none⟩) L.length L.length) (F.set j (dm c)) else aI (.slice (some ⟨qa4, 0, none⟩) L.length L.length) F), aB qa6 52 [.slice xa1 L.length ca1, .slice (some ⟨qa4, 0, none⟩) L.length L.length, .slice none 0 0]] ∧ (b 0 = true → t 0 = .pointer (some ⟨qa6, 1, none⟩)) ∧ (b 1 = true → t 1 = .slice (some ⟨qa4, 0, none⟩) L.length L.length) ∧ (b 2 = true → t 2 = .int .i64 (j : Int)) ∧ (b 3 = true → t 3 = .int .i64 (c : Int)) ∧ (b 4 = true → t 4 = .pointer (some ⟨w.heap.size, c, none⟩)) ∧ (b 5 = true → t 5 = .int .i64 (dm c)) ∧ (b 6 = true → t 6 = .pointer (some ⟨qa4, j, none⟩))) ?hFb (by kernel_rfl) (by kernel_rfl) ?hJb ?hSb ?hEb
    (case hFb => intro t; simp only [putAll, Act.put, List.setIfInBounds_toArray, List.set_cons_zero, List.set_cons_succ, Nat.reduceAdd, Nat.zero_add]; exact rfl)
    case hJb => exact ⟨hH.grow ((Ext.refl _).drew), nof, nof, nof, nof, nof, nof, nof⟩
    case hSb => as_aux_lemma =>
      refine AllSteps.cons (j := 1) rfl (fun b t wx hJ hb hd hcl Kc hK => ?_) ?_
      · obtain ⟨hH, v0, v1, v2, v3, v4, v5, v6⟩ := hJ
        go_simp
        refine hK.out _ ?_ _ ?_ ?_; rotate_left 2
        · rfl
        exact ⟨hH, fun _ => rfl, v1, v2, v3, v4, v5, v6⟩
      refine AllSteps.cons (j := 2) rfl (fun b t wx hJ hb hd hcl Kc hK => ?_) ?_
      · obtain ⟨hH, v0, v1, v2, v3, v4, v5, v6⟩ := hJ
        have d0 := hd.out 0 (by kernel_rfl); have r0 := v0 d0; have q4_1 := hH.cl 4 1 rfl rfl
        go_simp
        refine hK.out _ ?_ _ ?_ ?_; rotate_left 2
        · (try simp only [r0]); rfl
        exact ⟨hH, v0, fun _ => rfl, v2, v3, v4, v5, v6⟩
      refine AllSteps.cons (j := 3) rfl (fun b t wx hJ hb hd hcl Kc hK => ?_) ?_
      · obtain ⟨hH, v0, v1, v2, v3, v4, v5, v6⟩ := hJ
        go_simp
        refine hK.out _ ?_ _ ?_ ?_; rotate_left 2
        · rfl
        exact ⟨hH, v0, v1, fun _ => rfl, v3, v4, v5, v6⟩
      refine AllSteps.cons (j := 4) rfl (fun b t wx hJ hb hd hcl Kc hK => ?_) ?_
      · obtain ⟨hH, v0, v1, v2, v3, v4, v5, v6⟩ := hJ
        go_simp
        refine hK.out _ ?_ _ ?_ ?_; rotate_left 2
        · rfl
        exact ⟨hH, v0, v1, v2, fun _ => rfl, v4, v5, v6⟩
      refine AllSteps.cons (j := 5) rfl (fun b t wx hJ hb hd hcl Kc hK => ?_) ?_
      · obtain ⟨hH, v0, v1, v2, v3, v4, v5, v6⟩ := hJ
        have d3 := hd.out 3 (by kernel_rfl); have r3 := v3 d3
        go_simp
        refine hK.out _ ?_ _ ?_ ?_; rotate_left 2
        · (try simp only [r3]); rfl
        exact ⟨hH, v0, v1, v2, v3, fun _ => rfl, v5, v6⟩
      refine AllSteps.cons (j := 6) rfl (fun b t wx hJ hb hd hcl Kc hK => ?_) ?_
      · obtain ⟨hH, v0, v1, v2, v3, v4, v5, v6⟩ := hJ
        have d4 := hd.out 4 (by kernel_rfl); have r4 := v4 d4
        have hcA := (hH.blk (k := 0) rfl).cell (j := c) (u := .int .i64 (dm c)) HCA.out
        go_simp
        refine hK.out _ ?_ _ ?_ ?_; rotate_left 2
        · (try simp only [r4]); rfl
        exact ⟨hH, v0, v1, v2, v3, v4, fun _ => rfl, v6⟩
      refine AllSteps.cons (j := 7) rfl (fun b t wx hJ hb hd hcl Kc hK => ?_) ?_
      · obtain ⟨hH, v0, v1, v2, v3, v4, v5, v6⟩ := hJ
        have d0 := hd.out 0 (by kernel_rfl); have d1 := hd.out 1 (by kernel_rfl); have d2 := hd.out 2 (by kernel_rfl); have d3 := hd.out 3 (by kernel_rfl); have d4 := hd.out 4 (by kernel_rfl); have d5 := hd.out 5 (by kernel_rfl); have r0 := v0 d0; have r1 := v1 d1; have r2 := v2 d2; have r3 := v3 d3; have r4 := v4 d4; have r5 := v5 d5
        go_simp
        refine hK.out _ ?_ _ ?_ ?_; rotate_left 2
        · (try simp only [r0, r1, r2, r3, r4, r5]); rfl
        exact ⟨hH, v0, v1, v2, v3, v4, v5, fun _ => rfl⟩
      refine AllSteps.cons (j := 8) rfl (fun b t wx hJ hb hd hcl Kc hK => ?_) ?_
      · obtain ⟨hH, v0, v1, v2, v3, v4, v5, v6⟩ := hJ
        have d0 := hd.out 0 (by kernel_rfl); have d1 := hd.out 1 (by kernel_rfl); have d2 := hd.out 2 (by kernel_rfl); have d3 := hd.out 3 (by kernel_rfl); have d4 := hd.out 4 (by kernel_rfl); have d5 := hd.out 5 (by kernel_rfl); have d6 := hd.out 6 (by kernel_rfl); have r0 := v0 d0; have r1 := v1 d1; have r2 := v2 d2; have r3 := v3 d3; have r4 := v4 d4; have r5 := v5 d5; have r6 := v6 d6
        have hN := hH; (try simp only [hb, d0, d1, d2, d3, d4, d5, d6, cond_true, cond_false] at hN)
        obtain ⟨hcF, hfF⟩ := (hN.own (k := 3) rfl).cell HZ.out
        have hlF := ((hN.own (k := 3) rfl).block_lt rfl).2
        go_simp
        refine hK.out _ undef _ ?_ ?_; rotate_left 1
        · (try simp only [r0, r1, r2, r3, r4, r5, r6]); rfl
        exact ⟨by have hX := hN.setI (k := 3) rfl j (by rw [HFL.out]; exact hlt) (dm c); simpa only [List.set_cons_zero, List.set_cons_succ, updB, updV, blkOf_mk, tup0_mk, partsOf3, Nat.reduceBEq, cond_true, cond_false, hb, d0, d1, d2, d3, d4, d5, d6, r0, r1, r2, r3, r4, r5, r6] using hX, v0, v1, v2, v3, v4, v5, v6⟩
      exact AllSteps.nil
    case hEb =>
     intro b t wb hJ hall
     obtain ⟨hHb, v0, v1, v2, v3, v4, v5, v6⟩ := hJ
     have a0 := hall 0 (by decide); have a1 := hall 1 (by decide); have a2 := hall 2 (by decide); have a3 := hall 3 (by decide); have a4 := hall 4 (by decide); have a5 := hall 5 (by decide); have a6 := hall 6 (by decide); have a7 := hall 7 (by decide)
     (try simp only [a0, a1, a2, a3, a4, a5, a6, a7, cond_true] at hHb)
     replace v0 := v0 a0; replace v1 := v1 a1; replace v2 := v2 a2; replace v3 := v3 a3; replace v4 := v4 a4; replace v5 := v5 a5; replace v6 := v6 a6
     clear hall a0 a1 a2 a3 a4 a5 a6 a7
     generalize t 6 = x6 at hHb v6 ⊢; generalize t 5 = x5 at hHb v5 ⊢; generalize t 4 = x4 at hHb v4 ⊢; generalize t 3 = x3 at hHb v3 ⊢; generalize t 2 = x2 at hHb v2 ⊢; generalize t 1 = x1 at hHb v1 ⊢; generalize t 0 = x0 at hHb v0 ⊢; subst v0; subst v1; subst v2; subst v3; subst v4; subst v5; subst v6
     clear b
     replace hH := hHb; clear hHb
     replace hH : Held w wb [aB (w.heap.size) 62 (ints A), aB (w.heap.size + 1) 52 [.slice none 0 0, .slice none 0 0, .slice none 0 0], aI (.slice xa1 L.length ca1) L, aI (.slice (some ⟨qa4, 0, none⟩) L.length L.length) (F.set j (dm c)), aB qa6 52 [.slice xa1 L.length ca1, .slice (some ⟨qa4, 0, none⟩) L.length L.length, .slice none 0 0]] := hH
     go_wp2_with fail
     go_roundw
     case rel => exact ⟨j + 1, by omega, by go_num, by rw [← HDJ.out]; exact hH⟩
     case measure => simp [RowKit.intOf]; omega
   ·
    have hje : j = L.length := by omega
    subst hje
    replace hH : Held w wr [aB (w.heap.size) 62 (ints A), aB (w.heap.size + 1) 52 [.slice none 0 0, .slice none 0 0, .slice none 0 0], aI (.slice xa1 L.length ca1) L, aI (.slice (some ⟨qa4, 0, none⟩) L.length L.length) D, aB qa6 52 [.slice xa1 L.length ca1, .slice (some ⟨qa4, 0, none⟩) L.length L.length, .slice none 0 0]] := by have h := hH; rw [show fillZ D L.length = D by rw [← HDL.out]; exact fillZ_all D] at h; exact h
    obtain ⟨q1_0, q1_1, q1_2, l1_⟩ := hH.c3 1 rfl; have f1_0 := hH.fr 1 0 rfl; have f1_1 := hH.fr 1 1 rfl; have f1_2 := hH.fr 1 2 rfl; obtain ⟨q4_0, q4_1, q4_2, l4_⟩ := hH.c3 4 rfl
    go_wp2_with fail
    refine bodyPost_ret (v := .agg #[.slice xa1 L.length ca1, .slice (some ⟨qa4, 0, none⟩) L.length L.length, .slice none 0 0]) (by simp [results, Tryz.results32, go_sem, *]) rfl ?_
    refine ⟨_, _, rfl, ?_⟩
    exact (hH.setB3' (k := 1) rfl (.slice xa1 L.length ca1) (.slice (some ⟨qa4, 0, none⟩) L.length L.length) (.slice none 0 0)).sub (.cons _ (.cons _ (.cons_cons _ (.cons_cons _ (.cons _ .slnil)))))
end Go.Proofs.YtlgjddgajdjllaaGreatDoor
