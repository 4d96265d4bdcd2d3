/- Drawn networks: l12Net, MakeNetwork. -/
import Derived.Test.YtlgjddgajdjllaaGreatDoorTNetD
import Derived.Test.YtlgjddgajdjllaaGreatDoorTShuf
set_option linter.unusedSimpArgs false
set_option linter.unusedVariables false
namespace Go.Proofs.YtlgjddgajdjllaaGreatDoor
open Go.RowKit
theorem isN_snoc {k p n : Int} {dm : Int → Int} {U : List Int} {ts : List (NT k p n)} {t : NT k p n} (h : IsN k p n dm U ts []) (ht : IsT k p n dm U t.1 t.2) (hl : ts.length + 1 ≤ 12) : IsN k p n dm U (ts ++ [t]) [] :=
  ⟨h.uni, fun u hu => by
    rcases List.mem_append.1 hu with hu | hu
    · exact h.ten u hu
    · simp at hu; subst hu; exact ht, h.sub, fun x hx => by simp at hx, by simp; omega⟩
theorem drawn_snoc {k p n : Int} {ts : List (NT k p n)} {L : List Int} {xs : List (El k p n)} : ts.map (tenOf dimOf) ++ [(L, L.map dimOf, flat xs)] = (ts ++ [(L, xs)]).map (tenOf dimOf) := by rw [List.map_append]; rfl
def blkS : Value → Nat
  | .slice (some q) _ _ => q.block
  | _ => 0
theorem blkS_mk (q o m c : Nat) : blkS (.slice (some ⟨q, o, none⟩) m c) = q := rfl
def cel3 : Value → Value × Value × Value
  | .agg xs => (xs.toList.getD 0 undef, xs.toList.getD 1 undef, xs.toList.getD 2 undef)
  | _ => (undef, undef, undef)
def partsN : Value → List Value
  | .agg xs => xs.toList
  | _ => []
theorem partsN_mk (x0 x1 x2 x3 x4 : Value) : partsN (.agg #[x0, x1, x2, x3, x4]) = [x0, x1, x2, x3, x4] := rfl
theorem cel3_mk (x y z : Value) : cel3 (.agg #[x, y, z]) = (x, y, z) := rfl
theorem grown5 {w0 w : World} {b : Nat} (h : w0.grownBy w (some b)) (x0 x1 x2 x3 x4 : Value) : w0.grownBy (((((w.setCell ⟨b, 0, none⟩ x0).setCell ⟨b, 1, none⟩ x1).setCell ⟨b, 2, none⟩ x2).setCell ⟨b, 3, none⟩ x3).setCell ⟨b, 4, none⟩ x4) (some b) :=
  grown_setCell (grown_setCell (grown_setCell (grown_setCell (grown_setCell h 0 x0) 1 x1) 2 x2) 3 x3) 4 x4
theorem HeldX.setB5 {ex : Option Nat} {a w : World} {L : List Asn} {b k : Nat} {T : TypeId} {p0 p1 p2 p3 p4 : Value} (h : HeldX ex a w L) (hk : L[k]? = some (aB b T [p0, p1, p2, p3, p4])) (x0 x1 x2 x3 x4 : Value) :
    HeldX ex a (((((w.setCell ⟨b, 0, none⟩ x0).setCell ⟨b, 1, none⟩ x1).setCell ⟨b, 2, none⟩ x2).setCell ⟨b, 3, none⟩ x3).setCell ⟨b, 4, none⟩ x4) (L.set k (aB b T [x0, x1, x2, x3, x4])) := by
  have hlt : k < L.length := (List.getElem?_eq_some_iff.1 hk).1
  have h1 := h.setB hk 0 x0
  have h2 := h1.setB (List.getElem?_set_self hlt) 1 x1
  rw [set_set_same] at h2
  have h3 := h2.setB (List.getElem?_set_self hlt) 2 x2
  rw [set_set_same] at h3
  have h4 := h3.setB (List.getElem?_set_self hlt) 3 x3
  rw [set_set_same] at h4
  have h5 := h4.setB (List.getElem?_set_self hlt) 4 x4
  rw [set_set_same] at h5
  exact h5
theorem nodup_len : ∀ {l m : List Int}, l.Nodup → l.Subset m → l.length ≤ m.length
  | [], _, _, _ => Nat.zero_le _
  | x :: l, m, hn, hs => by
    rw [List.nodup_cons] at hn
    have hx : x ∈ m := hs (by simp)
    have h := nodup_len (l := l) (m := m.erase x) hn.2 fun y hy => (List.mem_erase_of_ne (by rintro rfl; exact hn.1 hy)).2 (hs (by simp [hy]))
    rw [List.length_erase_of_mem hx] at h
    have : 0 < m.length := List.length_pos_of_mem hx
    rw [List.length_cons]; omega
theorem nodup_snoc_take {M O : List Int} {j : Nat} {x : Int} (hM : M.Nodup) (hx : M[j]? = some x) (hO : O.Nodup) (hs : ∀ y ∈ O, y ∈ M.take j) : (O ++ [x]).Nodup ∧ ∀ y ∈ O ++ [x], y ∈ M.take (j + 1) := by
  have ht := take_snoc' hx
  have hn : (M.take (j + 1)).Nodup := hM.sublist (List.take_sublist _ _)
  rw [ht, List.nodup_append] at hn
  refine ⟨List.nodup_append.2 ⟨hO, by simp, fun a ha b hb e => hn.2.2 a (hs a ha) b hb e⟩, fun y hy => ?_⟩
  rw [ht]
  rcases List.mem_append.1 hy with hy | hy
  · exact List.mem_append_left _ (hs y hy)
  · exact List.mem_append_right _ hy
theorem row_blk3 {w : World} {q : Nat} {T : TypeId} {x y z : Value} (h : Blk w q T [x, y, z]) : Row w 3 (.slice (some ⟨q, 0, none⟩) 1 1) 1 [x, y, z] :=
  ⟨rfl, some ⟨q, 0, none⟩, 1, rfl, Nat.le_refl _, by unfold maxLen; omega, fun _ => ⟨q, 0, rfl, fun j u hj => by rw [Nat.zero_add]; exact h.cell hj⟩⟩
set_option maxRecDepth 100000 in
set_option maxHeartbeats 8000000 in
theorem l12Net_any (cb : Nat) {l : List Int} (k p n : Int) (hr : ringOk k p n = true) (most : Int) (hm0 : 0 ≤ most) (hm1 : most ≤ 12) (w : World) (hc : Cur w cb l) : Calls Tryz.prog 17 #[.pointer (some ⟨cb, 0, none⟩), ringV k p n, .int .i64 most] w fun e w' =>
 ∃ tv ov cs ts op, e = .returned (.agg #[.int .i64 k, .int .i64 p, .int .i64 n, tv, ov]) ∧ HeldX (some cb) w w' [aTs tv cs (ts.map (tenOf dimOf)), aI ov op] ∧ IsN k p n dimOf U6 ts op ∧ (ts.length : Int) ≤ most ∧ Cur w' cb l := by
 have hbl := hc.lt
 have HR := Lib.hid hr; clear hr
 go_enter Tryz.func17, Tryz.ntmps17
 go_wp2_with fail
 have hH : HeldX (some cb) w w [] := HeldX.newX (grown_refl _ _) 0
 have hC : Cur w cb l := hc
 have hB : HeldX (some cb) w (w.alloc (.cells #[.int .i64 k, .int .i64 p, .int .i64 n] 24)) [aB (w.heap.size) 24 [.int .i64 k, .int .i64 p, .int .i64 n]] := by
  have h := (hH.mores 1).addB 0 #[.int .i64 k, .int .i64 p, .int .i64 n] 24
  exact h
 have hCB : Cur (w.alloc (.cells #[.int .i64 k, .int .i64 p, .int .i64 n] 24)) cb l := hC.ext ((Ext.refl _).alloc _)
 have hsz : (w.alloc (.cells #[.int .i64 k, .int .i64 p, .int .i64 n] 24)).heap.size = w.heap.size + 1 := by simp
 generalize w.alloc (.cells #[.int .i64 k, .int .i64 p, .int .i64 n] 24) = wn1 at hB hsz hCB ⊢
 replace hH := hB; have HSZwn1 := Lib.hid hsz; clear hB hsz; replace hC := hCB; clear hCB
 have hB : HeldX (some cb) w (wn1.alloc (.cells #[.int .i64 0, .int .i64 0, .int .i64 0, .slice none 0 0, .slice none 0 0] 29)) [aB (w.heap.size) 24 [.int .i64 k, .int .i64 p, .int .i64 n], aB (w.heap.size + 1) 29 [.int .i64 0, .int .i64 0, .int .i64 0, .slice none 0 0, .slice none 0 0]] := by
  have h := (hH.mores 1).addB 1 #[.int .i64 0, .int .i64 0, .int .i64 0, .slice none 0 0, .slice none 0 0] 29
  rw [HSZwn1.out] at h
  exact h
 have hCB : Cur (wn1.alloc (.cells #[.int .i64 0, .int .i64 0, .int .i64 0, .slice none 0 0, .slice none 0 0] 29)) cb l := hC.ext ((Ext.refl _).alloc _)
 have hsz : (wn1.alloc (.cells #[.int .i64 0, .int .i64 0, .int .i64 0, .slice none 0 0, .slice none 0 0] 29)).heap.size = w.heap.size + 1 + 1 := by rw [← HSZwn1.out]; simp
 generalize wn1.alloc (.cells #[.int .i64 0, .int .i64 0, .int .i64 0, .slice none 0 0, .slice none 0 0] 29) = wn2 at hB hsz hCB ⊢
 replace hH := hB; have HSZwn2 := Lib.hid hsz; clear hB hsz; replace hC := hCB; clear hCB
 have hB : HeldX (some cb) w (wn2.alloc (.cells #[.int .i64 k, .int .i64 p, .int .i64 n, .slice none 0 0, .slice none 0 0] 29)) [aB (w.heap.size) 24 [.int .i64 k, .int .i64 p, .int .i64 n], aB (w.heap.size + 1) 29 [.int .i64 0, .int .i64 0, .int .i64 0, .slice none 0 0, .slice none 0 0], aB (w.heap.size + 1 + 1) 29 [.int .i64 k, .int .i64 p, .int .i64 n, .slice none 0 0, .slice none 0 0]] := by
  have h := (hH.mores 1).addB 2 #[.int .i64 k, .int .i64 p, .int .i64 n, .slice none 0 0, .slice none 0 0] 29
  rw [HSZwn2.out] at h
  exact h
 have hCB : Cur (wn2.alloc (.cells #[.int .i64 k, .int .i64 p, .int .i64 n, .slice none 0 0, .slice none 0 0] 29)) cb l := hC.ext ((Ext.refl _).alloc _)
 have hsz : (wn2.alloc (.cells #[.int .i64 k, .int .i64 p, .int .i64 n, .slice none 0 0, .slice none 0 0] 29)).heap.size = w.heap.size + 1 + 1 + 1 := by rw [← HSZwn2.out]; simp
 generalize wn2.alloc (.cells #[.int .i64 k, .int .i64 p, .int .i64 n, .slice none 0 0, .slice none 0 0] 29) = wn3 at hB hsz hCB ⊢
 replace hH := hB; have HSZwn3 := Lib.hid hsz; clear hB hsz; replace hC := hCB; clear hCB
 refine (l01Below_any cb (most + 1) _ hC (by omega)).mono ?_; rintro e2 w2 ⟨x, rfl, ⟨x0, _, x1⟩, c2, g2⟩
 have x2 := x1 (by omega); clear x1
 obtain ⟨x, rfl⟩ : ∃ q : Nat, x = q := ⟨x.toNat, by omega⟩
 replace hH := hH.turnX hbl g2; replace hC := c2; clear g2 c2
 replace hH : HeldX (some cb) w w2 [aB (w.heap.size) 24 [.int .i64 k, .int .i64 p, .int .i64 n], aB (w.heap.size + 1) 29 [.int .i64 0, .int .i64 0, .int .i64 0, .slice none 0 0, .slice none 0 0], aB (w.heap.size + 1 + 1) 29 [.int .i64 k, .int .i64 p, .int .i64 n, .slice none 0 0, .slice none 0 0], emp] := hH.mores 1
 have hH0 : HeldX (some cb) w w2 [aB (w.heap.size) 24 [.int .i64 k, .int .i64 p, .int .i64 n], aB (w.heap.size + 1) 29 [.int .i64 0, .int .i64 0, .int .i64 0, .slice none 0 0, .slice none 0 0], aB (w.heap.size + 1 + 1) 29 [.int .i64 k, .int .i64 p, .int .i64 n, .slice none 0 0, .slice none 0 0], aTs (.slice none 0 0) [] []] := hH.alter (k := 3) rfl (A := aTs (.slice none 0 0) [] []) (OwnTs.nil _) (fun q hq => by simp [aTs, Value.ownBlock] at hq)
 clear hH
 go_wp2_with fail
 go_loopw [8] (fun kk wr => ∃ (q : Nat) (tv : Value) (cs : List (Value × Value × Value)) (ts : List (NT k p n)), kk = .int .i64 (q : Int) ∧ ((ts.length : Int) + q ≤ most) ∧ HeldX (some cb) w wr [aB (w.heap.size) 24 [.int .i64 k, .int .i64 p, .int .i64 n], aB (w.heap.size + 1) 29 [.int .i64 0, .int .i64 0, .int .i64 0, .slice none 0 0, .slice none 0 0], aB (w.heap.size + 1 + 1) 29 [.int .i64 k, .int .i64 p, .int .i64 n, tv, .slice none 0 0], aTs tv cs (ts.map (tenOf dimOf))] ∧ Hid (IsN k p n dimOf U6 ts []) ∧ Cur wr cb l) (fun kk wr => (RowKit.intOf kk).toNat)
 case atStart => exact ⟨x, .slice none 0 0, [], [], rfl, by simp; omega, hH0, Lib.hid ⟨uni6, fun t ht => by simp at ht, Sub.nil _, fun x hx => by simp at hx, by simp⟩, hC⟩
 case round =>
  clear hH0 hC
  obtain ⟨q, tv, cs, ts, rfl, hq, hH, HN, hC⟩ := hrel
  obtain ⟨aV, cV, rfl, _, _⟩ := (hH.tensS (k := 3) rfl).val
  rw [List.length_map] at hH
  rcases Nat.eq_zero_or_pos q with rfl | hqp
  rotate_left
  ·
   obtain ⟨TS, hTS⟩ : ∃ z, ts.map (tenOf dimOf) = z := ⟨_, rfl⟩
   rw [hTS] at hH
   have hTL : TS.length = ts.length := by rw [← hTS, List.length_map]
   have HTS := Lib.hid hTS; have HTL := Lib.hid hTL; clear hTS hTL
   have hq0 : (0 : Int) < (q : Int) := by omega
   go_upto_region 5 with fail
   replace hH := hH.mores 2
   replace hH : HeldX (some cb) w wr [aB (w.heap.size) 24 [.int .i64 k, .int .i64 p, .int .i64 n], aB (w.heap.size + 1) 29 [.int .i64 0, .int .i64 0, .int .i64 0, .slice none 0 0, .slice none 0 0], aB (w.heap.size + 1 + 1) 29 [.int .i64 k, .int .i64 p, .int .i64 n, .slice aV ts.length cV, .slice none 0 0], aTs (.slice aV ts.length cV) cs TS, emp, emp] := hH
   refine wp_region_steps ?Fa (fun b t wx => ∃ (L : List Int), ∃ (xs : List (El k p n)), HeldX (some cb) w wx [aB (w.heap.size) 24 [.int .i64 k, .int .i64 p, .int .i64 n], aB (w.heap.size + 1) 29 [.int .i64 0, .int .i64 0, .int .i64 0, .slice none 0 0, .slice none 0 0], (bif b 8 then aB (w.heap.size + 1 + 1) 29 [.int .i64 k, .int .i64 p, .int .i64 n, t 6, .slice none 0 0] else aB (w.heap.size + 1 + 1) 29 [.int .i64 k, .int .i64 p, .int .i64 n, .slice aV ts.length cV, .slice none 0 0]), (bif b 6 then aTs (t 6) (cs ++ [cel3 (t 4)]) (TS ++ [(L, L.map dimOf, flat xs)]) else aTs (.slice aV ts.length cV) cs TS), (bif b 6 then emp else (bif b 4 then aT (t 4) L (L.map dimOf) (flat xs) else emp)), (bif b 5 then aB (blkS (t 5)) 52 (partsOf (t 4)) else emp)] ∧ Cur wx cb l ∧ (b 4 = true → IsT k p n dimOf U6 L xs) ∧ (b 0 = true → t 0 = .pointer (some ⟨w.heap.size + 1 + 1, 3, none⟩)) ∧ (b 1 = true → t 1 = .slice aV ts.length cV) ∧ (b 2 = true → t 2 = .pointer (some ⟨cb, 0, none⟩)) ∧ (b 3 = true → t 3 = .agg #[.int .i64 k, .int .i64 p, .int .i64 n]) ∧ (b 4 = true → ∃ p1 n1 c1 p2 n2 c2 p3 n3 c3, t 4 = .agg #[.slice p1 n1 c1, .slice p2 n2 c2, .slice p3 n3 c3]) ∧ (b 5 = true → ∃ z, t 5 = .slice (some ⟨z, 0, none⟩) 1 1) ∧ (b 6 = true → ∃ a c, t 6 = .slice a (ts.length + 1) c) ∧ (b 7 = true → t 7 = .pointer (some ⟨w.heap.size + 1 + 1, 3, none⟩))) ?hFa (by kernel_rfl) (by kernel_rfl) ?hJa ?hSa ?hEa
   (case hFa => intro t; simp only [putAll, Act.put, List.setIfInBounds_toArray, List.set_cons_zero, List.set_cons_succ, Nat.reduceAdd, Nat.zero_add]; exact rfl)
   case hJa => exact ⟨[], [], hH.grow ((Ext.refl _).drew), hC.ext ((Ext.refl _).drew), nof, nof, nof, nof, nof, nof, nof, nof, nof⟩
   case hSa => as_aux_lemma =>
     refine AllSteps.cons (j := 1) rfl (fun b t wx hJ hb hd hcl Kc hK => ?_) ?_
     · obtain ⟨L, xs, hH, hC, hT, v0, v1, v2, v3, v4, v5, v6, v7⟩ := hJ
       go_simp
       refine hK.out _ ?_ _ ?_ ?_; rotate_left 2
       · rfl
       exact ⟨L, xs, hH, hC, hT, fun _ => rfl, v1, v2, v3, v4, v5, v6, v7⟩
     refine AllSteps.cons (j := 2) rfl (fun b t wx hJ hb hd hcl Kc hK => ?_) ?_
     · obtain ⟨L, xs, hH, hC, hT, v0, v1, v2, v3, v4, v5, v6, v7⟩ := hJ
       have d0 := hd.out 0 (by kernel_rfl)
       have n8 : b 8 = false := Bool.eq_false_iff.2 fun h => absurd (hcl.out 8 1 (by kernel_rfl) (h)) (by rw [hb]; exact Bool.false_ne_true)
       have r0 := v0 d0
       have hN := hH; (try simp only [hb, d0, n8, cond_true, cond_false] at hN)
       have q2_3 := hN.cl 2 3 rfl rfl
       go_simp
       refine hK.out _ ?_ _ ?_ ?_; rotate_left 2
       · (try simp only [r0]); rfl
       exact ⟨L, xs, hH, hC, hT, v0, fun _ => rfl, v2, v3, v4, v5, v6, v7⟩
     refine AllSteps.cons (j := 3) rfl (fun b t wx hJ hb hd hcl Kc hK => ?_) ?_
     · obtain ⟨L, xs, hH, hC, hT, v0, v1, v2, v3, v4, v5, v6, v7⟩ := hJ
       go_simp
       refine hK.out _ ?_ _ ?_ ?_; rotate_left 2
       · rfl
       exact ⟨L, xs, hH, hC, hT, v0, v1, fun _ => rfl, v3, v4, v5, v6, v7⟩
     refine AllSteps.cons (j := 4) rfl (fun b t wx hJ hb hd hcl Kc hK => ?_) ?_
     · obtain ⟨L, xs, hH, hC, hT, v0, v1, v2, v3, v4, v5, v6, v7⟩ := hJ
       have q0_0 := hH.cl 0 0 rfl rfl; have q0_1 := hH.cl 0 1 rfl rfl; have q0_2 := hH.cl 0 2 rfl rfl
       go_simp
       refine hK.out _ ?_ _ ?_ ?_; rotate_left 2
       · rfl
       exact ⟨L, xs, hH, hC, hT, v0, v1, v2, fun _ => rfl, v4, v5, v6, v7⟩
     refine AllSteps.cons (j := 5) rfl (fun b t wx hJ hb hd hcl Kc hK => ?_) ?_
     · obtain ⟨L, xs, hH, hC, hT, v0, v1, v2, v3, v4, v5, v6, v7⟩ := hJ
       have d2 := hd.out 2 (by kernel_rfl); have d3 := hd.out 3 (by kernel_rfl)
       have n5 : b 5 = false := Bool.eq_false_iff.2 fun h => absurd (hcl.out 5 4 (by kernel_rfl) (h)) (by rw [hb]; exact Bool.false_ne_true)
       have n6 : b 6 = false := Bool.eq_false_iff.2 fun h => absurd (hcl.out 6 4 (by kernel_rfl) (h)) (by rw [hb]; exact Bool.false_ne_true)
       have r2 := v2 d2; have r3 := v3 d3
       have hN := hH; (try simp only [hb, d2, d3, n5, n6, cond_true, cond_false] at hN)
       go_simp
       go_at_call 49
       refine (l05Draw_any cb k p n HR.out _ hC).mono ?_; rintro e4 w4 ⟨vd, L', D', X', rfl, od, hD, c4, g4⟩
       obtain ⟨xs', rfl, rfl, hT'⟩ := drawn_isT HR.out hD
       obtain ⟨pa1, na1, ca1, pa2, na2, ca2, pa3, na3, ca3, rfl⟩ := od.shape
       (try go_simp)
       refine hK.out _ ?_ _ ?_ ?_; rotate_left 2
       · (try simp only [r2, r3]); rfl
       exact ⟨L', xs', by have hX := hN.addX (A := aT _ L' (L'.map dimOf) (flat xs')) hbl 4 g4 od.zero (fun z hz => od.fp_ge hz); simpa only [List.set_cons_zero, List.set_cons_succ, updB, updV, blkOf_mk, tup0_mk, partsOf3, blkS_mk, cel3_mk, Nat.reduceBEq, cond_true, cond_false, hb, d2, d3, n5, n6, r2, r3] using hX, c4, (fun _ => hT'), v0, v1, v2, v3, fun _ => ⟨_, _, _, _, _, _, _, _, _, rfl⟩, v5, v6, v7⟩
     refine AllSteps.cons (j := 6) rfl (fun b t wx hJ hb hd hcl Kc hK => ?_) ?_
     · obtain ⟨L, xs, hH, hC, hT, v0, v1, v2, v3, v4, v5, v6, v7⟩ := hJ
       have d4 := hd.out 4 (by kernel_rfl); have r4 := v4 d4
       obtain ⟨p1_4, n1_4, c1_4, p2_4, n2_4, c2_4, p3_4, n3_4, c3_4, r4⟩ := r4
       have hN := hH; (try simp only [hb, d4, cond_true, cond_false] at hN)
       have e4 := r4 -- d4
       go_simp
       refine hK.out _ ?_ _ ?_ ?_; rotate_left 2
       · (try simp only [r4]); rfl
       exact ⟨L, xs, by have hX := hN.addB 5 #[.slice p1_4 n1_4 c1_4, .slice p2_4 n2_4 c2_4, .slice p3_4 n3_4 c3_4] 52; simpa only [List.set_cons_zero, List.set_cons_succ, updB, updV, blkOf_mk, tup0_mk, partsOf3, blkS_mk, cel3_mk, Nat.reduceBEq, cond_true, cond_false, hb, d4, r4] using hX, hC.ext ((Ext.refl _).alloc _), hT, v0, v1, v2, v3, v4, fun _ => ⟨_, rfl⟩, v6, v7⟩
     refine AllSteps.cons (j := 7) rfl (fun b t wx hJ hb hd hcl Kc hK => ?_) ?_
     · obtain ⟨L, xs, hH, hC, hT, v0, v1, v2, v3, v4, v5, v6, v7⟩ := hJ
       have d1 := hd.out 1 (by kernel_rfl); have d4 := hd.out 4 (by kernel_rfl); have d5 := hd.out 5 (by kernel_rfl)
       have n8 : b 8 = false := Bool.eq_false_iff.2 fun h => absurd (hcl.out 8 6 (by kernel_rfl) (h)) (by rw [hb]; exact Bool.false_ne_true)
       have r1 := v1 d1; have r4 := v4 d4; have r5 := v5 d5
       obtain ⟨p1_4, n1_4, c1_4, p2_4, n2_4, c2_4, p3_4, n3_4, c3_4, r4⟩ := r4
       obtain ⟨z_5, r5⟩ := r5
       have hN := hH; (try simp only [hb, d1, d4, d5, n8, cond_true, cond_false] at hN)
       rw [r4] at hN -- d4 d5
       refine step_app wx rfl _ _ 26 rfl (.slice aV ts.length cV) (t 5) (by first | rfl | (go_simp; done)) (by first | rfl | (go_simp; done)) _ (run_pushT2 _ hN (k1 := 3) (k2 := 4) rfl rfl (by decide) (by rw [r5]; have h := hN.blk (k := 5) rfl; rw [r5] at h; exact row_blk3 h) ((by rw [HTL.out]; omega))) ?_; rintro va wa ⟨hHa, ga⟩
       obtain ⟨aa, ca, hva, _, _⟩ := (hHa.tensS (k := 3) rfl).val; subst hva
       refine hK.out _ ?_ _ ?_ ?_; rotate_left 2
       · (try simp only [r1, r4, r5]); rfl
       exact ⟨L, xs, by have hX := hHa; simpa only [List.set_cons_zero, List.set_cons_succ, updB, updV, blkOf_mk, tup0_mk, partsOf3, blkS_mk, cel3_mk, Nat.reduceBEq, cond_true, cond_false, hb, d1, d4, d5, n8, r1, r4, r5] using hX, hC.onlyV ga (fun z hz => Nat.lt_of_lt_of_le hbl (hN.fpr (k := 3) rfl z (by simp [aTs, hz])).1), hT, v0, v1, v2, v3, v4, v5, fun _ => ⟨_, _, by rw [List.length_append, HTL.out]; rfl⟩, v7⟩
     refine AllSteps.cons (j := 8) rfl (fun b t wx hJ hb hd hcl Kc hK => ?_) ?_
     · obtain ⟨L, xs, hH, hC, hT, v0, v1, v2, v3, v4, v5, v6, v7⟩ := hJ
       have d0 := hd.out 0 (by kernel_rfl); have d1 := hd.out 1 (by kernel_rfl); have d2 := hd.out 2 (by kernel_rfl); have d3 := hd.out 3 (by kernel_rfl); have d4 := hd.out 4 (by kernel_rfl); have d5 := hd.out 5 (by kernel_rfl); have d6 := hd.out 6 (by kernel_rfl); have r0 := v0 d0; have r1 := v1 d1; have r2 := v2 d2; have r3 := v3 d3; have r4 := v4 d4; have r5 := v5 d5; have r6 := v6 d6
       obtain ⟨p1_4, n1_4, c1_4, p2_4, n2_4, c2_4, p3_4, n3_4, c3_4, r4⟩ := r4
       obtain ⟨z_5, r5⟩ := r5
       obtain ⟨a_6, c_6, r6⟩ := r6
       go_simp
       refine hK.out _ ?_ _ ?_ ?_; rotate_left 2
       · (try simp only [r0, r1, r2, r3, r4, r5, r6]); rfl
       exact ⟨L, xs, hH, hC, hT, v0, v1, v2, v3, v4, v5, v6, fun _ => rfl⟩
     refine AllSteps.cons (j := 9) rfl (fun b t wx hJ hb hd hcl Kc hK => ?_) ?_
     · obtain ⟨L, xs, hH, hC, hT, v0, v1, v2, v3, v4, v5, v6, v7⟩ := hJ
       have d0 := hd.out 0 (by kernel_rfl); have d1 := hd.out 1 (by kernel_rfl); have d2 := hd.out 2 (by kernel_rfl); have d3 := hd.out 3 (by kernel_rfl); have d4 := hd.out 4 (by kernel_rfl); have d5 := hd.out 5 (by kernel_rfl); have d6 := hd.out 6 (by kernel_rfl); have d7 := hd.out 7 (by kernel_rfl); have r0 := v0 d0; have r1 := v1 d1; have r2 := v2 d2; have r3 := v3 d3; have r4 := v4 d4; have r5 := v5 d5; have r6 := v6 d6; have r7 := v7 d7
       obtain ⟨p1_4, n1_4, c1_4, p2_4, n2_4, c2_4, p3_4, n3_4, c3_4, r4⟩ := r4
       obtain ⟨z_5, r5⟩ := r5
       obtain ⟨a_6, c_6, r6⟩ := r6
       have hN := hH; (try simp only [hb, d0, d1, d2, d3, d4, d5, d6, d7, cond_true, cond_false] at hN)
       have B := hN.blk (k := 2) rfl; have fB := B.free 3; have zB := B.cell (j := 3) rfl; have lB := B.lt
       go_simp
       refine hK.out _ undef _ ?_ ?_; rotate_left 1
       · (try simp only [r0, r1, r2, r3, r4, r5, r6, r7]); rfl
       exact ⟨L, xs, by have hX := hN.setB (k := 2) rfl 3 (t 6); simpa only [List.set_cons_zero, List.set_cons_succ, updB, updV, blkOf_mk, tup0_mk, partsOf3, blkS_mk, cel3_mk, Nat.reduceBEq, cond_true, cond_false, hb, d0, d1, d2, d3, d4, d5, d6, d7, r0, r1, r2, r3, r4, r5, r6, r7] using hX, hC.onlyV (grown_setCell (grown_refl _ _) _ _) (fun z hz => by cases hz; omega), hT, v0, v1, v2, v3, v4, v5, v6, v7⟩
     exact AllSteps.nil
   case hEa =>
    intro b t wa hJ hall
    obtain ⟨La, xsa, hHa, hCa, hTa, v0, v1, v2, v3, v4, v5, v6, v7⟩ := hJ
    have a0 := hall 0 (by decide); have a1 := hall 1 (by decide); have a2 := hall 2 (by decide); have a3 := hall 3 (by decide); have a4 := hall 4 (by decide); have a5 := hall 5 (by decide); have a6 := hall 6 (by decide); have a7 := hall 7 (by decide); have a8 := hall 8 (by decide)
    (try simp only [a0, a1, a2, a3, a4, a5, a6, a7, a8, cond_true] at hHa)
    replace v0 := v0 a0; replace v1 := v1 a1; replace v2 := v2 a2; replace v3 := v3 a3; replace v4 := v4 a4; replace v5 := v5 a5; replace v6 := v6 a6; replace v7 := v7 a7
    replace hTa := hTa a4
    clear hall a0 a1 a2 a3 a4 a5 a6 a7 a8
    generalize t 7 = x7 at hHa v7 ⊢; generalize t 6 = x6 at hHa v6 ⊢; generalize t 5 = x5 at hHa v5 ⊢; generalize t 4 = x4 at hHa v4 ⊢; generalize t 3 = x3 at hHa v3 ⊢; generalize t 2 = x2 at hHa v2 ⊢; generalize t 1 = x1 at hHa v1 ⊢; generalize t 0 = x0 at hHa v0 ⊢; subst v0; subst v1; subst v2; subst v3
    obtain ⟨p1a4, n1a4, c1a4, p2a4, n2a4, c2a4, p3a4, n3a4, c3a4, rfl⟩ := v4
    obtain ⟨za5, rfl⟩ := v5
    obtain ⟨aa6, ca6, rfl⟩ := v6
    subst v7
    simp only [blkOf_mk, tup0_mk, partsOf3, blkS_mk, cel3_mk] at hHa
    clear b
    replace hH := hHa; clear hHa
    replace hH : HeldX (some cb) w wa [aB (w.heap.size) 24 [.int .i64 k, .int .i64 p, .int .i64 n], aB (w.heap.size + 1) 29 [.int .i64 0, .int .i64 0, .int .i64 0, .slice none 0 0, .slice none 0 0], aB (w.heap.size + 1 + 1) 29 [.int .i64 k, .int .i64 p, .int .i64 n, .slice aa6 (ts.length + 1) ca6, .slice none 0 0], aTs (.slice aa6 (ts.length + 1) ca6) (cs ++ [(.slice p1a4 n1a4 c1a4, .slice p2a4 n2a4 c2a4, .slice p3a4 n3a4 c3a4)]) (TS ++ [(La, La.map dimOf, flat xsa)]), emp, aB za5 52 [.slice p1a4 n1a4 c1a4, .slice p2a4 n2a4 c2a4, .slice p3a4 n3a4 c3a4]] := hH
    go_wp2_with fail
    go_roundw
    case rel => exact ⟨q - 1, _, _, ts ++ [(La, xsa)], by congr 1; omega, by simp; omega, by have h := hH.sub (.cons_cons _ (.cons_cons _ (.cons_cons _ (.cons_cons _ (.cons _ (.cons _ .slnil)))))); rw [← HTS.out, drawn_snoc] at h; exact h, Lib.hid (isN_snoc HN.out hTa (by omega)), hCa⟩
    case measure => simp [RowKit.intOf]; omega
  ·
   obtain ⟨wo, rfl⟩ : ∃ z, z = wr := ⟨wr, rfl⟩
   have HD3 := Lib.hid HN.out.dims3; have hlen : ts.length ≤ 12 := HN.out.len; have HLEN := Lib.hid hlen; clear hlen
   obtain ⟨q0_0, q0_1, q0_2, l0_⟩ := hH.c3 0 rfl; obtain ⟨q1_0, q1_1, q1_2, q1_3, q1_4, l1_⟩ := hH.c5 1 rfl; obtain ⟨q2_0, q2_1, q2_2, q2_3, q2_4, l2_⟩ := hH.c5 2 rfl
   go_wp2_with fail
   clear q0_0 q0_1 q0_2 l0_ q1_0 q1_1 q1_2 q1_3 q1_4 l1_ q2_0 q2_1 q2_2 q2_3 q2_4 l2_
   refine (l12Labels_any HD3.out (by rw [List.length_map]; have := HLEN.out; omega) _ _ (hH.tensS (k := 3) rfl)).mono ?_; rintro ewn4 wn4 ⟨vl, rfl, ol, hwn4⟩
   replace hH : HeldX (some cb) w wn4 [aB (w.heap.size) 24 [.int .i64 k, .int .i64 p, .int .i64 n], aB (w.heap.size + 1) 29 [.int .i64 0, .int .i64 0, .int .i64 0, .slice none 0 0, .slice none 0 0], aB (w.heap.size + 1 + 1) 29 [.int .i64 k, .int .i64 p, .int .i64 n, .slice aV ts.length cV, .slice none 0 0], aTs (.slice aV ts.length cV) cs (ts.map (tenOf dimOf)), aI vl (ascL (occ3 (ts.map (tenOf dimOf))))] := (hH.mores 1).addI 4 hwn4 ol (Nat.le_refl _)
   replace hC := hC.ext hwn4
   clear hwn4
   clear ol
   obtain ⟨q0_0, q0_1, q0_2, l0_⟩ := hH.c3 0 rfl; obtain ⟨q1_0, q1_1, q1_2, q1_3, q1_4, l1_⟩ := hH.c5 1 rfl; obtain ⟨q2_0, q2_1, q2_2, q2_3, q2_4, l2_⟩ := hH.c5 2 rfl
   go_wp2_with fail
   clear q0_0 q0_1 q0_2 l0_ q1_0 q1_1 q1_2 q1_3 q1_4 l1_ q2_0 q2_1 q2_2 q2_3 q2_4 l2_
   have HAL : Hid ((ascL (occ3 (ts.map (tenOf dimOf)))).length ≤ 100 ∧ (ascL (occ3 (ts.map (tenOf dimOf)))).Nodup) := Lib.hid ⟨by unfold ascL; refine Nat.le_trans (List.length_filter_le _ _) ?_; rw [all100_len]; omega, ascL_nodup _⟩
   refine (l06Shuffle_any cb _ _ _ hC (hH.ints (k := 4) rfl) (by have := HAL.out.1; omega)).mono ?_; rintro e4 w4 ⟨u4, M, rfl, om, hpm, c4, g4⟩
   obtain ⟨aM, cM, rfl, _, _⟩ := om.ints.val
   replace hH : HeldX (some cb) w w4 [aB (w.heap.size) 24 [.int .i64 k, .int .i64 p, .int .i64 n], aB (w.heap.size + 1) 29 [.int .i64 0, .int .i64 0, .int .i64 0, .slice none 0 0, .slice none 0 0], aB (w.heap.size + 1 + 1) 29 [.int .i64 k, .int .i64 p, .int .i64 n, .slice aV ts.length cV, .slice none 0 0], aTs (.slice aV ts.length cV) cs (ts.map (tenOf dimOf)), aI vl (ascL (occ3 (ts.map (tenOf dimOf)))), aI (.slice aM M.length cM) M] := (hH.mores 1).addX (A := aI _ M) hbl 5 g4 om.zero (fun z hz => (om.block_lt (aI_fp hz)).1)
   replace hC := c4; clear c4 g4 om
   have HM : Hid (M.Nodup ∧ (∀ x ∈ M, x ∈ U6 ∧ x ∈ occ ts) ∧ M.length ≤ 100) := Lib.hid ⟨hpm.nodup_iff.2 HAL.out.2, fun x hx => by have h := (mem_ascL.1 (hpm.mem_iff.1 hx)).2; rw [occ3_ten] at h; exact ⟨HN.out.occU h, h⟩, by rw [hpm.length_eq]; exact HAL.out.1⟩
   clear hpm HAL
   replace hH : HeldX (some cb) w w4 [aB (w.heap.size) 24 [.int .i64 k, .int .i64 p, .int .i64 n], aB (w.heap.size + 1) 29 [.int .i64 0, .int .i64 0, .int .i64 0, .slice none 0 0, .slice none 0 0], aB (w.heap.size + 1 + 1) 29 [.int .i64 k, .int .i64 p, .int .i64 n, .slice aV ts.length cV, .slice none 0 0], aTs (.slice aV ts.length cV) cs (ts.map (tenOf dimOf)), aI (.slice aM M.length cM) M] := hH.sub (.cons_cons _ (.cons_cons _ (.cons_cons _ (.cons_cons _ (.cons _ (.cons_cons _ .slnil))))))
   replace hH : HeldX (some cb) w w4 [aB (w.heap.size) 24 [.int .i64 k, .int .i64 p, .int .i64 n], aB (w.heap.size + 1) 29 [.int .i64 0, .int .i64 0, .int .i64 0, .slice none 0 0, .slice none 0 0], aB (w.heap.size + 1 + 1) 29 [.int .i64 k, .int .i64 p, .int .i64 n, .slice aV ts.length cV, .slice none 0 0], aTs (.slice aV ts.length cV) cs (ts.map (tenOf dimOf)), aI (.slice aM M.length cM) M, aI (.slice none 0 0) []] := hH.nilI
   go_wp2_with fail
   go_loopw [35] (fun i wr => ∃ (j : Nat) (ov : Value) (O : List Int), j ≤ M.length ∧ i = .int .i64 (j : Int) ∧ HeldX (some cb) w wr [aB (w.heap.size) 24 [.int .i64 k, .int .i64 p, .int .i64 n], aB (w.heap.size + 1) 29 [.int .i64 0, .int .i64 0, .int .i64 0, .slice none 0 0, .slice none 0 0], aB (w.heap.size + 1 + 1) 29 [.int .i64 k, .int .i64 p, .int .i64 n, .slice aV ts.length cV, ov], aTs (.slice aV ts.length cV) cs (ts.map (tenOf dimOf)), aI (.slice aM M.length cM) M, aI (ov) O] ∧ Hid (O.Nodup ∧ ∀ x ∈ O, x ∈ M.take j) ∧ Cur wr cb l) (fun i wr => M.length - (RowKit.intOf i).toNat)
   case atStart => exact ⟨0, .slice none 0 0, [], Nat.zero_le _, rfl, hH, Lib.hid ⟨List.nodup_nil, fun x hx => by cases hx⟩, hC⟩
   case round =>
    clear hH hC
    obtain ⟨j, ov, O, hj, rfl, hH, HO, hC⟩ := hrel
    obtain ⟨aO, cO, rfl, _, _⟩ := (hH.ints (k := 5) rfl).val
    have hOl : O.length ≤ 100 := by have h1 : O.Subset (M.take j) := HO.out.2; have h2 := nodup_len HO.out.1 h1; rw [List.length_take] at h2; have := HM.out.2.2; omega
    by_cases hlt : j < M.length
    ·
     obtain ⟨x, hx⟩ : ∃ x, M[j]? = some x := ⟨_, List.getElem?_eq_getElem hlt⟩
     have hcx := hH.ints (k := 4) rfl
     obtain ⟨bM, oM, x', rfl, hcM, hx', _⟩ := hcx.get hlt
     obtain rfl : x' = x := by rw [hx] at hx'; exact (Option.some.inj hx').symm
     have HX := Lib.hid hx; clear hx hx' hcx
     have HO2 : Hid ((O ++ [x']).Nodup ∧ ∀ y ∈ O ++ [x'], y ∈ M.take (j + 1)) := Lib.hid (nodup_snoc_take HM.out.1 HX.out HO.out.1 HO.out.2)
     have HO3 : Hid (O.Nodup ∧ ∀ y ∈ O, y ∈ M.take (j + 1)) := Lib.hid ⟨HO.out.1, fun y hy => HO2.out.2 y (List.mem_append_left _ hy)⟩
     go_wp2_with fail
     clear hcM
     refine (l01Once_any cb 3 _ hC (by omega)).mono ?_; rintro e5 w5 ⟨bb, rfl, c5, g5⟩
     have hH5 : HeldX (some cb) w w5 [aB (w.heap.size) 24 [.int .i64 k, .int .i64 p, .int .i64 n], aB (w.heap.size + 1) 29 [.int .i64 0, .int .i64 0, .int .i64 0, .slice none 0 0, .slice none 0 0], aB (w.heap.size + 1 + 1) 29 [.int .i64 k, .int .i64 p, .int .i64 n, .slice aV ts.length cV, .slice aO O.length cO], aTs (.slice aV ts.length cV) cs (ts.map (tenOf dimOf)), aI (.slice (some ⟨bM, oM, none⟩) M.length cM) M, aI (.slice aO O.length cO) O] := hH.turnX hbl g5; clear g5 hC hH
     have hH := hH5; have hC := c5; clear hH5 c5
     cases bb
     ·
      go_wp2_with fail
      go_roundw
      case rel => exact ⟨j + 1, _, O, by omega, by go_num, hH, HO3, hC⟩
      case measure => simp [RowKit.intOf]; omega
     ·
      obtain ⟨q0_0, q0_1, q0_2, l0_⟩ := hH.c3 0 rfl; obtain ⟨q1_0, q1_1, q1_2, q1_3, q1_4, l1_⟩ := hH.c5 1 rfl; obtain ⟨q2_0, q2_1, q2_2, q2_3, q2_4, l2_⟩ := hH.c5 2 rfl
      go_wp2_with (at_builtin; refine wpList_app _ rfl _ _ 27 rfl _ _ rfl rfl _ (run_push _ _ w.heap.size _ O x' (hH.own (k := 5) rfl) (by omega) hH.size) ?_; rintro v6 w6 ⟨o6, g6, n6⟩; obtain ⟨a6, c6, hv6, _, _⟩ := o6.ints.val; rw [List.length_append, List.length_singleton] at hv6; subst hv6; have hHp := hH.pushed (k := 5) rfl o6 g6 n6; have yB := hHp.blk (k := 2) rfl; have yl := yB.lt; have y4 := yB.cell (j := 4) rfl; have y4f := yB.free 4; clear yB)
      clear q0_0 q0_1 q0_2 l0_ q1_0 q1_1 q1_2 q1_3 q1_4 l1_ q2_0 q2_1 q2_2 q2_3 q2_4 l2_
      clear y4 y4f yl
      have hC6 := hC.onlyV (r := (Value.slice aO O.length cO).ownBlock) g6 (fun z hz => Nat.lt_of_lt_of_le hbl (hH.fpr (k := 5) rfl z (by show z ∈ Option.toList _; rw [hz]; simp)).1)
      have hHq := (hH.pushed (k := 5) rfl o6 g6 n6).setB (k := 2) rfl 4 (.slice a6 (O.length + 1) c6)
      have hC7 := hC6.onlyV (grown_setCell (grown_refl _ (some (w.heap.size + 1 + 1))) 4 (.slice a6 (O.length + 1) c6)) (fun z hz => by cases hz; omega)
      go_roundw
      case rel => exact ⟨j + 1, _, O ++ [x'], by omega, by go_num, hHq, HO2, hC7⟩
      case measure => simp [RowKit.intOf]; omega
    ·
     obtain ⟨q0_0, q0_1, q0_2, l0_⟩ := hH.c3 0 rfl; obtain ⟨q1_0, q1_1, q1_2, q1_3, q1_4, l1_⟩ := hH.c5 1 rfl; have f1_0 := hH.fr 1 0 rfl; have f1_1 := hH.fr 1 1 rfl; have f1_2 := hH.fr 1 2 rfl; have f1_3 := hH.fr 1 3 rfl; have f1_4 := hH.fr 1 4 rfl; obtain ⟨q2_0, q2_1, q2_2, q2_3, q2_4, l2_⟩ := hH.c5 2 rfl
     go_wp2_with fail
     have hE5 := hH.setB5 (k := 1) rfl (.int .i64 k) (.int .i64 p) (.int .i64 n) (.slice aV ts.length cV) (.slice aO O.length cO)
     have hC5 := hC.onlyV (grown5 (grown_refl _ (some (w.heap.size + 1))) (.int .i64 k) (.int .i64 p) (.int .i64 n) (.slice aV ts.length cV) (.slice aO O.length cO)) (fun z hz => by cases hz; omega)
     refine bodyPost_ret (v := .agg #[.int .i64 k, .int .i64 p, .int .i64 n, .slice aV ts.length cV, .slice aO O.length cO]) (by simp [results, Tryz.results17, go_sem, *]) rfl ?_
     exact ⟨_, _, cs, ts, O, rfl, hE5.sub (.cons _ (.cons _ (.cons _ (.cons_cons _ (.cons _ (.cons_cons _ .slnil)))))), ⟨HN.out.uni, HN.out.ten, ⟨HO.out.1, fun x hx => (HM.out.2.1 x (List.mem_of_mem_take (HO.out.2 x hx))).1⟩, fun x hx => (HM.out.2.1 x (List.mem_of_mem_take (HO.out.2 x hx))).2, HN.out.len⟩, by omega, hC5⟩
theorem HeldX.join {ex ob : Option Nat} {a w w' : World} {L L2 : List Asn} (h : HeldX ex a w L) (h2 : HeldX ob w w' L2) (hob : ∀ q, ob = some q → a.heap.size ≤ q ∧ ∀ A ∈ L, q ∉ A.fp) : HeldX ex a w' (L ++ L2) :=
  ⟨gr_above h.grown h2.grown fun q hq => (hob q hq).1, fun A hA => by
    rcases List.mem_append.1 hA with hA | hA
    · obtain ⟨h3, h4⟩ := h.all A hA
      exact ⟨A.loc w w' (fun c hc => h2.grown.block c (A.lt w h3 c hc) fun e => (hob c e.symm).2 A hA hc) h3, h4⟩
    · obtain ⟨h3, h4⟩ := h2.all A hA
      exact ⟨h3, fun c hc => Nat.le_trans h.size (h4 c hc)⟩,
   List.pairwise_append.2 ⟨h.apart, h2.apart, fun A hA A2 hA2 c hc hc2 => by
    have h3 := A.lt w (h.all A hA).1 c hc
    have h4 := (h2.all A2 hA2).2 c hc2
    omega⟩⟩
def netT : Value → Value
  | .agg xs => xs.toList.getD 3 undef
  | _ => undef
def netO : Value → Value
  | .agg xs => xs.toList.getD 4 undef
  | _ => undef
theorem netT_mk (x0 x1 x2 x3 x4 : Value) : netT (.agg #[x0, x1, x2, x3, x4]) = x3 := rfl
theorem netO_mk (x0 x1 x2 x3 x4 : Value) : netO (.agg #[x0, x1, x2, x3, x4]) = x4 := rfl
set_option maxRecDepth 100000 in
set_option maxHeartbeats 4000000 in
theorem makeNetwork_any (v : Value) (l : List Int) (c : Int) (k p n most : Int) (hr : ringOk k p n = true) (hm0 : 0 ≤ most) (hm1 : most ≤ 12) (w : World) (hl : Code w v l) (hn : 0 ≤ c ∧ c ≤ 1000000) : Calls Tryz.prog 6 #[v, .int .i64 c, ringV k p n, .int .i64 most] w fun e w' =>
 ∃ tv ov cs ts op, e = .returned (.agg #[.int .i64 k, .int .i64 p, .int .i64 n, tv, ov]) ∧ Held w w' [aTs tv cs (ts.map (tenOf dimOf)), aI ov op] ∧ IsN k p n dimOf U6 ts op ∧ (ts.length : Int) ≤ most := by
 have hl0 := hl
 obtain ⟨a, cap, rfl, hc1, hc2⟩ := hl.bytes.val
 have HR := Lib.hid hr; have HL := Lib.hid hl0; clear hr hl0
 go_enter Tryz.func6, Tryz.ntmps6
 go_wp2_with fail
 have hH : Held w w [] := Held.new (Ext.refl w) 0
 have hB : Held w (w.alloc (.cells #[.int .i64 k, .int .i64 p, .int .i64 n] 24)) [aB (w.heap.size) 24 [.int .i64 k, .int .i64 p, .int .i64 n]] := by
  have h := (hH.mores 1).addB 0 #[.int .i64 k, .int .i64 p, .int .i64 n] 24
  exact h
 have hsz : (w.alloc (.cells #[.int .i64 k, .int .i64 p, .int .i64 n] 24)).heap.size = w.heap.size + 1 := by simp
 generalize w.alloc (.cells #[.int .i64 k, .int .i64 p, .int .i64 n] 24) = wn1 at hB hsz ⊢
 replace hH := hB; have HSZwn1 := Lib.hid hsz; clear hB hsz
 have hB : Held w (wn1.alloc (.cells #[.int .i64 0, .int .i64 0, .int .i64 0, .slice none 0 0, .slice none 0 0] 29)) [aB (w.heap.size) 24 [.int .i64 k, .int .i64 p, .int .i64 n], aB (w.heap.size + 1) 29 [.int .i64 0, .int .i64 0, .int .i64 0, .slice none 0 0, .slice none 0 0]] := by
  have h := (hH.mores 1).addB 1 #[.int .i64 0, .int .i64 0, .int .i64 0, .slice none 0 0, .slice none 0 0] 29
  rw [HSZwn1.out] at h
  exact h
 have hsz : (wn1.alloc (.cells #[.int .i64 0, .int .i64 0, .int .i64 0, .slice none 0 0, .slice none 0 0] 29)).heap.size = w.heap.size + 1 + 1 := by rw [← HSZwn1.out]; simp
 generalize wn1.alloc (.cells #[.int .i64 0, .int .i64 0, .int .i64 0, .slice none 0 0, .slice none 0 0] 29) = wn2 at hB hsz ⊢
 replace hH := hB; have HSZwn2 := Lib.hid hsz; clear hB hsz
 replace hH := hH.mores 2
 replace hH : Held w wn2 [aB (w.heap.size) 24 [.int .i64 k, .int .i64 p, .int .i64 n], aB (w.heap.size + 1) 29 [.int .i64 0, .int .i64 0, .int .i64 0, .slice none 0 0, .slice none 0 0], emp, emp] := hH
 refine wp_region_steps ?Fa (fun b t wx => ∃ (cb : Nat), ∃ (cs : List (Value × Value × Value)), ∃ (ts : List (NT k p n)), ∃ (op : List Int), Held w wx [aB (w.heap.size) 24 [.int .i64 k, .int .i64 p, .int .i64 n], (bif b 6 then aB (w.heap.size + 1) 29 (partsN (t 5)) else aB (w.heap.size + 1) 29 [.int .i64 0, .int .i64 0, .int .i64 0, .slice none 0 0, .slice none 0 0]), (bif b 5 then aTs (netT (t 5)) cs (ts.map (tenOf dimOf)) else emp), (bif b 5 then aI (netO (t 5)) op else emp)] ∧ (b 2 = true → w.heap.size + 2 ≤ cb) ∧ (b 2 = true → (b 6 = true ∨ Cur wx cb l)) ∧ (b 5 = true → IsN k p n dimOf U6 ts op ∧ (ts.length : Int) ≤ most) ∧ (b 0 = true → t 0 = .slice a l.length cap) ∧ (b 1 = true → t 1 = .int .i64 c) ∧ (b 2 = true → t 2 = .pointer (some ⟨cb, 0, none⟩)) ∧ (b 3 = true → t 3 = .agg #[.int .i64 k, .int .i64 p, .int .i64 n]) ∧ (b 4 = true → t 4 = .int .i64 most) ∧ (b 5 = true → ∃ a1 c1 a2 c2, t 5 = .agg #[.int .i64 k, .int .i64 p, .int .i64 n, .slice a1 ts.length c1, .slice a2 op.length c2])) ?hFa (by kernel_rfl) (by kernel_rfl) ?hJa ?hSa ?hEa
 (case hFa => intro t; simp only [putAll, Act.put, List.setIfInBounds_toArray, List.set_cons_zero, List.set_cons_succ, Nat.reduceAdd, Nat.zero_add]; exact rfl)
 case hJa => exact ⟨0, [], [], [], hH.grow ((Ext.refl _).drew), nof, nof, nof, nof, nof, nof, nof, nof, nof⟩
 case hSa => as_aux_lemma =>
   refine AllSteps.cons (j := 1) rfl (fun b t wx hJ hb hd hcl Kc hK => ?_) ?_
   · obtain ⟨cb, cs, ts, op, hH, hcb, hC, hN5, v0, v1, v2, v3, v4, v5⟩ := hJ
     go_simp
     refine hK.out _ ?_ _ ?_ ?_; rotate_left 2
     · rfl
     exact ⟨cb, cs, ts, op, hH, hcb, hC, hN5, fun _ => rfl, v1, v2, v3, v4, v5⟩
   refine AllSteps.cons (j := 2) rfl (fun b t wx hJ hb hd hcl Kc hK => ?_) ?_
   · obtain ⟨cb, cs, ts, op, hH, hcb, hC, hN5, v0, v1, v2, v3, v4, v5⟩ := hJ
     go_simp
     refine hK.out _ ?_ _ ?_ ?_; rotate_left 2
     · rfl
     exact ⟨cb, cs, ts, op, hH, hcb, hC, hN5, v0, fun _ => rfl, v2, v3, v4, v5⟩
   refine AllSteps.cons (j := 3) rfl (fun b t wx hJ hb hd hcl Kc hK => ?_) ?_
   · obtain ⟨cb, cs, ts, op, hH, hcb, hC, hN5, v0, v1, v2, v3, v4, v5⟩ := hJ
     have d0 := hd.out 0 (by kernel_rfl); have d1 := hd.out 1 (by kernel_rfl)
     have n6 : b 6 = false := Bool.eq_false_iff.2 fun h => absurd (hcl.out 6 2 (by kernel_rfl) (h)) (by rw [hb]; exact Bool.false_ne_true)
     have r0 := v0 d0; have r1 := v1 d1
     have hN := hH; (try simp only [hb, d0, d1, n6, cond_true, cond_false] at hN)
     go_simp
     go_at_call 16
     refine (l45At_any _ l c _ (HL.out.ext hH.ext) hn).mono ?_; rintro e2 w2 ⟨cb', rfl, hb, c1, h1⟩
     (try go_simp)
     refine hK.out _ ?_ _ ?_ ?_; rotate_left 2
     · (try simp only [r0, r1]); rfl
     exact ⟨cb', cs, ts, op, by have hX := hN.grow h1; simpa only [List.set_cons_zero, List.set_cons_succ, updB, updV, blkOf_mk, tup0_mk, partsOf3, netT_mk, netO_mk, partsN_mk, Nat.reduceBEq, cond_true, cond_false, hb, d0, d1, n6, r0, r1] using hX, (fun _ => by have h := (hN.fpr (k := 1) rfl (w.heap.size + 1) (by simp [aB])).2; omega), (fun _ => .inr c1), hN5, v0, v1, fun _ => rfl, v3, v4, v5⟩
   refine AllSteps.cons (j := 4) rfl (fun b t wx hJ hb hd hcl Kc hK => ?_) ?_
   · obtain ⟨cb, cs, ts, op, hH, hcb, hC, hN5, v0, v1, v2, v3, v4, v5⟩ := hJ
     have q0_0 := hH.cl 0 0 rfl rfl; have q0_1 := hH.cl 0 1 rfl rfl; have q0_2 := hH.cl 0 2 rfl rfl
     go_simp
     refine hK.out _ ?_ _ ?_ ?_; rotate_left 2
     · rfl
     exact ⟨cb, cs, ts, op, hH, hcb, hC, hN5, v0, v1, v2, fun _ => rfl, v4, v5⟩
   refine AllSteps.cons (j := 5) rfl (fun b t wx hJ hb hd hcl Kc hK => ?_) ?_
   · obtain ⟨cb, cs, ts, op, hH, hcb, hC, hN5, v0, v1, v2, v3, v4, v5⟩ := hJ
     go_simp
     refine hK.out _ ?_ _ ?_ ?_; rotate_left 2
     · rfl
     exact ⟨cb, cs, ts, op, hH, hcb, hC, hN5, v0, v1, v2, v3, fun _ => rfl, v5⟩
   refine AllSteps.cons (j := 6) rfl (fun b t wx hJ hb hd hcl Kc hK => ?_) ?_
   · obtain ⟨cb, cs, ts, op, hH, hcb, hC, hN5, v0, v1, v2, v3, v4, v5⟩ := hJ
     have d2 := hd.out 2 (by kernel_rfl); have d3 := hd.out 3 (by kernel_rfl); have d4 := hd.out 4 (by kernel_rfl)
     have n6 : b 6 = false := Bool.eq_false_iff.2 fun h => absurd (hcl.out 6 5 (by kernel_rfl) (h)) (by rw [hb]; exact Bool.false_ne_true)
     have r2 := v2 d2; have r3 := v3 d3; have r4 := v4 d4
     have hN := hH; (try simp only [hb, d2, d3, d4, n6, cond_true, cond_false] at hN)
     go_simp
     go_at_call 17
     refine (l12Net_any cb k p n HR.out most hm0 hm1 _ ((hC d2).resolve_left (by rw [n6]; exact Bool.false_ne_true))).mono ?_; rintro e5 w5 ⟨tv, ov, cs', ts', op', rfl, hH2, HN, hlen, c2⟩
     have hq := hcb d2
     obtain ⟨b1, q1, hq1, _, _⟩ := (hH2.tensS (k := 0) rfl).val
     obtain ⟨b2, q2, rfl, _, _⟩ := (hH2.ints (k := 1) rfl).val
     rw [List.length_map] at hq1; subst hq1
     have HQ := Lib.hid hq; have HNN := Lib.hid HN; have HLN := Lib.hid hlen; clear hq HN hlen
     (try go_simp)
     refine hK.out _ ?_ _ ?_ ?_; rotate_left 2
     · (try simp only [r2, r3, r4]); rfl
     exact ⟨cb, cs', ts', op', by have hX := (hN.join hH2 (fun z hz => by cases hz; have := HQ.out; exact ⟨by omega, fun A hA hc => by simp at hA; rcases hA with rfl | rfl | rfl | rfl <;> simp [aB, emp] at hc <;> omega⟩)).sub (.cons_cons _ (.cons_cons _ (.cons _ (.cons _ (.cons_cons _ (.cons_cons _ .slnil)))))); simpa only [List.set_cons_zero, List.set_cons_succ, updB, updV, blkOf_mk, tup0_mk, partsOf3, netT_mk, netO_mk, partsN_mk, Nat.reduceBEq, cond_true, cond_false, hb, d2, d3, d4, n6, r2, r3, r4] using hX, hcb, (fun _ => .inr c2), (fun _ => ⟨HNN.out, HLN.out⟩), v0, v1, v2, v3, v4, fun _ => ⟨_, _, _, _, rfl⟩⟩
   refine AllSteps.cons (j := 7) rfl (fun b t wx hJ hb hd hcl Kc hK => ?_) ?_
   · obtain ⟨cb, cs, ts, op, hH, hcb, hC, hN5, v0, v1, v2, v3, v4, v5⟩ := hJ
     have d0 := hd.out 0 (by kernel_rfl); have d1 := hd.out 1 (by kernel_rfl); have d2 := hd.out 2 (by kernel_rfl); have d3 := hd.out 3 (by kernel_rfl); have d4 := hd.out 4 (by kernel_rfl); have d5 := hd.out 5 (by kernel_rfl); have r0 := v0 d0; have r1 := v1 d1; have r2 := v2 d2; have r3 := v3 d3; have r4 := v4 d4; have r5 := v5 d5
     obtain ⟨a1_5, c1_5, a2_5, c2_5, r5⟩ := r5
     have hN := hH; (try simp only [hb, d0, d1, d2, d3, d4, d5, cond_true, cond_false] at hN)
     have B := hN.blk (k := 1) rfl
     have f0 := B.free 0; have z0 := B.cell (j := 0) rfl
     have f1 := B.free 1; have z1 := B.cell (j := 1) rfl
     have f2 := B.free 2; have z2 := B.cell (j := 2) rfl
     have f3 := B.free 3; have z3 := B.cell (j := 3) rfl
     have f4 := B.free 4; have z4 := B.cell (j := 4) rfl
     have lB := B.lt
     go_simp
     refine hK.out _ undef _ ?_ ?_; rotate_left 1
     · (try simp only [r0, r1, r2, r3, r4, r5]); rfl
     exact ⟨cb, cs, ts, op, by have hX := hN.setB5 (k := 1) rfl (.int .i64 k) (.int .i64 p) (.int .i64 n) (.slice a1_5 ts.length c1_5) (.slice a2_5 op.length c2_5); simpa only [List.set_cons_zero, List.set_cons_succ, updB, updV, blkOf_mk, tup0_mk, partsOf3, netT_mk, netO_mk, partsN_mk, Nat.reduceBEq, cond_true, cond_false, hb, d0, d1, d2, d3, d4, d5, r0, r1, r2, r3, r4, r5] using hX, hcb, (fun _ => .inl rfl), hN5, v0, v1, v2, v3, v4, v5⟩
   exact AllSteps.nil
 case hEa =>
  intro b t wa hJ hall
  obtain ⟨cba, csa, tsa, opa, hHa, hcba, hCa, hN5a, v0, v1, v2, v3, v4, v5⟩ := hJ
  have a0 := hall 0 (by decide); have a1 := hall 1 (by decide); have a2 := hall 2 (by decide); have a3 := hall 3 (by decide); have a4 := hall 4 (by decide); have a5 := hall 5 (by decide); have a6 := hall 6 (by decide)
  (try simp only [a0, a1, a2, a3, a4, a5, a6, cond_true] at hHa)
  replace v0 := v0 a0; replace v1 := v1 a1; replace v2 := v2 a2; replace v3 := v3 a3; replace v4 := v4 a4; replace v5 := v5 a5
  replace hcba := hcba a2
  replace hCa := hCa a2
  replace hN5a := hN5a a5
  clear hall a0 a1 a2 a3 a4 a5 a6
  generalize t 5 = x5 at hHa v5 ⊢; generalize t 4 = x4 at hHa v4 ⊢; generalize t 3 = x3 at hHa v3 ⊢; generalize t 2 = x2 at hHa v2 ⊢; generalize t 1 = x1 at hHa v1 ⊢; generalize t 0 = x0 at hHa v0 ⊢; subst v0; subst v1; subst v2; subst v3; subst v4
  obtain ⟨a1a5, c1a5, a2a5, c2a5, rfl⟩ := v5
  clear hCa
  clear b
  replace hH := hHa; clear hHa
  replace hH : Held w wa [aB (w.heap.size) 24 [.int .i64 k, .int .i64 p, .int .i64 n], aB (w.heap.size + 1) 29 [.int .i64 k, .int .i64 p, .int .i64 n, .slice a1a5 tsa.length c1a5, .slice a2a5 opa.length c2a5], aTs (.slice a1a5 tsa.length c1a5) csa (tsa.map (tenOf dimOf)), aI (.slice a2a5 opa.length c2a5) opa] := hH
  obtain ⟨q1_0, q1_1, q1_2, q1_3, q1_4, l1_⟩ := hH.c5 1 rfl
  go_wp2_with fail
  refine bodyPost_ret (v := .agg #[.int .i64 k, .int .i64 p, .int .i64 n, .slice a1a5 tsa.length c1a5, .slice a2a5 opa.length c2a5]) (by simp [results, Tryz.results6, go_sem, *]) rfl ?_
  exact ⟨_, _, csa, tsa, opa, rfl, hH.sub (.cons _ (.cons _ (.cons_cons _ (.cons_cons _ .slnil)))), hN5a.1, hN5a.2⟩
end Go.Proofs.YtlgjddgajdjllaaGreatDoor
