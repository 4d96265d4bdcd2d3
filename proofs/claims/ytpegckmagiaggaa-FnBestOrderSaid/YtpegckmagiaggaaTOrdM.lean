/- Drawn orders: l17Order, MakeOrder. -/
import Derived.Test.YtpegckmagiaggaaTG17
set_option linter.unusedSimpArgs false
set_option linter.unusedVariables false
namespace Go.Proofs.Ytpegckmagiaggaa
open Go.RowKit
theorem OwnI.front {w : World} {B b n n' c : Nat} {l l2 : List Int} (h : OwnI w B (.slice (some ⟨b, 0, none⟩) n c) (l ++ l2)) (hn : l.length = n') : OwnI w B (.slice (some ⟨b, 0, none⟩) n' c) l := by
  subst hn
  rcases h.own with ⟨h, _⟩ | ⟨b', rest, h1, h2, h3, h4⟩
  · cases h
  · simp only [Value.slice.injEq, Option.some.injEq, Addr.mk.injEq, true_and, and_true] at h2
    obtain ⟨rfl, rfl, rfl⟩ := h2
    rw [List.length_append] at h4
    refine ⟨.inr ⟨b, Proofs.Ytpegckmagiaggaa.ints l2 ++ rest, h1, ?_, ?_, ?_⟩⟩
    · rw [List.length_append, List.length_append, ints_length, Nat.add_assoc]
    · rw [← List.append_assoc]
      have e : Proofs.Ytpegckmagiaggaa.ints l ++ Proofs.Ytpegckmagiaggaa.ints l2 = Proofs.Ytpegckmagiaggaa.ints (l ++ l2) := by simp [Proofs.Ytpegckmagiaggaa.ints]
      rw [e]; exact h3
    · rw [List.length_append, ints_length]; omega
theorem two_last {l : List Int} (h : 2 ≤ l.length) : ∃ l0 x y, l = l0 ++ [x, y] ∧ l0.length + 2 = l.length := by
  obtain ⟨l1, y, rfl⟩ : ∃ l1 y, l = l1 ++ [y] := by
    rcases List.eq_nil_or_concat l with h0 | ⟨a, b, h0⟩
    · subst h0; simp at h
    · exact ⟨a, b, by simpa using h0⟩
  obtain ⟨l2, x, rfl⟩ : ∃ l2 x, l1 = l2 ++ [x] := by
    rcases List.eq_nil_or_concat l1 with h0 | ⟨a, b, h0⟩
    · subst h0; simp at h
    · exact ⟨a, b, by simpa using h0⟩
  exact ⟨l2, x, y, by simp, by simp⟩
def lenV : Value → Nat
  | .slice _ n _ => n
  | _ => 0
theorem HeldX.emptyI {ex : Option Nat} {a w : World} {L : List Asn} (h : HeldX ex a w L) (k : Nat) : HeldX ex a (w.alloc (.cells #[] 3)) (L.set k (aI (.slice (some ⟨w.heap.size, 0, none⟩) 0 0) [])) :=
  h.addI k ((Ext.refl _).alloc _) (OwnI.empty (Nat.le_refl _) rfl) (Nat.le_refl _)
theorem HeldX.emptySt {ex : Option Nat} {a w : World} {L : List Asn} (h : HeldX ex a w L) (k : Nat) : HeldX ex a (w.alloc (.cells #[] 138)) (L.set k (aSt (.slice (some ⟨w.heap.size, 0, none⟩) 0 0) [])) :=
  h.add k ((Ext.refl _).alloc _) ⟨rfl, .inr ⟨w.heap.size, 0, #[], rfl, Nat.zero_le _, heap_alloc_new w _, Nat.le_refl _, Nat.zero_le _, rfl, rfl⟩⟩ fun b hb => by simp [aSt, aR, Value.ownBlock] at hb; omega
theorem run_pushSt2 {ex : Option Nat} {A w : World} {L : List Asn} {k : Nat} (ty : TypeId) {v src : Value} {os : List (Int × Int)} {a b : Int} (h : HeldX ex A w L) (h1 : L[k]? = some (aSt v os)) (hr : Row w 2 src 1 [.int .i64 a, .int .i64 b]) (hb : os.length + 1 ≤ 1099511627) :
    ∃ v' w', (Builtin.append_ #[72, 72] ty #[v, src]).run Try.prog w = .ok v' w' ∧ HeldX ex A w' (L.set k (aSt v' (os ++ [(a, b)]))) ∧ w.grownBy w' v.ownBlock ∧ StepsS w' v' (os ++ [(a, b)]) := by
  obtain ⟨v', w', e1, e2, e3, e4⟩ := run_pushSt ty h (n := os.length) (xs := os.flatMap cellsP) h1 hr rfl rfl hb
  have e : aR 138 2 v' (os.length + 1) (os.flatMap cellsP ++ [.int .i64 a, .int .i64 b]) = aSt v' (os ++ [(a, b)]) := by
    unfold aSt
    rw [List.flatMap_append, List.length_append]; rfl
  rw [e] at e2
  have hlt : k < L.length := (List.getElem?_eq_some_iff.1 h1).1
  exact ⟨v', w', e1, e2, e3, e2.steps (k := k) (List.getElem?_set_self hlt)⟩
set_option maxRecDepth 100000 in
set_option maxHeartbeats 4000000 in
theorem l17Order_any (kb : Nat) {l : List Int} (m : Nat) (hm : m ≤ 12) (w : World) (hc : Cur w kb l) : Calls Try.prog 134 #[.pointer (some ⟨kb, 0, none⟩), .int .i64 (m : Int)] w fun e w' =>
 ∃ v os, e = .returned v ∧ HeldX (some kb) w w' [aSt v os] ∧ okO (numL m) (m : Int) os ∧ os.length = m - 1 ∧ Cur w' kb l := by
 have hbl := hc.lt
 have HM := Lib.hid hm
 have hH : Held w w [] := Held.new (Ext.refl w) 0
 go_enter Try.func134, Try.ntmps134
 go_wp2_with fail
 have hB : Held w (w.alloc (.cells #[] 3)) [aI (.slice (some ⟨w.heap.size, 0, none⟩) 0 0) []] := by
  have h := (hH.mores 1).emptyI 0
  exact h
 generalize w.alloc (.cells #[] 3) = w1 at hB ⊢
 replace hH := hB; clear hB
 go_loopw [5, 6] (fun vl i wr => ∃ (j : Nat), j ≤ m ∧ i = .int .i64 (j : Int) ∧ Held w wr [aI vl (numL j)]) (fun vl i wr => m - (RowKit.intOf i).toNat)
 case atStart => exact ⟨0, Nat.zero_le _, rfl, hH⟩
 case round =>
  clear hH
  obtain ⟨j, hj, rfl, hH⟩ := hrel
  have hnl := numL_len j
  obtain ⟨NJ, hNJ⟩ : ∃ q, numL j = q := ⟨_, rfl⟩
  have HNS := Lib.hid (show numL (j + 1) = NJ ++ [(j : Int)] by rw [numL_succ, hNJ])
  rw [hNJ] at hH hnl
  obtain ⟨aa, ca, rfl⟩ := (hH.own (k := 0) rfl).shape1 j hnl
  by_cases hlt : j < m
  ·
   have hm12 := HM.out
   have HNL := Lib.hid hnl; have HNJ := Lib.hid hNJ; clear hnl hNJ
   go_wp2_with (at_builtin; refine wpList_app _ rfl _ _ 27 rfl _ _ rfl rfl _ (run_push _ _ w.heap.size _ NJ (j : Int) (hH.own (k := 0) rfl) (by rw [HNL.out]; omega) hH.size) ?_; rintro v6 w6 ⟨o6, g6, n6⟩)
   have hX := hH.pushed (k := 0) rfl o6 g6 n6
   go_roundw
   case rel => exact ⟨j + 1, by omega, by go_num, by rw [HNS.out]; exact hX⟩
   case measure => simp [RowKit.intOf]; omega
  ·
   have hje : j = m := by omega
   subst hje
   have HNJ := Lib.hid hNJ; clear hnl hNJ
   go_wp2_with fail
   have hB : Held w (wr.alloc (.cells #[] 138)) [aI (.slice aa j ca) NJ, aSt (.slice (some ⟨wr.heap.size, 0, none⟩) 0 0) []] := by
    have h := (hH.mores 1).emptySt 1
    exact h
   generalize wr.alloc (.cells #[] 138) = w2 at hB ⊢
   have hH2 : HeldX (some kb) w w2 [aI (.slice aa j ca) NJ, aSt (.slice (some ⟨wr.heap.size, 0, none⟩) 0 0) []] := hB.exempt kb
   have hC2 := hc.ext hB.ext
   clear hB hH hc
   have HMK : Hid (Making j [] NJ) := Lib.hid (by rw [← HNJ.out]; exact Making.start j)
   clear HNS
   go_loopw [5, 7] (fun vt vo wq => ∃ (os : List (Int × Int)) (M : List Int), Hid (Making j os M) ∧ HeldX (some kb) w wq [aI vt M, aSt vo os] ∧ Cur wq kb l) (fun vt vo wq => lenV vt)
   case atStart => exact ⟨[], NJ, HMK, hH2, hC2⟩
   case round =>
    clear hH2 hC2 HMK
    obtain ⟨os, M, HMK, hH, hC⟩ := hrel
    obtain ⟨q, hq⟩ : ∃ q, M.length = q := ⟨_, rfl⟩
    obtain ⟨n, hn⟩ : ∃ n, os.length = n := ⟨_, rfl⟩
    obtain ⟨ta, tc, rfl⟩ := (hH.own (k := 0) rfl).shape1 q hq
    obtain ⟨sa, sc, hsv, _, _⟩ := (hH.steps (k := 1) rfl).val
    rw [hn] at hsv
    subst hsv
    have hm12 := HM.out
    have hqn : q + n = j := by have := HMK.out.len; omega
    have HQ := Lib.hid hq; have HN := Lib.hid hn; clear hq hn
    have hjj : HeldX (some kb) w wr [aI (.slice ta q tc) M, aSt (.slice sa n sc) os] := hH
    clear hH
    by_cases hgt : 1 < q
    ·
     go_wp2_with fail
     have hMl : M.length ≤ 200 := by rw [HQ.out]; omega
     refine (l06Shuffle_any kb _ M _ hC (hjj.ints (k := 0) rfl) hMl).mono ?_; rintro e3 w3 ⟨v3, M3, rfl, o3, hp3, c3, g3⟩
     have HMK3 := Lib.hid (HMK.out.shuf hp3)
     have hq3 : M3.length = q := by rw [hp3.length_eq]; exact HQ.out
     obtain ⟨M0, x, y, rfl, hM0⟩ := two_last (l := M3) (by rw [hq3]; omega)
     have hX3 := ((hjj.drop 0).addX hbl 0 g3 o3.zero (fun c hc => (o3.block_lt (aI_fp hc)).1))
     simp only [List.set_cons_zero] at hX3
     rw [hq3] at hM0
     obtain ⟨r, hr⟩ : ∃ r, M0.length = r := ⟨_, rfl⟩
     obtain ⟨b3, k3, hb3, hv3, hk31, hk32⟩ := o3.open (by rw [hq3]; omega)
     rw [hq3] at hv3
     subst hv3
     obtain ⟨cx, _⟩ := o3.cell (j := r) (x := x) (by rw [List.getElem?_append_right (by omega)]; simp [hr])
     obtain ⟨cy, _⟩ := o3.cell (j := r + 1) (x := y) (by rw [List.getElem?_append_right (by omega)]; simp [hr])
     have hqr : q = r + 2 := by omega
     have HQR := Lib.hid hqr
     have hrq : r < q := by omega
     obtain ⟨pz, hpz⟩ : ∃ pz, pz = r + 1 := ⟨_, rfl⟩
     have HPZ := Lib.hid hpz
     have hrq1 : pz < q := by omega
     have hadd : (r : Int) + 1 = (pz : Int) := by omega
     have hwr1 : IntKind.i64.wrap (pz : Int) = (pz : Int) := by rw [IntKind.wrap_i64]; omega
     have hsub : (q : Int) - 2 = (r : Int) := by omega
     have hwr0 : IntKind.i64.wrap (r : Int) = (r : Int) := by rw [IntKind.wrap_i64]; omega
     clear hqr hpz
     have HR := Lib.hid hr; have HQ3 := Lib.hid hq3
     clear hjj g3 hr hq3 hM0  hp3 hC hMl
     have hstep := HMK3.out.step
     rw [HN.out] at hstep
     have HST := Lib.hid hstep; clear hstep
     have hXX : HeldX (some kb) w w3 [aI (.slice (some ⟨b3, 0, none⟩) q k3) (M0 ++ [x, y]), aSt (.slice sa n sc) os] := hX3
     clear hX3
     have HX1 : Hid ((M0 ++ [x, y])[r]? = some x) := Lib.hid (by rw [List.getElem?_append_right (by rw [HR.out]; exact Nat.le_refl _), HR.out]; simp)
     have HX2 : Hid ((M0 ++ [x, y])[pz]? = some y) := Lib.hid (by rw [HPZ.out]; rw [List.getElem?_append_right (by rw [HR.out]; omega), HR.out]; simp)
     have hne : x ≠ y := by
      have h := (List.nodup_append.1 HMK3.out.nodup).2.1
      simpa using h
     obtain ⟨lo, hlo⟩ : ∃ q, min x y = q := ⟨_, rfl⟩
     obtain ⟨hi, hhi⟩ : ∃ q, max x y = q := ⟨_, rfl⟩
     rw [hlo, hhi] at HST
     have HLO := Lib.hid hlo; have HHI := Lib.hid hhi
     clear hlo hhi hne
     go_upto_region 10 with fail
     have hH := hXX; clear hXX
     have hcC := c3; clear c3
     replace hH := hH.mores 1
     replace hH : HeldX (some kb) w w3 [aI (.slice (some ⟨b3, 0, none⟩) q k3) (M0 ++ [x, y]), aSt (.slice sa n sc) os, emp] := hH
     refine wp_region_steps ?Fa (fun b t wx => HeldX (some kb) w wx [aI (.slice (some ⟨b3, 0, none⟩) q k3) (M0 ++ [x, y]), (bif b 23 then aSt (t 23) (os ++ [(lo, hi)]) else aSt (.slice sa n sc) os), (bif b 22 then aB (blkS (t 22)) 138 [.int .i64 lo, .int .i64 hi] else emp)] ∧ Cur wx kb l ∧ (b 0 = true → t 0 = .slice sa n sc) ∧ (b 1 = true → t 1 = .slice (some ⟨b3, 0, none⟩) q k3) ∧ (b 2 = true → t 2 = .int .i64 (r : Int)) ∧ (b 3 = true → t 3 = .pointer (some ⟨b3, r, none⟩)) ∧ (b 4 = true → t 4 = .int .i64 x) ∧ (b 5 = true → t 5 = .slice (some ⟨b3, 0, none⟩) q k3) ∧ (b 6 = true → t 6 = .int .i64 (r : Int)) ∧ (b 7 = true → t 7 = .int .i64 (pz : Int)) ∧ (b 8 = true → t 8 = .pointer (some ⟨b3, pz, none⟩)) ∧ (b 9 = true → t 9 = .int .i64 y) ∧ (b 10 = true → t 10 = .int .i64 lo) ∧ (b 11 = true → t 11 = .slice (some ⟨b3, 0, none⟩) q k3) ∧ (b 12 = true → t 12 = .int .i64 (r : Int)) ∧ (b 13 = true → t 13 = .pointer (some ⟨b3, r, none⟩)) ∧ (b 14 = true → t 14 = .int .i64 x) ∧ (b 15 = true → t 15 = .slice (some ⟨b3, 0, none⟩) q k3) ∧ (b 16 = true → t 16 = .int .i64 (r : Int)) ∧ (b 17 = true → t 17 = .int .i64 (pz : Int)) ∧ (b 18 = true → t 18 = .pointer (some ⟨b3, pz, none⟩)) ∧ (b 19 = true → t 19 = .int .i64 y) ∧ (b 20 = true → t 20 = .int .i64 hi) ∧ (b 21 = true → t 21 = .agg #[.int .i64 lo, .int .i64 hi]) ∧ (b 22 = true → ∃ z, t 22 = .slice (some ⟨z, 0, none⟩) 1 1) ∧ (b 23 = true → ∃ a c, t 23 = .slice a (n + 1) c) ∧ (b 24 = true → t 24 = t 23) ∧ Hid (b 24 = false → t 24 = .slice sa n sc)) ?hFa (by kernel_rfl) (by kernel_rfl) ?hJa ?hSa ?hEa
     (case hFa => intro t; simp only [putAll, Act.put, List.setIfInBounds_toArray, List.set_cons_zero, List.set_cons_succ, Nat.reduceAdd, Nat.zero_add]; exact rfl)
     case hJa => exact ⟨hH.grow ((Ext.refl _).drew), hcC.ext ((Ext.refl _).drew), fun h => absurd h Bool.false_ne_true, fun h => absurd h Bool.false_ne_true, fun h => absurd h Bool.false_ne_true, fun h => absurd h Bool.false_ne_true, fun h => absurd h Bool.false_ne_true, fun h => absurd h Bool.false_ne_true, fun h => absurd h Bool.false_ne_true, fun h => absurd h Bool.false_ne_true, fun h => absurd h Bool.false_ne_true, fun h => absurd h Bool.false_ne_true, fun h => absurd h Bool.false_ne_true, fun h => absurd h Bool.false_ne_true, fun h => absurd h Bool.false_ne_true, fun h => absurd h Bool.false_ne_true, fun h => absurd h Bool.false_ne_true, fun h => absurd h Bool.false_ne_true, fun h => absurd h Bool.false_ne_true, fun h => absurd h Bool.false_ne_true, fun h => absurd h Bool.false_ne_true, fun h => absurd h Bool.false_ne_true, fun h => absurd h Bool.false_ne_true, fun h => absurd h Bool.false_ne_true, fun h => absurd h Bool.false_ne_true, fun h => absurd h Bool.false_ne_true, fun h => absurd h Bool.false_ne_true, Lib.hid fun _ => rfl⟩
     case hSa => as_aux_lemma =>
       refine AllSteps.cons (j := 1) rfl (fun b t wx hJ hb hd hcl Kc hK => ?_) ?_
       · obtain ⟨hH, hcC, v0, v1, v2, v3, v4, v5, v6, v7, v8, v9, v10, v11, v12, v13, v14, v15, v16, v17, v18, v19, v20, v21, v22, v23, v24, old24⟩ := hJ
         have n24 : b 24 = false := Bool.eq_false_iff.2 fun h => absurd (hcl.out 24 0 (by kernel_rfl) (h)) (by rw [hb]; exact Bool.false_ne_true)
         have eo24 := old24.out n24
         go_simp
         refine hK.out _ ?_ _ ?_ ?_; rotate_left 2
         · (try simp only [eo24]); rfl
         exact ⟨hH, hcC, fun _ => rfl, v1, v2, v3, v4, v5, v6, v7, v8, v9, v10, v11, v12, v13, v14, v15, v16, v17, v18, v19, v20, v21, v22, v23, v24, old24⟩
       refine AllSteps.cons (j := 2) rfl (fun b t wx hJ hb hd hcl Kc hK => ?_) ?_
       · obtain ⟨hH, hcC, v0, v1, v2, v3, v4, v5, v6, v7, v8, v9, v10, v11, v12, v13, v14, v15, v16, v17, v18, v19, v20, v21, v22, v23, v24, old24⟩ := hJ
         go_simp
         refine hK.out _ ?_ _ ?_ ?_; rotate_left 2
         · rfl
         exact ⟨hH, hcC, v0, fun _ => rfl, v2, v3, v4, v5, v6, v7, v8, v9, v10, v11, v12, v13, v14, v15, v16, v17, v18, v19, v20, v21, v22, v23, v24, old24⟩
       refine AllSteps.cons (j := 3) rfl (fun b t wx hJ hb hd hcl Kc hK => ?_) ?_
       · obtain ⟨hH, hcC, v0, v1, v2, v3, v4, v5, v6, v7, v8, v9, v10, v11, v12, v13, v14, v15, v16, v17, v18, v19, v20, v21, v22, v23, v24, old24⟩ := hJ
         go_simp
         refine hK.out _ ?_ _ ?_ ?_; rotate_left 2
         · rfl
         exact ⟨hH, hcC, v0, v1, fun _ => rfl, v3, v4, v5, v6, v7, v8, v9, v10, v11, v12, v13, v14, v15, v16, v17, v18, v19, v20, v21, v22, v23, v24, old24⟩
       refine AllSteps.cons (j := 4) rfl (fun b t wx hJ hb hd hcl Kc hK => ?_) ?_
       · obtain ⟨hH, hcC, v0, v1, v2, v3, v4, v5, v6, v7, v8, v9, v10, v11, v12, v13, v14, v15, v16, v17, v18, v19, v20, v21, v22, v23, v24, old24⟩ := hJ
         have d1 := hd.out 1 (by kernel_rfl); have d2 := hd.out 2 (by kernel_rfl); have r1 := v1 d1; have r2 := v2 d2
         go_simp
         refine hK.out _ ?_ _ ?_ ?_; rotate_left 2
         · (try simp only [r1, r2]); rfl
         exact ⟨hH, hcC, v0, v1, v2, fun _ => rfl, v4, v5, v6, v7, v8, v9, v10, v11, v12, v13, v14, v15, v16, v17, v18, v19, v20, v21, v22, v23, v24, old24⟩
       refine AllSteps.cons (j := 5) rfl (fun b t wx hJ hb hd hcl Kc hK => ?_) ?_
       · obtain ⟨hH, hcC, v0, v1, v2, v3, v4, v5, v6, v7, v8, v9, v10, v11, v12, v13, v14, v15, v16, v17, v18, v19, v20, v21, v22, v23, v24, old24⟩ := hJ
         have d3 := hd.out 3 (by kernel_rfl); have r3 := v3 d3
         obtain ⟨cx, _⟩ := (hH.own (k := 0) rfl).cell HX1.out
         go_simp
         refine hK.out _ ?_ _ ?_ ?_; rotate_left 2
         · (try simp only [r3]); rfl
         exact ⟨hH, hcC, v0, v1, v2, v3, fun _ => rfl, v5, v6, v7, v8, v9, v10, v11, v12, v13, v14, v15, v16, v17, v18, v19, v20, v21, v22, v23, v24, old24⟩
       refine AllSteps.cons (j := 6) rfl (fun b t wx hJ hb hd hcl Kc hK => ?_) ?_
       · obtain ⟨hH, hcC, v0, v1, v2, v3, v4, v5, v6, v7, v8, v9, v10, v11, v12, v13, v14, v15, v16, v17, v18, v19, v20, v21, v22, v23, v24, old24⟩ := hJ
         go_simp
         refine hK.out _ ?_ _ ?_ ?_; rotate_left 2
         · rfl
         exact ⟨hH, hcC, v0, v1, v2, v3, v4, fun _ => rfl, v6, v7, v8, v9, v10, v11, v12, v13, v14, v15, v16, v17, v18, v19, v20, v21, v22, v23, v24, old24⟩
       refine AllSteps.cons (j := 7) rfl (fun b t wx hJ hb hd hcl Kc hK => ?_) ?_
       · obtain ⟨hH, hcC, v0, v1, v2, v3, v4, v5, v6, v7, v8, v9, v10, v11, v12, v13, v14, v15, v16, v17, v18, v19, v20, v21, v22, v23, v24, old24⟩ := hJ
         go_simp
         refine hK.out _ ?_ _ ?_ ?_; rotate_left 2
         · rfl
         exact ⟨hH, hcC, v0, v1, v2, v3, v4, v5, fun _ => rfl, v7, v8, v9, v10, v11, v12, v13, v14, v15, v16, v17, v18, v19, v20, v21, v22, v23, v24, old24⟩
       refine AllSteps.cons (j := 8) rfl (fun b t wx hJ hb hd hcl Kc hK => ?_) ?_
       · obtain ⟨hH, hcC, v0, v1, v2, v3, v4, v5, v6, v7, v8, v9, v10, v11, v12, v13, v14, v15, v16, v17, v18, v19, v20, v21, v22, v23, v24, old24⟩ := hJ
         have d6 := hd.out 6 (by kernel_rfl); have r6 := v6 d6
         go_simp
         refine hK.out _ ?_ _ ?_ ?_; rotate_left 2
         · (try simp only [r6]); rfl
         exact ⟨hH, hcC, v0, v1, v2, v3, v4, v5, v6, fun _ => rfl, v8, v9, v10, v11, v12, v13, v14, v15, v16, v17, v18, v19, v20, v21, v22, v23, v24, old24⟩
       refine AllSteps.cons (j := 9) rfl (fun b t wx hJ hb hd hcl Kc hK => ?_) ?_
       · obtain ⟨hH, hcC, v0, v1, v2, v3, v4, v5, v6, v7, v8, v9, v10, v11, v12, v13, v14, v15, v16, v17, v18, v19, v20, v21, v22, v23, v24, old24⟩ := hJ
         have d5 := hd.out 5 (by kernel_rfl); have d7 := hd.out 7 (by kernel_rfl); have r5 := v5 d5; have r7 := v7 d7
         go_simp
         refine hK.out _ ?_ _ ?_ ?_; rotate_left 2
         · (try simp only [r5, r7]); rfl
         exact ⟨hH, hcC, v0, v1, v2, v3, v4, v5, v6, v7, fun _ => rfl, v9, v10, v11, v12, v13, v14, v15, v16, v17, v18, v19, v20, v21, v22, v23, v24, old24⟩
       refine AllSteps.cons (j := 10) rfl (fun b t wx hJ hb hd hcl Kc hK => ?_) ?_
       · obtain ⟨hH, hcC, v0, v1, v2, v3, v4, v5, v6, v7, v8, v9, v10, v11, v12, v13, v14, v15, v16, v17, v18, v19, v20, v21, v22, v23, v24, old24⟩ := hJ
         have d8 := hd.out 8 (by kernel_rfl); have r8 := v8 d8
         obtain ⟨cy, _⟩ := (hH.own (k := 0) rfl).cell HX2.out
         go_simp
         refine hK.out _ ?_ _ ?_ ?_; rotate_left 2
         · (try simp only [r8]); rfl
         exact ⟨hH, hcC, v0, v1, v2, v3, v4, v5, v6, v7, v8, fun _ => rfl, v10, v11, v12, v13, v14, v15, v16, v17, v18, v19, v20, v21, v22, v23, v24, old24⟩
       refine AllSteps.cons (j := 11) rfl (fun b t wx hJ hb hd hcl Kc hK => ?_) ?_
       · obtain ⟨hH, hcC, v0, v1, v2, v3, v4, v5, v6, v7, v8, v9, v10, v11, v12, v13, v14, v15, v16, v17, v18, v19, v20, v21, v22, v23, v24, old24⟩ := hJ
         have d4 := hd.out 4 (by kernel_rfl); have d9 := hd.out 9 (by kernel_rfl); have r4 := v4 d4; have r9 := v9 d9
         go_simp
         refine hK.out _ ?_ _ ?_ ?_; rotate_left 2
         · (try simp only [r4, r9]); rfl
         exact ⟨hH, hcC, v0, v1, v2, v3, v4, v5, v6, v7, v8, v9, fun _ => (by show Value.int .i64 (if y < x then y else x) = _; rw [← HLO.out, Int.min_def]; split <;> split <;> first | rfl | (congr 1; omega)), v11, v12, v13, v14, v15, v16, v17, v18, v19, v20, v21, v22, v23, v24, old24⟩
       refine AllSteps.cons (j := 12) rfl (fun b t wx hJ hb hd hcl Kc hK => ?_) ?_
       · obtain ⟨hH, hcC, v0, v1, v2, v3, v4, v5, v6, v7, v8, v9, v10, v11, v12, v13, v14, v15, v16, v17, v18, v19, v20, v21, v22, v23, v24, old24⟩ := hJ
         go_simp
         refine hK.out _ ?_ _ ?_ ?_; rotate_left 2
         · rfl
         exact ⟨hH, hcC, v0, v1, v2, v3, v4, v5, v6, v7, v8, v9, v10, fun _ => rfl, v12, v13, v14, v15, v16, v17, v18, v19, v20, v21, v22, v23, v24, old24⟩
       refine AllSteps.cons (j := 13) rfl (fun b t wx hJ hb hd hcl Kc hK => ?_) ?_
       · obtain ⟨hH, hcC, v0, v1, v2, v3, v4, v5, v6, v7, v8, v9, v10, v11, v12, v13, v14, v15, v16, v17, v18, v19, v20, v21, v22, v23, v24, old24⟩ := hJ
         go_simp
         refine hK.out _ ?_ _ ?_ ?_; rotate_left 2
         · rfl
         exact ⟨hH, hcC, v0, v1, v2, v3, v4, v5, v6, v7, v8, v9, v10, v11, fun _ => rfl, v13, v14, v15, v16, v17, v18, v19, v20, v21, v22, v23, v24, old24⟩
       refine AllSteps.cons (j := 14) rfl (fun b t wx hJ hb hd hcl Kc hK => ?_) ?_
       · obtain ⟨hH, hcC, v0, v1, v2, v3, v4, v5, v6, v7, v8, v9, v10, v11, v12, v13, v14, v15, v16, v17, v18, v19, v20, v21, v22, v23, v24, old24⟩ := hJ
         have d11 := hd.out 11 (by kernel_rfl); have d12 := hd.out 12 (by kernel_rfl); have r11 := v11 d11; have r12 := v12 d12
         go_simp
         refine hK.out _ ?_ _ ?_ ?_; rotate_left 2
         · (try simp only [r11, r12]); rfl
         exact ⟨hH, hcC, v0, v1, v2, v3, v4, v5, v6, v7, v8, v9, v10, v11, v12, fun _ => rfl, v14, v15, v16, v17, v18, v19, v20, v21, v22, v23, v24, old24⟩
       refine AllSteps.cons (j := 15) rfl (fun b t wx hJ hb hd hcl Kc hK => ?_) ?_
       · obtain ⟨hH, hcC, v0, v1, v2, v3, v4, v5, v6, v7, v8, v9, v10, v11, v12, v13, v14, v15, v16, v17, v18, v19, v20, v21, v22, v23, v24, old24⟩ := hJ
         have d13 := hd.out 13 (by kernel_rfl); have r13 := v13 d13
         obtain ⟨cx, _⟩ := (hH.own (k := 0) rfl).cell HX1.out
         go_simp
         refine hK.out _ ?_ _ ?_ ?_; rotate_left 2
         · (try simp only [r13]); rfl
         exact ⟨hH, hcC, v0, v1, v2, v3, v4, v5, v6, v7, v8, v9, v10, v11, v12, v13, fun _ => rfl, v15, v16, v17, v18, v19, v20, v21, v22, v23, v24, old24⟩
       refine AllSteps.cons (j := 16) rfl (fun b t wx hJ hb hd hcl Kc hK => ?_) ?_
       · obtain ⟨hH, hcC, v0, v1, v2, v3, v4, v5, v6, v7, v8, v9, v10, v11, v12, v13, v14, v15, v16, v17, v18, v19, v20, v21, v22, v23, v24, old24⟩ := hJ
         go_simp
         refine hK.out _ ?_ _ ?_ ?_; rotate_left 2
         · rfl
         exact ⟨hH, hcC, v0, v1, v2, v3, v4, v5, v6, v7, v8, v9, v10, v11, v12, v13, v14, fun _ => rfl, v16, v17, v18, v19, v20, v21, v22, v23, v24, old24⟩
       refine AllSteps.cons (j := 17) rfl (fun b t wx hJ hb hd hcl Kc hK => ?_) ?_
       · obtain ⟨hH, hcC, v0, v1, v2, v3, v4, v5, v6, v7, v8, v9, v10, v11, v12, v13, v14, v15, v16, v17, v18, v19, v20, v21, v22, v23, v24, old24⟩ := hJ
         go_simp
         refine hK.out _ ?_ _ ?_ ?_; rotate_left 2
         · rfl
         exact ⟨hH, hcC, v0, v1, v2, v3, v4, v5, v6, v7, v8, v9, v10, v11, v12, v13, v14, v15, fun _ => rfl, v17, v18, v19, v20, v21, v22, v23, v24, old24⟩
       refine AllSteps.cons (j := 18) rfl (fun b t wx hJ hb hd hcl Kc hK => ?_) ?_
       · obtain ⟨hH, hcC, v0, v1, v2, v3, v4, v5, v6, v7, v8, v9, v10, v11, v12, v13, v14, v15, v16, v17, v18, v19, v20, v21, v22, v23, v24, old24⟩ := hJ
         have d16 := hd.out 16 (by kernel_rfl); have r16 := v16 d16
         go_simp
         refine hK.out _ ?_ _ ?_ ?_; rotate_left 2
         · (try simp only [r16]); rfl
         exact ⟨hH, hcC, v0, v1, v2, v3, v4, v5, v6, v7, v8, v9, v10, v11, v12, v13, v14, v15, v16, fun _ => rfl, v18, v19, v20, v21, v22, v23, v24, old24⟩
       refine AllSteps.cons (j := 19) rfl (fun b t wx hJ hb hd hcl Kc hK => ?_) ?_
       · obtain ⟨hH, hcC, v0, v1, v2, v3, v4, v5, v6, v7, v8, v9, v10, v11, v12, v13, v14, v15, v16, v17, v18, v19, v20, v21, v22, v23, v24, old24⟩ := hJ
         have d15 := hd.out 15 (by kernel_rfl); have d17 := hd.out 17 (by kernel_rfl); have r15 := v15 d15; have r17 := v17 d17
         go_simp
         refine hK.out _ ?_ _ ?_ ?_; rotate_left 2
         · (try simp only [r15, r17]); rfl
         exact ⟨hH, hcC, v0, v1, v2, v3, v4, v5, v6, v7, v8, v9, v10, v11, v12, v13, v14, v15, v16, v17, fun _ => rfl, v19, v20, v21, v22, v23, v24, old24⟩
       refine AllSteps.cons (j := 20) rfl (fun b t wx hJ hb hd hcl Kc hK => ?_) ?_
       · obtain ⟨hH, hcC, v0, v1, v2, v3, v4, v5, v6, v7, v8, v9, v10, v11, v12, v13, v14, v15, v16, v17, v18, v19, v20, v21, v22, v23, v24, old24⟩ := hJ
         have d18 := hd.out 18 (by kernel_rfl); have r18 := v18 d18
         obtain ⟨cy, _⟩ := (hH.own (k := 0) rfl).cell HX2.out
         go_simp
         refine hK.out _ ?_ _ ?_ ?_; rotate_left 2
         · (try simp only [r18]); rfl
         exact ⟨hH, hcC, v0, v1, v2, v3, v4, v5, v6, v7, v8, v9, v10, v11, v12, v13, v14, v15, v16, v17, v18, fun _ => rfl, v20, v21, v22, v23, v24, old24⟩
       refine AllSteps.cons (j := 21) rfl (fun b t wx hJ hb hd hcl Kc hK => ?_) ?_
       · obtain ⟨hH, hcC, v0, v1, v2, v3, v4, v5, v6, v7, v8, v9, v10, v11, v12, v13, v14, v15, v16, v17, v18, v19, v20, v21, v22, v23, v24, old24⟩ := hJ
         have d14 := hd.out 14 (by kernel_rfl); have d19 := hd.out 19 (by kernel_rfl); have r14 := v14 d14; have r19 := v19 d19
         go_simp
         refine hK.out _ ?_ _ ?_ ?_; rotate_left 2
         · (try simp only [r14, r19]); rfl
         exact ⟨hH, hcC, v0, v1, v2, v3, v4, v5, v6, v7, v8, v9, v10, v11, v12, v13, v14, v15, v16, v17, v18, v19, fun _ => (by show Value.int .i64 (if x < y then y else x) = _; rw [← HHI.out, Int.max_def]; split <;> split <;> first | rfl | (congr 1; omega)), v21, v22, v23, v24, old24⟩
       refine AllSteps.cons (j := 22) rfl (fun b t wx hJ hb hd hcl Kc hK => ?_) ?_
       · obtain ⟨hH, hcC, v0, v1, v2, v3, v4, v5, v6, v7, v8, v9, v10, v11, v12, v13, v14, v15, v16, v17, v18, v19, v20, v21, v22, v23, v24, old24⟩ := hJ
         have d10 := hd.out 10 (by kernel_rfl); have d20 := hd.out 20 (by kernel_rfl); have r10 := v10 d10; have r20 := v20 d20
         go_simp
         refine hK.out _ ?_ _ ?_ ?_; rotate_left 2
         · (try simp only [r10, r20]); rfl
         exact ⟨hH, hcC, v0, v1, v2, v3, v4, v5, v6, v7, v8, v9, v10, v11, v12, v13, v14, v15, v16, v17, v18, v19, v20, fun _ => rfl, v22, v23, v24, old24⟩
       refine AllSteps.cons (j := 23) rfl (fun b t wx hJ hb hd hcl Kc hK => ?_) ?_
       · obtain ⟨hH, hcC, v0, v1, v2, v3, v4, v5, v6, v7, v8, v9, v10, v11, v12, v13, v14, v15, v16, v17, v18, v19, v20, v21, v22, v23, v24, old24⟩ := hJ
         have d21 := hd.out 21 (by kernel_rfl); have r21 := v21 d21
         have hN := hH; (try simp only [hb, d21, cond_true, cond_false] at hN)
         go_simp
         refine hK.out _ ?_ _ ?_ ?_; rotate_left 2
         · (try simp only [r21]); rfl
         exact ⟨by have hX := hN.addB 2 #[.int .i64 lo, .int .i64 hi] 138; simpa only [List.set_cons_zero, List.set_cons_succ, updB, updV, blkOf_mk, tup0_mk, partsOf3, blkS_mk, Nat.reduceBEq, cond_true, cond_false, hb, d21, r21] using hX, hcC.ext ((Ext.refl _).alloc _), v0, v1, v2, v3, v4, v5, v6, v7, v8, v9, v10, v11, v12, v13, v14, v15, v16, v17, v18, v19, v20, v21, fun _ => ⟨_, rfl⟩, v23, v24, old24⟩
       refine AllSteps.cons (j := 24) rfl (fun b t wx hJ hb hd hcl Kc hK => ?_) ?_
       · obtain ⟨hH, hcC, v0, v1, v2, v3, v4, v5, v6, v7, v8, v9, v10, v11, v12, v13, v14, v15, v16, v17, v18, v19, v20, v21, v22, v23, v24, old24⟩ := hJ
         have d0 := hd.out 0 (by kernel_rfl); have d22 := hd.out 22 (by kernel_rfl)
         have n24 : b 24 = false := Bool.eq_false_iff.2 fun h => absurd (hcl.out 24 23 (by kernel_rfl) (h)) (by rw [hb]; exact Bool.false_ne_true)
         have r0 := v0 d0; have r22 := v22 d22
         obtain ⟨z_22, r22⟩ := r22
         have hN := hH; (try simp only [hb, d0, d22, n24, cond_true, cond_false] at hN)
         refine step_app wx rfl _ _ 72 rfl (.slice sa n sc) (t 22) (by first | rfl | (go_simp; done)) (by first | rfl | (go_simp; done)) _ (run_pushSt2 _ hN (k := 1) rfl (by rw [r22]; have h := hN.blk (k := 2) rfl; rw [r22] at h; exact row_blk2 h) (by rw [HN.out]; omega)) ?_; rintro va wa ⟨hHa, ga, ra⟩
         obtain ⟨aa, ca, hva, _, _⟩ := ra.val; rw [show (os ++ [(lo, hi)]).length = n + 1 by rw [List.length_append, HN.out]; rfl] at hva; subst hva
         refine hK.out _ ?_ _ ?_ ?_; rotate_left 2
         · (try simp only [r0, r22]); rfl
         exact ⟨by have hX := hHa; simpa only [List.set_cons_zero, List.set_cons_succ, updB, updV, blkOf_mk, tup0_mk, partsOf3, blkS_mk, Nat.reduceBEq, cond_true, cond_false, hb, d0, d22, n24, r0, r22] using hX, hcC.onlyV ga (fun z hz => Nat.lt_of_lt_of_le hbl (hN.fpr (k := 1) rfl z (by simp [aSt, aR, hz])).1), v0, v1, v2, v3, v4, v5, v6, v7, v8, v9, v10, v11, v12, v13, v14, v15, v16, v17, v18, v19, v20, v21, v22, fun _ => ⟨_, _, rfl⟩, fun h => absurd (show b 24 = true from h) (by rw [n24]; exact Bool.false_ne_true), old24⟩
       refine AllSteps.cons (j := 25) rfl (fun b t wx hJ hb hd hcl Kc hK => ?_) ?_
       · obtain ⟨hH, hcC, v0, v1, v2, v3, v4, v5, v6, v7, v8, v9, v10, v11, v12, v13, v14, v15, v16, v17, v18, v19, v20, v21, v22, v23, v24, old24⟩ := hJ
         have d0 := hd.out 0 (by kernel_rfl); have d1 := hd.out 1 (by kernel_rfl); have d2 := hd.out 2 (by kernel_rfl); have d3 := hd.out 3 (by kernel_rfl); have d4 := hd.out 4 (by kernel_rfl); have d5 := hd.out 5 (by kernel_rfl); have d6 := hd.out 6 (by kernel_rfl); have d7 := hd.out 7 (by kernel_rfl); have d8 := hd.out 8 (by kernel_rfl); have d9 := hd.out 9 (by kernel_rfl); have d10 := hd.out 10 (by kernel_rfl); have d11 := hd.out 11 (by kernel_rfl); have d12 := hd.out 12 (by kernel_rfl); have d13 := hd.out 13 (by kernel_rfl); have d14 := hd.out 14 (by kernel_rfl); have d15 := hd.out 15 (by kernel_rfl); have d16 := hd.out 16 (by kernel_rfl); have d17 := hd.out 17 (by kernel_rfl); have d18 := hd.out 18 (by kernel_rfl); have d19 := hd.out 19 (by kernel_rfl); have d20 := hd.out 20 (by kernel_rfl); have d21 := hd.out 21 (by kernel_rfl); have d22 := hd.out 22 (by kernel_rfl); have d23 := hd.out 23 (by kernel_rfl); have r0 := v0 d0; have r1 := v1 d1; have r2 := v2 d2; have r3 := v3 d3; have r4 := v4 d4; have r5 := v5 d5; have r6 := v6 d6; have r7 := v7 d7; have r8 := v8 d8; have r9 := v9 d9; have r10 := v10 d10; have r11 := v11 d11; have r12 := v12 d12; have r13 := v13 d13; have r14 := v14 d14; have r15 := v15 d15; have r16 := v16 d16; have r17 := v17 d17; have r18 := v18 d18; have r19 := v19 d19; have r20 := v20 d20; have r21 := v21 d21; have r22 := v22 d22; have r23 := v23 d23
         obtain ⟨z_22, r22⟩ := r22
         obtain ⟨a_23, c_23, r23⟩ := r23
         go_simp
         refine hK.out _ ?_ _ ?_ ?_; rotate_left 2
         · (try simp only [r0, r1, r2, r3, r4, r5, r6, r7, r8, r9, r10, r11, r12, r13, r14, r15, r16, r17, r18, r19, r20, r21, r22, r23]); rfl
         exact ⟨hH, hcC, v0, v1, v2, v3, v4, v5, v6, v7, v8, v9, v10, v11, v12, v13, v14, v15, v16, v17, v18, v19, v20, v21, v22, v23, fun _ => (by first | rfl | exact r23.symm), Lib.hid fun h => absurd (show true = false from h) (by decide)⟩
       exact AllSteps.nil
     case hEa =>
      intro b t wa hJ hall
      obtain ⟨hHa, hcCa, v0, v1, v2, v3, v4, v5, v6, v7, v8, v9, v10, v11, v12, v13, v14, v15, v16, v17, v18, v19, v20, v21, v22, v23, v24, old24⟩ := hJ
      clear old24
      have a0 := hall 0 (by decide); have a1 := hall 1 (by decide); have a2 := hall 2 (by decide); have a3 := hall 3 (by decide); have a4 := hall 4 (by decide); have a5 := hall 5 (by decide); have a6 := hall 6 (by decide); have a7 := hall 7 (by decide); have a8 := hall 8 (by decide); have a9 := hall 9 (by decide); have a10 := hall 10 (by decide); have a11 := hall 11 (by decide); have a12 := hall 12 (by decide); have a13 := hall 13 (by decide); have a14 := hall 14 (by decide); have a15 := hall 15 (by decide); have a16 := hall 16 (by decide); have a17 := hall 17 (by decide); have a18 := hall 18 (by decide); have a19 := hall 19 (by decide); have a20 := hall 20 (by decide); have a21 := hall 21 (by decide); have a22 := hall 22 (by decide); have a23 := hall 23 (by decide); have a24 := hall 24 (by decide)
      (try simp only [a0, a1, a2, a3, a4, a5, a6, a7, a8, a9, a10, a11, a12, a13, a14, a15, a16, a17, a18, a19, a20, a21, a22, a23, a24, cond_true] at hHa)
      replace v0 := v0 a0; replace v1 := v1 a1; replace v2 := v2 a2; replace v3 := v3 a3; replace v4 := v4 a4; replace v5 := v5 a5; replace v6 := v6 a6; replace v7 := v7 a7; replace v8 := v8 a8; replace v9 := v9 a9; replace v10 := v10 a10; replace v11 := v11 a11; replace v12 := v12 a12; replace v13 := v13 a13; replace v14 := v14 a14; replace v15 := v15 a15; replace v16 := v16 a16; replace v17 := v17 a17; replace v18 := v18 a18; replace v19 := v19 a19; replace v20 := v20 a20; replace v21 := v21 a21; replace v22 := v22 a22; replace v23 := v23 a23; replace v24 := v24 a24
      clear hall a0 a1 a2 a3 a4 a5 a6 a7 a8 a9 a10 a11 a12 a13 a14 a15 a16 a17 a18 a19 a20 a21 a22 a23 a24
      generalize t 24 = x24 at hHa v24 ⊢; generalize t 23 = x23 at hHa v23 v24 ⊢; generalize t 22 = x22 at hHa v22 ⊢; generalize t 21 = x21 at hHa v21 ⊢; generalize t 20 = x20 at hHa v20 ⊢; generalize t 19 = x19 at hHa v19 ⊢; generalize t 18 = x18 at hHa v18 ⊢; generalize t 17 = x17 at hHa v17 ⊢; generalize t 16 = x16 at hHa v16 ⊢; generalize t 15 = x15 at hHa v15 ⊢; generalize t 14 = x14 at hHa v14 ⊢; generalize t 13 = x13 at hHa v13 ⊢; generalize t 12 = x12 at hHa v12 ⊢; generalize t 11 = x11 at hHa v11 ⊢; generalize t 10 = x10 at hHa v10 ⊢; generalize t 9 = x9 at hHa v9 ⊢; generalize t 8 = x8 at hHa v8 ⊢; generalize t 7 = x7 at hHa v7 ⊢; generalize t 6 = x6 at hHa v6 ⊢; generalize t 5 = x5 at hHa v5 ⊢; generalize t 4 = x4 at hHa v4 ⊢; generalize t 3 = x3 at hHa v3 ⊢; generalize t 2 = x2 at hHa v2 ⊢; generalize t 1 = x1 at hHa v1 ⊢; generalize t 0 = x0 at hHa v0 ⊢; subst v0; subst v1; subst v2; subst v3; subst v4; subst v5; subst v6; subst v7; subst v8; subst v9; subst v10; subst v11; subst v12; subst v13; subst v14; subst v15; subst v16; subst v17; subst v18; subst v19; subst v20; subst v21
      obtain ⟨za22, rfl⟩ := v22
      obtain ⟨aa23, ca23, rfl⟩ := v23
      subst v24
      clear b
      replace hH := hHa; clear hHa
      replace hH : HeldX (some kb) w wa [aI (.slice (some ⟨b3, 0, none⟩) q k3) (M0 ++ [x, y]), aSt (.slice aa23 (n + 1) ca23) (os ++ [(lo, hi)]), aB za22 138 [.int .i64 lo, .int .i64 hi]] := hH
      have HK0 : Hid (OwnI wa w.heap.size (.slice (some ⟨b3, 0, none⟩) r k3) M0) := Lib.hid ((hH.own (k := 0) rfl).front HR.out)
      have hHa := (hH.alter (k := 0) (A := aI (.slice (some ⟨b3, 0, none⟩) r k3) M0) rfl HK0.out.zero (fun c hc => hc)).sub (L' := [aI (.slice (some ⟨b3, 0, none⟩) r k3) M0, aSt (.slice aa23 (n + 1) ca23) (os ++ [(lo, hi)])]) (.cons_cons _ (.cons_cons _ (.cons _ .slnil)))
      clear hH
      obtain ⟨nn, hnn⟩ : ∃ q, n + 1 = q := ⟨_, rfl⟩
      rw [hnn] at hHa ⊢
      have hjn : (j : Int) + (nn : Int) - 1 = ((j + n : Nat) : Int) := by push_cast; omega
      have HJN := Lib.hid hjn; clear hjn
      have HNN := Lib.hid hnn; clear hnn
      have hnn12 : nn ≤ 13 := by have := HNN.out; omega
      have hnn0 : 1 ≤ nn := by have := HNN.out; omega
      have hrk : r ≤ k3 := by have h1 := HR.out; have h2 := HQ3.out; omega
      have hrr12 : r ≤ 12 := by omega
      go_wp2_with (at_builtin; refine wpList_app _ rfl _ _ 27 rfl _ _ rfl rfl _ (run_push _ _ w.heap.size _ M0 _ (hHa.own (k := 0) rfl) (by rw [HR.out]; omega) hHa.size) ?_; rintro v6 w6 ⟨o6, g6, n6⟩)
      replace g6 : wa.grownBy w6 (Value.slice (some ⟨b3, 0, none⟩) r k3).ownBlock := g6
      replace n6 : ∀ q, v6.ownBlock = some q → (Value.slice (some ⟨b3, 0, none⟩) r k3).ownBlock = some q ∨ wa.heap.size ≤ q := n6
      have c6 := hcCa.onlyV g6 (fun z hz => Nat.lt_of_lt_of_le hbl (hHa.fpr (k := 0) rfl z (by simpa [aI] using hz)).1)
      have h6 := hHa.pushed (k := 0) rfl o6 g6 n6
      simp only [List.set_cons_zero] at h6
      have HH6 := Lib.hid h6; have HC6 := Lib.hid c6
      obtain ⟨a6, k6, hv6, _, _⟩ := o6.ints.val
      clear h6 c6 hHa hcCa
      go_roundw
      case rel => exact ⟨os ++ [(lo, hi)], _, HST, by have h := HH6.out; rw [HJN.out] at h; exact h, HC6.out⟩
      case measure => rw [hv6]; simp [lenV, HR.out]; omega
    ·
     have HD := Lib.hid (HMK.out.done (by rw [HQ.out]; omega))
     have HH := Lib.hid (hjj.sub (L' := [aSt (.slice sa n sc) os]) (.cons _ (.cons_cons _ .slnil)))
     have HC := Lib.hid hC; have HOK := Lib.hid HMK.out.ok
     clear hjj hC
     go_wp2
     go_ret
     exact ⟨_, os, rfl, HH.out, HOK.out, HD.out, HC.out⟩
end Go.Proofs.Ytpegckmagiaggaa
