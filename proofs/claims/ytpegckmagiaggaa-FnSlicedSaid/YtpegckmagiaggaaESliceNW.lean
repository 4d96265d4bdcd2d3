/- SliceNetwork of the program, LabelsOf of the reference. -/
import Derived.Test.YtpegckmagiaggaaEBase
import Derived.Test.YtpegckmagiaggaaENetQ
import Derived.Test.YtpegckmagiaggaaEG15
import Derived.Test.YtpegckmagiaggaaESliceW
namespace Go.Proofs.Ytpegckmagiaggaa
open Go.RowKit
set_option linter.unusedSimpArgs false
set_option linter.unusedVariables false
section
variable {k p n : Int}
theorem cutT_take (hr : ringOk k p n = true) {dm : Int → Int} {ts : List (NT k p n)} {x v : Int} {j : Nat} {L : List Int} {xs : List (El k p n)} (h : ts[j]? = some (L, xs)) : ((ts.take (j + 1)).map (cutT hr dm x v)).map (tenOf dm) = ((ts.take j).map (cutT hr dm x v)).map (tenOf dm) ++ [tenOf dm (cutT hr dm x v (L, xs))] := by
  rw [List.take_add_one, h, List.map_append, List.map_append]; rfl
theorem cutT_yes (hr : ringOk k p n = true) (dm : Int → Int) {x v : Int} {L : List Int} {xs : List (El k p n)} (h : x ∈ L) : tenOf dm (cutT hr dm x v (L, xs)) = (cutL L x, (cutL L x).map dm, flat (cutXs hr dm L x (fun _ => v) xs)) := by
  unfold cutT; rw [if_pos ((hasL_iff _ _).2 h)]; rfl
theorem cutT_no (hr : ringOk k p n = true) (dm : Int → Int) {x v : Int} {L : List Int} {xs : List (El k p n)} (h : x ∉ L) : tenOf dm (cutT hr dm x v (L, xs)) = (L, L.map dm, flat xs) := by
  unfold cutT; rw [if_neg fun e => h ((hasL_iff _ _).1 e)]; rfl
end
set_option maxRecDepth 100000 in
set_option maxHeartbeats 4000000 in
theorem labelsOf_spec {k p n : Int} (hr : ringOk k p n = true) {dm : Int → Int} {U : List Int} {ts : List (NT k p n)} {op : List Int} (hN : IsN k p n dm U ts op) (tv ov : Value) (w : World) (hT : TensS w tv (ts.map (tenOf dm))) (hO : IntS w ov op) :
    Calls Try.prog 39 #[.agg #[.int .i64 k, .int .i64 p, .int .i64 n, tv, ov]] w fun e w' => ∃ u, e = .returned u ∧ OwnI w' w.heap.size u (ascL (occ ts)) ∧ Ext w w' := by
  have hT0 := hT
  have hO0 := hO
  obtain ⟨m, hm⟩ : ∃ m, ts.length = m := ⟨_, rfl⟩
  obtain ⟨aV, cV, rfl, hcT1, hcT2⟩ := hT.val
  obtain ⟨aO, cO, rfl, hcO1, hcO2⟩ := hO.val
  rw [List.length_map, hm] at hT hT0 hcT1
  rw [List.length_map, hm]
  have hm12 : m ≤ 12 := by rw [← hm]; exact hN.len
  have hop12 : op.length ≤ 12 := hN.rank
  have HM := Lib.hid hm; have HR := Lib.hid hr; have HN := Lib.hid hN; have HD3 := Lib.hid hN.dims3; clear hm hr hN
  have hTl : Hid ((ts.map (tenOf dm)).length = m) := Lib.hid (by rw [List.length_map]; exact HM.out)
  go_enter Try.func39, Try.ntmps39
  go_upto_region 1 with fail
  have hH : Held w w [] := Held.new (Ext.refl w) 0
  have hB : Held w (w.alloc (.cells #[.int .i64 k, .int .i64 p, .int .i64 n, .slice aV m cV, .slice aO op.length cO] 29)) [aB (w.heap.size) 29 [.int .i64 k, .int .i64 p, .int .i64 n, .slice aV m cV, .slice aO op.length cO]] := by
    have h := (hH.mores 1).addB 0 #[.int .i64 k, .int .i64 p, .int .i64 n, .slice aV m cV, .slice aO op.length cO] 29
    exact h
  have hsz : (w.alloc (.cells #[.int .i64 k, .int .i64 p, .int .i64 n, .slice aV m cV, .slice aO op.length cO] 29)).heap.size = w.heap.size + 1 := by simp
  generalize w.alloc (.cells #[.int .i64 k, .int .i64 p, .int .i64 n, .slice aV m cV, .slice aO op.length cO] 29) = wn1 at hB hsz ⊢
  replace hH := hB; have HSZwn1 := Lib.hid hsz; clear hB hsz
  have q0_0 := (hH.blk (k := 0) rfl).cell (j := 0) rfl
  have q0_1 := (hH.blk (k := 0) rfl).cell (j := 1) rfl
  have q0_2 := (hH.blk (k := 0) rfl).cell (j := 2) rfl
  have q0_3 := (hH.blk (k := 0) rfl).cell (j := 3) rfl
  have q0_4 := (hH.blk (k := 0) rfl).cell (j := 4) rfl
  have l0_ := (hH.blk (k := 0) rfl).lt
  go_wp2_with fail
  clear q0_0 q0_1 q0_2 q0_3 q0_4 l0_
  refine (networkOk_spec HR.out HN.out _ _ _ (hT0.ext hH.ext) (hO0.ext hH.ext)).mono ?_; rintro ewn2 wn2 ⟨rfl, hwn2⟩
  replace hH : Held w wn2 [aB (w.heap.size) 29 [.int .i64 k, .int .i64 p, .int .i64 n, .slice aV m cV, .slice aO op.length cO]] := hH.grow hwn2
  clear hwn2
  have q0_0 := (hH.blk (k := 0) rfl).cell (j := 0) rfl
  have q0_1 := (hH.blk (k := 0) rfl).cell (j := 1) rfl
  have q0_2 := (hH.blk (k := 0) rfl).cell (j := 2) rfl
  have q0_3 := (hH.blk (k := 0) rfl).cell (j := 3) rfl
  have q0_4 := (hH.blk (k := 0) rfl).cell (j := 4) rfl
  have l0_ := (hH.blk (k := 0) rfl).lt
  go_wp2_with fail
  clear q0_0 q0_1 q0_2 q0_3 q0_4 l0_
  refine (l12Labels_any HD3.out (by rw [hTl.out]; omega) _ _ (hT.ext hH.ext)).mono ?_; rintro ewn3 wn3 ⟨vl, rfl, ol, hwn3⟩
  rw [occ3_ten] at ol
  replace hH : Held w wn3 [aB (w.heap.size) 29 [.int .i64 k, .int .i64 p, .int .i64 n, .slice aV m cV, .slice aO op.length cO], aI vl (ascL (occ ts))] := (hH.mores 1).addI 1 hwn3 ol (Nat.le_refl _)
  clear hwn3
  have HO := Lib.hid (hH.own (k := 1) rfl); have HE := Lib.hid hH.ext; clear hH ol
  go_wp2
  go_ret
  exact ⟨_, rfl, HO.out, HE.out⟩
set_option maxRecDepth 100000 in
set_option maxHeartbeats 8000000 in
theorem sliceNetwork_any {k p n : Int} (hr : ringOk k p n = true) {dm : Int → Int} {U : List Int} {ts : List (NT k p n)} {op : List Int} (hN : IsN k p n dm U ts op) (tv ov : Value) (w : World) (hT : TensS w tv (ts.map (tenOf dm))) (hO : IntS w ov op) (c : Nat) (hc : c < 100) (hco : (c : Int) ∈ occ ts) (v : Int) (v0 : 0 ≤ v) (v1 : v < dm c) :
    Calls Try.prog 40 #[.agg #[.int .i64 k, .int .i64 p, .int .i64 n, tv, ov], .int .i64 (c : Int), .int .i64 v] w fun e w' => ∃ tv' ov' cs, e = .returned (.tuple #[.agg #[.int .i64 k, .int .i64 p, .int .i64 n, tv', ov'], .bool true]) ∧
      Held w w' [aTs tv' cs ((ts.map (cutT hr dm c v)).map (tenOf dm)), aI ov' (cutL op c)] := by
  have hT0 := hT
  have hO0 := hO
  obtain ⟨m, hm⟩ : ∃ m, ts.length = m := ⟨_, rfl⟩
  obtain ⟨aV, cV, rfl, hcT1, hcT2⟩ := hT.val
  obtain ⟨aO, cO, rfl, hcO1, hcO2⟩ := hO.val
  rw [List.length_map, hm] at hT hT0 hcT1
  rw [List.length_map, hm]
  have hm12 : m ≤ 12 := by rw [← hm]; exact hN.len
  have hop12 : op.length ≤ 12 := hN.rank
  have HM := Lib.hid hm; have HR := Lib.hid hr; have HN := Lib.hid hN; have HD3 := Lib.hid hN.dims3; clear hm  hN
  have hTl : Hid ((ts.map (tenOf dm)).length = m) := Lib.hid (by rw [List.length_map]; exact HM.out)
  obtain ⟨CT, hCT⟩ : ∃ q, cutT hr dm (c : Int) v = q := ⟨_, rfl⟩
  have HCY := Lib.hid (fun (L : List Int) (xs : List (El k p n)) (h : (c : Int) ∈ L) => cutT_yes hr dm (v := v) (xs := xs) h)
  have HCN := Lib.hid (fun (L : List Int) (xs : List (El k p n)) (h : (c : Int) ∉ L) => cutT_no hr dm (v := v) (xs := xs) h)
  have HCS := Lib.hid (fun (j : Nat) (L : List Int) (xs : List (El k p n)) (h : ts[j]? = some (L, xs)) => cutT_take hr (dm := dm) (x := (c : Int)) (v := v) h)
  rw [hCT] at HCY HCN HCS ⊢
  clear hCT
  have hvn : ¬ v < 0 := by omega
  have hvd : ¬ dm (c : Int) ≤ v := by omega
  have HCO := Lib.hid ((hasL_iff _ _).2 hco); clear hco
  obtain ⟨OL, hOL⟩ : ∃ q, cutL op (c : Int) = q := ⟨_, rfl⟩
  rw [hOL]
  have HOL := Lib.hid hOL; clear hOL
  go_enter Try.func40, Try.ntmps40
  go_upto_region 1 with fail
  have hH : Held w w [] := Held.new (Ext.refl w) 0
  have hB : Held w (w.alloc (.cells #[.int .i64 k, .int .i64 p, .int .i64 n, .slice aV m cV, .slice aO op.length cO] 29)) [aB (w.heap.size) 29 [.int .i64 k, .int .i64 p, .int .i64 n, .slice aV m cV, .slice aO op.length cO]] := by
    have h := (hH.mores 1).addB 0 #[.int .i64 k, .int .i64 p, .int .i64 n, .slice aV m cV, .slice aO op.length cO] 29
    exact h
  have hsz : (w.alloc (.cells #[.int .i64 k, .int .i64 p, .int .i64 n, .slice aV m cV, .slice aO op.length cO] 29)).heap.size = w.heap.size + 1 := by simp
  generalize w.alloc (.cells #[.int .i64 k, .int .i64 p, .int .i64 n, .slice aV m cV, .slice aO op.length cO] 29) = wn1 at hB hsz ⊢
  replace hH := hB; have HSZwn1 := Lib.hid hsz; clear hB hsz
  have hB : Held w (wn1.alloc (.cells #[.int .i64 0, .int .i64 0, .int .i64 0, .slice none 0 0, .slice none 0 0] 29)) [aB (w.heap.size) 29 [.int .i64 k, .int .i64 p, .int .i64 n, .slice aV m cV, .slice aO op.length cO], aB (w.heap.size + 1) 29 [.int .i64 0, .int .i64 0, .int .i64 0, .slice none 0 0, .slice none 0 0]] := by
    have h := (hH.mores 1).addB 1 #[.int .i64 0, .int .i64 0, .int .i64 0, .slice none 0 0, .slice none 0 0] 29
    rw [HSZwn1.out] at h
    exact h
  have hsz : (wn1.alloc (.cells #[.int .i64 0, .int .i64 0, .int .i64 0, .slice none 0 0, .slice none 0 0] 29)).heap.size = w.heap.size + 1 + 1 := by rw [← HSZwn1.out]; simp
  generalize wn1.alloc (.cells #[.int .i64 0, .int .i64 0, .int .i64 0, .slice none 0 0, .slice none 0 0] 29) = wn2 at hB hsz ⊢
  replace hH := hB; have HSZwn2 := Lib.hid hsz; clear hB hsz
  have q0_0 := (hH.blk (k := 0) rfl).cell (j := 0) rfl
  have q0_1 := (hH.blk (k := 0) rfl).cell (j := 1) rfl
  have q0_2 := (hH.blk (k := 0) rfl).cell (j := 2) rfl
  have q0_3 := (hH.blk (k := 0) rfl).cell (j := 3) rfl
  have q0_4 := (hH.blk (k := 0) rfl).cell (j := 4) rfl
  have l0_ := (hH.blk (k := 0) rfl).lt
  have q1_0 := (hH.blk (k := 1) rfl).cell (j := 0) rfl
  have q1_1 := (hH.blk (k := 1) rfl).cell (j := 1) rfl
  have q1_2 := (hH.blk (k := 1) rfl).cell (j := 2) rfl
  have q1_3 := (hH.blk (k := 1) rfl).cell (j := 3) rfl
  have q1_4 := (hH.blk (k := 1) rfl).cell (j := 4) rfl
  have l1_ := (hH.blk (k := 1) rfl).lt
  go_wp2_with fail
  clear q0_0 q0_1 q0_2 q0_3 q0_4 l0_ q1_0 q1_1 q1_2 q1_3 q1_4 l1_
  refine (networkOk_any HR.out HN.out _ _ _ (hT0.ext hH.ext) (hO0.ext hH.ext)).mono ?_; rintro ewn3 wn3 ⟨rfl, hwn3⟩
  replace hH : Held w wn3 [aB (w.heap.size) 29 [.int .i64 k, .int .i64 p, .int .i64 n, .slice aV m cV, .slice aO op.length cO], aB (w.heap.size + 1) 29 [.int .i64 0, .int .i64 0, .int .i64 0, .slice none 0 0, .slice none 0 0]] := hH.grow hwn3
  clear hwn3
  have q0_0 := (hH.blk (k := 0) rfl).cell (j := 0) rfl
  have q0_1 := (hH.blk (k := 0) rfl).cell (j := 1) rfl
  have q0_2 := (hH.blk (k := 0) rfl).cell (j := 2) rfl
  have q0_3 := (hH.blk (k := 0) rfl).cell (j := 3) rfl
  have q0_4 := (hH.blk (k := 0) rfl).cell (j := 4) rfl
  have l0_ := (hH.blk (k := 0) rfl).lt
  have q1_0 := (hH.blk (k := 1) rfl).cell (j := 0) rfl
  have q1_1 := (hH.blk (k := 1) rfl).cell (j := 1) rfl
  have q1_2 := (hH.blk (k := 1) rfl).cell (j := 2) rfl
  have q1_3 := (hH.blk (k := 1) rfl).cell (j := 3) rfl
  have q1_4 := (hH.blk (k := 1) rfl).cell (j := 4) rfl
  have l1_ := (hH.blk (k := 1) rfl).lt
  go_wp2_with fail
  clear q0_0 q0_1 q0_2 q0_3 q0_4 l0_ q1_0 q1_1 q1_2 q1_3 q1_4 l1_
  refine (dimOf_any HR.out HN.out _ _ _ (hT0.ext hH.ext) (hO0.ext hH.ext) c hc).mono ?_; rintro ewn4 wn4 ⟨rfl, hwn4⟩
  rw [if_pos HCO.out]
  replace hH : Held w wn4 [aB (w.heap.size) 29 [.int .i64 k, .int .i64 p, .int .i64 n, .slice aV m cV, .slice aO op.length cO], aB (w.heap.size + 1) 29 [.int .i64 0, .int .i64 0, .int .i64 0, .slice none 0 0, .slice none 0 0]] := hH.grow hwn4
  clear hwn4
  have q0_0 := (hH.blk (k := 0) rfl).cell (j := 0) rfl
  have q0_1 := (hH.blk (k := 0) rfl).cell (j := 1) rfl
  have q0_2 := (hH.blk (k := 0) rfl).cell (j := 2) rfl
  have q0_3 := (hH.blk (k := 0) rfl).cell (j := 3) rfl
  have q0_4 := (hH.blk (k := 0) rfl).cell (j := 4) rfl
  have l0_ := (hH.blk (k := 0) rfl).lt
  have q1_0 := (hH.blk (k := 1) rfl).cell (j := 0) rfl
  have q1_1 := (hH.blk (k := 1) rfl).cell (j := 1) rfl
  have q1_2 := (hH.blk (k := 1) rfl).cell (j := 2) rfl
  have q1_3 := (hH.blk (k := 1) rfl).cell (j := 3) rfl
  have q1_4 := (hH.blk (k := 1) rfl).cell (j := 4) rfl
  have l1_ := (hH.blk (k := 1) rfl).lt
  go_upto_region 3 with fail
  clear q0_0 q0_1 q0_2 q0_3 q0_4 l0_ q1_0 q1_1 q1_2 q1_3 q1_4 l1_
  replace hH := hH.mores 2
  replace hH : Held w wn4 [aB (w.heap.size) 29 [.int .i64 k, .int .i64 p, .int .i64 n, .slice aV m cV, .slice aO op.length cO], aB (w.heap.size + 1) 29 [.int .i64 0, .int .i64 0, .int .i64 0, .slice none 0 0, .slice none 0 0], emp, emp] := hH
  refine wp_region_steps ?Fa (fun b t wx => Held w wx [aB (w.heap.size) 29 [.int .i64 k, .int .i64 p, .int .i64 n, .slice aV m cV, .slice aO op.length cO], aB (w.heap.size + 1) 29 [.int .i64 0, .int .i64 0, .int .i64 0, .slice none 0 0, .slice none 0 0], (bif b 5 then aI (t 5) OL else emp), (bif b 8 then aB (blkOf (t 7)) 29 (partsN (t 6)) else (bif b 7 then aB (blkOf (t 7)) 29 [.int .i64 0, .int .i64 0, .int .i64 0, .slice none 0 0, .slice none 0 0] else emp))] ∧ (b 0 = true → t 0 = .pointer (some ⟨w.heap.size, 0, none⟩)) ∧ (b 1 = true → t 1 = .agg #[.int .i64 k, .int .i64 p, .int .i64 n]) ∧ (b 2 = true → t 2 = .pointer (some ⟨w.heap.size, 4, none⟩)) ∧ (b 3 = true → t 3 = .slice aO op.length cO) ∧ (b 4 = true → t 4 = .int .i64 (c : Int)) ∧ (b 5 = true → ∃ x c, t 5 = .slice x OL.length c) ∧ (b 6 = true → t 6 = .agg #[.int .i64 k, .int .i64 p, .int .i64 n, .slice none 0 0, t 5]) ∧ (b 7 = true → ∃ q, t 7 = .pointer (some ⟨q, 0, none⟩))) ?hFa (by kernel_rfl) (by kernel_rfl) ?hJa ?hSa ?hEa
  (case hFa => intro t; simp only [putAll, Act.put, List.setIfInBounds_toArray, List.set_cons_zero, List.set_cons_succ, Nat.reduceAdd, Nat.zero_add]; exact rfl)
  case hJa => exact ⟨hH.grow ((Ext.refl _).drew), fun h => absurd h Bool.false_ne_true, fun h => absurd h Bool.false_ne_true, fun h => absurd h Bool.false_ne_true, fun h => absurd h Bool.false_ne_true, fun h => absurd h Bool.false_ne_true, fun h => absurd h Bool.false_ne_true, fun h => absurd h Bool.false_ne_true, fun h => absurd h Bool.false_ne_true⟩
  case hSa =>
    as_aux_lemma =>
      refine AllSteps.cons (j := 1) rfl (fun b t wx hJ hb hd hcl Kc hK => ?_) ?_
      · obtain ⟨hH, v0, v1, v2, v3, v4, v5, v6, v7⟩ := hJ
        go_simp
        refine hK.out _ ?_ _ ?_ ?_; rotate_left 2
        · rfl
        exact ⟨hH, fun _ => rfl, v1, v2, v3, v4, v5, v6, v7⟩
      refine AllSteps.cons (j := 2) rfl (fun b t wx hJ hb hd hcl Kc hK => ?_) ?_
      · obtain ⟨hH, v0, v1, v2, v3, v4, v5, v6, v7⟩ := hJ
        have d0 : b 0 = true := hd.out 0 (by kernel_rfl)
        have r0 := v0 d0
        have q0_0 := (hH.blk (k := 0) rfl).cell (j := 0) rfl
        have q0_1 := (hH.blk (k := 0) rfl).cell (j := 1) rfl
        have q0_2 := (hH.blk (k := 0) rfl).cell (j := 2) rfl
        go_simp
        refine hK.out _ ?_ _ ?_ ?_; rotate_left 2
        · (try simp only [r0]); rfl
        exact ⟨hH, v0, fun _ => rfl, v2, v3, v4, v5, v6, v7⟩
      refine AllSteps.cons (j := 3) rfl (fun b t wx hJ hb hd hcl Kc hK => ?_) ?_
      · obtain ⟨hH, v0, v1, v2, v3, v4, v5, v6, v7⟩ := hJ
        go_simp
        refine hK.out _ ?_ _ ?_ ?_; rotate_left 2
        · rfl
        exact ⟨hH, v0, v1, fun _ => rfl, v3, v4, v5, v6, v7⟩
      refine AllSteps.cons (j := 4) rfl (fun b t wx hJ hb hd hcl Kc hK => ?_) ?_
      · obtain ⟨hH, v0, v1, v2, v3, v4, v5, v6, v7⟩ := hJ
        have d2 : b 2 = true := hd.out 2 (by kernel_rfl)
        have r2 := v2 d2
        have q0_4 := (hH.blk (k := 0) rfl).cell (j := 4) rfl
        go_simp
        refine hK.out _ ?_ _ ?_ ?_; rotate_left 2
        · (try simp only [r2]); rfl
        exact ⟨hH, v0, v1, v2, fun _ => rfl, v4, v5, v6, v7⟩
      refine AllSteps.cons (j := 5) rfl (fun b t wx hJ hb hd hcl Kc hK => ?_) ?_
      · obtain ⟨hH, v0, v1, v2, v3, v4, v5, v6, v7⟩ := hJ
        go_simp
        refine hK.out _ ?_ _ ?_ ?_; rotate_left 2
        · rfl
        exact ⟨hH, v0, v1, v2, v3, fun _ => rfl, v5, v6, v7⟩
      refine AllSteps.cons (j := 6) rfl (fun b t wx hJ hb hd hcl Kc hK => ?_) ?_
      · obtain ⟨hH, v0, v1, v2, v3, v4, v5, v6, v7⟩ := hJ
        have d3 : b 3 = true := hd.out 3 (by kernel_rfl)
        have d4 : b 4 = true := hd.out 4 (by kernel_rfl)
        have n6 : b 6 = false := Bool.eq_false_iff.2 fun h => absurd (hcl.out 6 5 (by kernel_rfl) (h)) (by rw [hb]; exact Bool.false_ne_true)
        have r3 := v3 d3
        have r4 := v4 d4
        have hN := hH; (try simp only [hb, d3, d4, n6, cond_true, cond_false] at hN)
        go_simp
        go_at_call 122
        refine (withoutInt_any _ op (c : Int) _ (hO.ext hH.ext) (by omega)).mono ?_; rintro e5 w5 ⟨v4, rfl, o4, h4⟩
        rw [HOL.out] at o4
        obtain ⟨x4, c4, rfl, _, _⟩ := o4.ints.val
        (try go_simp)
        refine hK.out _ ?_ _ ?_ ?_; rotate_left 2
        · (try simp only [r3, r4]); rfl
        exact ⟨by have hX := hN.addI 2 h4 o4 (Nat.le_refl _); (try simp only [List.set_cons_zero, List.set_cons_succ] at hX); simpa only [updB, updV, blkOf_mk, tup0_mk, partsOf3, partsN_mk, Nat.reduceBEq, cond_true, cond_false, hb, d3, d4, n6, r3, r4] using hX, v0, v1, v2, v3, v4, fun _ => ⟨_, _, rfl⟩, fun h => absurd (show b 6 = true from h) (by rw [n6]; exact Bool.false_ne_true), v7⟩
      refine AllSteps.cons (j := 7) rfl (fun b t wx hJ hb hd hcl Kc hK => ?_) ?_
      · obtain ⟨hH, v0, v1, v2, v3, v4, v5, v6, v7⟩ := hJ
        have d1 : b 1 = true := hd.out 1 (by kernel_rfl)
        have d5 : b 5 = true := hd.out 5 (by kernel_rfl)
        have n8 : b 8 = false := Bool.eq_false_iff.2 fun h => absurd (hcl.out 8 6 (by kernel_rfl) (h)) (by rw [hb]; exact Bool.false_ne_true)
        have r1 := v1 d1
        have r5 := v5 d5
        obtain ⟨x_5, c_5, r5⟩ := r5
        have hN := hH; (try simp only [hb, d1, d5, n8, cond_true, cond_false] at hN)
        have e5 := r5 -- d5
        go_simp
        refine hK.out _ ?_ _ ?_ ?_; rotate_left 2
        · (try simp only [r1, r5]); rfl
        exact ⟨by have hX := hN; (try simp only [List.set_cons_zero, List.set_cons_succ] at hX); simpa only [updB, updV, blkOf_mk, tup0_mk, partsOf3, partsN_mk, Nat.reduceBEq, cond_true, cond_false, hb, d1, d5, n8, r1, r5] using hX, v0, v1, v2, v3, v4, v5, fun _ => (by show Value.agg _ = Value.agg #[_, _, _, _, t 5]; rw [r5]), v7⟩
      refine AllSteps.cons (j := 8) rfl (fun b t wx hJ hb hd hcl Kc hK => ?_) ?_
      · obtain ⟨hH, v0, v1, v2, v3, v4, v5, v6, v7⟩ := hJ
        have n8 : b 8 = false := Bool.eq_false_iff.2 fun h => absurd (hcl.out 8 7 (by kernel_rfl) (h)) (by rw [hb]; exact Bool.false_ne_true)
        have hN := hH; (try simp only [hb, n8, cond_true, cond_false] at hN)
        go_simp
        refine hK.out _ ?_ _ ?_ ?_; rotate_left 2
        · rfl
        exact ⟨by have hX := hN.addB 3 #[.int .i64 0, .int .i64 0, .int .i64 0, .slice none 0 0, .slice none 0 0] 29; (try simp only [List.set_cons_zero, List.set_cons_succ] at hX); simpa only [updB, updV, blkOf_mk, tup0_mk, partsOf3, partsN_mk, Nat.reduceBEq, cond_true, cond_false, hb, n8] using hX, v0, v1, v2, v3, v4, v5, v6, fun _ => ⟨_, rfl⟩⟩
      refine AllSteps.cons (j := 9) rfl (fun b t wx hJ hb hd hcl Kc hK => ?_) ?_
      · obtain ⟨hH, v0, v1, v2, v3, v4, v5, v6, v7⟩ := hJ
        have d0 : b 0 = true := hd.out 0 (by kernel_rfl)
        have d1 : b 1 = true := hd.out 1 (by kernel_rfl)
        have d2 : b 2 = true := hd.out 2 (by kernel_rfl)
        have d3 : b 3 = true := hd.out 3 (by kernel_rfl)
        have d4 : b 4 = true := hd.out 4 (by kernel_rfl)
        have d5 : b 5 = true := hd.out 5 (by kernel_rfl)
        have d6 : b 6 = true := hd.out 6 (by kernel_rfl)
        have d7 : b 7 = true := hd.out 7 (by kernel_rfl)
        have r0 := v0 d0
        have r1 := v1 d1
        have r2 := v2 d2
        have r3 := v3 d3
        have r4 := v4 d4
        have r5 := v5 d5
        have r6 := v6 d6
        have r7 := v7 d7
        obtain ⟨x_5, c_5, r5⟩ := r5
        obtain ⟨q_7, r7⟩ := r7
        have hN := hH; (try simp only [hb, d0, d1, d2, d3, d4, d5, d6, d7, cond_true, cond_false] at hN)
        rw [r5] at r6 -- d5 d6
        simp only [r7, r6, blkOf_mk, tup0_mk, partsN_mk] at hN
        have B := hN.blk (k := 3) rfl
        have f0 := B.free 0; have z0 := B.cell (j := 0) rfl
        have f1 := B.free 1; have z1 := B.cell (j := 1) rfl
        have f2 := B.free 2; have z2 := B.cell (j := 2) rfl
        have f3 := B.free 3; have z3 := B.cell (j := 3) rfl
        have f4 := B.free 4; have z4 := B.cell (j := 4) rfl
        have lB := B.lt; have hmk0 := @tup0_mk
        go_simp
        refine hK.out _ undef _ ?_ ?_; rotate_left 1
        · (try simp only [r0, r1, r2, r3, r4, r5, r6, r7]); rfl
        exact ⟨by have hX := hN.setB5 (k := 3) rfl (.int .i64 k) (.int .i64 p) (.int .i64 n) (.slice none 0 0) (.slice x_5 OL.length c_5); (try simp only [List.set_cons_zero, List.set_cons_succ] at hX); simpa only [updB, updV, blkOf_mk, tup0_mk, partsOf3, partsN_mk, Nat.reduceBEq, cond_true, cond_false, hb, d0, d1, d2, d3, d4, d5, d6, d7, r0, r1, r2, r3, r4, r5, r6, r7] using hX, v0, v1, v2, v3, v4, v5, v6, v7⟩
      exact AllSteps.nil
  case hEa =>
    intro b t wa hJ hall
    obtain ⟨hHa, v0, v1, v2, v3, v4, v5, v6, v7⟩ := hJ
    have a0 : b 0 = true := hall 0 (by decide)
    have a1 : b 1 = true := hall 1 (by decide)
    have a2 : b 2 = true := hall 2 (by decide)
    have a3 : b 3 = true := hall 3 (by decide)
    have a4 : b 4 = true := hall 4 (by decide)
    have a5 : b 5 = true := hall 5 (by decide)
    have a6 : b 6 = true := hall 6 (by decide)
    have a7 : b 7 = true := hall 7 (by decide)
    have a8 : b 8 = true := hall 8 (by decide)
    (try simp only [a0, a1, a2, a3, a4, a5, a6, a7, a8, cond_true] at hHa)
    replace v0 := v0 a0
    replace v1 := v1 a1
    replace v2 := v2 a2
    replace v3 := v3 a3
    replace v4 := v4 a4
    replace v5 := v5 a5
    replace v6 := v6 a6
    replace v7 := v7 a7
    clear hall a0 a1 a2 a3 a4 a5 a6 a7 a8
    generalize t 7 = x7 at hHa v7 ⊢
    generalize t 6 = x6 at hHa v6 ⊢
    generalize t 5 = x5 at hHa v5 v6 ⊢
    generalize t 4 = x4 at hHa v4 ⊢
    generalize t 3 = x3 at hHa v3 ⊢
    generalize t 2 = x2 at hHa v2 ⊢
    generalize t 1 = x1 at hHa v1 ⊢
    generalize t 0 = x0 at hHa v0 ⊢
    subst v0
    subst v1
    subst v2
    subst v3
    subst v4
    obtain ⟨xa5, ca5, rfl⟩ := v5
    subst v6
    obtain ⟨qa7, rfl⟩ := v7
    simp only [blkOf_mk, tup0_mk, partsOf3, partsN_mk] at hHa
    clear b
    replace hH := hHa; clear hHa
    replace hH : Held w wa [aB (w.heap.size) 29 [.int .i64 k, .int .i64 p, .int .i64 n, .slice aV m cV, .slice aO op.length cO], aB (w.heap.size + 1) 29 [.int .i64 0, .int .i64 0, .int .i64 0, .slice none 0 0, .slice none 0 0], aI (.slice xa5 OL.length ca5) OL, aB qa7 29 [.int .i64 k, .int .i64 p, .int .i64 n, .slice none 0 0, .slice xa5 OL.length ca5]] := hH
    replace hH := hH.nilTs
    replace hH : Held w wa [aB (w.heap.size) 29 [.int .i64 k, .int .i64 p, .int .i64 n, .slice aV m cV, .slice aO op.length cO], aB (w.heap.size + 1) 29 [.int .i64 0, .int .i64 0, .int .i64 0, .slice none 0 0, .slice none 0 0], aI (.slice xa5 OL.length ca5) OL, aB qa7 29 [.int .i64 k, .int .i64 p, .int .i64 n, .slice none 0 0, .slice xa5 OL.length ca5], aTs (.slice none 0 0) [] []] := hH
    have q0_0 := (hH.blk (k := 0) rfl).cell (j := 0) rfl
    have q0_1 := (hH.blk (k := 0) rfl).cell (j := 1) rfl
    have q0_2 := (hH.blk (k := 0) rfl).cell (j := 2) rfl
    have q0_3 := (hH.blk (k := 0) rfl).cell (j := 3) rfl
    have q0_4 := (hH.blk (k := 0) rfl).cell (j := 4) rfl
    have l0_ := (hH.blk (k := 0) rfl).lt
    have q1_0 := (hH.blk (k := 1) rfl).cell (j := 0) rfl
    have q1_1 := (hH.blk (k := 1) rfl).cell (j := 1) rfl
    have q1_2 := (hH.blk (k := 1) rfl).cell (j := 2) rfl
    have q1_3 := (hH.blk (k := 1) rfl).cell (j := 3) rfl
    have q1_4 := (hH.blk (k := 1) rfl).cell (j := 4) rfl
    have l1_ := (hH.blk (k := 1) rfl).lt
    have q3_0 := (hH.blk (k := 3) rfl).cell (j := 0) rfl
    have q3_1 := (hH.blk (k := 3) rfl).cell (j := 1) rfl
    have q3_2 := (hH.blk (k := 3) rfl).cell (j := 2) rfl
    have q3_3 := (hH.blk (k := 3) rfl).cell (j := 3) rfl
    have q3_4 := (hH.blk (k := 3) rfl).cell (j := 4) rfl
    have l3_ := (hH.blk (k := 3) rfl).lt
    go_wp2_with fail
    clear q0_0 q0_1 q0_2 q0_3 q0_4 l0_ q1_0 q1_1 q1_2 q1_3 q1_4 l1_ q3_0 q3_1 q3_2 q3_3 q3_4 l3_
    obtain ⟨wa, rfl⟩ : ∃ q, q = wa := ⟨wa, rfl⟩
    go_loopw [37] (fun i wr => ∃ (j : Nat) (tv : Value) (cs : List (Value × Value × Value)), j ≤ m ∧ i = .int .i64 (j : Int) ∧ Held w wr [aB (w.heap.size) 29 [.int .i64 k, .int .i64 p, .int .i64 n, .slice aV m cV, .slice aO op.length cO], aB (w.heap.size + 1) 29 [.int .i64 0, .int .i64 0, .int .i64 0, .slice none 0 0, .slice none 0 0], aI (.slice xa5 OL.length ca5) OL, aB qa7 29 [.int .i64 k, .int .i64 p, .int .i64 n, tv, .slice xa5 OL.length ca5], aTs (tv) cs (((ts.take j).map CT).map (tenOf dm))]) (fun i wr => m - (RowKit.intOf i).toNat)
    case atStart => exact ⟨0, _, _, Nat.zero_le _, rfl, hH⟩
    case round =>
      clear hH
      obtain ⟨j, tv, cs, hj, rfl, hH⟩ := hrel
      obtain ⟨QS, hQS⟩ : ∃ q, ((ts.take j).map CT).map (tenOf dm) = q := ⟨_, rfl⟩
      rw [hQS] at hH
      have hql : QS.length = j := by rw [← hQS, List.length_map, List.length_map, List.length_take, HM.out]; omega
      have HQL := Lib.hid hql; have HQS := Lib.hid hQS; clear hql hQS
      obtain ⟨aS, cS, rfl, _, _⟩ := (hH.tensS (k := 4) rfl).val
      rw [HQL.out] at hH
      obtain ⟨wq, rfl⟩ : ∃ q, q = wr := ⟨wr, rfl⟩
      by_cases hlt : j < m
      · skip
        obtain ⟨bT, oT, u1, u2, u3, t3, hV, hu0, hu1, hu2, ht3, hTu⟩ := hT.get (i := j) (by rw [hTl.out]; exact hlt)
        subst hV
        obtain ⟨t, htj, rfl⟩ : ∃ t, ts[j]? = some t ∧ tenOf dm t = t3 := by rw [List.getElem?_map] at ht3; exact Option.map_eq_some_iff.1 ht3
        have HTJ := Lib.hid htj; have HTI := Lib.hid (HN.out.ten t (List.mem_of_getElem? htj)); clear ht3 htj
        obtain ⟨tl, xs⟩ := t
        obtain ⟨e1, m1, f1, e2, m2, f2, e3, m3, f3, hvv⟩ := hTu.shape
        simp at hvv
        obtain ⟨rfl, rfl, rfl⟩ := hvv
        rw [Nat.mul_comm 3 j] at hu0 hu1 hu2
        obtain ⟨_, _, _, hvv, hTL, hTD, hTX⟩ := hTu.val
        simp at hvv
        obtain ⟨rfl, rfl, rfl⟩ := hvv
        simp only [tenOf] at hTu hTL hTD hTX HTI
        obtain ⟨_, _, hvv, _, _⟩ := hTL.val
        simp at hvv
        obtain ⟨rfl, rfl, rfl⟩ := hvv
        obtain ⟨_, _, hvv, _, _⟩ := hTD.val
        simp at hvv
        obtain ⟨rfl, rfl, rfl⟩ := hvv
        have HMS := Lib.hid (HCS.out j tl xs HTJ.out); rw [HQS.out] at HMS
        have hxl := HTI.out.flatL HR.out; have hrk : tl.length ≤ 12 := HTI.out.ax.rank; have HXL := Lib.hid hxl; clear hxl
        have q0_0 := (hH.blk (k := 0) rfl).cell (j := 0) rfl
        have q0_1 := (hH.blk (k := 0) rfl).cell (j := 1) rfl
        have q0_2 := (hH.blk (k := 0) rfl).cell (j := 2) rfl
        have q0_3 := (hH.blk (k := 0) rfl).cell (j := 3) rfl
        have q0_4 := (hH.blk (k := 0) rfl).cell (j := 4) rfl
        have l0_ := (hH.blk (k := 0) rfl).lt
        have q1_0 := (hH.blk (k := 1) rfl).cell (j := 0) rfl
        have q1_1 := (hH.blk (k := 1) rfl).cell (j := 1) rfl
        have q1_2 := (hH.blk (k := 1) rfl).cell (j := 2) rfl
        have q1_3 := (hH.blk (k := 1) rfl).cell (j := 3) rfl
        have q1_4 := (hH.blk (k := 1) rfl).cell (j := 4) rfl
        have l1_ := (hH.blk (k := 1) rfl).lt
        have q3_0 := (hH.blk (k := 3) rfl).cell (j := 0) rfl
        have q3_1 := (hH.blk (k := 3) rfl).cell (j := 1) rfl
        have q3_2 := (hH.blk (k := 3) rfl).cell (j := 2) rfl
        have q3_3 := (hH.blk (k := 3) rfl).cell (j := 3) rfl
        have q3_4 := (hH.blk (k := 3) rfl).cell (j := 4) rfl
        have l3_ := (hH.blk (k := 3) rfl).lt
        have c_hu0 := hH.ext.cell hu0
        have c_hu1 := hH.ext.cell hu1
        have c_hu2 := hH.ext.cell hu2
        go_upto_region 7 with fail
        clear q0_0 q0_1 q0_2 q0_3 q0_4 l0_ q1_0 q1_1 q1_2 q1_3 q1_4 l1_ q3_0 q3_1 q3_2 q3_3 q3_4 l3_ c_hu0 c_hu1 c_hu2
        have hB : Held w (wq.alloc (.cells #[.slice e1 tl.length f1, .slice e2 tl.length f2, .slice e3 m3 f3] 32)) [aB (w.heap.size) 29 [.int .i64 k, .int .i64 p, .int .i64 n, .slice (some ⟨bT, oT, none⟩) m cV, .slice aO op.length cO], aB (w.heap.size + 1) 29 [.int .i64 0, .int .i64 0, .int .i64 0, .slice none 0 0, .slice none 0 0], aI (.slice xa5 OL.length ca5) OL, aB qa7 29 [.int .i64 k, .int .i64 p, .int .i64 n, .slice aS j cS, .slice xa5 OL.length ca5], aTs (.slice aS j cS) cs QS, aB (wq.heap.size) 32 [.slice e1 tl.length f1, .slice e2 tl.length f2, .slice e3 m3 f3]] := by
          have h := (hH.mores 1).addB 5 #[.slice e1 tl.length f1, .slice e2 tl.length f2, .slice e3 m3 f3] 32
          exact h
        have hsz : (wq.alloc (.cells #[.slice e1 tl.length f1, .slice e2 tl.length f2, .slice e3 m3 f3] 32)).heap.size = wq.heap.size + 1 := by simp
        generalize wq.alloc (.cells #[.slice e1 tl.length f1, .slice e2 tl.length f2, .slice e3 m3 f3] 32) = wn5 at hB hsz ⊢
        replace hH := hB; have HSZwn5 := Lib.hid hsz; clear hB hsz
        have q0_0 := (hH.blk (k := 0) rfl).cell (j := 0) rfl
        have q0_1 := (hH.blk (k := 0) rfl).cell (j := 1) rfl
        have q0_2 := (hH.blk (k := 0) rfl).cell (j := 2) rfl
        have q0_3 := (hH.blk (k := 0) rfl).cell (j := 3) rfl
        have q0_4 := (hH.blk (k := 0) rfl).cell (j := 4) rfl
        have l0_ := (hH.blk (k := 0) rfl).lt
        have q1_0 := (hH.blk (k := 1) rfl).cell (j := 0) rfl
        have q1_1 := (hH.blk (k := 1) rfl).cell (j := 1) rfl
        have q1_2 := (hH.blk (k := 1) rfl).cell (j := 2) rfl
        have q1_3 := (hH.blk (k := 1) rfl).cell (j := 3) rfl
        have q1_4 := (hH.blk (k := 1) rfl).cell (j := 4) rfl
        have l1_ := (hH.blk (k := 1) rfl).lt
        have q3_0 := (hH.blk (k := 3) rfl).cell (j := 0) rfl
        have q3_1 := (hH.blk (k := 3) rfl).cell (j := 1) rfl
        have q3_2 := (hH.blk (k := 3) rfl).cell (j := 2) rfl
        have q3_3 := (hH.blk (k := 3) rfl).cell (j := 3) rfl
        have q3_4 := (hH.blk (k := 3) rfl).cell (j := 4) rfl
        have l3_ := (hH.blk (k := 3) rfl).lt
        have q5_0 := (hH.blk (k := 5) rfl).cell (j := 0) rfl
        have q5_1 := (hH.blk (k := 5) rfl).cell (j := 1) rfl
        have q5_2 := (hH.blk (k := 5) rfl).cell (j := 2) rfl
        have l5_ := (hH.blk (k := 5) rfl).lt
        have c_hu0 := hH.ext.cell hu0
        have c_hu1 := hH.ext.cell hu1
        have c_hu2 := hH.ext.cell hu2
        go_wp2_with fail
        clear q0_0 q0_1 q0_2 q0_3 q0_4 l0_ q1_0 q1_1 q1_2 q1_3 q1_4 l1_ q3_0 q3_1 q3_2 q3_3 q3_4 l3_ q5_0 q5_1 q5_2 l5_ c_hu0 c_hu1 c_hu2
        refine (copyTensor_any _ tl (tl.map dm) (flat xs) _ (hTu.ext hH.ext) (by omega) (by rw [List.length_map]; omega) HXL.out).mono ?_; rintro ewn6 wn6 ⟨u, rfl, ou, hwn6⟩
        obtain ⟨p1, n1, d1, p2, n2, d2, p3, n3, d3, rfl⟩ := ou.shape
        replace hH : Held w wn6 [aB (w.heap.size) 29 [.int .i64 k, .int .i64 p, .int .i64 n, .slice (some ⟨bT, oT, none⟩) m cV, .slice aO op.length cO], aB (w.heap.size + 1) 29 [.int .i64 0, .int .i64 0, .int .i64 0, .slice none 0 0, .slice none 0 0], aI (.slice xa5 OL.length ca5) OL, aB qa7 29 [.int .i64 k, .int .i64 p, .int .i64 n, .slice aS j cS, .slice xa5 OL.length ca5], aTs (.slice aS j cS) cs QS, aB (wq.heap.size) 32 [.slice e1 tl.length f1, .slice e2 tl.length f2, .slice e3 m3 f3], aT (.agg #[.slice p1 n1 d1, .slice p2 n2 d2, .slice p3 n3 d3]) tl (tl.map dm) (flat xs)] := (hH.mores 1).addT 6 hwn6 ou (Nat.le_refl _)
        clear hwn6
        have q0_0 := (hH.blk (k := 0) rfl).cell (j := 0) rfl
        have q0_1 := (hH.blk (k := 0) rfl).cell (j := 1) rfl
        have q0_2 := (hH.blk (k := 0) rfl).cell (j := 2) rfl
        have q0_3 := (hH.blk (k := 0) rfl).cell (j := 3) rfl
        have q0_4 := (hH.blk (k := 0) rfl).cell (j := 4) rfl
        have l0_ := (hH.blk (k := 0) rfl).lt
        have q1_0 := (hH.blk (k := 1) rfl).cell (j := 0) rfl
        have q1_1 := (hH.blk (k := 1) rfl).cell (j := 1) rfl
        have q1_2 := (hH.blk (k := 1) rfl).cell (j := 2) rfl
        have q1_3 := (hH.blk (k := 1) rfl).cell (j := 3) rfl
        have q1_4 := (hH.blk (k := 1) rfl).cell (j := 4) rfl
        have l1_ := (hH.blk (k := 1) rfl).lt
        have q3_0 := (hH.blk (k := 3) rfl).cell (j := 0) rfl
        have q3_1 := (hH.blk (k := 3) rfl).cell (j := 1) rfl
        have q3_2 := (hH.blk (k := 3) rfl).cell (j := 2) rfl
        have q3_3 := (hH.blk (k := 3) rfl).cell (j := 3) rfl
        have q3_4 := (hH.blk (k := 3) rfl).cell (j := 4) rfl
        have l3_ := (hH.blk (k := 3) rfl).lt
        have q5_0 := (hH.blk (k := 5) rfl).cell (j := 0) rfl
        have q5_1 := (hH.blk (k := 5) rfl).cell (j := 1) rfl
        have q5_2 := (hH.blk (k := 5) rfl).cell (j := 2) rfl
        have l5_ := (hH.blk (k := 5) rfl).lt
        have c_hu0 := hH.ext.cell hu0
        have c_hu1 := hH.ext.cell hu1
        have c_hu2 := hH.ext.cell hu2
        go_upto_region 8 with fail
        clear q0_0 q0_1 q0_2 q0_3 q0_4 l0_ q1_0 q1_1 q1_2 q1_3 q1_4 l1_ q3_0 q3_1 q3_2 q3_3 q3_4 l3_ q5_0 q5_1 q5_2 l5_ c_hu0 c_hu1 c_hu2
        have hB : Held w (wn6.alloc (.cells #[.slice p1 n1 d1, .slice p2 n2 d2, .slice p3 n3 d3] 32)) [aB (w.heap.size) 29 [.int .i64 k, .int .i64 p, .int .i64 n, .slice (some ⟨bT, oT, none⟩) m cV, .slice aO op.length cO], aB (w.heap.size + 1) 29 [.int .i64 0, .int .i64 0, .int .i64 0, .slice none 0 0, .slice none 0 0], aI (.slice xa5 OL.length ca5) OL, aB qa7 29 [.int .i64 k, .int .i64 p, .int .i64 n, .slice aS j cS, .slice xa5 OL.length ca5], aTs (.slice aS j cS) cs QS, aB (wq.heap.size) 32 [.slice e1 tl.length f1, .slice e2 tl.length f2, .slice e3 m3 f3], aT (.agg #[.slice p1 n1 d1, .slice p2 n2 d2, .slice p3 n3 d3]) tl (tl.map dm) (flat xs), aB (wn6.heap.size) 32 [.slice p1 n1 d1, .slice p2 n2 d2, .slice p3 n3 d3]] := by
          have h := (hH.mores 1).addB 7 #[.slice p1 n1 d1, .slice p2 n2 d2, .slice p3 n3 d3] 32
          exact h
        have hsz : (wn6.alloc (.cells #[.slice p1 n1 d1, .slice p2 n2 d2, .slice p3 n3 d3] 32)).heap.size = wn6.heap.size + 1 := by simp
        generalize wn6.alloc (.cells #[.slice p1 n1 d1, .slice p2 n2 d2, .slice p3 n3 d3] 32) = wn7 at hB hsz ⊢
        replace hH := hB; have HSZwn7 := Lib.hid hsz; clear hB hsz
        have q0_0 := (hH.blk (k := 0) rfl).cell (j := 0) rfl
        have q0_1 := (hH.blk (k := 0) rfl).cell (j := 1) rfl
        have q0_2 := (hH.blk (k := 0) rfl).cell (j := 2) rfl
        have q0_3 := (hH.blk (k := 0) rfl).cell (j := 3) rfl
        have q0_4 := (hH.blk (k := 0) rfl).cell (j := 4) rfl
        have l0_ := (hH.blk (k := 0) rfl).lt
        have q1_0 := (hH.blk (k := 1) rfl).cell (j := 0) rfl
        have q1_1 := (hH.blk (k := 1) rfl).cell (j := 1) rfl
        have q1_2 := (hH.blk (k := 1) rfl).cell (j := 2) rfl
        have q1_3 := (hH.blk (k := 1) rfl).cell (j := 3) rfl
        have q1_4 := (hH.blk (k := 1) rfl).cell (j := 4) rfl
        have l1_ := (hH.blk (k := 1) rfl).lt
        have q3_0 := (hH.blk (k := 3) rfl).cell (j := 0) rfl
        have q3_1 := (hH.blk (k := 3) rfl).cell (j := 1) rfl
        have q3_2 := (hH.blk (k := 3) rfl).cell (j := 2) rfl
        have q3_3 := (hH.blk (k := 3) rfl).cell (j := 3) rfl
        have q3_4 := (hH.blk (k := 3) rfl).cell (j := 4) rfl
        have l3_ := (hH.blk (k := 3) rfl).lt
        have q5_0 := (hH.blk (k := 5) rfl).cell (j := 0) rfl
        have q5_1 := (hH.blk (k := 5) rfl).cell (j := 1) rfl
        have q5_2 := (hH.blk (k := 5) rfl).cell (j := 2) rfl
        have l5_ := (hH.blk (k := 5) rfl).lt
        have q7_0 := (hH.blk (k := 7) rfl).cell (j := 0) rfl
        have q7_1 := (hH.blk (k := 7) rfl).cell (j := 1) rfl
        have q7_2 := (hH.blk (k := 7) rfl).cell (j := 2) rfl
        have l7_ := (hH.blk (k := 7) rfl).lt
        have c_hu0 := hH.ext.cell hu0
        have c_hu1 := hH.ext.cell hu1
        have c_hu2 := hH.ext.cell hu2
        go_wp2_with fail
        clear q0_0 q0_1 q0_2 q0_3 q0_4 l0_ q1_0 q1_1 q1_2 q1_3 q1_4 l1_ q3_0 q3_1 q3_2 q3_3 q3_4 l3_ q5_0 q5_1 q5_2 l5_ q7_0 q7_1 q7_2 l7_ c_hu0 c_hu1 c_hu2
        refine (axisOf_any _ tl (tl.map dm) (flat xs) (c : Int) _ (hTu.ext hH.ext)).mono ?_; rintro ewn8 wn8 ⟨rfl, hwn8⟩
        replace hH : Held w wn8 [aB (w.heap.size) 29 [.int .i64 k, .int .i64 p, .int .i64 n, .slice (some ⟨bT, oT, none⟩) m cV, .slice aO op.length cO], aB (w.heap.size + 1) 29 [.int .i64 0, .int .i64 0, .int .i64 0, .slice none 0 0, .slice none 0 0], aI (.slice xa5 OL.length ca5) OL, aB qa7 29 [.int .i64 k, .int .i64 p, .int .i64 n, .slice aS j cS, .slice xa5 OL.length ca5], aTs (.slice aS j cS) cs QS, aB (wq.heap.size) 32 [.slice e1 tl.length f1, .slice e2 tl.length f2, .slice e3 m3 f3], aT (.agg #[.slice p1 n1 d1, .slice p2 n2 d2, .slice p3 n3 d3]) tl (tl.map dm) (flat xs), aB (wn6.heap.size) 32 [.slice p1 n1 d1, .slice p2 n2 d2, .slice p3 n3 d3]] := hH.grow hwn8
        clear hwn8
        by_cases hx : (c : Int) ∈ tl
        · skip
          have hf0 : 0 ≤ findL tl (c : Int) := (findL_pos ((hasL_iff _ _).2 hx)).1
          have HCC := Lib.hid (HCY.out tl xs hx); rw [HCC.out] at HMS
          have HX := Lib.hid hx; clear hx
          have q0_0 := (hH.blk (k := 0) rfl).cell (j := 0) rfl
          have q0_1 := (hH.blk (k := 0) rfl).cell (j := 1) rfl
          have q0_2 := (hH.blk (k := 0) rfl).cell (j := 2) rfl
          have q0_3 := (hH.blk (k := 0) rfl).cell (j := 3) rfl
          have q0_4 := (hH.blk (k := 0) rfl).cell (j := 4) rfl
          have l0_ := (hH.blk (k := 0) rfl).lt
          have q1_0 := (hH.blk (k := 1) rfl).cell (j := 0) rfl
          have q1_1 := (hH.blk (k := 1) rfl).cell (j := 1) rfl
          have q1_2 := (hH.blk (k := 1) rfl).cell (j := 2) rfl
          have q1_3 := (hH.blk (k := 1) rfl).cell (j := 3) rfl
          have q1_4 := (hH.blk (k := 1) rfl).cell (j := 4) rfl
          have l1_ := (hH.blk (k := 1) rfl).lt
          have q3_0 := (hH.blk (k := 3) rfl).cell (j := 0) rfl
          have q3_1 := (hH.blk (k := 3) rfl).cell (j := 1) rfl
          have q3_2 := (hH.blk (k := 3) rfl).cell (j := 2) rfl
          have q3_3 := (hH.blk (k := 3) rfl).cell (j := 3) rfl
          have q3_4 := (hH.blk (k := 3) rfl).cell (j := 4) rfl
          have l3_ := (hH.blk (k := 3) rfl).lt
          have q5_0 := (hH.blk (k := 5) rfl).cell (j := 0) rfl
          have q5_1 := (hH.blk (k := 5) rfl).cell (j := 1) rfl
          have q5_2 := (hH.blk (k := 5) rfl).cell (j := 2) rfl
          have l5_ := (hH.blk (k := 5) rfl).lt
          have q7_0 := (hH.blk (k := 7) rfl).cell (j := 0) rfl
          have q7_1 := (hH.blk (k := 7) rfl).cell (j := 1) rfl
          have q7_2 := (hH.blk (k := 7) rfl).cell (j := 2) rfl
          have l7_ := (hH.blk (k := 7) rfl).lt
          have c_hu0 := hH.ext.cell hu0
          have c_hu1 := hH.ext.cell hu1
          have c_hu2 := hH.ext.cell hu2
          go_wp2_with fail
          clear q0_0 q0_1 q0_2 q0_3 q0_4 l0_ q1_0 q1_1 q1_2 q1_3 q1_4 l1_ q3_0 q3_1 q3_2 q3_3 q3_4 l3_ q5_0 q5_1 q5_2 l5_ q7_0 q7_1 q7_2 l7_ c_hu0 c_hu1 c_hu2
          clear hf0
          refine (sliceTensor_any HR.out HTI.out (c : Int) v HX.out v0 v1 _ _ (hTu.ext hH.ext)).mono ?_; rintro ewn9 wn9 ⟨u2, rfl, ou2, hwn9⟩
          obtain ⟨b1, g1, a1, b2, g2, a2, b3, g3, a3, rfl⟩ := ou2.shape
          replace hH : Held w wn9 [aB (w.heap.size) 29 [.int .i64 k, .int .i64 p, .int .i64 n, .slice (some ⟨bT, oT, none⟩) m cV, .slice aO op.length cO], aB (w.heap.size + 1) 29 [.int .i64 0, .int .i64 0, .int .i64 0, .slice none 0 0, .slice none 0 0], aI (.slice xa5 OL.length ca5) OL, aB qa7 29 [.int .i64 k, .int .i64 p, .int .i64 n, .slice aS j cS, .slice xa5 OL.length ca5], aTs (.slice aS j cS) cs QS, aB (wq.heap.size) 32 [.slice e1 tl.length f1, .slice e2 tl.length f2, .slice e3 m3 f3], aT (.agg #[.slice p1 n1 d1, .slice p2 n2 d2, .slice p3 n3 d3]) tl (tl.map dm) (flat xs), aB (wn6.heap.size) 32 [.slice p1 n1 d1, .slice p2 n2 d2, .slice p3 n3 d3], aT (.agg #[.slice b1 g1 a1, .slice b2 g2 a2, .slice b3 g3 a3]) (cutL tl (c : Int)) ((cutL tl (c : Int)).map dm) (flat (cutXs HR.out dm tl (c : Int) (fun _ => v) xs))] := (hH.mores 1).addT 8 hwn9 ou2 (Nat.le_refl _)
          clear hwn9
          have q0_0 := (hH.blk (k := 0) rfl).cell (j := 0) rfl
          have q0_1 := (hH.blk (k := 0) rfl).cell (j := 1) rfl
          have q0_2 := (hH.blk (k := 0) rfl).cell (j := 2) rfl
          have q0_3 := (hH.blk (k := 0) rfl).cell (j := 3) rfl
          have q0_4 := (hH.blk (k := 0) rfl).cell (j := 4) rfl
          have l0_ := (hH.blk (k := 0) rfl).lt
          have q1_0 := (hH.blk (k := 1) rfl).cell (j := 0) rfl
          have q1_1 := (hH.blk (k := 1) rfl).cell (j := 1) rfl
          have q1_2 := (hH.blk (k := 1) rfl).cell (j := 2) rfl
          have q1_3 := (hH.blk (k := 1) rfl).cell (j := 3) rfl
          have q1_4 := (hH.blk (k := 1) rfl).cell (j := 4) rfl
          have l1_ := (hH.blk (k := 1) rfl).lt
          have q3_0 := (hH.blk (k := 3) rfl).cell (j := 0) rfl
          have q3_1 := (hH.blk (k := 3) rfl).cell (j := 1) rfl
          have q3_2 := (hH.blk (k := 3) rfl).cell (j := 2) rfl
          have q3_3 := (hH.blk (k := 3) rfl).cell (j := 3) rfl
          have q3_4 := (hH.blk (k := 3) rfl).cell (j := 4) rfl
          have l3_ := (hH.blk (k := 3) rfl).lt
          have q5_0 := (hH.blk (k := 5) rfl).cell (j := 0) rfl
          have q5_1 := (hH.blk (k := 5) rfl).cell (j := 1) rfl
          have q5_2 := (hH.blk (k := 5) rfl).cell (j := 2) rfl
          have l5_ := (hH.blk (k := 5) rfl).lt
          have q7_0 := (hH.blk (k := 7) rfl).cell (j := 0) rfl
          have f7_0 := (hH.blk (k := 7) rfl).free 0
          have q7_1 := (hH.blk (k := 7) rfl).cell (j := 1) rfl
          have f7_1 := (hH.blk (k := 7) rfl).free 1
          have q7_2 := (hH.blk (k := 7) rfl).cell (j := 2) rfl
          have f7_2 := (hH.blk (k := 7) rfl).free 2
          have l7_ := (hH.blk (k := 7) rfl).lt
          have c_hu0 := hH.ext.cell hu0
          have c_hu1 := hH.ext.cell hu1
          have c_hu2 := hH.ext.cell hu2
          go_upto_region 10 with fail
          clear q0_0 q0_1 q0_2 q0_3 q0_4 l0_ q1_0 q1_1 q1_2 q1_3 q1_4 l1_ q3_0 q3_1 q3_2 q3_3 q3_4 l3_ q5_0 q5_1 q5_2 l5_ q7_0 f7_0 q7_1 f7_1 q7_2 f7_2 l7_ c_hu0 c_hu1 c_hu2
          have hHs := hH.setB3' (k := 7) rfl (.slice b1 g1 a1) (.slice b2 g2 a2) (.slice b3 g3 a3)
          generalize (((wn9.setCell ⟨wn6.heap.size, 0, none⟩ (.slice b1 g1 a1)).setCell ⟨wn6.heap.size, 1, none⟩ (.slice b2 g2 a2)).setCell ⟨wn6.heap.size, 2, none⟩ (.slice b3 g3 a3)) = wz at hHs ⊢
          replace hH : Held w wz [aB (w.heap.size) 29 [.int .i64 k, .int .i64 p, .int .i64 n, .slice (some ⟨bT, oT, none⟩) m cV, .slice aO op.length cO], aB (w.heap.size + 1) 29 [.int .i64 0, .int .i64 0, .int .i64 0, .slice none 0 0, .slice none 0 0], aI (.slice xa5 OL.length ca5) OL, aB qa7 29 [.int .i64 k, .int .i64 p, .int .i64 n, .slice aS j cS, .slice xa5 OL.length ca5], aTs (.slice aS j cS) cs QS, aB (wq.heap.size) 32 [.slice e1 tl.length f1, .slice e2 tl.length f2, .slice e3 m3 f3], aT (.agg #[.slice p1 n1 d1, .slice p2 n2 d2, .slice p3 n3 d3]) tl (tl.map dm) (flat xs), aB (wn6.heap.size) 32 [.slice b1 g1 a1, .slice b2 g2 a2, .slice b3 g3 a3], aT (.agg #[.slice b1 g1 a1, .slice b2 g2 a2, .slice b3 g3 a3]) (cutL tl (c : Int)) ((cutL tl (c : Int)).map dm) (flat (cutXs HR.out dm tl (c : Int) (fun _ => v) xs))] := hHs
          clear hHs
          have q0_0 := (hH.blk (k := 0) rfl).cell (j := 0) rfl
          have q0_1 := (hH.blk (k := 0) rfl).cell (j := 1) rfl
          have q0_2 := (hH.blk (k := 0) rfl).cell (j := 2) rfl
          have q0_3 := (hH.blk (k := 0) rfl).cell (j := 3) rfl
          have q0_4 := (hH.blk (k := 0) rfl).cell (j := 4) rfl
          have l0_ := (hH.blk (k := 0) rfl).lt
          have q1_0 := (hH.blk (k := 1) rfl).cell (j := 0) rfl
          have q1_1 := (hH.blk (k := 1) rfl).cell (j := 1) rfl
          have q1_2 := (hH.blk (k := 1) rfl).cell (j := 2) rfl
          have q1_3 := (hH.blk (k := 1) rfl).cell (j := 3) rfl
          have q1_4 := (hH.blk (k := 1) rfl).cell (j := 4) rfl
          have l1_ := (hH.blk (k := 1) rfl).lt
          have q3_0 := (hH.blk (k := 3) rfl).cell (j := 0) rfl
          have f3_0 := (hH.blk (k := 3) rfl).free 0
          have q3_1 := (hH.blk (k := 3) rfl).cell (j := 1) rfl
          have f3_1 := (hH.blk (k := 3) rfl).free 1
          have q3_2 := (hH.blk (k := 3) rfl).cell (j := 2) rfl
          have f3_2 := (hH.blk (k := 3) rfl).free 2
          have q3_3 := (hH.blk (k := 3) rfl).cell (j := 3) rfl
          have f3_3 := (hH.blk (k := 3) rfl).free 3
          have q3_4 := (hH.blk (k := 3) rfl).cell (j := 4) rfl
          have f3_4 := (hH.blk (k := 3) rfl).free 4
          have l3_ := (hH.blk (k := 3) rfl).lt
          have q5_0 := (hH.blk (k := 5) rfl).cell (j := 0) rfl
          have q5_1 := (hH.blk (k := 5) rfl).cell (j := 1) rfl
          have q5_2 := (hH.blk (k := 5) rfl).cell (j := 2) rfl
          have l5_ := (hH.blk (k := 5) rfl).lt
          have q7_0 := (hH.blk (k := 7) rfl).cell (j := 0) rfl
          have q7_1 := (hH.blk (k := 7) rfl).cell (j := 1) rfl
          have q7_2 := (hH.blk (k := 7) rfl).cell (j := 2) rfl
          have l7_ := (hH.blk (k := 7) rfl).lt
          have c_hu0 := hH.ext.cell hu0
          have c_hu1 := hH.ext.cell hu1
          have c_hu2 := hH.ext.cell hu2
          go_wp2_with (at_builtin; refine wpList_app _ rfl _ _ 26 rfl _ _ rfl rfl _ (run_pushT2 _ (hH.grow ((Ext.refl _).alloc _)) (k1 := 4) (k2 := 8) rfl rfl (by decide) (row_one3 _ _ _ _ _) (by rw [HQL.out]; omega)) ?_; rintro vp wp ⟨hHp, gp⟩; obtain ⟨ap, cp, hvp, _, _⟩ := (hHp.tensS (k := 4) rfl).val; rw [List.length_append, List.length_singleton, HQL.out] at hvp; subst hvp; have yB := hHp.blk (k := 3) rfl; have yl := yB.lt; have y3 := yB.cell (j := 3) rfl; have y3f := yB.free 3; clear yB)
          have hHq := hHp.setB (k := 3) rfl 3 (.slice ap (j + 1) cp)
          go_roundw
          case rel => exact ⟨j + 1, _, _, by omega, by go_num, by rw [HMS.out]; exact hHq.sub (.cons_cons _ (.cons_cons _ (.cons_cons _ (.cons_cons _ (.cons_cons _ (.cons _ (.cons _ (.cons _ (.cons _ .slnil)))))))))⟩
          case measure => simp [RowKit.intOf]; omega
        · skip
          have hf : findL tl (c : Int) = -1 := findL_neg (hasL_not.2 hx)
          rw [hf]
          clear hf
          have HCC := Lib.hid (HCN.out tl xs hx); rw [HCC.out] at HMS
          clear hx
          have q0_0 := (hH.blk (k := 0) rfl).cell (j := 0) rfl
          have q0_1 := (hH.blk (k := 0) rfl).cell (j := 1) rfl
          have q0_2 := (hH.blk (k := 0) rfl).cell (j := 2) rfl
          have q0_3 := (hH.blk (k := 0) rfl).cell (j := 3) rfl
          have q0_4 := (hH.blk (k := 0) rfl).cell (j := 4) rfl
          have l0_ := (hH.blk (k := 0) rfl).lt
          have q1_0 := (hH.blk (k := 1) rfl).cell (j := 0) rfl
          have q1_1 := (hH.blk (k := 1) rfl).cell (j := 1) rfl
          have q1_2 := (hH.blk (k := 1) rfl).cell (j := 2) rfl
          have q1_3 := (hH.blk (k := 1) rfl).cell (j := 3) rfl
          have q1_4 := (hH.blk (k := 1) rfl).cell (j := 4) rfl
          have l1_ := (hH.blk (k := 1) rfl).lt
          have q3_0 := (hH.blk (k := 3) rfl).cell (j := 0) rfl
          have q3_1 := (hH.blk (k := 3) rfl).cell (j := 1) rfl
          have q3_2 := (hH.blk (k := 3) rfl).cell (j := 2) rfl
          have q3_3 := (hH.blk (k := 3) rfl).cell (j := 3) rfl
          have q3_4 := (hH.blk (k := 3) rfl).cell (j := 4) rfl
          have l3_ := (hH.blk (k := 3) rfl).lt
          have q5_0 := (hH.blk (k := 5) rfl).cell (j := 0) rfl
          have q5_1 := (hH.blk (k := 5) rfl).cell (j := 1) rfl
          have q5_2 := (hH.blk (k := 5) rfl).cell (j := 2) rfl
          have l5_ := (hH.blk (k := 5) rfl).lt
          have q7_0 := (hH.blk (k := 7) rfl).cell (j := 0) rfl
          have q7_1 := (hH.blk (k := 7) rfl).cell (j := 1) rfl
          have q7_2 := (hH.blk (k := 7) rfl).cell (j := 2) rfl
          have l7_ := (hH.blk (k := 7) rfl).lt
          have c_hu0 := hH.ext.cell hu0
          have c_hu1 := hH.ext.cell hu1
          have c_hu2 := hH.ext.cell hu2
          go_upto_region 10 with fail
          clear q0_0 q0_1 q0_2 q0_3 q0_4 l0_ q1_0 q1_1 q1_2 q1_3 q1_4 l1_ q3_0 q3_1 q3_2 q3_3 q3_4 l3_ q5_0 q5_1 q5_2 l5_ q7_0 q7_1 q7_2 l7_ c_hu0 c_hu1 c_hu2
          have q0_0 := (hH.blk (k := 0) rfl).cell (j := 0) rfl
          have q0_1 := (hH.blk (k := 0) rfl).cell (j := 1) rfl
          have q0_2 := (hH.blk (k := 0) rfl).cell (j := 2) rfl
          have q0_3 := (hH.blk (k := 0) rfl).cell (j := 3) rfl
          have q0_4 := (hH.blk (k := 0) rfl).cell (j := 4) rfl
          have l0_ := (hH.blk (k := 0) rfl).lt
          have q1_0 := (hH.blk (k := 1) rfl).cell (j := 0) rfl
          have q1_1 := (hH.blk (k := 1) rfl).cell (j := 1) rfl
          have q1_2 := (hH.blk (k := 1) rfl).cell (j := 2) rfl
          have q1_3 := (hH.blk (k := 1) rfl).cell (j := 3) rfl
          have q1_4 := (hH.blk (k := 1) rfl).cell (j := 4) rfl
          have l1_ := (hH.blk (k := 1) rfl).lt
          have q3_0 := (hH.blk (k := 3) rfl).cell (j := 0) rfl
          have f3_0 := (hH.blk (k := 3) rfl).free 0
          have q3_1 := (hH.blk (k := 3) rfl).cell (j := 1) rfl
          have f3_1 := (hH.blk (k := 3) rfl).free 1
          have q3_2 := (hH.blk (k := 3) rfl).cell (j := 2) rfl
          have f3_2 := (hH.blk (k := 3) rfl).free 2
          have q3_3 := (hH.blk (k := 3) rfl).cell (j := 3) rfl
          have f3_3 := (hH.blk (k := 3) rfl).free 3
          have q3_4 := (hH.blk (k := 3) rfl).cell (j := 4) rfl
          have f3_4 := (hH.blk (k := 3) rfl).free 4
          have l3_ := (hH.blk (k := 3) rfl).lt
          have q5_0 := (hH.blk (k := 5) rfl).cell (j := 0) rfl
          have q5_1 := (hH.blk (k := 5) rfl).cell (j := 1) rfl
          have q5_2 := (hH.blk (k := 5) rfl).cell (j := 2) rfl
          have l5_ := (hH.blk (k := 5) rfl).lt
          have q7_0 := (hH.blk (k := 7) rfl).cell (j := 0) rfl
          have q7_1 := (hH.blk (k := 7) rfl).cell (j := 1) rfl
          have q7_2 := (hH.blk (k := 7) rfl).cell (j := 2) rfl
          have l7_ := (hH.blk (k := 7) rfl).lt
          have c_hu0 := hH.ext.cell hu0
          have c_hu1 := hH.ext.cell hu1
          have c_hu2 := hH.ext.cell hu2
          go_wp2_with (at_builtin; refine wpList_app _ rfl _ _ 26 rfl _ _ rfl rfl _ (run_pushT2 _ (hH.grow ((Ext.refl _).alloc _)) (k1 := 4) (k2 := 6) rfl rfl (by decide) (row_one3 _ _ _ _ _) (by rw [HQL.out]; omega)) ?_; rintro vp wp ⟨hHp, gp⟩; obtain ⟨ap, cp, hvp, _, _⟩ := (hHp.tensS (k := 4) rfl).val; rw [List.length_append, List.length_singleton, HQL.out] at hvp; subst hvp; have yB := hHp.blk (k := 3) rfl; have yl := yB.lt; have y3 := yB.cell (j := 3) rfl; have y3f := yB.free 3; clear yB)
          have hHq := hHp.setB (k := 3) rfl 3 (.slice ap (j + 1) cp)
          go_roundw
          case rel => exact ⟨j + 1, _, _, by omega, by go_num, by rw [HMS.out]; exact hHq.sub (.cons_cons _ (.cons_cons _ (.cons_cons _ (.cons_cons _ (.cons_cons _ (.cons _ (.cons _ (.cons _ .slnil))))))))⟩
          case measure => simp [RowKit.intOf]; omega
      · skip
        have hje : j = m := by omega
        subst hje
        have HQF : Hid ((ts.map CT).map (tenOf dm) = QS) := Lib.hid (by rw [← HQS.out, List.take_of_length_le (by rw [HM.out]; exact Nat.le_refl _)])
        have q0_0 := (hH.blk (k := 0) rfl).cell (j := 0) rfl
        have q0_1 := (hH.blk (k := 0) rfl).cell (j := 1) rfl
        have q0_2 := (hH.blk (k := 0) rfl).cell (j := 2) rfl
        have q0_3 := (hH.blk (k := 0) rfl).cell (j := 3) rfl
        have q0_4 := (hH.blk (k := 0) rfl).cell (j := 4) rfl
        have l0_ := (hH.blk (k := 0) rfl).lt
        have q1_0 := (hH.blk (k := 1) rfl).cell (j := 0) rfl
        have f1_0 := (hH.blk (k := 1) rfl).free 0
        have q1_1 := (hH.blk (k := 1) rfl).cell (j := 1) rfl
        have f1_1 := (hH.blk (k := 1) rfl).free 1
        have q1_2 := (hH.blk (k := 1) rfl).cell (j := 2) rfl
        have f1_2 := (hH.blk (k := 1) rfl).free 2
        have q1_3 := (hH.blk (k := 1) rfl).cell (j := 3) rfl
        have f1_3 := (hH.blk (k := 1) rfl).free 3
        have q1_4 := (hH.blk (k := 1) rfl).cell (j := 4) rfl
        have f1_4 := (hH.blk (k := 1) rfl).free 4
        have l1_ := (hH.blk (k := 1) rfl).lt
        have q3_0 := (hH.blk (k := 3) rfl).cell (j := 0) rfl
        have q3_1 := (hH.blk (k := 3) rfl).cell (j := 1) rfl
        have q3_2 := (hH.blk (k := 3) rfl).cell (j := 2) rfl
        have q3_3 := (hH.blk (k := 3) rfl).cell (j := 3) rfl
        have q3_4 := (hH.blk (k := 3) rfl).cell (j := 4) rfl
        have l3_ := (hH.blk (k := 3) rfl).lt
        go_wp2_with fail
        refine bodyPost_ret (v := .tuple #[.agg #[.int .i64 k, .int .i64 p, .int .i64 n, .slice aS j cS, .slice xa5 OL.length ca5], .bool true]) (by simp [results, Try.results40, go_sem, *]) rfl ?_
        rw [HQF.out]
        exact ⟨_, _, cs, rfl, ((hH.setB5 (k := 1) rfl (.int .i64 k) (.int .i64 p) (.int .i64 n) (.slice aS j cS) (.slice xa5 OL.length ca5)).sub (.cons _ (.cons _ (.cons_cons _ (.cons _ (.cons_cons _ .slnil)))))).swap⟩
end Go.Proofs.Ytpegckmagiaggaa
