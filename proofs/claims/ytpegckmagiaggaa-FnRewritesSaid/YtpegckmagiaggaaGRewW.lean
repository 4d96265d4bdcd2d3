/- labelsElsewhere, SumPrivate of the program. -/
import Derived.Test.YtpegckmagiaggaaGG17
set_option linter.unusedSimpArgs false
set_option linter.unusedVariables false
namespace Go.Proofs.Ytpegckmagiaggaa
open Go.RowKit
theorem elsGo_no {k p n : Int} {ts : List (NT k p n)} {op : List Int} {i j q : Nat} (h : q = i ∨ q = j) : elsGo ts op i j (q + 1) = elsGo ts op i j q := by unfold elsGo; rw [dropGo_no h]
theorem elsGo_yes {k p n : Int} {ts : List (NT k p n)} {op : List Int} {i j q : Nat} (h : ¬ (q = i ∨ q = j)) {t : NT k p n} (ht : ts[q]? = some t) : elsGo ts op i j (q + 1) = joinL (elsGo ts op i j q) t.1 := by
  unfold elsGo; rw [dropGo_yes h ht, List.foldl_append]; rfl
set_option maxRecDepth 100000 in
set_option maxHeartbeats 8000000 in
theorem labelsElsewhere_any {k p n : Int} (hr : ringOk k p n = true) {dm : Int → Int} {U : List Int} {ts : List (NT k p n)} {op : List Int} (hN : IsN k p n dm U ts op) (tv ov : Value) (w : World) (hT : TensS w tv (ts.map (tenOf dm))) (hO : IntS w ov op) (pi pj : Nat) :
 Calls Try.prog 143 #[.agg #[.int .i64 k, .int .i64 p, .int .i64 n, tv, ov], .int .i64 (pi : Int), .int .i64 (pj : Int)] w fun e w' => ∃ u, e = .returned u ∧ OwnI w' w.heap.size u (elsL ts op pi pj) ∧ Ext w w' := by
 have hT0 := hT
 have hO0 := hO
 obtain ⟨m, hm⟩ : ∃ m, ts.length = m := ⟨_, rfl⟩
 obtain ⟨aV, cV, rfl, hcT1, hcT2⟩ := hT.val
 obtain ⟨aO, cO, rfl, hcO1, hcO2⟩ := hO.val
 rw [List.length_map, hm] at hT hT0 hcT1
 rw [List.length_map, hm]
 have hm12 : m ≤ 12 := by rw [← hm]; exact hN.len
 have hop12 : op.length ≤ 12 := hN.rank
 have HM := Lib.hid hm; have HR := Lib.hid hr; have HN := Lib.hid hN; have HD3 := Lib.hid hN.dims3; clear hm  hN
 have hTl : Hid ((ts.map (tenOf dm)).length = m) := Lib.hid (by rw [List.length_map]; exact HM.out)
 have hEF : ∃ EL : Nat → List Int, (fun q => elsGo ts op pi pj q) = EL := ⟨_, rfl⟩
 obtain ⟨EL, hEL⟩ := hEF
 have HE0 : Hid (EL 0 = op) := Lib.hid (by rw [← hEL]; rfl)
 have HEN : Hid (∀ q, q = pi ∨ q = pj → EL (q + 1) = EL q) := Lib.hid fun q h => by rw [← hEL]; exact elsGo_no h
 have HEY : Hid (∀ q t, ¬ (q = pi ∨ q = pj) → ts[q]? = some t → EL (q + 1) = joinL (EL q) t.1) := Lib.hid fun q t h ht => by rw [← hEL]; exact elsGo_yes h ht
 have HES : Hid (∀ q, (EL q).length ≤ 12) := Lib.hid fun q => by rw [← hEL]; exact (HN.out.uni.ax (els_sub HN.out pi pj q)).rank
 have HEE : Hid (elsL ts op pi pj = EL m) := Lib.hid (by rw [← hEL, ← HM.out]; rfl)
 rw [HEE.out]
 clear hEL
 go_enter Try.func143, Try.ntmps143
 go_upto_region 1 with fail
 have hH : Held w w [] := Held.new (Ext.refl w) 0
 have hB : Held w (w.alloc (.cells #[.int .i64 k, .int .i64 p, .int .i64 n, .slice aV m cV, .slice aO op.length cO] 29)) [aB (w.heap.size) 29 [.int .i64 k, .int .i64 p, .int .i64 n, .slice aV m cV, .slice aO op.length cO]] := by
  have h := (hH.mores 1).addB 0 #[.int .i64 k, .int .i64 p, .int .i64 n, .slice aV m cV, .slice aO op.length cO] 29
  exact h
 have hsz : (w.alloc (.cells #[.int .i64 k, .int .i64 p, .int .i64 n, .slice aV m cV, .slice aO op.length cO] 29)).heap.size = w.heap.size + 1 := by simp
 generalize w.alloc (.cells #[.int .i64 k, .int .i64 p, .int .i64 n, .slice aV m cV, .slice aO op.length cO] 29) = wn1 at hB hsz ⊢
 replace hH := hB; have HSZwn1 := Lib.hid hsz; clear hB hsz
 obtain ⟨q0_0, q0_1, q0_2, q0_3, q0_4, l0_⟩ := hH.c5 0 rfl
 go_wp2_with fail
 clear q0_0 q0_1 q0_2 q0_3 q0_4 l0_
 refine (copyInts_any _ op _ (hO.ext hH.ext) (by omega)).mono ?_; rintro ewn2 wn2 ⟨v4, rfl, o4, hwn2⟩
 obtain ⟨x4, c4, rfl⟩ := o4.shapeN rfl
 replace hH : Held w wn2 [aB (w.heap.size) 29 [.int .i64 k, .int .i64 p, .int .i64 n, .slice aV m cV, .slice aO op.length cO], aI (.slice x4 op.length c4) op] := (hH.mores 1).addI 1 hwn2 o4 (Nat.le_refl _)
 clear hwn2
 obtain ⟨q0_0, q0_1, q0_2, q0_3, q0_4, l0_⟩ := hH.c5 0 rfl
 go_wp2_with fail
 clear q0_0 q0_1 q0_2 q0_3 q0_4 l0_
 go_loopw [7, 16] (fun vl i wr => ∃ (q : Nat), q ≤ m ∧ i = .int .i64 (q : Int) ∧ Held w wr [aB (w.heap.size) 29 [.int .i64 k, .int .i64 p, .int .i64 n, .slice aV m cV, .slice aO op.length cO], aI vl (EL q)]) (fun vl i wr => m - (RowKit.intOf i).toNat)
 case atStart => exact ⟨0, Nat.zero_le _, rfl, by rw [HE0.out]; exact hH⟩
 case round =>
  clear hH
  obtain ⟨q, hq, rfl, hH⟩ := hrel
  obtain ⟨wq, rfl⟩ : ∃ q, q = wr := ⟨wr, rfl⟩
  have hel12 := HES.out q
  obtain ⟨EQ, hEQ⟩ : ∃ z, EL q = z := ⟨_, rfl⟩
  rw [hEQ] at hH hel12
  have HEQ := Lib.hid hEQ; clear hEQ
  obtain ⟨al, cl, rfl⟩ := (hH.own (k := 1) rfl).shapeN rfl
  by_cases hlt : q < m
  ·
   obtain ⟨bT, oT, u1, u2, u3, t3, hV, hu0, hu1, hu2, ht3, hTu⟩ := hT.get (i := q) (by rw [hTl.out]; exact hlt)
   subst hV
   obtain ⟨t, htj, rfl⟩ : ∃ t, ts[q]? = some t ∧ tenOf dm t = t3 := by rw [List.getElem?_map] at ht3; exact Option.map_eq_some_iff.1 ht3
   have HTJ := Lib.hid htj; have HTI := Lib.hid (HN.out.ten t (List.mem_of_getElem? htj)); clear ht3 htj
   obtain ⟨tl, xs⟩ := t
   obtain ⟨e1, m1, f1, e2, m2, f2, e3, m3, f3, hvv⟩ := hTu.shape
   simp at hvv
   obtain ⟨rfl, rfl, rfl⟩ := hvv
   rw [Nat.mul_comm 3 q] at hu0 hu1 hu2
   obtain ⟨_, _, _, hvv, hTL, hTD, hTX⟩ := hTu.val
   simp at hvv
   obtain ⟨rfl, rfl, rfl⟩ := hvv
   simp only [tenOf] at hTu hTL hTD hTX HTI
   obtain ⟨_, _, hvv, _, _⟩ := hTL.val
   simp at hvv
   obtain ⟨rfl, rfl, rfl⟩ := hvv
   obtain ⟨_, _, hvv, _, _⟩ := hTD.val
   simp at hvv
   obtain ⟨rfl, rfl, rfl⟩ := hvv
   have htl12 : tl.length ≤ 12 := HTI.out.ax.rank
   obtain ⟨q0_0, q0_1, q0_2, q0_3, q0_4, l0_⟩ := hH.c5 0 rfl; have c_hu0 := hH.ext.cell hu0; have c_hu1 := hH.ext.cell hu1; have c_hu2 := hH.ext.cell hu2
   go_upto_region 5 with fail
   clear q0_0 q0_1 q0_2 q0_3 q0_4 l0_ c_hu0 c_hu1 c_hu2
   have hB : Held w (wq.alloc (.cells #[.slice e1 tl.length f1, .slice e2 tl.length f2, .slice e3 m3 f3] 32)) [aB (w.heap.size) 29 [.int .i64 k, .int .i64 p, .int .i64 n, .slice (some ⟨bT, oT, none⟩) m cV, .slice aO op.length cO], aI (.slice al EQ.length cl) EQ, aB (wq.heap.size) 32 [.slice e1 tl.length f1, .slice e2 tl.length f2, .slice e3 m3 f3]] := by
    have h := (hH.mores 1).addB 2 #[.slice e1 tl.length f1, .slice e2 tl.length f2, .slice e3 m3 f3] 32
    exact h
   have hsz : (wq.alloc (.cells #[.slice e1 tl.length f1, .slice e2 tl.length f2, .slice e3 m3 f3] 32)).heap.size = wq.heap.size + 1 := by simp
   generalize wq.alloc (.cells #[.slice e1 tl.length f1, .slice e2 tl.length f2, .slice e3 m3 f3] 32) = wn3 at hB hsz ⊢
   replace hH := hB; have HSZwn3 := Lib.hid hsz; clear hB hsz
   by_cases hqi : (q : Int) = (pi : Int)
   ·
    have HS := Lib.hid (HEN.out q (.inl (by omega))); rw [HEQ.out] at HS
    obtain ⟨q0_0, q0_1, q0_2, q0_3, q0_4, l0_⟩ := hH.c5 0 rfl; obtain ⟨q2_0, q2_1, q2_2, l2_⟩ := hH.c3 2 rfl; have c_hu0 := hH.ext.cell hu0; have c_hu1 := hH.ext.cell hu1; have c_hu2 := hH.ext.cell hu2
    go_wp2_with fail
    clear q0_0 q0_1 q0_2 q0_3 q0_4 l0_ q2_0 q2_1 q2_2 l2_ c_hu0 c_hu1 c_hu2
    go_roundw
    case rel => exact ⟨q + 1, by omega, by go_num, by rw [HS.out]; exact hH.sub (.cons_cons _ (.cons_cons _ (.cons _ .slnil)))⟩
    case measure => simp [RowKit.intOf]; omega
   ·
    have hbi : ((q : Int) != (pi : Int)) = true := by simpa using hqi
    by_cases hqj : (q : Int) = (pj : Int)
    ·
     have HS := Lib.hid (HEN.out q (.inr (by omega))); rw [HEQ.out] at HS
     obtain ⟨q0_0, q0_1, q0_2, q0_3, q0_4, l0_⟩ := hH.c5 0 rfl; obtain ⟨q2_0, q2_1, q2_2, l2_⟩ := hH.c3 2 rfl; have c_hu0 := hH.ext.cell hu0; have c_hu1 := hH.ext.cell hu1; have c_hu2 := hH.ext.cell hu2
     go_wp2_with fail
     clear q0_0 q0_1 q0_2 q0_3 q0_4 l0_ q2_0 q2_1 q2_2 l2_ c_hu0 c_hu1 c_hu2
     go_roundw
     case rel => exact ⟨q + 1, by omega, by go_num, by rw [HS.out]; exact hH.sub (.cons_cons _ (.cons_cons _ (.cons _ .slnil)))⟩
     case measure => simp [RowKit.intOf]; omega
    ·
     have hbj : ((q : Int) != (pj : Int)) = true := by simpa using hqj
     have HS := Lib.hid (HEY.out q _ (by omega) HTJ.out); rw [HEQ.out] at HS
     obtain ⟨q0_0, q0_1, q0_2, q0_3, q0_4, l0_⟩ := hH.c5 0 rfl; obtain ⟨q2_0, q2_1, q2_2, l2_⟩ := hH.c3 2 rfl; have c_hu0 := hH.ext.cell hu0; have c_hu1 := hH.ext.cell hu1; have c_hu2 := hH.ext.cell hu2
     go_wp2_with fail
     clear q0_0 q0_1 q0_2 q0_3 q0_4 l0_ q2_0 q2_1 q2_2 l2_ c_hu0 c_hu1 c_hu2
     clear hbi hbj hqi hqj
     refine (joinLabels_any _ _ EQ tl _ (hH.ints (k := 1) rfl) (hTL.ext hH.ext) (by omega) (by omega)).mono ?_; rintro e6 w6 ⟨v6, rfl, o6, h6⟩
     have hX := (hH.drop 1).addI 1 h6 o6 (Nat.le_refl _)
     clear hH h6 o6
     go_wp2_with fail
     go_roundw
     case rel => exact ⟨q + 1, by omega, by go_num, by rw [HS.out]; exact hX.sub (.cons_cons _ (.cons_cons _ (.cons _ .slnil)))⟩
     case measure => simp [RowKit.intOf]; omega
  ·
   have hqe : q = m := by omega
   have HF : Hid (EL m = EQ) := Lib.hid (by rw [← hqe, HEQ.out])
   have HO := Lib.hid (hH.own (k := 1) rfl); have HE := Lib.hid hH.ext; clear hH hqe
   go_wp2
   go_ret
   exact ⟨_, rfl, by rw [HF.out]; exact HO.out, HE.out⟩
set_option maxRecDepth 100000 in
set_option maxHeartbeats 8000000 in
theorem sumPrivate_any {k p n : Int} (hr : ringOk k p n = true) {dm : Int → Int} {U : List Int} {ts : List (NT k p n)} {op : List Int} (hN : IsN k p n dm U ts op) (tv ov : Value) (w : World) (hT : TensS w tv (ts.map (tenOf dm))) (hO : IntS w ov op) :
 Calls Try.prog 60 #[.agg #[.int .i64 k, .int .i64 p, .int .i64 n, tv, ov]] w fun e w' => ∃ tv' ov' cs, e = .returned (.agg #[.int .i64 k, .int .i64 p, .int .i64 n, tv', ov']) ∧
  Held w w' [aTs tv' cs ((sumP hr dm ts op).map (tenOf dm)), aI ov' op] := by
 have hT0 := hT
 have hO0 := hO
 obtain ⟨m, hm⟩ : ∃ m, ts.length = m := ⟨_, rfl⟩
 obtain ⟨aV, cV, rfl, hcT1, hcT2⟩ := hT.val
 obtain ⟨aO, cO, rfl, hcO1, hcO2⟩ := hO.val
 rw [List.length_map, hm] at hT hT0 hcT1
 rw [List.length_map, hm]
 have hm12 : m ≤ 12 := by rw [← hm]; exact hN.len
 have hop12 : op.length ≤ 12 := hN.rank
 have HM := Lib.hid hm; have HR := Lib.hid hr; have HN := Lib.hid hN; have HD3 := Lib.hid hN.dims3; clear hm  hN
 have hTl : Hid ((ts.map (tenOf dm)).length = m) := Lib.hid (by rw [List.length_map]; exact HM.out)
 have hSF : ∃ SG : Nat → List (NT k p n), (fun q => sumG hr dm ts op q) = SG := ⟨_, rfl⟩
 obtain ⟨SG, hSG⟩ := hSF
 have HG0 : Hid (SG 0 = []) := Lib.hid (by rw [← hSG]; rfl)
 have HGS : Hid (∀ q t, ts[q]? = some t → SG (q + 1) = SG q ++ [sumT hr dm ts op q t]) := Lib.hid fun q t h => by rw [← hSG]; exact sumG_succ hr h
 have HGL : Hid (∀ q, q ≤ m → (SG q).length = q) := Lib.hid fun q h => by rw [← hSG]; exact sumG_len hr q (by rw [HM.out]; exact h)
 have HGE : Hid (sumP hr dm ts op = SG m) := Lib.hid (by rw [← hSG, ← HM.out]; rfl)
 rw [HGE.out]
 clear hSG
 go_enter Try.func60, Try.ntmps60
 go_upto_region 1 with fail
 have hH : Held w w [] := Held.new (Ext.refl w) 0
 have hB : Held w (w.alloc (.cells #[.int .i64 k, .int .i64 p, .int .i64 n, .slice aV m cV, .slice aO op.length cO] 29)) [aB (w.heap.size) 29 [.int .i64 k, .int .i64 p, .int .i64 n, .slice aV m cV, .slice aO op.length cO]] := by
  have h := (hH.mores 1).addB 0 #[.int .i64 k, .int .i64 p, .int .i64 n, .slice aV m cV, .slice aO op.length cO] 29
  exact h
 have hsz : (w.alloc (.cells #[.int .i64 k, .int .i64 p, .int .i64 n, .slice aV m cV, .slice aO op.length cO] 29)).heap.size = w.heap.size + 1 := by simp
 generalize w.alloc (.cells #[.int .i64 k, .int .i64 p, .int .i64 n, .slice aV m cV, .slice aO op.length cO] 29) = wn1 at hB hsz ⊢
 replace hH := hB; have HSZwn1 := Lib.hid hsz; clear hB hsz
 have hB : Held w (wn1.alloc (.cells #[.int .i64 0, .int .i64 0, .int .i64 0, .slice none 0 0, .slice none 0 0] 29)) [aB (w.heap.size) 29 [.int .i64 k, .int .i64 p, .int .i64 n, .slice aV m cV, .slice aO op.length cO], aB (w.heap.size + 1) 29 [.int .i64 0, .int .i64 0, .int .i64 0, .slice none 0 0, .slice none 0 0]] := by
  have h := (hH.mores 1).addB 1 #[.int .i64 0, .int .i64 0, .int .i64 0, .slice none 0 0, .slice none 0 0] 29
  rw [HSZwn1.out] at h
  exact h
 have hsz : (wn1.alloc (.cells #[.int .i64 0, .int .i64 0, .int .i64 0, .slice none 0 0, .slice none 0 0] 29)).heap.size = w.heap.size + 1 + 1 := by rw [← HSZwn1.out]; simp
 generalize wn1.alloc (.cells #[.int .i64 0, .int .i64 0, .int .i64 0, .slice none 0 0, .slice none 0 0] 29) = wn2 at hB hsz ⊢
 replace hH := hB; have HSZwn2 := Lib.hid hsz; clear hB hsz
 obtain ⟨q0_0, q0_1, q0_2, q0_3, q0_4, l0_⟩ := hH.c5 0 rfl; obtain ⟨q1_0, q1_1, q1_2, q1_3, q1_4, l1_⟩ := hH.c5 1 rfl
 go_wp2_with fail
 clear q0_0 q0_1 q0_2 q0_3 q0_4 l0_ q1_0 q1_1 q1_2 q1_3 q1_4 l1_
 refine (networkOk_any HR.out HN.out _ _ _ (hT0.ext hH.ext) (hO0.ext hH.ext)).mono ?_; rintro ewn3 wn3 ⟨rfl, hwn3⟩
 replace hH : Held w wn3 [aB (w.heap.size) 29 [.int .i64 k, .int .i64 p, .int .i64 n, .slice aV m cV, .slice aO op.length cO], aB (w.heap.size + 1) 29 [.int .i64 0, .int .i64 0, .int .i64 0, .slice none 0 0, .slice none 0 0]] := hH.grow hwn3
 clear hwn3
 obtain ⟨q0_0, q0_1, q0_2, q0_3, q0_4, l0_⟩ := hH.c5 0 rfl; obtain ⟨q1_0, q1_1, q1_2, q1_3, q1_4, l1_⟩ := hH.c5 1 rfl
 go_upto_region 3 with fail
 clear q0_0 q0_1 q0_2 q0_3 q0_4 l0_ q1_0 q1_1 q1_2 q1_3 q1_4 l1_
 replace hH := hH.mores 2
 replace hH : Held w wn3 [aB (w.heap.size) 29 [.int .i64 k, .int .i64 p, .int .i64 n, .slice aV m cV, .slice aO op.length cO], aB (w.heap.size + 1) 29 [.int .i64 0, .int .i64 0, .int .i64 0, .slice none 0 0, .slice none 0 0], emp, emp] := hH
 refine wp_region_steps ?Fa (fun b t wx => Held w wx [aB (w.heap.size) 29 [.int .i64 k, .int .i64 p, .int .i64 n, .slice aV m cV, .slice aO op.length cO], aB (w.heap.size + 1) 29 [.int .i64 0, .int .i64 0, .int .i64 0, .slice none 0 0, .slice none 0 0], (bif b 4 then aI (t 4) op else emp), (bif b 7 then aB (blkOf (t 6)) 29 (partsN (t 5)) else (bif b 6 then aB (blkOf (t 6)) 29 [.int .i64 0, .int .i64 0, .int .i64 0, .slice none 0 0, .slice none 0 0] else emp))] ∧ (b 0 = true → t 0 = .pointer (some ⟨w.heap.size, 0, none⟩)) ∧ (b 1 = true → t 1 = .agg #[.int .i64 k, .int .i64 p, .int .i64 n]) ∧ (b 2 = true → t 2 = .pointer (some ⟨w.heap.size, 4, none⟩)) ∧ (b 3 = true → t 3 = .slice aO op.length cO) ∧ (b 4 = true → ∃ x c, t 4 = .slice x op.length c) ∧ (b 5 = true → t 5 = .agg #[.int .i64 k, .int .i64 p, .int .i64 n, .slice none 0 0, t 4]) ∧ (b 6 = true → ∃ q, t 6 = .pointer (some ⟨q, 0, none⟩))) ?hFa (by kernel_rfl) (by kernel_rfl) ?hJa ?hSa ?hEa
 (case hFa => intro t; simp only [putAll, Act.put, List.setIfInBounds_toArray, List.set_cons_zero, List.set_cons_succ, Nat.reduceAdd, Nat.zero_add]; exact rfl)
 case hJa => exact ⟨hH.grow ((Ext.refl _).drew), nof, nof, nof, nof, nof, nof, nof⟩
 case hSa => as_aux_lemma =>
   refine AllSteps.cons (j := 1) rfl (fun b t wx hJ hb hd hcl Kc hK => ?_) ?_
   · obtain ⟨hH, v0, v1, v2, v3, v4, v5, v6⟩ := hJ
     go_simp
     refine hK.out _ ?_ _ ?_ ?_; rotate_left 2
     · rfl
     exact ⟨hH, fun _ => rfl, v1, v2, v3, v4, v5, v6⟩
   refine AllSteps.cons (j := 2) rfl (fun b t wx hJ hb hd hcl Kc hK => ?_) ?_
   · obtain ⟨hH, v0, v1, v2, v3, v4, v5, v6⟩ := hJ
     have d0 := hd.out 0 (by kernel_rfl); have r0 := v0 d0; have q0_0 := hH.cl 0 0 rfl rfl; have q0_1 := hH.cl 0 1 rfl rfl; have q0_2 := hH.cl 0 2 rfl rfl
     go_simp
     refine hK.out _ ?_ _ ?_ ?_; rotate_left 2
     · (try simp only [r0]); rfl
     exact ⟨hH, v0, fun _ => rfl, v2, v3, v4, v5, v6⟩
   refine AllSteps.cons (j := 3) rfl (fun b t wx hJ hb hd hcl Kc hK => ?_) ?_
   · obtain ⟨hH, v0, v1, v2, v3, v4, v5, v6⟩ := hJ
     go_simp
     refine hK.out _ ?_ _ ?_ ?_; rotate_left 2
     · rfl
     exact ⟨hH, v0, v1, fun _ => rfl, v3, v4, v5, v6⟩
   refine AllSteps.cons (j := 4) rfl (fun b t wx hJ hb hd hcl Kc hK => ?_) ?_
   · obtain ⟨hH, v0, v1, v2, v3, v4, v5, v6⟩ := hJ
     have d2 := hd.out 2 (by kernel_rfl); have r2 := v2 d2; have q0_4 := hH.cl 0 4 rfl rfl
     go_simp
     refine hK.out _ ?_ _ ?_ ?_; rotate_left 2
     · (try simp only [r2]); rfl
     exact ⟨hH, v0, v1, v2, fun _ => rfl, v4, v5, v6⟩
   refine AllSteps.cons (j := 5) rfl (fun b t wx hJ hb hd hcl Kc hK => ?_) ?_
   · obtain ⟨hH, v0, v1, v2, v3, v4, v5, v6⟩ := hJ
     have d3 := hd.out 3 (by kernel_rfl)
     have n5 : b 5 = false := Bool.eq_false_iff.2 fun h => absurd (hcl.out 5 4 (by kernel_rfl) (h)) (by rw [hb]; exact Bool.false_ne_true)
     have r3 := v3 d3
     have hN := hH; (try simp only [hb, d3, n5, cond_true, cond_false] at hN)
     go_simp
     go_at_call 100
     refine (copyInts_any _ op _ (hO.ext hH.ext) (by omega)).mono ?_; rintro e4 w4 ⟨v4, rfl, o4, h4⟩
     obtain ⟨x4, c4, rfl, _, _⟩ := o4.ints.val
     (try go_simp)
     refine hK.out _ ?_ _ ?_ ?_; rotate_left 2
     · (try simp only [r3]); rfl
     exact ⟨by have hX := hN.addI 2 h4 o4 (Nat.le_refl _); simpa only [List.set_cons_zero, List.set_cons_succ, updB, updV, blkOf_mk, tup0_mk, partsOf3, partsN_mk, Nat.reduceBEq, cond_true, cond_false, hb, d3, n5, r3] using hX, v0, v1, v2, v3, fun _ => ⟨_, _, rfl⟩, fun h => absurd (show b 5 = true from h) (by rw [n5]; exact Bool.false_ne_true), v6⟩
   refine AllSteps.cons (j := 6) rfl (fun b t wx hJ hb hd hcl Kc hK => ?_) ?_
   · obtain ⟨hH, v0, v1, v2, v3, v4, v5, v6⟩ := hJ
     have d1 := hd.out 1 (by kernel_rfl); have d4 := hd.out 4 (by kernel_rfl)
     have n7 : b 7 = false := Bool.eq_false_iff.2 fun h => absurd (hcl.out 7 5 (by kernel_rfl) (h)) (by rw [hb]; exact Bool.false_ne_true)
     have r1 := v1 d1; have r4 := v4 d4
     obtain ⟨x_4, c_4, r4⟩ := r4
     have hN := hH; (try simp only [hb, d1, d4, n7, cond_true, cond_false] at hN)
     have e4 := r4 -- d4
     go_simp
     refine hK.out _ ?_ _ ?_ ?_; rotate_left 2
     · (try simp only [r1, r4]); rfl
     exact ⟨by have hX := hN; simpa only [List.set_cons_zero, List.set_cons_succ, updB, updV, blkOf_mk, tup0_mk, partsOf3, partsN_mk, Nat.reduceBEq, cond_true, cond_false, hb, d1, d4, n7, r1, r4] using hX, v0, v1, v2, v3, v4, fun _ => (by show Value.agg _ = Value.agg #[_, _, _, _, t 4]; rw [r4]), v6⟩
   refine AllSteps.cons (j := 7) rfl (fun b t wx hJ hb hd hcl Kc hK => ?_) ?_
   · obtain ⟨hH, v0, v1, v2, v3, v4, v5, v6⟩ := hJ
     have n7 : b 7 = false := Bool.eq_false_iff.2 fun h => absurd (hcl.out 7 6 (by kernel_rfl) (h)) (by rw [hb]; exact Bool.false_ne_true)
     have hN := hH; (try simp only [hb, n7, cond_true, cond_false] at hN)
     go_simp
     refine hK.out _ ?_ _ ?_ ?_; rotate_left 2
     · rfl
     exact ⟨by have hX := hN.addB 3 #[.int .i64 0, .int .i64 0, .int .i64 0, .slice none 0 0, .slice none 0 0] 29; simpa only [List.set_cons_zero, List.set_cons_succ, updB, updV, blkOf_mk, tup0_mk, partsOf3, partsN_mk, Nat.reduceBEq, cond_true, cond_false, hb, n7] using hX, v0, v1, v2, v3, v4, v5, fun _ => ⟨_, rfl⟩⟩
   refine AllSteps.cons (j := 8) rfl (fun b t wx hJ hb hd hcl Kc hK => ?_) ?_
   · obtain ⟨hH, v0, v1, v2, v3, v4, v5, v6⟩ := hJ
     have d0 := hd.out 0 (by kernel_rfl); have d1 := hd.out 1 (by kernel_rfl); have d2 := hd.out 2 (by kernel_rfl); have d3 := hd.out 3 (by kernel_rfl); have d4 := hd.out 4 (by kernel_rfl); have d5 := hd.out 5 (by kernel_rfl); have d6 := hd.out 6 (by kernel_rfl); have r0 := v0 d0; have r1 := v1 d1; have r2 := v2 d2; have r3 := v3 d3; have r4 := v4 d4; have r5 := v5 d5; have r6 := v6 d6
     obtain ⟨x_4, c_4, r4⟩ := r4
     obtain ⟨q_6, r6⟩ := r6
     have hN := hH; (try simp only [hb, d0, d1, d2, d3, d4, d5, d6, cond_true, cond_false] at hN)
     rw [r4] at r5 -- d4 d5
     simp only [r6, r5, blkOf_mk, tup0_mk, partsN_mk] at hN
     have B := hN.blk (k := 3) rfl
     have f0 := B.free 0; have z0 := B.cell (j := 0) rfl
     have f1 := B.free 1; have z1 := B.cell (j := 1) rfl
     have f2 := B.free 2; have z2 := B.cell (j := 2) rfl
     have f3 := B.free 3; have z3 := B.cell (j := 3) rfl
     have f4 := B.free 4; have z4 := B.cell (j := 4) rfl
     have lB := B.lt; have hmk0 := @tup0_mk
     go_simp
     refine hK.out _ undef _ ?_ ?_; rotate_left 1
     · (try simp only [r0, r1, r2, r3, r4, r5, r6]); rfl
     exact ⟨by have hX := hN.setB5 (k := 3) rfl (.int .i64 k) (.int .i64 p) (.int .i64 n) (.slice none 0 0) (.slice x_4 op.length c_4); simpa only [List.set_cons_zero, List.set_cons_succ, updB, updV, blkOf_mk, tup0_mk, partsOf3, partsN_mk, Nat.reduceBEq, cond_true, cond_false, hb, d0, d1, d2, d3, d4, d5, d6, r0, r1, r2, r3, r4, r5, r6] using hX, v0, v1, v2, v3, v4, v5, v6⟩
   exact AllSteps.nil
 case hEa =>
  intro b t wa hJ hall
  obtain ⟨hHa, v0, v1, v2, v3, v4, v5, v6⟩ := hJ
  have a0 := hall 0 (by decide); have a1 := hall 1 (by decide); have a2 := hall 2 (by decide); have a3 := hall 3 (by decide); have a4 := hall 4 (by decide); have a5 := hall 5 (by decide); have a6 := hall 6 (by decide); have a7 := hall 7 (by decide)
  (try simp only [a0, a1, a2, a3, a4, a5, a6, a7, cond_true] at hHa)
  replace v0 := v0 a0; replace v1 := v1 a1; replace v2 := v2 a2; replace v3 := v3 a3; replace v4 := v4 a4; replace v5 := v5 a5; replace v6 := v6 a6
  clear hall a0 a1 a2 a3 a4 a5 a6 a7
  generalize t 6 = x6 at hHa v6 ⊢; generalize t 5 = x5 at hHa v5 ⊢; generalize t 4 = x4 at hHa v4 v5 ⊢; generalize t 3 = x3 at hHa v3 ⊢; generalize t 2 = x2 at hHa v2 ⊢; generalize t 1 = x1 at hHa v1 ⊢; generalize t 0 = x0 at hHa v0 ⊢; subst v0; subst v1; subst v2; subst v3
  obtain ⟨xa4, ca4, rfl⟩ := v4
  subst v5
  obtain ⟨qa6, rfl⟩ := v6
  simp only [blkOf_mk, tup0_mk, partsOf3, partsN_mk] at hHa
  clear b
  replace hH := hHa; clear hHa
  replace hH : Held w wa [aB (w.heap.size) 29 [.int .i64 k, .int .i64 p, .int .i64 n, .slice aV m cV, .slice aO op.length cO], aB (w.heap.size + 1) 29 [.int .i64 0, .int .i64 0, .int .i64 0, .slice none 0 0, .slice none 0 0], aI (.slice xa4 op.length ca4) op, aB qa6 29 [.int .i64 k, .int .i64 p, .int .i64 n, .slice none 0 0, .slice xa4 op.length ca4]] := hH
  replace hH := hH.nilTs
  replace hH : Held w wa [aB (w.heap.size) 29 [.int .i64 k, .int .i64 p, .int .i64 n, .slice aV m cV, .slice aO op.length cO], aB (w.heap.size + 1) 29 [.int .i64 0, .int .i64 0, .int .i64 0, .slice none 0 0, .slice none 0 0], aI (.slice xa4 op.length ca4) op, aB qa6 29 [.int .i64 k, .int .i64 p, .int .i64 n, .slice none 0 0, .slice xa4 op.length ca4], aTs (.slice none 0 0) [] []] := hH
  obtain ⟨q0_0, q0_1, q0_2, q0_3, q0_4, l0_⟩ := hH.c5 0 rfl; obtain ⟨q1_0, q1_1, q1_2, q1_3, q1_4, l1_⟩ := hH.c5 1 rfl; obtain ⟨q3_0, q3_1, q3_2, q3_3, q3_4, l3_⟩ := hH.c5 3 rfl
  go_wp2_with fail
  clear q0_0 q0_1 q0_2 q0_3 q0_4 l0_ q1_0 q1_1 q1_2 q1_3 q1_4 l1_ q3_0 q3_1 q3_2 q3_3 q3_4 l3_
  obtain ⟨wa, rfl⟩ : ∃ q, q = wa := ⟨wa, rfl⟩
  go_loopw [19] (fun i wr => ∃ (j : Nat) (tv : Value) (cs : List (Value × Value × Value)), j ≤ m ∧ i = .int .i64 (j : Int) ∧ Held w wr [aB (w.heap.size) 29 [.int .i64 k, .int .i64 p, .int .i64 n, .slice aV m cV, .slice aO op.length cO], aB (w.heap.size + 1) 29 [.int .i64 0, .int .i64 0, .int .i64 0, .slice none 0 0, .slice none 0 0], aI (.slice xa4 op.length ca4) op, aB qa6 29 [.int .i64 k, .int .i64 p, .int .i64 n, tv, .slice xa4 op.length ca4], aTs (tv) cs ((SG j).map (tenOf dm))]) (fun i wr => m - (RowKit.intOf i).toNat)
  case atStart => exact ⟨0, _, _, Nat.zero_le _, rfl, by rw [HG0.out]; exact hH⟩
  case round =>
   clear hH
   obtain ⟨j, tv, cs, hj, rfl, hH⟩ := hrel
   obtain ⟨QS, hQS⟩ : ∃ q, (SG j).map (tenOf dm) = q := ⟨_, rfl⟩
   rw [hQS] at hH
   have hql : QS.length = j := by rw [← hQS, List.length_map]; exact HGL.out j hj
   have HQL := Lib.hid hql; have HQS := Lib.hid hQS; clear hql hQS
   obtain ⟨aS, cS, rfl, _, _⟩ := (hH.tensS (k := 4) rfl).val
   rw [HQL.out] at hH
   obtain ⟨wq, rfl⟩ : ∃ q, q = wr := ⟨wr, rfl⟩
   by_cases hlt : j < m
   ·
    obtain ⟨bT, oT, u1, u2, u3, t3, hV, hu0, hu1, hu2, ht3, hTu⟩ := hT.get (i := j) (by rw [hTl.out]; exact hlt)
    subst hV
    obtain ⟨t, htj, rfl⟩ : ∃ t, ts[j]? = some t ∧ tenOf dm t = t3 := by rw [List.getElem?_map] at ht3; exact Option.map_eq_some_iff.1 ht3
    have HTJ := Lib.hid htj; have HTI := Lib.hid (HN.out.ten t (List.mem_of_getElem? htj)); clear ht3 htj
    obtain ⟨tl, xs⟩ := t
    obtain ⟨e1, m1, f1, e2, m2, f2, e3, m3, f3, hvv⟩ := hTu.shape
    simp at hvv
    obtain ⟨rfl, rfl, rfl⟩ := hvv
    rw [Nat.mul_comm 3 j] at hu0 hu1 hu2
    obtain ⟨_, _, _, hvv, hTL, hTD, hTX⟩ := hTu.val
    simp at hvv
    obtain ⟨rfl, rfl, rfl⟩ := hvv
    simp only [tenOf] at hTu hTL hTD hTX HTI
    obtain ⟨_, _, hvv, _, _⟩ := hTL.val
    simp at hvv
    obtain ⟨rfl, rfl, rfl⟩ := hvv
    obtain ⟨_, _, hvv, _, _⟩ := hTD.val
    simp at hvv
    obtain ⟨rfl, rfl, rfl⟩ := hvv
    have HMS := Lib.hid (show (SG (j + 1)).map (tenOf dm) = QS ++ [((keepL tl (elsL ts op j j)), (keepL tl (elsL ts op j j)).map dm, flat (sumXs HR.out dm tl (elsL ts op j j) xs))] by rw [HGS.out j _ HTJ.out, List.map_append, HQS.out]; rfl)
    obtain ⟨q0_0, q0_1, q0_2, q0_3, q0_4, l0_⟩ := hH.c5 0 rfl; obtain ⟨q1_0, q1_1, q1_2, q1_3, q1_4, l1_⟩ := hH.c5 1 rfl; obtain ⟨q3_0, q3_1, q3_2, q3_3, q3_4, l3_⟩ := hH.c5 3 rfl; have c_hu0 := hH.ext.cell hu0; have c_hu1 := hH.ext.cell hu1; have c_hu2 := hH.ext.cell hu2
    go_upto_region 7 with fail
    clear q0_0 q0_1 q0_2 q0_3 q0_4 l0_ q1_0 q1_1 q1_2 q1_3 q1_4 l1_ q3_0 q3_1 q3_2 q3_3 q3_4 l3_ c_hu0 c_hu1 c_hu2
    have hB : Held w (wq.alloc (.cells #[.slice e1 tl.length f1, .slice e2 tl.length f2, .slice e3 m3 f3] 32)) [aB (w.heap.size) 29 [.int .i64 k, .int .i64 p, .int .i64 n, .slice (some ⟨bT, oT, none⟩) m cV, .slice aO op.length cO], aB (w.heap.size + 1) 29 [.int .i64 0, .int .i64 0, .int .i64 0, .slice none 0 0, .slice none 0 0], aI (.slice xa4 op.length ca4) op, aB qa6 29 [.int .i64 k, .int .i64 p, .int .i64 n, .slice aS j cS, .slice xa4 op.length ca4], aTs (.slice aS j cS) cs QS, aB (wq.heap.size) 32 [.slice e1 tl.length f1, .slice e2 tl.length f2, .slice e3 m3 f3]] := by
     have h := (hH.mores 1).addB 5 #[.slice e1 tl.length f1, .slice e2 tl.length f2, .slice e3 m3 f3] 32
     exact h
    have hsz : (wq.alloc (.cells #[.slice e1 tl.length f1, .slice e2 tl.length f2, .slice e3 m3 f3] 32)).heap.size = wq.heap.size + 1 := by simp
    generalize wq.alloc (.cells #[.slice e1 tl.length f1, .slice e2 tl.length f2, .slice e3 m3 f3] 32) = wn4 at hB hsz ⊢
    replace hH := hB; have HSZwn4 := Lib.hid hsz; clear hB hsz
    obtain ⟨wz, rfl⟩ : ∃ q, q = wn4 := ⟨wn4, rfl⟩
    replace hH := hH.mores 3
    replace hH : Held w wz [aB (w.heap.size) 29 [.int .i64 k, .int .i64 p, .int .i64 n, .slice (some ⟨bT, oT, none⟩) m cV, .slice aO op.length cO], aB (w.heap.size + 1) 29 [.int .i64 0, .int .i64 0, .int .i64 0, .slice none 0 0, .slice none 0 0], aI (.slice xa4 op.length ca4) op, aB qa6 29 [.int .i64 k, .int .i64 p, .int .i64 n, .slice aS j cS, .slice xa4 op.length ca4], aTs (.slice aS j cS) cs QS, aB (wq.heap.size) 32 [.slice e1 tl.length f1, .slice e2 tl.length f2, .slice e3 m3 f3], emp, emp, emp] := hH
    refine wp_region_steps ?Fb (fun b t wx => Held w wx [aB (w.heap.size) 29 [.int .i64 k, .int .i64 p, .int .i64 n, .slice (some ⟨bT, oT, none⟩) m cV, .slice aO op.length cO], aB (w.heap.size + 1) 29 [.int .i64 0, .int .i64 0, .int .i64 0, .slice none 0 0, .slice none 0 0], aI (.slice xa4 op.length ca4) op, (bif b 13 then aB qa6 29 [.int .i64 k, .int .i64 p, .int .i64 n, t 11, .slice xa4 op.length ca4] else aB qa6 29 [.int .i64 k, .int .i64 p, .int .i64 n, .slice aS j cS, .slice xa4 op.length ca4]), (bif b 11 then aTs (t 11) (cs ++ [cel3 (t 9)]) (QS ++ [((keepL tl (elsL ts op j j)), ((keepL tl (elsL ts op j j)).map dm), (flat (sumXs HR.out dm tl (elsL ts op j j) xs)))]) else aTs (.slice aS j cS) cs QS), aB (wq.heap.size) 32 [.slice e1 tl.length f1, .slice e2 tl.length f2, .slice e3 m3 f3], (bif b 8 then aI (t 8) (elsL ts op j j) else emp), (bif b 11 then emp else (bif b 9 then aT (t 9) (keepL tl (elsL ts op j j)) ((keepL tl (elsL ts op j j)).map dm) (flat (sumXs HR.out dm tl (elsL ts op j j) xs)) else emp)), (bif b 10 then aB (blkS (t 10)) 32 (partsOf (t 9)) else emp)] ∧ (b 0 = true → t 0 = .pointer (some ⟨qa6, 3, none⟩)) ∧ (b 1 = true → t 1 = .slice aS j cS) ∧ (b 2 = true → t 2 = .pointer (some ⟨w.heap.size, 0, none⟩)) ∧ (b 3 = true → t 3 = .agg #[.int .i64 k, .int .i64 p, .int .i64 n]) ∧ (b 4 = true → t 4 = .agg #[.slice e1 tl.length f1, .slice e2 tl.length f2, .slice e3 m3 f3]) ∧ (b 5 = true → t 5 = .agg #[.int .i64 k, .int .i64 p, .int .i64 n, .slice (some ⟨bT, oT, none⟩) m cV, .slice aO op.length cO]) ∧ (b 6 = true → t 6 = .int .i64 (j : Int)) ∧ (b 7 = true → t 7 = .int .i64 (j : Int)) ∧ (b 8 = true → ∃ x c n, t 8 = .slice x n c) ∧ (b 9 = true → ∃ p1 n1 c1 p2 n2 c2 p3 n3 c3, t 9 = .agg #[.slice p1 n1 c1, .slice p2 n2 c2, .slice p3 n3 c3]) ∧ (b 10 = true → ∃ z, t 10 = .slice (some ⟨z, 0, none⟩) 1 1) ∧ (b 11 = true → ∃ a c, t 11 = .slice a (j + 1) c) ∧ (b 12 = true → t 12 = .pointer (some ⟨qa6, 3, none⟩))) ?hFb (by kernel_rfl) (by kernel_rfl) ?hJb ?hSb ?hEb
    (case hFb => intro t; simp only [putAll, Act.put, List.setIfInBounds_toArray, List.set_cons_zero, List.set_cons_succ, Nat.reduceAdd, Nat.zero_add]; exact rfl)
    case hJb => exact ⟨hH.grow ((Ext.refl _).drew), nof, nof, nof, nof, nof, nof, nof, nof, nof, nof, nof, nof, nof⟩
    case hSb => as_aux_lemma =>
      refine AllSteps.cons (j := 1) rfl (fun b t wx hJ hb hd hcl Kc hK => ?_) ?_
      · obtain ⟨hH, v0, v1, v2, v3, v4, v5, v6, v7, v8, v9, v10, v11, v12⟩ := hJ
        go_simp
        refine hK.out _ ?_ _ ?_ ?_; rotate_left 2
        · rfl
        exact ⟨hH, fun _ => rfl, v1, v2, v3, v4, v5, v6, v7, v8, v9, v10, v11, v12⟩
      refine AllSteps.cons (j := 2) rfl (fun b t wx hJ hb hd hcl Kc hK => ?_) ?_
      · obtain ⟨hH, v0, v1, v2, v3, v4, v5, v6, v7, v8, v9, v10, v11, v12⟩ := hJ
        have d0 := hd.out 0 (by kernel_rfl)
        have n13 : b 13 = false := Bool.eq_false_iff.2 fun h => absurd (hcl.out 13 1 (by kernel_rfl) (h)) (by rw [hb]; exact Bool.false_ne_true)
        have r0 := v0 d0
        have hN := hH; (try simp only [hb, d0, n13, cond_true, cond_false] at hN)
        have q3_3 := hN.cl 3 3 rfl rfl
        go_simp
        refine hK.out _ ?_ _ ?_ ?_; rotate_left 2
        · (try simp only [r0]); rfl
        exact ⟨hH, v0, fun _ => rfl, v2, v3, v4, v5, v6, v7, v8, v9, v10, v11, v12⟩
      refine AllSteps.cons (j := 3) rfl (fun b t wx hJ hb hd hcl Kc hK => ?_) ?_
      · obtain ⟨hH, v0, v1, v2, v3, v4, v5, v6, v7, v8, v9, v10, v11, v12⟩ := hJ
        go_simp
        refine hK.out _ ?_ _ ?_ ?_; rotate_left 2
        · rfl
        exact ⟨hH, v0, v1, fun _ => rfl, v3, v4, v5, v6, v7, v8, v9, v10, v11, v12⟩
      refine AllSteps.cons (j := 4) rfl (fun b t wx hJ hb hd hcl Kc hK => ?_) ?_
      · obtain ⟨hH, v0, v1, v2, v3, v4, v5, v6, v7, v8, v9, v10, v11, v12⟩ := hJ
        have d2 := hd.out 2 (by kernel_rfl); have r2 := v2 d2; have q0_0 := hH.cl 0 0 rfl rfl; have q0_1 := hH.cl 0 1 rfl rfl; have q0_2 := hH.cl 0 2 rfl rfl
        go_simp
        refine hK.out _ ?_ _ ?_ ?_; rotate_left 2
        · (try simp only [r2]); rfl
        exact ⟨hH, v0, v1, v2, fun _ => rfl, v4, v5, v6, v7, v8, v9, v10, v11, v12⟩
      refine AllSteps.cons (j := 5) rfl (fun b t wx hJ hb hd hcl Kc hK => ?_) ?_
      · obtain ⟨hH, v0, v1, v2, v3, v4, v5, v6, v7, v8, v9, v10, v11, v12⟩ := hJ
        have q5_0 := hH.cl 5 0 rfl rfl; have q5_1 := hH.cl 5 1 rfl rfl; have q5_2 := hH.cl 5 2 rfl rfl
        go_simp
        refine hK.out _ ?_ _ ?_ ?_; rotate_left 2
        · rfl
        exact ⟨hH, v0, v1, v2, v3, fun _ => rfl, v5, v6, v7, v8, v9, v10, v11, v12⟩
      refine AllSteps.cons (j := 6) rfl (fun b t wx hJ hb hd hcl Kc hK => ?_) ?_
      · obtain ⟨hH, v0, v1, v2, v3, v4, v5, v6, v7, v8, v9, v10, v11, v12⟩ := hJ
        have q0_0 := hH.cl 0 0 rfl rfl; have q0_1 := hH.cl 0 1 rfl rfl; have q0_2 := hH.cl 0 2 rfl rfl; have q0_3 := hH.cl 0 3 rfl rfl; have q0_4 := hH.cl 0 4 rfl rfl
        go_simp
        refine hK.out _ ?_ _ ?_ ?_; rotate_left 2
        · rfl
        exact ⟨hH, v0, v1, v2, v3, v4, fun _ => rfl, v6, v7, v8, v9, v10, v11, v12⟩
      refine AllSteps.cons (j := 7) rfl (fun b t wx hJ hb hd hcl Kc hK => ?_) ?_
      · obtain ⟨hH, v0, v1, v2, v3, v4, v5, v6, v7, v8, v9, v10, v11, v12⟩ := hJ
        go_simp
        refine hK.out _ ?_ _ ?_ ?_; rotate_left 2
        · rfl
        exact ⟨hH, v0, v1, v2, v3, v4, v5, fun _ => rfl, v7, v8, v9, v10, v11, v12⟩
      refine AllSteps.cons (j := 8) rfl (fun b t wx hJ hb hd hcl Kc hK => ?_) ?_
      · obtain ⟨hH, v0, v1, v2, v3, v4, v5, v6, v7, v8, v9, v10, v11, v12⟩ := hJ
        go_simp
        refine hK.out _ ?_ _ ?_ ?_; rotate_left 2
        · rfl
        exact ⟨hH, v0, v1, v2, v3, v4, v5, v6, fun _ => rfl, v8, v9, v10, v11, v12⟩
      refine AllSteps.cons (j := 9) rfl (fun b t wx hJ hb hd hcl Kc hK => ?_) ?_
      · obtain ⟨hH, v0, v1, v2, v3, v4, v5, v6, v7, v8, v9, v10, v11, v12⟩ := hJ
        have d5 := hd.out 5 (by kernel_rfl); have d6 := hd.out 6 (by kernel_rfl); have d7 := hd.out 7 (by kernel_rfl); have r5 := v5 d5; have r6 := v6 d6; have r7 := v7 d7
        have hN := hH; (try simp only [hb, d5, d6, d7, cond_true, cond_false] at hN)
        go_simp
        go_at_call 143
        refine (labelsElsewhere_any HR.out HN.out _ _ _ (hT0.ext hH.ext) (hO0.ext hH.ext) j j).mono ?_; rintro e8 w8 ⟨v8, rfl, o8, h8⟩
        obtain ⟨x8, c8, rfl, _, _⟩ := o8.ints.val
        (try go_simp)
        refine hK.out _ ?_ _ ?_ ?_; rotate_left 2
        · (try simp only [r5, r6, r7]); rfl
        exact ⟨by have hX := hN.addI 6 h8 o8 (Nat.le_refl _); simpa only [List.set_cons_zero, List.set_cons_succ, updB, updV, blkOf_mk, tup0_mk, partsOf3, blkS_mk, cel3_mk, Nat.reduceBEq, cond_true, cond_false, hb, d5, d6, d7, r5, r6, r7] using hX, v0, v1, v2, v3, v4, v5, v6, v7, fun _ => ⟨_, _, _, rfl⟩, v9, v10, v11, v12⟩
      refine AllSteps.cons (j := 10) rfl (fun b t wx hJ hb hd hcl Kc hK => ?_) ?_
      · obtain ⟨hH, v0, v1, v2, v3, v4, v5, v6, v7, v8, v9, v10, v11, v12⟩ := hJ
        have d3 := hd.out 3 (by kernel_rfl); have d4 := hd.out 4 (by kernel_rfl); have d8 := hd.out 8 (by kernel_rfl)
        have n10 : b 10 = false := Bool.eq_false_iff.2 fun h => absurd (hcl.out 10 9 (by kernel_rfl) (h)) (by rw [hb]; exact Bool.false_ne_true)
        have n11 : b 11 = false := Bool.eq_false_iff.2 fun h => absurd (hcl.out 11 9 (by kernel_rfl) (h)) (by rw [hb]; exact Bool.false_ne_true)
        have r3 := v3 d3; have r4 := v4 d4; have r8 := v8 d8
        obtain ⟨x_8, c_8, n_8, r8⟩ := r8
        have hN := hH; (try simp only [hb, d3, d4, d8, n10, n11, cond_true, cond_false] at hN)
        go_simp
        go_at_call 33
        refine (sumLabels_any HR.out HTI.out (elsL ts op j j) _ _ _ (hTu.ext hH.ext) (by have h := hN.ints (k := 6) rfl; rw [r8] at h; exact h)).mono ?_; rintro e9 w9 ⟨vd, rfl, od, h7⟩
        obtain ⟨pa1, na1, ca1, pa2, na2, ca2, pa3, na3, ca3, rfl⟩ := od.shape
        (try go_simp)
        refine hK.out _ ?_ _ ?_ ?_; rotate_left 2
        · (try simp only [r3, r4, r8]); rfl
        exact ⟨by have hX := hN.addT 7 h7 od (Nat.le_refl _); simpa only [List.set_cons_zero, List.set_cons_succ, updB, updV, blkOf_mk, tup0_mk, partsOf3, blkS_mk, cel3_mk, Nat.reduceBEq, cond_true, cond_false, hb, d3, d4, d8, n10, n11, r3, r4, r8] using hX, v0, v1, v2, v3, v4, v5, v6, v7, v8, fun _ => ⟨_, _, _, _, _, _, _, _, _, rfl⟩, v10, v11, v12⟩
      refine AllSteps.cons (j := 11) rfl (fun b t wx hJ hb hd hcl Kc hK => ?_) ?_
      · obtain ⟨hH, v0, v1, v2, v3, v4, v5, v6, v7, v8, v9, v10, v11, v12⟩ := hJ
        have d9 := hd.out 9 (by kernel_rfl); have r9 := v9 d9
        obtain ⟨p1_9, n1_9, c1_9, p2_9, n2_9, c2_9, p3_9, n3_9, c3_9, r9⟩ := r9
        have hN := hH; (try simp only [hb, d9, cond_true, cond_false] at hN)
        have e9 := r9 -- d9
        go_simp
        refine hK.out _ ?_ _ ?_ ?_; rotate_left 2
        · (try simp only [r9]); rfl
        exact ⟨by have hX := hN.addB 8 #[.slice p1_9 n1_9 c1_9, .slice p2_9 n2_9 c2_9, .slice p3_9 n3_9 c3_9] 32; simpa only [List.set_cons_zero, List.set_cons_succ, updB, updV, blkOf_mk, tup0_mk, partsOf3, blkS_mk, cel3_mk, Nat.reduceBEq, cond_true, cond_false, hb, d9, r9] using hX, v0, v1, v2, v3, v4, v5, v6, v7, v8, v9, fun _ => ⟨_, rfl⟩, v11, v12⟩
      refine AllSteps.cons (j := 12) rfl (fun b t wx hJ hb hd hcl Kc hK => ?_) ?_
      · obtain ⟨hH, v0, v1, v2, v3, v4, v5, v6, v7, v8, v9, v10, v11, v12⟩ := hJ
        have d1 := hd.out 1 (by kernel_rfl); have d9 := hd.out 9 (by kernel_rfl); have d10 := hd.out 10 (by kernel_rfl)
        have n13 : b 13 = false := Bool.eq_false_iff.2 fun h => absurd (hcl.out 13 11 (by kernel_rfl) (h)) (by rw [hb]; exact Bool.false_ne_true)
        have r1 := v1 d1; have r9 := v9 d9; have r10 := v10 d10
        obtain ⟨p1_9, n1_9, c1_9, p2_9, n2_9, c2_9, p3_9, n3_9, c3_9, r9⟩ := r9
        obtain ⟨z_10, r10⟩ := r10
        have hN := hH; (try simp only [hb, d1, d9, d10, n13, cond_true, cond_false] at hN)
        rw [r9] at hN -- d9 d10
        refine step_app wx rfl _ _ 26 rfl (.slice aS j cS) (t 10) (by first | rfl | (go_simp; done)) (by first | rfl | (go_simp; done)) _ (run_pushT2 _ hN (k1 := 4) (k2 := 7) rfl rfl (by decide) (by rw [r10]; have h := hN.blk (k := 8) rfl; rw [r10] at h; exact row_blk3 h) ((by rw [HQL.out]; omega))) ?_; rintro va wa ⟨hHa, ga⟩
        obtain ⟨aa, ca, hva, _, _⟩ := (hHa.tensS (k := 4) rfl).val; subst hva
        refine hK.out _ ?_ _ ?_ ?_; rotate_left 2
        · (try simp only [r1, r9, r10]); rfl
        exact ⟨by have hX := hHa; simpa only [List.set_cons_zero, List.set_cons_succ, updB, updV, blkOf_mk, tup0_mk, partsOf3, blkS_mk, cel3_mk, Nat.reduceBEq, cond_true, cond_false, hb, d1, d9, d10, n13, r1, r9, r10] using hX, v0, v1, v2, v3, v4, v5, v6, v7, v8, v9, v10, fun _ => ⟨_, _, by rw [List.length_append, HQL.out]; rfl⟩, v12⟩
      refine AllSteps.cons (j := 13) rfl (fun b t wx hJ hb hd hcl Kc hK => ?_) ?_
      · obtain ⟨hH, v0, v1, v2, v3, v4, v5, v6, v7, v8, v9, v10, v11, v12⟩ := hJ
        have d0 := hd.out 0 (by kernel_rfl); have d1 := hd.out 1 (by kernel_rfl); have d2 := hd.out 2 (by kernel_rfl); have d3 := hd.out 3 (by kernel_rfl); have d4 := hd.out 4 (by kernel_rfl); have d5 := hd.out 5 (by kernel_rfl); have d6 := hd.out 6 (by kernel_rfl); have d7 := hd.out 7 (by kernel_rfl); have d8 := hd.out 8 (by kernel_rfl); have d9 := hd.out 9 (by kernel_rfl); have d10 := hd.out 10 (by kernel_rfl); have d11 := hd.out 11 (by kernel_rfl); have r0 := v0 d0; have r1 := v1 d1; have r2 := v2 d2; have r3 := v3 d3; have r4 := v4 d4; have r5 := v5 d5; have r6 := v6 d6; have r7 := v7 d7; have r8 := v8 d8; have r9 := v9 d9; have r10 := v10 d10; have r11 := v11 d11
        obtain ⟨x_8, c_8, n_8, r8⟩ := r8
        obtain ⟨p1_9, n1_9, c1_9, p2_9, n2_9, c2_9, p3_9, n3_9, c3_9, r9⟩ := r9
        obtain ⟨z_10, r10⟩ := r10
        obtain ⟨a_11, c_11, r11⟩ := r11
        go_simp
        refine hK.out _ ?_ _ ?_ ?_; rotate_left 2
        · (try simp only [r0, r1, r2, r3, r4, r5, r6, r7, r8, r9, r10, r11]); rfl
        exact ⟨hH, v0, v1, v2, v3, v4, v5, v6, v7, v8, v9, v10, v11, fun _ => rfl⟩
      refine AllSteps.cons (j := 14) rfl (fun b t wx hJ hb hd hcl Kc hK => ?_) ?_
      · obtain ⟨hH, v0, v1, v2, v3, v4, v5, v6, v7, v8, v9, v10, v11, v12⟩ := hJ
        have d0 := hd.out 0 (by kernel_rfl); have d1 := hd.out 1 (by kernel_rfl); have d2 := hd.out 2 (by kernel_rfl); have d3 := hd.out 3 (by kernel_rfl); have d4 := hd.out 4 (by kernel_rfl); have d5 := hd.out 5 (by kernel_rfl); have d6 := hd.out 6 (by kernel_rfl); have d7 := hd.out 7 (by kernel_rfl); have d8 := hd.out 8 (by kernel_rfl); have d9 := hd.out 9 (by kernel_rfl); have d10 := hd.out 10 (by kernel_rfl); have d11 := hd.out 11 (by kernel_rfl); have d12 := hd.out 12 (by kernel_rfl); have r0 := v0 d0; have r1 := v1 d1; have r2 := v2 d2; have r3 := v3 d3; have r4 := v4 d4; have r5 := v5 d5; have r6 := v6 d6; have r7 := v7 d7; have r8 := v8 d8; have r9 := v9 d9; have r10 := v10 d10; have r11 := v11 d11; have r12 := v12 d12
        obtain ⟨x_8, c_8, n_8, r8⟩ := r8
        obtain ⟨p1_9, n1_9, c1_9, p2_9, n2_9, c2_9, p3_9, n3_9, c3_9, r9⟩ := r9
        obtain ⟨z_10, r10⟩ := r10
        obtain ⟨a_11, c_11, r11⟩ := r11
        have hN := hH; (try simp only [hb, d0, d1, d2, d3, d4, d5, d6, d7, d8, d9, d10, d11, d12, cond_true, cond_false] at hN)
        have B := hN.blk (k := 3) rfl; have fB := B.free 3; have zB := B.cell (j := 3) rfl; have lB := B.lt
        go_simp
        refine hK.out _ undef _ ?_ ?_; rotate_left 1
        · (try simp only [r0, r1, r2, r3, r4, r5, r6, r7, r8, r9, r10, r11, r12]); rfl
        exact ⟨by have hX := hN.setB (k := 3) rfl 3 (t 11); simpa only [List.set_cons_zero, List.set_cons_succ, updB, updV, blkOf_mk, tup0_mk, partsOf3, blkS_mk, cel3_mk, Nat.reduceBEq, cond_true, cond_false, hb, d0, d1, d2, d3, d4, d5, d6, d7, d8, d9, d10, d11, d12, r0, r1, r2, r3, r4, r5, r6, r7, r8, r9, r10, r11, r12] using hX, v0, v1, v2, v3, v4, v5, v6, v7, v8, v9, v10, v11, v12⟩
      exact AllSteps.nil
    case hEb =>
     intro b t wb hJ hall
     obtain ⟨hHb, v0, v1, v2, v3, v4, v5, v6, v7, v8, v9, v10, v11, v12⟩ := hJ
     have a0 := hall 0 (by decide); have a1 := hall 1 (by decide); have a2 := hall 2 (by decide); have a3 := hall 3 (by decide); have a4 := hall 4 (by decide); have a5 := hall 5 (by decide); have a6 := hall 6 (by decide); have a7 := hall 7 (by decide); have a8 := hall 8 (by decide); have a9 := hall 9 (by decide); have a10 := hall 10 (by decide); have a11 := hall 11 (by decide); have a12 := hall 12 (by decide); have a13 := hall 13 (by decide)
     (try simp only [a0, a1, a2, a3, a4, a5, a6, a7, a8, a9, a10, a11, a12, a13, cond_true] at hHb)
     replace v0 := v0 a0; replace v1 := v1 a1; replace v2 := v2 a2; replace v3 := v3 a3; replace v4 := v4 a4; replace v5 := v5 a5; replace v6 := v6 a6; replace v7 := v7 a7; replace v8 := v8 a8; replace v9 := v9 a9; replace v10 := v10 a10; replace v11 := v11 a11; replace v12 := v12 a12
     clear hall a0 a1 a2 a3 a4 a5 a6 a7 a8 a9 a10 a11 a12 a13
     generalize t 12 = x12 at hHb v12 ⊢; generalize t 11 = x11 at hHb v11 ⊢; generalize t 10 = x10 at hHb v10 ⊢; generalize t 9 = x9 at hHb v9 ⊢; generalize t 8 = x8 at hHb v8 ⊢; generalize t 7 = x7 at hHb v7 ⊢; generalize t 6 = x6 at hHb v6 ⊢; generalize t 5 = x5 at hHb v5 ⊢; generalize t 4 = x4 at hHb v4 ⊢; generalize t 3 = x3 at hHb v3 ⊢; generalize t 2 = x2 at hHb v2 ⊢; generalize t 1 = x1 at hHb v1 ⊢; generalize t 0 = x0 at hHb v0 ⊢; subst v0; subst v1; subst v2; subst v3; subst v4; subst v5; subst v6; subst v7
     obtain ⟨xb8, cb8, nb8, rfl⟩ := v8
     obtain ⟨p1b9, n1b9, c1b9, p2b9, n2b9, c2b9, p3b9, n3b9, c3b9, rfl⟩ := v9
     obtain ⟨zb10, rfl⟩ := v10
     obtain ⟨ab11, cb11, rfl⟩ := v11
     subst v12
     simp only [blkOf_mk, tup0_mk, partsOf3, blkS_mk, cel3_mk] at hHb
     clear b
     replace hH := hHb; clear hHb
     replace hH : Held w wb [aB (w.heap.size) 29 [.int .i64 k, .int .i64 p, .int .i64 n, .slice (some ⟨bT, oT, none⟩) m cV, .slice aO op.length cO], aB (w.heap.size + 1) 29 [.int .i64 0, .int .i64 0, .int .i64 0, .slice none 0 0, .slice none 0 0], aI (.slice xa4 op.length ca4) op, aB qa6 29 [.int .i64 k, .int .i64 p, .int .i64 n, .slice ab11 (j + 1) cb11, .slice xa4 op.length ca4], aTs (.slice ab11 (j + 1) cb11) (cs ++ [(.slice p1b9 n1b9 c1b9, .slice p2b9 n2b9 c2b9, .slice p3b9 n3b9 c3b9)]) (QS ++ [((keepL tl (elsL ts op j j)), ((keepL tl (elsL ts op j j)).map dm), (flat (sumXs HR.out dm tl (elsL ts op j j) xs)))]), aB (wq.heap.size) 32 [.slice e1 tl.length f1, .slice e2 tl.length f2, .slice e3 m3 f3], aI (.slice xb8 nb8 cb8) (elsL ts op j j), emp, aB zb10 32 [.slice p1b9 n1b9 c1b9, .slice p2b9 n2b9 c2b9, .slice p3b9 n3b9 c3b9]] := hH
     go_wp2_with fail
     go_roundw
     case rel => exact ⟨j + 1, _, _, by omega, by go_num, by rw [HMS.out]; exact hH.sub (.cons_cons _ (.cons_cons _ (.cons_cons _ (.cons_cons _ (.cons_cons _ (.cons _ (.cons _ (.cons _ (.cons _ .slnil)))))))))⟩
     case measure => simp [RowKit.intOf]; omega
   ·
    have hje : j = m := by omega
    subst hje
    obtain ⟨q0_0, q0_1, q0_2, q0_3, q0_4, l0_⟩ := hH.c5 0 rfl; obtain ⟨q1_0, q1_1, q1_2, q1_3, q1_4, l1_⟩ := hH.c5 1 rfl; have f1_0 := hH.fr 1 0 rfl; have f1_1 := hH.fr 1 1 rfl; have f1_2 := hH.fr 1 2 rfl; have f1_3 := hH.fr 1 3 rfl; have f1_4 := hH.fr 1 4 rfl; obtain ⟨q3_0, q3_1, q3_2, q3_3, q3_4, l3_⟩ := hH.c5 3 rfl
    go_wp2_with fail
    refine bodyPost_ret (v := .agg #[.int .i64 k, .int .i64 p, .int .i64 n, .slice aS j cS, .slice xa4 op.length ca4]) (by simp [results, Try.results60, go_sem, *]) rfl ?_
    rw [HQS.out]
    exact ⟨_, _, cs, rfl, ((hH.setB5 (k := 1) rfl (.int .i64 k) (.int .i64 p) (.int .i64 n) (.slice aS j cS) (.slice xa4 op.length ca4)).sub (.cons _ (.cons _ (.cons_cons _ (.cons _ (.cons_cons _ .slnil)))))).swap2⟩
end Go.Proofs.Ytpegckmagiaggaa
