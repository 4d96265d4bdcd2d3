/- labelLists, ClosedLabels, EliminationOk, EliminationWidths of the program. -/
import Derived.Test.YtpegckmagiaggaaKElimW
set_option linter.unusedSimpArgs false
set_option linter.unusedVariables false
namespace Go.Proofs.Ytpegckmagiaggaa
open Go.RowKit
def closedL {k p n : Int} (ts : List (NT k p n)) (op : List Int) : List Int := (ascL (occ ts)).filter fun x => !hasL op x
theorem closedL_nodup {k p n : Int} (ts : List (NT k p n)) (op : List Int) : (closedL ts op).Nodup := (ascL_nodup _).filter _
theorem mem_closedL {k p n : Int} {dm : Int → Int} {U : List Int} {ts : List (NT k p n)} {op : List Int} (h : IsN k p n dm U ts op) {x : Int} : x ∈ closedL ts op ↔ x ∈ occ ts ∧ x ∉ op := by
  unfold closedL
  rw [List.mem_filter, h.mem_asc]
  constructor
  · rintro ⟨a, b⟩
    refine ⟨a, fun hx => ?_⟩
    rw [(hasL_iff _ _).2 hx] at b; simp at b
  · rintro ⟨a, b⟩
    exact ⟨a, by rw [hasL_not.2 b]; rfl⟩
theorem lists_ok {k p n : Int} {dm : Int → Int} {U : List Int} {ts : List (NT k p n)} {op : List Int} (h : IsN k p n dm U ts op) : ListsU dm U (ts.map (·.1)) :=
  ⟨h.uni, fun l hl => by obtain ⟨t, ht, rfl⟩ := List.mem_map.1 hl; exact (h.ten t ht).sub.nodup, fun l hl => by obtain ⟨t, ht, rfl⟩ := List.mem_map.1 hl; exact (h.ten t ht).sub.sub⟩
set_option maxRecDepth 100000 in
set_option maxHeartbeats 4000000 in
theorem labelLists_any {k p n : Int} (hr : ringOk k p n = true) {dm : Int → Int} {U : List Int} {ts : List (NT k p n)} {op : List Int} (hN : IsN k p n dm U ts op) (tv ov : Value) (w : World) (hT : TensS w tv (ts.map (tenOf dm))) (hO : IntS w ov op) :
 Calls Try.prog 153 #[.agg #[.int .i64 k, .int .i64 p, .int .i64 n, tv, ov]] w fun e w' => ∃ u us, e = .returned u ∧ OwnLs w' u us (ts.map (·.1)) ∧ Ext w w' ∧ ∀ b ∈ u.ownBlock.toList ++ fpL us, w.heap.size ≤ b := by
 have hT0 := hT
 have hO0 := hO
 obtain ⟨m, hm⟩ : ∃ m, ts.length = m := ⟨_, rfl⟩
 obtain ⟨aV, cV, rfl, hcT1, hcT2⟩ := hT.val
 obtain ⟨aO, cO, rfl, hcO1, hcO2⟩ := hO.val
 rw [List.length_map, hm] at hT hT0 hcT1
 rw [List.length_map, hm]
 have hm12 : m ≤ 12 := by rw [← hm]; exact hN.len
 have hop12 : op.length ≤ 12 := hN.rank
 have HM := Lib.hid hm; have HR := Lib.hid hr; have HN := Lib.hid hN; have HD3 := Lib.hid hN.dims3; clear hm hr hN
 have hTl : Hid ((ts.map (tenOf dm)).length = m) := Lib.hid (by rw [List.length_map]; exact HM.out)
 obtain ⟨LL, hLL⟩ : ∃ f : Nat → List (List Int), (fun j => (ts.take j).map (·.1)) = f := ⟨_, rfl⟩
 have HL0 : Hid (LL 0 = []) := Lib.hid (by rw [← hLL]; rfl)
 have HLS : Hid (∀ j (t : NT k p n), ts[j]? = some t → LL (j + 1) = LL j ++ [t.1]) := Lib.hid fun j t h => by rw [← hLL]; show (ts.take (j + 1)).map (·.1) = _; rw [List.take_add_one, h, List.map_append]; rfl
 have HLN : Hid (∀ j, j ≤ m → (LL j).length = j) := Lib.hid fun j hj => by rw [← hLL]; show ((ts.take j).map (·.1)).length = j; rw [List.length_map, List.length_take, HM.out]; omega
 have HLE : Hid (ts.map (·.1) = LL m) := Lib.hid (by rw [← hLL]; show _ = (ts.take m).map (·.1); rw [List.take_of_length_le (by rw [HM.out]; exact Nat.le_refl _)])
 clear hLL
 go_enter Try.func153, Try.ntmps153
 go_upto_region 1 with fail
 have hH : Held w w [] := Held.new (Ext.refl w) 0
 have hB : Held w (w.alloc (.cells #[.int .i64 k, .int .i64 p, .int .i64 n, .slice aV m cV, .slice aO op.length cO] 29)) [aB (w.heap.size) 29 [.int .i64 k, .int .i64 p, .int .i64 n, .slice aV m cV, .slice aO op.length cO]] := by
  have h := (hH.mores 1).addB 0 #[.int .i64 k, .int .i64 p, .int .i64 n, .slice aV m cV, .slice aO op.length cO] 29
  exact h
 have hsz : (w.alloc (.cells #[.int .i64 k, .int .i64 p, .int .i64 n, .slice aV m cV, .slice aO op.length cO] 29)).heap.size = w.heap.size + 1 := by simp
 generalize w.alloc (.cells #[.int .i64 k, .int .i64 p, .int .i64 n, .slice aV m cV, .slice aO op.length cO] 29) = wn1 at hB hsz ⊢
 replace hH := hB; have HSZwn1 := Lib.hid hsz; clear hB hsz
 have q0_0 := hH.cl 0 0 rfl rfl; have q0_1 := hH.cl 0 1 rfl rfl; have q0_2 := hH.cl 0 2 rfl rfl; have q0_3 := hH.cl 0 3 rfl rfl; have q0_4 := hH.cl 0 4 rfl rfl; have l0_ := hH.bl 0 rfl
 go_wp2_with fail
 clear q0_0 q0_1 q0_2 q0_3 q0_4 l0_
 replace hH := hH.nilLs
 replace hH : Held w wn1 [aB (w.heap.size) 29 [.int .i64 k, .int .i64 p, .int .i64 n, .slice aV m cV, .slice aO op.length cO], aLs (.slice none 0 0) [] []] := hH
 go_loopw [3, 9] (fun vl i wr => ∃ (j : Nat) (vs : List Value), j ≤ m ∧ i = .int .i64 (j : Int) ∧ Held w wr [aB (w.heap.size) 29 [.int .i64 k, .int .i64 p, .int .i64 n, .slice aV m cV, .slice aO op.length cO], aLs vl vs (LL j)]) (fun vl i wr => m - (RowKit.intOf i).toNat)
 case atStart => exact ⟨0, [], Nat.zero_le _, rfl, by rw [HL0.out]; exact hH⟩
 case round =>
  clear hH
  obtain ⟨j, vs, hj, rfl, hH⟩ := hrel
  obtain ⟨wq, rfl⟩ : ∃ q, q = wr := ⟨wr, rfl⟩
  obtain ⟨QL, hQL⟩ : ∃ q, LL j = q := ⟨_, rfl⟩
  have HQN : Hid (QL.length = j) := Lib.hid (by rw [← hQL]; exact HLN.out j hj)
  rw [hQL] at hH
  have HQL := Lib.hid hQL; clear hQL
  obtain ⟨al, cl, hvl, _, _⟩ := (hH.rowsS (k := 1) rfl).val
  rw [HQN.out] at hvl
  subst hvl
  by_cases hlt : j < m
  ·
   obtain ⟨bT, oT, u1, u2, u3, t3, hV, hu0, hu1, hu2, ht3, hTu⟩ := hT.get (i := j) (by rw [hTl.out]; exact hlt)
   subst hV
   obtain ⟨t, htj, rfl⟩ : ∃ t, ts[j]? = some t ∧ tenOf dm t = t3 := by rw [List.getElem?_map] at ht3; exact Option.map_eq_some_iff.1 ht3
   have HTJ := Lib.hid htj; have HTI := Lib.hid (HN.out.ten t (List.mem_of_getElem? htj)); clear ht3 htj
   obtain ⟨tl, xs⟩ := t
   obtain ⟨e1, m1, f1, e2, m2, f2, e3, m3, f3, hvv⟩ := hTu.shape
   simp at hvv
   obtain ⟨rfl, rfl, rfl⟩ := hvv
   rw [Nat.mul_comm 3 j] at hu0 hu1 hu2
   obtain ⟨_, _, _, hvv, hTL, hTD, hTX⟩ := hTu.val
   simp at hvv
   obtain ⟨rfl, rfl, rfl⟩ := hvv
   simp only [tenOf] at hTu hTL hTD hTX HTI
   obtain ⟨_, _, hvv, _, _⟩ := hTL.val
   simp at hvv
   obtain ⟨rfl, rfl, rfl⟩ := hvv
   obtain ⟨_, _, hvv, _, _⟩ := hTD.val
   simp at hvv
   obtain ⟨rfl, rfl, rfl⟩ := hvv
   have htl12 : tl.length ≤ 12 := HTI.out.ax.rank
   have HS := Lib.hid (HLS.out j _ HTJ.out)
   have q0_0 := hH.cl 0 0 rfl rfl; have q0_1 := hH.cl 0 1 rfl rfl; have q0_2 := hH.cl 0 2 rfl rfl; have q0_3 := hH.cl 0 3 rfl rfl; have q0_4 := hH.cl 0 4 rfl rfl; have l0_ := hH.bl 0 rfl; have c_hu0 := hH.ext.cell hu0; have c_hu1 := hH.ext.cell hu1; have c_hu2 := hH.ext.cell hu2
   go_upto_region 5 with fail
   clear q0_0 q0_1 q0_2 q0_3 q0_4 l0_ c_hu0 c_hu1 c_hu2
   have hB : Held w (wq.alloc (.cells #[.slice e1 tl.length f1, .slice e2 tl.length f2, .slice e3 m3 f3] 32)) [aB (w.heap.size) 29 [.int .i64 k, .int .i64 p, .int .i64 n, .slice (some ⟨bT, oT, none⟩) m cV, .slice aO op.length cO], aLs (.slice al j cl) vs QL, aB (wq.heap.size) 32 [.slice e1 tl.length f1, .slice e2 tl.length f2, .slice e3 m3 f3]] := by
    have h := (hH.mores 1).addB 2 #[.slice e1 tl.length f1, .slice e2 tl.length f2, .slice e3 m3 f3] 32
    exact h
   have hsz : (wq.alloc (.cells #[.slice e1 tl.length f1, .slice e2 tl.length f2, .slice e3 m3 f3] 32)).heap.size = wq.heap.size + 1 := by simp
   generalize wq.alloc (.cells #[.slice e1 tl.length f1, .slice e2 tl.length f2, .slice e3 m3 f3] 32) = wn2 at hB hsz ⊢
   replace hH := hB; have HSZwn2 := Lib.hid hsz; clear hB hsz
   have q0_0 := hH.cl 0 0 rfl rfl; have q0_1 := hH.cl 0 1 rfl rfl; have q0_2 := hH.cl 0 2 rfl rfl; have q0_3 := hH.cl 0 3 rfl rfl; have q0_4 := hH.cl 0 4 rfl rfl; have l0_ := hH.bl 0 rfl; have q2_0 := hH.cl 2 0 rfl rfl; have q2_1 := hH.cl 2 1 rfl rfl; have q2_2 := hH.cl 2 2 rfl rfl; have l2_ := hH.bl 2 rfl; have c_hu0 := hH.ext.cell hu0; have c_hu1 := hH.ext.cell hu1; have c_hu2 := hH.ext.cell hu2
   go_wp2_with fail
   clear q0_0 q0_1 q0_2 q0_3 q0_4 l0_ q2_0 q2_1 q2_2 l2_ c_hu0 c_hu1 c_hu2
   refine (copyInts_any _ tl _ (hTL.ext hH.ext) (by omega)).mono ?_; rintro ewn3 wn3 ⟨v3, rfl, o3, hwn3⟩
   obtain ⟨a3, c3, rfl, _, _⟩ := o3.ints.val
   replace hH : Held w wn3 [aB (w.heap.size) 29 [.int .i64 k, .int .i64 p, .int .i64 n, .slice (some ⟨bT, oT, none⟩) m cV, .slice aO op.length cO], aLs (.slice al j cl) vs QL, aB (wq.heap.size) 32 [.slice e1 tl.length f1, .slice e2 tl.length f2, .slice e3 m3 f3], aI (.slice a3 tl.length c3) tl] := (hH.mores 1).addI 3 hwn3 o3 (Nat.le_refl _)
   clear hwn3
   have q0_0 := hH.cl 0 0 rfl rfl; have q0_1 := hH.cl 0 1 rfl rfl; have q0_2 := hH.cl 0 2 rfl rfl; have q0_3 := hH.cl 0 3 rfl rfl; have q0_4 := hH.cl 0 4 rfl rfl; have l0_ := hH.bl 0 rfl; have q2_0 := hH.cl 2 0 rfl rfl; have q2_1 := hH.cl 2 1 rfl rfl; have q2_2 := hH.cl 2 2 rfl rfl; have l2_ := hH.bl 2 rfl; have c_hu0 := hH.ext.cell hu0; have c_hu1 := hH.ext.cell hu1; have c_hu2 := hH.ext.cell hu2
   go_wp2_with (at_builtin; refine wpList_app _ rfl _ _ 33 rfl _ _ rfl rfl _ (run_pushL _ (hH.grow ((Ext.refl _).alloc _)) (k1 := 1) (k2 := 3) rfl rfl (by decide) (row_one1 _ _ _) (by rw [HQN.out]; omega)) ?_; rintro vo2 wp ⟨hHp, gp⟩)
   go_roundw
   case rel => exact ⟨j + 1, _, by omega, by go_num, by rw [HS.out, HQL.out]; exact hHp.sub (.cons_cons _ (.cons_cons _ (.cons _ (.cons _ .slnil))))⟩
   case measure => simp [RowKit.intOf]; omega
  ·
   have hje : j = m := by omega
   have HR := Lib.hid (show OwnLs wq (.slice al j cl) vs (ts.map (·.1)) by rw [HLE.out, ← hje, HQL.out]; exact hH.get (k := 1) rfl); have HF := Lib.hid (fun b hb => (hH.fpr (k := 1) rfl b hb).1 : ∀ b ∈ (Value.slice al j cl).ownBlock.toList ++ fpL vs, w.heap.size ≤ b)
   have HE := Lib.hid hH.ext; clear hH hje
   go_wp2
   go_ret
   exact ⟨_, _, rfl, HR.out, HE.out, HF.out⟩
set_option maxRecDepth 100000 in
set_option maxHeartbeats 4000000 in
theorem closedLabels_any {k p n : Int} (hr : ringOk k p n = true) {dm : Int → Int} {U : List Int} {ts : List (NT k p n)} {op : List Int} (hN : IsN k p n dm U ts op) (tv ov : Value) (w : World) (hT : TensS w tv (ts.map (tenOf dm))) (hO : IntS w ov op) :
 Calls Try.prog 82 #[.agg #[.int .i64 k, .int .i64 p, .int .i64 n, tv, ov]] w fun e w' => ∃ u, e = .returned u ∧ OwnI w' w.heap.size u (closedL ts op) ∧ Ext w w' := by
 have hT0 := hT
 have hO0 := hO
 obtain ⟨m, hm⟩ : ∃ m, ts.length = m := ⟨_, rfl⟩
 obtain ⟨aV, cV, rfl, hcT1, hcT2⟩ := hT.val
 obtain ⟨aO, cO, rfl, hcO1, hcO2⟩ := hO.val
 rw [List.length_map, hm] at hT hT0 hcT1
 rw [List.length_map, hm]
 have hm12 : m ≤ 12 := by rw [← hm]; exact hN.len
 have hop12 : op.length ≤ 12 := hN.rank
 have HM := Lib.hid hm; have HR := Lib.hid hr; have HN := Lib.hid hN; have HD3 := Lib.hid hN.dims3; clear hm  hN
 have hTl : Hid ((ts.map (tenOf dm)).length = m) := Lib.hid (by rw [List.length_map]; exact HM.out)
 obtain ⟨AL, hAL⟩ : ∃ q, ascL (occ ts) = q := ⟨_, rfl⟩
 have hal12 : AL.length ≤ 12 := by rw [← hAL]; exact (HN.out.uni.ax HN.out.ascSub).rank
 obtain ⟨CL, hCL⟩ : ∃ f : Nat → List Int, (fun j => (AL.take j).filter fun x => !hasL op x) = f := ⟨_, rfl⟩
 have HC0 : Hid (CL 0 = []) := Lib.hid (by rw [← hCL]; rfl)
 have HCY : Hid (∀ j x, AL[j]? = some x → hasL op x = false → CL (j + 1) = CL j ++ [x]) := Lib.hid fun j x h hh => by rw [← hCL]; show (AL.take (j + 1)).filter _ = _; rw [List.take_add_one, h, List.filter_append]; simp [hh]
 have HCN : Hid (∀ j x, AL[j]? = some x → hasL op x = true → CL (j + 1) = CL j) := Lib.hid fun j x h hh => by rw [← hCL]; show (AL.take (j + 1)).filter _ = _; rw [List.take_add_one, h, List.filter_append]; simp [hh]
 have HCE : Hid (closedL ts op = CL AL.length) := Lib.hid (by rw [← hCL]; show _ = (AL.take AL.length).filter _; rw [List.take_length, ← hAL]; rfl)
 have HCLN : Hid (∀ j, (CL j).length ≤ j) := Lib.hid fun j => by rw [← hCL]; exact Nat.le_trans (List.length_filter_le _ _) (by rw [List.length_take]; omega)
 have HAL := Lib.hid hAL; clear hAL hCL
 go_enter Try.func82, Try.ntmps82
 go_upto_region 1 with fail
 have hH : Held w w [] := Held.new (Ext.refl w) 0
 have hB : Held w (w.alloc (.cells #[.int .i64 k, .int .i64 p, .int .i64 n, .slice aV m cV, .slice aO op.length cO] 29)) [aB (w.heap.size) 29 [.int .i64 k, .int .i64 p, .int .i64 n, .slice aV m cV, .slice aO op.length cO]] := by
  have h := (hH.mores 1).addB 0 #[.int .i64 k, .int .i64 p, .int .i64 n, .slice aV m cV, .slice aO op.length cO] 29
  exact h
 have hsz : (w.alloc (.cells #[.int .i64 k, .int .i64 p, .int .i64 n, .slice aV m cV, .slice aO op.length cO] 29)).heap.size = w.heap.size + 1 := by simp
 generalize w.alloc (.cells #[.int .i64 k, .int .i64 p, .int .i64 n, .slice aV m cV, .slice aO op.length cO] 29) = wn1 at hB hsz ⊢
 replace hH := hB; have HSZwn1 := Lib.hid hsz; clear hB hsz
 have q0_0 := hH.cl 0 0 rfl rfl; have q0_1 := hH.cl 0 1 rfl rfl; have q0_2 := hH.cl 0 2 rfl rfl; have q0_3 := hH.cl 0 3 rfl rfl; have q0_4 := hH.cl 0 4 rfl rfl; have l0_ := hH.bl 0 rfl
 go_wp2_with fail
 clear q0_0 q0_1 q0_2 q0_3 q0_4 l0_
 refine (labelsOf_any HR.out HN.out _ _ _ (hT.ext hH.ext) (hO.ext hH.ext)).mono ?_; rintro ewn2 wn2 ⟨u, rfl, hJ⟩
 rw [HAL.out] at hJ
 obtain ⟨al, cl, rfl⟩ := (hJ.own (k := 0) rfl).shape1 AL.length rfl
 replace hH : Held w wn2 [aB (w.heap.size) 29 [.int .i64 k, .int .i64 p, .int .i64 n, .slice aV m cV, .slice aO op.length cO], aI (.slice al AL.length cl) AL] := hH.join hJ (fun q hq => by cases hq)
 clear hJ
 have q0_0 := hH.cl 0 0 rfl rfl; have q0_1 := hH.cl 0 1 rfl rfl; have q0_2 := hH.cl 0 2 rfl rfl; have q0_3 := hH.cl 0 3 rfl rfl; have q0_4 := hH.cl 0 4 rfl rfl; have l0_ := hH.bl 0 rfl
 go_wp2_with fail
 clear q0_0 q0_1 q0_2 q0_3 q0_4 l0_
 replace hH := hH.nilI
 replace hH : Held w wn2 [aB (w.heap.size) 29 [.int .i64 k, .int .i64 p, .int .i64 n, .slice aV m cV, .slice aO op.length cO], aI (.slice al AL.length cl) AL, aI (.slice none 0 0) []] := hH
 go_loopw [3, 9] (fun vn i wr => ∃ (j : Nat), j ≤ AL.length ∧ i = .int .i64 (j : Int) ∧ Held w wr [aB (w.heap.size) 29 [.int .i64 k, .int .i64 p, .int .i64 n, .slice aV m cV, .slice aO op.length cO], aI (.slice al AL.length cl) AL, aI vn (CL j)]) (fun vn i wr => AL.length - (RowKit.intOf i).toNat)
 case atStart => exact ⟨0, Nat.zero_le _, rfl, by rw [HC0.out]; exact hH⟩
 case round =>
  clear hH
  obtain ⟨j, hj, rfl, hH⟩ := hrel
  obtain ⟨wq, rfl⟩ : ∃ q, q = wr := ⟨wr, rfl⟩
  have hcj := HCLN.out j
  obtain ⟨NJ, hNJ⟩ : ∃ q, CL j = q := ⟨_, rfl⟩
  rw [hNJ] at hH hcj
  have HNJ := Lib.hid hNJ; clear hNJ
  obtain ⟨an, cn, rfl⟩ := (hH.own (k := 2) rfl).shapeN rfl
  by_cases hlt : j < AL.length
  ·
   obtain ⟨bA, oA, x, hVa, hcx, hx, _⟩ := (hH.ints (k := 1) rfl).get (i := j) hlt
   subst hVa
   have HX := Lib.hid hx; clear hx
   have q0_0 := hH.cl 0 0 rfl rfl; have q0_1 := hH.cl 0 1 rfl rfl; have q0_2 := hH.cl 0 2 rfl rfl; have q0_3 := hH.cl 0 3 rfl rfl; have q0_4 := hH.cl 0 4 rfl rfl; have l0_ := hH.bl 0 rfl
   go_wp2_with fail
   clear q0_0 q0_1 q0_2 q0_3 q0_4 l0_
   refine (hasInt_any _ op x _ (hO.ext hH.ext)).mono ?_; rintro e4 w4 ⟨rfl, rfl⟩
   by_cases hh : hasL op x = true
   ·
    have HS := Lib.hid (HCN.out j x HX.out hh); rw [HNJ.out] at HS; rw [hh]; clear hh
    have q0_0 := hH.cl 0 0 rfl rfl; have q0_1 := hH.cl 0 1 rfl rfl; have q0_2 := hH.cl 0 2 rfl rfl; have q0_3 := hH.cl 0 3 rfl rfl; have q0_4 := hH.cl 0 4 rfl rfl; have l0_ := hH.bl 0 rfl
    go_wp2_with fail
    go_roundw
    case rel => exact ⟨j + 1, by omega, by go_num, by rw [HS.out]; exact hH⟩
    case measure => simp [RowKit.intOf]; omega
   ·
    have HS := Lib.hid (HCY.out j x HX.out (eq_false_of_ne_true hh)); rw [HNJ.out] at HS; rw [eq_false_of_ne_true hh]; clear hh
    have q0_0 := hH.cl 0 0 rfl rfl; have q0_1 := hH.cl 0 1 rfl rfl; have q0_2 := hH.cl 0 2 rfl rfl; have q0_3 := hH.cl 0 3 rfl rfl; have q0_4 := hH.cl 0 4 rfl rfl; have l0_ := hH.bl 0 rfl
    go_wp2_with (at_builtin; refine wpList_app _ rfl _ _ 27 rfl _ _ rfl rfl _ (run_push _ _ w.heap.size _ NJ x (hH.own (k := 2) rfl) (by omega) hH.size) ?_; rintro v6 w6 ⟨o6, g6, n6⟩)
    have hX := hH.pushed (k := 2) rfl o6 g6 n6
    go_roundw
    case rel => exact ⟨j + 1, by omega, by go_num, by rw [HS.out]; exact hX⟩
    case measure => simp [RowKit.intOf]; omega
  ·
   have hje : j = AL.length := by omega
   have HO := Lib.hid (hH.own (k := 2) rfl); have HE := Lib.hid hH.ext
   have HF : Hid (closedL ts op = NJ) := Lib.hid (by rw [HCE.out, ← hje, HNJ.out])
   clear hH hje
   go_wp2
   go_ret
   exact ⟨_, rfl, by rw [HF.out]; exact HO.out, HE.out⟩
end Go.Proofs.Ytpegckmagiaggaa
