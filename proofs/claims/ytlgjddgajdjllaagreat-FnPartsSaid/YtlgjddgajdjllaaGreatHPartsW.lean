/- shareLabel, PartsOf of the program. -/
import Derived.Test.YtlgjddgajdjllaaGreatHNetW
set_option linter.unusedSimpArgs false
set_option linter.unusedVariables false
set_option maxRecDepth 100000
set_option maxHeartbeats 8000000
namespace Go.Proofs.YtlgjddgajdjllaaGreat
open Go.RowKit
theorem shareL_drop {a b : List Int} {j : Nat} {x : Int} (h : a[j]? = some x) (hx : hasL b x = false) : shareL (a.take (j + 1)) b = shareL (a.take j) b := by
  unfold shareL
  rw [take_snoc' h, List.any_append]
  simp [hx]
theorem shareL_yes {a b : List Int} {j : Nat} {x : Int} (h : a[j]? = some x) (hx : hasL b x = true) : shareL a b = true :=
  shareL_iff.2 ⟨x, List.mem_of_getElem? h, (hasL_iff _ _).1 hx⟩
theorem shareLabel_any (va vb : Value) (a b : List Int) (w : World) (ha : IntS w va a) (hb : IntS w vb b) : Calls Tryz.prog 45 #[va, vb] w fun e w' => e = .returned (.bool (shareL a b)) ∧ w = w' := by
 obtain ⟨x, cap, rfl, hc1, hc2⟩ := ha.val
 obtain ⟨R, hR⟩ : ∃ R, shareL a b = R := ⟨_, rfl⟩
 rw [hR]
 have HR := Lib.hid hR; clear hR
 go_enter Tryz.func45, Tryz.ntmps45
 go_wp2
 go_loop [9] (fun i => ∃ j : Nat, j ≤ a.length ∧ i = .int .i64 (j : Int) ∧ Hid (shareL (a.take j) b = false)) (fun i => a.length - (RowKit.intOf i).toNat)
 case atStart => exact ⟨0, Nat.zero_le _, rfl, Lib.hid (by rw [List.take_zero]; rfl)⟩
 obtain ⟨j, hj, rfl, HS⟩ := hrel
 by_cases hlt : j < a.length
 · obtain ⟨bA, oA, y, rfl, hcell, hy, _⟩ := ha.get hlt
   have HY := Lib.hid hy; clear hy
   go_wp2_with fail
   refine (hasInt_any vb b y _ hb).mono ?_; rintro e1 w1 ⟨rfl, rfl⟩
   cases hx : hasL b y
   · have HS2 : Hid (shareL (a.take (j + 1)) b = false) := Lib.hid (by rw [shareL_drop HY.out hx]; exact HS.out)
     clear hx
     go_wp2_with fail
     go_round
     case rel => exact ⟨j + 1, by omega, by go_num, HS2⟩
     case measure => simp [RowKit.intOf]; omega
   have HE := Lib.hid (show R = true by rw [← HR.out]; exact shareL_yes HY.out hx)
   clear hx
   go_wp2
   go_ret
   exact ⟨by rw [HE.out]; rfl, rfl⟩
 have hje : j = a.length := by omega
 subst hje
 have hS := HS.out
 rw [List.take_length, HR.out] at hS
 have HE := Lib.hid hS; clear hS
 go_wp2
 go_ret
 exact ⟨by rw [HE.out]; rfl, rfl⟩
def fillM (P : List Int) (a b : Int) (k : Nat) : List Int := mrgL (P.take k) a b ++ P.drop k
theorem fillM_zero (P : List Int) (a b : Int) : fillM P a b 0 = P := by simp [fillM, mrgL]
theorem fillM_all (P : List Int) (a b : Int) : fillM P a b P.length = mrgL P a b := by simp [fillM]
theorem fillM_len (P : List Int) (a b : Int) (k : Nat) (h : k ≤ P.length) : (fillM P a b k).length = P.length := by simp [fillM, mrgL]; omega
theorem fillM_get {P : List Int} {a b x : Int} {k : Nat} (h : P[k]? = some x) : (fillM P a b k)[k]? = some x := by
  have hlt := (List.getElem?_eq_some_iff.1 h).1
  unfold fillM
  rw [List.getElem?_append_right (by rw [mrgL_length, List.length_take]; omega), mrgL_length, List.length_take, show k - min k P.length = 0 by omega, List.getElem?_drop]
  exact h
theorem fillM_step {P : List Int} {a b x : Int} {k : Nat} (h : P[k]? = some x) : (if x = b then (fillM P a b k).set k a else fillM P a b k) = fillM P a b (k + 1) := by
  obtain ⟨hlt, rfl⟩ := List.getElem?_eq_some_iff.1 h
  have e2 : (mrgL (P.take k) a b).length = k := by rw [mrgL_length, List.length_take]; omega
  unfold fillM
  rw [List.take_succ_eq_append_getElem hlt, List.drop_eq_getElem_cons hlt]
  have e3 : mrgL (P.take k ++ [P[k]]) a b = mrgL (P.take k) a b ++ [if P[k] = b then a else P[k]] := by unfold mrgL; rw [List.map_append]; rfl
  rw [e3, List.append_assoc]
  by_cases e : P[k] = b
  · rw [if_pos e, if_pos e, List.set_append_right _ _ (by omega), e2, Nat.sub_self, List.set_cons_zero]; rfl
  · rw [if_neg e, if_neg e]; rfl
def clsL (P : List Int) (first : Nat) (k : Nat) : List Int := ((List.range k).filter fun q => atL P q == (first : Int)).map fun q : Nat => (q : Int)
theorem clsL_succ (P : List Int) (first k : Nat) : clsL P first (k + 1) = clsL P first k ++ if atL P k = (first : Int) then [(k : Int)] else [] := by
  unfold clsL
  rw [List.range_succ, List.filter_append, List.map_append]
  congr 1
  by_cases e : atL P k = (first : Int)
  · simp [e]
  · simp [e]
theorem clsL_len (P : List Int) (first k : Nat) : (clsL P first k).length ≤ k := by
  unfold clsL
  rw [List.length_map]
  exact Nat.le_trans (List.length_filter_le _ _) (by simp)
def partsL (P : List Int) (T : Nat) (m : Nat) : List (List Int) := (List.range m).filterMap fun first => if (clsL P first T).isEmpty = true then none else some (clsL P first T)
theorem partsL_succ (P : List Int) (T m : Nat) : partsL P T (m + 1) = partsL P T m ++ if (clsL P m T).isEmpty = true then [] else [clsL P m T] := by
  unfold partsL
  rw [List.range_succ, List.filterMap_append]
  congr 1
  cases e : (clsL P m T).isEmpty with
  | true => rw [List.filterMap_cons, e]; rfl
  | false => rw [List.filterMap_cons, e]; rfl
theorem partsL_len (P : List Int) (T m : Nat) : (partsL P T m).length ≤ m := by
  unfold partsL
  exact Nat.le_trans (List.length_filterMap_le _ _) (by simp)
theorem partsOf_any {k p n : Int} (hr : ringOk k p n = true) {dm : Int → Int} {U : List Int} {ts : List (NT k p n)} {op : List Int} (hN : IsN k p n dm U ts op) (tv ov : Value) (w : World) (hT : TensS w tv (ts.map (tenOf dm))) (hO : IntS w ov op) :
 Calls Tryz.prog 14 #[.agg #[.int .i64 k, .int .i64 p, .int .i64 n, tv, ov]] w fun e w' => ∃ u vs P, e = .returned u ∧ Held w w' [aLs u vs (partsL P ts.length ts.length)] ∧ Mrgs (idL ts.length) (pairsL (ts.map (·.1)) ts.length) P ∧ P.length = ts.length ∧ ∀ q ∈ P, 0 ≤ q ∧ q < (ts.length : Int) := by
 obtain ⟨m, aV, cV, aO, cO, rfl, rfl, hcT1, hcT2, hcO1, hcO2, hm12, hop12, HM, HD3, hTl⟩ := net_in hN hT hO
 have hT0 := hT; have hO0 := hO; have HR := Lib.hid hr; have HN := Lib.hid hN; clear hr hN; try rw [HM.out]
 go_enter Tryz.func14, Tryz.ntmps14
 go_upto_region 1 with fail
 have hH : Held w w [] := Held.new (Ext.refl w) 0
 obtain ⟨hB, hsz⟩ := hH.laid #[.int .i64 k, .int .i64 p, .int .i64 n, .slice aV m cV, .slice aO op.length cO] 29
 generalize w.alloc (.cells #[.int .i64 k, .int .i64 p, .int .i64 n, .slice aV m cV, .slice aO op.length cO] 29) = wn1 at hB hsz ⊢
 replace hH : Held w wn1 [nB w.heap.size k p n aV m cV aO op.length cO] := hB
 have HSZwn1 := Lib.hid (show wn1.heap.size = w.heap.size + 1 by rw [hsz]); clear hB hsz
 obtain ⟨q0_0, q0_1, q0_2, q0_3, q0_4, l0_⟩ := hH.c5 0 rfl
 go_wp2_with fail
 clear q0_0 q0_1 q0_2 q0_3 q0_4 l0_
 refine (networkOk_any HR.out HN.out _ _ _ (hT0.ext hH.ext) (hO0.ext hH.ext)).mono ?_; rintro ewn2 wn2 ⟨rfl, hwn2⟩
 replace hH : Held w wn2 [nB w.heap.size k p n aV m cV aO op.length cO] := hH.grow hwn2
 clear hwn2
 have hmk := mkInts m (by omega)
 obtain ⟨q0_0, q0_1, q0_2, q0_3, q0_4, l0_⟩ := hH.c5 0 rfl
 go_wp2_with fail
 clear q0_0 q0_1 q0_2 q0_3 q0_4 l0_
 clear hmk
 obtain ⟨pb, hpb⟩ : ∃ q, wn2.heap.size = q := ⟨_, rfl⟩
 have hB := (hH.mores 1).madeI 1 m (by omega)
 rw [hpb] at hB ⊢
 generalize wn2.alloc (.cells (madeCells #[.int .i64 0] m) 3) = wn3 at hB ⊢
 clear hpb
 replace hH : Held w wn3 [nB w.heap.size k p n aV m cV aO op.length cO, aI (.slice (some ⟨pb, 0, none⟩) m m) (List.replicate m 0)] := hB
 clear hB
 have HIL := Lib.hid (idL_length m)
 go_loopw [25] (fun i wr => ∃ j : Nat, j ≤ m ∧ i = .int .i64 (j : Int) ∧ Held w wr [nB w.heap.size k p n aV m cV aO op.length cO, aI (.slice (some ⟨pb, 0, none⟩) m m) (fillZ (idL m) j)]) (fun i wr => m - (RowKit.intOf i).toNat)
 case atStart => exact ⟨0, Nat.zero_le _, rfl, by rw [fillZ_zero, HIL.out]; exact hH⟩
 clear hH
 obtain ⟨j, hj, rfl, hH⟩ := hrel
 by_cases hlt : j < m
 ·
  have hij : (idL m)[j]? = some (j : Int) := by unfold idL; rw [List.getElem?_map, List.getElem?_range hlt]; rfl
  have HJ := Lib.hid (fillZ_set hij)
  obtain ⟨F, hF⟩ : ∃ F, fillZ (idL m) j = F := ⟨_, rfl⟩
  have hFl : F.length = m := by rw [← hF, fillZ_len _ j (by rw [HIL.out]; exact hj), HIL.out]
  rw [hF] at hH HJ
  obtain ⟨z, hz⟩ : ∃ z, F[j]? = some z := ⟨_, List.getElem?_eq_getElem (by omega)⟩
  obtain ⟨hcF, hfF⟩ := (hH.own (k := 1) rfl).cell hz
  have hlF := ((hH.own (k := 1) rfl).block_lt rfl).2
  have hH2 := hH.setI (k := 1) rfl j (by omega) (j : Int)
  clear hF hij hz hFl
  go_wp2_with fail
  go_roundw
  case rel => exact ⟨j + 1, by omega, by go_num, by rw [← HJ.out]; exact hH2⟩
  case measure => simp [RowKit.intOf]; omega
 have hje : j = m := by omega
 subst hje
 obtain ⟨m, hmj⟩ : ∃ q, q = j := ⟨j, rfl⟩
 subst hmj
 obtain ⟨wa, rfl⟩ : ∃ q, q = wr := ⟨wr, rfl⟩
 replace hH : Held w wa [nB w.heap.size k p n aV m cV aO op.length cO, aI (.slice (some ⟨pb, 0, none⟩) m m) (idL m)] := by have h := hH; rw [show fillZ (idL m) m = idL m by have h2 := fillZ_all (idL m); rw [HIL.out] at h2; exact h2] at h; exact h
 have hPL : Hid ((ts.map (·.1)).length = m) := Lib.hid (by rw [List.length_map]; exact HM.out)
 obtain ⟨q0_0, q0_1, q0_2, q0_3, q0_4, l0_⟩ := hH.c5 0 rfl
 go_wp2_with fail
 clear q0_0 q0_1 q0_2 q0_3 q0_4 l0_
 go_loopw [36] (fun i wr => ∃ (i' : Nat) (P : List Int), i' ≤ m ∧ i = .int .i64 (i' : Int) ∧ Held w wr [nB w.heap.size k p n aV m cV aO op.length cO, aI (.slice (some ⟨pb, 0, none⟩) m m) P] ∧ Hid (Mrgs (idL m) (pairsL (ts.map (·.1)) i') P ∧ P.length = m ∧ ∀ q ∈ P, 0 ≤ q ∧ q < (m : Int))) (fun i wr => m - (RowKit.intOf i).toNat)
 case atStart => exact ⟨0, _, Nat.zero_le _, rfl, hH, Lib.hid ⟨.nil _, HIL.out, fun q hq => by unfold idL at hq; obtain ⟨z, hz, rfl⟩ := List.mem_map.1 hq; have := List.mem_range.1 hz; omega⟩⟩
 clear hH
 obtain ⟨i, P, hi, rfl, hH, HP⟩ := hrel
 by_cases hlt : i < m
 ·
  obtain ⟨bT, oT, tlI, xsI, e1I, f1I, e2I, f2I, e3I, m3I, f3I, hV, HTJI, HTII, hu0I, hu1I, hu2I, hTuI, hTLI, hTDI, hTXI, _, _, _, _⟩ := hT.ten HN.out.ten (j := i) (by rw [hTl.out]; exact hlt); subst hV
  have HLI : Hid (labL (ts.map (·.1)) i = tlI) := Lib.hid (labL_of (by rw [List.getElem?_map, HTJI.out]; rfl))
  obtain ⟨q0_0, q0_1, q0_2, q0_3, q0_4, l0_⟩ := hH.c5 0 rfl; have c_hu0I := hH.ext.cell hu0I; have c_hu1I := hH.ext.cell hu1I; have c_hu2I := hH.ext.cell hu2I
  go_upto_region 12 with fail
  clear q0_0 q0_1 q0_2 q0_3 q0_4 l0_ c_hu0I c_hu1I c_hu2I
  obtain ⟨hB, hsz⟩ := hH.laid #[.slice e1I tlI.length f1I, .slice e2I tlI.length f2I, .slice e3I m3I f3I] 35
  generalize wr.alloc (.cells #[.slice e1I tlI.length f1I, .slice e2I tlI.length f2I, .slice e3I m3I f3I] 35) = wn4 at hB hsz ⊢
  replace hH : Held w wn4 [nB w.heap.size k p n (some ⟨bT, oT, none⟩) m cV aO op.length cO, aI (.slice (some ⟨pb, 0, none⟩) m m) P, tB wr.heap.size e1I tlI.length f1I e2I tlI.length f2I e3I m3I f3I] := hB
  have HSZwn4 := Lib.hid (show wn4.heap.size = wr.heap.size + 1 by rw [hsz]); clear hB hsz
  obtain ⟨tb, htb⟩ : ∃ q, wr.heap.size = q := ⟨_, rfl⟩
  rw [htb] at hH ⊢
  clear htb
  obtain ⟨q0_0, q0_1, q0_2, q0_3, q0_4, l0_⟩ := hH.c5 0 rfl; obtain ⟨q2_0, q2_1, q2_2, l2_⟩ := hH.c3 2 rfl; have c_hu0I := hH.ext.cell hu0I; have c_hu1I := hH.ext.cell hu1I; have c_hu2I := hH.ext.cell hu2I
  go_wp2_with fail
  clear q0_0 q0_1 q0_2 q0_3 q0_4 l0_ q2_0 q2_1 q2_2 l2_ c_hu0I c_hu1I c_hu2I
  go_loopw [7] (fun j wr => ∃ (j' : Nat) (P : List Int), j' ≤ i ∧ j = .int .i64 (j' : Int) ∧ Held w wr [nB w.heap.size k p n (some ⟨bT, oT, none⟩) m cV aO op.length cO, aI (.slice (some ⟨pb, 0, none⟩) m m) P, tB tb e1I tlI.length f1I e2I tlI.length f2I e3I m3I f3I] ∧ Hid (Mrgs (idL m) (pairsL (ts.map (·.1)) i ++ pairTo (ts.map (·.1)) i j') P ∧ P.length = m ∧ ∀ q ∈ P, 0 ≤ q ∧ q < (m : Int))) (fun j wr => i - (RowKit.intOf j).toNat)
  case atStart => exact ⟨0, P, Nat.zero_le _, rfl, hH, Lib.hid ⟨by have e : pairTo (ts.map (·.1)) i 0 = [] := rfl; rw [e, List.append_nil]; exact HP.out.1, HP.out.2⟩⟩
  clear hH HP P
  obtain ⟨j, P, hj, rfl, hH, HP⟩ := hrel
  by_cases hlj : j < i
  ·
   obtain ⟨_, _, tlJ, xsJ, e1J, f1J, e2J, f2J, e3J, m3J, f3J, hV, HTJJ, HTIJ, hu0J, hu1J, hu2J, hTuJ, hTLJ, hTDJ, hTXJ, _, _, _, _⟩ := hT.ten HN.out.ten (j := j) (by rw [hTl.out]; exact Nat.lt_trans hlj hlt); cases hV
   have HLJ : Hid (labL (ts.map (·.1)) j = tlJ) := Lib.hid (labL_of (by rw [List.getElem?_map, HTJJ.out]; rfl))
   have hjm : j < m := Nat.lt_trans hlj hlt
   obtain ⟨q0_0, q0_1, q0_2, q0_3, q0_4, l0_⟩ := hH.c5 0 rfl; obtain ⟨q2_0, q2_1, q2_2, l2_⟩ := hH.c3 2 rfl; have c_hu0I := hH.ext.cell hu0I; have c_hu1I := hH.ext.cell hu1I; have c_hu2I := hH.ext.cell hu2I; have c_hu0J := hH.ext.cell hu0J; have c_hu1J := hH.ext.cell hu1J; have c_hu2J := hH.ext.cell hu2J
   go_upto_region 15 with fail
   clear q0_0 q0_1 q0_2 q0_3 q0_4 l0_ q2_0 q2_1 q2_2 l2_ c_hu0I c_hu1I c_hu2I c_hu0J c_hu1J c_hu2J
   refine wp_region_steps ?Fs (fun b t wx => Held w wx [nB w.heap.size k p n (some ⟨bT, oT, none⟩) m cV aO op.length cO, aI (.slice (some ⟨pb, 0, none⟩) m m) P, tB tb e1I tlI.length f1I e2I tlI.length f2I e3I m3I f3I] ∧ (b 0 = true → t 0 = .pointer (some ⟨tb, 0, none⟩)) ∧ (b 1 = true → t 1 = .slice e1I tlI.length f1I) ∧ (b 2 = true → t 2 = .pointer (some ⟨w.heap.size, 3, none⟩)) ∧ (b 3 = true → t 3 = .slice (some ⟨bT, oT, none⟩) m cV) ∧ (b 4 = true → t 4 = .int .i64 (j : Int)) ∧ (b 5 = true → t 5 = .pointer (some ⟨bT, oT + j * 3, none⟩)) ∧ (b 6 = true → t 6 = .pointer (some ⟨bT, oT + j * 3, none⟩)) ∧ (b 7 = true → t 7 = .slice e1J tlJ.length f1J) ∧ (b 8 = true → t 8 = .bool (shareL tlI tlJ)) ∧ (b 9 = true → t 9 = .bool (!shareL tlI tlJ))) ?hFs (by kernel_rfl) (by kernel_rfl) ?hJs ?hSs ?hEs
   (case hFs => intro t; simp only [putAll, Act.put, List.setIfInBounds_toArray, List.set_cons_zero, List.set_cons_succ, Nat.reduceAdd, Nat.zero_add]; exact rfl)
   case hJs => exact ⟨hH.grow ((Ext.refl _).drew), nof, nof, nof, nof, nof, nof, nof, nof, nof, nof⟩
   case hSs => as_aux_lemma =>
    refine st 1 rfl (fun b t wx hJ hb hd hcl Kc hK => ?_) ?_
    · obtain ⟨hH, hV⟩ := hJ
      have c_hu0I := hH.ext.cell hu0I; have c_hu1I := hH.ext.cell hu1I; have c_hu2I := hH.ext.cell hu2I; have c_hu0J := hH.ext.cell hu0J; have c_hu1J := hH.ext.cell hu1J; have c_hu2J := hH.ext.cell hu2J
      go_simp
      apply sk hK
      · rfl
      exact ⟨hH, rp (fun _ => rfl) hV⟩
    refine st 2 rfl (fun b t wx hJ hb hd hcl Kc hK => ?_) ?_
    · obtain ⟨hH, hV⟩ := hJ
      have d0 := so hd 0; have r0 := hV.1 d0; have c_hu0I := hH.ext.cell hu0I; have c_hu1I := hH.ext.cell hu1I; have c_hu2I := hH.ext.cell hu2I; have c_hu0J := hH.ext.cell hu0J; have c_hu1J := hH.ext.cell hu1J; have c_hu2J := hH.ext.cell hu2J; have q2_0 := hH.cl 2 0 rfl rfl
      go_simp
      apply sk hK
      · (try simp only [r0]); rfl
      exact ⟨hH, jA (rp (fun _ => rfl)) hV⟩
    refine st 3 rfl (fun b t wx hJ hb hd hcl Kc hK => ?_) ?_
    · obtain ⟨hH, hV⟩ := hJ
      have c_hu0I := hH.ext.cell hu0I; have c_hu1I := hH.ext.cell hu1I; have c_hu2I := hH.ext.cell hu2I; have c_hu0J := hH.ext.cell hu0J; have c_hu1J := hH.ext.cell hu1J; have c_hu2J := hH.ext.cell hu2J
      go_simp
      apply sk hK
      · rfl
      exact ⟨hH, jB (rp (fun _ => rfl)) hV⟩
    refine st 4 rfl (fun b t wx hJ hb hd hcl Kc hK => ?_) ?_
    · obtain ⟨hH, hV⟩ := hJ
      have d2 := so hd 2; have r2 := hV.2.2.1 d2; have c_hu0I := hH.ext.cell hu0I; have c_hu1I := hH.ext.cell hu1I; have c_hu2I := hH.ext.cell hu2I; have c_hu0J := hH.ext.cell hu0J; have c_hu1J := hH.ext.cell hu1J; have c_hu2J := hH.ext.cell hu2J; have q0_3 := hH.cl 0 3 rfl rfl
      go_simp
      apply sk hK
      · (try simp only [r2]); rfl
      exact ⟨hH, jB (jA (rp (fun _ => rfl))) hV⟩
    refine st 5 rfl (fun b t wx hJ hb hd hcl Kc hK => ?_) ?_
    · obtain ⟨hH, hV⟩ := hJ
      have c_hu0I := hH.ext.cell hu0I; have c_hu1I := hH.ext.cell hu1I; have c_hu2I := hH.ext.cell hu2I; have c_hu0J := hH.ext.cell hu0J; have c_hu1J := hH.ext.cell hu1J; have c_hu2J := hH.ext.cell hu2J
      go_simp
      apply sk hK
      · rfl
      exact ⟨hH, jD (rp (fun _ => rfl)) hV⟩
    refine st 6 rfl (fun b t wx hJ hb hd hcl Kc hK => ?_) ?_
    · obtain ⟨hH, hV⟩ := hJ
      have d3 := so hd 3; have d4 := so hd 4; have r3 := hV.2.2.2.1 d3; have r4 := hV.2.2.2.2.1 d4; have c_hu0I := hH.ext.cell hu0I; have c_hu1I := hH.ext.cell hu1I; have c_hu2I := hH.ext.cell hu2I; have c_hu0J := hH.ext.cell hu0J; have c_hu1J := hH.ext.cell hu1J; have c_hu2J := hH.ext.cell hu2J
      go_simp
      apply sk hK
      · (try simp only [r3, r4]); rfl
      exact ⟨hH, jD (jA (rp (fun _ => rfl))) hV⟩
    refine st 7 rfl (fun b t wx hJ hb hd hcl Kc hK => ?_) ?_
    · obtain ⟨hH, hV⟩ := hJ
      have d5 := so hd 5; have r5 := hV.2.2.2.2.2.1 d5; have c_hu0I := hH.ext.cell hu0I; have c_hu1I := hH.ext.cell hu1I; have c_hu2I := hH.ext.cell hu2I; have c_hu0J := hH.ext.cell hu0J; have c_hu1J := hH.ext.cell hu1J; have c_hu2J := hH.ext.cell hu2J
      go_simp
      apply sk hK
      · (try simp only [r5]); rfl
      exact ⟨hH, jD (jB (rp (fun _ => rfl))) hV⟩
    refine st 8 rfl (fun b t wx hJ hb hd hcl Kc hK => ?_) ?_
    · obtain ⟨hH, hV⟩ := hJ
      have d6 := so hd 6; have r6 := hV.2.2.2.2.2.2.1 d6; have c_hu0I := hH.ext.cell hu0I; have c_hu1I := hH.ext.cell hu1I; have c_hu2I := hH.ext.cell hu2I; have c_hu0J := hH.ext.cell hu0J; have c_hu1J := hH.ext.cell hu1J; have c_hu2J := hH.ext.cell hu2J
      go_simp
      apply sk hK
      · (try simp only [r6]); rfl
      exact ⟨hH, jD (jB (jA (rp (fun _ => rfl)))) hV⟩
    refine st 9 rfl (fun b t wx hJ hb hd hcl Kc hK => ?_) ?_
    · obtain ⟨hH, hV⟩ := hJ
      have d1 := so hd 1; have d7 := so hd 7; have r1 := hV.2.1 d1; have r7 := hV.2.2.2.2.2.2.2.1 d7
      go_simp
      go_at_call 45
      refine (shareLabel_any _ _ tlI tlJ _ (hTLI.ext hH.ext) (hTLJ.ext hH.ext)).mono ?_; rintro e8 w8 ⟨rfl, rfl⟩
      (try go_simp)
      apply sk hK
      · (try simp only [r1, r7]); rfl
      exact ⟨by have hX := hH; simpa only [List.set_cons_zero, List.set_cons_succ, updB, updV, blkOf_mk, tup0_mk, partsOf3, Nat.reduceBEq, cond_true, cond_false, hb, d1, d7, r1, r7] using hX, jD (jD (rp (fun _ => rfl))) hV⟩
    refine st 10 rfl (fun b t wx hJ hb hd hcl Kc hK => ?_) ?_
    · obtain ⟨hH, hV⟩ := hJ
      have d8 := so hd 8; have r8 := hV.2.2.2.2.2.2.2.2.1 d8; have c_hu0I := hH.ext.cell hu0I; have c_hu1I := hH.ext.cell hu1I; have c_hu2I := hH.ext.cell hu2I; have c_hu0J := hH.ext.cell hu0J; have c_hu1J := hH.ext.cell hu1J; have c_hu2J := hH.ext.cell hu2J
      go_simp
      apply sk hK
      · (try simp only [r8]); rfl
      exact ⟨hH, jD (jD (jA (fun _ => fun _ => rfl))) hV⟩
    exact AllSteps.nil
   intro b t ws hJ hall
   obtain ⟨hHs, v0, v1, v2, v3, v4, v5, v6, v7, v8, v9⟩ := hJ
   have a0 := hall 0 (by decide); have a1 := hall 1 (by decide); have a2 := hall 2 (by decide); have a3 := hall 3 (by decide); have a4 := hall 4 (by decide); have a5 := hall 5 (by decide); have a6 := hall 6 (by decide); have a7 := hall 7 (by decide); have a8 := hall 8 (by decide); have a9 := hall 9 (by decide)
   (try simp only [a0, a1, a2, a3, a4, a5, a6, a7, a8, a9, cond_true] at hHs)
   replace v0 := v0 a0; replace v1 := v1 a1; replace v2 := v2 a2; replace v3 := v3 a3; replace v4 := v4 a4; replace v5 := v5 a5; replace v6 := v6 a6; replace v7 := v7 a7; replace v8 := v8 a8; replace v9 := v9 a9
   clear hall a0 a1 a2 a3 a4 a5 a6 a7 a8 a9
   generalize t 9 = x9 at hHs v9 ⊢; generalize t 8 = x8 at hHs v8 ⊢; generalize t 7 = x7 at hHs v7 ⊢; generalize t 6 = x6 at hHs v6 ⊢; generalize t 5 = x5 at hHs v5 ⊢; generalize t 4 = x4 at hHs v4 ⊢; generalize t 3 = x3 at hHs v3 ⊢; generalize t 2 = x2 at hHs v2 ⊢; generalize t 1 = x1 at hHs v1 ⊢; generalize t 0 = x0 at hHs v0 ⊢; subst v0; subst v1; subst v2; subst v3; subst v4; subst v5; subst v6; subst v7; subst v8; subst v9
   clear b
   replace hH := hHs; clear hHs
   replace hH : Held w ws [nB w.heap.size k p n (some ⟨bT, oT, none⟩) m cV aO op.length cO, aI (.slice (some ⟨pb, 0, none⟩) m m) P, tB tb e1I tlI.length f1I e2I tlI.length f2I e3I m3I f3I] := hH
   cases hsh : shareL tlI tlJ
   ·
    have HP2 := Lib.hid (show pairTo (ts.map (·.1)) i (j + 1) = pairTo (ts.map (·.1)) i j by rw [pairTo_succ, HLI.out, HLJ.out, hsh]; exact List.append_nil _)
    clear hsh
    go_wp2_with fail
    go_roundw
    case rel => exact ⟨j + 1, P, by omega, by go_num, hH, Lib.hid (by rw [HP2.out]; exact HP.out)⟩
    case measure => simp [RowKit.intOf]; omega
   have HP2 := Lib.hid (show pairTo (ts.map (·.1)) i (j + 1) = pairTo (ts.map (·.1)) i j ++ [(i, j)] by rw [pairTo_succ, HLI.out, HLJ.out, hsh]; rfl)
   clear hsh
   obtain ⟨x, hx⟩ : ∃ x, P[i]? = some x := ⟨_, List.getElem?_eq_getElem (by have := HP.out.2.1; omega)⟩
   obtain ⟨y, hy⟩ : ∃ y, P[j]? = some y := ⟨_, List.getElem?_eq_getElem (by have := HP.out.2.1; omega)⟩
   have hcx := ((hH.own (k := 1) rfl).cell hx).1
   have hcy := ((hH.own (k := 1) rfl).cell hy).1
   have hlP := ((hH.own (k := 1) rfl).block_lt rfl).2
   obtain ⟨hx0, hx1⟩ := HP.out.2.2 x (List.mem_of_getElem? hx)
   obtain ⟨hy0, hy1⟩ := HP.out.2.2 y (List.mem_of_getElem? hy)
   have hax : atL P i = x := by unfold atL; rw [List.getD_eq_getElem?_getD, hx]; rfl
   have hay : atL P j = y := by unfold atL; rw [List.getD_eq_getElem?_getD, hy]; rfl
   have HAX := Lib.hid hax; have HAY := Lib.hid hay; have HBX := Lib.hid (And.intro hx0 hx1); have HBY := Lib.hid (And.intro hy0 hy1)
   clear hx hy hax hay hx0 hx1 hy0 hy1
   have hil : (i : Int) < (m : Int) := by omega
   have hjl : (j : Int) < (m : Int) := by omega
   have hi0 : (0 : Int) ≤ (i : Int) := by omega
   have hj0 : (0 : Int) ≤ (j : Int) := by omega
   rcases Int.lt_trichotomy x y with hxy | rfl | hxy
   ·
    have hn1 : ¬ y < x := by omega
    have hn2 : x ≤ y := by omega
    have hn3 : ¬ y ≤ x := by omega
    have hn4 : min x y = x := by omega
    have hn5 : max x y = y := by omega
    go_upto_region 17 with (go_quiet (fail))
    clear hn1 hn2 hn3 hn4 hn5 hxy
    have hHq := hH.grow ((Ext.refl _).drewN nq)
    generalize ws.drewN nq = wq at hHq ⊢
    clear hH
    have hH := hHq; clear hHq
    go_wp2_with fail
    go_loopw [76] (fun i wr => ∃ kk : Nat, kk ≤ m ∧ i = .int .i64 (kk : Int) ∧ Held w wr [nB w.heap.size k p n (some ⟨bT, oT, none⟩) m cV aO op.length cO, aI (.slice (some ⟨pb, 0, none⟩) m m) (fillM P x y kk), tB tb e1I tlI.length f1I e2I tlI.length f2I e3I m3I f3I]) (fun i wr => m - (RowKit.intOf i).toNat)
    case atStart => exact ⟨0, Nat.zero_le _, rfl, by rw [fillM_zero]; exact hH⟩
    clear hH
    obtain ⟨k', hk, rfl, hH⟩ := hrel
    by_cases hlk : k' < m
    ·
     obtain ⟨z, hz⟩ : ∃ z, P[k']? = some z := ⟨_, List.getElem?_eq_getElem (by have := HP.out.2.1; omega)⟩
     have HS := fillM_step (a := x) (b := y) hz
     have hFl := fillM_len P x y k' (by have := HP.out.2.1; omega)
     rw [HP.out.2.1] at hFl
     have hzF := fillM_get (a := x) (b := y) hz
     obtain ⟨F, hF⟩ : ∃ F, fillM P x y k' = F := ⟨_, rfl⟩
     rw [hF] at hH HS hFl hzF
     obtain ⟨hcF, hfF⟩ := (hH.own (k := 1) rfl).cell hzF
     have hlF := ((hH.own (k := 1) rfl).block_lt rfl).2
     have hH2 := hH.setI (k := 1) rfl k' (by omega) x
     clear hF hz hzF hFl
     by_cases hzh : z = y
     · rw [if_pos hzh] at HS
       have HS := Lib.hid HS
       subst hzh
       go_wp2_with fail
       go_roundw
       case rel => exact ⟨k' + 1, by omega, by go_num, by rw [← HS.out]; exact hH2⟩
       case measure => simp [RowKit.intOf]; omega
     rw [if_neg hzh] at HS
     have HS := Lib.hid HS
     go_wp2_with fail
     go_roundw
     case rel => exact ⟨k' + 1, by omega, by go_num, by rw [← HS.out]; exact hH⟩
     case measure => simp [RowKit.intOf]; omega
    have hke : k' = m := by omega
    rw [hke] at hH
    have e : fillM P x y m = mrgL P x y := by have h := fillM_all P x y; rw [HP.out.2.1] at h; exact h
    rw [e] at hH
    clear e
    have HPN : Hid (Mrgs (idL m) (pairsL (ts.map (·.1)) i ++ pairTo (ts.map (·.1)) i (j + 1)) (mrgL P x y) ∧ (mrgL P x y).length = m ∧ ∀ q ∈ mrgL P x y, 0 ≤ q ∧ q < (m : Int)) := Lib.hid ⟨by rw [HP2.out, ← List.append_assoc]; exact HP.out.1.snoc ⟨.inl (by rw [HAX.out, HAY.out])⟩, by rw [mrgL_length]; exact HP.out.2.1, fun q hq => by
     unfold mrgL at hq; obtain ⟨z, hz, rfl⟩ := List.mem_map.1 hq
     split
     · exact HBX.out
     · exact HP.out.2.2 z hz⟩
    go_wp2_with fail
    go_roundw
    case rel => exact ⟨j + 1, _, by omega, by go_num, hH, HPN⟩
    case measure => simp [RowKit.intOf]; omega
   ·
    go_upto_region 17 with (go_quiet (fail))
    have hHq := hH.grow ((Ext.refl _).drewN nq)
    generalize ws.drewN nq = wq at hHq ⊢
    clear hH
    have hH := hHq; clear hHq
    go_wp2_with fail
    go_loopw [76] (fun i wr => ∃ kk : Nat, kk ≤ m ∧ i = .int .i64 (kk : Int) ∧ Held w wr [nB w.heap.size k p n (some ⟨bT, oT, none⟩) m cV aO op.length cO, aI (.slice (some ⟨pb, 0, none⟩) m m) (fillM P x x kk), tB tb e1I tlI.length f1I e2I tlI.length f2I e3I m3I f3I]) (fun i wr => m - (RowKit.intOf i).toNat)
    case atStart => exact ⟨0, Nat.zero_le _, rfl, by rw [fillM_zero]; exact hH⟩
    clear hH
    obtain ⟨k', hk, rfl, hH⟩ := hrel
    by_cases hlk : k' < m
    ·
     obtain ⟨z, hz⟩ : ∃ z, P[k']? = some z := ⟨_, List.getElem?_eq_getElem (by have := HP.out.2.1; omega)⟩
     have HS := fillM_step (a := x) (b := x) hz
     have hFl := fillM_len P x x k' (by have := HP.out.2.1; omega)
     rw [HP.out.2.1] at hFl
     have hzF := fillM_get (a := x) (b := x) hz
     obtain ⟨F, hF⟩ : ∃ F, fillM P x x k' = F := ⟨_, rfl⟩
     rw [hF] at hH HS hFl hzF
     obtain ⟨hcF, hfF⟩ := (hH.own (k := 1) rfl).cell hzF
     have hlF := ((hH.own (k := 1) rfl).block_lt rfl).2
     have hH2 := hH.setI (k := 1) rfl k' (by omega) x
     clear hF hz hzF hFl
     by_cases hzh : z = x
     · rw [if_pos hzh] at HS
       have HS := Lib.hid HS
       subst hzh
       go_wp2_with fail
       go_roundw
       case rel => exact ⟨k' + 1, by omega, by go_num, by rw [← HS.out]; exact hH2⟩
       case measure => simp [RowKit.intOf]; omega
     rw [if_neg hzh] at HS
     have HS := Lib.hid HS
     go_wp2_with fail
     go_roundw
     case rel => exact ⟨k' + 1, by omega, by go_num, by rw [← HS.out]; exact hH⟩
     case measure => simp [RowKit.intOf]; omega
    have hke : k' = m := by omega
    rw [hke] at hH
    have e : fillM P x x m = mrgL P x x := by have h := fillM_all P x x; rw [HP.out.2.1] at h; exact h
    rw [e] at hH
    clear e
    have HPN : Hid (Mrgs (idL m) (pairsL (ts.map (·.1)) i ++ pairTo (ts.map (·.1)) i (j + 1)) (mrgL P x x) ∧ (mrgL P x x).length = m ∧ ∀ q ∈ mrgL P x x, 0 ≤ q ∧ q < (m : Int)) := Lib.hid ⟨by rw [HP2.out, ← List.append_assoc]; exact HP.out.1.snoc ⟨.inl (by rw [HAX.out, HAY.out])⟩, by rw [mrgL_length]; exact HP.out.2.1, fun q hq => by
     unfold mrgL at hq; obtain ⟨z, hz, rfl⟩ := List.mem_map.1 hq
     split
     · exact HBX.out
     · exact HP.out.2.2 z hz⟩
    go_wp2_with fail
    go_roundw
    case rel => exact ⟨j + 1, _, by omega, by go_num, hH, HPN⟩
    case measure => simp [RowKit.intOf]; omega
   have hn1 : ¬ x < y := by omega
   have hn2 : y ≤ x := by omega
   have hn3 : ¬ x ≤ y := by omega
   have hn4 : min x y = y := by omega
   have hn5 : max x y = x := by omega
   go_upto_region 17 with (go_quiet (fail))
   clear hn1 hn2 hn3 hn4 hn5 hxy
   have hHq := hH.grow ((Ext.refl _).drewN nq)
   generalize ws.drewN nq = wq at hHq ⊢
   clear hH
   have hH := hHq; clear hHq
   go_wp2_with fail
   go_loopw [76] (fun i wr => ∃ kk : Nat, kk ≤ m ∧ i = .int .i64 (kk : Int) ∧ Held w wr [nB w.heap.size k p n (some ⟨bT, oT, none⟩) m cV aO op.length cO, aI (.slice (some ⟨pb, 0, none⟩) m m) (fillM P y x kk), tB tb e1I tlI.length f1I e2I tlI.length f2I e3I m3I f3I]) (fun i wr => m - (RowKit.intOf i).toNat)
   case atStart => exact ⟨0, Nat.zero_le _, rfl, by rw [fillM_zero]; exact hH⟩
   clear hH
   obtain ⟨k', hk, rfl, hH⟩ := hrel
   by_cases hlk : k' < m
   ·
    obtain ⟨z, hz⟩ : ∃ z, P[k']? = some z := ⟨_, List.getElem?_eq_getElem (by have := HP.out.2.1; omega)⟩
    have HS := fillM_step (a := y) (b := x) hz
    have hFl := fillM_len P y x k' (by have := HP.out.2.1; omega)
    rw [HP.out.2.1] at hFl
    have hzF := fillM_get (a := y) (b := x) hz
    obtain ⟨F, hF⟩ : ∃ F, fillM P y x k' = F := ⟨_, rfl⟩
    rw [hF] at hH HS hFl hzF
    obtain ⟨hcF, hfF⟩ := (hH.own (k := 1) rfl).cell hzF
    have hlF := ((hH.own (k := 1) rfl).block_lt rfl).2
    have hH2 := hH.setI (k := 1) rfl k' (by omega) y
    clear hF hz hzF hFl
    by_cases hzh : z = x
    · rw [if_pos hzh] at HS
      have HS := Lib.hid HS
      subst hzh
      go_wp2_with fail
      go_roundw
      case rel => exact ⟨k' + 1, by omega, by go_num, by rw [← HS.out]; exact hH2⟩
      case measure => simp [RowKit.intOf]; omega
    rw [if_neg hzh] at HS
    have HS := Lib.hid HS
    go_wp2_with fail
    go_roundw
    case rel => exact ⟨k' + 1, by omega, by go_num, by rw [← HS.out]; exact hH⟩
    case measure => simp [RowKit.intOf]; omega
   have hke : k' = m := by omega
   rw [hke] at hH
   have e : fillM P y x m = mrgL P y x := by have h := fillM_all P y x; rw [HP.out.2.1] at h; exact h
   rw [e] at hH
   clear e
   have HPN : Hid (Mrgs (idL m) (pairsL (ts.map (·.1)) i ++ pairTo (ts.map (·.1)) i (j + 1)) (mrgL P y x) ∧ (mrgL P y x).length = m ∧ ∀ q ∈ mrgL P y x, 0 ≤ q ∧ q < (m : Int)) := Lib.hid ⟨by rw [HP2.out, ← List.append_assoc]; exact HP.out.1.snoc ⟨.inr (by rw [HAX.out, HAY.out])⟩, by rw [mrgL_length]; exact HP.out.2.1, fun q hq => by
    unfold mrgL at hq; obtain ⟨z, hz, rfl⟩ := List.mem_map.1 hq
    split
    · exact HBY.out
    · exact HP.out.2.2 z hz⟩
   go_wp2_with fail
   go_roundw
   case rel => exact ⟨j + 1, _, by omega, by go_num, hH, HPN⟩
   case measure => simp [RowKit.intOf]; omega
  have hje : j = i := by omega
  subst hje
  have hE : pairsL (ts.map (·.1)) (j + 1) = pairsL (ts.map (·.1)) j ++ pairTo (ts.map (·.1)) j j := pairsL_succ _ _
  have HE := Lib.hid hE; clear hE
  go_wp2_with fail
  go_roundw
  case rel => exact ⟨j + 1, P, by omega, by go_num, hH.sub (.cons_cons _ (.cons_cons _ (.cons _ .slnil))), Lib.hid (by rw [HE.out]; exact HP.out)⟩
  case measure => simp [RowKit.intOf]; omega
 have hie : i = m := by omega
 subst hie
 obtain ⟨m, hmj⟩ : ∃ q, q = i := ⟨i, rfl⟩
 subst hmj
 obtain ⟨wb, rfl⟩ : ∃ q, q = wr := ⟨wr, rfl⟩
 clear hi hlt
 obtain ⟨q0_0, q0_1, q0_2, q0_3, q0_4, l0_⟩ := hH.c5 0 rfl
 go_wp2_with fail
 clear q0_0 q0_1 q0_2 q0_3 q0_4 l0_
 replace hH : Held w wb [nB w.heap.size k p n aV m cV aO op.length cO, aI (.slice (some ⟨pb, 0, none⟩) m m) P, aLs (.slice none 0 0) [] []] := hH.nilLs
 go_loopw [11, 93] (fun vo i wr => ∃ (f : Nat) (vs : List Value), f ≤ m ∧ i = .int .i64 (f : Int) ∧ Held w wr [nB w.heap.size k p n aV m cV aO op.length cO, aI (.slice (some ⟨pb, 0, none⟩) m m) P, aLs vo vs (partsL P m f)]) (fun vo i wr => m - (RowKit.intOf i).toNat)
 case atStart => exact ⟨0, [], Nat.zero_le _, rfl, hH⟩
 clear hH
 rename_i vo
 obtain ⟨f, vs, hf, rfl, hH⟩ := hrel
 obtain ⟨avo, cvo, hvo, _, _⟩ := (hH.rowsS (k := 2) rfl).val
 subst hvo
 have hpl := partsL_len P m f
 by_cases hlf : f < m
 ·
  obtain ⟨wc, rfl⟩ : ∃ q, q = wr := ⟨wr, rfl⟩
  obtain ⟨q0_0, q0_1, q0_2, q0_3, q0_4, l0_⟩ := hH.c5 0 rfl
  go_wp2_with fail
  clear q0_0 q0_1 q0_2 q0_3 q0_4 l0_
  replace hH : Held w wc [nB w.heap.size k p n aV m cV aO op.length cO, aI (.slice (some ⟨pb, 0, none⟩) m m) P, aLs (.slice avo (partsL P m f).length cvo) vs (partsL P m f), aI (.slice none 0 0) []] := hH.nilI
  go_loopw [13, 98] (fun vl i wr => ∃ q : Nat, q ≤ m ∧ i = .int .i64 (q : Int) ∧ Held w wr [nB w.heap.size k p n aV m cV aO op.length cO, aI (.slice (some ⟨pb, 0, none⟩) m m) P, aLs (.slice avo (partsL P m f).length cvo) vs (partsL P m f), aI vl (clsL P f q)] ∧ Hid (clsL P f q = [] → vl = .slice none 0 0)) (fun vl i wr => m - (RowKit.intOf i).toNat)
  case atStart => exact ⟨0, Nat.zero_le _, rfl, hH, Lib.hid fun _ => rfl⟩
  clear hH
  rename_i vl
  obtain ⟨q, hq, rfl, hH, HV⟩ := hrel
  obtain ⟨avl, cvl, hvl, _, _⟩ := (hH.ints (k := 3) rfl).val
  subst hvl
  have hcl := clsL_len P f q
  have hsu := clsL_succ P f q
  by_cases hlq : q < m
  ·
   obtain ⟨z, hz⟩ : ∃ z, P[q]? = some z := ⟨_, List.getElem?_eq_getElem (by have := HP.out.2.1; omega)⟩
   have hcz := ((hH.own (k := 1) rfl).cell hz).1
   have hlP := ((hH.own (k := 1) rfl).block_lt rfl).2
   have haz : atL P q = z := by unfold atL; rw [List.getD_eq_getElem?_getD, hz]; rfl
   rw [haz] at hsu
   clear hz haz
   by_cases hzf : z = (f : Int)
   · rw [if_pos hzf] at hsu
     subst hzf
     have HSU := Lib.hid hsu; clear hsu
     go_wp2_with (at_builtin; refine wpList_app _ rfl _ _ 27 rfl _ _ rfl rfl _ (run_push _ _ w.heap.size _ (clsL P f q) (q : Int) (hH.own (k := 3) rfl) (by omega) hH.size) ?_; rintro v6 w6 ⟨o6, g6, n6⟩)
     go_roundw
     case rel => exact ⟨q + 1, by omega, by go_num, by rw [HSU.out]; exact hH.pushed (k := 3) rfl o6 g6 n6, Lib.hid (by rw [HSU.out]; intro h; simp at h)⟩
     case measure => simp [RowKit.intOf]; omega
   rw [if_neg hzf, List.append_nil] at hsu
   have HSU := Lib.hid hsu; clear hsu
   go_wp2_with fail
   go_roundw
   case rel => exact ⟨q + 1, by omega, by go_num, by rw [HSU.out]; exact hH, Lib.hid (by rw [HSU.out]; exact HV.out)⟩
   case measure => simp [RowKit.intOf]; omega
  have hqe : q = m := by omega
  subst hqe
  obtain ⟨m, hmj⟩ : ∃ z, z = q := ⟨q, rfl⟩
  subst hmj
  clear hsu hq hlq
  have hps := partsL_succ P m f
  obtain ⟨C, hC⟩ : ∃ C, clsL P f m = C := ⟨_, rfl⟩
  rw [hC] at hH HV hps hcl
  rw [hC]
  rcases C with _ | ⟨c0, C⟩
  ·
   have hv := HV.out rfl
   rw [List.length_nil] at hv hH
   rw [List.length_nil]
   simp only [Value.slice.injEq] at hv
   obtain ⟨rfl, _, rfl⟩ := hv
   have HPS := Lib.hid (show partsL P m (f + 1) = partsL P m f by rw [hps]; exact List.append_nil _)
   clear hps hC HV
   go_wp2_with fail
   go_roundw
   case rel => exact ⟨f + 1, vs, by omega, by go_num, by rw [HPS.out]; exact hH.sub (.cons_cons _ (.cons_cons _ (.cons_cons _ (.cons _ .slnil))))⟩
   case measure => simp [RowKit.intOf]; omega
  have HPS := Lib.hid (show partsL P m (f + 1) = partsL P m f ++ [c0 :: C] by rw [hps]; rfl)
  clear hps hC HV
  obtain ⟨bl, cl2, _, hvl, _, _⟩ := (hH.own (k := 3) rfl).open (by simp)
  simp only [Value.slice.injEq] at hvl
  obtain ⟨rfl, _, rfl⟩ := hvl
  have hlen9 : (partsL P m f).length + 1 ≤ 1099511627 := by omega
  go_wp2_with (at_builtin; refine wpList_app _ rfl _ _ 44 rfl _ _ rfl rfl _ (run_pushL _ (hH.grow ((Ext.refl _).alloc _)) (k1 := 2) (k2 := 3) rfl rfl (by decide) (row_one1 _ _ _) hlen9) ?_; rintro vo2 wp ⟨hHp, gp⟩)
  go_roundw
  case rel => exact ⟨f + 1, _, by omega, by go_num, by rw [HPS.out]; exact hHp.sub (.cons_cons _ (.cons_cons _ (.cons_cons _ (.cons _ .slnil))))⟩
  case measure => simp [RowKit.intOf]; omega
 have hfe : f = m := by omega
 subst hfe
 have HK := Lib.hid (hH.sub (.cons _ (.cons _ (.cons_cons _ .slnil)))); clear hH
 go_wp2
 go_ret
 exact ⟨_, vs, P, rfl, HK.out, HP.out⟩
end Go.Proofs.YtlgjddgajdjllaaGreat
