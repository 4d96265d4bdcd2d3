/- The law 'FnParts', walked. -/
import Derived.Test.YtlgjddgajdjllaaGreatHConParts
import Derived.Test.YtlgjddgajdjllaaGreatHSortT
import Derived.Test.YtlgjddgajdjllaaGreatHDrawS
set_option linter.unusedSimpArgs false
set_option linter.unusedVariables false
namespace Go.Proofs.YtlgjddgajdjllaaGreat
open Go.RowKit
def cntP (PL : List (List Int)) (j : Nat) : Nat := ((PL.take j).map List.length).sum
theorem cntP_succ {PL : List (List Int)} {j : Nat} {l : List Int} (h : PL[j]? = some l) : cntP PL (j + 1) = cntP PL j + l.length := by
  unfold cntP
  rw [List.take_add_one, h, List.map_append, List.sum_append]; simp
theorem cntP_all (PL : List (List Int)) : cntP PL PL.length = PL.flatten.length := by
  unfold cntP
  rw [List.take_length, List.length_flatten]
theorem cntP_le (PL : List (List Int)) (j : Nat) : cntP PL j ≤ PL.flatten.length := by
  unfold cntP
  rw [List.length_flatten]
  have h := List.sum_append (l₁ := (PL.take j).map List.length) (l₂ := (PL.drop j).map List.length)
  rw [← List.map_append, List.take_append_drop] at h
  omega
structure PartsOk {k p n : Int} (ts : List (NT k p n)) (m : Nat) (PL : List (List Int)) : Prop where
  total : PL.flatten.length = m
  few : PL.length ≤ 12
  elem : ∀ l ∈ PL, l.length ≤ m ∧ l.Pairwise (· < ·) ∧ ∀ q ∈ l, 0 ≤ q ∧ q < (m : Int)
  nei : ∀ l ∈ PL, 1 < l.length → ∀ q : Nat, (q : Int) ∈ l → 0 < (neiL (ts.map (·.1)) q ts.length).length
theorem parts_ok {k p n : Int} {dm : Int → Int} {U : List Int} {ts : List (NT k p n)} {op : List Int} (h : IsN k p n dm U ts op) {P : List Int} (hP : Mrgs (idL ts.length) (pairsL (ts.map (·.1)) ts.length) P) (hl : P.length = ts.length) (hq : ∀ q ∈ P, 0 ≤ q ∧ q < (ts.length : Int)) : PartsOk ts ts.length (partsL P ts.length ts.length) := by
  have hR : ∀ q, q < ts.length → 0 ≤ atL P q ∧ atL P q < (ts.length : Int) := fun q hq2 => hq _ (List.mem_of_getElem? (atL_get (l := P) (i := q) (by omega)))
  refine ⟨?_, Nat.le_trans (partsL_len _ _ _) h.len, fun l hl => ?_, fun l hl h1 q hq => ?_⟩
  · have := (parts_perm P ts.length hR).length_eq
    rw [idL_length] at this; exact this
  · obtain ⟨f, _, rfl, _⟩ := mem_partsL.1 hl
    refine ⟨clsL_len _ _ _, clsL_sorted _ _ _, fun q hq => ?_⟩
    obtain ⟨i, hi, rfl, _⟩ := mem_clsL.1 hq
    omega
  · obtain ⟨f, _, rfl, _⟩ := mem_partsL.1 hl
    exact List.length_pos_iff.2 (part_nei hP hq h1)
theorem id_next (m : Nat) : idL (m + 1) = idL m ++ [(m : Int)] := by
  unfold idL
  rw [List.range_succ, List.map_append]; rfl
theorem half_left {a b : List Int} {j : Nat} (h : (a ++ b).Perm (idL j)) : ((a ++ [(j : Int)]) ++ b).Perm (idL (j + 1)) := by
  rw [id_next, List.append_assoc]
  refine (List.Perm.append_left a List.perm_append_comm).trans ?_
  rw [← List.append_assoc]
  exact h.append_right _
theorem half_right {a b : List Int} {j : Nat} (h : (a ++ b).Perm (idL j)) : (a ++ (b ++ [(j : Int)])).Perm (idL (j + 1)) := by
  rw [id_next, ← List.append_assoc]
  exact h.append_right _
set_option maxRecDepth 100000 in
set_option maxHeartbeats 8000000 in
theorem walkFnParts (v : Value) (l : List Int) (w : World) (hl : ByteS w v l) (hall : ∀ x ∈ l, 0 ≤ x ∧ x ≤ 255) :
 Calls Tryz.prog 3 #[v] w fun e w' => e = .returned (.bool true) ∧ Ext w w' := by
 obtain ⟨ca, cap, rfl, hc1, hc2⟩ := hl.val
 by_cases big : 1048576 < l.length
 · go_enter Tryz.func3, Tryz.ntmps3
   go_wp2
   go_ret
   exact ⟨rfl, xt⟩
 have hC : Code w (.slice ca l.length cap) l := ⟨hl, hall, by omega⟩
 clear hall hl
 have hH : Held w w [] := Held.new (Ext.refl w) 0
 go_enter Tryz.func3, Tryz.ntmps3
 go_wp2_with fail
 refine (makeRing_any _ l 0 _ (hC.ext hH.ext) (by omega)).mono ?_; rintro ewn1 wn1 ⟨k, p, n, rfl, hd, hwn1⟩
 have HR := Lib.hid (drawn_ok hd); clear hd
 replace hH : Held w wn1 [] := hH.grow hwn1
 clear hwn1
 go_wp2_with fail
 obtain ⟨hB, hsz⟩ := hH.laid #[.int .i64 k, .int .i64 p, .int .i64 n] 24
 generalize wn1.alloc (.cells #[.int .i64 k, .int .i64 p, .int .i64 n] 24) = wn2 at hB hsz ⊢
 replace hH : Held w wn2 [aB (wn1.heap.size) 24 [.int .i64 k, .int .i64 p, .int .i64 n]] := hB
 have HSZwn2 := Lib.hid (show wn2.heap.size = wn1.heap.size + 1 by rw [hsz]); clear hB hsz
 obtain ⟨q0_0, q0_1, q0_2, l0_⟩ := hH.c3 0 rfl
 go_wp2_with fail
 clear q0_0 q0_1 q0_2 l0_
 refine (makeNetwork_any _ l 10 k p n 5 HR.out (by omega) (by omega) _ (hC.ext hH.ext) (by omega)).mono ?_; rintro ewN wN ⟨tv, ov, cs, ts, op, rfl, hJ, hN, hmost⟩
 have E0 : Ext w wN := hH.ext.trans hJ.ext
 have hT : TensS wN tv (ts.map (tenOf dimOf)) := hJ.tensS (k := 0) rfl
 have hO : IntS wN ov op := hJ.ints (k := 1) rfl
 have kr_0 := ((hH.grow hJ.ext).blk (k := 0) rfl).cell (j := 0) rfl
 have kr_1 := ((hH.grow hJ.ext).blk (k := 0) rfl).cell (j := 1) rfl
 have kr_2 := ((hH.grow hJ.ext).blk (k := 0) rfl).cell (j := 2) rfl
 have kr_l := ((hH.grow hJ.ext).blk (k := 0) rfl).lt
 have hCN := hC.ext E0
 obtain ⟨m, hm⟩ : ∃ m, ts.length = m := ⟨_, rfl⟩
 obtain ⟨aV, cV, rfl, hcT1, hcT2⟩ := hT.val
 obtain ⟨aO, cO, rfl, hcO1, hcO2⟩ := hO.val
 have hT0 : TensS wN (.slice aV m cV) (ts.map (tenOf dimOf)) := by rw [List.length_map, hm] at hT; exact hT
 rw [List.length_map, hm] at hT hcT1
 rw [List.length_map, hm]
 have hm12 : m ≤ 5 := by rw [← hm]; omega
 have hop12 : op.length ≤ 12 := hN.rank
 have HM := Lib.hid hm; have HN := Lib.hid hN; have HD3 := Lib.hid hN.dims3; clear hm hN hmost hJ hC
 have hTl : Hid ((ts.map (tenOf dimOf)).length = m) := Lib.hid (by rw [List.length_map]; exact HM.out)
 clear hH
 have hC := hCN; clear hCN
 have hH : Held wN wN [] := Held.new (Ext.refl _) 0
 have c_kr_0 := hH.ext.cell kr_0; have c_kr_1 := hH.ext.cell kr_1; have c_kr_2 := hH.ext.cell kr_2
 have c_kr_l := Nat.lt_of_lt_of_le kr_l hH.ext.size
 go_wp2_with fail
 clear c_kr_0 c_kr_1 c_kr_2 c_kr_l
 obtain ⟨hB, hsz⟩ := hH.laid #[.int .i64 k, .int .i64 p, .int .i64 n, .slice aV m cV, .slice aO op.length cO] 29
 generalize wN.alloc (.cells #[.int .i64 k, .int .i64 p, .int .i64 n, .slice aV m cV, .slice aO op.length cO] 29) = wn3 at hB hsz ⊢
 replace hH : Held wN wn3 [nB wN.heap.size k p n aV m cV aO op.length cO] := hB
 have HSZwn3 := Lib.hid (show wn3.heap.size = wN.heap.size + 1 by rw [hsz]); clear hB hsz
 have HTX := Lib.hid (netXs_isT HR.out HN.out)
 obtain ⟨RX, hRX⟩ : ∃ q, netXs HR.out dimOf ts op = q := ⟨_, rfl⟩
 rw [hRX] at HTX
 have HRX := Lib.hid hRX; clear hRX
 have hB : Held wN (wn3.alloc (.cells #[] 3)) [nB wN.heap.size k p n aV m cV aO op.length cO, aI (.slice (some ⟨wN.heap.size + 1, 0, none⟩) 0 0) []] := by
  have h := (hH.mores 1).built 1 [] 0 rfl (by simp [maxLen]) #[] rfl
  rw [HSZwn3.out] at h
  exact h
 have hsz : (wn3.alloc (.cells #[] 3)).heap.size = wN.heap.size + 1 + 1 := by rw [← HSZwn3.out]; simp
 generalize wn3.alloc (.cells #[] 3) = wn4 at hB hsz ⊢
 replace hH := hB; have HSZwn4 := Lib.hid hsz; clear hB hsz
 have hB : Held wN (wn4.alloc (.cells #[] 3)) [nB wN.heap.size k p n aV m cV aO op.length cO, aI (.slice (some ⟨wN.heap.size + 1, 0, none⟩) 0 0) [], aI (.slice (some ⟨wN.heap.size + 1 + 1, 0, none⟩) 0 0) []] := by
  have h := (hH.mores 1).built 2 [] 0 rfl (by simp [maxLen]) #[] rfl
  rw [HSZwn4.out] at h
  exact h
 have hsz : (wn4.alloc (.cells #[] 3)).heap.size = wN.heap.size + 1 + 1 + 1 := by rw [← HSZwn4.out]; simp
 generalize wn4.alloc (.cells #[] 3) = wn5 at hB hsz ⊢
 replace hH := hB; have HSZwn5 := Lib.hid hsz; clear hB hsz
 obtain ⟨wb, rfl⟩ : ∃ q, q = wn5 := ⟨wn5, rfl⟩
 obtain ⟨q0_0, q0_1, q0_2, q0_3, q0_4, l0_⟩ := hH.c5 0 rfl; have c_kr_0 := hH.ext.cell kr_0; have c_kr_1 := hH.ext.cell kr_1; have c_kr_2 := hH.ext.cell kr_2
 have c_kr_l := Nat.lt_of_lt_of_le kr_l hH.ext.size
 go_wp2_with fail
 clear q0_0 q0_1 q0_2 q0_3 q0_4 l0_ c_kr_0 c_kr_1 c_kr_2 c_kr_l
 go_loopw [5, 6, 38] (fun vl vq i wr => ∃ (j : Nat) (LA RB : List Int), j ≤ m ∧ i = .int .i64 (j : Int) ∧ Hid ((LA ++ RB).Perm (idL j)) ∧ LA.length + RB.length = j ∧ Held wN wr [nB wN.heap.size k p n aV m cV aO op.length cO, aI vl LA, aI vq RB]) (fun vl vq i wr => m - (RowKit.intOf i).toNat)
 case atStart => exact ⟨0, [], [], Nat.zero_le _, rfl, Lib.hid (List.Perm.refl _), rfl, hH⟩
 case round =>
  clear hH
  rename_i vl vq
  obtain ⟨j, LA, RB, hj, rfl, HPE, hlen, hH⟩ := hrel
  have HLN := Lib.hid hlen
  have hla : LA.length ≤ 12 := by omega
  have hrb : RB.length ≤ 12 := by omega
  clear hlen
  obtain ⟨al, cl, rfl, _, _⟩ := (hH.ints (k := 1) rfl).val
  obtain ⟨aq, cq, rfl, _, _⟩ := (hH.ints (k := 2) rfl).val
  obtain ⟨wq, rfl⟩ : ∃ q, q = wr := ⟨wr, rfl⟩
  by_cases hlt : j < m
  ·
   obtain ⟨q0_0, q0_1, q0_2, q0_3, q0_4, l0_⟩ := hH.c5 0 rfl; have c_kr_0 := hH.ext.cell kr_0; have c_kr_1 := hH.ext.cell kr_1; have c_kr_2 := hH.ext.cell kr_2
   have c_kr_l := Nat.lt_of_lt_of_le kr_l hH.ext.size
   go_wp2_with fail
   clear q0_0 q0_1 q0_2 q0_3 q0_4 l0_ c_kr_0 c_kr_1 c_kr_2 c_kr_l
   refine (makeNum_any _ l _ _ (hC.ext hH.ext) (by first | omega | (simp only [wrap64]; omega))).mono ?_; rintro ewn6 wn6 ⟨x, rfl, hx, hwn6⟩
   replace hH : Held wN wn6 [nB wN.heap.size k p n aV m cV aO op.length cO, aI (.slice al LA.length cl) LA, aI (.slice aq RB.length cq) RB] := hH.grow hwn6
   clear hwn6
   rcases Int.emod_two_eq x with hpar | hpar
   ·
    have htm : Int.tmod x 2 = 0 := by rw [Int.tmod_eq_emod_of_nonneg hx.1]; exact hpar
    have hx0 := hx.1
    obtain ⟨q0_0, q0_1, q0_2, q0_3, q0_4, l0_⟩ := hH.c5 0 rfl; have c_kr_0 := hH.ext.cell kr_0; have c_kr_1 := hH.ext.cell kr_1; have c_kr_2 := hH.ext.cell kr_2
    have c_kr_l := Nat.lt_of_lt_of_le kr_l hH.ext.size
    go_wp2_with (at_builtin; refine wpList_app _ rfl _ _ 27 rfl _ _ rfl rfl _ (run_push _ _ wN.heap.size _ LA (j : Int) (hH.own (k := 1) rfl) (by omega) hH.size) ?_; rintro v6 w6 ⟨o6, g6, n6⟩)
    go_roundw
    case rel => exact ⟨j + 1, LA ++ [(j : Int)], RB, by omega, by go_num, Lib.hid (half_left HPE.out), by have := HLN.out; rw [List.length_append, List.length_singleton]; omega, hH.pushed (k := 1) rfl o6 g6 n6⟩
    case measure => simp [RowKit.intOf]; omega
   ·
    have htm : Int.tmod x 2 = 1 := by rw [Int.tmod_eq_emod_of_nonneg hx.1]; exact hpar
    have hx0 := hx.1
    obtain ⟨q0_0, q0_1, q0_2, q0_3, q0_4, l0_⟩ := hH.c5 0 rfl; have c_kr_0 := hH.ext.cell kr_0; have c_kr_1 := hH.ext.cell kr_1; have c_kr_2 := hH.ext.cell kr_2
    have c_kr_l := Nat.lt_of_lt_of_le kr_l hH.ext.size
    go_wp2_with (at_builtin; refine wpList_app _ rfl _ _ 27 rfl _ _ rfl rfl _ (run_push _ _ wN.heap.size _ RB (j : Int) (hH.own (k := 2) rfl) (by omega) hH.size) ?_; rintro v6 w6 ⟨o6, g6, n6⟩)
    go_roundw
    case rel => exact ⟨j + 1, LA, RB ++ [(j : Int)], by omega, by go_num, Lib.hid (half_right HPE.out), by have := HLN.out; rw [List.length_append, List.length_singleton]; omega, hH.pushed (k := 2) rfl o6 g6 n6⟩
    case measure => simp [RowKit.intOf]; omega
  ·
   have hje : j = m := by omega
   subst hje
   have hnd : (LA ++ RB).Nodup := HPE.out.nodup_iff.2 (idL_nodup _)
   have hin : ∀ q ∈ LA ++ RB, 0 ≤ q ∧ q < (ts.length : Int) := fun q hq => by rw [HM.out]; exact mem_idL.1 (HPE.out.mem_iff.1 hq)
   have HLA : Hid (LA.Nodup ∧ (∀ q ∈ LA, 0 ≤ q ∧ q < (ts.length : Int)) ∧ LA.length ≤ ts.length) := Lib.hid ⟨(List.nodup_append.1 hnd).1, fun q hq => hin q (List.mem_append_left _ hq), by have h1 := HLN.out; rw [HM.out]; omega⟩
   have HRB : Hid (RB.Nodup ∧ (∀ q ∈ RB, 0 ≤ q ∧ q < (ts.length : Int)) ∧ RB.length ≤ ts.length) := Lib.hid ⟨(List.nodup_append.1 hnd).2.1, fun q hq => hin q (List.mem_append_right _ hq), by have h1 := HLN.out; rw [HM.out]; omega⟩
   have HPM : Hid ((LA ++ RB).Perm (idL ts.length)) := Lib.hid (by rw [HM.out]; exact HPE.out)
   have HHS := Lib.hid (halves_sums HR.out HN.out HPM.out HLA.out.2.2 HRB.out.2.2)
   have HAN := Lib.hid (part_isN (op := op) HN.out HLA.out.2.2)
   have HBN := Lib.hid (part_isN (op := op) HN.out HRB.out.2.2)
   have HAT := Lib.hid (partT_isT HR.out (op := op) HN.out HLA.out.2.2)
   have HBT := Lib.hid (partT_isT HR.out (op := op) HN.out HRB.out.2.2)
   obtain ⟨m, hmj⟩ : ∃ q, q = j := ⟨j, rfl⟩
   subst hmj
   clear hnd hin hj hlt
   obtain ⟨q0_0, q0_1, q0_2, q0_3, q0_4, l0_⟩ := hH.c5 0 rfl; have c_kr_0 := hH.ext.cell kr_0; have c_kr_1 := hH.ext.cell kr_1; have c_kr_2 := hH.ext.cell kr_2
   have c_kr_l := Nat.lt_of_lt_of_le kr_l hH.ext.size
   go_wp2_with fail
   clear q0_0 q0_1 q0_2 q0_3 q0_4 l0_ c_kr_0 c_kr_1 c_kr_2 c_kr_l
   refine (subNetwork_any HR.out HN.out _ _ _ (hT0.ext hH.ext) (hO.ext hH.ext) HLA.out.1 HLA.out.2.1 HLA.out.2.2 _ (hH.ints (k := 1) rfl)).mono ?_; rintro ewn7 wn7 ⟨tvA, ovA, csA, rfl, hJ⟩
   obtain ⟨PA, hPA⟩ : ∃ q, pickN ts LA = q := ⟨_, rfl⟩
   obtain ⟨OA, hOA⟩ : ∃ q, partO ts op LA = q := ⟨_, rfl⟩
   have hP2 : subOpen (occ (pickN ts LA)) (occ (restN ts LA ts.length)) op = OA := hOA
   rw [hP2, hPA] at hJ
   obtain ⟨XA, hXA⟩ : ∃ q, netXs HR.out dimOf PA OA = q := ⟨_, rfl⟩
   rw [hPA, hOA] at HHS HAN
   have HPTA : Hid (partT HR.out dimOf ts op LA = (OA, XA)) := Lib.hid (by unfold partT; rw [hPA, hOA, hXA])
   rw [HPTA.out] at HAT
   rw [hXA] at HHS
   simp only at HAT
   have HXA := Lib.hid hXA
   clear hP2 hPA hOA hXA
   obtain ⟨aTA, cTA, hvbA, _, _⟩ := (hJ.tensS (k := 0) rfl).val
   generalize hmTA : (List.map _ _).length = mTA at hvbA
   subst hvbA
   clear hmTA
   obtain ⟨aOA, cOA, rfl⟩ := (hJ.own (k := 1) rfl).shape1 OA.length rfl
   replace hH : Held wN wn7 [nB wN.heap.size k p n aV m cV aO op.length cO, aI (.slice al LA.length cl) LA, aI (.slice aq RB.length cq) RB, aTs (.slice aTA mTA cTA) csA (PA.map (tenOf dimOf)), aI (.slice aOA OA.length cOA) OA] := hH.join hJ (fun q hq => by cases hq)
   clear hJ
   obtain ⟨q0_0, q0_1, q0_2, q0_3, q0_4, l0_⟩ := hH.c5 0 rfl; have c_kr_0 := hH.ext.cell kr_0; have c_kr_1 := hH.ext.cell kr_1; have c_kr_2 := hH.ext.cell kr_2
   have c_kr_l := Nat.lt_of_lt_of_le kr_l hH.ext.size
   go_upto_region 15 with fail
   clear q0_0 q0_1 q0_2 q0_3 q0_4 l0_ c_kr_0 c_kr_1 c_kr_2 c_kr_l
   obtain ⟨hB, hsz⟩ := hH.laid #[.int .i64 k, .int .i64 p, .int .i64 n, .slice aTA mTA cTA, .slice aOA OA.length cOA] 29
   generalize wn7.alloc (.cells #[.int .i64 k, .int .i64 p, .int .i64 n, .slice aTA mTA cTA, .slice aOA OA.length cOA] 29) = wn8 at hB hsz ⊢
   replace hH : Held wN wn8 [nB wN.heap.size k p n aV m cV aO op.length cO, aI (.slice al LA.length cl) LA, aI (.slice aq RB.length cq) RB, aTs (.slice aTA mTA cTA) csA (PA.map (tenOf dimOf)), aI (.slice aOA OA.length cOA) OA, nB wn7.heap.size k p n aTA mTA cTA aOA OA.length cOA] := hB
   have HSZwn8 := Lib.hid (show wn8.heap.size = wn7.heap.size + 1 by rw [hsz]); clear hB hsz
   obtain ⟨wcA, rfl⟩ : ∃ q, q = wn8 := ⟨wn8, rfl⟩
   replace hH : Held wN wcA [nB wN.heap.size k p n aV m cV aO op.length cO, aI (.slice aq RB.length cq) RB, aTs (.slice aTA mTA cTA) csA (PA.map (tenOf dimOf)), aI (.slice aOA OA.length cOA) OA, nB wn7.heap.size k p n aTA mTA cTA aOA OA.length cOA] := hH.sub (.cons_cons _ (.cons _ (.cons_cons _ (.cons_cons _ (.cons_cons _ (.cons_cons _ .slnil))))))
   obtain ⟨q0_0, q0_1, q0_2, q0_3, q0_4, l0_⟩ := hH.c5 0 rfl; obtain ⟨q4_0, q4_1, q4_2, q4_3, q4_4, l4_⟩ := hH.c5 4 rfl; have c_kr_0 := hH.ext.cell kr_0; have c_kr_1 := hH.ext.cell kr_1; have c_kr_2 := hH.ext.cell kr_2
   have c_kr_l := Nat.lt_of_lt_of_le kr_l hH.ext.size
   go_wp2_with fail
   clear q0_0 q0_1 q0_2 q0_3 q0_4 l0_ q4_0 q4_1 q4_2 q4_3 q4_4 l4_ c_kr_0 c_kr_1 c_kr_2 c_kr_l
   refine (subNetwork_any HR.out HN.out _ _ _ (hT0.ext hH.ext) (hO.ext hH.ext) HRB.out.1 HRB.out.2.1 HRB.out.2.2 _ (hH.ints (k := 1) rfl)).mono ?_; rintro ewn9 wn9 ⟨tvB, ovB, csB, rfl, hJ⟩
   obtain ⟨PB, hPB⟩ : ∃ q, pickN ts RB = q := ⟨_, rfl⟩
   obtain ⟨OB, hOB⟩ : ∃ q, partO ts op RB = q := ⟨_, rfl⟩
   have hP2 : subOpen (occ (pickN ts RB)) (occ (restN ts RB ts.length)) op = OB := hOB
   rw [hP2, hPB] at hJ
   obtain ⟨XB, hXB⟩ : ∃ q, netXs HR.out dimOf PB OB = q := ⟨_, rfl⟩
   rw [hPB, hOB] at HHS HBN
   have HPTB : Hid (partT HR.out dimOf ts op RB = (OB, XB)) := Lib.hid (by unfold partT; rw [hPB, hOB, hXB])
   rw [HPTB.out] at HBT
   rw [hXB] at HHS
   simp only at HBT
   have HXB := Lib.hid hXB
   clear hP2 hPB hOB hXB
   obtain ⟨aTB, cTB, hvbB, _, _⟩ := (hJ.tensS (k := 0) rfl).val
   generalize hmTB : (List.map _ _).length = mTB at hvbB
   subst hvbB
   clear hmTB
   obtain ⟨aOB, cOB, rfl⟩ := (hJ.own (k := 1) rfl).shape1 OB.length rfl
   replace hH : Held wN wn9 [nB wN.heap.size k p n aV m cV aO op.length cO, aI (.slice aq RB.length cq) RB, aTs (.slice aTA mTA cTA) csA (PA.map (tenOf dimOf)), aI (.slice aOA OA.length cOA) OA, nB wn7.heap.size k p n aTA mTA cTA aOA OA.length cOA, aTs (.slice aTB mTB cTB) csB (PB.map (tenOf dimOf)), aI (.slice aOB OB.length cOB) OB] := hH.join hJ (fun q hq => by cases hq)
   clear hJ
   obtain ⟨q0_0, q0_1, q0_2, q0_3, q0_4, l0_⟩ := hH.c5 0 rfl; obtain ⟨q4_0, q4_1, q4_2, q4_3, q4_4, l4_⟩ := hH.c5 4 rfl; have c_kr_0 := hH.ext.cell kr_0; have c_kr_1 := hH.ext.cell kr_1; have c_kr_2 := hH.ext.cell kr_2
   have c_kr_l := Nat.lt_of_lt_of_le kr_l hH.ext.size
   go_upto_region 16 with fail
   clear q0_0 q0_1 q0_2 q0_3 q0_4 l0_ q4_0 q4_1 q4_2 q4_3 q4_4 l4_ c_kr_0 c_kr_1 c_kr_2 c_kr_l
   obtain ⟨hB, hsz⟩ := hH.laid #[.int .i64 k, .int .i64 p, .int .i64 n, .slice aTB mTB cTB, .slice aOB OB.length cOB] 29
   generalize wn9.alloc (.cells #[.int .i64 k, .int .i64 p, .int .i64 n, .slice aTB mTB cTB, .slice aOB OB.length cOB] 29) = wn10 at hB hsz ⊢
   replace hH : Held wN wn10 [nB wN.heap.size k p n aV m cV aO op.length cO, aI (.slice aq RB.length cq) RB, aTs (.slice aTA mTA cTA) csA (PA.map (tenOf dimOf)), aI (.slice aOA OA.length cOA) OA, nB wn7.heap.size k p n aTA mTA cTA aOA OA.length cOA, aTs (.slice aTB mTB cTB) csB (PB.map (tenOf dimOf)), aI (.slice aOB OB.length cOB) OB, nB wn9.heap.size k p n aTB mTB cTB aOB OB.length cOB] := hB
   have HSZwn10 := Lib.hid (show wn10.heap.size = wn9.heap.size + 1 by rw [hsz]); clear hB hsz
   obtain ⟨wcB, rfl⟩ : ∃ q, q = wn10 := ⟨wn10, rfl⟩
   replace hH : Held wN wcB [nB wN.heap.size k p n aV m cV aO op.length cO, aTs (.slice aTA mTA cTA) csA (PA.map (tenOf dimOf)), aI (.slice aOA OA.length cOA) OA, nB wn7.heap.size k p n aTA mTA cTA aOA OA.length cOA, aTs (.slice aTB mTB cTB) csB (PB.map (tenOf dimOf)), aI (.slice aOB OB.length cOB) OB, nB wn9.heap.size k p n aTB mTB cTB aOB OB.length cOB] := hH.sub (.cons_cons _ (.cons _ (.cons_cons _ (.cons_cons _ (.cons_cons _ (.cons_cons _ (.cons_cons _ (.cons_cons _ .slnil))))))))
   obtain ⟨q0_0, q0_1, q0_2, q0_3, q0_4, l0_⟩ := hH.c5 0 rfl; obtain ⟨q3_0, q3_1, q3_2, q3_3, q3_4, l3_⟩ := hH.c5 3 rfl; obtain ⟨q6_0, q6_1, q6_2, q6_3, q6_4, l6_⟩ := hH.c5 6 rfl; have c_kr_0 := hH.ext.cell kr_0; have c_kr_1 := hH.ext.cell kr_1; have c_kr_2 := hH.ext.cell kr_2
   have c_kr_l := Nat.lt_of_lt_of_le kr_l hH.ext.size
   go_wp2_with fail
   clear q0_0 q0_1 q0_2 q0_3 q0_4 l0_ q3_0 q3_1 q3_2 q3_3 q3_4 l3_ q6_0 q6_1 q6_2 q6_3 q6_4 l6_ c_kr_0 c_kr_1 c_kr_2 c_kr_l
   refine (contractParts_any HR.out HN.out _ _ _ (hT0.ext hH.ext) (hO.ext hH.ext)).mono ?_; rintro ewn11 wn11 ⟨vc, rfl, oc, hwn11⟩
   rw [HRX.out] at oc
   obtain ⟨cp1, cn1, cc1, cp2, cn2, cc2, cp3, cn3, cc3, rfl⟩ := oc.shape
   replace hH : Held wN wn11 [nB wN.heap.size k p n aV m cV aO op.length cO, aTs (.slice aTA mTA cTA) csA (PA.map (tenOf dimOf)), aI (.slice aOA OA.length cOA) OA, nB wn7.heap.size k p n aTA mTA cTA aOA OA.length cOA, aTs (.slice aTB mTB cTB) csB (PB.map (tenOf dimOf)), aI (.slice aOB OB.length cOB) OB, nB wn9.heap.size k p n aTB mTB cTB aOB OB.length cOB, aT (.agg #[.slice cp1 cn1 cc1, .slice cp2 cn2 cc2, .slice cp3 cn3 cc3]) op (op.map dimOf) (flat RX)] := (hH.mores 1).addT 7 hwn11 oc (Nat.le_refl _)
   clear hwn11
   obtain ⟨q0_0, q0_1, q0_2, q0_3, q0_4, l0_⟩ := hH.c5 0 rfl; obtain ⟨q3_0, q3_1, q3_2, q3_3, q3_4, l3_⟩ := hH.c5 3 rfl; obtain ⟨q6_0, q6_1, q6_2, q6_3, q6_4, l6_⟩ := hH.c5 6 rfl; have c_kr_0 := hH.ext.cell kr_0; have c_kr_1 := hH.ext.cell kr_1; have c_kr_2 := hH.ext.cell kr_2
   have c_kr_l := Nat.lt_of_lt_of_le kr_l hH.ext.size
   go_wp2_with fail
   clear q0_0 q0_1 q0_2 q0_3 q0_4 l0_ q3_0 q3_1 q3_2 q3_3 q3_4 l3_ q6_0 q6_1 q6_2 q6_3 q6_4 l6_ c_kr_0 c_kr_1 c_kr_2 c_kr_l
   obtain ⟨hB, hsz⟩ := hH.laid #[.slice cp1 cn1 cc1, .slice cp2 cn2 cc2, .slice cp3 cn3 cc3] 35
   generalize wn11.alloc (.cells #[.slice cp1 cn1 cc1, .slice cp2 cn2 cc2, .slice cp3 cn3 cc3] 35) = wn12 at hB hsz ⊢
   replace hH : Held wN wn12 [nB wN.heap.size k p n aV m cV aO op.length cO, aTs (.slice aTA mTA cTA) csA (PA.map (tenOf dimOf)), aI (.slice aOA OA.length cOA) OA, nB wn7.heap.size k p n aTA mTA cTA aOA OA.length cOA, aTs (.slice aTB mTB cTB) csB (PB.map (tenOf dimOf)), aI (.slice aOB OB.length cOB) OB, nB wn9.heap.size k p n aTB mTB cTB aOB OB.length cOB, aT (.agg #[.slice cp1 cn1 cc1, .slice cp2 cn2 cc2, .slice cp3 cn3 cc3]) op (op.map dimOf) (flat RX), tB wn11.heap.size cp1 cn1 cc1 cp2 cn2 cc2 cp3 cn3 cc3] := hB
   have HSZwn12 := Lib.hid (show wn12.heap.size = wn11.heap.size + 1 by rw [hsz]); clear hB hsz
   obtain ⟨wd, rfl⟩ : ∃ q, q = wn12 := ⟨wn12, rfl⟩
   replace hH := hH.mores 1
   replace hH : Held wN wd [nB wN.heap.size k p n aV m cV aO op.length cO, aTs (.slice aTA mTA cTA) csA (PA.map (tenOf dimOf)), aI (.slice aOA OA.length cOA) OA, nB wn7.heap.size k p n aTA mTA cTA aOA OA.length cOA, aTs (.slice aTB mTB cTB) csB (PB.map (tenOf dimOf)), aI (.slice aOB OB.length cOB) OB, nB wn9.heap.size k p n aTB mTB cTB aOB OB.length cOB, aT (.agg #[.slice cp1 cn1 cc1, .slice cp2 cn2 cc2, .slice cp3 cn3 cc3]) op (op.map dimOf) (flat RX), tB wn11.heap.size cp1 cn1 cc1 cp2 cn2 cc2 cp3 cn3 cc3, emp] := hH
   refine wp_region_steps ?Fr17 (fun b t wx => Held wN wx [nB wN.heap.size k p n aV m cV aO op.length cO, aTs (.slice aTA mTA cTA) csA (PA.map (tenOf dimOf)), aI (.slice aOA OA.length cOA) OA, nB wn7.heap.size k p n aTA mTA cTA aOA OA.length cOA, aTs (.slice aTB mTB cTB) csB (PB.map (tenOf dimOf)), aI (.slice aOB OB.length cOB) OB, nB wn9.heap.size k p n aTB mTB cTB aOB OB.length cOB, aT (.agg #[.slice cp1 cn1 cc1, .slice cp2 cn2 cc2, .slice cp3 cn3 cc3]) op (op.map dimOf) (flat RX), tB wn11.heap.size cp1 cn1 cc1 cp2 cn2 cc2 cp3 cn3 cc3, (bif b 13 then aT (t 13) op (op.map dimOf) (flat RX) else emp)] ∧ (b 0 = true → t 0 = .bool true) ∧ (b 1 = true → t 1 = .bool false) ∧ (b 2 = true → t 2 = .bool false) ∧ (b 3 = true → t 3 = .bool true) ∧ (b 4 = true → t 4 = .bool false) ∧ (b 5 = true → t 5 = .bool false) ∧ (b 6 = true → t 6 = .bool false) ∧ (b 7 = true → t 7 = .bool true) ∧ (b 8 = true → t 8 = .bool false) ∧ (b 9 = true → t 9 = .bool false) ∧ (b 10 = true → t 10 = .bool false) ∧ (b 11 = true → t 11 = .agg #[.slice cp1 cn1 cc1, .slice cp2 cn2 cc2, .slice cp3 cn3 cc3]) ∧ (b 12 = true → t 12 = .agg #[.int .i64 k, .int .i64 p, .int .i64 n, .slice aV m cV, .slice aO op.length cO]) ∧ (b 13 = true → ∃ p1 n1 c1 p2 n2 c2 p3 n3 c3, t 13 = .agg #[.slice p1 n1 c1, .slice p2 n2 c2, .slice p3 n3 c3]) ∧ (b 14 = true → t 14 = .bool true) ∧ (b 15 = true → t 15 = .bool false) ∧ (b 16 = true → t 16 = .bool false)) ?hFr17 (by kernel_rfl) (by kernel_rfl) ?hJr17 ?hSr17 ?hEr17
   (case hFr17 => intro t; simp only [putAll, Act.put, List.setIfInBounds_toArray, List.set_cons_zero, List.set_cons_succ, Nat.reduceAdd, Nat.zero_add]; exact rfl)
   case hJr17 => exact ⟨hH.grow ((Ext.refl _).drew), nof, nof, nof, nof, nof, nof, nof, nof, nof, nof, nof, nof, nof, nof, nof, nof, nof⟩
   case hSr17 => as_aux_lemma =>
     refine st 1 rfl (fun b t wx hJ hb hd hcl Kc hK => ?_) ?_
     · obtain ⟨hH, hV⟩ := hJ
       have c_kr_0 := hH.ext.cell kr_0; have c_kr_1 := hH.ext.cell kr_1; have c_kr_2 := hH.ext.cell kr_2
       go_simp
       apply sk hK
       · rfl
       exact ⟨hH, rp (fun _ => rfl) hV⟩
     refine st 2 rfl (fun b t wx hJ hb hd hcl Kc hK => ?_) ?_
     · obtain ⟨hH, hV⟩ := hJ
       have d0 := so hd 0; have r0 := hV.1 d0; have c_kr_0 := hH.ext.cell kr_0; have c_kr_1 := hH.ext.cell kr_1; have c_kr_2 := hH.ext.cell kr_2
       go_simp
       apply sk hK
       · (try simp only [r0]); rfl
       exact ⟨hH, jA (rp (fun _ => rfl)) hV⟩
     refine st 3 rfl (fun b t wx hJ hb hd hcl Kc hK => ?_) ?_
     · obtain ⟨hH, hV⟩ := hJ
       have d1 := so hd 1; have r1 := hV.2.1 d1; have c_kr_0 := hH.ext.cell kr_0; have c_kr_1 := hH.ext.cell kr_1; have c_kr_2 := hH.ext.cell kr_2
       go_simp
       apply sk hK
       · (try simp only [r1]); rfl
       exact ⟨hH, jB (rp (fun _ => rfl)) hV⟩
     refine st 4 rfl (fun b t wx hJ hb hd hcl Kc hK => ?_) ?_
     · obtain ⟨hH, hV⟩ := hJ
       have d2 := so hd 2; have r2 := hV.2.2.1 d2; have c_kr_0 := hH.ext.cell kr_0; have c_kr_1 := hH.ext.cell kr_1; have c_kr_2 := hH.ext.cell kr_2
       go_simp
       apply sk hK
       · (try simp only [r2]); rfl
       exact ⟨hH, jB (jA (rp (fun _ => rfl))) hV⟩
     refine st 5 rfl (fun b t wx hJ hb hd hcl Kc hK => ?_) ?_
     · obtain ⟨hH, hV⟩ := hJ
       have d2 := so hd 2; have d3 := so hd 3; have r2 := hV.2.2.1 d2; have r3 := hV.2.2.2.1 d3; have c_kr_0 := hH.ext.cell kr_0; have c_kr_1 := hH.ext.cell kr_1; have c_kr_2 := hH.ext.cell kr_2
       go_simp
       apply sk hK
       · (try simp only [r2, r3]); rfl
       exact ⟨hH, jD (rp (fun _ => rfl)) hV⟩
     refine st 6 rfl (fun b t wx hJ hb hd hcl Kc hK => ?_) ?_
     · obtain ⟨hH, hV⟩ := hJ
       have d2 := so hd 2; have d4 := so hd 4; have r2 := hV.2.2.1 d2; have r4 := hV.2.2.2.2.1 d4; have c_kr_0 := hH.ext.cell kr_0; have c_kr_1 := hH.ext.cell kr_1; have c_kr_2 := hH.ext.cell kr_2
       go_simp
       apply sk hK
       · (try simp only [r2, r4]); rfl
       exact ⟨hH, jD (jA (rp (fun _ => rfl))) hV⟩
     refine st 7 rfl (fun b t wx hJ hb hd hcl Kc hK => ?_) ?_
     · obtain ⟨hH, hV⟩ := hJ
       have d2 := so hd 2; have d5 := so hd 5; have r2 := hV.2.2.1 d2; have r5 := hV.2.2.2.2.2.1 d5; have c_kr_0 := hH.ext.cell kr_0; have c_kr_1 := hH.ext.cell kr_1; have c_kr_2 := hH.ext.cell kr_2
       go_simp
       apply sk hK
       · (try simp only [r2, r5]); rfl
       exact ⟨hH, jD (jB (rp (fun _ => rfl))) hV⟩
     refine st 8 rfl (fun b t wx hJ hb hd hcl Kc hK => ?_) ?_
     · obtain ⟨hH, hV⟩ := hJ
       have d6 := so hd 6; have r6 := hV.2.2.2.2.2.2.1 d6; have c_kr_0 := hH.ext.cell kr_0; have c_kr_1 := hH.ext.cell kr_1; have c_kr_2 := hH.ext.cell kr_2
       go_simp
       apply sk hK
       · (try simp only [r6]); rfl
       exact ⟨hH, jD (jB (jA (rp (fun _ => rfl)))) hV⟩
     refine st 9 rfl (fun b t wx hJ hb hd hcl Kc hK => ?_) ?_
     · obtain ⟨hH, hV⟩ := hJ
       have d6 := so hd 6; have d7 := so hd 7; have r6 := hV.2.2.2.2.2.2.1 d6; have r7 := hV.2.2.2.2.2.2.2.1 d7; have c_kr_0 := hH.ext.cell kr_0; have c_kr_1 := hH.ext.cell kr_1; have c_kr_2 := hH.ext.cell kr_2
       go_simp
       apply sk hK
       · (try simp only [r6, r7]); rfl
       exact ⟨hH, jD (jD (rp (fun _ => rfl))) hV⟩
     refine st 10 rfl (fun b t wx hJ hb hd hcl Kc hK => ?_) ?_
     · obtain ⟨hH, hV⟩ := hJ
       have d6 := so hd 6; have d8 := so hd 8; have r6 := hV.2.2.2.2.2.2.1 d6; have r8 := hV.2.2.2.2.2.2.2.2.1 d8; have c_kr_0 := hH.ext.cell kr_0; have c_kr_1 := hH.ext.cell kr_1; have c_kr_2 := hH.ext.cell kr_2
       go_simp
       apply sk hK
       · (try simp only [r6, r8]); rfl
       exact ⟨hH, jD (jD (jA (rp (fun _ => rfl)))) hV⟩
     refine st 11 rfl (fun b t wx hJ hb hd hcl Kc hK => ?_) ?_
     · obtain ⟨hH, hV⟩ := hJ
       have d6 := so hd 6; have d9 := so hd 9; have r6 := hV.2.2.2.2.2.2.1 d6; have r9 := hV.2.2.2.2.2.2.2.2.2.1 d9; have c_kr_0 := hH.ext.cell kr_0; have c_kr_1 := hH.ext.cell kr_1; have c_kr_2 := hH.ext.cell kr_2
       go_simp
       apply sk hK
       · (try simp only [r6, r9]); rfl
       exact ⟨hH, jD (jD (jB (rp (fun _ => rfl)))) hV⟩
     refine st 12 rfl (fun b t wx hJ hb hd hcl Kc hK => ?_) ?_
     · obtain ⟨hH, hV⟩ := hJ
       have d10 := so hd 10; have r10 := hV.2.2.2.2.2.2.2.2.2.2.1 d10; have c_kr_0 := hH.ext.cell kr_0; have c_kr_1 := hH.ext.cell kr_1; have c_kr_2 := hH.ext.cell kr_2; obtain ⟨q8_0, q8_1, q8_2, _⟩ := hH.c3 8 rfl
       go_simp
       apply sk hK
       · (try simp only [r10]); rfl
       exact ⟨hH, jD (jD (jB (jA (rp (fun _ => rfl))))) hV⟩
     refine st 13 rfl (fun b t wx hJ hb hd hcl Kc hK => ?_) ?_
     · obtain ⟨hH, hV⟩ := hJ
       have d10 := so hd 10; have r10 := hV.2.2.2.2.2.2.2.2.2.2.1 d10; have c_kr_0 := hH.ext.cell kr_0; have c_kr_1 := hH.ext.cell kr_1; have c_kr_2 := hH.ext.cell kr_2; obtain ⟨q0_0, q0_1, q0_2, q0_3, q0_4, _⟩ := hH.c5 0 rfl
       go_simp
       apply sk hK
       · (try simp only [r10]); rfl
       exact ⟨hH, jD (jD (jD (rp (fun _ => rfl)))) hV⟩
     refine st 14 rfl (fun b t wx hJ hb hd hcl Kc hK => ?_) ?_
     · obtain ⟨hH, hV⟩ := hJ
       have d10 := so hd 10; have d12 := so hd 12; have r10 := hV.2.2.2.2.2.2.2.2.2.2.1 d10; have r12 := hV.2.2.2.2.2.2.2.2.2.2.2.2.1 d12
       have hN := hH; (try simp only [hb, d10, d12, cond_true, cond_false] at hN)
       go_simp
       go_at_call 10
       refine (worth_any HR.out HN.out _ _ _ (hT0.ext hH.ext) (hO.ext hH.ext)).mono ?_; rintro e13 w13 ⟨u13, rfl, o13, h13⟩
       rw [HRX.out] at o13
       obtain ⟨pa1, na1, ca1, pa2, na2, ca2, pa3, na3, ca3, rfl⟩ := o13.shape
       (try go_simp)
       apply sk hK
       · (try simp only [r10, r12]); rfl
       exact ⟨by have hX := hN.addT 9 h13 o13 (Nat.le_refl _); simpa only [List.set_cons_zero, List.set_cons_succ, updB, updV, blkOf_mk, tup0_mk, partsOf3, Nat.reduceBEq, cond_true, cond_false, hb, d10, d12, r10, r12] using hX, jD (jD (jD (jA (rp (fun _ => ⟨_, _, _, _, _, _, _, _, _, rfl⟩))))) hV⟩
     refine st 15 rfl (fun b t wx hJ hb hd hcl Kc hK => ?_) ?_
     · obtain ⟨hH, hV⟩ := hJ
       have d10 := so hd 10; have d11 := so hd 11; have d13 := so hd 13; have r10 := hV.2.2.2.2.2.2.2.2.2.2.1 d10; have r11 := hV.2.2.2.2.2.2.2.2.2.2.2.1 d11; have r13 := hV.2.2.2.2.2.2.2.2.2.2.2.2.2.1 d13
       obtain ⟨p1_13, n1_13, c1_13, p2_13, n2_13, c2_13, p3_13, n3_13, c3_13, r13⟩ := r13
       have hN := hH; (try simp only [hb, d10, d11, d13, cond_true, cond_false] at hN)
       go_simp
       go_at_call 9
       refine (same_same _ _ _ _ _ _ _ _ _ (hH.tens (k := 7) rfl) (by have h := hN.tens (k := 9) rfl; rw [r13] at h; exact h) rfl rfl rfl).mono ?_; rintro e14 w14 ⟨rfl, h14⟩
       (try go_simp)
       apply sk hK
       · (try simp only [r10, r11, r13]); rfl
       exact ⟨by have hX := hH.grow h14; simpa only [List.set_cons_zero, List.set_cons_succ, updB, updV, blkOf_mk, tup0_mk, partsOf3, Nat.reduceBEq, cond_true, cond_false, hb, d10, d11, d13, r10, r11, r13] using hX, jD (jD (jD (jB (rp (fun _ => rfl))))) hV⟩
     refine st 16 rfl (fun b t wx hJ hb hd hcl Kc hK => ?_) ?_
     · obtain ⟨hH, hV⟩ := hJ
       have d10 := so hd 10; have d14 := so hd 14; have r10 := hV.2.2.2.2.2.2.2.2.2.2.1 d10; have r14 := hV.2.2.2.2.2.2.2.2.2.2.2.2.2.2.1 d14; have c_kr_0 := hH.ext.cell kr_0; have c_kr_1 := hH.ext.cell kr_1; have c_kr_2 := hH.ext.cell kr_2
       go_simp
       apply sk hK
       · (try simp only [r10, r14]); rfl
       exact ⟨hH, jD (jD (jD (jB (jA (rp (fun _ => rfl)))))) hV⟩
     refine st 17 rfl (fun b t wx hJ hb hd hcl Kc hK => ?_) ?_
     · obtain ⟨hH, hV⟩ := hJ
       have d10 := so hd 10; have d15 := so hd 15; have r10 := hV.2.2.2.2.2.2.2.2.2.2.1 d10; have r15 := hV.2.2.2.2.2.2.2.2.2.2.2.2.2.2.2.1 d15; have c_kr_0 := hH.ext.cell kr_0; have c_kr_1 := hH.ext.cell kr_1; have c_kr_2 := hH.ext.cell kr_2
       go_simp
       apply sk hK
       · (try simp only [r10, r15]); rfl
       exact ⟨hH, jD (jD (jD (jD (fun _ => fun _ => rfl)))) hV⟩
     exact AllSteps.nil
   case hEr17 =>
    intro b t wr17 hJ hall
    obtain ⟨hHr17, v0, v1, v2, v3, v4, v5, v6, v7, v8, v9, v10, v11, v12, v13, v14, v15, v16⟩ := hJ
    have a0 := hall 0 (by decide); have a1 := hall 1 (by decide); have a2 := hall 2 (by decide); have a3 := hall 3 (by decide); have a4 := hall 4 (by decide); have a5 := hall 5 (by decide); have a6 := hall 6 (by decide); have a7 := hall 7 (by decide); have a8 := hall 8 (by decide); have a9 := hall 9 (by decide); have a10 := hall 10 (by decide); have a11 := hall 11 (by decide); have a12 := hall 12 (by decide); have a13 := hall 13 (by decide); have a14 := hall 14 (by decide); have a15 := hall 15 (by decide); have a16 := hall 16 (by decide)
    (try simp only [a0, a1, a2, a3, a4, a5, a6, a7, a8, a9, a10, a11, a12, a13, a14, a15, a16, cond_true] at hHr17)
    replace v0 := v0 a0; replace v1 := v1 a1; replace v2 := v2 a2; replace v3 := v3 a3; replace v4 := v4 a4; replace v5 := v5 a5; replace v6 := v6 a6; replace v7 := v7 a7; replace v8 := v8 a8; replace v9 := v9 a9; replace v10 := v10 a10; replace v11 := v11 a11; replace v12 := v12 a12; replace v13 := v13 a13; replace v14 := v14 a14; replace v15 := v15 a15; replace v16 := v16 a16
    clear hall a0 a1 a2 a3 a4 a5 a6 a7 a8 a9 a10 a11 a12 a13 a14 a15 a16
    generalize t 16 = x16 at hHr17 v16 ⊢; generalize t 15 = x15 at hHr17 v15 ⊢; generalize t 14 = x14 at hHr17 v14 ⊢; generalize t 13 = x13 at hHr17 v13 ⊢; generalize t 12 = x12 at hHr17 v12 ⊢; generalize t 11 = x11 at hHr17 v11 ⊢; generalize t 10 = x10 at hHr17 v10 ⊢; generalize t 9 = x9 at hHr17 v9 ⊢; generalize t 8 = x8 at hHr17 v8 ⊢; generalize t 7 = x7 at hHr17 v7 ⊢; generalize t 6 = x6 at hHr17 v6 ⊢; generalize t 5 = x5 at hHr17 v5 ⊢; generalize t 4 = x4 at hHr17 v4 ⊢; generalize t 3 = x3 at hHr17 v3 ⊢; generalize t 2 = x2 at hHr17 v2 ⊢; generalize t 1 = x1 at hHr17 v1 ⊢; generalize t 0 = x0 at hHr17 v0 ⊢; subst v0; subst v1; subst v2; subst v3; subst v4; subst v5; subst v6; subst v7; subst v8; subst v9; subst v10; subst v11; subst v12
    obtain ⟨p1r1713, n1r1713, c1r1713, p2r1713, n2r1713, c2r1713, p3r1713, n3r1713, c3r1713, rfl⟩ := v13
    subst v14; subst v15; subst v16
    clear b
    replace hH := hHr17; clear hHr17
    replace hH : Held wN wr17 [nB wN.heap.size k p n aV m cV aO op.length cO, aTs (.slice aTA mTA cTA) csA (PA.map (tenOf dimOf)), aI (.slice aOA OA.length cOA) OA, nB wn7.heap.size k p n aTA mTA cTA aOA OA.length cOA, aTs (.slice aTB mTB cTB) csB (PB.map (tenOf dimOf)), aI (.slice aOB OB.length cOB) OB, nB wn9.heap.size k p n aTB mTB cTB aOB OB.length cOB, aT (.agg #[.slice cp1 cn1 cc1, .slice cp2 cn2 cc2, .slice cp3 cn3 cc3]) op (op.map dimOf) (flat RX), tB wn11.heap.size cp1 cn1 cc1 cp2 cn2 cc2 cp3 cn3 cc3, aT (.agg #[.slice p1r1713 n1r1713 c1r1713, .slice p2r1713 n2r1713 c2r1713, .slice p3r1713 n3r1713 c3r1713]) op (op.map dimOf) (flat RX)] := hH
    replace hH : Held wN wr17 [nB wN.heap.size k p n aV m cV aO op.length cO, aTs (.slice aTA mTA cTA) csA (PA.map (tenOf dimOf)), aI (.slice aOA OA.length cOA) OA, nB wn7.heap.size k p n aTA mTA cTA aOA OA.length cOA, aTs (.slice aTB mTB cTB) csB (PB.map (tenOf dimOf)), aI (.slice aOB OB.length cOB) OB, nB wn9.heap.size k p n aTB mTB cTB aOB OB.length cOB] := hH.sub (.cons_cons _ (.cons_cons _ (.cons_cons _ (.cons_cons _ (.cons_cons _ (.cons_cons _ (.cons_cons _ (.cons _ (.cons _ (.cons _ .slnil))))))))))
    obtain ⟨we, rfl⟩ : ∃ q, q = wr17 := ⟨wr17, rfl⟩
    obtain ⟨q0_0, q0_1, q0_2, q0_3, q0_4, l0_⟩ := hH.c5 0 rfl; obtain ⟨q3_0, q3_1, q3_2, q3_3, q3_4, l3_⟩ := hH.c5 3 rfl; obtain ⟨q6_0, q6_1, q6_2, q6_3, q6_4, l6_⟩ := hH.c5 6 rfl; have c_kr_0 := hH.ext.cell kr_0; have c_kr_1 := hH.ext.cell kr_1; have c_kr_2 := hH.ext.cell kr_2
    have c_kr_l := Nat.lt_of_lt_of_le kr_l hH.ext.size
    go_upto_region 19 with fail
    clear q0_0 q0_1 q0_2 q0_3 q0_4 l0_ q3_0 q3_1 q3_2 q3_3 q3_4 l3_ q6_0 q6_1 q6_2 q6_3 q6_4 l6_ c_kr_0 c_kr_1 c_kr_2 c_kr_l
    have HPLA := Lib.hid (plain_ok (m := PA.length) HAN.out.len)
    have HPQA := Lib.hid (plainT_len PA.length (PA.length - 1))
    obtain ⟨SA, hSA⟩ : ∃ q, plainT PA.length (PA.length - 1) = q := ⟨_, rfl⟩
    rw [hSA] at HPLA HPQA
    have HSA := Lib.hid hSA; clear hSA
    replace hH := hH.mores 3
    replace hH : Held wN we [nB wN.heap.size k p n aV m cV aO op.length cO, aTs (.slice aTA mTA cTA) csA (PA.map (tenOf dimOf)), aI (.slice aOA OA.length cOA) OA, nB wn7.heap.size k p n aTA mTA cTA aOA OA.length cOA, aTs (.slice aTB mTB cTB) csB (PB.map (tenOf dimOf)), aI (.slice aOB OB.length cOB) OB, nB wn9.heap.size k p n aTB mTB cTB aOB OB.length cOB, emp, emp, emp] := hH
    refine wp_region_steps ?FqA (fun b t wx => Held wN wx [nB wN.heap.size k p n aV m cV aO op.length cO, aTs (.slice aTA mTA cTA) csA (PA.map (tenOf dimOf)), aI (.slice aOA OA.length cOA) OA, nB wn7.heap.size k p n aTA mTA cTA aOA OA.length cOA, aTs (.slice aTB mTB cTB) csB (PB.map (tenOf dimOf)), aI (.slice aOB OB.length cOB) OB, nB wn9.heap.size k p n aTB mTB cTB aOB OB.length cOB, (bif b 2 then aSt (t 2) SA else emp), (bif b 3 then aT (tup0 (t 3)) OA (OA.map dimOf) (flat XA) else emp), (bif b 8 then aB (blkOf (t 7)) 35 (partsOf (t 5)) else (bif b 7 then aB (blkOf (t 7)) 35 [.slice none 0 0, .slice none 0 0, .slice none 0 0] else emp))] ∧ (b 0 = true → t 0 = .agg #[.int .i64 k, .int .i64 p, .int .i64 n, .slice aTA mTA cTA, .slice aOA OA.length cOA]) ∧ (b 1 = true → t 1 = .agg #[.int .i64 k, .int .i64 p, .int .i64 n, .slice aTA mTA cTA, .slice aOA OA.length cOA]) ∧ (b 2 = true → ∃ x c, t 2 = .slice x SA.length c) ∧ (b 3 = true → ∃ p1 n1 c1 p2 n2 c2 p3 n3 c3, t 3 = .tuple #[.agg #[.slice p1 n1 c1, .slice p2 n2 c2, .slice p3 n3 c3], .bool true]) ∧ (b 4 = true → t 4 = t 3) ∧ (b 5 = true → t 5 = tup0 (t 3)) ∧ (b 6 = true → t 6 = .bool true) ∧ (b 7 = true → ∃ q, t 7 = .pointer (some ⟨q, 0, none⟩)) ∧ (b 9 = true → t 9 = .bool true)) ?hFqA (by kernel_rfl) (by kernel_rfl) ?hJqA ?hSqA ?hEqA
    (case hFqA => intro t; simp only [putAll, Act.put, List.setIfInBounds_toArray, List.set_cons_zero, List.set_cons_succ, Nat.reduceAdd, Nat.zero_add]; exact rfl)
    case hJqA => exact ⟨hH.grow ((Ext.refl _).drew), nof, nof, nof, nof, nof, nof, nof, nof, nof⟩
    case hSqA => as_aux_lemma =>
      refine st 1 rfl (fun b t wx hJ hb hd hcl Kc hK => ?_) ?_
      · obtain ⟨hH, hV⟩ := hJ
        obtain ⟨q3_0, q3_1, q3_2, q3_3, q3_4, _⟩ := hH.c5 3 rfl
        go_simp
        apply sk hK
        · rfl
        exact ⟨hH, rp (fun _ => rfl) hV⟩
      refine st 2 rfl (fun b t wx hJ hb hd hcl Kc hK => ?_) ?_
      · obtain ⟨hH, hV⟩ := hJ
        obtain ⟨q3_0, q3_1, q3_2, q3_3, q3_4, _⟩ := hH.c5 3 rfl
        go_simp
        apply sk hK
        · rfl
        exact ⟨hH, jA (rp (fun _ => rfl)) hV⟩
      refine st 3 rfl (fun b t wx hJ hb hd hcl Kc hK => ?_) ?_
      · obtain ⟨hH, hV⟩ := hJ
        have d1 := so hd 1; have r1 := hV.2.1 d1
        have hN := hH; (try simp only [hb, d1, cond_true, cond_false] at hN)
        go_simp
        go_at_call 12
        refine (plainOrder_own HR.out HAN.out _ _ _ (hH.tensS (k := 1) rfl) (hH.ints (k := 2) rfl)).mono ?_; rintro e2 w2 ⟨v2, rfl, hJ2⟩
        rw [HSA.out] at hJ2
        obtain ⟨q2, e2, rfl, _, _⟩ := (hJ2.steps (k := 0) rfl).val
        (try go_simp)
        apply sk hK
        · (try simp only [r1]); rfl
        exact ⟨by have hX := hN.add 7 hJ2.ext (hJ2.get (k := 0) rfl) (fun b hb => (hJ2.fpr (k := 0) rfl b hb).1); simpa only [List.set_cons_zero, List.set_cons_succ, updB, updV, blkOf_mk, tup0_mk, partsOf3, Nat.reduceBEq, cond_true, cond_false, hb, d1, r1] using hX, jB (rp (fun _ => ⟨_, _, rfl⟩)) hV⟩
      refine st 4 rfl (fun b t wx hJ hb hd hcl Kc hK => ?_) ?_
      · obtain ⟨hH, v0, v1, v2, v3, v4, v5, v6, v7, v9⟩ := hJ
        have d0 := so hd 0; have d2 := so hd 2
        have n4 : b 4 = false := nf hb fun h => sc hcl 4 3 (h)
        have n5 : b 5 = false := nf hb fun h => sc hcl 4 3 (sc hcl 5 4 (h))
        have r0 := v0 d0; have r2 := v2 d2
        obtain ⟨x_2, c_2, r2⟩ := r2
        have hN := hH; (try simp only [hb, d0, d2, n4, n5, cond_true, cond_false] at hN)
        go_simp
        go_at_call 11
        refine (contract_net_any HR.out HAN.out _ _ _ (hH.tensS (k := 1) rfl) (hH.ints (k := 2) rfl) HPLA.out HPQA.out _ (by have h := hN.steps (k := 7) rfl; rw [r2] at h; exact h)).mono ?_; rintro e3 w3 ⟨vc, rfl, oc, hc⟩
        rw [HXA.out] at oc
        obtain ⟨pa1, na1, ca1, pa2, na2, ca2, pa3, na3, ca3, rfl⟩ := oc.shape
        (try go_simp)
        apply sk hK
        · (try simp only [r0, r2]); rfl
        exact ⟨by have hX := hN.addT 8 hc oc (Nat.le_refl _); simpa only [List.set_cons_zero, List.set_cons_succ, updB, updV, blkOf_mk, tup0_mk, partsOf3, Nat.reduceBEq, cond_true, cond_false, hb, d0, d2, n4, n5, r0, r2] using hX, v0, v1, v2, fun _ => ⟨_, _, _, _, _, _, _, _, _, rfl⟩, ab n4, ab n5, v6, v7, v9⟩
      refine st 5 rfl (fun b t wx hJ hb hd hcl Kc hK => ?_) ?_
      · obtain ⟨hH, hV⟩ := hJ
        have d3 := so hd 3; have r3 := hV.2.2.2.1 d3
        obtain ⟨p1_3, n1_3, c1_3, p2_3, n2_3, c2_3, p3_3, n3_3, c3_3, r3⟩ := r3
        go_simp
        apply sk hK
        · (try simp only [r3]); rfl
        exact ⟨hH, jD (rp (fun _ => (by first | rfl | exact r3.symm))) hV⟩
      refine st 6 rfl (fun b t wx hJ hb hd hcl Kc hK => ?_) ?_
      · obtain ⟨hH, hV⟩ := hJ
        have d3 := sc hcl 4 3 (so hd 4); have d4 := so hd 4
        have n8 : b 8 = false := nf hb fun h => sc hcl 8 5 (h)
        have r3 := hV.2.2.2.1 d3; have r4 := hV.2.2.2.2.1 d4
        obtain ⟨p1_3, n1_3, c1_3, p2_3, n2_3, c2_3, p3_3, n3_3, c3_3, r3⟩ := r3
        have hN := hH; (try simp only [hb, d3, d4, n8, cond_true, cond_false] at hN)
        have e3 := r3 -- d3
        go_simp
        apply sk hK
        · (try simp only [r3, r4]); rfl
        exact ⟨by have hX := hN; simpa only [List.set_cons_zero, List.set_cons_succ, updB, updV, blkOf_mk, tup0_mk, partsOf3, Nat.reduceBEq, cond_true, cond_false, hb, d3, d4, n8, r3, r4] using hX, jD (jA (rp (fun _ => (by show _ = tup0 (t 3); rw [r3]; rfl)))) hV⟩
      refine st 7 rfl (fun b t wx hJ hb hd hcl Kc hK => ?_) ?_
      · obtain ⟨hH, hV⟩ := hJ
        have d3 := sc hcl 4 3 (so hd 4); have d4 := so hd 4; have r3 := hV.2.2.2.1 d3; have r4 := hV.2.2.2.2.1 d4
        obtain ⟨p1_3, n1_3, c1_3, p2_3, n2_3, c2_3, p3_3, n3_3, c3_3, r3⟩ := r3
        have e3 := r3 -- d3
        go_simp
        apply sk hK
        · (try simp only [r3, r4]); rfl
        exact ⟨hH, jD (jB (rp (fun _ => rfl))) hV⟩
      refine st 8 rfl (fun b t wx hJ hb hd hcl Kc hK => ?_) ?_
      · obtain ⟨hH, hV⟩ := hJ
        have n8 : b 8 = false := nf hb fun h => sc hcl 8 7 (h)
        have hN := hH; (try simp only [hb, n8, cond_true, cond_false] at hN)
        go_simp
        apply sk hK
        · rfl
        exact ⟨by have hX := hN.addB 9 #[.slice none 0 0, .slice none 0 0, .slice none 0 0] 35; simpa only [List.set_cons_zero, List.set_cons_succ, updB, updV, blkOf_mk, tup0_mk, partsOf3, Nat.reduceBEq, cond_true, cond_false, hb, n8] using hX, jD (jB (jA (rp (fun _ => ⟨_, rfl⟩)))) hV⟩
      refine st 9 rfl (fun b t wx hJ hb hd hcl Kc hK => ?_) ?_
      · obtain ⟨hH, hV⟩ := hJ
        have d0 := so hd 0; have d1 := so hd 1; have d2 := so hd 2; have d3 := so hd 3; have d4 := so hd 4; have d5 := so hd 5; have d7 := so hd 7; have r0 := hV.1 d0; have r1 := hV.2.1 d1; have r2 := hV.2.2.1 d2; have r3 := hV.2.2.2.1 d3; have r4 := hV.2.2.2.2.1 d4; have r5 := hV.2.2.2.2.2.1 d5; have r7 := hV.2.2.2.2.2.2.2.1 d7
        obtain ⟨x_2, c_2, r2⟩ := r2
        obtain ⟨p1_3, n1_3, c1_3, p2_3, n2_3, c2_3, p3_3, n3_3, c3_3, r3⟩ := r3
        obtain ⟨q_7, r7⟩ := r7
        have hN := hH; (try simp only [hb, d0, d1, d2, d3, d4, d5, d7, cond_true, cond_false] at hN)
        rw [r3, tup0_mk] at r5 -- d3
        simp only [r7, r5, blkOf_mk, tup0_mk, partsOf3] at hN
        have B := hN.blk (k := 9) rfl
        have f0 := B.free 0; have z0 := B.cell (j := 0) rfl
        have f1 := B.free 1; have z1 := B.cell (j := 1) rfl
        have f2 := B.free 2; have z2 := B.cell (j := 2) rfl
        have lB := B.lt; have hmk0 := @tup0_mk
        go_simp
        refine hK.out _ undef _ ?_ ?_; rotate_left 1
        · (try simp only [r0, r1, r2, r3, r4, r5, r7]); rfl
        exact ⟨by have hX := hN.setB3' (k := 9) rfl (.slice p1_3 n1_3 c1_3) (.slice p2_3 n2_3 c2_3) (.slice p3_3 n3_3 c3_3); simpa only [List.set_cons_zero, List.set_cons_succ, updB, updV, blkOf_mk, tup0_mk, partsOf3, Nat.reduceBEq, cond_true, cond_false, hb, d0, d1, d2, d3, d4, d5, d7, r0, r1, r2, r3, r4, r5, r7] using hX, hV⟩
      refine st 10 rfl (fun b t wx hJ hb hd hcl Kc hK => ?_) ?_
      · obtain ⟨hH, hV⟩ := hJ
        have d0 := so hd 0; have d1 := so hd 1; have d2 := so hd 2; have d3 := so hd 3; have d4 := so hd 4; have d5 := so hd 5; have d6 := so hd 6; have d7 := so hd 7; have d8 := so hd 8; have r0 := hV.1 d0; have r1 := hV.2.1 d1; have r2 := hV.2.2.1 d2; have r3 := hV.2.2.2.1 d3; have r4 := hV.2.2.2.2.1 d4; have r5 := hV.2.2.2.2.2.1 d5; have r6 := hV.2.2.2.2.2.2.1 d6; have r7 := hV.2.2.2.2.2.2.2.1 d7
        obtain ⟨x_2, c_2, r2⟩ := r2
        obtain ⟨p1_3, n1_3, c1_3, p2_3, n2_3, c2_3, p3_3, n3_3, c3_3, r3⟩ := r3
        obtain ⟨q_7, r7⟩ := r7
        go_simp
        apply sk hK
        · (try simp only [r0, r1, r2, r3, r4, r5, r6, r7]); rfl
        exact ⟨hH, jD (jD (fun _ => fun _ => rfl)) hV⟩
      exact AllSteps.nil
    case hEqA =>
     intro b t wqA hJ hall
     obtain ⟨hHqA, v0, v1, v2, v3, v4, v5, v6, v7, v9⟩ := hJ
     have a0 := hall 0 (by decide); have a1 := hall 1 (by decide); have a2 := hall 2 (by decide); have a3 := hall 3 (by decide); have a4 := hall 4 (by decide); have a5 := hall 5 (by decide); have a6 := hall 6 (by decide); have a7 := hall 7 (by decide); have a8 := hall 8 (by decide); have a9 := hall 9 (by decide)
     (try simp only [a0, a1, a2, a3, a4, a5, a6, a7, a8, a9, cond_true] at hHqA)
     replace v0 := v0 a0; replace v1 := v1 a1; replace v2 := v2 a2; replace v3 := v3 a3; replace v4 := v4 a4; replace v5 := v5 a5; replace v6 := v6 a6; replace v7 := v7 a7; replace v9 := v9 a9
     clear hall a0 a1 a2 a3 a4 a5 a6 a7 a8 a9
     generalize t 9 = x9 at hHqA v9 ⊢; generalize t 7 = x7 at hHqA v7 ⊢; generalize t 6 = x6 at hHqA v6 ⊢; generalize t 5 = x5 at hHqA v5 ⊢; generalize t 4 = x4 at hHqA v4 ⊢; generalize t 3 = x3 at hHqA v3 v4 v5 ⊢; generalize t 2 = x2 at hHqA v2 ⊢; generalize t 1 = x1 at hHqA v1 ⊢; generalize t 0 = x0 at hHqA v0 ⊢; subst v0; subst v1
     obtain ⟨xqA2, cqA2, rfl⟩ := v2
     obtain ⟨p1qA3, n1qA3, c1qA3, p2qA3, n2qA3, c2qA3, p3qA3, n3qA3, c3qA3, rfl⟩ := v3
     subst v4; subst v5; subst v6
     obtain ⟨qqA7, rfl⟩ := v7
     subst v9
     simp only [blkOf_mk, tup0_mk, partsOf3] at hHqA
     clear b
     replace hH := hHqA; clear hHqA
     replace hH : Held wN wqA [nB wN.heap.size k p n aV m cV aO op.length cO, aTs (.slice aTA mTA cTA) csA (PA.map (tenOf dimOf)), aI (.slice aOA OA.length cOA) OA, nB wn7.heap.size k p n aTA mTA cTA aOA OA.length cOA, aTs (.slice aTB mTB cTB) csB (PB.map (tenOf dimOf)), aI (.slice aOB OB.length cOB) OB, nB wn9.heap.size k p n aTB mTB cTB aOB OB.length cOB, aSt (.slice xqA2 SA.length cqA2) SA, aT (.agg #[.slice p1qA3 n1qA3 c1qA3, .slice p2qA3 n2qA3 c2qA3, .slice p3qA3 n3qA3 c3qA3]) OA (OA.map dimOf) (flat XA), tB qqA7 p1qA3 n1qA3 c1qA3 p2qA3 n2qA3 c2qA3 p3qA3 n3qA3 c3qA3] := hH
     replace hH : Held wN wqA [nB wN.heap.size k p n aV m cV aO op.length cO, aTs (.slice aTB mTB cTB) csB (PB.map (tenOf dimOf)), aI (.slice aOB OB.length cOB) OB, nB wn9.heap.size k p n aTB mTB cTB aOB OB.length cOB, aT (.agg #[.slice p1qA3 n1qA3 c1qA3, .slice p2qA3 n2qA3 c2qA3, .slice p3qA3 n3qA3 c3qA3]) OA (OA.map dimOf) (flat XA), tB qqA7 p1qA3 n1qA3 c1qA3 p2qA3 n2qA3 c2qA3 p3qA3 n3qA3 c3qA3] := hH.sub (.cons_cons _ (.cons _ (.cons _ (.cons _ (.cons_cons _ (.cons_cons _ (.cons_cons _ (.cons _ (.cons_cons _ (.cons_cons _ .slnil))))))))))
     obtain ⟨wfA, rfl⟩ : ∃ q, q = wqA := ⟨wqA, rfl⟩
     obtain ⟨q0_0, q0_1, q0_2, q0_3, q0_4, l0_⟩ := hH.c5 0 rfl; obtain ⟨q3_0, q3_1, q3_2, q3_3, q3_4, l3_⟩ := hH.c5 3 rfl; obtain ⟨q5_0, q5_1, q5_2, l5_⟩ := hH.c3 5 rfl; have c_kr_0 := hH.ext.cell kr_0; have c_kr_1 := hH.ext.cell kr_1; have c_kr_2 := hH.ext.cell kr_2
     have c_kr_l := Nat.lt_of_lt_of_le kr_l hH.ext.size
     go_upto_region 20 with fail
     clear q0_0 q0_1 q0_2 q0_3 q0_4 l0_ q3_0 q3_1 q3_2 q3_3 q3_4 l3_ q5_0 q5_1 q5_2 l5_ c_kr_0 c_kr_1 c_kr_2 c_kr_l
     have HPLB := Lib.hid (plain_ok (m := PB.length) HBN.out.len)
     have HPQB := Lib.hid (plainT_len PB.length (PB.length - 1))
     obtain ⟨SB, hSB⟩ : ∃ q, plainT PB.length (PB.length - 1) = q := ⟨_, rfl⟩
     rw [hSB] at HPLB HPQB
     have HSB := Lib.hid hSB; clear hSB
     replace hH := hH.mores 3
     replace hH : Held wN wfA [nB wN.heap.size k p n aV m cV aO op.length cO, aTs (.slice aTB mTB cTB) csB (PB.map (tenOf dimOf)), aI (.slice aOB OB.length cOB) OB, nB wn9.heap.size k p n aTB mTB cTB aOB OB.length cOB, aT (.agg #[.slice p1qA3 n1qA3 c1qA3, .slice p2qA3 n2qA3 c2qA3, .slice p3qA3 n3qA3 c3qA3]) OA (OA.map dimOf) (flat XA), tB qqA7 p1qA3 n1qA3 c1qA3 p2qA3 n2qA3 c2qA3 p3qA3 n3qA3 c3qA3, emp, emp, emp] := hH
     refine wp_region_steps ?FqB (fun b t wx => Held wN wx [nB wN.heap.size k p n aV m cV aO op.length cO, aTs (.slice aTB mTB cTB) csB (PB.map (tenOf dimOf)), aI (.slice aOB OB.length cOB) OB, nB wn9.heap.size k p n aTB mTB cTB aOB OB.length cOB, aT (.agg #[.slice p1qA3 n1qA3 c1qA3, .slice p2qA3 n2qA3 c2qA3, .slice p3qA3 n3qA3 c3qA3]) OA (OA.map dimOf) (flat XA), tB qqA7 p1qA3 n1qA3 c1qA3 p2qA3 n2qA3 c2qA3 p3qA3 n3qA3 c3qA3, (bif b 2 then aSt (t 2) SB else emp), (bif b 3 then aT (tup0 (t 3)) OB (OB.map dimOf) (flat XB) else emp), (bif b 8 then aB (blkOf (t 7)) 35 (partsOf (t 5)) else (bif b 7 then aB (blkOf (t 7)) 35 [.slice none 0 0, .slice none 0 0, .slice none 0 0] else emp))] ∧ (b 0 = true → t 0 = .agg #[.int .i64 k, .int .i64 p, .int .i64 n, .slice aTB mTB cTB, .slice aOB OB.length cOB]) ∧ (b 1 = true → t 1 = .agg #[.int .i64 k, .int .i64 p, .int .i64 n, .slice aTB mTB cTB, .slice aOB OB.length cOB]) ∧ (b 2 = true → ∃ x c, t 2 = .slice x SB.length c) ∧ (b 3 = true → ∃ p1 n1 c1 p2 n2 c2 p3 n3 c3, t 3 = .tuple #[.agg #[.slice p1 n1 c1, .slice p2 n2 c2, .slice p3 n3 c3], .bool true]) ∧ (b 4 = true → t 4 = t 3) ∧ (b 5 = true → t 5 = tup0 (t 3)) ∧ (b 6 = true → t 6 = .bool true) ∧ (b 7 = true → ∃ q, t 7 = .pointer (some ⟨q, 0, none⟩)) ∧ (b 9 = true → t 9 = .bool true)) ?hFqB (by kernel_rfl) (by kernel_rfl) ?hJqB ?hSqB ?hEqB
     (case hFqB => intro t; simp only [putAll, Act.put, List.setIfInBounds_toArray, List.set_cons_zero, List.set_cons_succ, Nat.reduceAdd, Nat.zero_add]; exact rfl)
     case hJqB => exact ⟨hH.grow ((Ext.refl _).drew), nof, nof, nof, nof, nof, nof, nof, nof, nof⟩
     case hSqB => as_aux_lemma =>
       refine st 1 rfl (fun b t wx hJ hb hd hcl Kc hK => ?_) ?_
       · obtain ⟨hH, hV⟩ := hJ
         obtain ⟨q3_0, q3_1, q3_2, q3_3, q3_4, _⟩ := hH.c5 3 rfl
         go_simp
         apply sk hK
         · rfl
         exact ⟨hH, rp (fun _ => rfl) hV⟩
       refine st 2 rfl (fun b t wx hJ hb hd hcl Kc hK => ?_) ?_
       · obtain ⟨hH, hV⟩ := hJ
         obtain ⟨q3_0, q3_1, q3_2, q3_3, q3_4, _⟩ := hH.c5 3 rfl
         go_simp
         apply sk hK
         · rfl
         exact ⟨hH, jA (rp (fun _ => rfl)) hV⟩
       refine st 3 rfl (fun b t wx hJ hb hd hcl Kc hK => ?_) ?_
       · obtain ⟨hH, hV⟩ := hJ
         have d1 := so hd 1; have r1 := hV.2.1 d1
         have hN := hH; (try simp only [hb, d1, cond_true, cond_false] at hN)
         go_simp
         go_at_call 12
         refine (plainOrder_own HR.out HBN.out _ _ _ (hH.tensS (k := 1) rfl) (hH.ints (k := 2) rfl)).mono ?_; rintro e2 w2 ⟨v2, rfl, hJ2⟩
         rw [HSB.out] at hJ2
         obtain ⟨q2, e2, rfl, _, _⟩ := (hJ2.steps (k := 0) rfl).val
         (try go_simp)
         apply sk hK
         · (try simp only [r1]); rfl
         exact ⟨by have hX := hN.add 6 hJ2.ext (hJ2.get (k := 0) rfl) (fun b hb => (hJ2.fpr (k := 0) rfl b hb).1); simpa only [List.set_cons_zero, List.set_cons_succ, updB, updV, blkOf_mk, tup0_mk, partsOf3, Nat.reduceBEq, cond_true, cond_false, hb, d1, r1] using hX, jB (rp (fun _ => ⟨_, _, rfl⟩)) hV⟩
       refine st 4 rfl (fun b t wx hJ hb hd hcl Kc hK => ?_) ?_
       · obtain ⟨hH, v0, v1, v2, v3, v4, v5, v6, v7, v9⟩ := hJ
         have d0 := so hd 0; have d2 := so hd 2
         have n4 : b 4 = false := nf hb fun h => sc hcl 4 3 (h)
         have n5 : b 5 = false := nf hb fun h => sc hcl 4 3 (sc hcl 5 4 (h))
         have r0 := v0 d0; have r2 := v2 d2
         obtain ⟨x_2, c_2, r2⟩ := r2
         have hN := hH; (try simp only [hb, d0, d2, n4, n5, cond_true, cond_false] at hN)
         go_simp
         go_at_call 11
         refine (contract_net_any HR.out HBN.out _ _ _ (hH.tensS (k := 1) rfl) (hH.ints (k := 2) rfl) HPLB.out HPQB.out _ (by have h := hN.steps (k := 6) rfl; rw [r2] at h; exact h)).mono ?_; rintro e3 w3 ⟨vc, rfl, oc, hc⟩
         rw [HXB.out] at oc
         obtain ⟨pa1, na1, ca1, pa2, na2, ca2, pa3, na3, ca3, rfl⟩ := oc.shape
         (try go_simp)
         apply sk hK
         · (try simp only [r0, r2]); rfl
         exact ⟨by have hX := hN.addT 7 hc oc (Nat.le_refl _); simpa only [List.set_cons_zero, List.set_cons_succ, updB, updV, blkOf_mk, tup0_mk, partsOf3, Nat.reduceBEq, cond_true, cond_false, hb, d0, d2, n4, n5, r0, r2] using hX, v0, v1, v2, fun _ => ⟨_, _, _, _, _, _, _, _, _, rfl⟩, ab n4, ab n5, v6, v7, v9⟩
       refine st 5 rfl (fun b t wx hJ hb hd hcl Kc hK => ?_) ?_
       · obtain ⟨hH, hV⟩ := hJ
         have d3 := so hd 3; have r3 := hV.2.2.2.1 d3
         obtain ⟨p1_3, n1_3, c1_3, p2_3, n2_3, c2_3, p3_3, n3_3, c3_3, r3⟩ := r3
         go_simp
         apply sk hK
         · (try simp only [r3]); rfl
         exact ⟨hH, jD (rp (fun _ => (by first | rfl | exact r3.symm))) hV⟩
       refine st 6 rfl (fun b t wx hJ hb hd hcl Kc hK => ?_) ?_
       · obtain ⟨hH, hV⟩ := hJ
         have d3 := sc hcl 4 3 (so hd 4); have d4 := so hd 4
         have n8 : b 8 = false := nf hb fun h => sc hcl 8 5 (h)
         have r3 := hV.2.2.2.1 d3; have r4 := hV.2.2.2.2.1 d4
         obtain ⟨p1_3, n1_3, c1_3, p2_3, n2_3, c2_3, p3_3, n3_3, c3_3, r3⟩ := r3
         have hN := hH; (try simp only [hb, d3, d4, n8, cond_true, cond_false] at hN)
         have e3 := r3 -- d3
         go_simp
         apply sk hK
         · (try simp only [r3, r4]); rfl
         exact ⟨by have hX := hN; simpa only [List.set_cons_zero, List.set_cons_succ, updB, updV, blkOf_mk, tup0_mk, partsOf3, Nat.reduceBEq, cond_true, cond_false, hb, d3, d4, n8, r3, r4] using hX, jD (jA (rp (fun _ => (by show _ = tup0 (t 3); rw [r3]; rfl)))) hV⟩
       refine st 7 rfl (fun b t wx hJ hb hd hcl Kc hK => ?_) ?_
       · obtain ⟨hH, hV⟩ := hJ
         have d3 := sc hcl 4 3 (so hd 4); have d4 := so hd 4; have r3 := hV.2.2.2.1 d3; have r4 := hV.2.2.2.2.1 d4
         obtain ⟨p1_3, n1_3, c1_3, p2_3, n2_3, c2_3, p3_3, n3_3, c3_3, r3⟩ := r3
         have e3 := r3 -- d3
         go_simp
         apply sk hK
         · (try simp only [r3, r4]); rfl
         exact ⟨hH, jD (jB (rp (fun _ => rfl))) hV⟩
       refine st 8 rfl (fun b t wx hJ hb hd hcl Kc hK => ?_) ?_
       · obtain ⟨hH, hV⟩ := hJ
         have n8 : b 8 = false := nf hb fun h => sc hcl 8 7 (h)
         have hN := hH; (try simp only [hb, n8, cond_true, cond_false] at hN)
         go_simp
         apply sk hK
         · rfl
         exact ⟨by have hX := hN.addB 8 #[.slice none 0 0, .slice none 0 0, .slice none 0 0] 35; simpa only [List.set_cons_zero, List.set_cons_succ, updB, updV, blkOf_mk, tup0_mk, partsOf3, Nat.reduceBEq, cond_true, cond_false, hb, n8] using hX, jD (jB (jA (rp (fun _ => ⟨_, rfl⟩)))) hV⟩
       refine st 9 rfl (fun b t wx hJ hb hd hcl Kc hK => ?_) ?_
       · obtain ⟨hH, hV⟩ := hJ
         have d0 := so hd 0; have d1 := so hd 1; have d2 := so hd 2; have d3 := so hd 3; have d4 := so hd 4; have d5 := so hd 5; have d7 := so hd 7; have r0 := hV.1 d0; have r1 := hV.2.1 d1; have r2 := hV.2.2.1 d2; have r3 := hV.2.2.2.1 d3; have r4 := hV.2.2.2.2.1 d4; have r5 := hV.2.2.2.2.2.1 d5; have r7 := hV.2.2.2.2.2.2.2.1 d7
         obtain ⟨x_2, c_2, r2⟩ := r2
         obtain ⟨p1_3, n1_3, c1_3, p2_3, n2_3, c2_3, p3_3, n3_3, c3_3, r3⟩ := r3
         obtain ⟨q_7, r7⟩ := r7
         have hN := hH; (try simp only [hb, d0, d1, d2, d3, d4, d5, d7, cond_true, cond_false] at hN)
         rw [r3, tup0_mk] at r5 -- d3
         simp only [r7, r5, blkOf_mk, tup0_mk, partsOf3] at hN
         have B := hN.blk (k := 8) rfl
         have f0 := B.free 0; have z0 := B.cell (j := 0) rfl
         have f1 := B.free 1; have z1 := B.cell (j := 1) rfl
         have f2 := B.free 2; have z2 := B.cell (j := 2) rfl
         have lB := B.lt; have hmk0 := @tup0_mk
         go_simp
         refine hK.out _ undef _ ?_ ?_; rotate_left 1
         · (try simp only [r0, r1, r2, r3, r4, r5, r7]); rfl
         exact ⟨by have hX := hN.setB3' (k := 8) rfl (.slice p1_3 n1_3 c1_3) (.slice p2_3 n2_3 c2_3) (.slice p3_3 n3_3 c3_3); simpa only [List.set_cons_zero, List.set_cons_succ, updB, updV, blkOf_mk, tup0_mk, partsOf3, Nat.reduceBEq, cond_true, cond_false, hb, d0, d1, d2, d3, d4, d5, d7, r0, r1, r2, r3, r4, r5, r7] using hX, hV⟩
       refine st 10 rfl (fun b t wx hJ hb hd hcl Kc hK => ?_) ?_
       · obtain ⟨hH, hV⟩ := hJ
         have d0 := so hd 0; have d1 := so hd 1; have d2 := so hd 2; have d3 := so hd 3; have d4 := so hd 4; have d5 := so hd 5; have d6 := so hd 6; have d7 := so hd 7; have d8 := so hd 8; have r0 := hV.1 d0; have r1 := hV.2.1 d1; have r2 := hV.2.2.1 d2; have r3 := hV.2.2.2.1 d3; have r4 := hV.2.2.2.2.1 d4; have r5 := hV.2.2.2.2.2.1 d5; have r6 := hV.2.2.2.2.2.2.1 d6; have r7 := hV.2.2.2.2.2.2.2.1 d7
         obtain ⟨x_2, c_2, r2⟩ := r2
         obtain ⟨p1_3, n1_3, c1_3, p2_3, n2_3, c2_3, p3_3, n3_3, c3_3, r3⟩ := r3
         obtain ⟨q_7, r7⟩ := r7
         go_simp
         apply sk hK
         · (try simp only [r0, r1, r2, r3, r4, r5, r6, r7]); rfl
         exact ⟨hH, jD (jD (fun _ => fun _ => rfl)) hV⟩
       exact AllSteps.nil
     case hEqB =>
      intro b t wqB hJ hall
      obtain ⟨hHqB, v0, v1, v2, v3, v4, v5, v6, v7, v9⟩ := hJ
      have a0 := hall 0 (by decide); have a1 := hall 1 (by decide); have a2 := hall 2 (by decide); have a3 := hall 3 (by decide); have a4 := hall 4 (by decide); have a5 := hall 5 (by decide); have a6 := hall 6 (by decide); have a7 := hall 7 (by decide); have a8 := hall 8 (by decide); have a9 := hall 9 (by decide)
      (try simp only [a0, a1, a2, a3, a4, a5, a6, a7, a8, a9, cond_true] at hHqB)
      replace v0 := v0 a0; replace v1 := v1 a1; replace v2 := v2 a2; replace v3 := v3 a3; replace v4 := v4 a4; replace v5 := v5 a5; replace v6 := v6 a6; replace v7 := v7 a7; replace v9 := v9 a9
      clear hall a0 a1 a2 a3 a4 a5 a6 a7 a8 a9
      generalize t 9 = x9 at hHqB v9 ⊢; generalize t 7 = x7 at hHqB v7 ⊢; generalize t 6 = x6 at hHqB v6 ⊢; generalize t 5 = x5 at hHqB v5 ⊢; generalize t 4 = x4 at hHqB v4 ⊢; generalize t 3 = x3 at hHqB v3 v4 v5 ⊢; generalize t 2 = x2 at hHqB v2 ⊢; generalize t 1 = x1 at hHqB v1 ⊢; generalize t 0 = x0 at hHqB v0 ⊢; subst v0; subst v1
      obtain ⟨xqB2, cqB2, rfl⟩ := v2
      obtain ⟨p1qB3, n1qB3, c1qB3, p2qB3, n2qB3, c2qB3, p3qB3, n3qB3, c3qB3, rfl⟩ := v3
      subst v4; subst v5; subst v6
      obtain ⟨qqB7, rfl⟩ := v7
      subst v9
      simp only [blkOf_mk, tup0_mk, partsOf3] at hHqB
      clear b
      replace hH := hHqB; clear hHqB
      replace hH : Held wN wqB [nB wN.heap.size k p n aV m cV aO op.length cO, aTs (.slice aTB mTB cTB) csB (PB.map (tenOf dimOf)), aI (.slice aOB OB.length cOB) OB, nB wn9.heap.size k p n aTB mTB cTB aOB OB.length cOB, aT (.agg #[.slice p1qA3 n1qA3 c1qA3, .slice p2qA3 n2qA3 c2qA3, .slice p3qA3 n3qA3 c3qA3]) OA (OA.map dimOf) (flat XA), tB qqA7 p1qA3 n1qA3 c1qA3 p2qA3 n2qA3 c2qA3 p3qA3 n3qA3 c3qA3, aSt (.slice xqB2 SB.length cqB2) SB, aT (.agg #[.slice p1qB3 n1qB3 c1qB3, .slice p2qB3 n2qB3 c2qB3, .slice p3qB3 n3qB3 c3qB3]) OB (OB.map dimOf) (flat XB), tB qqB7 p1qB3 n1qB3 c1qB3 p2qB3 n2qB3 c2qB3 p3qB3 n3qB3 c3qB3] := hH
      replace hH : Held wN wqB [nB wN.heap.size k p n aV m cV aO op.length cO, aT (.agg #[.slice p1qA3 n1qA3 c1qA3, .slice p2qA3 n2qA3 c2qA3, .slice p3qA3 n3qA3 c3qA3]) OA (OA.map dimOf) (flat XA), tB qqA7 p1qA3 n1qA3 c1qA3 p2qA3 n2qA3 c2qA3 p3qA3 n3qA3 c3qA3, aT (.agg #[.slice p1qB3 n1qB3 c1qB3, .slice p2qB3 n2qB3 c2qB3, .slice p3qB3 n3qB3 c3qB3]) OB (OB.map dimOf) (flat XB), tB qqB7 p1qB3 n1qB3 c1qB3 p2qB3 n2qB3 c2qB3 p3qB3 n3qB3 c3qB3] := hH.sub (.cons_cons _ (.cons _ (.cons _ (.cons _ (.cons_cons _ (.cons_cons _ (.cons _ (.cons_cons _ (.cons_cons _ .slnil)))))))))
      obtain ⟨wfB, rfl⟩ : ∃ q, q = wqB := ⟨wqB, rfl⟩
      have HTZ := Lib.hid (contr_isT HR.out HAT.out HBT.out op)
      have HSS := Lib.hid (sums_same HR.out HN.out HTZ.out.sub HHS.out)
      obtain ⟨ZL, hZL⟩ : ∃ q, keepL (joinL OA OB) op = q := ⟨_, rfl⟩
      obtain ⟨ZX, hZX⟩ : ∃ q, contrXs HR.out dimOf OA OB op XA XB = q := ⟨_, rfl⟩
      rw [hZL, hZX] at HTZ HSS
      rw [HRX.out] at HSS
      have HZL := Lib.hid hZL; have HZX := Lib.hid hZX
      clear hZL hZX
      obtain ⟨q0_0, q0_1, q0_2, q0_3, q0_4, l0_⟩ := hH.c5 0 rfl; obtain ⟨q2_0, q2_1, q2_2, l2_⟩ := hH.c3 2 rfl; obtain ⟨q4_0, q4_1, q4_2, l4_⟩ := hH.c3 4 rfl; have c_kr_0 := hH.ext.cell kr_0; have c_kr_1 := hH.ext.cell kr_1; have c_kr_2 := hH.ext.cell kr_2
      have c_kr_l := Nat.lt_of_lt_of_le kr_l hH.ext.size
      go_wp2_with fail
      clear q0_0 q0_1 q0_2 q0_3 q0_4 l0_ q2_0 q2_1 q2_2 l2_ q4_0 q4_1 q4_2 l4_ c_kr_0 c_kr_1 c_kr_2 c_kr_l
      refine (contractPair_any HR.out HAT.out HBT.out op _ _ _ _ (hH.tens (k := 1) rfl) (hH.tens (k := 3) rfl) (hO.ext hH.ext)).mono ?_; rintro ewn13 wn13 ⟨vc, rfl, oc, hwn13⟩
      rw [HZL.out, HZX.out] at oc
      obtain ⟨zp1, zn1, zc1, zp2, zn2, zc2, zp3, zn3, zc3, rfl⟩ := oc.shape
      replace hH : Held wN wn13 [nB wN.heap.size k p n aV m cV aO op.length cO, aT (.agg #[.slice p1qA3 n1qA3 c1qA3, .slice p2qA3 n2qA3 c2qA3, .slice p3qA3 n3qA3 c3qA3]) OA (OA.map dimOf) (flat XA), tB qqA7 p1qA3 n1qA3 c1qA3 p2qA3 n2qA3 c2qA3 p3qA3 n3qA3 c3qA3, aT (.agg #[.slice p1qB3 n1qB3 c1qB3, .slice p2qB3 n2qB3 c2qB3, .slice p3qB3 n3qB3 c3qB3]) OB (OB.map dimOf) (flat XB), tB qqB7 p1qB3 n1qB3 c1qB3 p2qB3 n2qB3 c2qB3 p3qB3 n3qB3 c3qB3, aT (.agg #[.slice zp1 zn1 zc1, .slice zp2 zn2 zc2, .slice zp3 zn3 zc3]) ZL (ZL.map dimOf) (flat ZX)] := (hH.mores 1).addT 5 hwn13 oc (Nat.le_refl _)
      clear hwn13
      obtain ⟨q0_0, q0_1, q0_2, q0_3, q0_4, l0_⟩ := hH.c5 0 rfl; obtain ⟨q2_0, q2_1, q2_2, l2_⟩ := hH.c3 2 rfl; obtain ⟨q4_0, q4_1, q4_2, l4_⟩ := hH.c3 4 rfl; have c_kr_0 := hH.ext.cell kr_0; have c_kr_1 := hH.ext.cell kr_1; have c_kr_2 := hH.ext.cell kr_2
      have c_kr_l := Nat.lt_of_lt_of_le kr_l hH.ext.size
      go_wp2_with fail
      clear q0_0 q0_1 q0_2 q0_3 q0_4 l0_ q2_0 q2_1 q2_2 l2_ q4_0 q4_1 q4_2 l4_ c_kr_0 c_kr_1 c_kr_2 c_kr_l
      obtain ⟨hB, hsz⟩ := hH.laid #[.slice zp1 zn1 zc1, .slice zp2 zn2 zc2, .slice zp3 zn3 zc3] 35
      generalize wn13.alloc (.cells #[.slice zp1 zn1 zc1, .slice zp2 zn2 zc2, .slice zp3 zn3 zc3] 35) = wn14 at hB hsz ⊢
      replace hH : Held wN wn14 [nB wN.heap.size k p n aV m cV aO op.length cO, aT (.agg #[.slice p1qA3 n1qA3 c1qA3, .slice p2qA3 n2qA3 c2qA3, .slice p3qA3 n3qA3 c3qA3]) OA (OA.map dimOf) (flat XA), tB qqA7 p1qA3 n1qA3 c1qA3 p2qA3 n2qA3 c2qA3 p3qA3 n3qA3 c3qA3, aT (.agg #[.slice p1qB3 n1qB3 c1qB3, .slice p2qB3 n2qB3 c2qB3, .slice p3qB3 n3qB3 c3qB3]) OB (OB.map dimOf) (flat XB), tB qqB7 p1qB3 n1qB3 c1qB3 p2qB3 n2qB3 c2qB3 p3qB3 n3qB3 c3qB3, aT (.agg #[.slice zp1 zn1 zc1, .slice zp2 zn2 zc2, .slice zp3 zn3 zc3]) ZL (ZL.map dimOf) (flat ZX), tB wn13.heap.size zp1 zn1 zc1 zp2 zn2 zc2 zp3 zn3 zc3] := hB
      have HSZwn14 := Lib.hid (show wn14.heap.size = wn13.heap.size + 1 by rw [hsz]); clear hB hsz
      replace hH : Held wN wn14 [nB wN.heap.size k p n aV m cV aO op.length cO, aT (.agg #[.slice zp1 zn1 zc1, .slice zp2 zn2 zc2, .slice zp3 zn3 zc3]) ZL (ZL.map dimOf) (flat ZX), tB wn13.heap.size zp1 zn1 zc1 zp2 zn2 zc2 zp3 zn3 zc3] := hH.sub (.cons_cons _ (.cons _ (.cons _ (.cons _ (.cons _ (.cons_cons _ (.cons_cons _ .slnil)))))))
      obtain ⟨wg, rfl⟩ : ∃ q, q = wn14 := ⟨wn14, rfl⟩
      obtain ⟨q0_0, q0_1, q0_2, q0_3, q0_4, l0_⟩ := hH.c5 0 rfl; obtain ⟨q2_0, q2_1, q2_2, l2_⟩ := hH.c3 2 rfl; have c_kr_0 := hH.ext.cell kr_0; have c_kr_1 := hH.ext.cell kr_1; have c_kr_2 := hH.ext.cell kr_2
      have c_kr_l := Nat.lt_of_lt_of_le kr_l hH.ext.size
      go_wp2_with fail
      clear q0_0 q0_1 q0_2 q0_3 q0_4 l0_ q2_0 q2_1 q2_2 l2_ c_kr_0 c_kr_1 c_kr_2 c_kr_l
      refine (partsOf_any HR.out HN.out _ _ _ (hT0.ext hH.ext) (hO.ext hH.ext)).mono ?_; rintro ewn15 wn15 ⟨u, vs, PP, rfl, hJ, hMg, hPl, hPr⟩
      have hPO := parts_ok HN.out hMg hPl hPr
      obtain ⟨PL, hPL⟩ : ∃ q, partsL PP ts.length ts.length = q := ⟨_, rfl⟩
      rw [hPL] at hPO hJ
      rw [HM.out] at hPO
      obtain ⟨np, hnp⟩ : ∃ q, PL.length = q := ⟨_, rfl⟩
      have hnp12 : np ≤ 12 := by rw [← hnp]; exact hPO.few
      obtain ⟨aP, cP, hvb, _, _⟩ := (hJ.rowsS (k := 0) rfl).val
      rw [hnp] at hvb
      subst hvb
      have HPO := Lib.hid hPO; have HNP := Lib.hid hnp
      clear hPO hPL hMg hPl hPr hnp
      replace hH : Held wN wn15 [nB wN.heap.size k p n aV m cV aO op.length cO, aT (.agg #[.slice zp1 zn1 zc1, .slice zp2 zn2 zc2, .slice zp3 zn3 zc3]) ZL (ZL.map dimOf) (flat ZX), tB wn13.heap.size zp1 zn1 zc1 zp2 zn2 zc2 zp3 zn3 zc3, aLs (.slice aP np cP) vs PL] := hH.join hJ (fun q hq => by cases hq)
      clear hJ
      obtain ⟨q0_0, q0_1, q0_2, q0_3, q0_4, l0_⟩ := hH.c5 0 rfl; obtain ⟨q2_0, q2_1, q2_2, l2_⟩ := hH.c3 2 rfl; have c_kr_0 := hH.ext.cell kr_0; have c_kr_1 := hH.ext.cell kr_1; have c_kr_2 := hH.ext.cell kr_2
      have c_kr_l := Nat.lt_of_lt_of_le kr_l hH.ext.size
      go_wp2_with fail
      clear q0_0 q0_1 q0_2 q0_3 q0_4 l0_ q2_0 q2_1 q2_2 l2_ c_kr_0 c_kr_1 c_kr_2 c_kr_l
      go_loopw [20, 117] (fun vc i wr => ∃ (j : Nat), j ≤ np ∧ i = .int .i64 (j : Int) ∧ vc = .int .i64 (cntP PL j : Int) ∧ Held wN wr [nB wN.heap.size k p n aV m cV aO op.length cO, aT (.agg #[.slice zp1 zn1 zc1, .slice zp2 zn2 zc2, .slice zp3 zn3 zc3]) ZL (ZL.map dimOf) (flat ZX), tB wn13.heap.size zp1 zn1 zc1 zp2 zn2 zc2 zp3 zn3 zc3, aLs (.slice aP np cP) vs PL]) (fun vc i wr => np - (RowKit.intOf i).toNat)
      case atStart => exact ⟨0, Nat.zero_le _, rfl, rfl, hH⟩
      case round =>
       clear hH
       obtain ⟨j, hj, rfl, rfl, hH⟩ := hrel
       obtain ⟨cj, hcj⟩ : ∃ q, cntP PL j = q := ⟨_, rfl⟩
       rw [hcj]
       have hcj12 : cj ≤ 12 := by rw [← hcj]; have h1 := cntP_le PL j; rw [HPO.out.total] at h1; omega
       have HCJ := Lib.hid hcj; clear hcj
       obtain ⟨wq1, rfl⟩ : ∃ q, q = wr := ⟨wr, rfl⟩
       by_cases hlt : j < np
       ·
        obtain ⟨bP, oP, vl, pl, hva, hcl, hIl, hgl, _⟩ := (hH.rowsS (k := 3) rfl).get (i := j) (by rw [HNP.out]; exact hlt)
        subst hva
        have HPE2 := Lib.hid (HPO.out.elem pl (List.mem_of_getElem? hgl))
        have HPN2 := Lib.hid (HPO.out.nei pl (List.mem_of_getElem? hgl))
        have HCS : Hid (cntP PL (j + 1) = cj + pl.length) := Lib.hid (by rw [cntP_succ hgl, HCJ.out])
        have hpl12 : pl.length ≤ 12 := Nat.le_trans HPE2.out.1 (by omega)
        obtain ⟨avl, cvl, rfl, _, _⟩ := hIl.val
        clear hgl
        obtain ⟨q0_0, q0_1, q0_2, q0_3, q0_4, l0_⟩ := hH.c5 0 rfl; obtain ⟨q2_0, q2_1, q2_2, l2_⟩ := hH.c3 2 rfl; have c_kr_0 := hH.ext.cell kr_0; have c_kr_1 := hH.ext.cell kr_1; have c_kr_2 := hH.ext.cell kr_2
        have c_kr_l := Nat.lt_of_lt_of_le kr_l hH.ext.size
        go_wp2_with fail
        clear q0_0 q0_1 q0_2 q0_3 q0_4 l0_ q2_0 q2_1 q2_2 l2_ c_kr_0 c_kr_1 c_kr_2 c_kr_l
        clear hcl
        go_loopw [127] (fun i wr => ∃ (q : Nat), q ≤ pl.length ∧ i = .int .i64 (q : Int) ∧ Ext wq1 wr ∧ Held wN wr [nB wN.heap.size k p n aV m cV aO op.length cO, aT (.agg #[.slice zp1 zn1 zc1, .slice zp2 zn2 zc2, .slice zp3 zn3 zc3]) ZL (ZL.map dimOf) (flat ZX), tB wn13.heap.size zp1 zn1 zc1 zp2 zn2 zc2 zp3 zn3 zc3, aLs (.slice (some ⟨bP, oP, none⟩) np cP) vs PL]) (fun i wr => pl.length - (RowKit.intOf i).toNat)
        case atStart => exact ⟨0, Nat.zero_le _, rfl, Ext.refl _, hH⟩
        case round =>
         clear hH
         obtain ⟨q, hq, rfl, hE1, hH⟩ := hrel
         obtain ⟨wq2, rfl⟩ : ∃ q, q = wr := ⟨wr, rfl⟩
         by_cases hlq : q < pl.length
         ·
          obtain ⟨bL, oL, x, hva, hcx0, hgx, _⟩ := hIl.get hlq
          subst hva
          have hcx := hE1.cell hcx0
          obtain ⟨kx, rfl⟩ : ∃ kx : Nat, x = (kx : Int) := ⟨x.toNat, by have := (HPE2.out.2.2 x (List.mem_of_getElem? hgx)).1; omega⟩
          have hkm : kx < m := by have := (HPE2.out.2.2 _ (List.mem_of_getElem? hgx)).2; omega
          have HGX := Lib.hid hgx
          by_cases hp1 : 1 < pl.length
          ·
           have HNB := Lib.hid (HPN2.out hp1 kx (List.mem_of_getElem? hgx)); clear hgx
           rcases Nat.eq_zero_or_pos q with hq0 | hq0
           ·
            subst hq0
            rw [Nat.add_zero] at hcx
            obtain ⟨q0_0, q0_1, q0_2, q0_3, q0_4, l0_⟩ := hH.c5 0 rfl; obtain ⟨q2_0, q2_1, q2_2, l2_⟩ := hH.c3 2 rfl; have c_kr_0 := hH.ext.cell kr_0; have c_kr_1 := hH.ext.cell kr_1; have c_kr_2 := hH.ext.cell kr_2
            have c_kr_l := Nat.lt_of_lt_of_le kr_l hH.ext.size
            go_wp2_with fail
            clear q0_0 q0_1 q0_2 q0_3 q0_4 l0_ q2_0 q2_1 q2_2 l2_ c_kr_0 c_kr_1 c_kr_2 c_kr_l
            refine (neighborsOf_any HR.out HN.out _ _ _ (hT0.ext hH.ext) (hO.ext hH.ext) kx (by rw [HM.out]; exact hkm)).mono ?_; rintro ewn16 wn16 ⟨vn, rfl, on, hwn16⟩
            have HE2 := Lib.hid (hE1.trans hwn16)
            obtain ⟨NL, hNL⟩ : ∃ z, neiL (ts.map (·.1)) kx ts.length = z := ⟨_, rfl⟩
            rw [hNL] at on
            have hnl0 : 0 < NL.length := by rw [← hNL]; exact HNB.out
            clear hNL
            obtain ⟨an, cn, rfl⟩ := on.shape1 NL.length rfl
            have hnb : ((NL.length : Int) == 0) = false := by rw [beq_eq_false_iff_ne]; omega
            have hni : ¬ (NL.length : Int) = 0 := by omega
            have hnn : ¬ NL.length = 0 := by omega
            replace hH : Held wN wn16 [nB wN.heap.size k p n aV m cV aO op.length cO, aT (.agg #[.slice zp1 zn1 zc1, .slice zp2 zn2 zc2, .slice zp3 zn3 zc3]) ZL (ZL.map dimOf) (flat ZX), tB wn13.heap.size zp1 zn1 zc1 zp2 zn2 zc2 zp3 zn3 zc3, aLs (.slice (some ⟨bP, oP, none⟩) np cP) vs PL] := hH.grow hwn16
            clear hwn16
            obtain ⟨q0_0, q0_1, q0_2, q0_3, q0_4, l0_⟩ := hH.c5 0 rfl; obtain ⟨q2_0, q2_1, q2_2, l2_⟩ := hH.c3 2 rfl; have c_kr_0 := hH.ext.cell kr_0; have c_kr_1 := hH.ext.cell kr_1; have c_kr_2 := hH.ext.cell kr_2
            have c_kr_l := Nat.lt_of_lt_of_le kr_l hH.ext.size
            go_wp2_with fail
            clear q0_0 q0_1 q0_2 q0_3 q0_4 l0_ q2_0 q2_1 q2_2 l2_ c_kr_0 c_kr_1 c_kr_2 c_kr_l
            go_roundw
            case rel => exact ⟨0 + 1, by omega, by go_num, HE2.out, hH⟩
            case measure => simp [RowKit.intOf]; omega
           ·
            obtain ⟨q', hqq⟩ : ∃ q', q = q' + 1 := ⟨q - 1, by omega⟩
            obtain ⟨bL2, oL2, y, hva2, hcy0, hgy, _⟩ := hIl.get (i := q') (by omega)
            cases hva2
            have hcy := hE1.cell hcy0
            have hyx : y < (kx : Int) := by
             obtain ⟨h1, e1⟩ := List.getElem?_eq_some_iff.1 hgy
             obtain ⟨h2, e2⟩ := List.getElem?_eq_some_iff.1 HGX.out
             have h3 := List.pairwise_iff_getElem.1 HPE2.out.2.1 q' q h1 h2 (by omega)
             rw [e1, e2] at h3
             exact h3
            have hyb : ((kx : Int) == y) = false := by rw [beq_eq_false_iff_ne]; omega
            have hyi : ¬ (kx : Int) = y := by omega
            subst hqq
            clear hgy hcy0
            obtain ⟨q0_0, q0_1, q0_2, q0_3, q0_4, l0_⟩ := hH.c5 0 rfl; obtain ⟨q2_0, q2_1, q2_2, l2_⟩ := hH.c3 2 rfl; have c_kr_0 := hH.ext.cell kr_0; have c_kr_1 := hH.ext.cell kr_1; have c_kr_2 := hH.ext.cell kr_2
            have c_kr_l := Nat.lt_of_lt_of_le kr_l hH.ext.size
            go_wp2_with fail
            clear q0_0 q0_1 q0_2 q0_3 q0_4 l0_ q2_0 q2_1 q2_2 l2_ c_kr_0 c_kr_1 c_kr_2 c_kr_l
            refine (neighborsOf_any HR.out HN.out _ _ _ (hT0.ext hH.ext) (hO.ext hH.ext) kx (by rw [HM.out]; exact hkm)).mono ?_; rintro ewn17 wn17 ⟨vn, rfl, on, hwn17⟩
            have HE2 := Lib.hid (hE1.trans hwn17)
            obtain ⟨NL, hNL⟩ : ∃ z, neiL (ts.map (·.1)) kx ts.length = z := ⟨_, rfl⟩
            rw [hNL] at on
            have hnl0 : 0 < NL.length := by rw [← hNL]; exact HNB.out
            clear hNL
            obtain ⟨an, cn, rfl⟩ := on.shape1 NL.length rfl
            have hnb : ((NL.length : Int) == 0) = false := by rw [beq_eq_false_iff_ne]; omega
            have hni : ¬ (NL.length : Int) = 0 := by omega
            have hnn : ¬ NL.length = 0 := by omega
            replace hH : Held wN wn17 [nB wN.heap.size k p n aV m cV aO op.length cO, aT (.agg #[.slice zp1 zn1 zc1, .slice zp2 zn2 zc2, .slice zp3 zn3 zc3]) ZL (ZL.map dimOf) (flat ZX), tB wn13.heap.size zp1 zn1 zc1 zp2 zn2 zc2 zp3 zn3 zc3, aLs (.slice (some ⟨bP, oP, none⟩) np cP) vs PL] := hH.grow hwn17
            clear hwn17
            obtain ⟨q0_0, q0_1, q0_2, q0_3, q0_4, l0_⟩ := hH.c5 0 rfl; obtain ⟨q2_0, q2_1, q2_2, l2_⟩ := hH.c3 2 rfl; have c_kr_0 := hH.ext.cell kr_0; have c_kr_1 := hH.ext.cell kr_1; have c_kr_2 := hH.ext.cell kr_2
            have c_kr_l := Nat.lt_of_lt_of_le kr_l hH.ext.size
            go_wp2_with fail
            clear q0_0 q0_1 q0_2 q0_3 q0_4 l0_ q2_0 q2_1 q2_2 l2_ c_kr_0 c_kr_1 c_kr_2 c_kr_l
            go_roundw
            case rel => exact ⟨(q' + 1) + 1, by omega, by go_num, HE2.out, hH⟩
            case measure => simp [RowKit.intOf]; omega
          ·
           have hq0 : q = 0 := by omega
           subst hq0
           rw [Nat.add_zero] at hcx
           clear hgx
           obtain ⟨q0_0, q0_1, q0_2, q0_3, q0_4, l0_⟩ := hH.c5 0 rfl; obtain ⟨q2_0, q2_1, q2_2, l2_⟩ := hH.c3 2 rfl; have c_kr_0 := hH.ext.cell kr_0; have c_kr_1 := hH.ext.cell kr_1; have c_kr_2 := hH.ext.cell kr_2
           have c_kr_l := Nat.lt_of_lt_of_le kr_l hH.ext.size
           go_wp2_with fail
           clear q0_0 q0_1 q0_2 q0_3 q0_4 l0_ q2_0 q2_1 q2_2 l2_ c_kr_0 c_kr_1 c_kr_2 c_kr_l
           go_roundw
           case rel => exact ⟨0 + 1, by omega, by go_num, hE1, hH⟩
           case measure => simp [RowKit.intOf]; omega
         ·
          obtain ⟨q0_0, q0_1, q0_2, q0_3, q0_4, l0_⟩ := hH.c5 0 rfl; obtain ⟨q2_0, q2_1, q2_2, l2_⟩ := hH.c3 2 rfl; have c_kr_0 := hH.ext.cell kr_0; have c_kr_1 := hH.ext.cell kr_1; have c_kr_2 := hH.ext.cell kr_2
          have c_kr_l := Nat.lt_of_lt_of_le kr_l hH.ext.size
          go_wp2_with fail
          clear q0_0 q0_1 q0_2 q0_3 q0_4 l0_ q2_0 q2_1 q2_2 l2_ c_kr_0 c_kr_1 c_kr_2 c_kr_l
          go_roundw
          case rel => exact ⟨j + 1, by omega, by go_num, by rw [HCS.out]; first | rfl | go_num, hH⟩
          case measure => simp [RowKit.intOf]; omega
       ·
        have hje : np = j := by omega
        subst hje
        have hcm : m = cj := by have h1 := cntP_all PL; rw [HNP.out, HCJ.out, HPO.out.total] at h1; exact h1.symm
        subst hcm
        clear hlt hj
        obtain ⟨q0_0, q0_1, q0_2, q0_3, q0_4, l0_⟩ := hH.c5 0 rfl; obtain ⟨q2_0, q2_1, q2_2, l2_⟩ := hH.c3 2 rfl; have c_kr_0 := hH.ext.cell kr_0; have c_kr_1 := hH.ext.cell kr_1; have c_kr_2 := hH.ext.cell kr_2
        have c_kr_l := Nat.lt_of_lt_of_le kr_l hH.ext.size
        go_upto_region 34 with fail
        clear q0_0 q0_1 q0_2 q0_3 q0_4 l0_ q2_0 q2_1 q2_2 l2_ c_kr_0 c_kr_1 c_kr_2 c_kr_l
        replace hH := hH.mores 1
        replace hH : Held wN wq1 [nB wN.heap.size k p n aV m cV aO op.length cO, aT (.agg #[.slice zp1 zn1 zc1, .slice zp2 zn2 zc2, .slice zp3 zn3 zc3]) ZL (ZL.map dimOf) (flat ZX), tB wn13.heap.size zp1 zn1 zc1 zp2 zn2 zc2 zp3 zn3 zc3, aLs (.slice aP np cP) vs PL, emp] := hH
        refine wp_region_steps ?Fr34 (fun b t wx => Held wN wx [nB wN.heap.size k p n aV m cV aO op.length cO, aT (.agg #[.slice zp1 zn1 zc1, .slice zp2 zn2 zc2, .slice zp3 zn3 zc3]) ZL (ZL.map dimOf) (flat ZX), tB wn13.heap.size zp1 zn1 zc1 zp2 zn2 zc2 zp3 zn3 zc3, aLs (.slice aP np cP) vs PL, (bif b 11 then aT (t 11) op (op.map dimOf) (flat RX) else emp)] ∧ (b 0 = true → t 0 = .bool true) ∧ (b 1 = true → t 1 = .bool true) ∧ (b 2 = true → t 2 = .bool true) ∧ (b 3 = true → t 3 = .bool true) ∧ (b 4 = true → t 4 = .bool true) ∧ (b 5 = true → t 5 = .bool true) ∧ (b 6 = true → t 6 = .bool true) ∧ (b 7 = true → t 7 = .bool true) ∧ (b 8 = true → t 8 = .agg #[.int .i64 k, .int .i64 p, .int .i64 n]) ∧ (b 9 = true → t 9 = .agg #[.slice zp1 zn1 zc1, .slice zp2 zn2 zc2, .slice zp3 zn3 zc3]) ∧ (b 10 = true → t 10 = .agg #[.int .i64 k, .int .i64 p, .int .i64 n, .slice aV m cV, .slice aO op.length cO]) ∧ (b 11 = true → ∃ p1 n1 c1 p2 n2 c2 p3 n3 c3, t 11 = .agg #[.slice p1 n1 c1, .slice p2 n2 c2, .slice p3 n3 c3]) ∧ (b 12 = true → t 12 = .bool true) ∧ (b 13 = true → t 13 = .bool true) ∧ (b 14 = true → t 14 = .bool true) ∧ (b 15 = true → t 15 = .int .i64 (m : Int)) ∧ (b 16 = true → t 16 = .pointer (some ⟨wN.heap.size, 3, none⟩)) ∧ (b 17 = true → t 17 = .slice aV m cV) ∧ (b 18 = true → t 18 = .int .i64 (m : Int)) ∧ (b 19 = true → t 19 = .bool true) ∧ (b 20 = true → t 20 = .bool true) ∧ (b 21 = true → t 21 = .bool true)) ?hFr34 (by kernel_rfl) (by kernel_rfl) ?hJr34 ?hSr34 ?hEr34
        (case hFr34 => intro t; simp only [putAll, Act.put, List.setIfInBounds_toArray, List.set_cons_zero, List.set_cons_succ, Nat.reduceAdd, Nat.zero_add]; exact rfl)
        case hJr34 => exact ⟨hH.grow ((Ext.refl _).drew), nof, nof, nof, nof, nof, nof, nof, nof, nof, nof, nof, nof, nof, nof, nof, nof, nof, nof, nof, nof, nof, nof⟩
        case hSr34 => as_aux_lemma =>
          refine st 1 rfl (fun b t wx hJ hb hd hcl Kc hK => ?_) ?_
          · obtain ⟨hH, hV⟩ := hJ
            have c_kr_0 := hH.ext.cell kr_0; have c_kr_1 := hH.ext.cell kr_1; have c_kr_2 := hH.ext.cell kr_2
            go_simp
            apply sk hK
            · rfl
            exact ⟨hH, rp (fun _ => rfl) hV⟩
          refine st 2 rfl (fun b t wx hJ hb hd hcl Kc hK => ?_) ?_
          · obtain ⟨hH, hV⟩ := hJ
            have d0 := so hd 0; have r0 := hV.1 d0; have c_kr_0 := hH.ext.cell kr_0; have c_kr_1 := hH.ext.cell kr_1; have c_kr_2 := hH.ext.cell kr_2
            go_simp
            apply sk hK
            · (try simp only [r0]); rfl
            exact ⟨hH, jA (rp (fun _ => rfl)) hV⟩
          refine st 3 rfl (fun b t wx hJ hb hd hcl Kc hK => ?_) ?_
          · obtain ⟨hH, hV⟩ := hJ
            have d1 := so hd 1; have r1 := hV.2.1 d1; have c_kr_0 := hH.ext.cell kr_0; have c_kr_1 := hH.ext.cell kr_1; have c_kr_2 := hH.ext.cell kr_2
            go_simp
            apply sk hK
            · (try simp only [r1]); rfl
            exact ⟨hH, jB (rp (fun _ => rfl)) hV⟩
          refine st 4 rfl (fun b t wx hJ hb hd hcl Kc hK => ?_) ?_
          · obtain ⟨hH, hV⟩ := hJ
            have d1 := so hd 1; have d2 := so hd 2; have r1 := hV.2.1 d1; have r2 := hV.2.2.1 d2; have c_kr_0 := hH.ext.cell kr_0; have c_kr_1 := hH.ext.cell kr_1; have c_kr_2 := hH.ext.cell kr_2
            go_simp
            apply sk hK
            · (try simp only [r1, r2]); rfl
            exact ⟨hH, jB (jA (rp (fun _ => rfl))) hV⟩
          refine st 5 rfl (fun b t wx hJ hb hd hcl Kc hK => ?_) ?_
          · obtain ⟨hH, hV⟩ := hJ
            have d1 := so hd 1; have d3 := so hd 3; have r1 := hV.2.1 d1; have r3 := hV.2.2.2.1 d3; have c_kr_0 := hH.ext.cell kr_0; have c_kr_1 := hH.ext.cell kr_1; have c_kr_2 := hH.ext.cell kr_2
            go_simp
            apply sk hK
            · (try simp only [r1, r3]); rfl
            exact ⟨hH, jD (rp (fun _ => rfl)) hV⟩
          refine st 6 rfl (fun b t wx hJ hb hd hcl Kc hK => ?_) ?_
          · obtain ⟨hH, hV⟩ := hJ
            have d4 := so hd 4; have r4 := hV.2.2.2.2.1 d4; have c_kr_0 := hH.ext.cell kr_0; have c_kr_1 := hH.ext.cell kr_1; have c_kr_2 := hH.ext.cell kr_2
            go_simp
            apply sk hK
            · (try simp only [r4]); rfl
            exact ⟨hH, jD (jA (rp (fun _ => rfl))) hV⟩
          refine st 7 rfl (fun b t wx hJ hb hd hcl Kc hK => ?_) ?_
          · obtain ⟨hH, hV⟩ := hJ
            have d4 := so hd 4; have d5 := so hd 5; have r4 := hV.2.2.2.2.1 d4; have r5 := hV.2.2.2.2.2.1 d5; have c_kr_0 := hH.ext.cell kr_0; have c_kr_1 := hH.ext.cell kr_1; have c_kr_2 := hH.ext.cell kr_2
            go_simp
            apply sk hK
            · (try simp only [r4, r5]); rfl
            exact ⟨hH, jD (jB (rp (fun _ => rfl))) hV⟩
          refine st 8 rfl (fun b t wx hJ hb hd hcl Kc hK => ?_) ?_
          · obtain ⟨hH, hV⟩ := hJ
            have d4 := so hd 4; have d6 := so hd 6; have r4 := hV.2.2.2.2.1 d4; have r6 := hV.2.2.2.2.2.2.1 d6; have c_kr_0 := hH.ext.cell kr_0; have c_kr_1 := hH.ext.cell kr_1; have c_kr_2 := hH.ext.cell kr_2
            go_simp
            apply sk hK
            · (try simp only [r4, r6]); rfl
            exact ⟨hH, jD (jB (jA (rp (fun _ => rfl)))) hV⟩
          refine st 9 rfl (fun b t wx hJ hb hd hcl Kc hK => ?_) ?_
          · obtain ⟨hH, hV⟩ := hJ
            have d7 := so hd 7; have r7 := hV.2.2.2.2.2.2.2.1 d7; have c_kr_0 := hH.ext.cell kr_0; have c_kr_1 := hH.ext.cell kr_1; have c_kr_2 := hH.ext.cell kr_2
            go_simp
            apply sk hK
            · (try simp only [r7]); rfl
            exact ⟨hH, jD (jD (rp (fun _ => rfl))) hV⟩
          refine st 10 rfl (fun b t wx hJ hb hd hcl Kc hK => ?_) ?_
          · obtain ⟨hH, hV⟩ := hJ
            have d7 := so hd 7; have r7 := hV.2.2.2.2.2.2.2.1 d7; have c_kr_0 := hH.ext.cell kr_0; have c_kr_1 := hH.ext.cell kr_1; have c_kr_2 := hH.ext.cell kr_2; obtain ⟨q2_0, q2_1, q2_2, _⟩ := hH.c3 2 rfl
            go_simp
            apply sk hK
            · (try simp only [r7]); rfl
            exact ⟨hH, jD (jD (jA (rp (fun _ => rfl)))) hV⟩
          refine st 11 rfl (fun b t wx hJ hb hd hcl Kc hK => ?_) ?_
          · obtain ⟨hH, hV⟩ := hJ
            have d7 := so hd 7; have r7 := hV.2.2.2.2.2.2.2.1 d7; have c_kr_0 := hH.ext.cell kr_0; have c_kr_1 := hH.ext.cell kr_1; have c_kr_2 := hH.ext.cell kr_2; obtain ⟨q0_0, q0_1, q0_2, q0_3, q0_4, _⟩ := hH.c5 0 rfl
            go_simp
            apply sk hK
            · (try simp only [r7]); rfl
            exact ⟨hH, jD (jD (jB (rp (fun _ => rfl)))) hV⟩
          refine st 12 rfl (fun b t wx hJ hb hd hcl Kc hK => ?_) ?_
          · obtain ⟨hH, hV⟩ := hJ
            have d7 := so hd 7; have d10 := so hd 10; have r7 := hV.2.2.2.2.2.2.2.1 d7; have r10 := hV.2.2.2.2.2.2.2.2.2.2.1 d10
            have hN := hH; (try simp only [hb, d7, d10, cond_true, cond_false] at hN)
            go_simp
            go_at_call 10
            refine (worth_any HR.out HN.out _ _ _ (hT0.ext hH.ext) (hO.ext hH.ext)).mono ?_; rintro e11 w11 ⟨u11, rfl, o11, h11⟩
            rw [HRX.out] at o11
            obtain ⟨pa1, na1, ca1, pa2, na2, ca2, pa3, na3, ca3, rfl⟩ := o11.shape
            (try go_simp)
            apply sk hK
            · (try simp only [r7, r10]); rfl
            exact ⟨by have hX := hN.addT 4 h11 o11 (Nat.le_refl _); simpa only [List.set_cons_zero, List.set_cons_succ, updB, updV, blkOf_mk, tup0_mk, partsOf3, Nat.reduceBEq, cond_true, cond_false, hb, d7, d10, r7, r10] using hX, jD (jD (jB (jA (rp (fun _ => ⟨_, _, _, _, _, _, _, _, _, rfl⟩))))) hV⟩
          refine st 13 rfl (fun b t wx hJ hb hd hcl Kc hK => ?_) ?_
          · obtain ⟨hH, hV⟩ := hJ
            have d7 := so hd 7; have d8 := so hd 8; have d9 := so hd 9; have d11 := so hd 11; have r7 := hV.2.2.2.2.2.2.2.1 d7; have r8 := hV.2.2.2.2.2.2.2.2.1 d8; have r9 := hV.2.2.2.2.2.2.2.2.2.1 d9; have r11 := hV.2.2.2.2.2.2.2.2.2.2.2.1 d11
            obtain ⟨p1_11, n1_11, c1_11, p2_11, n2_11, c2_11, p3_11, n3_11, c3_11, r11⟩ := r11
            have hN := hH; (try simp only [hb, d7, d8, d9, d11, cond_true, cond_false] at hN)
            go_simp
            go_at_call 16
            refine (sameTensor_yes HR.out HTZ.out HTX.out HSS.out.1 HSS.out.2 _ _ _ (hH.tens (k := 1) rfl) (by have h := hN.tens (k := 4) rfl; rw [r11] at h; exact h)).mono ?_; rintro e12 w12 ⟨rfl, h12⟩
            (try go_simp)
            apply sk hK
            · (try simp only [r7, r8, r9, r11]); rfl
            exact ⟨by have hX := hH.grow h12; simpa only [List.set_cons_zero, List.set_cons_succ, updB, updV, blkOf_mk, tup0_mk, partsOf3, Nat.reduceBEq, cond_true, cond_false, hb, d7, d8, d9, d11, r7, r8, r9, r11] using hX, jD (jD (jD (rp (fun _ => rfl)))) hV⟩
          refine st 14 rfl (fun b t wx hJ hb hd hcl Kc hK => ?_) ?_
          · obtain ⟨hH, hV⟩ := hJ
            have d7 := so hd 7; have d12 := so hd 12; have r7 := hV.2.2.2.2.2.2.2.1 d7; have r12 := hV.2.2.2.2.2.2.2.2.2.2.2.2.1 d12; have c_kr_0 := hH.ext.cell kr_0; have c_kr_1 := hH.ext.cell kr_1; have c_kr_2 := hH.ext.cell kr_2
            go_simp
            apply sk hK
            · (try simp only [r7, r12]); rfl
            exact ⟨hH, jD (jD (jD (jA (rp (fun _ => rfl))))) hV⟩
          refine st 15 rfl (fun b t wx hJ hb hd hcl Kc hK => ?_) ?_
          · obtain ⟨hH, hV⟩ := hJ
            have d12 := so hd 12; have d13 := so hd 13; have r12 := hV.2.2.2.2.2.2.2.2.2.2.2.2.1 d12; have r13 := hV.2.2.2.2.2.2.2.2.2.2.2.2.2.1 d13; have c_kr_0 := hH.ext.cell kr_0; have c_kr_1 := hH.ext.cell kr_1; have c_kr_2 := hH.ext.cell kr_2
            go_simp
            apply sk hK
            · (try simp only [r12, r13]); rfl
            exact ⟨hH, jD (jD (jD (jB (rp (fun _ => rfl))))) hV⟩
          refine st 16 rfl (fun b t wx hJ hb hd hcl Kc hK => ?_) ?_
          · obtain ⟨hH, hV⟩ := hJ
            have d14 := so hd 14; have r14 := hV.2.2.2.2.2.2.2.2.2.2.2.2.2.2.1 d14; have c_kr_0 := hH.ext.cell kr_0; have c_kr_1 := hH.ext.cell kr_1; have c_kr_2 := hH.ext.cell kr_2
            go_simp
            apply sk hK
            · (try simp only [r14]); rfl
            exact ⟨hH, jD (jD (jD (jB (jA (rp (fun _ => rfl)))))) hV⟩
          refine st 17 rfl (fun b t wx hJ hb hd hcl Kc hK => ?_) ?_
          · obtain ⟨hH, hV⟩ := hJ
            have d14 := so hd 14; have r14 := hV.2.2.2.2.2.2.2.2.2.2.2.2.2.2.1 d14; have c_kr_0 := hH.ext.cell kr_0; have c_kr_1 := hH.ext.cell kr_1; have c_kr_2 := hH.ext.cell kr_2
            go_simp
            apply sk hK
            · (try simp only [r14]); rfl
            exact ⟨hH, jD (jD (jD (jD (rp (fun _ => rfl))))) hV⟩
          refine st 18 rfl (fun b t wx hJ hb hd hcl Kc hK => ?_) ?_
          · obtain ⟨hH, hV⟩ := hJ
            have d14 := so hd 14; have d16 := so hd 16; have r14 := hV.2.2.2.2.2.2.2.2.2.2.2.2.2.2.1 d14; have r16 := hV.2.2.2.2.2.2.2.2.2.2.2.2.2.2.2.2.1 d16; have c_kr_0 := hH.ext.cell kr_0; have c_kr_1 := hH.ext.cell kr_1; have c_kr_2 := hH.ext.cell kr_2; have q0_3 := hH.cl 0 3 rfl rfl
            go_simp
            apply sk hK
            · (try simp only [r14, r16]); rfl
            exact ⟨hH, jD (jD (jD (jD (jA (rp (fun _ => rfl)))))) hV⟩
          refine st 19 rfl (fun b t wx hJ hb hd hcl Kc hK => ?_) ?_
          · obtain ⟨hH, hV⟩ := hJ
            have d14 := so hd 14; have d17 := so hd 17; have r14 := hV.2.2.2.2.2.2.2.2.2.2.2.2.2.2.1 d14; have r17 := hV.2.2.2.2.2.2.2.2.2.2.2.2.2.2.2.2.2.1 d17; have c_kr_0 := hH.ext.cell kr_0; have c_kr_1 := hH.ext.cell kr_1; have c_kr_2 := hH.ext.cell kr_2
            go_simp
            apply sk hK
            · (try simp only [r14, r17]); rfl
            exact ⟨hH, jD (jD (jD (jD (jB (rp (fun _ => rfl)))))) hV⟩
          refine st 20 rfl (fun b t wx hJ hb hd hcl Kc hK => ?_) ?_
          · obtain ⟨hH, hV⟩ := hJ
            have d14 := so hd 14; have d15 := so hd 15; have d18 := so hd 18; have r14 := hV.2.2.2.2.2.2.2.2.2.2.2.2.2.2.1 d14; have r15 := hV.2.2.2.2.2.2.2.2.2.2.2.2.2.2.2.1 d15; have r18 := hV.2.2.2.2.2.2.2.2.2.2.2.2.2.2.2.2.2.2.1 d18; have c_kr_0 := hH.ext.cell kr_0; have c_kr_1 := hH.ext.cell kr_1; have c_kr_2 := hH.ext.cell kr_2
            go_simp
            apply sk hK
            · (try simp only [r14, r15, r18]); rfl
            exact ⟨hH, jD (jD (jD (jD (jB (jA (rp (fun _ => rfl))))))) hV⟩
          refine st 21 rfl (fun b t wx hJ hb hd hcl Kc hK => ?_) ?_
          · obtain ⟨hH, hV⟩ := hJ
            have d14 := so hd 14; have d19 := so hd 19; have r14 := hV.2.2.2.2.2.2.2.2.2.2.2.2.2.2.1 d14; have r19 := hV.2.2.2.2.2.2.2.2.2.2.2.2.2.2.2.2.2.2.2.1 d19; have c_kr_0 := hH.ext.cell kr_0; have c_kr_1 := hH.ext.cell kr_1; have c_kr_2 := hH.ext.cell kr_2
            go_simp
            apply sk hK
            · (try simp only [r14, r19]); rfl
            exact ⟨hH, jD (jD (jD (jD (jD (rp (fun _ => rfl)))))) hV⟩
          refine st 22 rfl (fun b t wx hJ hb hd hcl Kc hK => ?_) ?_
          · obtain ⟨hH, hV⟩ := hJ
            have d0 := so hd 0; have d1 := so hd 1; have d2 := so hd 2; have d3 := so hd 3; have d4 := so hd 4; have d5 := so hd 5; have d6 := so hd 6; have d7 := so hd 7; have d8 := so hd 8; have d9 := so hd 9; have d10 := so hd 10; have d11 := so hd 11; have d12 := so hd 12; have d13 := so hd 13; have d14 := so hd 14; have d15 := so hd 15; have d16 := so hd 16; have d17 := so hd 17; have d18 := so hd 18; have d19 := so hd 19; have d20 := so hd 20; have r0 := hV.1 d0; have r1 := hV.2.1 d1; have r2 := hV.2.2.1 d2; have r3 := hV.2.2.2.1 d3; have r4 := hV.2.2.2.2.1 d4; have r5 := hV.2.2.2.2.2.1 d5; have r6 := hV.2.2.2.2.2.2.1 d6; have r7 := hV.2.2.2.2.2.2.2.1 d7; have r8 := hV.2.2.2.2.2.2.2.2.1 d8; have r9 := hV.2.2.2.2.2.2.2.2.2.1 d9; have r10 := hV.2.2.2.2.2.2.2.2.2.2.1 d10; have r11 := hV.2.2.2.2.2.2.2.2.2.2.2.1 d11; have r12 := hV.2.2.2.2.2.2.2.2.2.2.2.2.1 d12; have r13 := hV.2.2.2.2.2.2.2.2.2.2.2.2.2.1 d13; have r14 := hV.2.2.2.2.2.2.2.2.2.2.2.2.2.2.1 d14; have r15 := hV.2.2.2.2.2.2.2.2.2.2.2.2.2.2.2.1 d15; have r16 := hV.2.2.2.2.2.2.2.2.2.2.2.2.2.2.2.2.1 d16; have r17 := hV.2.2.2.2.2.2.2.2.2.2.2.2.2.2.2.2.2.1 d17; have r18 := hV.2.2.2.2.2.2.2.2.2.2.2.2.2.2.2.2.2.2.1 d18; have r19 := hV.2.2.2.2.2.2.2.2.2.2.2.2.2.2.2.2.2.2.2.1 d19; have r20 := hV.2.2.2.2.2.2.2.2.2.2.2.2.2.2.2.2.2.2.2.2.1 d20
            obtain ⟨p1_11, n1_11, c1_11, p2_11, n2_11, c2_11, p3_11, n3_11, c3_11, r11⟩ := r11
            have c_kr_0 := hH.ext.cell kr_0; have c_kr_1 := hH.ext.cell kr_1; have c_kr_2 := hH.ext.cell kr_2
            go_simp
            apply sk hK
            · (try simp only [r0, r1, r2, r3, r4, r5, r6, r7, r8, r9, r10, r11, r12, r13, r14, r15, r16, r17, r18, r19, r20]); rfl
            exact ⟨hH, jD (jD (jD (jD (jD (jA (fun _ => fun _ => rfl)))))) hV⟩
          exact AllSteps.nil
        case hEr34 =>
         intro b t wr34 hJ hall
         obtain ⟨hHr34, v0, v1, v2, v3, v4, v5, v6, v7, v8, v9, v10, v11, v12, v13, v14, v15, v16, v17, v18, v19, v20, v21⟩ := hJ
         have a0 := hall 0 (by decide); have a1 := hall 1 (by decide); have a2 := hall 2 (by decide); have a3 := hall 3 (by decide); have a4 := hall 4 (by decide); have a5 := hall 5 (by decide); have a6 := hall 6 (by decide); have a7 := hall 7 (by decide); have a8 := hall 8 (by decide); have a9 := hall 9 (by decide); have a10 := hall 10 (by decide); have a11 := hall 11 (by decide); have a12 := hall 12 (by decide); have a13 := hall 13 (by decide); have a14 := hall 14 (by decide); have a15 := hall 15 (by decide); have a16 := hall 16 (by decide); have a17 := hall 17 (by decide); have a18 := hall 18 (by decide); have a19 := hall 19 (by decide); have a20 := hall 20 (by decide); have a21 := hall 21 (by decide)
         (try simp only [a0, a1, a2, a3, a4, a5, a6, a7, a8, a9, a10, a11, a12, a13, a14, a15, a16, a17, a18, a19, a20, a21, cond_true] at hHr34)
         replace v0 := v0 a0; replace v1 := v1 a1; replace v2 := v2 a2; replace v3 := v3 a3; replace v4 := v4 a4; replace v5 := v5 a5; replace v6 := v6 a6; replace v7 := v7 a7; replace v8 := v8 a8; replace v9 := v9 a9; replace v10 := v10 a10; replace v11 := v11 a11; replace v12 := v12 a12; replace v13 := v13 a13; replace v14 := v14 a14; replace v15 := v15 a15; replace v16 := v16 a16; replace v17 := v17 a17; replace v18 := v18 a18; replace v19 := v19 a19; replace v20 := v20 a20; replace v21 := v21 a21
         clear hall a0 a1 a2 a3 a4 a5 a6 a7 a8 a9 a10 a11 a12 a13 a14 a15 a16 a17 a18 a19 a20 a21
         generalize t 21 = x21 at hHr34 v21 ⊢; generalize t 20 = x20 at hHr34 v20 ⊢; generalize t 19 = x19 at hHr34 v19 ⊢; generalize t 18 = x18 at hHr34 v18 ⊢; generalize t 17 = x17 at hHr34 v17 ⊢; generalize t 16 = x16 at hHr34 v16 ⊢; generalize t 15 = x15 at hHr34 v15 ⊢; generalize t 14 = x14 at hHr34 v14 ⊢; generalize t 13 = x13 at hHr34 v13 ⊢; generalize t 12 = x12 at hHr34 v12 ⊢; generalize t 11 = x11 at hHr34 v11 ⊢; generalize t 10 = x10 at hHr34 v10 ⊢; generalize t 9 = x9 at hHr34 v9 ⊢; generalize t 8 = x8 at hHr34 v8 ⊢; generalize t 7 = x7 at hHr34 v7 ⊢; generalize t 6 = x6 at hHr34 v6 ⊢; generalize t 5 = x5 at hHr34 v5 ⊢; generalize t 4 = x4 at hHr34 v4 ⊢; generalize t 3 = x3 at hHr34 v3 ⊢; generalize t 2 = x2 at hHr34 v2 ⊢; generalize t 1 = x1 at hHr34 v1 ⊢; generalize t 0 = x0 at hHr34 v0 ⊢; subst v0; subst v1; subst v2; subst v3; subst v4; subst v5; subst v6; subst v7; subst v8; subst v9; subst v10
         obtain ⟨p1r3411, n1r3411, c1r3411, p2r3411, n2r3411, c2r3411, p3r3411, n3r3411, c3r3411, rfl⟩ := v11
         subst v12; subst v13; subst v14; subst v15; subst v16; subst v17; subst v18; subst v19; subst v20; subst v21
         clear b
         replace hH := hHr34; clear hHr34
         replace hH : Held wN wr34 [nB wN.heap.size k p n aV m cV aO op.length cO, aT (.agg #[.slice zp1 zn1 zc1, .slice zp2 zn2 zc2, .slice zp3 zn3 zc3]) ZL (ZL.map dimOf) (flat ZX), tB wn13.heap.size zp1 zn1 zc1 zp2 zn2 zc2 zp3 zn3 zc3, aLs (.slice aP np cP) vs PL, aT (.agg #[.slice p1r3411 n1r3411 c1r3411, .slice p2r3411 n2r3411 c2r3411, .slice p3r3411 n3r3411 c3r3411]) op (op.map dimOf) (flat RX)] := hH
         have HE := Lib.hid (E0.trans hH.ext); clear hH
         go_wp2
         go_ret
         exact ⟨rfl, HE.out⟩
end Go.Proofs.YtlgjddgajdjllaaGreat
