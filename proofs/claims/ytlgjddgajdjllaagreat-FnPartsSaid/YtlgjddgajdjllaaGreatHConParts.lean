/- ContractParts of the program. -/
import Derived.Test.YtlgjddgajdjllaaGreatHG18
set_option linter.unusedSimpArgs false
set_option linter.unusedVariables false
namespace Go.Proofs.YtlgjddgajdjllaaGreat
open Go.RowKit
theorem TenS.valL2 {w : World} {x y z : Value} {L D X : List Int} (h : TenS w (.agg #[x, y, z]) L D X) : IntS w x L := by
  obtain ⟨_, _, _, hvv, h1, _, _⟩ := h.val
  simp at hvv
  obtain ⟨rfl, rfl, rfl⟩ := hvv
  exact h1
theorem joinA_step {k p n : Int} (hr : ringOk k p n = true) (dm : Int → Int) : ∀ (ts : List (NT k p n)) (j : Nat) (t : NT k p n), 1 ≤ j → ts[j]? = some t → joinA hr dm (ts.take (j + 1)) = joinT hr dm (joinA hr dm (ts.take j)) t
  | [], j, t, _, h => by simp at h
  | b :: l, 0, t, h, _ => by omega
  | b :: l, j + 1, t, _, h => by
    rw [List.take_succ_cons, List.take_succ_cons, List.take_add_one]
    rw [List.getElem?_cons_succ] at h
    rw [h]
    exact joinA_snoc hr dm b _ t
structure PartJ {k p n : Int} (hr : ringOk k p n = true) (dm : Int → Int) (U : List Int) (ts : List (NT k p n)) (op : List Int) (PL : List (List Int)) (JT : Nat → NT k p n) : Prop where
  len : ∀ l ∈ PL, l.length ≤ ts.length ∧ l.Nodup ∧ ∀ q ∈ l, 0 ≤ q ∧ q < (ts.length : Int)
  one : ∀ l, PL[0]? = some l → JT 1 = partT hr dm ts op l
  step : ∀ j l, 1 ≤ j → PL[j]? = some l → JT (j + 1) = joinT hr dm (JT j) (partT hr dm ts op l)
  isT : ∀ j, 1 ≤ j → j ≤ PL.length → IsT k p n dm U (JT j).1 (JT j).2
  fin : IsT k p n dm U (JT PL.length).1 (JT PL.length).2 ∧ (∀ x ∈ op, x ∈ (JT PL.length).1) ∧ finXs hr dm (JT PL.length).1 op (JT PL.length).2 = netXs hr dm ts op
  pos : 0 < PL.length
  few : PL.length ≤ 12
theorem partJ_of {k p n : Int} (hr : ringOk k p n = true) {dm : Int → Int} {U : List Int} {ts : List (NT k p n)} {op : List Int} (h : IsN k p n dm U ts op) {P : List Int} (hP : Mrgs (idL ts.length) (pairsL (ts.map (·.1)) ts.length) P) (hl : P.length = ts.length) (hq : ∀ q ∈ P, 0 ≤ q ∧ q < (ts.length : Int)) (h0 : 0 < ts.length) :
    PartJ hr dm U ts op (partsL P ts.length ts.length) (fun j => joinA hr dm (((partsL P ts.length ts.length).map (partT hr dm ts op)).take j)) := by
  have hR : ∀ q, q < ts.length → 0 ≤ atL P q ∧ atL P q < (ts.length : Int) := fun q hq2 => hq _ (List.mem_of_getElem? (atL_get (l := P) (i := q) (by omega)))
  have hlen : ∀ l ∈ partsL P ts.length ts.length, l.length ≤ ts.length ∧ l.Nodup ∧ ∀ q ∈ l, 0 ≤ q ∧ q < (ts.length : Int) := fun l hl => by
    obtain ⟨f, _, rfl, _⟩ := mem_partsL.1 hl
    refine ⟨clsL_len _ _ _, clsL_nodup _ _ _, fun q hq => ?_⟩
    obtain ⟨i, hi, rfl, _⟩ := mem_clsL.1 hq
    omega
  have hfin := parts_fin hr h hP hR h0
  have hne : partsL P ts.length ts.length ≠ [] := fun e => by
    have hperm := parts_perm P ts.length hR
    rw [e] at hperm
    have := hperm.length_eq
    rw [idL_length] at this
    simp at this; omega
  refine ⟨hlen, fun l hl => ?_, fun j l h1 hl => ?_, fun j h1 hj => ?_, ?_, List.length_pos_iff.2 hne, Nat.le_trans (partsL_len _ _ _) h.len⟩
  · rcases hp : partsL P ts.length ts.length with _ | ⟨b, r⟩
    · exact absurd hp hne
    · rw [hp] at hl; simp at hl; subst hl; rfl
  · exact joinA_step hr dm _ j _ h1 (by rw [List.getElem?_map, hl]; rfl)
  · have hne2 : ((partsL P ts.length ts.length).map (partT hr dm ts op)).take j ≠ [] := fun e => by
      have := congrArg List.length e
      rw [List.length_take, List.length_map, List.length_nil] at this
      have h2 := List.length_pos_iff.2 hne
      omega
    obtain ⟨b, l, e⟩ := List.exists_cons_of_ne_nil hne2
    show IsT k p n dm U (joinA hr dm (((partsL P ts.length ts.length).map (partT hr dm ts op)).take j)).1 (joinA hr dm (((partsL P ts.length ts.length).map (partT hr dm ts op)).take j)).2
    rw [e]
    refine (joinA_ok hr h.uni fun t ht => ?_).1
    rw [← e] at ht
    obtain ⟨l', hl', rfl⟩ := List.mem_map.1 (List.mem_of_mem_take ht)
    exact partT_isT hr h (hlen l' hl').1
  · have e : ((partsL P ts.length ts.length).map (partT hr dm ts op)).take (partsL P ts.length ts.length).length = (partsL P ts.length ts.length).map (partT hr dm ts op) := List.take_of_length_le (by rw [List.length_map]; exact Nat.le_refl _)
    simp only [e]
    exact hfin
set_option maxRecDepth 100000 in
set_option maxHeartbeats 8000000 in
theorem contractParts_any {k p n : Int} (hr : ringOk k p n = true) {dm : Int → Int} {U : List Int} {ts : List (NT k p n)} {op : List Int} (hN : IsN k p n dm U ts op) (tv ov : Value) (w : World) (hT : TensS w tv (ts.map (tenOf dm))) (hO : IntS w ov op) :
 Calls Tryz.prog 8 #[.agg #[.int .i64 k, .int .i64 p, .int .i64 n, tv, ov]] w fun e w' => ∃ u, e = .returned (.tuple #[u, .bool true]) ∧ OwnT w' w.heap.size u op (op.map dm) (flat (netXs hr dm ts op)) ∧ Ext w w' := by
 obtain ⟨m, aV, cV, aO, cO, rfl, rfl, hcT1, hcT2, hcO1, hcO2, hm12, hop12, HM, HD3, hTl⟩ := net_in hN hT hO
 have hT0 := hT; have hO0 := hO; have HR := Lib.hid hr; have HN := Lib.hid hN; clear hN; try rw [HM.out]
 obtain ⟨RX, hRX⟩ : ∃ q, netXs hr dm ts op = q := ⟨_, rfl⟩
 rw [hRX]
 have HRX := Lib.hid hRX; clear hRX
 go_enter Tryz.func8, Tryz.ntmps8
 go_upto_region 1 with fail
 have hH : Held w w [] := Held.new (Ext.refl w) 0
 obtain ⟨hB, hsz⟩ := hH.laid #[.int .i64 k, .int .i64 p, .int .i64 n, .slice aV m cV, .slice aO op.length cO] 29
 generalize w.alloc (.cells #[.int .i64 k, .int .i64 p, .int .i64 n, .slice aV m cV, .slice aO op.length cO] 29) = wn1 at hB hsz ⊢
 replace hH : Held w wn1 [nB w.heap.size k p n aV m cV aO op.length cO] := hB
 have HSZwn1 := Lib.hid (show wn1.heap.size = w.heap.size + 1 by rw [hsz]); clear hB hsz
 obtain ⟨hB, hsz⟩ := hH.laid #[.slice none 0 0, .slice none 0 0, .slice none 0 0] 35
 generalize wn1.alloc (.cells #[.slice none 0 0, .slice none 0 0, .slice none 0 0] 35) = wn2 at hB hsz ⊢
 replace hH : Held w wn2 [nB w.heap.size k p n aV m cV aO op.length cO, tB (w.heap.size + 1) none 0 0 none 0 0 none 0 0] := by rw [HSZwn1.out] at hB; exact hB
 have HSZwn2 := Lib.hid (show wn2.heap.size = w.heap.size + 1 + 1 by rw [hsz, HSZwn1.out]); clear hB hsz
 obtain ⟨wz, rfl⟩ : ∃ q, q = wn2 := ⟨wn2, rfl⟩
 obtain ⟨q0_0, q0_1, q0_2, q0_3, q0_4, l0_⟩ := hH.c5 0 rfl; obtain ⟨q1_0, q1_1, q1_2, l1_⟩ := hH.c3 1 rfl
 go_wp2_with fail
 clear q0_0 q0_1 q0_2 q0_3 q0_4 l0_ q1_0 q1_1 q1_2 l1_
 refine (networkOk_any HR.out HN.out _ _ _ (hT0.ext hH.ext) (hO0.ext hH.ext)).mono ?_; rintro ewn3 wn3 ⟨rfl, hwn3⟩
 replace hH : Held w wn3 [nB w.heap.size k p n aV m cV aO op.length cO, tB (w.heap.size + 1) none 0 0 none 0 0 none 0 0] := hH.grow hwn3
 clear hwn3
 rcases Nat.eq_zero_or_pos m with hz | hz
 · subst hz
   have HTZ : Hid (ts = []) := Lib.hid (List.length_eq_zero_iff.1 HM.out)
   have HNN := Lib.hid (net_nil HR.out dm op (by have h := HN.out.occ; rw [HTZ.out] at h; exact h))
   have HRE : Hid (RX = [(rig HR.out).one]) := Lib.hid (by rw [← HRX.out]; have h := HNN.out.2; rw [← HTZ.out] at h; exact h)
   obtain ⟨q0_0, q0_1, q0_2, q0_3, q0_4, l0_⟩ := hH.c5 0 rfl; obtain ⟨q1_0, q1_1, q1_2, l1_⟩ := hH.c3 1 rfl
   go_wp2_with fail
   clear q0_0 q0_1 q0_2 q0_3 q0_4 l0_ q1_0 q1_1 q1_2 l1_
   refine (scalarOne_any HR.out _).mono ?_; rintro ewn4 wn4 ⟨u, rfl, ou, hwn4⟩
   obtain ⟨p1, n1, c1, p2, n2, c2, p3, n3, c3, rfl⟩ := ou.shape
   replace hH : Held w wn4 [nB w.heap.size k p n aV 0 cV aO op.length cO, tB (w.heap.size + 1) none 0 0 none 0 0 none 0 0, aT (.agg #[.slice p1 n1 c1, .slice p2 n2 c2, .slice p3 n3 c3]) [] [] (oneL k p n)] := (hH.mores 1).addT 2 hwn4 ou (Nat.le_refl _)
   clear hwn4
   obtain ⟨q0_0, q0_1, q0_2, q0_3, q0_4, l0_⟩ := hH.c5 0 rfl; obtain ⟨q1_0, q1_1, q1_2, l1_⟩ := hH.c3 1 rfl; have f1_0 := hH.fr 1 0 rfl; have f1_1 := hH.fr 1 1 rfl; have f1_2 := hH.fr 1 2 rfl
   go_wp2_with fail
   refine bodyPost_ret (v := .tuple #[.agg #[.slice p1 n1 c1, .slice p2 n2 c2, .slice p3 n3 c3], .bool true]) (by simp [results, Tryz.results8, go_sem, *]) rfl ?_
   have hf := (hH.setB3' (k := 1) rfl (.slice p1 n1 c1) (.slice p2 n2 c2) (.slice p3 n3 c3))
   rw [HRE.out, HNN.out.1, flat_one]
   exact ⟨_, rfl, hf.ownT (k := 2) rfl, hf.ext⟩
 have hmz : ((m : Int) == 0) = false := by rw [beq_eq_false_iff_ne]; omega
 have hmi : ¬ (m : Int) = 0 := by omega
 have hmn : ¬ m = 0 := by omega
 have HMZ := Lib.hid hz; clear hz
 obtain ⟨q0_0, q0_1, q0_2, q0_3, q0_4, l0_⟩ := hH.c5 0 rfl; obtain ⟨q1_0, q1_1, q1_2, l1_⟩ := hH.c3 1 rfl
 go_upto_region 6 with fail
 clear q0_0 q0_1 q0_2 q0_3 q0_4 l0_ q1_0 q1_1 q1_2 l1_
 clear hmz hmi hmn
 obtain ⟨hB, hsz⟩ := hH.laid #[.slice none 0 0, .slice none 0 0, .slice none 0 0] 35
 generalize wn3.alloc (.cells #[.slice none 0 0, .slice none 0 0, .slice none 0 0] 35) = wn5 at hB hsz ⊢
 replace hH : Held w wn5 [nB w.heap.size k p n aV m cV aO op.length cO, tB (w.heap.size + 1) none 0 0 none 0 0 none 0 0, tB wn3.heap.size none 0 0 none 0 0 none 0 0] := hB
 have HSZwn5 := Lib.hid (show wn5.heap.size = wn3.heap.size + 1 by rw [hsz]); clear hB hsz
 obtain ⟨wy, rfl⟩ : ∃ q, q = wn5 := ⟨wn5, rfl⟩
 obtain ⟨q0_0, q0_1, q0_2, q0_3, q0_4, l0_⟩ := hH.c5 0 rfl; obtain ⟨q1_0, q1_1, q1_2, l1_⟩ := hH.c3 1 rfl; obtain ⟨q2_0, q2_1, q2_2, l2_⟩ := hH.c3 2 rfl
 go_wp2_with fail
 clear q0_0 q0_1 q0_2 q0_3 q0_4 l0_ q1_0 q1_1 q1_2 l1_ q2_0 q2_1 q2_2 l2_
 refine (partsOf_any HR.out HN.out _ _ _ (hT0.ext hH.ext) (hO0.ext hH.ext)).mono ?_; rintro ewn6 wn6 ⟨u, vs, P, rfl, hJ, hMg, hPl, hPr⟩
 have hPJ := partJ_of HR.out HN.out hMg hPl hPr (by rw [HM.out]; exact HMZ.out)
 obtain ⟨PL, hPL⟩ : ∃ q, partsL P ts.length ts.length = q := ⟨_, rfl⟩
 rw [hPL] at hPJ hJ
 obtain ⟨JT, hJT⟩ : ∃ f : Nat → NT k p n, (fun j => joinA HR.out dm ((PL.map (partT HR.out dm ts op)).take j)) = f := ⟨_, rfl⟩
 rw [hJT] at hPJ
 have HPJ := Lib.hid hPJ
 obtain ⟨np, hnp⟩ : ∃ q, PL.length = q := ⟨_, rfl⟩
 have hnp12 : np ≤ 12 := by rw [← hnp]; exact hPJ.few
 have hnp0 : 0 < np := by rw [← hnp]; exact hPJ.pos
 obtain ⟨aP, cP, hvb, _, _⟩ := (hJ.rowsS (k := 0) rfl).val
 rw [hnp] at hvb
 subst hvb
 have HNP := Lib.hid hnp
 clear hPJ hJT hPL hMg hPl hPr hnp
 replace hH : Held w wn6 [nB w.heap.size k p n aV m cV aO op.length cO, tB (w.heap.size + 1) none 0 0 none 0 0 none 0 0, tB wn3.heap.size none 0 0 none 0 0 none 0 0, aLs (.slice aP np cP) vs PL] := hH.join hJ (fun q hq => by cases hq)
 clear hJ
 obtain ⟨q0_0, q0_1, q0_2, q0_3, q0_4, l0_⟩ := hH.c5 0 rfl; obtain ⟨q1_0, q1_1, q1_2, l1_⟩ := hH.c3 1 rfl; obtain ⟨q2_0, q2_1, q2_2, l2_⟩ := hH.c3 2 rfl
 go_wp2_with fail
 clear q0_0 q0_1 q0_2 q0_3 q0_4 l0_ q1_0 q1_1 q1_2 l1_ q2_0 q2_1 q2_2 l2_
 replace hH := hH.mores 1
 replace hH : Held w wn6 [nB w.heap.size k p n aV m cV aO op.length cO, tB (w.heap.size + 1) none 0 0 none 0 0 none 0 0, tB wn3.heap.size none 0 0 none 0 0 none 0 0, aLs (.slice aP np cP) vs PL, emp] := hH
 go_loopw [5, 6, 8, 25] (fun v5 v6 v8 i wr => ∃ (j : Nat) (s1 s2 s3 : Value) (A : Asn), j ≤ np ∧ i = .int .i64 (j : Int) ∧ Hid (1 ≤ j → ∀ w', Ext w w' → A.holds w' → TenS w' (.agg #[s1, s2, s3]) (JT j).1 ((JT j).1.map dm) (flat (JT j).2)) ∧ Held w wr [nB w.heap.size k p n aV m cV aO op.length cO, tB (w.heap.size + 1) none 0 0 none 0 0 none 0 0, aB (wn3.heap.size) 35 [s1, s2, s3], aLs (.slice aP np cP) vs PL, A]) (fun v5 v6 v8 i wr => np - (RowKit.intOf i).toNat)
 case atStart => exact ⟨0, _, _, _, emp, by omega, rfl, Lib.hid (fun h => by omega), hH⟩
 clear hH
 rename_i w5 w6 w8
 obtain ⟨j, s1, s2, s3, A, hj, rfl, HA, hH⟩ := hrel
 obtain ⟨wq, rfl⟩ : ∃ q, q = wr := ⟨wr, rfl⟩
 by_cases hlt : j < np
 ·
  obtain ⟨bP, oP, vl, l, hva, hcl, hIl, hgl, _⟩ := (hH.rowsS (k := 3) rfl).get (i := j) (by rw [HNP.out]; exact hlt)
  subst hva
  have HLL := Lib.hid (HPJ.out.len l (List.mem_of_getElem? hgl))
  have HGL := Lib.hid hgl; clear hgl
  obtain ⟨avl, cvl, rfl, _, _⟩ := hIl.val
  have HNS := Lib.hid (part_isN (op := op) HN.out HLL.out.1)
  have HTI := Lib.hid (partT_isT HR.out (op := op) HN.out HLL.out.1)
  obtain ⟨q0_0, q0_1, q0_2, q0_3, q0_4, l0_⟩ := hH.c5 0 rfl; obtain ⟨q1_0, q1_1, q1_2, l1_⟩ := hH.c3 1 rfl; obtain ⟨q2_0, q2_1, q2_2, l2_⟩ := hH.c3 2 rfl
  go_wp2_with fail
  clear q0_0 q0_1 q0_2 q0_3 q0_4 l0_ q1_0 q1_1 q1_2 l1_ q2_0 q2_1 q2_2 l2_
  clear hcl
  refine (subNetwork_any HR.out HN.out _ _ _ (hT0.ext hH.ext) (hO0.ext hH.ext) HLL.out.2.1 HLL.out.2.2 HLL.out.1 _ hIl).mono ?_; rintro ewn7 wn7 ⟨tvS, ovS, csS, rfl, hJ⟩
  obtain ⟨PT, hPT⟩ : ∃ q, pickN ts l = q := ⟨_, rfl⟩
  obtain ⟨PO, hPO⟩ : ∃ q, partO ts op l = q := ⟨_, rfl⟩
  have hPO2 : subOpen (occ (pickN ts l)) (occ (restN ts l ts.length)) op = PO := hPO
  rw [hPO2, hPT] at hJ
  rw [hPT, hPO] at HNS
  obtain ⟨VX, hVX⟩ : ∃ q, netXs HR.out dm PT PO = q := ⟨_, rfl⟩
  have HPT : Hid (partT HR.out dm ts op l = (PO, VX)) := Lib.hid (by unfold partT; rw [hPO, hPT, hVX])
  rw [HPT.out] at HTI
  simp only at HTI
  have HVX := Lib.hid hVX
  clear hPO2 hPT hPO hVX hIl
  obtain ⟨aTS, cTS, hvbS, _, _⟩ := (hJ.tensS (k := 0) rfl).val
  generalize hmTS : (List.map _ _).length = mTS at hvbS
  subst hvbS
  clear hmTS
  obtain ⟨aOS, cOS, rfl⟩ := (hJ.own (k := 1) rfl).shape1 PO.length rfl
  replace hH : Held w wn7 [nB w.heap.size k p n aV m cV aO op.length cO, tB (w.heap.size + 1) none 0 0 none 0 0 none 0 0, aB (wn3.heap.size) 35 [s1, s2, s3], aLs (.slice (some ⟨bP, oP, none⟩) np cP) vs PL, A, aTs (.slice aTS mTS cTS) csS (PT.map (tenOf dm)), aI (.slice aOS PO.length cOS) PO] := hH.join hJ (fun q hq => by cases hq)
  clear hJ
  obtain ⟨q0_0, q0_1, q0_2, q0_3, q0_4, l0_⟩ := hH.c5 0 rfl; obtain ⟨q1_0, q1_1, q1_2, l1_⟩ := hH.c3 1 rfl; obtain ⟨q2_0, q2_1, q2_2, l2_⟩ := hH.c3 2 rfl
  go_upto_region 10 with fail
  clear q0_0 q0_1 q0_2 q0_3 q0_4 l0_ q1_0 q1_1 q1_2 l1_ q2_0 q2_1 q2_2 l2_
  obtain ⟨hB, hsz⟩ := hH.laid #[.int .i64 k, .int .i64 p, .int .i64 n, .slice aTS mTS cTS, .slice aOS PO.length cOS] 29
  generalize wn7.alloc (.cells #[.int .i64 k, .int .i64 p, .int .i64 n, .slice aTS mTS cTS, .slice aOS PO.length cOS] 29) = wn8 at hB hsz ⊢
  replace hH : Held w wn8 [nB w.heap.size k p n aV m cV aO op.length cO, tB (w.heap.size + 1) none 0 0 none 0 0 none 0 0, aB (wn3.heap.size) 35 [s1, s2, s3], aLs (.slice (some ⟨bP, oP, none⟩) np cP) vs PL, A, aTs (.slice aTS mTS cTS) csS (PT.map (tenOf dm)), aI (.slice aOS PO.length cOS) PO, nB wn7.heap.size k p n aTS mTS cTS aOS PO.length cOS] := hB
  have HSZwn8 := Lib.hid (show wn8.heap.size = wn7.heap.size + 1 by rw [hsz]); clear hB hsz
  obtain ⟨wx, rfl⟩ : ∃ q, q = wn8 := ⟨wn8, rfl⟩
  obtain ⟨q0_0, q0_1, q0_2, q0_3, q0_4, l0_⟩ := hH.c5 0 rfl; obtain ⟨q1_0, q1_1, q1_2, l1_⟩ := hH.c3 1 rfl; obtain ⟨q2_0, q2_1, q2_2, l2_⟩ := hH.c3 2 rfl; obtain ⟨q7_0, q7_1, q7_2, q7_3, q7_4, l7_⟩ := hH.c5 7 rfl
  go_upto_region 12 with fail
  clear q0_0 q0_1 q0_2 q0_3 q0_4 l0_ q1_0 q1_1 q1_2 l1_ q2_0 q2_1 q2_2 l2_ q7_0 q7_1 q7_2 q7_3 q7_4 l7_
  have HPLO := Lib.hid (plain_ok (m := PT.length) HNS.out.len)
  have HPLN := Lib.hid (plainT_len PT.length (PT.length - 1))
  obtain ⟨SO, hSO⟩ : ∃ q, plainT PT.length (PT.length - 1) = q := ⟨_, rfl⟩
  rw [hSO] at HPLO HPLN
  have HSO := Lib.hid hSO; clear hSO
  replace hH := hH.mores 3
  replace hH : Held w wx [nB w.heap.size k p n aV m cV aO op.length cO, tB (w.heap.size + 1) none 0 0 none 0 0 none 0 0, aB (wn3.heap.size) 35 [s1, s2, s3], aLs (.slice (some ⟨bP, oP, none⟩) np cP) vs PL, A, aTs (.slice aTS mTS cTS) csS (PT.map (tenOf dm)), aI (.slice aOS PO.length cOS) PO, nB wn7.heap.size k p n aTS mTS cTS aOS PO.length cOS, emp, emp, emp] := hH
  refine wp_region_steps ?Fb (fun b t wx => Held w wx [nB w.heap.size k p n aV m cV aO op.length cO, tB (w.heap.size + 1) none 0 0 none 0 0 none 0 0, aB (wn3.heap.size) 35 [s1, s2, s3], aLs (.slice (some ⟨bP, oP, none⟩) np cP) vs PL, A, aTs (.slice aTS mTS cTS) csS (PT.map (tenOf dm)), aI (.slice aOS PO.length cOS) PO, nB wn7.heap.size k p n aTS mTS cTS aOS PO.length cOS, (bif b 2 then aSt (t 2) SO else emp), (bif b 3 then aT (tup0 (t 3)) PO (PO.map dm) (flat VX) else emp), (bif b 8 then aB (blkOf (t 7)) 35 (partsOf (t 5)) else (bif b 7 then aB (blkOf (t 7)) 35 [.slice none 0 0, .slice none 0 0, .slice none 0 0] else emp))] ∧ (b 0 = true → t 0 = .agg #[.int .i64 k, .int .i64 p, .int .i64 n, .slice aTS mTS cTS, .slice aOS PO.length cOS]) ∧ (b 1 = true → t 1 = .agg #[.int .i64 k, .int .i64 p, .int .i64 n, .slice aTS mTS cTS, .slice aOS PO.length cOS]) ∧ (b 2 = true → ∃ x c, t 2 = .slice x SO.length c) ∧ (b 3 = true → ∃ p1 n1 c1 p2 n2 c2 p3 n3 c3, t 3 = .tuple #[.agg #[.slice p1 n1 c1, .slice p2 n2 c2, .slice p3 n3 c3], .bool true]) ∧ (b 4 = true → t 4 = t 3) ∧ (b 5 = true → t 5 = tup0 (t 3)) ∧ (b 6 = true → t 6 = .bool true) ∧ (b 7 = true → ∃ q, t 7 = .pointer (some ⟨q, 0, none⟩)) ∧ (b 9 = true → t 9 = .bool true)) ?hFb (by kernel_rfl) (by kernel_rfl) ?hJb ?hSb ?hEb
  (case hFb => intro t; simp only [putAll, Act.put, List.setIfInBounds_toArray, List.set_cons_zero, List.set_cons_succ, Nat.reduceAdd, Nat.zero_add]; exact rfl)
  case hJb => exact ⟨hH.grow ((Ext.refl _).drew), nof, nof, nof, nof, nof, nof, nof, nof, nof⟩
  case hSb => as_aux_lemma =>
   refine st 1 rfl (fun b t wx hJ hb hd hcl Kc hK => ?_) ?_
   · obtain ⟨hH, hV⟩ := hJ
     obtain ⟨q7_0, q7_1, q7_2, q7_3, q7_4, _⟩ := hH.c5 7 rfl
     go_simp
     apply sk hK
     · rfl
     exact ⟨hH, rp (fun _ => rfl) hV⟩
   refine st 2 rfl (fun b t wx hJ hb hd hcl Kc hK => ?_) ?_
   · obtain ⟨hH, hV⟩ := hJ
     obtain ⟨q7_0, q7_1, q7_2, q7_3, q7_4, _⟩ := hH.c5 7 rfl
     go_simp
     apply sk hK
     · rfl
     exact ⟨hH, jA (rp (fun _ => rfl)) hV⟩
   refine st 3 rfl (fun b t wx hJ hb hd hcl Kc hK => ?_) ?_
   · obtain ⟨hH, hV⟩ := hJ
     have d1 := so hd 1; have r1 := hV.2.1 d1
     have hN := hH; (try simp only [hb, d1, cond_true, cond_false] at hN)
     go_simp
     go_at_call 12
     refine (plainOrder_own HR.out HNS.out _ _ _ (hH.tensS (k := 5) rfl) (hH.ints (k := 6) rfl)).mono ?_; rintro e2 w2 ⟨v2, rfl, hJ2⟩
     rw [HSO.out] at hJ2
     obtain ⟨q2, e2, rfl, _, _⟩ := (hJ2.steps (k := 0) rfl).val
     (try go_simp)
     apply sk hK
     · (try simp only [r1]); rfl
     exact ⟨by have hX := hN.add 8 hJ2.ext (hJ2.get (k := 0) rfl) (fun b hb => (hJ2.fpr (k := 0) rfl b hb).1); simpa only [List.set_cons_zero, List.set_cons_succ, updB, updV, blkOf_mk, tup0_mk, partsOf3, Nat.reduceBEq, cond_true, cond_false, hb, d1, r1] using hX, jB (rp (fun _ => ⟨_, _, rfl⟩)) hV⟩
   refine st 4 rfl (fun b t wx hJ hb hd hcl Kc hK => ?_) ?_
   · obtain ⟨hH, v0, v1, v2, v3, v4, v5, v6, v7, v9⟩ := hJ
     have d0 := so hd 0; have d2 := so hd 2
     have n4 : b 4 = false := nf hb fun h => sc hcl 4 3 (h)
     have n5 : b 5 = false := nf hb fun h => sc hcl 4 3 (sc hcl 5 4 (h))
     have r0 := v0 d0; have r2 := v2 d2
     obtain ⟨x_2, c_2, r2⟩ := r2
     have hN := hH; (try simp only [hb, d0, d2, n4, n5, cond_true, cond_false] at hN)
     go_simp
     go_at_call 11
     refine (contract_net_any HR.out HNS.out _ _ _ (hH.tensS (k := 5) rfl) (hH.ints (k := 6) rfl) HPLO.out HPLN.out _ (by have h := hN.steps (k := 8) rfl; rw [r2] at h; exact h)).mono ?_; rintro e3 w3 ⟨vc, rfl, oc, hc⟩
     rw [HVX.out] at oc
     obtain ⟨pa1, na1, ca1, pa2, na2, ca2, pa3, na3, ca3, rfl⟩ := oc.shape
     (try go_simp)
     apply sk hK
     · (try simp only [r0, r2]); rfl
     exact ⟨by have hX := hN.addT 9 hc oc (Nat.le_refl _); simpa only [List.set_cons_zero, List.set_cons_succ, updB, updV, blkOf_mk, tup0_mk, partsOf3, Nat.reduceBEq, cond_true, cond_false, hb, d0, d2, n4, n5, r0, r2] using hX, v0, v1, v2, fun _ => ⟨_, _, _, _, _, _, _, _, _, rfl⟩, ab n4, ab n5, v6, v7, v9⟩
   refine st 5 rfl (fun b t wx hJ hb hd hcl Kc hK => ?_) ?_
   · obtain ⟨hH, hV⟩ := hJ
     have d3 := so hd 3; have r3 := hV.2.2.2.1 d3
     obtain ⟨p1_3, n1_3, c1_3, p2_3, n2_3, c2_3, p3_3, n3_3, c3_3, r3⟩ := r3
     go_simp
     apply sk hK
     · (try simp only [r3]); rfl
     exact ⟨hH, jD (rp (fun _ => (by first | rfl | exact r3.symm))) hV⟩
   refine st 6 rfl (fun b t wx hJ hb hd hcl Kc hK => ?_) ?_
   · obtain ⟨hH, hV⟩ := hJ
     have d3 := sc hcl 4 3 (so hd 4); have d4 := so hd 4
     have n8 : b 8 = false := nf hb fun h => sc hcl 8 5 (h)
     have r3 := hV.2.2.2.1 d3; have r4 := hV.2.2.2.2.1 d4
     obtain ⟨p1_3, n1_3, c1_3, p2_3, n2_3, c2_3, p3_3, n3_3, c3_3, r3⟩ := r3
     have hN := hH; (try simp only [hb, d3, d4, n8, cond_true, cond_false] at hN)
     have e3 := r3 -- d3
     go_simp
     apply sk hK
     · (try simp only [r3, r4]); rfl
     exact ⟨by have hX := hN; simpa only [List.set_cons_zero, List.set_cons_succ, updB, updV, blkOf_mk, tup0_mk, partsOf3, Nat.reduceBEq, cond_true, cond_false, hb, d3, d4, n8, r3, r4] using hX, jD (jA (rp (fun _ => (by show _ = tup0 (t 3); rw [r3]; rfl)))) hV⟩
   refine st 7 rfl (fun b t wx hJ hb hd hcl Kc hK => ?_) ?_
   · obtain ⟨hH, hV⟩ := hJ
     have d3 := sc hcl 4 3 (so hd 4); have d4 := so hd 4; have r3 := hV.2.2.2.1 d3; have r4 := hV.2.2.2.2.1 d4
     obtain ⟨p1_3, n1_3, c1_3, p2_3, n2_3, c2_3, p3_3, n3_3, c3_3, r3⟩ := r3
     have e3 := r3 -- d3
     go_simp
     apply sk hK
     · (try simp only [r3, r4]); rfl
     exact ⟨hH, jD (jB (rp (fun _ => rfl))) hV⟩
   refine st 8 rfl (fun b t wx hJ hb hd hcl Kc hK => ?_) ?_
   · obtain ⟨hH, hV⟩ := hJ
     have n8 : b 8 = false := nf hb fun h => sc hcl 8 7 (h)
     have hN := hH; (try simp only [hb, n8, cond_true, cond_false] at hN)
     go_simp
     apply sk hK
     · rfl
     exact ⟨by have hX := hN.addB 10 #[.slice none 0 0, .slice none 0 0, .slice none 0 0] 35; simpa only [List.set_cons_zero, List.set_cons_succ, updB, updV, blkOf_mk, tup0_mk, partsOf3, Nat.reduceBEq, cond_true, cond_false, hb, n8] using hX, jD (jB (jA (rp (fun _ => ⟨_, rfl⟩)))) hV⟩
   refine st 9 rfl (fun b t wx hJ hb hd hcl Kc hK => ?_) ?_
   · obtain ⟨hH, hV⟩ := hJ
     have d0 := so hd 0; have d1 := so hd 1; have d2 := so hd 2; have d3 := so hd 3; have d4 := so hd 4; have d5 := so hd 5; have d7 := so hd 7; have r0 := hV.1 d0; have r1 := hV.2.1 d1; have r2 := hV.2.2.1 d2; have r3 := hV.2.2.2.1 d3; have r4 := hV.2.2.2.2.1 d4; have r5 := hV.2.2.2.2.2.1 d5; have r7 := hV.2.2.2.2.2.2.2.1 d7
     obtain ⟨x_2, c_2, r2⟩ := r2
     obtain ⟨p1_3, n1_3, c1_3, p2_3, n2_3, c2_3, p3_3, n3_3, c3_3, r3⟩ := r3
     obtain ⟨q_7, r7⟩ := r7
     have hN := hH; (try simp only [hb, d0, d1, d2, d3, d4, d5, d7, cond_true, cond_false] at hN)
     rw [r3, tup0_mk] at r5 -- d3
     simp only [r7, r5, blkOf_mk, tup0_mk, partsOf3] at hN
     have B := hN.blk (k := 10) rfl
     have f0 := B.free 0; have z0 := B.cell (j := 0) rfl
     have f1 := B.free 1; have z1 := B.cell (j := 1) rfl
     have f2 := B.free 2; have z2 := B.cell (j := 2) rfl
     have lB := B.lt; have hmk0 := @tup0_mk
     go_simp
     refine hK.out _ undef _ ?_ ?_; rotate_left 1
     · (try simp only [r0, r1, r2, r3, r4, r5, r7]); rfl
     exact ⟨by have hX := hN.setB3' (k := 10) rfl (.slice p1_3 n1_3 c1_3) (.slice p2_3 n2_3 c2_3) (.slice p3_3 n3_3 c3_3); simpa only [List.set_cons_zero, List.set_cons_succ, updB, updV, blkOf_mk, tup0_mk, partsOf3, Nat.reduceBEq, cond_true, cond_false, hb, d0, d1, d2, d3, d4, d5, d7, r0, r1, r2, r3, r4, r5, r7] using hX, hV⟩
   refine st 10 rfl (fun b t wx hJ hb hd hcl Kc hK => ?_) ?_
   · obtain ⟨hH, hV⟩ := hJ
     have d0 := so hd 0; have d1 := so hd 1; have d2 := so hd 2; have d3 := so hd 3; have d4 := so hd 4; have d5 := so hd 5; have d6 := so hd 6; have d7 := so hd 7; have d8 := so hd 8; have r0 := hV.1 d0; have r1 := hV.2.1 d1; have r2 := hV.2.2.1 d2; have r3 := hV.2.2.2.1 d3; have r4 := hV.2.2.2.2.1 d4; have r5 := hV.2.2.2.2.2.1 d5; have r6 := hV.2.2.2.2.2.2.1 d6; have r7 := hV.2.2.2.2.2.2.2.1 d7
     obtain ⟨x_2, c_2, r2⟩ := r2
     obtain ⟨p1_3, n1_3, c1_3, p2_3, n2_3, c2_3, p3_3, n3_3, c3_3, r3⟩ := r3
     obtain ⟨q_7, r7⟩ := r7
     go_simp
     apply sk hK
     · (try simp only [r0, r1, r2, r3, r4, r5, r6, r7]); rfl
     exact ⟨hH, jD (jD (fun _ => fun _ => rfl)) hV⟩
   exact AllSteps.nil
  intro b t wb hJ hall
  obtain ⟨hHb, v0, v1, v2, v3, v4, v5, v6, v7, v9⟩ := hJ
  have a0 := hall 0 (by decide); have a1 := hall 1 (by decide); have a2 := hall 2 (by decide); have a3 := hall 3 (by decide); have a4 := hall 4 (by decide); have a5 := hall 5 (by decide); have a6 := hall 6 (by decide); have a7 := hall 7 (by decide); have a8 := hall 8 (by decide); have a9 := hall 9 (by decide)
  (try simp only [a0, a1, a2, a3, a4, a5, a6, a7, a8, a9, cond_true] at hHb)
  replace v0 := v0 a0; replace v1 := v1 a1; replace v2 := v2 a2; replace v3 := v3 a3; replace v4 := v4 a4; replace v5 := v5 a5; replace v6 := v6 a6; replace v7 := v7 a7; replace v9 := v9 a9
  clear hall a0 a1 a2 a3 a4 a5 a6 a7 a8 a9
  generalize t 9 = x9 at hHb v9 ⊢; generalize t 7 = x7 at hHb v7 ⊢; generalize t 6 = x6 at hHb v6 ⊢; generalize t 5 = x5 at hHb v5 ⊢; generalize t 4 = x4 at hHb v4 ⊢; generalize t 3 = x3 at hHb v3 v4 v5 ⊢; generalize t 2 = x2 at hHb v2 ⊢; generalize t 1 = x1 at hHb v1 ⊢; generalize t 0 = x0 at hHb v0 ⊢; subst v0; subst v1
  obtain ⟨xb2, cb2, rfl⟩ := v2
  obtain ⟨p1b3, n1b3, c1b3, p2b3, n2b3, c2b3, p3b3, n3b3, c3b3, rfl⟩ := v3
  subst v4; subst v5; subst v6
  obtain ⟨qb7, rfl⟩ := v7
  subst v9
  simp only [blkOf_mk, tup0_mk, partsOf3] at hHb
  clear b
  replace hH := hHb; clear hHb
  replace hH : Held w wb [nB w.heap.size k p n aV m cV aO op.length cO, tB (w.heap.size + 1) none 0 0 none 0 0 none 0 0, aB (wn3.heap.size) 35 [s1, s2, s3], aLs (.slice (some ⟨bP, oP, none⟩) np cP) vs PL, A, aTs (.slice aTS mTS cTS) csS (PT.map (tenOf dm)), aI (.slice aOS PO.length cOS) PO, nB wn7.heap.size k p n aTS mTS cTS aOS PO.length cOS, aSt (.slice xb2 SO.length cb2) SO, aT (.agg #[.slice p1b3 n1b3 c1b3, .slice p2b3 n2b3 c2b3, .slice p3b3 n3b3 c3b3]) PO (PO.map dm) (flat VX), tB qb7 p1b3 n1b3 c1b3 p2b3 n2b3 c2b3 p3b3 n3b3 c3b3] := hH
  obtain ⟨wv, rfl⟩ : ∃ q, q = wb := ⟨wb, rfl⟩
  rcases Nat.eq_zero_or_pos j with hj0 | hj0
  · subst hj0
    have HJ1 : Hid (JT 1 = (PO, VX)) := Lib.hid (by rw [HPJ.out.one l HGL.out, HPT.out])
    obtain ⟨q0_0, q0_1, q0_2, q0_3, q0_4, l0_⟩ := hH.c5 0 rfl; obtain ⟨q1_0, q1_1, q1_2, l1_⟩ := hH.c3 1 rfl; obtain ⟨q2_0, q2_1, q2_2, l2_⟩ := hH.c3 2 rfl; have f2_0 := hH.fr 2 0 rfl; have f2_1 := hH.fr 2 1 rfl; have f2_2 := hH.fr 2 2 rfl; obtain ⟨q7_0, q7_1, q7_2, q7_3, q7_4, l7_⟩ := hH.c5 7 rfl; obtain ⟨q10_0, q10_1, q10_2, l10_⟩ := hH.c3 10 rfl
    go_wp2_with fail
    have hHs := hH.setB3' (k := 2) rfl (.slice p1b3 n1b3 c1b3) (.slice p2b3 n2b3 c2b3) (.slice p3b3 n3b3 c3b3)
    go_roundw
    case rel => exact ⟨1, _, _, _, _, by omega, by go_num, Lib.hid (fun _ w' _ h => by rw [HJ1.out]; exact OwnT.tens h), (hHs.moveTo 4 9 rfl (by decide)).sub (.cons_cons _ (.cons_cons _ (.cons_cons _ (.cons_cons _ (.cons_cons _ (.cons _ (.cons _ (.cons _ (.cons _ (.cons _ (.cons _ .slnil)))))))))))⟩
    case measure => simp [RowKit.intOf]; omega
  have hj0b : ((j : Int) == 0) = false := by rw [beq_eq_false_iff_ne]; omega
  have hj0i : ¬ (j : Int) = 0 := by omega
  have hj0n : ¬ j = 0 := by omega
  have HJS := Lib.hid (HPJ.out.step j l hj0 HGL.out)
  have HI0 := Lib.hid (HPJ.out.isT j hj0 (by rw [HNP.out]; omega))
  obtain ⟨⟨JL, JX⟩, hJJ⟩ : ∃ q, JT j = q := ⟨_, rfl⟩
  have HJJ := Lib.hid hJJ
  have HA2 := Lib.hid (HA.out hj0)
  rw [hJJ] at HI0 HA2
  rw [hJJ, HPT.out] at HJS
  simp only at HI0 HA2
  have hjl12 : JL.length ≤ 12 := HI0.out.ax.rank
  have hpo12 : PO.length ≤ 12 := HTI.out.ax.rank
  have hAT := HA2.out _ hH.ext (hH.get (k := 4) rfl)
  obtain ⟨s1x, s1y, s1z, s2x, s2y, s2z, s3x, s3y, s3z, hss⟩ := hAT.shape
  simp at hss
  obtain ⟨rfl, rfl, rfl⟩ := hss
  have HKA : Hid (keepL (joinL JL PO) (joinL JL PO) = joinL JL PO) := Lib.hid (keepL_all fun x hx => hx)
  obtain ⟨KJ, hKJ⟩ : ∃ q, joinL JL PO = q := ⟨_, rfl⟩
  rw [hKJ] at HKA
  have HKJ := Lib.hid hKJ
  obtain ⟨⟨NL, NX⟩, hNN⟩ : ∃ q, JT (j + 1) = q := ⟨_, rfl⟩
  have HNN : Hid (KJ = NL ∧ contrXs HR.out dm JL PO KJ JX VX = NX) := Lib.hid (by
   have h := HJS.out
   rw [hNN] at h
   unfold joinT at h
   simp only [Prod.mk.injEq, hKJ] at h
   exact ⟨h.1.symm, h.2.symm⟩)
  have HNJ := Lib.hid hNN
  clear hJJ hAT hKJ hNN hj0
  replace hH : Held w wv [nB w.heap.size k p n aV m cV aO op.length cO, tB (w.heap.size + 1) none 0 0 none 0 0 none 0 0, tB wn3.heap.size s1x s1y s1z s2x s2y s2z s3x s3y s3z, aLs (.slice (some ⟨bP, oP, none⟩) np cP) vs PL, A, aTs (.slice aTS mTS cTS) csS (PT.map (tenOf dm)), aI (.slice aOS PO.length cOS) PO, nB wn7.heap.size k p n aTS mTS cTS aOS PO.length cOS, aSt (.slice xb2 SO.length cb2) SO, aT (.agg #[.slice p1b3 n1b3 c1b3, .slice p2b3 n2b3 c2b3, .slice p3b3 n3b3 c3b3]) PO (PO.map dm) (flat VX), tB qb7 p1b3 n1b3 c1b3 p2b3 n2b3 c2b3 p3b3 n3b3 c3b3] := hH
  obtain ⟨q0_0, q0_1, q0_2, q0_3, q0_4, l0_⟩ := hH.c5 0 rfl; obtain ⟨q1_0, q1_1, q1_2, l1_⟩ := hH.c3 1 rfl; obtain ⟨q2_0, q2_1, q2_2, l2_⟩ := hH.c3 2 rfl; obtain ⟨q7_0, q7_1, q7_2, q7_3, q7_4, l7_⟩ := hH.c5 7 rfl; obtain ⟨q10_0, q10_1, q10_2, l10_⟩ := hH.c3 10 rfl
  go_upto_region 17 with fail
  clear q0_0 q0_1 q0_2 q0_3 q0_4 l0_ q1_0 q1_1 q1_2 l1_ q2_0 q2_1 q2_2 l2_ q7_0 q7_1 q7_2 q7_3 q7_4 l7_ q10_0 q10_1 q10_2 l10_
  clear hj0b hj0i hj0n
  obtain ⟨wu, rfl⟩ : ∃ q, q = wv := ⟨wv, rfl⟩
  replace hH := hH.mores 2
  replace hH : Held w wu [nB w.heap.size k p n aV m cV aO op.length cO, tB (w.heap.size + 1) none 0 0 none 0 0 none 0 0, tB wn3.heap.size s1x s1y s1z s2x s2y s2z s3x s3y s3z, aLs (.slice (some ⟨bP, oP, none⟩) np cP) vs PL, A, aTs (.slice aTS mTS cTS) csS (PT.map (tenOf dm)), aI (.slice aOS PO.length cOS) PO, nB wn7.heap.size k p n aTS mTS cTS aOS PO.length cOS, aSt (.slice xb2 SO.length cb2) SO, aT (.agg #[.slice p1b3 n1b3 c1b3, .slice p2b3 n2b3 c2b3, .slice p3b3 n3b3 c3b3]) PO (PO.map dm) (flat VX), tB qb7 p1b3 n1b3 c1b3 p2b3 n2b3 c2b3 p3b3 n3b3 c3b3, emp, emp] := hH
  refine wp_region_steps ?Fc (fun b t wx => Held w wx [nB w.heap.size k p n aV m cV aO op.length cO, tB (w.heap.size + 1) none 0 0 none 0 0 none 0 0, (bif b 13 then aB (wn3.heap.size) 35 (partsOf (t 11)) else tB wn3.heap.size s1x s1y s1z s2x s2y s2z s3x s3y s3z), aLs (.slice (some ⟨bP, oP, none⟩) np cP) vs PL, A, aTs (.slice aTS mTS cTS) csS (PT.map (tenOf dm)), aI (.slice aOS PO.length cOS) PO, nB wn7.heap.size k p n aTS mTS cTS aOS PO.length cOS, aSt (.slice xb2 SO.length cb2) SO, aT (.agg #[.slice p1b3 n1b3 c1b3, .slice p2b3 n2b3 c2b3, .slice p3b3 n3b3 c3b3]) PO (PO.map dm) (flat VX), tB qb7 p1b3 n1b3 c1b3 p2b3 n2b3 c2b3 p3b3 n3b3 c3b3, (bif b 8 then aI (t 8) KJ else emp), (bif b 9 then aT (tup0 (t 9)) NL (NL.map dm) (flat NX) else emp)] ∧ (b 0 = true → t 0 = .pointer (some ⟨w.heap.size, 0, none⟩)) ∧ (b 1 = true → t 1 = .agg #[.int .i64 k, .int .i64 p, .int .i64 n]) ∧ (b 2 = true → t 2 = .agg #[.slice s1x s1y s1z, .slice s2x s2y s2z, .slice s3x s3y s3z]) ∧ (b 3 = true → t 3 = .agg #[.slice p1b3 n1b3 c1b3, .slice p2b3 n2b3 c2b3, .slice p3b3 n3b3 c3b3]) ∧ (b 4 = true → t 4 = .pointer (some ⟨wn3.heap.size, 0, none⟩)) ∧ (b 5 = true → t 5 = .slice s1x s1y s1z) ∧ (b 6 = true → t 6 = .pointer (some ⟨qb7, 0, none⟩)) ∧ (b 7 = true → t 7 = .slice p1b3 n1b3 c1b3) ∧ (b 8 = true → ∃ x c, t 8 = .slice x KJ.length c) ∧ (b 9 = true → ∃ p1 n1 c1 p2 n2 c2 p3 n3 c3, t 9 = .tuple #[.agg #[.slice p1 n1 c1, .slice p2 n2 c2, .slice p3 n3 c3], .bool true]) ∧ (b 10 = true → t 10 = t 9) ∧ (b 11 = true → t 11 = tup0 (t 9)) ∧ (b 12 = true → t 12 = .bool true) ∧ (b 14 = true → t 14 = .bool true)) ?hFc (by kernel_rfl) (by kernel_rfl) ?hJc ?hSc ?hEc
  (case hFc => intro t; simp only [putAll, Act.put, List.setIfInBounds_toArray, List.set_cons_zero, List.set_cons_succ, Nat.reduceAdd, Nat.zero_add]; exact rfl)
  case hJc => exact ⟨hH.grow ((Ext.refl _).drew), nof, nof, nof, nof, nof, nof, nof, nof, nof, nof, nof, nof, nof, nof⟩
  case hSc => as_aux_lemma =>
   refine st 1 rfl (fun b t wx hJ hb hd hcl Kc hK => ?_) ?_
   · obtain ⟨hH, hV⟩ := hJ
     go_simp
     apply sk hK
     · rfl
     exact ⟨hH, rp (fun _ => rfl) hV⟩
   refine st 2 rfl (fun b t wx hJ hb hd hcl Kc hK => ?_) ?_
   · obtain ⟨hH, hV⟩ := hJ
     have d0 := so hd 0; have r0 := hV.1 d0; obtain ⟨q0_0, q0_1, q0_2, _⟩ := hH.c3 0 rfl
     go_simp
     apply sk hK
     · (try simp only [r0]); rfl
     exact ⟨hH, jA (rp (fun _ => rfl)) hV⟩
   refine st 3 rfl (fun b t wx hJ hb hd hcl Kc hK => ?_) ?_
   · obtain ⟨hH, hV⟩ := hJ
     have n13 : b 13 = false := nf hb fun h => sc hcl 13 2 (h)
     have hN := hH; (try simp only [hb, n13, cond_true, cond_false] at hN)
     have q2_0 := hN.cl 2 0 rfl rfl
     have q2_1 := hN.cl 2 1 rfl rfl
     have q2_2 := hN.cl 2 2 rfl rfl
     go_simp
     apply sk hK
     · rfl
     exact ⟨hH, jB (rp (fun _ => rfl)) hV⟩
   refine st 4 rfl (fun b t wx hJ hb hd hcl Kc hK => ?_) ?_
   · obtain ⟨hH, hV⟩ := hJ
     obtain ⟨q10_0, q10_1, q10_2, _⟩ := hH.c3 10 rfl
     go_simp
     apply sk hK
     · rfl
     exact ⟨hH, jB (jA (rp (fun _ => rfl))) hV⟩
   refine st 5 rfl (fun b t wx hJ hb hd hcl Kc hK => ?_) ?_
   · obtain ⟨hH, hV⟩ := hJ
     go_simp
     apply sk hK
     · rfl
     exact ⟨hH, jD (rp (fun _ => rfl)) hV⟩
   refine st 6 rfl (fun b t wx hJ hb hd hcl Kc hK => ?_) ?_
   · obtain ⟨hH, hV⟩ := hJ
     have d4 := so hd 4
     have n13 : b 13 = false := nf hb fun h => sc hcl 13 5 (h)
     have r4 := hV.2.2.2.2.1 d4
     have hN := hH; (try simp only [hb, d4, n13, cond_true, cond_false] at hN)
     have q2_0 := hN.cl 2 0 rfl rfl
     go_simp
     apply sk hK
     · (try simp only [r4]); rfl
     exact ⟨hH, jD (jA (rp (fun _ => rfl))) hV⟩
   refine st 7 rfl (fun b t wx hJ hb hd hcl Kc hK => ?_) ?_
   · obtain ⟨hH, hV⟩ := hJ
     go_simp
     apply sk hK
     · rfl
     exact ⟨hH, jD (jB (rp (fun _ => rfl))) hV⟩
   refine st 8 rfl (fun b t wx hJ hb hd hcl Kc hK => ?_) ?_
   · obtain ⟨hH, hV⟩ := hJ
     have d6 := so hd 6; have r6 := hV.2.2.2.2.2.2.1 d6; have q10_0 := hH.cl 10 0 rfl rfl
     go_simp
     apply sk hK
     · (try simp only [r6]); rfl
     exact ⟨hH, jD (jB (jA (rp (fun _ => rfl)))) hV⟩
   refine st 9 rfl (fun b t wx hJ hb hd hcl Kc hK => ?_) ?_
   · obtain ⟨hH, hV⟩ := hJ
     have d5 := so hd 5; have d7 := so hd 7; have r5 := hV.2.2.2.2.2.1 d5; have r7 := hV.2.2.2.2.2.2.2.1 d7
     have hN := hH; (try simp only [hb, d5, d7, cond_true, cond_false] at hN)
     go_simp
     go_at_call 26
     refine (joinLabels_any _ _ JL PO _ (HA2.out _ hH.ext (hH.get (k := 4) rfl)).valL2 (hH.tens (k := 9) rfl).valL2 (by omega) (by omega)).mono ?_; rintro e8 w8 ⟨v7, rfl, o7, h7⟩
     rw [HKJ.out] at o7
     obtain ⟨x7, c7, rfl⟩ := o7.shape1 KJ.length rfl
     (try go_simp)
     apply sk hK
     · (try simp only [r5, r7]); rfl
     exact ⟨by have hX := hN.addI 11 h7 o7 (Nat.le_refl _); simpa only [List.set_cons_zero, List.set_cons_succ, updB, updV, blkOf_mk, tup0_mk, partsOf3, Nat.reduceBEq, cond_true, cond_false, hb, d5, d7, r5, r7] using hX, jD (jD (rp (fun _ => ⟨_, _, rfl⟩))) hV⟩
   refine st 10 rfl (fun b t wx hJ hb hd hcl Kc hK => ?_) ?_
   · obtain ⟨hH, v0, v1, v2, v3, v4, v5, v6, v7, v8, v9, v10, v11, v12, v14⟩ := hJ
     have d1 := so hd 1; have d2 := so hd 2; have d3 := so hd 3; have d8 := so hd 8
     have n10 : b 10 = false := nf hb fun h => sc hcl 10 9 (h)
     have n11 : b 11 = false := nf hb fun h => sc hcl 10 9 (sc hcl 11 10 (h))
     have r1 := v1 d1; have r2 := v2 d2; have r3 := v3 d3; have r8 := v8 d8
     obtain ⟨x_8, c_8, r8⟩ := r8
     have hN := hH; (try simp only [hb, d1, d2, d3, d8, n10, n11, cond_true, cond_false] at hN)
     go_simp
     go_at_call 13
     refine (contractPair_any HR.out HI0.out HTI.out KJ _ _ _ _ (HA2.out _ hH.ext (hH.get (k := 4) rfl)) (hH.tens (k := 9) rfl) (by have h := hN.ints (k := 11) rfl; rw [r8] at h; exact h)).mono ?_; rintro e9 w9 ⟨vc, rfl, oc, hc⟩
     rw [HKJ.out, HKA.out, HNN.out.2, HNN.out.1] at oc
     obtain ⟨pa1, na1, ca1, pa2, na2, ca2, pa3, na3, ca3, rfl⟩ := oc.shape
     (try go_simp)
     apply sk hK
     · (try simp only [r1, r2, r3, r8]); rfl
     exact ⟨by have hX := hN.addT 12 hc oc (Nat.le_refl _); simpa only [List.set_cons_zero, List.set_cons_succ, updB, updV, blkOf_mk, tup0_mk, partsOf3, Nat.reduceBEq, cond_true, cond_false, hb, d1, d2, d3, d8, n10, n11, r1, r2, r3, r8] using hX, v0, v1, v2, v3, v4, v5, v6, v7, v8, fun _ => ⟨_, _, _, _, _, _, _, _, _, rfl⟩, ab n10, ab n11, v12, v14⟩
   refine st 11 rfl (fun b t wx hJ hb hd hcl Kc hK => ?_) ?_
   · obtain ⟨hH, hV⟩ := hJ
     have d9 := so hd 9; have r9 := hV.2.2.2.2.2.2.2.2.2.1 d9
     obtain ⟨p1_9, n1_9, c1_9, p2_9, n2_9, c2_9, p3_9, n3_9, c3_9, r9⟩ := r9
     go_simp
     apply sk hK
     · (try simp only [r9]); rfl
     exact ⟨hH, jD (jD (jB (rp (fun _ => (by first | rfl | exact r9.symm))))) hV⟩
   refine st 12 rfl (fun b t wx hJ hb hd hcl Kc hK => ?_) ?_
   · obtain ⟨hH, hV⟩ := hJ
     have d9 := sc hcl 10 9 (so hd 10); have d10 := so hd 10
     have n13 : b 13 = false := nf hb fun h => sc hcl 13 11 (h)
     have r9 := hV.2.2.2.2.2.2.2.2.2.1 d9; have r10 := hV.2.2.2.2.2.2.2.2.2.2.1 d10
     obtain ⟨p1_9, n1_9, c1_9, p2_9, n2_9, c2_9, p3_9, n3_9, c3_9, r9⟩ := r9
     have hN := hH; (try simp only [hb, d9, d10, n13, cond_true, cond_false] at hN)
     have e9 := r9 -- d9
     go_simp
     apply sk hK
     · (try simp only [r9, r10]); rfl
     exact ⟨by have hX := hN; simpa only [List.set_cons_zero, List.set_cons_succ, updB, updV, blkOf_mk, tup0_mk, partsOf3, Nat.reduceBEq, cond_true, cond_false, hb, d9, d10, n13, r9, r10] using hX, jD (jD (jB (jA (rp (fun _ => (by show _ = tup0 (t 9); rw [r9]; rfl)))))) hV⟩
   refine st 13 rfl (fun b t wx hJ hb hd hcl Kc hK => ?_) ?_
   · obtain ⟨hH, hV⟩ := hJ
     have d9 := sc hcl 10 9 (so hd 10); have d10 := so hd 10; have r9 := hV.2.2.2.2.2.2.2.2.2.1 d9; have r10 := hV.2.2.2.2.2.2.2.2.2.2.1 d10
     obtain ⟨p1_9, n1_9, c1_9, p2_9, n2_9, c2_9, p3_9, n3_9, c3_9, r9⟩ := r9
     have e9 := r9 -- d9
     go_simp
     apply sk hK
     · (try simp only [r9, r10]); rfl
     exact ⟨hH, jD (jD (jD (rp (fun _ => rfl)))) hV⟩
   refine st 14 rfl (fun b t wx hJ hb hd hcl Kc hK => ?_) ?_
   · obtain ⟨hH, hV⟩ := hJ
     have d0 := so hd 0; have d1 := so hd 1; have d2 := so hd 2; have d3 := so hd 3; have d4 := so hd 4; have d5 := so hd 5; have d6 := so hd 6; have d7 := so hd 7; have d8 := so hd 8; have d9 := so hd 9; have d10 := so hd 10; have d11 := so hd 11; have r0 := hV.1 d0; have r1 := hV.2.1 d1; have r2 := hV.2.2.1 d2; have r3 := hV.2.2.2.1 d3; have r4 := hV.2.2.2.2.1 d4; have r5 := hV.2.2.2.2.2.1 d5; have r6 := hV.2.2.2.2.2.2.1 d6; have r7 := hV.2.2.2.2.2.2.2.1 d7; have r8 := hV.2.2.2.2.2.2.2.2.1 d8; have r9 := hV.2.2.2.2.2.2.2.2.2.1 d9; have r10 := hV.2.2.2.2.2.2.2.2.2.2.1 d10; have r11 := hV.2.2.2.2.2.2.2.2.2.2.2.1 d11
     obtain ⟨x_8, c_8, r8⟩ := r8
     obtain ⟨p1_9, n1_9, c1_9, p2_9, n2_9, c2_9, p3_9, n3_9, c3_9, r9⟩ := r9
     have hN := hH; (try simp only [hb, d0, d1, d2, d3, d4, d5, d6, d7, d8, d9, d10, d11, cond_true, cond_false] at hN)
     rw [r9, tup0_mk] at r11 -- d9 d11
     have B := hN.blk (k := 2) rfl
     have f0 := B.free 0; have f1 := B.free 1; have f2 := B.free 2; have z0 := B.cell (j := 0) rfl; have z1 := B.cell (j := 1) rfl; have z2 := B.cell (j := 2) rfl; have lB := B.lt; have hmk0 := @tup0_mk
     go_simp
     refine hK.out _ undef _ ?_ ?_; rotate_left 1
     · (try simp only [r0, r1, r2, r3, r4, r5, r6, r7, r8, r9, r10, r11]); rfl
     exact ⟨by have hX := hN.setB3' (k := 2) rfl (.slice p1_9 n1_9 c1_9) (.slice p2_9 n2_9 c2_9) (.slice p3_9 n3_9 c3_9); simpa only [List.set_cons_zero, List.set_cons_succ, updB, updV, blkOf_mk, tup0_mk, partsOf3, Nat.reduceBEq, cond_true, cond_false, hb, d0, d1, d2, d3, d4, d5, d6, d7, d8, d9, d10, d11, r0, r1, r2, r3, r4, r5, r6, r7, r8, r9, r10, r11] using hX, hV⟩
   refine st 15 rfl (fun b t wx hJ hb hd hcl Kc hK => ?_) ?_
   · obtain ⟨hH, hV⟩ := hJ
     have d0 := so hd 0; have d1 := so hd 1; have d2 := so hd 2; have d3 := so hd 3; have d4 := so hd 4; have d5 := so hd 5; have d6 := so hd 6; have d7 := so hd 7; have d8 := so hd 8; have d9 := so hd 9; have d10 := so hd 10; have d11 := so hd 11; have d12 := so hd 12; have d13 := so hd 13; have r0 := hV.1 d0; have r1 := hV.2.1 d1; have r2 := hV.2.2.1 d2; have r3 := hV.2.2.2.1 d3; have r4 := hV.2.2.2.2.1 d4; have r5 := hV.2.2.2.2.2.1 d5; have r6 := hV.2.2.2.2.2.2.1 d6; have r7 := hV.2.2.2.2.2.2.2.1 d7; have r8 := hV.2.2.2.2.2.2.2.2.1 d8; have r9 := hV.2.2.2.2.2.2.2.2.2.1 d9; have r10 := hV.2.2.2.2.2.2.2.2.2.2.1 d10; have r11 := hV.2.2.2.2.2.2.2.2.2.2.2.1 d11; have r12 := hV.2.2.2.2.2.2.2.2.2.2.2.2.1 d12
     obtain ⟨x_8, c_8, r8⟩ := r8
     obtain ⟨p1_9, n1_9, c1_9, p2_9, n2_9, c2_9, p3_9, n3_9, c3_9, r9⟩ := r9
     go_simp
     apply sk hK
     · (try simp only [r0, r1, r2, r3, r4, r5, r6, r7, r8, r9, r10, r11, r12]); rfl
     exact ⟨hH, jD (jD (jD (jA (fun _ => fun _ => rfl)))) hV⟩
   exact AllSteps.nil
  intro b t wc hJ hall
  obtain ⟨hHc, v0, v1, v2, v3, v4, v5, v6, v7, v8, v9, v10, v11, v12, v14⟩ := hJ
  have a0 := hall 0 (by decide); have a1 := hall 1 (by decide); have a2 := hall 2 (by decide); have a3 := hall 3 (by decide); have a4 := hall 4 (by decide); have a5 := hall 5 (by decide); have a6 := hall 6 (by decide); have a7 := hall 7 (by decide); have a8 := hall 8 (by decide); have a9 := hall 9 (by decide); have a10 := hall 10 (by decide); have a11 := hall 11 (by decide); have a12 := hall 12 (by decide); have a13 := hall 13 (by decide); have a14 := hall 14 (by decide)
  (try simp only [a0, a1, a2, a3, a4, a5, a6, a7, a8, a9, a10, a11, a12, a13, a14, cond_true] at hHc)
  replace v0 := v0 a0; replace v1 := v1 a1; replace v2 := v2 a2; replace v3 := v3 a3; replace v4 := v4 a4; replace v5 := v5 a5; replace v6 := v6 a6; replace v7 := v7 a7; replace v8 := v8 a8; replace v9 := v9 a9; replace v10 := v10 a10; replace v11 := v11 a11; replace v12 := v12 a12; replace v14 := v14 a14
  clear hall a0 a1 a2 a3 a4 a5 a6 a7 a8 a9 a10 a11 a12 a13 a14
  generalize t 14 = x14 at hHc v14 ⊢; generalize t 12 = x12 at hHc v12 ⊢; generalize t 11 = x11 at hHc v11 ⊢; generalize t 10 = x10 at hHc v10 ⊢; generalize t 9 = x9 at hHc v9 v10 v11 ⊢; generalize t 8 = x8 at hHc v8 ⊢; generalize t 7 = x7 at hHc v7 ⊢; generalize t 6 = x6 at hHc v6 ⊢; generalize t 5 = x5 at hHc v5 ⊢; generalize t 4 = x4 at hHc v4 ⊢; generalize t 3 = x3 at hHc v3 ⊢; generalize t 2 = x2 at hHc v2 ⊢; generalize t 1 = x1 at hHc v1 ⊢; generalize t 0 = x0 at hHc v0 ⊢; subst v0; subst v1; subst v2; subst v3; subst v4; subst v5; subst v6; subst v7
  obtain ⟨xc8, cc8, rfl⟩ := v8
  obtain ⟨p1c9, n1c9, c1c9, p2c9, n2c9, c2c9, p3c9, n3c9, c3c9, rfl⟩ := v9
  subst v10; subst v11; subst v12; subst v14
  simp only [blkOf_mk, tup0_mk, partsOf3] at hHc
  clear b
  replace hH := hHc; clear hHc
  replace hH : Held w wc [nB w.heap.size k p n aV m cV aO op.length cO, tB (w.heap.size + 1) none 0 0 none 0 0 none 0 0, tB wn3.heap.size p1c9 n1c9 c1c9 p2c9 n2c9 c2c9 p3c9 n3c9 c3c9, aLs (.slice (some ⟨bP, oP, none⟩) np cP) vs PL, A, aTs (.slice aTS mTS cTS) csS (PT.map (tenOf dm)), aI (.slice aOS PO.length cOS) PO, nB wn7.heap.size k p n aTS mTS cTS aOS PO.length cOS, aSt (.slice xb2 SO.length cb2) SO, aT (.agg #[.slice p1b3 n1b3 c1b3, .slice p2b3 n2b3 c2b3, .slice p3b3 n3b3 c3b3]) PO (PO.map dm) (flat VX), tB qb7 p1b3 n1b3 c1b3 p2b3 n2b3 c2b3 p3b3 n3b3 c3b3, aI (.slice xc8 KJ.length cc8) KJ, aT (.agg #[.slice p1c9 n1c9 c1c9, .slice p2c9 n2c9 c2c9, .slice p3c9 n3c9 c3c9]) NL (NL.map dm) (flat NX)] := hH
  obtain ⟨wt, rfl⟩ : ∃ q, q = wc := ⟨wc, rfl⟩
  obtain ⟨q0_0, q0_1, q0_2, q0_3, q0_4, l0_⟩ := hH.c5 0 rfl; obtain ⟨q1_0, q1_1, q1_2, l1_⟩ := hH.c3 1 rfl; obtain ⟨q2_0, q2_1, q2_2, l2_⟩ := hH.c3 2 rfl; obtain ⟨q7_0, q7_1, q7_2, q7_3, q7_4, l7_⟩ := hH.c5 7 rfl; obtain ⟨q10_0, q10_1, q10_2, l10_⟩ := hH.c3 10 rfl
  go_wp2_with fail
  clear q0_0 q0_1 q0_2 q0_3 q0_4 l0_ q1_0 q1_1 q1_2 l1_ q2_0 q2_1 q2_2 l2_ q7_0 q7_1 q7_2 q7_3 q7_4 l7_ q10_0 q10_1 q10_2 l10_
  go_roundw
  case rel => exact ⟨j + 1, _, _, _, _, by omega, by go_num, Lib.hid (fun _ w' _ h => by rw [HNJ.out]; exact OwnT.tens h), (hH.moveTo 4 12 rfl (by decide)).sub (.cons_cons _ (.cons_cons _ (.cons_cons _ (.cons_cons _ (.cons_cons _ (.cons _ (.cons _ (.cons _ (.cons _ (.cons _ (.cons _ (.cons _ (.cons _ .slnil)))))))))))))⟩
  case measure => simp [RowKit.intOf]; omega
 have hje : j = np := by omega
 subst hje
 obtain ⟨np, hnj⟩ : ∃ q, q = j := ⟨j, rfl⟩
 subst hnj
 have HFIN := Lib.hid HPJ.out.fin
 rw [HNP.out] at HFIN
 have HA2 := Lib.hid (HA.out hnp0)
 obtain ⟨⟨JL, JX⟩, hJJ⟩ : ∃ q, JT np = q := ⟨_, rfl⟩
 rw [hJJ] at HFIN HA2
 simp only at HFIN HA2
 clear hJJ
 obtain ⟨q0_0, q0_1, q0_2, q0_3, q0_4, l0_⟩ := hH.c5 0 rfl; obtain ⟨q1_0, q1_1, q1_2, l1_⟩ := hH.c3 1 rfl; obtain ⟨q2_0, q2_1, q2_2, l2_⟩ := hH.c3 2 rfl
 go_wp2_with fail
 clear q0_0 q0_1 q0_2 q0_3 q0_4 l0_ q1_0 q1_1 q1_2 l1_ q2_0 q2_1 q2_2 l2_
 refine (finishTensor_any HR.out HN.out _ _ _ (hT0.ext hH.ext) (hO0.ext hH.ext) HFIN.out.1 HFIN.out.2.1 _ (HA2.out _ hH.ext (hH.get (k := 4) rfl))).mono ?_; rintro ewn9 wn9 ⟨v9, rfl, o9, hwn9⟩
 rw [HFIN.out.2.2, HRX.out] at o9
 obtain ⟨p1, n1, c1, p2, n2, c2, p3, n3, c3, rfl⟩ := o9.shape
 replace hH : Held w wn9 [nB w.heap.size k p n aV m cV aO op.length cO, tB (w.heap.size + 1) none 0 0 none 0 0 none 0 0, aB (wn3.heap.size) 35 [s1, s2, s3], aLs (.slice aP np cP) vs PL, A, aT (.agg #[.slice p1 n1 c1, .slice p2 n2 c2, .slice p3 n3 c3]) op (op.map dm) (flat RX)] := (hH.mores 1).addT 5 hwn9 o9 (Nat.le_refl _)
 clear hwn9
 obtain ⟨q0_0, q0_1, q0_2, q0_3, q0_4, l0_⟩ := hH.c5 0 rfl; obtain ⟨q1_0, q1_1, q1_2, l1_⟩ := hH.c3 1 rfl; have f1_0 := hH.fr 1 0 rfl; have f1_1 := hH.fr 1 1 rfl; have f1_2 := hH.fr 1 2 rfl; obtain ⟨q2_0, q2_1, q2_2, l2_⟩ := hH.c3 2 rfl
 go_wp2_with fail
 refine bodyPost_ret (v := .tuple #[.agg #[.slice p1 n1 c1, .slice p2 n2 c2, .slice p3 n3 c3], .bool true]) (by simp [results, Tryz.results8, go_sem, *]) rfl ?_
 have hf := (hH.setB3' (k := 1) rfl (.slice p1 n1 c1) (.slice p2 n2 c2) (.slice p3 n3 c3))
 exact ⟨_, rfl, hf.ownT (k := 5) rfl, hf.ext⟩
end Go.Proofs.YtlgjddgajdjllaaGreat
