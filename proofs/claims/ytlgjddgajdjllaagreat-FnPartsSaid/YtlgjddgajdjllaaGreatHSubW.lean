/- SubNetwork of the program. -/
import Derived.Test.YtlgjddgajdjllaaGreatHNetW
import Derived.Test.YtlgjddgajdjllaaGreatHArrB
set_option linter.unusedSimpArgs false
set_option linter.unusedVariables false
namespace Go.Proofs.YtlgjddgajdjllaaGreat
open Go.RowKit
section
variable {k p n : Int}
def pickN (ts : List (NT k p n)) (l : List Int) : List (NT k p n) := l.filterMap fun q => ts[q.toNat]?
def restN (ts : List (NT k p n)) (l : List Int) (m : Nat) : List (NT k p n) := (List.range m).filterMap fun i : Nat => if hasL l (i : Int) = true then none else ts[i]?
theorem pickN_snoc {ts : List (NT k p n)} {l : List Int} {j : Nat} {q : Int} {t : NT k p n} (h : l[j]? = some q) (ht : ts[q.toNat]? = some t) : pickN ts (l.take (j + 1)) = pickN ts (l.take j) ++ [t] := by
  unfold pickN
  rw [List.take_add_one, h, List.filterMap_append]
  simp [ht]
theorem restN_yes {ts : List (NT k p n)} {l : List Int} {j : Nat} (h : hasL l (j : Int) = true) : restN ts l (j + 1) = restN ts l j := by
  unfold restN
  rw [List.range_succ, List.filterMap_append]
  simp [h]
theorem restN_no {ts : List (NT k p n)} {l : List Int} {j : Nat} {t : NT k p n} (h : hasL l (j : Int) = false) (ht : ts[j]? = some t) : restN ts l (j + 1) = restN ts l j ++ [t] := by
  unfold restN
  rw [List.range_succ, List.filterMap_append]
  simp [h, ht]
theorem mem_pickN {ts : List (NT k p n)} {l : List Int} {t : NT k p n} (h : t ∈ pickN ts l) : t ∈ ts := by
  obtain ⟨q, _, hq⟩ := List.mem_filterMap.1 h
  exact List.mem_of_getElem? hq
theorem pickN_len (ts : List (NT k p n)) (l : List Int) : (pickN ts l).length ≤ l.length := List.length_filterMap_le _ _
variable {dm : Int → Int} {U : List Int} {ts : List (NT k p n)} {op : List Int}
theorem occ_pick {x : Int} {l : List Int} (h : x ∈ occ (pickN ts l)) : x ∈ occ ts := by
  obtain ⟨t, ht, hx⟩ := mem_occ.1 h
  exact mem_occ.2 ⟨t, mem_pickN ht, hx⟩
theorem IsN.opR (h : IsN k p n dm U ts op) : ∀ x ∈ op, 0 ≤ x ∧ x ≤ 99 := fun x hx => (h.opIn x hx).1
theorem sub_isN (h : IsN k p n dm U ts op) {l : List Int} (hl : l.length ≤ ts.length) (So : List Int) : IsN k p n dm U (pickN ts l) (subOpen (occ (pickN ts l)) So op) :=
  ⟨h.uni, fun t ht => h.ten t (mem_pickN ht), ⟨subOpen_nodup h.sub.nodup, fun x hx => h.occU (occ_pick ((mem_subOpen h.opR).1 hx).2.1)⟩, fun x hx => ((mem_subOpen h.opR).1 hx).2.1, by
    have := pickN_len ts l; have := h.len; omega⟩
theorem IsT.flatLen (hr : ringOk k p n = true) {L : List Int} {xs : List (El k p n)} (h : IsT k p n dm U L xs) : (flat xs).length ≤ 1048576 := by
  obtain ⟨P0, W, hP, hW, hP1, hP2, hW1', hW6, hXl⟩ := (h.ok hr).nat hr
  have h1 := h.small
  rw [flat_length hW, h.len]
  have := Nat.mul_le_mul h1 hW6
  omega
theorem map_ten_snoc3 (ts : List (NT k p n)) (L : List Int) (xs : List (El k p n)) : ts.map (tenOf dm) ++ [(L, L.map dm, flat xs)] = (ts ++ [(L, xs)]).map (tenOf dm) := by rw [List.map_append]; rfl
theorem filter_snoc_yes {f : Int → Bool} {l : List Int} {j : Nat} {x : Int} (h : l[j]? = some x) (hx : f x = true) : (l.take (j + 1)).filter f = (l.take j).filter f ++ [x] := by
  rw [take_snoc' h, List.filter_append]; simp [hx]
theorem filter_snoc_no {f : Int → Bool} {l : List Int} {j : Nat} {x : Int} (h : l[j]? = some x) (hx : f x = false) : (l.take (j + 1)).filter f = (l.take j).filter f := by
  rw [take_snoc' h, List.filter_append]; simp [hx]
theorem take_not {l : List Int} {j : Nat} {x : Int} (hn : l.Nodup) (h : l[j]? = some x) : hasL (l.take j) x = false := by
  rw [hasL_not]
  intro hx
  have ht := take_snoc' h
  have hn2 : (l.take (j + 1)).Nodup := hn.sublist (List.take_sublist _ _)
  rw [ht, List.nodup_append] at hn2
  exact hn2.2.2 x hx x (by simp) rfl
end
set_option maxRecDepth 100000 in
set_option maxHeartbeats 16000000 in
theorem subNetwork_any {k p n : Int} (hr : ringOk k p n = true) {dm : Int → Int} {U : List Int} {ts : List (NT k p n)} {op : List Int} (hN : IsN k p n dm U ts op) (tv ov : Value) (w : World) (hT : TensS w tv (ts.map (tenOf dm))) (hO : IntS w ov op) {l : List Int} (hln : l.Nodup) (hlr : ∀ q ∈ l, 0 ≤ q ∧ q < (ts.length : Int)) (hll : l.length ≤ ts.length) (lv : Value) (hL : IntS w lv l) :
 Calls Tryz.prog 7 #[.agg #[.int .i64 k, .int .i64 p, .int .i64 n, tv, ov], lv] w fun e w' => ∃ tv' ov' cs, e = .returned (.tuple #[.agg #[.int .i64 k, .int .i64 p, .int .i64 n, tv', ov'], .bool true]) ∧
  Held w w' [aTs tv' cs ((pickN ts l).map (tenOf dm)), aI ov' (subOpen (occ (pickN ts l)) (occ (restN ts l ts.length)) op)] := by
 obtain ⟨m, aV, cV, aO, cO, rfl, rfl, hcT1, hcT2, hcO1, hcO2, hm12, hop12, HM, HD3, hTl⟩ := net_in hN hT hO
 have hT0 := hT; have hO0 := hO; have HR := Lib.hid hr; have HN := Lib.hid hN; clear hr hN; try rw [HM.out]
 rw [HM.out] at hlr hll
 obtain ⟨aL, cL, rfl, hcL1, hcL2⟩ := hL.val
 have HLN := Lib.hid hln; have HLR := Lib.hid hlr; clear hln hlr
 obtain ⟨PN, hPN⟩ : ∃ q, pickN ts l = q := ⟨_, rfl⟩
 obtain ⟨ON, hON⟩ : ∃ q, subOpen (occ PN) (occ (restN ts l m)) op = q := ⟨_, rfl⟩
 rw [hPN, hON]
 have HPN := Lib.hid hPN; have HON := Lib.hid hON; clear hPN hON
 go_enter Tryz.func7, Tryz.ntmps7
 go_upto_region 1 with fail
 have hH : Held w w [] := Held.new (Ext.refl w) 0
 obtain ⟨hB, hsz⟩ := hH.laid #[.int .i64 k, .int .i64 p, .int .i64 n, .slice aV m cV, .slice aO op.length cO] 29
 generalize w.alloc (.cells #[.int .i64 k, .int .i64 p, .int .i64 n, .slice aV m cV, .slice aO op.length cO] 29) = wn1 at hB hsz ⊢
 replace hH : Held w wn1 [nB w.heap.size k p n aV m cV aO op.length cO] := hB
 have HSZwn1 := Lib.hid (show wn1.heap.size = w.heap.size + 1 by rw [hsz]); clear hB hsz
 obtain ⟨hB, hsz⟩ := hH.laid #[.int .i64 0, .int .i64 0, .int .i64 0, .slice none 0 0, .slice none 0 0] 29
 generalize wn1.alloc (.cells #[.int .i64 0, .int .i64 0, .int .i64 0, .slice none 0 0, .slice none 0 0] 29) = wn2 at hB hsz ⊢
 replace hH : Held w wn2 [nB w.heap.size k p n aV m cV aO op.length cO, aB (w.heap.size + 1) 29 [.int .i64 0, .int .i64 0, .int .i64 0, .slice none 0 0, .slice none 0 0]] := by rw [HSZwn1.out] at hB; exact hB
 have HSZwn2 := Lib.hid (show wn2.heap.size = w.heap.size + 1 + 1 by rw [hsz, HSZwn1.out]); clear hB hsz
 obtain ⟨q0_0, q0_1, q0_2, q0_3, q0_4, l0_⟩ := hH.c5 0 rfl; obtain ⟨q1_0, q1_1, q1_2, q1_3, q1_4, l1_⟩ := hH.c5 1 rfl
 go_wp2_with fail
 clear q0_0 q0_1 q0_2 q0_3 q0_4 l0_ q1_0 q1_1 q1_2 q1_3 q1_4 l1_
 refine (networkOk_any HR.out HN.out _ _ _ (hT0.ext hH.ext) (hO0.ext hH.ext)).mono ?_; rintro ewn3 wn3 ⟨rfl, hwn3⟩
 replace hH : Held w wn3 [nB w.heap.size k p n aV m cV aO op.length cO, aB (w.heap.size + 1) 29 [.int .i64 0, .int .i64 0, .int .i64 0, .slice none 0 0, .slice none 0 0]] := hH.grow hwn3
 clear hwn3
 have hlm : ¬ m < l.length := by omega
 obtain ⟨q0_0, q0_1, q0_2, q0_3, q0_4, l0_⟩ := hH.c5 0 rfl; obtain ⟨q1_0, q1_1, q1_2, q1_3, q1_4, l1_⟩ := hH.c5 1 rfl
 go_wp2_with fail
 clear q0_0 q0_1 q0_2 q0_3 q0_4 l0_ q1_0 q1_1 q1_2 q1_3 q1_4 l1_
 clear hlm
 go_loopw [32] (fun i wr => ∃ j : Nat, j ≤ l.length ∧ i = .int .i64 (j : Int) ∧ Held w wr [nB w.heap.size k p n aV m cV aO op.length cO, aB (w.heap.size + 1) 29 [.int .i64 0, .int .i64 0, .int .i64 0, .slice none 0 0, .slice none 0 0]]) (fun i wr => l.length - (RowKit.intOf i).toNat)
 case atStart => exact ⟨0, Nat.zero_le _, rfl, hH⟩
 clear hH
 obtain ⟨j, hj, rfl, hH⟩ := hrel
 by_cases hlt : j < l.length
 ·
  obtain ⟨bL, oL, x, rfl, hclx, hx, _⟩ := hL.get hlt
  obtain ⟨hx0, hx1⟩ := HLR.out x (List.mem_of_getElem? hx)
  have hxn : ¬ x < 0 := by omega
  have hxm : ¬ (m : Int) ≤ x := by omega
  have HTN := Lib.hid (take_not HLN.out hx)
  have hjc : (j : Int) ≤ (cL : Int) := by omega
  have hj0 : (0 : Int) ≤ (j : Int) := by omega
  have HTK := Lib.hid (hL.takeS (j := j) (by omega))
  clear hx
  obtain ⟨q0_0, q0_1, q0_2, q0_3, q0_4, l0_⟩ := hH.c5 0 rfl; obtain ⟨q1_0, q1_1, q1_2, q1_3, q1_4, l1_⟩ := hH.c5 1 rfl; have c_hclx := hH.ext.cell hclx
  go_wp2_with fail
  clear q0_0 q0_1 q0_2 q0_3 q0_4 l0_ q1_0 q1_1 q1_2 q1_3 q1_4 l1_ c_hclx
  refine (hasInt_any _ (l.take j) x _ (HTK.out.ext hH.ext)).mono ?_; rintro e3 w3 ⟨rfl, rfl⟩
  rw [HTN.out]
  go_wp2_with fail
  go_roundw
  case rel => exact ⟨j + 1, by omega, by go_num, hH⟩
  case measure => simp [RowKit.intOf]; omega
 have hje : j = l.length := by omega
 subst hje
 obtain ⟨wa, rfl⟩ : ∃ q, q = wr := ⟨wr, rfl⟩
 obtain ⟨q0_0, q0_1, q0_2, q0_3, q0_4, l0_⟩ := hH.c5 0 rfl; obtain ⟨q1_0, q1_1, q1_2, q1_3, q1_4, l1_⟩ := hH.c5 1 rfl
 go_upto_region 10 with fail
 clear q0_0 q0_1 q0_2 q0_3 q0_4 l0_ q1_0 q1_1 q1_2 q1_3 q1_4 l1_
 obtain ⟨hB, hsz⟩ := hH.laid #[.int .i64 k, .int .i64 p, .int .i64 n, .slice none 0 0, .slice none 0 0] 29
 generalize wa.alloc (.cells #[.int .i64 k, .int .i64 p, .int .i64 n, .slice none 0 0, .slice none 0 0] 29) = wn4 at hB hsz ⊢
 replace hH : Held w wn4 [nB w.heap.size k p n aV m cV aO op.length cO, aB (w.heap.size + 1) 29 [.int .i64 0, .int .i64 0, .int .i64 0, .slice none 0 0, .slice none 0 0], nB wa.heap.size k p n none 0 0 none 0 0] := hB
 have HSZwn4 := Lib.hid (show wn4.heap.size = wa.heap.size + 1 by rw [hsz]); clear hB hsz
 go_upto_region 11 with (first | (refine wpList_alloc_arrB rfl rfl ?_))
 have hB : Held w (wn4.alloc (.cells arrF 56)) [nB w.heap.size k p n aV m cV aO op.length cO, aB (w.heap.size + 1) 29 [.int .i64 0, .int .i64 0, .int .i64 0, .slice none 0 0, .slice none 0 0], nB wa.heap.size k p n none 0 0 none 0 0, aB (wa.heap.size + 1) 56 (bls (setA []))] := by
  have h := (hH.mores 1).addF 3
  rw [HSZwn4.out] at h
  exact h
 have hsz : (wn4.alloc (.cells arrF 56)).heap.size = wa.heap.size + 1 + 1 := by rw [← HSZwn4.out]; simp
 generalize wn4.alloc (.cells arrF 56) = wn5 at hB hsz ⊢
 replace hH := hB; have HSZwn5 := Lib.hid hsz; clear hB hsz
 rw [HSZwn4.out]
 have hB : Held w (wn5.alloc (.cells arrF 56)) [nB w.heap.size k p n aV m cV aO op.length cO, aB (w.heap.size + 1) 29 [.int .i64 0, .int .i64 0, .int .i64 0, .slice none 0 0, .slice none 0 0], nB wa.heap.size k p n none 0 0 none 0 0, aB (wa.heap.size + 1) 56 (bls (setA [])), aB (wa.heap.size + 1 + 1) 56 (bls (setA []))] := by
  have h := (hH.mores 1).addF 4
  rw [HSZwn5.out] at h
  exact h
 have hsz : (wn5.alloc (.cells arrF 56)).heap.size = wa.heap.size + 1 + 1 + 1 := by rw [← HSZwn5.out]; simp
 generalize wn5.alloc (.cells arrF 56) = wn6 at hB hsz ⊢
 replace hH := hB; have HSZwn6 := Lib.hid hsz; clear hB hsz
 rw [HSZwn5.out]
 replace hH : Held w wn6 [nB w.heap.size k p n aV m cV aO op.length cO, aB (w.heap.size + 1) 29 [.int .i64 0, .int .i64 0, .int .i64 0, .slice none 0 0, .slice none 0 0], nB wa.heap.size k p n none 0 0 none 0 0, aB (wa.heap.size + 1) 56 (bls (setA [])), aB (wa.heap.size + 1 + 1) 56 (bls (setA [])), aTs (.slice none 0 0) [] []] := hH.nilTs
 obtain ⟨q0_0, q0_1, q0_2, q0_3, q0_4, l0_⟩ := hH.c5 0 rfl; obtain ⟨q1_0, q1_1, q1_2, q1_3, q1_4, l1_⟩ := hH.c5 1 rfl; obtain ⟨q2_0, q2_1, q2_2, q2_3, q2_4, l2_⟩ := hH.c5 2 rfl
 go_wp2_with fail
 clear q0_0 q0_1 q0_2 q0_3 q0_4 l0_ q1_0 q1_1 q1_2 q1_3 q1_4 l1_ q2_0 q2_1 q2_2 q2_3 q2_4 l2_
 obtain ⟨sb, hsb⟩ : ∃ q, wa.heap.size = q := ⟨_, rfl⟩
 obtain ⟨ib, hib⟩ : ∃ q, wa.heap.size + 1 = q := ⟨_, rfl⟩
 obtain ⟨ob, hob⟩ : ∃ q, wa.heap.size + 1 + 1 = q := ⟨_, rfl⟩
 rw [hob, hib, hsb] at hH
 rw [hob, hib, hsb]
 clear hsb hib hob
 go_loopw [60] (fun i wr => ∃ (j : Nat) (tv : Value) (cs : List (Value × Value × Value)), j ≤ l.length ∧ i = .int .i64 (j : Int) ∧ Held w wr [nB w.heap.size k p n aV m cV aO op.length cO, aB (w.heap.size + 1) 29 [.int .i64 0, .int .i64 0, .int .i64 0, .slice none 0 0, .slice none 0 0], aB sb 29 [.int .i64 k, .int .i64 p, .int .i64 n, tv, .slice none 0 0], aB ib 56 (bls (setA (occ (pickN ts (l.take j))))), aB ob 56 (bls (setA [])), aTs tv cs ((pickN ts (l.take j)).map (tenOf dm))] ∧ Hid ((pickN ts (l.take j)).length ≤ j)) (fun i wr => l.length - (RowKit.intOf i).toNat)
 case atStart => exact ⟨0, _, _, Nat.zero_le _, rfl, hH, Lib.hid (Nat.le_refl _)⟩
 clear hH hj hlt
 obtain ⟨j, tv, cs, hj, rfl, hH, HPL⟩ := hrel
 obtain ⟨PK, hPK⟩ : ∃ q, (pickN ts (l.take j)) = q := ⟨_, rfl⟩
 rw [hPK] at hH HPL
 have HPK := Lib.hid hPK; clear hPK
 obtain ⟨aS, cS, rfl, _, _⟩ := (hH.tensS (k := 5) rfl).val
 rw [List.length_map] at hH
 by_cases hlt : j < l.length
 ·
  obtain ⟨bL, oL, x, rfl, hclx, hx, _⟩ := hL.get hlt
  obtain ⟨hx0, hx1⟩ := HLR.out x (List.mem_of_getElem? hx)
  obtain ⟨q, rfl⟩ : ∃ q : Nat, x = (q : Int) := ⟨x.toNat, by omega⟩
  have hqm : q < m := by omega
  obtain ⟨bT, oT, tlQ, xsQ, e1Q, f1Q, e2Q, f2Q, e3Q, m3Q, f3Q, hV, HTJQ, HTIQ, hu0Q, hu1Q, hu2Q, hTuQ, hTLQ, hTDQ, hTXQ, _, _, _, _⟩ := hT.ten HN.out.ten (j := q) (by rw [hTl.out]; exact hqm); subst hV
  have HPS := Lib.hid (show pickN ts (l.take (j + 1)) = PK ++ [(tlQ, xsQ)] by rw [pickN_snoc hx (by rw [Int.toNat_natCast]; exact HTJQ.out), HPK.out])
  have hxl := HTIQ.out.flatLen HR.out; have hrk : tlQ.length ≤ 12 := HTIQ.out.ax.rank
  have HXL := Lib.hid hxl; have HLB := Lib.hid (fun z hz => HTIQ.out.uni.labs (HTIQ.out.sub.sub z hz)); clear hxl hx
  obtain ⟨TP, hTP⟩ : ∃ z, PK.map (tenOf dm) = z := ⟨_, rfl⟩
  rw [hTP] at hH
  have hTPl : TP.length = PK.length := by rw [← hTP, List.length_map]
  have HTP := Lib.hid hTP; have HTPL := Lib.hid hTPl; clear hTP hTPl
  obtain ⟨q0_0, q0_1, q0_2, q0_3, q0_4, l0_⟩ := hH.c5 0 rfl; obtain ⟨q1_0, q1_1, q1_2, q1_3, q1_4, l1_⟩ := hH.c5 1 rfl; obtain ⟨q2_0, q2_1, q2_2, q2_3, q2_4, l2_⟩ := hH.c5 2 rfl; have c_hu0Q := hH.ext.cell hu0Q; have c_hu1Q := hH.ext.cell hu1Q; have c_hu2Q := hH.ext.cell hu2Q; have c_hclx := hH.ext.cell hclx
  go_upto_region 14 with fail
  clear q0_0 q0_1 q0_2 q0_3 q0_4 l0_ q1_0 q1_1 q1_2 q1_3 q1_4 l1_ q2_0 q2_1 q2_2 q2_3 q2_4 l2_ c_hu0Q c_hu1Q c_hu2Q c_hclx
  replace hH := hH.mores 2
  replace hH : Held w wr [nB w.heap.size k p n (some ⟨bT, oT, none⟩) m cV aO op.length cO, aB (w.heap.size + 1) 29 [.int .i64 0, .int .i64 0, .int .i64 0, .slice none 0 0, .slice none 0 0], nB sb k p n aS PK.length cS none 0 0, aB ib 56 (bls (setA (occ PK))), aB ob 56 (bls (setA [])), aTs (.slice aS PK.length cS) cs TP, emp, emp] := hH
  refine wp_region_steps ?Fa (fun b t wx => Held w wx [nB w.heap.size k p n (some ⟨bT, oT, none⟩) m cV aO op.length cO, aB (w.heap.size + 1) 29 [.int .i64 0, .int .i64 0, .int .i64 0, .slice none 0 0, .slice none 0 0], (bif b 11 then aB sb 29 [.int .i64 k, .int .i64 p, .int .i64 n, t 9, .slice none 0 0] else nB sb k p n aS PK.length cS none 0 0), aB ib 56 (bls (setA (occ PK))), aB ob 56 (bls (setA [])), (bif b 9 then aTs (t 9) (cs ++ [cel3 (t 7)]) (TP ++ [(tlQ, tlQ.map dm, flat xsQ)]) else aTs (.slice aS PK.length cS) cs TP), (bif b 9 then emp else (bif b 7 then aT (t 7) tlQ (tlQ.map dm) (flat xsQ) else emp)), (bif b 8 then aB (blkS (t 8)) 35 (partsOf (t 7)) else emp)] ∧ (b 0 = true → t 0 = .pointer (some ⟨sb, 3, none⟩)) ∧ (b 1 = true → t 1 = .slice aS PK.length cS) ∧ (b 2 = true → t 2 = .pointer (some ⟨w.heap.size, 3, none⟩)) ∧ (b 3 = true → t 3 = .slice (some ⟨bT, oT, none⟩) m cV) ∧ (b 4 = true → t 4 = .int .i64 (q : Int)) ∧ (b 5 = true → t 5 = .pointer (some ⟨bT, oT + q * 3, none⟩)) ∧ (b 6 = true → t 6 = .agg #[.slice e1Q tlQ.length f1Q, .slice e2Q tlQ.length f2Q, .slice e3Q m3Q f3Q]) ∧ (b 7 = true → ∃ p1 n1 c1 p2 n2 c2 p3 n3 c3, t 7 = .agg #[.slice p1 n1 c1, .slice p2 n2 c2, .slice p3 n3 c3]) ∧ (b 8 = true → ∃ z, t 8 = .slice (some ⟨z, 0, none⟩) 1 1) ∧ (b 9 = true → ∃ a c, t 9 = .slice a (PK.length + 1) c) ∧ (b 10 = true → t 10 = .pointer (some ⟨sb, 3, none⟩))) ?hFa (by kernel_rfl) (by kernel_rfl) ?hJa ?hSa ?hEa
  (case hFa => intro t; simp only [putAll, Act.put, List.setIfInBounds_toArray, List.set_cons_zero, List.set_cons_succ, Nat.reduceAdd, Nat.zero_add]; exact rfl)
  case hJa => exact ⟨hH.grow ((Ext.refl _).drew), nof, nof, nof, nof, nof, nof, nof, nof, nof, nof, nof⟩
  case hSa => as_aux_lemma =>
   refine st 1 rfl (fun b t wx hJ hb hd hcl Kc hK => ?_) ?_
   · obtain ⟨hH, hV⟩ := hJ
     have c_hu0Q := hH.ext.cell hu0Q; have c_hu1Q := hH.ext.cell hu1Q; have c_hu2Q := hH.ext.cell hu2Q; have c_hclx := hH.ext.cell hclx
     go_simp
     apply sk hK
     · rfl
     exact ⟨hH, rp (fun _ => rfl) hV⟩
   refine st 2 rfl (fun b t wx hJ hb hd hcl Kc hK => ?_) ?_
   · obtain ⟨hH, hV⟩ := hJ
     have d0 := so hd 0
     have n11 : b 11 = false := nf hb fun h => sc hcl 11 1 (h)
     have r0 := hV.1 d0
     have hN := hH; (try simp only [hb, d0, n11, cond_true, cond_false] at hN)
     have c_hu0Q := hH.ext.cell hu0Q; have c_hu1Q := hH.ext.cell hu1Q; have c_hu2Q := hH.ext.cell hu2Q; have c_hclx := hH.ext.cell hclx
     have q2_3 := hN.cl 2 3 rfl rfl
     go_simp
     apply sk hK
     · (try simp only [r0]); rfl
     exact ⟨hH, jA (rp (fun _ => rfl)) hV⟩
   refine st 3 rfl (fun b t wx hJ hb hd hcl Kc hK => ?_) ?_
   · obtain ⟨hH, hV⟩ := hJ
     have c_hu0Q := hH.ext.cell hu0Q; have c_hu1Q := hH.ext.cell hu1Q; have c_hu2Q := hH.ext.cell hu2Q; have c_hclx := hH.ext.cell hclx
     go_simp
     apply sk hK
     · rfl
     exact ⟨hH, jB (rp (fun _ => rfl)) hV⟩
   refine st 4 rfl (fun b t wx hJ hb hd hcl Kc hK => ?_) ?_
   · obtain ⟨hH, hV⟩ := hJ
     have d2 := so hd 2; have r2 := hV.2.2.1 d2; have c_hu0Q := hH.ext.cell hu0Q; have c_hu1Q := hH.ext.cell hu1Q; have c_hu2Q := hH.ext.cell hu2Q; have c_hclx := hH.ext.cell hclx; have q0_3 := hH.cl 0 3 rfl rfl
     go_simp
     apply sk hK
     · (try simp only [r2]); rfl
     exact ⟨hH, jB (jA (rp (fun _ => rfl))) hV⟩
   refine st 5 rfl (fun b t wx hJ hb hd hcl Kc hK => ?_) ?_
   · obtain ⟨hH, hV⟩ := hJ
     have c_hu0Q := hH.ext.cell hu0Q; have c_hu1Q := hH.ext.cell hu1Q; have c_hu2Q := hH.ext.cell hu2Q; have c_hclx := hH.ext.cell hclx
     go_simp
     apply sk hK
     · rfl
     exact ⟨hH, jD (rp (fun _ => rfl)) hV⟩
   refine st 6 rfl (fun b t wx hJ hb hd hcl Kc hK => ?_) ?_
   · obtain ⟨hH, hV⟩ := hJ
     have d3 := so hd 3; have d4 := so hd 4; have r3 := hV.2.2.2.1 d3; have r4 := hV.2.2.2.2.1 d4; have c_hu0Q := hH.ext.cell hu0Q; have c_hu1Q := hH.ext.cell hu1Q; have c_hu2Q := hH.ext.cell hu2Q; have c_hclx := hH.ext.cell hclx
     go_simp
     apply sk hK
     · (try simp only [r3, r4]); rfl
     exact ⟨hH, jD (jA (rp (fun _ => rfl))) hV⟩
   refine st 7 rfl (fun b t wx hJ hb hd hcl Kc hK => ?_) ?_
   · obtain ⟨hH, hV⟩ := hJ
     have d5 := so hd 5; have r5 := hV.2.2.2.2.2.1 d5; have c_hu0Q := hH.ext.cell hu0Q; have c_hu1Q := hH.ext.cell hu1Q; have c_hu2Q := hH.ext.cell hu2Q; have c_hclx := hH.ext.cell hclx
     go_simp
     apply sk hK
     · (try simp only [r5]); rfl
     exact ⟨hH, jD (jB (rp (fun _ => rfl))) hV⟩
   refine st 8 rfl (fun b t wx hJ hb hd hcl Kc hK => ?_) ?_
   · obtain ⟨hH, hV⟩ := hJ
     have d6 := so hd 6
     have n8 : b 8 = false := nf hb fun h => sc hcl 8 7 (h)
     have n9 : b 9 = false := nf hb fun h => sc hcl 9 7 (h)
     have r6 := hV.2.2.2.2.2.2.1 d6
     have hN := hH; (try simp only [hb, d6, n8, n9, cond_true, cond_false] at hN)
     go_simp
     go_at_call 23
     refine (copyTensor_any _ tlQ (tlQ.map dm) (flat xsQ) _ (hTuQ.ext hH.ext) (by omega) (by rw [List.length_map]; omega) HXL.out).mono ?_; rintro e7 w7 ⟨vd, rfl, od, h7⟩
     obtain ⟨pa1, na1, ca1, pa2, na2, ca2, pa3, na3, ca3, rfl⟩ := od.shape
     (try go_simp)
     apply sk hK
     · (try simp only [r6]); rfl
     exact ⟨by have hX := hN.addT 6 h7 od (Nat.le_refl _); simpa only [List.set_cons_zero, List.set_cons_succ, updB, updV, blkOf_mk, tup0_mk, partsOf3, blkS_mk, cel3_mk, Nat.reduceBEq, cond_true, cond_false, hb, d6, n8, n9, r6] using hX, jD (jB (jA (rp (fun _ => ⟨_, _, _, _, _, _, _, _, _, rfl⟩)))) hV⟩
   refine st 9 rfl (fun b t wx hJ hb hd hcl Kc hK => ?_) ?_
   · obtain ⟨hH, hV⟩ := hJ
     have d7 := so hd 7; have r7 := hV.2.2.2.2.2.2.2.1 d7
     obtain ⟨p1_7, n1_7, c1_7, p2_7, n2_7, c2_7, p3_7, n3_7, c3_7, r7⟩ := r7
     have hN := hH; (try simp only [hb, d7, cond_true, cond_false] at hN)
     have e7 := r7 -- d7
     go_simp
     apply sk hK
     · (try simp only [r7]); rfl
     exact ⟨by have hX := hN.addB 7 #[.slice p1_7 n1_7 c1_7, .slice p2_7 n2_7 c2_7, .slice p3_7 n3_7 c3_7] 35; simpa only [List.set_cons_zero, List.set_cons_succ, updB, updV, blkOf_mk, tup0_mk, partsOf3, blkS_mk, cel3_mk, Nat.reduceBEq, cond_true, cond_false, hb, d7, r7] using hX, jD (jD (rp (fun _ => ⟨_, rfl⟩))) hV⟩
   refine st 10 rfl (fun b t wx hJ hb hd hcl Kc hK => ?_) ?_
   · obtain ⟨hH, hV⟩ := hJ
     have d1 := so hd 1; have d7 := so hd 7; have d8 := so hd 8
     have n11 : b 11 = false := nf hb fun h => sc hcl 11 9 (h)
     have r1 := hV.2.1 d1; have r7 := hV.2.2.2.2.2.2.2.1 d7; have r8 := hV.2.2.2.2.2.2.2.2.1 d8
     obtain ⟨p1_7, n1_7, c1_7, p2_7, n2_7, c2_7, p3_7, n3_7, c3_7, r7⟩ := r7
     obtain ⟨z_8, r8⟩ := r8
     have hN := hH; (try simp only [hb, d1, d7, d8, n11, cond_true, cond_false] at hN)
     rw [r7] at hN -- d7 d8
     refine step_app wx rfl _ _ 26 rfl (.slice aS PK.length cS) (t 8) (by first | rfl | (go_simp; done)) (by first | rfl | (go_simp; done)) _ (run_pushT2 _ hN (k1 := 5) (k2 := 6) rfl rfl (by decide) (by rw [r8]; have h := hN.blk (k := 7) rfl; rw [r8] at h; exact row_blk3 h) ((by rw [HTPL.out]; have := HPL.out; omega))) ?_; rintro va wa ⟨hHa, ga⟩
     obtain ⟨aa, ca, hva, _, _⟩ := (hHa.tensS (k := 5) rfl).val; subst hva
     apply sk hK
     · (try simp only [r1, r7, r8]); rfl
     exact ⟨by have hX := hHa; simpa only [List.set_cons_zero, List.set_cons_succ, updB, updV, blkOf_mk, tup0_mk, partsOf3, blkS_mk, cel3_mk, Nat.reduceBEq, cond_true, cond_false, hb, d1, d7, d8, n11, r1, r7, r8] using hX, jD (jD (jA (rp (fun _ => ⟨_, _, by rw [List.length_append, HTPL.out]; rfl⟩)))) hV⟩
   refine st 11 rfl (fun b t wx hJ hb hd hcl Kc hK => ?_) ?_
   · obtain ⟨hH, hV⟩ := hJ
     have d0 := so hd 0; have d1 := so hd 1; have d2 := so hd 2; have d3 := so hd 3; have d4 := so hd 4; have d5 := so hd 5; have d6 := so hd 6; have d7 := so hd 7; have d8 := so hd 8; have d9 := so hd 9; have r0 := hV.1 d0; have r1 := hV.2.1 d1; have r2 := hV.2.2.1 d2; have r3 := hV.2.2.2.1 d3; have r4 := hV.2.2.2.2.1 d4; have r5 := hV.2.2.2.2.2.1 d5; have r6 := hV.2.2.2.2.2.2.1 d6; have r7 := hV.2.2.2.2.2.2.2.1 d7; have r8 := hV.2.2.2.2.2.2.2.2.1 d8; have r9 := hV.2.2.2.2.2.2.2.2.2.1 d9
     obtain ⟨p1_7, n1_7, c1_7, p2_7, n2_7, c2_7, p3_7, n3_7, c3_7, r7⟩ := r7
     obtain ⟨z_8, r8⟩ := r8
     obtain ⟨a_9, c_9, r9⟩ := r9
     have c_hu0Q := hH.ext.cell hu0Q; have c_hu1Q := hH.ext.cell hu1Q; have c_hu2Q := hH.ext.cell hu2Q; have c_hclx := hH.ext.cell hclx
     go_simp
     apply sk hK
     · (try simp only [r0, r1, r2, r3, r4, r5, r6, r7, r8, r9]); rfl
     exact ⟨hH, jD (jD (jB (fun _ => fun _ => rfl))) hV⟩
   refine st 12 rfl (fun b t wx hJ hb hd hcl Kc hK => ?_) ?_
   · obtain ⟨hH, hV⟩ := hJ
     have d0 := so hd 0; have d1 := so hd 1; have d2 := so hd 2; have d3 := so hd 3; have d4 := so hd 4; have d5 := so hd 5; have d6 := so hd 6; have d7 := so hd 7; have d8 := so hd 8; have d9 := so hd 9; have d10 := so hd 10; have r0 := hV.1 d0; have r1 := hV.2.1 d1; have r2 := hV.2.2.1 d2; have r3 := hV.2.2.2.1 d3; have r4 := hV.2.2.2.2.1 d4; have r5 := hV.2.2.2.2.2.1 d5; have r6 := hV.2.2.2.2.2.2.1 d6; have r7 := hV.2.2.2.2.2.2.2.1 d7; have r8 := hV.2.2.2.2.2.2.2.2.1 d8; have r9 := hV.2.2.2.2.2.2.2.2.2.1 d9; have r10 := hV.2.2.2.2.2.2.2.2.2.2 d10
     obtain ⟨p1_7, n1_7, c1_7, p2_7, n2_7, c2_7, p3_7, n3_7, c3_7, r7⟩ := r7
     obtain ⟨z_8, r8⟩ := r8
     obtain ⟨a_9, c_9, r9⟩ := r9
     have hN := hH; (try simp only [hb, d0, d1, d2, d3, d4, d5, d6, d7, d8, d9, d10, cond_true, cond_false] at hN)
     have B := hN.blk (k := 2) rfl; have fB := B.free 3; have zB := B.cell (j := 3) rfl; have lB := B.lt
     go_simp
     refine hK.out _ undef _ ?_ ?_; rotate_left 1
     · (try simp only [r0, r1, r2, r3, r4, r5, r6, r7, r8, r9, r10]); rfl
     exact ⟨by have hX := hN.setB (k := 2) rfl 3 (t 9); simpa only [List.set_cons_zero, List.set_cons_succ, updB, updV, blkOf_mk, tup0_mk, partsOf3, blkS_mk, cel3_mk, Nat.reduceBEq, cond_true, cond_false, hb, d0, d1, d2, d3, d4, d5, d6, d7, d8, d9, d10, r0, r1, r2, r3, r4, r5, r6, r7, r8, r9, r10] using hX, hV⟩
   exact AllSteps.nil
  intro b t wa hJ hall
  obtain ⟨hHa, v0, v1, v2, v3, v4, v5, v6, v7, v8, v9, v10⟩ := hJ
  have a0 := hall 0 (by decide); have a1 := hall 1 (by decide); have a2 := hall 2 (by decide); have a3 := hall 3 (by decide); have a4 := hall 4 (by decide); have a5 := hall 5 (by decide); have a6 := hall 6 (by decide); have a7 := hall 7 (by decide); have a8 := hall 8 (by decide); have a9 := hall 9 (by decide); have a10 := hall 10 (by decide); have a11 := hall 11 (by decide)
  (try simp only [a0, a1, a2, a3, a4, a5, a6, a7, a8, a9, a10, a11, cond_true] at hHa)
  replace v0 := v0 a0; replace v1 := v1 a1; replace v2 := v2 a2; replace v3 := v3 a3; replace v4 := v4 a4; replace v5 := v5 a5; replace v6 := v6 a6; replace v7 := v7 a7; replace v8 := v8 a8; replace v9 := v9 a9; replace v10 := v10 a10
  clear hall a0 a1 a2 a3 a4 a5 a6 a7 a8 a9 a10 a11
  generalize t 10 = x10 at hHa v10 ⊢; generalize t 9 = x9 at hHa v9 ⊢; generalize t 8 = x8 at hHa v8 ⊢; generalize t 7 = x7 at hHa v7 ⊢; generalize t 6 = x6 at hHa v6 ⊢; generalize t 5 = x5 at hHa v5 ⊢; generalize t 4 = x4 at hHa v4 ⊢; generalize t 3 = x3 at hHa v3 ⊢; generalize t 2 = x2 at hHa v2 ⊢; generalize t 1 = x1 at hHa v1 ⊢; generalize t 0 = x0 at hHa v0 ⊢; subst v0; subst v1; subst v2; subst v3; subst v4; subst v5; subst v6
  obtain ⟨p1a7, n1a7, c1a7, p2a7, n2a7, c2a7, p3a7, n3a7, c3a7, rfl⟩ := v7
  obtain ⟨za8, rfl⟩ := v8
  obtain ⟨aa9, ca9, rfl⟩ := v9
  subst v10
  simp only [blkOf_mk, tup0_mk, partsOf3, blkS_mk, cel3_mk] at hHa
  clear b
  replace hH := hHa; clear hHa
  replace hH : Held w wa [nB w.heap.size k p n (some ⟨bT, oT, none⟩) m cV aO op.length cO, aB (w.heap.size + 1) 29 [.int .i64 0, .int .i64 0, .int .i64 0, .slice none 0 0, .slice none 0 0], aB sb 29 [.int .i64 k, .int .i64 p, .int .i64 n, .slice aa9 (PK.length + 1) ca9, .slice none 0 0], aB ib 56 (bls (setA (occ PK))), aB ob 56 (bls (setA [])), aTs (.slice aa9 (PK.length + 1) ca9) (cs ++ [(.slice p1a7 n1a7 c1a7, .slice p2a7 n2a7 c2a7, .slice p3a7 n3a7 c3a7)]) (TP ++ [(tlQ, tlQ.map dm, flat xsQ)]), emp, tB za8 p1a7 n1a7 c1a7 p2a7 n2a7 c2a7 p3a7 n3a7 c3a7] := hH
  replace hH : Held w wa [nB w.heap.size k p n (some ⟨bT, oT, none⟩) m cV aO op.length cO, aB (w.heap.size + 1) 29 [.int .i64 0, .int .i64 0, .int .i64 0, .slice none 0 0, .slice none 0 0], aB sb 29 [.int .i64 k, .int .i64 p, .int .i64 n, .slice aa9 (PK.length + 1) ca9, .slice none 0 0], aB ib 56 (bls (setA (occ PK))), aB ob 56 (bls (setA [])), aTs (.slice aa9 (PK.length + 1) ca9) (cs ++ [(.slice p1a7 n1a7 c1a7, .slice p2a7 n2a7 c2a7, .slice p3a7 n3a7 c3a7)]) (TP ++ [(tlQ, tlQ.map dm, flat xsQ)])] := hH.sub (.cons_cons _ (.cons_cons _ (.cons_cons _ (.cons_cons _ (.cons_cons _ (.cons_cons _ (.cons _ (.cons _ .slnil))))))))
  obtain ⟨q0_0, q0_1, q0_2, q0_3, q0_4, l0_⟩ := hH.c5 0 rfl; obtain ⟨q1_0, q1_1, q1_2, q1_3, q1_4, l1_⟩ := hH.c5 1 rfl; obtain ⟨q2_0, q2_1, q2_2, q2_3, q2_4, l2_⟩ := hH.c5 2 rfl; have c_hu0Q := hH.ext.cell hu0Q; have c_hu1Q := hH.ext.cell hu1Q; have c_hu2Q := hH.ext.cell hu2Q; have c_hclx := hH.ext.cell hclx
  go_wp2_with fail
  clear q0_0 q0_1 q0_2 q0_3 q0_4 l0_ q1_0 q1_1 q1_2 q1_3 q1_4 l1_ q2_0 q2_1 q2_2 q2_3 q2_4 l2_ c_hu0Q c_hu1Q c_hu2Q c_hclx
  refine (markLabels_any ib (occ PK) tlQ _ _ (hH.blk (k := 3) rfl) (hTLQ.ext hH.ext) HLB.out (by omega)).mono ?_; rintro ewn7 wn7 ⟨rfl, hB, hg⟩
  replace hH : Held w wn7 [nB w.heap.size k p n (some ⟨bT, oT, none⟩) m cV aO op.length cO, aB (w.heap.size + 1) 29 [.int .i64 0, .int .i64 0, .int .i64 0, .slice none 0 0, .slice none 0 0], aB sb 29 [.int .i64 k, .int .i64 p, .int .i64 n, .slice aa9 (PK.length + 1) ca9, .slice none 0 0], aB ib 56 (bls (setA ((occ PK) ++ tlQ))), aB ob 56 (bls (setA [])), aTs (.slice aa9 (PK.length + 1) ca9) (cs ++ [(.slice p1a7 n1a7 c1a7, .slice p2a7 n2a7 c2a7, .slice p3a7 n3a7 c3a7)]) (TP ++ [(tlQ, tlQ.map dm, flat xsQ)])] := hH.turn (k := 3) rfl (A := aB ib 56 (bls (setA ((occ PK) ++ tlQ)))) hg (fun q hq => by cases hq; simp [aB]) hB (fun q hq => .inl hq)
  clear hg hB
  go_wp2_with fail
  go_roundw
  case rel => exact ⟨j + 1, _, _, by omega, by go_num, by rw [HPS.out, occ_snoc]; rw [← HTP.out, map_ten_snoc3] at hH; exact hH, Lib.hid (by rw [HPS.out, List.length_append]; have := HPL.out; simp; omega)⟩
  case measure => simp [RowKit.intOf]; omega
 have hje : j = l.length := by omega
 subst hje
 have hPK2 := HPK.out; rw [List.take_length, HPN.out] at hPK2
 have HPK2 := Lib.hid hPK2; clear hPK2
 obtain ⟨wb, rfl⟩ : ∃ q, q = wr := ⟨wr, rfl⟩
 obtain ⟨q0_0, q0_1, q0_2, q0_3, q0_4, l0_⟩ := hH.c5 0 rfl; obtain ⟨q1_0, q1_1, q1_2, q1_3, q1_4, l1_⟩ := hH.c5 1 rfl; obtain ⟨q2_0, q2_1, q2_2, q2_3, q2_4, l2_⟩ := hH.c5 2 rfl
 go_wp2_with fail
 clear q0_0 q0_1 q0_2 q0_3 q0_4 l0_ q1_0 q1_1 q1_2 q1_3 q1_4 l1_ q2_0 q2_1 q2_2 q2_3 q2_4 l2_
 go_loopw [86] (fun i wr => ∃ j : Nat, j ≤ m ∧ i = .int .i64 (j : Int) ∧ Held w wr [nB w.heap.size k p n aV m cV aO op.length cO, aB (w.heap.size + 1) 29 [.int .i64 0, .int .i64 0, .int .i64 0, .slice none 0 0, .slice none 0 0], nB sb k p n aS PK.length cS none 0 0, aB ib 56 (bls (setA (occ PK))), aB ob 56 (bls (setA (occ (restN ts l j)))), aTs (.slice aS PK.length cS) cs (PK.map (tenOf dm))]) (fun i wr => m - (RowKit.intOf i).toNat)
 case atStart => exact ⟨0, Nat.zero_le _, rfl, hH⟩
 clear hH hj hlt
 obtain ⟨j, hj, rfl, hH⟩ := hrel
 by_cases hlt : j < m
 ·
  obtain ⟨bT, oT, tlI, xsI, e1I, f1I, e2I, f2I, e3I, m3I, f3I, hV, HTJI, HTII, hu0I, hu1I, hu2I, hTuI, hTLI, hTDI, hTXI, _, _, _, _⟩ := hT.ten HN.out.ten (j := j) (by rw [hTl.out]; exact hlt); subst hV
  have hrk : tlI.length ≤ 12 := HTII.out.ax.rank
  have HLB := Lib.hid (fun z hz => HTII.out.uni.labs (HTII.out.sub.sub z hz))
  obtain ⟨RN, hRN⟩ : ∃ q, (restN ts l j) = q := ⟨_, rfl⟩
  rw [hRN] at hH
  have HRN := Lib.hid hRN; clear hRN
  obtain ⟨q0_0, q0_1, q0_2, q0_3, q0_4, l0_⟩ := hH.c5 0 rfl; obtain ⟨q1_0, q1_1, q1_2, q1_3, q1_4, l1_⟩ := hH.c5 1 rfl; obtain ⟨q2_0, q2_1, q2_2, q2_3, q2_4, l2_⟩ := hH.c5 2 rfl; have c_hu0I := hH.ext.cell hu0I; have c_hu1I := hH.ext.cell hu1I; have c_hu2I := hH.ext.cell hu2I
  go_upto_region 20 with fail
  clear q0_0 q0_1 q0_2 q0_3 q0_4 l0_ q1_0 q1_1 q1_2 q1_3 q1_4 l1_ q2_0 q2_1 q2_2 q2_3 q2_4 l2_ c_hu0I c_hu1I c_hu2I
  obtain ⟨hB, hsz⟩ := hH.laid #[.slice e1I tlI.length f1I, .slice e2I tlI.length f2I, .slice e3I m3I f3I] 35
  generalize wr.alloc (.cells #[.slice e1I tlI.length f1I, .slice e2I tlI.length f2I, .slice e3I m3I f3I] 35) = wn8 at hB hsz ⊢
  replace hH : Held w wn8 [nB w.heap.size k p n (some ⟨bT, oT, none⟩) m cV aO op.length cO, aB (w.heap.size + 1) 29 [.int .i64 0, .int .i64 0, .int .i64 0, .slice none 0 0, .slice none 0 0], nB sb k p n aS PK.length cS none 0 0, aB ib 56 (bls (setA (occ PK))), aB ob 56 (bls (setA (occ RN))), aTs (.slice aS PK.length cS) cs (PK.map (tenOf dm)), tB wr.heap.size e1I tlI.length f1I e2I tlI.length f2I e3I m3I f3I] := hB
  have HSZwn8 := Lib.hid (show wn8.heap.size = wr.heap.size + 1 by rw [hsz]); clear hB hsz
  obtain ⟨q0_0, q0_1, q0_2, q0_3, q0_4, l0_⟩ := hH.c5 0 rfl; obtain ⟨q1_0, q1_1, q1_2, q1_3, q1_4, l1_⟩ := hH.c5 1 rfl; obtain ⟨q2_0, q2_1, q2_2, q2_3, q2_4, l2_⟩ := hH.c5 2 rfl; obtain ⟨q6_0, q6_1, q6_2, l6_⟩ := hH.c3 6 rfl; have c_hu0I := hH.ext.cell hu0I; have c_hu1I := hH.ext.cell hu1I; have c_hu2I := hH.ext.cell hu2I
  go_wp2_with fail
  clear q0_0 q0_1 q0_2 q0_3 q0_4 l0_ q1_0 q1_1 q1_2 q1_3 q1_4 l1_ q2_0 q2_1 q2_2 q2_3 q2_4 l2_ q6_0 q6_1 q6_2 l6_ c_hu0I c_hu1I c_hu2I
  refine (hasInt_any _ l (j : Int) _ (hL.ext hH.ext)).mono ?_; rintro e3 w3 ⟨rfl, rfl⟩
  cases hh : hasL l (j : Int)
  ·
   have HRS := Lib.hid (restN_no hh HTJI.out); clear hh
   rw [HRN.out] at HRS
   obtain ⟨q0_0, q0_1, q0_2, q0_3, q0_4, l0_⟩ := hH.c5 0 rfl; obtain ⟨q1_0, q1_1, q1_2, q1_3, q1_4, l1_⟩ := hH.c5 1 rfl; obtain ⟨q2_0, q2_1, q2_2, q2_3, q2_4, l2_⟩ := hH.c5 2 rfl; obtain ⟨q6_0, q6_1, q6_2, l6_⟩ := hH.c3 6 rfl; have c_hu0I := hH.ext.cell hu0I; have c_hu1I := hH.ext.cell hu1I; have c_hu2I := hH.ext.cell hu2I
   go_wp2_with fail
   clear q0_0 q0_1 q0_2 q0_3 q0_4 l0_ q1_0 q1_1 q1_2 q1_3 q1_4 l1_ q2_0 q2_1 q2_2 q2_3 q2_4 l2_ q6_0 q6_1 q6_2 l6_ c_hu0I c_hu1I c_hu2I
   refine (markLabels_any ob (occ RN) tlI _ _ (hH.blk (k := 4) rfl) (hTLI.ext hH.ext) HLB.out (by omega)).mono ?_; rintro ewn9 wn9 ⟨rfl, hB, hg⟩
   replace hH : Held w wn9 [nB w.heap.size k p n (some ⟨bT, oT, none⟩) m cV aO op.length cO, aB (w.heap.size + 1) 29 [.int .i64 0, .int .i64 0, .int .i64 0, .slice none 0 0, .slice none 0 0], nB sb k p n aS PK.length cS none 0 0, aB ib 56 (bls (setA (occ PK))), aB ob 56 (bls (setA ((occ RN) ++ tlI))), aTs (.slice aS PK.length cS) cs (PK.map (tenOf dm)), tB wr.heap.size e1I tlI.length f1I e2I tlI.length f2I e3I m3I f3I] := hH.turn (k := 4) rfl (A := aB ob 56 (bls (setA ((occ RN) ++ tlI)))) hg (fun q hq => by cases hq; simp [aB]) hB (fun q hq => .inl hq)
   clear hg hB
   go_wp2_with fail
   go_roundw
   case rel => exact ⟨j + 1, by omega, by go_num, by rw [HRS.out, occ_snoc]; exact hH.sub (.cons_cons _ (.cons_cons _ (.cons_cons _ (.cons_cons _ (.cons_cons _ (.cons_cons _ (.cons _ .slnil)))))))⟩
   case measure => simp [RowKit.intOf]; omega
  have HRS := Lib.hid (restN_yes (ts := ts) hh); clear hh
  rw [HRN.out] at HRS
  go_wp2_with fail
  go_roundw
  case rel => exact ⟨j + 1, by omega, by go_num, by rw [HRS.out]; exact hH.sub (.cons_cons _ (.cons_cons _ (.cons_cons _ (.cons_cons _ (.cons_cons _ (.cons_cons _ (.cons _ .slnil)))))))⟩
  case measure => simp [RowKit.intOf]; omega
 have hje : j = m := by omega
 subst hje
 obtain ⟨m, hmj⟩ : ∃ q, q = j := ⟨j, rfl⟩
 subst hmj
 obtain ⟨wc, rfl⟩ : ∃ q, q = wr := ⟨wr, rfl⟩
 obtain ⟨SI, hSI⟩ : ∃ q, occ PK = q := ⟨_, rfl⟩
 obtain ⟨SO, hSO⟩ : ∃ q, occ (restN ts l m) = q := ⟨_, rfl⟩
 rw [hSI, hSO] at hH
 have HSI := Lib.hid hSI; have HSO := Lib.hid hSO; clear hSI hSO hj hlt
 replace hH : Held w wc [nB w.heap.size k p n aV m cV aO op.length cO, aB (w.heap.size + 1) 29 [.int .i64 0, .int .i64 0, .int .i64 0, .slice none 0 0, .slice none 0 0], nB sb k p n aS PK.length cS none 0 0, aB ib 56 (bls (setA SI)), aB ob 56 (bls (setA SO)), aTs (.slice aS PK.length cS) cs (PK.map (tenOf dm))] := hH
 replace hH : Held w wc [nB w.heap.size k p n aV m cV aO op.length cO, aB (w.heap.size + 1) 29 [.int .i64 0, .int .i64 0, .int .i64 0, .slice none 0 0, .slice none 0 0], nB sb k p n aS PK.length cS none 0 0, aB ib 56 (bls (setA SI)), aB ob 56 (bls (setA SO)), aTs (.slice aS PK.length cS) cs (PK.map (tenOf dm)), aI (.slice none 0 0) []] := hH.nilI
 obtain ⟨q0_0, q0_1, q0_2, q0_3, q0_4, l0_⟩ := hH.c5 0 rfl; obtain ⟨q1_0, q1_1, q1_2, q1_3, q1_4, l1_⟩ := hH.c5 1 rfl; obtain ⟨q2_0, q2_1, q2_2, q2_3, q2_4, l2_⟩ := hH.c5 2 rfl
 go_wp2_with fail
 clear q0_0 q0_1 q0_2 q0_3 q0_4 l0_ q1_0 q1_1 q1_2 q1_3 q1_4 l1_ q2_0 q2_1 q2_2 q2_3 q2_4 l2_
 go_loopw [102] (fun i wr => ∃ (j : Nat) (ov : Value), j ≤ op.length ∧ i = .int .i64 (j : Int) ∧ Held w wr [nB w.heap.size k p n aV m cV aO op.length cO, aB (w.heap.size + 1) 29 [.int .i64 0, .int .i64 0, .int .i64 0, .slice none 0 0, .slice none 0 0], aB sb 29 [.int .i64 k, .int .i64 p, .int .i64 n, .slice aS PK.length cS, ov], aB ib 56 (bls (setA SI)), aB ob 56 (bls (setA SO)), aTs (.slice aS PK.length cS) cs (PK.map (tenOf dm)), aI ov ((op.take j).filter fun x => hasL SI x)]) (fun i wr => op.length - (RowKit.intOf i).toNat)
 case atStart => exact ⟨0, _, Nat.zero_le _, rfl, hH⟩
 clear hH
 obtain ⟨j, ov, hj, rfl, hH⟩ := hrel
 obtain ⟨F, hF⟩ : ∃ q, ((op.take j).filter fun x => hasL SI x) = q := ⟨_, rfl⟩
 rw [hF] at hH
 have hFl : F.length ≤ 200 := by rw [← hF]; refine Nat.le_trans (List.length_filter_le _ _) ?_; rw [List.length_take]; omega
 have HF := Lib.hid hF; clear hF
 obtain ⟨aF, cF, rfl, _, _⟩ := (hH.ints (k := 6) rfl).val
 by_cases hlt : j < op.length
 ·
  obtain ⟨bO, oO, x, rfl, hcO, hx, _⟩ := hO.get hlt
  obtain ⟨hx0, hx1⟩ := (HN.out.opIn x (List.mem_of_getElem? hx)).1
  obtain ⟨c, rfl⟩ : ∃ c : Nat, x = (c : Int) := ⟨x.toNat, by omega⟩
  have hc : c < 100 := by omega
  have hcA := (hH.blk (k := 3) rfl).cell (j := c) (u := .bool (hasL SI (c : Int))) (by rw [bls_get, setA_get SI hc]; rfl)
  have hlA := hH.bl 3 rfl
  have hc3 : (0 : Int) ≤ (c : Int) := by omega
  have hc4 : (c : Int) < 100 := by omega
  cases hh : hasL SI (c : Int)
  ·
   have HF2 := Lib.hid (filter_snoc_no (f := fun x => hasL SI x) hx hh); rw [HF.out] at HF2
   rw [hh] at hcA
   clear hh hx
   obtain ⟨q0_0, q0_1, q0_2, q0_3, q0_4, l0_⟩ := hH.c5 0 rfl; obtain ⟨q1_0, q1_1, q1_2, q1_3, q1_4, l1_⟩ := hH.c5 1 rfl; obtain ⟨q2_0, q2_1, q2_2, q2_3, q2_4, l2_⟩ := hH.c5 2 rfl; have c_hcO := hH.ext.cell hcO
   go_wp2_with fail
   go_roundw
   case rel => exact ⟨j + 1, _, by omega, by go_num, by rw [HF2.out]; exact hH⟩
   case measure => simp [RowKit.intOf]; omega
  have HF2 := Lib.hid (filter_snoc_yes (f := fun x => hasL SI x) hx hh); rw [HF.out] at HF2
  rw [hh] at hcA
  clear hh hx
  obtain ⟨q0_0, q0_1, q0_2, q0_3, q0_4, l0_⟩ := hH.c5 0 rfl; obtain ⟨q1_0, q1_1, q1_2, q1_3, q1_4, l1_⟩ := hH.c5 1 rfl; obtain ⟨q2_0, q2_1, q2_2, q2_3, q2_4, l2_⟩ := hH.c5 2 rfl; have c_hcO := hH.ext.cell hcO
  go_wp2_with (at_builtin; refine wpList_app _ rfl _ _ 27 rfl _ _ rfl rfl _ (run_push _ _ w.heap.size _ F (c : Int) (hH.own (k := 6) rfl) (by omega) hH.size) ?_; rintro v6 w6 ⟨o6, g6, n6⟩; obtain ⟨a6, c6, hv6, _, _⟩ := o6.ints.val; rw [List.length_append, List.length_singleton] at hv6; subst hv6; have hHp := hH.pushed (k := 6) rfl o6 g6 n6; have yB := hHp.blk (k := 2) rfl; have yl := yB.lt; have y4 := yB.cell (j := 4) rfl; have y4f := yB.free 4; clear yB)
  clear q0_0 q0_1 q0_2 q0_3 q0_4 l0_ q1_0 q1_1 q1_2 q1_3 q1_4 l1_ q2_0 q2_1 q2_2 q2_3 q2_4 l2_ c_hcO
  clear y4 y4f yl
  have hHq := hHp.setB (k := 2) rfl 4 (.slice a6 (F.length + 1) c6)
  go_roundw
  case rel => exact ⟨j + 1, _, by omega, by go_num, by rw [HF2.out]; exact hHq⟩
  case measure => simp [RowKit.intOf]; omega
 have hje : j = op.length := by omega
 subst hje
 have hF2 := HF.out; rw [List.take_length] at hF2
 obtain ⟨wd, rfl⟩ : ∃ q, q = wr := ⟨wr, rfl⟩
 obtain ⟨F0, hF0⟩ : ∃ q, q = F := ⟨F, rfl⟩
 subst hF0
 have HF0 := Lib.hid hF2; clear hF2 HF hj hlt
 obtain ⟨q0_0, q0_1, q0_2, q0_3, q0_4, l0_⟩ := hH.c5 0 rfl; obtain ⟨q1_0, q1_1, q1_2, q1_3, q1_4, l1_⟩ := hH.c5 1 rfl; obtain ⟨q2_0, q2_1, q2_2, q2_3, q2_4, l2_⟩ := hH.c5 2 rfl
 go_wp2_with fail
 clear q0_0 q0_1 q0_2 q0_3 q0_4 l0_ q1_0 q1_1 q1_2 q1_3 q1_4 l1_ q2_0 q2_1 q2_2 q2_3 q2_4 l2_
 go_loopw [116] (fun i wr => ∃ (j : Nat) (ov : Value), j ≤ 100 ∧ i = .int .i64 (j : Int) ∧ Held w wr [nB w.heap.size k p n aV m cV aO op.length cO, aB (w.heap.size + 1) 29 [.int .i64 0, .int .i64 0, .int .i64 0, .slice none 0 0, .slice none 0 0], aB sb 29 [.int .i64 k, .int .i64 p, .int .i64 n, .slice aS PK.length cS, ov], aB ib 56 (bls (setA SI)), aB ob 56 (bls (setA SO)), aTs (.slice aS PK.length cS) cs (PK.map (tenOf dm)), aI ov (F0 ++ (all100.take j).filter fun x => hasL SI x && hasL SO x && !hasL op x)]) (fun i wr => 100 - (RowKit.intOf i).toNat)
 case atStart => exact ⟨0, _, Nat.zero_le _, rfl, by rw [List.take_zero, List.filter_nil, List.append_nil]; exact hH⟩
 clear hH
 obtain ⟨j, ov, hj, rfl, hH⟩ := hrel
 have hF0l : F0.length ≤ 12 := by rw [← HF0.out]; exact Nat.le_trans (List.length_filter_le _ _) (by omega)
 obtain ⟨F, hF⟩ : ∃ q, (F0 ++ (all100.take j).filter fun x => hasL SI x && hasL SO x && !hasL op x) = q := ⟨_, rfl⟩
 rw [hF] at hH
 have hFl : F.length ≤ 200 := by rw [← hF]; rw [List.length_append]; have := List.length_filter_le (fun x => hasL SI x && hasL SO x && !hasL op x) (all100.take j); rw [List.length_take, all100_len] at this; omega
 have HF := Lib.hid hF; clear hF
 obtain ⟨aF, cF, rfl, _, _⟩ := (hH.ints (k := 6) rfl).val
 by_cases hlt : j < 100
 ·
  have hx := all100_get hlt
  have hcI := (hH.blk (k := 3) rfl).cell (j := j) (u := .bool (hasL SI (j : Int))) (by rw [bls_get, setA_get SI hlt]; rfl)
  have hlI := hH.bl 3 rfl
  have hcU := (hH.blk (k := 4) rfl).cell (j := j) (u := .bool (hasL SO (j : Int))) (by rw [bls_get, setA_get SO hlt]; rfl)
  have hlU := hH.bl 4 rfl
  have hc3 : (0 : Int) ≤ (j : Int) := by omega
  have hc4 : (j : Int) < 100 := by omega
  cases hi : hasL SI (j : Int)
  ·
   have HF2 := Lib.hid (show (F0 ++ (all100.take (j + 1)).filter fun x => hasL SI x && hasL SO x && !hasL op x) = F by rw [filter_snoc_no (f := fun x => hasL SI x && hasL SO x && !hasL op x) hx (by simp [hi])]; exact HF.out)
   rw [hi] at hcI
   clear hi hx
   obtain ⟨q0_0, q0_1, q0_2, q0_3, q0_4, l0_⟩ := hH.c5 0 rfl; obtain ⟨q1_0, q1_1, q1_2, q1_3, q1_4, l1_⟩ := hH.c5 1 rfl; obtain ⟨q2_0, q2_1, q2_2, q2_3, q2_4, l2_⟩ := hH.c5 2 rfl
   go_wp2_with fail
   go_roundw
   case rel => exact ⟨j + 1, _, by omega, by go_num, by rw [HF2.out]; exact hH⟩
   case measure => simp [RowKit.intOf]; omega
  cases ho : hasL SO (j : Int)
  ·
   have HF2 := Lib.hid (show (F0 ++ (all100.take (j + 1)).filter fun x => hasL SI x && hasL SO x && !hasL op x) = F by rw [filter_snoc_no (f := fun x => hasL SI x && hasL SO x && !hasL op x) hx (by simp [ho])]; exact HF.out)
   rw [hi] at hcI
   rw [ho] at hcU
   clear hi ho hx
   obtain ⟨q0_0, q0_1, q0_2, q0_3, q0_4, l0_⟩ := hH.c5 0 rfl; obtain ⟨q1_0, q1_1, q1_2, q1_3, q1_4, l1_⟩ := hH.c5 1 rfl; obtain ⟨q2_0, q2_1, q2_2, q2_3, q2_4, l2_⟩ := hH.c5 2 rfl
   go_wp2_with fail
   go_roundw
   case rel => exact ⟨j + 1, _, by omega, by go_num, by rw [HF2.out]; exact hH⟩
   case measure => simp [RowKit.intOf]; omega
  cases hp : hasL op (j : Int)
  ·
   have HF2 := Lib.hid (show (F0 ++ (all100.take (j + 1)).filter fun x => hasL SI x && hasL SO x && !hasL op x) = F ++ [(j : Int)] by rw [filter_snoc_yes (f := fun x => hasL SI x && hasL SO x && !hasL op x) hx (by simp [hi, ho, hp]), ← List.append_assoc]; rw [HF.out])
   rw [hi] at hcI
   rw [ho] at hcU
   have HP := Lib.hid hp; clear hi ho hp hx
   obtain ⟨q0_0, q0_1, q0_2, q0_3, q0_4, l0_⟩ := hH.c5 0 rfl; obtain ⟨q1_0, q1_1, q1_2, q1_3, q1_4, l1_⟩ := hH.c5 1 rfl; obtain ⟨q2_0, q2_1, q2_2, q2_3, q2_4, l2_⟩ := hH.c5 2 rfl
   go_wp2_with fail
   clear q0_0 q0_1 q0_2 q0_3 q0_4 l0_ q1_0 q1_1 q1_2 q1_3 q1_4 l1_ q2_0 q2_1 q2_2 q2_3 q2_4 l2_
   clear hcI hcU
   refine (hasInt_any _ op (j : Int) _ (hO.ext hH.ext)).mono ?_; rintro e3 w3 ⟨rfl, rfl⟩
   rw [HP.out]
   obtain ⟨q0_0, q0_1, q0_2, q0_3, q0_4, l0_⟩ := hH.c5 0 rfl; obtain ⟨q1_0, q1_1, q1_2, q1_3, q1_4, l1_⟩ := hH.c5 1 rfl; obtain ⟨q2_0, q2_1, q2_2, q2_3, q2_4, l2_⟩ := hH.c5 2 rfl
   go_wp2_with (at_builtin; refine wpList_app _ rfl _ _ 27 rfl _ _ rfl rfl _ (run_push _ _ w.heap.size _ F (j : Int) (hH.own (k := 6) rfl) (by omega) hH.size) ?_; rintro v6 w6 ⟨o6, g6, n6⟩; obtain ⟨a6, c6, hv6, _, _⟩ := o6.ints.val; rw [List.length_append, List.length_singleton] at hv6; subst hv6; have hHp := hH.pushed (k := 6) rfl o6 g6 n6; have yB := hHp.blk (k := 2) rfl; have yl := yB.lt; have y4 := yB.cell (j := 4) rfl; have y4f := yB.free 4; clear yB)
   clear q0_0 q0_1 q0_2 q0_3 q0_4 l0_ q1_0 q1_1 q1_2 q1_3 q1_4 l1_ q2_0 q2_1 q2_2 q2_3 q2_4 l2_
   clear y4 y4f yl
   have hHq := hHp.setB (k := 2) rfl 4 (.slice a6 (F.length + 1) c6)
   go_roundw
   case rel => exact ⟨j + 1, _, by omega, by go_num, by rw [HF2.out]; exact hHq⟩
   case measure => simp [RowKit.intOf]; omega
  have HF2 := Lib.hid (show (F0 ++ (all100.take (j + 1)).filter fun x => hasL SI x && hasL SO x && !hasL op x) = F by rw [filter_snoc_no (f := fun x => hasL SI x && hasL SO x && !hasL op x) hx (by simp [hp])]; exact HF.out)
  rw [hi] at hcI
  rw [ho] at hcU
  have HP := Lib.hid hp; clear hi ho hp hx
  obtain ⟨q0_0, q0_1, q0_2, q0_3, q0_4, l0_⟩ := hH.c5 0 rfl; obtain ⟨q1_0, q1_1, q1_2, q1_3, q1_4, l1_⟩ := hH.c5 1 rfl; obtain ⟨q2_0, q2_1, q2_2, q2_3, q2_4, l2_⟩ := hH.c5 2 rfl
  go_wp2_with fail
  clear q0_0 q0_1 q0_2 q0_3 q0_4 l0_ q1_0 q1_1 q1_2 q1_3 q1_4 l1_ q2_0 q2_1 q2_2 q2_3 q2_4 l2_
  clear hcI hcU
  refine (hasInt_any _ op (j : Int) _ (hO.ext hH.ext)).mono ?_; rintro e3 w3 ⟨rfl, rfl⟩
  rw [HP.out]
  go_wp2_with fail
  go_roundw
  case rel => exact ⟨j + 1, _, by omega, by go_num, by rw [HF2.out]; exact hH⟩
  case measure => simp [RowKit.intOf]; omega
 have hje : j = 100 := by omega
 subst hje
 have HSP : Hid (subOpen SI SO op = F) := Lib.hid (by have h := HF.out; rw [List.take_of_length_le (by rw [all100_len]; exact Nat.le_refl _), ← HF0.out] at h; exact h)
 obtain ⟨we, rfl⟩ : ∃ q, q = wr := ⟨wr, rfl⟩
 have HNS : Hid (IsN k p n dm U PK F) := Lib.hid (by have h := sub_isN HN.out (l := l) (by rw [HM.out]; exact hll) SO; rw [HPN.out, HPK2.out, HSI.out, HSP.out] at h; exact h)
 obtain ⟨q0_0, q0_1, q0_2, q0_3, q0_4, l0_⟩ := hH.c5 0 rfl; obtain ⟨q1_0, q1_1, q1_2, q1_3, q1_4, l1_⟩ := hH.c5 1 rfl; obtain ⟨q2_0, q2_1, q2_2, q2_3, q2_4, l2_⟩ := hH.c5 2 rfl
 go_wp2_with fail
 clear q0_0 q0_1 q0_2 q0_3 q0_4 l0_ q1_0 q1_1 q1_2 q1_3 q1_4 l1_ q2_0 q2_1 q2_2 q2_3 q2_4 l2_
 have HTT := Lib.hid (hH.tensS (k := 5) rfl); have HTO := Lib.hid (hH.ints (k := 6) rfl)
 refine (networkOk_any HR.out HNS.out _ _ _ HTT.out HTO.out).mono ?_; rintro ewn10 wn10 ⟨rfl, hwn10⟩
 replace hH : Held w wn10 [nB w.heap.size k p n aV m cV aO op.length cO, aB (w.heap.size + 1) 29 [.int .i64 0, .int .i64 0, .int .i64 0, .slice none 0 0, .slice none 0 0], nB sb k p n aS PK.length cS aF F.length cF, aB ib 56 (bls (setA SI)), aB ob 56 (bls (setA SO)), aTs (.slice aS PK.length cS) cs (PK.map (tenOf dm)), aI (.slice aF F.length cF) F] := hH.grow hwn10
 clear hwn10
 clear HTT HTO
 obtain ⟨q0_0, q0_1, q0_2, q0_3, q0_4, l0_⟩ := hH.c5 0 rfl; obtain ⟨q1_0, q1_1, q1_2, q1_3, q1_4, l1_⟩ := hH.c5 1 rfl; have f1_0 := hH.fr 1 0 rfl; have f1_1 := hH.fr 1 1 rfl; have f1_2 := hH.fr 1 2 rfl; have f1_3 := hH.fr 1 3 rfl; have f1_4 := hH.fr 1 4 rfl; obtain ⟨q2_0, q2_1, q2_2, q2_3, q2_4, l2_⟩ := hH.c5 2 rfl
 go_wp2_with fail
 refine bodyPost_ret (v := .tuple #[.agg #[.int .i64 k, .int .i64 p, .int .i64 n, .slice aS PK.length cS, .slice aF F.length cF], .bool true]) (by simp [results, Tryz.results7, go_sem, *]) rfl ?_
 rw [show ON = F by rw [← HON.out, HPK2.out, HSI.out, HSO.out]; exact HSP.out, HPK2.out]
 exact ⟨_, _, cs, rfl, (hH.setB5 (k := 1) rfl (.int .i64 k) (.int .i64 p) (.int .i64 n) (.slice aS PK.length cS) (.slice aF F.length cF)).sub (.cons _ (.cons _ (.cons _ (.cons _ (.cons _ (.cons_cons _ (.cons_cons _ .slnil)))))))⟩
end Go.Proofs.YtlgjddgajdjllaaGreat
