/- NextSeed, randomSteps, RandomOrder of the program. -/
import Derived.Test.YtpegckmagiaggaaTGreedW
set_option linter.unusedSimpArgs false
set_option linter.unusedVariables false
namespace Go.Proofs.Ytpegckmagiaggaa
open Go.RowKit
theorem mask31 (x : Int) (h0 : 0 ≤ x) (h1 : x < 4611686018427387904) : bits .and .i64 x 2147483647 = x % 2147483648 :=
  bits_mask .i64 62 (by decide) (fun n h0 h1 => by rw [IntKind.wrap_i64]; omega) 31 (by decide) x h0 (by omega)
def nextS (x : Int) : Int := (1103515245 * (x % 2147483648) + 12345) % 2147483648
theorem nextS_ok (x : Int) : 0 ≤ nextS x ∧ nextS x < 2147483648 := by unfold nextS; omega
set_option maxHeartbeats 4000000 in
theorem nextSeed_any (x : Int) (h0 : 0 ≤ x) (h1 : x < 2147483648) (w : World) : Calls Try.prog 74 #[.int .i64 x] w fun e w' => e = .returned (.int .i64 (nextS x)) ∧ w = w' := by
 have e1 := mask31 x h0 (by omega)
 obtain ⟨y, hy⟩ : ∃ y, x % 2147483648 = y := ⟨_, rfl⟩
 have hy0 : 0 ≤ y ∧ y < 2147483648 := by omega
 rw [hy] at e1
 have hy1 : IntKind.i64.wrap (1103515245 * y) = 1103515245 * y := by rw [IntKind.wrap_i64]; omega
 have hw1 : wrap64 (1103515245 * y) = 1103515245 * y := by simp only [wrap64]; omega
 have hy2 : IntKind.i64.wrap (1103515245 * y + 12345) = 1103515245 * y + 12345 := by rw [IntKind.wrap_i64]; omega
 have hw2 : wrap64 (1103515245 * y + 12345) = 1103515245 * y + 12345 := by simp only [wrap64]; omega
 have e2 := mask31 (1103515245 * y + 12345) (by omega) (by omega)
 have HN : Hid ((1103515245 * y + 12345) % 2147483648 = nextS x) := Lib.hid (by unfold nextS; rw [hy])
 obtain ⟨z, hz⟩ : ∃ z, (1103515245 * y + 12345) % 2147483648 = z := ⟨_, rfl⟩
 rw [hz] at e2
 have HZ := Lib.hid hz
 clear hy hz
 go_enter Try.func74, Try.ntmps74
 go_wp2
 go_ret
 exact ⟨by rw [← HN.out, HZ.out]; rfl, rfl⟩
set_option maxRecDepth 100000 in
set_option maxHeartbeats 4000000 in
theorem randomSteps_any {k p n : Int} (hr : ringOk k p n = true) {dm : Int → Int} {U : List Int} {ts : List (NT k p n)} {op : List Int} (hN : IsN k p n dm U ts op) {s : Nat} {cs0 : List (Int × Value)} (w : World) (hS0 : OrdS w s (arrL dm (occ ts)) op cs0 (ts.map (·.1)) (ts.length : Int)) (hC0 : cs0.map (·.1) = numL ts.length) (sd0 : Int) (hsd0 : 0 ≤ sd0 ∧ sd0 < 2147483648) :
 Calls Try.prog 149 #[.pointer (some ⟨s, 0, none⟩), .int .i64 sd0] w fun e w' => ∃ u sd os, e = .returned (.tuple #[u, .int .i64 sd]) ∧ HeldX (some s) w w' [aSt u os] ∧ okO (numL ts.length) (ts.length : Int) os ∧ os.length = ts.length - 1 := by
 have HR := Lib.hid hr; have HN := Lib.hid hN; have HC0 := Lib.hid hC0; clear hN hC0
 obtain ⟨m, hm⟩ : ∃ m, ts.length = m := ⟨_, rfl⟩
 have hm12 : m ≤ 12 := by rw [← hm]; exact HN.out.len
 have HM := Lib.hid hm; clear hm
 have hsw := hS0.lt
 go_enter Try.func149, Try.ntmps149
 go_wp2_with fail
 go_loopw [1, 6] (fun vsd vo wr => ∃ (sd : Int) (os : List (Int × Int)) (cs : List (Int × Value)) (ns : List Int) (tj : List (NT k p n)), vsd = .int .i64 sd ∧ 0 ≤ sd ∧ sd < 2147483648 ∧ Hid (MakG HR.out dm U op ts os ns tj) ∧ Hid (cs.map (·.1) = ns) ∧ OrdV wr s vo (arrL dm (occ ts)) op cs (tj.map (·.1)) ((ts.length : Int) + os.length) ∧ HeldX (some s) w wr [aSt vo os]) (fun vsd vo wr => 13 - lenV vo)
 case atStart => exact ⟨sd0, [], cs0, numL ts.length, ts, rfl, hsd0.1, hsd0.2, Lib.hid (MakG.start HN.out), HC0, by rw [show (ts.length : Int) + (([] : List (Int × Int)).length : Int) = (ts.length : Int) by simp]; exact OrdV.nil hS0 rfl, (HeldX.newX (grown_refl w (some s)) 0).nilR 138 2⟩
 case round =>
  clear hS0 HC0
  obtain ⟨sd, os, cs, ns, tj, rfl, hsd1, hsd2, HK, HC, hSV, hX⟩ := hrel
  obtain ⟨wq, rfl⟩ : ∃ q, q = wr := ⟨wr, rfl⟩
  obtain ⟨aq, cq, rfl, _, _⟩ := (hX.steps (k := 0) rfl).val
  have HOSV := Lib.hid hSV
  have hS := hSV.st
  have hleft := HK.out.ats.left
  rw [HM.out] at hleft
  have hll : (tj.map (·.1)).length ≤ 1000 := by rw [List.length_map]; omega
  have hrk : ∀ l ∈ tj.map (·.1), l.length ≤ 500 := fun l hl => Nat.le_trans (HK.out.ats.rank l hl) (by omega)
  have hnx0 : (0 : Int) ≤ (ts.length : Int) + os.length := by omega
  have hnx1 : (ts.length : Int) + os.length ≤ 2000 := by rw [HM.out]; omega
  have HRK2 := Lib.hid hrk; have HNX := Lib.hid (And.intro hnx0 hnx1); have HLL2 := Lib.hid hll
  clear hrk hnx0 hnx1 hll
  obtain ⟨ov, lv, hB, hov, hovs, hLv⟩ := hS.has
  obtain ⟨aV, cV, rfl, hcV1, hcV2⟩ := hLv.val
  obtain ⟨mj, hmj⟩ : ∃ q, tj.length = q := ⟨_, rfl⟩
  have HMJ := Lib.hid hmj
  rw [List.length_map, hmj] at hLv hcV1 hB
  have k101 := (state_100 (arrL_length _ _) hB).2.1
  have kst := hB.lt
  clear hB hov hovs hmj
  rw [HMJ.out] at hleft
  have hol12 : os.length ≤ 12 := by omega
  have HLF := Lib.hid hleft; clear hleft
  clear hSV
  clear hS
  by_cases hlt1 : 1 < mj
  ·
   have hlt1i : (1 : Int) < (mj : Int) := by omega
   have hH : Held wq wq [] := Held.new (Ext.refl wq) 0
   have c_k101 := hH.ext.cell k101
   have c_kst := Nat.lt_of_lt_of_le kst hH.ext.size
   go_wp2_with fail
   clear c_k101 c_kst
   refine (nextSeed_any sd hsd1 hsd2 _).mono ?_; rintro e1 w1 ⟨rfl, rfl⟩
   obtain ⟨se, hse⟩ : ∃ q, nextS sd = q := ⟨_, rfl⟩
   have hso := nextS_ok sd
   rw [hse] at hso ⊢
   have HSE := Lib.hid hse; clear hse
   have hmj12 : mj ≤ 12 := by have := HLF.out; omega
   obtain ⟨ht1, ht2, ht3⟩ := tri_half (mj : Int) (by omega) (by omega)
   obtain ⟨TR, hTR⟩ : ∃ q, (mj : Int) * ((mj : Int) - 1) = q := ⟨_, rfl⟩
   obtain ⟨TH, hTH⟩ : ∃ q, TR / 2 = q := ⟨_, rfl⟩
   rw [hTR] at ht1 ht2 ht3
   rw [hTH] at ht1 ht2
   have hq0 : 0 ≤ se / 65536 % TH := Int.emod_nonneg _ (by omega)
   have hq1 : se / 65536 % TH < TH := Int.emod_lt_of_pos _ (by omega)
   obtain ⟨q0, hq⟩ : ∃ q, se / 65536 % TH = q := ⟨_, rfl⟩
   have hmm : (mj : Int) - 1 = (mj : Int) - 1 := rfl
   have hdiv : Int.tdiv se 65536 = se / 65536 := Int.tdiv_eq_ediv_of_nonneg (by omega)
   have hdiv2 : Int.tdiv TR 2 = TH := by rw [Int.tdiv_eq_ediv_of_nonneg (by omega)]; exact hTH
   have hmod : Int.tmod (se / 65536) TH = q0 := by rw [Int.tmod_eq_emod_of_nonneg (by omega)]; exact hq
   have hTRw : wrap64 TR = TR := by simp only [wrap64]; omega
   have hTRi : IntKind.i64.wrap TR = TR := by rw [IntKind.wrap_i64]; omega
   have hTH0 : TH ≠ 0 := by omega
   rw [hq] at hq0 hq1
   have HTRI : Hid (2 * q0 < (mj : Int) * ((mj : Int) - 1)) := Lib.hid (by rw [hTR]; omega)
   have c_k101 := hH.ext.cell k101
   have c_kst := Nat.lt_of_lt_of_le kst hH.ext.size
   go_wp2_with fail
   clear c_k101 c_kst
   have hq200 : q0 ≤ 200 := by omega
   clear hdiv hdiv2 hmod hTRw hTRi hmm hTH0 hq hTR hTH ht1 ht2
   clear hq1 ht3
   go_loop [8, 9] (fun vq vi => ∃ (i : Nat) (q : Int), vi = .int .i64 (i : Int) ∧ vq = .int .i64 q ∧ 0 ≤ q ∧ q ≤ 200 ∧ i < mj ∧ Hid (2 * q < ((mj : Int) - i) * ((mj : Int) - i - 1))) (fun vq vi => mj - (RowKit.intOf vi).toNat)
   case atStart => exact ⟨0, q0, rfl, rfl, hq0, hq200, by omega, Lib.hid (by have h := HTRI.out; simpa using h)⟩
   case round =>
    clear hq0 hq200 HTRI
    obtain ⟨i, q, rfl, rfl, hq0, hq200, hi, HQ⟩ := hrel
    have hd2 : (2 : Int) ≤ (mj : Int) - i := tri_pos hq0 (by omega) HQ.out
    by_cases hge : (mj : Int) - 1 - (i : Int) ≤ q
    ·
     have HQ2 : Hid (2 * (q - ((mj : Int) - 1 - (i : Int))) < ((mj : Int) - ((i + 1 : Nat) : Int)) * ((mj : Int) - ((i + 1 : Nat) : Int) - 1)) := Lib.hid (by
      have h := tri_step HQ.out (by omega)
      rw [show (mj : Int) - ((i + 1 : Nat) : Int) = (mj : Int) - i - 1 by push_cast; omega, show (mj : Int) - 1 - (i : Int) = (mj : Int) - i - 1 by omega]; exact h)
     go_wp2_with fail
     go_round
     case rel => exact ⟨i + 1, q - ((mj : Int) - 1 - (i : Int)), by go_num, by first | rfl | go_num, by omega, by omega, by omega, HQ2⟩
     case measure => simp [RowKit.intOf]; omega
    ·
     obtain ⟨qn, rfl⟩ : ∃ z : Nat, q = (z : Int) := ⟨q.toNat, by omega⟩
     obtain ⟨y, hy⟩ : ∃ z : Nat, i + 1 + qn = z := ⟨_, rfl⟩
     have hyy : (i : Int) + 1 + (qn : Int) = (y : Int) := by omega
     have hxy : i < y := by omega
     have hym : y < mj := by omega
     clear hy
     have c_k101 := hH.ext.cell k101
     have c_kst := Nat.lt_of_lt_of_le kst hH.ext.size
     go_wp2_with fail
     clear c_k101 c_kst
     clear hyy hge hd2 hq0 hq200 HQ
     refine (contract_anyV (arrL_length _ _) _ (HOSV.out.ext hH.ext) HLL2.out HRK2.out i y (by rw [List.length_map, HMJ.out]; omega) (by rw [List.length_map, HMJ.out]; omega) HNX.out.1 HNX.out.2).mono ?_; rintro e5 w5 ⟨ea, eb, u5, rfl, hea, heb, g5, hS5⟩
     have hX5 := (hX.grow hH.ext).turnX hsw g5
     have HST := Lib.hid (HK.out.step HN.out (i := i) (j := y) (a := ea) (b := eb) hxy (by rw [← HC.out, List.getElem?_map]; exact hea) (by rw [← HC.out, List.getElem?_map]; exact heb))
     have HS5 := Lib.hid hS5
     have hol13 : os.length ≤ 11 := by have := HLF.out; omega
     clear hS5 g5 hX hH hea heb
     go_wp2_with (at_builtin; refine wpList_app _ rfl _ _ 72 rfl _ _ rfl rfl _ (run_pushSt3 _ (hX5.grow ((Ext.refl _).alloc _)) (k := 0) rfl (row_one2 _ _ _ _) (by omega)) ?_; rintro vp wp ⟨hHp, gp, sp, np⟩)
     obtain ⟨ap, cp, hvp, _, _⟩ := sp.val
     rw [List.length_append, List.length_singleton] at hvp
     have HSV := Lib.hid ((HS5.out.ext ((Ext.refl _).alloc _)).push gp np (fun z hz => (hHp.fpr (k := 0) rfl z (by simp [aSt, aR, hz])).2))
     have HHP := Lib.hid hHp
     clear hHp gp sp np hX5
     subst hvp
     go_roundw
     case rel => exact ⟨se, os ++ [(ea, eb)], drop2 cs i y ++ [((ts.length : Int) + os.length, u5)], _, _, rfl, hso.1, hso.2, HST, Lib.hid (by rw [List.map_append, ← drop2_map, HC.out]; rfl), by rw [stepN_lab, show (ts.length : Int) + ((os ++ [(ea, eb)]).length : Int) = (ts.length : Int) + os.length + 1 by rw [List.length_append, List.length_singleton]; push_cast; omega]; exact HSV.out, HHP.out⟩
     case measure => show 13 - (os.length + 1) < 13 - os.length; omega
  ·
   have HD := Lib.hid (HK.out.done (by rw [HMJ.out]; omega))
   have HX := Lib.hid hX; clear hX
   go_wp2
   go_ret2
   exact ⟨_, _, os, rfl, HX.out, HK.out.ok, HD.out⟩
set_option maxRecDepth 100000 in
set_option maxHeartbeats 4000000 in
theorem randomOrder_any {k p n : Int} (hr : ringOk k p n = true) {dm : Int → Int} {U : List Int} {ts : List (NT k p n)} {op : List Int} (hN : IsN k p n dm U ts op) (tv ov : Value) (w : World) (hT : TensS w tv (ts.map (tenOf dm))) (hO : IntS w ov op) (sd0 : Int) (hsd0 : 0 ≤ sd0 ∧ sd0 < 2147483648) :
 Calls Try.prog 72 #[.agg #[.int .i64 k, .int .i64 p, .int .i64 n, tv, ov], .int .i64 sd0] w fun e w' => ∃ u os, e = .returned u ∧ Held w w' [aSt u os] ∧ okO (numL ts.length) (ts.length : Int) os ∧ os.length = ts.length - 1 := by
 have hT0 := hT
 have hO0 := hO
 obtain ⟨m, hm⟩ : ∃ m, ts.length = m := ⟨_, rfl⟩
 obtain ⟨aV, cV, rfl, hcT1, hcT2⟩ := hT.val
 obtain ⟨aO, cO, rfl, hcO1, hcO2⟩ := hO.val
 rw [List.length_map, hm] at hT hT0 hcT1
 rw [List.length_map, hm]
 have hm12 : m ≤ 12 := by rw [← hm]; exact hN.len
 have hop12 : op.length ≤ 12 := hN.rank
 have HM := Lib.hid hm; have HR := Lib.hid hr; have HN := Lib.hid hN; have HD3 := Lib.hid hN.dims3; clear hm  hN
 have hTl : Hid ((ts.map (tenOf dm)).length = m) := Lib.hid (by rw [List.length_map]; exact HM.out)
 go_enter Try.func72, Try.ntmps72
 go_upto_region 1 with fail
 have hH : Held w w [] := Held.new (Ext.refl w) 0
 have hB : Held w (w.alloc (.cells #[.int .i64 k, .int .i64 p, .int .i64 n, .slice aV m cV, .slice aO op.length cO] 29)) [aB (w.heap.size) 29 [.int .i64 k, .int .i64 p, .int .i64 n, .slice aV m cV, .slice aO op.length cO]] := by
  have h := (hH.mores 1).addB 0 #[.int .i64 k, .int .i64 p, .int .i64 n, .slice aV m cV, .slice aO op.length cO] 29
  exact h
 have hsz : (w.alloc (.cells #[.int .i64 k, .int .i64 p, .int .i64 n, .slice aV m cV, .slice aO op.length cO] 29)).heap.size = w.heap.size + 1 := by simp
 generalize w.alloc (.cells #[.int .i64 k, .int .i64 p, .int .i64 n, .slice aV m cV, .slice aO op.length cO] 29) = wn1 at hB hsz ⊢
 replace hH := hB; have HSZwn1 := Lib.hid hsz; clear hB hsz
 have q0_0 := hH.cl 0 0 rfl rfl; have q0_1 := hH.cl 0 1 rfl rfl; have q0_2 := hH.cl 0 2 rfl rfl; have q0_3 := hH.cl 0 3 rfl rfl; have q0_4 := hH.cl 0 4 rfl rfl; have l0_ := hH.bl 0 rfl
 go_wp2_with fail
 clear q0_0 q0_1 q0_2 q0_3 q0_4 l0_
 refine (networkOk_any HR.out HN.out _ _ _ (hT0.ext hH.ext) (hO0.ext hH.ext)).mono ?_; rintro ewn2 wn2 ⟨rfl, hwn2⟩
 replace hH : Held w wn2 [aB (w.heap.size) 29 [.int .i64 k, .int .i64 p, .int .i64 n, .slice aV m cV, .slice aO op.length cO]] := hH.grow hwn2
 clear hwn2
 have q0_0 := hH.cl 0 0 rfl rfl; have q0_1 := hH.cl 0 1 rfl rfl; have q0_2 := hH.cl 0 2 rfl rfl; have q0_3 := hH.cl 0 3 rfl rfl; have q0_4 := hH.cl 0 4 rfl rfl; have l0_ := hH.bl 0 rfl
 go_wp2_with fail
 clear q0_0 q0_1 q0_2 q0_3 q0_4 l0_
 refine (startState_any HR.out HN.out _ _ _ (hT0.ext hH.ext) (hO0.ext hH.ext)).mono ?_; rintro e1 w1 ⟨s, cs0, rfl, h1, hsw1, hS0, hc0⟩
 have hNF : ∀ A ∈ [aB (w.heap.size) 29 [.int .i64 k, .int .i64 p, .int .i64 n, .slice aV m cV, .slice aO op.length cO]], s ∉ A.fp := fun A hA hc => by
  simp at hA; subst hA
  have := (hH.fpr (k := 0) rfl s hc).2
  omega
 have hsz := hH.size
 have HC0 := Lib.hid hc0
 replace hH := hH.grow h1
 clear h1 hc0
 go_wp2_with fail
 refine (randomSteps_any HR.out HN.out _ hS0 HC0.out sd0 hsd0).mono ?_; rintro e2 w2 ⟨u, sd2, os, rfl, hX, hok, hol⟩
 have HJ := Lib.hid ((hH.join hX (fun q hq => by cases hq; exact ⟨by omega, hNF⟩)).sub (L' := [aSt u os]) (.cons _ (.cons_cons _ .slnil)))
 rw [HM.out] at hok hol
 have HOK := Lib.hid (And.intro hok hol)
 clear hH hX hok hol
 go_wp2
 go_ret
 exact ⟨_, os, rfl, HJ.out, HOK.out.1, HOK.out.2⟩
end Go.Proofs.Ytpegckmagiaggaa
