/- OrderOk of the program, of a valid order. -/
import Derived.Test.YtpegckmagiaggaaTG17
set_option linter.unusedSimpArgs false
set_option linter.unusedVariables false
namespace Go.Proofs.Ytpegckmagiaggaa
open Go.RowKit
set_option maxRecDepth 100000 in
set_option maxHeartbeats 400000 in
theorem orderOk_any {k p n : Int} (hr : ringOk k p n = true) {dm : Int → Int} {U : List Int} {ts : List (NT k p n)} {op : List Int} (hN : IsN k p n dm U ts op) (tv ov : Value) (w : World) (hT : TensS w tv (ts.map (tenOf dm))) (hO : IntS w ov op) {os : List (Int × Int)} (hok : okO (numL ts.length) (ts.length : Int) os) (hol : os.length = ts.length - 1) (vo : Value) (hVo : StepsS w vo os) :
 Calls Try.prog 53 #[.agg #[.int .i64 k, .int .i64 p, .int .i64 n, tv, ov], vo] w fun e w' => e = .returned (.bool true) ∧ Ext w w' := by
 have hT0 := hT
 have hO0 := hO
 obtain ⟨m, hm⟩ : ∃ m, ts.length = m := ⟨_, rfl⟩
 obtain ⟨aV, cV, rfl, hcT1, hcT2⟩ := hT.val
 obtain ⟨aO, cO, rfl, hcO1, hcO2⟩ := hO.val
 rw [List.length_map, hm] at hT hT0 hcT1
 rw [List.length_map, hm]
 have hm12 : m ≤ 12 := by rw [← hm]; exact hN.len
 have hop12 : op.length ≤ 12 := hN.rank
 have HM := Lib.hid hm; have HR := Lib.hid hr; have HN := Lib.hid hN; have HD3 := Lib.hid hN.dims3; clear hm  hN
 have hTl : Hid ((ts.map (tenOf dm)).length = m) := Lib.hid (by rw [List.length_map]; exact HM.out)
 have hm2 := HM
 obtain ⟨aQ, cQ, rfl, hcq1, hcq2⟩ := hVo.val
 have HOK := Lib.hid hok; have HOL := Lib.hid hol
 have hol2 : os.length ≤ m := by rw [← hm2.out]; omega
 clear hok hol
 go_enter Try.func53, Try.ntmps53
 go_upto_region 1 with fail
 have hH : Held w w [] := Held.new (Ext.refl w) 0
 have hB : Held w (w.alloc (.cells #[.int .i64 k, .int .i64 p, .int .i64 n, .slice aV m cV, .slice aO op.length cO] 29)) [aB (w.heap.size) 29 [.int .i64 k, .int .i64 p, .int .i64 n, .slice aV m cV, .slice aO op.length cO]] := by
  have h := (hH.mores 1).addB 0 #[.int .i64 k, .int .i64 p, .int .i64 n, .slice aV m cV, .slice aO op.length cO] 29
  exact h
 have hsz : (w.alloc (.cells #[.int .i64 k, .int .i64 p, .int .i64 n, .slice aV m cV, .slice aO op.length cO] 29)).heap.size = w.heap.size + 1 := by simp
 generalize w.alloc (.cells #[.int .i64 k, .int .i64 p, .int .i64 n, .slice aV m cV, .slice aO op.length cO] 29) = wn1 at hB hsz ⊢
 replace hH := hB; have HSZwn1 := Lib.hid hsz; clear hB hsz
 rcases Nat.eq_zero_or_pos m with hz | hz
 ·
  have hneg : (m : Int) - 1 < 0 := by omega
  have hcmp : ((os.length : Int) != 0) = false := by have := HM.out; have := HOL.out; rw [bne_eq_false_iff_eq]; omega
  have HOZ : Hid (os.length = 0) := Lib.hid (by have := HM.out; have := HOL.out; omega)
  clear hz
  have q0_0 := hH.cl 0 0 rfl rfl; have q0_1 := hH.cl 0 1 rfl rfl; have q0_2 := hH.cl 0 2 rfl rfl; have q0_3 := hH.cl 0 3 rfl rfl; have q0_4 := hH.cl 0 4 rfl rfl; have l0_ := hH.bl 0 rfl
  go_wp2_with fail
  clear q0_0 q0_1 q0_2 q0_3 q0_4 l0_
  refine (networkOk_any HR.out HN.out _ _ _ (hT0.ext hH.ext) (hO0.ext hH.ext)).mono ?_; rintro e0 w0 ⟨rfl, h0⟩
  replace hH := hH.grow h0
  have q0_0 := hH.cl 0 0 rfl rfl; have q0_1 := hH.cl 0 1 rfl rfl; have q0_2 := hH.cl 0 2 rfl rfl; have q0_3 := hH.cl 0 3 rfl rfl; have q0_4 := hH.cl 0 4 rfl rfl; have l0_ := hH.bl 0 rfl
  go_wp2_with fail
  clear q0_0 q0_1 q0_2 q0_3 q0_4 l0_
  refine (startState_any HR.out HN.out _ _ _ (hT0.ext hH.ext) (hO0.ext hH.ext)).mono ?_; rintro e1 w1 ⟨s, cs0, rfl, h1, hsw1, hS0, hc0⟩
  have hE0 := hH.ext.trans h1
  have hsw : w.heap.size ≤ s := Nat.le_trans hH.ext.size hsw1
  have HC0 := Lib.hid hc0
  clear h1 hsw1 hc0
  clear hH
  go_wp2_with fail
  go_loopw [25] (fun i wr => ∃ (j : Nat) (cs : List (Int × Value)) (ns : List Int) (tj : List (NT k p n)), j ≤ os.length ∧ i = .int .i64 (j : Int) ∧ Hid (AtStep hr dm U op (numL ts.length) (ts.length : Int) ts os j ns tj) ∧ Hid (cs.map (·.1) = ns) ∧ OrdS wr s (arrL dm (occ ts)) op cs (tj.map (·.1)) ((ts.length : Int) + j) ∧ Ext w wr) (fun i wr => os.length - (RowKit.intOf i).toNat)
  case atStart => exact ⟨0, cs0, numL ts.length, ts, Nat.zero_le _, rfl, Lib.hid (AtStep.mk' HOK.out (numL_len _) HN.out 0 (Nat.zero_le _)), HC0, by rw [show (ts.length : Int) + ((0 : Nat) : Int) = (ts.length : Int) by simp]; exact hS0, hE0⟩
  case round =>
   clear hE0 hS0 HC0
   obtain ⟨j, cs, ns, tj, hj, rfl, HA, HC, hS, hE⟩ := hrel
   by_cases hlt : j < os.length
   ·
    exact absurd hlt (by rw [HOZ.out]; omega)
   ·
    have hje : j = os.length := by omega
    subst hje
    have HE := Lib.hid hE; clear hE hS
    go_wp2
    go_ret
    exact ⟨rfl, HE.out⟩
 ·
  have hneg : ¬ ((m : Int) - 1 < 0) := by omega
  have hcmp : ((os.length : Int) != (m : Int) - 1) = false := by have := HM.out; have := HOL.out; rw [bne_eq_false_iff_eq]; omega
  clear hz
  have q0_0 := hH.cl 0 0 rfl rfl; have q0_1 := hH.cl 0 1 rfl rfl; have q0_2 := hH.cl 0 2 rfl rfl; have q0_3 := hH.cl 0 3 rfl rfl; have q0_4 := hH.cl 0 4 rfl rfl; have l0_ := hH.bl 0 rfl
  go_wp2_with fail
  clear q0_0 q0_1 q0_2 q0_3 q0_4 l0_
  refine (networkOk_any HR.out HN.out _ _ _ (hT0.ext hH.ext) (hO0.ext hH.ext)).mono ?_; rintro e0 w0 ⟨rfl, h0⟩
  replace hH := hH.grow h0
  have q0_0 := hH.cl 0 0 rfl rfl; have q0_1 := hH.cl 0 1 rfl rfl; have q0_2 := hH.cl 0 2 rfl rfl; have q0_3 := hH.cl 0 3 rfl rfl; have q0_4 := hH.cl 0 4 rfl rfl; have l0_ := hH.bl 0 rfl
  go_wp2_with fail
  clear q0_0 q0_1 q0_2 q0_3 q0_4 l0_
  refine (startState_any HR.out HN.out _ _ _ (hT0.ext hH.ext) (hO0.ext hH.ext)).mono ?_; rintro e1 w1 ⟨s, cs0, rfl, h1, hsw1, hS0, hc0⟩
  have hE0 := hH.ext.trans h1
  have hsw : w.heap.size ≤ s := Nat.le_trans hH.ext.size hsw1
  have HC0 := Lib.hid hc0
  clear h1 hsw1 hc0
  clear hH
  go_wp2_with fail
  go_loopw [25] (fun i wr => ∃ (j : Nat) (cs : List (Int × Value)) (ns : List Int) (tj : List (NT k p n)), j ≤ os.length ∧ i = .int .i64 (j : Int) ∧ Hid (AtStep hr dm U op (numL ts.length) (ts.length : Int) ts os j ns tj) ∧ Hid (cs.map (·.1) = ns) ∧ OrdS wr s (arrL dm (occ ts)) op cs (tj.map (·.1)) ((ts.length : Int) + j) ∧ Ext w wr) (fun i wr => os.length - (RowKit.intOf i).toNat)
  case atStart => exact ⟨0, cs0, numL ts.length, ts, Nat.zero_le _, rfl, Lib.hid (AtStep.mk' HOK.out (numL_len _) HN.out 0 (Nat.zero_le _)), HC0, by rw [show (ts.length : Int) + ((0 : Nat) : Int) = (ts.length : Int) by simp]; exact hS0, hE0⟩
  case round =>
   clear hE0 hS0 HC0
   obtain ⟨j, cs, ns, tj, hj, rfl, HA, HC, hS, hE⟩ := hrel
   by_cases hlt : j < os.length
   ·
    obtain ⟨bS, oS, ea, eb, haq, hos, hs0, hs1⟩ := hVo.get hlt
    subst haq
    replace hs0 := hE.cell hs0; replace hs1 := hE.cell hs1
    obtain ⟨hA2, hma, hmb, hab⟩ := HA.out.next HOK.out (numL_len _) HN.out hos
    simp only at hma hmb hab
    rw [← HC.out] at hma hmb
    have hleft := HA.out.left
    rw [HM.out] at hleft
    have hll : (tj.map (·.1)).length ≤ 1000 := by rw [List.length_map]; omega
    have hrk : ∀ l ∈ tj.map (·.1), l.length ≤ 500 := fun l hl => Nat.le_trans (HA.out.rank l hl) (by omega)
    have hnx0 : (0 : Int) ≤ (ts.length : Int) + j := by omega
    have hnx1 : (ts.length : Int) + j ≤ 2000 := by rw [HM.out]; omega
    have HRK2 := Lib.hid hrk; have HA2 := Lib.hid hA2; have HOS2 := Lib.hid hos; have HMA := Lib.hid hma; have HMB := Lib.hid hmb; have HNX := Lib.hid (And.intro hnx0 hnx1); have HLL2 := Lib.hid hll
    clear hrk hA2 hos hma hmb hnx0 hnx1 hleft hll
    have hH : Held wr wr [] := Held.new (Ext.refl wr) 0
    have c_hs0 := hH.ext.cell hs0; have c_hs1 := hH.ext.cell hs1
    go_upto_region 7 with fail
    clear c_hs0 c_hs1
    have hB : Held wr (wr.alloc (.cells #[.int .i64 ea, .int .i64 eb] 138)) [aB (wr.heap.size) 138 [.int .i64 ea, .int .i64 eb]] := by
     have h := (hH.mores 1).addB 0 #[.int .i64 ea, .int .i64 eb] 138
     exact h
    have hsz : (wr.alloc (.cells #[.int .i64 ea, .int .i64 eb] 138)).heap.size = wr.heap.size + 1 := by simp
    generalize wr.alloc (.cells #[.int .i64 ea, .int .i64 eb] 138) = wn2 at hB hsz ⊢
    replace hH := hB; have HSZwn2 := Lib.hid hsz; clear hB hsz
    have q0_0 := hH.cl 0 0 rfl rfl; have q0_1 := hH.cl 0 1 rfl rfl; have l0_ := hH.bl 0 rfl; have c_hs0 := hH.ext.cell hs0; have c_hs1 := hH.ext.cell hs1
    go_wp2_with fail
    clear q0_0 q0_1 l0_ c_hs0 c_hs1
    refine (follow_any (arrL_length _ _) _ (hS.ext hH.ext) HLL2.out HRK2.out HNX.out.1 HNX.out.2 ea eb HMA.out HMB.out hab).mono ?_; rintro e5 w5 ⟨cs5, rfl, g5, hS5, hc5⟩
    have hE5 : Ext w w5 := (hE.trans hH.ext).only g5 (fun q hq => by cases hq; exact hsw)
    have HC5 := Lib.hid (show cs5.map (·.1) = numStep ns ((ts.length : Int) + j) (ea, eb) by rw [← HC.out]; exact hc5)
    replace hS5 : OrdS w5 s (arrL dm (occ ts)) op cs5 ((tenStep hr dm op ns tj (ea, eb)).map (·.1)) ((ts.length : Int) + ((j + 1 : Nat) : Int)) := by
     rw [tenStep_lab, ← HC.out, show (ts.length : Int) + ((j + 1 : Nat) : Int) = (ts.length : Int) + j + 1 by push_cast; omega]; exact hS5
    have HS5 := Lib.hid hS5; have HE5 := Lib.hid hE5
    clear hH hS5 hE5 g5 hc5
    go_wp2_with fail
    go_roundw
    case rel => exact ⟨j + 1, cs5, _, _, by omega, by go_num, HA2, HC5, HS5.out, HE5.out⟩
    case measure => simp [RowKit.intOf]; omega
   ·
    have hje : j = os.length := by omega
    subst hje
    have HE := Lib.hid hE; clear hE hS
    go_wp2
    go_ret
    exact ⟨rfl, HE.out⟩
end Go.Proofs.Ytpegckmagiaggaa
