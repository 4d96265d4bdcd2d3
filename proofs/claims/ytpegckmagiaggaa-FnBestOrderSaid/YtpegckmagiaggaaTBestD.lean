/- BestCost, BestOrder, CostBound of the program. -/
import Derived.Test.YtpegckmagiaggaaTBestC
set_option linter.unusedSimpArgs false
set_option linter.unusedVariables false
namespace Go.Proofs.Ytpegckmagiaggaa
open Go.RowKit
section
variable {k p n : Int}
structure LeastZ (hr : ringOk k p n = true) (dm : Int → Int) (ts : List (NT k p n)) (op : List Int) (z : Int) : Prop where
  low : ∀ os : List (Int × Int), okO (numL ts.length) (ts.length : Int) os → os.length = ts.length - 1 → z ≤ (costsT hr dm op (numL ts.length) (ts.length : Int) ts os os.length).sum
  hit : ∃ os : List (Int × Int), okO (numL ts.length) (ts.length : Int) os ∧ os.length = ts.length - 1 ∧ (costsT hr dm op (numL ts.length) (ts.length : Int) ts os os.length).sum = z
  bnd : (if ts.length < 2 then 0 else maxT dm 0 ts) ≤ z
structure OrderR (hr : ringOk k p n = true) (dm : Int → Int) (ts : List (NT k p n)) (op : List Int) (w w' : World) (u : Value) : Prop where
  has : ∃ os, Held w w' [aSt u os] ∧ okO (numL ts.length) (ts.length : Int) os ∧ os.length = ts.length - 1 ∧ ∃ z, LeastZ hr dm ts op z ∧ (costsT hr dm op (numL ts.length) (ts.length : Int) ts os os.length).sum = z
theorem LeastZ.of (hr : ringOk k p n = true) {dm : Int → Int} {U : List Int} {ts : List (NT k p n)} {op : List Int} (hN : IsN k p n dm U ts op) (hm5 : ts.length ≤ 5) {C F : List Int} {a0 : Nat} (hT : TabT (valS dm ts op) (2 ^ ts.length) C F (2 ^ ts.length) a0) : LeastZ hr dm ts op (tabL C (2 ^ ts.length - 1)) := by
  have hM : 2 ^ ts.length ≤ 32 := Nat.pow_le_pow_right (n := 2) (by decide) hm5
  have h0 : ∀ i, i < ts.length → tabL C (2 ^ i) = 0 := fun i hi => hT.single hM (Nat.pow_lt_pow_right (by decide) hi)
  have hz : tabL C 0 = 0 := (hT.new 0 (.inl rfl)).1
  have hlow := fun (os : List (Int × Int)) (hok : okO (numL ts.length) (ts.length : Int) os) (hol : os.length = ts.length - 1) => cost_ge (hr := hr) hN hT hM h0 hz hok hol
  have hhit : ∃ os : List (Int × Int), okO (numL ts.length) (ts.length : Int) os ∧ os.length = ts.length - 1 ∧ (costsT hr dm op (numL ts.length) (ts.length : Int) ts os os.length).sum = tabL C (2 ^ ts.length - 1) := by
    by_cases e : 1 ≤ ts.length
    · exact ⟨_, best_order (hr := hr) hN hT hM e rfl⟩
    · have e0 : ts.length = 0 := by omega
      refine ⟨[], by simp [okO], by simp [e0], ?_⟩
      have e1 : tabL C (2 ^ ts.length - 1) = 0 := by rw [e0]; exact hz
      rw [e1]; simp [costsT]
  refine ⟨hlow, hhit, ?_⟩
  by_cases h2 : ts.length < 2
  · rw [if_pos h2]
    obtain ⟨os, hok, hol, hc⟩ := hhit
    rw [← hc]
    exact (costs_sum (hr := hr) hok (numL_len _) hN os.length (Nat.le_refl _)).1
  · rw [if_neg h2]
    exact bound_le hN hT hM (by omega)
end
set_option maxRecDepth 100000 in
set_option maxHeartbeats 4000000 in
theorem bestCost_any {k p n : Int} (hr : ringOk k p n = true) {dm : Int → Int} {U : List Int} {ts : List (NT k p n)} {op : List Int} (hN : IsN k p n dm U ts op) (tv ov : Value) (w : World) (hT : TensS w tv (ts.map (tenOf dm))) (hO : IntS w ov op) (hm5 : ts.length ≤ 5) :
 Calls Try.prog 70 #[.agg #[.int .i64 k, .int .i64 p, .int .i64 n, tv, ov]] w fun e w' => ∃ z, e = .returned (.int .i64 z) ∧ LeastZ hr dm ts op z ∧ Ext w w' := by
 have hT0 := hT
 have hO0 := hO
 obtain ⟨m, hm⟩ : ∃ m, ts.length = m := ⟨_, rfl⟩
 obtain ⟨aV, cV, rfl, hcT1, hcT2⟩ := hT.val
 obtain ⟨aO, cO, rfl, hcO1, hcO2⟩ := hO.val
 rw [List.length_map, hm] at hT hT0 hcT1
 rw [List.length_map, hm]
 have hm12 : m ≤ 12 := by rw [← hm]; exact hN.len
 have hop12 : op.length ≤ 12 := hN.rank
 have HM := Lib.hid hm; have HR := Lib.hid hr; have HN := Lib.hid hN; have HD3 := Lib.hid hN.dims3; clear hm  hN
 have hTl : Hid ((ts.map (tenOf dm)).length = m) := Lib.hid (by rw [List.length_map]; exact HM.out)
 rw [HM.out] at hm5
 go_enter Try.func70, Try.ntmps70
 go_upto_region 1 with fail
 have hH : Held w w [] := Held.new (Ext.refl w) 0
 have hB : Held w (w.alloc (.cells #[.int .i64 k, .int .i64 p, .int .i64 n, .slice aV m cV, .slice aO op.length cO] 29)) [aB (w.heap.size) 29 [.int .i64 k, .int .i64 p, .int .i64 n, .slice aV m cV, .slice aO op.length cO]] := by
  have h := (hH.mores 1).addB 0 #[.int .i64 k, .int .i64 p, .int .i64 n, .slice aV m cV, .slice aO op.length cO] 29
  exact h
 have hsz : (w.alloc (.cells #[.int .i64 k, .int .i64 p, .int .i64 n, .slice aV m cV, .slice aO op.length cO] 29)).heap.size = w.heap.size + 1 := by simp
 generalize w.alloc (.cells #[.int .i64 k, .int .i64 p, .int .i64 n, .slice aV m cV, .slice aO op.length cO] 29) = wn1 at hB hsz ⊢
 replace hH := hB; have HSZwn1 := Lib.hid hsz; clear hB hsz
 have q0_0 := hH.cl 0 0 rfl rfl; have q0_1 := hH.cl 0 1 rfl rfl; have q0_2 := hH.cl 0 2 rfl rfl; have q0_3 := hH.cl 0 3 rfl rfl; have q0_4 := hH.cl 0 4 rfl rfl; have l0_ := hH.bl 0 rfl
 go_wp2_with fail
 clear q0_0 q0_1 q0_2 q0_3 q0_4 l0_
 refine (networkOk_any HR.out HN.out _ _ _ (hT0.ext hH.ext) (hO0.ext hH.ext)).mono ?_; rintro ewn2 wn2 ⟨rfl, hwn2⟩
 replace hH : Held w wn2 [aB (w.heap.size) 29 [.int .i64 k, .int .i64 p, .int .i64 n, .slice aV m cV, .slice aO op.length cO]] := hH.grow hwn2
 clear hwn2
 have hn7 : ¬ (7 : Int) < (m : Int) := by omega
 have q0_0 := hH.cl 0 0 rfl rfl; have q0_1 := hH.cl 0 1 rfl rfl; have q0_2 := hH.cl 0 2 rfl rfl; have q0_3 := hH.cl 0 3 rfl rfl; have q0_4 := hH.cl 0 4 rfl rfl; have l0_ := hH.bl 0 rfl
 go_wp2_with fail
 clear q0_0 q0_1 q0_2 q0_3 q0_4 l0_
 clear hn7
 refine (bestTable_any HR.out HN.out _ _ _ (hT0.ext hH.ext) (hO0.ext hH.ext) (by rw [HM.out]; exact hm5)).mono ?_; rintro e1 w1 ⟨u1, u2, rfl, hB⟩
 obtain ⟨C, F, ⟨a0, hTT⟩, hJ⟩ := hB.has
 have HTT := Lib.hid hTT; clear hTT hB
 obtain ⟨M, hM⟩ : ∃ q : Nat, 2 ^ m = q := ⟨_, rfl⟩
 have hM1 : 1 ≤ M := by rw [← hM]; exact Nat.one_le_two_pow
 have hM2 : M ≤ 32 := by rw [← hM]; exact Nat.pow_le_pow_right (n := 2) (by decide) hm5
 have HMM := Lib.hid hM; clear hM
 have HCL : Hid (C.length = M) := Lib.hid (by rw [HTT.out.lenC, HM.out, HMM.out])
 have HFL : Hid (F.length = M) := Lib.hid (by rw [HTT.out.lenF, HM.out, HMM.out])
 obtain ⟨ac, cc, rfl⟩ := (hJ.own (k := 0) rfl).shape1 M HCL.out
 obtain ⟨af, cf, rfl⟩ := (hJ.own (k := 1) rfl).shape1 M HFL.out
 have HE := Lib.hid (hH.ext.trans hJ.ext)
 obtain ⟨M1, rfl⟩ : ∃ q, M = q + 1 := ⟨M - 1, by omega⟩
 have hI := hJ.ints (k := 0) rfl
 obtain ⟨bC, oC, z, hV, hcz, hz, _⟩ := hI.get (i := M1) (by rw [HCL.out]; omega)
 cases hV
 have HZ : Hid (LeastZ HR.out dm ts op z) := Lib.hid (by
  have h := LeastZ.of HR.out HN.out (by rw [HM.out]; exact hm5) HTT.out
  have e : tabL C (2 ^ ts.length - 1) = z := by rw [HM.out, HMM.out, Nat.add_sub_cancel]; unfold tabL; rw [List.getD_eq_getElem?_getD, hz]; rfl
  rw [e] at h; exact h)
 clear hz hI hJ hH
 go_wp2
 go_ret
 exact ⟨z, rfl, HZ.out, HE.out⟩
set_option maxRecDepth 100000 in
set_option maxHeartbeats 4000000 in
theorem bestOrder_any {k p n : Int} (hr : ringOk k p n = true) {dm : Int → Int} {U : List Int} {ts : List (NT k p n)} {op : List Int} (hN : IsN k p n dm U ts op) (tv ov : Value) (w : World) (hT : TensS w tv (ts.map (tenOf dm))) (hO : IntS w ov op) (hm5 : ts.length ≤ 5) :
 Calls Try.prog 69 #[.agg #[.int .i64 k, .int .i64 p, .int .i64 n, tv, ov]] w fun e w' => ∃ u, e = .returned (.tuple #[u, .bool true]) ∧ OrderR hr dm ts op w w' u := by
 have hT0 := hT
 have hO0 := hO
 obtain ⟨m, hm⟩ : ∃ m, ts.length = m := ⟨_, rfl⟩
 obtain ⟨aV, cV, rfl, hcT1, hcT2⟩ := hT.val
 obtain ⟨aO, cO, rfl, hcO1, hcO2⟩ := hO.val
 rw [List.length_map, hm] at hT hT0 hcT1
 rw [List.length_map, hm]
 have hm12 : m ≤ 12 := by rw [← hm]; exact hN.len
 have hop12 : op.length ≤ 12 := hN.rank
 have HM := Lib.hid hm; have HR := Lib.hid hr; have HN := Lib.hid hN; have HD3 := Lib.hid hN.dims3; clear hm  hN
 have hTl : Hid ((ts.map (tenOf dm)).length = m) := Lib.hid (by rw [List.length_map]; exact HM.out)
 have hm5' := hm5
 rw [HM.out] at hm5'
 clear hm5
 have hm5 := hm5'
 clear hm5'
 go_enter Try.func69, Try.ntmps69
 go_upto_region 1 with fail
 have hH : Held w w [] := Held.new (Ext.refl w) 0
 have hB : Held w (w.alloc (.cells #[.int .i64 k, .int .i64 p, .int .i64 n, .slice aV m cV, .slice aO op.length cO] 29)) [aB (w.heap.size) 29 [.int .i64 k, .int .i64 p, .int .i64 n, .slice aV m cV, .slice aO op.length cO]] := by
  have h := (hH.mores 1).addB 0 #[.int .i64 k, .int .i64 p, .int .i64 n, .slice aV m cV, .slice aO op.length cO] 29
  exact h
 have hsz : (w.alloc (.cells #[.int .i64 k, .int .i64 p, .int .i64 n, .slice aV m cV, .slice aO op.length cO] 29)).heap.size = w.heap.size + 1 := by simp
 generalize w.alloc (.cells #[.int .i64 k, .int .i64 p, .int .i64 n, .slice aV m cV, .slice aO op.length cO] 29) = wn1 at hB hsz ⊢
 replace hH := hB; have HSZwn1 := Lib.hid hsz; clear hB hsz
 have q0_0 := hH.cl 0 0 rfl rfl; have q0_1 := hH.cl 0 1 rfl rfl; have q0_2 := hH.cl 0 2 rfl rfl; have q0_3 := hH.cl 0 3 rfl rfl; have q0_4 := hH.cl 0 4 rfl rfl; have l0_ := hH.bl 0 rfl
 go_wp2_with fail
 clear q0_0 q0_1 q0_2 q0_3 q0_4 l0_
 refine (networkOk_any HR.out HN.out _ _ _ (hT0.ext hH.ext) (hO0.ext hH.ext)).mono ?_; rintro ewn2 wn2 ⟨rfl, hwn2⟩
 replace hH : Held w wn2 [aB (w.heap.size) 29 [.int .i64 k, .int .i64 p, .int .i64 n, .slice aV m cV, .slice aO op.length cO]] := hH.grow hwn2
 clear hwn2
 have hn7 : ¬ (7 : Int) < (m : Int) := by omega
 have q0_0 := hH.cl 0 0 rfl rfl; have q0_1 := hH.cl 0 1 rfl rfl; have q0_2 := hH.cl 0 2 rfl rfl; have q0_3 := hH.cl 0 3 rfl rfl; have q0_4 := hH.cl 0 4 rfl rfl; have l0_ := hH.bl 0 rfl
 go_wp2_with fail
 clear q0_0 q0_1 q0_2 q0_3 q0_4 l0_
 clear hn7
 refine (bestTable_any HR.out HN.out _ _ _ (hT0.ext hH.ext) (hO0.ext hH.ext) (by rw [HM.out]; exact hm5)).mono ?_; rintro e1 w1 ⟨u1, u2, rfl, hB⟩
 obtain ⟨C, F, ⟨a0, hTT⟩, hJ⟩ := hB.has
 have HTT := Lib.hid hTT; clear hTT hB
 obtain ⟨M, hM⟩ : ∃ q : Nat, 2 ^ m = q := ⟨_, rfl⟩
 have hM1 : 1 ≤ M := by rw [← hM]; exact Nat.one_le_two_pow
 have hM2 : M ≤ 32 := by rw [← hM]; exact Nat.pow_le_pow_right (n := 2) (by decide) hm5
 have HMM := Lib.hid hM; clear hM
 have HCL : Hid (C.length = M) := Lib.hid (by rw [HTT.out.lenC, HM.out, HMM.out])
 have HFL : Hid (F.length = M) := Lib.hid (by rw [HTT.out.lenF, HM.out, HMM.out])
 obtain ⟨ac, cc, rfl⟩ := (hJ.own (k := 0) rfl).shape1 M HCL.out
 obtain ⟨fb, cF, hF1, hF2, _⟩ := (hJ.own (k := 1) rfl).open (by rw [HFL.out]; omega)
 rw [HFL.out] at hF2
 subst hF2
 clear hF1
 have hHJ := hH.join hJ (fun q hq => by cases hq)
 have HLZ := Lib.hid (LeastZ.of HR.out HN.out (by rw [HM.out]; exact hm5) HTT.out)
 have HFO : Hid (FirstOk F M) := Lib.hid (by have h := FirstOk.of HTT.out (by rw [HM.out, HMM.out]; exact hM2); rw [HM.out, HMM.out] at h; exact h)
 clear hJ hH
 have hH := hHJ; clear hHJ
 replace hH : Held w w1 [aB (w.heap.size) 29 [.int .i64 k, .int .i64 p, .int .i64 n, .slice aV m cV, .slice aO op.length cO], aI (.slice ac M cc) C, aI (.slice (some ⟨fb, 0, none⟩) M cF) F] := hH
 have q0_0 := hH.cl 0 0 rfl rfl; have q0_1 := hH.cl 0 1 rfl rfl; have q0_2 := hH.cl 0 2 rfl rfl; have q0_3 := hH.cl 0 3 rfl rfl; have q0_4 := hH.cl 0 4 rfl rfl; have l0_ := hH.bl 0 rfl
 go_upto_region 5 with fail
 clear q0_0 q0_1 q0_2 q0_3 q0_4 l0_
 have hB : Held w (w1.alloc (.cells #[.slice none 0 0] 72)) [aB (w.heap.size) 29 [.int .i64 k, .int .i64 p, .int .i64 n, .slice aV m cV, .slice aO op.length cO], aI (.slice ac M cc) C, aI (.slice (some ⟨fb, 0, none⟩) M cF) F, aB (w1.heap.size) 72 [.slice none 0 0]] := by
  have h := (hH.mores 1).addB 3 #[.slice none 0 0] 72
  exact h
 have hsz : (w1.alloc (.cells #[.slice none 0 0] 72)).heap.size = w1.heap.size + 1 := by simp
 generalize w1.alloc (.cells #[.slice none 0 0] 72) = wn3 at hB hsz ⊢
 replace hH := hB; have HSZwn3 := Lib.hid hsz; clear hB hsz
 replace hH := hH.nilR 138 2
 replace hH : Held w wn3 [aB (w.heap.size) 29 [.int .i64 k, .int .i64 p, .int .i64 n, .slice aV m cV, .slice aO op.length cO], aI (.slice ac M cc) C, aI (.slice (some ⟨fb, 0, none⟩) M cF) F, aB (w1.heap.size) 72 [.slice none 0 0], aSt (.slice none 0 0) []] := hH
 obtain ⟨wz, rfl⟩ : ∃ q, q = wn3 := ⟨wn3, rfl⟩
 by_cases hm0 : 0 < m
 ·
  have hm0i : (0 : Int) < (m : Int) := by omega
  obtain ⟨M1, rfl⟩ : ∃ q, M = q + 1 := ⟨M - 1, by omega⟩
  have q0_0 := hH.cl 0 0 rfl rfl; have q0_1 := hH.cl 0 1 rfl rfl; have q0_2 := hH.cl 0 2 rfl rfl; have q0_3 := hH.cl 0 3 rfl rfl; have q0_4 := hH.cl 0 4 rfl rfl; have l0_ := hH.bl 0 rfl; have q3_0 := hH.cl 3 0 rfl rfl; have l3_ := hH.bl 3 rfl
  go_wp2_with fail
  clear q0_0 q0_1 q0_2 q0_3 q0_4 l0_ q3_0 l3_
  have hM1p : 1 ≤ M1 := by
   have h : 2 ^ 1 ≤ 2 ^ m := Nat.pow_le_pow_right (by decide) hm0
   rw [HMM.out] at h; omega
  have hH3 := ((hH.sub (L' := [aI (.slice (some ⟨fb, 0, none⟩) (M1 + 1) cF) F, aB (w1.heap.size) 72 [.slice none 0 0], aSt (.slice none 0 0) []]) (.cons _ (.cons _ (.cons_cons _ (.cons_cons _ (.cons_cons _ .slnil)))))).perm (L' := [aB (w1.heap.size) 72 [.slice none 0 0], aSt (.slice none 0 0) [], aI (.slice (some ⟨fb, 0, none⟩) (M1 + 1) cF) F]) (List.perm_append_singleton _ [aB (w1.heap.size) 72 [.slice none 0 0], aSt (.slice none 0 0) []]))
  refine (bestSteps_any HFO.out m hm12 fb cF (w1.heap.size) w M1 M1 _ (.slice none 0 0) [] hM1p (by omega) (Nat.le_refl _) (by simp; omega) hH3).mono ?_; rintro e2 w2 ⟨rfl, v2, hH4⟩
  obtain ⟨os, hos⟩ : ∃ q, (bestG F m M1 M1 0).1 = q := ⟨_, rfl⟩
  rw [List.nil_append, List.length_nil, hos] at hH4
  have HBO := Lib.hid (best_order (hr := HR.out) HN.out HTT.out (by rw [HM.out, HMM.out]; exact hM2) (by rw [HM.out]; exact hm0) (os := os) (by rw [HM.out, HMM.out, Nat.add_sub_cancel]; exact hos))
  have zB := hH4.blk (k := 0) rfl
  have z0 := zB.cell (j := 0) rfl
  have zl := zB.lt
  clear zB hos hH3 hH
  obtain ⟨a2, c2, rfl, _, _⟩ := (hH4.steps (k := 1) rfl).val
  have HH := Lib.hid (hH4.sub (L' := [aSt (.slice a2 os.length c2) os]) (.cons _ (.cons_cons _ (.cons _ .slnil))))
  clear hH4
  go_wp2
  go_ret2
  exact ⟨_, rfl, ⟨os, HH.out, HBO.out.1, HBO.out.2.1, _, HLZ.out, HBO.out.2.2⟩⟩
 ·
  have hm00 : m = 0 := by omega
  subst hm00
  have zB := hH.blk (k := 3) rfl
  have z0 := zB.cell (j := 0) rfl
  have zl := zB.lt
  have h000 : ¬ (0 : Int) < ((0 : Nat) : Int) := by decide
  clear zB
  have HH := Lib.hid (hH.sub (L' := [aSt (.slice none 0 0) []]) (.cons _ (.cons _ (.cons _ (.cons _ (.cons_cons _ .slnil))))))
  have q0_0 := hH.cl 0 0 rfl rfl; have q0_1 := hH.cl 0 1 rfl rfl; have q0_2 := hH.cl 0 2 rfl rfl; have q0_3 := hH.cl 0 3 rfl rfl; have q0_4 := hH.cl 0 4 rfl rfl; have l0_ := hH.bl 0 rfl; have q3_0 := hH.cl 3 0 rfl rfl; have l3_ := hH.bl 3 rfl
  clear hH
  go_wp2
  go_ret2
  exact ⟨_, rfl, ⟨[], HH.out, by simp [okO], by rw [HM.out]; rfl, _, HLZ.out, by
   have e : tabL C (2 ^ ts.length - 1) = 0 := by rw [HM.out]; exact (HTT.out.new 0 (.inl rfl)).1
   rw [e]; simp [costsT]⟩⟩
set_option maxRecDepth 100000 in
set_option maxHeartbeats 4000000 in
theorem costBound_any {k p n : Int} (hr : ringOk k p n = true) {dm : Int → Int} {U : List Int} {ts : List (NT k p n)} {op : List Int} (hN : IsN k p n dm U ts op) (tv ov : Value) (w : World) (hT : TensS w tv (ts.map (tenOf dm))) (hO : IntS w ov op) :
 Calls Try.prog 75 #[.agg #[.int .i64 k, .int .i64 p, .int .i64 n, tv, ov]] w fun e w' => e = .returned (.int .i64 (if ts.length < 2 then 0 else maxT dm 0 ts)) ∧ Ext w w' := by
 have hT0 := hT
 have hO0 := hO
 obtain ⟨m, hm⟩ : ∃ m, ts.length = m := ⟨_, rfl⟩
 obtain ⟨aV, cV, rfl, hcT1, hcT2⟩ := hT.val
 obtain ⟨aO, cO, rfl, hcO1, hcO2⟩ := hO.val
 rw [List.length_map, hm] at hT hT0 hcT1
 rw [List.length_map, hm]
 have hm12 : m ≤ 12 := by rw [← hm]; exact hN.len
 have hop12 : op.length ≤ 12 := hN.rank
 have HM := Lib.hid hm; have HR := Lib.hid hr; have HN := Lib.hid hN; have HD3 := Lib.hid hN.dims3; clear hm  hN
 have hTl : Hid ((ts.map (tenOf dm)).length = m) := Lib.hid (by rw [List.length_map]; exact HM.out)
 go_enter Try.func75, Try.ntmps75
 go_upto_region 1 with fail
 have hH : Held w w [] := Held.new (Ext.refl w) 0
 have hB : Held w (w.alloc (.cells #[.int .i64 k, .int .i64 p, .int .i64 n, .slice aV m cV, .slice aO op.length cO] 29)) [aB (w.heap.size) 29 [.int .i64 k, .int .i64 p, .int .i64 n, .slice aV m cV, .slice aO op.length cO]] := by
  have h := (hH.mores 1).addB 0 #[.int .i64 k, .int .i64 p, .int .i64 n, .slice aV m cV, .slice aO op.length cO] 29
  exact h
 have hsz : (w.alloc (.cells #[.int .i64 k, .int .i64 p, .int .i64 n, .slice aV m cV, .slice aO op.length cO] 29)).heap.size = w.heap.size + 1 := by simp
 generalize w.alloc (.cells #[.int .i64 k, .int .i64 p, .int .i64 n, .slice aV m cV, .slice aO op.length cO] 29) = wn1 at hB hsz ⊢
 replace hH := hB; have HSZwn1 := Lib.hid hsz; clear hB hsz
 have hmx : Hid (∀ q, 0 ≤ maxT dm 0 (ts.take q) ∧ maxT dm 0 (ts.take q) ≤ 4096) := Lib.hid fun q => ⟨(maxT_ge _ _).1, maxT_le _ _ _ (by omega) fun t ht => (szL_pos HN.out.uni (HN.out.ten t (List.mem_of_mem_take ht)).sub).2⟩
 have q0_0 := hH.cl 0 0 rfl rfl; have q0_1 := hH.cl 0 1 rfl rfl; have q0_2 := hH.cl 0 2 rfl rfl; have q0_3 := hH.cl 0 3 rfl rfl; have q0_4 := hH.cl 0 4 rfl rfl; have l0_ := hH.bl 0 rfl
 go_wp2_with fail
 clear q0_0 q0_1 q0_2 q0_3 q0_4 l0_
 refine (networkOk_any HR.out HN.out _ _ _ (hT0.ext hH.ext) (hO0.ext hH.ext)).mono ?_; rintro ewn2 wn2 ⟨rfl, hwn2⟩
 replace hH : Held w wn2 [aB (w.heap.size) 29 [.int .i64 k, .int .i64 p, .int .i64 n, .slice aV m cV, .slice aO op.length cO]] := hH.grow hwn2
 clear hwn2
 by_cases hm2 : m < 2
 ·
  have hm2i : (m : Int) < 2 := by omega
  have HE := Lib.hid hH.ext
  have q0_0 := hH.cl 0 0 rfl rfl; have q0_1 := hH.cl 0 1 rfl rfl; have q0_2 := hH.cl 0 2 rfl rfl; have q0_3 := hH.cl 0 3 rfl rfl; have q0_4 := hH.cl 0 4 rfl rfl; have l0_ := hH.bl 0 rfl
  clear hH
  go_wp2
  go_ret
  exact ⟨rfl, HE.out⟩
 ·
  have hm2i : ¬ (m : Int) < 2 := by omega
  have q0_0 := hH.cl 0 0 rfl rfl; have q0_1 := hH.cl 0 1 rfl rfl; have q0_2 := hH.cl 0 2 rfl rfl; have q0_3 := hH.cl 0 3 rfl rfl; have q0_4 := hH.cl 0 4 rfl rfl; have l0_ := hH.bl 0 rfl
  go_wp2_with fail
  clear q0_0 q0_1 q0_2 q0_3 q0_4 l0_
  go_loopw [3, 16] (fun vb i wr => ∃ (j : Nat) (z : Int), j ≤ m ∧ i = .int .i64 (j : Int) ∧ vb = .int .i64 z ∧ Hid (maxT dm 0 (ts.take j) = z) ∧ Held w wr [aB (w.heap.size) 29 [.int .i64 k, .int .i64 p, .int .i64 n, .slice aV m cV, .slice aO op.length cO]]) (fun vb i wr => m - (RowKit.intOf i).toNat)
  case atStart => exact ⟨0, 0, Nat.zero_le _, rfl, rfl, Lib.hid rfl, hH⟩
  case round =>
   clear hH
   obtain ⟨j, z, hj, rfl, rfl, HZ, hH⟩ := hrel
   obtain ⟨wq, rfl⟩ : ∃ q, q = wr := ⟨wr, rfl⟩
   by_cases hlt : j < m
   ·
    obtain ⟨bT, oT, u1, u2, u3, t3, hV, hu0, hu1, hu2, ht3, hTu⟩ := hT.get (i := j) (by rw [hTl.out]; exact hlt)
    subst hV
    obtain ⟨t, htj, rfl⟩ : ∃ t, ts[j]? = some t ∧ tenOf dm t = t3 := by rw [List.getElem?_map] at ht3; exact Option.map_eq_some_iff.1 ht3
    have HTJ := Lib.hid htj; have HTI := Lib.hid (HN.out.ten t (List.mem_of_getElem? htj)); clear ht3 htj
    obtain ⟨tl, xs⟩ := t
    obtain ⟨e1, m1, f1, e2, m2, f2, e3, m3, f3, hvv⟩ := hTu.shape
    simp at hvv
    obtain ⟨rfl, rfl, rfl⟩ := hvv
    rw [Nat.mul_comm 3 j] at hu0 hu1 hu2
    obtain ⟨_, _, _, hvv, hTL, hTD, hTX⟩ := hTu.val
    simp at hvv
    obtain ⟨rfl, rfl, rfl⟩ := hvv
    simp only [tenOf] at hTu hTL hTD hTX HTI
    obtain ⟨_, _, hvv, _, _⟩ := hTL.val
    simp at hvv
    obtain ⟨rfl, rfl, rfl⟩ := hvv
    obtain ⟨_, _, hvv, _, _⟩ := hTD.val
    simp at hvv
    obtain ⟨rfl, rfl, rfl⟩ := hvv
    have aX := Lib.hid HTI.out.ax
    have HST : Hid (maxT dm 0 (ts.take (j + 1)) = max z (prodL (tl.map dm))) := Lib.hid (by rw [maxT_take HTJ.out, HZ.out]; rfl)
    obtain ⟨PD, hPD⟩ : ∃ q, prodL (tl.map dm) = q := ⟨_, rfl⟩
    rw [hPD] at HST
    have HPD := Lib.hid hPD; clear hPD
    have q0_0 := hH.cl 0 0 rfl rfl; have q0_1 := hH.cl 0 1 rfl rfl; have q0_2 := hH.cl 0 2 rfl rfl; have q0_3 := hH.cl 0 3 rfl rfl; have q0_4 := hH.cl 0 4 rfl rfl; have l0_ := hH.bl 0 rfl; have c_hu0 := hH.ext.cell hu0; have c_hu1 := hH.ext.cell hu1; have c_hu2 := hH.ext.cell hu2
    go_upto_region 9 with fail
    clear q0_0 q0_1 q0_2 q0_3 q0_4 l0_ c_hu0 c_hu1 c_hu2
    have hB : Held w (wq.alloc (.cells #[.slice e1 tl.length f1, .slice e2 tl.length f2, .slice e3 m3 f3] 32)) [aB (w.heap.size) 29 [.int .i64 k, .int .i64 p, .int .i64 n, .slice (some ⟨bT, oT, none⟩) m cV, .slice aO op.length cO], aB (wq.heap.size) 32 [.slice e1 tl.length f1, .slice e2 tl.length f2, .slice e3 m3 f3]] := by
     have h := (hH.mores 1).addB 1 #[.slice e1 tl.length f1, .slice e2 tl.length f2, .slice e3 m3 f3] 32
     exact h
    have hsz : (wq.alloc (.cells #[.slice e1 tl.length f1, .slice e2 tl.length f2, .slice e3 m3 f3] 32)).heap.size = wq.heap.size + 1 := by simp
    generalize wq.alloc (.cells #[.slice e1 tl.length f1, .slice e2 tl.length f2, .slice e3 m3 f3] 32) = wn3 at hB hsz ⊢
    replace hH := hB; have HSZwn3 := Lib.hid hsz; clear hB hsz
    have q0_0 := hH.cl 0 0 rfl rfl; have q0_1 := hH.cl 0 1 rfl rfl; have q0_2 := hH.cl 0 2 rfl rfl; have q0_3 := hH.cl 0 3 rfl rfl; have q0_4 := hH.cl 0 4 rfl rfl; have l0_ := hH.bl 0 rfl; have q1_0 := hH.cl 1 0 rfl rfl; have q1_1 := hH.cl 1 1 rfl rfl; have q1_2 := hH.cl 1 2 rfl rfl; have l1_ := hH.bl 1 rfl; have c_hu0 := hH.ext.cell hu0; have c_hu1 := hH.ext.cell hu1; have c_hu2 := hH.ext.cell hu2
    go_wp2_with fail
    clear q0_0 q0_1 q0_2 q0_3 q0_4 l0_ q1_0 q1_1 q1_2 l1_ c_hu0 c_hu1 c_hu2
    refine (productOf_any _ (tl.map dm) _ (hTD.ext hH.ext) aX.out.dims aX.out.size).mono ?_; rintro e5 w5 ⟨rfl, rfl⟩
    rw [HPD.out]
    by_cases hlt2 : z < PD
    ·
     go_wp2_with fail
     go_roundw
     case rel => exact ⟨j + 1, PD, by omega, by go_num, rfl, Lib.hid (by rw [HST.out]; omega), hH.sub (.cons_cons _ (.cons _ .slnil))⟩
     case measure => simp [RowKit.intOf]; omega
    ·
     go_wp2_with fail
     go_roundw
     case rel => exact ⟨j + 1, z, by omega, by go_num, rfl, Lib.hid (by rw [HST.out]; omega), hH.sub (.cons_cons _ (.cons _ .slnil))⟩
     case measure => simp [RowKit.intOf]; omega
   ·
    have hje : j = m := by omega
    have HZZ : Hid (maxT dm 0 ts = z) := Lib.hid (by have h := HZ.out; rw [List.take_of_length_le (by rw [HM.out]; omega)] at h; exact h)
    have hzb : z ≤ 4096 := by have h := (hmx.out j).2; rw [HZ.out] at h; exact h
    have hzn : ¬ (1000000000 : Int) < z := by omega
    have HE := Lib.hid hH.ext; clear hH hje
    go_wp2
    go_ret
    exact ⟨by rw [HZZ.out]; rfl, HE.out⟩
end Go.Proofs.Ytpegckmagiaggaa
