/- RelabelNetwork of the program. -/
import Derived.Test.YtpegckmagiaggaaJG18
set_option linter.unusedSimpArgs false
set_option linter.unusedVariables false
namespace Go.Proofs.Ytpegckmagiaggaa
open Go.RowKit
set_option maxRecDepth 100000 in
set_option maxHeartbeats 8000000 in
theorem relabelNetwork_any {k p n : Int} (hr : ringOk k p n = true) {dm : Int → Int} {U : List Int} {ts : List (NT k p n)} {op : List Int} (hN : IsN k p n dm U ts op) (tv ov : Value) (w : World) (hT : TensS w tv (ts.map (tenOf dm))) (hO : IntS w ov op) {dm2 : Int → Int} {U2 F G : List Int} (hFG : F.length = G.length) (hg : Ren (renL F G) dm dm2 U U2) (vF vG : Value) (hF : IntS w vF F) (hG : IntS w vG G) :
 Calls Try.prog 43 #[.agg #[.int .i64 k, .int .i64 p, .int .i64 n, tv, ov], vF, vG] w fun e w' => ∃ tv' ov' cs, e = .returned (.tuple #[.agg #[.int .i64 k, .int .i64 p, .int .i64 n, tv', ov'], .bool true]) ∧
  Held w w' [aTs tv' cs ((renN (renL F G) ts).map (tenOf dm2)), aI ov' (op.map (renL F G))] := by
 have hT0 := hT
 have hO0 := hO
 obtain ⟨m, hm⟩ : ∃ m, ts.length = m := ⟨_, rfl⟩
 obtain ⟨aV, cV, rfl, hcT1, hcT2⟩ := hT.val
 obtain ⟨aO, cO, rfl, hcO1, hcO2⟩ := hO.val
 rw [List.length_map, hm] at hT hT0 hcT1
 rw [List.length_map, hm]
 have hm12 : m ≤ 12 := by rw [← hm]; exact hN.len
 have hop12 : op.length ≤ 12 := hN.rank
 have HM := Lib.hid hm; have HR := Lib.hid hr; have HN := Lib.hid hN; have HD3 := Lib.hid hN.dims3; clear hm  hN
 have hTl : Hid ((ts.map (tenOf dm)).length = m) := Lib.hid (by rw [List.length_map]; exact HM.out)
 obtain ⟨aF, cF, rfl, _, _⟩ := hF.val
 obtain ⟨aG, cG, rfl, _, _⟩ := hG.val
 obtain ⟨nf, hnf⟩ : ∃ q, F.length = q := ⟨_, rfl⟩
 have hng : G.length = nf := by rw [← hFG]; exact hnf
 rw [hnf] at hF ⊢
 rw [hng] at hG ⊢
 have HFG := Lib.hid hFG
 obtain ⟨f, hf⟩ : ∃ f, renL F G = f := ⟨_, rfl⟩
 rw [hf] at hg ⊢
 have HFE : Hid (∀ x, renL F G x = f x) := Lib.hid fun x => by rw [hf]
 have HG := Lib.hid hg
 clear hFG hnf hng hf hg
 obtain ⟨AL, hAL⟩ : ∃ q, ascL (occ ts) = q := ⟨_, rfl⟩
 have HAM : Hid (∀ x ∈ AL, x ∈ U) := Lib.hid fun x hx => by rw [← hAL] at hx; exact HN.out.occU (mem_ascL.1 hx).2
 have HALN : Hid AL.Nodup := Lib.hid (by rw [← hAL]; exact ascL_nodup _)
 have hal12 : AL.length ≤ 12 := by rw [← hAL]; exact (HN.out.uni.ax HN.out.ascSub).rank
 have HAL := Lib.hid hAL; clear hAL
 obtain ⟨TS3, hTS3⟩ : ∃ q, ts.map (tenOf dm) = q := ⟨_, rfl⟩
 have HTS3 := Lib.hid hTS3
 have H3L : Hid (TS3.length = m) := Lib.hid (by rw [← hTS3]; exact hTl.out)
 have HR3 : Hid (TS3.map (fun t => (t.1.map f, t.2)) = (renN f ts).map (tenOf dm2)) := Lib.hid (by rw [← hTS3]; exact renTG_net fun x hx => HG.out.dim x (HN.out.occU hx))
 have HN2 : Hid (IsN k p n dm2 U2 (renN f ts) (op.map f)) := Lib.hid (ren_isN HG.out HN.out)
 clear hTS3
 go_enter Try.func43, Try.ntmps43
 go_upto_region 1 with fail
 have hH : Held w w [] := Held.new (Ext.refl w) 0
 have hB : Held w (w.alloc (.cells #[.int .i64 k, .int .i64 p, .int .i64 n, .slice aV m cV, .slice aO op.length cO] 29)) [aB (w.heap.size) 29 [.int .i64 k, .int .i64 p, .int .i64 n, .slice aV m cV, .slice aO op.length cO]] := by
  have h := (hH.mores 1).addB 0 #[.int .i64 k, .int .i64 p, .int .i64 n, .slice aV m cV, .slice aO op.length cO] 29
  exact h
 have hsz : (w.alloc (.cells #[.int .i64 k, .int .i64 p, .int .i64 n, .slice aV m cV, .slice aO op.length cO] 29)).heap.size = w.heap.size + 1 := by simp
 generalize w.alloc (.cells #[.int .i64 k, .int .i64 p, .int .i64 n, .slice aV m cV, .slice aO op.length cO] 29) = wn1 at hB hsz ⊢
 replace hH := hB; have HSZwn1 := Lib.hid hsz; clear hB hsz
 have hB : Held w (wn1.alloc (.cells #[.int .i64 0, .int .i64 0, .int .i64 0, .slice none 0 0, .slice none 0 0] 29)) [aB (w.heap.size) 29 [.int .i64 k, .int .i64 p, .int .i64 n, .slice aV m cV, .slice aO op.length cO], aB (w.heap.size + 1) 29 [.int .i64 0, .int .i64 0, .int .i64 0, .slice none 0 0, .slice none 0 0]] := by
  have h := (hH.mores 1).addB 1 #[.int .i64 0, .int .i64 0, .int .i64 0, .slice none 0 0, .slice none 0 0] 29
  rw [HSZwn1.out] at h
  exact h
 have hsz : (wn1.alloc (.cells #[.int .i64 0, .int .i64 0, .int .i64 0, .slice none 0 0, .slice none 0 0] 29)).heap.size = w.heap.size + 1 + 1 := by rw [← HSZwn1.out]; simp
 generalize wn1.alloc (.cells #[.int .i64 0, .int .i64 0, .int .i64 0, .slice none 0 0, .slice none 0 0] 29) = wn2 at hB hsz ⊢
 replace hH := hB; have HSZwn2 := Lib.hid hsz; clear hB hsz
 have q0_0 := hH.cl 0 0 rfl rfl; have q0_1 := hH.cl 0 1 rfl rfl; have q0_2 := hH.cl 0 2 rfl rfl; have q0_3 := hH.cl 0 3 rfl rfl; have q0_4 := hH.cl 0 4 rfl rfl; have l0_ := hH.bl 0 rfl; have q1_0 := hH.cl 1 0 rfl rfl; have q1_1 := hH.cl 1 1 rfl rfl; have q1_2 := hH.cl 1 2 rfl rfl; have q1_3 := hH.cl 1 3 rfl rfl; have q1_4 := hH.cl 1 4 rfl rfl; have l1_ := hH.bl 1 rfl
 go_wp2_with fail
 clear q0_0 q0_1 q0_2 q0_3 q0_4 l0_ q1_0 q1_1 q1_2 q1_3 q1_4 l1_
 refine (networkOk_any HR.out HN.out _ _ _ (hT0.ext hH.ext) (hO0.ext hH.ext)).mono ?_; rintro ewn3 wn3 ⟨rfl, hwn3⟩
 replace hH : Held w wn3 [aB (w.heap.size) 29 [.int .i64 k, .int .i64 p, .int .i64 n, .slice aV m cV, .slice aO op.length cO], aB (w.heap.size + 1) 29 [.int .i64 0, .int .i64 0, .int .i64 0, .slice none 0 0, .slice none 0 0]] := hH.grow hwn3
 clear hwn3
 have q0_0 := hH.cl 0 0 rfl rfl; have q0_1 := hH.cl 0 1 rfl rfl; have q0_2 := hH.cl 0 2 rfl rfl; have q0_3 := hH.cl 0 3 rfl rfl; have q0_4 := hH.cl 0 4 rfl rfl; have l0_ := hH.bl 0 rfl; have q1_0 := hH.cl 1 0 rfl rfl; have q1_1 := hH.cl 1 1 rfl rfl; have q1_2 := hH.cl 1 2 rfl rfl; have q1_3 := hH.cl 1 3 rfl rfl; have q1_4 := hH.cl 1 4 rfl rfl; have l1_ := hH.bl 1 rfl
 go_wp2_with fail
 clear q0_0 q0_1 q0_2 q0_3 q0_4 l0_ q1_0 q1_1 q1_2 q1_3 q1_4 l1_
 refine (labelsOf_any HR.out HN.out _ _ _ (hT.ext hH.ext) (hO.ext hH.ext)).mono ?_; rintro ewn4 wn4 ⟨u, rfl, hJ⟩
 rw [HAL.out] at hJ
 obtain ⟨al, cl, rfl⟩ := (hJ.own (k := 0) rfl).shape1 AL.length rfl
 replace hH : Held w wn4 [aB (w.heap.size) 29 [.int .i64 k, .int .i64 p, .int .i64 n, .slice aV m cV, .slice aO op.length cO], aB (w.heap.size + 1) 29 [.int .i64 0, .int .i64 0, .int .i64 0, .slice none 0 0, .slice none 0 0], aI (.slice al AL.length cl) AL] := hH.join hJ (fun q hq => by cases hq)
 clear hJ
 have q0_0 := hH.cl 0 0 rfl rfl; have q0_1 := hH.cl 0 1 rfl rfl; have q0_2 := hH.cl 0 2 rfl rfl; have q0_3 := hH.cl 0 3 rfl rfl; have q0_4 := hH.cl 0 4 rfl rfl; have l0_ := hH.bl 0 rfl; have q1_0 := hH.cl 1 0 rfl rfl; have q1_1 := hH.cl 1 1 rfl rfl; have q1_2 := hH.cl 1 2 rfl rfl; have q1_3 := hH.cl 1 3 rfl rfl; have q1_4 := hH.cl 1 4 rfl rfl; have l1_ := hH.bl 1 rfl
 go_wp2_with fail
 clear q0_0 q0_1 q0_2 q0_3 q0_4 l0_ q1_0 q1_1 q1_2 q1_3 q1_4 l1_
 replace hH := hH.nilI
 replace hH : Held w wn4 [aB (w.heap.size) 29 [.int .i64 k, .int .i64 p, .int .i64 n, .slice aV m cV, .slice aO op.length cO], aB (w.heap.size + 1) 29 [.int .i64 0, .int .i64 0, .int .i64 0, .slice none 0 0, .slice none 0 0], aI (.slice al AL.length cl) AL, aI (.slice none 0 0) []] := hH
 go_loopw [8, 33] (fun vn i wr => ∃ (j : Nat), j ≤ AL.length ∧ i = .int .i64 (j : Int) ∧ Held w wr [aB (w.heap.size) 29 [.int .i64 k, .int .i64 p, .int .i64 n, .slice aV m cV, .slice aO op.length cO], aB (w.heap.size + 1) 29 [.int .i64 0, .int .i64 0, .int .i64 0, .slice none 0 0, .slice none 0 0], aI (.slice al AL.length cl) AL, aI vn ((AL.take j).map f)]) (fun vn i wr => AL.length - (RowKit.intOf i).toNat)
 case atStart => exact ⟨0, Nat.zero_le _, rfl, hH⟩
 case round =>
  clear hH
  obtain ⟨j, hj, rfl, hH⟩ := hrel
  obtain ⟨wq, rfl⟩ : ∃ q, q = wr := ⟨wr, rfl⟩
  obtain ⟨NJ, hNJ⟩ : ∃ q, (AL.take j).map f = q := ⟨_, rfl⟩
  have HNL : Hid (NJ.length = j) := Lib.hid (by rw [← hNJ, List.length_map, List.length_take]; omega)
  rw [hNJ] at hH
  have HNJ := Lib.hid hNJ; clear hNJ
  obtain ⟨an, cn, rfl⟩ := (hH.own (k := 3) rfl).shape1 j HNL.out
  by_cases hlt : j < AL.length
  ·
   obtain ⟨bA, oA, x, hVa, hcx, hx, _⟩ := (hH.ints (k := 2) rfl).get (i := j) hlt
   subst hVa
   have HNO : Hid (hasL NJ (f x) = false) := Lib.hid (by rw [← HNJ.out]; exact hasL_ren HG.out.inj HALN.out HAM.out hx)
   have HNS : Hid ((AL.take (j + 1)).map f = NJ ++ [f x]) := Lib.hid (by rw [List.take_add_one, hx, List.map_append, HNJ.out]; rfl)
   clear hx
   have q0_0 := hH.cl 0 0 rfl rfl; have q0_1 := hH.cl 0 1 rfl rfl; have q0_2 := hH.cl 0 2 rfl rfl; have q0_3 := hH.cl 0 3 rfl rfl; have q0_4 := hH.cl 0 4 rfl rfl; have l0_ := hH.bl 0 rfl; have q1_0 := hH.cl 1 0 rfl rfl; have q1_1 := hH.cl 1 1 rfl rfl; have q1_2 := hH.cl 1 2 rfl rfl; have q1_3 := hH.cl 1 3 rfl rfl; have q1_4 := hH.cl 1 4 rfl rfl; have l1_ := hH.bl 1 rfl
   go_wp2_with fail
   clear q0_0 q0_1 q0_2 q0_3 q0_4 l0_ q1_0 q1_1 q1_2 q1_3 q1_4 l1_
   refine (renamed_any _ _ F G x _ (hF.ext hH.ext) (hG.ext hH.ext) HFG.out).mono ?_; rintro e3 w3 ⟨rfl, rfl⟩; rw [HFE.out]
   have q0_0 := hH.cl 0 0 rfl rfl; have q0_1 := hH.cl 0 1 rfl rfl; have q0_2 := hH.cl 0 2 rfl rfl; have q0_3 := hH.cl 0 3 rfl rfl; have q0_4 := hH.cl 0 4 rfl rfl; have l0_ := hH.bl 0 rfl; have q1_0 := hH.cl 1 0 rfl rfl; have q1_1 := hH.cl 1 1 rfl rfl; have q1_2 := hH.cl 1 2 rfl rfl; have q1_3 := hH.cl 1 3 rfl rfl; have q1_4 := hH.cl 1 4 rfl rfl; have l1_ := hH.bl 1 rfl
   go_wp2_with fail
   clear q0_0 q0_1 q0_2 q0_3 q0_4 l0_ q1_0 q1_1 q1_2 q1_3 q1_4 l1_
   refine (hasInt_any _ NJ (f x) _ (hH.ints (k := 3) rfl)).mono ?_; rintro e4 w4 ⟨rfl, rfl⟩; rw [HNO.out]
   have q0_0 := hH.cl 0 0 rfl rfl; have q0_1 := hH.cl 0 1 rfl rfl; have q0_2 := hH.cl 0 2 rfl rfl; have q0_3 := hH.cl 0 3 rfl rfl; have q0_4 := hH.cl 0 4 rfl rfl; have l0_ := hH.bl 0 rfl; have q1_0 := hH.cl 1 0 rfl rfl; have q1_1 := hH.cl 1 1 rfl rfl; have q1_2 := hH.cl 1 2 rfl rfl; have q1_3 := hH.cl 1 3 rfl rfl; have q1_4 := hH.cl 1 4 rfl rfl; have l1_ := hH.bl 1 rfl
   go_wp2_with (at_builtin; refine wpList_app _ rfl _ _ 27 rfl _ _ rfl rfl _ (run_push _ _ w.heap.size _ NJ (f x) (hH.own (k := 3) rfl) (by rw [HNL.out]; omega) hH.size) ?_; rintro v6 w6 ⟨o6, g6, n6⟩)
   have hX := hH.pushed (k := 3) rfl o6 g6 n6
   go_roundw
   case rel => exact ⟨j + 1, by omega, by go_num, by rw [HNS.out]; exact hX⟩
   case measure => simp [RowKit.intOf]; omega
  ·
   replace hH : Held w wq [aB (w.heap.size) 29 [.int .i64 k, .int .i64 p, .int .i64 n, .slice aV m cV, .slice aO op.length cO], aB (w.heap.size + 1) 29 [.int .i64 0, .int .i64 0, .int .i64 0, .slice none 0 0, .slice none 0 0]] := hH.sub (.cons_cons _ (.cons_cons _ (.cons _ (.cons _ .slnil))))
   have q0_0 := hH.cl 0 0 rfl rfl; have q0_1 := hH.cl 0 1 rfl rfl; have q0_2 := hH.cl 0 2 rfl rfl; have q0_3 := hH.cl 0 3 rfl rfl; have q0_4 := hH.cl 0 4 rfl rfl; have l0_ := hH.bl 0 rfl; have q1_0 := hH.cl 1 0 rfl rfl; have q1_1 := hH.cl 1 1 rfl rfl; have q1_2 := hH.cl 1 2 rfl rfl; have q1_3 := hH.cl 1 3 rfl rfl; have q1_4 := hH.cl 1 4 rfl rfl; have l1_ := hH.bl 1 rfl
   go_wp2_with fail
   clear q0_0 q0_1 q0_2 q0_3 q0_4 l0_ q1_0 q1_1 q1_2 q1_3 q1_4 l1_
   refine (copyNetwork_anyA HR.out HN.out _ _ _ (hT.ext hH.ext) (hO.ext hH.ext)).mono ?_; rintro ewn5 wn5 ⟨tv2, ov2, cs, rfl, hJ, hap⟩
   rw [HTS3.out] at hJ
   have HAP := Lib.hid hap; clear hap
   obtain ⟨aP, cP, rfl⟩ := (hJ.own (k := 1) rfl).shape1 op.length rfl
   obtain ⟨aK, cK, rfl, _, _⟩ := (hJ.tensS (k := 0) rfl).val
   rw [H3L.out] at hJ ⊢
   replace hH : Held w wn5 [aB (w.heap.size) 29 [.int .i64 k, .int .i64 p, .int .i64 n, .slice aV m cV, .slice aO op.length cO], aB (w.heap.size + 1) 29 [.int .i64 0, .int .i64 0, .int .i64 0, .slice none 0 0, .slice none 0 0], aTs (.slice aK m cK) cs TS3, aI (.slice aP op.length cP) op] := hH.join hJ (fun q hq => by cases hq)
   clear hJ
   have q0_0 := hH.cl 0 0 rfl rfl; have q0_1 := hH.cl 0 1 rfl rfl; have q0_2 := hH.cl 0 2 rfl rfl; have q0_3 := hH.cl 0 3 rfl rfl; have q0_4 := hH.cl 0 4 rfl rfl; have l0_ := hH.bl 0 rfl; have q1_0 := hH.cl 1 0 rfl rfl; have q1_1 := hH.cl 1 1 rfl rfl; have q1_2 := hH.cl 1 2 rfl rfl; have q1_3 := hH.cl 1 3 rfl rfl; have q1_4 := hH.cl 1 4 rfl rfl; have l1_ := hH.bl 1 rfl
   go_upto_region 13 with fail
   clear q0_0 q0_1 q0_2 q0_3 q0_4 l0_ q1_0 q1_1 q1_2 q1_3 q1_4 l1_
   have hB : Held w (wn5.alloc (.cells #[.int .i64 k, .int .i64 p, .int .i64 n, .slice aK m cK, .slice aP op.length cP] 29)) [aB (w.heap.size) 29 [.int .i64 k, .int .i64 p, .int .i64 n, .slice aV m cV, .slice aO op.length cO], aB (w.heap.size + 1) 29 [.int .i64 0, .int .i64 0, .int .i64 0, .slice none 0 0, .slice none 0 0], aTs (.slice aK m cK) cs TS3, aI (.slice aP op.length cP) op, aB (wn5.heap.size) 29 [.int .i64 k, .int .i64 p, .int .i64 n, .slice aK m cK, .slice aP op.length cP]] := by
    have h := (hH.mores 1).addB 4 #[.int .i64 k, .int .i64 p, .int .i64 n, .slice aK m cK, .slice aP op.length cP] 29
    exact h
   have hsz : (wn5.alloc (.cells #[.int .i64 k, .int .i64 p, .int .i64 n, .slice aK m cK, .slice aP op.length cP] 29)).heap.size = wn5.heap.size + 1 := by simp
   generalize wn5.alloc (.cells #[.int .i64 k, .int .i64 p, .int .i64 n, .slice aK m cK, .slice aP op.length cP] 29) = wn6 at hB hsz ⊢
   replace hH := hB; have HSZwn6 := Lib.hid hsz; clear hB hsz
   have q0_0 := hH.cl 0 0 rfl rfl; have q0_1 := hH.cl 0 1 rfl rfl; have q0_2 := hH.cl 0 2 rfl rfl; have q0_3 := hH.cl 0 3 rfl rfl; have q0_4 := hH.cl 0 4 rfl rfl; have l0_ := hH.bl 0 rfl; have q1_0 := hH.cl 1 0 rfl rfl; have q1_1 := hH.cl 1 1 rfl rfl; have q1_2 := hH.cl 1 2 rfl rfl; have q1_3 := hH.cl 1 3 rfl rfl; have q1_4 := hH.cl 1 4 rfl rfl; have l1_ := hH.bl 1 rfl; have q4_0 := hH.cl 4 0 rfl rfl; have q4_1 := hH.cl 4 1 rfl rfl; have q4_2 := hH.cl 4 2 rfl rfl; have q4_3 := hH.cl 4 3 rfl rfl; have q4_4 := hH.cl 4 4 rfl rfl; have l4_ := hH.bl 4 rfl
   go_wp2_with fail
   clear q0_0 q0_1 q0_2 q0_3 q0_4 l0_ q1_0 q1_1 q1_2 q1_3 q1_4 l1_ q4_0 q4_1 q4_2 q4_3 q4_4 l4_
   obtain ⟨wy, rfl⟩ : ∃ q, q = wn6 := ⟨wn6, rfl⟩
   replace hH : Held w wy [aB (w.heap.size) 29 [.int .i64 k, .int .i64 p, .int .i64 n, .slice aV m cV, .slice aO op.length cO], aB (w.heap.size + 1) 29 [.int .i64 0, .int .i64 0, .int .i64 0, .slice none 0 0, .slice none 0 0], aTs (.slice aK m cK) cs TS3, aI (.slice aP op.length cP) op, aB (wn5.heap.size) 29 [.int .i64 k, .int .i64 p, .int .i64 n, .slice aK m cK, .slice aP op.length cP]] := hH
   go_loopw [55] (fun i wr => ∃ (j : Nat), j ≤ m ∧ i = .int .i64 (j : Int) ∧ Held w wr [aB (w.heap.size) 29 [.int .i64 k, .int .i64 p, .int .i64 n, .slice aV m cV, .slice aO op.length cO], aB (w.heap.size + 1) 29 [.int .i64 0, .int .i64 0, .int .i64 0, .slice none 0 0, .slice none 0 0], aTs (.slice aK m cK) cs (renTG f TS3 j), aI (.slice aP op.length cP) op, aB (wn5.heap.size) 29 [.int .i64 k, .int .i64 p, .int .i64 n, .slice aK m cK, .slice aP op.length cP]]) (fun i wr => m - (RowKit.intOf i).toNat)
   case atStart => exact ⟨0, Nat.zero_le _, rfl, by rw [renTG_zero]; exact hH⟩
   case round =>
    clear hH
    obtain ⟨j, hj, rfl, hH⟩ := hrel
    obtain ⟨wq, rfl⟩ : ∃ q, q = wr := ⟨wr, rfl⟩
    by_cases hlt : j < m
    ·
     obtain ⟨⟨Lj, Dj, Xj⟩, htj⟩ : ∃ t, TS3[j]? = some t := ⟨_, List.getElem?_eq_getElem (by rw [H3L.out]; exact hlt)⟩
     obtain ⟨SS, hSS⟩ : ∃ q, renTG f TS3 j = q := ⟨_, rfl⟩
     have hsj : SS[j]? = some (Lj, Dj, Xj) := by rw [← hSS]; exact renTG_get htj
     have HSN : Hid (SS.set j (Lj.map f, Dj, Xj) = renTG f TS3 (j + 1)) := Lib.hid (by rw [← hSS]; exact renTG_set htj)
     rw [hSS] at hH
     obtain ⟨bK, c1, c2, c3, hVa, hcj, hx0, hx1, hx2, hO1, hO2, hO3⟩ := OwnTs.at (hH.get (k := 2) rfl) hsj
     subst hVa
     obtain ⟨r, hr1⟩ : ∃ q, Lj.length = q := ⟨_, rfl⟩
     have hr12 : r ≤ 12 := by
      have h := HTS3.out
      rw [← h, List.getElem?_map] at htj
      obtain ⟨t, ht, he⟩ := Option.map_eq_some_iff.1 htj
      have h2 := (HN.out.ten t (List.mem_of_getElem? ht)).ax.rank
      have h3 : t.1 = Lj := by have := congrArg (·.1) he; exact this
      rw [← hr1, ← h3]; exact h2
     obtain ⟨ex, cx, rfl⟩ := hO1.shape1 r hr1
     obtain ⟨ey, my, cy, rfl⟩ : ∃ a n c, c2 = .slice a n c := by obtain ⟨a, c, h, _⟩ := hO2.ints.val; exact ⟨a, _, c, h⟩
     obtain ⟨ez, mz, cz, rfl⟩ : ∃ a n c, c3 = .slice a n c := by obtain ⟨a, c, h, _⟩ := hO3.ints.val; exact ⟨a, _, c, h⟩
     have HSS := Lib.hid hSS; have HSJ := Lib.hid hsj; have HCJ := Lib.hid hcj; have HRL := Lib.hid hr1
     clear hSS hsj hcj hr1 hO1 hO2 hO3 htj
     have q0_0 := hH.cl 0 0 rfl rfl; have q0_1 := hH.cl 0 1 rfl rfl; have q0_2 := hH.cl 0 2 rfl rfl; have q0_3 := hH.cl 0 3 rfl rfl; have q0_4 := hH.cl 0 4 rfl rfl; have l0_ := hH.bl 0 rfl; have q1_0 := hH.cl 1 0 rfl rfl; have q1_1 := hH.cl 1 1 rfl rfl; have q1_2 := hH.cl 1 2 rfl rfl; have q1_3 := hH.cl 1 3 rfl rfl; have q1_4 := hH.cl 1 4 rfl rfl; have l1_ := hH.bl 1 rfl; have q4_0 := hH.cl 4 0 rfl rfl; have q4_1 := hH.cl 4 1 rfl rfl; have q4_2 := hH.cl 4 2 rfl rfl; have q4_3 := hH.cl 4 3 rfl rfl; have q4_4 := hH.cl 4 4 rfl rfl; have l4_ := hH.bl 4 rfl
     go_upto_region 16 with fail
     clear q0_0 q0_1 q0_2 q0_3 q0_4 l0_ q1_0 q1_1 q1_2 q1_3 q1_4 l1_ q4_0 q4_1 q4_2 q4_3 q4_4 l4_
     clear hx0 hx1 hx2
     have hB : Held w (wq.alloc (.cells #[.slice ex r cx, .slice ey my cy, .slice ez mz cz] 32)) [aB (w.heap.size) 29 [.int .i64 k, .int .i64 p, .int .i64 n, .slice aV m cV, .slice aO op.length cO], aB (w.heap.size + 1) 29 [.int .i64 0, .int .i64 0, .int .i64 0, .slice none 0 0, .slice none 0 0], aTs (.slice (some ⟨bK, 0, none⟩) m cK) cs SS, aI (.slice aP op.length cP) op, aB (wn5.heap.size) 29 [.int .i64 k, .int .i64 p, .int .i64 n, .slice (some ⟨bK, 0, none⟩) m cK, .slice aP op.length cP], aB (wq.heap.size) 32 [.slice ex r cx, .slice ey my cy, .slice ez mz cz]] := by
      have h := (hH.mores 1).addB 5 #[.slice ex r cx, .slice ey my cy, .slice ez mz cz] 32
      exact h
     have hsz : (wq.alloc (.cells #[.slice ex r cx, .slice ey my cy, .slice ez mz cz] 32)).heap.size = wq.heap.size + 1 := by simp
     generalize wq.alloc (.cells #[.slice ex r cx, .slice ey my cy, .slice ez mz cz] 32) = wn7 at hB hsz ⊢
     replace hH := hB; have HSZwn7 := Lib.hid hsz; clear hB hsz
     have q0_0 := hH.cl 0 0 rfl rfl; have q0_1 := hH.cl 0 1 rfl rfl; have q0_2 := hH.cl 0 2 rfl rfl; have q0_3 := hH.cl 0 3 rfl rfl; have q0_4 := hH.cl 0 4 rfl rfl; have l0_ := hH.bl 0 rfl; have q1_0 := hH.cl 1 0 rfl rfl; have q1_1 := hH.cl 1 1 rfl rfl; have q1_2 := hH.cl 1 2 rfl rfl; have q1_3 := hH.cl 1 3 rfl rfl; have q1_4 := hH.cl 1 4 rfl rfl; have l1_ := hH.bl 1 rfl; have q4_0 := hH.cl 4 0 rfl rfl; have q4_1 := hH.cl 4 1 rfl rfl; have q4_2 := hH.cl 4 2 rfl rfl; have q4_3 := hH.cl 4 3 rfl rfl; have q4_4 := hH.cl 4 4 rfl rfl; have l4_ := hH.bl 4 rfl; have q5_0 := hH.cl 5 0 rfl rfl; have q5_1 := hH.cl 5 1 rfl rfl; have q5_2 := hH.cl 5 2 rfl rfl; have l5_ := hH.bl 5 rfl
     go_wp2_with fail
     clear q0_0 q0_1 q0_2 q0_3 q0_4 l0_ q1_0 q1_1 q1_2 q1_3 q1_4 l1_ q4_0 q4_1 q4_2 q4_3 q4_4 l4_ q5_0 q5_1 q5_2 l5_
     obtain ⟨wp, rfl⟩ : ∃ q, q = wn7 := ⟨wn7, rfl⟩
     replace hH : Held w wp [aB (w.heap.size) 29 [.int .i64 k, .int .i64 p, .int .i64 n, .slice aV m cV, .slice aO op.length cO], aB (w.heap.size + 1) 29 [.int .i64 0, .int .i64 0, .int .i64 0, .slice none 0 0, .slice none 0 0], aTs (.slice (some ⟨bK, 0, none⟩) m cK) cs SS, aI (.slice aP op.length cP) op, aB (wn5.heap.size) 29 [.int .i64 k, .int .i64 p, .int .i64 n, .slice (some ⟨bK, 0, none⟩) m cK, .slice aP op.length cP], aB (wq.heap.size) 32 [.slice ex r cx, .slice ey my cy, .slice ez mz cz]] := hH
     go_loopw [62] (fun ii wr => ∃ (i : Nat), i ≤ r ∧ ii = .int .i64 (i : Int) ∧ Held w wr [aB (w.heap.size) 29 [.int .i64 k, .int .i64 p, .int .i64 n, .slice aV m cV, .slice aO op.length cO], aB (w.heap.size + 1) 29 [.int .i64 0, .int .i64 0, .int .i64 0, .slice none 0 0, .slice none 0 0], aTs (.slice (some ⟨bK, 0, none⟩) m cK) cs (SS.set j (renG f Lj i, Dj, Xj)), aI (.slice aP op.length cP) op, aB (wn5.heap.size) 29 [.int .i64 k, .int .i64 p, .int .i64 n, .slice (some ⟨bK, 0, none⟩) m cK, .slice aP op.length cP], aB (wq.heap.size) 32 [.slice ex r cx, .slice ey my cy, .slice ez mz cz]]) (fun ii wr => r - (RowKit.intOf ii).toNat)
     case atStart => exact ⟨0, Nat.zero_le _, rfl, by rw [renG_zero, set_sameJ HSJ.out]; exact hH⟩
     case round =>
      clear hH
      obtain ⟨i, hi, rfl, hH⟩ := hrel
      obtain ⟨wo, rfl⟩ : ∃ q, q = wr := ⟨wr, rfl⟩
      by_cases hir : i < r
      ·
       obtain ⟨S2, hS2⟩ : ∃ q, SS.set j (renG f Lj i, Dj, Xj) = q := ⟨_, rfl⟩
       have hs2j : S2[j]? = some (renG f Lj i, Dj, Xj) := by rw [← hS2]; exact List.getElem?_set_self (List.getElem?_eq_some_iff.1 HSJ.out).1
       rw [hS2] at hH
       obtain ⟨x, hx⟩ : ∃ x, Lj[i]? = some x := ⟨_, List.getElem?_eq_getElem (by rw [HRL.out]; exact hir)⟩
       have HRG : Hid ((renG f Lj i)[i]? = some x) := Lib.hid (renG_get hx)
       have HST : Hid (S2.set j ((renG f Lj i).set i (f x), Dj, Xj) = SS.set j (renG f Lj (i + 1), Dj, Xj)) := Lib.hid (by rw [← hS2, List.set_set, renG_set hx])
       have HRIL : Hid (i < (renG f Lj i).length) := Lib.hid (by rw [renG_length, HRL.out]; exact hir)
       have HO : Hid (∀ wx L, HeldX none w wx L → L[2]? = some (aTs (.slice (some ⟨bK, 0, none⟩) m cK) cs S2) → OwnI wx 0 (.slice ex r cx) (renG f Lj i)) := Lib.hid fun wx L h hk => ((h.get hk : OwnTs wx _ cs S2).elem j _ _ HCJ.out hs2j).1
       obtain ⟨bq, hbq⟩ : ∃ b, ex = some ⟨b, 0, none⟩ := by
        obtain ⟨b, c, h1, h2, _⟩ := (HO.out _ _ hH rfl).open (by have := HRIL.out; omega)
        rw [renG_length, HRL.out] at h2
        cases h2
        exact ⟨b, rfl⟩
       subst hbq
       have HS2J := Lib.hid hs2j
       have HS2 := Lib.hid hS2
       obtain ⟨hcx, hfx⟩ := (HO.out _ _ hH rfl).cell HRG.out
       clear hx hs2j hS2
       have q0_0 := hH.cl 0 0 rfl rfl; have q0_1 := hH.cl 0 1 rfl rfl; have q0_2 := hH.cl 0 2 rfl rfl; have q0_3 := hH.cl 0 3 rfl rfl; have q0_4 := hH.cl 0 4 rfl rfl; have l0_ := hH.bl 0 rfl; have q1_0 := hH.cl 1 0 rfl rfl; have q1_1 := hH.cl 1 1 rfl rfl; have q1_2 := hH.cl 1 2 rfl rfl; have q1_3 := hH.cl 1 3 rfl rfl; have q1_4 := hH.cl 1 4 rfl rfl; have l1_ := hH.bl 1 rfl; have q4_0 := hH.cl 4 0 rfl rfl; have q4_1 := hH.cl 4 1 rfl rfl; have q4_2 := hH.cl 4 2 rfl rfl; have q4_3 := hH.cl 4 3 rfl rfl; have q4_4 := hH.cl 4 4 rfl rfl; have l4_ := hH.bl 4 rfl; have q5_0 := hH.cl 5 0 rfl rfl; have q5_1 := hH.cl 5 1 rfl rfl; have q5_2 := hH.cl 5 2 rfl rfl; have l5_ := hH.bl 5 rfl
       go_upto_region 19 with fail
       clear q0_0 q0_1 q0_2 q0_3 q0_4 l0_ q1_0 q1_1 q1_2 q1_3 q1_4 l1_ q4_0 q4_1 q4_2 q4_3 q4_4 l4_ q5_0 q5_1 q5_2 l5_
       clear hcx hfx
       refine wp_region_steps ?Fa (fun b t wx => Held w wx [aB (w.heap.size) 29 [.int .i64 k, .int .i64 p, .int .i64 n, .slice aV m cV, .slice aO op.length cO], aB (w.heap.size + 1) 29 [.int .i64 0, .int .i64 0, .int .i64 0, .slice none 0 0, .slice none 0 0], (bif b 8 then aTs (.slice (some ⟨bK, 0, none⟩) m cK) cs (SS.set j (renG f Lj (i + 1), Dj, Xj)) else aTs (.slice (some ⟨bK, 0, none⟩) m cK) cs S2), aI (.slice aP op.length cP) op, aB (wn5.heap.size) 29 [.int .i64 k, .int .i64 p, .int .i64 n, .slice (some ⟨bK, 0, none⟩) m cK, .slice aP op.length cP], aB (wq.heap.size) 32 [.slice (some ⟨bq, 0, none⟩) r cx, .slice ey my cy, .slice ez mz cz]] ∧ (b 0 = true → t 0 = .pointer (some ⟨wq.heap.size, 0, none⟩)) ∧ (b 1 = true → t 1 = .slice (some ⟨bq, 0, none⟩) r cx) ∧ (b 2 = true → t 2 = .int .i64 (i : Int)) ∧ (b 3 = true → t 3 = .int .i64 x) ∧ (b 4 = true → t 4 = .slice aF nf cF) ∧ (b 5 = true → t 5 = .slice aG nf cG) ∧ (b 6 = true → t 6 = .int .i64 (f x)) ∧ (b 7 = true → t 7 = .pointer (some ⟨bq, i, none⟩))) ?hFa (by kernel_rfl) (by kernel_rfl) ?hJa ?hSa ?hEa
       (case hFa => intro t; simp only [putAll, Act.put, List.setIfInBounds_toArray, List.set_cons_zero, List.set_cons_succ, Nat.reduceAdd, Nat.zero_add]; exact rfl)
       case hJa => exact ⟨hH.grow ((Ext.refl _).drew), fun h => absurd h Bool.false_ne_true, fun h => absurd h Bool.false_ne_true, fun h => absurd h Bool.false_ne_true, fun h => absurd h Bool.false_ne_true, fun h => absurd h Bool.false_ne_true, fun h => absurd h Bool.false_ne_true, fun h => absurd h Bool.false_ne_true, fun h => absurd h Bool.false_ne_true⟩
       case hSa => as_aux_lemma =>
         refine AllSteps.cons (j := 1) rfl (fun b t wx hJ hb hd hcl Kc hK => ?_) ?_
         · obtain ⟨hH, v0, v1, v2, v3, v4, v5, v6, v7⟩ := hJ
           go_simp
           refine hK.out _ ?_ _ ?_ ?_; rotate_left 2
           · rfl
           exact ⟨hH, fun _ => rfl, v1, v2, v3, v4, v5, v6, v7⟩
         refine AllSteps.cons (j := 2) rfl (fun b t wx hJ hb hd hcl Kc hK => ?_) ?_
         · obtain ⟨hH, v0, v1, v2, v3, v4, v5, v6, v7⟩ := hJ
           have d0 := hd.out 0 (by kernel_rfl); have r0 := v0 d0; have q5_0 := hH.cl 5 0 rfl rfl
           go_simp
           refine hK.out _ ?_ _ ?_ ?_; rotate_left 2
           · (try simp only [r0]); rfl
           exact ⟨hH, v0, fun _ => rfl, v2, v3, v4, v5, v6, v7⟩
         refine AllSteps.cons (j := 3) rfl (fun b t wx hJ hb hd hcl Kc hK => ?_) ?_
         · obtain ⟨hH, v0, v1, v2, v3, v4, v5, v6, v7⟩ := hJ
           go_simp
           refine hK.out _ ?_ _ ?_ ?_; rotate_left 2
           · rfl
           exact ⟨hH, v0, v1, fun _ => rfl, v3, v4, v5, v6, v7⟩
         refine AllSteps.cons (j := 4) rfl (fun b t wx hJ hb hd hcl Kc hK => ?_) ?_
         · obtain ⟨hH, v0, v1, v2, v3, v4, v5, v6, v7⟩ := hJ
           go_simp
           refine hK.out _ ?_ _ ?_ ?_; rotate_left 2
           · rfl
           exact ⟨hH, v0, v1, v2, fun _ => rfl, v4, v5, v6, v7⟩
         refine AllSteps.cons (j := 5) rfl (fun b t wx hJ hb hd hcl Kc hK => ?_) ?_
         · obtain ⟨hH, v0, v1, v2, v3, v4, v5, v6, v7⟩ := hJ
           go_simp
           refine hK.out _ ?_ _ ?_ ?_; rotate_left 2
           · rfl
           exact ⟨hH, v0, v1, v2, v3, fun _ => rfl, v5, v6, v7⟩
         refine AllSteps.cons (j := 6) rfl (fun b t wx hJ hb hd hcl Kc hK => ?_) ?_
         · obtain ⟨hH, v0, v1, v2, v3, v4, v5, v6, v7⟩ := hJ
           go_simp
           refine hK.out _ ?_ _ ?_ ?_; rotate_left 2
           · rfl
           exact ⟨hH, v0, v1, v2, v3, v4, fun _ => rfl, v6, v7⟩
         refine AllSteps.cons (j := 7) rfl (fun b t wx hJ hb hd hcl Kc hK => ?_) ?_
         · obtain ⟨hH, v0, v1, v2, v3, v4, v5, v6, v7⟩ := hJ
           have d3 := hd.out 3 (by kernel_rfl); have d4 := hd.out 4 (by kernel_rfl); have d5 := hd.out 5 (by kernel_rfl)
           have n8 : b 8 = false := Bool.eq_false_iff.2 fun h => absurd (hcl.out 8 6 (by kernel_rfl) (h)) (by rw [hb]; exact Bool.false_ne_true)
           have r3 := v3 d3; have r4 := v4 d4; have r5 := v5 d5
           have hN := hH; (try simp only [hb, d3, d4, d5, n8, cond_true, cond_false] at hN)
           go_simp
           go_at_call 124
           refine (renamed_any _ _ F G x _ (hF.ext hH.ext) (hG.ext hH.ext) HFG.out).mono ?_; rintro e6 w6 ⟨rfl, rfl⟩
           rw [HFE.out]
           (try go_simp)
           refine hK.out _ ?_ _ ?_ ?_; rotate_left 2
           · (try simp only [r3, r4, r5]); rfl
           exact ⟨by have hX := hN; simpa only [List.set_cons_zero, List.set_cons_succ, updB, updV, blkOf_mk, tup0_mk, partsOf3, Nat.reduceBEq, cond_true, cond_false, hb, d3, d4, d5, n8, r3, r4, r5] using hX, v0, v1, v2, v3, v4, v5, fun _ => rfl, v7⟩
         refine AllSteps.cons (j := 8) rfl (fun b t wx hJ hb hd hcl Kc hK => ?_) ?_
         · obtain ⟨hH, v0, v1, v2, v3, v4, v5, v6, v7⟩ := hJ
           have d0 := hd.out 0 (by kernel_rfl); have d1 := hd.out 1 (by kernel_rfl); have d2 := hd.out 2 (by kernel_rfl); have d3 := hd.out 3 (by kernel_rfl); have d4 := hd.out 4 (by kernel_rfl); have d5 := hd.out 5 (by kernel_rfl); have d6 := hd.out 6 (by kernel_rfl); have r0 := v0 d0; have r1 := v1 d1; have r2 := v2 d2; have r3 := v3 d3; have r4 := v4 d4; have r5 := v5 d5; have r6 := v6 d6
           have hir2 := hir
           go_simp
           refine hK.out _ ?_ _ ?_ ?_; rotate_left 2
           · (try simp only [r0, r1, r2, r3, r4, r5, r6]); rfl
           exact ⟨hH, v0, v1, v2, v3, v4, v5, v6, fun _ => rfl⟩
         refine AllSteps.cons (j := 9) rfl (fun b t wx hJ hb hd hcl Kc hK => ?_) ?_
         · obtain ⟨hH, v0, v1, v2, v3, v4, v5, v6, v7⟩ := hJ
           have d0 := hd.out 0 (by kernel_rfl); have d1 := hd.out 1 (by kernel_rfl); have d2 := hd.out 2 (by kernel_rfl); have d3 := hd.out 3 (by kernel_rfl); have d4 := hd.out 4 (by kernel_rfl); have d5 := hd.out 5 (by kernel_rfl); have d6 := hd.out 6 (by kernel_rfl); have d7 := hd.out 7 (by kernel_rfl); have r0 := v0 d0; have r1 := v1 d1; have r2 := v2 d2; have r3 := v3 d3; have r4 := v4 d4; have r5 := v5 d5; have r6 := v6 d6; have r7 := v7 d7
           have hN := hH; (try simp only [hb, d0, d1, d2, d3, d4, d5, d6, d7, cond_true, cond_false] at hN)
           obtain ⟨zx, fx⟩ := (HO.out _ _ hN rfl).cell HRG.out
           have lx := ((HO.out _ _ hN rfl).block_lt (k := bq) rfl).2
           have hS := hN.setTL (k := 2) rfl HAP.out HCJ.out HS2J.out HRIL.out (f x)
           rw [HST.out] at hS
           go_simp
           refine hK.out _ undef _ ?_ ?_; rotate_left 1
           · (try simp only [r0, r1, r2, r3, r4, r5, r6, r7]); rfl
           exact ⟨by have hX := hS; simpa only [List.set_cons_zero, List.set_cons_succ, updB, updV, blkOf_mk, tup0_mk, partsOf3, Nat.reduceBEq, cond_true, cond_false, hb, d0, d1, d2, d3, d4, d5, d6, d7, r0, r1, r2, r3, r4, r5, r6, r7] using hX, v0, v1, v2, v3, v4, v5, v6, v7⟩
         exact AllSteps.nil
       case hEa =>
        intro b t wa hJ hall
        obtain ⟨hHa, v0, v1, v2, v3, v4, v5, v6, v7⟩ := hJ
        have a0 := hall 0 (by decide); have a1 := hall 1 (by decide); have a2 := hall 2 (by decide); have a3 := hall 3 (by decide); have a4 := hall 4 (by decide); have a5 := hall 5 (by decide); have a6 := hall 6 (by decide); have a7 := hall 7 (by decide); have a8 := hall 8 (by decide)
        (try simp only [a0, a1, a2, a3, a4, a5, a6, a7, a8, cond_true] at hHa)
        replace v0 := v0 a0; replace v1 := v1 a1; replace v2 := v2 a2; replace v3 := v3 a3; replace v4 := v4 a4; replace v5 := v5 a5; replace v6 := v6 a6; replace v7 := v7 a7
        clear hall a0 a1 a2 a3 a4 a5 a6 a7 a8
        generalize t 7 = x7 at hHa v7 ⊢; generalize t 6 = x6 at hHa v6 ⊢; generalize t 5 = x5 at hHa v5 ⊢; generalize t 4 = x4 at hHa v4 ⊢; generalize t 3 = x3 at hHa v3 ⊢; generalize t 2 = x2 at hHa v2 ⊢; generalize t 1 = x1 at hHa v1 ⊢; generalize t 0 = x0 at hHa v0 ⊢; subst v0; subst v1; subst v2; subst v3; subst v4; subst v5; subst v6; subst v7
        clear b
        replace hH := hHa; clear hHa
        replace hH : Held w wa [aB (w.heap.size) 29 [.int .i64 k, .int .i64 p, .int .i64 n, .slice aV m cV, .slice aO op.length cO], aB (w.heap.size + 1) 29 [.int .i64 0, .int .i64 0, .int .i64 0, .slice none 0 0, .slice none 0 0], aTs (.slice (some ⟨bK, 0, none⟩) m cK) cs (SS.set j (renG f Lj (i + 1), Dj, Xj)), aI (.slice aP op.length cP) op, aB (wn5.heap.size) 29 [.int .i64 k, .int .i64 p, .int .i64 n, .slice (some ⟨bK, 0, none⟩) m cK, .slice aP op.length cP], aB (wq.heap.size) 32 [.slice (some ⟨bq, 0, none⟩) r cx, .slice ey my cy, .slice ez mz cz]] := hH
        have HHA := Lib.hid hH; clear hH
        go_wp2_with fail
        go_roundw
        case rel => exact ⟨i + 1, by omega, by go_num, HHA.out⟩
        case measure => simp [RowKit.intOf]; omega
      ·
       have hie : i = r := by omega
       have hsb := hH.sub (L' := [aB (w.heap.size) 29 [.int .i64 k, .int .i64 p, .int .i64 n, .slice aV m cV, .slice aO op.length cO], aB (w.heap.size + 1) 29 [.int .i64 0, .int .i64 0, .int .i64 0, .slice none 0 0, .slice none 0 0], aTs (.slice (some ⟨bK, 0, none⟩) m cK) cs (SS.set j (renG f Lj i, Dj, Xj)), aI (.slice aP op.length cP) op, aB (wn5.heap.size) 29 [.int .i64 k, .int .i64 p, .int .i64 n, .slice (some ⟨bK, 0, none⟩) m cK, .slice aP op.length cP]]) (.cons_cons _ (.cons_cons _ (.cons_cons _ (.cons_cons _ (.cons_cons _ (.cons _ .slnil))))))
       rw [show renG f Lj i = Lj.map f by rw [hie, ← HRL.out]; exact renG_all f Lj, HSN.out] at hsb
       have HHB := Lib.hid hsb; clear hsb hH hie
       go_wp2_with fail
       go_roundw
       case rel => exact ⟨j + 1, by omega, by go_num, HHB.out⟩
       case measure => simp [RowKit.intOf]; omega
    ·
     have hje : j = m := by omega
     rw [show renTG f TS3 j = (renN f ts).map (tenOf dm2) by rw [hje, ← H3L.out, renTG_all]; exact HR3.out] at hH
     clear hje
     have q0_0 := hH.cl 0 0 rfl rfl; have q0_1 := hH.cl 0 1 rfl rfl; have q0_2 := hH.cl 0 2 rfl rfl; have q0_3 := hH.cl 0 3 rfl rfl; have q0_4 := hH.cl 0 4 rfl rfl; have l0_ := hH.bl 0 rfl; have q1_0 := hH.cl 1 0 rfl rfl; have q1_1 := hH.cl 1 1 rfl rfl; have q1_2 := hH.cl 1 2 rfl rfl; have q1_3 := hH.cl 1 3 rfl rfl; have q1_4 := hH.cl 1 4 rfl rfl; have l1_ := hH.bl 1 rfl; have q4_0 := hH.cl 4 0 rfl rfl; have q4_1 := hH.cl 4 1 rfl rfl; have q4_2 := hH.cl 4 2 rfl rfl; have q4_3 := hH.cl 4 3 rfl rfl; have q4_4 := hH.cl 4 4 rfl rfl; have l4_ := hH.bl 4 rfl
     go_wp2_with fail
     clear q0_0 q0_1 q0_2 q0_3 q0_4 l0_ q1_0 q1_1 q1_2 q1_3 q1_4 l1_ q4_0 q4_1 q4_2 q4_3 q4_4 l4_
     obtain ⟨wn, rfl⟩ : ∃ q, q = wq := ⟨wq, rfl⟩
     replace hH : Held w wn [aB (w.heap.size) 29 [.int .i64 k, .int .i64 p, .int .i64 n, .slice aV m cV, .slice aO op.length cO], aB (w.heap.size + 1) 29 [.int .i64 0, .int .i64 0, .int .i64 0, .slice none 0 0, .slice none 0 0], aTs (.slice aK m cK) cs ((renN f ts).map (tenOf dm2)), aI (.slice aP op.length cP) op, aB (wn5.heap.size) 29 [.int .i64 k, .int .i64 p, .int .i64 n, .slice aK m cK, .slice aP op.length cP]] := hH
     go_loopw [80] (fun ii wr => ∃ (i : Nat), i ≤ op.length ∧ ii = .int .i64 (i : Int) ∧ Held w wr [aB (w.heap.size) 29 [.int .i64 k, .int .i64 p, .int .i64 n, .slice aV m cV, .slice aO op.length cO], aB (w.heap.size + 1) 29 [.int .i64 0, .int .i64 0, .int .i64 0, .slice none 0 0, .slice none 0 0], aTs (.slice aK m cK) cs ((renN f ts).map (tenOf dm2)), aI (.slice aP op.length cP) (renG f op i), aB (wn5.heap.size) 29 [.int .i64 k, .int .i64 p, .int .i64 n, .slice aK m cK, .slice aP op.length cP]]) (fun ii wr => op.length - (RowKit.intOf ii).toNat)
     case atStart => exact ⟨0, Nat.zero_le _, rfl, by rw [renG_zero]; exact hH⟩
     case round =>
      clear hH
      obtain ⟨i, hi, rfl, hH⟩ := hrel
      obtain ⟨wo, rfl⟩ : ∃ q, q = wr := ⟨wr, rfl⟩
      by_cases hir : i < op.length
      ·
       obtain ⟨x, hx⟩ : ∃ x, op[i]? = some x := ⟨_, List.getElem?_eq_getElem hir⟩
       have HRG : Hid ((renG f op i)[i]? = some x) := Lib.hid (renG_get hx)
       have HST : Hid ((renG f op i).set i (f x) = renG f op (i + 1)) := Lib.hid (renG_set hx)
       have HRIL : Hid (i < (renG f op i).length) := Lib.hid (by rw [renG_length]; exact hir)
       obtain ⟨RO, hRO⟩ : ∃ q, renG f op i = q := ⟨_, rfl⟩
       rw [hRO] at hH HRG HST HRIL
       have HROL : Hid (RO.length = op.length) := Lib.hid (by rw [← hRO]; exact renG_length f op i)
       obtain ⟨bq, hbq⟩ : ∃ b, aP = some ⟨b, 0, none⟩ := by
        obtain ⟨b, c, h1, h2, _⟩ := (hH.own (k := 3) rfl).open (by have := HRIL.out; omega)
        rw [HROL.out] at h2
        cases h2
        exact ⟨b, rfl⟩
       subst hbq
       obtain ⟨hcx, hfx⟩ := (hH.own (k := 3) rfl).cell HRG.out
       clear hx hRO
       have q0_0 := hH.cl 0 0 rfl rfl; have q0_1 := hH.cl 0 1 rfl rfl; have q0_2 := hH.cl 0 2 rfl rfl; have q0_3 := hH.cl 0 3 rfl rfl; have q0_4 := hH.cl 0 4 rfl rfl; have l0_ := hH.bl 0 rfl; have q1_0 := hH.cl 1 0 rfl rfl; have q1_1 := hH.cl 1 1 rfl rfl; have q1_2 := hH.cl 1 2 rfl rfl; have q1_3 := hH.cl 1 3 rfl rfl; have q1_4 := hH.cl 1 4 rfl rfl; have l1_ := hH.bl 1 rfl; have q4_0 := hH.cl 4 0 rfl rfl; have q4_1 := hH.cl 4 1 rfl rfl; have q4_2 := hH.cl 4 2 rfl rfl; have q4_3 := hH.cl 4 3 rfl rfl; have q4_4 := hH.cl 4 4 rfl rfl; have l4_ := hH.bl 4 rfl
       go_upto_region 25 with fail
       clear q0_0 q0_1 q0_2 q0_3 q0_4 l0_ q1_0 q1_1 q1_2 q1_3 q1_4 l1_ q4_0 q4_1 q4_2 q4_3 q4_4 l4_
       clear hcx hfx
       refine wp_region_steps ?Fc (fun b t wx => Held w wx [aB (w.heap.size) 29 [.int .i64 k, .int .i64 p, .int .i64 n, .slice aV m cV, .slice aO op.length cO], aB (w.heap.size + 1) 29 [.int .i64 0, .int .i64 0, .int .i64 0, .slice none 0 0, .slice none 0 0], aTs (.slice aK m cK) cs ((renN f ts).map (tenOf dm2)), (bif b 8 then aI (.slice (some ⟨bq, 0, none⟩) op.length cP) (renG f op (i + 1)) else aI (.slice (some ⟨bq, 0, none⟩) op.length cP) RO), aB (wn5.heap.size) 29 [.int .i64 k, .int .i64 p, .int .i64 n, .slice aK m cK, .slice (some ⟨bq, 0, none⟩) op.length cP]] ∧ (b 0 = true → t 0 = .pointer (some ⟨wn5.heap.size, 4, none⟩)) ∧ (b 1 = true → t 1 = .slice (some ⟨bq, 0, none⟩) op.length cP) ∧ (b 2 = true → t 2 = .int .i64 (i : Int)) ∧ (b 3 = true → t 3 = .int .i64 x) ∧ (b 4 = true → t 4 = .slice aF nf cF) ∧ (b 5 = true → t 5 = .slice aG nf cG) ∧ (b 6 = true → t 6 = .int .i64 (f x)) ∧ (b 7 = true → t 7 = .pointer (some ⟨bq, i, none⟩))) ?hFc (by kernel_rfl) (by kernel_rfl) ?hJc ?hSc ?hEc
       (case hFc => intro t; simp only [putAll, Act.put, List.setIfInBounds_toArray, List.set_cons_zero, List.set_cons_succ, Nat.reduceAdd, Nat.zero_add]; exact rfl)
       case hJc => exact ⟨hH.grow ((Ext.refl _).drew), fun h => absurd h Bool.false_ne_true, fun h => absurd h Bool.false_ne_true, fun h => absurd h Bool.false_ne_true, fun h => absurd h Bool.false_ne_true, fun h => absurd h Bool.false_ne_true, fun h => absurd h Bool.false_ne_true, fun h => absurd h Bool.false_ne_true, fun h => absurd h Bool.false_ne_true⟩
       case hSc => as_aux_lemma =>
         refine AllSteps.cons (j := 1) rfl (fun b t wx hJ hb hd hcl Kc hK => ?_) ?_
         · obtain ⟨hH, v0, v1, v2, v3, v4, v5, v6, v7⟩ := hJ
           go_simp
           refine hK.out _ ?_ _ ?_ ?_; rotate_left 2
           · rfl
           exact ⟨hH, fun _ => rfl, v1, v2, v3, v4, v5, v6, v7⟩
         refine AllSteps.cons (j := 2) rfl (fun b t wx hJ hb hd hcl Kc hK => ?_) ?_
         · obtain ⟨hH, v0, v1, v2, v3, v4, v5, v6, v7⟩ := hJ
           have d0 := hd.out 0 (by kernel_rfl); have r0 := v0 d0; have q4_4 := hH.cl 4 4 rfl rfl
           go_simp
           refine hK.out _ ?_ _ ?_ ?_; rotate_left 2
           · (try simp only [r0]); rfl
           exact ⟨hH, v0, fun _ => rfl, v2, v3, v4, v5, v6, v7⟩
         refine AllSteps.cons (j := 3) rfl (fun b t wx hJ hb hd hcl Kc hK => ?_) ?_
         · obtain ⟨hH, v0, v1, v2, v3, v4, v5, v6, v7⟩ := hJ
           go_simp
           refine hK.out _ ?_ _ ?_ ?_; rotate_left 2
           · rfl
           exact ⟨hH, v0, v1, fun _ => rfl, v3, v4, v5, v6, v7⟩
         refine AllSteps.cons (j := 4) rfl (fun b t wx hJ hb hd hcl Kc hK => ?_) ?_
         · obtain ⟨hH, v0, v1, v2, v3, v4, v5, v6, v7⟩ := hJ
           go_simp
           refine hK.out _ ?_ _ ?_ ?_; rotate_left 2
           · rfl
           exact ⟨hH, v0, v1, v2, fun _ => rfl, v4, v5, v6, v7⟩
         refine AllSteps.cons (j := 5) rfl (fun b t wx hJ hb hd hcl Kc hK => ?_) ?_
         · obtain ⟨hH, v0, v1, v2, v3, v4, v5, v6, v7⟩ := hJ
           go_simp
           refine hK.out _ ?_ _ ?_ ?_; rotate_left 2
           · rfl
           exact ⟨hH, v0, v1, v2, v3, fun _ => rfl, v5, v6, v7⟩
         refine AllSteps.cons (j := 6) rfl (fun b t wx hJ hb hd hcl Kc hK => ?_) ?_
         · obtain ⟨hH, v0, v1, v2, v3, v4, v5, v6, v7⟩ := hJ
           go_simp
           refine hK.out _ ?_ _ ?_ ?_; rotate_left 2
           · rfl
           exact ⟨hH, v0, v1, v2, v3, v4, fun _ => rfl, v6, v7⟩
         refine AllSteps.cons (j := 7) rfl (fun b t wx hJ hb hd hcl Kc hK => ?_) ?_
         · obtain ⟨hH, v0, v1, v2, v3, v4, v5, v6, v7⟩ := hJ
           have d3 := hd.out 3 (by kernel_rfl); have d4 := hd.out 4 (by kernel_rfl); have d5 := hd.out 5 (by kernel_rfl)
           have n8 : b 8 = false := Bool.eq_false_iff.2 fun h => absurd (hcl.out 8 6 (by kernel_rfl) (h)) (by rw [hb]; exact Bool.false_ne_true)
           have r3 := v3 d3; have r4 := v4 d4; have r5 := v5 d5
           have hN := hH; (try simp only [hb, d3, d4, d5, n8, cond_true, cond_false] at hN)
           go_simp
           go_at_call 124
           refine (renamed_any _ _ F G x _ (hF.ext hH.ext) (hG.ext hH.ext) HFG.out).mono ?_; rintro e6 w6 ⟨rfl, rfl⟩
           rw [HFE.out]
           (try go_simp)
           refine hK.out _ ?_ _ ?_ ?_; rotate_left 2
           · (try simp only [r3, r4, r5]); rfl
           exact ⟨by have hX := hN; simpa only [List.set_cons_zero, List.set_cons_succ, updB, updV, blkOf_mk, tup0_mk, partsOf3, Nat.reduceBEq, cond_true, cond_false, hb, d3, d4, d5, n8, r3, r4, r5] using hX, v0, v1, v2, v3, v4, v5, fun _ => rfl, v7⟩
         refine AllSteps.cons (j := 8) rfl (fun b t wx hJ hb hd hcl Kc hK => ?_) ?_
         · obtain ⟨hH, v0, v1, v2, v3, v4, v5, v6, v7⟩ := hJ
           have d0 := hd.out 0 (by kernel_rfl); have d1 := hd.out 1 (by kernel_rfl); have d2 := hd.out 2 (by kernel_rfl); have d3 := hd.out 3 (by kernel_rfl); have d4 := hd.out 4 (by kernel_rfl); have d5 := hd.out 5 (by kernel_rfl); have d6 := hd.out 6 (by kernel_rfl); have r0 := v0 d0; have r1 := v1 d1; have r2 := v2 d2; have r3 := v3 d3; have r4 := v4 d4; have r5 := v5 d5; have r6 := v6 d6
           have hir2 := hir
           go_simp
           refine hK.out _ ?_ _ ?_ ?_; rotate_left 2
           · (try simp only [r0, r1, r2, r3, r4, r5, r6]); rfl
           exact ⟨hH, v0, v1, v2, v3, v4, v5, v6, fun _ => rfl⟩
         refine AllSteps.cons (j := 9) rfl (fun b t wx hJ hb hd hcl Kc hK => ?_) ?_
         · obtain ⟨hH, v0, v1, v2, v3, v4, v5, v6, v7⟩ := hJ
           have d0 := hd.out 0 (by kernel_rfl); have d1 := hd.out 1 (by kernel_rfl); have d2 := hd.out 2 (by kernel_rfl); have d3 := hd.out 3 (by kernel_rfl); have d4 := hd.out 4 (by kernel_rfl); have d5 := hd.out 5 (by kernel_rfl); have d6 := hd.out 6 (by kernel_rfl); have d7 := hd.out 7 (by kernel_rfl); have r0 := v0 d0; have r1 := v1 d1; have r2 := v2 d2; have r3 := v3 d3; have r4 := v4 d4; have r5 := v5 d5; have r6 := v6 d6; have r7 := v7 d7
           have hN := hH; (try simp only [hb, d0, d1, d2, d3, d4, d5, d6, d7, cond_true, cond_false] at hN)
           obtain ⟨zx, fx⟩ := (hN.own (k := 3) rfl).cell HRG.out
           have lx := ((hN.own (k := 3) rfl).block_lt (k := bq) rfl).2
           go_simp
           refine hK.out _ undef _ ?_ ?_; rotate_left 1
           · (try simp only [r0, r1, r2, r3, r4, r5, r6, r7]); rfl
           exact ⟨by have hX := (by have h := hN.setI (k := 3) rfl i HRIL.out (f x); rw [HST.out] at h; exact h); simpa only [List.set_cons_zero, List.set_cons_succ, updB, updV, blkOf_mk, tup0_mk, partsOf3, Nat.reduceBEq, cond_true, cond_false, hb, d0, d1, d2, d3, d4, d5, d6, d7, r0, r1, r2, r3, r4, r5, r6, r7] using hX, v0, v1, v2, v3, v4, v5, v6, v7⟩
         exact AllSteps.nil
       case hEc =>
        intro b t wc hJ hall
        obtain ⟨hHc, v0, v1, v2, v3, v4, v5, v6, v7⟩ := hJ
        have a0 := hall 0 (by decide); have a1 := hall 1 (by decide); have a2 := hall 2 (by decide); have a3 := hall 3 (by decide); have a4 := hall 4 (by decide); have a5 := hall 5 (by decide); have a6 := hall 6 (by decide); have a7 := hall 7 (by decide); have a8 := hall 8 (by decide)
        (try simp only [a0, a1, a2, a3, a4, a5, a6, a7, a8, cond_true] at hHc)
        replace v0 := v0 a0; replace v1 := v1 a1; replace v2 := v2 a2; replace v3 := v3 a3; replace v4 := v4 a4; replace v5 := v5 a5; replace v6 := v6 a6; replace v7 := v7 a7
        clear hall a0 a1 a2 a3 a4 a5 a6 a7 a8
        generalize t 7 = x7 at hHc v7 ⊢; generalize t 6 = x6 at hHc v6 ⊢; generalize t 5 = x5 at hHc v5 ⊢; generalize t 4 = x4 at hHc v4 ⊢; generalize t 3 = x3 at hHc v3 ⊢; generalize t 2 = x2 at hHc v2 ⊢; generalize t 1 = x1 at hHc v1 ⊢; generalize t 0 = x0 at hHc v0 ⊢; subst v0; subst v1; subst v2; subst v3; subst v4; subst v5; subst v6; subst v7
        clear b
        replace hH := hHc; clear hHc
        replace hH : Held w wc [aB (w.heap.size) 29 [.int .i64 k, .int .i64 p, .int .i64 n, .slice aV m cV, .slice aO op.length cO], aB (w.heap.size + 1) 29 [.int .i64 0, .int .i64 0, .int .i64 0, .slice none 0 0, .slice none 0 0], aTs (.slice aK m cK) cs ((renN f ts).map (tenOf dm2)), aI (.slice (some ⟨bq, 0, none⟩) op.length cP) (renG f op (i + 1)), aB (wn5.heap.size) 29 [.int .i64 k, .int .i64 p, .int .i64 n, .slice aK m cK, .slice (some ⟨bq, 0, none⟩) op.length cP]] := hH
        have HHA := Lib.hid hH; clear hH
        go_wp2_with fail
        go_roundw
        case rel => exact ⟨i + 1, by omega, by go_num, HHA.out⟩
        case measure => simp [RowKit.intOf]; omega
      ·
       have hie : i = op.length := by omega
       rw [show renG f op i = op.map f by rw [hie]; exact renG_all f op] at hH
       clear hie
       have q0_0 := hH.cl 0 0 rfl rfl; have q0_1 := hH.cl 0 1 rfl rfl; have q0_2 := hH.cl 0 2 rfl rfl; have q0_3 := hH.cl 0 3 rfl rfl; have q0_4 := hH.cl 0 4 rfl rfl; have l0_ := hH.bl 0 rfl; have q1_0 := hH.cl 1 0 rfl rfl; have q1_1 := hH.cl 1 1 rfl rfl; have q1_2 := hH.cl 1 2 rfl rfl; have q1_3 := hH.cl 1 3 rfl rfl; have q1_4 := hH.cl 1 4 rfl rfl; have l1_ := hH.bl 1 rfl; have q4_0 := hH.cl 4 0 rfl rfl; have q4_1 := hH.cl 4 1 rfl rfl; have q4_2 := hH.cl 4 2 rfl rfl; have q4_3 := hH.cl 4 3 rfl rfl; have q4_4 := hH.cl 4 4 rfl rfl; have l4_ := hH.bl 4 rfl
       go_wp2_with fail
       clear q0_0 q0_1 q0_2 q0_3 q0_4 l0_ q1_0 q1_1 q1_2 q1_3 q1_4 l1_ q4_0 q4_1 q4_2 q4_3 q4_4 l4_
       refine (networkOk_any HR.out HN2.out _ _ _ (hH.tensS (k := 2) rfl) (hH.ints (k := 3) rfl)).mono ?_; rintro ewn8 wn8 ⟨rfl, hwn8⟩
       replace hH : Held w wn8 [aB (w.heap.size) 29 [.int .i64 k, .int .i64 p, .int .i64 n, .slice aV m cV, .slice aO op.length cO], aB (w.heap.size + 1) 29 [.int .i64 0, .int .i64 0, .int .i64 0, .slice none 0 0, .slice none 0 0], aTs (.slice aK m cK) cs ((renN f ts).map (tenOf dm2)), aI (.slice aP op.length cP) (op.map f), aB (wn5.heap.size) 29 [.int .i64 k, .int .i64 p, .int .i64 n, .slice aK m cK, .slice aP op.length cP]] := hH.grow hwn8
       clear hwn8
       have q0_0 := hH.cl 0 0 rfl rfl; have q0_1 := hH.cl 0 1 rfl rfl; have q0_2 := hH.cl 0 2 rfl rfl; have q0_3 := hH.cl 0 3 rfl rfl; have q0_4 := hH.cl 0 4 rfl rfl; have l0_ := hH.bl 0 rfl; have q1_0 := hH.cl 1 0 rfl rfl; have f1_0 := hH.fr 1 0 rfl; have q1_1 := hH.cl 1 1 rfl rfl; have f1_1 := hH.fr 1 1 rfl; have q1_2 := hH.cl 1 2 rfl rfl; have f1_2 := hH.fr 1 2 rfl; have q1_3 := hH.cl 1 3 rfl rfl; have f1_3 := hH.fr 1 3 rfl; have q1_4 := hH.cl 1 4 rfl rfl; have f1_4 := hH.fr 1 4 rfl; have l1_ := hH.bl 1 rfl; have q4_0 := hH.cl 4 0 rfl rfl; have q4_1 := hH.cl 4 1 rfl rfl; have q4_2 := hH.cl 4 2 rfl rfl; have q4_3 := hH.cl 4 3 rfl rfl; have q4_4 := hH.cl 4 4 rfl rfl; have l4_ := hH.bl 4 rfl
       go_upto_region 29 with fail
       repeat go_step
       refine bodyPost_ret (v := .tuple #[.agg #[.int .i64 k, .int .i64 p, .int .i64 n, .slice aK m cK, .slice aP op.length cP], .bool true]) (by simp [results, Try.results43, go_sem, *]) rfl ?_
       exact ⟨_, _, cs, rfl, (hH.setB5 (k := 1) rfl (.int .i64 k) (.int .i64 p) (.int .i64 n) (.slice aK m cK) (.slice aP op.length cP)).sub (.cons _ (.cons _ (.cons_cons _ (.cons_cons _ (.cons _ .slnil)))))⟩
end Go.Proofs.Ytpegckmagiaggaa
