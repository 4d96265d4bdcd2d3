/- EliminationOk, EliminationWidths of the program. -/
import Derived.Test.YtpegckmagiaggaaKElimX
set_option linter.unusedSimpArgs false
set_option linter.unusedVariables false
namespace Go.Proofs.Ytpegckmagiaggaa
open Go.RowKit
theorem elimAll_len : ∀ (l : List Int) (ls : List (List Int)), (elimAll ls l).length ≤ ls.length + l.length
  | [], _ => Nat.le_refl _
  | x :: l, ls => by
    have h := elimAll_len l (elimL ls x)
    have h2 : (elimL ls x).length ≤ ls.length + 1 := by
      unfold elimL
      rw [List.length_append]
      exact Nat.add_le_add_right (List.length_filter_le _ _) 1
    show (elimAll (elimL ls x) l).length ≤ _
    rw [List.length_cons]
    omega
theorem ListsU.all {dm : Int → Int} {U : List Int} : ∀ (l : List Int) {ls : List (List Int)}, ListsU dm U ls → ListsU dm U (elimAll ls l)
  | [], _, h => h
  | x :: l, _, h => ListsU.all l (h.elim x)
def widI (ls : List (List Int)) (l : List Int) : List Int := (widthsL ls l).map fun n : Nat => (n : Int)
theorem widI_snoc (ls : List (List Int)) (l : List Int) (x : Int) : widI ls (l ++ [x]) = widI ls l ++ [((bucketL (elimAll ls l) x).length : Int)] := by
  unfold widI; rw [widthsL_snoc, List.map_append]; rfl
theorem widI_length (ls : List (List Int)) (l : List Int) : (widI ls l).length = l.length := by unfold widI; rw [List.length_map, widthsL_length]
set_option maxRecDepth 100000 in
set_option maxHeartbeats 4000000 in
theorem eliminationOk_any {k p n : Int} (hr : ringOk k p n = true) {dm : Int → Int} {U : List Int} {ts : List (NT k p n)} {op : List Int} (hN : IsN k p n dm U ts op) (tv ov : Value) (w : World) (hT : TensS w tv (ts.map (tenOf dm))) (hO : IntS w ov op) (od : Value) (l : List Int) (hL : IntS w od l) (hp : (closedL ts op).Perm l) :
 Calls Try.prog 81 #[.agg #[.int .i64 k, .int .i64 p, .int .i64 n, tv, ov], od] w fun e w' => e = .returned (.bool true) ∧ Ext w w' := by
 have hT0 := hT
 have hO0 := hO
 obtain ⟨m, hm⟩ : ∃ m, ts.length = m := ⟨_, rfl⟩
 obtain ⟨aV, cV, rfl, hcT1, hcT2⟩ := hT.val
 obtain ⟨aO, cO, rfl, hcO1, hcO2⟩ := hO.val
 rw [List.length_map, hm] at hT hT0 hcT1
 rw [List.length_map, hm]
 have hm12 : m ≤ 12 := by rw [← hm]; exact hN.len
 have hop12 : op.length ≤ 12 := hN.rank
 have HM := Lib.hid hm; have HR := Lib.hid hr; have HN := Lib.hid hN; have HD3 := Lib.hid hN.dims3; clear hm  hN
 have hTl : Hid ((ts.map (tenOf dm)).length = m) := Lib.hid (by rw [List.length_map]; exact HM.out)
 have HPE := Lib.hid hp; have HLN : Hid l.Nodup := Lib.hid (hp.nodup_iff.1 (closedL_nodup ts op)); clear hp
 obtain ⟨aL, cL, rfl, _, _⟩ := hL.val
 go_enter Try.func81, Try.ntmps81
 go_upto_region 1 with fail
 have hH : Held w w [] := Held.new (Ext.refl w) 0
 have hB : Held w (w.alloc (.cells #[.int .i64 k, .int .i64 p, .int .i64 n, .slice aV m cV, .slice aO op.length cO] 29)) [aB (w.heap.size) 29 [.int .i64 k, .int .i64 p, .int .i64 n, .slice aV m cV, .slice aO op.length cO]] := by
  have h := (hH.mores 1).addB 0 #[.int .i64 k, .int .i64 p, .int .i64 n, .slice aV m cV, .slice aO op.length cO] 29
  exact h
 have hsz : (w.alloc (.cells #[.int .i64 k, .int .i64 p, .int .i64 n, .slice aV m cV, .slice aO op.length cO] 29)).heap.size = w.heap.size + 1 := by simp
 generalize w.alloc (.cells #[.int .i64 k, .int .i64 p, .int .i64 n, .slice aV m cV, .slice aO op.length cO] 29) = wn1 at hB hsz ⊢
 replace hH := hB; have HSZwn1 := Lib.hid hsz; clear hB hsz
 have q0_0 := hH.cl 0 0 rfl rfl; have q0_1 := hH.cl 0 1 rfl rfl; have q0_2 := hH.cl 0 2 rfl rfl; have q0_3 := hH.cl 0 3 rfl rfl; have q0_4 := hH.cl 0 4 rfl rfl; have l0_ := hH.bl 0 rfl
 go_wp2_with fail
 clear q0_0 q0_1 q0_2 q0_3 q0_4 l0_
 refine (networkOk_any HR.out HN.out _ _ _ (hT0.ext hH.ext) (hO.ext hH.ext)).mono ?_; rintro ewn2 wn2 ⟨rfl, hwn2⟩
 replace hH : Held w wn2 [aB (w.heap.size) 29 [.int .i64 k, .int .i64 p, .int .i64 n, .slice aV m cV, .slice aO op.length cO]] := hH.grow hwn2
 clear hwn2
 have q0_0 := hH.cl 0 0 rfl rfl; have q0_1 := hH.cl 0 1 rfl rfl; have q0_2 := hH.cl 0 2 rfl rfl; have q0_3 := hH.cl 0 3 rfl rfl; have q0_4 := hH.cl 0 4 rfl rfl; have l0_ := hH.bl 0 rfl
 go_wp2_with fail
 clear q0_0 q0_1 q0_2 q0_3 q0_4 l0_
 refine (closedLabels_any HR.out HN.out _ _ _ (hT0.ext hH.ext) (hO.ext hH.ext)).mono ?_; rintro e2 w2 ⟨u, rfl, o2, h2⟩
 replace hH := hH.grow h2; have HC := o2.ints; clear h2 o2
 have q0_0 := hH.cl 0 0 rfl rfl; have q0_1 := hH.cl 0 1 rfl rfl; have q0_2 := hH.cl 0 2 rfl rfl; have q0_3 := hH.cl 0 3 rfl rfl; have q0_4 := hH.cl 0 4 rfl rfl; have l0_ := hH.bl 0 rfl
 go_wp2_with fail
 clear q0_0 q0_1 q0_2 q0_3 q0_4 l0_
 refine (sameLabels_yes _ _ _ l _ HC (hL.ext hH.ext) HPE.out HLN.out).mono ?_; rintro e3 w3 ⟨rfl, rfl⟩
 have HE := Lib.hid hH.ext; clear hH
 go_wp2
 go_ret
 exact ⟨rfl, HE.out⟩
set_option maxRecDepth 100000 in
set_option maxHeartbeats 4000000 in
theorem eliminationWidths_any {k p n : Int} (hr : ringOk k p n = true) {dm : Int → Int} {U : List Int} {ts : List (NT k p n)} {op : List Int} (hN : IsN k p n dm U ts op) (tv ov : Value) (w : World) (hT : TensS w tv (ts.map (tenOf dm))) (hO : IntS w ov op) (od : Value) (l : List Int) (hL : IntS w od l) (hp : (closedL ts op).Perm l) :
 Calls Try.prog 77 #[.agg #[.int .i64 k, .int .i64 p, .int .i64 n, tv, ov], od] w fun e w' => ∃ u, e = .returned u ∧ OwnI w' w.heap.size u (widI (ts.map (·.1)) l) ∧ Ext w w' := by
 have hT0 := hT
 have hO0 := hO
 obtain ⟨m, hm⟩ : ∃ m, ts.length = m := ⟨_, rfl⟩
 obtain ⟨aV, cV, rfl, hcT1, hcT2⟩ := hT.val
 obtain ⟨aO, cO, rfl, hcO1, hcO2⟩ := hO.val
 rw [List.length_map, hm] at hT hT0 hcT1
 rw [List.length_map, hm]
 have hm12 : m ≤ 12 := by rw [← hm]; exact hN.len
 have hop12 : op.length ≤ 12 := hN.rank
 have HM := Lib.hid hm; have HR := Lib.hid hr; have HN := Lib.hid hN; have HD3 := Lib.hid hN.dims3; clear hm  hN
 have hTl : Hid ((ts.map (tenOf dm)).length = m) := Lib.hid (by rw [List.length_map]; exact HM.out)
 have HLL : Hid (l.length ≤ 12) := Lib.hid (by
 rw [← hp.length_eq]
 unfold closedL
 exact Nat.le_trans (List.length_filter_le _ _) (HN.out.uni.ax HN.out.ascSub).rank)
 have HPE := Lib.hid hp; clear hp
 have HLU := Lib.hid (lists_ok HN.out)
 have HLM : Hid ((ts.map (·.1)).length ≤ 12) := Lib.hid (by rw [List.length_map]; exact HN.out.len)
 obtain ⟨LS, hLS⟩ : ∃ q, ts.map (·.1) = q := ⟨_, rfl⟩
 rw [hLS] at HLU HLM ⊢
 have HLS := Lib.hid hLS; clear hLS
 obtain ⟨aL, cL, rfl, _, _⟩ := hL.val
 have hl12 : l.length ≤ 12 := HLL.out
 go_enter Try.func77, Try.ntmps77
 go_upto_region 1 with fail
 have hH : Held w w [] := Held.new (Ext.refl w) 0
 have hB : Held w (w.alloc (.cells #[.int .i64 k, .int .i64 p, .int .i64 n, .slice aV m cV, .slice aO op.length cO] 29)) [aB (w.heap.size) 29 [.int .i64 k, .int .i64 p, .int .i64 n, .slice aV m cV, .slice aO op.length cO]] := by
  have h := (hH.mores 1).addB 0 #[.int .i64 k, .int .i64 p, .int .i64 n, .slice aV m cV, .slice aO op.length cO] 29
  exact h
 have hsz : (w.alloc (.cells #[.int .i64 k, .int .i64 p, .int .i64 n, .slice aV m cV, .slice aO op.length cO] 29)).heap.size = w.heap.size + 1 := by simp
 generalize w.alloc (.cells #[.int .i64 k, .int .i64 p, .int .i64 n, .slice aV m cV, .slice aO op.length cO] 29) = wn1 at hB hsz ⊢
 replace hH := hB; have HSZwn1 := Lib.hid hsz; clear hB hsz
 have q0_0 := hH.cl 0 0 rfl rfl; have q0_1 := hH.cl 0 1 rfl rfl; have q0_2 := hH.cl 0 2 rfl rfl; have q0_3 := hH.cl 0 3 rfl rfl; have q0_4 := hH.cl 0 4 rfl rfl; have l0_ := hH.bl 0 rfl
 go_wp2_with fail
 clear q0_0 q0_1 q0_2 q0_3 q0_4 l0_
 refine (eliminationOk_any HR.out HN.out _ _ _ (hT0.ext hH.ext) (hO.ext hH.ext) _ l (hL.ext hH.ext) HPE.out).mono ?_; rintro e1 w1 ⟨rfl, h1⟩
 replace hH := hH.grow h1; clear h1
 have q0_0 := hH.cl 0 0 rfl rfl; have q0_1 := hH.cl 0 1 rfl rfl; have q0_2 := hH.cl 0 2 rfl rfl; have q0_3 := hH.cl 0 3 rfl rfl; have q0_4 := hH.cl 0 4 rfl rfl; have l0_ := hH.bl 0 rfl
 go_wp2_with fail
 clear q0_0 q0_1 q0_2 q0_3 q0_4 l0_
 refine (labelLists_any HR.out HN.out _ _ _ (hT0.ext hH.ext) (hO.ext hH.ext)).mono ?_; rintro e2 w2 ⟨vr, vs0, rfl, oR, h2, f2⟩
 rw [HLS.out] at oR
 replace hH := (hH.mores 1).add 1 (A := aLs vr vs0 LS) h2 oR f2; clear h2 oR f2
 replace hH : Held w w2 [aB (w.heap.size) 29 [.int .i64 k, .int .i64 p, .int .i64 n, .slice aV m cV, .slice aO op.length cO], aLs vr vs0 LS] := hH
 have q0_0 := hH.cl 0 0 rfl rfl; have q0_1 := hH.cl 0 1 rfl rfl; have q0_2 := hH.cl 0 2 rfl rfl; have q0_3 := hH.cl 0 3 rfl rfl; have q0_4 := hH.cl 0 4 rfl rfl; have l0_ := hH.bl 0 rfl
 go_wp2_with fail
 clear q0_0 q0_1 q0_2 q0_3 q0_4 l0_
 replace hH := hH.nilI
 replace hH : Held w w2 [aB (w.heap.size) 29 [.int .i64 k, .int .i64 p, .int .i64 n, .slice aV m cV, .slice aO op.length cO], aLs vr vs0 LS, aI (.slice none 0 0) []] := hH
 go_loopw [5, 6, 17] (fun vn vl i wr => ∃ (j : Nat) (vs : List Value), j ≤ l.length ∧ i = .int .i64 (j : Int) ∧ Held w wr [aB (w.heap.size) 29 [.int .i64 k, .int .i64 p, .int .i64 n, .slice aV m cV, .slice aO op.length cO], aLs vl vs (elimAll LS (l.take j)), aI vn (widI LS (l.take j))]) (fun vn vl i wr => l.length - (RowKit.intOf i).toNat)
 case atStart => exact ⟨0, _, Nat.zero_le _, rfl, hH⟩
 case round =>
  clear hH
  obtain ⟨j, vs, hj, rfl, hH⟩ := hrel
  obtain ⟨wq, rfl⟩ : ∃ q, q = wr := ⟨wr, rfl⟩
  have HEU := Lib.hid (HLU.out.all (l.take j))
  have HEN : Hid ((elimAll LS (l.take j)).length ≤ 1000) := Lib.hid (by
   have h := elimAll_len (l.take j) LS
   have h1 := HLM.out
   have h2 : (l.take j).length ≤ 12 := by rw [List.length_take]; omega
   omega)
  have HWN : Hid ((widI LS (l.take j)).length = j) := Lib.hid (by rw [widI_length, List.length_take]; omega)
  have HWS : Hid (∀ x, l[j]? = some x → widI LS (l.take (j + 1)) = widI LS (l.take j) ++ [((bucketL (elimAll LS (l.take j)) x).length : Int)] ∧ elimAll LS (l.take (j + 1)) = elimL (elimAll LS (l.take j)) x) := Lib.hid fun x h => by rw [List.take_add_one, h]; exact ⟨widI_snoc _ _ _, elimAll_snoc _ _ _⟩
  obtain ⟨EJ, hEJ⟩ : ∃ q, elimAll LS (l.take j) = q := ⟨_, rfl⟩
  obtain ⟨WJ, hWJ⟩ : ∃ q, widI LS (l.take j) = q := ⟨_, rfl⟩
  have HWJ := Lib.hid hWJ
  rw [hEJ] at HEU HEN HWS hH
  rw [hWJ] at HWN HWS hH
  clear hEJ hWJ
  obtain ⟨an, cn, rfl⟩ := (hH.own (k := 2) rfl).shape1 j HWN.out
  obtain ⟨av, cv, rfl, _, _⟩ := (hH.rowsS (k := 1) rfl).val
  by_cases hlt : j < l.length
  ·
   obtain ⟨bA, oA, x, hVa, hcx, hx, _⟩ := hL.get (i := j) hlt
   subst hVa
   have HX := Lib.hid (HWS.out x hx); clear hx
   have c_x := hH.ext.cell hcx; have q0_0 := hH.cl 0 0 rfl rfl; have q0_1 := hH.cl 0 1 rfl rfl; have q0_2 := hH.cl 0 2 rfl rfl; have q0_3 := hH.cl 0 3 rfl rfl; have q0_4 := hH.cl 0 4 rfl rfl; have l0_ := hH.bl 0 rfl
   go_wp2_with fail
   clear q0_0 q0_1 q0_2 q0_3 q0_4 l0_
   refine (bucketLabels_any HEU.out _ x _ (hH.rowsS (k := 1) rfl)).mono ?_; rintro e4 w4 ⟨v4, rfl, o4, h4⟩
   replace hH := hH.grow h4; clear h4
   have hb12 : (bucketL EJ x).length ≤ 12 := HEU.out.bucket x
   obtain ⟨BN, hBN⟩ : ∃ q, (bucketL EJ x).length = q := ⟨_, rfl⟩
   rw [hBN] at hb12
   obtain ⟨eb, cb, rfl⟩ := o4.shape1 BN hBN
   rw [hBN] at HX; clear hBN o4
   have q0_0 := hH.cl 0 0 rfl rfl; have q0_1 := hH.cl 0 1 rfl rfl; have q0_2 := hH.cl 0 2 rfl rfl; have q0_3 := hH.cl 0 3 rfl rfl; have q0_4 := hH.cl 0 4 rfl rfl; have l0_ := hH.bl 0 rfl
   go_wp2_with (at_builtin; refine wpList_app _ rfl _ _ 27 rfl _ _ rfl rfl _ (run_push _ _ w.heap.size _ WJ BN (hH.own (k := 2) rfl) (by rw [HWN.out]; omega) hH.size) ?_; rintro v6 w6 ⟨o6, g6, n6⟩)
   clear q0_0 q0_1 q0_2 q0_3 q0_4 l0_
   replace hH := hH.pushed (k := 2) rfl o6 g6 n6; clear o6 g6 n6
   replace hH : Held w w6 [aB (w.heap.size) 29 [.int .i64 k, .int .i64 p, .int .i64 n, .slice aV m cV, .slice aO op.length cO], aLs (.slice av EJ.length cv) vs EJ, aI v6 (WJ ++ [(BN : Int)])] := hH
   have q0_0 := hH.cl 0 0 rfl rfl; have q0_1 := hH.cl 0 1 rfl rfl; have q0_2 := hH.cl 0 2 rfl rfl; have q0_3 := hH.cl 0 3 rfl rfl; have q0_4 := hH.cl 0 4 rfl rfl; have l0_ := hH.bl 0 rfl
   go_wp2_with fail
   clear q0_0 q0_1 q0_2 q0_3 q0_4 l0_
   refine (eliminateFrom_any HEU.out HEN.out _ vs x _ (hH.get (k := 1) rfl)).mono ?_; rintro e7 w7 ⟨v7, us, rfl, o7, h7, f7⟩
   rw [← HX.out.2] at o7
   replace hH := hH.turn (k := 1) (A := aLs v7 us (elimAll LS (l.take (j + 1)))) rfl (ob := none) (h7.gr none) (fun b hb => by cases hb) o7 (fun b hb => (f7 b hb).imp (fun h => List.mem_append_right _ h) id); clear h7 o7 f7
   go_wp2_with fail
   go_roundw
   case rel => exact ⟨j + 1, us, by omega, by go_num, by rw [HX.out.1]; exact hH⟩
   case measure => simp [RowKit.intOf]; omega
  ·
   have hje : j = l.length := by omega
   have HF : Hid (widI LS l = WJ) := Lib.hid (by rw [← HWJ.out, hje, List.take_length])
   have HO := Lib.hid (hH.own (k := 2) rfl); have HE := Lib.hid hH.ext; clear hH hje
   go_wp2
   go_ret
   exact ⟨_, rfl, by rw [HF.out]; exact HO.out, HE.out⟩
end Go.Proofs.Ytpegckmagiaggaa
