/- NetworkValue of the program. -/
import Derived.Test.YtpegckmagiaggaaEBase
import Derived.Test.YtpegckmagiaggaaENetVW
import Derived.Test.YtpegckmagiaggaaEG13
import Derived.Test.YtpegckmagiaggaaEContrW
namespace Go.Proofs.Ytpegckmagiaggaa
open Go.RowKit
set_option linter.unusedSimpArgs false
set_option linter.unusedVariables false
theorem axesOf_ten {dm : Int → Int} {S L : List Int} (hL : ∀ x ∈ L, (0 ≤ x ∧ x ≤ 99) ∧ x ∈ S) (hlen : L.length ≤ 1000) (v : Value) (w : World) (hv : IntS w v L) :
    Calls Try.prog 104 #[.agg (arrV (arrL dm S)), v] w fun e w' => ∃ u, e = .returned u ∧ OwnT w' w.heap.size u L (L.map dm) [] ∧ Ext w w' :=
  (axesOf_any hL hlen v w hv).mono fun e w' ⟨x, y, he, hJ⟩ => ⟨_, he, hJ.nilI.close3 (i := 0) (j := 1) (m := 2) rfl rfl rfl (by decide) (by decide) (by decide), hJ.ext⟩
theorem openAxes_ten {k p n : Int} (hr : ringOk k p n = true) {dm : Int → Int} {U : List Int} {ts : List (NT k p n)} {op : List Int} (hN : IsN k p n dm U ts op) (tv ov : Value) (w : World) (hT : TensS w tv (ts.map (tenOf dm))) (hO : IntS w ov op) :
    Calls Try.prog 106 #[.agg #[.int .i64 k, .int .i64 p, .int .i64 n, tv, ov]] w fun e w' => ∃ u, e = .returned u ∧ OwnT w' w.heap.size u op (op.map dm) [] ∧ Ext w w' :=
  (openAxes_any hr hN tv ov w hT hO).mono fun e w' ⟨x, y, he, hJ⟩ => ⟨_, he, hJ.nilI.close3 (i := 0) (j := 1) (m := 2) rfl rfl rfl (by decide) (by decide) (by decide), hJ.ext⟩
theorem OwnT.shape3 {w : World} {B : Nat} {v : Value} {L D X : List Int} (h : OwnT w B v L D X) (k1 k2 k3 : Nat) (h1 : L.length = k1) (h2 : D.length = k2) (h3 : X.length = k3) :
    ∃ a1 c1 a2 c2 a3 c3, v = .agg #[.slice a1 k1 c1, .slice a2 k2 c2, .slice a3 k3 c3] := h.shapeN h1 h2 h3
theorem OwnI.shape1 {w : World} {B : Nat} {v : Value} {l : List Int} (h : OwnI w B v l) (k1 : Nat) (h1 : l.length = k1) : ∃ a c, v = .slice a k1 c := h.shapeN h1
theorem IsT.flatL {k p n : Int} {dm : Int → Int} {U : List Int} (hr : ringOk k p n = true) {L : List Int} {xs : List (El k p n)} (h : IsT k p n dm U L xs) : (flat xs).length ≤ 1048576 := by
  obtain ⟨P0, W, hP, hW, hP1, hP2, hW1', hW6, hXl⟩ := (h.ok hr).nat hr
  have h1 := h.small
  rw [flat_length hW, h.len]
  have := Nat.mul_le_mul h1 hW6
  omega
/-- Rows that are filled from the left. -/
def fillR (R : List (List Int)) (j : Nat) : List (List Int) := R.take j ++ List.replicate (R.length - j) []
theorem fillR_zero (R : List (List Int)) : fillR R 0 = List.replicate R.length [] := by simp [fillR]
theorem fillR_all (R : List (List Int)) : fillR R R.length = R := by simp [fillR]
theorem fillR_len (R : List (List Int)) (j : Nat) (h : j ≤ R.length) : (fillR R j).length = R.length := by simp [fillR]; omega
theorem fillR_set {R : List (List Int)} {j : Nat} {x : List Int} (h : R[j]? = some x) : (fillR R j).set j x = fillR R (j + 1) := by
  obtain ⟨hlt, rfl⟩ := List.getElem?_eq_some_iff.1 h
  have e : R.length - j = (R.length - (j + 1)) + 1 := by omega
  have e2 : (R.take j).length = j := by rw [List.length_take]; omega
  unfold fillR
  rw [e, List.replicate_succ, List.set_append_right _ _ (by omega), e2, Nat.sub_self, List.set_cons_zero, List.take_succ_eq_append_getElem hlt, List.append_assoc]
  rfl
section
variable {k p n : Int} (hr : ringOk k p n = true) {W : Nat} (hW : ringWidth k n = (W : Int))
variable {dm : Int → Int} {U : List Int} {ts : List (NT k p n)} {op : List Int}
/-- The strides of the tensors. -/
def strR (dm : Int → Int) (ts : List (NT k p n)) : List (List Int) := ts.map fun t => (ascL (occ ts)).map (stride t.1 (t.1.map dm))
theorem strR_get {j : Nat} {t : NT k p n} (h : ts[j]? = some t) : (strR dm ts)[j]? = some ((ascL (occ ts)).map (stride t.1 (t.1.map dm))) := by
  unfold strR; rw [List.getElem?_map, h]; rfl
theorem netZ_zero' : netZ hr dm ts op 0 = List.replicate (size (axs dm op)) (rig hr).zero := rfl
end
set_option maxRecDepth 100000 in
set_option maxHeartbeats 16000000 in
theorem networkValue_any {k p n : Int} (hr : ringOk k p n = true) {dm : Int → Int} {U : List Int} {ts : List (NT k p n)} {op : List Int} (hN : IsN k p n dm U ts op) (tv ov : Value) (w : World) (hT : TensS w tv (ts.map (tenOf dm))) (hO : IntS w ov op) :
    Calls Try.prog 31 #[.agg #[.int .i64 k, .int .i64 p, .int .i64 n, tv, ov]] w fun e w' => ∃ u, e = .returned (.tuple #[u, .bool true]) ∧ OwnT w' w.heap.size u op (op.map dm) (flat (netXs hr dm ts op)) ∧ Ext w w' := by
  have hT0 := hT
  have hO0 := hO
  obtain ⟨m, hm⟩ : ∃ m, ts.length = m := ⟨_, rfl⟩
  obtain ⟨aV, cV, rfl, hcT1, hcT2⟩ := hT.val
  obtain ⟨aO, cO, rfl, hcO1, hcO2⟩ := hO.val
  rw [List.length_map, hm] at hT hT0 hcT1
  rw [List.length_map, hm]
  have hm12 : m ≤ 12 := by rw [← hm]; exact hN.len
  have hop12 : op.length ≤ 12 := hN.rank
  have HM := Lib.hid hm; have HR := Lib.hid hr; have HN := Lib.hid hN; have HD3 := Lib.hid hN.dims3; clear hm  hN
  have hTl : Hid ((ts.map (tenOf dm)).length = m) := Lib.hid (by rw [List.length_map]; exact HM.out)
  have hw := ringOk_wide hr
  have hf := ringOk_fit hr
  obtain ⟨W, hW⟩ : ∃ W : Nat, ringWidth k n = (W : Int) := ⟨(ringWidth k n).toNat, by have := hw.lo; omega⟩
  have hW1 : 1 ≤ W := by have := hw.lo; omega
  have hW6 : W ≤ 6 := by have := hw.hi; omega
  have HWW := Lib.hid hW; clear hW
  obtain ⟨AL, hAL⟩ : ∃ q, ascL (occ ts) = q := ⟨_, rfl⟩
  have SA : Hid (Sub U AL) := Lib.hid (hAL ▸ HN.out.ascSub)
  have UU := Lib.hid HN.out.uni
  have SO := Lib.hid HN.out.sub
  have hal12 : AL.length ≤ 12 := (UU.out.ax SA.out).rank
  obtain ⟨PA, hPA⟩ : ∃ q, prodL (AL.map dm) = q := ⟨_, rfl⟩
  have hpa1 : 1 ≤ PA := by rw [← hPA]; exact (UU.out.ax SA.out).pos
  have hpa2 : PA ≤ 4096 := by rw [← hPA]; exact (UU.out.ax SA.out).size
  obtain ⟨NA, hNA⟩ : ∃ q, size (axs dm AL) = q := ⟨_, rfl⟩
  have hna1 : 1 ≤ NA := by rw [← hNA]; exact (UU.out.small SA.out).2
  have HNA := Lib.hid hNA
  obtain ⟨Z, hZ⟩ : ∃ Z : Nat → List (El k p n), netZ hr dm ts op = Z := ⟨_, rfl⟩
  have HFin : Hid (netXs hr dm ts op = Z NA) := Lib.hid (by rw [← hZ, ← hNA, ← hAL]; exact (netZ_all hr HN.out).symm)
  obtain ⟨N, hNN⟩ : ∃ q, size (axs dm op) * W = q := ⟨_, rfl⟩
  have hn1 : 1 ≤ N := by rw [← hNN]; exact Nat.mul_le_mul (UU.out.small SO.out).2 hW1
  have hn2 : N ≤ 4096 * 6 := by rw [← hNN]; exact Nat.mul_le_mul (UU.out.small SO.out).1 hW6
  have HZL : Hid (∀ o, (flat (Z o)).length = N) := Lib.hid fun o => by rw [← hZ, flat_length HWW.out, netZ_length, hNN]
  have HZ0 : Hid (flat (Z 0) = rep (prodL (op.map dm)).toNat (zeroL k p n)) := Lib.hid (by
    rw [← hZ, netZ_zero', ← flat_rep]
    show rep (size (axs dm op)) (zeroL k p n) = _
    have := UU.out.size SO.out
    congr 1; omega)
  obtain ⟨σ, hσ⟩ : ∃ σ : Nat → Int → Int, (fun o => asg (axs dm AL) o σ0) = σ := ⟨_, rfl⟩
  have hσo : ∀ o, asg (axs dm AL) o σ0 = σ o := fun o => congrFun hσ o
  obtain ⟨G, hG⟩ : ∃ G : Nat → Nat → List Int, (fun o j => (netF hr dm (ts.take j) (σ o)).1) = G := ⟨_, rfl⟩
  have hGo : ∀ o j, (netF hr dm (ts.take j) (σ o)).1 = G o j := fun o j => congrFun (congrFun hG o) j
  have HGK : Hid (∀ o j, rawOk k p n (G o j) = true) := Lib.hid fun o j => by rw [← hGo]; exact (netF hr dm (ts.take j) (σ o)).2
  have HG0 : Hid (∀ o, G o 0 = oneL k p n) := Lib.hid fun o => by rw [← hGo]; rfl
  have HStep := Lib.hid (fun (o : Nat) => net_stepZ hr HWW.out HN.out (o := o))
  have HRead := Lib.hid (fun (o j : Nat) (L : List Int) (xs : List (El k p n)) (h : ts[j]? = some (L, xs)) => net_read hr HWW.out HN.out (List.mem_of_getElem? h) o)
  have HGS := Lib.hid (fun (o j : Nat) (L : List Int) (xs : List (El k p n)) (h : ts[j]? = some (L, xs)) => netF_take hr (dm := dm) h (σ o))
  have hGm : ∀ o, (netF hr dm ts (σ o)).1 = G o m := fun o => by rw [← hGo, List.take_of_length_le (by rw [HM.out]; exact Nat.le_refl _)]
  rw [hAL] at HStep HRead
  simp only [hσo] at HStep HRead
  simp only [hZ, hGm] at HStep
  simp only [hGo] at HGS
  obtain ⟨VL, hVL⟩ : ∃ VL : Nat → List Int → List (El k p n) → List Int, (fun o L xs => (valT hr dm L xs (σ o)).1) = VL := ⟨_, rfl⟩
  have hVLo : ∀ o L xs, (valT hr dm L xs (σ o)).1 = VL o L xs := fun o L xs => congrFun (congrFun (congrFun hVL o) L) xs
  have HVK : Hid (∀ o L xs, rawOk k p n (VL o L xs) = true) := Lib.hid fun o L xs => by rw [← hVLo]; exact (valT hr dm L xs (σ o)).2
  simp only [hVLo] at HRead HGS
  rw [HFin.out]
  obtain ⟨R, hR⟩ : ∃ R, strR dm ts = R := ⟨_, rfl⟩
  have HRl : Hid (R.length = m) := Lib.hid (by rw [← hR]; unfold strR; rw [List.length_map]; exact HM.out)
  have HRG : Hid (∀ j (t : NT k p n), ts[j]? = some t → R[j]? = some (AL.map (stride t.1 (t.1.map dm)))) := Lib.hid fun j t h => by rw [← hR, ← hAL]; exact strR_get h
  have hσ0 : Hid (AL.map (σ 0) = List.replicate AL.length 0) := Lib.hid (by rw [← hσo]; exact asg_zero UU.out SA.out)
  have HNext : Hid (∀ o, o < NA → nextI (AL.map dm) (AL.map (σ o)) = if o + 1 < NA then (AL.map (σ (o + 1)), true) else (AL.map (σ 0), false)) := Lib.hid fun o ho => by
    rw [← hσo, ← hσo, ← hσo, ← hNA]; exact next_asg UU.out SA.out (by rw [hNA]; exact ho)
  have HSP : Hid (∀ o, ∀ z ∈ AL.map (σ o), 0 ≤ z ∧ z ≤ 1048576) := Lib.hid fun o z hz => by rw [← hσo] at hz; have := asg_pos UU.out SA.out o z hz; omega
  have HSO : Hid (∀ z ∈ AL.map (stride op (op.map dm)), 0 ≤ z) := Lib.hid (stride_pos UU.out SO.out)
  have HST : Hid (∀ (L : List Int), Sub U L → ∀ z ∈ AL.map (stride L (L.map dm)), 0 ≤ z) := Lib.hid fun L hL => stride_pos UU.out hL
  have HAIn : Hid (∀ x ∈ AL, (0 ≤ x ∧ x ≤ 99) ∧ x ∈ occ ts) := Lib.hid fun x hx => by rw [← hAL] at hx; exact mem_ascL.1 hx
  have HAD : Hid (∀ x ∈ occ ts, 1 ≤ dm x) := Lib.hid fun x hx => (HN.out.opDim hx).1
  have HAL := Lib.hid hAL; have HPA := Lib.hid hPA
  have hmr := mkRows m (by omega)
  have hmi := mkInts AL.length (by omega)
  clear hAL hPA hNA hZ hNN hσ hG hVL hR hσo hGo hGm hVLo HFin
  go_enter Try.func31, Try.ntmps31
  go_upto_region 1 with fail
  have hH : Held w w [] := Held.new (Ext.refl w) 0
  have hB : Held w (w.alloc (.cells #[.int .i64 k, .int .i64 p, .int .i64 n, .slice aV m cV, .slice aO op.length cO] 29)) [aB (w.heap.size) 29 [.int .i64 k, .int .i64 p, .int .i64 n, .slice aV m cV, .slice aO op.length cO]] := by
    have h := (hH.mores 1).addB 0 #[.int .i64 k, .int .i64 p, .int .i64 n, .slice aV m cV, .slice aO op.length cO] 29
    exact h
  have hsz : (w.alloc (.cells #[.int .i64 k, .int .i64 p, .int .i64 n, .slice aV m cV, .slice aO op.length cO] 29)).heap.size = w.heap.size + 1 := by simp
  generalize w.alloc (.cells #[.int .i64 k, .int .i64 p, .int .i64 n, .slice aV m cV, .slice aO op.length cO] 29) = wn1 at hB hsz ⊢
  replace hH := hB; have HSZwn1 := Lib.hid hsz; clear hB hsz
  have hB : Held w (wn1.alloc (.cells #[.slice none 0 0, .slice none 0 0, .slice none 0 0] 32)) [aB (w.heap.size) 29 [.int .i64 k, .int .i64 p, .int .i64 n, .slice aV m cV, .slice aO op.length cO], aB (w.heap.size + 1) 32 [.slice none 0 0, .slice none 0 0, .slice none 0 0]] := by
    have h := (hH.mores 1).addB 1 #[.slice none 0 0, .slice none 0 0, .slice none 0 0] 32
    rw [HSZwn1.out] at h
    exact h
  have hsz : (wn1.alloc (.cells #[.slice none 0 0, .slice none 0 0, .slice none 0 0] 32)).heap.size = w.heap.size + 1 + 1 := by rw [← HSZwn1.out]; simp
  generalize wn1.alloc (.cells #[.slice none 0 0, .slice none 0 0, .slice none 0 0] 32) = wn2 at hB hsz ⊢
  replace hH := hB; have HSZwn2 := Lib.hid hsz; clear hB hsz
  have q0_0 := (hH.blk (k := 0) rfl).cell (j := 0) rfl
  have q0_1 := (hH.blk (k := 0) rfl).cell (j := 1) rfl
  have q0_2 := (hH.blk (k := 0) rfl).cell (j := 2) rfl
  have q0_3 := (hH.blk (k := 0) rfl).cell (j := 3) rfl
  have q0_4 := (hH.blk (k := 0) rfl).cell (j := 4) rfl
  have l0_ := (hH.blk (k := 0) rfl).lt
  have q1_0 := (hH.blk (k := 1) rfl).cell (j := 0) rfl
  have q1_1 := (hH.blk (k := 1) rfl).cell (j := 1) rfl
  have q1_2 := (hH.blk (k := 1) rfl).cell (j := 2) rfl
  have l1_ := (hH.blk (k := 1) rfl).lt
  go_wp2_with fail
  clear q0_0 q0_1 q0_2 q0_3 q0_4 l0_ q1_0 q1_1 q1_2 l1_
  refine (networkOk_any HR.out HN.out _ _ _ (hT0.ext hH.ext) (hO0.ext hH.ext)).mono ?_; rintro ewn3 wn3 ⟨rfl, hwn3⟩
  replace hH : Held w wn3 [aB (w.heap.size) 29 [.int .i64 k, .int .i64 p, .int .i64 n, .slice aV m cV, .slice aO op.length cO], aB (w.heap.size + 1) 32 [.slice none 0 0, .slice none 0 0, .slice none 0 0]] := hH.grow hwn3
  clear hwn3
  have q0_0 := (hH.blk (k := 0) rfl).cell (j := 0) rfl
  have q0_1 := (hH.blk (k := 0) rfl).cell (j := 1) rfl
  have q0_2 := (hH.blk (k := 0) rfl).cell (j := 2) rfl
  have q0_3 := (hH.blk (k := 0) rfl).cell (j := 3) rfl
  have q0_4 := (hH.blk (k := 0) rfl).cell (j := 4) rfl
  have l0_ := (hH.blk (k := 0) rfl).lt
  have q1_0 := (hH.blk (k := 1) rfl).cell (j := 0) rfl
  have q1_1 := (hH.blk (k := 1) rfl).cell (j := 1) rfl
  have q1_2 := (hH.blk (k := 1) rfl).cell (j := 2) rfl
  have l1_ := (hH.blk (k := 1) rfl).lt
  go_wp2_with fail
  clear q0_0 q0_1 q0_2 q0_3 q0_4 l0_ q1_0 q1_1 q1_2 l1_
  refine (dimsOf_any HD3.out (by rw [hTl.out]; omega) _ _ (hT.ext hH.ext)).mono ?_; rintro ewn4 wn4 ⟨rfl, hwn4⟩
  rw [occ3_ten]
  replace hH : Held w wn4 [aB (w.heap.size) 29 [.int .i64 k, .int .i64 p, .int .i64 n, .slice aV m cV, .slice aO op.length cO], aB (w.heap.size + 1) 32 [.slice none 0 0, .slice none 0 0, .slice none 0 0]] := hH.grow hwn4
  clear hwn4
  go_upto_region 4 with (first | (refine wpList_alloc_arr rfl rfl ?_) | (refine wpList_store_arr (A0 := (List.replicate 100 0)) rfl _ _ rfl rfl rfl (by have h := Blk.new wn4 (arrV (List.replicate 100 0)) 99; rw [arrV_list] at h; exact h) (arrL_length _ _) (List.length_replicate ..) ?_; rintro wn5 hg hB hs))
  replace hH : Held w wn5 [aB (w.heap.size) 29 [.int .i64 k, .int .i64 p, .int .i64 n, .slice aV m cV, .slice aO op.length cO], aB (w.heap.size + 1) 32 [.slice none 0 0, .slice none 0 0, .slice none 0 0], aB (wn4.heap.size) 99 (ints (arrL dm (occ ts)))] := (hH.mores 1).add 2 (((Ext.refl _).alloc _).only hg (fun q hq => by cases hq; exact Nat.le_refl _)) hB (fun q hq => by simp [aB] at hq; subst hq; exact Nat.le_refl _)
  clear hg hB hs
  replace hH := hH.mores 3
  go_upto_region 4 with fail
  replace hH : Held w wn5 [aB (w.heap.size) 29 [.int .i64 k, .int .i64 p, .int .i64 n, .slice aV m cV, .slice aO op.length cO], aB (w.heap.size + 1) 32 [.slice none 0 0, .slice none 0 0, .slice none 0 0], aB (wn4.heap.size) 99 (ints (arrL dm (occ ts))), emp, emp, emp] := hH
  refine wp_region_steps ?Fa (fun b t wx => Held w wx [aB (w.heap.size) 29 [.int .i64 k, .int .i64 p, .int .i64 n, .slice aV m cV, .slice aO op.length cO], aB (w.heap.size + 1) 32 [.slice none 0 0, .slice none 0 0, .slice none 0 0], aB (wn4.heap.size) 99 (ints (arrL dm (occ ts))), (bif b 2 then aI (t 2) AL else emp), (bif b 3 then aT (t 3) AL (AL.map dm) [] else emp), (bif b 5 then aB (blkOf (t 4)) 32 (partsOf (t 3)) else (bif b 4 then aB (blkOf (t 4)) 32 [.slice none 0 0, .slice none 0 0, .slice none 0 0] else emp))] ∧ (b 0 = true → t 0 = .agg (arrV (arrL dm (occ ts)))) ∧ (b 1 = true → t 1 = .agg (arrV (arrL dm (occ ts)))) ∧ (b 2 = true → ∃ x c, t 2 = .slice x AL.length c) ∧ (b 3 = true → ∃ p1 c1 p2 c2 p3 c3, t 3 = .agg #[.slice p1 AL.length c1, .slice p2 AL.length c2, .slice p3 0 c3]) ∧ (b 4 = true → ∃ q, t 4 = .pointer (some ⟨q, 0, none⟩))) ?hFa (by kernel_rfl) (by kernel_rfl) ?hJa ?hSa ?hEa
  (case hFa => intro t; simp only [putAll, Act.put, List.setIfInBounds_toArray, List.set_cons_zero, List.set_cons_succ, Nat.reduceAdd, Nat.zero_add]; exact rfl)
  case hJa => exact ⟨hH.grow ((Ext.refl _).drew), fun h => absurd h Bool.false_ne_true, fun h => absurd h Bool.false_ne_true, fun h => absurd h Bool.false_ne_true, fun h => absurd h Bool.false_ne_true, fun h => absurd h Bool.false_ne_true⟩
  case hSa =>
    as_aux_lemma =>
      refine AllSteps.cons (j := 1) rfl (fun b t wx hJ hb hd hcl Kc hK => ?_) ?_
      · obtain ⟨hH, v0, v1, v2, v3, v4⟩ := hJ
        refine step_load_arr rfl _ rfl rfl (hH.blk (k := 2) rfl) (arrL_length _ _) ?_
        refine hK.out _ ?_ _ ?_ ?_; rotate_left 2
        · rfl
        exact ⟨hH, fun _ => rfl, v1, v2, v3, v4⟩
      refine AllSteps.cons (j := 2) rfl (fun b t wx hJ hb hd hcl Kc hK => ?_) ?_
      · obtain ⟨hH, v0, v1, v2, v3, v4⟩ := hJ
        refine step_load_arr rfl _ rfl rfl (hH.blk (k := 2) rfl) (arrL_length _ _) ?_
        refine hK.out _ ?_ _ ?_ ?_; rotate_left 2
        · rfl
        exact ⟨hH, v0, fun _ => rfl, v2, v3, v4⟩
      refine AllSteps.cons (j := 3) rfl (fun b t wx hJ hb hd hcl Kc hK => ?_) ?_
      · obtain ⟨hH, v0, v1, v2, v3, v4⟩ := hJ
        have d1 : b 1 = true := hd.out 1 (by kernel_rfl)
        have r1 := v1 d1
        have hN := hH; (try simp only [hb, d1, cond_true, cond_false] at hN)
        go_simp
        go_at_call 89
        refine (occurring_any HAD.out _).mono ?_; rintro e2 w2 ⟨v2, rfl, o2, h2⟩
        rw [HAL.out] at o2
        obtain ⟨x2, c2, rfl, _, _⟩ := o2.ints.val
        (try go_simp)
        refine hK.out _ ?_ _ ?_ ?_; rotate_left 2
        · (try simp only [r1]); rfl
        exact ⟨by have hX := hN.addI 3 h2 o2 (Nat.le_refl _); (try simp only [List.set_cons_zero, List.set_cons_succ] at hX); simpa only [updB, updV, blkOf_mk, tup0_mk, partsOf3, Nat.reduceBEq, cond_true, cond_false, hb, d1, r1] using hX, v0, v1, fun _ => ⟨_, _, rfl⟩, v3, v4⟩
      refine AllSteps.cons (j := 4) rfl (fun b t wx hJ hb hd hcl Kc hK => ?_) ?_
      · obtain ⟨hH, v0, v1, v2, v3, v4⟩ := hJ
        have d0 : b 0 = true := hd.out 0 (by kernel_rfl)
        have d2 : b 2 = true := hd.out 2 (by kernel_rfl)
        have n5 : b 5 = false := Bool.eq_false_iff.2 fun h => absurd (hcl.out 5 3 (by kernel_rfl) (h)) (by rw [hb]; exact Bool.false_ne_true)
        have r0 := v0 d0
        have r2 := v2 d2
        obtain ⟨x_2, c_2, r2⟩ := r2
        have hN := hH; (try simp only [hb, d0, d2, n5, cond_true, cond_false] at hN)
        rw [r2] at hN -- d2
        have hL2 := hN.ints (k := 3) rfl
        go_simp
        go_at_call 104
        refine (axesOf_ten HAIn.out (by omega) _ _ hL2).mono ?_; rintro e3 w3 ⟨v3, rfl, o3, h3⟩
        obtain ⟨p1, c1, p2, c2, p3, c3, rfl⟩ := o3.shape3 (AL.length) (AL.length) (0) rfl (by rw [List.length_map]) rfl
        (try go_simp)
        refine hK.out _ ?_ _ ?_ ?_; rotate_left 2
        · (try simp only [r0, r2]); rfl
        exact ⟨by have hX := hN.addT 4 h3 o3 (Nat.le_refl _); (try simp only [List.set_cons_zero, List.set_cons_succ] at hX); simpa only [updB, updV, blkOf_mk, tup0_mk, partsOf3, Nat.reduceBEq, cond_true, cond_false, hb, d0, d2, n5, r0, r2] using hX, v0, v1, v2, fun _ => ⟨_, _, _, _, _, _, rfl⟩, v4⟩
      refine AllSteps.cons (j := 5) rfl (fun b t wx hJ hb hd hcl Kc hK => ?_) ?_
      · obtain ⟨hH, v0, v1, v2, v3, v4⟩ := hJ
        have n5 : b 5 = false := Bool.eq_false_iff.2 fun h => absurd (hcl.out 5 4 (by kernel_rfl) (h)) (by rw [hb]; exact Bool.false_ne_true)
        have hN := hH; (try simp only [hb, n5, cond_true, cond_false] at hN)
        go_simp
        refine hK.out _ ?_ _ ?_ ?_; rotate_left 2
        · rfl
        exact ⟨by have hX := hN.addB 5 #[.slice none 0 0, .slice none 0 0, .slice none 0 0] 32; (try simp only [List.set_cons_zero, List.set_cons_succ] at hX); simpa only [updB, updV, blkOf_mk, tup0_mk, partsOf3, Nat.reduceBEq, cond_true, cond_false, hb, n5] using hX, v0, v1, v2, v3, fun _ => ⟨_, rfl⟩⟩
      refine AllSteps.cons (j := 6) rfl (fun b t wx hJ hb hd hcl Kc hK => ?_) ?_
      · obtain ⟨hH, v0, v1, v2, v3, v4⟩ := hJ
        have d0 : b 0 = true := hd.out 0 (by kernel_rfl)
        have d1 : b 1 = true := hd.out 1 (by kernel_rfl)
        have d2 : b 2 = true := hd.out 2 (by kernel_rfl)
        have d3 : b 3 = true := hd.out 3 (by kernel_rfl)
        have d4 : b 4 = true := hd.out 4 (by kernel_rfl)
        have r0 := v0 d0
        have r1 := v1 d1
        have r2 := v2 d2
        have r3 := v3 d3
        have r4 := v4 d4
        obtain ⟨x_2, c_2, r2⟩ := r2
        obtain ⟨p1_3, c1_3, p2_3, c2_3, p3_3, c3_3, r3⟩ := r3
        obtain ⟨q_4, r4⟩ := r4
        have hN := hH; (try simp only [hb, d0, d1, d2, d3, d4, cond_true, cond_false] at hN)
        simp only [r4, r3, blkOf_mk, tup0_mk, partsOf3] at hN
        have B := hN.blk (k := 5) rfl
        have f0 := B.free 0; have z0 := B.cell (j := 0) rfl
        have f1 := B.free 1; have z1 := B.cell (j := 1) rfl
        have f2 := B.free 2; have z2 := B.cell (j := 2) rfl
        have lB := B.lt; have hmk0 := @tup0_mk
        go_simp
        refine hK.out _ undef _ ?_ ?_; rotate_left 1
        · (try simp only [r0, r1, r2, r3, r4]); rfl
        exact ⟨by have hX := hN.setB3' (k := 5) rfl (.slice p1_3 AL.length c1_3) (.slice p2_3 AL.length c2_3) (.slice p3_3 0 c3_3); (try simp only [List.set_cons_zero, List.set_cons_succ] at hX); simpa only [updB, updV, blkOf_mk, tup0_mk, partsOf3, Nat.reduceBEq, cond_true, cond_false, hb, d0, d1, d2, d3, d4, r0, r1, r2, r3, r4] using hX, v0, v1, v2, v3, v4⟩
      exact AllSteps.nil
  case hEa =>
    intro b t wa hJ hall
    obtain ⟨hHa, v0, v1, v2, v3, v4⟩ := hJ
    have a0 : b 0 = true := hall 0 (by decide)
    have a1 : b 1 = true := hall 1 (by decide)
    have a2 : b 2 = true := hall 2 (by decide)
    have a3 : b 3 = true := hall 3 (by decide)
    have a4 : b 4 = true := hall 4 (by decide)
    have a5 : b 5 = true := hall 5 (by decide)
    (try simp only [a0, a1, a2, a3, a4, a5, cond_true] at hHa)
    replace v0 := v0 a0
    replace v1 := v1 a1
    replace v2 := v2 a2
    replace v3 := v3 a3
    replace v4 := v4 a4
    clear hall a0 a1 a2 a3 a4 a5
    generalize t 4 = x4 at hHa v4 ⊢
    generalize t 3 = x3 at hHa v3 ⊢
    generalize t 2 = x2 at hHa v2 ⊢
    generalize t 1 = x1 at hHa v1 ⊢
    generalize t 0 = x0 at hHa v0 ⊢
    subst v0
    subst v1
    obtain ⟨xa2, ca2, rfl⟩ := v2
    obtain ⟨p1a3, c1a3, p2a3, c2a3, p3a3, c3a3, rfl⟩ := v3
    obtain ⟨qa4, rfl⟩ := v4
    simp only [blkOf_mk, tup0_mk, partsOf3] at hHa
    clear b
    replace hH := hHa; clear hHa
    replace hH : Held w wa [aB (w.heap.size) 29 [.int .i64 k, .int .i64 p, .int .i64 n, .slice aV m cV, .slice aO op.length cO], aB (w.heap.size + 1) 32 [.slice none 0 0, .slice none 0 0, .slice none 0 0], aB (wn4.heap.size) 99 (ints (arrL dm (occ ts))), aI (.slice xa2 AL.length ca2) AL, aT (.agg #[.slice p1a3 AL.length c1a3, .slice p2a3 AL.length c2a3, .slice p3a3 0 c3a3]) AL (AL.map dm) [], aB qa4 32 [.slice p1a3 AL.length c1a3, .slice p2a3 AL.length c2a3, .slice p3a3 0 c3a3]] := hH
    have q0_0 := (hH.blk (k := 0) rfl).cell (j := 0) rfl
    have q0_1 := (hH.blk (k := 0) rfl).cell (j := 1) rfl
    have q0_2 := (hH.blk (k := 0) rfl).cell (j := 2) rfl
    have q0_3 := (hH.blk (k := 0) rfl).cell (j := 3) rfl
    have q0_4 := (hH.blk (k := 0) rfl).cell (j := 4) rfl
    have l0_ := (hH.blk (k := 0) rfl).lt
    have q1_0 := (hH.blk (k := 1) rfl).cell (j := 0) rfl
    have q1_1 := (hH.blk (k := 1) rfl).cell (j := 1) rfl
    have q1_2 := (hH.blk (k := 1) rfl).cell (j := 2) rfl
    have l1_ := (hH.blk (k := 1) rfl).lt
    have q5_0 := (hH.blk (k := 5) rfl).cell (j := 0) rfl
    have q5_1 := (hH.blk (k := 5) rfl).cell (j := 1) rfl
    have q5_2 := (hH.blk (k := 5) rfl).cell (j := 2) rfl
    have l5_ := (hH.blk (k := 5) rfl).lt
    go_wp2_with fail
    clear q0_0 q0_1 q0_2 q0_3 q0_4 l0_ q1_0 q1_1 q1_2 l1_ q5_0 q5_1 q5_2 l5_
    refine (cappedProduct_any _ (AL.map dm) 65537 _ (by have h := (hH.parts (k := 4) rfl).2.1.ints; exact h) (UU.out.ax SA.out).dims (UU.out.ax SA.out).size (by omega) (by omega)).mono ?_; rintro ewn6 wn6 ⟨rfl, hwn6⟩
    rw [HPA.out]
    replace hH : Held w wn6 [aB (w.heap.size) 29 [.int .i64 k, .int .i64 p, .int .i64 n, .slice aV m cV, .slice aO op.length cO], aB (w.heap.size + 1) 32 [.slice none 0 0, .slice none 0 0, .slice none 0 0], aB (wn4.heap.size) 99 (ints (arrL dm (occ ts))), aI (.slice xa2 AL.length ca2) AL, aT (.agg #[.slice p1a3 AL.length c1a3, .slice p2a3 AL.length c2a3, .slice p3a3 0 c3a3]) AL (AL.map dm) [], aB qa4 32 [.slice p1a3 AL.length c1a3, .slice p2a3 AL.length c2a3, .slice p3a3 0 c3a3]] := hH.grow hwn6
    clear hwn6
    have hpn : ¬ (65536 : Int) < PA := by omega
    have q0_0 := (hH.blk (k := 0) rfl).cell (j := 0) rfl
    have q0_1 := (hH.blk (k := 0) rfl).cell (j := 1) rfl
    have q0_2 := (hH.blk (k := 0) rfl).cell (j := 2) rfl
    have q0_3 := (hH.blk (k := 0) rfl).cell (j := 3) rfl
    have q0_4 := (hH.blk (k := 0) rfl).cell (j := 4) rfl
    have l0_ := (hH.blk (k := 0) rfl).lt
    have q1_0 := (hH.blk (k := 1) rfl).cell (j := 0) rfl
    have q1_1 := (hH.blk (k := 1) rfl).cell (j := 1) rfl
    have q1_2 := (hH.blk (k := 1) rfl).cell (j := 2) rfl
    have l1_ := (hH.blk (k := 1) rfl).lt
    have q5_0 := (hH.blk (k := 5) rfl).cell (j := 0) rfl
    have q5_1 := (hH.blk (k := 5) rfl).cell (j := 1) rfl
    have q5_2 := (hH.blk (k := 5) rfl).cell (j := 2) rfl
    have l5_ := (hH.blk (k := 5) rfl).lt
    go_wp2_with fail
    clear q0_0 q0_1 q0_2 q0_3 q0_4 l0_ q1_0 q1_1 q1_2 l1_ q5_0 q5_1 q5_2 l5_
    clear hpn
    refine (openAxes_ten HR.out HN.out _ _ _ (hT0.ext hH.ext) (hO0.ext hH.ext)).mono ?_; rintro ewn7 wn7 ⟨v6, rfl, o6, hwn7⟩
    obtain ⟨b1, d1, b2, d2, b3, d3, rfl⟩ := o6.shape3 (op.length) (op.length) (0) rfl (by rw [List.length_map]) rfl
    replace hH : Held w wn7 [aB (w.heap.size) 29 [.int .i64 k, .int .i64 p, .int .i64 n, .slice aV m cV, .slice aO op.length cO], aB (w.heap.size + 1) 32 [.slice none 0 0, .slice none 0 0, .slice none 0 0], aB (wn4.heap.size) 99 (ints (arrL dm (occ ts))), aI (.slice xa2 AL.length ca2) AL, aT (.agg #[.slice p1a3 AL.length c1a3, .slice p2a3 AL.length c2a3, .slice p3a3 0 c3a3]) AL (AL.map dm) [], aB qa4 32 [.slice p1a3 AL.length c1a3, .slice p2a3 AL.length c2a3, .slice p3a3 0 c3a3], aT (.agg #[.slice b1 op.length d1, .slice b2 op.length d2, .slice b3 0 d3]) op (op.map dm) []] := (hH.mores 1).addT 6 hwn7 o6 (Nat.le_refl _)
    clear hwn7
    have q0_0 := (hH.blk (k := 0) rfl).cell (j := 0) rfl
    have q0_1 := (hH.blk (k := 0) rfl).cell (j := 1) rfl
    have q0_2 := (hH.blk (k := 0) rfl).cell (j := 2) rfl
    have q0_3 := (hH.blk (k := 0) rfl).cell (j := 3) rfl
    have q0_4 := (hH.blk (k := 0) rfl).cell (j := 4) rfl
    have l0_ := (hH.blk (k := 0) rfl).lt
    have q1_0 := (hH.blk (k := 1) rfl).cell (j := 0) rfl
    have q1_1 := (hH.blk (k := 1) rfl).cell (j := 1) rfl
    have q1_2 := (hH.blk (k := 1) rfl).cell (j := 2) rfl
    have l1_ := (hH.blk (k := 1) rfl).lt
    have q5_0 := (hH.blk (k := 5) rfl).cell (j := 0) rfl
    have q5_1 := (hH.blk (k := 5) rfl).cell (j := 1) rfl
    have q5_2 := (hH.blk (k := 5) rfl).cell (j := 2) rfl
    have l5_ := (hH.blk (k := 5) rfl).lt
    go_wp2_with fail
    clear q0_0 q0_1 q0_2 q0_3 q0_4 l0_ q1_0 q1_1 q1_2 l1_ q5_0 q5_1 q5_2 l5_
    have hB : Held w (wn7.alloc (.cells #[.slice b1 op.length d1, .slice b2 op.length d2, .slice b3 0 d3] 32)) [aB (w.heap.size) 29 [.int .i64 k, .int .i64 p, .int .i64 n, .slice aV m cV, .slice aO op.length cO], aB (w.heap.size + 1) 32 [.slice none 0 0, .slice none 0 0, .slice none 0 0], aB (wn4.heap.size) 99 (ints (arrL dm (occ ts))), aI (.slice xa2 AL.length ca2) AL, aT (.agg #[.slice p1a3 AL.length c1a3, .slice p2a3 AL.length c2a3, .slice p3a3 0 c3a3]) AL (AL.map dm) [], aB qa4 32 [.slice p1a3 AL.length c1a3, .slice p2a3 AL.length c2a3, .slice p3a3 0 c3a3], aT (.agg #[.slice b1 op.length d1, .slice b2 op.length d2, .slice b3 0 d3]) op (op.map dm) [], aB (wn7.heap.size) 32 [.slice b1 op.length d1, .slice b2 op.length d2, .slice b3 0 d3]] := by
      have h := (hH.mores 1).addB 7 #[.slice b1 op.length d1, .slice b2 op.length d2, .slice b3 0 d3] 32
      exact h
    have hsz : (wn7.alloc (.cells #[.slice b1 op.length d1, .slice b2 op.length d2, .slice b3 0 d3] 32)).heap.size = wn7.heap.size + 1 := by simp
    generalize wn7.alloc (.cells #[.slice b1 op.length d1, .slice b2 op.length d2, .slice b3 0 d3] 32) = wn8 at hB hsz ⊢
    replace hH := hB; have HSZwn8 := Lib.hid hsz; clear hB hsz
    have q0_0 := (hH.blk (k := 0) rfl).cell (j := 0) rfl
    have q0_1 := (hH.blk (k := 0) rfl).cell (j := 1) rfl
    have q0_2 := (hH.blk (k := 0) rfl).cell (j := 2) rfl
    have q0_3 := (hH.blk (k := 0) rfl).cell (j := 3) rfl
    have q0_4 := (hH.blk (k := 0) rfl).cell (j := 4) rfl
    have l0_ := (hH.blk (k := 0) rfl).lt
    have q1_0 := (hH.blk (k := 1) rfl).cell (j := 0) rfl
    have q1_1 := (hH.blk (k := 1) rfl).cell (j := 1) rfl
    have q1_2 := (hH.blk (k := 1) rfl).cell (j := 2) rfl
    have l1_ := (hH.blk (k := 1) rfl).lt
    have q5_0 := (hH.blk (k := 5) rfl).cell (j := 0) rfl
    have q5_1 := (hH.blk (k := 5) rfl).cell (j := 1) rfl
    have q5_2 := (hH.blk (k := 5) rfl).cell (j := 2) rfl
    have l5_ := (hH.blk (k := 5) rfl).lt
    have q7_0 := (hH.blk (k := 7) rfl).cell (j := 0) rfl
    have q7_1 := (hH.blk (k := 7) rfl).cell (j := 1) rfl
    have q7_2 := (hH.blk (k := 7) rfl).cell (j := 2) rfl
    have l7_ := (hH.blk (k := 7) rfl).lt
    go_upto_region 8 with fail
    clear q0_0 q0_1 q0_2 q0_3 q0_4 l0_ q1_0 q1_1 q1_2 l1_ q5_0 q5_1 q5_2 l5_ q7_0 q7_1 q7_2 l7_
    replace hH := hH.mores 3
    replace hH : Held w wn8 [aB (w.heap.size) 29 [.int .i64 k, .int .i64 p, .int .i64 n, .slice aV m cV, .slice aO op.length cO], aB (w.heap.size + 1) 32 [.slice none 0 0, .slice none 0 0, .slice none 0 0], aB (wn4.heap.size) 99 (ints (arrL dm (occ ts))), aI (.slice xa2 AL.length ca2) AL, aT (.agg #[.slice p1a3 AL.length c1a3, .slice p2a3 AL.length c2a3, .slice p3a3 0 c3a3]) AL (AL.map dm) [], aB qa4 32 [.slice p1a3 AL.length c1a3, .slice p2a3 AL.length c2a3, .slice p3a3 0 c3a3], aT (.agg #[.slice b1 op.length d1, .slice b2 op.length d2, .slice b3 0 d3]) op (op.map dm) [], aB (wn7.heap.size) 32 [.slice b1 op.length d1, .slice b2 op.length d2, .slice b3 0 d3], emp, emp, emp] := hH
    refine wp_region_steps ?Fb (fun b t wx => Held w wx [aB (w.heap.size) 29 [.int .i64 k, .int .i64 p, .int .i64 n, .slice aV m cV, .slice aO op.length cO], aB (w.heap.size + 1) 32 [.slice none 0 0, .slice none 0 0, .slice none 0 0], aB (wn4.heap.size) 99 (ints (arrL dm (occ ts))), aI (.slice xa2 AL.length ca2) AL, aT (.agg #[.slice p1a3 AL.length c1a3, .slice p2a3 AL.length c2a3, .slice p3a3 0 c3a3]) AL (AL.map dm) [], aB qa4 32 [.slice p1a3 AL.length c1a3, .slice p2a3 AL.length c2a3, .slice p3a3 0 c3a3], aT (.agg #[.slice b1 op.length d1, .slice b2 op.length d2, .slice b3 0 d3]) op (op.map dm) [], aB (wn7.heap.size) 32 [.slice b1 op.length d1, .slice b2 op.length d2, .slice b3 0 d3], (bif b 8 then aI (t 8) (zeroL k p n) else emp), (bif b 9 then aT (t 9) op (op.map dm) (flat (Z 0)) else emp), (bif b 11 then aB (blkOf (t 10)) 32 (partsOf (t 9)) else (bif b 10 then aB (blkOf (t 10)) 32 [.slice none 0 0, .slice none 0 0, .slice none 0 0] else emp))] ∧ (b 0 = true → t 0 = .pointer (some ⟨w.heap.size, 0, none⟩)) ∧ (b 1 = true → t 1 = .agg #[.int .i64 k, .int .i64 p, .int .i64 n]) ∧ (b 2 = true → t 2 = .pointer (some ⟨wn7.heap.size, 0, none⟩)) ∧ (b 3 = true → t 3 = .slice b1 op.length d1) ∧ (b 4 = true → t 4 = .pointer (some ⟨wn7.heap.size, 1, none⟩)) ∧ (b 5 = true → t 5 = .slice b2 op.length d2) ∧ (b 6 = true → t 6 = .pointer (some ⟨w.heap.size, 0, none⟩)) ∧ (b 7 = true → t 7 = .agg #[.int .i64 k, .int .i64 p, .int .i64 n]) ∧ (b 8 = true → ∃ x c, t 8 = .slice x (zeroL k p n).length c) ∧ (b 9 = true → ∃ p1 c1 p2 c2 p3 c3, t 9 = .agg #[.slice p1 op.length c1, .slice p2 op.length c2, .slice p3 N c3]) ∧ (b 10 = true → ∃ q, t 10 = .pointer (some ⟨q, 0, none⟩))) ?hFb (by kernel_rfl) (by kernel_rfl) ?hJb ?hSb ?hEb
    (case hFb => intro t; simp only [putAll, Act.put, List.setIfInBounds_toArray, List.set_cons_zero, List.set_cons_succ, Nat.reduceAdd, Nat.zero_add]; exact rfl)
    case hJb => exact ⟨hH.grow ((Ext.refl _).drew), fun h => absurd h Bool.false_ne_true, fun h => absurd h Bool.false_ne_true, fun h => absurd h Bool.false_ne_true, fun h => absurd h Bool.false_ne_true, fun h => absurd h Bool.false_ne_true, fun h => absurd h Bool.false_ne_true, fun h => absurd h Bool.false_ne_true, fun h => absurd h Bool.false_ne_true, fun h => absurd h Bool.false_ne_true, fun h => absurd h Bool.false_ne_true, fun h => absurd h Bool.false_ne_true⟩
    case hSb =>
      as_aux_lemma =>
        refine AllSteps.cons (j := 1) rfl (fun b t wx hJ hb hd hcl Kc hK => ?_) ?_
        · obtain ⟨hH, v0, v1, v2, v3, v4, v5, v6, v7, v8, v9, v10⟩ := hJ
          go_simp
          refine hK.out _ ?_ _ ?_ ?_; rotate_left 2
          · rfl
          exact ⟨hH, fun _ => rfl, v1, v2, v3, v4, v5, v6, v7, v8, v9, v10⟩
        refine AllSteps.cons (j := 2) rfl (fun b t wx hJ hb hd hcl Kc hK => ?_) ?_
        · obtain ⟨hH, v0, v1, v2, v3, v4, v5, v6, v7, v8, v9, v10⟩ := hJ
          have d0 : b 0 = true := hd.out 0 (by kernel_rfl)
          have r0 := v0 d0
          have q0_0 := (hH.blk (k := 0) rfl).cell (j := 0) rfl
          have q0_1 := (hH.blk (k := 0) rfl).cell (j := 1) rfl
          have q0_2 := (hH.blk (k := 0) rfl).cell (j := 2) rfl
          go_simp
          refine hK.out _ ?_ _ ?_ ?_; rotate_left 2
          · (try simp only [r0]); rfl
          exact ⟨hH, v0, fun _ => rfl, v2, v3, v4, v5, v6, v7, v8, v9, v10⟩
        refine AllSteps.cons (j := 3) rfl (fun b t wx hJ hb hd hcl Kc hK => ?_) ?_
        · obtain ⟨hH, v0, v1, v2, v3, v4, v5, v6, v7, v8, v9, v10⟩ := hJ
          go_simp
          refine hK.out _ ?_ _ ?_ ?_; rotate_left 2
          · rfl
          exact ⟨hH, v0, v1, fun _ => rfl, v3, v4, v5, v6, v7, v8, v9, v10⟩
        refine AllSteps.cons (j := 4) rfl (fun b t wx hJ hb hd hcl Kc hK => ?_) ?_
        · obtain ⟨hH, v0, v1, v2, v3, v4, v5, v6, v7, v8, v9, v10⟩ := hJ
          have d2 : b 2 = true := hd.out 2 (by kernel_rfl)
          have r2 := v2 d2
          have q7_0 := (hH.blk (k := 7) rfl).cell (j := 0) rfl
          go_simp
          refine hK.out _ ?_ _ ?_ ?_; rotate_left 2
          · (try simp only [r2]); rfl
          exact ⟨hH, v0, v1, v2, fun _ => rfl, v4, v5, v6, v7, v8, v9, v10⟩
        refine AllSteps.cons (j := 5) rfl (fun b t wx hJ hb hd hcl Kc hK => ?_) ?_
        · obtain ⟨hH, v0, v1, v2, v3, v4, v5, v6, v7, v8, v9, v10⟩ := hJ
          go_simp
          refine hK.out _ ?_ _ ?_ ?_; rotate_left 2
          · rfl
          exact ⟨hH, v0, v1, v2, v3, fun _ => rfl, v5, v6, v7, v8, v9, v10⟩
        refine AllSteps.cons (j := 6) rfl (fun b t wx hJ hb hd hcl Kc hK => ?_) ?_
        · obtain ⟨hH, v0, v1, v2, v3, v4, v5, v6, v7, v8, v9, v10⟩ := hJ
          have d4 : b 4 = true := hd.out 4 (by kernel_rfl)
          have r4 := v4 d4
          have q7_1 := (hH.blk (k := 7) rfl).cell (j := 1) rfl
          go_simp
          refine hK.out _ ?_ _ ?_ ?_; rotate_left 2
          · (try simp only [r4]); rfl
          exact ⟨hH, v0, v1, v2, v3, v4, fun _ => rfl, v6, v7, v8, v9, v10⟩
        refine AllSteps.cons (j := 7) rfl (fun b t wx hJ hb hd hcl Kc hK => ?_) ?_
        · obtain ⟨hH, v0, v1, v2, v3, v4, v5, v6, v7, v8, v9, v10⟩ := hJ
          go_simp
          refine hK.out _ ?_ _ ?_ ?_; rotate_left 2
          · rfl
          exact ⟨hH, v0, v1, v2, v3, v4, v5, fun _ => rfl, v7, v8, v9, v10⟩
        refine AllSteps.cons (j := 8) rfl (fun b t wx hJ hb hd hcl Kc hK => ?_) ?_
        · obtain ⟨hH, v0, v1, v2, v3, v4, v5, v6, v7, v8, v9, v10⟩ := hJ
          have d6 : b 6 = true := hd.out 6 (by kernel_rfl)
          have r6 := v6 d6
          have q0_0 := (hH.blk (k := 0) rfl).cell (j := 0) rfl
          have q0_1 := (hH.blk (k := 0) rfl).cell (j := 1) rfl
          have q0_2 := (hH.blk (k := 0) rfl).cell (j := 2) rfl
          go_simp
          refine hK.out _ ?_ _ ?_ ?_; rotate_left 2
          · (try simp only [r6]); rfl
          exact ⟨hH, v0, v1, v2, v3, v4, v5, v6, fun _ => rfl, v8, v9, v10⟩
        refine AllSteps.cons (j := 9) rfl (fun b t wx hJ hb hd hcl Kc hK => ?_) ?_
        · obtain ⟨hH, v0, v1, v2, v3, v4, v5, v6, v7, v8, v9, v10⟩ := hJ
          have d7 : b 7 = true := hd.out 7 (by kernel_rfl)
          have r7 := v7 d7
          have hN := hH; (try simp only [hb, d7, cond_true, cond_false] at hN)
          go_simp
          go_at_call 97
          refine (rawZero_any k p n hw _).mono ?_; rintro e8 w8 ⟨v8, rfl, o8, h8⟩
          obtain ⟨x8, c8, rfl, _, _⟩ := o8.ints.val
          (try go_simp)
          refine hK.out _ ?_ _ ?_ ?_; rotate_left 2
          · (try simp only [r7]); rfl
          exact ⟨by have hX := hN.addI 8 h8 o8 (Nat.le_refl _); (try simp only [List.set_cons_zero, List.set_cons_succ] at hX); simpa only [updB, updV, blkOf_mk, tup0_mk, partsOf3, Nat.reduceBEq, cond_true, cond_false, hb, d7, r7] using hX, v0, v1, v2, v3, v4, v5, v6, v7, fun _ => ⟨_, _, rfl⟩, v9, v10⟩
        refine AllSteps.cons (j := 10) rfl (fun b t wx hJ hb hd hcl Kc hK => ?_) ?_
        · obtain ⟨hH, v0, v1, v2, v3, v4, v5, v6, v7, v8, v9, v10⟩ := hJ
          have d1 : b 1 = true := hd.out 1 (by kernel_rfl)
          have d3 : b 3 = true := hd.out 3 (by kernel_rfl)
          have d5 : b 5 = true := hd.out 5 (by kernel_rfl)
          have d8 : b 8 = true := hd.out 8 (by kernel_rfl)
          have n11 : b 11 = false := Bool.eq_false_iff.2 fun h => absurd (hcl.out 11 9 (by kernel_rfl) (h)) (by rw [hb]; exact Bool.false_ne_true)
          have r1 := v1 d1
          have r3 := v3 d3
          have r5 := v5 d5
          have r8 := v8 d8
          obtain ⟨x_8, c_8, r8⟩ := r8
          have hN := hH; (try simp only [hb, d1, d3, d5, d8, n11, cond_true, cond_false] at hN)
          rw [r8] at hN -- d8
          have hL8 := hN.ints (k := 8) rfl
          have hLA := hN.parts (k := 6) rfl
          go_simp
          go_at_call 96
          refine (fillTensor_any k p n _ _ _ op (op.map dm) (zeroL k p n) _ hLA.1.ints hLA.2.1.ints hL8 hop12 (by rw [List.length_map]; exact hop12) (by rw [zeroL_length]; have := hw.hi; omega) (UU.out.ax SO.out).dims (UU.out.ax SO.out).size).mono ?_; rintro e9 w9 ⟨v9, rfl, o9, h9⟩
          rw [← HZ0.out] at o9
          obtain ⟨p1, c1, p2, c2, p3, c3, rfl⟩ := o9.shape3 (op.length) (op.length) (N) rfl (by rw [List.length_map]) (HZL.out 0)
          (try go_simp)
          refine hK.out _ ?_ _ ?_ ?_; rotate_left 2
          · (try simp only [r1, r3, r5, r8]); rfl
          exact ⟨by have hX := hN.addT 9 h9 o9 (Nat.le_refl _); (try simp only [List.set_cons_zero, List.set_cons_succ] at hX); simpa only [updB, updV, blkOf_mk, tup0_mk, partsOf3, Nat.reduceBEq, cond_true, cond_false, hb, d1, d3, d5, d8, n11, r1, r3, r5, r8] using hX, v0, v1, v2, v3, v4, v5, v6, v7, v8, fun _ => ⟨_, _, _, _, _, _, rfl⟩, v10⟩
        refine AllSteps.cons (j := 11) rfl (fun b t wx hJ hb hd hcl Kc hK => ?_) ?_
        · obtain ⟨hH, v0, v1, v2, v3, v4, v5, v6, v7, v8, v9, v10⟩ := hJ
          have n11 : b 11 = false := Bool.eq_false_iff.2 fun h => absurd (hcl.out 11 10 (by kernel_rfl) (h)) (by rw [hb]; exact Bool.false_ne_true)
          have hN := hH; (try simp only [hb, n11, cond_true, cond_false] at hN)
          go_simp
          refine hK.out _ ?_ _ ?_ ?_; rotate_left 2
          · rfl
          exact ⟨by have hX := hN.addB 10 #[.slice none 0 0, .slice none 0 0, .slice none 0 0] 32; (try simp only [List.set_cons_zero, List.set_cons_succ] at hX); simpa only [updB, updV, blkOf_mk, tup0_mk, partsOf3, Nat.reduceBEq, cond_true, cond_false, hb, n11] using hX, v0, v1, v2, v3, v4, v5, v6, v7, v8, v9, fun _ => ⟨_, rfl⟩⟩
        refine AllSteps.cons (j := 12) rfl (fun b t wx hJ hb hd hcl Kc hK => ?_) ?_
        · obtain ⟨hH, v0, v1, v2, v3, v4, v5, v6, v7, v8, v9, v10⟩ := hJ
          have d0 : b 0 = true := hd.out 0 (by kernel_rfl)
          have d1 : b 1 = true := hd.out 1 (by kernel_rfl)
          have d2 : b 2 = true := hd.out 2 (by kernel_rfl)
          have d3 : b 3 = true := hd.out 3 (by kernel_rfl)
          have d4 : b 4 = true := hd.out 4 (by kernel_rfl)
          have d5 : b 5 = true := hd.out 5 (by kernel_rfl)
          have d6 : b 6 = true := hd.out 6 (by kernel_rfl)
          have d7 : b 7 = true := hd.out 7 (by kernel_rfl)
          have d8 : b 8 = true := hd.out 8 (by kernel_rfl)
          have d9 : b 9 = true := hd.out 9 (by kernel_rfl)
          have d10 : b 10 = true := hd.out 10 (by kernel_rfl)
          have r0 := v0 d0
          have r1 := v1 d1
          have r2 := v2 d2
          have r3 := v3 d3
          have r4 := v4 d4
          have r5 := v5 d5
          have r6 := v6 d6
          have r7 := v7 d7
          have r8 := v8 d8
          have r9 := v9 d9
          have r10 := v10 d10
          obtain ⟨x_8, c_8, r8⟩ := r8
          obtain ⟨p1_9, c1_9, p2_9, c2_9, p3_9, c3_9, r9⟩ := r9
          obtain ⟨q_10, r10⟩ := r10
          have hN := hH; (try simp only [hb, d0, d1, d2, d3, d4, d5, d6, d7, d8, d9, d10, cond_true, cond_false] at hN)
          simp only [r10, r9, blkOf_mk, tup0_mk, partsOf3] at hN
          have B := hN.blk (k := 10) rfl
          have f0 := B.free 0; have z0 := B.cell (j := 0) rfl
          have f1 := B.free 1; have z1 := B.cell (j := 1) rfl
          have f2 := B.free 2; have z2 := B.cell (j := 2) rfl
          have lB := B.lt; have hmk0 := @tup0_mk
          go_simp
          refine hK.out _ undef _ ?_ ?_; rotate_left 1
          · (try simp only [r0, r1, r2, r3, r4, r5, r6, r7, r8, r9, r10]); rfl
          exact ⟨by have hX := hN.setB3' (k := 10) rfl (.slice p1_9 op.length c1_9) (.slice p2_9 op.length c2_9) (.slice p3_9 N c3_9); (try simp only [List.set_cons_zero, List.set_cons_succ] at hX); simpa only [updB, updV, blkOf_mk, tup0_mk, partsOf3, Nat.reduceBEq, cond_true, cond_false, hb, d0, d1, d2, d3, d4, d5, d6, d7, d8, d9, d10, r0, r1, r2, r3, r4, r5, r6, r7, r8, r9, r10] using hX, v0, v1, v2, v3, v4, v5, v6, v7, v8, v9, v10⟩
        exact AllSteps.nil
    case hEb =>
      intro b t wb hJ hall
      obtain ⟨hHb, v0, v1, v2, v3, v4, v5, v6, v7, v8, v9, v10⟩ := hJ
      have a0 : b 0 = true := hall 0 (by decide)
      have a1 : b 1 = true := hall 1 (by decide)
      have a2 : b 2 = true := hall 2 (by decide)
      have a3 : b 3 = true := hall 3 (by decide)
      have a4 : b 4 = true := hall 4 (by decide)
      have a5 : b 5 = true := hall 5 (by decide)
      have a6 : b 6 = true := hall 6 (by decide)
      have a7 : b 7 = true := hall 7 (by decide)
      have a8 : b 8 = true := hall 8 (by decide)
      have a9 : b 9 = true := hall 9 (by decide)
      have a10 : b 10 = true := hall 10 (by decide)
      have a11 : b 11 = true := hall 11 (by decide)
      (try simp only [a0, a1, a2, a3, a4, a5, a6, a7, a8, a9, a10, a11, cond_true] at hHb)
      replace v0 := v0 a0
      replace v1 := v1 a1
      replace v2 := v2 a2
      replace v3 := v3 a3
      replace v4 := v4 a4
      replace v5 := v5 a5
      replace v6 := v6 a6
      replace v7 := v7 a7
      replace v8 := v8 a8
      replace v9 := v9 a9
      replace v10 := v10 a10
      clear hall a0 a1 a2 a3 a4 a5 a6 a7 a8 a9 a10 a11
      generalize t 10 = x10 at hHb v10 ⊢
      generalize t 9 = x9 at hHb v9 ⊢
      generalize t 8 = x8 at hHb v8 ⊢
      generalize t 7 = x7 at hHb v7 ⊢
      generalize t 6 = x6 at hHb v6 ⊢
      generalize t 5 = x5 at hHb v5 ⊢
      generalize t 4 = x4 at hHb v4 ⊢
      generalize t 3 = x3 at hHb v3 ⊢
      generalize t 2 = x2 at hHb v2 ⊢
      generalize t 1 = x1 at hHb v1 ⊢
      generalize t 0 = x0 at hHb v0 ⊢
      subst v0
      subst v1
      subst v2
      subst v3
      subst v4
      subst v5
      subst v6
      subst v7
      obtain ⟨xb8, cb8, rfl⟩ := v8
      obtain ⟨p1b9, c1b9, p2b9, c2b9, p3b9, c3b9, rfl⟩ := v9
      obtain ⟨qb10, rfl⟩ := v10
      simp only [blkOf_mk, tup0_mk, partsOf3] at hHb
      clear b
      replace hH := hHb; clear hHb
      replace hH : Held w wb [aB (w.heap.size) 29 [.int .i64 k, .int .i64 p, .int .i64 n, .slice aV m cV, .slice aO op.length cO], aB (w.heap.size + 1) 32 [.slice none 0 0, .slice none 0 0, .slice none 0 0], aB (wn4.heap.size) 99 (ints (arrL dm (occ ts))), aI (.slice xa2 AL.length ca2) AL, aT (.agg #[.slice p1a3 AL.length c1a3, .slice p2a3 AL.length c2a3, .slice p3a3 0 c3a3]) AL (AL.map dm) [], aB qa4 32 [.slice p1a3 AL.length c1a3, .slice p2a3 AL.length c2a3, .slice p3a3 0 c3a3], aT (.agg #[.slice b1 op.length d1, .slice b2 op.length d2, .slice b3 0 d3]) op (op.map dm) [], aB (wn7.heap.size) 32 [.slice b1 op.length d1, .slice b2 op.length d2, .slice b3 0 d3], aI (.slice xb8 (zeroL k p n).length cb8) (zeroL k p n), aT (.agg #[.slice p1b9 op.length c1b9, .slice p2b9 op.length c2b9, .slice p3b9 N c3b9]) op (op.map dm) (flat (Z 0)), aB qb10 32 [.slice p1b9 op.length c1b9, .slice p2b9 op.length c2b9, .slice p3b9 N c3b9]] := hH
      replace hH : Held w wb [aB (w.heap.size) 29 [.int .i64 k, .int .i64 p, .int .i64 n, .slice aV m cV, .slice aO op.length cO], aB (w.heap.size + 1) 32 [.slice none 0 0, .slice none 0 0, .slice none 0 0], aT (.agg #[.slice p1a3 AL.length c1a3, .slice p2a3 AL.length c2a3, .slice p3a3 0 c3a3]) AL (AL.map dm) [], aB qa4 32 [.slice p1a3 AL.length c1a3, .slice p2a3 AL.length c2a3, .slice p3a3 0 c3a3], aT (.agg #[.slice p1b9 op.length c1b9, .slice p2b9 op.length c2b9, .slice p3b9 N c3b9]) op (op.map dm) (flat (Z 0)), aB qb10 32 [.slice p1b9 op.length c1b9, .slice p2b9 op.length c2b9, .slice p3b9 N c3b9]] := hH.sub (.cons_cons _ (.cons_cons _ (.cons _ (.cons _ (.cons_cons _ (.cons_cons _ (.cons _ (.cons _ (.cons _ (.cons_cons _ (.cons_cons _ .slnil)))))))))))
      have q0_0 := (hH.blk (k := 0) rfl).cell (j := 0) rfl
      have q0_1 := (hH.blk (k := 0) rfl).cell (j := 1) rfl
      have q0_2 := (hH.blk (k := 0) rfl).cell (j := 2) rfl
      have q0_3 := (hH.blk (k := 0) rfl).cell (j := 3) rfl
      have q0_4 := (hH.blk (k := 0) rfl).cell (j := 4) rfl
      have l0_ := (hH.blk (k := 0) rfl).lt
      have q1_0 := (hH.blk (k := 1) rfl).cell (j := 0) rfl
      have q1_1 := (hH.blk (k := 1) rfl).cell (j := 1) rfl
      have q1_2 := (hH.blk (k := 1) rfl).cell (j := 2) rfl
      have l1_ := (hH.blk (k := 1) rfl).lt
      have q3_0 := (hH.blk (k := 3) rfl).cell (j := 0) rfl
      have q3_1 := (hH.blk (k := 3) rfl).cell (j := 1) rfl
      have q3_2 := (hH.blk (k := 3) rfl).cell (j := 2) rfl
      have l3_ := (hH.blk (k := 3) rfl).lt
      have q5_0 := (hH.blk (k := 5) rfl).cell (j := 0) rfl
      have q5_1 := (hH.blk (k := 5) rfl).cell (j := 1) rfl
      have q5_2 := (hH.blk (k := 5) rfl).cell (j := 2) rfl
      have l5_ := (hH.blk (k := 5) rfl).lt
      go_wp2_with fail
      clear q0_0 q0_1 q0_2 q0_3 q0_4 l0_ q1_0 q1_1 q1_2 l1_ q3_0 q3_1 q3_2 l3_ q5_0 q5_1 q5_2 l5_
      refine (stridesOf_any _ _ op (op.map dm) (flat (Z 0)) AL _ (hH.tens (k := 4) rfl) (by have h := (hH.parts (k := 2) rfl).1.ints; exact h) (by rw [List.length_map]) (UU.out.ax SO.out).dims (by have := (UU.out.ax SO.out).size; omega) (by omega)).mono ?_; rintro ewn9 wn9 ⟨vs, rfl, os, hwn9⟩
      obtain ⟨ps, cps, rfl⟩ := os.shape1 (AL.length) (by rw [List.length_map])
      replace hH : Held w wn9 [aB (w.heap.size) 29 [.int .i64 k, .int .i64 p, .int .i64 n, .slice aV m cV, .slice aO op.length cO], aB (w.heap.size + 1) 32 [.slice none 0 0, .slice none 0 0, .slice none 0 0], aT (.agg #[.slice p1a3 AL.length c1a3, .slice p2a3 AL.length c2a3, .slice p3a3 0 c3a3]) AL (AL.map dm) [], aB qa4 32 [.slice p1a3 AL.length c1a3, .slice p2a3 AL.length c2a3, .slice p3a3 0 c3a3], aT (.agg #[.slice p1b9 op.length c1b9, .slice p2b9 op.length c2b9, .slice p3b9 N c3b9]) op (op.map dm) (flat (Z 0)), aB qb10 32 [.slice p1b9 op.length c1b9, .slice p2b9 op.length c2b9, .slice p3b9 N c3b9], aI (.slice ps AL.length cps) (AL.map (stride op (op.map dm)))] := (hH.mores 1).addI 6 hwn9 os (Nat.le_refl _)
      clear hwn9
      have q0_0 := (hH.blk (k := 0) rfl).cell (j := 0) rfl
      have q0_1 := (hH.blk (k := 0) rfl).cell (j := 1) rfl
      have q0_2 := (hH.blk (k := 0) rfl).cell (j := 2) rfl
      have q0_3 := (hH.blk (k := 0) rfl).cell (j := 3) rfl
      have q0_4 := (hH.blk (k := 0) rfl).cell (j := 4) rfl
      have l0_ := (hH.blk (k := 0) rfl).lt
      have q1_0 := (hH.blk (k := 1) rfl).cell (j := 0) rfl
      have q1_1 := (hH.blk (k := 1) rfl).cell (j := 1) rfl
      have q1_2 := (hH.blk (k := 1) rfl).cell (j := 2) rfl
      have l1_ := (hH.blk (k := 1) rfl).lt
      have q3_0 := (hH.blk (k := 3) rfl).cell (j := 0) rfl
      have q3_1 := (hH.blk (k := 3) rfl).cell (j := 1) rfl
      have q3_2 := (hH.blk (k := 3) rfl).cell (j := 2) rfl
      have l3_ := (hH.blk (k := 3) rfl).lt
      have q5_0 := (hH.blk (k := 5) rfl).cell (j := 0) rfl
      have q5_1 := (hH.blk (k := 5) rfl).cell (j := 1) rfl
      have q5_2 := (hH.blk (k := 5) rfl).cell (j := 2) rfl
      have l5_ := (hH.blk (k := 5) rfl).lt
      go_wp2_with fail
      clear q0_0 q0_1 q0_2 q0_3 q0_4 l0_ q1_0 q1_1 q1_2 l1_ q3_0 q3_1 q3_2 l3_ q5_0 q5_1 q5_2 l5_
      have hB : Held w (wn9.alloc (.cells (madeCells #[.slice none 0 0] m) 27)) [aB (w.heap.size) 29 [.int .i64 k, .int .i64 p, .int .i64 n, .slice aV m cV, .slice aO op.length cO], aB (w.heap.size + 1) 32 [.slice none 0 0, .slice none 0 0, .slice none 0 0], aT (.agg #[.slice p1a3 AL.length c1a3, .slice p2a3 AL.length c2a3, .slice p3a3 0 c3a3]) AL (AL.map dm) [], aB qa4 32 [.slice p1a3 AL.length c1a3, .slice p2a3 AL.length c2a3, .slice p3a3 0 c3a3], aT (.agg #[.slice p1b9 op.length c1b9, .slice p2b9 op.length c2b9, .slice p3b9 N c3b9]) op (op.map dm) (flat (Z 0)), aB qb10 32 [.slice p1b9 op.length c1b9, .slice p2b9 op.length c2b9, .slice p3b9 N c3b9], aI (.slice ps AL.length cps) (AL.map (stride op (op.map dm))), aLs (.slice (some ⟨wn9.heap.size, 0, none⟩) m m) (List.replicate m (.slice none 0 0)) (List.replicate m [])] := by
        have h := (hH.mores 1).madeLs 7 m (by unfold maxLen; omega)
        exact h
      have hsz : (wn9.alloc (.cells (madeCells #[.slice none 0 0] m) 27)).heap.size = wn9.heap.size + 1 := by simp
      generalize wn9.alloc (.cells (madeCells #[.slice none 0 0] m) 27) = wn10 at hB hsz ⊢
      replace hH := hB; have HSZwn10 := Lib.hid hsz; clear hB hsz
      obtain ⟨bo, hbo⟩ : ∃ q, wn9.heap.size = q := ⟨_, rfl⟩
      rw [hbo] at hH
      rw [hbo]
      clear hbo
      obtain ⟨wa, rfl⟩ : ∃ q, q = wn10 := ⟨_, rfl⟩
      go_loopw [59] (fun i wr => ∃ (j : Nat) (vs : List Value), j ≤ m ∧ i = .int .i64 (j : Int) ∧ Held w wr [aB (w.heap.size) 29 [.int .i64 k, .int .i64 p, .int .i64 n, .slice aV m cV, .slice aO op.length cO], aB (w.heap.size + 1) 32 [.slice none 0 0, .slice none 0 0, .slice none 0 0], aT (.agg #[.slice p1a3 AL.length c1a3, .slice p2a3 AL.length c2a3, .slice p3a3 0 c3a3]) AL (AL.map dm) [], aB qa4 32 [.slice p1a3 AL.length c1a3, .slice p2a3 AL.length c2a3, .slice p3a3 0 c3a3], aT (.agg #[.slice p1b9 op.length c1b9, .slice p2b9 op.length c2b9, .slice p3b9 N c3b9]) op (op.map dm) (flat (Z 0)), aB qb10 32 [.slice p1b9 op.length c1b9, .slice p2b9 op.length c2b9, .slice p3b9 N c3b9], aI (.slice ps AL.length cps) (AL.map (stride op (op.map dm))), aLs (.slice (some ⟨bo, 0, none⟩) m m) vs (fillR R j)]) (fun i wr => m - (RowKit.intOf i).toNat)
      case atStart => exact ⟨0, _, Nat.zero_le _, rfl, by rw [fillR_zero, HRl.out]; exact hH⟩
      case round =>
        clear hH hmr
        obtain ⟨j, vs, hj, rfl, hH⟩ := hrel
        by_cases hlt : j < m
        · skip
          clear hmi
          obtain ⟨bT, oT, u1, u2, u3, t3, hV, hu0, hu1, hu2, ht3, hTu⟩ := hT.get (i := j) (by rw [hTl.out]; exact hlt)
          subst hV
          obtain ⟨t, htj, rfl⟩ : ∃ t, ts[j]? = some t ∧ tenOf dm t = t3 := by rw [List.getElem?_map] at ht3; exact Option.map_eq_some_iff.1 ht3
          have HTJ := Lib.hid htj; have HTI := Lib.hid (HN.out.ten t (List.mem_of_getElem? htj)); clear ht3 htj
          obtain ⟨tl, xs⟩ := t
          obtain ⟨e1, m1, f1, e2, m2, f2, e3, m3, f3, hvv⟩ := hTu.shape
          simp at hvv
          obtain ⟨rfl, rfl, rfl⟩ := hvv
          rw [Nat.mul_comm 3 j] at hu0 hu1 hu2
          obtain ⟨_, _, _, hvv, hTL, hTD, hTX⟩ := hTu.val
          simp at hvv
          obtain ⟨rfl, rfl, rfl⟩ := hvv
          simp only [tenOf] at hTu hTL hTD hTX HTI
          obtain ⟨_, _, hvv, _, _⟩ := hTL.val
          simp at hvv
          obtain ⟨rfl, rfl, rfl⟩ := hvv
          obtain ⟨_, _, hvv, _, _⟩ := hTD.val
          simp at hvv
          obtain ⟨rfl, rfl, rfl⟩ := hvv
          have HRJ := Lib.hid (HRG.out j _ HTJ.out)
          obtain ⟨FR, hFR⟩ : ∃ q, fillR R j = q := ⟨_, rfl⟩
          have HFS := Lib.hid (fillR_set HRJ.out)
          have hfl : FR.length = m := by rw [← hFR, fillR_len R j (by rw [HRl.out]; exact hj), HRl.out]
          rw [hFR] at hH HFS
          have HFL := Lib.hid hfl; clear hFR hfl
          have q0_0 := (hH.blk (k := 0) rfl).cell (j := 0) rfl
          have q0_1 := (hH.blk (k := 0) rfl).cell (j := 1) rfl
          have q0_2 := (hH.blk (k := 0) rfl).cell (j := 2) rfl
          have q0_3 := (hH.blk (k := 0) rfl).cell (j := 3) rfl
          have q0_4 := (hH.blk (k := 0) rfl).cell (j := 4) rfl
          have l0_ := (hH.blk (k := 0) rfl).lt
          have q1_0 := (hH.blk (k := 1) rfl).cell (j := 0) rfl
          have q1_1 := (hH.blk (k := 1) rfl).cell (j := 1) rfl
          have q1_2 := (hH.blk (k := 1) rfl).cell (j := 2) rfl
          have l1_ := (hH.blk (k := 1) rfl).lt
          have q3_0 := (hH.blk (k := 3) rfl).cell (j := 0) rfl
          have q3_1 := (hH.blk (k := 3) rfl).cell (j := 1) rfl
          have q3_2 := (hH.blk (k := 3) rfl).cell (j := 2) rfl
          have l3_ := (hH.blk (k := 3) rfl).lt
          have q5_0 := (hH.blk (k := 5) rfl).cell (j := 0) rfl
          have q5_1 := (hH.blk (k := 5) rfl).cell (j := 1) rfl
          have q5_2 := (hH.blk (k := 5) rfl).cell (j := 2) rfl
          have l5_ := (hH.blk (k := 5) rfl).lt
          have c_hu0 := hH.ext.cell hu0
          have c_hu1 := hH.ext.cell hu1
          have c_hu2 := hH.ext.cell hu2
          go_upto_region 14 with fail
          clear q0_0 q0_1 q0_2 q0_3 q0_4 l0_ q1_0 q1_1 q1_2 l1_ q3_0 q3_1 q3_2 l3_ q5_0 q5_1 q5_2 l5_ c_hu0 c_hu1 c_hu2
          have hB : Held w (wr.alloc (.cells #[.slice e1 tl.length f1, .slice e2 tl.length f2, .slice e3 m3 f3] 32)) [aB (w.heap.size) 29 [.int .i64 k, .int .i64 p, .int .i64 n, .slice (some ⟨bT, oT, none⟩) m cV, .slice aO op.length cO], aB (w.heap.size + 1) 32 [.slice none 0 0, .slice none 0 0, .slice none 0 0], aT (.agg #[.slice p1a3 AL.length c1a3, .slice p2a3 AL.length c2a3, .slice p3a3 0 c3a3]) AL (AL.map dm) [], aB qa4 32 [.slice p1a3 AL.length c1a3, .slice p2a3 AL.length c2a3, .slice p3a3 0 c3a3], aT (.agg #[.slice p1b9 op.length c1b9, .slice p2b9 op.length c2b9, .slice p3b9 N c3b9]) op (op.map dm) (flat (Z 0)), aB qb10 32 [.slice p1b9 op.length c1b9, .slice p2b9 op.length c2b9, .slice p3b9 N c3b9], aI (.slice ps AL.length cps) (AL.map (stride op (op.map dm))), aLs (.slice (some ⟨bo, 0, none⟩) m m) vs FR, aB (wr.heap.size) 32 [.slice e1 tl.length f1, .slice e2 tl.length f2, .slice e3 m3 f3]] := by
            have h := (hH.mores 1).addB 8 #[.slice e1 tl.length f1, .slice e2 tl.length f2, .slice e3 m3 f3] 32
            exact h
          have hsz : (wr.alloc (.cells #[.slice e1 tl.length f1, .slice e2 tl.length f2, .slice e3 m3 f3] 32)).heap.size = wr.heap.size + 1 := by simp
          generalize wr.alloc (.cells #[.slice e1 tl.length f1, .slice e2 tl.length f2, .slice e3 m3 f3] 32) = wn11 at hB hsz ⊢
          replace hH := hB; have HSZwn11 := Lib.hid hsz; clear hB hsz
          have q0_0 := (hH.blk (k := 0) rfl).cell (j := 0) rfl
          have q0_1 := (hH.blk (k := 0) rfl).cell (j := 1) rfl
          have q0_2 := (hH.blk (k := 0) rfl).cell (j := 2) rfl
          have q0_3 := (hH.blk (k := 0) rfl).cell (j := 3) rfl
          have q0_4 := (hH.blk (k := 0) rfl).cell (j := 4) rfl
          have l0_ := (hH.blk (k := 0) rfl).lt
          have q1_0 := (hH.blk (k := 1) rfl).cell (j := 0) rfl
          have q1_1 := (hH.blk (k := 1) rfl).cell (j := 1) rfl
          have q1_2 := (hH.blk (k := 1) rfl).cell (j := 2) rfl
          have l1_ := (hH.blk (k := 1) rfl).lt
          have q3_0 := (hH.blk (k := 3) rfl).cell (j := 0) rfl
          have q3_1 := (hH.blk (k := 3) rfl).cell (j := 1) rfl
          have q3_2 := (hH.blk (k := 3) rfl).cell (j := 2) rfl
          have l3_ := (hH.blk (k := 3) rfl).lt
          have q5_0 := (hH.blk (k := 5) rfl).cell (j := 0) rfl
          have q5_1 := (hH.blk (k := 5) rfl).cell (j := 1) rfl
          have q5_2 := (hH.blk (k := 5) rfl).cell (j := 2) rfl
          have l5_ := (hH.blk (k := 5) rfl).lt
          have q8_0 := (hH.blk (k := 8) rfl).cell (j := 0) rfl
          have q8_1 := (hH.blk (k := 8) rfl).cell (j := 1) rfl
          have q8_2 := (hH.blk (k := 8) rfl).cell (j := 2) rfl
          have l8_ := (hH.blk (k := 8) rfl).lt
          have c_hu0 := hH.ext.cell hu0
          have c_hu1 := hH.ext.cell hu1
          have c_hu2 := hH.ext.cell hu2
          go_wp2_with fail
          clear q0_0 q0_1 q0_2 q0_3 q0_4 l0_ q1_0 q1_1 q1_2 l1_ q3_0 q3_1 q3_2 l3_ q5_0 q5_1 q5_2 l5_ q8_0 q8_1 q8_2 l8_ c_hu0 c_hu1 c_hu2
          refine (stridesOf_any _ _ tl (tl.map dm) (flat xs) AL _ (hTu.ext hH.ext) (by have h := (hH.parts (k := 2) rfl).1.ints; exact h) (by rw [List.length_map]) HTI.out.ax.dims (by have := HTI.out.ax.size; omega) (by omega)).mono ?_; rintro ewn12 wn12 ⟨vq, rfl, oq, hwn12⟩
          obtain ⟨pq, cq, rfl⟩ := oq.shape1 (AL.length) (by rw [List.length_map])
          replace hH : Held w wn12 [aB (w.heap.size) 29 [.int .i64 k, .int .i64 p, .int .i64 n, .slice (some ⟨bT, oT, none⟩) m cV, .slice aO op.length cO], aB (w.heap.size + 1) 32 [.slice none 0 0, .slice none 0 0, .slice none 0 0], aT (.agg #[.slice p1a3 AL.length c1a3, .slice p2a3 AL.length c2a3, .slice p3a3 0 c3a3]) AL (AL.map dm) [], aB qa4 32 [.slice p1a3 AL.length c1a3, .slice p2a3 AL.length c2a3, .slice p3a3 0 c3a3], aT (.agg #[.slice p1b9 op.length c1b9, .slice p2b9 op.length c2b9, .slice p3b9 N c3b9]) op (op.map dm) (flat (Z 0)), aB qb10 32 [.slice p1b9 op.length c1b9, .slice p2b9 op.length c2b9, .slice p3b9 N c3b9], aI (.slice ps AL.length cps) (AL.map (stride op (op.map dm))), aLs (.slice (some ⟨bo, 0, none⟩) m m) vs FR, aB (wr.heap.size) 32 [.slice e1 tl.length f1, .slice e2 tl.length f2, .slice e3 m3 f3], aI (.slice pq AL.length cq) (AL.map (stride tl (tl.map dm)))] := (hH.mores 1).addI 9 hwn12 oq (Nat.le_refl _)
          clear hwn12
          obtain ⟨x0, hx0⟩ : ∃ x, FR[j]? = some x := ⟨_, List.getElem?_eq_getElem (by rw [HFL.out]; exact hlt)⟩
          obtain ⟨_, _, hco, _, hbo, hfo⟩ := OwnLs.get (hH.get (k := 7) rfl : OwnLs _ _ vs FR) hx0
          clear hx0
          have q0_0 := (hH.blk (k := 0) rfl).cell (j := 0) rfl
          have q0_1 := (hH.blk (k := 0) rfl).cell (j := 1) rfl
          have q0_2 := (hH.blk (k := 0) rfl).cell (j := 2) rfl
          have q0_3 := (hH.blk (k := 0) rfl).cell (j := 3) rfl
          have q0_4 := (hH.blk (k := 0) rfl).cell (j := 4) rfl
          have l0_ := (hH.blk (k := 0) rfl).lt
          have q1_0 := (hH.blk (k := 1) rfl).cell (j := 0) rfl
          have q1_1 := (hH.blk (k := 1) rfl).cell (j := 1) rfl
          have q1_2 := (hH.blk (k := 1) rfl).cell (j := 2) rfl
          have l1_ := (hH.blk (k := 1) rfl).lt
          have q3_0 := (hH.blk (k := 3) rfl).cell (j := 0) rfl
          have q3_1 := (hH.blk (k := 3) rfl).cell (j := 1) rfl
          have q3_2 := (hH.blk (k := 3) rfl).cell (j := 2) rfl
          have l3_ := (hH.blk (k := 3) rfl).lt
          have q5_0 := (hH.blk (k := 5) rfl).cell (j := 0) rfl
          have q5_1 := (hH.blk (k := 5) rfl).cell (j := 1) rfl
          have q5_2 := (hH.blk (k := 5) rfl).cell (j := 2) rfl
          have l5_ := (hH.blk (k := 5) rfl).lt
          have q8_0 := (hH.blk (k := 8) rfl).cell (j := 0) rfl
          have q8_1 := (hH.blk (k := 8) rfl).cell (j := 1) rfl
          have q8_2 := (hH.blk (k := 8) rfl).cell (j := 2) rfl
          have l8_ := (hH.blk (k := 8) rfl).lt
          have c_hu0 := hH.ext.cell hu0
          have c_hu1 := hH.ext.cell hu1
          have c_hu2 := hH.ext.cell hu2
          go_wp2_with fail
          have hHs := hH.setLs (k1 := 7) (k2 := 9) rfl rfl (by decide) (i := j) (by rw [HFL.out]; exact hlt)
          rw [HFS.out] at hHs
          go_roundw
          case rel => exact ⟨j + 1, _, by omega, by go_num, hHs.sub (.cons_cons _ (.cons_cons _ (.cons_cons _ (.cons_cons _ (.cons_cons _ (.cons_cons _ (.cons_cons _ (.cons_cons _ (.cons _ (.cons _ .slnil))))))))))⟩
          case measure => simp [RowKit.intOf]; omega
        · skip
          have hje : j = m := by omega
          subst hje
          obtain ⟨m, hmj⟩ : ∃ q, q = j := ⟨j, rfl⟩
          subst hmj
          rw [show fillR R m = R by rw [← HRl.out]; exact fillR_all R] at hH
          obtain ⟨wb, rfl⟩ : ∃ q, q = wr := ⟨wr, rfl⟩
          have q0_0 := (hH.blk (k := 0) rfl).cell (j := 0) rfl
          have q0_1 := (hH.blk (k := 0) rfl).cell (j := 1) rfl
          have q0_2 := (hH.blk (k := 0) rfl).cell (j := 2) rfl
          have q0_3 := (hH.blk (k := 0) rfl).cell (j := 3) rfl
          have q0_4 := (hH.blk (k := 0) rfl).cell (j := 4) rfl
          have l0_ := (hH.blk (k := 0) rfl).lt
          have q1_0 := (hH.blk (k := 1) rfl).cell (j := 0) rfl
          have q1_1 := (hH.blk (k := 1) rfl).cell (j := 1) rfl
          have q1_2 := (hH.blk (k := 1) rfl).cell (j := 2) rfl
          have l1_ := (hH.blk (k := 1) rfl).lt
          have q3_0 := (hH.blk (k := 3) rfl).cell (j := 0) rfl
          have q3_1 := (hH.blk (k := 3) rfl).cell (j := 1) rfl
          have q3_2 := (hH.blk (k := 3) rfl).cell (j := 2) rfl
          have l3_ := (hH.blk (k := 3) rfl).lt
          have q5_0 := (hH.blk (k := 5) rfl).cell (j := 0) rfl
          have q5_1 := (hH.blk (k := 5) rfl).cell (j := 1) rfl
          have q5_2 := (hH.blk (k := 5) rfl).cell (j := 2) rfl
          have l5_ := (hH.blk (k := 5) rfl).lt
          go_wp2_with fail
          clear q0_0 q0_1 q0_2 q0_3 q0_4 l0_ q1_0 q1_1 q1_2 l1_ q3_0 q3_1 q3_2 l3_ q5_0 q5_1 q5_2 l5_
          have hB : Held w (wb.alloc (.cells (madeCells #[.int .i64 0] AL.length) 3)) [aB (w.heap.size) 29 [.int .i64 k, .int .i64 p, .int .i64 n, .slice aV m cV, .slice aO op.length cO], aB (w.heap.size + 1) 32 [.slice none 0 0, .slice none 0 0, .slice none 0 0], aT (.agg #[.slice p1a3 AL.length c1a3, .slice p2a3 AL.length c2a3, .slice p3a3 0 c3a3]) AL (AL.map dm) [], aB qa4 32 [.slice p1a3 AL.length c1a3, .slice p2a3 AL.length c2a3, .slice p3a3 0 c3a3], aT (.agg #[.slice p1b9 op.length c1b9, .slice p2b9 op.length c2b9, .slice p3b9 N c3b9]) op (op.map dm) (flat (Z 0)), aB qb10 32 [.slice p1b9 op.length c1b9, .slice p2b9 op.length c2b9, .slice p3b9 N c3b9], aI (.slice ps AL.length cps) (AL.map (stride op (op.map dm))), aLs (.slice (some ⟨bo, 0, none⟩) m m) vs R, aI (.slice (some ⟨wb.heap.size, 0, none⟩) AL.length AL.length) (List.replicate AL.length 0)] := by
            have h := (hH.mores 1).madeI 8 AL.length (by omega)
            exact h
          have hsz : (wb.alloc (.cells (madeCells #[.int .i64 0] AL.length) 3)).heap.size = wb.heap.size + 1 := by simp
          generalize wb.alloc (.cells (madeCells #[.int .i64 0] AL.length) 3) = wn13 at hB hsz ⊢
          replace hH := hB; have HSZwn13 := Lib.hid hsz; clear hB hsz
          obtain ⟨bi, hbi⟩ : ∃ q, wb.heap.size = q := ⟨_, rfl⟩
          rw [hbi] at hH
          rw [hbi]
          clear hbi hmi
          replace hH := hH.open3 (k := 4) rfl
          have hvo := hH.own (k := 2) rfl
          obtain ⟨bx, cx, _, hvx, hcx, _⟩ := hvo.open (by rw [HZL.out]; exact hn1)
          rw [HZL.out] at hvx hcx
          cases hvx
          have HGL : Hid (∀ o j, (G o j).length = W) := Lib.hid fun o j => by have := (rawOk_iff.1 (HGK.out o j)).1; have := HWW.out; omega
          obtain ⟨wc, rfl⟩ : ∃ q, q = wn13 := ⟨_, rfl⟩
          go_loopg [] NA (fun gg wr => ∃ (o : Nat), Hid (gg + o = NA) ∧ o < NA ∧ Held w wr [aI (.slice p1b9 op.length c1b9) op, aI (.slice p2b9 op.length c2b9) (op.map dm), aI (.slice (some ⟨bx, 0, none⟩) N c3b9) (flat (Z o)), aB (w.heap.size) 29 [.int .i64 k, .int .i64 p, .int .i64 n, .slice aV m cV, .slice aO op.length cO], aB (w.heap.size + 1) 32 [.slice none 0 0, .slice none 0 0, .slice none 0 0], aT (.agg #[.slice p1a3 AL.length c1a3, .slice p2a3 AL.length c2a3, .slice p3a3 0 c3a3]) AL (AL.map dm) [], aB qa4 32 [.slice p1a3 AL.length c1a3, .slice p2a3 AL.length c2a3, .slice p3a3 0 c3a3], emp, aB qb10 32 [.slice p1b9 op.length c1b9, .slice p2b9 op.length c2b9, .slice (some ⟨bx, 0, none⟩) N c3b9], aI (.slice ps AL.length cps) (AL.map (stride op (op.map dm))), aLs (.slice (some ⟨bo, 0, none⟩) m m) vs R, aI (.slice (some ⟨bi, 0, none⟩) AL.length AL.length) (AL.map (σ o))])
          case atStart => exact ⟨0, Lib.hid (by omega), by omega, by rw [hσ0.out]; exact hH⟩
          case round =>
            clear hH
            obtain ⟨o, hgg, ho, hH⟩ := hrel
            obtain ⟨I, hI⟩ : ∃ I, AL.map (σ o) = I := ⟨_, rfl⟩
            have hil : Hid (I.length = AL.length) := Lib.hid (by rw [← hI, List.length_map])
            have HIP : Hid (∀ z ∈ I, 0 ≤ z ∧ z ≤ 1048576) := Lib.hid fun z hz => HSP.out o z (by rw [hI]; exact hz)
            obtain ⟨X, hX⟩ : ∃ X, flat (Z o) = X := ⟨_, rfl⟩
            have HXL : Hid (X.length = N) := Lib.hid (by rw [← hX]; exact HZL.out o)
            obtain ⟨q, z, hq1, hq2, hq3, hq4, hq5, hq6⟩ := HStep.out o
            rw [hI] at hq1
            rw [hX] at hq3 hq4 hq6
            rw [HXL.out] at hq3
            rw [hI, hX] at hH
            obtain ⟨X2, hX2⟩ : ∃ X2, flat (Z (o + 1)) = X2 := ⟨_, rfl⟩
            rw [hX2] at hq6
            have HNX := Lib.hid (HNext.out o ho); rw [hI] at HNX
            have HI := Lib.hid hI; have HX := Lib.hid hX; have HX2 := Lib.hid hX2; have HQ1 := Lib.hid hq1; have HQ3 := Lib.hid hq3; have HQ4 := Lib.hid hq4; have HQ5 := Lib.hid hq5; have HQ6 := Lib.hid hq6
            have QW : Hid ((q : Int) * (W : Int) = ((q * W : Nat) : Int)) := Lib.hid (by simp)
            clear hI hX hX2 hq1 hq3 hq4 hq5 hq6
            have q3_0 := (hH.blk (k := 3) rfl).cell (j := 0) rfl
            have q3_1 := (hH.blk (k := 3) rfl).cell (j := 1) rfl
            have q3_2 := (hH.blk (k := 3) rfl).cell (j := 2) rfl
            have q3_3 := (hH.blk (k := 3) rfl).cell (j := 3) rfl
            have q3_4 := (hH.blk (k := 3) rfl).cell (j := 4) rfl
            have l3_ := (hH.blk (k := 3) rfl).lt
            have q4_0 := (hH.blk (k := 4) rfl).cell (j := 0) rfl
            have q4_1 := (hH.blk (k := 4) rfl).cell (j := 1) rfl
            have q4_2 := (hH.blk (k := 4) rfl).cell (j := 2) rfl
            have l4_ := (hH.blk (k := 4) rfl).lt
            have q6_0 := (hH.blk (k := 6) rfl).cell (j := 0) rfl
            have q6_1 := (hH.blk (k := 6) rfl).cell (j := 1) rfl
            have q6_2 := (hH.blk (k := 6) rfl).cell (j := 2) rfl
            have l6_ := (hH.blk (k := 6) rfl).lt
            have q8_0 := (hH.blk (k := 8) rfl).cell (j := 0) rfl
            have q8_1 := (hH.blk (k := 8) rfl).cell (j := 1) rfl
            have q8_2 := (hH.blk (k := 8) rfl).cell (j := 2) rfl
            have l8_ := (hH.blk (k := 8) rfl).lt
            go_wp2_with fail
            clear q3_0 q3_1 q3_2 q3_3 q3_4 l3_ q4_0 q4_1 q4_2 l4_ q6_0 q6_1 q6_2 l6_ q8_0 q8_1 q8_2 l8_
            refine (rawOne_any k p n hw hf _).mono ?_; rintro ewn14 wn14 ⟨vw, rfl, ow, hwn14⟩
            rw [← HG0.out o] at ow
            obtain ⟨aw, cw, rfl⟩ := ow.shape1 W (HGL.out o 0)
            replace hH : Held w wn14 [aI (.slice p1b9 op.length c1b9) op, aI (.slice p2b9 op.length c2b9) (op.map dm), aI (.slice (some ⟨bx, 0, none⟩) N c3b9) X, aB (w.heap.size) 29 [.int .i64 k, .int .i64 p, .int .i64 n, .slice aV m cV, .slice aO op.length cO], aB (w.heap.size + 1) 32 [.slice none 0 0, .slice none 0 0, .slice none 0 0], aT (.agg #[.slice p1a3 AL.length c1a3, .slice p2a3 AL.length c2a3, .slice p3a3 0 c3a3]) AL (AL.map dm) [], aB qa4 32 [.slice p1a3 AL.length c1a3, .slice p2a3 AL.length c2a3, .slice p3a3 0 c3a3], emp, aB qb10 32 [.slice p1b9 op.length c1b9, .slice p2b9 op.length c2b9, .slice (some ⟨bx, 0, none⟩) N c3b9], aI (.slice ps AL.length cps) (AL.map (stride op (op.map dm))), aLs (.slice (some ⟨bo, 0, none⟩) m m) vs R, aI (.slice (some ⟨bi, 0, none⟩) AL.length AL.length) I, aI (.slice aw W cw) (G o 0)] := (hH.mores 1).addI 12 hwn14 ow (Nat.le_refl _)
            clear hwn14
            have q3_0 := (hH.blk (k := 3) rfl).cell (j := 0) rfl
            have q3_1 := (hH.blk (k := 3) rfl).cell (j := 1) rfl
            have q3_2 := (hH.blk (k := 3) rfl).cell (j := 2) rfl
            have q3_3 := (hH.blk (k := 3) rfl).cell (j := 3) rfl
            have q3_4 := (hH.blk (k := 3) rfl).cell (j := 4) rfl
            have l3_ := (hH.blk (k := 3) rfl).lt
            have q4_0 := (hH.blk (k := 4) rfl).cell (j := 0) rfl
            have q4_1 := (hH.blk (k := 4) rfl).cell (j := 1) rfl
            have q4_2 := (hH.blk (k := 4) rfl).cell (j := 2) rfl
            have l4_ := (hH.blk (k := 4) rfl).lt
            have q6_0 := (hH.blk (k := 6) rfl).cell (j := 0) rfl
            have q6_1 := (hH.blk (k := 6) rfl).cell (j := 1) rfl
            have q6_2 := (hH.blk (k := 6) rfl).cell (j := 2) rfl
            have l6_ := (hH.blk (k := 6) rfl).lt
            have q8_0 := (hH.blk (k := 8) rfl).cell (j := 0) rfl
            have q8_1 := (hH.blk (k := 8) rfl).cell (j := 1) rfl
            have q8_2 := (hH.blk (k := 8) rfl).cell (j := 2) rfl
            have l8_ := (hH.blk (k := 8) rfl).lt
            go_wp2_with fail
            clear q3_0 q3_1 q3_2 q3_3 q3_4 l3_ q4_0 q4_1 q4_2 l4_ q6_0 q6_1 q6_2 l6_ q8_0 q8_1 q8_2 l8_
            go_loopw [14, 82] (fun vw i wr => ∃ (j : Nat), j ≤ m ∧ i = .int .i64 (j : Int) ∧ Held w wr [aI (.slice p1b9 op.length c1b9) op, aI (.slice p2b9 op.length c2b9) (op.map dm), aI (.slice (some ⟨bx, 0, none⟩) N c3b9) X, aB (w.heap.size) 29 [.int .i64 k, .int .i64 p, .int .i64 n, .slice aV m cV, .slice aO op.length cO], aB (w.heap.size + 1) 32 [.slice none 0 0, .slice none 0 0, .slice none 0 0], aT (.agg #[.slice p1a3 AL.length c1a3, .slice p2a3 AL.length c2a3, .slice p3a3 0 c3a3]) AL (AL.map dm) [], aB qa4 32 [.slice p1a3 AL.length c1a3, .slice p2a3 AL.length c2a3, .slice p3a3 0 c3a3], emp, aB qb10 32 [.slice p1b9 op.length c1b9, .slice p2b9 op.length c2b9, .slice (some ⟨bx, 0, none⟩) N c3b9], aI (.slice ps AL.length cps) (AL.map (stride op (op.map dm))), aLs (.slice (some ⟨bo, 0, none⟩) m m) vs R, aI (.slice (some ⟨bi, 0, none⟩) AL.length AL.length) I, aI vw (G o j)]) (fun vw i wr => m - (RowKit.intOf i).toNat)
            case atStart => exact ⟨0, Nat.zero_le _, rfl, hH⟩
            case round =>
              clear hH
              rename_i vw
              obtain ⟨j, hj, rfl, hH⟩ := hrel
              obtain ⟨aw, cw, rfl⟩ := (hH.own (k := 12) rfl).shape1 W (HGL.out o j)
              by_cases hlt : j < m
              · skip
                obtain ⟨bT, oT, u1, u2, u3, t3, hV, hu0, hu1, hu2, ht3, hTu⟩ := hT.get (i := j) (by rw [hTl.out]; exact hlt)
                subst hV
                obtain ⟨t, htj, rfl⟩ : ∃ t, ts[j]? = some t ∧ tenOf dm t = t3 := by rw [List.getElem?_map] at ht3; exact Option.map_eq_some_iff.1 ht3
                have HTJ := Lib.hid htj; have HTI := Lib.hid (HN.out.ten t (List.mem_of_getElem? htj)); clear ht3 htj
                obtain ⟨tl, xs⟩ := t
                obtain ⟨e1, m1, f1, e2, m2, f2, e3, m3, f3, hvv⟩ := hTu.shape
                simp at hvv
                obtain ⟨rfl, rfl, rfl⟩ := hvv
                rw [Nat.mul_comm 3 j] at hu0 hu1 hu2
                obtain ⟨_, _, _, hvv, hTL, hTD, hTX⟩ := hTu.val
                simp at hvv
                obtain ⟨rfl, rfl, rfl⟩ := hvv
                simp only [tenOf] at hTu hTL hTD hTX HTI
                obtain ⟨_, _, hvv, _, _⟩ := hTL.val
                simp at hvv
                obtain ⟨rfl, rfl, rfl⟩ := hvv
                obtain ⟨_, _, hvv, _, _⟩ := hTD.val
                simp at hvv
                obtain ⟨rfl, rfl, rfl⟩ := hvv
                obtain ⟨bX, oX, cX, hXX, hcX, _, hbX⟩ := hTX.open (by have h := HTI.out; have := (h.ok HR.out).nat HR.out; obtain ⟨P0, W', hP, hW', hP1, hP2, hW1', hW6', hXl⟩ := this; rw [hXl]; exact Nat.mul_le_mul hP1 hW1')
                cases hXX
                have hX9 := HTI.out.flatL HR.out
                obtain ⟨qj, hd1, hd2, hd3, hd4⟩ := HRead.out o j tl xs HTJ.out
                rw [HI.out] at hd1
                obtain ⟨y, hy⟩ : ∃ y, VL o tl xs = y := ⟨_, rfl⟩
                have HYK : Hid (rawOk k p n y = true) := Lib.hid (by rw [← hy]; exact HVK.out o tl xs)
                have HGJ := Lib.hid (HGS.out o j tl xs HTJ.out)
                rw [hy] at hd4 HGJ
                have HD1 := Lib.hid hd1; have HD3 := Lib.hid hd3; have HD4 := Lib.hid hd4
                have QJW : Hid ((qj : Int) * (W : Int) = ((qj * W : Nat) : Int)) := Lib.hid (by simp)
                have hqj0 : (0 : Int) ≤ (qj : Int) := by omega
                have HSJ := Lib.hid (HST.out tl HTI.out.sub)
                have HRJ := Lib.hid (HRG.out j _ HTJ.out)
                obtain ⟨RJ, hRJ⟩ : ∃ q, AL.map (stride tl (tl.map dm)) = q := ⟨_, rfl⟩
                have HRJL : Hid (RJ.length = AL.length) := Lib.hid (by rw [← hRJ, List.length_map])
                rw [hRJ] at HD1 HSJ HRJ
                obtain ⟨xr, hxr, _, orr, _, _⟩ := OwnLs.get (hH.get (k := 10) rfl : OwnLs _ _ vs R) HRJ.out
                obtain ⟨pr, cr, rfl⟩ := orr.shape1 AL.length HRJL.out
                have HXR := Lib.hid hxr
                clear hd1 hd3 hd4 hy hRJ hxr orr
                have q3_0 := (hH.blk (k := 3) rfl).cell (j := 0) rfl
                have q3_1 := (hH.blk (k := 3) rfl).cell (j := 1) rfl
                have q3_2 := (hH.blk (k := 3) rfl).cell (j := 2) rfl
                have q3_3 := (hH.blk (k := 3) rfl).cell (j := 3) rfl
                have q3_4 := (hH.blk (k := 3) rfl).cell (j := 4) rfl
                have l3_ := (hH.blk (k := 3) rfl).lt
                have q4_0 := (hH.blk (k := 4) rfl).cell (j := 0) rfl
                have q4_1 := (hH.blk (k := 4) rfl).cell (j := 1) rfl
                have q4_2 := (hH.blk (k := 4) rfl).cell (j := 2) rfl
                have l4_ := (hH.blk (k := 4) rfl).lt
                have q6_0 := (hH.blk (k := 6) rfl).cell (j := 0) rfl
                have q6_1 := (hH.blk (k := 6) rfl).cell (j := 1) rfl
                have q6_2 := (hH.blk (k := 6) rfl).cell (j := 2) rfl
                have l6_ := (hH.blk (k := 6) rfl).lt
                have q8_0 := (hH.blk (k := 8) rfl).cell (j := 0) rfl
                have q8_1 := (hH.blk (k := 8) rfl).cell (j := 1) rfl
                have q8_2 := (hH.blk (k := 8) rfl).cell (j := 2) rfl
                have l8_ := (hH.blk (k := 8) rfl).lt
                have c_hu0 := hH.ext.cell hu0
                have c_hu1 := hH.ext.cell hu1
                have c_hu2 := hH.ext.cell hu2
                go_upto_region 21 with fail
                clear q3_0 q3_1 q3_2 q3_3 q3_4 l3_ q4_0 q4_1 q4_2 l4_ q6_0 q6_1 q6_2 l6_ q8_0 q8_1 q8_2 l8_ c_hu0 c_hu1 c_hu2
                have hB : Held w (wr.alloc (.cells #[.slice e1 tl.length f1, .slice e2 tl.length f2, .slice (some ⟨bX, oX, none⟩) (flat xs).length f3] 32)) [aI (.slice p1b9 op.length c1b9) op, aI (.slice p2b9 op.length c2b9) (op.map dm), aI (.slice (some ⟨bx, 0, none⟩) N c3b9) X, aB (w.heap.size) 29 [.int .i64 k, .int .i64 p, .int .i64 n, .slice (some ⟨bT, oT, none⟩) m cV, .slice aO op.length cO], aB (w.heap.size + 1) 32 [.slice none 0 0, .slice none 0 0, .slice none 0 0], aT (.agg #[.slice p1a3 AL.length c1a3, .slice p2a3 AL.length c2a3, .slice p3a3 0 c3a3]) AL (AL.map dm) [], aB qa4 32 [.slice p1a3 AL.length c1a3, .slice p2a3 AL.length c2a3, .slice p3a3 0 c3a3], emp, aB qb10 32 [.slice p1b9 op.length c1b9, .slice p2b9 op.length c2b9, .slice (some ⟨bx, 0, none⟩) N c3b9], aI (.slice ps AL.length cps) (AL.map (stride op (op.map dm))), aLs (.slice (some ⟨bo, 0, none⟩) m m) vs R, aI (.slice (some ⟨bi, 0, none⟩) AL.length AL.length) I, aI (.slice aw W cw) (G o j), aB (wr.heap.size) 32 [.slice e1 tl.length f1, .slice e2 tl.length f2, .slice (some ⟨bX, oX, none⟩) (flat xs).length f3]] := by
                  have h := (hH.mores 1).addB 13 #[.slice e1 tl.length f1, .slice e2 tl.length f2, .slice (some ⟨bX, oX, none⟩) (flat xs).length f3] 32
                  exact h
                have hsz : (wr.alloc (.cells #[.slice e1 tl.length f1, .slice e2 tl.length f2, .slice (some ⟨bX, oX, none⟩) (flat xs).length f3] 32)).heap.size = wr.heap.size + 1 := by simp
                generalize wr.alloc (.cells #[.slice e1 tl.length f1, .slice e2 tl.length f2, .slice (some ⟨bX, oX, none⟩) (flat xs).length f3] 32) = wn15 at hB hsz ⊢
                replace hH := hB; have HSZwn15 := Lib.hid hsz; clear hB hsz
                replace hH := hH.mores 1
                replace hH : Held w wn15 [aI (.slice p1b9 op.length c1b9) op, aI (.slice p2b9 op.length c2b9) (op.map dm), aI (.slice (some ⟨bx, 0, none⟩) N c3b9) X, aB (w.heap.size) 29 [.int .i64 k, .int .i64 p, .int .i64 n, .slice (some ⟨bT, oT, none⟩) m cV, .slice aO op.length cO], aB (w.heap.size + 1) 32 [.slice none 0 0, .slice none 0 0, .slice none 0 0], aT (.agg #[.slice p1a3 AL.length c1a3, .slice p2a3 AL.length c2a3, .slice p3a3 0 c3a3]) AL (AL.map dm) [], aB qa4 32 [.slice p1a3 AL.length c1a3, .slice p2a3 AL.length c2a3, .slice p3a3 0 c3a3], emp, aB qb10 32 [.slice p1b9 op.length c1b9, .slice p2b9 op.length c2b9, .slice (some ⟨bx, 0, none⟩) N c3b9], aI (.slice ps AL.length cps) (AL.map (stride op (op.map dm))), aLs (.slice (some ⟨bo, 0, none⟩) m m) vs R, aI (.slice (some ⟨bi, 0, none⟩) AL.length AL.length) I, aI (.slice aw W cw) (G o j), aB (wr.heap.size) 32 [.slice e1 tl.length f1, .slice e2 tl.length f2, .slice (some ⟨bX, oX, none⟩) (flat xs).length f3], emp] := hH
                refine wp_region_steps ?Fc (fun b t wx => Held w wx [aI (.slice p1b9 op.length c1b9) op, aI (.slice p2b9 op.length c2b9) (op.map dm), aI (.slice (some ⟨bx, 0, none⟩) N c3b9) X, aB (w.heap.size) 29 [.int .i64 k, .int .i64 p, .int .i64 n, .slice (some ⟨bT, oT, none⟩) m cV, .slice aO op.length cO], aB (w.heap.size + 1) 32 [.slice none 0 0, .slice none 0 0, .slice none 0 0], aT (.agg #[.slice p1a3 AL.length c1a3, .slice p2a3 AL.length c2a3, .slice p3a3 0 c3a3]) AL (AL.map dm) [], aB qa4 32 [.slice p1a3 AL.length c1a3, .slice p2a3 AL.length c2a3, .slice p3a3 0 c3a3], emp, aB qb10 32 [.slice p1b9 op.length c1b9, .slice p2b9 op.length c2b9, .slice (some ⟨bx, 0, none⟩) N c3b9], aI (.slice ps AL.length cps) (AL.map (stride op (op.map dm))), aLs (.slice (some ⟨bo, 0, none⟩) m m) vs R, aI (.slice (some ⟨bi, 0, none⟩) AL.length AL.length) I, aI (.slice aw W cw) (G o j), aB (wr.heap.size) 32 [.slice e1 tl.length f1, .slice e2 tl.length f2, .slice (some ⟨bX, oX, none⟩) (flat xs).length f3], (bif b 13 then aI (t 13) (G o (j + 1)) else emp)] ∧ (b 0 = true → t 0 = .pointer (some ⟨w.heap.size, 0, none⟩)) ∧ (b 1 = true → t 1 = .agg #[.int .i64 k, .int .i64 p, .int .i64 n]) ∧ (b 2 = true → t 2 = .slice aw W cw) ∧ (b 3 = true → t 3 = .pointer (some ⟨w.heap.size, 0, none⟩)) ∧ (b 4 = true → t 4 = .agg #[.int .i64 k, .int .i64 p, .int .i64 n]) ∧ (b 5 = true → t 5 = .agg #[.slice e1 tl.length f1, .slice e2 tl.length f2, .slice (some ⟨bX, oX, none⟩) (flat xs).length f3]) ∧ (b 6 = true → t 6 = .slice (some ⟨bo, 0, none⟩) m m) ∧ (b 7 = true → t 7 = .int .i64 (j : Int)) ∧ (b 8 = true → t 8 = .pointer (some ⟨bo, j, none⟩)) ∧ (b 9 = true → t 9 = .slice pr AL.length cr) ∧ (b 10 = true → t 10 = .slice (some ⟨bi, 0, none⟩) AL.length AL.length) ∧ (b 11 = true → t 11 = .int .i64 (qj : Int)) ∧ (b 12 = true → t 12 = .slice (some ⟨bX, oX + qj * W, none⟩) W (f3 - qj * W)) ∧ (b 13 = true → ∃ x c, t 13 = .slice x W c) ∧ (b 14 = true → t 14 = t 13) ∧ Hid (b 14 = false → t 14 = .slice aw W cw)) ?hFc (by kernel_rfl) (by kernel_rfl) ?hJc ?hSc ?hEc
                (case hFc => intro t; simp only [putAll, Act.put, List.setIfInBounds_toArray, List.set_cons_zero, List.set_cons_succ, Nat.reduceAdd, Nat.zero_add]; exact rfl)
                case hJc => exact ⟨hH.grow ((Ext.refl _).drew), fun h => absurd h Bool.false_ne_true, fun h => absurd h Bool.false_ne_true, fun h => absurd h Bool.false_ne_true, fun h => absurd h Bool.false_ne_true, fun h => absurd h Bool.false_ne_true, fun h => absurd h Bool.false_ne_true, fun h => absurd h Bool.false_ne_true, fun h => absurd h Bool.false_ne_true, fun h => absurd h Bool.false_ne_true, fun h => absurd h Bool.false_ne_true, fun h => absurd h Bool.false_ne_true, fun h => absurd h Bool.false_ne_true, fun h => absurd h Bool.false_ne_true, fun h => absurd h Bool.false_ne_true, fun h => absurd h Bool.false_ne_true, Lib.hid fun _ => rfl⟩
                case hSc =>
                  as_aux_lemma =>
                    refine AllSteps.cons (j := 1) rfl (fun b t wx hJ hb hd hcl Kc hK => ?_) ?_
                    · obtain ⟨hH, v0, v1, v2, v3, v4, v5, v6, v7, v8, v9, v10, v11, v12, v13, v14, old14⟩ := hJ
                      go_simp
                      refine hK.out _ ?_ _ ?_ ?_; rotate_left 2
                      · rfl
                      exact ⟨hH, fun _ => rfl, v1, v2, v3, v4, v5, v6, v7, v8, v9, v10, v11, v12, v13, v14, old14⟩
                    refine AllSteps.cons (j := 2) rfl (fun b t wx hJ hb hd hcl Kc hK => ?_) ?_
                    · obtain ⟨hH, v0, v1, v2, v3, v4, v5, v6, v7, v8, v9, v10, v11, v12, v13, v14, old14⟩ := hJ
                      have d0 : b 0 = true := hd.out 0 (by kernel_rfl)
                      have r0 := v0 d0
                      have q3_0 := (hH.blk (k := 3) rfl).cell (j := 0) rfl
                      have q3_1 := (hH.blk (k := 3) rfl).cell (j := 1) rfl
                      have q3_2 := (hH.blk (k := 3) rfl).cell (j := 2) rfl
                      go_simp
                      refine hK.out _ ?_ _ ?_ ?_; rotate_left 2
                      · (try simp only [r0]); rfl
                      exact ⟨hH, v0, fun _ => rfl, v2, v3, v4, v5, v6, v7, v8, v9, v10, v11, v12, v13, v14, old14⟩
                    refine AllSteps.cons (j := 3) rfl (fun b t wx hJ hb hd hcl Kc hK => ?_) ?_
                    · obtain ⟨hH, v0, v1, v2, v3, v4, v5, v6, v7, v8, v9, v10, v11, v12, v13, v14, old14⟩ := hJ
                      have n14 : b 14 = false := Bool.eq_false_iff.2 fun h => absurd (hcl.out 14 2 (by kernel_rfl) (h)) (by rw [hb]; exact Bool.false_ne_true)
                      have eo14 := old14.out n14
                      go_simp
                      refine hK.out _ ?_ _ ?_ ?_; rotate_left 2
                      · (try simp only [eo14]); rfl
                      exact ⟨hH, v0, v1, fun _ => rfl, v3, v4, v5, v6, v7, v8, v9, v10, v11, v12, v13, v14, old14⟩
                    refine AllSteps.cons (j := 4) rfl (fun b t wx hJ hb hd hcl Kc hK => ?_) ?_
                    · obtain ⟨hH, v0, v1, v2, v3, v4, v5, v6, v7, v8, v9, v10, v11, v12, v13, v14, old14⟩ := hJ
                      go_simp
                      refine hK.out _ ?_ _ ?_ ?_; rotate_left 2
                      · rfl
                      exact ⟨hH, v0, v1, v2, fun _ => rfl, v4, v5, v6, v7, v8, v9, v10, v11, v12, v13, v14, old14⟩
                    refine AllSteps.cons (j := 5) rfl (fun b t wx hJ hb hd hcl Kc hK => ?_) ?_
                    · obtain ⟨hH, v0, v1, v2, v3, v4, v5, v6, v7, v8, v9, v10, v11, v12, v13, v14, old14⟩ := hJ
                      have d3 : b 3 = true := hd.out 3 (by kernel_rfl)
                      have r3 := v3 d3
                      have q3_0 := (hH.blk (k := 3) rfl).cell (j := 0) rfl
                      have q3_1 := (hH.blk (k := 3) rfl).cell (j := 1) rfl
                      have q3_2 := (hH.blk (k := 3) rfl).cell (j := 2) rfl
                      go_simp
                      refine hK.out _ ?_ _ ?_ ?_; rotate_left 2
                      · (try simp only [r3]); rfl
                      exact ⟨hH, v0, v1, v2, v3, fun _ => rfl, v5, v6, v7, v8, v9, v10, v11, v12, v13, v14, old14⟩
                    refine AllSteps.cons (j := 6) rfl (fun b t wx hJ hb hd hcl Kc hK => ?_) ?_
                    · obtain ⟨hH, v0, v1, v2, v3, v4, v5, v6, v7, v8, v9, v10, v11, v12, v13, v14, old14⟩ := hJ
                      have q13_0 := (hH.blk (k := 13) rfl).cell (j := 0) rfl
                      have q13_1 := (hH.blk (k := 13) rfl).cell (j := 1) rfl
                      have q13_2 := (hH.blk (k := 13) rfl).cell (j := 2) rfl
                      go_simp
                      refine hK.out _ ?_ _ ?_ ?_; rotate_left 2
                      · rfl
                      exact ⟨hH, v0, v1, v2, v3, v4, fun _ => rfl, v6, v7, v8, v9, v10, v11, v12, v13, v14, old14⟩
                    refine AllSteps.cons (j := 7) rfl (fun b t wx hJ hb hd hcl Kc hK => ?_) ?_
                    · obtain ⟨hH, v0, v1, v2, v3, v4, v5, v6, v7, v8, v9, v10, v11, v12, v13, v14, old14⟩ := hJ
                      go_simp
                      refine hK.out _ ?_ _ ?_ ?_; rotate_left 2
                      · rfl
                      exact ⟨hH, v0, v1, v2, v3, v4, v5, fun _ => rfl, v7, v8, v9, v10, v11, v12, v13, v14, old14⟩
                    refine AllSteps.cons (j := 8) rfl (fun b t wx hJ hb hd hcl Kc hK => ?_) ?_
                    · obtain ⟨hH, v0, v1, v2, v3, v4, v5, v6, v7, v8, v9, v10, v11, v12, v13, v14, old14⟩ := hJ
                      go_simp
                      refine hK.out _ ?_ _ ?_ ?_; rotate_left 2
                      · rfl
                      exact ⟨hH, v0, v1, v2, v3, v4, v5, v6, fun _ => rfl, v8, v9, v10, v11, v12, v13, v14, old14⟩
                    refine AllSteps.cons (j := 9) rfl (fun b t wx hJ hb hd hcl Kc hK => ?_) ?_
                    · obtain ⟨hH, v0, v1, v2, v3, v4, v5, v6, v7, v8, v9, v10, v11, v12, v13, v14, old14⟩ := hJ
                      have d6 : b 6 = true := hd.out 6 (by kernel_rfl)
                      have d7 : b 7 = true := hd.out 7 (by kernel_rfl)
                      have r6 := v6 d6
                      have r7 := v7 d7
                      go_simp
                      refine hK.out _ ?_ _ ?_ ?_; rotate_left 2
                      · (try simp only [r6, r7]); rfl
                      exact ⟨hH, v0, v1, v2, v3, v4, v5, v6, v7, fun _ => rfl, v9, v10, v11, v12, v13, v14, old14⟩
                    refine AllSteps.cons (j := 10) rfl (fun b t wx hJ hb hd hcl Kc hK => ?_) ?_
                    · obtain ⟨hH, v0, v1, v2, v3, v4, v5, v6, v7, v8, v9, v10, v11, v12, v13, v14, old14⟩ := hJ
                      have d8 : b 8 = true := hd.out 8 (by kernel_rfl)
                      have r8 := v8 d8
                      obtain ⟨x9, hv9, hc9, o9, hb9, _⟩ := OwnLs.get (hH.get (k := 10) rfl : OwnLs _ _ vs R) HRJ.out
                      obtain rfl : x9 = .slice pr AL.length cr := Option.some.inj (hv9.symm.trans HXR.out)
                      clear hv9 o9
                      go_simp
                      refine hK.out _ ?_ _ ?_ ?_; rotate_left 2
                      · (try simp only [r8]); rfl
                      exact ⟨hH, v0, v1, v2, v3, v4, v5, v6, v7, v8, fun _ => rfl, v10, v11, v12, v13, v14, old14⟩
                    refine AllSteps.cons (j := 11) rfl (fun b t wx hJ hb hd hcl Kc hK => ?_) ?_
                    · obtain ⟨hH, v0, v1, v2, v3, v4, v5, v6, v7, v8, v9, v10, v11, v12, v13, v14, old14⟩ := hJ
                      go_simp
                      refine hK.out _ ?_ _ ?_ ?_; rotate_left 2
                      · rfl
                      exact ⟨hH, v0, v1, v2, v3, v4, v5, v6, v7, v8, v9, fun _ => rfl, v11, v12, v13, v14, old14⟩
                    refine AllSteps.cons (j := 12) rfl (fun b t wx hJ hb hd hcl Kc hK => ?_) ?_
                    · obtain ⟨hH, v0, v1, v2, v3, v4, v5, v6, v7, v8, v9, v10, v11, v12, v13, v14, old14⟩ := hJ
                      have d9 : b 9 = true := hd.out 9 (by kernel_rfl)
                      have d10 : b 10 = true := hd.out 10 (by kernel_rfl)
                      have r9 := v9 d9
                      have r10 := v10 d10
                      obtain ⟨x9, hv9, hc9, o9, hb9, _⟩ := OwnLs.get (hH.get (k := 10) rfl : OwnLs _ _ vs R) HRJ.out
                      obtain rfl : x9 = .slice pr AL.length cr := Option.some.inj (hv9.symm.trans HXR.out)
                      go_simp
                      go_at_call 111
                      refine (dotOf_ext _ _ RJ I _ o9.ints (hH.ints (k := 11) rfl) (by rw [HRJL.out, hil.out]) HSJ.out (fun z hz => (HIP.out z hz).1) (by rw [HD1.out]; omega)).mono ?_; rintro e11 w11 ⟨rfl, h11⟩
                      rw [HD1.out]
                      (try go_simp)
                      refine hK.out _ ?_ _ ?_ ?_; rotate_left 2
                      · (try simp only [r9, r10]); rfl
                      exact ⟨by have hX := hH.grow h11; (try simp only [List.set_cons_zero, List.set_cons_succ] at hX); simpa only [updB, updV, blkOf_mk, tup0_mk, partsOf3, Nat.reduceBEq, cond_true, cond_false, hb, d9, d10, r9, r10] using hX, v0, v1, v2, v3, v4, v5, v6, v7, v8, v9, v10, fun _ => rfl, v12, v13, v14, old14⟩
                    refine AllSteps.cons (j := 13) rfl (fun b t wx hJ hb hd hcl Kc hK => ?_) ?_
                    · obtain ⟨hH, v0, v1, v2, v3, v4, v5, v6, v7, v8, v9, v10, v11, v12, v13, v14, old14⟩ := hJ
                      have d4 : b 4 = true := hd.out 4 (by kernel_rfl)
                      have d5 : b 5 = true := hd.out 5 (by kernel_rfl)
                      have d11 : b 11 = true := hd.out 11 (by kernel_rfl)
                      have r4 := v4 d4
                      have r5 := v5 d5
                      have r11 := v11 d11
                      go_simp
                      go_at_call 110
                      refine (rawElem_gen k p n qj (qj * W) W HWW.out _ _ _ _ _ _ bX oX (flat xs).length f3 _ QJW.out hqj0 hw HD3.out hcX hX9).mono ?_; rintro e12 w12 ⟨rfl, h12⟩
                      (try go_simp)
                      refine hK.out _ ?_ _ ?_ ?_; rotate_left 2
                      · (try simp only [r4, r5, r11]); rfl
                      exact ⟨by have hX := hH.grow h12; (try simp only [List.set_cons_zero, List.set_cons_succ] at hX); simpa only [updB, updV, blkOf_mk, tup0_mk, partsOf3, Nat.reduceBEq, cond_true, cond_false, hb, d4, d5, d11, r4, r5, r11] using hX, v0, v1, v2, v3, v4, v5, v6, v7, v8, v9, v10, v11, fun _ => rfl, v13, v14, old14⟩
                    refine AllSteps.cons (j := 14) rfl (fun b t wx hJ hb hd hcl Kc hK => ?_) ?_
                    · obtain ⟨hH, v0, v1, v2, v3, v4, v5, v6, v7, v8, v9, v10, v11, v12, v13, v14, old14⟩ := hJ
                      have d1 : b 1 = true := hd.out 1 (by kernel_rfl)
                      have d2 : b 2 = true := hd.out 2 (by kernel_rfl)
                      have d12 : b 12 = true := hd.out 12 (by kernel_rfl)
                      have n14 : b 14 = false := Bool.eq_false_iff.2 fun h => absurd (hcl.out 14 13 (by kernel_rfl) (h)) (by rw [hb]; exact Bool.false_ne_true)
                      have r1 := v1 d1
                      have r2 := v2 d2
                      have r12 := v12 d12
                      have hN := hH; (try simp only [hb, d1, d2, d12, n14, cond_true, cond_false] at hN)
                      have hpart := IntS.part (hTX.ext hH.ext) (W := W) (o := qj * W) hW1 HD3.out
                      rw [HD4.out] at hpart
                      go_simp
                      go_at_call 109
                      refine (rawMul_any k p n _ _ (G o j) y _ HR.out (hH.ints (k := 12) rfl) hpart (HGK.out o j) HYK.out).mono ?_; rintro e13 w13 ⟨v13, rfl, o13, h13⟩
                      rw [← HGJ.out] at o13
                      obtain ⟨x13, c13, rfl⟩ := o13.shape1 W (HGL.out o (j + 1))
                      (try go_simp)
                      refine hK.out _ ?_ _ ?_ ?_; rotate_left 2
                      · (try simp only [r1, r2, r12]); rfl
                      exact ⟨by have hX := hN.addI 14 h13 o13 (Nat.le_refl _); (try simp only [List.set_cons_zero, List.set_cons_succ] at hX); simpa only [updB, updV, blkOf_mk, tup0_mk, partsOf3, Nat.reduceBEq, cond_true, cond_false, hb, d1, d2, d12, n14, r1, r2, r12] using hX, v0, v1, v2, v3, v4, v5, v6, v7, v8, v9, v10, v11, v12, fun _ => ⟨_, _, rfl⟩, fun h => absurd (show b 14 = true from h) (by rw [n14]; exact Bool.false_ne_true), old14⟩
                    refine AllSteps.cons (j := 15) rfl (fun b t wx hJ hb hd hcl Kc hK => ?_) ?_
                    · obtain ⟨hH, v0, v1, v2, v3, v4, v5, v6, v7, v8, v9, v10, v11, v12, v13, v14, old14⟩ := hJ
                      have d0 : b 0 = true := hd.out 0 (by kernel_rfl)
                      have d1 : b 1 = true := hd.out 1 (by kernel_rfl)
                      have d2 : b 2 = true := hd.out 2 (by kernel_rfl)
                      have d3 : b 3 = true := hd.out 3 (by kernel_rfl)
                      have d4 : b 4 = true := hd.out 4 (by kernel_rfl)
                      have d5 : b 5 = true := hd.out 5 (by kernel_rfl)
                      have d6 : b 6 = true := hd.out 6 (by kernel_rfl)
                      have d7 : b 7 = true := hd.out 7 (by kernel_rfl)
                      have d8 : b 8 = true := hd.out 8 (by kernel_rfl)
                      have d9 : b 9 = true := hd.out 9 (by kernel_rfl)
                      have d10 : b 10 = true := hd.out 10 (by kernel_rfl)
                      have d11 : b 11 = true := hd.out 11 (by kernel_rfl)
                      have d12 : b 12 = true := hd.out 12 (by kernel_rfl)
                      have d13 : b 13 = true := hd.out 13 (by kernel_rfl)
                      have r0 := v0 d0
                      have r1 := v1 d1
                      have r2 := v2 d2
                      have r3 := v3 d3
                      have r4 := v4 d4
                      have r5 := v5 d5
                      have r6 := v6 d6
                      have r7 := v7 d7
                      have r8 := v8 d8
                      have r9 := v9 d9
                      have r10 := v10 d10
                      have r11 := v11 d11
                      have r12 := v12 d12
                      have r13 := v13 d13
                      obtain ⟨x_13, c_13, r13⟩ := r13
                      go_simp
                      refine hK.out _ ?_ _ ?_ ?_; rotate_left 2
                      · (try simp only [r0, r1, r2, r3, r4, r5, r6, r7, r8, r9, r10, r11, r12, r13]); rfl
                      exact ⟨hH, v0, v1, v2, v3, v4, v5, v6, v7, v8, v9, v10, v11, v12, v13, fun _ => (by first | rfl | exact r13.symm), Lib.hid fun h => absurd (show true = false from h) (by decide)⟩
                    exact AllSteps.nil
                case hEc =>
                  intro b t wc hJ hall
                  obtain ⟨hHc, v0, v1, v2, v3, v4, v5, v6, v7, v8, v9, v10, v11, v12, v13, v14, old14⟩ := hJ
                  clear old14
                  have a0 : b 0 = true := hall 0 (by decide)
                  have a1 : b 1 = true := hall 1 (by decide)
                  have a2 : b 2 = true := hall 2 (by decide)
                  have a3 : b 3 = true := hall 3 (by decide)
                  have a4 : b 4 = true := hall 4 (by decide)
                  have a5 : b 5 = true := hall 5 (by decide)
                  have a6 : b 6 = true := hall 6 (by decide)
                  have a7 : b 7 = true := hall 7 (by decide)
                  have a8 : b 8 = true := hall 8 (by decide)
                  have a9 : b 9 = true := hall 9 (by decide)
                  have a10 : b 10 = true := hall 10 (by decide)
                  have a11 : b 11 = true := hall 11 (by decide)
                  have a12 : b 12 = true := hall 12 (by decide)
                  have a13 : b 13 = true := hall 13 (by decide)
                  have a14 : b 14 = true := hall 14 (by decide)
                  (try simp only [a0, a1, a2, a3, a4, a5, a6, a7, a8, a9, a10, a11, a12, a13, a14, cond_true] at hHc)
                  replace v0 := v0 a0
                  replace v1 := v1 a1
                  replace v2 := v2 a2
                  replace v3 := v3 a3
                  replace v4 := v4 a4
                  replace v5 := v5 a5
                  replace v6 := v6 a6
                  replace v7 := v7 a7
                  replace v8 := v8 a8
                  replace v9 := v9 a9
                  replace v10 := v10 a10
                  replace v11 := v11 a11
                  replace v12 := v12 a12
                  replace v13 := v13 a13
                  replace v14 := v14 a14
                  clear hall a0 a1 a2 a3 a4 a5 a6 a7 a8 a9 a10 a11 a12 a13 a14
                  generalize t 14 = x14 at hHc v14 ⊢
                  generalize t 13 = x13 at hHc v13 v14 ⊢
                  generalize t 12 = x12 at hHc v12 ⊢
                  generalize t 11 = x11 at hHc v11 ⊢
                  generalize t 10 = x10 at hHc v10 ⊢
                  generalize t 9 = x9 at hHc v9 ⊢
                  generalize t 8 = x8 at hHc v8 ⊢
                  generalize t 7 = x7 at hHc v7 ⊢
                  generalize t 6 = x6 at hHc v6 ⊢
                  generalize t 5 = x5 at hHc v5 ⊢
                  generalize t 4 = x4 at hHc v4 ⊢
                  generalize t 3 = x3 at hHc v3 ⊢
                  generalize t 2 = x2 at hHc v2 ⊢
                  generalize t 1 = x1 at hHc v1 ⊢
                  generalize t 0 = x0 at hHc v0 ⊢
                  subst v0
                  subst v1
                  subst v2
                  subst v3
                  subst v4
                  subst v5
                  subst v6
                  subst v7
                  subst v8
                  subst v9
                  subst v10
                  subst v11
                  subst v12
                  obtain ⟨xc13, cc13, rfl⟩ := v13
                  subst v14
                  clear b
                  replace hH := hHc; clear hHc
                  replace hH : Held w wc [aI (.slice p1b9 op.length c1b9) op, aI (.slice p2b9 op.length c2b9) (op.map dm), aI (.slice (some ⟨bx, 0, none⟩) N c3b9) X, aB (w.heap.size) 29 [.int .i64 k, .int .i64 p, .int .i64 n, .slice (some ⟨bT, oT, none⟩) m cV, .slice aO op.length cO], aB (w.heap.size + 1) 32 [.slice none 0 0, .slice none 0 0, .slice none 0 0], aT (.agg #[.slice p1a3 AL.length c1a3, .slice p2a3 AL.length c2a3, .slice p3a3 0 c3a3]) AL (AL.map dm) [], aB qa4 32 [.slice p1a3 AL.length c1a3, .slice p2a3 AL.length c2a3, .slice p3a3 0 c3a3], emp, aB qb10 32 [.slice p1b9 op.length c1b9, .slice p2b9 op.length c2b9, .slice (some ⟨bx, 0, none⟩) N c3b9], aI (.slice ps AL.length cps) (AL.map (stride op (op.map dm))), aLs (.slice (some ⟨bo, 0, none⟩) m m) vs R, aI (.slice (some ⟨bi, 0, none⟩) AL.length AL.length) I, aI (.slice aw W cw) (G o j), aB (wr.heap.size) 32 [.slice e1 tl.length f1, .slice e2 tl.length f2, .slice (some ⟨bX, oX, none⟩) (flat xs).length f3], aI (.slice xc13 W cc13) (G o (j + 1))] := hH
                  replace hH : Held w wc [aI (.slice p1b9 op.length c1b9) op, aI (.slice p2b9 op.length c2b9) (op.map dm), aI (.slice (some ⟨bx, 0, none⟩) N c3b9) X, aB (w.heap.size) 29 [.int .i64 k, .int .i64 p, .int .i64 n, .slice (some ⟨bT, oT, none⟩) m cV, .slice aO op.length cO], aB (w.heap.size + 1) 32 [.slice none 0 0, .slice none 0 0, .slice none 0 0], aT (.agg #[.slice p1a3 AL.length c1a3, .slice p2a3 AL.length c2a3, .slice p3a3 0 c3a3]) AL (AL.map dm) [], aB qa4 32 [.slice p1a3 AL.length c1a3, .slice p2a3 AL.length c2a3, .slice p3a3 0 c3a3], emp, aB qb10 32 [.slice p1b9 op.length c1b9, .slice p2b9 op.length c2b9, .slice (some ⟨bx, 0, none⟩) N c3b9], aI (.slice ps AL.length cps) (AL.map (stride op (op.map dm))), aLs (.slice (some ⟨bo, 0, none⟩) m m) vs R, aI (.slice (some ⟨bi, 0, none⟩) AL.length AL.length) I, aI (.slice xc13 W cc13) (G o (j + 1))] := hH.sub (.cons_cons _ (.cons_cons _ (.cons_cons _ (.cons_cons _ (.cons_cons _ (.cons_cons _ (.cons_cons _ (.cons_cons _ (.cons_cons _ (.cons_cons _ (.cons_cons _ (.cons_cons _ (.cons _ (.cons _ (.cons_cons _ .slnil)))))))))))))))
                  go_wp2_with fail
                  go_roundw
                  case rel => exact ⟨j + 1, by omega, by go_num, hH⟩
                  case measure => simp [RowKit.intOf]; omega
              · skip
                have hje : j = m := by omega
                subst hje
                obtain ⟨m, hmj⟩ : ∃ q, q = j := ⟨j, rfl⟩
                subst hmj
                obtain ⟨wd, rfl⟩ : ∃ q, q = wr := ⟨wr, rfl⟩
                obtain ⟨OV, hOV⟩ : ∃ q, AL.map (stride op (op.map dm)) = q := ⟨_, rfl⟩
                have HOVL : Hid (OV.length = AL.length) := Lib.hid (by rw [← hOV, List.length_map])
                have HQ1' := HQ1.out; have HSO' := HSO.out
                rw [hOV] at hH HQ1' HSO'
                have HSOV := Lib.hid HSO'; have HQV := Lib.hid HQ1'; have HOVE := Lib.hid hOV; clear hOV HQ1' HSO'
                have hq0 : (0 : Int) ≤ (q : Int) := by omega
                have hN99 : N ≤ 1048576 := by omega
                have q3_0 := (hH.blk (k := 3) rfl).cell (j := 0) rfl
                have q3_1 := (hH.blk (k := 3) rfl).cell (j := 1) rfl
                have q3_2 := (hH.blk (k := 3) rfl).cell (j := 2) rfl
                have q3_3 := (hH.blk (k := 3) rfl).cell (j := 3) rfl
                have q3_4 := (hH.blk (k := 3) rfl).cell (j := 4) rfl
                have l3_ := (hH.blk (k := 3) rfl).lt
                have q4_0 := (hH.blk (k := 4) rfl).cell (j := 0) rfl
                have q4_1 := (hH.blk (k := 4) rfl).cell (j := 1) rfl
                have q4_2 := (hH.blk (k := 4) rfl).cell (j := 2) rfl
                have l4_ := (hH.blk (k := 4) rfl).lt
                have q6_0 := (hH.blk (k := 6) rfl).cell (j := 0) rfl
                have q6_1 := (hH.blk (k := 6) rfl).cell (j := 1) rfl
                have q6_2 := (hH.blk (k := 6) rfl).cell (j := 2) rfl
                have l6_ := (hH.blk (k := 6) rfl).lt
                have q8_0 := (hH.blk (k := 8) rfl).cell (j := 0) rfl
                have q8_1 := (hH.blk (k := 8) rfl).cell (j := 1) rfl
                have q8_2 := (hH.blk (k := 8) rfl).cell (j := 2) rfl
                have l8_ := (hH.blk (k := 8) rfl).lt
                go_upto_region 23 with fail
                clear q3_0 q3_1 q3_2 q3_3 q3_4 l3_ q4_0 q4_1 q4_2 l4_ q6_0 q6_1 q6_2 l6_ q8_0 q8_1 q8_2 l8_
                refine wp_region_steps ?Fe (fun b t wx => Held w wx [aI (.slice p1b9 op.length c1b9) op, aI (.slice p2b9 op.length c2b9) (op.map dm), (bif b 10 then aI (.slice (some ⟨bx, 0, none⟩) N c3b9) X2 else aI (.slice (some ⟨bx, 0, none⟩) N c3b9) X), aB (w.heap.size) 29 [.int .i64 k, .int .i64 p, .int .i64 n, .slice aV m cV, .slice aO op.length cO], aB (w.heap.size + 1) 32 [.slice none 0 0, .slice none 0 0, .slice none 0 0], aT (.agg #[.slice p1a3 AL.length c1a3, .slice p2a3 AL.length c2a3, .slice p3a3 0 c3a3]) AL (AL.map dm) [], aB qa4 32 [.slice p1a3 AL.length c1a3, .slice p2a3 AL.length c2a3, .slice p3a3 0 c3a3], emp, aB qb10 32 [.slice p1b9 op.length c1b9, .slice p2b9 op.length c2b9, .slice (some ⟨bx, 0, none⟩) N c3b9], aI (.slice ps AL.length cps) OV, aLs (.slice (some ⟨bo, 0, none⟩) m m) vs R, aI (.slice (some ⟨bi, 0, none⟩) AL.length AL.length) I, aI (.slice aw W cw) (G o m)] ∧ (b 0 = true → t 0 = .pointer (some ⟨w.heap.size, 0, none⟩)) ∧ (b 1 = true → t 1 = .agg #[.int .i64 k, .int .i64 p, .int .i64 n]) ∧ (b 2 = true → t 2 = .pointer (some ⟨w.heap.size, 0, none⟩)) ∧ (b 3 = true → t 3 = .agg #[.int .i64 k, .int .i64 p, .int .i64 n]) ∧ (b 4 = true → t 4 = .agg #[.slice p1b9 op.length c1b9, .slice p2b9 op.length c2b9, .slice (some ⟨bx, 0, none⟩) N c3b9]) ∧ (b 5 = true → t 5 = .slice ps AL.length cps) ∧ (b 6 = true → t 6 = .slice (some ⟨bi, 0, none⟩) AL.length AL.length) ∧ (b 7 = true → t 7 = .int .i64 (q : Int)) ∧ (b 8 = true → t 8 = .slice (some ⟨bx, q * W, none⟩) W (c3b9 - q * W)) ∧ (b 9 = true → t 9 = .slice aw W cw) ∧ (b 10 = true → t 10 = .tuple #[])) ?hFe (by kernel_rfl) (by kernel_rfl) ?hJe ?hSe ?hEe
                (case hFe => intro t; simp only [putAll, Act.put, List.setIfInBounds_toArray, List.set_cons_zero, List.set_cons_succ, Nat.reduceAdd, Nat.zero_add]; exact rfl)
                case hJe => exact ⟨hH.grow ((Ext.refl _).drew), fun h => absurd h Bool.false_ne_true, fun h => absurd h Bool.false_ne_true, fun h => absurd h Bool.false_ne_true, fun h => absurd h Bool.false_ne_true, fun h => absurd h Bool.false_ne_true, fun h => absurd h Bool.false_ne_true, fun h => absurd h Bool.false_ne_true, fun h => absurd h Bool.false_ne_true, fun h => absurd h Bool.false_ne_true, fun h => absurd h Bool.false_ne_true, fun h => absurd h Bool.false_ne_true⟩
                case hSe =>
                  as_aux_lemma =>
                    refine AllSteps.cons (j := 1) rfl (fun b t wx hJ hb hd hcl Kc hK => ?_) ?_
                    · obtain ⟨hH, v0, v1, v2, v3, v4, v5, v6, v7, v8, v9, v10⟩ := hJ
                      go_simp
                      refine hK.out _ ?_ _ ?_ ?_; rotate_left 2
                      · rfl
                      exact ⟨hH, fun _ => rfl, v1, v2, v3, v4, v5, v6, v7, v8, v9, v10⟩
                    refine AllSteps.cons (j := 2) rfl (fun b t wx hJ hb hd hcl Kc hK => ?_) ?_
                    · obtain ⟨hH, v0, v1, v2, v3, v4, v5, v6, v7, v8, v9, v10⟩ := hJ
                      have d0 : b 0 = true := hd.out 0 (by kernel_rfl)
                      have r0 := v0 d0
                      have q3_0 := (hH.blk (k := 3) rfl).cell (j := 0) rfl
                      have q3_1 := (hH.blk (k := 3) rfl).cell (j := 1) rfl
                      have q3_2 := (hH.blk (k := 3) rfl).cell (j := 2) rfl
                      go_simp
                      refine hK.out _ ?_ _ ?_ ?_; rotate_left 2
                      · (try simp only [r0]); rfl
                      exact ⟨hH, v0, fun _ => rfl, v2, v3, v4, v5, v6, v7, v8, v9, v10⟩
                    refine AllSteps.cons (j := 3) rfl (fun b t wx hJ hb hd hcl Kc hK => ?_) ?_
                    · obtain ⟨hH, v0, v1, v2, v3, v4, v5, v6, v7, v8, v9, v10⟩ := hJ
                      go_simp
                      refine hK.out _ ?_ _ ?_ ?_; rotate_left 2
                      · rfl
                      exact ⟨hH, v0, v1, fun _ => rfl, v3, v4, v5, v6, v7, v8, v9, v10⟩
                    refine AllSteps.cons (j := 4) rfl (fun b t wx hJ hb hd hcl Kc hK => ?_) ?_
                    · obtain ⟨hH, v0, v1, v2, v3, v4, v5, v6, v7, v8, v9, v10⟩ := hJ
                      have d2 : b 2 = true := hd.out 2 (by kernel_rfl)
                      have r2 := v2 d2
                      have q3_0 := (hH.blk (k := 3) rfl).cell (j := 0) rfl
                      have q3_1 := (hH.blk (k := 3) rfl).cell (j := 1) rfl
                      have q3_2 := (hH.blk (k := 3) rfl).cell (j := 2) rfl
                      go_simp
                      refine hK.out _ ?_ _ ?_ ?_; rotate_left 2
                      · (try simp only [r2]); rfl
                      exact ⟨hH, v0, v1, v2, fun _ => rfl, v4, v5, v6, v7, v8, v9, v10⟩
                    refine AllSteps.cons (j := 5) rfl (fun b t wx hJ hb hd hcl Kc hK => ?_) ?_
                    · obtain ⟨hH, v0, v1, v2, v3, v4, v5, v6, v7, v8, v9, v10⟩ := hJ
                      have q8_0 := (hH.blk (k := 8) rfl).cell (j := 0) rfl
                      have q8_1 := (hH.blk (k := 8) rfl).cell (j := 1) rfl
                      have q8_2 := (hH.blk (k := 8) rfl).cell (j := 2) rfl
                      go_simp
                      refine hK.out _ ?_ _ ?_ ?_; rotate_left 2
                      · rfl
                      exact ⟨hH, v0, v1, v2, v3, fun _ => rfl, v5, v6, v7, v8, v9, v10⟩
                    refine AllSteps.cons (j := 6) rfl (fun b t wx hJ hb hd hcl Kc hK => ?_) ?_
                    · obtain ⟨hH, v0, v1, v2, v3, v4, v5, v6, v7, v8, v9, v10⟩ := hJ
                      go_simp
                      refine hK.out _ ?_ _ ?_ ?_; rotate_left 2
                      · rfl
                      exact ⟨hH, v0, v1, v2, v3, v4, fun _ => rfl, v6, v7, v8, v9, v10⟩
                    refine AllSteps.cons (j := 7) rfl (fun b t wx hJ hb hd hcl Kc hK => ?_) ?_
                    · obtain ⟨hH, v0, v1, v2, v3, v4, v5, v6, v7, v8, v9, v10⟩ := hJ
                      go_simp
                      refine hK.out _ ?_ _ ?_ ?_; rotate_left 2
                      · rfl
                      exact ⟨hH, v0, v1, v2, v3, v4, v5, fun _ => rfl, v7, v8, v9, v10⟩
                    refine AllSteps.cons (j := 8) rfl (fun b t wx hJ hb hd hcl Kc hK => ?_) ?_
                    · obtain ⟨hH, v0, v1, v2, v3, v4, v5, v6, v7, v8, v9, v10⟩ := hJ
                      have d5 : b 5 = true := hd.out 5 (by kernel_rfl)
                      have d6 : b 6 = true := hd.out 6 (by kernel_rfl)
                      have r5 := v5 d5
                      have r6 := v6 d6
                      go_simp
                      go_at_call 111
                      refine (dotOf_ext _ _ OV I _ (hH.ints (k := 9) rfl) (hH.ints (k := 11) rfl) (by rw [HOVL.out, hil.out]) HSOV.out (fun z hz => (HIP.out z hz).1) (by rw [HQV.out]; omega)).mono ?_; rintro e7 w7 ⟨rfl, h7⟩
                      rw [HQV.out]
                      (try go_simp)
                      refine hK.out _ ?_ _ ?_ ?_; rotate_left 2
                      · (try simp only [r5, r6]); rfl
                      exact ⟨by have hX := hH.grow h7; (try simp only [List.set_cons_zero, List.set_cons_succ] at hX); simpa only [updB, updV, blkOf_mk, tup0_mk, partsOf3, Nat.reduceBEq, cond_true, cond_false, hb, d5, d6, r5, r6] using hX, v0, v1, v2, v3, v4, v5, v6, fun _ => rfl, v8, v9, v10⟩
                    refine AllSteps.cons (j := 9) rfl (fun b t wx hJ hb hd hcl Kc hK => ?_) ?_
                    · obtain ⟨hH, v0, v1, v2, v3, v4, v5, v6, v7, v8, v9, v10⟩ := hJ
                      have d3 : b 3 = true := hd.out 3 (by kernel_rfl)
                      have d4 : b 4 = true := hd.out 4 (by kernel_rfl)
                      have d7 : b 7 = true := hd.out 7 (by kernel_rfl)
                      have r3 := v3 d3
                      have r4 := v4 d4
                      have r7 := v7 d7
                      go_simp
                      go_at_call 110
                      refine (rawElem_any k p n q (q * W) W HWW.out _ _ _ _ _ _ bx N c3b9 _ QW.out hq0 hw HQ3.out hcx hN99).mono ?_; rintro e8 w8 ⟨rfl, h8⟩
                      (try go_simp)
                      refine hK.out _ ?_ _ ?_ ?_; rotate_left 2
                      · (try simp only [r3, r4, r7]); rfl
                      exact ⟨by have hX := hH.grow h8; (try simp only [List.set_cons_zero, List.set_cons_succ] at hX); simpa only [updB, updV, blkOf_mk, tup0_mk, partsOf3, Nat.reduceBEq, cond_true, cond_false, hb, d3, d4, d7, r3, r4, r7] using hX, v0, v1, v2, v3, v4, v5, v6, v7, fun _ => rfl, v9, v10⟩
                    refine AllSteps.cons (j := 10) rfl (fun b t wx hJ hb hd hcl Kc hK => ?_) ?_
                    · obtain ⟨hH, v0, v1, v2, v3, v4, v5, v6, v7, v8, v9, v10⟩ := hJ
                      go_simp
                      refine hK.out _ ?_ _ ?_ ?_; rotate_left 2
                      · rfl
                      exact ⟨hH, v0, v1, v2, v3, v4, v5, v6, v7, v8, fun _ => rfl, v10⟩
                    refine AllSteps.cons (j := 11) rfl (fun b t wx hJ hb hd hcl Kc hK => ?_) ?_
                    · obtain ⟨hH, v0, v1, v2, v3, v4, v5, v6, v7, v8, v9, v10⟩ := hJ
                      have d1 : b 1 = true := hd.out 1 (by kernel_rfl)
                      have d8 : b 8 = true := hd.out 8 (by kernel_rfl)
                      have d9 : b 9 = true := hd.out 9 (by kernel_rfl)
                      have r1 := v1 d1
                      have r8 := v8 d8
                      have r9 := v9 d9
                      have hN := hH; (try simp only [hb, d1, d8, d9, cond_true, cond_false] at hN)
                      go_simp
                      go_at_call 101
                      refine (addInto_own k p n w.heap.size bx (q * W) W N c3b9 _ _ X z (G o m) _ HR.out (hN.own (k := 2) rfl) HXL.out HQ3.out HQ4.out (hN.ints (k := 12) rfl) (fun e => hN.others (k := 12) rfl 2 _ (by decide) rfl bx (by simp [aI, e]) (by simp [aI, Value.ownBlock])) HQ5.out (HGK.out o m)).mono ?_; rintro e10 w10 ⟨rfl, o10, g10⟩
                      rw [← HQ6.out] at o10
                      (try go_simp)
                      refine hK.out _ ?_ _ ?_ ?_; rotate_left 2
                      · (try simp only [r1, r8, r9]); rfl
                      exact ⟨by have hX := hN.pushed (k := 2) rfl o10 g10 (fun q hq => .inl hq); (try simp only [List.set_cons_zero, List.set_cons_succ] at hX); simpa only [updB, updV, blkOf_mk, tup0_mk, partsOf3, Nat.reduceBEq, cond_true, cond_false, hb, d1, d8, d9, r1, r8, r9] using hX, v0, v1, v2, v3, v4, v5, v6, v7, v8, v9, fun _ => rfl⟩
                    exact AllSteps.nil
                case hEe =>
                  intro b t we hJ hall
                  obtain ⟨hHe, v0, v1, v2, v3, v4, v5, v6, v7, v8, v9, v10⟩ := hJ
                  have a0 : b 0 = true := hall 0 (by decide)
                  have a1 : b 1 = true := hall 1 (by decide)
                  have a2 : b 2 = true := hall 2 (by decide)
                  have a3 : b 3 = true := hall 3 (by decide)
                  have a4 : b 4 = true := hall 4 (by decide)
                  have a5 : b 5 = true := hall 5 (by decide)
                  have a6 : b 6 = true := hall 6 (by decide)
                  have a7 : b 7 = true := hall 7 (by decide)
                  have a8 : b 8 = true := hall 8 (by decide)
                  have a9 : b 9 = true := hall 9 (by decide)
                  have a10 : b 10 = true := hall 10 (by decide)
                  (try simp only [a0, a1, a2, a3, a4, a5, a6, a7, a8, a9, a10, cond_true] at hHe)
                  replace v0 := v0 a0
                  replace v1 := v1 a1
                  replace v2 := v2 a2
                  replace v3 := v3 a3
                  replace v4 := v4 a4
                  replace v5 := v5 a5
                  replace v6 := v6 a6
                  replace v7 := v7 a7
                  replace v8 := v8 a8
                  replace v9 := v9 a9
                  replace v10 := v10 a10
                  clear hall a0 a1 a2 a3 a4 a5 a6 a7 a8 a9 a10
                  generalize t 10 = x10 at hHe v10 ⊢
                  generalize t 9 = x9 at hHe v9 ⊢
                  generalize t 8 = x8 at hHe v8 ⊢
                  generalize t 7 = x7 at hHe v7 ⊢
                  generalize t 6 = x6 at hHe v6 ⊢
                  generalize t 5 = x5 at hHe v5 ⊢
                  generalize t 4 = x4 at hHe v4 ⊢
                  generalize t 3 = x3 at hHe v3 ⊢
                  generalize t 2 = x2 at hHe v2 ⊢
                  generalize t 1 = x1 at hHe v1 ⊢
                  generalize t 0 = x0 at hHe v0 ⊢
                  subst v0
                  subst v1
                  subst v2
                  subst v3
                  subst v4
                  subst v5
                  subst v6
                  subst v7
                  subst v8
                  subst v9
                  subst v10
                  clear b
                  replace hH := hHe; clear hHe
                  replace hH : Held w we [aI (.slice p1b9 op.length c1b9) op, aI (.slice p2b9 op.length c2b9) (op.map dm), aI (.slice (some ⟨bx, 0, none⟩) N c3b9) X2, aB (w.heap.size) 29 [.int .i64 k, .int .i64 p, .int .i64 n, .slice aV m cV, .slice aO op.length cO], aB (w.heap.size + 1) 32 [.slice none 0 0, .slice none 0 0, .slice none 0 0], aT (.agg #[.slice p1a3 AL.length c1a3, .slice p2a3 AL.length c2a3, .slice p3a3 0 c3a3]) AL (AL.map dm) [], aB qa4 32 [.slice p1a3 AL.length c1a3, .slice p2a3 AL.length c2a3, .slice p3a3 0 c3a3], emp, aB qb10 32 [.slice p1b9 op.length c1b9, .slice p2b9 op.length c2b9, .slice (some ⟨bx, 0, none⟩) N c3b9], aI (.slice ps AL.length cps) OV, aLs (.slice (some ⟨bo, 0, none⟩) m m) vs R, aI (.slice (some ⟨bi, 0, none⟩) AL.length AL.length) I, aI (.slice aw W cw) (G o m)] := hH
                  have q3_0 := (hH.blk (k := 3) rfl).cell (j := 0) rfl
                  have q3_1 := (hH.blk (k := 3) rfl).cell (j := 1) rfl
                  have q3_2 := (hH.blk (k := 3) rfl).cell (j := 2) rfl
                  have q3_3 := (hH.blk (k := 3) rfl).cell (j := 3) rfl
                  have q3_4 := (hH.blk (k := 3) rfl).cell (j := 4) rfl
                  have l3_ := (hH.blk (k := 3) rfl).lt
                  have q4_0 := (hH.blk (k := 4) rfl).cell (j := 0) rfl
                  have q4_1 := (hH.blk (k := 4) rfl).cell (j := 1) rfl
                  have q4_2 := (hH.blk (k := 4) rfl).cell (j := 2) rfl
                  have l4_ := (hH.blk (k := 4) rfl).lt
                  have q6_0 := (hH.blk (k := 6) rfl).cell (j := 0) rfl
                  have q6_1 := (hH.blk (k := 6) rfl).cell (j := 1) rfl
                  have q6_2 := (hH.blk (k := 6) rfl).cell (j := 2) rfl
                  have l6_ := (hH.blk (k := 6) rfl).lt
                  have q8_0 := (hH.blk (k := 8) rfl).cell (j := 0) rfl
                  have q8_1 := (hH.blk (k := 8) rfl).cell (j := 1) rfl
                  have q8_2 := (hH.blk (k := 8) rfl).cell (j := 2) rfl
                  have l8_ := (hH.blk (k := 8) rfl).lt
                  go_wp2_with fail
                  clear q3_0 q3_1 q3_2 q3_3 q3_4 l3_ q4_0 q4_1 q4_2 l4_ q6_0 q6_1 q6_2 l6_ q8_0 q8_1 q8_2 l8_
                  refine (nextIndex_any w.heap.size _ _ (AL.map dm) I _ (by have h := (hH.parts (k := 5) rfl).2.1.ints; exact h) (hH.own (k := 11) rfl) (by rw [List.length_map, hil.out]) HIP.out (fun q hq hq2 => hH.others (k := 11) rfl 5 _ (by decide) rfl q (by simp [aI, hq]) (by show q ∈ fpV (.agg #[.slice p1a3 AL.length c1a3, .slice p2a3 AL.length c2a3, .slice p3a3 0 c3a3]); rw [fpV_agg]; simp [hq2]))).mono ?_; rintro e5 w5 ⟨rfl, oI, gI⟩
                  replace hH := hH.pushed (k := 11) rfl oI gI (fun q hq => .inl hq)
                  clear oI gI
                  rw [HNX.out] at hH ⊢
                  by_cases hlast : o + 1 < NA
                  · rw [if_pos hlast] at hH ⊢
                    have hHK : Held w w5 [aI (.slice p1b9 op.length c1b9) op, aI (.slice p2b9 op.length c2b9) (op.map dm), aI (.slice (some ⟨bx, 0, none⟩) N c3b9) X2, aB (w.heap.size) 29 [.int .i64 k, .int .i64 p, .int .i64 n, .slice aV m cV, .slice aO op.length cO], aB (w.heap.size + 1) 32 [.slice none 0 0, .slice none 0 0, .slice none 0 0], aT (.agg #[.slice p1a3 AL.length c1a3, .slice p2a3 AL.length c2a3, .slice p3a3 0 c3a3]) AL (AL.map dm) [], aB qa4 32 [.slice p1a3 AL.length c1a3, .slice p2a3 AL.length c2a3, .slice p3a3 0 c3a3], emp, aB qb10 32 [.slice p1b9 op.length c1b9, .slice p2b9 op.length c2b9, .slice (some ⟨bx, 0, none⟩) N c3b9], aI (.slice ps AL.length cps) OV, aLs (.slice (some ⟨bo, 0, none⟩) m m) vs R, aI (.slice (some ⟨bi, 0, none⟩) AL.length AL.length) (AL.map (σ (o + 1))), aI (.slice aw W cw) (G o m)] := hH
                    have hHL := hHK.sub (.cons_cons _ (.cons_cons _ (.cons_cons _ (.cons_cons _ (.cons_cons _ (.cons_cons _ (.cons_cons _ (.cons_cons _ (.cons_cons _ (.cons_cons _ (.cons_cons _ (.cons_cons _ (.cons _ .slnil)))))))))))))
                    rw [← HX2.out, ← HOVE.out] at hHL
                    have HHL := Lib.hid hHL; clear hHL hHK hH
                    go_wp2_with fail
                    go_roundg (gk - 1)
                    case measure => have := hgg.out; omega
                    case rel => exact ⟨o + 1, Lib.hid (by have := hgg.out; omega), hlast, HHL.out⟩
                  · rw [if_neg hlast] at hH ⊢
                    have hNo : o + 1 = NA := by omega
                    have HXF : Hid (flat (Z NA) = X2) := Lib.hid (by rw [← hNo]; exact HX2.out)
                    clear hNo hlast ho
                    replace hH := hH.drop 11
                    replace hH : Held w w5 [aI (.slice p1b9 op.length c1b9) op, aI (.slice p2b9 op.length c2b9) (op.map dm), aI (.slice (some ⟨bx, 0, none⟩) N c3b9) X2, aB (w.heap.size) 29 [.int .i64 k, .int .i64 p, .int .i64 n, .slice aV m cV, .slice aO op.length cO], aB (w.heap.size + 1) 32 [.slice none 0 0, .slice none 0 0, .slice none 0 0], aT (.agg #[.slice p1a3 AL.length c1a3, .slice p2a3 AL.length c2a3, .slice p3a3 0 c3a3]) AL (AL.map dm) [], aB qa4 32 [.slice p1a3 AL.length c1a3, .slice p2a3 AL.length c2a3, .slice p3a3 0 c3a3], emp, aB qb10 32 [.slice p1b9 op.length c1b9, .slice p2b9 op.length c2b9, .slice (some ⟨bx, 0, none⟩) N c3b9], aI (.slice ps AL.length cps) OV, aLs (.slice (some ⟨bo, 0, none⟩) m m) vs R, emp, aI (.slice aw W cw) (G o m)] := hH
                    have q3_0 := (hH.blk (k := 3) rfl).cell (j := 0) rfl
                    have q3_1 := (hH.blk (k := 3) rfl).cell (j := 1) rfl
                    have q3_2 := (hH.blk (k := 3) rfl).cell (j := 2) rfl
                    have q3_3 := (hH.blk (k := 3) rfl).cell (j := 3) rfl
                    have q3_4 := (hH.blk (k := 3) rfl).cell (j := 4) rfl
                    have l3_ := (hH.blk (k := 3) rfl).lt
                    have q4_0 := (hH.blk (k := 4) rfl).cell (j := 0) rfl
                    have f4_0 := (hH.blk (k := 4) rfl).free 0
                    have q4_1 := (hH.blk (k := 4) rfl).cell (j := 1) rfl
                    have f4_1 := (hH.blk (k := 4) rfl).free 1
                    have q4_2 := (hH.blk (k := 4) rfl).cell (j := 2) rfl
                    have f4_2 := (hH.blk (k := 4) rfl).free 2
                    have l4_ := (hH.blk (k := 4) rfl).lt
                    have q6_0 := (hH.blk (k := 6) rfl).cell (j := 0) rfl
                    have q6_1 := (hH.blk (k := 6) rfl).cell (j := 1) rfl
                    have q6_2 := (hH.blk (k := 6) rfl).cell (j := 2) rfl
                    have l6_ := (hH.blk (k := 6) rfl).lt
                    have q8_0 := (hH.blk (k := 8) rfl).cell (j := 0) rfl
                    have q8_1 := (hH.blk (k := 8) rfl).cell (j := 1) rfl
                    have q8_2 := (hH.blk (k := 8) rfl).cell (j := 2) rfl
                    have l8_ := (hH.blk (k := 8) rfl).lt
                    go_upto_region 25 with fail
                    repeat go_step
                    refine bodyPost_ret (v := .tuple #[.agg #[.slice p1b9 op.length c1b9, .slice p2b9 op.length c2b9, .slice (some ⟨bx, 0, none⟩) N c3b9], .bool true]) (by simp [results, Try.results31, go_sem, *]) rfl ?_
                    have hHR := hH.setB3' (k := 4) rfl (.slice p1b9 op.length c1b9) (.slice p2b9 op.length c2b9) (.slice (some ⟨bx, 0, none⟩) N c3b9)
                    rw [HXF.out]
                    exact ⟨_, rfl, hHR.close3 (i := 0) (j := 1) (m := 2) rfl rfl rfl (by decide) (by decide) (by decide), hHR.ext⟩

end Go.Proofs.Ytpegckmagiaggaa
