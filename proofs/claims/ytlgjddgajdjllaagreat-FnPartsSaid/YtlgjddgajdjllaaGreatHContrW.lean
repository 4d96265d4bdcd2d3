/- ContractPair of the program. -/
import Derived.Test.YtlgjddgajdjllaaGreatHIntoO
set_option linter.unusedSimpArgs false
set_option linter.unusedVariables false
namespace Go.Proofs.YtlgjddgajdjllaaGreat
open Go.RowKit
theorem OwnT.shapeN {w : World} {B n1 n2 n3 : Nat} {v : Value} {L D X : List Int} (h : OwnT w B v L D X) (h1 : L.length = n1) (h2 : D.length = n2) (h3 : X.length = n3) :
    ∃ a1 c1 a2 c2 a3 c3, v = .agg #[.slice a1 n1 c1, .slice a2 n2 c2, .slice a3 n3 c3] := by
  subst h1 h2 h3
  obtain ⟨a, b, c, rfl, g1, g2, g3, _⟩ := h.val
  obtain ⟨x1, y1, rfl, _, _⟩ := g1.ints.val
  obtain ⟨x2, y2, rfl, _, _⟩ := g2.ints.val
  obtain ⟨x3, y3, rfl, _, _⟩ := g3.ints.val
  exact ⟨_, _, _, _, _, _, rfl⟩
theorem OwnI.shapeN {w : World} {B n : Nat} {v : Value} {l : List Int} (h : OwnI w B v l) (h1 : l.length = n) : ∃ a c, v = .slice a n c := by
  subst h1
  obtain ⟨a, c, rfl, _, _⟩ := h.ints.val
  exact ⟨_, _, rfl⟩
section
variable {k p n : Int} (hr : ringOk k p n = true)
set_option maxRecDepth 100000 in
set_option maxHeartbeats 8000000 in
theorem contractPair_any {dm : Int → Int} {U a b : List Int} {xs ys : List (El k p n)} (hta : IsT k p n dm U a xs) (htb : IsT k p n dm U b ys) (keep : List Int) (va vb vk : Value) (w : World)
 (ha : TenS w va a (a.map dm) (flat xs)) (hb : TenS w vb b (b.map dm) (flat ys)) (hk : IntS w vk keep) :
 Calls Tryz.prog 13 #[ringV k p n, va, vb, vk] w fun e w' => ∃ u, e = .returned (.tuple #[u, .bool true]) ∧
  OwnT w' w.heap.size u (keepL (joinL a b) keep) ((keepL (joinL a b) keep).map dm) (flat (contrXs hr dm a b keep xs ys)) ∧ Ext w w' := by
 have ha0 := ha
 obtain ⟨ap1, an1, ac1, ap2, an2, ac2, ap3, an3, ac3, rfl⟩ := ha.shape
 obtain ⟨_, _, _, hvv, haL, haD, haX⟩ := ha.val
 simp at hvv
 obtain ⟨rfl, rfl, rfl⟩ := hvv
 obtain ⟨_, _, hvv, _, _⟩ := haL.val
 simp at hvv
 obtain ⟨rfl, rfl, rfl⟩ := hvv
 obtain ⟨_, _, hvv, _, _⟩ := haD.val
 simp at hvv
 obtain ⟨rfl, rfl, rfl⟩ := hvv
 obtain ⟨_, _, hvv, _, _⟩ := haX.val
 simp at hvv
 obtain ⟨rfl, rfl, rfl⟩ := hvv
 have hb0 := hb
 obtain ⟨bp1, bn1, bc1, bp2, bn2, bc2, bp3, bn3, bc3, rfl⟩ := hb.shape
 obtain ⟨_, _, _, hvv, hbL, hbD, hbX⟩ := hb.val
 simp at hvv
 obtain ⟨rfl, rfl, rfl⟩ := hvv
 obtain ⟨_, _, hvv, _, _⟩ := hbL.val
 simp at hvv
 obtain ⟨rfl, rfl, rfl⟩ := hvv
 obtain ⟨_, _, hvv, _, _⟩ := hbD.val
 simp at hvv
 obtain ⟨rfl, rfl, rfl⟩ := hvv
 obtain ⟨_, _, hvv, _, _⟩ := hbX.val
 simp at hvv
 obtain ⟨rfl, rfl, rfl⟩ := hvv
 obtain ⟨P, W, hP, hW, hP1, hP2, hW1', hW6, hXl⟩ := (hta.ok hr).nat hr
 obtain ⟨P', W', hP', hW', hP1', hP2', _, _, hYl⟩ := (htb.ok hr).nat hr
 obtain rfl : W = W' := by omega
 have hPW1 : 1 ≤ P * W := Nat.mul_le_mul hP1 hW1'
 have hPW : P * W ≤ 4096 * 6 := Nat.mul_le_mul hP2 hW6
 have hQW1 : 1 ≤ P' * W := Nat.mul_le_mul hP1' hW1'
 have hQW : P' * W ≤ 4096 * 6 := Nat.mul_le_mul hP2' hW6
 obtain ⟨bA, oA, cA, hXX, hcA, _, hbA⟩ := haX.open (by omega)
 cases hXX
 obtain ⟨bB, oB, cB, hXX, hcB, _, hbB⟩ := hbX.open (by omega)
 cases hXX
 have hX9 : (flat xs).length ≤ 1048576 := by omega
 have hY9 : (flat ys).length ≤ 1048576 := by omega
 have HWW := Lib.hid hW
 clear hP hP1 hP2 hW hXl hPW1 hPW hP' hP1' hP2' hW' hYl hQW1 hQW
 have HTA := Lib.hid hta; clear hta
 have HTB := Lib.hid htb; clear htb
 have HYA := Lib.hid (HTA.out.yes hr)
 have HYB := Lib.hid (HTB.out.yes hr)
 have hla : a.length ≤ 12 := HTA.out.ax.rank
 have hlb : b.length ≤ 12 := HTB.out.ax.rank
 obtain ⟨ak, ck, rfl, _, _⟩ := hk.val
 obtain ⟨J, hJ⟩ : ∃ J, joinL a b = J := ⟨_, rfl⟩
 obtain ⟨K, hK⟩ : ∃ K, keepL J keep = K := ⟨_, rfl⟩
 obtain ⟨Z, hZ⟩ : ∃ Z : Nat → List (El k p n), contrZ hr dm a b keep xs ys = Z := ⟨_, rfl⟩
 obtain ⟨NJ, hNJ⟩ : ∃ NJ, size (axs dm J) = NJ := ⟨_, rfl⟩
 have SJ : Hid (Sub U J) := Lib.hid (hJ ▸ HTA.out.sub.join HTB.out.sub)
 have SK : Hid (Sub U K) := Lib.hid (hK ▸ SJ.out.keep keep)
 have UU := Lib.hid HTA.out.uni
 have hKJ : Hid (∀ l ∈ K, l ∈ J) := Lib.hid (hK ▸ fun l hl => (mem_keepL.1 hl).1)
 have HFin : Hid (contrXs hr dm a b keep xs ys = Z NJ) := Lib.hid (by rw [← hZ, ← contrZ_all hr HTA.out.sub HTB.out.sub, hJ, hNJ])
 have HZ0 : Hid (Z 0 = List.replicate (size (axs dm K)) (rig hr).zero) := Lib.hid (by rw [← hZ, contrZ_zero, hJ, hK])
 have HZL : Hid (∀ o, (Z o).length = size (axs dm K)) := Lib.hid fun o => by rw [← hZ, contrZ_length, hJ, hK]
 have HStep := Lib.hid (fun (o : Nat) (ho : o < size (axs dm (joinL a b))) => contr_step hr HWW.out HTA.out HTB.out keep ho)
 rw [hJ, hK, hZ, hNJ] at HStep
 have HNJ := Lib.hid hNJ
 have hN0 : 1 ≤ NJ := by rw [← hNJ]; exact (UU.out.small SJ.out).2
 have hN9 : NJ ≤ 4096 := by rw [← hNJ]; exact (UU.out.small SJ.out).1
 have hjl : J.length ≤ 12 := (UU.out.ax SJ.out).rank
 have hkl : K.length ≤ 12 := (UU.out.ax SK.out).rank
 have HR := Lib.hid hr
 have hmk := mkInts K.length (by omega)
 have hmj := mkInts J.length (by omega)
 have hmw := mkInts W (by omega)
 rw [hJ, hK, HFin.out]
 have HJ := Lib.hid hJ; have HK := Lib.hid hK
 clear hJ hK hZ hNJ
 generalize hW1 : ((((w.alloc (.cells #[.int .i64 k, .int .i64 p, .int .i64 n] 24)).alloc (.cells #[.slice ap1 a.length ac1, .slice ap2 a.length ac2, .slice (some ⟨bA, oA, none⟩) (flat xs).length ac3] 35)).alloc (.cells #[.slice bp1 b.length bc1, .slice bp2 b.length bc2, .slice (some ⟨bB, oB, none⟩) (flat ys).length bc3] 35)).alloc (.cells #[.slice none 0 0, .slice none 0 0, .slice none 0 0] 35)) = w1
 have h1 : Ext w w1 := by rw [← hW1]; exact xt
 have Br : Blk w1 (w.heap.size) 24 [.int .i64 k, .int .i64 p, .int .i64 n] := by rw [← hW1]; exact ((((Blk.newB (c := #[_, _, _]) (by simp)).alloc _).alloc _).alloc _)
 have Ba : Blk w1 (w.heap.size + 1) 35 [.slice ap1 a.length ac1, .slice ap2 a.length ac2, .slice (some ⟨bA, oA, none⟩) (flat xs).length ac3] := by rw [← hW1]; exact (((Blk.newB (c := #[_, _, _]) (by simp)).alloc _).alloc _)
 have Bb : Blk w1 (w.heap.size + 2) 35 [.slice bp1 b.length bc1, .slice bp2 b.length bc2, .slice (some ⟨bB, oB, none⟩) (flat ys).length bc3] := by rw [← hW1]; exact ((Blk.newB (c := #[_, _, _]) (by simp)).alloc _)
 have Bz : Blk w1 (w.heap.size + 3) 35 [.slice none 0 0, .slice none 0 0, .slice none 0 0] := by rw [← hW1]; exact (Blk.newB (c := #[_, _, _]) (by simp))
 have HS1 : Hid (w1.heap.size = w.heap.size + 4) := Lib.hid (by rw [← hW1]; simp)
 have HW := Lib.hid hW1; clear hW1
 go_enter Tryz.func13, Tryz.ntmps13
 go_wp2_with fail
 rw [HW.out]
 have ir_0 := Br.cell (j := 0) rfl
 have ir_1 := Br.cell (j := 1) rfl
 have ir_2 := Br.cell (j := 2) rfl
 have ia_0 := Ba.cell (j := 0) rfl
 have ia_1 := Ba.cell (j := 1) rfl
 have ia_2 := Ba.cell (j := 2) rfl
 have ib_0 := Bb.cell (j := 0) rfl
 have ib_1 := Bb.cell (j := 1) rfl
 have ib_2 := Bb.cell (j := 2) rfl
 go_wp2_with fail
 refine (tensorOk_impl k p n _ a _ _ _ (ha0.ext h1)).mono ?_; rintro e2 w2 ⟨rfl, h2⟩; rw [HYA.out]
 have B2r := Br.ext h2
 have B2a := Ba.ext h2
 have B2b := Bb.ext h2
 have B2z := Bz.ext h2
 have j2r_0 := B2r.cell (j := 0) rfl
 have j2r_1 := B2r.cell (j := 1) rfl
 have j2r_2 := B2r.cell (j := 2) rfl
 have j2a_0 := B2a.cell (j := 0) rfl
 have j2a_1 := B2a.cell (j := 1) rfl
 have j2a_2 := B2a.cell (j := 2) rfl
 have j2b_0 := B2b.cell (j := 0) rfl
 have j2b_1 := B2b.cell (j := 1) rfl
 have j2b_2 := B2b.cell (j := 2) rfl
 have l2r := B2r.lt
 have l2a := B2a.lt
 have l2b := B2b.lt
 have l2z := B2z.lt
 clear ir_0 ir_1 ir_2 ia_0 ia_1 ia_2 ib_0 ib_1 ib_2
 go_wp2_with fail
 refine (tensorOk_impl k p n _ b _ _ _ (hb0.ext (h1.trans h2))).mono ?_; rintro e3 w3 ⟨rfl, h3⟩; rw [HYB.out]
 have B3r := B2r.ext h3
 have B3a := B2a.ext h3
 have B3b := B2b.ext h3
 have B3z := B2z.ext h3
 have j3r_0 := B3r.cell (j := 0) rfl
 have j3r_1 := B3r.cell (j := 1) rfl
 have j3r_2 := B3r.cell (j := 2) rfl
 have j3a_0 := B3a.cell (j := 0) rfl
 have j3a_1 := B3a.cell (j := 1) rfl
 have j3a_2 := B3a.cell (j := 2) rfl
 have j3b_0 := B3b.cell (j := 0) rfl
 have j3b_1 := B3b.cell (j := 1) rfl
 have j3b_2 := B3b.cell (j := 2) rfl
 have l3r := B3r.lt
 have l3a := B3a.lt
 have l3b := B3b.lt
 have l3z := B3z.lt
 clear j2r_0 j2r_1 j2r_2 j2a_0 j2a_1 j2a_2 j2b_0 j2b_1 j2b_2 l2r l2a l2b l2z
 have E3 : Ext w w3 := h1.trans (h2.trans h3)
 have s3 := E3.size
 have hs13 : w1.heap.size ≤ w3.heap.size := (h2.trans h3).size
 go_wp2_with fail
 refine (joinAxes_any a b _ _ _ _ _ (ha0.ext E3) (hb0.ext E3) hla hlb).mono ?_; rintro e4 w4 ⟨v4, u4, rfl, oJ, oD, dJD, h4⟩
 rw [HJ.out] at oJ oD
 clear dJD
 obtain ⟨aJ, cJ, rfl, _, _⟩ := oJ.ints.val
 obtain ⟨aD, cD, rfl, _, _⟩ := oD.ints.val
 rw [List.length_map] at oD
 have B4r := B3r.ext h4
 have B4a := B3a.ext h4
 have B4b := B3b.ext h4
 have B4z := B3z.ext h4
 have j4r_0 := B4r.cell (j := 0) rfl
 have j4r_1 := B4r.cell (j := 1) rfl
 have j4r_2 := B4r.cell (j := 2) rfl
 have j4a_0 := B4a.cell (j := 0) rfl
 have j4a_1 := B4a.cell (j := 1) rfl
 have j4a_2 := B4a.cell (j := 2) rfl
 have j4b_0 := B4b.cell (j := 0) rfl
 have j4b_1 := B4b.cell (j := 1) rfl
 have j4b_2 := B4b.cell (j := 2) rfl
 have l4r := B4r.lt
 have l4a := B4a.lt
 have l4b := B4b.lt
 have l4z := B4z.lt
 clear j3r_0 j3r_1 j3r_2 j3a_0 j3a_1 j3a_2 j3b_0 j3b_1 j3b_2 l3r l3a l3b l3z
 obtain ⟨pj, hpj⟩ : ∃ pj, prodL (J.map dm) = pj := ⟨_, rfl⟩
 have hpj9 : pj ≤ 4096 := by rw [← hpj]; exact (UU.out.ax SJ.out).size
 have HPJ := Lib.hid hpj; clear hpj
 have s4 := h4.size
 go_wp2_with fail
 refine (productOf_any _ (J.map dm) _ oD.ints (UU.out.ax SJ.out).dims (UU.out.ax SJ.out).size).mono ?_; rintro e5 w5' ⟨rfl, rfl⟩; rw [HPJ.out]
 go_wp2_with fail
 refine (keptOnly_any _ _ J keep _ oJ.ints (hk.ext (E3.trans h4)) (by omega)).mono ?_; rintro e5 w5 ⟨v5, rfl, oK, h5⟩
 rw [HK.out] at oK
 obtain ⟨aK, cK, rfl, _, _⟩ := oK.ints.val
 have B5r := B4r.ext h5
 have B5a := B4a.ext h5
 have B5b := B4b.ext h5
 have B5z := B4z.ext h5
 have j5r_0 := B5r.cell (j := 0) rfl
 have j5r_1 := B5r.cell (j := 1) rfl
 have j5r_2 := B5r.cell (j := 2) rfl
 have j5a_0 := B5a.cell (j := 0) rfl
 have j5a_1 := B5a.cell (j := 1) rfl
 have j5a_2 := B5a.cell (j := 2) rfl
 have j5b_0 := B5b.cell (j := 0) rfl
 have j5b_1 := B5b.cell (j := 1) rfl
 have j5b_2 := B5b.cell (j := 2) rfl
 have l5r := B5r.lt
 have l5a := B5a.lt
 have l5b := B5b.lt
 have l5z := B5z.lt
 clear j4r_0 j4r_1 j4r_2 j4a_0 j4a_1 j4a_2 j4b_0 j4b_1 j4b_2 l4r l4a l4b l4z
 have s5 := h5.size
 go_wp2_with fail
 generalize hW6 : (w5.alloc (.cells (madeCells #[.int .i64 0] K.length) 3)).alloc (.cells #[.slice aK K.length cK, .slice (some ⟨w5.heap.size, 0, none⟩) K.length K.length, .slice none 0 0] 35) = w6
 have h6 : Ext w5 w6 := by rw [← hW6]; exact xt
 have oDc : OwnI w6 w3.heap.size (.slice (some ⟨w5.heap.size, 0, none⟩) K.length K.length) (List.replicate K.length 0) := by rw [← hW6]; exact (OwnI.zeros w5 _ _ _ rfl (by omega) (by omega)).alloc _
 have Bc : Blk w6 (w5.heap.size + 1) 35 [.slice aK K.length cK, .slice (some ⟨w5.heap.size, 0, none⟩) K.length K.length, .slice none 0 0] := by rw [← hW6]; exact Blk.newB (c := #[_, _, _]) (by simp)
 have HS6 : Hid (w6.heap.size = w5.heap.size + 2) := Lib.hid (by rw [← hW6]; simp)
 clear hW6
 have oJ6 := oJ.ext (h5.trans h6)
 have oD6 := oD.ext (h5.trans h6)
 have oK6 := (oK.mono s4).ext h6
 have NJb : Hid (∀ q, (Value.slice aJ J.length cJ).ownBlock = some q → q < w4.heap.size) := Lib.hid fun q hq => (oJ.block_lt hq).2
 have NDb : Hid (∀ q, (Value.slice aD J.length cD).ownBlock = some q → q < w4.heap.size) := Lib.hid fun q hq => (oD.block_lt hq).2
 have NKb : Hid (∀ q, (Value.slice aK K.length cK).ownBlock = some q → q < w5.heap.size) := Lib.hid fun q hq => (oK.block_lt hq).2
 have HS4 := Lib.hid s4
 have HS5 := Lib.hid s5
 clear oJ oD oK
 clear j5r_0 j5r_1 j5r_2 j5a_0 j5a_1 j5a_2 j5b_0 j5b_1 j5b_2 l5r l5a l5b l5z
 have E6 : Ext w3 w6 := h4.trans (h5.trans h6)
 go_loopw [60] (fun i wr => ∃ j : Nat, j ≤ K.length ∧ i = .int .i64 j ∧ Blk wr (w5.heap.size + 1) 35 [.slice aK K.length cK, .slice (some ⟨w5.heap.size, 0, none⟩) K.length K.length, .slice none 0 0] ∧ OwnI wr w3.heap.size (.slice aK K.length cK) K ∧ OwnI wr w3.heap.size (.slice aJ J.length cJ) J ∧ OwnI wr w3.heap.size (.slice aD J.length cD) (J.map dm) ∧ OwnI wr w3.heap.size (.slice (some ⟨w5.heap.size, 0, none⟩) K.length K.length) (mixM dm (fun _ => 0) K j) ∧ Ext w3 wr ∧ w6.heap.size ≤ wr.heap.size) (fun i wr => K.length - (RowKit.intOf i).toNat)
 case atStart => exact ⟨0, Nat.zero_le _, rfl, Bc, oK6, oJ6, oD6, by rw [mixM_zero, List.map_const']; exact oDc, E6, Nat.le_refl _⟩
 obtain ⟨j, hj, rfl, Bcr, oKr, oJr, oDr, oCr, hE, hsz⟩ := hrel
 have qc1 := Bcr.cell (j := 1) rfl
 have lcr := Bcr.lt
 by_cases hlt : j < K.length
 · obtain ⟨bm, om, m, rfl, hcm, hm, _⟩ := oKr.ints.get hlt
   have hmJ := hKJ.out m (List.mem_of_getElem? hm)
   have HM := Lib.hid hm; clear hm
   obtain ⟨V, hV⟩ : ∃ V, mixM dm (fun _ => 0) K j = V := ⟨_, rfl⟩
   have hV0 : Hid (V.set j 0 = V) := Lib.hid (set_same (by rw [← hV]; exact mixM_at HM.out))
   have hVl : Hid (V.length = K.length) := Lib.hid (by rw [← hV, mixM_length])
   have HV := Lib.hid hV
   rw [hV] at oCr
   clear hV
   have HMJ := Lib.hid hmJ; clear hmJ
   go_wp2_with fail
   go_loopw [67] (fun i wr => ∃ t : Nat, t ≤ J.length ∧ i = .int .i64 t ∧ Blk wr (w5.heap.size + 1) 35 [.slice (some ⟨bm, om, none⟩) K.length cK, .slice (some ⟨w5.heap.size, 0, none⟩) K.length K.length, .slice none 0 0] ∧ OwnI wr w3.heap.size (.slice (some ⟨bm, om, none⟩) K.length cK) K ∧ OwnI wr w3.heap.size (.slice aJ J.length cJ) J ∧ OwnI wr w3.heap.size (.slice aD J.length cD) (J.map dm) ∧ OwnI wr w3.heap.size (.slice (some ⟨w5.heap.size, 0, none⟩) K.length K.length) (V.set j (if hasL (J.take t) m = true then dm m else 0)) ∧ Ext w3 wr ∧ w6.heap.size ≤ wr.heap.size) (fun i wr => J.length - (RowKit.intOf i).toNat)
   case atStart => exact ⟨0, Nat.zero_le _, rfl, Bcr, oKr, oJr, oDr, by rw [List.take_zero, hasL_nil, if_neg (by simp), hV0.out]; exact oCr, hE, hsz⟩
   obtain ⟨t, ht, rfl, Bcs, oKs, oJs, oDs, oCs, hEs, hszs⟩ := hrel
   have qc1 := Bcs.cell (j := 1) rfl
   have lcs := Bcs.lt
   by_cases hlt2 : t < J.length
   · obtain ⟨bn, on, x, rfl, hcx, hx, _⟩ := oJs.ints.get hlt2
     have HX := Lib.hid hx; clear hx
     by_cases hxm : x = m
     · subst hxm
       obtain ⟨bd, od, z, rfl, hcz, hz, _⟩ := oDs.ints.get (i := t) (by simpa using hlt2)
       obtain rfl : z = dm x := by rw [List.getElem?_map, HX.out] at hz; exact (Option.some.inj hz).symm
       clear hz
       obtain ⟨u, hu⟩ : ∃ u, (V.set j (if hasL (J.take t) x = true then dm x else 0))[j]? = some u := ⟨_, List.getElem?_eq_getElem (by rw [List.length_set, hVl.out]; exact hlt)⟩
       obtain ⟨hcu, hfu⟩ := oCs.cell hu
       have hset := oCs.set j (by rw [List.length_set, hVl.out]; exact hlt) (dm x)
       rw [List.set_set] at hset
       have hdl := (oCs.block_lt (k := w5.heap.size) rfl).2
       have hin : hasL (J.take (t + 1)) x = true := by rw [take_snoc' HX.out, hasL_snoc]; simp
       have hbd : bd ≠ w5.heap.size := fun e => by have := NDb.out bd rfl; have := HS5.out; omega
       have hbd2 : bd ≠ w5.heap.size + 1 := fun e => by have := NDb.out bd rfl; have := HS5.out; omega
       have hzl := World.block_lt_of_cell? _ _ hcz
       have HI := Lib.hid hin; have HS := Lib.hid hset; clear hin hset hu
       go_upto_region 15 with fail
       go_region_held3 (fun w' => w'.cell? ⟨w5.heap.size + 1, 1, none⟩ = some (.slice (some ⟨w5.heap.size, 0, none⟩) K.length K.length) ∧ w'.cell? ⟨bd, od + t, none⟩ = some (.int .i64 (dm x)))
        (first | (refine ⟨?_, ?_⟩ <;> exact ((Ext.refl _).drew).cell (by with_reducible assumption)) | exact ⟨((Ext.refl _).drew).cell (by rw [World.cell?_setCell_far _ _ _ _ (by simp)]; exact qc1), ((Ext.refl _).drew).cell (by rw [World.cell?_setCell_far _ _ _ _ (by simp; omega)]; exact hcz)⟩)
        (fail)
       go_wp2_with fail
       go_roundw
       case rel => exact ⟨t + 1, by omega, by go_num, (Bcs.other (p := ⟨w5.heap.size, j, none⟩) (by simp) _).ext xt, (oKs.setOther (p := ⟨w5.heap.size, j, none⟩) (fun q hq => by have := NKb.out q hq; first | omega | (simp; omega)) _).ext xt, (oJs.setOther (p := ⟨w5.heap.size, j, none⟩) (fun q hq => by have := NJb.out q hq; have := HS5.out; first | omega | (simp; omega)) _).ext xt, (oDs.setOther (p := ⟨w5.heap.size, j, none⟩) (fun q hq => by have := NDb.out q hq; have := HS5.out; first | omega | (simp; omega)) _).ext xt, by rw [if_pos HI.out]; exact HS.out.ext xt, by have := HS4.out; have := HS5.out; exact (hEs.setAt (by omega) _ _).drew, by simp; omega⟩
       case measure => simp [RowKit.intOf]; omega
     have hin : hasL (J.take (t + 1)) m = hasL (J.take t) m := by rw [take_snoc' HX.out, hasL_snoc, show (m == x) = false by rw [beq_eq_false_iff_ne]; exact fun e => hxm e.symm, Bool.or_false]
     have HI := Lib.hid hin; clear hin
     have HOC := Lib.hid oCs; clear oCs
     go_wp2_with fail
     go_roundw
     case rel => exact ⟨t + 1, by omega, by go_num, Bcs, oKs, oJs, oDs, by rw [HI.out]; exact HOC.out, hEs, hszs⟩
     case measure => simp [RowKit.intOf]; omega
   have : t = J.length := by omega
   subst this
   have hs : V.set j (dm m) = mixM dm (fun _ => 0) K (j + 1) := by rw [← HV.out]; exact mixM_step HM.out
   rw [List.take_length, if_pos ((hasL_iff _ _).2 HMJ.out), hs] at oCs
   have HOC := Lib.hid oCs; clear oCs hs
   go_wp2_with fail
   go_roundw
   case rel => exact ⟨j + 1, by omega, by go_num, Bcs, oKs, oJs, oDs, HOC.out, hEs, hszs⟩
   case measure => simp [RowKit.intOf]; omega
 have : j = K.length := by omega
 subst this
 rw [mixM_all] at oCr
 clear qc1
 have hE3 : Ext w1 wr := (h2.trans h3).trans hE
 have E3r : Ext w wr := h1.trans hE3
 have Gr := Br.ext hE3
 have Ga := Ba.ext hE3
 have Gb := Bb.ext hE3
 have Gz := Bz.ext hE3
 have qc0 := Bcr.cell (j := 0) rfl
 have qc1 := Bcr.cell (j := 1) rfl
 have qc2 := Bcr.cell (j := 2) rfl
 obtain ⟨pk, hpk⟩ : ∃ pk, prodL (K.map dm) = pk := ⟨_, rfl⟩
 have hpk1 : 1 ≤ pk := by rw [← hpk]; exact (UU.out.ax SK.out).pos
 have HTS : Hid (tsize K (K.map dm) = pk) := Lib.hid (by rw [(UU.out.ax SK.out).tsize, hpk])
 have HPK := Lib.hid hpk; clear hpk
 go_wp2_with fail
 refine (tensorSize_impl _ K (K.map dm) [] _ ⟨_, _, _, rfl, oKr.ints, oCr.ints, IntS.nil _⟩).mono ?_; rintro e7 w7 ⟨rfl, h7⟩; rw [HTS.out]
 have Hr := Gr.ext h7
 have Ha := Ga.ext h7
 have Hb := Gb.ext h7
 have Hz := Gz.ext h7
 have Hc := Bcr.ext h7
 have s7 := h7.size
 have r0 := Hr.cell (j := 0) rfl
 have r1 := Hr.cell (j := 1) rfl
 have r2 := Hr.cell (j := 2) rfl
 have lr := Hr.lt
 have c0 := Hc.cell (j := 0) rfl
 have c1 := Hc.cell (j := 1) rfl
 have c2 := Hc.cell (j := 2) rfl
 have lc := Hc.lt
 have oK7 := oKr.ext h7
 have oC7 := oCr.ext h7
 have oJ7 := oJr.ext h7
 have oD7 := oDr.ext h7
 have E7 : Ext w w7 := E3r.trans h7
 clear qc0 qc1 qc2 oKr oCr oJr oDr
 have hkm : (K.map dm).length ≤ 12 := by simp; omega
 have hzl : (zeroL k p n).length ≤ 6 := by rw [zeroL_length]; have := (ringOk_wide HR.out).hi; omega
 have D0 : Ext w7 w7.drew := (Ext.refl _).drew
 obtain ⟨X0, hX0⟩ : ∃ X0, rep pk.toNat (zeroL k p n) = X0 := ⟨_, rfl⟩
 obtain ⟨N, hN⟩ : ∃ N, X0.length = N := ⟨_, rfl⟩
 have hZ00 : flat (Z 0) = X0 := by rw [HZ0.out, ← flat_rep, ← hX0]; show rep (size (axs dm K)) (zeroL k p n) = _; congr 1; have := UU.out.size SK.out; have := HPK.out; omega
 have hN1 : N = size (axs dm K) * W := by rw [← hN, ← hZ00, flat_length HWW.out, HZL.out]
 have hN9 : N ≤ 4096 * 6 := by rw [hN1]; exact Nat.mul_le_mul (UU.out.small SK.out).1 hW6
 have hN2 : 1 ≤ N := by rw [hN1]; exact Nat.mul_le_mul (UU.out.small SK.out).2 hW1'
 have HX0 := Lib.hid hX0; have HN := Lib.hid hN; have HZ00 := Lib.hid hZ00; have HN1 := Lib.hid hN1
 clear hX0 hN hZ00 hN1
 go_upto_region 20 with fail
 go_cut [] from 24 (fun wx => ∃ w9 q1 d1 q2 d2 q3 d3, Ext w7 w9 ∧ OwnT w9 w7.heap.size (.agg #[.slice q1 K.length d1, .slice q2 K.length d2, .slice q3 N d3]) K (K.map dm) X0 ∧ wx = ((w9.setCell ⟨w5.heap.size + 1, 0, none⟩ (.slice q1 K.length d1)).setCell ⟨w5.heap.size + 1, 1, none⟩ (.slice q2 K.length d2)).setCell ⟨w5.heap.size + 1, 2, none⟩ (.slice q3 N d3))
 case first =>
  have hlt0 : w.heap.size < w5.heap.size + 1 := by have := HS4.out; omega
  refine wp_region_held_drew (S := fun w' => w'.cell? ⟨w.heap.size, 0, none⟩ = some (.int .i64 k) ∧ w'.cell? ⟨w.heap.size, 1, none⟩ = some (.int .i64 p) ∧ w'.cell? ⟨w.heap.size, 2, none⟩ = some (.int .i64 n)) (by kernel_rfl) ?_ (fun hHeld => ?_)
  · (first | exact xc3 ((Ext.refl _).drew) r0 r1 r2 | exact ⟨x8_0, x8_1, x8_2⟩ | exact ⟨x9_0, x9_1, x9_2⟩ | exact gc3 (b := w5.heap.size + 1) (grown_setCell (grown_setCell (grown_setCell (grown_refl _ _) _ _) _ _) _ _) (by omega) x9_0 (by omega) x9_1 (by omega) x9_2)
  refine wpAnyH_take (i := 0) (v := ?_) rfl (by kernel_rfl) (by kernel_rfl) (by kernel_rfl) (fun _ _ _ h => h) (Or.inl ⟨by rfl, ?_⟩) (by assumption) ?_
  rotate_left
  · intro w hSw; (try dsimp only at hSw); go_simp; (try with_reducible rfl)
  (try go_simp)
  refine wpAnyH_take (i := 1) (v := ?_) rfl (by kernel_rfl) (by kernel_rfl) (by kernel_rfl) (fun _ _ _ h => h) (Or.inl ⟨by rfl, ?_⟩) (by assumption) ?_
  rotate_left
  · intro w hSw; (try dsimp only at hSw); go_simp; (try with_reducible rfl)
  (try go_simp)
  refine wpAnyH_take (i := 3) (v := ?_) rfl (by kernel_rfl) (by kernel_rfl) (by kernel_rfl) (fun _ _ _ h => h) (Or.inl ⟨by rfl, ?_⟩) (by assumption) ?_
  rotate_left
  · intro w hSw; (try dsimp only at hSw); go_simp; (try with_reducible rfl)
  (try go_simp)
  refine wpAnyH_take (i := 5) (v := ?_) rfl (by kernel_rfl) (by kernel_rfl) (by kernel_rfl) (fun _ _ _ h => h) (Or.inl ⟨by rfl, ?_⟩) (by assumption) ?_
  rotate_left
  · intro w hSw; (try dsimp only at hSw); go_simp; (try with_reducible rfl)
  (try go_simp)
  refine wpAnyH_ready (rs := [2, 4, 6]) (by kernel_rfl) (by simp) ?_
  refine AllReadyH.cons rfl (fun Kc hKc => ?_) ?_
  ·
   go_simp
   refine hKc.out _ _ ?_ (fun hHeld => ?_) <;> clear hKc Kc
   · (first | exact xc3 ((Ext.refl _).drew) r0 r1 r2 | exact ⟨x8_0, x8_1, x8_2⟩ | exact ⟨x9_0, x9_1, x9_2⟩ | exact gc3 (b := w5.heap.size + 1) (grown_setCell (grown_setCell (grown_setCell (grown_refl _ _) _ _) _ _) _ _) (by omega) x9_0 (by omega) x9_1 (by omega) x9_2)
   refine wpAnyH_ready (rs := [4, 6]) (by kernel_rfl) (by simp) ?_
   refine AllReadyH.cons rfl (fun Kc hKc => ?_) ?_
   ·
    go_simp
    refine hKc.out _ _ ?_ (fun hHeld => ?_) <;> clear hKc Kc
    · (first | exact xc3 ((Ext.refl _).drew) r0 r1 r2 | exact ⟨x8_0, x8_1, x8_2⟩ | exact ⟨x9_0, x9_1, x9_2⟩ | exact gc3 (b := w5.heap.size + 1) (grown_setCell (grown_setCell (grown_setCell (grown_refl _ _) _ _) _ _) _ _) (by omega) x9_0 (by omega) x9_1 (by omega) x9_2)
    refine wpAnyH_ready (rs := [6]) (by kernel_rfl) (by simp) ?_
    refine AllReadyH.cons rfl (fun Kc hKc => ?_) AllReadyH.nil
    go_simp; go_at_call 37
    (with_reducible refine (rawZero_any k p n (ringOk_wide HR.out) w7.drew).mono ?_); rintro e8 w8 ⟨v8, rfl, o8, h8⟩; obtain ⟨a8, k8, rfl, _, _⟩ := o8.ints.val; have E8 : Ext w7 w8 := D0.trans h8; have y8_0 := E8.cell c0; have y8_1 := E8.cell c1; have y8_2 := E8.cell c2; have x8_0 := E8.cell r0; have x8_1 := E8.cell r1; have x8_2 := E8.cell r2
    (try go_simp)
    refine hKc.out _ _ ?_ (fun hHeld => ?_) <;> clear hKc Kc
    · (first | exact xc3 ((Ext.refl _).drew) r0 r1 r2 | exact ⟨x8_0, x8_1, x8_2⟩ | exact ⟨x9_0, x9_1, x9_2⟩ | exact gc3 (b := w5.heap.size + 1) (grown_setCell (grown_setCell (grown_setCell (grown_refl _ _) _ _) _ _) _ _) (by omega) x9_0 (by omega) x9_1 (by omega) x9_2)
    refine wpAnyH_ready (rs := [7]) (by kernel_rfl) (by simp) ?_
    refine AllReadyH.cons rfl (fun Kc hKc => ?_) AllReadyH.nil
    go_simp; go_at_call 36
    (with_reducible refine (fillTensor_any k p n _ _ _ K (K.map dm) (zeroL k p n) w8 (oK7.ints.ext E8) (oC7.ints.ext E8) o8.ints hkl hkm hzl (UU.out.ax SK.out).dims (UU.out.ax SK.out).size).mono ?_); rintro e9 w9 ⟨v9, rfl, o9, h9⟩; rw [HPK.out, HX0.out] at o9; obtain ⟨q1, d1, q2, d2, q3, d3, rfl⟩ := o9.shapeN (n2 := K.length) rfl (by simp) HN.out; have E9 : Ext w7 w9 := E8.trans h9; have Hc9 := Hc.ext E9; have f9_0 := Hc9.free 0; have f9_1 := Hc9.free 1; have f9_2 := Hc9.free 2; have y9_0 := Hc9.cell (j := 0) rfl; have y9_1 := Hc9.cell (j := 1) rfl; have y9_2 := Hc9.cell (j := 2) rfl; have lc9 := Hc9.lt; have s8 := E8.size; have x9_0 := E9.cell r0; have x9_1 := E9.cell r1; have x9_2 := E9.cell r2
    (try go_simp)
    refine hKc.out _ _ ?_ (fun hHeld => ?_) <;> clear hKc Kc
    · (first | exact xc3 ((Ext.refl _).drew) r0 r1 r2 | exact ⟨x8_0, x8_1, x8_2⟩ | exact ⟨x9_0, x9_1, x9_2⟩ | exact gc3 (b := w5.heap.size + 1) (grown_setCell (grown_setCell (grown_setCell (grown_refl _ _) _ _) _ _) _ _) (by omega) x9_0 (by omega) x9_1 (by omega) x9_2)
    refine wpAnyH_ready (rs := [8]) (by kernel_rfl) (by simp) ?_
    refine AllReadyH.cons rfl (fun Kc hKc => ?_) AllReadyH.nil
    go_simp
    refine hKc.out _ _ ?_ (fun hHeld => ?_) <;> clear hKc Kc
    · (first | exact xc3 ((Ext.refl _).drew) r0 r1 r2 | exact ⟨x8_0, x8_1, x8_2⟩ | exact ⟨x9_0, x9_1, x9_2⟩ | exact gc3 (b := w5.heap.size + 1) (grown_setCell (grown_setCell (grown_setCell (grown_refl _ _) _ _) _ _) _ _) (by omega) x9_0 (by omega) x9_1 (by omega) x9_2)
    refine wpAnyH_done (by kernel_rfl) ?_ _
    go_wp2_with fail
    go_meet
    exact ⟨w9, q1, d1, q2, d2, q3, d3, E9, o9.mono s8, rfl⟩
   refine AllReadyH.cons rfl (fun Kc hKc => ?_) AllReadyH.nil
   go_simp; go_at_call 37
   (with_reducible refine (rawZero_any k p n (ringOk_wide HR.out) w7.drew).mono ?_); rintro e8 w8 ⟨v8, rfl, o8, h8⟩; obtain ⟨a8, k8, rfl, _, _⟩ := o8.ints.val; have E8 : Ext w7 w8 := D0.trans h8; have y8_0 := E8.cell c0; have y8_1 := E8.cell c1; have y8_2 := E8.cell c2; have x8_0 := E8.cell r0; have x8_1 := E8.cell r1; have x8_2 := E8.cell r2
   (try go_simp)
   refine hKc.out _ _ ?_ (fun hHeld => ?_) <;> clear hKc Kc
   · (first | exact xc3 ((Ext.refl _).drew) r0 r1 r2 | exact ⟨x8_0, x8_1, x8_2⟩ | exact ⟨x9_0, x9_1, x9_2⟩ | exact gc3 (b := w5.heap.size + 1) (grown_setCell (grown_setCell (grown_setCell (grown_refl _ _) _ _) _ _) _ _) (by omega) x9_0 (by omega) x9_1 (by omega) x9_2)
   refine wpAnyH_ready (rs := [4]) (by kernel_rfl) (by simp) ?_
   refine AllReadyH.cons rfl (fun Kc hKc => ?_) AllReadyH.nil
   go_simp
   refine hKc.out _ _ ?_ (fun hHeld => ?_) <;> clear hKc Kc
   · (first | exact xc3 ((Ext.refl _).drew) r0 r1 r2 | exact ⟨x8_0, x8_1, x8_2⟩ | exact ⟨x9_0, x9_1, x9_2⟩ | exact gc3 (b := w5.heap.size + 1) (grown_setCell (grown_setCell (grown_setCell (grown_refl _ _) _ _) _ _) _ _) (by omega) x9_0 (by omega) x9_1 (by omega) x9_2)
   refine wpAnyH_ready (rs := [7]) (by kernel_rfl) (by simp) ?_
   refine AllReadyH.cons rfl (fun Kc hKc => ?_) AllReadyH.nil
   go_simp; go_at_call 36
   (with_reducible refine (fillTensor_any k p n _ _ _ K (K.map dm) (zeroL k p n) w8 (oK7.ints.ext E8) (oC7.ints.ext E8) o8.ints hkl hkm hzl (UU.out.ax SK.out).dims (UU.out.ax SK.out).size).mono ?_); rintro e9 w9 ⟨v9, rfl, o9, h9⟩; rw [HPK.out, HX0.out] at o9; obtain ⟨q1, d1, q2, d2, q3, d3, rfl⟩ := o9.shapeN (n2 := K.length) rfl (by simp) HN.out; have E9 : Ext w7 w9 := E8.trans h9; have Hc9 := Hc.ext E9; have f9_0 := Hc9.free 0; have f9_1 := Hc9.free 1; have f9_2 := Hc9.free 2; have y9_0 := Hc9.cell (j := 0) rfl; have y9_1 := Hc9.cell (j := 1) rfl; have y9_2 := Hc9.cell (j := 2) rfl; have lc9 := Hc9.lt; have s8 := E8.size; have x9_0 := E9.cell r0; have x9_1 := E9.cell r1; have x9_2 := E9.cell r2
   (try go_simp)
   refine hKc.out _ _ ?_ (fun hHeld => ?_) <;> clear hKc Kc
   · (first | exact xc3 ((Ext.refl _).drew) r0 r1 r2 | exact ⟨x8_0, x8_1, x8_2⟩ | exact ⟨x9_0, x9_1, x9_2⟩ | exact gc3 (b := w5.heap.size + 1) (grown_setCell (grown_setCell (grown_setCell (grown_refl _ _) _ _) _ _) _ _) (by omega) x9_0 (by omega) x9_1 (by omega) x9_2)
   refine wpAnyH_ready (rs := [8]) (by kernel_rfl) (by simp) ?_
   refine AllReadyH.cons rfl (fun Kc hKc => ?_) AllReadyH.nil
   go_simp
   refine hKc.out _ _ ?_ (fun hHeld => ?_) <;> clear hKc Kc
   · (first | exact xc3 ((Ext.refl _).drew) r0 r1 r2 | exact ⟨x8_0, x8_1, x8_2⟩ | exact ⟨x9_0, x9_1, x9_2⟩ | exact gc3 (b := w5.heap.size + 1) (grown_setCell (grown_setCell (grown_setCell (grown_refl _ _) _ _) _ _) _ _) (by omega) x9_0 (by omega) x9_1 (by omega) x9_2)
   refine wpAnyH_done (by kernel_rfl) ?_ _
   go_wp2_with fail
   go_meet
   exact ⟨w9, q1, d1, q2, d2, q3, d3, E9, o9.mono s8, rfl⟩
  refine AllReadyH.cons rfl (fun Kc hKc => ?_) ?_
  ·
   go_simp
   refine hKc.out _ _ ?_ (fun hHeld => ?_) <;> clear hKc Kc
   · (first | exact xc3 ((Ext.refl _).drew) r0 r1 r2 | exact ⟨x8_0, x8_1, x8_2⟩ | exact ⟨x9_0, x9_1, x9_2⟩ | exact gc3 (b := w5.heap.size + 1) (grown_setCell (grown_setCell (grown_setCell (grown_refl _ _) _ _) _ _) _ _) (by omega) x9_0 (by omega) x9_1 (by omega) x9_2)
   refine wpAnyH_ready (rs := [2, 6]) (by kernel_rfl) (by simp) ?_
   refine AllReadyH.cons rfl (fun Kc hKc => ?_) ?_
   ·
    go_simp
    refine hKc.out _ _ ?_ (fun hHeld => ?_) <;> clear hKc Kc
    · (first | exact xc3 ((Ext.refl _).drew) r0 r1 r2 | exact ⟨x8_0, x8_1, x8_2⟩ | exact ⟨x9_0, x9_1, x9_2⟩ | exact gc3 (b := w5.heap.size + 1) (grown_setCell (grown_setCell (grown_setCell (grown_refl _ _) _ _) _ _) _ _) (by omega) x9_0 (by omega) x9_1 (by omega) x9_2)
    refine wpAnyH_ready (rs := [6]) (by kernel_rfl) (by simp) ?_
    refine AllReadyH.cons rfl (fun Kc hKc => ?_) AllReadyH.nil
    go_simp; go_at_call 37
    (with_reducible refine (rawZero_any k p n (ringOk_wide HR.out) w7.drew).mono ?_); rintro e8 w8 ⟨v8, rfl, o8, h8⟩; obtain ⟨a8, k8, rfl, _, _⟩ := o8.ints.val; have E8 : Ext w7 w8 := D0.trans h8; have y8_0 := E8.cell c0; have y8_1 := E8.cell c1; have y8_2 := E8.cell c2; have x8_0 := E8.cell r0; have x8_1 := E8.cell r1; have x8_2 := E8.cell r2
    (try go_simp)
    refine hKc.out _ _ ?_ (fun hHeld => ?_) <;> clear hKc Kc
    · (first | exact xc3 ((Ext.refl _).drew) r0 r1 r2 | exact ⟨x8_0, x8_1, x8_2⟩ | exact ⟨x9_0, x9_1, x9_2⟩ | exact gc3 (b := w5.heap.size + 1) (grown_setCell (grown_setCell (grown_setCell (grown_refl _ _) _ _) _ _) _ _) (by omega) x9_0 (by omega) x9_1 (by omega) x9_2)
    refine wpAnyH_ready (rs := [7]) (by kernel_rfl) (by simp) ?_
    refine AllReadyH.cons rfl (fun Kc hKc => ?_) AllReadyH.nil
    go_simp; go_at_call 36
    (with_reducible refine (fillTensor_any k p n _ _ _ K (K.map dm) (zeroL k p n) w8 (oK7.ints.ext E8) (oC7.ints.ext E8) o8.ints hkl hkm hzl (UU.out.ax SK.out).dims (UU.out.ax SK.out).size).mono ?_); rintro e9 w9 ⟨v9, rfl, o9, h9⟩; rw [HPK.out, HX0.out] at o9; obtain ⟨q1, d1, q2, d2, q3, d3, rfl⟩ := o9.shapeN (n2 := K.length) rfl (by simp) HN.out; have E9 : Ext w7 w9 := E8.trans h9; have Hc9 := Hc.ext E9; have f9_0 := Hc9.free 0; have f9_1 := Hc9.free 1; have f9_2 := Hc9.free 2; have y9_0 := Hc9.cell (j := 0) rfl; have y9_1 := Hc9.cell (j := 1) rfl; have y9_2 := Hc9.cell (j := 2) rfl; have lc9 := Hc9.lt; have s8 := E8.size; have x9_0 := E9.cell r0; have x9_1 := E9.cell r1; have x9_2 := E9.cell r2
    (try go_simp)
    refine hKc.out _ _ ?_ (fun hHeld => ?_) <;> clear hKc Kc
    · (first | exact xc3 ((Ext.refl _).drew) r0 r1 r2 | exact ⟨x8_0, x8_1, x8_2⟩ | exact ⟨x9_0, x9_1, x9_2⟩ | exact gc3 (b := w5.heap.size + 1) (grown_setCell (grown_setCell (grown_setCell (grown_refl _ _) _ _) _ _) _ _) (by omega) x9_0 (by omega) x9_1 (by omega) x9_2)
    refine wpAnyH_ready (rs := [8]) (by kernel_rfl) (by simp) ?_
    refine AllReadyH.cons rfl (fun Kc hKc => ?_) AllReadyH.nil
    go_simp
    refine hKc.out _ _ ?_ (fun hHeld => ?_) <;> clear hKc Kc
    · (first | exact xc3 ((Ext.refl _).drew) r0 r1 r2 | exact ⟨x8_0, x8_1, x8_2⟩ | exact ⟨x9_0, x9_1, x9_2⟩ | exact gc3 (b := w5.heap.size + 1) (grown_setCell (grown_setCell (grown_setCell (grown_refl _ _) _ _) _ _) _ _) (by omega) x9_0 (by omega) x9_1 (by omega) x9_2)
    refine wpAnyH_done (by kernel_rfl) ?_ _
    go_wp2_with fail
    go_meet
    exact ⟨w9, q1, d1, q2, d2, q3, d3, E9, o9.mono s8, rfl⟩
   refine AllReadyH.cons rfl (fun Kc hKc => ?_) AllReadyH.nil
   go_simp; go_at_call 37
   (with_reducible refine (rawZero_any k p n (ringOk_wide HR.out) w7.drew).mono ?_); rintro e8 w8 ⟨v8, rfl, o8, h8⟩; obtain ⟨a8, k8, rfl, _, _⟩ := o8.ints.val; have E8 : Ext w7 w8 := D0.trans h8; have y8_0 := E8.cell c0; have y8_1 := E8.cell c1; have y8_2 := E8.cell c2; have x8_0 := E8.cell r0; have x8_1 := E8.cell r1; have x8_2 := E8.cell r2
   (try go_simp)
   refine hKc.out _ _ ?_ (fun hHeld => ?_) <;> clear hKc Kc
   · (first | exact xc3 ((Ext.refl _).drew) r0 r1 r2 | exact ⟨x8_0, x8_1, x8_2⟩ | exact ⟨x9_0, x9_1, x9_2⟩ | exact gc3 (b := w5.heap.size + 1) (grown_setCell (grown_setCell (grown_setCell (grown_refl _ _) _ _) _ _) _ _) (by omega) x9_0 (by omega) x9_1 (by omega) x9_2)
   refine wpAnyH_ready (rs := [2]) (by kernel_rfl) (by simp) ?_
   refine AllReadyH.cons rfl (fun Kc hKc => ?_) AllReadyH.nil
   go_simp
   refine hKc.out _ _ ?_ (fun hHeld => ?_) <;> clear hKc Kc
   · (first | exact xc3 ((Ext.refl _).drew) r0 r1 r2 | exact ⟨x8_0, x8_1, x8_2⟩ | exact ⟨x9_0, x9_1, x9_2⟩ | exact gc3 (b := w5.heap.size + 1) (grown_setCell (grown_setCell (grown_setCell (grown_refl _ _) _ _) _ _) _ _) (by omega) x9_0 (by omega) x9_1 (by omega) x9_2)
   refine wpAnyH_ready (rs := [7]) (by kernel_rfl) (by simp) ?_
   refine AllReadyH.cons rfl (fun Kc hKc => ?_) AllReadyH.nil
   go_simp; go_at_call 36
   (with_reducible refine (fillTensor_any k p n _ _ _ K (K.map dm) (zeroL k p n) w8 (oK7.ints.ext E8) (oC7.ints.ext E8) o8.ints hkl hkm hzl (UU.out.ax SK.out).dims (UU.out.ax SK.out).size).mono ?_); rintro e9 w9 ⟨v9, rfl, o9, h9⟩; rw [HPK.out, HX0.out] at o9; obtain ⟨q1, d1, q2, d2, q3, d3, rfl⟩ := o9.shapeN (n2 := K.length) rfl (by simp) HN.out; have E9 : Ext w7 w9 := E8.trans h9; have Hc9 := Hc.ext E9; have f9_0 := Hc9.free 0; have f9_1 := Hc9.free 1; have f9_2 := Hc9.free 2; have y9_0 := Hc9.cell (j := 0) rfl; have y9_1 := Hc9.cell (j := 1) rfl; have y9_2 := Hc9.cell (j := 2) rfl; have lc9 := Hc9.lt; have s8 := E8.size; have x9_0 := E9.cell r0; have x9_1 := E9.cell r1; have x9_2 := E9.cell r2
   (try go_simp)
   refine hKc.out _ _ ?_ (fun hHeld => ?_) <;> clear hKc Kc
   · (first | exact xc3 ((Ext.refl _).drew) r0 r1 r2 | exact ⟨x8_0, x8_1, x8_2⟩ | exact ⟨x9_0, x9_1, x9_2⟩ | exact gc3 (b := w5.heap.size + 1) (grown_setCell (grown_setCell (grown_setCell (grown_refl _ _) _ _) _ _) _ _) (by omega) x9_0 (by omega) x9_1 (by omega) x9_2)
   refine wpAnyH_ready (rs := [8]) (by kernel_rfl) (by simp) ?_
   refine AllReadyH.cons rfl (fun Kc hKc => ?_) AllReadyH.nil
   go_simp
   refine hKc.out _ _ ?_ (fun hHeld => ?_) <;> clear hKc Kc
   · (first | exact xc3 ((Ext.refl _).drew) r0 r1 r2 | exact ⟨x8_0, x8_1, x8_2⟩ | exact ⟨x9_0, x9_1, x9_2⟩ | exact gc3 (b := w5.heap.size + 1) (grown_setCell (grown_setCell (grown_setCell (grown_refl _ _) _ _) _ _) _ _) (by omega) x9_0 (by omega) x9_1 (by omega) x9_2)
   refine wpAnyH_done (by kernel_rfl) ?_ _
   go_wp2_with fail
   go_meet
   exact ⟨w9, q1, d1, q2, d2, q3, d3, E9, o9.mono s8, rfl⟩
  refine AllReadyH.cons rfl (fun Kc hKc => ?_) AllReadyH.nil
  go_simp; go_at_call 37
  (with_reducible refine (rawZero_any k p n (ringOk_wide HR.out) w7.drew).mono ?_); rintro e8 w8 ⟨v8, rfl, o8, h8⟩; obtain ⟨a8, k8, rfl, _, _⟩ := o8.ints.val; have E8 : Ext w7 w8 := D0.trans h8; have y8_0 := E8.cell c0; have y8_1 := E8.cell c1; have y8_2 := E8.cell c2; have x8_0 := E8.cell r0; have x8_1 := E8.cell r1; have x8_2 := E8.cell r2
  (try go_simp)
  refine hKc.out _ _ ?_ (fun hHeld => ?_) <;> clear hKc Kc
  · (first | exact xc3 ((Ext.refl _).drew) r0 r1 r2 | exact ⟨x8_0, x8_1, x8_2⟩ | exact ⟨x9_0, x9_1, x9_2⟩ | exact gc3 (b := w5.heap.size + 1) (grown_setCell (grown_setCell (grown_setCell (grown_refl _ _) _ _) _ _) _ _) (by omega) x9_0 (by omega) x9_1 (by omega) x9_2)
  refine wpAnyH_ready (rs := [2, 4]) (by kernel_rfl) (by simp) ?_
  refine AllReadyH.cons rfl (fun Kc hKc => ?_) ?_
  ·
   go_simp
   refine hKc.out _ _ ?_ (fun hHeld => ?_) <;> clear hKc Kc
   · (first | exact xc3 ((Ext.refl _).drew) r0 r1 r2 | exact ⟨x8_0, x8_1, x8_2⟩ | exact ⟨x9_0, x9_1, x9_2⟩ | exact gc3 (b := w5.heap.size + 1) (grown_setCell (grown_setCell (grown_setCell (grown_refl _ _) _ _) _ _) _ _) (by omega) x9_0 (by omega) x9_1 (by omega) x9_2)
   refine wpAnyH_ready (rs := [4]) (by kernel_rfl) (by simp) ?_
   refine AllReadyH.cons rfl (fun Kc hKc => ?_) AllReadyH.nil
   go_simp
   refine hKc.out _ _ ?_ (fun hHeld => ?_) <;> clear hKc Kc
   · (first | exact xc3 ((Ext.refl _).drew) r0 r1 r2 | exact ⟨x8_0, x8_1, x8_2⟩ | exact ⟨x9_0, x9_1, x9_2⟩ | exact gc3 (b := w5.heap.size + 1) (grown_setCell (grown_setCell (grown_setCell (grown_refl _ _) _ _) _ _) _ _) (by omega) x9_0 (by omega) x9_1 (by omega) x9_2)
   refine wpAnyH_ready (rs := [7]) (by kernel_rfl) (by simp) ?_
   refine AllReadyH.cons rfl (fun Kc hKc => ?_) AllReadyH.nil
   go_simp; go_at_call 36
   (with_reducible refine (fillTensor_any k p n _ _ _ K (K.map dm) (zeroL k p n) w8 (oK7.ints.ext E8) (oC7.ints.ext E8) o8.ints hkl hkm hzl (UU.out.ax SK.out).dims (UU.out.ax SK.out).size).mono ?_); rintro e9 w9 ⟨v9, rfl, o9, h9⟩; rw [HPK.out, HX0.out] at o9; obtain ⟨q1, d1, q2, d2, q3, d3, rfl⟩ := o9.shapeN (n2 := K.length) rfl (by simp) HN.out; have E9 : Ext w7 w9 := E8.trans h9; have Hc9 := Hc.ext E9; have f9_0 := Hc9.free 0; have f9_1 := Hc9.free 1; have f9_2 := Hc9.free 2; have y9_0 := Hc9.cell (j := 0) rfl; have y9_1 := Hc9.cell (j := 1) rfl; have y9_2 := Hc9.cell (j := 2) rfl; have lc9 := Hc9.lt; have s8 := E8.size; have x9_0 := E9.cell r0; have x9_1 := E9.cell r1; have x9_2 := E9.cell r2
   (try go_simp)
   refine hKc.out _ _ ?_ (fun hHeld => ?_) <;> clear hKc Kc
   · (first | exact xc3 ((Ext.refl _).drew) r0 r1 r2 | exact ⟨x8_0, x8_1, x8_2⟩ | exact ⟨x9_0, x9_1, x9_2⟩ | exact gc3 (b := w5.heap.size + 1) (grown_setCell (grown_setCell (grown_setCell (grown_refl _ _) _ _) _ _) _ _) (by omega) x9_0 (by omega) x9_1 (by omega) x9_2)
   refine wpAnyH_ready (rs := [8]) (by kernel_rfl) (by simp) ?_
   refine AllReadyH.cons rfl (fun Kc hKc => ?_) AllReadyH.nil
   go_simp
   refine hKc.out _ _ ?_ (fun hHeld => ?_) <;> clear hKc Kc
   · (first | exact xc3 ((Ext.refl _).drew) r0 r1 r2 | exact ⟨x8_0, x8_1, x8_2⟩ | exact ⟨x9_0, x9_1, x9_2⟩ | exact gc3 (b := w5.heap.size + 1) (grown_setCell (grown_setCell (grown_setCell (grown_refl _ _) _ _) _ _) _ _) (by omega) x9_0 (by omega) x9_1 (by omega) x9_2)
   refine wpAnyH_done (by kernel_rfl) ?_ _
   go_wp2_with fail
   go_meet
   exact ⟨w9, q1, d1, q2, d2, q3, d3, E9, o9.mono s8, rfl⟩
  refine AllReadyH.cons rfl (fun Kc hKc => ?_) AllReadyH.nil
  go_simp
  refine hKc.out _ _ ?_ (fun hHeld => ?_) <;> clear hKc Kc
  · (first | exact xc3 ((Ext.refl _).drew) r0 r1 r2 | exact ⟨x8_0, x8_1, x8_2⟩ | exact ⟨x9_0, x9_1, x9_2⟩ | exact gc3 (b := w5.heap.size + 1) (grown_setCell (grown_setCell (grown_setCell (grown_refl _ _) _ _) _ _) _ _) (by omega) x9_0 (by omega) x9_1 (by omega) x9_2)
  refine wpAnyH_ready (rs := [2]) (by kernel_rfl) (by simp) ?_
  refine AllReadyH.cons rfl (fun Kc hKc => ?_) AllReadyH.nil
  go_simp
  refine hKc.out _ _ ?_ (fun hHeld => ?_) <;> clear hKc Kc
  · (first | exact xc3 ((Ext.refl _).drew) r0 r1 r2 | exact ⟨x8_0, x8_1, x8_2⟩ | exact ⟨x9_0, x9_1, x9_2⟩ | exact gc3 (b := w5.heap.size + 1) (grown_setCell (grown_setCell (grown_setCell (grown_refl _ _) _ _) _ _) _ _) (by omega) x9_0 (by omega) x9_1 (by omega) x9_2)
  refine wpAnyH_ready (rs := [7]) (by kernel_rfl) (by simp) ?_
  refine AllReadyH.cons rfl (fun Kc hKc => ?_) AllReadyH.nil
  go_simp; go_at_call 36
  (with_reducible refine (fillTensor_any k p n _ _ _ K (K.map dm) (zeroL k p n) w8 (oK7.ints.ext E8) (oC7.ints.ext E8) o8.ints hkl hkm hzl (UU.out.ax SK.out).dims (UU.out.ax SK.out).size).mono ?_); rintro e9 w9 ⟨v9, rfl, o9, h9⟩; rw [HPK.out, HX0.out] at o9; obtain ⟨q1, d1, q2, d2, q3, d3, rfl⟩ := o9.shapeN (n2 := K.length) rfl (by simp) HN.out; have E9 : Ext w7 w9 := E8.trans h9; have Hc9 := Hc.ext E9; have f9_0 := Hc9.free 0; have f9_1 := Hc9.free 1; have f9_2 := Hc9.free 2; have y9_0 := Hc9.cell (j := 0) rfl; have y9_1 := Hc9.cell (j := 1) rfl; have y9_2 := Hc9.cell (j := 2) rfl; have lc9 := Hc9.lt; have s8 := E8.size; have x9_0 := E9.cell r0; have x9_1 := E9.cell r1; have x9_2 := E9.cell r2
  (try go_simp)
  refine hKc.out _ _ ?_ (fun hHeld => ?_) <;> clear hKc Kc
  · (first | exact xc3 ((Ext.refl _).drew) r0 r1 r2 | exact ⟨x8_0, x8_1, x8_2⟩ | exact ⟨x9_0, x9_1, x9_2⟩ | exact gc3 (b := w5.heap.size + 1) (grown_setCell (grown_setCell (grown_setCell (grown_refl _ _) _ _) _ _) _ _) (by omega) x9_0 (by omega) x9_1 (by omega) x9_2)
  refine wpAnyH_ready (rs := [8]) (by kernel_rfl) (by simp) ?_
  refine AllReadyH.cons rfl (fun Kc hKc => ?_) AllReadyH.nil
  go_simp
  refine hKc.out _ _ ?_ (fun hHeld => ?_) <;> clear hKc Kc
  · (first | exact xc3 ((Ext.refl _).drew) r0 r1 r2 | exact ⟨x8_0, x8_1, x8_2⟩ | exact ⟨x9_0, x9_1, x9_2⟩ | exact gc3 (b := w5.heap.size + 1) (grown_setCell (grown_setCell (grown_setCell (grown_refl _ _) _ _) _ _) _ _) (by omega) x9_0 (by omega) x9_1 (by omega) x9_2)
  refine wpAnyH_done (by kernel_rfl) ?_ _
  go_wp2_with fail
  go_meet
  exact ⟨w9, q1, d1, q2, d2, q3, d3, E9, o9.mono s8, rfl⟩
 obtain ⟨w9, q1, d1, q2, d2, q3, d3, E9, o9, rfl⟩ := hcut
 obtain ⟨_, _, _, hvv, oq1, oq2, oq3, dq1, dq2⟩ := o9.val
 simp at hvv
 obtain ⟨rfl, rfl, rfl⟩ := hvv
 have nb : ∀ (B : Nat) (v : Value) (l : List Int), OwnI w9 B v l → (∀ q, v.ownBlock = some q → q ≠ w5.heap.size + 1) → OwnI (((w9.setCell ⟨w5.heap.size + 1, 0, none⟩ (.slice q1 K.length d1)).setCell ⟨w5.heap.size + 1, 1, none⟩ (.slice q2 K.length d2)).setCell ⟨w5.heap.size + 1, 2, none⟩ (.slice q3 N d3)) B v l := fun B v l h hq =>
  ((h.setOther (fun z hz => by have := hq z hz; first | omega | (simp; omega)) _).setOther (fun z hz => by have := hq z hz; first | omega | (simp; omega)) _).setOther (fun z hz => by have := hq z hz; first | omega | (simp; omega)) _
 have nk : ∀ (b : Nat) (T : TypeId) (l : List Value), Blk w7 b T l → b ≠ w5.heap.size + 1 → Blk (((w9.setCell ⟨w5.heap.size + 1, 0, none⟩ (.slice q1 K.length d1)).setCell ⟨w5.heap.size + 1, 1, none⟩ (.slice q2 K.length d2)).setCell ⟨w5.heap.size + 1, 2, none⟩ (.slice q3 N d3)) b T l := fun b T l h hq =>
  (((h.ext E9).other (by first | omega | (simp; omega)) _).other (by first | omega | (simp; omega)) _).other (by first | omega | (simp; omega)) _
 have hs4 := HS4.out
 have hs5 := HS5.out
 have hsz9 := E9.size
 have hs130 := HS1.out
 have oJ10 := nb _ _ _ (oJ7.ext E9) (fun q hq => by have := NJb.out q hq; omega)
 have oD10 := nb _ _ _ (oD7.ext E9) (fun q hq => by have := NDb.out q hq; omega)
 have oK1 := nb _ _ _ oq1 (fun q hq => by have := oq1.block_lt hq; omega)
 have oK2 := nb _ _ _ oq2 (fun q hq => by have := oq2.block_lt hq; omega)
 have oX1 := nb _ _ _ oq3 (fun q hq => by have := oq3.block_lt hq; omega)
 have Bc10 : Blk _ (w5.heap.size + 1) 35 [.slice q1 K.length d1, .slice q2 K.length d2, .slice q3 N d3] := (((Hc.ext E9).set 0 (.slice q1 K.length d1)).set 1 (.slice q2 K.length d2)).set 2 (.slice q3 N d3)
 have Lr := nk _ _ _ Hr (by omega)
 have La := nk _ _ _ Ha (by omega)
 have Lb := nk _ _ _ Hb (by omega)
 have Lz := nk _ _ _ Hz (by omega)
 have E10 := (((hE3.trans h7).trans E9).setAt (k := w5.heap.size + 1) (by omega) 0 (.slice q1 K.length d1))
 have E10 := (E10.setAt (k := w5.heap.size + 1) (by omega) 1 (.slice q2 K.length d2)).setAt (k := w5.heap.size + 1) (by omega) 2 (.slice q3 N d3)
 have hs10 : (((w9.setCell ⟨w5.heap.size + 1, 0, none⟩ (.slice q1 K.length d1)).setCell ⟨w5.heap.size + 1, 1, none⟩ (.slice q2 K.length d2)).setCell ⟨w5.heap.size + 1, 2, none⟩ (.slice q3 N d3)).heap.size = w9.heap.size := by simp
 obtain ⟨w10, hw10⟩ : ∃ w10, ((w9.setCell ⟨w5.heap.size + 1, 0, none⟩ (.slice q1 K.length d1)).setCell ⟨w5.heap.size + 1, 1, none⟩ (.slice q2 K.length d2)).setCell ⟨w5.heap.size + 1, 2, none⟩ (.slice q3 N d3) = w10 := ⟨_, rfl⟩
 rw [hw10] at oJ10 oD10 oK1 oK2 oX1 Bc10 Lr La Lb Lz E10 hs10 ⊢
 clear hw10 nb nk
 have N1 : Hid (∀ q, (Value.slice q1 K.length d1).ownBlock = some q → w7.heap.size ≤ q ∧ q < w10.heap.size) := Lib.hid fun q hq => by have := oq1.block_lt hq; omega
 have N2 : Hid (∀ q, (Value.slice q2 K.length d2).ownBlock = some q → w7.heap.size ≤ q ∧ q < w10.heap.size) := Lib.hid fun q hq => by have := oq2.block_lt hq; omega
 obtain ⟨bd, cd, hbd, hvq, hcd, _⟩ := oq3.open (by rw [HN.out]; exact hN2)
 rw [HN.out] at hvq hcd
 cases hvq
 have hbd2 : bd < w10.heap.size := by have := (oq3.block_lt (k := bd) rfl).2; omega
 have N1d : Hid (∀ q, (Value.slice q1 K.length d1).ownBlock = some q → q ≠ bd ∧ (Value.slice q2 K.length d2).ownBlock ≠ some q) := Lib.hid fun q hq => ⟨fun e => (dq1 q hq).2 (by rw [e]; rfl), (dq1 q hq).1⟩
 have N2d : Hid (∀ q, (Value.slice q2 K.length d2).ownBlock = some q → q ≠ bd) := Lib.hid fun q hq e => dq2 q hq (by rw [e]; rfl)
 clear oq1 oq2 oq3 o9 dq1 dq2 oJ7 oD7 oK7 oC7 Hr Ha Hb Hz Hc Gr Ga Gb Gz r0 r1 r2 c0 c1 c2 hsz9
 have D1 : Ext w10 w10.drew := (Ext.refl _).drew
 have ir_0 := Lr.cell (j := 0) rfl
 have ir_1 := Lr.cell (j := 1) rfl
 have ir_2 := Lr.cell (j := 2) rfl
 have ia_0 := La.cell (j := 0) rfl
 have ia_1 := La.cell (j := 1) rfl
 have ia_2 := La.cell (j := 2) rfl
 have ib_0 := Lb.cell (j := 0) rfl
 have ib_1 := Lb.cell (j := 1) rfl
 have ib_2 := Lb.cell (j := 2) rfl
 have ic_0 := Bc10.cell (j := 0) rfl
 have ic_1 := Bc10.cell (j := 1) rfl
 have ic_2 := Bc10.cell (j := 2) rfl
 have llr := Lr.lt
 have lla := La.lt
 have llb := Lb.lt
 have llz := Lz.lt
 have llc := Bc10.lt
 have hTc : TenS w10 (.agg #[.slice q1 K.length d1, .slice q2 K.length d2, .slice (some ⟨bd, 0, none⟩) N d3]) K (K.map dm) X0 := ⟨_, _, _, rfl, oK1.ints, oK2.ints, oX1.ints⟩
 go_upto_region 21 with fail
 go_region_held3 (fun w' => w'.cell? ⟨w.heap.size + 1, 0, none⟩ = some (.slice ap1 a.length ac1) ∧ w'.cell? ⟨w.heap.size + 1, 1, none⟩ = some (.slice ap2 a.length ac2) ∧ w'.cell? ⟨w.heap.size + 1, 2, none⟩ = some (.slice (some ⟨bA, oA, none⟩) (flat xs).length ac3) ∧ w'.cell? ⟨w.heap.size + 2, 0, none⟩ = some (.slice bp1 b.length bc1) ∧ w'.cell? ⟨w.heap.size + 2, 1, none⟩ = some (.slice bp2 b.length bc2) ∧ w'.cell? ⟨w.heap.size + 2, 2, none⟩ = some (.slice (some ⟨bB, oB, none⟩) (flat ys).length bc3) ∧ w'.cell? ⟨w5.heap.size + 1, 0, none⟩ = some (.slice q1 K.length d1) ∧ w'.cell? ⟨w5.heap.size + 1, 1, none⟩ = some (.slice q2 K.length d2) ∧ w'.cell? ⟨w5.heap.size + 1, 2, none⟩ = some (.slice (some ⟨bd, 0, none⟩) N d3))
  (refine ⟨?_, ?_, ?_, ?_, ?_, ?_, ?_, ?_, ?_⟩ <;> first | (with_reducible assumption) | exact ((Ext.refl _).drew).cell (by with_reducible assumption) | exact grown_cell (grown_setCell (grown_refl _ _) _ _) (by with_reducible assumption) (by with_reducible assumption))
  (first | (go_at_call 38; (with_reducible refine (stridesOf_any _ _ a (a.map dm) (flat xs) J w10.drew (ha0.ext ((h1.trans E10).trans D1)) (oJ10.ints.ext D1) (by simp) HTA.out.dims (by have := HTA.out.ax.size; omega) (by omega)).mono ?_); rintro e11 w11 ⟨v11, rfl, o11, h11⟩; obtain ⟨a11, k11, rfl⟩ := o11.shapeN (n := J.length) (by simp); have E11 : Ext w10 w11 := D1.trans h11; have xaa_0 := E11.cell ia_0; have xaa_1 := E11.cell ia_1; have xaa_2 := E11.cell ia_2; have xab_0 := E11.cell ib_0; have xab_1 := E11.cell ib_1; have xab_2 := E11.cell ib_2; have xac_0 := E11.cell ic_0; have xac_1 := E11.cell ic_1; have xac_2 := E11.cell ic_2) | (go_at_call 38; (with_reducible refine (stridesOf_any _ _ b (b.map dm) (flat ys) J w11 (hb0.ext ((h1.trans E10).trans E11)) (oJ10.ints.ext E11) (by simp) HTB.out.dims (by have := HTB.out.ax.size; omega) (by omega)).mono ?_); rintro e12 w12 ⟨v12, rfl, o12, h12⟩; obtain ⟨a12, k12, rfl⟩ := o12.shapeN (n := J.length) (by simp); have E12 : Ext w10 w12 := E11.trans h12; have xba_0 := E12.cell ia_0; have xba_1 := E12.cell ia_1; have xba_2 := E12.cell ia_2; have xbb_0 := E12.cell ib_0; have xbb_1 := E12.cell ib_1; have xbb_2 := E12.cell ib_2; have xbc_0 := E12.cell ic_0; have xbc_1 := E12.cell ic_1; have xbc_2 := E12.cell ic_2) | (go_at_call 38; (with_reducible refine (stridesOf_any _ _ K (K.map dm) X0 J w12 (hTc.ext E12) (oJ10.ints.ext E12) (by simp) (UU.out.ax SK.out).dims (by have := (UU.out.ax SK.out).size; omega) (by omega)).mono ?_); rintro e13 w13 ⟨v13, rfl, o13, h13⟩; obtain ⟨a13, k13, rfl⟩ := o13.shapeN (n := J.length) (by simp); have E13 : Ext w10 w13 := E12.trans h13; have xca_0 := E13.cell ia_0; have xca_1 := E13.cell ia_1; have xca_2 := E13.cell ia_2; have xcb_0 := E13.cell ib_0; have xcb_1 := E13.cell ib_1; have xcb_2 := E13.cell ib_2; have xcc_0 := E13.cell ic_0; have xcc_1 := E13.cell ic_1; have xcc_2 := E13.cell ic_2))
 clear xaa_0 xaa_1 xaa_2 xab_0 xab_1 xab_2 xac_0 xac_1 xac_2 xba_0 xba_1 xba_2 xbb_0 xbb_1 xbb_2 xbc_0 xbc_1 xbc_2 xca_0 xca_1 xca_2 xcb_0 xcb_1 xcb_2 xcc_0 xcc_1 xcc_2
 have s11 := E11.size
 have s12 := h12.size
 have s13 := h13.size
 have s1110 : w10.heap.size ≤ w10.drew.heap.size := Nat.le_refl _
 have oA13 := (o11.ext (h12.trans h13)).mono s1110
 have oB13 := (o12.ext h13).mono (show w10.heap.size ≤ w11.heap.size by omega)
 have oC13 := o13.mono (show w10.heap.size ≤ w12.heap.size by omega)
 have NA : Hid (∀ q, (Value.slice a11 J.length k11).ownBlock = some q → w10.heap.size ≤ q ∧ q < w13.heap.size) := Lib.hid fun q hq => oA13.block_lt hq
 have NB : Hid (∀ q, (Value.slice a12 J.length k12).ownBlock = some q → w10.heap.size ≤ q ∧ q < w13.heap.size) := Lib.hid fun q hq => oB13.block_lt hq
 have NC : Hid (∀ q, (Value.slice a13 J.length k13).ownBlock = some q → w10.heap.size ≤ q ∧ q < w13.heap.size) := Lib.hid fun q hq => oC13.block_lt hq
 clear o11 o12 o13 hTc
 have hlr13 := (Lr.ext E13).lt
 have xr_0 := E13.cell ir_0
 have xr_1 := E13.cell ir_1
 have xr_2 := E13.cell ir_2
 go_wp2_with fail
 generalize hW14 : w13.alloc (.cells (madeCells #[.int .i64 0] J.length) 3) = w14
 have h14 : Ext w13 w14 := by rw [← hW14]; exact (Ext.refl _).alloc _
 have oI14 : OwnI w14 w10.heap.size (.slice (some ⟨w13.heap.size, 0, none⟩) J.length J.length) (List.replicate J.length 0) := by rw [← hW14]; exact OwnI.zeros w13 _ _ _ rfl (by omega) (by omega)
 have hs14 : w14.heap.size = w13.heap.size + 1 := by rw [← hW14]; simp
 clear hW14
 refine (rawWidth_any k p n _).mono ?_; rintro e15 w15 ⟨rfl, h15⟩; rw [HWW.out]
 have s15 := h15.size
 go_wp2_with fail
 generalize hW16 : w15.alloc (.cells (madeCells #[.int .i64 0] W) 3) = w16
 have h16 : Ext w15 w16 := by rw [← hW16]; exact (Ext.refl _).alloc _
 have oX16 : OwnI w16 w10.heap.size (.slice (some ⟨w15.heap.size, 0, none⟩) W W) (List.replicate W 0) := by rw [← hW16]; exact OwnI.zeros w15 _ _ _ rfl (by omega) (by omega)
 have hs16 : w16.heap.size = w15.heap.size + 1 := by rw [← hW16]; simp
 clear hW16
 have E16 : Ext w10 w16 := E13.trans (h14.trans (h15.trans h16))
 have E136 : Ext w13 w16 := h14.trans (h15.trans h16)
 have hw := ringOk_wide HR.out
 have hs7 := E10.size
 have HSZ : Hid (w1.heap.size ≤ w3.heap.size ∧ w3.heap.size ≤ w4.heap.size ∧ w4.heap.size ≤ w5.heap.size ∧ w5.heap.size + 1 < w7.heap.size ∧ w7.heap.size ≤ bd ∧ bd < w10.heap.size ∧ w10.heap.size ≤ w13.heap.size ∧ w13.heap.size < w15.heap.size ∧ w15.heap.size < w16.heap.size ∧ w1.heap.size = w.heap.size + 4) := Lib.hid ⟨hs13, hs4, hs5, lc, hbd, hbd2, by omega, by omega, by omega, hs130⟩
 have HBA : Hid (bA < w.heap.size ∧ bB < w.heap.size) := Lib.hid ⟨hbA, hbB⟩
 have hw7 : w7.heap.size ≤ w10.heap.size := by omega
 clear hs13 hs4 hs5 hbd hbd2 hs130 hs14 s15 hs16 s11 s12 s13 hs7 hbA hbB s7 lcr
 go_loopg [] NJ (fun g wr => ∃ (t : Nat) (X zx : List Int), Hid (g + t = NJ) ∧ t < NJ ∧ Hid (flat (Z t) = X ∧ X.length = N) ∧ Hid (zx.length = W) ∧ Blk wr (w5.heap.size + 1) 35 [.slice q1 K.length d1, .slice q2 K.length d2, .slice (some ⟨bd, 0, none⟩) N d3] ∧ OwnI wr w7.heap.size (.slice q1 K.length d1) K ∧ OwnI wr w7.heap.size (.slice q2 K.length d2) (K.map dm) ∧ OwnI wr w7.heap.size (.slice (some ⟨bd, 0, none⟩) N d3) X ∧ OwnI wr w3.heap.size (.slice aD J.length cD) (J.map dm) ∧ OwnI wr w10.heap.size (.slice a11 J.length k11) (J.map (stride a (a.map dm))) ∧ OwnI wr w10.heap.size (.slice a12 J.length k12) (J.map (stride b (b.map dm))) ∧ OwnI wr w10.heap.size (.slice a13 J.length k13) (J.map (stride K (K.map dm))) ∧ OwnI wr w10.heap.size (.slice (some ⟨w13.heap.size, 0, none⟩) J.length J.length) (J.map (asg (axs dm J) t σ0)) ∧ OwnI wr w10.heap.size (.slice (some ⟨w15.heap.size, 0, none⟩) W W) zx ∧ Ext w1 wr ∧ w16.heap.size ≤ wr.heap.size)
 case atStart => exact ⟨0, X0, _, Lib.hid (by omega), by omega, Lib.hid ⟨HZ00.out, HN.out⟩, Lib.hid (by simp), Bc10.ext E16, oK1.ext E16, oK2.ext E16, oX1.ext E16, oD10.ext E16, oA13.ext E136, oB13.ext E136, oC13.ext E136, by rw [asg_zero UU.out SJ.out]; exact oI14.ext (h15.trans h16), oX16, E10.trans E16, Nat.le_refl _⟩
 obtain ⟨t, X, zx, hg, ht, hX, hzx, Bcr, oK1r, oK2r, oXr, oDr, oAr, oBr, oCr, oIr, oZr, hEr, hszr⟩ := hrel
 clear oJ10 oD10 oK1 oK2 oX1 Bc10 oA13 oB13 oC13 oI14 oX16 Lr La Lb Lz xr_0 xr_1 xr_2
 clear ir_0 ir_1 ir_2 ia_0 ia_1 ia_2 ib_0 ib_1 ib_2 ic_0 ic_1 ic_2
 have Mr := Br.ext hEr
 have Ma := Ba.ext hEr
 have Mb := Bb.ext hEr
 have ir_0 := Mr.cell (j := 0) rfl
 have ir_1 := Mr.cell (j := 1) rfl
 have ir_2 := Mr.cell (j := 2) rfl
 have ia_0 := Ma.cell (j := 0) rfl
 have ia_1 := Ma.cell (j := 1) rfl
 have ia_2 := Ma.cell (j := 2) rfl
 have ib_0 := Mb.cell (j := 0) rfl
 have ib_1 := Mb.cell (j := 1) rfl
 have ib_2 := Mb.cell (j := 2) rfl
 have gr_0 := Br.cell (j := 0) rfl
 have gr_1 := Br.cell (j := 1) rfl
 have gr_2 := Br.cell (j := 2) rfl
 have ga_0 := Ba.cell (j := 0) rfl
 have ga_1 := Ba.cell (j := 1) rfl
 have ga_2 := Ba.cell (j := 2) rfl
 have gb_0 := Bb.cell (j := 0) rfl
 have gb_1 := Bb.cell (j := 1) rfl
 have gb_2 := Bb.cell (j := 2) rfl
 have lmr := Mr.lt
 have lma := Ma.lt
 have lmb := Mb.lt
 have lmc := Bcr.lt
 obtain ⟨qa, qb, qc, x, y, z, ha1, ha2, ha3, ha4, ha5, hb1, hb2, hb3, hb4, hb5, hc1, hc2, hc3, hc4, hc5, hm1, hm2⟩ := HStep.out t ht
 rw [hX.out.1] at hc3 hc4 hm2
 rw [hX.out.2] at hc3
 have qaW : (qa : Int) * (W : Int) = ((qa * W : Nat) : Int) := by simp
 have qbW : (qb : Int) * (W : Int) = ((qb * W : Nat) : Int) := by simp
 have qcW : (qc : Int) * (W : Int) = ((qc * W : Nat) : Int) := by simp
 have qa0 : (0 : Int) ≤ (qa : Int) := by omega
 have qb0 : (0 : Int) ≤ (qb : Int) := by omega
 have qc0 : (0 : Int) ≤ (qc : Int) := by omega
 have HA1H := Lib.hid ha1
 have HA3H := Lib.hid ha3
 have HA4H := Lib.hid ha4
 have HA5H := Lib.hid ha5
 have HB1H := Lib.hid hb1
 have HB3H := Lib.hid hb3
 have HB4H := Lib.hid hb4
 have HB5H := Lib.hid hb5
 have HC1H := Lib.hid hc1
 have HC3H := Lib.hid hc3
 have HC4H := Lib.hid hc4
 have HC5H := Lib.hid hc5
 have HM1H := Lib.hid hm1
 have HM2H := Lib.hid hm2
 have QAWH := Lib.hid qaW
 have QBWH := Lib.hid qbW
 have QCWH := Lib.hid qcW
 clear ha1 ha3 ha4 ha5 hb1 hb3 hb4 hb5 hc1 hc3 hc4 hc5 hm1 hm2 qaW qbW qcW
 have hPA : Hid (∀ z ∈ J.map (stride a (a.map dm)), 0 ≤ z) := Lib.hid (stride_pos UU.out HTA.out.sub)
 have hPB : Hid (∀ z ∈ J.map (stride b (b.map dm)), 0 ≤ z) := Lib.hid (stride_pos UU.out HTB.out.sub)
 have hPC : Hid (∀ z ∈ J.map (stride K (K.map dm)), 0 ≤ z) := Lib.hid (stride_pos UU.out SK.out)
 have hPI : Hid (∀ z ∈ J.map (asg (axs dm J) t σ0), 0 ≤ z) := Lib.hid fun z hz => (asg_pos UU.out SJ.out t z hz).1
 have hxl : Hid (x.length = W) := Lib.hid (by have := (rawOk_iff.1 HA5H.out).1; have := HWW.out; omega)
 have D2 : Ext wr wr.drew := (Ext.refl _).drew
 have hnA : (Value.slice (some ⟨bA, oA + qa * W, none⟩) W (ac3 - qa * W)).ownBlock ≠ some w15.heap.size := by have := HSZ.out; have := HBA.out; simp [Value.ownBlock]; omega
 have hnB : (Value.slice (some ⟨bB, oB + qb * W, none⟩) W (bc3 - qb * W)).ownBlock ≠ some w15.heap.size := by have := HSZ.out; have := HBA.out; simp [Value.ownBlock]; omega
 have hsA := haX.ext (h1.trans hEr)
 have hsB := hbX.ext (h1.trans hEr)
 go_upto_region 24 with fail
 go_region_held3 (fun w' => w'.cell? ⟨w.heap.size, 0, none⟩ = some (.int .i64 k) ∧ w'.cell? ⟨w.heap.size, 1, none⟩ = some (.int .i64 p) ∧ w'.cell? ⟨w.heap.size, 2, none⟩ = some (.int .i64 n) ∧ w'.cell? ⟨w.heap.size + 1, 0, none⟩ = some (.slice ap1 a.length ac1) ∧ w'.cell? ⟨w.heap.size + 1, 1, none⟩ = some (.slice ap2 a.length ac2) ∧ w'.cell? ⟨w.heap.size + 1, 2, none⟩ = some (.slice (some ⟨bA, oA, none⟩) (flat xs).length ac3) ∧ w'.cell? ⟨w.heap.size + 2, 0, none⟩ = some (.slice bp1 b.length bc1) ∧ w'.cell? ⟨w.heap.size + 2, 1, none⟩ = some (.slice bp2 b.length bc2) ∧ w'.cell? ⟨w.heap.size + 2, 2, none⟩ = some (.slice (some ⟨bB, oB, none⟩) (flat ys).length bc3))
  (refine ⟨?_, ?_, ?_, ?_, ?_, ?_, ?_, ?_, ?_⟩ <;> first | (with_reducible assumption) | exact ((Ext.refl _).drew).cell (by with_reducible assumption) | exact grown_cell (grown_setCell (grown_refl _ _) _ _) (by with_reducible assumption) (by with_reducible assumption))
  (first | (go_at_call 42; (with_reducible refine (dotOf_ext _ _ (J.map (stride a (a.map dm))) (J.map (asg (axs dm J) t σ0)) wr.drew (oAr.ints.ext D2) (oIr.ints.ext D2) (by simp) hPA.out hPI.out (by rw [HA1H.out]; omega)).mono ?_); rintro e20 w20 ⟨rfl, h20⟩; rw [HA1H.out]; have E20 : Ext wr w20 := D2.trans h20; have u0r_0 := E20.cell ir_0; have u0r_1 := E20.cell ir_1; have u0r_2 := E20.cell ir_2; have u0a_0 := E20.cell ia_0; have u0a_1 := E20.cell ia_1; have u0a_2 := E20.cell ia_2; have u0b_0 := E20.cell ib_0; have u0b_1 := E20.cell ib_1; have u0b_2 := E20.cell ib_2) | (go_at_call 41; (with_reducible refine (rawElem_gen k p n qa (qa * W) W HWW.out _ _ _ _ _ _ bA oA (flat xs).length ac3 w20 QAWH.out qa0 hw HA3H.out hcA hX9).mono ?_); rintro e21 w21 ⟨rfl, h21⟩; have E21 : Ext wr w21 := E20.trans h21; have u1r_0 := E21.cell ir_0; have u1r_1 := E21.cell ir_1; have u1r_2 := E21.cell ir_2; have u1a_0 := E21.cell ia_0; have u1a_1 := E21.cell ia_1; have u1a_2 := E21.cell ia_2; have u1b_0 := E21.cell ib_0; have u1b_1 := E21.cell ib_1; have u1b_2 := E21.cell ib_2) | (go_at_call 42; (with_reducible refine (dotOf_ext _ _ (J.map (stride b (b.map dm))) (J.map (asg (axs dm J) t σ0)) w21 (oBr.ints.ext E21) (oIr.ints.ext E21) (by simp) hPB.out hPI.out (by rw [HB1H.out]; omega)).mono ?_); rintro e22 w22 ⟨rfl, h22⟩; rw [HB1H.out]; have E22 : Ext wr w22 := E21.trans h22; have u2r_0 := E22.cell ir_0; have u2r_1 := E22.cell ir_1; have u2r_2 := E22.cell ir_2; have u2a_0 := E22.cell ia_0; have u2a_1 := E22.cell ia_1; have u2a_2 := E22.cell ia_2; have u2b_0 := E22.cell ib_0; have u2b_1 := E22.cell ib_1; have u2b_2 := E22.cell ib_2) | (go_at_call 41; (with_reducible refine (rawElem_gen k p n qb (qb * W) W HWW.out _ _ _ _ _ _ bB oB (flat ys).length bc3 w22 QBWH.out qb0 hw HB3H.out hcB hY9).mono ?_); rintro e23 w23 ⟨rfl, h23⟩; have E23 : Ext wr w23 := E22.trans h23; have pA := IntS.part (hsA.ext E23) (W := W) (o := qa * W) hW1' HA3H.out; rw [HA4H.out] at pA; have pB := IntS.part (hsB.ext E23) (W := W) (o := qb * W) hW1' HB3H.out; rw [HB4H.out] at pB; have u3r_0 := E23.cell ir_0; have u3r_1 := E23.cell ir_1; have u3r_2 := E23.cell ir_2; have u3a_0 := E23.cell ia_0; have u3a_1 := E23.cell ia_1; have u3a_2 := E23.cell ia_2; have u3b_0 := E23.cell ib_0; have u3b_1 := E23.cell ib_1; have u3b_2 := E23.cell ib_2) | (go_at_call 40; (with_reducible refine (mulInto_own k p n w10.heap.size w15.heap.size W W _ _ zx x y w23 HR.out (oZr.ext E23) hzx.out pA pB hnA hnB HA5H.out HB5H.out hxl.out).mono ?_); rintro e24 w24 ⟨rfl, oZ24, g24⟩; have E24 : Ext w1 w24 := (hEr.trans E23).only g24 (fun q hq => by injection hq with hq; have := HSZ.out; omega); have u4r_0 := E24.cell gr_0; have u4r_1 := E24.cell gr_1; have u4r_2 := E24.cell gr_2; have u4a_0 := E24.cell ga_0; have u4a_1 := E24.cell ga_1; have u4a_2 := E24.cell ga_2; have u4b_0 := E24.cell gb_0; have u4b_1 := E24.cell gb_1; have u4b_2 := E24.cell gb_2))
 have hz3 := HSZ.out
 have e23 := E23.size
 have nb : ∀ (B : Nat) (v : Value) (l : List Int), OwnI wr B v l → (∀ q, v.ownBlock = some q → q ≠ w15.heap.size) → OwnI w24 B v l := fun B v l h hq => (h.ext E23).only g24 (fun z hz e => hq z hz (by injection e with e; exact e.symm))
 have oK124 := nb _ _ _ oK1r (fun q hq => by have := N1.out q hq; omega)
 have oK224 := nb _ _ _ oK2r (fun q hq => by have := N2.out q hq; omega)
 have oX24 := nb _ _ _ oXr (fun q hq => by simp [Value.ownBlock] at hq; omega)
 have oD24 := nb _ _ _ oDr (fun q hq => by have := NDb.out q hq; omega)
 have oA24 := nb _ _ _ oAr (fun q hq => by have := NA.out q hq; omega)
 have oB24 := nb _ _ _ oBr (fun q hq => by have := NB.out q hq; omega)
 have oC24 := nb _ _ _ oCr (fun q hq => by have := NC.out q hq; omega)
 have oI24 := nb _ _ _ oIr (fun q hq => by simp [Value.ownBlock] at hq; omega)
 have Bc24 := (Bcr.ext E23).block (g24.block _ (by omega) (fun e => by injection e with e; omega))
 have s24 := g24.size
 have ic_0 := Bc24.cell (j := 0) rfl
 have ic_1 := Bc24.cell (j := 1) rfl
 have ic_2 := Bc24.cell (j := 2) rfl
 have lc24 := Bc24.lt
 clear nb oK1r oK2r oXr oDr oAr oBr oCr oIr oZr Bcr pA pB hsA hsB g24 E23 E22 E21 E20 h20 h21 h22 h23
 clear ir_0 gr_0 ir_1 gr_1 ir_2 gr_2 ia_0 ga_0 ia_1 ga_1 ia_2 ga_2 ib_0 gb_0 ib_1 gb_1 ib_2 gb_2 u0r_0 u0r_1 u0r_2 u0a_0 u0a_1 u0a_2 u0b_0 u0b_1 u0b_2 u1r_0 u1r_1 u1r_2 u1a_0 u1a_1 u1a_2 u1b_0 u1b_1 u1b_2 u2r_0 u2r_1 u2r_2 u2a_0 u2a_1 u2a_2 u2b_0 u2b_1 u2b_2 u3r_0 u3r_1 u3r_2 u3a_0 u3a_1 u3a_2 u3b_0 u3b_1 u3b_2
 have D3 : Ext w24 w24.drew := (Ext.refl _).drew
 have M24 := Br.ext E24
 have lm24 := M24.lt
 have hnX : (Value.slice (some ⟨w15.heap.size, 0, none⟩) W W).ownBlock ≠ some bd := by simp [Value.ownBlock]; omega
 have hN99 : N ≤ 1048576 := by omega
 go_upto_region 25 with fail
 go_region_held3 (fun w' => w'.cell? ⟨w.heap.size, 0, none⟩ = some (.int .i64 k) ∧ w'.cell? ⟨w.heap.size, 1, none⟩ = some (.int .i64 p) ∧ w'.cell? ⟨w.heap.size, 2, none⟩ = some (.int .i64 n) ∧ w'.cell? ⟨w5.heap.size + 1, 0, none⟩ = some (.slice q1 K.length d1) ∧ w'.cell? ⟨w5.heap.size + 1, 1, none⟩ = some (.slice q2 K.length d2) ∧ w'.cell? ⟨w5.heap.size + 1, 2, none⟩ = some (.slice (some ⟨bd, 0, none⟩) N d3))
  (refine ⟨?_, ?_, ?_, ?_, ?_, ?_⟩ <;> first | (with_reducible assumption) | exact ((Ext.refl _).drew).cell (by with_reducible assumption) | exact grown_cell (grown_setCell (grown_refl _ _) _ _) (by with_reducible assumption) (by with_reducible assumption))
  (first | (go_at_call 42; (with_reducible refine (dotOf_ext _ _ (J.map (stride K (K.map dm))) (J.map (asg (axs dm J) t σ0)) w24.drew (oC24.ints.ext D3) (oI24.ints.ext D3) (by simp) hPC.out hPI.out (by rw [HC1H.out]; omega)).mono ?_); rintro e25 w25 ⟨rfl, h25⟩; rw [HC1H.out]; have E25 : Ext w24 w25 := D3.trans h25; have y5_0 := E25.cell u4r_0; have y5_1 := E25.cell u4r_1; have y5_2 := E25.cell u4r_2; have y5c_0 := E25.cell ic_0; have y5c_1 := E25.cell ic_1; have y5c_2 := E25.cell ic_2) | (go_at_call 41; (with_reducible refine (rawElem_any k p n qc (qc * W) W HWW.out _ _ _ _ _ _ bd N d3 w25 QCWH.out qc0 hw HC3H.out hcd hN99).mono ?_); rintro e26 w26 ⟨rfl, h26⟩; have E26 : Ext w24 w26 := E25.trans h26; have y6_0 := E26.cell u4r_0; have y6_1 := E26.cell u4r_1; have y6_2 := E26.cell u4r_2; have y6c_0 := E26.cell ic_0; have y6c_1 := E26.cell ic_1; have y6c_2 := E26.cell ic_2) | (go_at_call 43; (with_reducible refine (addInto_own k p n w7.heap.size bd (qc * W) W N d3 (d3 - qc * W) _ X z (mulL k p x y) w26 HR.out (oX24.ext E26) hX.out.2 HC3H.out HC4H.out (oZ24.ints.ext E26) hnX HC5H.out HM1H.out).mono ?_); rintro e27 w27 ⟨rfl, oX27, g27⟩; have E27 : Ext w1 w27 := (E24.trans E26).only g27 (fun q hq => by injection hq with hq; omega); have Bc27 := (Bc24.ext E26).block (g27.block _ (by have := E26.size; omega) (fun e => by injection e with e; omega)); have y7_0 := (Br.ext E27).cell (j := 0) rfl; have y7_1 := (Br.ext E27).cell (j := 1) rfl; have y7_2 := (Br.ext E27).cell (j := 2) rfl; have y7c_0 := Bc27.cell (j := 0) rfl; have y7c_1 := Bc27.cell (j := 1) rfl; have y7c_2 := Bc27.cell (j := 2) rfl))
 rw [← HM2H.out] at oX27
 have nb : ∀ (B : Nat) (v : Value) (l : List Int), OwnI w24 B v l → (∀ q, v.ownBlock = some q → q ≠ bd) → OwnI w27 B v l := fun B v l h hq => (h.ext E26).only g27 (fun z hz e => hq z hz (by injection e with e; exact e.symm))
 have oK127 := nb _ _ _ oK124 (fun q hq => (N1d.out q hq).1)
 have oK227 := nb _ _ _ oK224 (fun q hq => N2d.out q hq)
 have oD27 := nb _ _ _ oD24 (fun q hq => by have := NDb.out q hq; omega)
 have oA27 := nb _ _ _ oA24 (fun q hq => by have := NA.out q hq; omega)
 have oB27 := nb _ _ _ oB24 (fun q hq => by have := NB.out q hq; omega)
 have oC27 := nb _ _ _ oC24 (fun q hq => by have := NC.out q hq; omega)
 have oI27 := nb _ _ _ oI24 (fun q hq => by simp [Value.ownBlock] at hq; omega)
 have oZ27 := nb _ _ _ oZ24 (fun q hq => by simp [Value.ownBlock] at hq; omega)
 have s27 := g27.size
 have s26 := E26.size
 clear nb oK124 oK224 oX24 oD24 oA24 oB24 oC24 oI24 oZ24 Bc24 g27 E26 E25 h25 h26 ic_0 ic_1 ic_2
 clear u4r_0 u4r_1 u4r_2 u4a_0 u4a_1 u4a_2 u4b_0 u4b_1 u4b_2 y5_0 y5c_0 y5_1 y5c_1 y5_2 y5c_2 y6_0 y6c_0 y6_1 y6c_1 y6_2 y6c_2 y7_0 y7c_0 y7_1 y7c_1 y7_2 y7c_2
 go_wp2_with fail
 refine (nextIndex_any w10.heap.size _ _ (J.map dm) (J.map (asg (axs dm J) t σ0)) _ oD27.ints oI27 (by simp) (fun z hz => by have := asg_pos UU.out SJ.out t z hz; omega) (fun z hz e => by simp [Value.ownBlock] at hz; have := NDb.out z e; omega)).mono ?_; rintro e28 w28 ⟨rfl, oI28, g28⟩
 have e4 : (Value.slice (some ⟨w13.heap.size, 0, none⟩) J.length J.length).ownBlock = some w13.heap.size := rfl
 rw [e4] at g28
 have nb : ∀ (B : Nat) (v : Value) (l : List Int), OwnI w27 B v l → (∀ q, v.ownBlock = some q → q ≠ w13.heap.size) → OwnI w28 B v l := fun B v l h hq => h.only g28 (fun z hz e => hq z hz (by injection e with e; exact e.symm))
 have oK128 := nb _ _ _ oK127 (fun q hq => by have := N1.out q hq; omega)
 have oK228 := nb _ _ _ oK227 (fun q hq => by have := N2.out q hq; omega)
 have oX28 := nb _ _ _ oX27 (fun q hq => by simp [Value.ownBlock] at hq; omega)
 have oD28 := nb _ _ _ oD27 (fun q hq => by have := NDb.out q hq; omega)
 have oA28 := nb _ _ _ oA27 (fun q hq => by have := NA.out q hq; omega)
 have oB28 := nb _ _ _ oB27 (fun q hq => by have := NB.out q hq; omega)
 have oC28 := nb _ _ _ oC27 (fun q hq => by have := NC.out q hq; omega)
 have oZ28 := nb _ _ _ oZ27 (fun q hq => by simp [Value.ownBlock] at hq; omega)
 have Bc28 := Bc27.block (g28.block _ Bc27.lt (fun e => by injection e with e; omega))
 have E28 : Ext w1 w28 := E27.only g28 (fun z hz => by injection hz with hz; omega)
 have s28 := g28.size
 have hsz28 : w16.heap.size ≤ w28.heap.size := by omega
 clear nb oK127 oK227 oX27 oD27 oA27 oB27 oC27 oI27 oZ27 Bc27 g28 e4 s24 s26 s27 s28
 rw [next_asg UU.out SJ.out (by rw [HNJ.out]; exact ht)] at oI28 ⊢
 by_cases hlast : t + 1 < size (axs dm J)
 · rw [if_pos hlast] at oI28 ⊢
   have HL1 : Hid (t + 1 < NJ) := Lib.hid (by rw [← HNJ.out]; exact hlast)
   clear hlast
   have HOI := Lib.hid oI28; clear oI28
   have HXn : Hid ((flat (Z (t + 1))).length = N) := Lib.hid (by rw [flat_length HWW.out, HZL.out, HN1.out])
   have hzl2 : Hid ((mulL k p x y).length = W) := Lib.hid (by have := (rawOk_iff.1 HM1H.out).1; have := HWW.out; omega)
   go_wp2
   go_roundg (gk - 1)
   case measure => have := hg.out; have := HL1.out; omega
   case rel => exact ⟨t + 1, flat (Z (t + 1)), _, Lib.hid (by have := hg.out; omega), HL1.out, Lib.hid ⟨rfl, HXn.out⟩, hzl2, Bc28, oK128, oK228, oX28, oD28, oA28, oB28, oC28, HOI.out, oZ28, E28, hsz28⟩
 rw [if_neg hlast]
 have ht1 : Hid (t + 1 = NJ) := Lib.hid (by have := HNJ.out; omega)
 rw [ht1.out] at oX28
 clear hlast oI28
 have hb0 : w.heap.size + 1 + 1 + 1 < w7.heap.size := by omega
 clear hs10 s1110 hlr13 llr lla llb llz llc hcd hN9 hN2 hkm hzl hw7 ht hszr lmr lma lmb lmc ha2 hb2 hc2 qa0 qb0 qc0 hnA hnB e23 lc24 lm24 hnX hN99 oD28 oA28 oB28 oC28 oZ28 Mr Ma Mb M24 hz3 hmk hmj hmw
 have Bz28 : Blk w28 (w.heap.size + 1 + 1 + 1) 35 [.slice none 0 0, .slice none 0 0, .slice none 0 0] := Bz.ext E28
 generalize hzb : w.heap.size + 1 + 1 + 1 = zb at Bz28 hb0 ⊢
 have hzb2 : zb = w.heap.size + 3 := by omega
 have hzw : w.heap.size ≤ zb := by omega
 have HZB := Lib.hid hzb2
 clear hzb hzb2
 have hzc : zb ≠ w5.heap.size + 1 := by have := HSZ.out; have := HZB.out; omega
 have hzc2 : w5.heap.size + 1 ≠ zb := hzc.symm
 have f0 := Bz28.free 0
 have f1 := Bz28.free 1
 have f2 := Bz28.free 2
 have z0 := Bz28.cell (j := 0) rfl
 have z1 := Bz28.cell (j := 1) rfl
 have z2 := Bz28.cell (j := 2) rfl
 have lz := Bz28.lt
 have ic_0 := Bc28.cell (j := 0) rfl
 have ic_1 := Bc28.cell (j := 1) rfl
 have ic_2 := Bc28.cell (j := 2) rfl
 have lc28 := Bc28.lt
 go_upto_region 27 with fail
 repeat go_step
 refine bodyPost_ret (v := .tuple #[.agg #[.slice q1 K.length d1, .slice q2 K.length d2, .slice (some ⟨bd, 0, none⟩) N d3], .bool true]) (by simp [results, Tryz.results13, go_sem, *]) rfl ?_
 refine ⟨_, rfl, ⟨_, _, _, rfl, ?_, ?_, ?_, fun z hz => ⟨fun e => ?_, fun e => ?_⟩, fun z hz e => ?_⟩, ?_⟩
 · exact (((oK128.setBelow hb0 _).setBelow hb0 _).setBelow hb0 _).mono (by have := HSZ.out; omega)
 · exact (((oK228.setBelow hb0 _).setBelow hb0 _).setBelow hb0 _).mono (by have := HSZ.out; omega)
 · exact (((oX28.setBelow hb0 _).setBelow hb0 _).setBelow hb0 _).mono (by have := HSZ.out; omega)
 · exact (N1d.out z hz).2 e
 · simp [Value.ownBlock] at e; exact (N1d.out z hz).1 e.symm
 · simp [Value.ownBlock] at e; exact N2d.out z hz e.symm
 exact (((h1.trans E28).setAt hzw _ _).setAt hzw _ _).setAt hzw _ _
end
end Go.Proofs.YtlgjddgajdjllaaGreat
