/- The law 'FnOrders', walked. -/
import Derived.Test.YtpegckmagiaggaaOPartN
import Derived.Test.YtpegckmagiaggaaOOrdC
import Derived.Test.YtpegckmagiaggaaOOrdMM
import Derived.Test.YtpegckmagiaggaaOOrdK
import Derived.Test.YtpegckmagiaggaaOWorthW
set_option linter.unusedSimpArgs false
set_option linter.unusedVariables false
namespace Go.Proofs.Ytpegckmagiaggaa
open Go.RowKit
theorem ints_sameO (v u : Value) (l m : List Int) (w : World) (hl : IntS w v l) (hm : IntS w u m) (e : l = m) : Calls Try.prog 32 #[v, u] w fun e w' => e = .returned (.bool true) ∧ Ext w w' :=
  (ints_same v u l m w hl hm e).mono fun e w' ⟨h1, h2⟩ => ⟨h1, h2 ▸ Ext.refl _⟩
theorem tsize_ok {L D : List Int} (h : AxOk L D) : tsize L D = prodL D := by
  have h1 := (tsGo_iff (pre := []) h.len (Int.le_refl 1) (by omega)).2 ⟨fun l hl => ⟨(h.labs l hl).1, (h.labs l hl).2, by simp⟩, h.nodup, h.dims, by rw [Int.one_mul]; exact h.size⟩
  have h2 := (tsGo_prod h.len (Int.le_refl 1) (by omega) h1).1
  rw [Int.one_mul] at h2
  have hr := h.rank
  unfold tsize
  rw [← h2]
  have hl := h.len
  simp [hl]
  omega
section
variable {k p n : Int} {hr : ringOk k p n = true} {dm : Int → Int} {U op ns0 : List Int} {nx0 : Int} {ts : List (NT k p n)} {os : List (Int × Int)}
def pkH (hr : ringOk k p n = true) (dm : Int → Int) (op ns0 : List Int) (nx0 : Int) (ts : List (NT k p n)) (os : List (Int × Int)) : Nat → Int
  | 0 => 1
  | k + 1 => peakAt hr dm op ns0 nx0 ts os k
theorem pkH_next (ho : okO ns0 nx0 os) (hl : ns0.length = ts.length) (hN : IsN k p n dm U ts op) {j : Nat} (hj : j ≤ os.length) : maxT dm (pkH hr dm op ns0 nx0 ts os j) (runN hr dm op ns0 nx0 ts (os.take j)).2 = pkH hr dm op ns0 nx0 ts os (j + 1) := by
  cases j with
  | zero => rfl
  | succ j => exact peak_next ho hl hN hj
theorem pkH_bounds (ho : okO ns0 nx0 os) (hl : ns0.length = ts.length) (hN : IsN k p n dm U ts op) {j : Nat} (hj : j ≤ os.length + 1) : 1 ≤ pkH hr dm op ns0 nx0 ts os j ∧ pkH hr dm op ns0 nx0 ts os j ≤ 4096 := by
  cases j with
  | zero => exact ⟨Int.le_refl 1, by show (1 : Int) ≤ 4096; omega⟩
  | succ j => exact peak_bounds ho hl hN j (by omega)
end
set_option maxRecDepth 100000 in
set_option maxHeartbeats 8000000 in
theorem walkFnOrders (v : Value) (l : List Int) (w : World) (hl : ByteS w v l) (hall : ∀ x ∈ l, 0 ≤ x ∧ x ≤ 255) :
 Calls Try.prog 9 #[v] w fun e w' => e = .returned (.bool true) ∧ Ext w w' := by
 obtain ⟨ca, cap, rfl, hc1, hc2⟩ := hl.val
 by_cases big : 1048576 < l.length
 · go_enter Try.func9, Try.ntmps9
   go_wp2
   go_ret
   exact ⟨rfl, (by repeat' (first | (with_reducible exact Ext.refl _) | (with_reducible assumption) | (with_reducible apply Ext.alloc) | (with_reducible apply Ext.drew) | (with_reducible apply Ext.drewN) | (refine Ext.setAt ?_ (by omega) _ _) | (refine Ext.trans ?_ (by assumption))))⟩
 have hC : Code w (.slice ca l.length cap) l := ⟨hl, hall, by omega⟩
 clear hall hl
 have hH : Held w w [] := Held.new (Ext.refl w) 0
 go_enter Try.func9, Try.ntmps9
 go_wp2_with fail
 refine (makeRing_any _ l 0 _ (hC.ext hH.ext) (by omega)).mono ?_; rintro ewn1 wn1 ⟨k, p, n, rfl, hd, hwn1⟩
 have HR := Lib.hid (drawn_ok hd); clear hd
 replace hH : Held w wn1 [] := hH.grow hwn1
 clear hwn1
 go_wp2_with fail
 have hB : Held w (wn1.alloc (.cells #[.int .i64 k, .int .i64 p, .int .i64 n] 24)) [aB (wn1.heap.size) 24 [.int .i64 k, .int .i64 p, .int .i64 n]] := by
  have h := (hH.mores 1).addB 0 #[.int .i64 k, .int .i64 p, .int .i64 n] 24
  exact h
 have hsz : (wn1.alloc (.cells #[.int .i64 k, .int .i64 p, .int .i64 n] 24)).heap.size = wn1.heap.size + 1 := by simp
 generalize wn1.alloc (.cells #[.int .i64 k, .int .i64 p, .int .i64 n] 24) = wn2 at hB hsz ⊢
 replace hH := hB; have HSZwn2 := Lib.hid hsz; clear hB hsz
 have q0_0 := hH.cl 0 0 rfl rfl; have q0_1 := hH.cl 0 1 rfl rfl; have q0_2 := hH.cl 0 2 rfl rfl; have l0_ := hH.bl 0 rfl
 go_wp2_with fail
 clear q0_0 q0_1 q0_2 l0_
 refine (makeNetwork_any _ l 10 k p n 5 HR.out (by omega) (by omega) _ (hC.ext hH.ext) (by omega)).mono ?_; rintro ewN wN ⟨tv, ov, cs, ts, op, rfl, hJ, hN, hmost⟩
 have E0 : Ext w wN := hH.ext.trans hJ.ext
 have hT : TensS wN tv (ts.map (tenOf dimOf)) := hJ.tensS (k := 0) rfl
 have hO : IntS wN ov op := hJ.ints (k := 1) rfl
 have kr_0 := ((hH.grow hJ.ext).blk (k := 0) rfl).cell (j := 0) rfl
 have kr_1 := ((hH.grow hJ.ext).blk (k := 0) rfl).cell (j := 1) rfl
 have kr_2 := ((hH.grow hJ.ext).blk (k := 0) rfl).cell (j := 2) rfl
 have kr_l := ((hH.grow hJ.ext).blk (k := 0) rfl).lt
 have hCN := hC.ext E0
 obtain ⟨m, hm⟩ : ∃ m, ts.length = m := ⟨_, rfl⟩
 obtain ⟨aV, cV, rfl, hcT1, hcT2⟩ := hT.val
 obtain ⟨aO, cO, rfl, hcO1, hcO2⟩ := hO.val
 have hT0 : TensS wN (.slice aV m cV) (ts.map (tenOf dimOf)) := by rw [List.length_map, hm] at hT; exact hT
 rw [List.length_map, hm] at hT hcT1
 rw [List.length_map, hm]
 have hm12 : m ≤ 5 := by rw [← hm]; omega
 have hop12 : op.length ≤ 12 := hN.rank
 have HM := Lib.hid hm; have HN := Lib.hid hN; have HD3 := Lib.hid hN.dims3; clear hm hN hmost hJ hC
 have hTl : Hid ((ts.map (tenOf dimOf)).length = m) := Lib.hid (by rw [List.length_map]; exact HM.out)
 clear hH
 have hC := hCN; clear hCN
 have hH : Held wN wN [] := Held.new (Ext.refl _) 0
 have c_kr_0 := hH.ext.cell kr_0; have c_kr_1 := hH.ext.cell kr_1; have c_kr_2 := hH.ext.cell kr_2
 have c_kr_l := Nat.lt_of_lt_of_le kr_l hH.ext.size
 go_wp2_with fail
 clear c_kr_0 c_kr_1 c_kr_2 c_kr_l
 have hB : Held wN (wN.alloc (.cells #[.int .i64 k, .int .i64 p, .int .i64 n, .slice aV m cV, .slice aO op.length cO] 29)) [aB (wN.heap.size) 29 [.int .i64 k, .int .i64 p, .int .i64 n, .slice aV m cV, .slice aO op.length cO]] := by
  have h := (hH.mores 1).addB 0 #[.int .i64 k, .int .i64 p, .int .i64 n, .slice aV m cV, .slice aO op.length cO] 29
  exact h
 have hsz : (wN.alloc (.cells #[.int .i64 k, .int .i64 p, .int .i64 n, .slice aV m cV, .slice aO op.length cO] 29)).heap.size = wN.heap.size + 1 := by simp
 generalize wN.alloc (.cells #[.int .i64 k, .int .i64 p, .int .i64 n, .slice aV m cV, .slice aO op.length cO] 29) = wn3 at hB hsz ⊢
 replace hH := hB; have HSZwn3 := Lib.hid hsz; clear hB hsz
 have q0_0 := hH.cl 0 0 rfl rfl; have q0_1 := hH.cl 0 1 rfl rfl; have q0_2 := hH.cl 0 2 rfl rfl; have q0_3 := hH.cl 0 3 rfl rfl; have q0_4 := hH.cl 0 4 rfl rfl; have l0_ := hH.bl 0 rfl; have c_kr_0 := hH.ext.cell kr_0; have c_kr_1 := hH.ext.cell kr_1; have c_kr_2 := hH.ext.cell kr_2
 have c_kr_l := Nat.lt_of_lt_of_le kr_l hH.ext.size
 go_wp2_with fail
 clear q0_0 q0_1 q0_2 q0_3 q0_4 l0_ c_kr_0 c_kr_1 c_kr_2 c_kr_l
 refine (makeOrder_any _ l 100 HR.out HN.out _ _ _ (hT0.ext hH.ext) (hO.ext hH.ext) (hC.ext hH.ext) (by omega)).mono ?_; rintro ewn4 wn4 ⟨uo, os, rfl, hJ, hok, hol⟩
 have HOK := Lib.hid hok; have HOL := Lib.hid hol; clear hok hol
 obtain ⟨ao, co, rfl, _, _⟩ := (hJ.steps (k := 0) rfl).val
 replace hH : Held wN wn4 [aB (wN.heap.size) 29 [.int .i64 k, .int .i64 p, .int .i64 n, .slice aV m cV, .slice aO op.length cO], aSt (.slice ao os.length co) os] := hH.join hJ (fun q hq => by cases hq)
 clear hJ
 have hol2 : os.length ≤ m := by have h1 := HOL.out; have h2 := HM.out; omega
 have hos12 : os.length ≤ 12 := by omega
 obtain ⟨RX, hRX⟩ : ∃ q, netXs HR.out dimOf ts op = q := ⟨_, rfl⟩
 have HRX := Lib.hid hRX; clear hRX
 obtain ⟨CS, hCS⟩ : ∃ q, costsT HR.out dimOf op (numL ts.length) (ts.length : Int) ts os os.length = q := ⟨_, rfl⟩
 have HCL : Hid (CS.length = os.length) := Lib.hid (by rw [← hCS]; exact costsT_len _)
 have HCS := Lib.hid hCS; clear hCS
 have HCSM : Hid (costsT HR.out dimOf op (numL m) (m : Int) ts os os.length = CS) := Lib.hid (by have h := HCS.out; rw [HM.out] at h; exact h)
 have HCG : Hid (∀ j, j < os.length → CS[j]? = some (costAt HR.out dimOf op (numL ts.length) (ts.length : Int) ts os j)) := Lib.hid fun j hj => by rw [← HCS.out]; exact costsT_get hj
 have HPS : Hid (∀ q, q ≤ os.length → 0 ≤ (CS.take q).sum ∧ (CS.take q).sum ≤ 4096 * q) := Lib.hid fun q hq => by
  have h := costs_sum (hr := HR.out) HOK.out (numL_len _) HN.out q hq
  have e : CS.take q = costsT HR.out dimOf op (numL ts.length) (ts.length : Int) ts os q := by rw [← HCS.out]; unfold costsT; rw [← List.map_take, List.take_range, Nat.min_eq_left hq]
  rw [e]; exact h
 obtain ⟨PK, hPK⟩ : ∃ f, pkH HR.out dimOf op (numL ts.length) (ts.length : Int) ts os = f := ⟨_, rfl⟩
 have HPK0 : Hid (PK 0 = 1) := Lib.hid (by rw [← hPK]; rfl)
 have HPKN : Hid (∀ j, j ≤ os.length → maxT dimOf (PK j) (runN HR.out dimOf op (numL ts.length) (ts.length : Int) ts (os.take j)).2 = PK (j + 1)) := Lib.hid fun j hj => by rw [← hPK]; exact pkH_next HOK.out (numL_len _) HN.out hj
 have HPKB : Hid (∀ j, j ≤ os.length + 1 → 1 ≤ PK j ∧ PK j ≤ 4096) := Lib.hid fun j hj => by rw [← hPK]; exact pkH_bounds HOK.out (numL_len _) HN.out hj
 have HPKE : Hid (PK (os.length + 1) = peakAt HR.out dimOf op (numL m) (m : Int) ts os os.length) := Lib.hid (by rw [← hPK, ← HM.out]; rfl)
 clear hPK
 have q0_0 := hH.cl 0 0 rfl rfl; have q0_1 := hH.cl 0 1 rfl rfl; have q0_2 := hH.cl 0 2 rfl rfl; have q0_3 := hH.cl 0 3 rfl rfl; have q0_4 := hH.cl 0 4 rfl rfl; have l0_ := hH.bl 0 rfl; have c_kr_0 := hH.ext.cell kr_0; have c_kr_1 := hH.ext.cell kr_1; have c_kr_2 := hH.ext.cell kr_2
 have c_kr_l := Nat.lt_of_lt_of_le kr_l hH.ext.size
 go_wp2_with fail
 clear q0_0 q0_1 q0_2 q0_3 q0_4 l0_ c_kr_0 c_kr_1 c_kr_2 c_kr_l
 refine (orderCosts_any HR.out HN.out _ _ _ (hT0.ext hH.ext) (hO.ext hH.ext) HOK.out HOL.out _ (hH.steps (k := 1) rfl)).mono ?_; rintro ewn5 wn5 ⟨uc, rfl, oc, hwn5⟩
 rw [HCS.out] at oc
 obtain ⟨acs, ccs, rfl⟩ := oc.shape1 os.length HCL.out
 replace hH : Held wN wn5 [aB (wN.heap.size) 29 [.int .i64 k, .int .i64 p, .int .i64 n, .slice aV m cV, .slice aO op.length cO], aSt (.slice ao os.length co) os, aI (.slice acs os.length ccs) CS] := (hH.mores 1).addI 2 hwn5 oc (Nat.le_refl _)
 clear hwn5
 have q0_0 := hH.cl 0 0 rfl rfl; have q0_1 := hH.cl 0 1 rfl rfl; have q0_2 := hH.cl 0 2 rfl rfl; have q0_3 := hH.cl 0 3 rfl rfl; have q0_4 := hH.cl 0 4 rfl rfl; have l0_ := hH.bl 0 rfl; have c_kr_0 := hH.ext.cell kr_0; have c_kr_1 := hH.ext.cell kr_1; have c_kr_2 := hH.ext.cell kr_2
 have c_kr_l := Nat.lt_of_lt_of_le kr_l hH.ext.size
 go_wp2_with fail
 clear q0_0 q0_1 q0_2 q0_3 q0_4 l0_ c_kr_0 c_kr_1 c_kr_2 c_kr_l
 refine (orderOk_any HR.out HN.out _ _ _ (hT0.ext hH.ext) (hO.ext hH.ext) HOK.out HOL.out _ (hH.steps (k := 1) rfl)).mono ?_; rintro e4 w4 ⟨rfl, h4⟩
 replace hH : Held wN w4 [aB (wN.heap.size) 29 [.int .i64 k, .int .i64 p, .int .i64 n, .slice aV m cV, .slice aO op.length cO], aSt (.slice ao os.length co) os, aI (.slice acs os.length ccs) CS] := hH.grow h4
 clear h4
 have q0_0 := hH.cl 0 0 rfl rfl; have q0_1 := hH.cl 0 1 rfl rfl; have q0_2 := hH.cl 0 2 rfl rfl; have q0_3 := hH.cl 0 3 rfl rfl; have q0_4 := hH.cl 0 4 rfl rfl; have l0_ := hH.bl 0 rfl; have c_kr_0 := hH.ext.cell kr_0; have c_kr_1 := hH.ext.cell kr_1; have c_kr_2 := hH.ext.cell kr_2
 have c_kr_l := Nat.lt_of_lt_of_le kr_l hH.ext.size
 go_wp2_with fail
 clear q0_0 q0_1 q0_2 q0_3 q0_4 l0_ c_kr_0 c_kr_1 c_kr_2 c_kr_l
 go_loopw [7, 8, 9] (fun s q i wr => ∃ (j : Nat) (z y : Int), j ≤ os.length + 1 ∧ i = .int .i64 (j : Int) ∧ s = .int .i64 z ∧ q = .int .i64 y ∧ Hid ((CS.take (j - 1)).sum = z) ∧ Hid (PK j = y) ∧ Held wN wr [aB (wN.heap.size) 29 [.int .i64 k, .int .i64 p, .int .i64 n, .slice aV m cV, .slice aO op.length cO], aSt (.slice ao os.length co) os, aI (.slice acs os.length ccs) CS]) (fun s q i wr => os.length + 1 - (RowKit.intOf i).toNat)
 case atStart => exact ⟨0, 0, 1, Nat.zero_le _, rfl, rfl, rfl, Lib.hid rfl, HPK0, hH⟩
 case round =>
  clear hH
  obtain ⟨j, z, y, hj, rfl, rfl, rfl, HZ, HY, hH⟩ := hrel
  obtain ⟨wq, rfl⟩ : ∃ q, q = wr := ⟨wr, rfl⟩
  have hyb := HPKB.out j hj
  rw [HY.out] at hyb
  obtain ⟨hy0, hy1⟩ := hyb
  have hzb := HPS.out (j - 1) (by omega)
  rw [HZ.out] at hzb
  obtain ⟨hz0, hz1⟩ := hzb
  by_cases hlt : j ≤ os.length
  ·
   have hltI : (j : Int) ≤ (os.length : Int) := by omega
   have q0_0 := hH.cl 0 0 rfl rfl; have q0_1 := hH.cl 0 1 rfl rfl; have q0_2 := hH.cl 0 2 rfl rfl; have q0_3 := hH.cl 0 3 rfl rfl; have q0_4 := hH.cl 0 4 rfl rfl; have l0_ := hH.bl 0 rfl; have c_kr_0 := hH.ext.cell kr_0; have c_kr_1 := hH.ext.cell kr_1; have c_kr_2 := hH.ext.cell kr_2
   have c_kr_l := Nat.lt_of_lt_of_le kr_l hH.ext.size
   go_wp2_with fail
   clear q0_0 q0_1 q0_2 q0_3 q0_4 l0_ c_kr_0 c_kr_1 c_kr_2 c_kr_l
   refine (partialNetwork_any HR.out HN.out _ _ _ (hT0.ext hH.ext) (hO.ext hH.ext) HOK.out HOL.out _ (hH.steps (k := 1) rfl) j hlt).mono ?_; rintro ewn6 wn6 ⟨tv2, ov2, ns, tj, rfl, hA, hTT, hOO, hwn6⟩
   have HA := Lib.hid hA
   obtain ⟨aK, cK, rfl, hct1, hct2⟩ := hTT.val
   obtain ⟨aP, cP, rfl, hcp1, hcp2⟩ := hOO.val
   obtain ⟨mj, hmj⟩ : ∃ q, tj.length = q := ⟨_, rfl⟩
   rw [List.length_map, hmj] at hTT hct1
   rw [List.length_map, hmj]
   have HMJ := Lib.hid hmj
   have hmj12 : mj ≤ 12 := by rw [← hmj]; exact hA.isN.len
   have hmk : (m : Int) - (j : Int) = (mj : Int) := by have h1 := hA.left; have h2 := HM.out; omega
   have hwrj : IntKind.i64.wrap (mj : Int) = (mj : Int) := by rw [IntKind.wrap_i64]; omega
   have HVX : Hid (flat RX = flat (netXs HR.out dimOf tj op)) := Lib.hid (by rw [hA.val, HRX.out])
   clear hA hmj
   replace hH : Held wN wn6 [aB (wN.heap.size) 29 [.int .i64 k, .int .i64 p, .int .i64 n, .slice aV m cV, .slice aO op.length cO], aSt (.slice ao os.length co) os, aI (.slice acs os.length ccs) CS] := hH.grow hwn6
   clear hwn6
   have q0_0 := hH.cl 0 0 rfl rfl; have q0_1 := hH.cl 0 1 rfl rfl; have q0_2 := hH.cl 0 2 rfl rfl; have q0_3 := hH.cl 0 3 rfl rfl; have q0_4 := hH.cl 0 4 rfl rfl; have l0_ := hH.bl 0 rfl; have c_kr_0 := hH.ext.cell kr_0; have c_kr_1 := hH.ext.cell kr_1; have c_kr_2 := hH.ext.cell kr_2
   have c_kr_l := Nat.lt_of_lt_of_le kr_l hH.ext.size
   go_upto_region 15 with fail
   clear q0_0 q0_1 q0_2 q0_3 q0_4 l0_ c_kr_0 c_kr_1 c_kr_2 c_kr_l
   have hB : Held wN (wn6.alloc (.cells #[.int .i64 k, .int .i64 p, .int .i64 n, .slice aK mj cK, .slice aP op.length cP] 29)) [aB (wN.heap.size) 29 [.int .i64 k, .int .i64 p, .int .i64 n, .slice aV m cV, .slice aO op.length cO], aSt (.slice ao os.length co) os, aI (.slice acs os.length ccs) CS, aB (wn6.heap.size) 29 [.int .i64 k, .int .i64 p, .int .i64 n, .slice aK mj cK, .slice aP op.length cP]] := by
    have h := (hH.mores 1).addB 3 #[.int .i64 k, .int .i64 p, .int .i64 n, .slice aK mj cK, .slice aP op.length cP] 29
    exact h
   have hTTB : TensS (wn6.alloc (.cells #[.int .i64 k, .int .i64 p, .int .i64 n, .slice aK mj cK, .slice aP op.length cP] 29)) (.slice aK mj cK) (tj.map (tenOf dimOf)) := hTT.ext ((Ext.refl _).alloc _)
   have hOOB : IntS (wn6.alloc (.cells #[.int .i64 k, .int .i64 p, .int .i64 n, .slice aK mj cK, .slice aP op.length cP] 29)) (.slice aP op.length cP) op := hOO.ext ((Ext.refl _).alloc _)
   have hsz : (wn6.alloc (.cells #[.int .i64 k, .int .i64 p, .int .i64 n, .slice aK mj cK, .slice aP op.length cP] 29)).heap.size = wn6.heap.size + 1 := by simp
   generalize wn6.alloc (.cells #[.int .i64 k, .int .i64 p, .int .i64 n, .slice aK mj cK, .slice aP op.length cP] 29) = wn7 at hB hsz hTTB hOOB ⊢
   replace hH := hB; have HSZwn7 := Lib.hid hsz; clear hB hsz; replace hTT := hTTB; clear hTTB; replace hOO := hOOB; clear hOOB
   obtain ⟨wz, rfl⟩ : ∃ q, q = wn7 := ⟨wn7, rfl⟩
   replace hH := hH.mores 1
   replace hH : Held wN wz [aB (wN.heap.size) 29 [.int .i64 k, .int .i64 p, .int .i64 n, .slice aV m cV, .slice aO op.length cO], aSt (.slice ao os.length co) os, aI (.slice acs os.length ccs) CS, aB (wn6.heap.size) 29 [.int .i64 k, .int .i64 p, .int .i64 n, .slice aK mj cK, .slice aP op.length cP], emp] := hH
   refine wp_region_steps ?Fa (fun b t wx => Held wN wx [aB (wN.heap.size) 29 [.int .i64 k, .int .i64 p, .int .i64 n, .slice aV m cV, .slice aO op.length cO], aSt (.slice ao os.length co) os, aI (.slice acs os.length ccs) CS, aB (wn6.heap.size) 29 [.int .i64 k, .int .i64 p, .int .i64 n, .slice aK mj cK, .slice aP op.length cP], (bif b 5 then aT (t 5) op (op.map dimOf) (flat RX) else emp)] ∧ TensS wx (.slice aK mj cK) (tj.map (tenOf dimOf)) ∧ IntS wx (.slice aP op.length cP) op ∧ (b 0 = true → t 0 = .bool true) ∧ (b 1 = true → t 1 = .bool false) ∧ (b 2 = true → t 2 = .bool false) ∧ (b 3 = true → t 3 = .agg #[.int .i64 k, .int .i64 p, .int .i64 n, .slice aK mj cK, .slice aP op.length cP]) ∧ (b 4 = true → t 4 = .agg #[.int .i64 k, .int .i64 p, .int .i64 n, .slice aV m cV, .slice aO op.length cO]) ∧ (b 5 = true → ∃ p1 n1 c1 p2 n2 c2 p3 n3 c3, t 5 = .agg #[.slice p1 n1 c1, .slice p2 n2 c2, .slice p3 n3 c3]) ∧ (b 6 = true → t 6 = .bool true) ∧ (b 7 = true → t 7 = .bool false) ∧ (b 8 = true → t 8 = .bool false) ∧ (b 9 = true → t 9 = .bool false) ∧ (b 10 = true → t 10 = .pointer (some ⟨wn6.heap.size, 3, none⟩)) ∧ (b 11 = true → t 11 = .slice aK mj cK) ∧ (b 12 = true → t 12 = .int .i64 (mj : Int)) ∧ (b 13 = true → t 13 = .pointer (some ⟨wN.heap.size, 3, none⟩)) ∧ (b 14 = true → t 14 = .slice aV m cV) ∧ (b 15 = true → t 15 = .int .i64 (m : Int)) ∧ (b 16 = true → t 16 = .int .i64 (j : Int)) ∧ (b 17 = true → t 17 = .int .i64 (mj : Int)) ∧ (b 18 = true → t 18 = .int .i64 (mj : Int)) ∧ (b 19 = true → t 19 = .bool false) ∧ (b 20 = true → t 20 = .bool false)) ?hFa (by kernel_rfl) (by kernel_rfl) ?hJa ?hSa ?hEa
   (case hFa => intro t; simp only [putAll, Act.put, List.setIfInBounds_toArray, List.set_cons_zero, List.set_cons_succ, Nat.reduceAdd, Nat.zero_add]; exact rfl)
   case hJa => exact ⟨hH.grow ((Ext.refl _).drew), hTT.ext ((Ext.refl _).drew), hOO.ext ((Ext.refl _).drew), fun h => absurd h Bool.false_ne_true, fun h => absurd h Bool.false_ne_true, fun h => absurd h Bool.false_ne_true, fun h => absurd h Bool.false_ne_true, fun h => absurd h Bool.false_ne_true, fun h => absurd h Bool.false_ne_true, fun h => absurd h Bool.false_ne_true, fun h => absurd h Bool.false_ne_true, fun h => absurd h Bool.false_ne_true, fun h => absurd h Bool.false_ne_true, fun h => absurd h Bool.false_ne_true, fun h => absurd h Bool.false_ne_true, fun h => absurd h Bool.false_ne_true, fun h => absurd h Bool.false_ne_true, fun h => absurd h Bool.false_ne_true, fun h => absurd h Bool.false_ne_true, fun h => absurd h Bool.false_ne_true, fun h => absurd h Bool.false_ne_true, fun h => absurd h Bool.false_ne_true, fun h => absurd h Bool.false_ne_true, fun h => absurd h Bool.false_ne_true⟩
   case hSa => as_aux_lemma =>
     refine AllSteps.cons (j := 1) rfl (fun b t wx hJ hb hd hcl Kc hK => ?_) ?_
     · obtain ⟨hH, hTT, hOO, v0, v1, v2, v3, v4, v5, v6, v7, v8, v9, v10, v11, v12, v13, v14, v15, v16, v17, v18, v19, v20⟩ := hJ
       go_simp
       refine hK.out _ ?_ _ ?_ ?_; rotate_left 2
       · rfl
       exact ⟨hH, hTT, hOO, fun _ => rfl, v1, v2, v3, v4, v5, v6, v7, v8, v9, v10, v11, v12, v13, v14, v15, v16, v17, v18, v19, v20⟩
     refine AllSteps.cons (j := 2) rfl (fun b t wx hJ hb hd hcl Kc hK => ?_) ?_
     · obtain ⟨hH, hTT, hOO, v0, v1, v2, v3, v4, v5, v6, v7, v8, v9, v10, v11, v12, v13, v14, v15, v16, v17, v18, v19, v20⟩ := hJ
       have d0 := hd.out 0 (by kernel_rfl); have r0 := v0 d0
       go_simp
       refine hK.out _ ?_ _ ?_ ?_; rotate_left 2
       · (try simp only [r0]); rfl
       exact ⟨hH, hTT, hOO, v0, fun _ => rfl, v2, v3, v4, v5, v6, v7, v8, v9, v10, v11, v12, v13, v14, v15, v16, v17, v18, v19, v20⟩
     refine AllSteps.cons (j := 3) rfl (fun b t wx hJ hb hd hcl Kc hK => ?_) ?_
     · obtain ⟨hH, hTT, hOO, v0, v1, v2, v3, v4, v5, v6, v7, v8, v9, v10, v11, v12, v13, v14, v15, v16, v17, v18, v19, v20⟩ := hJ
       have d1 := hd.out 1 (by kernel_rfl); have r1 := v1 d1
       go_simp
       refine hK.out _ ?_ _ ?_ ?_; rotate_left 2
       · (try simp only [r1]); rfl
       exact ⟨hH, hTT, hOO, v0, v1, fun _ => rfl, v3, v4, v5, v6, v7, v8, v9, v10, v11, v12, v13, v14, v15, v16, v17, v18, v19, v20⟩
     refine AllSteps.cons (j := 4) rfl (fun b t wx hJ hb hd hcl Kc hK => ?_) ?_
     · obtain ⟨hH, hTT, hOO, v0, v1, v2, v3, v4, v5, v6, v7, v8, v9, v10, v11, v12, v13, v14, v15, v16, v17, v18, v19, v20⟩ := hJ
       have d2 := hd.out 2 (by kernel_rfl); have r2 := v2 d2; have q3_0 := hH.cl 3 0 rfl rfl; have q3_1 := hH.cl 3 1 rfl rfl; have q3_2 := hH.cl 3 2 rfl rfl; have q3_3 := hH.cl 3 3 rfl rfl; have q3_4 := hH.cl 3 4 rfl rfl
       go_simp
       refine hK.out _ ?_ _ ?_ ?_; rotate_left 2
       · (try simp only [r2]); rfl
       exact ⟨hH, hTT, hOO, v0, v1, v2, fun _ => rfl, v4, v5, v6, v7, v8, v9, v10, v11, v12, v13, v14, v15, v16, v17, v18, v19, v20⟩
     refine AllSteps.cons (j := 5) rfl (fun b t wx hJ hb hd hcl Kc hK => ?_) ?_
     · obtain ⟨hH, hTT, hOO, v0, v1, v2, v3, v4, v5, v6, v7, v8, v9, v10, v11, v12, v13, v14, v15, v16, v17, v18, v19, v20⟩ := hJ
       have d2 := hd.out 2 (by kernel_rfl); have r2 := v2 d2; have q0_0 := hH.cl 0 0 rfl rfl; have q0_1 := hH.cl 0 1 rfl rfl; have q0_2 := hH.cl 0 2 rfl rfl; have q0_3 := hH.cl 0 3 rfl rfl; have q0_4 := hH.cl 0 4 rfl rfl
       go_simp
       refine hK.out _ ?_ _ ?_ ?_; rotate_left 2
       · (try simp only [r2]); rfl
       exact ⟨hH, hTT, hOO, v0, v1, v2, v3, fun _ => rfl, v5, v6, v7, v8, v9, v10, v11, v12, v13, v14, v15, v16, v17, v18, v19, v20⟩
     refine AllSteps.cons (j := 6) rfl (fun b t wx hJ hb hd hcl Kc hK => ?_) ?_
     · obtain ⟨hH, hTT, hOO, v0, v1, v2, v3, v4, v5, v6, v7, v8, v9, v10, v11, v12, v13, v14, v15, v16, v17, v18, v19, v20⟩ := hJ
       have d2 := hd.out 2 (by kernel_rfl); have d4 := hd.out 4 (by kernel_rfl); have r2 := v2 d2; have r4 := v4 d4
       have hN := hH; (try simp only [hb, d2, d4, cond_true, cond_false] at hN)
       go_simp
       go_at_call 37
       refine (worth_any HR.out HN.out _ _ _ (hT0.ext hH.ext) (hO.ext hH.ext)).mono ?_; rintro e5 w5 ⟨u12, rfl, o12, h12⟩
       rw [HRX.out] at o12
       obtain ⟨pa1, na1, ca1, pa2, na2, ca2, pa3, na3, ca3, rfl⟩ := o12.shape
       (try go_simp)
       refine hK.out _ ?_ _ ?_ ?_; rotate_left 2
       · (try simp only [r2, r4]); rfl
       exact ⟨by have hX := hN.addT 4 h12 o12 (Nat.le_refl _); simpa only [List.set_cons_zero, List.set_cons_succ, updB, updV, blkOf_mk, tup0_mk, partsOf3, Nat.reduceBEq, cond_true, cond_false, hb, d2, d4, r2, r4] using hX, hTT.ext h12, hOO.ext h12, v0, v1, v2, v3, v4, fun _ => ⟨_, _, _, _, _, _, _, _, _, rfl⟩, v6, v7, v8, v9, v10, v11, v12, v13, v14, v15, v16, v17, v18, v19, v20⟩
     refine AllSteps.cons (j := 7) rfl (fun b t wx hJ hb hd hcl Kc hK => ?_) ?_
     · obtain ⟨hH, hTT, hOO, v0, v1, v2, v3, v4, v5, v6, v7, v8, v9, v10, v11, v12, v13, v14, v15, v16, v17, v18, v19, v20⟩ := hJ
       have d2 := hd.out 2 (by kernel_rfl); have d3 := hd.out 3 (by kernel_rfl); have d5 := hd.out 5 (by kernel_rfl); have r2 := v2 d2; have r3 := v3 d3; have r5 := v5 d5
       obtain ⟨p1_5, n1_5, c1_5, p2_5, n2_5, c2_5, p3_5, n3_5, c3_5, r5⟩ := r5
       have hN := hH; (try simp only [hb, d2, d3, d5, cond_true, cond_false] at hN)
       go_simp
       go_at_call 49
       refine (gives_any HR.out HA.out.isN _ _ _ hTT hOO _ _ (by have h := hN.tens (k := 4) rfl; rw [r5] at h; exact h) HVX.out).mono ?_; rintro e6 w6 ⟨rfl, h13⟩
       (try go_simp)
       refine hK.out _ ?_ _ ?_ ?_; rotate_left 2
       · (try simp only [r2, r3, r5]); rfl
       exact ⟨by have hX := hH.grow h13; simpa only [List.set_cons_zero, List.set_cons_succ, updB, updV, blkOf_mk, tup0_mk, partsOf3, Nat.reduceBEq, cond_true, cond_false, hb, d2, d3, d5, r2, r3, r5] using hX, hTT.ext h13, hOO.ext h13, v0, v1, v2, v3, v4, v5, fun _ => rfl, v7, v8, v9, v10, v11, v12, v13, v14, v15, v16, v17, v18, v19, v20⟩
     refine AllSteps.cons (j := 8) rfl (fun b t wx hJ hb hd hcl Kc hK => ?_) ?_
     · obtain ⟨hH, hTT, hOO, v0, v1, v2, v3, v4, v5, v6, v7, v8, v9, v10, v11, v12, v13, v14, v15, v16, v17, v18, v19, v20⟩ := hJ
       have d2 := hd.out 2 (by kernel_rfl); have d6 := hd.out 6 (by kernel_rfl); have r2 := v2 d2; have r6 := v6 d6
       go_simp
       refine hK.out _ ?_ _ ?_ ?_; rotate_left 2
       · (try simp only [r2, r6]); rfl
       exact ⟨hH, hTT, hOO, v0, v1, v2, v3, v4, v5, v6, fun _ => rfl, v8, v9, v10, v11, v12, v13, v14, v15, v16, v17, v18, v19, v20⟩
     refine AllSteps.cons (j := 9) rfl (fun b t wx hJ hb hd hcl Kc hK => ?_) ?_
     · obtain ⟨hH, hTT, hOO, v0, v1, v2, v3, v4, v5, v6, v7, v8, v9, v10, v11, v12, v13, v14, v15, v16, v17, v18, v19, v20⟩ := hJ
       have d2 := hd.out 2 (by kernel_rfl); have d7 := hd.out 7 (by kernel_rfl); have r2 := v2 d2; have r7 := v7 d7
       go_simp
       refine hK.out _ ?_ _ ?_ ?_; rotate_left 2
       · (try simp only [r2, r7]); rfl
       exact ⟨hH, hTT, hOO, v0, v1, v2, v3, v4, v5, v6, v7, fun _ => rfl, v9, v10, v11, v12, v13, v14, v15, v16, v17, v18, v19, v20⟩
     refine AllSteps.cons (j := 10) rfl (fun b t wx hJ hb hd hcl Kc hK => ?_) ?_
     · obtain ⟨hH, hTT, hOO, v0, v1, v2, v3, v4, v5, v6, v7, v8, v9, v10, v11, v12, v13, v14, v15, v16, v17, v18, v19, v20⟩ := hJ
       have d6 := hd.out 6 (by kernel_rfl); have d8 := hd.out 8 (by kernel_rfl); have r6 := v6 d6; have r8 := v8 d8
       go_simp
       refine hK.out _ ?_ _ ?_ ?_; rotate_left 2
       · (try simp only [r6, r8]); rfl
       exact ⟨hH, hTT, hOO, v0, v1, v2, v3, v4, v5, v6, v7, v8, fun _ => rfl, v10, v11, v12, v13, v14, v15, v16, v17, v18, v19, v20⟩
     refine AllSteps.cons (j := 11) rfl (fun b t wx hJ hb hd hcl Kc hK => ?_) ?_
     · obtain ⟨hH, hTT, hOO, v0, v1, v2, v3, v4, v5, v6, v7, v8, v9, v10, v11, v12, v13, v14, v15, v16, v17, v18, v19, v20⟩ := hJ
       have d9 := hd.out 9 (by kernel_rfl); have r9 := v9 d9
       go_simp
       refine hK.out _ ?_ _ ?_ ?_; rotate_left 2
       · (try simp only [r9]); rfl
       exact ⟨hH, hTT, hOO, v0, v1, v2, v3, v4, v5, v6, v7, v8, v9, fun _ => rfl, v11, v12, v13, v14, v15, v16, v17, v18, v19, v20⟩
     refine AllSteps.cons (j := 12) rfl (fun b t wx hJ hb hd hcl Kc hK => ?_) ?_
     · obtain ⟨hH, hTT, hOO, v0, v1, v2, v3, v4, v5, v6, v7, v8, v9, v10, v11, v12, v13, v14, v15, v16, v17, v18, v19, v20⟩ := hJ
       have d9 := hd.out 9 (by kernel_rfl); have d10 := hd.out 10 (by kernel_rfl); have r9 := v9 d9; have r10 := v10 d10; have q3_3 := hH.cl 3 3 rfl rfl
       go_simp
       refine hK.out _ ?_ _ ?_ ?_; rotate_left 2
       · (try simp only [r9, r10]); rfl
       exact ⟨hH, hTT, hOO, v0, v1, v2, v3, v4, v5, v6, v7, v8, v9, v10, fun _ => rfl, v12, v13, v14, v15, v16, v17, v18, v19, v20⟩
     refine AllSteps.cons (j := 13) rfl (fun b t wx hJ hb hd hcl Kc hK => ?_) ?_
     · obtain ⟨hH, hTT, hOO, v0, v1, v2, v3, v4, v5, v6, v7, v8, v9, v10, v11, v12, v13, v14, v15, v16, v17, v18, v19, v20⟩ := hJ
       have d9 := hd.out 9 (by kernel_rfl); have d11 := hd.out 11 (by kernel_rfl); have r9 := v9 d9; have r11 := v11 d11
       go_simp
       refine hK.out _ ?_ _ ?_ ?_; rotate_left 2
       · (try simp only [r9, r11]); rfl
       exact ⟨hH, hTT, hOO, v0, v1, v2, v3, v4, v5, v6, v7, v8, v9, v10, v11, fun _ => rfl, v13, v14, v15, v16, v17, v18, v19, v20⟩
     refine AllSteps.cons (j := 14) rfl (fun b t wx hJ hb hd hcl Kc hK => ?_) ?_
     · obtain ⟨hH, hTT, hOO, v0, v1, v2, v3, v4, v5, v6, v7, v8, v9, v10, v11, v12, v13, v14, v15, v16, v17, v18, v19, v20⟩ := hJ
       have d9 := hd.out 9 (by kernel_rfl); have r9 := v9 d9
       go_simp
       refine hK.out _ ?_ _ ?_ ?_; rotate_left 2
       · (try simp only [r9]); rfl
       exact ⟨hH, hTT, hOO, v0, v1, v2, v3, v4, v5, v6, v7, v8, v9, v10, v11, v12, fun _ => rfl, v14, v15, v16, v17, v18, v19, v20⟩
     refine AllSteps.cons (j := 15) rfl (fun b t wx hJ hb hd hcl Kc hK => ?_) ?_
     · obtain ⟨hH, hTT, hOO, v0, v1, v2, v3, v4, v5, v6, v7, v8, v9, v10, v11, v12, v13, v14, v15, v16, v17, v18, v19, v20⟩ := hJ
       have d9 := hd.out 9 (by kernel_rfl); have d13 := hd.out 13 (by kernel_rfl); have r9 := v9 d9; have r13 := v13 d13; have q0_3 := hH.cl 0 3 rfl rfl
       go_simp
       refine hK.out _ ?_ _ ?_ ?_; rotate_left 2
       · (try simp only [r9, r13]); rfl
       exact ⟨hH, hTT, hOO, v0, v1, v2, v3, v4, v5, v6, v7, v8, v9, v10, v11, v12, v13, fun _ => rfl, v15, v16, v17, v18, v19, v20⟩
     refine AllSteps.cons (j := 16) rfl (fun b t wx hJ hb hd hcl Kc hK => ?_) ?_
     · obtain ⟨hH, hTT, hOO, v0, v1, v2, v3, v4, v5, v6, v7, v8, v9, v10, v11, v12, v13, v14, v15, v16, v17, v18, v19, v20⟩ := hJ
       have d9 := hd.out 9 (by kernel_rfl); have d14 := hd.out 14 (by kernel_rfl); have r9 := v9 d9; have r14 := v14 d14
       go_simp
       refine hK.out _ ?_ _ ?_ ?_; rotate_left 2
       · (try simp only [r9, r14]); rfl
       exact ⟨hH, hTT, hOO, v0, v1, v2, v3, v4, v5, v6, v7, v8, v9, v10, v11, v12, v13, v14, fun _ => rfl, v16, v17, v18, v19, v20⟩
     refine AllSteps.cons (j := 17) rfl (fun b t wx hJ hb hd hcl Kc hK => ?_) ?_
     · obtain ⟨hH, hTT, hOO, v0, v1, v2, v3, v4, v5, v6, v7, v8, v9, v10, v11, v12, v13, v14, v15, v16, v17, v18, v19, v20⟩ := hJ
       have d9 := hd.out 9 (by kernel_rfl); have r9 := v9 d9
       go_simp
       refine hK.out _ ?_ _ ?_ ?_; rotate_left 2
       · (try simp only [r9]); rfl
       exact ⟨hH, hTT, hOO, v0, v1, v2, v3, v4, v5, v6, v7, v8, v9, v10, v11, v12, v13, v14, v15, fun _ => rfl, v17, v18, v19, v20⟩
     refine AllSteps.cons (j := 18) rfl (fun b t wx hJ hb hd hcl Kc hK => ?_) ?_
     · obtain ⟨hH, hTT, hOO, v0, v1, v2, v3, v4, v5, v6, v7, v8, v9, v10, v11, v12, v13, v14, v15, v16, v17, v18, v19, v20⟩ := hJ
       have d9 := hd.out 9 (by kernel_rfl); have d15 := hd.out 15 (by kernel_rfl); have d16 := hd.out 16 (by kernel_rfl); have r9 := v9 d9; have r15 := v15 d15; have r16 := v16 d16
       go_simp
       refine hK.out _ ?_ _ ?_ ?_; rotate_left 2
       · (try simp only [r9, r15, r16]); rfl
       exact ⟨hH, hTT, hOO, v0, v1, v2, v3, v4, v5, v6, v7, v8, v9, v10, v11, v12, v13, v14, v15, v16, fun _ => rfl, v18, v19, v20⟩
     refine AllSteps.cons (j := 19) rfl (fun b t wx hJ hb hd hcl Kc hK => ?_) ?_
     · obtain ⟨hH, hTT, hOO, v0, v1, v2, v3, v4, v5, v6, v7, v8, v9, v10, v11, v12, v13, v14, v15, v16, v17, v18, v19, v20⟩ := hJ
       have d9 := hd.out 9 (by kernel_rfl); have d17 := hd.out 17 (by kernel_rfl); have r9 := v9 d9; have r17 := v17 d17
       go_simp
       refine hK.out _ ?_ _ ?_ ?_; rotate_left 2
       · (try simp only [r9, r17]); rfl
       exact ⟨hH, hTT, hOO, v0, v1, v2, v3, v4, v5, v6, v7, v8, v9, v10, v11, v12, v13, v14, v15, v16, v17, fun _ => (by show Value.int .i64 (if 0 < mj then (mj : Int) else 0) = _; split <;> first | rfl | (congr 1; omega)), v19, v20⟩
     refine AllSteps.cons (j := 20) rfl (fun b t wx hJ hb hd hcl Kc hK => ?_) ?_
     · obtain ⟨hH, hTT, hOO, v0, v1, v2, v3, v4, v5, v6, v7, v8, v9, v10, v11, v12, v13, v14, v15, v16, v17, v18, v19, v20⟩ := hJ
       have d9 := hd.out 9 (by kernel_rfl); have d12 := hd.out 12 (by kernel_rfl); have d18 := hd.out 18 (by kernel_rfl); have r9 := v9 d9; have r12 := v12 d12; have r18 := v18 d18
       go_simp
       refine hK.out _ ?_ _ ?_ ?_; rotate_left 2
       · (try simp only [r9, r12, r18]); rfl
       exact ⟨hH, hTT, hOO, v0, v1, v2, v3, v4, v5, v6, v7, v8, v9, v10, v11, v12, v13, v14, v15, v16, v17, v18, fun _ => rfl, v20⟩
     refine AllSteps.cons (j := 21) rfl (fun b t wx hJ hb hd hcl Kc hK => ?_) ?_
     · obtain ⟨hH, hTT, hOO, v0, v1, v2, v3, v4, v5, v6, v7, v8, v9, v10, v11, v12, v13, v14, v15, v16, v17, v18, v19, v20⟩ := hJ
       have d9 := hd.out 9 (by kernel_rfl); have d19 := hd.out 19 (by kernel_rfl); have r9 := v9 d9; have r19 := v19 d19
       go_simp
       refine hK.out _ ?_ _ ?_ ?_; rotate_left 2
       · (try simp only [r9, r19]); rfl
       exact ⟨hH, hTT, hOO, v0, v1, v2, v3, v4, v5, v6, v7, v8, v9, v10, v11, v12, v13, v14, v15, v16, v17, v18, v19, fun _ => rfl⟩
     exact AllSteps.nil
   case hEa =>
    intro b t wa hJ hall
    obtain ⟨hHa, hTTa, hOOa, v0, v1, v2, v3, v4, v5, v6, v7, v8, v9, v10, v11, v12, v13, v14, v15, v16, v17, v18, v19, v20⟩ := hJ
    have a0 := hall 0 (by decide); have a1 := hall 1 (by decide); have a2 := hall 2 (by decide); have a3 := hall 3 (by decide); have a4 := hall 4 (by decide); have a5 := hall 5 (by decide); have a6 := hall 6 (by decide); have a7 := hall 7 (by decide); have a8 := hall 8 (by decide); have a9 := hall 9 (by decide); have a10 := hall 10 (by decide); have a11 := hall 11 (by decide); have a12 := hall 12 (by decide); have a13 := hall 13 (by decide); have a14 := hall 14 (by decide); have a15 := hall 15 (by decide); have a16 := hall 16 (by decide); have a17 := hall 17 (by decide); have a18 := hall 18 (by decide); have a19 := hall 19 (by decide); have a20 := hall 20 (by decide)
    (try simp only [a0, a1, a2, a3, a4, a5, a6, a7, a8, a9, a10, a11, a12, a13, a14, a15, a16, a17, a18, a19, a20, cond_true] at hHa)
    replace v0 := v0 a0; replace v1 := v1 a1; replace v2 := v2 a2; replace v3 := v3 a3; replace v4 := v4 a4; replace v5 := v5 a5; replace v6 := v6 a6; replace v7 := v7 a7; replace v8 := v8 a8; replace v9 := v9 a9; replace v10 := v10 a10; replace v11 := v11 a11; replace v12 := v12 a12; replace v13 := v13 a13; replace v14 := v14 a14; replace v15 := v15 a15; replace v16 := v16 a16; replace v17 := v17 a17; replace v18 := v18 a18; replace v19 := v19 a19; replace v20 := v20 a20
    clear hall a0 a1 a2 a3 a4 a5 a6 a7 a8 a9 a10 a11 a12 a13 a14 a15 a16 a17 a18 a19 a20
    generalize t 20 = x20 at hHa v20 ⊢; generalize t 19 = x19 at hHa v19 ⊢; generalize t 18 = x18 at hHa v18 ⊢; generalize t 17 = x17 at hHa v17 ⊢; generalize t 16 = x16 at hHa v16 ⊢; generalize t 15 = x15 at hHa v15 ⊢; generalize t 14 = x14 at hHa v14 ⊢; generalize t 13 = x13 at hHa v13 ⊢; generalize t 12 = x12 at hHa v12 ⊢; generalize t 11 = x11 at hHa v11 ⊢; generalize t 10 = x10 at hHa v10 ⊢; generalize t 9 = x9 at hHa v9 ⊢; generalize t 8 = x8 at hHa v8 ⊢; generalize t 7 = x7 at hHa v7 ⊢; generalize t 6 = x6 at hHa v6 ⊢; generalize t 5 = x5 at hHa v5 ⊢; generalize t 4 = x4 at hHa v4 ⊢; generalize t 3 = x3 at hHa v3 ⊢; generalize t 2 = x2 at hHa v2 ⊢; generalize t 1 = x1 at hHa v1 ⊢; generalize t 0 = x0 at hHa v0 ⊢; subst v0; subst v1; subst v2; subst v3; subst v4
    obtain ⟨p1a5, n1a5, c1a5, p2a5, n2a5, c2a5, p3a5, n3a5, c3a5, rfl⟩ := v5
    subst v6; subst v7; subst v8; subst v9; subst v10; subst v11; subst v12; subst v13; subst v14; subst v15; subst v16; subst v17; subst v18; subst v19; subst v20
    clear b
    replace hH := hHa; clear hHa
    replace hH : Held wN wa [aB (wN.heap.size) 29 [.int .i64 k, .int .i64 p, .int .i64 n, .slice aV m cV, .slice aO op.length cO], aSt (.slice ao os.length co) os, aI (.slice acs os.length ccs) CS, aB (wn6.heap.size) 29 [.int .i64 k, .int .i64 p, .int .i64 n, .slice aK mj cK, .slice aP op.length cP], aT (.agg #[.slice p1a5 n1a5 c1a5, .slice p2a5 n2a5 c2a5, .slice p3a5 n3a5 c3a5]) op (op.map dimOf) (flat RX)] := hH
    have hTT := hTTa; have hOO := hOOa; clear hTTa hOOa
    clear hmk hwrj
    clear hOO
    have q0_0 := hH.cl 0 0 rfl rfl; have q0_1 := hH.cl 0 1 rfl rfl; have q0_2 := hH.cl 0 2 rfl rfl; have q0_3 := hH.cl 0 3 rfl rfl; have q0_4 := hH.cl 0 4 rfl rfl; have l0_ := hH.bl 0 rfl; have q3_0 := hH.cl 3 0 rfl rfl; have q3_1 := hH.cl 3 1 rfl rfl; have q3_2 := hH.cl 3 2 rfl rfl; have q3_3 := hH.cl 3 3 rfl rfl; have q3_4 := hH.cl 3 4 rfl rfl; have l3_ := hH.bl 3 rfl; have c_kr_0 := hH.ext.cell kr_0; have c_kr_1 := hH.ext.cell kr_1; have c_kr_2 := hH.ext.cell kr_2
    have c_kr_l := Nat.lt_of_lt_of_le kr_l hH.ext.size
    go_wp2_with fail
    clear q0_0 q0_1 q0_2 q0_3 q0_4 l0_ q3_0 q3_1 q3_2 q3_3 q3_4 l3_ c_kr_0 c_kr_1 c_kr_2 c_kr_l
    obtain ⟨wy, rfl⟩ : ∃ q, q = wa := ⟨wa, rfl⟩
    go_loopw [8, 77] (fun pk i wr => ∃ (q : Nat) (y2 : Int), q ≤ mj ∧ i = .int .i64 (q : Int) ∧ pk = .int .i64 y2 ∧ Hid (maxT dimOf y (tj.take q) = y2) ∧ TensS wr (.slice aK mj cK) (tj.map (tenOf dimOf)) ∧ Held wN wr [aB (wN.heap.size) 29 [.int .i64 k, .int .i64 p, .int .i64 n, .slice aV m cV, .slice aO op.length cO], aSt (.slice ao os.length co) os, aI (.slice acs os.length ccs) CS, aB (wn6.heap.size) 29 [.int .i64 k, .int .i64 p, .int .i64 n, .slice aK mj cK, .slice aP op.length cP], aT (.agg #[.slice p1a5 n1a5 c1a5, .slice p2a5 n2a5 c2a5, .slice p3a5 n3a5 c3a5]) op (op.map dimOf) (flat RX)]) (fun pk i wr => mj - (RowKit.intOf i).toNat)
    case atStart => exact ⟨0, y, Nat.zero_le _, rfl, rfl, Lib.hid rfl, hTT, hH⟩
    case round =>
     clear hH hTT
     obtain ⟨q, y2, hq, rfl, rfl, HY2, hTT, hH⟩ := hrel
     obtain ⟨wv, rfl⟩ : ∃ q, q = wr := ⟨wr, rfl⟩
     have hyb2 : 1 ≤ y2 ∧ y2 ≤ 4096 := by
      rw [← HY2.out]
      exact ⟨Int.le_trans hy0 (maxT_ge _ _).1, maxT_le _ _ _ hy1 fun t ht => (szL_pos HN.out.uni (HA.out.isN.ten t (List.mem_of_mem_take ht)).sub).2⟩
     obtain ⟨hy2, hy3⟩ := hyb2
     by_cases hlt2 : q < mj
     ·
      obtain ⟨bK, oK, u1, u2, u3, t3, hV, hv0, hv1, hv2, ht3, hTu⟩ := hTT.get (i := q) (by rw [List.length_map, HMJ.out]; exact hlt2)
      subst hV
      obtain ⟨t, htj, rfl⟩ : ∃ t, tj[q]? = some t ∧ tenOf dimOf t = t3 := by rw [List.getElem?_map] at ht3; exact Option.map_eq_some_iff.1 ht3
      have HTJ := Lib.hid htj; have HTI := Lib.hid (HA.out.isN.ten t (List.mem_of_getElem? htj)); clear ht3 htj
      obtain ⟨tl, xs⟩ := t
      obtain ⟨e1, m1, f1, e2, m2, f2, e3, m3, f3, hvv⟩ := hTu.shape
      simp at hvv
      obtain ⟨rfl, rfl, rfl⟩ := hvv
      rw [Nat.mul_comm 3 (q)] at hv0 hv1 hv2
      simp only [tenOf] at hTu HTI
      have HTS := Lib.hid (tsize_ok HTI.out.ax)
      obtain ⟨P, hP⟩ : ∃ q, prodL (tl.map dimOf) = q := ⟨_, rfl⟩
      rw [hP] at HTS
      have hpb : 1 ≤ P ∧ P ≤ 4096 := by rw [← hP]; exact szL_pos HN.out.uni HTI.out.sub
      have HP := Lib.hid hP; clear hP
      obtain ⟨hp0, hp1⟩ := hpb
      have q0_0 := hH.cl 0 0 rfl rfl; have q0_1 := hH.cl 0 1 rfl rfl; have q0_2 := hH.cl 0 2 rfl rfl; have q0_3 := hH.cl 0 3 rfl rfl; have q0_4 := hH.cl 0 4 rfl rfl; have l0_ := hH.bl 0 rfl; have q3_0 := hH.cl 3 0 rfl rfl; have q3_1 := hH.cl 3 1 rfl rfl; have q3_2 := hH.cl 3 2 rfl rfl; have q3_3 := hH.cl 3 3 rfl rfl; have q3_4 := hH.cl 3 4 rfl rfl; have l3_ := hH.bl 3 rfl; have c_kr_0 := hH.ext.cell kr_0; have c_kr_1 := hH.ext.cell kr_1; have c_kr_2 := hH.ext.cell kr_2
      have c_kr_l := Nat.lt_of_lt_of_le kr_l hH.ext.size
      go_upto_region 20 with fail
      clear q0_0 q0_1 q0_2 q0_3 q0_4 l0_ q3_0 q3_1 q3_2 q3_3 q3_4 l3_ c_kr_0 c_kr_1 c_kr_2 c_kr_l
      clear hv0 hv1 hv2
      have hB : Held wN (wv.alloc (.cells #[.slice e1 m1 f1, .slice e2 m2 f2, .slice e3 m3 f3] 32)) [aB (wN.heap.size) 29 [.int .i64 k, .int .i64 p, .int .i64 n, .slice aV m cV, .slice aO op.length cO], aSt (.slice ao os.length co) os, aI (.slice acs os.length ccs) CS, aB (wn6.heap.size) 29 [.int .i64 k, .int .i64 p, .int .i64 n, .slice (some ⟨bK, oK, none⟩) mj cK, .slice aP op.length cP], aT (.agg #[.slice p1a5 n1a5 c1a5, .slice p2a5 n2a5 c2a5, .slice p3a5 n3a5 c3a5]) op (op.map dimOf) (flat RX), aB (wv.heap.size) 32 [.slice e1 m1 f1, .slice e2 m2 f2, .slice e3 m3 f3]] := by
       have h := (hH.mores 1).addB 5 #[.slice e1 m1 f1, .slice e2 m2 f2, .slice e3 m3 f3] 32
       exact h
      have hTTB : TensS (wv.alloc (.cells #[.slice e1 m1 f1, .slice e2 m2 f2, .slice e3 m3 f3] 32)) (.slice (some ⟨bK, oK, none⟩) mj cK) (tj.map (tenOf dimOf)) := hTT.ext ((Ext.refl _).alloc _)
      have hTuB : TenS (wv.alloc (.cells #[.slice e1 m1 f1, .slice e2 m2 f2, .slice e3 m3 f3] 32)) (.agg #[.slice e1 m1 f1, .slice e2 m2 f2, .slice e3 m3 f3]) tl (tl.map dimOf) (flat xs) := hTu.ext ((Ext.refl _).alloc _)
      have hsz : (wv.alloc (.cells #[.slice e1 m1 f1, .slice e2 m2 f2, .slice e3 m3 f3] 32)).heap.size = wv.heap.size + 1 := by simp
      generalize wv.alloc (.cells #[.slice e1 m1 f1, .slice e2 m2 f2, .slice e3 m3 f3] 32) = wn8 at hB hsz hTTB hTuB ⊢
      replace hH := hB; have HSZwn8 := Lib.hid hsz; clear hB hsz; replace hTT := hTTB; clear hTTB; replace hTu := hTuB; clear hTuB
      have q0_0 := hH.cl 0 0 rfl rfl; have q0_1 := hH.cl 0 1 rfl rfl; have q0_2 := hH.cl 0 2 rfl rfl; have q0_3 := hH.cl 0 3 rfl rfl; have q0_4 := hH.cl 0 4 rfl rfl; have l0_ := hH.bl 0 rfl; have q3_0 := hH.cl 3 0 rfl rfl; have q3_1 := hH.cl 3 1 rfl rfl; have q3_2 := hH.cl 3 2 rfl rfl; have q3_3 := hH.cl 3 3 rfl rfl; have q3_4 := hH.cl 3 4 rfl rfl; have l3_ := hH.bl 3 rfl; have q5_0 := hH.cl 5 0 rfl rfl; have q5_1 := hH.cl 5 1 rfl rfl; have q5_2 := hH.cl 5 2 rfl rfl; have l5_ := hH.bl 5 rfl; have c_kr_0 := hH.ext.cell kr_0; have c_kr_1 := hH.ext.cell kr_1; have c_kr_2 := hH.ext.cell kr_2
      have c_kr_l := Nat.lt_of_lt_of_le kr_l hH.ext.size
      go_wp2_with fail
      clear q0_0 q0_1 q0_2 q0_3 q0_4 l0_ q3_0 q3_1 q3_2 q3_3 q3_4 l3_ q5_0 q5_1 q5_2 l5_ c_kr_0 c_kr_1 c_kr_2 c_kr_l
      have hst : maxT dimOf y (tj.take (q + 1)) = max y2 P := by rw [maxT_take HTJ.out, HY2.out]; unfold szL; rw [HP.out]
      have HST := Lib.hid hst; clear hst
      refine (tensorSize_impl _ tl (tl.map dimOf) (flat xs) _ hTu).mono ?_; rintro ewn9 wn9 ⟨rfl, hwn9⟩
      rw [HTS.out]
      replace hH : Held wN wn9 [aB (wN.heap.size) 29 [.int .i64 k, .int .i64 p, .int .i64 n, .slice aV m cV, .slice aO op.length cO], aSt (.slice ao os.length co) os, aI (.slice acs os.length ccs) CS, aB (wn6.heap.size) 29 [.int .i64 k, .int .i64 p, .int .i64 n, .slice (some ⟨bK, oK, none⟩) mj cK, .slice aP op.length cP], aT (.agg #[.slice p1a5 n1a5 c1a5, .slice p2a5 n2a5 c2a5, .slice p3a5 n3a5 c3a5]) op (op.map dimOf) (flat RX), aB (wv.heap.size) 32 [.slice e1 m1 f1, .slice e2 m2 f2, .slice e3 m3 f3]] := hH.grow hwn9
      replace hTT := hTT.ext hwn9
      replace hTu := hTu.ext hwn9
      clear hwn9
      have hX := hH.sub (.cons_cons _ (.cons_cons _ (.cons_cons _ (.cons_cons _ (.cons_cons _ (.cons _ .slnil)))))); have HX := Lib.hid hX; have HTT := Lib.hid hTT; clear hH hX hTT hTu
      rcases Int.lt_or_le y2 P with hzp | hzp
      ·
       have hmx2 : max y2 P = P := Int.max_eq_right (by omega)
       rw [hmx2] at HST
       clear hmx2
       go_wp2_with fail
       go_roundw
       case rel => exact ⟨q + 1, P, by omega, by go_num, by first | rfl | (rw [if_neg (by omega)]) | (rw [if_pos (by omega)]), HST, HTT.out, HX.out⟩
       case measure => simp [RowKit.intOf]; omega
      ·
       have hmx2 : max y2 P = y2 := Int.max_eq_left (by omega)
       rw [hmx2] at HST
       clear hmx2
       go_wp2_with fail
       go_roundw
       case rel => exact ⟨q + 1, y2, by omega, by go_num, by first | rfl | (rw [if_neg (by omega)]) | (rw [if_pos (by omega)]), HST, HTT.out, HX.out⟩
       case measure => simp [RowKit.intOf]; omega
     ·
      have hqe : mj = q := by omega
      subst hqe
      have HPJ : Hid (PK (j + 1) = y2) := Lib.hid (by have h1 := HPKN.out j hlt; rw [HY.out, HA.out.eqT] at h1; rw [← h1]; have h2 := HY2.out; rw [List.take_of_length_le (by rw [HMJ.out]; exact Nat.le_refl _)] at h2; exact h2)
      rcases Nat.eq_zero_or_pos j with hj0 | hj0
      ·
       have hjI : ¬ (0 : Int) < (j : Int) := by omega
       have HZ2 : Hid ((CS.take (j + 1 - 1)).sum = z) := Lib.hid (by rw [← HZ.out]; congr 2; omega)
       clear hj0 hTT
       have q0_0 := hH.cl 0 0 rfl rfl; have q0_1 := hH.cl 0 1 rfl rfl; have q0_2 := hH.cl 0 2 rfl rfl; have q0_3 := hH.cl 0 3 rfl rfl; have q0_4 := hH.cl 0 4 rfl rfl; have l0_ := hH.bl 0 rfl; have q3_0 := hH.cl 3 0 rfl rfl; have q3_1 := hH.cl 3 1 rfl rfl; have q3_2 := hH.cl 3 2 rfl rfl; have q3_3 := hH.cl 3 3 rfl rfl; have q3_4 := hH.cl 3 4 rfl rfl; have l3_ := hH.bl 3 rfl; have c_kr_0 := hH.ext.cell kr_0; have c_kr_1 := hH.ext.cell kr_1; have c_kr_2 := hH.ext.cell kr_2
       have c_kr_l := Nat.lt_of_lt_of_le kr_l hH.ext.size
       go_wp2_with fail
       clear q0_0 q0_1 q0_2 q0_3 q0_4 l0_ q3_0 q3_1 q3_2 q3_3 q3_4 l3_ c_kr_0 c_kr_1 c_kr_2 c_kr_l
       go_roundw
       case rel => exact ⟨j + 1, z, y2, by omega, by go_num, rfl, rfl, HZ2, HPJ, hH.sub (.cons_cons _ (.cons_cons _ (.cons_cons _ (.cons _ (.cons _ .slnil)))))⟩
       case measure => simp [RowKit.intOf]; omega
      ·
       obtain ⟨j1, hj1⟩ : ∃ j1, j = j1 + 1 := ⟨j - 1, by omega⟩
       have hjs : (j : Int) - 1 = (j1 : Int) := by omega
       have hj1o : j1 < os.length := by omega
       have hwj1 : IntKind.i64.wrap (j1 : Int) = (j1 : Int) := by rw [IntKind.wrap_i64]; omega
       have HJ1 := Lib.hid hj1
       obtain ⟨bC, oC, d, hVc, hcd0, hxd, _⟩ := (hH.ints (k := 2) rfl).get (i := j1) (by rw [HCL.out]; exact hj1o)
       cases hVc
       have HDC : Hid (costAt HR.out dimOf op (numL ts.length) (ts.length : Int) ts os j1 = d) := Lib.hid (by have h := HCG.out j1 hj1o; rw [hxd] at h; exact (Option.some.inj h).symm)
       have hst : (CS.take (j + 1 - 1)).sum = z + d := by
        rw [show j + 1 - 1 = j1 + 1 by have := HJ1.out; omega, List.take_add_one, hxd, List.sum_append, show j1 = j - 1 by have := HJ1.out; omega, HZ.out]; simp
       have hbd := HPS.out (j + 1 - 1) (by omega)
       rw [hst] at hbd
       obtain ⟨z2, hz2⟩ : ∃ z2, z + d = z2 := ⟨_, rfl⟩
       rw [hz2] at hbd hst
       have HST := Lib.hid hst
       have hwr : IntKind.i64.wrap z2 = z2 := by rw [IntKind.wrap_i64]; push_cast at hbd; omega
       have hmj1 : 1 ≤ mj := by have h1 := HA.out.left; have h2 := HOL.out; have h3 := HM.out; have h4 := HMJ.out; omega
       obtain ⟨ml, hml⟩ : ∃ ml, mj = ml + 1 := ⟨mj - 1, by omega⟩
       have hmlt : ml < mj := by omega
       have hmls : (mj : Int) - 1 = (ml : Int) := by omega
       have hwml : IntKind.i64.wrap (ml : Int) = (ml : Int) := by rw [IntKind.wrap_i64]; omega
       have HML := Lib.hid hml
       clear hst hbd hxd hj1 hml
       obtain ⟨bK, oK, u1, u2, u3, t3, hV, hv0, hv1, hv2, ht3, hTu⟩ := hTT.get (i := ml) (by rw [List.length_map, HMJ.out]; exact hmlt)
       subst hV
       obtain ⟨t, htj, rfl⟩ : ∃ t, tj[ml]? = some t ∧ tenOf dimOf t = t3 := by rw [List.getElem?_map] at ht3; exact Option.map_eq_some_iff.1 ht3
       have HTJ := Lib.hid htj; have HTI := Lib.hid (HA.out.isN.ten t (List.mem_of_getElem? htj)); clear ht3 htj
       obtain ⟨tl, xs⟩ := t
       obtain ⟨e1, m1, f1, e2, m2, f2, e3, m3, f3, hvv⟩ := hTu.shape
       simp at hvv
       obtain ⟨rfl, rfl, rfl⟩ := hvv
       rw [Nat.mul_comm 3 (ml)] at hv0 hv1 hv2
       simp only [tenOf] at hTu HTI
       have HTS := Lib.hid (tsize_ok HTI.out.ax)
       obtain ⟨P, hP⟩ : ∃ q, prodL (tl.map dimOf) = q := ⟨_, rfl⟩
       rw [hP] at HTS
       have hpb : 1 ≤ P ∧ P ≤ 4096 := by rw [← hP]; exact szL_pos HN.out.uni HTI.out.sub
       have HP := Lib.hid hP; clear hP
       obtain ⟨hp0, hp1⟩ := hpb
       have HLS : Hid (lastL (runN HR.out dimOf op (numL ts.length) (ts.length : Int) ts (os.take (j1 + 1))).2 = tl) := Lib.hid (by
        have h := HA.out.eqT
        rw [HJ1.out] at h
        rw [h]; unfold lastL; rw [HMJ.out, show mj - 1 = ml by have := HML.out; omega]
        exact labAt_map HTJ.out)
       have hdP : ¬ d < P := by
        have hA1 := AtStep.mk' (hr := HR.out) HOK.out (numL_len _) HN.out j1 (Nat.le_of_lt hj1o)
        have hs : os[j1]? = some os[j1] := List.getElem?_eq_getElem hj1o
        have h1 := (hA1.cost_ok HOK.out hs).2.2
        rw [← (hA1.next HOK.out (numL_len _) HN.out hs).1.eqT, HLS.out, ← hA1.cost hs, HDC.out] at h1
        have h2 : prodL (tl.map dimOf) ≤ d := h1
        rw [HP.out] at h2
        omega
       have q0_0 := hH.cl 0 0 rfl rfl; have q0_1 := hH.cl 0 1 rfl rfl; have q0_2 := hH.cl 0 2 rfl rfl; have q0_3 := hH.cl 0 3 rfl rfl; have q0_4 := hH.cl 0 4 rfl rfl; have l0_ := hH.bl 0 rfl; have q3_0 := hH.cl 3 0 rfl rfl; have q3_1 := hH.cl 3 1 rfl rfl; have q3_2 := hH.cl 3 2 rfl rfl; have q3_3 := hH.cl 3 3 rfl rfl; have q3_4 := hH.cl 3 4 rfl rfl; have l3_ := hH.bl 3 rfl; have c_kr_0 := hH.ext.cell kr_0; have c_kr_1 := hH.ext.cell kr_1; have c_kr_2 := hH.ext.cell kr_2
       have c_kr_l := Nat.lt_of_lt_of_le kr_l hH.ext.size
       go_upto_region 25 with fail
       clear q0_0 q0_1 q0_2 q0_3 q0_4 l0_ q3_0 q3_1 q3_2 q3_3 q3_4 l3_ c_kr_0 c_kr_1 c_kr_2 c_kr_l
       clear hv0 hv1 hv2
       have hB : Held wN (wv.alloc (.cells #[.slice e1 m1 f1, .slice e2 m2 f2, .slice e3 m3 f3] 32)) [aB (wN.heap.size) 29 [.int .i64 k, .int .i64 p, .int .i64 n, .slice aV m cV, .slice aO op.length cO], aSt (.slice ao os.length co) os, aI (.slice (some ⟨bC, oC, none⟩) os.length ccs) CS, aB (wn6.heap.size) 29 [.int .i64 k, .int .i64 p, .int .i64 n, .slice (some ⟨bK, oK, none⟩) mj cK, .slice aP op.length cP], aT (.agg #[.slice p1a5 n1a5 c1a5, .slice p2a5 n2a5 c2a5, .slice p3a5 n3a5 c3a5]) op (op.map dimOf) (flat RX), aB (wv.heap.size) 32 [.slice e1 m1 f1, .slice e2 m2 f2, .slice e3 m3 f3]] := by
        have h := (hH.mores 1).addB 5 #[.slice e1 m1 f1, .slice e2 m2 f2, .slice e3 m3 f3] 32
        exact h
       have hTTB : TensS (wv.alloc (.cells #[.slice e1 m1 f1, .slice e2 m2 f2, .slice e3 m3 f3] 32)) (.slice (some ⟨bK, oK, none⟩) mj cK) (tj.map (tenOf dimOf)) := hTT.ext ((Ext.refl _).alloc _)
       have hTuB : TenS (wv.alloc (.cells #[.slice e1 m1 f1, .slice e2 m2 f2, .slice e3 m3 f3] 32)) (.agg #[.slice e1 m1 f1, .slice e2 m2 f2, .slice e3 m3 f3]) tl (tl.map dimOf) (flat xs) := hTu.ext ((Ext.refl _).alloc _)
       have hsz : (wv.alloc (.cells #[.slice e1 m1 f1, .slice e2 m2 f2, .slice e3 m3 f3] 32)).heap.size = wv.heap.size + 1 := by simp
       generalize wv.alloc (.cells #[.slice e1 m1 f1, .slice e2 m2 f2, .slice e3 m3 f3] 32) = wn10 at hB hsz hTTB hTuB ⊢
       replace hH := hB; have HSZwn10 := Lib.hid hsz; clear hB hsz; replace hTT := hTTB; clear hTTB; replace hTu := hTuB; clear hTuB
       obtain ⟨wt, rfl⟩ : ∃ q, q = wn10 := ⟨wn10, rfl⟩
       replace hH := hH.mores 1
       replace hH : Held wN wt [aB (wN.heap.size) 29 [.int .i64 k, .int .i64 p, .int .i64 n, .slice aV m cV, .slice aO op.length cO], aSt (.slice ao os.length co) os, aI (.slice (some ⟨bC, oC, none⟩) os.length ccs) CS, aB (wn6.heap.size) 29 [.int .i64 k, .int .i64 p, .int .i64 n, .slice (some ⟨bK, oK, none⟩) mj cK, .slice aP op.length cP], aT (.agg #[.slice p1a5 n1a5 c1a5, .slice p2a5 n2a5 c2a5, .slice p3a5 n3a5 c3a5]) op (op.map dimOf) (flat RX), aB (wv.heap.size) 32 [.slice e1 m1 f1, .slice e2 m2 f2, .slice e3 m3 f3], emp] := hH
       refine wp_region_steps ?Fc (fun b t wx => Held wN wx [aB (wN.heap.size) 29 [.int .i64 k, .int .i64 p, .int .i64 n, .slice aV m cV, .slice aO op.length cO], aSt (.slice ao os.length co) os, aI (.slice (some ⟨bC, oC, none⟩) os.length ccs) CS, aB (wn6.heap.size) 29 [.int .i64 k, .int .i64 p, .int .i64 n, .slice (some ⟨bK, oK, none⟩) mj cK, .slice aP op.length cP], aT (.agg #[.slice p1a5 n1a5 c1a5, .slice p2a5 n2a5 c2a5, .slice p3a5 n3a5 c3a5]) op (op.map dimOf) (flat RX), aB (wv.heap.size) 32 [.slice e1 m1 f1, .slice e2 m2 f2, .slice e3 m3 f3], (bif b 6 then aI (t 6) tl else emp)] ∧ TensS wx (.slice (some ⟨bK, oK, none⟩) mj cK) (tj.map (tenOf dimOf)) ∧ TenS wx (.agg #[.slice e1 m1 f1, .slice e2 m2 f2, .slice e3 m3 f3]) tl (tl.map dimOf) (flat xs) ∧ (b 0 = true → t 0 = .pointer (some ⟨wv.heap.size, 0, none⟩)) ∧ (b 1 = true → t 1 = .slice e1 m1 f1) ∧ (b 2 = true → t 2 = .agg #[.int .i64 k, .int .i64 p, .int .i64 n, .slice aV m cV, .slice aO op.length cO]) ∧ (b 3 = true → t 3 = .slice ao os.length co) ∧ (b 4 = true → t 4 = .int .i64 (j : Int)) ∧ (b 5 = true → t 5 = .int .i64 (j1 : Int)) ∧ (b 6 = true → ∃ x c, t 6 = .slice x tl.length c) ∧ (b 7 = true → t 7 = .bool true) ∧ (b 8 = true → t 8 = .bool false) ∧ (b 9 = true → t 9 = .bool false) ∧ (b 10 = true → t 10 = .slice (some ⟨bC, oC, none⟩) os.length ccs) ∧ (b 11 = true → t 11 = .int .i64 (j : Int)) ∧ (b 12 = true → t 12 = .int .i64 (j1 : Int)) ∧ (b 13 = true → t 13 = .pointer (some ⟨bC, oC + j1, none⟩)) ∧ (b 14 = true → t 14 = .int .i64 d) ∧ (b 15 = true → t 15 = .agg #[.slice e1 m1 f1, .slice e2 m2 f2, .slice e3 m3 f3]) ∧ (b 16 = true → t 16 = .int .i64 P) ∧ (b 17 = true → t 17 = .bool false) ∧ (b 18 = true → t 18 = .bool false)) ?hFc (by kernel_rfl) (by kernel_rfl) ?hJc ?hSc ?hEc
       (case hFc => intro t; simp only [putAll, Act.put, List.setIfInBounds_toArray, List.set_cons_zero, List.set_cons_succ, Nat.reduceAdd, Nat.zero_add]; exact rfl)
       case hJc => exact ⟨hH.grow ((Ext.refl _).drew), hTT.ext ((Ext.refl _).drew), hTu.ext ((Ext.refl _).drew), fun h => absurd h Bool.false_ne_true, fun h => absurd h Bool.false_ne_true, fun h => absurd h Bool.false_ne_true, fun h => absurd h Bool.false_ne_true, fun h => absurd h Bool.false_ne_true, fun h => absurd h Bool.false_ne_true, fun h => absurd h Bool.false_ne_true, fun h => absurd h Bool.false_ne_true, fun h => absurd h Bool.false_ne_true, fun h => absurd h Bool.false_ne_true, fun h => absurd h Bool.false_ne_true, fun h => absurd h Bool.false_ne_true, fun h => absurd h Bool.false_ne_true, fun h => absurd h Bool.false_ne_true, fun h => absurd h Bool.false_ne_true, fun h => absurd h Bool.false_ne_true, fun h => absurd h Bool.false_ne_true, fun h => absurd h Bool.false_ne_true, fun h => absurd h Bool.false_ne_true⟩
       case hSc => as_aux_lemma =>
         refine AllSteps.cons (j := 1) rfl (fun b t wx hJ hb hd hcl Kc hK => ?_) ?_
         · obtain ⟨hH, hTT, hTu, v0, v1, v2, v3, v4, v5, v6, v7, v8, v9, v10, v11, v12, v13, v14, v15, v16, v17, v18⟩ := hJ
           go_simp
           refine hK.out _ ?_ _ ?_ ?_; rotate_left 2
           · rfl
           exact ⟨hH, hTT, hTu, fun _ => rfl, v1, v2, v3, v4, v5, v6, v7, v8, v9, v10, v11, v12, v13, v14, v15, v16, v17, v18⟩
         refine AllSteps.cons (j := 2) rfl (fun b t wx hJ hb hd hcl Kc hK => ?_) ?_
         · obtain ⟨hH, hTT, hTu, v0, v1, v2, v3, v4, v5, v6, v7, v8, v9, v10, v11, v12, v13, v14, v15, v16, v17, v18⟩ := hJ
           have d0 := hd.out 0 (by kernel_rfl); have r0 := v0 d0; have q5_0 := hH.cl 5 0 rfl rfl
           go_simp
           refine hK.out _ ?_ _ ?_ ?_; rotate_left 2
           · (try simp only [r0]); rfl
           exact ⟨hH, hTT, hTu, v0, fun _ => rfl, v2, v3, v4, v5, v6, v7, v8, v9, v10, v11, v12, v13, v14, v15, v16, v17, v18⟩
         refine AllSteps.cons (j := 3) rfl (fun b t wx hJ hb hd hcl Kc hK => ?_) ?_
         · obtain ⟨hH, hTT, hTu, v0, v1, v2, v3, v4, v5, v6, v7, v8, v9, v10, v11, v12, v13, v14, v15, v16, v17, v18⟩ := hJ
           have q0_0 := hH.cl 0 0 rfl rfl; have q0_1 := hH.cl 0 1 rfl rfl; have q0_2 := hH.cl 0 2 rfl rfl; have q0_3 := hH.cl 0 3 rfl rfl; have q0_4 := hH.cl 0 4 rfl rfl
           go_simp
           refine hK.out _ ?_ _ ?_ ?_; rotate_left 2
           · rfl
           exact ⟨hH, hTT, hTu, v0, v1, fun _ => rfl, v3, v4, v5, v6, v7, v8, v9, v10, v11, v12, v13, v14, v15, v16, v17, v18⟩
         refine AllSteps.cons (j := 4) rfl (fun b t wx hJ hb hd hcl Kc hK => ?_) ?_
         · obtain ⟨hH, hTT, hTu, v0, v1, v2, v3, v4, v5, v6, v7, v8, v9, v10, v11, v12, v13, v14, v15, v16, v17, v18⟩ := hJ
           go_simp
           refine hK.out _ ?_ _ ?_ ?_; rotate_left 2
           · rfl
           exact ⟨hH, hTT, hTu, v0, v1, v2, fun _ => rfl, v4, v5, v6, v7, v8, v9, v10, v11, v12, v13, v14, v15, v16, v17, v18⟩
         refine AllSteps.cons (j := 5) rfl (fun b t wx hJ hb hd hcl Kc hK => ?_) ?_
         · obtain ⟨hH, hTT, hTu, v0, v1, v2, v3, v4, v5, v6, v7, v8, v9, v10, v11, v12, v13, v14, v15, v16, v17, v18⟩ := hJ
           go_simp
           refine hK.out _ ?_ _ ?_ ?_; rotate_left 2
           · rfl
           exact ⟨hH, hTT, hTu, v0, v1, v2, v3, fun _ => rfl, v5, v6, v7, v8, v9, v10, v11, v12, v13, v14, v15, v16, v17, v18⟩
         refine AllSteps.cons (j := 6) rfl (fun b t wx hJ hb hd hcl Kc hK => ?_) ?_
         · obtain ⟨hH, hTT, hTu, v0, v1, v2, v3, v4, v5, v6, v7, v8, v9, v10, v11, v12, v13, v14, v15, v16, v17, v18⟩ := hJ
           have d4 := hd.out 4 (by kernel_rfl); have r4 := v4 d4
           go_simp
           refine hK.out _ ?_ _ ?_ ?_; rotate_left 2
           · (try simp only [r4]); rfl
           exact ⟨hH, hTT, hTu, v0, v1, v2, v3, v4, fun _ => rfl, v6, v7, v8, v9, v10, v11, v12, v13, v14, v15, v16, v17, v18⟩
         refine AllSteps.cons (j := 7) rfl (fun b t wx hJ hb hd hcl Kc hK => ?_) ?_
         · obtain ⟨hH, hTT, hTu, v0, v1, v2, v3, v4, v5, v6, v7, v8, v9, v10, v11, v12, v13, v14, v15, v16, v17, v18⟩ := hJ
           have d2 := hd.out 2 (by kernel_rfl); have d3 := hd.out 3 (by kernel_rfl); have d5 := hd.out 5 (by kernel_rfl); have r2 := v2 d2; have r3 := v3 d3; have r5 := v5 d5
           have hN := hH; (try simp only [hb, d2, d3, d5, cond_true, cond_false] at hN)
           go_simp
           go_at_call 55
           refine (stepLabels_any HR.out HN.out _ _ _ (hT0.ext hH.ext) (hO.ext hH.ext) HOK.out HOL.out _ (hH.steps (k := 1) rfl) j1 hj1o).mono ?_; rintro e6 w6 ⟨u6, rfl, o6, h6⟩
           rw [HLS.out] at o6
           obtain ⟨x6, c6, rfl⟩ := o6.shape1 tl.length rfl
           (try go_simp)
           refine hK.out _ ?_ _ ?_ ?_; rotate_left 2
           · (try simp only [r2, r3, r5]); rfl
           exact ⟨by have hX := hN.addI 6 h6 o6 (Nat.le_refl _); simpa only [List.set_cons_zero, List.set_cons_succ, updB, updV, blkOf_mk, tup0_mk, partsOf3, Nat.reduceBEq, cond_true, cond_false, hb, d2, d3, d5, r2, r3, r5] using hX, hTT.ext h6, hTu.ext h6, v0, v1, v2, v3, v4, v5, fun _ => ⟨_, _, rfl⟩, v7, v8, v9, v10, v11, v12, v13, v14, v15, v16, v17, v18⟩
         refine AllSteps.cons (j := 8) rfl (fun b t wx hJ hb hd hcl Kc hK => ?_) ?_
         · obtain ⟨hH, hTT, hTu, v0, v1, v2, v3, v4, v5, v6, v7, v8, v9, v10, v11, v12, v13, v14, v15, v16, v17, v18⟩ := hJ
           have d1 := hd.out 1 (by kernel_rfl); have d6 := hd.out 6 (by kernel_rfl); have r1 := v1 d1; have r6 := v6 d6
           obtain ⟨x_6, c_6, r6⟩ := r6
           have hN := hH; (try simp only [hb, d1, d6, cond_true, cond_false] at hN)
           go_simp
           go_at_call 32
           refine (ints_sameO _ _ tl tl _ (by obtain ⟨_, _, _, hvv, h, _, _⟩ := hTu.val; simp at hvv; obtain ⟨rfl, rfl, rfl⟩ := hvv; exact h) (by have h := hN.ints (k := 6) rfl; rw [r6] at h; exact h) rfl).mono ?_; rintro e7 w7 ⟨rfl, h7⟩
           (try go_simp)
           refine hK.out _ ?_ _ ?_ ?_; rotate_left 2
           · (try simp only [r1, r6]); rfl
           exact ⟨by have hX := hH.grow h7; simpa only [List.set_cons_zero, List.set_cons_succ, updB, updV, blkOf_mk, tup0_mk, partsOf3, Nat.reduceBEq, cond_true, cond_false, hb, d1, d6, r1, r6] using hX, hTT.ext h7, hTu.ext h7, v0, v1, v2, v3, v4, v5, v6, fun _ => rfl, v8, v9, v10, v11, v12, v13, v14, v15, v16, v17, v18⟩
         refine AllSteps.cons (j := 9) rfl (fun b t wx hJ hb hd hcl Kc hK => ?_) ?_
         · obtain ⟨hH, hTT, hTu, v0, v1, v2, v3, v4, v5, v6, v7, v8, v9, v10, v11, v12, v13, v14, v15, v16, v17, v18⟩ := hJ
           have d7 := hd.out 7 (by kernel_rfl); have r7 := v7 d7
           go_simp
           refine hK.out _ ?_ _ ?_ ?_; rotate_left 2
           · (try simp only [r7]); rfl
           exact ⟨hH, hTT, hTu, v0, v1, v2, v3, v4, v5, v6, v7, fun _ => rfl, v9, v10, v11, v12, v13, v14, v15, v16, v17, v18⟩
         refine AllSteps.cons (j := 10) rfl (fun b t wx hJ hb hd hcl Kc hK => ?_) ?_
         · obtain ⟨hH, hTT, hTu, v0, v1, v2, v3, v4, v5, v6, v7, v8, v9, v10, v11, v12, v13, v14, v15, v16, v17, v18⟩ := hJ
           have d7 := hd.out 7 (by kernel_rfl); have d8 := hd.out 8 (by kernel_rfl); have r7 := v7 d7; have r8 := v8 d8
           go_simp
           refine hK.out _ ?_ _ ?_ ?_; rotate_left 2
           · (try simp only [r7, r8]); rfl
           exact ⟨hH, hTT, hTu, v0, v1, v2, v3, v4, v5, v6, v7, v8, fun _ => rfl, v10, v11, v12, v13, v14, v15, v16, v17, v18⟩
         refine AllSteps.cons (j := 11) rfl (fun b t wx hJ hb hd hcl Kc hK => ?_) ?_
         · obtain ⟨hH, hTT, hTu, v0, v1, v2, v3, v4, v5, v6, v7, v8, v9, v10, v11, v12, v13, v14, v15, v16, v17, v18⟩ := hJ
           have d9 := hd.out 9 (by kernel_rfl); have r9 := v9 d9
           go_simp
           refine hK.out _ ?_ _ ?_ ?_; rotate_left 2
           · (try simp only [r9]); rfl
           exact ⟨hH, hTT, hTu, v0, v1, v2, v3, v4, v5, v6, v7, v8, v9, fun _ => rfl, v11, v12, v13, v14, v15, v16, v17, v18⟩
         refine AllSteps.cons (j := 12) rfl (fun b t wx hJ hb hd hcl Kc hK => ?_) ?_
         · obtain ⟨hH, hTT, hTu, v0, v1, v2, v3, v4, v5, v6, v7, v8, v9, v10, v11, v12, v13, v14, v15, v16, v17, v18⟩ := hJ
           have d9 := hd.out 9 (by kernel_rfl); have r9 := v9 d9
           go_simp
           refine hK.out _ ?_ _ ?_ ?_; rotate_left 2
           · (try simp only [r9]); rfl
           exact ⟨hH, hTT, hTu, v0, v1, v2, v3, v4, v5, v6, v7, v8, v9, v10, fun _ => rfl, v12, v13, v14, v15, v16, v17, v18⟩
         refine AllSteps.cons (j := 13) rfl (fun b t wx hJ hb hd hcl Kc hK => ?_) ?_
         · obtain ⟨hH, hTT, hTu, v0, v1, v2, v3, v4, v5, v6, v7, v8, v9, v10, v11, v12, v13, v14, v15, v16, v17, v18⟩ := hJ
           have d9 := hd.out 9 (by kernel_rfl); have d11 := hd.out 11 (by kernel_rfl); have r9 := v9 d9; have r11 := v11 d11
           go_simp
           refine hK.out _ ?_ _ ?_ ?_; rotate_left 2
           · (try simp only [r9, r11]); rfl
           exact ⟨hH, hTT, hTu, v0, v1, v2, v3, v4, v5, v6, v7, v8, v9, v10, v11, fun _ => rfl, v13, v14, v15, v16, v17, v18⟩
         refine AllSteps.cons (j := 14) rfl (fun b t wx hJ hb hd hcl Kc hK => ?_) ?_
         · obtain ⟨hH, hTT, hTu, v0, v1, v2, v3, v4, v5, v6, v7, v8, v9, v10, v11, v12, v13, v14, v15, v16, v17, v18⟩ := hJ
           have d9 := hd.out 9 (by kernel_rfl); have d10 := hd.out 10 (by kernel_rfl); have d12 := hd.out 12 (by kernel_rfl); have r9 := v9 d9; have r10 := v10 d10; have r12 := v12 d12
           go_simp
           refine hK.out _ ?_ _ ?_ ?_; rotate_left 2
           · (try simp only [r9, r10, r12]); rfl
           exact ⟨hH, hTT, hTu, v0, v1, v2, v3, v4, v5, v6, v7, v8, v9, v10, v11, v12, fun _ => rfl, v14, v15, v16, v17, v18⟩
         refine AllSteps.cons (j := 15) rfl (fun b t wx hJ hb hd hcl Kc hK => ?_) ?_
         · obtain ⟨hH, hTT, hTu, v0, v1, v2, v3, v4, v5, v6, v7, v8, v9, v10, v11, v12, v13, v14, v15, v16, v17, v18⟩ := hJ
           have d9 := hd.out 9 (by kernel_rfl); have d13 := hd.out 13 (by kernel_rfl); have r9 := v9 d9; have r13 := v13 d13
           obtain ⟨bC2, oC2, dd, hV2, hcd2, hxd2, _⟩ := (hH.ints (k := 2) rfl).get (i := j1) (by rw [HCL.out]; exact hj1o)
           cases hV2
           have hdd : dd = d := by have h := HCG.out j1 hj1o; rw [HDC.out, hxd2] at h; exact Option.some.inj h
           subst hdd
           clear hxd2
           go_simp
           refine hK.out _ ?_ _ ?_ ?_; rotate_left 2
           · (try simp only [r9, r13]); rfl
           exact ⟨hH, hTT, hTu, v0, v1, v2, v3, v4, v5, v6, v7, v8, v9, v10, v11, v12, v13, fun _ => rfl, v15, v16, v17, v18⟩
         refine AllSteps.cons (j := 16) rfl (fun b t wx hJ hb hd hcl Kc hK => ?_) ?_
         · obtain ⟨hH, hTT, hTu, v0, v1, v2, v3, v4, v5, v6, v7, v8, v9, v10, v11, v12, v13, v14, v15, v16, v17, v18⟩ := hJ
           have d9 := hd.out 9 (by kernel_rfl); have r9 := v9 d9; have q5_0 := hH.cl 5 0 rfl rfl; have q5_1 := hH.cl 5 1 rfl rfl; have q5_2 := hH.cl 5 2 rfl rfl
           go_simp
           refine hK.out _ ?_ _ ?_ ?_; rotate_left 2
           · (try simp only [r9]); rfl
           exact ⟨hH, hTT, hTu, v0, v1, v2, v3, v4, v5, v6, v7, v8, v9, v10, v11, v12, v13, v14, fun _ => rfl, v16, v17, v18⟩
         refine AllSteps.cons (j := 17) rfl (fun b t wx hJ hb hd hcl Kc hK => ?_) ?_
         · obtain ⟨hH, hTT, hTu, v0, v1, v2, v3, v4, v5, v6, v7, v8, v9, v10, v11, v12, v13, v14, v15, v16, v17, v18⟩ := hJ
           have d9 := hd.out 9 (by kernel_rfl); have d15 := hd.out 15 (by kernel_rfl); have r9 := v9 d9; have r15 := v15 d15
           go_simp
           go_at_call 27
           refine (tensorSize_impl _ tl (tl.map dimOf) (flat xs) _ hTu).mono ?_; rintro e16 w16 ⟨rfl, h16⟩
           rw [HTS.out]
           (try go_simp)
           refine hK.out _ ?_ _ ?_ ?_; rotate_left 2
           · (try simp only [r9, r15]); rfl
           exact ⟨by have hX := hH.grow h16; simpa only [List.set_cons_zero, List.set_cons_succ, updB, updV, blkOf_mk, tup0_mk, partsOf3, Nat.reduceBEq, cond_true, cond_false, hb, d9, d15, r9, r15] using hX, hTT.ext h16, hTu.ext h16, v0, v1, v2, v3, v4, v5, v6, v7, v8, v9, v10, v11, v12, v13, v14, v15, fun _ => rfl, v17, v18⟩
         refine AllSteps.cons (j := 18) rfl (fun b t wx hJ hb hd hcl Kc hK => ?_) ?_
         · obtain ⟨hH, hTT, hTu, v0, v1, v2, v3, v4, v5, v6, v7, v8, v9, v10, v11, v12, v13, v14, v15, v16, v17, v18⟩ := hJ
           have d9 := hd.out 9 (by kernel_rfl); have d14 := hd.out 14 (by kernel_rfl); have d16 := hd.out 16 (by kernel_rfl); have r9 := v9 d9; have r14 := v14 d14; have r16 := v16 d16
           go_simp
           refine hK.out _ ?_ _ ?_ ?_; rotate_left 2
           · (try simp only [r9, r14, r16]); rfl
           exact ⟨hH, hTT, hTu, v0, v1, v2, v3, v4, v5, v6, v7, v8, v9, v10, v11, v12, v13, v14, v15, v16, fun _ => rfl, v18⟩
         refine AllSteps.cons (j := 19) rfl (fun b t wx hJ hb hd hcl Kc hK => ?_) ?_
         · obtain ⟨hH, hTT, hTu, v0, v1, v2, v3, v4, v5, v6, v7, v8, v9, v10, v11, v12, v13, v14, v15, v16, v17, v18⟩ := hJ
           have d9 := hd.out 9 (by kernel_rfl); have d17 := hd.out 17 (by kernel_rfl); have r9 := v9 d9; have r17 := v17 d17
           go_simp
           refine hK.out _ ?_ _ ?_ ?_; rotate_left 2
           · (try simp only [r9, r17]); rfl
           exact ⟨hH, hTT, hTu, v0, v1, v2, v3, v4, v5, v6, v7, v8, v9, v10, v11, v12, v13, v14, v15, v16, v17, fun _ => rfl⟩
         exact AllSteps.nil
       case hEc =>
        intro b t wc hJ hall
        obtain ⟨hHc, hTTc, hTuc, v0, v1, v2, v3, v4, v5, v6, v7, v8, v9, v10, v11, v12, v13, v14, v15, v16, v17, v18⟩ := hJ
        have a0 := hall 0 (by decide); have a1 := hall 1 (by decide); have a2 := hall 2 (by decide); have a3 := hall 3 (by decide); have a4 := hall 4 (by decide); have a5 := hall 5 (by decide); have a6 := hall 6 (by decide); have a7 := hall 7 (by decide); have a8 := hall 8 (by decide); have a9 := hall 9 (by decide); have a10 := hall 10 (by decide); have a11 := hall 11 (by decide); have a12 := hall 12 (by decide); have a13 := hall 13 (by decide); have a14 := hall 14 (by decide); have a15 := hall 15 (by decide); have a16 := hall 16 (by decide); have a17 := hall 17 (by decide); have a18 := hall 18 (by decide)
        (try simp only [a0, a1, a2, a3, a4, a5, a6, a7, a8, a9, a10, a11, a12, a13, a14, a15, a16, a17, a18, cond_true] at hHc)
        replace v0 := v0 a0; replace v1 := v1 a1; replace v2 := v2 a2; replace v3 := v3 a3; replace v4 := v4 a4; replace v5 := v5 a5; replace v6 := v6 a6; replace v7 := v7 a7; replace v8 := v8 a8; replace v9 := v9 a9; replace v10 := v10 a10; replace v11 := v11 a11; replace v12 := v12 a12; replace v13 := v13 a13; replace v14 := v14 a14; replace v15 := v15 a15; replace v16 := v16 a16; replace v17 := v17 a17; replace v18 := v18 a18
        clear hall a0 a1 a2 a3 a4 a5 a6 a7 a8 a9 a10 a11 a12 a13 a14 a15 a16 a17 a18
        generalize t 18 = x18 at hHc v18 ⊢; generalize t 17 = x17 at hHc v17 ⊢; generalize t 16 = x16 at hHc v16 ⊢; generalize t 15 = x15 at hHc v15 ⊢; generalize t 14 = x14 at hHc v14 ⊢; generalize t 13 = x13 at hHc v13 ⊢; generalize t 12 = x12 at hHc v12 ⊢; generalize t 11 = x11 at hHc v11 ⊢; generalize t 10 = x10 at hHc v10 ⊢; generalize t 9 = x9 at hHc v9 ⊢; generalize t 8 = x8 at hHc v8 ⊢; generalize t 7 = x7 at hHc v7 ⊢; generalize t 6 = x6 at hHc v6 ⊢; generalize t 5 = x5 at hHc v5 ⊢; generalize t 4 = x4 at hHc v4 ⊢; generalize t 3 = x3 at hHc v3 ⊢; generalize t 2 = x2 at hHc v2 ⊢; generalize t 1 = x1 at hHc v1 ⊢; generalize t 0 = x0 at hHc v0 ⊢; subst v0; subst v1; subst v2; subst v3; subst v4; subst v5
        obtain ⟨xc6, cc6, rfl⟩ := v6
        subst v7; subst v8; subst v9; subst v10; subst v11; subst v12; subst v13; subst v14; subst v15; subst v16; subst v17; subst v18
        clear b
        replace hH := hHc; clear hHc
        replace hH : Held wN wc [aB (wN.heap.size) 29 [.int .i64 k, .int .i64 p, .int .i64 n, .slice aV m cV, .slice aO op.length cO], aSt (.slice ao os.length co) os, aI (.slice (some ⟨bC, oC, none⟩) os.length ccs) CS, aB (wn6.heap.size) 29 [.int .i64 k, .int .i64 p, .int .i64 n, .slice (some ⟨bK, oK, none⟩) mj cK, .slice aP op.length cP], aT (.agg #[.slice p1a5 n1a5 c1a5, .slice p2a5 n2a5 c2a5, .slice p3a5 n3a5 c3a5]) op (op.map dimOf) (flat RX), aB (wv.heap.size) 32 [.slice e1 m1 f1, .slice e2 m2 f2, .slice e3 m3 f3], aI (.slice xc6 tl.length cc6) tl] := hH
        clear hTTc hTuc
        have HHS := Lib.hid (hH.sub (L' := [aB (wN.heap.size) 29 [.int .i64 k, .int .i64 p, .int .i64 n, .slice aV m cV, .slice aO op.length cO], aSt (.slice ao os.length co) os, aI (.slice (some ⟨bC, oC, none⟩) os.length ccs) CS]) (.cons_cons _ (.cons_cons _ (.cons_cons _ (.cons _ (.cons _ (.cons _ (.cons _ .slnil)))))))); clear hH
        go_wp2_with fail
        go_roundw
        case rel => exact ⟨j + 1, z2, y2, by omega, by go_num, rfl, rfl, HST, HPJ, HHS.out⟩
        case measure => simp [RowKit.intOf]; omega
  ·
   have hje : j = os.length + 1 := by omega
   have HZE : Hid (CS.sum = z) := Lib.hid (by rw [← HZ.out, show j - 1 = os.length by omega, List.take_of_length_le (by rw [HCL.out]; exact Nat.le_refl _)])
   have HYE : Hid (peakAt HR.out dimOf op (numL m) (m : Int) ts os os.length = y) := Lib.hid (by rw [← HPKE.out, ← hje]; exact HY.out)
   have hltI : ¬ (j : Int) ≤ (os.length : Int) := by omega
   clear hje
   have q0_0 := hH.cl 0 0 rfl rfl; have q0_1 := hH.cl 0 1 rfl rfl; have q0_2 := hH.cl 0 2 rfl rfl; have q0_3 := hH.cl 0 3 rfl rfl; have q0_4 := hH.cl 0 4 rfl rfl; have l0_ := hH.bl 0 rfl; have c_kr_0 := hH.ext.cell kr_0; have c_kr_1 := hH.ext.cell kr_1; have c_kr_2 := hH.ext.cell kr_2
   have c_kr_l := Nat.lt_of_lt_of_le kr_l hH.ext.size
   go_wp2_with fail
   clear q0_0 q0_1 q0_2 q0_3 q0_4 l0_ c_kr_0 c_kr_1 c_kr_2 c_kr_l
   refine (orderCost_any HR.out HN.out _ _ _ (hT0.ext hH.ext) (hO.ext hH.ext) HOK.out HOL.out _ (hH.steps (k := 1) rfl)).mono ?_; rintro ewn11 wn11 ⟨rfl, hwn11⟩
   rw [HCS.out, HZE.out]
   replace hH : Held wN wn11 [aB (wN.heap.size) 29 [.int .i64 k, .int .i64 p, .int .i64 n, .slice aV m cV, .slice aO op.length cO], aSt (.slice ao os.length co) os, aI (.slice acs os.length ccs) CS] := hH.grow hwn11
   clear hwn11
   have q0_0 := hH.cl 0 0 rfl rfl; have q0_1 := hH.cl 0 1 rfl rfl; have q0_2 := hH.cl 0 2 rfl rfl; have q0_3 := hH.cl 0 3 rfl rfl; have q0_4 := hH.cl 0 4 rfl rfl; have l0_ := hH.bl 0 rfl; have c_kr_0 := hH.ext.cell kr_0; have c_kr_1 := hH.ext.cell kr_1; have c_kr_2 := hH.ext.cell kr_2
   have c_kr_l := Nat.lt_of_lt_of_le kr_l hH.ext.size
   go_wp2_with fail
   clear q0_0 q0_1 q0_2 q0_3 q0_4 l0_ c_kr_0 c_kr_1 c_kr_2 c_kr_l
   refine (orderPeak_any HR.out HN.out _ _ _ (hT0.ext hH.ext) (hO.ext hH.ext) HOK.out HOL.out _ (hH.steps (k := 1) rfl)).mono ?_; rintro ewn12 wn12 ⟨rfl, hwn12⟩
   rw [HM.out, HYE.out]
   replace hH : Held wN wn12 [aB (wN.heap.size) 29 [.int .i64 k, .int .i64 p, .int .i64 n, .slice aV m cV, .slice aO op.length cO], aSt (.slice ao os.length co) os, aI (.slice acs os.length ccs) CS] := hH.grow hwn12
   clear hwn12
   have HE := Lib.hid (E0.trans hH.ext); clear hH
   go_wp2
   go_ret
   exact ⟨rfl, HE.out⟩
end Go.Proofs.Ytpegckmagiaggaa
