/- The law 'FnSetLabels', walked. -/
import Derived.Test.YtpegckmagiaggaaBBase
import Derived.Test.YtpegckmagiaggaaBSetW
import Derived.Test.YtpegckmagiaggaaBDrawS
namespace Go.Proofs.Ytpegckmagiaggaa
open Go.RowKit
set_option linter.unusedSimpArgs false
set_option linter.unusedVariables false
theorem lawsIn_any (v : Value) (l : List Int) (x : Int) (w : World) (hl : IntS w v l) : Calls Try.prog 22 #[v, .int .i64 x] w fun e w' =>
    e = .returned (.bool (hasL l x)) ∧ w = w' := by
  obtain ⟨a, cap, rfl, hc1, hc2⟩ := hl.val
  go_enter Try.func22, Try.ntmps22
  go_wp2
  go_loop [9] (fun i => ∃ j : Nat, j ≤ l.length ∧ i = .int .i64 j ∧ hasL (l.drop j) x = hasL l x) (fun i => l.length - (RowKit.intOf i).toNat)
  case atStart => exact ⟨0, Nat.zero_le _, rfl, rfl⟩
  case round =>
    obtain ⟨j, hj, rfl, hq⟩ := hrel
    by_cases hlt : j < l.length
    · obtain ⟨b, off, y, rfl, hcell, _, hd⟩ := hl.get hlt
      rw [hd, hasL_cons] at hq
      have HQ := Lib.hid hq; clear hq hd
      by_cases e : x = y
      · subst e
        go_wp2
        go_ret
        exact ⟨ret_bool (by rw [← HQ.out]; simp), rfl⟩
      · have e2 : (x == y) = false := by rw [beq_eq_false_iff_ne]; exact e
        have e3 : ¬ y = x := fun h => e h.symm
        go_wp2
        go_round
        case rel => exact ⟨j + 1, by omega, by go_num, by rw [← HQ.out, e2]; rfl⟩
        case measure => simp [RowKit.intOf]; omega
    · have : j = l.length := by omega
      subst this
      have HQ := Lib.hid hq; clear hq
      go_wp2
      go_ret
      exact ⟨ret_bool (by rw [← HQ.out, drop_len]; rfl), rfl⟩
theorem filterMap_eq {α : Type} {f g : Nat → Option α} : ∀ {l : List Nat}, (∀ x ∈ l, f x = g x) → l.filterMap f = l.filterMap g
  | [], _ => rfl
  | x :: l, h => by rw [List.filterMap_cons, List.filterMap_cons, h x (by simp), filterMap_eq fun y hy => h y (by simp [hy])]
/-- The numbers whose bit is set. -/
def bitsL (s j : Nat) : List Int := ((List.range j).filter fun i => s.testBit i).map fun i : Nat => (i : Int)
theorem bitsL_yes {s j : Nat} (h : s.testBit j = true) : bitsL s (j + 1) = bitsL s j ++ [(j : Int)] := by
  unfold bitsL
  rw [List.range_succ, List.filter_append, List.map_append]
  simp [h]
theorem bitsL_no {s j : Nat} (h : s.testBit j = false) : bitsL s (j + 1) = bitsL s j := by
  unfold bitsL
  rw [List.range_succ, List.filter_append, List.map_append]
  simp [h]
theorem bitsL_len (s j : Nat) : (bitsL s j).length ≤ j := by
  unfold bitsL
  rw [List.length_map]
  exact Nat.le_trans (List.length_filter_le _ _) (by simp)
theorem bitsL_nodup (s j : Nat) : (bitsL s j).Nodup := by
  unfold bitsL
  exact List.pairwise_map.2 ((List.nodup_range.filter _).imp fun h e => h (by exact_mod_cast e))
theorem mem_bitsL {s j : Nat} {x : Int} : x ∈ bitsL s j ↔ ∃ i : Nat, i < j ∧ s.testBit i = true ∧ x = (i : Int) := by
  unfold bitsL
  rw [List.mem_map]
  constructor
  · rintro ⟨i, hi, rfl⟩
    have := List.mem_filter.1 hi
    exact ⟨i, List.mem_range.1 this.1, this.2, rfl⟩
  · rintro ⟨i, h1, h2, rfl⟩
    exact ⟨i, List.mem_filter.2 ⟨List.mem_range.2 h1, h2⟩, rfl⟩
theorem pick_bits {k p n : Int} (ts : List (NT k p n)) (s m : Nat) : pickN ts (bitsL s m) = bitN ts s m := by
  unfold pickN bitsL bitN
  rw [List.filterMap_map, List.filterMap_filter]
  rfl
theorem rest_bits {k p n : Int} (ts : List (NT k p n)) (s m : Nat) : restN ts (bitsL s m) m = nbitN ts s m := by
  unfold restN nbitN
  refine filterMap_eq fun i hi => ?_
  have e : hasL (bitsL s m) (i : Int) = s.testBit i := by
    rw [Bool.eq_iff_iff, hasL_iff, mem_bitsL]
    constructor
    · rintro ⟨q, _, h, e⟩
      have : q = i := by omega
      rw [← this]; exact h
    · intro h
      exact ⟨i, List.mem_range.1 hi, h, rfl⟩
  rw [e]
set_option maxRecDepth 100000 in
set_option maxHeartbeats 8000000 in
theorem walkFnSetLabels (v : Value) (l : List Int) (w : World) (hl : ByteS w v l) (hall : ∀ x ∈ l, 0 ≤ x ∧ x ≤ 255) :
    Calls Try.prog 4 #[v] w fun e w' => e = .returned (.bool true) ∧ Ext w w' := by
  obtain ⟨ca, cap, rfl, hc1, hc2⟩ := hl.val
  by_cases big : 1048576 < l.length
  · go_enter Try.func4, Try.ntmps4
    go_wp2
    go_ret
    exact ⟨rfl, (by repeat' (first | (with_reducible exact Ext.refl _) | (with_reducible assumption) | (with_reducible apply Ext.alloc) | (with_reducible apply Ext.drew) | (with_reducible apply Ext.drewN) | (refine Ext.setAt ?_ (by omega) _ _) | (refine Ext.trans ?_ (by assumption))))⟩
  have hC : Code w (.slice ca l.length cap) l := ⟨hl, hall, by omega⟩
  clear hall hl
  have hH : Held w w [] := Held.new (Ext.refl w) 0
  go_enter Try.func4, Try.ntmps4
  go_wp2_with fail
  refine (makeRing_any _ l 0 _ (hC.ext hH.ext) (by omega)).mono ?_; rintro ewn1 wn1 ⟨k, p, n, rfl, hd, hwn1⟩
  have HR := Lib.hid (drawn_ok hd); clear hd
  replace hH : Held w wn1 [] := hH.grow hwn1
  clear hwn1
  go_wp2_with fail
  have hB : Held w (wn1.alloc (.cells #[.int .i64 k, .int .i64 p, .int .i64 n] 24)) [aB (wn1.heap.size) 24 [.int .i64 k, .int .i64 p, .int .i64 n]] := by
    have h := (hH.mores 1).addB 0 #[.int .i64 k, .int .i64 p, .int .i64 n] 24
    exact h
  have hsz : (wn1.alloc (.cells #[.int .i64 k, .int .i64 p, .int .i64 n] 24)).heap.size = wn1.heap.size + 1 := by simp
  generalize wn1.alloc (.cells #[.int .i64 k, .int .i64 p, .int .i64 n] 24) = wn2 at hB hsz ⊢
  replace hH := hB; have HSZwn2 := Lib.hid hsz; clear hB hsz
  have q0_0 := (hH.blk (k := 0) rfl).cell (j := 0) rfl
  have q0_1 := (hH.blk (k := 0) rfl).cell (j := 1) rfl
  have q0_2 := (hH.blk (k := 0) rfl).cell (j := 2) rfl
  have l0_ := (hH.blk (k := 0) rfl).lt
  go_wp2_with fail
  clear q0_0 q0_1 q0_2 l0_
  refine (makeNetwork_any _ l 10 k p n 5 HR.out (by omega) (by omega) _ (hC.ext hH.ext) (by omega)).mono ?_; rintro ewN wN ⟨tv, ov, cs, ts, op, rfl, hJ, hN, hmost⟩
  have E0 : Ext w wN := hH.ext.trans hJ.ext
  have hT : TensS wN tv (ts.map (tenOf dimOf)) := hJ.tensS (k := 0) rfl
  have hO : IntS wN ov op := hJ.ints (k := 1) rfl
  have kr_0 := ((hH.grow hJ.ext).blk (k := 0) rfl).cell (j := 0) rfl
  have kr_1 := ((hH.grow hJ.ext).blk (k := 0) rfl).cell (j := 1) rfl
  have kr_2 := ((hH.grow hJ.ext).blk (k := 0) rfl).cell (j := 2) rfl
  have hCN := hC.ext E0
  obtain ⟨m, hm⟩ : ∃ m, ts.length = m := ⟨_, rfl⟩
  obtain ⟨aV, cV, rfl, hcT1, hcT2⟩ := hT.val
  obtain ⟨aO, cO, rfl, hcO1, hcO2⟩ := hO.val
  have hT0 : TensS wN (.slice aV m cV) (ts.map (tenOf dimOf)) := by rw [List.length_map, hm] at hT; exact hT
  rw [List.length_map, hm] at hT hcT1
  rw [List.length_map, hm]
  have hm12 : m ≤ 5 := by rw [← hm]; omega
  have hop12 : op.length ≤ 12 := hN.rank
  have HM := Lib.hid hm; have HN := Lib.hid hN; have HD3 := Lib.hid hN.dims3; clear hm hN hmost hJ hC
  have hTl : Hid ((ts.map (tenOf dimOf)).length = m) := Lib.hid (by rw [List.length_map]; exact HM.out)
  clear hH
  have hC := hCN; clear hCN
  have hH : Held wN wN [] := Held.new (Ext.refl _) 0
  have c_kr_0 := hH.ext.cell kr_0
  have c_kr_1 := hH.ext.cell kr_1
  have c_kr_2 := hH.ext.cell kr_2
  go_wp2_with fail
  clear c_kr_0 c_kr_1 c_kr_2
  have hB : Held wN (wN.alloc (.cells #[.int .i64 k, .int .i64 p, .int .i64 n, .slice aV m cV, .slice aO op.length cO] 29)) [aB (wN.heap.size) 29 [.int .i64 k, .int .i64 p, .int .i64 n, .slice aV m cV, .slice aO op.length cO]] := by
    have h := (hH.mores 1).addB 0 #[.int .i64 k, .int .i64 p, .int .i64 n, .slice aV m cV, .slice aO op.length cO] 29
    exact h
  have hsz : (wN.alloc (.cells #[.int .i64 k, .int .i64 p, .int .i64 n, .slice aV m cV, .slice aO op.length cO] 29)).heap.size = wN.heap.size + 1 := by simp
  generalize wN.alloc (.cells #[.int .i64 k, .int .i64 p, .int .i64 n, .slice aV m cV, .slice aO op.length cO] 29) = wn3 at hB hsz ⊢
  replace hH := hB; have HSZwn3 := Lib.hid hsz; clear hB hsz
  have hw64 : wrap64 ((2 : Int) ^ m) = ((2 ^ m : Nat) : Int) := wrap_pow m (by omega)
  obtain ⟨M, hM⟩ : ∃ M : Nat, 2 ^ m = M := ⟨_, rfl⟩
  have hM1 : 1 ≤ M := by rw [← hM]; exact Nat.one_le_two_pow
  have hM2 : M ≤ 4096 := by rw [← hM]; exact Nat.pow_le_pow_right (n := 2) (by decide) (show m ≤ 12 by omega)
  rw [hM] at hw64
  have HMM := Lib.hid hM; clear hM
  rw [hw64, show wrap64 ((M : Int) - 1) = (M : Int) - 1 by simp only [wrap64]; omega]
  clear hw64
  refine (makeSize_any _ l 100 0 ((M : Int) - 1) _ (hC.ext hH.ext) (by omega) (by omega)).mono ?_; rintro ewn4 wn4 ⟨x, rfl, hx, hwn4⟩
  replace hH : Held wN wn4 [aB (wN.heap.size) 29 [.int .i64 k, .int .i64 p, .int .i64 n, .slice aV m cV, .slice aO op.length cO]] := hH.grow hwn4
  clear hwn4
  obtain ⟨s, rfl⟩ : ∃ q : Nat, x = (q : Int) := ⟨x.toNat, by omega⟩
  have hs : s < M := by omega
  clear hx
  have q0_0 := (hH.blk (k := 0) rfl).cell (j := 0) rfl
  have q0_1 := (hH.blk (k := 0) rfl).cell (j := 1) rfl
  have q0_2 := (hH.blk (k := 0) rfl).cell (j := 2) rfl
  have q0_3 := (hH.blk (k := 0) rfl).cell (j := 3) rfl
  have q0_4 := (hH.blk (k := 0) rfl).cell (j := 4) rfl
  have l0_ := (hH.blk (k := 0) rfl).lt
  have c_kr_0 := hH.ext.cell kr_0
  have c_kr_1 := hH.ext.cell kr_1
  have c_kr_2 := hH.ext.cell kr_2
  go_wp2_with fail
  clear q0_0 q0_1 q0_2 q0_3 q0_4 l0_ c_kr_0 c_kr_1 c_kr_2
  have hB : Held wN (wn4.alloc (.cells #[] 3)) [aB (wN.heap.size) 29 [.int .i64 k, .int .i64 p, .int .i64 n, .slice aV m cV, .slice aO op.length cO], aI (.slice (some ⟨wn4.heap.size, 0, none⟩) 0 0) []] := by
    have h := (hH.mores 1).built 1 [] 0 rfl (by simp [maxLen]) #[] rfl
    exact h
  have hsz : (wn4.alloc (.cells #[] 3)).heap.size = wn4.heap.size + 1 := by simp
  generalize wn4.alloc (.cells #[] 3) = wn5 at hB hsz ⊢
  replace hH := hB; have HSZwn5 := Lib.hid hsz; clear hB hsz
  go_loopw [6, 32] (fun vl i wr => ∃ j : Nat, j ≤ m ∧ i = .int .i64 (j : Int) ∧ Held wN wr [aB (wN.heap.size) 29 [.int .i64 k, .int .i64 p, .int .i64 n, .slice aV m cV, .slice aO op.length cO], aI vl (bitsL s j)]) (fun vl i wr => m - (RowKit.intOf i).toNat)
  case atStart => exact ⟨0, Nat.zero_le _, rfl, hH⟩
  case round =>
    clear hH
    rename_i vl
    obtain ⟨j, hj, rfl, hH⟩ := hrel
    obtain ⟨al, cl, hvl, _, _⟩ := (hH.ints (k := 1) rfl).val
    subst hvl
    have hbl := bitsL_len s j
    by_cases hlt : j < m
    · skip
      have hbit := bit_and1 s j (by omega)
      cases hb : s.testBit j
      · skip
        rw [hb] at hbit
        simp only [Bool.false_eq_true, if_false] at hbit
        have HB := Lib.hid (bitsL_no hb); clear hb
        go_wp2_with fail
        go_roundw
        case rel => exact ⟨j + 1, by omega, by go_num, by rw [HB.out]; exact hH⟩
        case measure => simp [RowKit.intOf]; omega
      · skip
        rw [hb] at hbit
        simp only [if_true] at hbit
        have HB := Lib.hid (bitsL_yes hb); clear hb
        go_wp2_with (at_builtin; refine wpList_app _ rfl _ _ 27 rfl _ _ rfl rfl _ (run_push _ _ wN.heap.size _ (bitsL s j) (j : Int) (hH.own (k := 1) rfl) (by omega) hH.size) ?_; rintro v6 w6 ⟨o6, g6, n6⟩)
        go_roundw
        case rel => exact ⟨j + 1, by omega, by go_num, by rw [HB.out]; exact hH.pushed (k := 1) rfl o6 g6 n6⟩
        case measure => simp [RowKit.intOf]; omega
    · skip
      have hje : j = m := by omega
      subst hje
      obtain ⟨m, hmj⟩ : ∃ q, q = j := ⟨j, rfl⟩
      subst hmj
      obtain ⟨wc, rfl⟩ : ∃ q, q = wr := ⟨wr, rfl⟩
      clear hj hlt
      obtain ⟨BL, hBL⟩ : ∃ q, bitsL s m = q := ⟨_, rfl⟩
      rw [hBL] at hH hbl
      rw [hBL]
      have HBL := Lib.hid hBL; clear hBL
      have HP1 := Lib.hid (pick_bits ts s m); have HP2 := Lib.hid (rest_bits ts s m)
      rw [HBL.out] at HP1 HP2
      have HS0 : Hid (s < 2 ^ ts.length) := Lib.hid (by rw [HM.out, HMM.out]; exact hs)
      obtain ⟨SI, hSI⟩ : ∃ q, occ (bitN ts s m) = q := ⟨_, rfl⟩
      obtain ⟨SO, hSO⟩ : ∃ q, occ (nbitN ts s m) = q := ⟨_, rfl⟩
      have HSI := Lib.hid hSI; have HSO := Lib.hid hSO; clear hSI hSO
      have HPM := Lib.hid (set_perm (Si := SI) (So := SO) (op := op) HN.out.opR HN.out.sub.nodup)
      have HSRT := Lib.hid (setLab_sorted SI SO op)
      obtain ⟨SL, hSL⟩ : ∃ q, setLab SI SO op = q := ⟨_, rfl⟩
      obtain ⟨QL, hQL⟩ : ∃ q, subOpen SI SO op = q := ⟨_, rfl⟩
      rw [hSL, hQL] at HPM
      rw [hSL] at HSRT
      have HLL : Hid (QL.length = SL.length) := Lib.hid HPM.out.length_eq.symm
      have HSL := Lib.hid hSL; have HQL := Lib.hid hQL; clear hSL hQL
      have q0_0 := (hH.blk (k := 0) rfl).cell (j := 0) rfl
      have q0_1 := (hH.blk (k := 0) rfl).cell (j := 1) rfl
      have q0_2 := (hH.blk (k := 0) rfl).cell (j := 2) rfl
      have q0_3 := (hH.blk (k := 0) rfl).cell (j := 3) rfl
      have q0_4 := (hH.blk (k := 0) rfl).cell (j := 4) rfl
      have l0_ := (hH.blk (k := 0) rfl).lt
      have c_kr_0 := hH.ext.cell kr_0
      have c_kr_1 := hH.ext.cell kr_1
      have c_kr_2 := hH.ext.cell kr_2
      go_wp2_with fail
      clear q0_0 q0_1 q0_2 q0_3 q0_4 l0_ c_kr_0 c_kr_1 c_kr_2
      refine (subNetwork_any HR.out HN.out _ _ _ (hT.ext hH.ext) (hO.ext hH.ext) (by rw [← HBL.out]; exact bitsL_nodup s m) (fun q hq => by rw [← HBL.out, mem_bitsL] at hq; obtain ⟨i, h1, _, rfl⟩ := hq; rw [HM.out]; omega) (by rw [HM.out]; exact hbl) _ (hH.ints (k := 1) rfl)).mono ?_; rintro ewn6 wn6 ⟨tv2, ov2, cs2, rfl, hJ⟩
      rw [HM.out, HP1.out, HP2.out, HSI.out, HSO.out, HQL.out] at hJ
      obtain ⟨aQ, cQ, rfl, _, _⟩ := (hJ.ints (k := 1) rfl).val
      obtain ⟨aT2, cT2, rfl, _, _⟩ := (hJ.tensS (k := 0) rfl).val
      rw [HLL.out] at hJ ⊢
      rw [List.length_map] at hJ ⊢
      replace hH : Held wN wn6 [aB (wN.heap.size) 29 [.int .i64 k, .int .i64 p, .int .i64 n, .slice aV m cV, .slice aO op.length cO], aI (.slice al BL.length cl) BL, aTs (.slice aT2 (bitN ts s m).length cT2) cs2 ((bitN ts s m).map (tenOf dimOf)), aI (.slice aQ SL.length cQ) QL] := hH.join hJ (fun q hq => by cases hq)
      clear hJ
      have q0_0 := (hH.blk (k := 0) rfl).cell (j := 0) rfl
      have q0_1 := (hH.blk (k := 0) rfl).cell (j := 1) rfl
      have q0_2 := (hH.blk (k := 0) rfl).cell (j := 2) rfl
      have q0_3 := (hH.blk (k := 0) rfl).cell (j := 3) rfl
      have q0_4 := (hH.blk (k := 0) rfl).cell (j := 4) rfl
      have l0_ := (hH.blk (k := 0) rfl).lt
      have c_kr_0 := hH.ext.cell kr_0
      have c_kr_1 := hH.ext.cell kr_1
      have c_kr_2 := hH.ext.cell kr_2
      go_wp2_with fail
      clear q0_0 q0_1 q0_2 q0_3 q0_4 l0_ c_kr_0 c_kr_1 c_kr_2
      have hB : Held wN (wn6.alloc (.cells #[.int .i64 k, .int .i64 p, .int .i64 n, .slice aT2 (bitN ts s m).length cT2, .slice aQ SL.length cQ] 29)) [aB (wN.heap.size) 29 [.int .i64 k, .int .i64 p, .int .i64 n, .slice aV m cV, .slice aO op.length cO], aI (.slice al BL.length cl) BL, aTs (.slice aT2 (bitN ts s m).length cT2) cs2 ((bitN ts s m).map (tenOf dimOf)), aI (.slice aQ SL.length cQ) QL, aB (wn6.heap.size) 29 [.int .i64 k, .int .i64 p, .int .i64 n, .slice aT2 (bitN ts s m).length cT2, .slice aQ SL.length cQ]] := by
        have h := (hH.mores 1).addB 4 #[.int .i64 k, .int .i64 p, .int .i64 n, .slice aT2 (bitN ts s m).length cT2, .slice aQ SL.length cQ] 29
        exact h
      have hsz : (wn6.alloc (.cells #[.int .i64 k, .int .i64 p, .int .i64 n, .slice aT2 (bitN ts s m).length cT2, .slice aQ SL.length cQ] 29)).heap.size = wn6.heap.size + 1 := by simp
      generalize wn6.alloc (.cells #[.int .i64 k, .int .i64 p, .int .i64 n, .slice aT2 (bitN ts s m).length cT2, .slice aQ SL.length cQ] 29) = wn7 at hB hsz ⊢
      replace hH := hB; have HSZwn7 := Lib.hid hsz; clear hB hsz
      have q0_0 := (hH.blk (k := 0) rfl).cell (j := 0) rfl
      have q0_1 := (hH.blk (k := 0) rfl).cell (j := 1) rfl
      have q0_2 := (hH.blk (k := 0) rfl).cell (j := 2) rfl
      have q0_3 := (hH.blk (k := 0) rfl).cell (j := 3) rfl
      have q0_4 := (hH.blk (k := 0) rfl).cell (j := 4) rfl
      have l0_ := (hH.blk (k := 0) rfl).lt
      have q4_0 := (hH.blk (k := 4) rfl).cell (j := 0) rfl
      have q4_1 := (hH.blk (k := 4) rfl).cell (j := 1) rfl
      have q4_2 := (hH.blk (k := 4) rfl).cell (j := 2) rfl
      have q4_3 := (hH.blk (k := 4) rfl).cell (j := 3) rfl
      have q4_4 := (hH.blk (k := 4) rfl).cell (j := 4) rfl
      have l4_ := (hH.blk (k := 4) rfl).lt
      have c_kr_0 := hH.ext.cell kr_0
      have c_kr_1 := hH.ext.cell kr_1
      have c_kr_2 := hH.ext.cell kr_2
      go_wp2_with fail
      clear q0_0 q0_1 q0_2 q0_3 q0_4 l0_ q4_0 q4_1 q4_2 q4_3 q4_4 l4_ c_kr_0 c_kr_1 c_kr_2
      refine (setLabels_any HR.out HN.out _ _ _ (hT.ext hH.ext) (hO.ext hH.ext) s HS0.out).mono ?_; rintro ewn8 wn8 ⟨u5, rfl, hJ⟩
      rw [HM.out, HSI.out, HSO.out, HSL.out] at hJ
      obtain ⟨aS, cS, rfl, _, _⟩ := (hJ.ints (k := 0) rfl).val
      replace hH : Held wN wn8 [aB (wN.heap.size) 29 [.int .i64 k, .int .i64 p, .int .i64 n, .slice aV m cV, .slice aO op.length cO], aI (.slice al BL.length cl) BL, aTs (.slice aT2 (bitN ts s m).length cT2) cs2 ((bitN ts s m).map (tenOf dimOf)), aI (.slice aQ SL.length cQ) QL, aB (wn6.heap.size) 29 [.int .i64 k, .int .i64 p, .int .i64 n, .slice aT2 (bitN ts s m).length cT2, .slice aQ SL.length cQ], aI (.slice aS SL.length cS) SL] := hH.join hJ (fun q hq => by cases hq)
      clear hJ
      have q0_0 := (hH.blk (k := 0) rfl).cell (j := 0) rfl
      have q0_1 := (hH.blk (k := 0) rfl).cell (j := 1) rfl
      have q0_2 := (hH.blk (k := 0) rfl).cell (j := 2) rfl
      have q0_3 := (hH.blk (k := 0) rfl).cell (j := 3) rfl
      have q0_4 := (hH.blk (k := 0) rfl).cell (j := 4) rfl
      have l0_ := (hH.blk (k := 0) rfl).lt
      have q4_0 := (hH.blk (k := 4) rfl).cell (j := 0) rfl
      have q4_1 := (hH.blk (k := 4) rfl).cell (j := 1) rfl
      have q4_2 := (hH.blk (k := 4) rfl).cell (j := 2) rfl
      have q4_3 := (hH.blk (k := 4) rfl).cell (j := 3) rfl
      have q4_4 := (hH.blk (k := 4) rfl).cell (j := 4) rfl
      have l4_ := (hH.blk (k := 4) rfl).lt
      have c_kr_0 := hH.ext.cell kr_0
      have c_kr_1 := hH.ext.cell kr_1
      have c_kr_2 := hH.ext.cell kr_2
      go_wp2_with fail
      clear q0_0 q0_1 q0_2 q0_3 q0_4 l0_ q4_0 q4_1 q4_2 q4_3 q4_4 l4_ c_kr_0 c_kr_1 c_kr_2
      go_loopw [66] (fun i wr => ∃ j : Nat, j ≤ SL.length ∧ i = .int .i64 (j : Int) ∧ Held wN wr [aB (wN.heap.size) 29 [.int .i64 k, .int .i64 p, .int .i64 n, .slice aV m cV, .slice aO op.length cO], aI (.slice al BL.length cl) BL, aTs (.slice aT2 (bitN ts s m).length cT2) cs2 ((bitN ts s m).map (tenOf dimOf)), aI (.slice aQ SL.length cQ) QL, aB (wn6.heap.size) 29 [.int .i64 k, .int .i64 p, .int .i64 n, .slice aT2 (bitN ts s m).length cT2, .slice aQ SL.length cQ], aI (.slice aS SL.length cS) SL]) (fun i wr => SL.length - (RowKit.intOf i).toNat)
      case atStart => exact ⟨0, Nat.zero_le _, rfl, hH⟩
      case round =>
        clear hH
        obtain ⟨j, hj, rfl, hH⟩ := hrel
        by_cases hlt : j < SL.length
        · skip
          have hsl := hH.ints (k := 5) rfl
          obtain ⟨bS, oS, x, rfl, hcS, hx, _⟩ := hsl.get hlt
          have hin : hasL QL x = true := (hasL_iff _ _).2 (HPM.out.mem_iff.1 (List.mem_of_getElem? hx))
          have HIN := Lib.hid hin; clear hin
          rcases Nat.eq_zero_or_pos j with rfl | hjp
          · skip
            clear hsl hx
            rw [Nat.add_zero] at hcS
            have q0_0 := (hH.blk (k := 0) rfl).cell (j := 0) rfl
            have q0_1 := (hH.blk (k := 0) rfl).cell (j := 1) rfl
            have q0_2 := (hH.blk (k := 0) rfl).cell (j := 2) rfl
            have q0_3 := (hH.blk (k := 0) rfl).cell (j := 3) rfl
            have q0_4 := (hH.blk (k := 0) rfl).cell (j := 4) rfl
            have l0_ := (hH.blk (k := 0) rfl).lt
            have q4_0 := (hH.blk (k := 4) rfl).cell (j := 0) rfl
            have q4_1 := (hH.blk (k := 4) rfl).cell (j := 1) rfl
            have q4_2 := (hH.blk (k := 4) rfl).cell (j := 2) rfl
            have q4_3 := (hH.blk (k := 4) rfl).cell (j := 3) rfl
            have q4_4 := (hH.blk (k := 4) rfl).cell (j := 4) rfl
            have l4_ := (hH.blk (k := 4) rfl).lt
            have c_kr_0 := hH.ext.cell kr_0
            have c_kr_1 := hH.ext.cell kr_1
            have c_kr_2 := hH.ext.cell kr_2
            go_wp2_with fail
            clear q0_0 q0_1 q0_2 q0_3 q0_4 l0_ q4_0 q4_1 q4_2 q4_3 q4_4 l4_ c_kr_0 c_kr_1 c_kr_2
            refine (lawsIn_any _ QL x _ (by have h := hH.ints (k := 3) rfl; exact h)).mono ?_; rintro e3 w3 ⟨rfl, rfl⟩; rw [HIN.out]
            go_wp2_with fail
            go_roundw
            case rel => exact ⟨0 + 1, by omega, by go_num, hH⟩
            case measure => simp [RowKit.intOf]; omega
          · skip
            obtain ⟨j, rfl⟩ : ∃ q, j = q + 1 := ⟨j - 1, by omega⟩
            obtain ⟨bS', oS', y, hE, hcY, hy, _⟩ := hsl.get (i := j) (by omega)
            cases hE
            have hyx : y < x := sorted_step HSRT.out hy hx
            have hyn : ¬ x ≤ y := by omega
            have hj1 : ((j + 1 : Nat) : Int) - 1 = (j : Int) := by omega
            have hjp2 : (0 : Int) < ((j + 1 : Nat) : Int) := by omega
            have hj0 : (0 : Int) ≤ (j : Int) := by omega
            have hjl : (j : Int) < (SL.length : Int) := by omega
            clear hsl hx hy
            have q0_0 := (hH.blk (k := 0) rfl).cell (j := 0) rfl
            have q0_1 := (hH.blk (k := 0) rfl).cell (j := 1) rfl
            have q0_2 := (hH.blk (k := 0) rfl).cell (j := 2) rfl
            have q0_3 := (hH.blk (k := 0) rfl).cell (j := 3) rfl
            have q0_4 := (hH.blk (k := 0) rfl).cell (j := 4) rfl
            have l0_ := (hH.blk (k := 0) rfl).lt
            have q4_0 := (hH.blk (k := 4) rfl).cell (j := 0) rfl
            have q4_1 := (hH.blk (k := 4) rfl).cell (j := 1) rfl
            have q4_2 := (hH.blk (k := 4) rfl).cell (j := 2) rfl
            have q4_3 := (hH.blk (k := 4) rfl).cell (j := 3) rfl
            have q4_4 := (hH.blk (k := 4) rfl).cell (j := 4) rfl
            have l4_ := (hH.blk (k := 4) rfl).lt
            have c_kr_0 := hH.ext.cell kr_0
            have c_kr_1 := hH.ext.cell kr_1
            have c_kr_2 := hH.ext.cell kr_2
            go_wp2_with fail
            clear q0_0 q0_1 q0_2 q0_3 q0_4 l0_ q4_0 q4_1 q4_2 q4_3 q4_4 l4_ c_kr_0 c_kr_1 c_kr_2
            refine (lawsIn_any _ QL x _ (by have h := hH.ints (k := 3) rfl; exact h)).mono ?_; rintro e3 w3 ⟨rfl, rfl⟩; rw [HIN.out]
            go_wp2_with fail
            go_roundw
            case rel => exact ⟨j + 1 + 1, by omega, by go_num, hH⟩
            case measure => simp [RowKit.intOf]; omega
        · skip
          have HE := Lib.hid (E0.trans hH.ext); clear hH
          go_wp2
          go_ret
          exact ⟨rfl, HE.out⟩
end Go.Proofs.Ytpegckmagiaggaa
