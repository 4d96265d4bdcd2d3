/- DeltaTensor of the program. -/
import Derived.Test.YtabeciopggofkaaZBase
import Derived.Test.YtabeciopggofkaaZG5
namespace Go.Proofs.Ytabeciopggofkaa
open Go.RowKit
set_option linter.unusedSimpArgs false
set_option linter.unusedVariables false

theorem offsetIn_diag (vD vI : Value) (m : Nat) (d v : Int) (w : World) (hl : IntS w vD (List.replicate m d)) (hi : IntS w vI (List.replicate m v)) (h0 : 1 ≤ d) (h1 : d ≤ 8) (v0 : 0 ≤ v) (v1 : v < d) (hp : prodL (List.replicate m d) ≤ 4096) : Calls Try.prog 80 #[vD, vI] w fun e w' =>
    e = .returned (.int .i64 (diag m d v)) ∧ w = w' :=
  offsetIn_any vD vI _ _ w hl hi (idxOk_rep v0 v1 m) (rep_dims h0 h1 m) hp
theorem copied_rep (m : Nat) (d : Int) : copied (List.replicate m d) m = List.replicate m d := by
  have := copied_all (List.replicate m d)
  rwa [List.length_replicate] at this

set_option maxRecDepth 100000 in
set_option maxHeartbeats 4000000 in
theorem deltaTensor_impl (k p n : Int) (vL : Value) (d : Int) (L : List Int) (w : World) (hL : IntS w vL L) (hd : -9223372036854775808 ≤ d ∧ d ≤ 9223372036854775807) (hlen : L.length ≤ 1048576) : Calls Try.prog 34 #[ringV k p n, vL, .int .i64 d] w fun e w' =>
    ∃ v, e = .returned (.tuple #[v, .bool (deltaTok k p n L d)]) ∧ OwnT w' w.heap.size v (deltaTL k p n L d) (deltaTD k p n L d) (deltaTX k p n L d) ∧ Ext w w' := by
  obtain ⟨aL, cL, rfl, hcL, hdL⟩ := hL.val
  cases hr : ringOk k p n
  · have hz : deltaTok k p n L d = false := by simp [deltaTok, hr]
    obtain ⟨z1, z2, z3⟩ := deltaTok_no hz
    rw [z1, z2, z3, hz]; clear z1 z2 z3 hz
    go_enter Try.func34, Try.ntmps34
    go_wp2_with fail
    refine (ringOk_impl _ _ _ _).mono ?_; rintro e1 w1 ⟨rfl, h1⟩; have s1 := h1.size; (try simp at s1); have t1_0 : w.heap.size < w1.heap.size := (by omega); have c1_0 := fun o => h1.cells (w.heap.size) o (by first | (simp; done) | (simp; omega) | omega); have t1_1 : w.heap.size + 1 < w1.heap.size := (by omega); have c1_1 := fun o => h1.cells (w.heap.size + 1) o (by first | (simp; done) | (simp; omega) | omega); have f1_0 := fun o => h1.frozens (w.heap.size) o (by first | (simp; done) | (simp; omega) | omega); have f1_1 := fun o => h1.frozens (w.heap.size + 1) o (by first | (simp; done) | (simp; omega) | omega); rw [hr]
    go_wp2
    refine bodyPost_ret (v := .tuple #[.agg #[.slice none 0 0, .slice none 0 0, .slice none 0 0], .bool false]) (by simp [results, Try.results34, go_sem, *]) rfl ?_
    exact ⟨_, rfl, OwnT.empty _ _, (by repeat' (first | (with_reducible exact Ext.refl _) | (with_reducible assumption) | (with_reducible apply Ext.alloc) | (with_reducible apply Ext.drew) | (with_reducible apply Ext.drewN) | (refine Ext.setAt ?_ (by omega) _ _) | (refine Ext.trans ?_ (by assumption))))⟩
  by_cases hbad : d < 1 ∨ 8 < d ∨ 12 < L.length
  · have hz : deltaTok k p n L d = false := by
      unfold deltaTok
      rcases hbad with h | h | h
      · rw [show decide (1 ≤ d) = false by simpa using h]; simp
      · rw [show decide (d ≤ 8) = false by simpa using h]; simp
      · simp [tsize, h]
    obtain ⟨z1, z2, z3⟩ := deltaTok_no hz
    rw [z1, z2, z3, hz]; clear z1 z2 z3 hz
    rcases hbad with h | h | h
    · go_enter Try.func34, Try.ntmps34
      go_wp2_with fail
      refine (ringOk_impl _ _ _ _).mono ?_; rintro e1 w1 ⟨rfl, h1⟩; have s1 := h1.size; (try simp at s1); have t1_0 : w.heap.size < w1.heap.size := (by omega); have c1_0 := fun o => h1.cells (w.heap.size) o (by first | (simp; done) | (simp; omega) | omega); have t1_1 : w.heap.size + 1 < w1.heap.size := (by omega); have c1_1 := fun o => h1.cells (w.heap.size + 1) o (by first | (simp; done) | (simp; omega) | omega); have f1_0 := fun o => h1.frozens (w.heap.size) o (by first | (simp; done) | (simp; omega) | omega); have f1_1 := fun o => h1.frozens (w.heap.size + 1) o (by first | (simp; done) | (simp; omega) | omega); rw [hr]
      go_wp2
      refine bodyPost_ret (v := .tuple #[.agg #[.slice none 0 0, .slice none 0 0, .slice none 0 0], .bool false]) (by simp [results, Try.results34, go_sem, *]) rfl ?_
      exact ⟨_, rfl, OwnT.empty _ _, (by repeat' (first | (with_reducible exact Ext.refl _) | (with_reducible assumption) | (with_reducible apply Ext.alloc) | (with_reducible apply Ext.drew) | (with_reducible apply Ext.drewN) | (refine Ext.setAt ?_ (by omega) _ _) | (refine Ext.trans ?_ (by assumption))))⟩
    · go_enter Try.func34, Try.ntmps34
      go_wp2_with fail
      refine (ringOk_impl _ _ _ _).mono ?_; rintro e1 w1 ⟨rfl, h1⟩; have s1 := h1.size; (try simp at s1); have t1_0 : w.heap.size < w1.heap.size := (by omega); have c1_0 := fun o => h1.cells (w.heap.size) o (by first | (simp; done) | (simp; omega) | omega); have t1_1 : w.heap.size + 1 < w1.heap.size := (by omega); have c1_1 := fun o => h1.cells (w.heap.size + 1) o (by first | (simp; done) | (simp; omega) | omega); have f1_0 := fun o => h1.frozens (w.heap.size) o (by first | (simp; done) | (simp; omega) | omega); have f1_1 := fun o => h1.frozens (w.heap.size + 1) o (by first | (simp; done) | (simp; omega) | omega); rw [hr]
      go_wp2
      all_goals
        refine bodyPost_ret (v := .tuple #[.agg #[.slice none 0 0, .slice none 0 0, .slice none 0 0], .bool false]) (by simp [results, Try.results34, go_sem, *]) rfl ?_
        exact ⟨_, rfl, OwnT.empty _ _, (by repeat' (first | (with_reducible exact Ext.refl _) | (with_reducible assumption) | (with_reducible apply Ext.alloc) | (with_reducible apply Ext.drew) | (with_reducible apply Ext.drewN) | (refine Ext.setAt ?_ (by omega) _ _) | (refine Ext.trans ?_ (by assumption))))⟩
    · go_enter Try.func34, Try.ntmps34
      go_wp2_with fail
      refine (ringOk_impl _ _ _ _).mono ?_; rintro e1 w1 ⟨rfl, h1⟩; have s1 := h1.size; (try simp at s1); have t1_0 : w.heap.size < w1.heap.size := (by omega); have c1_0 := fun o => h1.cells (w.heap.size) o (by first | (simp; done) | (simp; omega) | omega); have t1_1 : w.heap.size + 1 < w1.heap.size := (by omega); have c1_1 := fun o => h1.cells (w.heap.size + 1) o (by first | (simp; done) | (simp; omega) | omega); have f1_0 := fun o => h1.frozens (w.heap.size) o (by first | (simp; done) | (simp; omega) | omega); have f1_1 := fun o => h1.frozens (w.heap.size + 1) o (by first | (simp; done) | (simp; omega) | omega); rw [hr]
      go_wp2
      all_goals
        refine bodyPost_ret (v := .tuple #[.agg #[.slice none 0 0, .slice none 0 0, .slice none 0 0], .bool false]) (by simp [results, Try.results34, go_sem, *]) rfl ?_
        exact ⟨_, rfl, OwnT.empty _ _, (by repeat' (first | (with_reducible exact Ext.refl _) | (with_reducible assumption) | (with_reducible apply Ext.alloc) | (with_reducible apply Ext.drew) | (with_reducible apply Ext.drewN) | (refine Ext.setAt ?_ (by omega) _ _) | (refine Ext.trans ?_ (by assumption))))⟩
  have hd0 : 1 ≤ d := by omega
  have hd1 : d ≤ 8 := by omega
  have hl12 : L.length ≤ 12 := by omega
  clear hbad
  have hw := ringOk_wide hr
  have hf := ringOk_fit hr
  have hmk := mkInts L.length (by omega)
  go_enter Try.func34, Try.ntmps34
  go_wp2_with fail
  refine (ringOk_impl _ _ _ _).mono ?_; rintro e1 w1 ⟨rfl, h1⟩; rw [hr]
  have BK : Blk w1 w.heap.size 24 [.int .i64 k, .int .i64 p, .int .i64 n] := Blk.ext (w := (w.alloc (.cells #[.int .i64 k, .int .i64 p, .int .i64 n] 24)).alloc (.cells #[.slice none 0 0, .slice none 0 0, .slice none 0 0] 31)) (Blk.ext (Blk.new w #[.int .i64 k, .int .i64 p, .int .i64 n] 24) (by repeat' (first | (with_reducible exact Ext.refl _) | (with_reducible assumption) | (with_reducible apply Ext.alloc) | (with_reducible apply Ext.drew) | (with_reducible apply Ext.drewN) | (refine Ext.setAt ?_ (by omega) _ _) | (refine Ext.trans ?_ (by assumption))))) h1
  have BR : Blk w1 (w.heap.size + 1) 31 [.slice none 0 0, .slice none 0 0, .slice none 0 0] := Blk.ext (w := (w.alloc (.cells #[.int .i64 k, .int .i64 p, .int .i64 n] 24)).alloc (.cells #[.slice none 0 0, .slice none 0 0, .slice none 0 0] 31)) (by simpa using Blk.new (w.alloc (.cells #[.int .i64 k, .int .i64 p, .int .i64 n] 24)) #[.slice none 0 0, .slice none 0 0, .slice none 0 0] 31) h1
  have E1 : Ext w w1 := (by repeat' (first | (with_reducible exact Ext.refl _) | (with_reducible assumption) | (with_reducible apply Ext.alloc) | (with_reducible apply Ext.drew) | (with_reducible apply Ext.drewN) | (refine Ext.setAt ?_ (by omega) _ _) | (refine Ext.trans ?_ (by assumption))))
  clear h1
  have hRl := BR.lt
  go_wp2_with fail
  go_loopw [37] (fun i wr => ∃ j : Nat, j ≤ L.length ∧ i = .int .i64 j ∧ Blk wr w1.heap.size 3 (ints (copied (List.replicate L.length d) j)) ∧ Ext w1 wr) (fun i wr => L.length - (RowKit.intOf i).toNat)
  case atStart => exact ⟨0, Nat.zero_le _, rfl, by rw [copied_zero, List.length_replicate]; exact blk_made w1 _ _ rfl, (by repeat' (first | (with_reducible exact Ext.refl _) | (with_reducible assumption) | (with_reducible apply Ext.alloc) | (with_reducible apply Ext.drew) | (with_reducible apply Ext.drewN) | (refine Ext.setAt ?_ (by omega) _ _) | (refine Ext.trans ?_ (by assumption))))⟩
  case round =>
    obtain ⟨j, hj, rfl, hB, hE⟩ := hrel
    by_cases hlt : j < L.length
    · have hcl : (copied (List.replicate L.length d) j).length = L.length := by rw [copied_length _ _ (by rw [List.length_replicate]; exact hj), List.length_replicate]
      obtain ⟨y, hy⟩ : ∃ y, (copied (List.replicate L.length d) j)[j]? = some y := ⟨_, List.getElem?_eq_getElem (by omega)⟩
      have ho := hB.cell (j := j) (u := .int .i64 y) (by rw [ints_get, hy]; rfl)
      have hfz := hB.free j
      have hset := copied_set (rep_get d hlt)
      have HX := Lib.hid hset
      clear hy hcl hset
      go_wp2
      go_roundw
      case rel => exact ⟨j + 1, by omega, by go_num, by rw [← HX.out, ← ints_set]; exact Blk.set hB _ _, hE.setCell (Nat.le_refl _) _⟩
      case measure => simp [RowKit.intOf]; omega
    · have : j = L.length := by omega
      subst this
      rw [copied_rep] at hB
      have hs1 := E1.size
      have oD : OwnI wr w1.heap.size (.slice (some ⟨w1.heap.size, 0, none⟩) L.length L.length) (List.replicate L.length d) := OwnI.mk' (by simp) (Nat.le_refl _) hB (by unfold maxLen; omega)
      have hEw := E1.trans hE
      have hK0 := BK.ext hE
      have hR0 := BR.ext hE
      have i0 := hK0.cell (j := 0) rfl
      have i1 := hK0.cell (j := 1) rfl
      have i2 := hK0.cell (j := 2) rfl
      have hKl0 := hK0.lt
      go_wp2_with fail
      refine (zeroTensor_impl k p n _ _ L (List.replicate L.length d) _ (hL.ext hEw) oD.ints).mono ?_; rintro e3 w3 ⟨v3, rfl, o3, h3⟩
      have hE3 := hEw.trans h3
      have hK3 := hK0.ext h3
      have hR3 := hR0.ext h3
      have oD3 := oD.ext h3
      by_cases ht : tsize L (List.replicate L.length d) = -1
      · have hz : deltaTok k p n L d = false := by simp [deltaTok, ht]
        have hz0 : zeroTok k p n L (List.replicate L.length d) = false := by simp [zeroTok, ht]
        have HZ := Lib.hid hz; clear hz
        rw [hz0]
        obtain ⟨b1, m1, c1, b2, m2, c2, b3, m3, c3, rfl⟩ := o3.shape
        have f0 := hR3.free 0
        have f1 := hR3.free 1
        have f2 := hR3.free 2
        have r0 := hR3.cell (j := 0) rfl
        have r1 := hR3.cell (j := 1) rfl
        have r2 := hR3.cell (j := 2) rfl
        have hRl3 := hR3.lt
        clear hz0 ht
        go_wp2
        refine bodyPost_ret (v := .tuple #[.agg #[.slice none 0 0, .slice none 0 0, .slice none 0 0], .bool false]) (by simp [results, Try.results34, go_sem, *]) rfl ?_
        exact ⟨_, by rw [HZ.out], by rw [(deltaTok_no HZ.out).1, (deltaTok_no HZ.out).2.1, (deltaTok_no HZ.out).2.2]; exact OwnT.empty _ _, (by repeat' (first | (with_reducible exact Ext.refl _) | (with_reducible assumption) | (with_reducible apply Ext.alloc) | (with_reducible apply Ext.drew) | (with_reducible apply Ext.drewN) | (refine Ext.setAt ?_ (by omega) _ _) | (refine Ext.trans ?_ (by assumption))))⟩
      · have hz : deltaTok k p n L d = true := by unfold deltaTok; rw [hr]; simp [ht, hd0, hd1]
        have hz0 : zeroTok k p n L (List.replicate L.length d) = true := by simp [zeroTok, hr, ht]
        have HZ := Lib.hid hz; clear hz
        obtain ⟨p0, p1, p2, p3, p4, p5, p6⟩ := tsize_prod ht
        obtain ⟨W, hW⟩ : ∃ W : Nat, ringWidth k n = W := ⟨(ringWidth k n).toNat, by have := hw.lo; omega⟩
        obtain ⟨P, hP⟩ : ∃ P : Nat, prodL (List.replicate L.length d) = P := ⟨(prodL (List.replicate L.length d)).toNat, by omega⟩
        obtain ⟨D, hD⟩ : ∃ D : Nat, d = D := ⟨d.toNat, by omega⟩
        have hW1 : 1 ≤ W := by have := hw.lo; omega
        have hW6 : W ≤ 6 := by have := hw.hi; omega
        have hP1 : 1 ≤ P := by omega
        have hPP : P ≤ 4096 := by omega
        have hPW1 : 1 ≤ P * W := Nat.mul_le_mul hP1 hW1
        have hPW : P * W ≤ 4096 * 6 := Nat.mul_le_mul hPP hW6
        rw [show zeroTL k p n L (List.replicate L.length d) = L by simp [zeroTL, hz0], show zeroTD k p n L (List.replicate L.length d) = List.replicate L.length d by simp [zeroTD, hz0], show zeroTX k p n L (List.replicate L.length d) = rep (prodL (List.replicate L.length d)).toNat (zeroL k p n) by simp [zeroTX, hz0]] at o3
        rw [hz0]
        have eP : (prodL (List.replicate L.length d)).toNat = P := by omega
        have eW : (ringWidth k n).toNat = W := by omega
        have eD : d.toNat = D := by omega
        rw [eP] at o3
        have HEP := Lib.hid eP; have HEW := Lib.hid eW; have HED := Lib.hid eD
        have hoL : (oneL k p n).length = W := by rw [oneL_length, eW]
        have hzL : (zeroL k p n).length = W := by rw [zeroL_length, eW]
        have hX0 : (rep P (zeroL k p n)).length = P * W := by rw [rep_length, hzL]
        obtain ⟨va, vb, vd, rfl, oa, ob, od, ap1, ap2⟩ := o3.val
        have hpos : 0 < (rep P (zeroL k p n)).length := by omega
        obtain ⟨bd, cd2, hbd, rfl, hcd3, hcd4⟩ := od.open hpos
        rw [hX0] at od hcd3 ⊢
        obtain ⟨aa, ca, rfl, _, _⟩ := oa.ints.val
        obtain ⟨ab, cb, rfl, _, _⟩ := ob.ints.val
        rw [List.length_replicate] at ob
        have hRl0 := hR0.lt
        have hbd3 : bd < w3.heap.size := (od.block_lt rfl).2
        have hbdw : w.heap.size + 1 < bd := by omega
        have hs2 := hE.size
        have hb1 := hB.lt
        have NA : Hid (∀ q, (Value.slice aa L.length ca).ownBlock = some q → q ≠ bd ∧ w.heap.size + 1 < q ∧ q < w3.heap.size) := Lib.hid fun q hq => ⟨fun e => (ap1 q hq).2 (by rw [e]; rfl), by have := oa.block_lt hq; omega⟩
        have NB : Hid (∀ q, (Value.slice ab L.length cb).ownBlock = some q → q ≠ bd ∧ w.heap.size + 1 < q ∧ q < w3.heap.size) := Lib.hid fun q hq => ⟨fun e => ap2 q (by rw [List.length_replicate]; exact hq) (by rw [e]; rfl), by have := ob.block_lt hq; omega⟩
        have NAB : Hid (∀ q, (Value.slice aa L.length ca).ownBlock = some q → (Value.slice ab L.length cb).ownBlock ≠ some q) := Lib.hid fun q hq e => (ap1 q hq).1 (by rw [List.length_replicate]; exact e)
        have P1 := Lib.hid (show prodL (List.replicate L.length d) ≤ 4096 from p1)
        have HOL := Lib.hid hoL; have HX0 := Lib.hid hX0; have HWW := Lib.hid hW; have HP := Lib.hid hP; have HD := Lib.hid hD
        clear o3 hpos ap1 ap2 p0 p1 p2 p3 p4 p5 p6 ht hz0 eP eW eD hoL hzL hX0 hW hP hD
        have hT3 : Blk (w3.alloc (.cells #[.slice aa L.length ca, .slice ab L.length cb, .slice (some ⟨bd, 0, none⟩) (P * W) cd2] 31)) w3.heap.size 31 [.slice aa L.length ca, .slice ab L.length cb, .slice (some ⟨bd, 0, none⟩) (P * W) cd2] := Blk.new w3 #[_, _, _] 31
        go_wp2_with fail
        go_loopw [13] (fun i wr => ∃ v : Nat, v ≤ D ∧ i = .int .i64 v ∧ Ext w wr ∧ w3.heap.size + 1 < wr.heap.size ∧ Blk wr w3.heap.size 31 [.slice aa L.length ca, .slice ab L.length cb, .slice (some ⟨bd, 0, none⟩) (P * W) cd2] ∧ OwnI wr w.heap.size (.slice aa L.length ca) L ∧ OwnI wr w.heap.size (.slice ab L.length cb) (List.replicate L.length d) ∧
            OwnI wr w.heap.size (.slice (some ⟨bd, 0, none⟩) (P * W) cd2) (deltaX L.length W (oneL k p n) (rep P (zeroL k p n)) d v) ∧ OwnI wr w1.heap.size (.slice (some ⟨w1.heap.size, 0, none⟩) L.length L.length) (List.replicate L.length d) ∧ (∃ I : List Int, I.length = L.length ∧ Blk wr (w3.heap.size + 1) 3 (ints I)) ∧ Blk wr w.heap.size 24 [.int .i64 k, .int .i64 p, .int .i64 n] ∧ Blk wr (w.heap.size + 1) 31 [.slice none 0 0, .slice none 0 0, .slice none 0 0]) (fun i wr => D - (RowKit.intOf i).toNat)
        case atStart =>
          have hsz := hE3.size
          exact ⟨0, Nat.zero_le _, rfl, (by repeat' (first | (with_reducible exact Ext.refl _) | (with_reducible assumption) | (with_reducible apply Ext.alloc) | (with_reducible apply Ext.drew) | (with_reducible apply Ext.drewN) | (refine Ext.setAt ?_ (by omega) _ _) | (refine Ext.trans ?_ (by assumption)))), by simp, hT3.ext (by repeat' (first | (with_reducible exact Ext.refl _) | (with_reducible assumption) | (with_reducible apply Ext.alloc) | (with_reducible apply Ext.drew) | (with_reducible apply Ext.drewN) | (refine Ext.setAt ?_ (by omega) _ _) | (refine Ext.trans ?_ (by assumption)))), (oa.mono (by omega)).ext (by repeat' (first | (with_reducible exact Ext.refl _) | (with_reducible assumption) | (with_reducible apply Ext.alloc) | (with_reducible apply Ext.drew) | (with_reducible apply Ext.drewN) | (refine Ext.setAt ?_ (by omega) _ _) | (refine Ext.trans ?_ (by assumption)))), (ob.mono (by omega)).ext (by repeat' (first | (with_reducible exact Ext.refl _) | (with_reducible assumption) | (with_reducible apply Ext.alloc) | (with_reducible apply Ext.drew) | (with_reducible apply Ext.drewN) | (refine Ext.setAt ?_ (by omega) _ _) | (refine Ext.trans ?_ (by assumption)))), (od.mono (by omega)).ext (by repeat' (first | (with_reducible exact Ext.refl _) | (with_reducible assumption) | (with_reducible apply Ext.alloc) | (with_reducible apply Ext.drew) | (with_reducible apply Ext.drewN) | (refine Ext.setAt ?_ (by omega) _ _) | (refine Ext.trans ?_ (by assumption)))), oD3.ext (by repeat' (first | (with_reducible exact Ext.refl _) | (with_reducible assumption) | (with_reducible apply Ext.alloc) | (with_reducible apply Ext.drew) | (with_reducible apply Ext.drewN) | (refine Ext.setAt ?_ (by omega) _ _) | (refine Ext.trans ?_ (by assumption)))), ⟨List.replicate L.length 0, by simp, blk_made _ _ _ (by simp)⟩, hK3.ext (by repeat' (first | (with_reducible exact Ext.refl _) | (with_reducible assumption) | (with_reducible apply Ext.alloc) | (with_reducible apply Ext.drew) | (with_reducible apply Ext.drewN) | (refine Ext.setAt ?_ (by omega) _ _) | (refine Ext.trans ?_ (by assumption)))), hR3.ext (by repeat' (first | (with_reducible exact Ext.refl _) | (with_reducible assumption) | (with_reducible apply Ext.alloc) | (with_reducible apply Ext.drew) | (with_reducible apply Ext.drewN) | (refine Ext.setAt ?_ (by omega) _ _) | (refine Ext.trans ?_ (by assumption))))⟩
        case round =>
          obtain ⟨v, hv, rfl, hE', hS', hT', hA', hB', hX', hD', ⟨I, hIl, hI'⟩, hK', hR'⟩ := hrel
          rename World => wo
          have HIL := Lib.hid hIl; clear hIl
          by_cases hlv : v < D
          · have hvd : (v : Int) < d := by have := HD.out; omega
            go_wp2_with fail
            go_loopw [65] (fun i wr' => ∃ j : Nat, j ≤ L.length ∧ i = .int .i64 j ∧ Blk wr' (w3.heap.size + 1) 3 (ints (mix (List.replicate L.length (v : Int)) I j)) ∧ wo.grownBy wr' (some (w3.heap.size + 1))) (fun i wr' => L.length - (RowKit.intOf i).toNat)
            case atStart => exact ⟨0, Nat.zero_le _, rfl, hI', grown_refl _ _⟩
            case round =>
              obtain ⟨j, hj, rfl, hM, hG⟩ := hrel
              have hml : (mix (List.replicate L.length (v : Int)) I j).length = L.length := by simp [mix, HIL.out]; omega
              by_cases hlt : j < L.length
              · obtain ⟨y, hy⟩ : ∃ y, (mix (List.replicate L.length (v : Int)) I j)[j]? = some y := ⟨_, List.getElem?_eq_getElem (by omega)⟩
                have ho := hM.cell (j := j) (u := .int .i64 y) (by rw [ints_get, hy]; rfl)
                have hfz := hM.free j
                have hset := mix_set (x := I) (by rw [List.length_replicate, HIL.out]) (rep_get (v : Int) hlt)
                have HX := Lib.hid hset
                have hml2 := hM.lt
                clear hy hml hset
                go_wp2
                go_roundw
                case rel => exact ⟨j + 1, by omega, by go_num, by rw [← HX.out, ← ints_set]; exact Blk.set hM _ _, grown_setCell hG _ _⟩
                case measure => simp [RowKit.intOf]; omega
              · have : j = L.length := by omega
                subst this
                rw [mix_rep _ _ _ HIL.out] at hM
                clear hml
                have oI : OwnI wr w.heap.size (.slice (some ⟨w3.heap.size + 1, 0, none⟩) L.length L.length) (List.replicate L.length (v : Int)) := OwnI.mk' (by simp) (by have := hE3.size; omega) hM (by unfold maxLen; omega)
                have hXl := deltaX_length (X := rep P (zeroL k p n)) hd0 hd1 HP.out HOL.out HX0.out v (by omega)
                have hfit := diag_fit (W := W) hd0 hd1 hvd HP.out
                have hdg := diag_bounds (m := L.length) (v := (v : Int)) hd0 hd1 (by omega) hvd
                have hdg0 := hdg.1; clear hdg
                obtain ⟨X, hXE⟩ : ∃ X, deltaX L.length W (oneL k p n) (rep P (zeroL k p n)) d v = X := ⟨_, rfl⟩
                rw [hXE] at hX' hXl
                have hoo : diag L.length d (v : Int) * (W : Int) = (((diag L.length d (v : Int)).toNat * W : Nat) : Int) := by
                  rw [Int.natCast_mul, Int.toNat_of_nonneg hdg0]
                have HXL := Lib.hid hXl; have HF := Lib.hid hfit; have HXE := Lib.hid hXE; have HOO := Lib.hid hoo
                clear hXl hfit hXE hoo
                have hsE := hE3.size
                have hsG := hG.size
                have hT1 := hT'.block (hG.block _ (by omega) (fun e => by injection e with e; omega))
                have hK1 := hK'.block (hG.block _ (by omega) (fun e => by injection e with e; omega))
                have hR1 := hR'.block (hG.block _ (by omega) (fun e => by injection e with e; omega))
                have hA1 := hA'.only hG (fun q hq e => by injection e with e; have := NA.out q hq; omega)
                have hB1 := hB'.only hG (fun q hq e => by injection e with e; have := NB.out q hq; omega)
                have hX1 := hX'.only hG (fun q hq e => by injection e with e; simp [Value.ownBlock] at hq; omega)
                have hD1 := hD'.only hG (fun q hq e => by injection e with e; simp [Value.ownBlock] at hq; omega)
                have hW1' : Ext w wr := hE'.only hG (fun q hq => by injection hq with hq; omega)
                have i0' := hK1.cell (j := 0) rfl
                have i1' := hK1.cell (j := 1) rfl
                have i2' := hK1.cell (j := 2) rfl
                have t0 := hT1.cell (j := 0) rfl
                have t1 := hT1.cell (j := 1) rfl
                have t2 := hT1.cell (j := 2) rfl
                have D0 : Ext wr wr.drew := (Ext.refl _).drew
                go_wp2_with fail
                go_region_held3 (fun w' => w'.cell? ⟨w.heap.size, 0, none⟩ = some (.int .i64 k) ∧ w'.cell? ⟨w.heap.size, 1, none⟩ = some (.int .i64 p) ∧ w'.cell? ⟨w.heap.size, 2, none⟩ = some (.int .i64 n) ∧ w'.cell? ⟨w3.heap.size, 0, none⟩ = some (.slice aa L.length ca) ∧ w'.cell? ⟨w3.heap.size, 1, none⟩ = some (.slice ab L.length cb) ∧ w'.cell? ⟨w3.heap.size, 2, none⟩ = some (.slice (some ⟨bd, 0, none⟩) (P * W) cd2))
                  (refine ⟨?_, ?_, ?_, ?_, ?_, ?_⟩ <;> first | assumption | (simp [*]; done))
                  (first | (go_at_call 80; (with_reducible refine (offsetIn_diag _ _ L.length d (v : Int) _ (hD1.ints.ext D0) (oI.ints.ext D0) hd0 hd1 (Int.natCast_nonneg v) hvd P1.out).mono ?_); rintro e1 u1 ⟨rfl, rfl⟩) | (go_at_call 57; (with_reducible refine (rawElem_any k p n (diag L.length d (v : Int)) ((diag L.length d (v : Int)).toNat * W) W HWW.out _ _ _ _ _ _ bd (P * W) cd2 _ HOO.out hdg0 hw HF.out (by omega) (by omega)).mono ?_); rintro e4 w4 ⟨rfl, h4⟩; have g4 : Ext wr w4 := D0.trans h4; have j0 := g4.cell i0'; have j1 := g4.cell i1'; have j2 := g4.cell i2'; have j3 := g4.cell t0; have j4 := g4.cell t1; have j5 := g4.cell t2) | (go_at_call 81; (with_reducible refine (rawOne_any k p n hw hf w4).mono ?_); rintro e5 w5 ⟨v5, rfl, o5, h5⟩; have g5 : Ext wr w5 := g4.trans h5; have l0 := g5.cell i0'; have l1 := g5.cell i1'; have l2 := g5.cell i2'; have l3 := g5.cell t0; have l4 := g5.cell t1; have l5 := g5.cell t2) | (refine step_copy w5 rfl _ _ 29 rfl (.slice (some ⟨bd, (diag L.length d (v : Int)).toNat * W, none⟩) W (cd2 - (diag L.length d (v : Int)).toNat * W)) v5 rfl rfl _ (run_copy_len _ HXL.out (hX1.ext g5) o5.ints HOL.out hW1 HF.out) ?_; rintro v6 w6 ⟨o6, g6⟩; have z0 := grown_cell g6 (show w.heap.size ≠ bd by omega) l0; have z1 := grown_cell g6 (show w.heap.size ≠ bd by omega) l1; have z2 := grown_cell g6 (show w.heap.size ≠ bd by omega) l2; have z3 := grown_cell g6 (show w3.heap.size ≠ bd by omega) l3; have z4 := grown_cell g6 (show w3.heap.size ≠ bd by omega) l4; have z5 := grown_cell g6 (show w3.heap.size ≠ bd by omega) l5))
                go_wp2
                go_roundw
                case rel =>
                  have s5 := g5.size
                  have s6 := g6.size
                  have hE6 : Ext w w6 := (hW1'.trans g5).only g6 (fun q hq => by injection hq with hq; omega)
                  have hT6 := (hT1.ext g5).block (g6.block _ (by omega) (fun e => by injection e with e; omega))
                  have hK6 := (hK1.ext g5).block (g6.block _ (by have := hK1.lt; omega) (fun e => by injection e with e; omega))
                  have hR6 := (hR1.ext g5).block (g6.block _ (by have := hR1.lt; omega) (fun e => by injection e with e; omega))
                  have hA6 := (hA1.ext g5).only g6 (fun q hq e => by injection e with e; exact (NA.out q hq).1 e.symm)
                  have hB6 := (hB1.ext g5).only g6 (fun q hq e => by injection e with e; exact (NB.out q hq).1 e.symm)
                  have hD6 := (hD1.ext g5).only g6 (fun q hq e => by injection e with e; simp [Value.ownBlock] at hq; omega)
                  have hI6 := (hM.ext g5).block (g6.block _ (by omega) (fun e => by injection e with e; omega))
                  exact ⟨v + 1, by omega, by go_num, hE6, by omega, hT6, hA6, hB6, by rw [deltaX, HXE.out]; exact o6, hD6, ⟨_, by simp, hI6⟩, hK6, hR6⟩
                case measure => simp [RowKit.intOf]; omega
          · have : v = D := by omega
            subst this
            have q0 := hT'.cell (j := 0) rfl
            have q1 := hT'.cell (j := 1) rfl
            have q2 := hT'.cell (j := 2) rfl
            have f0 := hR'.free 0
            have f1 := hR'.free 1
            have f2 := hR'.free 2
            have r0 := hR'.cell (j := 0) rfl
            have r1 := hR'.cell (j := 1) rfl
            have r2 := hR'.cell (j := 2) rfl
            have hRl' := hR'.lt
            have hvd : ¬ (v : Int) < d := by have := HD.out; omega
            go_wp2
            refine bodyPost_ret (v := .tuple #[.agg #[.slice aa L.length ca, .slice ab L.length cb, .slice (some ⟨bd, 0, none⟩) (P * W) cd2], .bool true]) (by simp [results, Try.results34, go_sem, *]) rfl ?_
            rw [(deltaTok_yes HZ.out).1, (deltaTok_yes HZ.out).2.1, (deltaTok_yes HZ.out).2.2, HZ.out, HEP.out, HEW.out, HED.out]
            refine ⟨_, rfl, ⟨_, _, _, rfl, ?_, ?_, ?_, fun q hq => ⟨fun e => ?_, fun e => ?_⟩, fun q hq e => ?_⟩, (by repeat' (first | (with_reducible exact Ext.refl _) | (with_reducible assumption) | (with_reducible apply Ext.alloc) | (with_reducible apply Ext.drew) | (with_reducible apply Ext.drewN) | (refine Ext.setAt ?_ (by omega) _ _) | (refine Ext.trans ?_ (by assumption))))⟩
            · exact ((hA'.setOther (fun q hq => by have := NA.out q hq; first | omega | (simp; omega)) _).setOther (fun q hq => by have := NA.out q hq; first | omega | (simp; omega)) _).setOther (fun q hq => by have := NA.out q hq; first | omega | (simp; omega)) _
            · exact ((hB'.setOther (fun q hq => by have := NB.out q hq; first | omega | (simp; omega)) _).setOther (fun q hq => by have := NB.out q hq; first | omega | (simp; omega)) _).setOther (fun q hq => by have := NB.out q hq; first | omega | (simp; omega)) _
            · exact ((hX'.setOther (fun q hq => by simp [Value.ownBlock] at hq; first | omega | (simp; omega)) _).setOther (fun q hq => by simp [Value.ownBlock] at hq; first | omega | (simp; omega)) _).setOther (fun q hq => by simp [Value.ownBlock] at hq; first | omega | (simp; omega)) _
            · exact NAB.out q hq e
            · simp [Value.ownBlock] at e; exact (NA.out q hq).1 e.symm
            · simp [Value.ownBlock] at e; exact (NB.out q hq).1 e.symm
end Go.Proofs.Ytabeciopggofkaa
