/- Drawn elements; what the laws draw: MakeRing, MakeElem, MakeSize. -/
import Derived.Test.YtlgjddgajdjllaaGreatDoorTDrawR
set_option linter.unusedSimpArgs false
set_option linter.unusedVariables false
namespace Go.Proofs.YtlgjddgajdjllaaGreatDoor
open Go.RowKit
theorem grown_ext {a b c : World} {r : Option Nat} (g : a.grownBy b r) (e : Ext b c) : a.grownBy c r :=
  ⟨e.below.os.trans g.os, e.below.tape.trans g.tape, e.below.output.trans g.output, Nat.le_trans g.size e.size, fun k hk hne => (e.below.block k (Nat.lt_of_lt_of_le hk g.size)).trans (g.block k hk hne)⟩
theorem top_ge {k p n : Int} (h : ringOk k p n = true) : 0 ≤ ringTop k p n := by
  have h0 := rawOk_zero h
  have hw := (ringOk_wide h).lo
  obtain ⟨hl, hv⟩ := rawOk_iff.1 h0
  match hz : zeroL k p n with
  | [] => rw [hz] at hl; simp at hl; omega
  | a :: t => rw [hz] at hv; have := hv a (by simp); omega
theorem OwnI.onlyB {w w' : World} {B b : Nat} {v : Value} {x : List Int} (h : OwnI w B v x) (g : w.grownBy w' (some b)) (hb : b < B) : OwnI w' B v x :=
  h.only g (fun k hk e => by have := (h.block_lt hk).1; injection e with e; omega)
set_option maxRecDepth 100000 in
set_option maxHeartbeats 2000000 in
theorem l02Draw_any (b : Nat) {l : List Int} (k p n : Int) (hr : ringOk k p n = true) (w : World) (hc : Cur w b l) : Calls Tryz.prog 102 #[.pointer (some ⟨b, 0, none⟩), ringV k p n] w fun e w' =>
 ∃ v x, e = .returned v ∧ OwnI w' w.heap.size v x ∧ rawOk k p n x = true ∧ Cur w' b l ∧ w.grownBy w' (some b) := by
 have hbl := hc.lt
 have hw := ringOk_wide hr
 have hf := ringOk_fit hr
 have hts := top_small hr
 have ht0 := top_ge hr
 have hwl := hw.lo
 have hwh := hw.hi
 have HZ := Lib.hid (rawOk_zero hr)
 have HO := Lib.hid (rawOk_one hr)
 obtain ⟨m, hm⟩ : ∃ m : Nat, ringWidth k n = (m : Int) := ⟨(ringWidth k n).toNat, by omega⟩
 have hm6 : m ≤ 6 := by omega
 have hmk := mkInts m (by omega)
 have HM := Lib.hid hm; clear hm hwl hwh
 obtain ⟨top, htop⟩ : ∃ top, ringTop k p n = top := ⟨_, rfl⟩
 rw [htop] at hts ht0
 have HT := Lib.hid htop; clear htop
 clear hr
 go_enter Tryz.func102, Tryz.ntmps102
 go_wp2_with fail
 refine (l01Below_any b 6 _ (hc.ext (by repeat' (first | (with_reducible first | exact Ext.refl _ | assumption | apply Ext.alloc | apply Ext.drew | apply Ext.drewN) | (refine Ext.setAt ?_ (by omega) _ _) | (refine Ext.trans ?_ (by assumption))))) (by omega)).mono ?_; rintro e1 w1 ⟨x, rfl, ⟨x0, _, x1⟩, c1, g1⟩
 have G1 : w.grownBy w1 (some b) := grownBy_trans (show w.grownBy _ (some b) from (by repeat' (first | (with_reducible exact grown_refl _ _) | (with_reducible assumption) | (with_reducible apply grown_alloc) | (with_reducible apply grown_drew) | (with_reducible apply grown_drewN) | (with_reducible refine grown_setCell ?_ _ _) | (refine grownBy_trans ?_ (by assumption))))) g1
 have BK : Blk w1 w.heap.size 24 [.int .i64 k, .int .i64 p, .int .i64 n] := (Blk.new w #[.int .i64 k, .int .i64 p, .int .i64 n] 24).block (g1.block _ (by simp) (by simp; omega))
 have i0 := BK.cell (j := 0) rfl
 have i1 := BK.cell (j := 1) rfl
 have i2 := BK.cell (j := 2) rfl
 have hKl := BK.lt
 have hb1 := c1.lt
 have x6 := x1 (by omega)
 clear x1
 by_cases hx0 : x = 0
 · subst hx0
   go_wp2_with fail
   refine (l02Zero_any _ _ _ hw _).mono ?_; rintro e2 w2 ⟨v2, rfl, o2, h2⟩
   go_wp2
   go_ret
   exact ⟨_, _, rfl, o2.mono (by omega), HZ.out, c1.ext h2, grown_ext G1 h2⟩
 by_cases hx1 : x = 1
 · subst hx1
   go_wp2_with fail
   refine (l02One_any _ _ _ hw hf _).mono ?_; rintro e2 w2 ⟨v2, rfl, o2, h2⟩
   go_wp2
   go_ret
   exact ⟨_, _, rfl, o2.mono (by omega), HO.out, c1.ext h2, grown_ext G1 h2⟩
 have hq0 : (x == 0) = false := by rw [beq_eq_false_iff_ne]; exact hx0
 have hq1 : (x == 1) = false := by rw [beq_eq_false_iff_ne]; exact hx1
 go_wp2_with fail
 refine (l02Width_any _ _ _ _).mono ?_; rintro e2 w2 ⟨rfl, h2⟩; rw [HM.out]
 have s2 := h2.size
 go_wp2
 have hO : OwnI (w2.alloc (.cells (madeCells #[.int .i64 0] m) 3)) w1.heap.size (.slice (some ⟨w2.heap.size, 0, none⟩) m m) (List.replicate m 0) := by
  have h := Blk.new w2 (madeCells #[.int .i64 0] m) 3
  rw [made_zero] at h
  have := OwnI.of (B := w1.heap.size) (l := List.replicate m 0) s2 h (by simp [maxLen]; omega)
  simpa using this
 go_loopw [22] (fun i wr => ∃ (j : Nat) (xs : List Int), j ≤ m ∧ i = .int .i64 j ∧ xs.length = m ∧ (∀ y ∈ xs, 0 ≤ y ∧ y ≤ top) ∧ OwnI wr w1.heap.size (.slice (some ⟨w2.heap.size, 0, none⟩) m m) xs ∧ Cur wr b l ∧ w.grownBy wr (some b) ∧
  Blk wr w.heap.size 24 [.int .i64 k, .int .i64 p, .int .i64 n] ∧ w2.heap.size < wr.heap.size) (fun i wr => m - (RowKit.intOf i).toNat)
 case atStart => exact ⟨0, List.replicate m 0, Nat.zero_le _, rfl, by simp, fun y hy => by have := (List.mem_replicate.1 hy).2; omega, hO, (c1.ext h2).ext (by repeat' (first | (with_reducible first | exact Ext.refl _ | assumption | apply Ext.alloc | apply Ext.drew | apply Ext.drewN) | (refine Ext.setAt ?_ (by omega) _ _) | (refine Ext.trans ?_ (by assumption)))), grown_ext G1 (show Ext w1 _ from (by repeat' (first | (with_reducible first | exact Ext.refl _ | assumption | apply Ext.alloc | apply Ext.drew | apply Ext.drewN) | (refine Ext.setAt ?_ (by omega) _ _) | (refine Ext.trans ?_ (by assumption))))), BK.ext (show Ext w1 _ from (by repeat' (first | (with_reducible first | exact Ext.refl _ | assumption | apply Ext.alloc | apply Ext.drew | apply Ext.drewN) | (refine Ext.setAt ?_ (by omega) _ _) | (refine Ext.trans ?_ (by assumption))))), by simp⟩
 case round =>
  obtain ⟨j, xs, hj, rfl, hxl, hxs, hV, hC, hG, hK, hS⟩ := hrel
  have HXL := Lib.hid hxl; clear hxl
  have HXS := Lib.hid hxs; clear hxs
  by_cases hlt : j < m
  · have j0 := hK.cell (j := 0) rfl
    have j1 := hK.cell (j := 1) rfl
    have j2 := hK.cell (j := 2) rfl
    have hKl2 := hK.lt
    go_wp2_with fail
    refine (l02Top_any _ _ _ hf _).mono ?_; rintro e3 w3 ⟨rfl, h3⟩; rw [HT.out]
    have s3 := h3.size
    have hK3 := hK.ext h3
    have hC3 := hC.ext h3
    have hV3 := hV.ext h3
    have hG3 := grown_ext hG h3
    have hmin : 1 ≤ min 256 (top + 1) ∧ min 256 (top + 1) ≤ top + 1 := by omega
    go_wp2_with fail
    all_goals
     refine (l01Below_any b _ _ hC3 (by omega)).mono ?_; rintro e4 w4 ⟨y, rfl, ⟨y0, _, y1⟩, c4, g4⟩
     have yt : y ≤ top := by have := y1 (by omega); omega
     clear y1
     have hjx : j < xs.length := by have := HXL.out; omega
     have hV4 := hV3.onlyB g4 hb1
     obtain ⟨o4, f4⟩ := hV4.cell (List.getElem?_eq_getElem hjx)
     generalize xs[j] = a4 at o4
     have hV5 := hV4.set j hjx y
     have hK4 := (hK3.block (g4.block _ (by omega) (by simp; omega))).other (p := ⟨w2.heap.size, j, none⟩) (by simp; omega) (.int .i64 y)
     have G4 : w.grownBy (w4.setCell ⟨w2.heap.size, j, none⟩ (.int .i64 y)) (some b) := (grownBy_trans hG3 g4).setNew (by omega) _
     have c5 := c4.setOther (q := w2.heap.size) (o := j) (by omega) (.int .i64 y)
     have s4 := g4.size
     clear hjx
     go_wp2_with fail
     refine (l01Once_any b 12 _ c5 (by omega)).mono ?_; rintro e6 w6 ⟨z, rfl, c6, g6⟩
     have hV6 := hV5.onlyB g6 hb1
     have hK6 := hK4.block (g6.block _ (by simp [World.setCell]; omega) (by simp; omega))
     have G6 := grownBy_trans G4 g6
     have s6 := g6.size
     simp [World.setCell] at s6
     cases z
     · go_wp2
       go_roundw
       case rel => exact ⟨j + 1, _, by omega, by go_num, by rw [List.length_set]; exact HXL.out, fun v hv => by rcases List.mem_or_eq_of_mem_set hv with h | h; exact HXS.out v h; omega, hV6, c6, G6, hK6, by omega⟩
       case measure => simp [RowKit.intOf]; omega
     · have k0 := hK6.cell (j := 0) rfl
       have k1 := hK6.cell (j := 1) rfl
       have k2 := hK6.cell (j := 2) rfl
       have hKl6 := hK6.lt
       go_wp2_with fail
       refine (l02Top_any _ _ _ hf _).mono ?_; rintro e7 w7 ⟨rfl, h7⟩; rw [HT.out]
       have s7 := h7.size
       have hV7 := hV6.ext h7
       have hjx : j < (xs.set j y).length := by have := HXL.out; rw [List.length_set]; omega
       obtain ⟨o7, f7⟩ := hV7.cell (List.getElem?_eq_getElem hjx)
       generalize (xs.set j y)[j] = a7 at o7
       have hV8 := hV7.set j hjx top
       have hK8 := (hK6.ext h7).other (p := ⟨w2.heap.size, j, none⟩) (by simp; omega) (.int .i64 top)
       have G8 : w.grownBy (w7.setCell ⟨w2.heap.size, j, none⟩ (.int .i64 top)) (some b) := (grown_ext G6 h7).setNew (by omega) _
       have c8 := (c6.ext h7).setOther (q := w2.heap.size) (o := j) (by omega) (.int .i64 top)
       clear hjx
       go_wp2
       go_roundw
       case rel => exact ⟨j + 1, _, by omega, by go_num, by rw [List.length_set, List.length_set]; exact HXL.out, fun v hv => by rcases List.mem_or_eq_of_mem_set hv with h | h; (rcases List.mem_or_eq_of_mem_set h with h | h; exact HXS.out v h; omega); omega, hV8, c8, G8, hK8, by first | omega | (simp; omega)⟩
       case measure => simp [RowKit.intOf]; omega
  · have : j = m := by omega
    subst this
    go_wp2
    go_ret
    refine ⟨_, _, rfl, hV.mono (by omega), ?_, hC, hG⟩
    rw [rawOk_iff, HM.out, HT.out, HXL.out]
    exact ⟨rfl, HXS.out⟩
theorem Code.ext {w w' : World} {v : Value} {l : List Int} (h : Code w v l) (e : Ext w w') : Code w' v l := ⟨⟨h.bytes.row.ext e⟩, h.all, h.len⟩
theorem makeRing_any (v : Value) (l : List Int) (c : Int) (w : World) (hl : Code w v l) (hn : 0 ≤ c ∧ c ≤ 1000000) : Calls Tryz.prog 5 #[v, .int .i64 c] w fun e w' =>
 ∃ k p n, e = .returned (ringV k p n) ∧ Drawn k p n ∧ Ext w w' := by
 obtain ⟨a, cap, rfl, hc1, hc2⟩ := hl.bytes.val
 go_enter Tryz.func5, Tryz.ntmps5
 go_wp2_with fail
 refine (l45At_any _ l _ _ (hl.ext (by repeat' (first | (with_reducible first | exact Ext.refl _ | assumption | apply Ext.alloc | apply Ext.drew | apply Ext.drewN) | (refine Ext.setAt ?_ (by omega) _ _) | (refine Ext.trans ?_ (by assumption))))) hn).mono ?_; rintro e1 w1 ⟨b, rfl, hb, c1, h1⟩
 simp at hb
 have BR : Blk w1 w.heap.size 24 [.int .i64 0, .int .i64 0, .int .i64 0] := (Blk.new w #[.int .i64 0, .int .i64 0, .int .i64 0] 24).ext h1
 go_wp2_with fail
 refine (l02Ring_any b _ c1).mono ?_; rintro e2 w2 ⟨k, p, n, rfl, hd, c2, g2⟩
 have B2 := BR.block (g2.block _ BR.lt (by simp; omega))
 have f0 := B2.free 0
 have f1 := B2.free 1
 have f2 := B2.free 2
 have r0 := B2.cell (j := 0) rfl
 have r1 := B2.cell (j := 1) rfl
 have r2 := B2.cell (j := 2) rfl
 have hRl := B2.lt
 have E2 : Ext w w2 := (show Ext w w1 from (by repeat' (first | (with_reducible first | exact Ext.refl _ | assumption | apply Ext.alloc | apply Ext.drew | apply Ext.drewN) | (refine Ext.setAt ?_ (by omega) _ _) | (refine Ext.trans ?_ (by assumption))))).only g2 (fun k hk => by injection hk with hk; omega)
 go_wp2
 refine bodyPost_ret (v := ringV k p n) (by simp [results, Tryz.results5, go_sem, *]) rfl ?_
 exact ⟨k, p, n, rfl, hd, (by repeat' (first | (with_reducible first | exact Ext.refl _ | assumption | apply Ext.alloc | apply Ext.drew | apply Ext.drewN) | (refine Ext.setAt ?_ (by omega) _ _) | (refine Ext.trans ?_ (by assumption))))⟩
end Go.Proofs.YtlgjddgajdjllaaGreatDoor
