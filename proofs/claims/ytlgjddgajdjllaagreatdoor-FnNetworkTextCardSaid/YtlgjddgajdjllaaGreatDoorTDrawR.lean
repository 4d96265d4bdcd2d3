/- Drawn rings, elements and numbers. -/
import Derived.Test.YtlgjddgajdjllaaGreatDoorTClosed
set_option linter.unusedSimpArgs false
set_option linter.unusedVariables false
namespace Go.Proofs.YtlgjddgajdjllaaGreatDoor
open Go.RowKit
def Drawn (k p n : Int) : Prop := (k = 1 ∧ p = 0 ∧ n = 0) ∨ (k = 2 ∧ p ∈ [(2 : Int), 3, 7, 97, 1000003] ∧ n = 0) ∨ ((k = 3 ∨ k = 4 ∨ k = 5) ∧ p ∈ [(1 : Int), 2, 9, 40, 1000000] ∧ n = 0) ∨
  (k = 6 ∧ p = 0 ∧ n ∈ [(1 : Int), 3, 5, 20]) ∨ (k = 7 ∧ p ∈ [(2 : Int), 5, 101] ∧ 1 ≤ n ∧ n ≤ 4) ∨ (k = 8 ∧ p ∈ [(3 : Int), 17, 97, 1000003] ∧ n = 0)
theorem prime_list : ∀ p ∈ [(2 : Int), 3, 5, 7, 17, 97, 101, 1000003], isPrime p = true := by decide +kernel
theorem drawn_ok {k p n : Int} (h : Drawn k p n) : ringOk k p n = true := by
  rcases h with ⟨rfl, rfl, rfl⟩ | ⟨rfl, h, rfl⟩ | ⟨hk, h, rfl⟩ | ⟨rfl, rfl, h⟩ | ⟨rfl, h, h1, h2⟩ | ⟨rfl, h, rfl⟩
  · rfl
  · have : isPrime p = true := prime_list p (by simp at h ⊢; omega)
    simp [ringOk, this]
  · simp at h
    rcases hk with rfl | rfl | rfl <;> simp [ringOk] <;> omega
  · simp at h
    simp [ringOk]; omega
  · have : isPrime p = true := prime_list p (by simp at h ⊢; omega)
    simp [ringOk, this]; omega
  · have : isPrime p = true := prime_list p (by simp at h ⊢; omega)
    simp at h
    simp [ringOk, this]; omega
theorem built (w : World) (l : List Int) (c : Array Value) (b n : Nat) (hc : c = (ints l).toArray) (hb : b = w.heap.size) (hn : n = l.length) (hl : l.length ≤ maxLen) : OwnI (w.alloc (.cells c 3)) w.heap.size (.slice (some ⟨b, 0, none⟩) n n) l := by
  subst hc; subst hb; subst hn
  exact OwnI.of (Nat.le_refl _) (Blk.new w _ 3) hl
theorem _root_.Go.World.grownBy.setNew {w w' : World} {b : Nat} (g : w.grownBy w' (some b)) {q o : Nat} (hq : w.heap.size ≤ q) (u : Value) : w.grownBy (w'.setCell ⟨q, o, none⟩ u) (some b) :=
  ⟨g.os, g.tape, g.output, by have := g.size; simpa [World.setCell] using this, fun k hk hne => by
    rw [Below.heap_setCell _ _ _ _ (fun e => by have : q = k := by rw [e]
                                                omega)]; exact g.block k hk hne⟩
set_option maxRecDepth 100000 in
set_option maxHeartbeats 2000000 in
theorem l02Ring_any (b : Nat) {l : List Int} (w : World) (hc : Cur w b l) : Calls Tryz.prog 15 #[.pointer (some ⟨b, 0, none⟩)] w fun e w' =>
 ∃ k p n, e = .returned (ringV k p n) ∧ Drawn k p n ∧ Cur w' b l ∧ w.grownBy w' (some b) := by
 have hbl := hc.lt
 have hc0 : Cur (w.alloc (.cells #[.int .i64 0, .int .i64 0, .int .i64 0] 24)) b l := hc.ext (by repeat' (first | (with_reducible first | exact Ext.refl _ | assumption | apply Ext.alloc | apply Ext.drew | apply Ext.drewN) | (refine Ext.setAt ?_ (by omega) _ _) | (refine Ext.trans ?_ (by assumption))))
 have G0 : w.grownBy (w.alloc (.cells #[.int .i64 0, .int .i64 0, .int .i64 0] 24)) (some b) := (by repeat' (first | (with_reducible exact grown_refl _ _) | (with_reducible assumption) | (with_reducible apply grown_alloc) | (with_reducible apply grown_drew) | (with_reducible apply grown_drewN) | (with_reducible refine grown_setCell ?_ _ _) | (refine grownBy_trans ?_ (by assumption))))
 go_enter Tryz.func15, Tryz.ntmps15
 go_wp2_with fail
 refine (l01Below_any b 8 _ hc0 (by omega)).mono ?_; rintro e1 w1 ⟨x, rfl, ⟨x0, _, x1⟩, c1, g1⟩
 have x8 := x1 (by omega)
 clear x1
 have G1 : w.grownBy w1 (some b) := grownBy_trans G0 g1
 have BR : Blk w1 w.heap.size 24 [.int .i64 0, .int .i64 0, .int .i64 0] := (Blk.new w #[.int .i64 0, .int .i64 0, .int .i64 0] 24).block (g1.block _ (by simp) (by simp; omega))
 have f0 := BR.free 0
 have f1 := BR.free 1
 have f2 := BR.free 2
 have r0 := BR.cell (j := 0) rfl
 have r1 := BR.cell (j := 1) rfl
 have r2 := BR.cell (j := 2) rfl
 have hRl := BR.lt
 have hb1 := c1.lt
 have hbne : b ≠ w.heap.size := by omega
 -- the end of each way: a world that has turned at b and behind, then the ring is stored
 have hend : ∀ (w2 : World) (k p n : Int), Cur w2 b l → w.grownBy w2 (some b) → Cur (((w2.setCell ⟨w.heap.size, 0, none⟩ (.int .i64 k)).setCell ⟨w.heap.size, 1, none⟩ (.int .i64 p)).setCell ⟨w.heap.size, 2, none⟩ (.int .i64 n)) b l ∧
  w.grownBy (((w2.setCell ⟨w.heap.size, 0, none⟩ (.int .i64 k)).setCell ⟨w.heap.size, 1, none⟩ (.int .i64 p)).setCell ⟨w.heap.size, 2, none⟩ (.int .i64 n)) (some b) := by
  intro w2 k p n c g
  exact ⟨((c.setOther hbl _).setOther hbl _).setOther hbl _, ((g.setNew (Nat.le_refl _) _).setNew (Nat.le_refl _) _).setNew (Nat.le_refl _) _⟩
 have HEND := Lib.hid hend; clear hend
 have hx : x = 0 ∨ x = 1 ∨ x = 2 ∨ x = 3 ∨ x = 4 ∨ x = 5 ∨ x = 6 ∨ x = 7 := by omega
 rcases hx with rfl | rfl | rfl | rfl | rfl | rfl | rfl | rfl
 · go_wp2
   refine bodyPost_ret (v := ringV 1 0 0) (by simp [results, Tryz.results15, go_sem, *]) rfl ?_
   obtain ⟨u1, u2⟩ := HEND.out w1 1 0 0 c1 G1
   exact ⟨1, 0, 0, rfl, .inl ⟨rfl, rfl, rfl⟩, u1, u2⟩
 · go_wp2_with fail
   have ob := built w1 [2, 3, 7, 97, 1000003] _ _ _ rfl rfl rfl (by simp [maxLen])
   refine (l01Pick_any b _ [2, 3, 7, 97, 1000003] _ (c1.ext (by repeat' (first | (with_reducible first | exact Ext.refl _ | assumption | apply Ext.alloc | apply Ext.drew | apply Ext.drewN) | (refine Ext.setAt ?_ (by omega) _ _) | (refine Ext.trans ?_ (by assumption))))) ob.ints (by simp) (by simp) (by simp [Value.ownBlock]; omega)).mono ?_; rintro e2 w2 ⟨y, rfl, m2, c2, g2⟩
   have G2 : w.grownBy w2 (some b) := grownBy_trans (show w.grownBy _ (some b) from (by repeat' (first | (with_reducible exact grown_refl _ _) | (with_reducible assumption) | (with_reducible apply grown_alloc) | (with_reducible apply grown_drew) | (with_reducible apply grown_drewN) | (with_reducible refine grown_setCell ?_ _ _) | (refine grownBy_trans ?_ (by assumption))))) g2
   have B2 : Blk w2 w.heap.size 24 [.int .i64 0, .int .i64 0, .int .i64 0] := (BR.ext (show Ext w1 _ from (Ext.refl w1).alloc _)).block (g2.block _ (by simp; omega) (by simp; omega))
   clear f0 f1 f2 r0 r1 r2
   have f0 := B2.free 0
   have f1 := B2.free 1
   have f2 := B2.free 2
   have r0 := B2.cell (j := 0) rfl
   have r1 := B2.cell (j := 1) rfl
   have r2 := B2.cell (j := 2) rfl
   have hRl2 := B2.lt
   have M2 := Lib.hid m2; clear m2
   go_wp2
   refine bodyPost_ret (v := ringV 2 y 0) (by simp [results, Tryz.results15, go_sem, *]) rfl ?_
   have m2 := M2.out
   obtain ⟨u1, u2⟩ := HEND.out w2 2 y 0 c2 G2
   exact ⟨_, _, _, rfl, .inr (.inl ⟨rfl, m2, rfl⟩), u1, u2⟩
 · go_wp2_with fail
   have ob := built w1 [1, 2, 9, 40, 1000000] _ _ _ rfl rfl rfl (by simp [maxLen])
   refine (l01Pick_any b _ [1, 2, 9, 40, 1000000] _ (c1.ext (by repeat' (first | (with_reducible first | exact Ext.refl _ | assumption | apply Ext.alloc | apply Ext.drew | apply Ext.drewN) | (refine Ext.setAt ?_ (by omega) _ _) | (refine Ext.trans ?_ (by assumption))))) ob.ints (by simp) (by simp) (by simp [Value.ownBlock]; omega)).mono ?_; rintro e2 w2 ⟨y, rfl, m2, c2, g2⟩
   have G2 : w.grownBy w2 (some b) := grownBy_trans (show w.grownBy _ (some b) from (by repeat' (first | (with_reducible exact grown_refl _ _) | (with_reducible assumption) | (with_reducible apply grown_alloc) | (with_reducible apply grown_drew) | (with_reducible apply grown_drewN) | (with_reducible refine grown_setCell ?_ _ _) | (refine grownBy_trans ?_ (by assumption))))) g2
   have B2 : Blk w2 w.heap.size 24 [.int .i64 0, .int .i64 0, .int .i64 0] := (BR.ext (show Ext w1 _ from (Ext.refl w1).alloc _)).block (g2.block _ (by simp; omega) (by simp; omega))
   clear f0 f1 f2 r0 r1 r2
   have f0 := B2.free 0
   have f1 := B2.free 1
   have f2 := B2.free 2
   have r0 := B2.cell (j := 0) rfl
   have r1 := B2.cell (j := 1) rfl
   have r2 := B2.cell (j := 2) rfl
   have hRl2 := B2.lt
   have M2 := Lib.hid m2; clear m2
   go_wp2
   refine bodyPost_ret (v := ringV 3 y 0) (by simp [results, Tryz.results15, go_sem, *]) rfl ?_
   have m2 := M2.out
   obtain ⟨u1, u2⟩ := HEND.out w2 3 y 0 c2 G2
   exact ⟨_, _, _, rfl, .inr (.inr (.inl ⟨.inl rfl, m2, rfl⟩)), u1, u2⟩
 · go_wp2_with fail
   have ob := built w1 [1, 2, 9, 40, 1000000] _ _ _ rfl rfl rfl (by simp [maxLen])
   refine (l01Pick_any b _ [1, 2, 9, 40, 1000000] _ (c1.ext (by repeat' (first | (with_reducible first | exact Ext.refl _ | assumption | apply Ext.alloc | apply Ext.drew | apply Ext.drewN) | (refine Ext.setAt ?_ (by omega) _ _) | (refine Ext.trans ?_ (by assumption))))) ob.ints (by simp) (by simp) (by simp [Value.ownBlock]; omega)).mono ?_; rintro e2 w2 ⟨y, rfl, m2, c2, g2⟩
   have G2 : w.grownBy w2 (some b) := grownBy_trans (show w.grownBy _ (some b) from (by repeat' (first | (with_reducible exact grown_refl _ _) | (with_reducible assumption) | (with_reducible apply grown_alloc) | (with_reducible apply grown_drew) | (with_reducible apply grown_drewN) | (with_reducible refine grown_setCell ?_ _ _) | (refine grownBy_trans ?_ (by assumption))))) g2
   have B2 : Blk w2 w.heap.size 24 [.int .i64 0, .int .i64 0, .int .i64 0] := (BR.ext (show Ext w1 _ from (Ext.refl w1).alloc _)).block (g2.block _ (by simp; omega) (by simp; omega))
   clear f0 f1 f2 r0 r1 r2
   have f0 := B2.free 0
   have f1 := B2.free 1
   have f2 := B2.free 2
   have r0 := B2.cell (j := 0) rfl
   have r1 := B2.cell (j := 1) rfl
   have r2 := B2.cell (j := 2) rfl
   have hRl2 := B2.lt
   have M2 := Lib.hid m2; clear m2
   go_wp2
   refine bodyPost_ret (v := ringV 4 y 0) (by simp [results, Tryz.results15, go_sem, *]) rfl ?_
   have m2 := M2.out
   obtain ⟨u1, u2⟩ := HEND.out w2 4 y 0 c2 G2
   exact ⟨_, _, _, rfl, .inr (.inr (.inl ⟨.inr (.inl rfl), m2, rfl⟩)), u1, u2⟩
 · go_wp2_with fail
   have ob := built w1 [1, 2, 9, 40, 1000000] _ _ _ rfl rfl rfl (by simp [maxLen])
   refine (l01Pick_any b _ [1, 2, 9, 40, 1000000] _ (c1.ext (by repeat' (first | (with_reducible first | exact Ext.refl _ | assumption | apply Ext.alloc | apply Ext.drew | apply Ext.drewN) | (refine Ext.setAt ?_ (by omega) _ _) | (refine Ext.trans ?_ (by assumption))))) ob.ints (by simp) (by simp) (by simp [Value.ownBlock]; omega)).mono ?_; rintro e2 w2 ⟨y, rfl, m2, c2, g2⟩
   have G2 : w.grownBy w2 (some b) := grownBy_trans (show w.grownBy _ (some b) from (by repeat' (first | (with_reducible exact grown_refl _ _) | (with_reducible assumption) | (with_reducible apply grown_alloc) | (with_reducible apply grown_drew) | (with_reducible apply grown_drewN) | (with_reducible refine grown_setCell ?_ _ _) | (refine grownBy_trans ?_ (by assumption))))) g2
   have B2 : Blk w2 w.heap.size 24 [.int .i64 0, .int .i64 0, .int .i64 0] := (BR.ext (show Ext w1 _ from (Ext.refl w1).alloc _)).block (g2.block _ (by simp; omega) (by simp; omega))
   clear f0 f1 f2 r0 r1 r2
   have f0 := B2.free 0
   have f1 := B2.free 1
   have f2 := B2.free 2
   have r0 := B2.cell (j := 0) rfl
   have r1 := B2.cell (j := 1) rfl
   have r2 := B2.cell (j := 2) rfl
   have hRl2 := B2.lt
   have M2 := Lib.hid m2; clear m2
   go_wp2
   refine bodyPost_ret (v := ringV 5 y 0) (by simp [results, Tryz.results15, go_sem, *]) rfl ?_
   have m2 := M2.out
   obtain ⟨u1, u2⟩ := HEND.out w2 5 y 0 c2 G2
   exact ⟨_, _, _, rfl, .inr (.inr (.inl ⟨.inr (.inr rfl), m2, rfl⟩)), u1, u2⟩
 · go_wp2_with fail
   have ob := built w1 [1, 3, 5, 20] _ _ _ rfl rfl rfl (by simp [maxLen])
   refine (l01Pick_any b _ [1, 3, 5, 20] _ (c1.ext (by repeat' (first | (with_reducible first | exact Ext.refl _ | assumption | apply Ext.alloc | apply Ext.drew | apply Ext.drewN) | (refine Ext.setAt ?_ (by omega) _ _) | (refine Ext.trans ?_ (by assumption))))) ob.ints (by simp) (by simp) (by simp [Value.ownBlock]; omega)).mono ?_; rintro e2 w2 ⟨y, rfl, m2, c2, g2⟩
   have G2 : w.grownBy w2 (some b) := grownBy_trans (show w.grownBy _ (some b) from (by repeat' (first | (with_reducible exact grown_refl _ _) | (with_reducible assumption) | (with_reducible apply grown_alloc) | (with_reducible apply grown_drew) | (with_reducible apply grown_drewN) | (with_reducible refine grown_setCell ?_ _ _) | (refine grownBy_trans ?_ (by assumption))))) g2
   have B2 : Blk w2 w.heap.size 24 [.int .i64 0, .int .i64 0, .int .i64 0] := (BR.ext (show Ext w1 _ from (Ext.refl w1).alloc _)).block (g2.block _ (by simp; omega) (by simp; omega))
   clear f0 f1 f2 r0 r1 r2
   have f0 := B2.free 0
   have f1 := B2.free 1
   have f2 := B2.free 2
   have r0 := B2.cell (j := 0) rfl
   have r1 := B2.cell (j := 1) rfl
   have r2 := B2.cell (j := 2) rfl
   have hRl2 := B2.lt
   have M2 := Lib.hid m2; clear m2
   go_wp2
   refine bodyPost_ret (v := ringV 6 0 y) (by simp [results, Tryz.results15, go_sem, *]) rfl ?_
   have m2 := M2.out
   obtain ⟨u1, u2⟩ := HEND.out w2 6 0 y c2 G2
   exact ⟨_, _, _, rfl, .inr (.inr (.inr (.inl ⟨rfl, rfl, m2⟩))), u1, u2⟩
 · go_wp2_with fail
   have ob := built w1 [2, 5, 101] _ _ _ rfl rfl rfl (by simp [maxLen])
   refine (l01Pick_any b _ [2, 5, 101] _ (c1.ext (by repeat' (first | (with_reducible first | exact Ext.refl _ | assumption | apply Ext.alloc | apply Ext.drew | apply Ext.drewN) | (refine Ext.setAt ?_ (by omega) _ _) | (refine Ext.trans ?_ (by assumption))))) ob.ints (by simp) (by simp) (by simp [Value.ownBlock]; omega)).mono ?_; rintro e2 w2 ⟨y, rfl, m2, c2, g2⟩
   have G2 : w.grownBy w2 (some b) := grownBy_trans (show w.grownBy _ (some b) from (by repeat' (first | (with_reducible exact grown_refl _ _) | (with_reducible assumption) | (with_reducible apply grown_alloc) | (with_reducible apply grown_drew) | (with_reducible apply grown_drewN) | (with_reducible refine grown_setCell ?_ _ _) | (refine grownBy_trans ?_ (by assumption))))) g2
   have B2 : Blk w2 w.heap.size 24 [.int .i64 0, .int .i64 0, .int .i64 0] := (BR.ext (show Ext w1 _ from (Ext.refl w1).alloc _)).block (g2.block _ (by simp; omega) (by simp; omega))
   clear f0 f1 f2 r0 r1 r2
   have f0 := B2.free 0
   have f1 := B2.free 1
   have f2 := B2.free 2
   have r0 := B2.cell (j := 0) rfl
   have r1 := B2.cell (j := 1) rfl
   have r2 := B2.cell (j := 2) rfl
   have hRl2 := B2.lt
   go_wp2_with fail
   refine (l01Below_any b 4 _ c2 (by omega)).mono ?_; rintro e3 w3 ⟨z, rfl, ⟨z0, _, z1⟩, c3, g3⟩
   have z4 := z1 (by omega)
   clear z1
   have G3 : w.grownBy w3 (some b) := grownBy_trans G2 g3
   have B3 : Blk w3 w.heap.size 24 [.int .i64 0, .int .i64 0, .int .i64 0] := B2.block (g3.block _ hRl2 (by simp; omega))
   clear f0 f1 f2 r0 r1 r2
   have f0 := B3.free 0
   have f1 := B3.free 1
   have f2 := B3.free 2
   have r0 := B3.cell (j := 0) rfl
   have r1 := B3.cell (j := 1) rfl
   have r2 := B3.cell (j := 2) rfl
   have hRl3 := B3.lt
   have M2 := Lib.hid m2; clear m2
   go_wp2
   refine bodyPost_ret (v := ringV 7 y (1 + z)) (by simp [results, Tryz.results15, go_sem, *]) rfl ?_
   have m2 := M2.out
   obtain ⟨u1, u2⟩ := HEND.out w3 7 y (1 + z) c3 G3
   exact ⟨_, _, _, rfl, .inr (.inr (.inr (.inr (.inl ⟨rfl, m2, by omega, by omega⟩)))), u1, u2⟩
 · go_wp2_with fail
   have ob := built w1 [3, 17, 97, 1000003] _ _ _ rfl rfl rfl (by simp [maxLen])
   refine (l01Pick_any b _ [3, 17, 97, 1000003] _ (c1.ext (by repeat' (first | (with_reducible first | exact Ext.refl _ | assumption | apply Ext.alloc | apply Ext.drew | apply Ext.drewN) | (refine Ext.setAt ?_ (by omega) _ _) | (refine Ext.trans ?_ (by assumption))))) ob.ints (by simp) (by simp) (by simp [Value.ownBlock]; omega)).mono ?_; rintro e2 w2 ⟨y, rfl, m2, c2, g2⟩
   have G2 : w.grownBy w2 (some b) := grownBy_trans (show w.grownBy _ (some b) from (by repeat' (first | (with_reducible exact grown_refl _ _) | (with_reducible assumption) | (with_reducible apply grown_alloc) | (with_reducible apply grown_drew) | (with_reducible apply grown_drewN) | (with_reducible refine grown_setCell ?_ _ _) | (refine grownBy_trans ?_ (by assumption))))) g2
   have B2 : Blk w2 w.heap.size 24 [.int .i64 0, .int .i64 0, .int .i64 0] := (BR.ext (show Ext w1 _ from (Ext.refl w1).alloc _)).block (g2.block _ (by simp; omega) (by simp; omega))
   clear f0 f1 f2 r0 r1 r2
   have f0 := B2.free 0
   have f1 := B2.free 1
   have f2 := B2.free 2
   have r0 := B2.cell (j := 0) rfl
   have r1 := B2.cell (j := 1) rfl
   have r2 := B2.cell (j := 2) rfl
   have hRl2 := B2.lt
   have M2 := Lib.hid m2; clear m2
   go_wp2
   refine bodyPost_ret (v := ringV 8 y 0) (by simp [results, Tryz.results15, go_sem, *]) rfl ?_
   have m2 := M2.out
   obtain ⟨u1, u2⟩ := HEND.out w2 8 y 0 c2 G2
   exact ⟨_, _, _, rfl, .inr (.inr (.inr (.inr (.inr ⟨rfl, m2, rfl⟩)))), u1, u2⟩
end Go.Proofs.YtlgjddgajdjllaaGreatDoor
