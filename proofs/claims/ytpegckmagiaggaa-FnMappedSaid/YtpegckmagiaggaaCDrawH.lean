/- Drawn homomorphisms: l03Draw, MakeHom. -/
import Derived.Deep.RegionHeld3
import Derived.Test.YtpegckmagiaggaaCBase
import Derived.Test.YtpegckmagiaggaaCDrawE
namespace Go.Proofs.Ytpegckmagiaggaa
open Go.RowKit
set_option linter.unusedSimpArgs false
set_option linter.unusedVariables false

theorem Blk.keep {w w' : World} {a b : Nat} {T : TypeId} {xs : List Value} (h : Blk w a T xs) (g : w.grownBy w' (some b)) (hne : a ≠ b) : Blk w' a T xs := h.block (g.block a h.lt (by simpa using hne))
theorem Cur.drew {w : World} {b : Nat} {l : List Int} (h : Cur w b l) : Cur w.drew b l := h.ext ((Ext.refl _).drew)
theorem Blk.oth3 {w : World} {a q : Nat} {T : TypeId} {xs : List Value} (h : Blk w a T xs) (hne : q ≠ a) (u v z : Value) : Blk (((w.setCell ⟨q, 0, none⟩ u).setCell ⟨q, 1, none⟩ v).setCell ⟨q, 2, none⟩ z) a T xs :=
  ((h.other (p := ⟨q, 0, none⟩) hne u).other (p := ⟨q, 1, none⟩) hne v).other (p := ⟨q, 2, none⟩) hne z
theorem drawn6 {p n : Int} (h : Drawn 6 p n) : 1 ≤ n ∧ n ≤ 20 := by
  have := drawn_ok h; simp [ringOk] at this; omega
theorem drawn7 {p n : Int} (h : Drawn 7 p n) : 1 ≤ n ∧ n ≤ 4 := by
  simp [Drawn] at h; omega
theorem ok_of {fk fp fn tk tp tn hk ha : Int} (h : Drawn fk fp fn) (h2 : ringOk tk tp tn = true) (h3 : homRaw fk fp fn tk tp tn hk ha = true) : homOk fk fp fn tk tp tn hk ha = true := by
  rw [homOk_yes (drawn_ok h) h2]; exact h3
theorem ok1 {k p n : Int} (h : Drawn k p n) : homOk k p n k p n 1 0 = true := ok_of h (drawn_ok h) (by simp [homRaw])
theorem ok2 {k p n : Int} (h : Drawn k p n) (hk : k = 3 ∨ k = 4) : homOk k p n 1 0 0 2 0 = true := ok_of h (by rfl) (by simp [homRaw]; omega)
theorem ok3 {p n x : Int} (h : Drawn 6 p n) (h0 : 0 ≤ x) (h1 : x < n) : homOk 6 p n 1 0 0 3 x = true := ok_of h (by rfl) (by simp [homRaw]; omega)
theorem ok4 {p n x : Int} (h : Drawn 5 p n) (h0 : 1 ≤ x) (h1 : x ≤ p) : homOk 5 p n 1 0 0 4 x = true := ok_of h (by rfl) (by simp [homRaw]; omega)
theorem ok5 {p n : Int} (h : Drawn 7 p n) : homOk 7 p n 2 p 0 5 0 = true := ok_of h (by have := drawn_ok h; simp [ringOk] at this ⊢; exact this.1.1) (by simp [homRaw])
theorem ok6a {n : Int} (h : Drawn 8 17 n) : homOk 8 17 n 2 17 0 6 2 = true := ok_of h (by decide +kernel) (by simp [homRaw, rootOk])
theorem ok6b {n : Int} (h : Drawn 8 97 n) : homOk 8 97 n 2 97 0 6 64 = true := ok_of h (by decide +kernel) (by simp [homRaw, rootOk])
theorem ok7a {p n x : Int} (h : Drawn 7 p n) (h0 : 1 ≤ x) (h1 : x ≤ n) : homOk 7 p n 7 p x 7 0 = true :=
  ok_of h (by have := drawn_ok h; simp [ringOk] at this ⊢; exact ⟨⟨this.1.1, h0⟩, by omega⟩) (by simp [homRaw, cutOk]; omega)
theorem ok7b {p n x : Int} (h : Drawn 6 p n) (h0 : 1 ≤ x) (h1 : x ≤ n) : homOk 6 p n 6 0 x 7 0 = true := by
  have h6 := drawn6 h
  exact ok_of h (by simp [ringOk]; omega) (by simp [homRaw, cutOk]; omega)
theorem ok7c {k p n x : Int} (h : Drawn k p n) (hk : k = 3 ∨ k = 4 ∨ k = 5) (h0 : 1 ≤ x) (h1 : x ≤ p) : homOk k p n k x n 7 0 = true := by
  have ho := drawn_ok h
  refine ok_of h ?_ ?_
  · rcases hk with rfl | rfl | rfl <;> (simp [ringOk] at ho ⊢; omega)
  · rcases hk with rfl | rfl | rfl <;> simp [homRaw, cutOk] <;> omega
theorem ok8a {p n y x : Int} (h : Drawn 1 p n) (hy : y ∈ [(4 : Int), 5]) (h0 : 1 ≤ x) (h1 : x ≤ 9) : homOk 1 p n y x 0 8 0 = true := by
  simp at hy
  refine ok_of h ?_ ?_
  · rcases hy with rfl | rfl <;> (simp [ringOk]; omega)
  · rcases hy with rfl | rfl <;> simp [homRaw]
theorem ok8b {p n x : Int} (h : Drawn 1 p n) (h0 : 1 ≤ x) (h1 : x ≤ 9) : homOk 1 p n 6 0 x 8 0 = true := by
  refine ok_of h ?_ ?_
  · simp [ringOk]; omega
  · simp [homRaw]
set_option maxRecDepth 100000 in
set_option maxHeartbeats 20000000 in
theorem l03Draw_any (b : Nat) {l : List Int} (w : World) (hc : Cur w b l) : Calls Try.prog 115 #[.pointer (some ⟨b, 0, none⟩)] w fun e w' =>
    ∃ fk fp fn tk tp tn hk ha, e = .returned (.tuple #[ringV fk fp fn, ringV tk tp tn, homV hk ha]) ∧ (Drawn fk fp fn ∧ homOk fk fp fn tk tp tn hk ha = true) ∧ Cur w' b l ∧ w.grownBy w' (some b) := by
  have hbl := hc.lt
  obtain ⟨W0, hW0⟩ : ∃ W0, ((w.alloc (.cells #[.int .i64 0, .int .i64 0, .int .i64 0] 24)).alloc (.cells #[.int .i64 0, .int .i64 0, .int .i64 0] 24)).alloc (.cells #[.int .i64 0, .int .i64 0] 56) = W0 := ⟨_, rfl⟩
  have E0 : Ext w W0 := by rw [← hW0]; exact (by repeat' (first | (with_reducible exact Ext.refl _) | (with_reducible assumption) | (with_reducible apply Ext.alloc) | (with_reducible apply Ext.drew) | (with_reducible apply Ext.drewN) | (refine Ext.setAt ?_ (by omega) _ _) | (refine Ext.trans ?_ (by assumption))))
  have R2 : Blk W0 w.heap.size 24 [.int .i64 0, .int .i64 0, .int .i64 0] := by rw [← hW0]; exact Blk.ext (Blk.new w #[.int .i64 0, .int .i64 0, .int .i64 0] 24) (by repeat' (first | (with_reducible exact Ext.refl _) | (with_reducible assumption) | (with_reducible apply Ext.alloc) | (with_reducible apply Ext.drew) | (with_reducible apply Ext.drewN) | (refine Ext.setAt ?_ (by omega) _ _) | (refine Ext.trans ?_ (by assumption))))
  have R3 : Blk W0 (w.heap.size + 1) 24 [.int .i64 0, .int .i64 0, .int .i64 0] := by rw [← hW0]; exact Blk.ext (w := (w.alloc (.cells #[.int .i64 0, .int .i64 0, .int .i64 0] 24)).alloc (.cells #[.int .i64 0, .int .i64 0, .int .i64 0] 24)) (by simpa using Blk.new (w.alloc (.cells #[.int .i64 0, .int .i64 0, .int .i64 0] 24)) #[.int .i64 0, .int .i64 0, .int .i64 0] 24) (by repeat' (first | (with_reducible exact Ext.refl _) | (with_reducible assumption) | (with_reducible apply Ext.alloc) | (with_reducible apply Ext.drew) | (with_reducible apply Ext.drewN) | (refine Ext.setAt ?_ (by omega) _ _) | (refine Ext.trans ?_ (by assumption))))
  have R4 : Blk W0 (w.heap.size + 1 + 1) 56 [.int .i64 0, .int .i64 0] := by rw [← hW0]; simpa using Blk.new ((w.alloc (.cells #[.int .i64 0, .int .i64 0, .int .i64 0] 24)).alloc (.cells #[.int .i64 0, .int .i64 0, .int .i64 0] 24)) #[.int .i64 0, .int .i64 0] 56
  have HW0 := Lib.hid hW0; clear hW0
  go_enter Try.func115, Try.ntmps115
  go_wp2_with fail
  rw [HW0.out]
  refine (l02Ring_any b _ (hc.ext E0)).mono ?_; rintro e1 w1 ⟨k, p, n, rfl, hd, c1, g1⟩
  have s1 := g1.size
  have q4 := R4.lt
  have R2a := R2.keep g1 (by omega)
  have R3a := R3.keep g1 (by omega)
  have R4a := R4.keep g1 (by omega)
  have lt4 := R4a.lt
  clear R2 R3 R4 q4
  obtain ⟨WA, hWA⟩ : ∃ WA, (w1.alloc (.cells #[.int .i64 k, .int .i64 p, .int .i64 n] 24)).alloc (.cells #[.int .i64 1, .int .i64 0, .int .i64 0] 24) = WA := ⟨_, rfl⟩
  have EA : Ext w1 WA := by rw [← hWA]; exact (by repeat' (first | (with_reducible exact Ext.refl _) | (with_reducible assumption) | (with_reducible apply Ext.alloc) | (with_reducible apply Ext.drew) | (with_reducible apply Ext.drewN) | (refine Ext.setAt ?_ (by omega) _ _) | (refine Ext.trans ?_ (by assumption))))
  have R2 := R2a.ext EA
  have R3 := R3a.ext EA
  have R4 := R4a.ext EA
  have RF : Blk WA w1.heap.size 24 [.int .i64 k, .int .i64 p, .int .i64 n] := by rw [← hWA]; exact Blk.ext (Blk.new w1 #[.int .i64 k, .int .i64 p, .int .i64 n] 24) (by repeat' (first | (with_reducible exact Ext.refl _) | (with_reducible assumption) | (with_reducible apply Ext.alloc) | (with_reducible apply Ext.drew) | (with_reducible apply Ext.drewN) | (refine Ext.setAt ?_ (by omega) _ _) | (refine Ext.trans ?_ (by assumption))))
  have RT : Blk WA (w1.heap.size + 1) 24 [.int .i64 1, .int .i64 0, .int .i64 0] := by rw [← hWA]; simpa using Blk.new (w1.alloc (.cells #[.int .i64 k, .int .i64 p, .int .i64 n] 24)) #[.int .i64 1, .int .i64 0, .int .i64 0] 24
  have cA := c1.ext EA
  have GA : w.grownBy WA (some b) := grown_ext (grownBy_trans (grown_ext (grown_refl w _) E0) g1) EA
  have SA : Hid (WA.heap.size = w1.heap.size + 1 + 1) := Lib.hid (by rw [← hWA]; simp)
  have HWA := Lib.hid hWA; clear hWA
  clear R2a R3a R4a
  have hb1 := c1.lt
  have n1 : ¬ w.heap.size = w1.heap.size := by omega
  have n2 : ¬ w.heap.size = w1.heap.size + 1 := by omega
  have n3 : ¬ w.heap.size + 1 = w1.heap.size := by omega
  have n5 : ¬ w.heap.size + 1 + 1 = w1.heap.size := by omega
  have n6 : ¬ w.heap.size + 1 + 1 = w1.heap.size + 1 := by omega
  have m1 : ¬ w1.heap.size = w.heap.size := by omega
  have m2 : ¬ w1.heap.size + 1 = w.heap.size := by omega
  have m3 : ¬ w1.heap.size = w.heap.size + 1 := by omega
  have m5 : ¬ w1.heap.size = w.heap.size + 1 + 1 := by omega
  have m6 : ¬ w1.heap.size + 1 = w.heap.size + 1 + 1 := by omega
  have HD := Lib.hid hd
  have hk : k = 1 ∨ k = 2 ∨ k = 3 ∨ k = 4 ∨ k = 5 ∨ k = 6 ∨ k = 7 ∨ k = 8 := by rcases hd with ⟨rfl, _⟩ | ⟨rfl, _⟩ | ⟨h, _⟩ | ⟨rfl, _⟩ | ⟨rfl, _⟩ | ⟨rfl, _⟩ <;> omega
  clear hd
  have f0 := RF.cell (j := 0) rfl
  have f1 := RF.cell (j := 1) rfl
  have f2 := RF.cell (j := 2) rfl
  have t0 := RT.cell (j := 0) rfl
  have t1 := RT.cell (j := 1) rfl
  have t2 := RT.cell (j := 2) rfl
  have y0 := RT.free 0
  have y1 := RT.free 1
  have y2 := RT.free 2
  have a0 := R2.cell (j := 0) rfl
  have a1 := R2.cell (j := 1) rfl
  have a2 := R2.cell (j := 2) rfl
  have b0 := R3.cell (j := 0) rfl
  have b1 := R3.cell (j := 1) rfl
  have b2 := R3.cell (j := 2) rfl
  have d0 := R4.cell (j := 0) rfl
  have d1 := R4.cell (j := 1) rfl
  have x20 := R2.free 0
  have x21 := R2.free 1
  have x22 := R2.free 2
  have x30 := R3.free 0
  have x31 := R3.free 1
  have x32 := R3.free 2
  have x40 := R4.free 0
  have x41 := R4.free 1
  have lR2 := R2.lt
  have lR3 := R3.lt
  have lR4 := R4.lt
  have lRF := RF.lt
  have lRT := RT.lt
  rcases hk with rfl | rfl | rfl | rfl | rfl | rfl | rfl | rfl
  · go_wp2_with fail
    rw [HWA.out]
    have ob := built WA [4, 5] _ (w1.heap.size + 1 + 1) _ rfl SA.out.symm rfl (by simp [maxLen])
    have EB : Ext WA (WA.alloc (.cells #[.int .i64 4, .int .i64 5] 3)) := (by repeat' (first | (with_reducible exact Ext.refl _) | (with_reducible assumption) | (with_reducible apply Ext.alloc) | (with_reducible apply Ext.drew) | (with_reducible apply Ext.drewN) | (refine Ext.setAt ?_ (by omega) _ _) | (refine Ext.trans ?_ (by assumption))))
    have R2 := R2.ext EB
    have R3 := R3.ext EB
    have R4 := R4.ext EB
    have RF := RF.ext EB
    have RT := RT.ext EB
    have hGA := grown_ext GA EB
    clear GA
    have GA := hGA
    clear hGA
    refine (l01Pick_any b _ [4, 5] _ (cA.ext EB) ob.ints (by simp) (by simp) (by simp [Value.ownBlock]; omega)).mono ?_; rintro e2 w2 ⟨y, rfl, m2, c2, g2⟩
    clear f0 f1 f2 t0 t1 t2 y0 y1 y2 a0 a1 a2 b0 b1 b2 d0 d1 x20 x21 x22 x30 x31 x32 x40 x41
    have R2 := R2.keep g2 (by omega)
    have R3 := R3.keep g2 (by omega)
    have R4 := R4.keep g2 (by omega)
    have RF := RF.keep g2 (by omega)
    have RT := RT.keep g2 (by omega)
    have hG2 := grownBy_trans GA g2
    clear GA
    have GA := hG2
    clear hG2
    have f0 := RF.cell (j := 0) rfl
    have f1 := RF.cell (j := 1) rfl
    have f2 := RF.cell (j := 2) rfl
    have t0 := RT.cell (j := 0) rfl
    have t1 := RT.cell (j := 1) rfl
    have t2 := RT.cell (j := 2) rfl
    have y0 := RT.free 0
    have y1 := RT.free 1
    have y2 := RT.free 2
    have a0 := R2.cell (j := 0) rfl
    have a1 := R2.cell (j := 1) rfl
    have a2 := R2.cell (j := 2) rfl
    have b0 := R3.cell (j := 0) rfl
    have b1 := R3.cell (j := 1) rfl
    have b2 := R3.cell (j := 2) rfl
    have d0 := R4.cell (j := 0) rfl
    have d1 := R4.cell (j := 1) rfl
    have x20 := R2.free 0
    have x21 := R2.free 1
    have x22 := R2.free 2
    have x30 := R3.free 0
    have x31 := R3.free 1
    have x32 := R3.free 2
    have x40 := R4.free 0
    have x41 := R4.free 1
    have lR2 := R2.lt
    have lR3 := R3.lt
    have lR4 := R4.lt
    have lRF := RF.lt
    have lRT := RT.lt
    have M2 := Lib.hid m2; clear m2
    go_wp2_with fail
    refine (l01Below_any b 9 _ c2 (by omega)).mono ?_; rintro e3 w3 ⟨x3_, rfl, ⟨u3, _, v3⟩, c3, g3⟩
    have vv3 := v3 (by omega)
    clear v3
    clear f0 f1 f2 t0 t1 t2 y0 y1 y2 a0 a1 a2 b0 b1 b2 d0 d1 x20 x21 x22 x30 x31 x32 x40 x41
    have R2 := R2.keep g3 (by omega)
    have R3 := R3.keep g3 (by omega)
    have R4 := R4.keep g3 (by omega)
    have RF := RF.keep g3 (by omega)
    have RT := RT.keep g3 (by omega)
    have hGS := grownBy_trans GA g3
    clear GA
    have GA := hGS
    clear hGS
    have f0 := RF.cell (j := 0) rfl
    have f1 := RF.cell (j := 1) rfl
    have f2 := RF.cell (j := 2) rfl
    have t0 := RT.cell (j := 0) rfl
    have t1 := RT.cell (j := 1) rfl
    have t2 := RT.cell (j := 2) rfl
    have y0 := RT.free 0
    have y1 := RT.free 1
    have y2 := RT.free 2
    have a0 := R2.cell (j := 0) rfl
    have a1 := R2.cell (j := 1) rfl
    have a2 := R2.cell (j := 2) rfl
    have b0 := R3.cell (j := 0) rfl
    have b1 := R3.cell (j := 1) rfl
    have b2 := R3.cell (j := 2) rfl
    have d0 := R4.cell (j := 0) rfl
    have d1 := R4.cell (j := 1) rfl
    have x20 := R2.free 0
    have x21 := R2.free 1
    have x22 := R2.free 2
    have x30 := R3.free 0
    have x31 := R3.free 1
    have x32 := R3.free 2
    have x40 := R4.free 0
    have x41 := R4.free 1
    have lR2 := R2.lt
    have lR3 := R3.lt
    have lR4 := R4.lt
    have lRF := RF.lt
    have lRT := RT.lt
    go_wp2_with fail
    clear f0 f1 f2 t0 t1 t2 y0 y1 y2 a0 a1 a2 b0 b1 b2 d0 d1 x20 x21 x22 x30 x31 x32 x40 x41
    have R2 := R2.oth3 (q := w1.heap.size + 1) (by omega) (.int .i64 (y)) (.int .i64 (1 + x3_)) (.int .i64 (0))
    have R3 := R3.oth3 (q := w1.heap.size + 1) (by omega) (.int .i64 (y)) (.int .i64 (1 + x3_)) (.int .i64 (0))
    have R4 := R4.oth3 (q := w1.heap.size + 1) (by omega) (.int .i64 (y)) (.int .i64 (1 + x3_)) (.int .i64 (0))
    have RF := RF.oth3 (q := w1.heap.size + 1) (by omega) (.int .i64 (y)) (.int .i64 (1 + x3_)) (.int .i64 (0))
    have RT := ((RT.set 0 (.int .i64 (y))).set 1 (.int .i64 (1 + x3_))).set 2 (.int .i64 (0))
    have c4 := ((c3.setOther (q := w1.heap.size + 1) (o := 0) (by omega) (.int .i64 (y))).setOther (q := w1.heap.size + 1) (o := 1) (by omega) (.int .i64 (1 + x3_))).setOther (q := w1.heap.size + 1) (o := 2) (by omega) (.int .i64 (0))
    have hGS := ((GA.setNew (q := w1.heap.size + 1) (o := 0) (by omega) (.int .i64 (y))).setNew (q := w1.heap.size + 1) (o := 1) (by omega) (.int .i64 (1 + x3_))).setNew (q := w1.heap.size + 1) (o := 2) (by omega) (.int .i64 (0))
    clear GA
    have GA := hGS
    clear hGS
    have f0 := RF.cell (j := 0) rfl
    have f1 := RF.cell (j := 1) rfl
    have f2 := RF.cell (j := 2) rfl
    have t0 := RT.cell (j := 0) rfl
    have t1 := RT.cell (j := 1) rfl
    have t2 := RT.cell (j := 2) rfl
    have y0 := RT.free 0
    have y1 := RT.free 1
    have y2 := RT.free 2
    have a0 := R2.cell (j := 0) rfl
    have a1 := R2.cell (j := 1) rfl
    have a2 := R2.cell (j := 2) rfl
    have b0 := R3.cell (j := 0) rfl
    have b1 := R3.cell (j := 1) rfl
    have b2 := R3.cell (j := 2) rfl
    have d0 := R4.cell (j := 0) rfl
    have d1 := R4.cell (j := 1) rfl
    have x20 := R2.free 0
    have x21 := R2.free 1
    have x22 := R2.free 2
    have x30 := R3.free 0
    have x31 := R3.free 1
    have x32 := R3.free 2
    have x40 := R4.free 0
    have x41 := R4.free 1
    have lR2 := R2.lt
    have lR3 := R3.lt
    have lR4 := R4.lt
    have lRF := RF.lt
    have lRT := RT.lt
    refine (l01Once_any b 3 _ c4 (by omega)).mono ?_; rintro e5 w5 ⟨z5, rfl, c5, g5⟩
    clear f0 f1 f2 t0 t1 t2 y0 y1 y2 a0 a1 a2 b0 b1 b2 d0 d1 x20 x21 x22 x30 x31 x32 x40 x41
    have R2 := R2.keep g5 (by omega)
    have R3 := R3.keep g5 (by omega)
    have R4 := R4.keep g5 (by omega)
    have RF := RF.keep g5 (by omega)
    have RT := RT.keep g5 (by omega)
    have hGS := grownBy_trans GA g5
    clear GA
    have GA := hGS
    clear hGS
    have f0 := RF.cell (j := 0) rfl
    have f1 := RF.cell (j := 1) rfl
    have f2 := RF.cell (j := 2) rfl
    have t0 := RT.cell (j := 0) rfl
    have t1 := RT.cell (j := 1) rfl
    have t2 := RT.cell (j := 2) rfl
    have y0 := RT.free 0
    have y1 := RT.free 1
    have y2 := RT.free 2
    have a0 := R2.cell (j := 0) rfl
    have a1 := R2.cell (j := 1) rfl
    have a2 := R2.cell (j := 2) rfl
    have b0 := R3.cell (j := 0) rfl
    have b1 := R3.cell (j := 1) rfl
    have b2 := R3.cell (j := 2) rfl
    have d0 := R4.cell (j := 0) rfl
    have d1 := R4.cell (j := 1) rfl
    have x20 := R2.free 0
    have x21 := R2.free 1
    have x22 := R2.free 2
    have x30 := R3.free 0
    have x31 := R3.free 1
    have x32 := R3.free 2
    have x40 := R4.free 0
    have x41 := R4.free 1
    have lR2 := R2.lt
    have lR3 := R3.lt
    have lR4 := R4.lt
    have lRF := RF.lt
    have lRT := RT.lt
    cases z5
    · go_wp2_with fail
      go_region_held3 (fun w' => w'.cell? ⟨w1.heap.size, 0, none⟩ = some (.int .i64 1) ∧ w'.cell? ⟨w1.heap.size, 1, none⟩ = some (.int .i64 p) ∧ w'.cell? ⟨w1.heap.size, 2, none⟩ = some (.int .i64 n) ∧ w'.cell? ⟨w1.heap.size + 1, 0, none⟩ = some (.int .i64 y) ∧ w'.cell? ⟨w1.heap.size + 1, 1, none⟩ = some (.int .i64 (1 + x3_)) ∧ w'.cell? ⟨w1.heap.size + 1, 2, none⟩ = some (.int .i64 0)) (go_keep) (fail)
      all_goals
        have hw_x3_ : IntKind.i64.wrap (1 + x3_) = 1 + x3_ := by rw [IntKind.wrap_i64]; omega
        go_wp2
        refine bodyPost_ret (v := .tuple #[ringV 1 p n, ringV y (1 + x3_) 0, homV 8 0]) (by simp [results, Try.results115, go_sem, *]) rfl ?_
        exact ⟨_, _, _, _, _, _, _, _, rfl, ⟨HD.out, ok8a HD.out M2.out (by omega) (by omega)⟩, (by repeat' (first | (with_reducible assumption) | (with_reducible apply Cur.drew) | (with_reducible refine Cur.setOther ?_ ?_ _) | omega)), (by repeat' (first | (with_reducible assumption) | (with_reducible apply grown_drew) | (with_reducible refine World.grownBy.setNew ?_ ?_ _) | omega))⟩
    · go_wp2_with fail
      refine (l01Below_any b 9 _ c5 (by omega)).mono ?_; rintro e6 w6 ⟨x6_, rfl, ⟨u6, _, v6⟩, c6, g6⟩
      have vv6 := v6 (by omega)
      clear v6
      clear f0 f1 f2 t0 t1 t2 y0 y1 y2 a0 a1 a2 b0 b1 b2 d0 d1 x20 x21 x22 x30 x31 x32 x40 x41
      have R2 := R2.keep g6 (by omega)
      have R3 := R3.keep g6 (by omega)
      have R4 := R4.keep g6 (by omega)
      have RF := RF.keep g6 (by omega)
      have RT := RT.keep g6 (by omega)
      have hGS := grownBy_trans GA g6
      clear GA
      have GA := hGS
      clear hGS
      have f0 := RF.cell (j := 0) rfl
      have f1 := RF.cell (j := 1) rfl
      have f2 := RF.cell (j := 2) rfl
      have t0 := RT.cell (j := 0) rfl
      have t1 := RT.cell (j := 1) rfl
      have t2 := RT.cell (j := 2) rfl
      have y0 := RT.free 0
      have y1 := RT.free 1
      have y2 := RT.free 2
      have a0 := R2.cell (j := 0) rfl
      have a1 := R2.cell (j := 1) rfl
      have a2 := R2.cell (j := 2) rfl
      have b0 := R3.cell (j := 0) rfl
      have b1 := R3.cell (j := 1) rfl
      have b2 := R3.cell (j := 2) rfl
      have d0 := R4.cell (j := 0) rfl
      have d1 := R4.cell (j := 1) rfl
      have x20 := R2.free 0
      have x21 := R2.free 1
      have x22 := R2.free 2
      have x30 := R3.free 0
      have x31 := R3.free 1
      have x32 := R3.free 2
      have x40 := R4.free 0
      have x41 := R4.free 1
      have lR2 := R2.lt
      have lR3 := R3.lt
      have lR4 := R4.lt
      have lRF := RF.lt
      have lRT := RT.lt
      go_wp2_with fail
      clear f0 f1 f2 t0 t1 t2 y0 y1 y2 a0 a1 a2 b0 b1 b2 d0 d1 x20 x21 x22 x30 x31 x32 x40 x41
      have R2 := R2.oth3 (q := w1.heap.size + 1) (by omega) (.int .i64 (6)) (.int .i64 (0)) (.int .i64 (1 + x6_))
      have R3 := R3.oth3 (q := w1.heap.size + 1) (by omega) (.int .i64 (6)) (.int .i64 (0)) (.int .i64 (1 + x6_))
      have R4 := R4.oth3 (q := w1.heap.size + 1) (by omega) (.int .i64 (6)) (.int .i64 (0)) (.int .i64 (1 + x6_))
      have RF := RF.oth3 (q := w1.heap.size + 1) (by omega) (.int .i64 (6)) (.int .i64 (0)) (.int .i64 (1 + x6_))
      have RT := ((RT.set 0 (.int .i64 (6))).set 1 (.int .i64 (0))).set 2 (.int .i64 (1 + x6_))
      have c7 := ((c6.setOther (q := w1.heap.size + 1) (o := 0) (by omega) (.int .i64 (6))).setOther (q := w1.heap.size + 1) (o := 1) (by omega) (.int .i64 (0))).setOther (q := w1.heap.size + 1) (o := 2) (by omega) (.int .i64 (1 + x6_))
      have hGS := ((GA.setNew (q := w1.heap.size + 1) (o := 0) (by omega) (.int .i64 (6))).setNew (q := w1.heap.size + 1) (o := 1) (by omega) (.int .i64 (0))).setNew (q := w1.heap.size + 1) (o := 2) (by omega) (.int .i64 (1 + x6_))
      clear GA
      have GA := hGS
      clear hGS
      have f0 := RF.cell (j := 0) rfl
      have f1 := RF.cell (j := 1) rfl
      have f2 := RF.cell (j := 2) rfl
      have t0 := RT.cell (j := 0) rfl
      have t1 := RT.cell (j := 1) rfl
      have t2 := RT.cell (j := 2) rfl
      have y0 := RT.free 0
      have y1 := RT.free 1
      have y2 := RT.free 2
      have a0 := R2.cell (j := 0) rfl
      have a1 := R2.cell (j := 1) rfl
      have a2 := R2.cell (j := 2) rfl
      have b0 := R3.cell (j := 0) rfl
      have b1 := R3.cell (j := 1) rfl
      have b2 := R3.cell (j := 2) rfl
      have d0 := R4.cell (j := 0) rfl
      have d1 := R4.cell (j := 1) rfl
      have x20 := R2.free 0
      have x21 := R2.free 1
      have x22 := R2.free 2
      have x30 := R3.free 0
      have x31 := R3.free 1
      have x32 := R3.free 2
      have x40 := R4.free 0
      have x41 := R4.free 1
      have lR2 := R2.lt
      have lR3 := R3.lt
      have lR4 := R4.lt
      have lRF := RF.lt
      have lRT := RT.lt
      go_region_held3 (fun w' => w'.cell? ⟨w1.heap.size, 0, none⟩ = some (.int .i64 1) ∧ w'.cell? ⟨w1.heap.size, 1, none⟩ = some (.int .i64 p) ∧ w'.cell? ⟨w1.heap.size, 2, none⟩ = some (.int .i64 n) ∧ w'.cell? ⟨w1.heap.size + 1, 0, none⟩ = some (.int .i64 6) ∧ w'.cell? ⟨w1.heap.size + 1, 1, none⟩ = some (.int .i64 0) ∧ w'.cell? ⟨w1.heap.size + 1, 2, none⟩ = some (.int .i64 (1 + x6_))) (go_keep) (fail)
      all_goals
        have hw_x6_ : IntKind.i64.wrap (1 + x6_) = 1 + x6_ := by rw [IntKind.wrap_i64]; omega
        go_wp2
        refine bodyPost_ret (v := .tuple #[ringV 1 p n, ringV 6 0 (1 + x6_), homV 8 0]) (by simp [results, Try.results115, go_sem, *]) rfl ?_
        exact ⟨_, _, _, _, _, _, _, _, rfl, ⟨HD.out, ok8b HD.out (by omega) (by omega)⟩, (by repeat' (first | (with_reducible assumption) | (with_reducible apply Cur.drew) | (with_reducible refine Cur.setOther ?_ ?_ _) | omega)), (by repeat' (first | (with_reducible assumption) | (with_reducible apply grown_drew) | (with_reducible refine World.grownBy.setNew ?_ ?_ _) | omega))⟩
  · go_wp2_with fail
    rw [HWA.out]
    go_region_held3 (fun w' => w'.cell? ⟨w1.heap.size, 0, none⟩ = some (.int .i64 2) ∧ w'.cell? ⟨w1.heap.size, 1, none⟩ = some (.int .i64 p) ∧ w'.cell? ⟨w1.heap.size, 2, none⟩ = some (.int .i64 n)) (go_keep) (fail)
    all_goals
      go_wp2
      refine bodyPost_ret (v := .tuple #[ringV 2 p n, ringV 2 p n, homV 1 0]) (by simp [results, Try.results115, go_sem, *]) rfl ?_
      exact ⟨_, _, _, _, _, _, _, _, rfl, ⟨HD.out, ok1 HD.out⟩, (by repeat' (first | (with_reducible assumption) | (with_reducible apply Cur.drew) | (with_reducible refine Cur.setOther ?_ ?_ _) | omega)), (by repeat' (first | (with_reducible assumption) | (with_reducible apply grown_drew) | (with_reducible refine World.grownBy.setNew ?_ ?_ _) | omega))⟩
  · have hpp := ringOk_pos (drawn_ok HD.out) (by omega)
    obtain ⟨hp0, hp1⟩ := hpp
    go_wp2_with fail
    rw [HWA.out]
    refine (l01Once_any b 2 _ cA (by omega)).mono ?_; rintro e2 w2 ⟨z2, rfl, c2, g2⟩
    clear f0 f1 f2 t0 t1 t2 y0 y1 y2 a0 a1 a2 b0 b1 b2 d0 d1 x20 x21 x22 x30 x31 x32 x40 x41
    have R2 := R2.keep g2 (by omega)
    have R3 := R3.keep g2 (by omega)
    have R4 := R4.keep g2 (by omega)
    have RF := RF.keep g2 (by omega)
    have RT := RT.keep g2 (by omega)
    have hGS := grownBy_trans GA g2
    clear GA
    have GA := hGS
    clear hGS
    have f0 := RF.cell (j := 0) rfl
    have f1 := RF.cell (j := 1) rfl
    have f2 := RF.cell (j := 2) rfl
    have t0 := RT.cell (j := 0) rfl
    have t1 := RT.cell (j := 1) rfl
    have t2 := RT.cell (j := 2) rfl
    have y0 := RT.free 0
    have y1 := RT.free 1
    have y2 := RT.free 2
    have a0 := R2.cell (j := 0) rfl
    have a1 := R2.cell (j := 1) rfl
    have a2 := R2.cell (j := 2) rfl
    have b0 := R3.cell (j := 0) rfl
    have b1 := R3.cell (j := 1) rfl
    have b2 := R3.cell (j := 2) rfl
    have d0 := R4.cell (j := 0) rfl
    have d1 := R4.cell (j := 1) rfl
    have x20 := R2.free 0
    have x21 := R2.free 1
    have x22 := R2.free 2
    have x30 := R3.free 0
    have x31 := R3.free 1
    have x32 := R3.free 2
    have x40 := R4.free 0
    have x41 := R4.free 1
    have lR2 := R2.lt
    have lR3 := R3.lt
    have lR4 := R4.lt
    have lRF := RF.lt
    have lRT := RT.lt
    cases z2
    · skip
      by_cases hp2 : p ≤ 200
      · go_wp2_with fail
        clear f0 f1 f2 t0 t1 t2 y0 y1 y2 a0 a1 a2 b0 b1 b2 d0 d1 x20 x21 x22 x30 x31 x32 x40 x41
        have R2 := R2.oth3 (q := w1.heap.size + 1) (by omega) (.int .i64 (3)) (.int .i64 (p)) (.int .i64 (n))
        have R3 := R3.oth3 (q := w1.heap.size + 1) (by omega) (.int .i64 (3)) (.int .i64 (p)) (.int .i64 (n))
        have R4 := R4.oth3 (q := w1.heap.size + 1) (by omega) (.int .i64 (3)) (.int .i64 (p)) (.int .i64 (n))
        have RF := RF.oth3 (q := w1.heap.size + 1) (by omega) (.int .i64 (3)) (.int .i64 (p)) (.int .i64 (n))
        have RT := ((RT.set 0 (.int .i64 (3))).set 1 (.int .i64 (p))).set 2 (.int .i64 (n))
        have c2s := ((c2.setOther (q := w1.heap.size + 1) (o := 0) (by omega) (.int .i64 (3))).setOther (q := w1.heap.size + 1) (o := 1) (by omega) (.int .i64 (p))).setOther (q := w1.heap.size + 1) (o := 2) (by omega) (.int .i64 (n))
        have hGS := ((GA.setNew (q := w1.heap.size + 1) (o := 0) (by omega) (.int .i64 (3))).setNew (q := w1.heap.size + 1) (o := 1) (by omega) (.int .i64 (p))).setNew (q := w1.heap.size + 1) (o := 2) (by omega) (.int .i64 (n))
        clear GA
        have GA := hGS
        clear hGS
        have f0 := RF.cell (j := 0) rfl
        have f1 := RF.cell (j := 1) rfl
        have f2 := RF.cell (j := 2) rfl
        have t0 := RT.cell (j := 0) rfl
        have t1 := RT.cell (j := 1) rfl
        have t2 := RT.cell (j := 2) rfl
        have y0 := RT.free 0
        have y1 := RT.free 1
        have y2 := RT.free 2
        have a0 := R2.cell (j := 0) rfl
        have a1 := R2.cell (j := 1) rfl
        have a2 := R2.cell (j := 2) rfl
        have b0 := R3.cell (j := 0) rfl
        have b1 := R3.cell (j := 1) rfl
        have b2 := R3.cell (j := 2) rfl
        have d0 := R4.cell (j := 0) rfl
        have d1 := R4.cell (j := 1) rfl
        have x20 := R2.free 0
        have x21 := R2.free 1
        have x22 := R2.free 2
        have x30 := R3.free 0
        have x31 := R3.free 1
        have x32 := R3.free 2
        have x40 := R4.free 0
        have x41 := R4.free 1
        have lR2 := R2.lt
        have lR3 := R3.lt
        have lR4 := R4.lt
        have lRF := RF.lt
        have lRT := RT.lt
        refine (l01Below_any b p _ c2s (by omega)).mono ?_; rintro e3 w3 ⟨x3_, rfl, ⟨u3, _, v3⟩, c2b, g3⟩
        have vv3 := v3 (by omega)
        clear v3
        clear f0 f1 f2 t0 t1 t2 y0 y1 y2 a0 a1 a2 b0 b1 b2 d0 d1 x20 x21 x22 x30 x31 x32 x40 x41
        have R2 := R2.keep g3 (by omega)
        have R3 := R3.keep g3 (by omega)
        have R4 := R4.keep g3 (by omega)
        have RF := RF.keep g3 (by omega)
        have RT := RT.keep g3 (by omega)
        have hGS := grownBy_trans GA g3
        clear GA
        have GA := hGS
        clear hGS
        have f0 := RF.cell (j := 0) rfl
        have f1 := RF.cell (j := 1) rfl
        have f2 := RF.cell (j := 2) rfl
        have t0 := RT.cell (j := 0) rfl
        have t1 := RT.cell (j := 1) rfl
        have t2 := RT.cell (j := 2) rfl
        have y0 := RT.free 0
        have y1 := RT.free 1
        have y2 := RT.free 2
        have a0 := R2.cell (j := 0) rfl
        have a1 := R2.cell (j := 1) rfl
        have a2 := R2.cell (j := 2) rfl
        have b0 := R3.cell (j := 0) rfl
        have b1 := R3.cell (j := 1) rfl
        have b2 := R3.cell (j := 2) rfl
        have d0 := R4.cell (j := 0) rfl
        have d1 := R4.cell (j := 1) rfl
        have x20 := R2.free 0
        have x21 := R2.free 1
        have x22 := R2.free 2
        have x30 := R3.free 0
        have x31 := R3.free 1
        have x32 := R3.free 2
        have x40 := R4.free 0
        have x41 := R4.free 1
        have lR2 := R2.lt
        have lR3 := R3.lt
        have lR4 := R4.lt
        have lRF := RF.lt
        have lRT := RT.lt
        go_wp2_with fail
        clear f0 f1 f2 t0 t1 t2 y0 y1 y2 a0 a1 a2 b0 b1 b2 d0 d1 x20 x21 x22 x30 x31 x32 x40 x41
        have R2 := R2.other (p := ⟨w1.heap.size + 1, 1, none⟩) (by first | (simp; done) | omega | (simp; omega)) (.int .i64 (1 + x3_))
        have R3 := R3.other (p := ⟨w1.heap.size + 1, 1, none⟩) (by first | (simp; done) | omega | (simp; omega)) (.int .i64 (1 + x3_))
        have R4 := R4.other (p := ⟨w1.heap.size + 1, 1, none⟩) (by first | (simp; done) | omega | (simp; omega)) (.int .i64 (1 + x3_))
        have RF := RF.other (p := ⟨w1.heap.size + 1, 1, none⟩) (by first | (simp; done) | omega | (simp; omega)) (.int .i64 (1 + x3_))
        have RT := RT.set 1 (.int .i64 (1 + x3_))
        have c2t := c2b.setOther (q := w1.heap.size + 1) (o := 1) (by omega) (.int .i64 (1 + x3_))
        have hGS := GA.setNew (q := w1.heap.size + 1) (o := 1) (by omega) (.int .i64 (1 + x3_))
        clear GA
        have GA := hGS
        clear hGS
        have f0 := RF.cell (j := 0) rfl
        have f1 := RF.cell (j := 1) rfl
        have f2 := RF.cell (j := 2) rfl
        have t0 := RT.cell (j := 0) rfl
        have t1 := RT.cell (j := 1) rfl
        have t2 := RT.cell (j := 2) rfl
        have y0 := RT.free 0
        have y1 := RT.free 1
        have y2 := RT.free 2
        have a0 := R2.cell (j := 0) rfl
        have a1 := R2.cell (j := 1) rfl
        have a2 := R2.cell (j := 2) rfl
        have b0 := R3.cell (j := 0) rfl
        have b1 := R3.cell (j := 1) rfl
        have b2 := R3.cell (j := 2) rfl
        have d0 := R4.cell (j := 0) rfl
        have d1 := R4.cell (j := 1) rfl
        have x20 := R2.free 0
        have x21 := R2.free 1
        have x22 := R2.free 2
        have x30 := R3.free 0
        have x31 := R3.free 1
        have x32 := R3.free 2
        have x40 := R4.free 0
        have x41 := R4.free 1
        have lR2 := R2.lt
        have lR3 := R3.lt
        have lR4 := R4.lt
        have lRF := RF.lt
        have lRT := RT.lt
        go_region_held3 (fun w' => w'.cell? ⟨w1.heap.size, 0, none⟩ = some (.int .i64 3) ∧ w'.cell? ⟨w1.heap.size, 1, none⟩ = some (.int .i64 p) ∧ w'.cell? ⟨w1.heap.size, 2, none⟩ = some (.int .i64 n) ∧ w'.cell? ⟨w1.heap.size + 1, 0, none⟩ = some (.int .i64 3) ∧ w'.cell? ⟨w1.heap.size + 1, 1, none⟩ = some (.int .i64 (1 + x3_)) ∧ w'.cell? ⟨w1.heap.size + 1, 2, none⟩ = some (.int .i64 n)) (go_keep) (fail)
        all_goals
          have hw_x3_ : IntKind.i64.wrap (1 + x3_) = 1 + x3_ := by rw [IntKind.wrap_i64]; omega
          go_wp2
          refine bodyPost_ret (v := .tuple #[ringV 3 p n, ringV 3 (1 + x3_) n, homV 7 0]) (by simp [results, Try.results115, go_sem, *]) rfl ?_
          exact ⟨_, _, _, _, _, _, _, _, rfl, ⟨HD.out, ok7c HD.out (by omega) (by omega) (by omega)⟩, (by repeat' (first | (with_reducible assumption) | (with_reducible apply Cur.drew) | (with_reducible refine Cur.setOther ?_ ?_ _) | omega)), (by repeat' (first | (with_reducible assumption) | (with_reducible apply grown_drew) | (with_reducible refine World.grownBy.setNew ?_ ?_ _) | omega))⟩
      · go_wp2_with fail
        clear f0 f1 f2 t0 t1 t2 y0 y1 y2 a0 a1 a2 b0 b1 b2 d0 d1 x20 x21 x22 x30 x31 x32 x40 x41
        have R2 := R2.oth3 (q := w1.heap.size + 1) (by omega) (.int .i64 (3)) (.int .i64 (p)) (.int .i64 (n))
        have R3 := R3.oth3 (q := w1.heap.size + 1) (by omega) (.int .i64 (3)) (.int .i64 (p)) (.int .i64 (n))
        have R4 := R4.oth3 (q := w1.heap.size + 1) (by omega) (.int .i64 (3)) (.int .i64 (p)) (.int .i64 (n))
        have RF := RF.oth3 (q := w1.heap.size + 1) (by omega) (.int .i64 (3)) (.int .i64 (p)) (.int .i64 (n))
        have RT := ((RT.set 0 (.int .i64 (3))).set 1 (.int .i64 (p))).set 2 (.int .i64 (n))
        have c2s := ((c2.setOther (q := w1.heap.size + 1) (o := 0) (by omega) (.int .i64 (3))).setOther (q := w1.heap.size + 1) (o := 1) (by omega) (.int .i64 (p))).setOther (q := w1.heap.size + 1) (o := 2) (by omega) (.int .i64 (n))
        have hGS := ((GA.setNew (q := w1.heap.size + 1) (o := 0) (by omega) (.int .i64 (3))).setNew (q := w1.heap.size + 1) (o := 1) (by omega) (.int .i64 (p))).setNew (q := w1.heap.size + 1) (o := 2) (by omega) (.int .i64 (n))
        clear GA
        have GA := hGS
        clear hGS
        have f0 := RF.cell (j := 0) rfl
        have f1 := RF.cell (j := 1) rfl
        have f2 := RF.cell (j := 2) rfl
        have t0 := RT.cell (j := 0) rfl
        have t1 := RT.cell (j := 1) rfl
        have t2 := RT.cell (j := 2) rfl
        have y0 := RT.free 0
        have y1 := RT.free 1
        have y2 := RT.free 2
        have a0 := R2.cell (j := 0) rfl
        have a1 := R2.cell (j := 1) rfl
        have a2 := R2.cell (j := 2) rfl
        have b0 := R3.cell (j := 0) rfl
        have b1 := R3.cell (j := 1) rfl
        have b2 := R3.cell (j := 2) rfl
        have d0 := R4.cell (j := 0) rfl
        have d1 := R4.cell (j := 1) rfl
        have x20 := R2.free 0
        have x21 := R2.free 1
        have x22 := R2.free 2
        have x30 := R3.free 0
        have x31 := R3.free 1
        have x32 := R3.free 2
        have x40 := R4.free 0
        have x41 := R4.free 1
        have lR2 := R2.lt
        have lR3 := R3.lt
        have lR4 := R4.lt
        have lRF := RF.lt
        have lRT := RT.lt
        refine (l01Below_any b 200 _ c2s (by omega)).mono ?_; rintro e3 w3 ⟨x3_, rfl, ⟨u3, _, v3⟩, c2b, g3⟩
        have vv3 := v3 (by omega)
        clear v3
        clear f0 f1 f2 t0 t1 t2 y0 y1 y2 a0 a1 a2 b0 b1 b2 d0 d1 x20 x21 x22 x30 x31 x32 x40 x41
        have R2 := R2.keep g3 (by omega)
        have R3 := R3.keep g3 (by omega)
        have R4 := R4.keep g3 (by omega)
        have RF := RF.keep g3 (by omega)
        have RT := RT.keep g3 (by omega)
        have hGS := grownBy_trans GA g3
        clear GA
        have GA := hGS
        clear hGS
        have f0 := RF.cell (j := 0) rfl
        have f1 := RF.cell (j := 1) rfl
        have f2 := RF.cell (j := 2) rfl
        have t0 := RT.cell (j := 0) rfl
        have t1 := RT.cell (j := 1) rfl
        have t2 := RT.cell (j := 2) rfl
        have y0 := RT.free 0
        have y1 := RT.free 1
        have y2 := RT.free 2
        have a0 := R2.cell (j := 0) rfl
        have a1 := R2.cell (j := 1) rfl
        have a2 := R2.cell (j := 2) rfl
        have b0 := R3.cell (j := 0) rfl
        have b1 := R3.cell (j := 1) rfl
        have b2 := R3.cell (j := 2) rfl
        have d0 := R4.cell (j := 0) rfl
        have d1 := R4.cell (j := 1) rfl
        have x20 := R2.free 0
        have x21 := R2.free 1
        have x22 := R2.free 2
        have x30 := R3.free 0
        have x31 := R3.free 1
        have x32 := R3.free 2
        have x40 := R4.free 0
        have x41 := R4.free 1
        have lR2 := R2.lt
        have lR3 := R3.lt
        have lR4 := R4.lt
        have lRF := RF.lt
        have lRT := RT.lt
        go_wp2_with fail
        clear f0 f1 f2 t0 t1 t2 y0 y1 y2 a0 a1 a2 b0 b1 b2 d0 d1 x20 x21 x22 x30 x31 x32 x40 x41
        have R2 := R2.other (p := ⟨w1.heap.size + 1, 1, none⟩) (by first | (simp; done) | omega | (simp; omega)) (.int .i64 (1 + x3_))
        have R3 := R3.other (p := ⟨w1.heap.size + 1, 1, none⟩) (by first | (simp; done) | omega | (simp; omega)) (.int .i64 (1 + x3_))
        have R4 := R4.other (p := ⟨w1.heap.size + 1, 1, none⟩) (by first | (simp; done) | omega | (simp; omega)) (.int .i64 (1 + x3_))
        have RF := RF.other (p := ⟨w1.heap.size + 1, 1, none⟩) (by first | (simp; done) | omega | (simp; omega)) (.int .i64 (1 + x3_))
        have RT := RT.set 1 (.int .i64 (1 + x3_))
        have c2t := c2b.setOther (q := w1.heap.size + 1) (o := 1) (by omega) (.int .i64 (1 + x3_))
        have hGS := GA.setNew (q := w1.heap.size + 1) (o := 1) (by omega) (.int .i64 (1 + x3_))
        clear GA
        have GA := hGS
        clear hGS
        have f0 := RF.cell (j := 0) rfl
        have f1 := RF.cell (j := 1) rfl
        have f2 := RF.cell (j := 2) rfl
        have t0 := RT.cell (j := 0) rfl
        have t1 := RT.cell (j := 1) rfl
        have t2 := RT.cell (j := 2) rfl
        have y0 := RT.free 0
        have y1 := RT.free 1
        have y2 := RT.free 2
        have a0 := R2.cell (j := 0) rfl
        have a1 := R2.cell (j := 1) rfl
        have a2 := R2.cell (j := 2) rfl
        have b0 := R3.cell (j := 0) rfl
        have b1 := R3.cell (j := 1) rfl
        have b2 := R3.cell (j := 2) rfl
        have d0 := R4.cell (j := 0) rfl
        have d1 := R4.cell (j := 1) rfl
        have x20 := R2.free 0
        have x21 := R2.free 1
        have x22 := R2.free 2
        have x30 := R3.free 0
        have x31 := R3.free 1
        have x32 := R3.free 2
        have x40 := R4.free 0
        have x41 := R4.free 1
        have lR2 := R2.lt
        have lR3 := R3.lt
        have lR4 := R4.lt
        have lRF := RF.lt
        have lRT := RT.lt
        go_region_held3 (fun w' => w'.cell? ⟨w1.heap.size, 0, none⟩ = some (.int .i64 3) ∧ w'.cell? ⟨w1.heap.size, 1, none⟩ = some (.int .i64 p) ∧ w'.cell? ⟨w1.heap.size, 2, none⟩ = some (.int .i64 n) ∧ w'.cell? ⟨w1.heap.size + 1, 0, none⟩ = some (.int .i64 3) ∧ w'.cell? ⟨w1.heap.size + 1, 1, none⟩ = some (.int .i64 (1 + x3_)) ∧ w'.cell? ⟨w1.heap.size + 1, 2, none⟩ = some (.int .i64 n)) (go_keep) (fail)
        all_goals
          have hw_x3_ : IntKind.i64.wrap (1 + x3_) = 1 + x3_ := by rw [IntKind.wrap_i64]; omega
          go_wp2
          refine bodyPost_ret (v := .tuple #[ringV 3 p n, ringV 3 (1 + x3_) n, homV 7 0]) (by simp [results, Try.results115, go_sem, *]) rfl ?_
          exact ⟨_, _, _, _, _, _, _, _, rfl, ⟨HD.out, ok7c HD.out (by omega) (by omega) (by omega)⟩, (by repeat' (first | (with_reducible assumption) | (with_reducible apply Cur.drew) | (with_reducible refine Cur.setOther ?_ ?_ _) | omega)), (by repeat' (first | (with_reducible assumption) | (with_reducible apply grown_drew) | (with_reducible refine World.grownBy.setNew ?_ ?_ _) | omega))⟩
    · go_wp2_with fail
      go_region_held3 (fun w' => w'.cell? ⟨w1.heap.size, 0, none⟩ = some (.int .i64 3) ∧ w'.cell? ⟨w1.heap.size, 1, none⟩ = some (.int .i64 p) ∧ w'.cell? ⟨w1.heap.size, 2, none⟩ = some (.int .i64 n) ∧ w'.cell? ⟨w1.heap.size + 1, 0, none⟩ = some (.int .i64 1) ∧ w'.cell? ⟨w1.heap.size + 1, 1, none⟩ = some (.int .i64 0) ∧ w'.cell? ⟨w1.heap.size + 1, 2, none⟩ = some (.int .i64 0)) (go_keep) (fail)
      all_goals
        go_wp2
        refine bodyPost_ret (v := .tuple #[ringV 3 p n, ringV 1 0 0, homV 2 0]) (by simp [results, Try.results115, go_sem, *]) rfl ?_
        exact ⟨_, _, _, _, _, _, _, _, rfl, ⟨HD.out, ok2 HD.out (by omega)⟩, (by repeat' (first | (with_reducible assumption) | (with_reducible apply Cur.drew) | (with_reducible refine Cur.setOther ?_ ?_ _) | omega)), (by repeat' (first | (with_reducible assumption) | (with_reducible apply grown_drew) | (with_reducible refine World.grownBy.setNew ?_ ?_ _) | omega))⟩
  · have hpp := ringOk_pos (drawn_ok HD.out) (by omega)
    obtain ⟨hp0, hp1⟩ := hpp
    go_wp2_with fail
    rw [HWA.out]
    refine (l01Once_any b 2 _ cA (by omega)).mono ?_; rintro e2 w2 ⟨z2, rfl, c2, g2⟩
    clear f0 f1 f2 t0 t1 t2 y0 y1 y2 a0 a1 a2 b0 b1 b2 d0 d1 x20 x21 x22 x30 x31 x32 x40 x41
    have R2 := R2.keep g2 (by omega)
    have R3 := R3.keep g2 (by omega)
    have R4 := R4.keep g2 (by omega)
    have RF := RF.keep g2 (by omega)
    have RT := RT.keep g2 (by omega)
    have hGS := grownBy_trans GA g2
    clear GA
    have GA := hGS
    clear hGS
    have f0 := RF.cell (j := 0) rfl
    have f1 := RF.cell (j := 1) rfl
    have f2 := RF.cell (j := 2) rfl
    have t0 := RT.cell (j := 0) rfl
    have t1 := RT.cell (j := 1) rfl
    have t2 := RT.cell (j := 2) rfl
    have y0 := RT.free 0
    have y1 := RT.free 1
    have y2 := RT.free 2
    have a0 := R2.cell (j := 0) rfl
    have a1 := R2.cell (j := 1) rfl
    have a2 := R2.cell (j := 2) rfl
    have b0 := R3.cell (j := 0) rfl
    have b1 := R3.cell (j := 1) rfl
    have b2 := R3.cell (j := 2) rfl
    have d0 := R4.cell (j := 0) rfl
    have d1 := R4.cell (j := 1) rfl
    have x20 := R2.free 0
    have x21 := R2.free 1
    have x22 := R2.free 2
    have x30 := R3.free 0
    have x31 := R3.free 1
    have x32 := R3.free 2
    have x40 := R4.free 0
    have x41 := R4.free 1
    have lR2 := R2.lt
    have lR3 := R3.lt
    have lR4 := R4.lt
    have lRF := RF.lt
    have lRT := RT.lt
    cases z2
    · skip
      by_cases hp2 : p ≤ 200
      · go_wp2_with fail
        clear f0 f1 f2 t0 t1 t2 y0 y1 y2 a0 a1 a2 b0 b1 b2 d0 d1 x20 x21 x22 x30 x31 x32 x40 x41
        have R2 := R2.oth3 (q := w1.heap.size + 1) (by omega) (.int .i64 (4)) (.int .i64 (p)) (.int .i64 (n))
        have R3 := R3.oth3 (q := w1.heap.size + 1) (by omega) (.int .i64 (4)) (.int .i64 (p)) (.int .i64 (n))
        have R4 := R4.oth3 (q := w1.heap.size + 1) (by omega) (.int .i64 (4)) (.int .i64 (p)) (.int .i64 (n))
        have RF := RF.oth3 (q := w1.heap.size + 1) (by omega) (.int .i64 (4)) (.int .i64 (p)) (.int .i64 (n))
        have RT := ((RT.set 0 (.int .i64 (4))).set 1 (.int .i64 (p))).set 2 (.int .i64 (n))
        have c2s := ((c2.setOther (q := w1.heap.size + 1) (o := 0) (by omega) (.int .i64 (4))).setOther (q := w1.heap.size + 1) (o := 1) (by omega) (.int .i64 (p))).setOther (q := w1.heap.size + 1) (o := 2) (by omega) (.int .i64 (n))
        have hGS := ((GA.setNew (q := w1.heap.size + 1) (o := 0) (by omega) (.int .i64 (4))).setNew (q := w1.heap.size + 1) (o := 1) (by omega) (.int .i64 (p))).setNew (q := w1.heap.size + 1) (o := 2) (by omega) (.int .i64 (n))
        clear GA
        have GA := hGS
        clear hGS
        have f0 := RF.cell (j := 0) rfl
        have f1 := RF.cell (j := 1) rfl
        have f2 := RF.cell (j := 2) rfl
        have t0 := RT.cell (j := 0) rfl
        have t1 := RT.cell (j := 1) rfl
        have t2 := RT.cell (j := 2) rfl
        have y0 := RT.free 0
        have y1 := RT.free 1
        have y2 := RT.free 2
        have a0 := R2.cell (j := 0) rfl
        have a1 := R2.cell (j := 1) rfl
        have a2 := R2.cell (j := 2) rfl
        have b0 := R3.cell (j := 0) rfl
        have b1 := R3.cell (j := 1) rfl
        have b2 := R3.cell (j := 2) rfl
        have d0 := R4.cell (j := 0) rfl
        have d1 := R4.cell (j := 1) rfl
        have x20 := R2.free 0
        have x21 := R2.free 1
        have x22 := R2.free 2
        have x30 := R3.free 0
        have x31 := R3.free 1
        have x32 := R3.free 2
        have x40 := R4.free 0
        have x41 := R4.free 1
        have lR2 := R2.lt
        have lR3 := R3.lt
        have lR4 := R4.lt
        have lRF := RF.lt
        have lRT := RT.lt
        refine (l01Below_any b p _ c2s (by omega)).mono ?_; rintro e3 w3 ⟨x3_, rfl, ⟨u3, _, v3⟩, c2b, g3⟩
        have vv3 := v3 (by omega)
        clear v3
        clear f0 f1 f2 t0 t1 t2 y0 y1 y2 a0 a1 a2 b0 b1 b2 d0 d1 x20 x21 x22 x30 x31 x32 x40 x41
        have R2 := R2.keep g3 (by omega)
        have R3 := R3.keep g3 (by omega)
        have R4 := R4.keep g3 (by omega)
        have RF := RF.keep g3 (by omega)
        have RT := RT.keep g3 (by omega)
        have hGS := grownBy_trans GA g3
        clear GA
        have GA := hGS
        clear hGS
        have f0 := RF.cell (j := 0) rfl
        have f1 := RF.cell (j := 1) rfl
        have f2 := RF.cell (j := 2) rfl
        have t0 := RT.cell (j := 0) rfl
        have t1 := RT.cell (j := 1) rfl
        have t2 := RT.cell (j := 2) rfl
        have y0 := RT.free 0
        have y1 := RT.free 1
        have y2 := RT.free 2
        have a0 := R2.cell (j := 0) rfl
        have a1 := R2.cell (j := 1) rfl
        have a2 := R2.cell (j := 2) rfl
        have b0 := R3.cell (j := 0) rfl
        have b1 := R3.cell (j := 1) rfl
        have b2 := R3.cell (j := 2) rfl
        have d0 := R4.cell (j := 0) rfl
        have d1 := R4.cell (j := 1) rfl
        have x20 := R2.free 0
        have x21 := R2.free 1
        have x22 := R2.free 2
        have x30 := R3.free 0
        have x31 := R3.free 1
        have x32 := R3.free 2
        have x40 := R4.free 0
        have x41 := R4.free 1
        have lR2 := R2.lt
        have lR3 := R3.lt
        have lR4 := R4.lt
        have lRF := RF.lt
        have lRT := RT.lt
        go_wp2_with fail
        clear f0 f1 f2 t0 t1 t2 y0 y1 y2 a0 a1 a2 b0 b1 b2 d0 d1 x20 x21 x22 x30 x31 x32 x40 x41
        have R2 := R2.other (p := ⟨w1.heap.size + 1, 1, none⟩) (by first | (simp; done) | omega | (simp; omega)) (.int .i64 (1 + x3_))
        have R3 := R3.other (p := ⟨w1.heap.size + 1, 1, none⟩) (by first | (simp; done) | omega | (simp; omega)) (.int .i64 (1 + x3_))
        have R4 := R4.other (p := ⟨w1.heap.size + 1, 1, none⟩) (by first | (simp; done) | omega | (simp; omega)) (.int .i64 (1 + x3_))
        have RF := RF.other (p := ⟨w1.heap.size + 1, 1, none⟩) (by first | (simp; done) | omega | (simp; omega)) (.int .i64 (1 + x3_))
        have RT := RT.set 1 (.int .i64 (1 + x3_))
        have c2t := c2b.setOther (q := w1.heap.size + 1) (o := 1) (by omega) (.int .i64 (1 + x3_))
        have hGS := GA.setNew (q := w1.heap.size + 1) (o := 1) (by omega) (.int .i64 (1 + x3_))
        clear GA
        have GA := hGS
        clear hGS
        have f0 := RF.cell (j := 0) rfl
        have f1 := RF.cell (j := 1) rfl
        have f2 := RF.cell (j := 2) rfl
        have t0 := RT.cell (j := 0) rfl
        have t1 := RT.cell (j := 1) rfl
        have t2 := RT.cell (j := 2) rfl
        have y0 := RT.free 0
        have y1 := RT.free 1
        have y2 := RT.free 2
        have a0 := R2.cell (j := 0) rfl
        have a1 := R2.cell (j := 1) rfl
        have a2 := R2.cell (j := 2) rfl
        have b0 := R3.cell (j := 0) rfl
        have b1 := R3.cell (j := 1) rfl
        have b2 := R3.cell (j := 2) rfl
        have d0 := R4.cell (j := 0) rfl
        have d1 := R4.cell (j := 1) rfl
        have x20 := R2.free 0
        have x21 := R2.free 1
        have x22 := R2.free 2
        have x30 := R3.free 0
        have x31 := R3.free 1
        have x32 := R3.free 2
        have x40 := R4.free 0
        have x41 := R4.free 1
        have lR2 := R2.lt
        have lR3 := R3.lt
        have lR4 := R4.lt
        have lRF := RF.lt
        have lRT := RT.lt
        go_region_held3 (fun w' => w'.cell? ⟨w1.heap.size, 0, none⟩ = some (.int .i64 4) ∧ w'.cell? ⟨w1.heap.size, 1, none⟩ = some (.int .i64 p) ∧ w'.cell? ⟨w1.heap.size, 2, none⟩ = some (.int .i64 n) ∧ w'.cell? ⟨w1.heap.size + 1, 0, none⟩ = some (.int .i64 4) ∧ w'.cell? ⟨w1.heap.size + 1, 1, none⟩ = some (.int .i64 (1 + x3_)) ∧ w'.cell? ⟨w1.heap.size + 1, 2, none⟩ = some (.int .i64 n)) (go_keep) (fail)
        all_goals
          have hw_x3_ : IntKind.i64.wrap (1 + x3_) = 1 + x3_ := by rw [IntKind.wrap_i64]; omega
          go_wp2
          refine bodyPost_ret (v := .tuple #[ringV 4 p n, ringV 4 (1 + x3_) n, homV 7 0]) (by simp [results, Try.results115, go_sem, *]) rfl ?_
          exact ⟨_, _, _, _, _, _, _, _, rfl, ⟨HD.out, ok7c HD.out (by omega) (by omega) (by omega)⟩, (by repeat' (first | (with_reducible assumption) | (with_reducible apply Cur.drew) | (with_reducible refine Cur.setOther ?_ ?_ _) | omega)), (by repeat' (first | (with_reducible assumption) | (with_reducible apply grown_drew) | (with_reducible refine World.grownBy.setNew ?_ ?_ _) | omega))⟩
      · go_wp2_with fail
        clear f0 f1 f2 t0 t1 t2 y0 y1 y2 a0 a1 a2 b0 b1 b2 d0 d1 x20 x21 x22 x30 x31 x32 x40 x41
        have R2 := R2.oth3 (q := w1.heap.size + 1) (by omega) (.int .i64 (4)) (.int .i64 (p)) (.int .i64 (n))
        have R3 := R3.oth3 (q := w1.heap.size + 1) (by omega) (.int .i64 (4)) (.int .i64 (p)) (.int .i64 (n))
        have R4 := R4.oth3 (q := w1.heap.size + 1) (by omega) (.int .i64 (4)) (.int .i64 (p)) (.int .i64 (n))
        have RF := RF.oth3 (q := w1.heap.size + 1) (by omega) (.int .i64 (4)) (.int .i64 (p)) (.int .i64 (n))
        have RT := ((RT.set 0 (.int .i64 (4))).set 1 (.int .i64 (p))).set 2 (.int .i64 (n))
        have c2s := ((c2.setOther (q := w1.heap.size + 1) (o := 0) (by omega) (.int .i64 (4))).setOther (q := w1.heap.size + 1) (o := 1) (by omega) (.int .i64 (p))).setOther (q := w1.heap.size + 1) (o := 2) (by omega) (.int .i64 (n))
        have hGS := ((GA.setNew (q := w1.heap.size + 1) (o := 0) (by omega) (.int .i64 (4))).setNew (q := w1.heap.size + 1) (o := 1) (by omega) (.int .i64 (p))).setNew (q := w1.heap.size + 1) (o := 2) (by omega) (.int .i64 (n))
        clear GA
        have GA := hGS
        clear hGS
        have f0 := RF.cell (j := 0) rfl
        have f1 := RF.cell (j := 1) rfl
        have f2 := RF.cell (j := 2) rfl
        have t0 := RT.cell (j := 0) rfl
        have t1 := RT.cell (j := 1) rfl
        have t2 := RT.cell (j := 2) rfl
        have y0 := RT.free 0
        have y1 := RT.free 1
        have y2 := RT.free 2
        have a0 := R2.cell (j := 0) rfl
        have a1 := R2.cell (j := 1) rfl
        have a2 := R2.cell (j := 2) rfl
        have b0 := R3.cell (j := 0) rfl
        have b1 := R3.cell (j := 1) rfl
        have b2 := R3.cell (j := 2) rfl
        have d0 := R4.cell (j := 0) rfl
        have d1 := R4.cell (j := 1) rfl
        have x20 := R2.free 0
        have x21 := R2.free 1
        have x22 := R2.free 2
        have x30 := R3.free 0
        have x31 := R3.free 1
        have x32 := R3.free 2
        have x40 := R4.free 0
        have x41 := R4.free 1
        have lR2 := R2.lt
        have lR3 := R3.lt
        have lR4 := R4.lt
        have lRF := RF.lt
        have lRT := RT.lt
        refine (l01Below_any b 200 _ c2s (by omega)).mono ?_; rintro e3 w3 ⟨x3_, rfl, ⟨u3, _, v3⟩, c2b, g3⟩
        have vv3 := v3 (by omega)
        clear v3
        clear f0 f1 f2 t0 t1 t2 y0 y1 y2 a0 a1 a2 b0 b1 b2 d0 d1 x20 x21 x22 x30 x31 x32 x40 x41
        have R2 := R2.keep g3 (by omega)
        have R3 := R3.keep g3 (by omega)
        have R4 := R4.keep g3 (by omega)
        have RF := RF.keep g3 (by omega)
        have RT := RT.keep g3 (by omega)
        have hGS := grownBy_trans GA g3
        clear GA
        have GA := hGS
        clear hGS
        have f0 := RF.cell (j := 0) rfl
        have f1 := RF.cell (j := 1) rfl
        have f2 := RF.cell (j := 2) rfl
        have t0 := RT.cell (j := 0) rfl
        have t1 := RT.cell (j := 1) rfl
        have t2 := RT.cell (j := 2) rfl
        have y0 := RT.free 0
        have y1 := RT.free 1
        have y2 := RT.free 2
        have a0 := R2.cell (j := 0) rfl
        have a1 := R2.cell (j := 1) rfl
        have a2 := R2.cell (j := 2) rfl
        have b0 := R3.cell (j := 0) rfl
        have b1 := R3.cell (j := 1) rfl
        have b2 := R3.cell (j := 2) rfl
        have d0 := R4.cell (j := 0) rfl
        have d1 := R4.cell (j := 1) rfl
        have x20 := R2.free 0
        have x21 := R2.free 1
        have x22 := R2.free 2
        have x30 := R3.free 0
        have x31 := R3.free 1
        have x32 := R3.free 2
        have x40 := R4.free 0
        have x41 := R4.free 1
        have lR2 := R2.lt
        have lR3 := R3.lt
        have lR4 := R4.lt
        have lRF := RF.lt
        have lRT := RT.lt
        go_wp2_with fail
        clear f0 f1 f2 t0 t1 t2 y0 y1 y2 a0 a1 a2 b0 b1 b2 d0 d1 x20 x21 x22 x30 x31 x32 x40 x41
        have R2 := R2.other (p := ⟨w1.heap.size + 1, 1, none⟩) (by first | (simp; done) | omega | (simp; omega)) (.int .i64 (1 + x3_))
        have R3 := R3.other (p := ⟨w1.heap.size + 1, 1, none⟩) (by first | (simp; done) | omega | (simp; omega)) (.int .i64 (1 + x3_))
        have R4 := R4.other (p := ⟨w1.heap.size + 1, 1, none⟩) (by first | (simp; done) | omega | (simp; omega)) (.int .i64 (1 + x3_))
        have RF := RF.other (p := ⟨w1.heap.size + 1, 1, none⟩) (by first | (simp; done) | omega | (simp; omega)) (.int .i64 (1 + x3_))
        have RT := RT.set 1 (.int .i64 (1 + x3_))
        have c2t := c2b.setOther (q := w1.heap.size + 1) (o := 1) (by omega) (.int .i64 (1 + x3_))
        have hGS := GA.setNew (q := w1.heap.size + 1) (o := 1) (by omega) (.int .i64 (1 + x3_))
        clear GA
        have GA := hGS
        clear hGS
        have f0 := RF.cell (j := 0) rfl
        have f1 := RF.cell (j := 1) rfl
        have f2 := RF.cell (j := 2) rfl
        have t0 := RT.cell (j := 0) rfl
        have t1 := RT.cell (j := 1) rfl
        have t2 := RT.cell (j := 2) rfl
        have y0 := RT.free 0
        have y1 := RT.free 1
        have y2 := RT.free 2
        have a0 := R2.cell (j := 0) rfl
        have a1 := R2.cell (j := 1) rfl
        have a2 := R2.cell (j := 2) rfl
        have b0 := R3.cell (j := 0) rfl
        have b1 := R3.cell (j := 1) rfl
        have b2 := R3.cell (j := 2) rfl
        have d0 := R4.cell (j := 0) rfl
        have d1 := R4.cell (j := 1) rfl
        have x20 := R2.free 0
        have x21 := R2.free 1
        have x22 := R2.free 2
        have x30 := R3.free 0
        have x31 := R3.free 1
        have x32 := R3.free 2
        have x40 := R4.free 0
        have x41 := R4.free 1
        have lR2 := R2.lt
        have lR3 := R3.lt
        have lR4 := R4.lt
        have lRF := RF.lt
        have lRT := RT.lt
        go_region_held3 (fun w' => w'.cell? ⟨w1.heap.size, 0, none⟩ = some (.int .i64 4) ∧ w'.cell? ⟨w1.heap.size, 1, none⟩ = some (.int .i64 p) ∧ w'.cell? ⟨w1.heap.size, 2, none⟩ = some (.int .i64 n) ∧ w'.cell? ⟨w1.heap.size + 1, 0, none⟩ = some (.int .i64 4) ∧ w'.cell? ⟨w1.heap.size + 1, 1, none⟩ = some (.int .i64 (1 + x3_)) ∧ w'.cell? ⟨w1.heap.size + 1, 2, none⟩ = some (.int .i64 n)) (go_keep) (fail)
        all_goals
          have hw_x3_ : IntKind.i64.wrap (1 + x3_) = 1 + x3_ := by rw [IntKind.wrap_i64]; omega
          go_wp2
          refine bodyPost_ret (v := .tuple #[ringV 4 p n, ringV 4 (1 + x3_) n, homV 7 0]) (by simp [results, Try.results115, go_sem, *]) rfl ?_
          exact ⟨_, _, _, _, _, _, _, _, rfl, ⟨HD.out, ok7c HD.out (by omega) (by omega) (by omega)⟩, (by repeat' (first | (with_reducible assumption) | (with_reducible apply Cur.drew) | (with_reducible refine Cur.setOther ?_ ?_ _) | omega)), (by repeat' (first | (with_reducible assumption) | (with_reducible apply grown_drew) | (with_reducible refine World.grownBy.setNew ?_ ?_ _) | omega))⟩
    · go_wp2_with fail
      go_region_held3 (fun w' => w'.cell? ⟨w1.heap.size, 0, none⟩ = some (.int .i64 4) ∧ w'.cell? ⟨w1.heap.size, 1, none⟩ = some (.int .i64 p) ∧ w'.cell? ⟨w1.heap.size, 2, none⟩ = some (.int .i64 n) ∧ w'.cell? ⟨w1.heap.size + 1, 0, none⟩ = some (.int .i64 1) ∧ w'.cell? ⟨w1.heap.size + 1, 1, none⟩ = some (.int .i64 0) ∧ w'.cell? ⟨w1.heap.size + 1, 2, none⟩ = some (.int .i64 0)) (go_keep) (fail)
      all_goals
        go_wp2
        refine bodyPost_ret (v := .tuple #[ringV 4 p n, ringV 1 0 0, homV 2 0]) (by simp [results, Try.results115, go_sem, *]) rfl ?_
        exact ⟨_, _, _, _, _, _, _, _, rfl, ⟨HD.out, ok2 HD.out (by omega)⟩, (by repeat' (first | (with_reducible assumption) | (with_reducible apply Cur.drew) | (with_reducible refine Cur.setOther ?_ ?_ _) | omega)), (by repeat' (first | (with_reducible assumption) | (with_reducible apply grown_drew) | (with_reducible refine World.grownBy.setNew ?_ ?_ _) | omega))⟩
  · have hpp := ringOk_pos (drawn_ok HD.out) (by omega)
    obtain ⟨hp0, hp1⟩ := hpp
    go_wp2_with fail
    rw [HWA.out]
    refine (l01Once_any b 2 _ cA (by omega)).mono ?_; rintro e2 w2 ⟨z2, rfl, c2, g2⟩
    clear f0 f1 f2 t0 t1 t2 y0 y1 y2 a0 a1 a2 b0 b1 b2 d0 d1 x20 x21 x22 x30 x31 x32 x40 x41
    have R2 := R2.keep g2 (by omega)
    have R3 := R3.keep g2 (by omega)
    have R4 := R4.keep g2 (by omega)
    have RF := RF.keep g2 (by omega)
    have RT := RT.keep g2 (by omega)
    have hGS := grownBy_trans GA g2
    clear GA
    have GA := hGS
    clear hGS
    have f0 := RF.cell (j := 0) rfl
    have f1 := RF.cell (j := 1) rfl
    have f2 := RF.cell (j := 2) rfl
    have t0 := RT.cell (j := 0) rfl
    have t1 := RT.cell (j := 1) rfl
    have t2 := RT.cell (j := 2) rfl
    have y0 := RT.free 0
    have y1 := RT.free 1
    have y2 := RT.free 2
    have a0 := R2.cell (j := 0) rfl
    have a1 := R2.cell (j := 1) rfl
    have a2 := R2.cell (j := 2) rfl
    have b0 := R3.cell (j := 0) rfl
    have b1 := R3.cell (j := 1) rfl
    have b2 := R3.cell (j := 2) rfl
    have d0 := R4.cell (j := 0) rfl
    have d1 := R4.cell (j := 1) rfl
    have x20 := R2.free 0
    have x21 := R2.free 1
    have x22 := R2.free 2
    have x30 := R3.free 0
    have x31 := R3.free 1
    have x32 := R3.free 2
    have x40 := R4.free 0
    have x41 := R4.free 1
    have lR2 := R2.lt
    have lR3 := R3.lt
    have lR4 := R4.lt
    have lRF := RF.lt
    have lRT := RT.lt
    cases z2
    · skip
      by_cases hp2 : p ≤ 200
      · go_wp2_with fail
        clear f0 f1 f2 t0 t1 t2 y0 y1 y2 a0 a1 a2 b0 b1 b2 d0 d1 x20 x21 x22 x30 x31 x32 x40 x41
        have R2 := R2.oth3 (q := w1.heap.size + 1) (by omega) (.int .i64 (5)) (.int .i64 (p)) (.int .i64 (n))
        have R3 := R3.oth3 (q := w1.heap.size + 1) (by omega) (.int .i64 (5)) (.int .i64 (p)) (.int .i64 (n))
        have R4 := R4.oth3 (q := w1.heap.size + 1) (by omega) (.int .i64 (5)) (.int .i64 (p)) (.int .i64 (n))
        have RF := RF.oth3 (q := w1.heap.size + 1) (by omega) (.int .i64 (5)) (.int .i64 (p)) (.int .i64 (n))
        have RT := ((RT.set 0 (.int .i64 (5))).set 1 (.int .i64 (p))).set 2 (.int .i64 (n))
        have c2s := ((c2.setOther (q := w1.heap.size + 1) (o := 0) (by omega) (.int .i64 (5))).setOther (q := w1.heap.size + 1) (o := 1) (by omega) (.int .i64 (p))).setOther (q := w1.heap.size + 1) (o := 2) (by omega) (.int .i64 (n))
        have hGS := ((GA.setNew (q := w1.heap.size + 1) (o := 0) (by omega) (.int .i64 (5))).setNew (q := w1.heap.size + 1) (o := 1) (by omega) (.int .i64 (p))).setNew (q := w1.heap.size + 1) (o := 2) (by omega) (.int .i64 (n))
        clear GA
        have GA := hGS
        clear hGS
        have f0 := RF.cell (j := 0) rfl
        have f1 := RF.cell (j := 1) rfl
        have f2 := RF.cell (j := 2) rfl
        have t0 := RT.cell (j := 0) rfl
        have t1 := RT.cell (j := 1) rfl
        have t2 := RT.cell (j := 2) rfl
        have y0 := RT.free 0
        have y1 := RT.free 1
        have y2 := RT.free 2
        have a0 := R2.cell (j := 0) rfl
        have a1 := R2.cell (j := 1) rfl
        have a2 := R2.cell (j := 2) rfl
        have b0 := R3.cell (j := 0) rfl
        have b1 := R3.cell (j := 1) rfl
        have b2 := R3.cell (j := 2) rfl
        have d0 := R4.cell (j := 0) rfl
        have d1 := R4.cell (j := 1) rfl
        have x20 := R2.free 0
        have x21 := R2.free 1
        have x22 := R2.free 2
        have x30 := R3.free 0
        have x31 := R3.free 1
        have x32 := R3.free 2
        have x40 := R4.free 0
        have x41 := R4.free 1
        have lR2 := R2.lt
        have lR3 := R3.lt
        have lR4 := R4.lt
        have lRF := RF.lt
        have lRT := RT.lt
        refine (l01Below_any b p _ c2s (by omega)).mono ?_; rintro e3 w3 ⟨x3_, rfl, ⟨u3, _, v3⟩, c2b, g3⟩
        have vv3 := v3 (by omega)
        clear v3
        clear f0 f1 f2 t0 t1 t2 y0 y1 y2 a0 a1 a2 b0 b1 b2 d0 d1 x20 x21 x22 x30 x31 x32 x40 x41
        have R2 := R2.keep g3 (by omega)
        have R3 := R3.keep g3 (by omega)
        have R4 := R4.keep g3 (by omega)
        have RF := RF.keep g3 (by omega)
        have RT := RT.keep g3 (by omega)
        have hGS := grownBy_trans GA g3
        clear GA
        have GA := hGS
        clear hGS
        have f0 := RF.cell (j := 0) rfl
        have f1 := RF.cell (j := 1) rfl
        have f2 := RF.cell (j := 2) rfl
        have t0 := RT.cell (j := 0) rfl
        have t1 := RT.cell (j := 1) rfl
        have t2 := RT.cell (j := 2) rfl
        have y0 := RT.free 0
        have y1 := RT.free 1
        have y2 := RT.free 2
        have a0 := R2.cell (j := 0) rfl
        have a1 := R2.cell (j := 1) rfl
        have a2 := R2.cell (j := 2) rfl
        have b0 := R3.cell (j := 0) rfl
        have b1 := R3.cell (j := 1) rfl
        have b2 := R3.cell (j := 2) rfl
        have d0 := R4.cell (j := 0) rfl
        have d1 := R4.cell (j := 1) rfl
        have x20 := R2.free 0
        have x21 := R2.free 1
        have x22 := R2.free 2
        have x30 := R3.free 0
        have x31 := R3.free 1
        have x32 := R3.free 2
        have x40 := R4.free 0
        have x41 := R4.free 1
        have lR2 := R2.lt
        have lR3 := R3.lt
        have lR4 := R4.lt
        have lRF := RF.lt
        have lRT := RT.lt
        go_wp2_with fail
        clear f0 f1 f2 t0 t1 t2 y0 y1 y2 a0 a1 a2 b0 b1 b2 d0 d1 x20 x21 x22 x30 x31 x32 x40 x41
        have R2 := R2.other (p := ⟨w1.heap.size + 1, 1, none⟩) (by first | (simp; done) | omega | (simp; omega)) (.int .i64 (1 + x3_))
        have R3 := R3.other (p := ⟨w1.heap.size + 1, 1, none⟩) (by first | (simp; done) | omega | (simp; omega)) (.int .i64 (1 + x3_))
        have R4 := R4.other (p := ⟨w1.heap.size + 1, 1, none⟩) (by first | (simp; done) | omega | (simp; omega)) (.int .i64 (1 + x3_))
        have RF := RF.other (p := ⟨w1.heap.size + 1, 1, none⟩) (by first | (simp; done) | omega | (simp; omega)) (.int .i64 (1 + x3_))
        have RT := RT.set 1 (.int .i64 (1 + x3_))
        have c2t := c2b.setOther (q := w1.heap.size + 1) (o := 1) (by omega) (.int .i64 (1 + x3_))
        have hGS := GA.setNew (q := w1.heap.size + 1) (o := 1) (by omega) (.int .i64 (1 + x3_))
        clear GA
        have GA := hGS
        clear hGS
        have f0 := RF.cell (j := 0) rfl
        have f1 := RF.cell (j := 1) rfl
        have f2 := RF.cell (j := 2) rfl
        have t0 := RT.cell (j := 0) rfl
        have t1 := RT.cell (j := 1) rfl
        have t2 := RT.cell (j := 2) rfl
        have y0 := RT.free 0
        have y1 := RT.free 1
        have y2 := RT.free 2
        have a0 := R2.cell (j := 0) rfl
        have a1 := R2.cell (j := 1) rfl
        have a2 := R2.cell (j := 2) rfl
        have b0 := R3.cell (j := 0) rfl
        have b1 := R3.cell (j := 1) rfl
        have b2 := R3.cell (j := 2) rfl
        have d0 := R4.cell (j := 0) rfl
        have d1 := R4.cell (j := 1) rfl
        have x20 := R2.free 0
        have x21 := R2.free 1
        have x22 := R2.free 2
        have x30 := R3.free 0
        have x31 := R3.free 1
        have x32 := R3.free 2
        have x40 := R4.free 0
        have x41 := R4.free 1
        have lR2 := R2.lt
        have lR3 := R3.lt
        have lR4 := R4.lt
        have lRF := RF.lt
        have lRT := RT.lt
        go_region_held3 (fun w' => w'.cell? ⟨w1.heap.size, 0, none⟩ = some (.int .i64 5) ∧ w'.cell? ⟨w1.heap.size, 1, none⟩ = some (.int .i64 p) ∧ w'.cell? ⟨w1.heap.size, 2, none⟩ = some (.int .i64 n) ∧ w'.cell? ⟨w1.heap.size + 1, 0, none⟩ = some (.int .i64 5) ∧ w'.cell? ⟨w1.heap.size + 1, 1, none⟩ = some (.int .i64 (1 + x3_)) ∧ w'.cell? ⟨w1.heap.size + 1, 2, none⟩ = some (.int .i64 n)) (go_keep) (fail)
        all_goals
          have hw_x3_ : IntKind.i64.wrap (1 + x3_) = 1 + x3_ := by rw [IntKind.wrap_i64]; omega
          go_wp2
          refine bodyPost_ret (v := .tuple #[ringV 5 p n, ringV 5 (1 + x3_) n, homV 7 0]) (by simp [results, Try.results115, go_sem, *]) rfl ?_
          exact ⟨_, _, _, _, _, _, _, _, rfl, ⟨HD.out, ok7c HD.out (by omega) (by omega) (by omega)⟩, (by repeat' (first | (with_reducible assumption) | (with_reducible apply Cur.drew) | (with_reducible refine Cur.setOther ?_ ?_ _) | omega)), (by repeat' (first | (with_reducible assumption) | (with_reducible apply grown_drew) | (with_reducible refine World.grownBy.setNew ?_ ?_ _) | omega))⟩
      · go_wp2_with fail
        clear f0 f1 f2 t0 t1 t2 y0 y1 y2 a0 a1 a2 b0 b1 b2 d0 d1 x20 x21 x22 x30 x31 x32 x40 x41
        have R2 := R2.oth3 (q := w1.heap.size + 1) (by omega) (.int .i64 (5)) (.int .i64 (p)) (.int .i64 (n))
        have R3 := R3.oth3 (q := w1.heap.size + 1) (by omega) (.int .i64 (5)) (.int .i64 (p)) (.int .i64 (n))
        have R4 := R4.oth3 (q := w1.heap.size + 1) (by omega) (.int .i64 (5)) (.int .i64 (p)) (.int .i64 (n))
        have RF := RF.oth3 (q := w1.heap.size + 1) (by omega) (.int .i64 (5)) (.int .i64 (p)) (.int .i64 (n))
        have RT := ((RT.set 0 (.int .i64 (5))).set 1 (.int .i64 (p))).set 2 (.int .i64 (n))
        have c2s := ((c2.setOther (q := w1.heap.size + 1) (o := 0) (by omega) (.int .i64 (5))).setOther (q := w1.heap.size + 1) (o := 1) (by omega) (.int .i64 (p))).setOther (q := w1.heap.size + 1) (o := 2) (by omega) (.int .i64 (n))
        have hGS := ((GA.setNew (q := w1.heap.size + 1) (o := 0) (by omega) (.int .i64 (5))).setNew (q := w1.heap.size + 1) (o := 1) (by omega) (.int .i64 (p))).setNew (q := w1.heap.size + 1) (o := 2) (by omega) (.int .i64 (n))
        clear GA
        have GA := hGS
        clear hGS
        have f0 := RF.cell (j := 0) rfl
        have f1 := RF.cell (j := 1) rfl
        have f2 := RF.cell (j := 2) rfl
        have t0 := RT.cell (j := 0) rfl
        have t1 := RT.cell (j := 1) rfl
        have t2 := RT.cell (j := 2) rfl
        have y0 := RT.free 0
        have y1 := RT.free 1
        have y2 := RT.free 2
        have a0 := R2.cell (j := 0) rfl
        have a1 := R2.cell (j := 1) rfl
        have a2 := R2.cell (j := 2) rfl
        have b0 := R3.cell (j := 0) rfl
        have b1 := R3.cell (j := 1) rfl
        have b2 := R3.cell (j := 2) rfl
        have d0 := R4.cell (j := 0) rfl
        have d1 := R4.cell (j := 1) rfl
        have x20 := R2.free 0
        have x21 := R2.free 1
        have x22 := R2.free 2
        have x30 := R3.free 0
        have x31 := R3.free 1
        have x32 := R3.free 2
        have x40 := R4.free 0
        have x41 := R4.free 1
        have lR2 := R2.lt
        have lR3 := R3.lt
        have lR4 := R4.lt
        have lRF := RF.lt
        have lRT := RT.lt
        refine (l01Below_any b 200 _ c2s (by omega)).mono ?_; rintro e3 w3 ⟨x3_, rfl, ⟨u3, _, v3⟩, c2b, g3⟩
        have vv3 := v3 (by omega)
        clear v3
        clear f0 f1 f2 t0 t1 t2 y0 y1 y2 a0 a1 a2 b0 b1 b2 d0 d1 x20 x21 x22 x30 x31 x32 x40 x41
        have R2 := R2.keep g3 (by omega)
        have R3 := R3.keep g3 (by omega)
        have R4 := R4.keep g3 (by omega)
        have RF := RF.keep g3 (by omega)
        have RT := RT.keep g3 (by omega)
        have hGS := grownBy_trans GA g3
        clear GA
        have GA := hGS
        clear hGS
        have f0 := RF.cell (j := 0) rfl
        have f1 := RF.cell (j := 1) rfl
        have f2 := RF.cell (j := 2) rfl
        have t0 := RT.cell (j := 0) rfl
        have t1 := RT.cell (j := 1) rfl
        have t2 := RT.cell (j := 2) rfl
        have y0 := RT.free 0
        have y1 := RT.free 1
        have y2 := RT.free 2
        have a0 := R2.cell (j := 0) rfl
        have a1 := R2.cell (j := 1) rfl
        have a2 := R2.cell (j := 2) rfl
        have b0 := R3.cell (j := 0) rfl
        have b1 := R3.cell (j := 1) rfl
        have b2 := R3.cell (j := 2) rfl
        have d0 := R4.cell (j := 0) rfl
        have d1 := R4.cell (j := 1) rfl
        have x20 := R2.free 0
        have x21 := R2.free 1
        have x22 := R2.free 2
        have x30 := R3.free 0
        have x31 := R3.free 1
        have x32 := R3.free 2
        have x40 := R4.free 0
        have x41 := R4.free 1
        have lR2 := R2.lt
        have lR3 := R3.lt
        have lR4 := R4.lt
        have lRF := RF.lt
        have lRT := RT.lt
        go_wp2_with fail
        clear f0 f1 f2 t0 t1 t2 y0 y1 y2 a0 a1 a2 b0 b1 b2 d0 d1 x20 x21 x22 x30 x31 x32 x40 x41
        have R2 := R2.other (p := ⟨w1.heap.size + 1, 1, none⟩) (by first | (simp; done) | omega | (simp; omega)) (.int .i64 (1 + x3_))
        have R3 := R3.other (p := ⟨w1.heap.size + 1, 1, none⟩) (by first | (simp; done) | omega | (simp; omega)) (.int .i64 (1 + x3_))
        have R4 := R4.other (p := ⟨w1.heap.size + 1, 1, none⟩) (by first | (simp; done) | omega | (simp; omega)) (.int .i64 (1 + x3_))
        have RF := RF.other (p := ⟨w1.heap.size + 1, 1, none⟩) (by first | (simp; done) | omega | (simp; omega)) (.int .i64 (1 + x3_))
        have RT := RT.set 1 (.int .i64 (1 + x3_))
        have c2t := c2b.setOther (q := w1.heap.size + 1) (o := 1) (by omega) (.int .i64 (1 + x3_))
        have hGS := GA.setNew (q := w1.heap.size + 1) (o := 1) (by omega) (.int .i64 (1 + x3_))
        clear GA
        have GA := hGS
        clear hGS
        have f0 := RF.cell (j := 0) rfl
        have f1 := RF.cell (j := 1) rfl
        have f2 := RF.cell (j := 2) rfl
        have t0 := RT.cell (j := 0) rfl
        have t1 := RT.cell (j := 1) rfl
        have t2 := RT.cell (j := 2) rfl
        have y0 := RT.free 0
        have y1 := RT.free 1
        have y2 := RT.free 2
        have a0 := R2.cell (j := 0) rfl
        have a1 := R2.cell (j := 1) rfl
        have a2 := R2.cell (j := 2) rfl
        have b0 := R3.cell (j := 0) rfl
        have b1 := R3.cell (j := 1) rfl
        have b2 := R3.cell (j := 2) rfl
        have d0 := R4.cell (j := 0) rfl
        have d1 := R4.cell (j := 1) rfl
        have x20 := R2.free 0
        have x21 := R2.free 1
        have x22 := R2.free 2
        have x30 := R3.free 0
        have x31 := R3.free 1
        have x32 := R3.free 2
        have x40 := R4.free 0
        have x41 := R4.free 1
        have lR2 := R2.lt
        have lR3 := R3.lt
        have lR4 := R4.lt
        have lRF := RF.lt
        have lRT := RT.lt
        go_region_held3 (fun w' => w'.cell? ⟨w1.heap.size, 0, none⟩ = some (.int .i64 5) ∧ w'.cell? ⟨w1.heap.size, 1, none⟩ = some (.int .i64 p) ∧ w'.cell? ⟨w1.heap.size, 2, none⟩ = some (.int .i64 n) ∧ w'.cell? ⟨w1.heap.size + 1, 0, none⟩ = some (.int .i64 5) ∧ w'.cell? ⟨w1.heap.size + 1, 1, none⟩ = some (.int .i64 (1 + x3_)) ∧ w'.cell? ⟨w1.heap.size + 1, 2, none⟩ = some (.int .i64 n)) (go_keep) (fail)
        all_goals
          have hw_x3_ : IntKind.i64.wrap (1 + x3_) = 1 + x3_ := by rw [IntKind.wrap_i64]; omega
          go_wp2
          refine bodyPost_ret (v := .tuple #[ringV 5 p n, ringV 5 (1 + x3_) n, homV 7 0]) (by simp [results, Try.results115, go_sem, *]) rfl ?_
          exact ⟨_, _, _, _, _, _, _, _, rfl, ⟨HD.out, ok7c HD.out (by omega) (by omega) (by omega)⟩, (by repeat' (first | (with_reducible assumption) | (with_reducible apply Cur.drew) | (with_reducible refine Cur.setOther ?_ ?_ _) | omega)), (by repeat' (first | (with_reducible assumption) | (with_reducible apply grown_drew) | (with_reducible refine World.grownBy.setNew ?_ ?_ _) | omega))⟩
    · by_cases hp9 : p < 9
      · have e1 : ¬ 9 ≤ p := by omega
        have e2 : ¬ 9 < p := by omega
        have e3 : min 9 p = p := by omega
        go_wp2_with fail
        go_region_held3 (fun w' => w'.cell? ⟨w1.heap.size, 0, none⟩ = some (.int .i64 5) ∧ w'.cell? ⟨w1.heap.size, 1, none⟩ = some (.int .i64 p) ∧ w'.cell? ⟨w1.heap.size, 2, none⟩ = some (.int .i64 n) ∧ w'.cell? ⟨w1.heap.size + 1, 0, none⟩ = some (.int .i64 1) ∧ w'.cell? ⟨w1.heap.size + 1, 1, none⟩ = some (.int .i64 0) ∧ w'.cell? ⟨w1.heap.size + 1, 2, none⟩ = some (.int .i64 0)) (go_keep) ((go_at_call 157; refine (l01Below_any b (_) _ (c2.ext ((Ext.refl _).drew)) (by omega)).mono ?_; rintro e4 w4 ⟨x4_, rfl, ⟨u4, _, v4⟩, c4, g4⟩; have R2 := (R2.ext ((Ext.refl _).drew)).keep g4 (by omega); have R3 := (R3.ext ((Ext.refl _).drew)).keep g4 (by omega); have R4 := (R4.ext ((Ext.refl _).drew)).keep g4 (by omega); have RF := (RF.ext ((Ext.refl _).drew)).keep g4 (by omega); have RT := (RT.ext ((Ext.refl _).drew)).keep g4 (by omega); have hGS := grownBy_trans (grown_drew GA) g4; have vv4 := v4 (by omega); have f0k := RF.cell (j := 0) rfl; have f1k := RF.cell (j := 1) rfl; have f2k := RF.cell (j := 2) rfl; have t0k := RT.cell (j := 0) rfl; have t1k := RT.cell (j := 1) rfl; have t2k := RT.cell (j := 2) rfl; have y0k := RT.free 0; have y1k := RT.free 1; have y2k := RT.free 2; have a0k := R2.cell (j := 0) rfl; have a1k := R2.cell (j := 1) rfl; have a2k := R2.cell (j := 2) rfl; have b0k := R3.cell (j := 0) rfl; have b1k := R3.cell (j := 1) rfl; have b2k := R3.cell (j := 2) rfl; have d0k := R4.cell (j := 0) rfl; have d1k := R4.cell (j := 1) rfl; have x20k := R2.free 0; have x21k := R2.free 1; have x22k := R2.free 2; have x30k := R3.free 0; have x31k := R3.free 1; have x32k := R3.free 2; have x40k := R4.free 0; have x41k := R4.free 1; have lR2k := R2.lt; have lR3k := R3.lt; have lR4k := R4.lt; have lRFk := RF.lt; have lRTk := RT.lt))
        clear GA
        have GA := hGS
        all_goals
          have hw_x4_ : IntKind.i64.wrap (1 + x4_) = 1 + x4_ := by rw [IntKind.wrap_i64]; omega
          go_wp2
          refine bodyPost_ret (v := .tuple #[ringV 5 p n, ringV 1 0 0, homV 4 (1 + x4_)]) (by simp [results, Try.results115, go_sem, *]) rfl ?_
          exact ⟨_, _, _, _, _, _, _, _, rfl, ⟨HD.out, ok4 HD.out (by omega) (by omega)⟩, (by repeat' (first | (with_reducible assumption) | (with_reducible apply Cur.drew) | (with_reducible refine Cur.setOther ?_ ?_ _) | omega)), (by repeat' (first | (with_reducible assumption) | (with_reducible apply grown_drew) | (with_reducible refine World.grownBy.setNew ?_ ?_ _) | omega))⟩
      by_cases hp99 : p ≤ 9
      · obtain rfl : p = 9 := by omega
        go_wp2_with fail
        go_region_held3 (fun w' => w'.cell? ⟨w1.heap.size, 0, none⟩ = some (.int .i64 5) ∧ w'.cell? ⟨w1.heap.size, 1, none⟩ = some (.int .i64 9) ∧ w'.cell? ⟨w1.heap.size, 2, none⟩ = some (.int .i64 n) ∧ w'.cell? ⟨w1.heap.size + 1, 0, none⟩ = some (.int .i64 1) ∧ w'.cell? ⟨w1.heap.size + 1, 1, none⟩ = some (.int .i64 0) ∧ w'.cell? ⟨w1.heap.size + 1, 2, none⟩ = some (.int .i64 0)) (go_keep) ((go_at_call 157; refine (l01Below_any b (_) _ (c2.ext ((Ext.refl _).drew)) (by omega)).mono ?_; rintro e4 w4 ⟨x4_, rfl, ⟨u4, _, v4⟩, c4, g4⟩; have R2 := (R2.ext ((Ext.refl _).drew)).keep g4 (by omega); have R3 := (R3.ext ((Ext.refl _).drew)).keep g4 (by omega); have R4 := (R4.ext ((Ext.refl _).drew)).keep g4 (by omega); have RF := (RF.ext ((Ext.refl _).drew)).keep g4 (by omega); have RT := (RT.ext ((Ext.refl _).drew)).keep g4 (by omega); have hGS := grownBy_trans (grown_drew GA) g4; have vv4 := v4 (by omega); have f0k := RF.cell (j := 0) rfl; have f1k := RF.cell (j := 1) rfl; have f2k := RF.cell (j := 2) rfl; have t0k := RT.cell (j := 0) rfl; have t1k := RT.cell (j := 1) rfl; have t2k := RT.cell (j := 2) rfl; have y0k := RT.free 0; have y1k := RT.free 1; have y2k := RT.free 2; have a0k := R2.cell (j := 0) rfl; have a1k := R2.cell (j := 1) rfl; have a2k := R2.cell (j := 2) rfl; have b0k := R3.cell (j := 0) rfl; have b1k := R3.cell (j := 1) rfl; have b2k := R3.cell (j := 2) rfl; have d0k := R4.cell (j := 0) rfl; have d1k := R4.cell (j := 1) rfl; have x20k := R2.free 0; have x21k := R2.free 1; have x22k := R2.free 2; have x30k := R3.free 0; have x31k := R3.free 1; have x32k := R3.free 2; have x40k := R4.free 0; have x41k := R4.free 1; have lR2k := R2.lt; have lR3k := R3.lt; have lR4k := R4.lt; have lRFk := RF.lt; have lRTk := RT.lt))
        clear GA
        have GA := hGS
        all_goals
          have hw_x4_ : IntKind.i64.wrap (1 + x4_) = 1 + x4_ := by rw [IntKind.wrap_i64]; omega
          go_wp2
          refine bodyPost_ret (v := .tuple #[ringV 5 9 n, ringV 1 0 0, homV 4 (1 + x4_)]) (by simp [results, Try.results115, go_sem, *]) rfl ?_
          exact ⟨_, _, _, _, _, _, _, _, rfl, ⟨HD.out, ok4 HD.out (by omega) (by omega)⟩, (by repeat' (first | (with_reducible assumption) | (with_reducible apply Cur.drew) | (with_reducible refine Cur.setOther ?_ ?_ _) | omega)), (by repeat' (first | (with_reducible assumption) | (with_reducible apply grown_drew) | (with_reducible refine World.grownBy.setNew ?_ ?_ _) | omega))⟩
      have e1 : 9 ≤ p := by omega
      have e2 : 9 < p := by omega
      have e3 : ¬ p ≤ 9 := by omega
      have e4 : ¬ p < 9 := by omega
      have e5 : min 9 p = 9 := by omega
      go_wp2_with fail
      go_region_held3 (fun w' => w'.cell? ⟨w1.heap.size, 0, none⟩ = some (.int .i64 5) ∧ w'.cell? ⟨w1.heap.size, 1, none⟩ = some (.int .i64 p) ∧ w'.cell? ⟨w1.heap.size, 2, none⟩ = some (.int .i64 n) ∧ w'.cell? ⟨w1.heap.size + 1, 0, none⟩ = some (.int .i64 1) ∧ w'.cell? ⟨w1.heap.size + 1, 1, none⟩ = some (.int .i64 0) ∧ w'.cell? ⟨w1.heap.size + 1, 2, none⟩ = some (.int .i64 0)) (go_keep) ((go_at_call 157; refine (l01Below_any b (_) _ (c2.ext ((Ext.refl _).drew)) (by omega)).mono ?_; rintro e4 w4 ⟨x4_, rfl, ⟨u4, _, v4⟩, c4, g4⟩; have R2 := (R2.ext ((Ext.refl _).drew)).keep g4 (by omega); have R3 := (R3.ext ((Ext.refl _).drew)).keep g4 (by omega); have R4 := (R4.ext ((Ext.refl _).drew)).keep g4 (by omega); have RF := (RF.ext ((Ext.refl _).drew)).keep g4 (by omega); have RT := (RT.ext ((Ext.refl _).drew)).keep g4 (by omega); have hGS := grownBy_trans (grown_drew GA) g4; have vv4 := v4 (by omega); have f0k := RF.cell (j := 0) rfl; have f1k := RF.cell (j := 1) rfl; have f2k := RF.cell (j := 2) rfl; have t0k := RT.cell (j := 0) rfl; have t1k := RT.cell (j := 1) rfl; have t2k := RT.cell (j := 2) rfl; have y0k := RT.free 0; have y1k := RT.free 1; have y2k := RT.free 2; have a0k := R2.cell (j := 0) rfl; have a1k := R2.cell (j := 1) rfl; have a2k := R2.cell (j := 2) rfl; have b0k := R3.cell (j := 0) rfl; have b1k := R3.cell (j := 1) rfl; have b2k := R3.cell (j := 2) rfl; have d0k := R4.cell (j := 0) rfl; have d1k := R4.cell (j := 1) rfl; have x20k := R2.free 0; have x21k := R2.free 1; have x22k := R2.free 2; have x30k := R3.free 0; have x31k := R3.free 1; have x32k := R3.free 2; have x40k := R4.free 0; have x41k := R4.free 1; have lR2k := R2.lt; have lR3k := R3.lt; have lR4k := R4.lt; have lRFk := RF.lt; have lRTk := RT.lt))
      clear GA
      have GA := hGS
      all_goals
        have hw_x4_ : IntKind.i64.wrap (1 + x4_) = 1 + x4_ := by rw [IntKind.wrap_i64]; omega
        go_wp2
        refine bodyPost_ret (v := .tuple #[ringV 5 p n, ringV 1 0 0, homV 4 (1 + x4_)]) (by simp [results, Try.results115, go_sem, *]) rfl ?_
        exact ⟨_, _, _, _, _, _, _, _, rfl, ⟨HD.out, ok4 HD.out (by omega) (by omega)⟩, (by repeat' (first | (with_reducible assumption) | (with_reducible apply Cur.drew) | (with_reducible refine Cur.setOther ?_ ?_ _) | omega)), (by repeat' (first | (with_reducible assumption) | (with_reducible apply grown_drew) | (with_reducible refine World.grownBy.setNew ?_ ?_ _) | omega))⟩
  · have hnn : 1 ≤ n ∧ n ≤ 20 := drawn6 HD.out
    obtain ⟨hn0, hn1⟩ := hnn
    go_wp2_with fail
    rw [HWA.out]
    refine (l01Once_any b 2 _ cA (by omega)).mono ?_; rintro e2 w2 ⟨z2, rfl, c2, g2⟩
    clear f0 f1 f2 t0 t1 t2 y0 y1 y2 a0 a1 a2 b0 b1 b2 d0 d1 x20 x21 x22 x30 x31 x32 x40 x41
    have R2 := R2.keep g2 (by omega)
    have R3 := R3.keep g2 (by omega)
    have R4 := R4.keep g2 (by omega)
    have RF := RF.keep g2 (by omega)
    have RT := RT.keep g2 (by omega)
    have hGS := grownBy_trans GA g2
    clear GA
    have GA := hGS
    clear hGS
    have f0 := RF.cell (j := 0) rfl
    have f1 := RF.cell (j := 1) rfl
    have f2 := RF.cell (j := 2) rfl
    have t0 := RT.cell (j := 0) rfl
    have t1 := RT.cell (j := 1) rfl
    have t2 := RT.cell (j := 2) rfl
    have y0 := RT.free 0
    have y1 := RT.free 1
    have y2 := RT.free 2
    have a0 := R2.cell (j := 0) rfl
    have a1 := R2.cell (j := 1) rfl
    have a2 := R2.cell (j := 2) rfl
    have b0 := R3.cell (j := 0) rfl
    have b1 := R3.cell (j := 1) rfl
    have b2 := R3.cell (j := 2) rfl
    have d0 := R4.cell (j := 0) rfl
    have d1 := R4.cell (j := 1) rfl
    have x20 := R2.free 0
    have x21 := R2.free 1
    have x22 := R2.free 2
    have x30 := R3.free 0
    have x31 := R3.free 1
    have x32 := R3.free 2
    have x40 := R4.free 0
    have x41 := R4.free 1
    have lR2 := R2.lt
    have lR3 := R3.lt
    have lR4 := R4.lt
    have lRF := RF.lt
    have lRT := RT.lt
    cases z2
    · go_wp2_with fail
      go_region_held3 (fun w' => w'.cell? ⟨w1.heap.size, 0, none⟩ = some (.int .i64 6) ∧ w'.cell? ⟨w1.heap.size, 1, none⟩ = some (.int .i64 p) ∧ w'.cell? ⟨w1.heap.size, 2, none⟩ = some (.int .i64 n)) (go_keep) ((go_at_call 157; refine (l01Below_any b (n) _ (c2.ext ((Ext.refl _).drew)) (by omega)).mono ?_; rintro e4 w4 ⟨x4_, rfl, ⟨u4, _, v4⟩, c4, g4⟩; have R2 := (R2.ext ((Ext.refl _).drew)).keep g4 (by omega); have R3 := (R3.ext ((Ext.refl _).drew)).keep g4 (by omega); have R4 := (R4.ext ((Ext.refl _).drew)).keep g4 (by omega); have RF := (RF.ext ((Ext.refl _).drew)).keep g4 (by omega); have RT := (RT.ext ((Ext.refl _).drew)).keep g4 (by omega); have hGS := grownBy_trans (grown_drew GA) g4; have vv4 := v4 (by omega); have f0k := RF.cell (j := 0) rfl; have f1k := RF.cell (j := 1) rfl; have f2k := RF.cell (j := 2) rfl; have t0k := RT.cell (j := 0) rfl; have t1k := RT.cell (j := 1) rfl; have t2k := RT.cell (j := 2) rfl; have y0k := RT.free 0; have y1k := RT.free 1; have y2k := RT.free 2; have a0k := R2.cell (j := 0) rfl; have a1k := R2.cell (j := 1) rfl; have a2k := R2.cell (j := 2) rfl; have b0k := R3.cell (j := 0) rfl; have b1k := R3.cell (j := 1) rfl; have b2k := R3.cell (j := 2) rfl; have d0k := R4.cell (j := 0) rfl; have d1k := R4.cell (j := 1) rfl; have x20k := R2.free 0; have x21k := R2.free 1; have x22k := R2.free 2; have x30k := R3.free 0; have x31k := R3.free 1; have x32k := R3.free 2; have x40k := R4.free 0; have x41k := R4.free 1; have lR2k := R2.lt; have lR3k := R3.lt; have lR4k := R4.lt; have lRFk := RF.lt; have lRTk := RT.lt))
      clear GA
      have GA := hGS
      all_goals
        have hw_x4_ : IntKind.i64.wrap (1 + x4_) = 1 + x4_ := by rw [IntKind.wrap_i64]; omega
        go_wp2
        refine bodyPost_ret (v := .tuple #[ringV 6 p n, ringV 6 0 (1 + x4_), homV 7 0]) (by simp [results, Try.results115, go_sem, *]) rfl ?_
        exact ⟨_, _, _, _, _, _, _, _, rfl, ⟨HD.out, ok7b HD.out (by omega) (by omega)⟩, (by repeat' (first | (with_reducible assumption) | (with_reducible apply Cur.drew) | (with_reducible refine Cur.setOther ?_ ?_ _) | omega)), (by repeat' (first | (with_reducible assumption) | (with_reducible apply grown_drew) | (with_reducible refine World.grownBy.setNew ?_ ?_ _) | omega))⟩
    · go_wp2_with fail
      go_region_held3 (fun w' => w'.cell? ⟨w1.heap.size, 0, none⟩ = some (.int .i64 6) ∧ w'.cell? ⟨w1.heap.size, 1, none⟩ = some (.int .i64 p) ∧ w'.cell? ⟨w1.heap.size, 2, none⟩ = some (.int .i64 n) ∧ w'.cell? ⟨w1.heap.size + 1, 0, none⟩ = some (.int .i64 1) ∧ w'.cell? ⟨w1.heap.size + 1, 1, none⟩ = some (.int .i64 0) ∧ w'.cell? ⟨w1.heap.size + 1, 2, none⟩ = some (.int .i64 0)) (go_keep) ((go_at_call 157; refine (l01Below_any b (n) _ (c2.ext ((Ext.refl _).drew)) (by omega)).mono ?_; rintro e4 w4 ⟨x4_, rfl, ⟨u4, _, v4⟩, c4, g4⟩; have R2 := (R2.ext ((Ext.refl _).drew)).keep g4 (by omega); have R3 := (R3.ext ((Ext.refl _).drew)).keep g4 (by omega); have R4 := (R4.ext ((Ext.refl _).drew)).keep g4 (by omega); have RF := (RF.ext ((Ext.refl _).drew)).keep g4 (by omega); have RT := (RT.ext ((Ext.refl _).drew)).keep g4 (by omega); have hGS := grownBy_trans (grown_drew GA) g4; have vv4 := v4 (by omega); have f0k := RF.cell (j := 0) rfl; have f1k := RF.cell (j := 1) rfl; have f2k := RF.cell (j := 2) rfl; have t0k := RT.cell (j := 0) rfl; have t1k := RT.cell (j := 1) rfl; have t2k := RT.cell (j := 2) rfl; have y0k := RT.free 0; have y1k := RT.free 1; have y2k := RT.free 2; have a0k := R2.cell (j := 0) rfl; have a1k := R2.cell (j := 1) rfl; have a2k := R2.cell (j := 2) rfl; have b0k := R3.cell (j := 0) rfl; have b1k := R3.cell (j := 1) rfl; have b2k := R3.cell (j := 2) rfl; have d0k := R4.cell (j := 0) rfl; have d1k := R4.cell (j := 1) rfl; have x20k := R2.free 0; have x21k := R2.free 1; have x22k := R2.free 2; have x30k := R3.free 0; have x31k := R3.free 1; have x32k := R3.free 2; have x40k := R4.free 0; have x41k := R4.free 1; have lR2k := R2.lt; have lR3k := R3.lt; have lR4k := R4.lt; have lRFk := RF.lt; have lRTk := RT.lt))
      clear GA
      have GA := hGS
      all_goals
        go_wp2
        refine bodyPost_ret (v := .tuple #[ringV 6 p n, ringV 1 0 0, homV 3 x4_]) (by simp [results, Try.results115, go_sem, *]) rfl ?_
        exact ⟨_, _, _, _, _, _, _, _, rfl, ⟨HD.out, ok3 HD.out (by omega) (by omega)⟩, (by repeat' (first | (with_reducible assumption) | (with_reducible apply Cur.drew) | (with_reducible refine Cur.setOther ?_ ?_ _) | omega)), (by repeat' (first | (with_reducible assumption) | (with_reducible apply grown_drew) | (with_reducible refine World.grownBy.setNew ?_ ?_ _) | omega))⟩
  · have hnn : 1 ≤ n ∧ n ≤ 4 := drawn7 HD.out
    obtain ⟨hn0, hn1⟩ := hnn
    go_wp2_with fail
    rw [HWA.out]
    refine (l01Once_any b 2 _ cA (by omega)).mono ?_; rintro e2 w2 ⟨z2, rfl, c2, g2⟩
    clear f0 f1 f2 t0 t1 t2 y0 y1 y2 a0 a1 a2 b0 b1 b2 d0 d1 x20 x21 x22 x30 x31 x32 x40 x41
    have R2 := R2.keep g2 (by omega)
    have R3 := R3.keep g2 (by omega)
    have R4 := R4.keep g2 (by omega)
    have RF := RF.keep g2 (by omega)
    have RT := RT.keep g2 (by omega)
    have hGS := grownBy_trans GA g2
    clear GA
    have GA := hGS
    clear hGS
    have f0 := RF.cell (j := 0) rfl
    have f1 := RF.cell (j := 1) rfl
    have f2 := RF.cell (j := 2) rfl
    have t0 := RT.cell (j := 0) rfl
    have t1 := RT.cell (j := 1) rfl
    have t2 := RT.cell (j := 2) rfl
    have y0 := RT.free 0
    have y1 := RT.free 1
    have y2 := RT.free 2
    have a0 := R2.cell (j := 0) rfl
    have a1 := R2.cell (j := 1) rfl
    have a2 := R2.cell (j := 2) rfl
    have b0 := R3.cell (j := 0) rfl
    have b1 := R3.cell (j := 1) rfl
    have b2 := R3.cell (j := 2) rfl
    have d0 := R4.cell (j := 0) rfl
    have d1 := R4.cell (j := 1) rfl
    have x20 := R2.free 0
    have x21 := R2.free 1
    have x22 := R2.free 2
    have x30 := R3.free 0
    have x31 := R3.free 1
    have x32 := R3.free 2
    have x40 := R4.free 0
    have x41 := R4.free 1
    have lR2 := R2.lt
    have lR3 := R3.lt
    have lR4 := R4.lt
    have lRF := RF.lt
    have lRT := RT.lt
    cases z2
    · go_wp2_with fail
      go_region_held3 (fun w' => w'.cell? ⟨w1.heap.size, 0, none⟩ = some (.int .i64 7) ∧ w'.cell? ⟨w1.heap.size, 1, none⟩ = some (.int .i64 p) ∧ w'.cell? ⟨w1.heap.size, 2, none⟩ = some (.int .i64 n)) (go_keep) ((go_at_call 157; refine (l01Below_any b (n) _ (c2.ext ((Ext.refl _).drew)) (by omega)).mono ?_; rintro e4 w4 ⟨x4_, rfl, ⟨u4, _, v4⟩, c4, g4⟩; have R2 := (R2.ext ((Ext.refl _).drew)).keep g4 (by omega); have R3 := (R3.ext ((Ext.refl _).drew)).keep g4 (by omega); have R4 := (R4.ext ((Ext.refl _).drew)).keep g4 (by omega); have RF := (RF.ext ((Ext.refl _).drew)).keep g4 (by omega); have RT := (RT.ext ((Ext.refl _).drew)).keep g4 (by omega); have hGS := grownBy_trans (grown_drew GA) g4; have vv4 := v4 (by omega); have f0k := RF.cell (j := 0) rfl; have f1k := RF.cell (j := 1) rfl; have f2k := RF.cell (j := 2) rfl; have t0k := RT.cell (j := 0) rfl; have t1k := RT.cell (j := 1) rfl; have t2k := RT.cell (j := 2) rfl; have y0k := RT.free 0; have y1k := RT.free 1; have y2k := RT.free 2; have a0k := R2.cell (j := 0) rfl; have a1k := R2.cell (j := 1) rfl; have a2k := R2.cell (j := 2) rfl; have b0k := R3.cell (j := 0) rfl; have b1k := R3.cell (j := 1) rfl; have b2k := R3.cell (j := 2) rfl; have d0k := R4.cell (j := 0) rfl; have d1k := R4.cell (j := 1) rfl; have x20k := R2.free 0; have x21k := R2.free 1; have x22k := R2.free 2; have x30k := R3.free 0; have x31k := R3.free 1; have x32k := R3.free 2; have x40k := R4.free 0; have x41k := R4.free 1; have lR2k := R2.lt; have lR3k := R3.lt; have lR4k := R4.lt; have lRFk := RF.lt; have lRTk := RT.lt))
      clear GA
      have GA := hGS
      all_goals
        have hw_x4_ : IntKind.i64.wrap (1 + x4_) = 1 + x4_ := by rw [IntKind.wrap_i64]; omega
        go_wp2
        refine bodyPost_ret (v := .tuple #[ringV 7 p n, ringV 7 p (1 + x4_), homV 7 0]) (by simp [results, Try.results115, go_sem, *]) rfl ?_
        exact ⟨_, _, _, _, _, _, _, _, rfl, ⟨HD.out, ok7a HD.out (by omega) (by omega)⟩, (by repeat' (first | (with_reducible assumption) | (with_reducible apply Cur.drew) | (with_reducible refine Cur.setOther ?_ ?_ _) | omega)), (by repeat' (first | (with_reducible assumption) | (with_reducible apply grown_drew) | (with_reducible refine World.grownBy.setNew ?_ ?_ _) | omega))⟩
    · go_wp2_with fail
      go_region_held3 (fun w' => w'.cell? ⟨w1.heap.size, 0, none⟩ = some (.int .i64 7) ∧ w'.cell? ⟨w1.heap.size, 1, none⟩ = some (.int .i64 p) ∧ w'.cell? ⟨w1.heap.size, 2, none⟩ = some (.int .i64 n)) (go_keep) (fail)
      all_goals
        go_wp2
        refine bodyPost_ret (v := .tuple #[ringV 7 p n, ringV 2 p 0, homV 5 0]) (by simp [results, Try.results115, go_sem, *]) rfl ?_
        exact ⟨_, _, _, _, _, _, _, _, rfl, ⟨HD.out, ok5 HD.out⟩, (by repeat' (first | (with_reducible assumption) | (with_reducible apply Cur.drew) | (with_reducible refine Cur.setOther ?_ ?_ _) | omega)), (by repeat' (first | (with_reducible assumption) | (with_reducible apply grown_drew) | (with_reducible refine World.grownBy.setNew ?_ ?_ _) | omega))⟩
  · by_cases h17 : p = 17
    · subst h17
      have hwr : IntKind.i64.wrap (2 + IntKind.i64.wrap (IntKind.i64.wrap 0 * 62)) = 2 := by decide
      go_wp2_with fail
      rw [HWA.out]
      go_region_held3 (fun w' => w'.cell? ⟨w1.heap.size, 0, none⟩ = some (.int .i64 8) ∧ w'.cell? ⟨w1.heap.size, 1, none⟩ = some (.int .i64 17) ∧ w'.cell? ⟨w1.heap.size, 2, none⟩ = some (.int .i64 n)) (go_keep) (fail)
      all_goals
        go_wp2
        refine bodyPost_ret (v := .tuple #[ringV 8 17 n, ringV 2 17 0, homV 6 2]) (by simp [results, Try.results115, go_sem, *]) rfl ?_
        exact ⟨_, _, _, _, _, _, _, _, rfl, ⟨HD.out, ok6a HD.out⟩, (by repeat' (first | (with_reducible assumption) | (with_reducible apply Cur.drew) | (with_reducible refine Cur.setOther ?_ ?_ _) | omega)), (by repeat' (first | (with_reducible assumption) | (with_reducible apply grown_drew) | (with_reducible refine World.grownBy.setNew ?_ ?_ _) | omega))⟩
    by_cases h97 : p = 97
    · subst h97
      have hwr : IntKind.i64.wrap (2 + IntKind.i64.wrap (IntKind.i64.wrap 1 * 62)) = 64 := by decide
      go_wp2_with fail
      rw [HWA.out]
      go_region_held3 (fun w' => w'.cell? ⟨w1.heap.size, 0, none⟩ = some (.int .i64 8) ∧ w'.cell? ⟨w1.heap.size, 1, none⟩ = some (.int .i64 97) ∧ w'.cell? ⟨w1.heap.size, 2, none⟩ = some (.int .i64 n)) (go_keep) (fail)
      all_goals
        go_wp2
        refine bodyPost_ret (v := .tuple #[ringV 8 97 n, ringV 2 97 0, homV 6 64]) (by simp [results, Try.results115, go_sem, *]) rfl ?_
        exact ⟨_, _, _, _, _, _, _, _, rfl, ⟨HD.out, ok6b HD.out⟩, (by repeat' (first | (with_reducible assumption) | (with_reducible apply Cur.drew) | (with_reducible refine Cur.setOther ?_ ?_ _) | omega)), (by repeat' (first | (with_reducible assumption) | (with_reducible apply grown_drew) | (with_reducible refine World.grownBy.setNew ?_ ?_ _) | omega))⟩
    have k17 : (p == 17) = false := by rw [beq_eq_false_iff_ne]; exact h17
    have k97 : (p == 97) = false := by rw [beq_eq_false_iff_ne]; exact h97
    go_wp2_with fail
    rw [HWA.out]
    go_region_held3 (fun w' => w'.cell? ⟨w1.heap.size, 0, none⟩ = some (.int .i64 8) ∧ w'.cell? ⟨w1.heap.size, 1, none⟩ = some (.int .i64 p) ∧ w'.cell? ⟨w1.heap.size, 2, none⟩ = some (.int .i64 n)) (go_keep) (fail)
    all_goals
      go_wp2
      refine bodyPost_ret (v := .tuple #[ringV 8 p n, ringV 8 p n, homV 1 0]) (by simp [results, Try.results115, go_sem, *]) rfl ?_
      exact ⟨_, _, _, _, _, _, _, _, rfl, ⟨HD.out, ok1 HD.out⟩, (by repeat' (first | (with_reducible assumption) | (with_reducible apply Cur.drew) | (with_reducible refine Cur.setOther ?_ ?_ _) | omega)), (by repeat' (first | (with_reducible assumption) | (with_reducible apply grown_drew) | (with_reducible refine World.grownBy.setNew ?_ ?_ _) | omega))⟩
end Go.Proofs.Ytpegckmagiaggaa
