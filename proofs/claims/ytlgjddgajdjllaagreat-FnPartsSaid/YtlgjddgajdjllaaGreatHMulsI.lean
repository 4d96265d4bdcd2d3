/- Products of elements: mulInto and rawMul of the program. -/
import Derived.Test.YtlgjddgajdjllaaGreatHAddsS
set_option linter.unusedSimpArgs false
set_option linter.unusedVariables false
set_option maxRecDepth 100000
set_option maxHeartbeats 2000000
namespace Go.Proofs.YtlgjddgajdjllaaGreat
open Go.RowKit
theorem mulInto_one (k p n z a c2 : Int) (b off cap : Nat) (c : List Value) (vx vy : Value) (w : World) (hk : k = 1 ∨ k = 2 ∨ k = 3 ∨ k = 4 ∨ k = 5 ∨ k = 6) (hP : Part w b off c [z]) (hx : IntS w vx [a]) (hy : IntS w vy [c2])
 (hnx : vx.ownBlock ≠ some b) (hny : vy.ownBlock ≠ some b) (ha : 0 ≤ a ∧ a ≤ 1048576) (hb : 0 ≤ c2 ∧ c2 ≤ 1048576) (hp : k = 2 → 1 ≤ p ∧ p ≤ 1048576) :
 Calls Tryz.prog 40 #[ringV k p n, .slice (some ⟨b, off, none⟩) 1 cap, vx, vy] w fun e w' =>
  e = .returned (.tuple #[]) ∧ Blk w' b 3 (splice c off (ints [mul1 k p a c2])) ∧ w.grownBy w' (some b) := by
 obtain ⟨ax, capx, rfl, hc1, hc2⟩ := hx.val
 obtain ⟨ay, capy, rfl, hc3, hc4⟩ := hy.val
 obtain ⟨b1, off1, x, rfl, hcx, hx0, _⟩ := hx.get (i := 0) (by simp)
 obtain ⟨b2, off2, y, rfl, hcy, hy0, _⟩ := hy.get (i := 0) (by simp)
 simp at hx0 hy0
 subst hx0 hy0
 obtain ⟨hcz, hfz⟩ := hP.cell (i := 0) rfl
 rw [Nat.add_zero] at hcx hcy hcz hfz
 have l0 := World.block_lt_of_cell? w _ hcz
 have l1 := World.block_lt_of_cell? w _ hcx
 have l2 := World.block_lt_of_cell? w _ hcy
 have hne1 : b1 ≠ b := by simpa [Value.ownBlock] using hnx
 have hne2 : b2 ≠ b := by simpa [Value.ownBlock] using hny
 clear hnx hny hx hy
 obtain ⟨a0, a1⟩ := ha
 obtain ⟨b0, b1'⟩ := hb
 obtain ⟨p0, p1⟩ := prod_bound a0 b0 a1 b1'
 obtain ⟨v, hv⟩ : ∃ v, mul1 k p a c2 = v := ⟨_, rfl⟩
 simp only [hv]
 have HV := Lib.hid hv; clear hv
 have hset := fun x => hP.set_splice (i := 0) (by simp) x
 have HS := Lib.hid hset; clear hset
 rcases hk with rfl | rfl | rfl | rfl | rfl | rfl
 case' inr.inl => obtain ⟨pp0, pp1⟩ := hp rfl
 all_goals
  clear hp
  go_enter Tryz.func40, Tryz.ntmps40
  go_wp2
  go_region
  go_wp2
 all_goals
  go_end0
  refine ⟨rfl, ?_, (by repeat' (first | (with_reducible exact grown_refl _ _) | (with_reducible assumption) | (with_reducible apply grown_alloc) | (with_reducible apply grown_drew) | (with_reducible apply grown_drewN) | (with_reducible refine grown_setCell ?_ _ _) | (refine grownBy_trans ?_ (by assumption))))⟩
  refine Blk.ext (w := w.setCell ⟨b, off, none⟩ _) ?_ xt
  have hb := hP.blk.set (off + 0) (.int .i64 v)
  rw [HS.out] at hb
  have e : ∀ x y : Int, x = y → Blk (w.setCell ⟨b, off, none⟩ (.int .i64 y)) b 3 (splice c off (ints ([z].set 0 y))) → Blk (w.setCell ⟨b, off, none⟩ (.int .i64 x)) b 3 (splice c off (ints [y])) := fun x y h hh => by subst h; exact hh
  refine e _ _ ?_ hb
  rw [← HV.out]
  simp [mul1]
  try (first | omega | (split <;> omega))
theorem mulInto_any (k p n : Int) (b off cap : Nat) (c : List Value) (vx vy : Value) (z x y : List Int) (w : World) (hr : ringOk k p n = true) (hP : Part w b off c z) (hvx : IntS w vx x) (hvy : IntS w vy y)
    (hnx : vx.ownBlock ≠ some b) (hny : vy.ownBlock ≠ some b) (hz : z.length = x.length) (hx : rawOk k p n x = true) (hy : rawOk k p n y = true) :
    Calls Tryz.prog 40 #[ringV k p n, .slice (some ⟨b, off, none⟩) z.length cap, vx, vy] w fun e w' =>
      e = .returned (.tuple #[]) ∧ Blk w' b 3 (splice c off (ints (mulL k p x y))) ∧ w.grownBy w' (some b) := by
  obtain ⟨fx, lx⟩ := rawOk_fit hr hx
  obtain ⟨fy, ly⟩ := rawOk_fit hr hy
  have hw := (ringOk_wide hr).hi
  have hw0 := (ringOk_wide hr).lo
  by_cases hk : k = 7 ∨ k = 8
  · obtain ⟨h1, h2⟩ := ringOk_pos hr (by omega)
    have ux := rawOk_under hk h1 hx
    have uy := rawOk_under hk h1 hy
    obtain ⟨m, hm⟩ : ∃ m, z.length = m := ⟨_, rfl⟩
    have hb := hP.blk.lt
    have HM := Lib.hid hm
    obtain ⟨ax, capx, hvvx, hc1, hc2⟩ := hvx.val
    obtain ⟨ay, capy, hvvy, hc3, hc4⟩ := hvy.val
    rw [hm]; clear hm
    rcases hk with rfl | rfl
    · have e : mulL 7 p x y = mulRows false p y (List.replicate z.length 0) 0 x := by rw [HM.out]; simp [mulL, ← HM.out, hz]
      rw [e]
      clear e
      subst hvvx hvvy
      go_enter Tryz.func40, Tryz.ntmps40
      go_wp2_with fail
      rw [← HM.out]
      refine (mulCo_7 _ _ b off _ c _ _ x y z _ (hP.ext xt) (hvx.ext xt) (hvy.ext xt) hnx hny (by omega) ux uy h1 (by omega) (by omega) (by omega) (by omega)).mono ?_
      rintro e1 w1 ⟨rfl, hB, hG⟩
      go_wp2
      go_end0
      exact ⟨rfl, hB, grownBy_trans (grown_alloc (grown_refl w (some b)) _) hG⟩
    · have e : mulL 8 p x y = mulRows true p y (List.replicate z.length 0) 0 x := by rw [HM.out]; simp [mulL, ← HM.out, hz]
      rw [e]
      clear e
      have hw4 : ringWidth 8 n = 4 := by simp [ringWidth]
      subst hvvx hvvy
      go_enter Tryz.func40, Tryz.ntmps40
      go_wp2_with fail
      rw [← HM.out]
      refine (mulCo_8 _ _ b off _ c _ _ x y z _ (hP.ext xt) (hvx.ext xt) (hvy.ext xt) hnx hny (by omega) ux uy h1 (by omega) (by omega) (by omega) (by omega) (by omega) (by omega) (by omega)).mono ?_
      rintro e1 w1 ⟨rfl, hB, hG⟩
      go_wp2
      go_end0
      exact ⟨rfl, hB, grownBy_trans (grown_alloc (grown_refl w (some b)) _) hG⟩
  · have hk2 : k = 1 ∨ k = 2 ∨ k = 3 ∨ k = 4 ∨ k = 5 ∨ k = 6 := by
      rcases kinds k with rfl | rfl | rfl | rfl | rfl | rfl | rfl | rfl | ⟨e1, e2, e3, e4, e5, e6, e7, e8⟩
      all_goals first | omega | (simp [ringOk, *] at hr)
    have h7 : ¬ k = 7 := by omega
    have h8 : ¬ k = 8 := by omega
    have hw1 : ringWidth k n = 1 := by simp [ringWidth, h7, h8]
    obtain ⟨a, rfl⟩ : ∃ a, x = [a] := List.length_eq_one_iff.1 (by omega)
    obtain ⟨a2, rfl⟩ : ∃ a, y = [a] := List.length_eq_one_iff.1 (by omega)
    obtain ⟨a3, rfl⟩ : ∃ a, z = [a] := List.length_eq_one_iff.1 (by simpa using hz)
    rw [mulL_one h7 h8]
    exact mulInto_one k p n a3 a a2 b off cap c vx vy w hk2 hP hvx hvy hnx hny (fx.1 a (by simp)) (fy.1 a2 (by simp)) (fun h => by have := ringOk_pos hr (by omega); omega)
end Go.Proofs.YtlgjddgajdjllaaGreat
