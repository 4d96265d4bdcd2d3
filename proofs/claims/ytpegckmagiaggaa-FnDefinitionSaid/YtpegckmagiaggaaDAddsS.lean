/- Sums of elements: l02Add of the reference. -/
import Derived.Test.YtpegckmagiaggaaDBase
namespace Go.Proofs.Ytpegckmagiaggaa
open Go.RowKit
set_option linter.unusedSimpArgs false
set_option linter.unusedVariables false

/-- addInto of the program, at valid elements. -/
theorem addInto_any (k p n : Int) (b off cap : Nat) (c : List Value) (vy : Value) (x y : List Int) (w : World) (hr : ringOk k p n = true) (hP : Part w b off c x) (hvy : IntS w vy y) (hne : vy.ownBlock ≠ some b)
    (hx : rawOk k p n x = true) (hy : rawOk k p n y = true) :
    Calls Try.prog 101 #[ringV k p n, .slice (some ⟨b, off, none⟩) x.length cap, vy] w fun e w' =>
      e = .returned (.tuple #[]) ∧ Blk w' b 3 (splice c off (ints (addL k p x y))) ∧ w.grownBy w' (some b) := by
  obtain ⟨fx, lx⟩ := rawOk_fit hr hx
  obtain ⟨fy, ly⟩ := rawOk_fit hr hy
  have hw := (ringOk_wide hr).hi
  by_cases hk : k = 2 ∨ k = 7 ∨ k = 8
  · obtain ⟨h1, h2⟩ := ringOk_pos hr (by omega)
    exact addInto_many k p n b off cap c vy x y w hk hP hvy hne (by omega) fx.1 fy.1 h1 (by omega) (by omega)
  · have hk2 : k = 1 ∨ k = 3 ∨ k = 4 ∨ k = 5 ∨ k = 6 := by
      rcases kinds k with rfl | rfl | rfl | rfl | rfl | rfl | rfl | rfl | ⟨e1, e2, e3, e4, e5, e6, e7, e8⟩
      all_goals first | omega | (simp [ringOk, *] at hr)
    have hw1 : ringWidth k n = 1 := by
      have h7 : ¬ k = 7 := by omega
      have h8 : ¬ k = 8 := by omega
      simp [ringWidth, h7, h8]
    obtain ⟨a, rfl⟩ : ∃ a, x = [a] := List.length_eq_one_iff.1 (by omega)
    obtain ⟨a2, rfl⟩ : ∃ a, y = [a] := List.length_eq_one_iff.1 (by omega)
    exact addInto_one k p n a a2 b off cap c vy w hk2 hP hvy hne (fx.1 a (by simp)) (fy.1 a2 (by simp))
end Go.Proofs.Ytpegckmagiaggaa
