/- MakeList; renamed, RelabelTensor of the program. -/
import Derived.Test.YtpegckmagiaggaaJG11
import Derived.Test.YtpegckmagiaggaaJG6
import Derived.Test.YtpegckmagiaggaaJIntoO
set_option linter.unusedSimpArgs false
set_option linter.unusedVariables false
namespace Go.Proofs.Ytpegckmagiaggaa
open Go.RowKit
def renL (F G : List Int) (x : Int) : Int := match F, G with
  | f :: F, g :: G => if f = x then g else renL F G x
  | _, _ => x
theorem renL_nil (G : List Int) (x : Int) : renL [] G x = x := by cases G <;> rfl
theorem renamed_any (vF vG : Value) (F G : List Int) (x : Int) (w : World) (hF : IntS w vF F) (hG : IntS w vG G) (hl : F.length = G.length) : Calls Try.prog 124 #[.int .i64 x, vF, vG] w fun e w' =>
 e = .returned (.int .i64 (renL F G x)) ∧ w = w' := by
 obtain ⟨aF, cF, rfl, _, _⟩ := hF.val
 obtain ⟨aG, cG, rfl, _, _⟩ := hG.val
 have HL := Lib.hid hl; clear hl
 go_enter Try.func124, Try.ntmps124
 go_wp2
 go_loop [11] (fun i => ∃ j : Nat, j ≤ F.length ∧ i = .int .i64 j ∧ renL (F.drop j) (G.drop j) x = renL F G x) (fun i => F.length - (RowKit.intOf i).toNat)
 case atStart => exact ⟨0, Nat.zero_le _, rfl, rfl⟩
 case round =>
  obtain ⟨j, hj, rfl, hq⟩ := hrel
  have HQ := Lib.hid hq; clear hq
  by_cases hlt : j < F.length
  · obtain ⟨b, off, y, rfl, hcell, hy, hd⟩ := hF.get hlt
    obtain ⟨b2, off2, z, rfl, hcell2, hz, hd2⟩ := hG.get (i := j) (by have := HL.out; omega)
    have hq := HQ.out
    rw [hd, hd2, renL] at hq
    have HQ2 := Lib.hid hq
    have hjg : j < G.length := by have := HL.out; omega
    clear hq hd hd2 hy hz
    by_cases hxy : y = x
    · subst hxy
      go_wp2
      go_ret
      exact ⟨ret_int (by simpa using HQ2.out), rfl⟩
    · go_wp2
      go_round
      case rel => exact ⟨j + 1, by omega, by go_num, by have := HQ2.out; rw [if_neg hxy] at this; exact this⟩
      case measure => simp [RowKit.intOf]; omega
  · have : j = F.length := by omega
    subst this
    go_wp2
    go_ret
    exact ⟨ret_int (by rw [← HQ.out, drop_len, renL_nil]), rfl⟩
end Go.Proofs.Ytpegckmagiaggaa
