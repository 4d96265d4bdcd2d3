/- Texts of one kind, merged by program. -/
import Derived.Test.YtpegckmagiaggaaEBase
import Derived.Test.YtpegckmagiaggaaENetW
import Derived.Test.YtpegckmagiaggaaEAxesW
import Derived.Test.YtpegckmagiaggaaEG10
import Derived.Test.YtpegckmagiaggaaETenW
import Derived.Test.YtpegckmagiaggaaEG5
import Derived.Test.YtpegckmagiaggaaEG13
import Derived.Test.YtpegckmagiaggaaEPermW
import Derived.Test.YtpegckmagiaggaaETokW
import Derived.Test.YtpegckmagiaggaaEHomA
import Derived.Test.YtpegckmagiaggaaEMulsS
import Derived.Test.YtpegckmagiaggaaEAlg
import Derived.Test.YtpegckmagiaggaaEAddsS
import Derived.Test.YtpegckmagiaggaaEClosed
import Derived.Test.YtpegckmagiaggaaEMulsI
import Derived.Test.YtpegckmagiaggaaEDrawE
/- MapNetwork of the program. -/
namespace Go.Proofs.Ytpegckmagiaggaa
open Go.RowKit
set_option linter.unusedSimpArgs false
set_option linter.unusedVariables false
theorem HeldX.swap {ex : Option Nat} {a w : World} {A B : Asn} (h : HeldX ex a w [A, B]) : HeldX ex a w [B, A] := h.perm (List.Perm.swap _ _ _)
end Go.Proofs.Ytpegckmagiaggaa

/- The law 'FnSetLabels', walked. -/
namespace Go.Proofs.Ytpegckmagiaggaa
open Go.RowKit
set_option linter.unusedSimpArgs false
set_option linter.unusedVariables false
theorem lawsIn_any (v : Value) (l : List Int) (x : Int) (w : World) (hl : IntS w v l) : Calls Try.prog 22 #[v, .int .i64 x] w fun e w' =>
    e = .returned (.bool (hasL l x)) ∧ w = w' := by
  obtain ⟨a, cap, rfl, hc1, hc2⟩ := hl.val
  go_enter Try.func22, Try.ntmps22
  go_wp2
  go_loop [9] (fun i => ∃ j : Nat, j ≤ l.length ∧ i = .int .i64 j ∧ hasL (l.drop j) x = hasL l x) (fun i => l.length - (RowKit.intOf i).toNat)
  case atStart => exact ⟨0, Nat.zero_le _, rfl, rfl⟩
  case round =>
    obtain ⟨j, hj, rfl, hq⟩ := hrel
    by_cases hlt : j < l.length
    · obtain ⟨b, off, y, rfl, hcell, _, hd⟩ := hl.get hlt
      rw [hd, hasL_cons] at hq
      have HQ := Lib.hid hq; clear hq hd
      by_cases e : x = y
      · subst e
        go_wp2
        go_ret
        exact ⟨ret_bool (by rw [← HQ.out]; simp), rfl⟩
      · have e2 : (x == y) = false := by rw [beq_eq_false_iff_ne]; exact e
        have e3 : ¬ y = x := fun h => e h.symm
        go_wp2
        go_round
        case rel => exact ⟨j + 1, by omega, by go_num, by rw [← HQ.out, e2]; rfl⟩
        case measure => simp [RowKit.intOf]; omega
    · have : j = l.length := by omega
      subst this
      have HQ := Lib.hid hq; clear hq
      go_wp2
      go_ret
      exact ⟨ret_bool (by rw [← HQ.out, drop_len]; rfl), rfl⟩
end Go.Proofs.Ytpegckmagiaggaa
