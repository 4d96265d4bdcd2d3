/- joinLabels, keptOnly, withoutInt, sameLabels of the program. -/
import Derived.Test.YtpegckmagiaggaaCBase
import Derived.Test.YtpegckmagiaggaaCStrideW
namespace Go.Proofs.Ytpegckmagiaggaa
open Go.RowKit
set_option linter.unusedSimpArgs false
set_option linter.unusedVariables false

theorem take_snoc' {l : List Int} {j : Nat} {x : Int} (h : l[j]? = some x) : l.take (j + 1) = l.take j ++ [x] := by
  obtain ⟨hj, rfl⟩ := List.getElem?_eq_some_iff.1 h
  exact List.take_succ_eq_append_getElem hj
theorem IntS.takeS {w : World} {a : Option Addr} {n cap : Nat} {l : List Int} (h : IntS w (.slice a n cap) l) {j : Nat} (hj : j ≤ l.length) : IntS w (.slice a j cap) (l.take j) := by
  obtain ⟨hl, a', cap', hv, h1, h2, h3⟩ := h.row
  cases hv
  have e : (l.take j).length = j := by rw [List.length_take]; omega
  refine ⟨⟨by rw [ints_length]; omega, a, cap, by rw [e], by omega, h2, fun hp => ?_⟩⟩
  obtain ⟨b', off', ha, hc⟩ := h3 (by rw [ints_length] at hp ⊢; omega)
  refine ⟨b', off', ha, fun i u hi => hc i u ?_⟩
  have hi2 := (List.getElem?_eq_some_iff.1 hi).1
  rw [ints_length, e] at hi2
  rw [ints_get] at hi ⊢
  rw [List.getElem?_take_of_lt hi2] at hi
  exact hi
end Go.Proofs.Ytpegckmagiaggaa
