/- l12Dims, NetworkOk, l12Weight of the reference. -/
import Derived.Test.YtlgjddgajdjllaaGreatDoorQNetVX
import Derived.Test.YtlgjddgajdjllaaGreatDoorQOkS
set_option linter.unusedSimpArgs false
set_option linter.unusedVariables false
namespace Go.Proofs.YtlgjddgajdjllaaGreatDoor
open Go.RowKit
theorem TensS.takeS {w : World} {a : Option Addr} {n cap : Nat} {ts : List Ten3} (h : TensS w (.slice a n cap) ts) {j : Nat} (hj : j ≤ ts.length) : TensS w (.slice a j cap) (ts.take j) := by
  obtain ⟨cs, hl, hr, hs⟩ := h.has
  obtain ⟨a', cap', hv, h1, h2, h3⟩ := hr.val
  cases hv
  have e : cs.flatMap cells3 = (cs.take j).flatMap cells3 ++ (cs.drop j).flatMap cells3 := by rw [← List.flatMap_append, List.take_append_drop]
  have hlen : (ts.take j).length = j := by rw [List.length_take]; omega
  have len3 : ∀ l : List (Value × Value × Value), (l.flatMap cells3).length = l.length * 3 := by
    intro l
    induction l with
    | nil => rfl
    | cons x l ih => rw [List.flatMap_cons, List.length_append, ih, List.length_cons]; simp [cells3]; omega
  refine ⟨cs.take j, by rw [List.length_take, List.length_take, hl], ?_, fun i c t hc ht => ?_⟩
  · rw [hlen]
    refine ⟨by rw [len3, List.length_take]; omega, a, cap, rfl, by omega, h2, fun hp => ?_⟩
    obtain ⟨b, off, hb, hc⟩ := h3 (by rw [e, List.length_append]; omega)
    refine ⟨b, off, hb, fun i u hi => hc i u ?_⟩
    rw [e, List.getElem?_append_left (List.getElem?_eq_some_iff.1 hi).1, hi]
  · have hi : i < j := by have := (List.getElem?_eq_some_iff.1 ht).1; omega
    rw [List.getElem?_take_of_lt hi] at hc ht
    exact hs i c t hc ht
end Go.Proofs.YtlgjddgajdjllaaGreatDoor
