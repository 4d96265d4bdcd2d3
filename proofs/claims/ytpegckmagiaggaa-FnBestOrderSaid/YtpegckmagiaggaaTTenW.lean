/- Tensors of the program: IndexAt, OffsetOf, ElemAt, SetElem; the laws' same. -/
import Derived.Test.YtpegckmagiaggaaTTokW
import Derived.Test.YtpegckmagiaggaaTDrawT
set_option linter.unusedSimpArgs false
set_option linter.unusedVariables false
namespace Go.Proofs.Ytpegckmagiaggaa
open Go.RowKit
theorem IntS.part {w : World} {b off n cap o W : Nat} {X : List Int} (h : IntS w (.slice (some ⟨b, off, none⟩) n cap) X) (hW : 1 ≤ W) (hf : o + W ≤ X.length) : IntS w (.slice (some ⟨b, off + o, none⟩) W (cap - o)) (getL X o W) := by
  obtain ⟨hl, a', cap', hv, h1, h2, h3⟩ := h.row
  cases hv
  have e : (getL X o W).length = W := getL_length hf
  refine ⟨⟨by rw [ints_length]; omega, some ⟨b, off + o, none⟩, cap - o, by rw [e], by omega, by omega, fun _ => ⟨b, off + o, rfl, fun j u hj => ?_⟩⟩⟩
  obtain ⟨b', off', ha, hc⟩ := h3 (by rw [ints_length]; omega)
  cases ha
  have hj2 := (List.getElem?_eq_some_iff.1 hj).1
  rw [ints_length, e] at hj2
  have : (ints X)[o + j]? = some u := by
    rw [ints_get] at hj ⊢
    rw [getL, List.getElem?_take_of_lt hj2, List.getElem?_drop] at hj
    exact hj
  have := hc (o + j) u this
  rw [Nat.add_assoc]; exact this
theorem IntS.open {w : World} {v : Value} {l : List Int} (h : IntS w v l) (hp : 0 < l.length) : ∃ b off cap, v = .slice (some ⟨b, off, none⟩) l.length cap ∧ l.length ≤ cap ∧ cap ≤ 9223372036854775807 ∧ b < w.heap.size := by
  obtain ⟨hl, a, cap, hv, h1, h2, h3⟩ := h.row
  obtain ⟨b, off, rfl, hc⟩ := h3 (by rw [ints_length]; exact hp)
  have := hc 0 (.int .i64 l[0]) (by rw [ints_get, List.getElem?_eq_getElem hp]; rfl)
  exact ⟨b, off, cap, hv, h1, h2, World.block_lt_of_cell? _ _ this⟩
end Go.Proofs.Ytpegckmagiaggaa
