/- Networks: compared, marked and looked at (eqTensorS, markTensorS, heldTensorS, eqNetwork, markNetwork, heldNetwork of the laws). -/
import Derived.Test.YtlgjddgajdjllaaGreatDoorTPRingW
set_option linter.unusedSimpArgs false
set_option linter.unusedVariables false
namespace Go.Proofs.YtlgjddgajdjllaaGreatDoor
open Go.RowKit
structure ApartD (cs : List (Value × Value × Value)) : Prop where
  pair : cs.Pairwise fun c d => ∀ b ∈ fpC c, b ∉ fpC d
  self : ∀ c ∈ cs, (∀ b, c.1.ownBlock = some b → c.2.1.ownBlock ≠ some b ∧ c.2.2.ownBlock ≠ some b) ∧ ∀ b, c.2.1.ownBlock = some b → c.2.2.ownBlock ≠ some b
theorem ApartD.nil : ApartD [] := ⟨List.Pairwise.nil, fun c hc => by cases hc⟩
theorem ApartD.push {ex : Option Nat} {a w : World} {L : List Asn} {k1 k2 : Nat} {v x y z : Value} {cs : List (Value × Value × Value)} {ts : List Ten3} {Lx Dx Xx : List Int} (hap : ApartD cs) (h : HeldX ex a w L) (h1 : L[k1]? = some (aTs v cs ts)) (h2 : L[k2]? = some (aT (.agg #[x, y, z]) Lx Dx Xx)) (hne : k1 ≠ k2) : ApartD (cs ++ [(x, y, z)]) := by
  have ho := h.others h1 k2 _ (Ne.symm hne) h2
  refine ⟨List.pairwise_append.2 ⟨hap.pair, by simp, fun d hd e he b hb hb2 => ?_⟩, fun d hd => ?_⟩
  · simp at he; subst he
    refine ho b (List.mem_append_right _ (List.mem_flatMap.2 ⟨d, hd, hb⟩)) ?_
    show b ∈ fpV (.agg #[x, y, z])
    rw [fpV_agg]
    have := mem_fpC.1 hb2
    simpa using this
  · rcases List.mem_append.1 hd with hd | hd
    · exact hap.self d hd
    · simp at hd; subst hd
      have hx : OwnT w 0 (.agg #[x, y, z]) Lx Dx Xx := h.get h2
      obtain ⟨a, b, c, e, _, _, _, h4, h5⟩ := hx.val
      simp at e
      obtain ⟨rfl, rfl, rfl⟩ := e
      exact ⟨h4, h5⟩
end Go.Proofs.YtlgjddgajdjllaaGreatDoor
