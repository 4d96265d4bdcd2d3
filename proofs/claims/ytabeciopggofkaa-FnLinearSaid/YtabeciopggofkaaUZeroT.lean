/- ZeroTensor over a universe of labels. -/
import Derived.Test.YtabeciopggofkaaUBase
import Derived.Test.YtabeciopggofkaaUPermP
namespace Go.Proofs.Ytabeciopggofkaa
open Go.RowKit
set_option linter.unusedSimpArgs false
set_option linter.unusedVariables false

section
variable {k p n : Int} (hr : ringOk k p n = true)
theorem zero_isT {dm : Int → Int} {U L : List Int} (u : Uni dm U) (s : Sub U L) : IsT k p n dm U L (List.replicate (size (axs dm L)) (rig hr).zero) := ⟨u, s, List.length_replicate ..⟩
theorem zeroT_any {dm : Int → Int} {U L : List Int} (u : Uni dm U) (s : Sub U L) (vL vD : Value) (w : World) (hL : IntS w vL L) (hD : IntS w vD (L.map dm)) :
    Calls Try.prog 33 #[ringV k p n, vL, vD] w fun e w' => ∃ v, e = .returned (.tuple #[v, .bool true]) ∧ OwnT w' w.heap.size v L (L.map dm) (flat (List.replicate (size (axs dm L)) (rig hr).zero)) ∧ Ext w w' := by
  have ax := u.ax s
  have hz : zeroTok k p n L (L.map dm) = true := by
    have := ax.pos
    unfold zeroTok
    rw [hr, ax.tsize, Bool.true_and, bne_iff_ne]
    omega
  have hx : zeroTX k p n L (L.map dm) = flat (List.replicate (size (axs dm L)) (rig hr).zero) := by
    have e : (prodL (L.map dm)).toNat = size (axs dm L) := by have := u.size s; omega
    unfold zeroTX
    rw [if_pos hz, e]
    exact flat_rep (rig hr).zero _
  refine (zeroTensor_impl k p n vL vD L (L.map dm) w hL hD).mono ?_
  rintro e w' ⟨v, rfl, o, h⟩
  rw [hz]
  rw [hx, show zeroTL k p n L (L.map dm) = L by unfold zeroTL; rw [if_pos hz], show zeroTD k p n L (L.map dm) = L.map dm by unfold zeroTD; rw [if_pos hz]] at o
  exact ⟨v, rfl, o, h⟩
end
end Go.Proofs.Ytabeciopggofkaa
