/- l12Dims, NetworkOk, l12Weight of the reference. -/
import Derived.Test.YtpegckmagiaggaaDBase
import Derived.Test.YtpegckmagiaggaaDNetVX
import Derived.Test.YtpegckmagiaggaaDTokW
import Derived.Test.YtpegckmagiaggaaDPermW
import Derived.Test.YtpegckmagiaggaaDShuf
import Derived.Test.YtpegckmagiaggaaDTenW
namespace Go.Proofs.Ytpegckmagiaggaa
open Go.RowKit
set_option linter.unusedSimpArgs false
set_option linter.unusedVariables false
theorem idxOk_map {dm σ : Int → Int} : ∀ {L : List Int}, (∀ l ∈ L, 0 ≤ σ l ∧ σ l < dm l) → idxOk (L.map dm) (L.map σ) = true
  | [], _ => rfl
  | l :: L, h => by
    have h1 := h l (by simp)
    rw [List.map_cons, List.map_cons, idxOk, idxOk_map fun x hx => h x (by simp [hx])]
    simp [h1.1, h1.2]
theorem Dims3.take {dm : Int → Int} {T : List Ten3} (h : Dims3 dm T) (j : Nat) : Dims3 dm (T.take j) :=
  ⟨fun t ht => h.dims t (List.mem_of_mem_take ht), fun t ht => h.labs t (List.mem_of_mem_take ht), fun t ht => h.rank t (List.mem_of_mem_take ht)⟩
section
variable {k p n : Int} (hr : ringOk k p n = true) {W : Nat} (hW : ringWidth k n = (W : Int))
include hW
end
end Go.Proofs.Ytpegckmagiaggaa
