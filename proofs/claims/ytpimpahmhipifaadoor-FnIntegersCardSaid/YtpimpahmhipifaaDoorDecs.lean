/- Decompositions: eqIntSS, szDecomposition, toDecomposition, eqDecomposition, WidthOf; the law's walk. -/
import Derived.Test.YtpimpahmhipifaaDoorRows2
namespace Go.Proofs.YtpimpahmhipifaaDoor
open Go.RowKit
set_option linter.unusedSimpArgs false
set_option linter.unusedVariables false

theorem RowsS.len {w : World} {v : Value} {ll : List (List Int)} (h : RowsS w v ll) : True := trivial
/-- The greatest length. -/
def widest (w : Int) : List (List Int) → Int
  | [] => w
  | l :: ll => widest (max w l.length) ll
theorem mem_size {ll : List (List Int)} {l : List Int} (h : l ∈ ll) : l.length ≤ sizeSS ll := by
  induction ll with
  | nil => simp at h
  | cons x xs ih =>
    rw [sizeSS_cons]
    rcases List.mem_cons.1 h with rfl | h
    · omega
    · have := ih h; omega
theorem widest_bounds (ll : List (List Int)) (m : Int) (h : ∀ l ∈ ll, (l.length : Int) ≤ 1048576) (h0 : 0 ≤ m) (h1 : m ≤ 1048576) : 0 ≤ widest m ll ∧ widest m ll ≤ 1048576 := by
  induction ll generalizing m with
  | nil => exact ⟨h0, h1⟩
  | cons x xs ih =>
    have := h x (by simp)
    exact ih _ (fun l hl => h l (by simp [hl])) (by omega) (by omega)

end Go.Proofs.YtpimpahmhipifaaDoor
