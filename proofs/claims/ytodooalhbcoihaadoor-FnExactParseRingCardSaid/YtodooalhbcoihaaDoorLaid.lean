/- What the listed package variables give, in whatever world has grown out of the first. -/
import Derived.Test.YtodooalhbcoihaaDoorRows
import Derived.Test.YtodooalhbcoihaaDoorMem
import Derived.Lib.LaidTab
import Derived.Stop.LaidErr
import Derived.Lib.ItoaNum
namespace Go.Proofs.YtodooalhbcoihaaDoor
open Go.RowKit
set_option linter.unusedSimpArgs false
set_option linter.unusedVariables false

theorem var_ext {P : Program} {w w' : World} {n : String} {cs : Array Value} (e : Ext w w') (h : w.var? P n = some cs) : w'.var? P n = some cs := by
  unfold World.var? at *
  cases hg : P.globalNamed n with
  | none => rw [hg] at h; cases h
  | some g =>
    rw [hg] at h
    simp only [Option.bind_some] at h ⊢
    cases hb : w.heap[g]? with
    | none => rw [hb] at h; cases h
    | some o => rw [e.block hb]; rw [hb] at h; exact h
/-- The table of the powers of ten. -/
structure Tab (w : World) : Prop where
  tab : Lib.TabIs Tryd.prog w "internal/strconv.uint64pow10" .u64 Lib.pow10Tab
theorem Tab.ext {w w' : World} (h : Tab w) (e : Ext w w') : Tab w' := ⟨var_ext e h.tab⟩
theorem gTab : Tryd.prog.globalNamed "internal/strconv.uint64pow10" = some 5 := by kernel_rfl
theorem gTabType : (Tryd.prog.globals[5]?).map (·.type) = some 86 := by kernel_rfl
theorem cellsTab : Tryd.prog.cellsOf 86 = 20 := by kernel_rfl
theorem cellsU64 : Tryd.prog.cellsOf 61 = 1 := by kernel_rfl
/-- The table, where it stands first on the list. -/
theorem tab_of_head {W : World} {rest : List (String × DataW Unit)} (h : laidMet Tryd.prog (("internal/strconv.uint64pow10", Rows.laid_internal_strconv_uint64pow10) :: rest) W) : Tab W :=
  ⟨Lib.tabIs_of_head (zs := Lib.pow10Tab) (rest := rest) gTab gTabType Tryd.underlying86 Tryd.underlying61 cellsU64 cellsTab h⟩
end Go.Proofs.YtodooalhbcoihaaDoor
