/- Drawn tensors over one universe; the law of pairs, plain. No program in sight. -/
import Derived.Test.YtabeciopggofkaaXBase
import Derived.Test.YtabeciopggofkaaXContrP
namespace Go.Proofs.Ytabeciopggofkaa
open Go.RowKit
set_option linter.unusedSimpArgs false
set_option linter.unusedVariables false

/-- The labels of drawn tensors. -/
def U6 : List Int := [0, 1, 2, 3, 4, 5]
theorem uni6 : Uni dimOf U6 := ⟨by
  refine ⟨by simp [U6], by simp [U6], fun l hl => ?_, by decide, fun d hd => ?_, by decide⟩
  · simp [U6] at hl; omega
  · obtain ⟨x, _, rfl⟩ := List.mem_map.1 hd
    have := dimOf_range x; omega⟩
theorem labs_sub {m : Int} {L : List Int} (h : Labs 6 m L) : Sub U6 L := ⟨h.nodup, fun l hl => by have := h.low l hl; simp [U6]; omega⟩
section
variable {k p n : Int} (hr : ringOk k p n = true)
include hr in
theorem drawn_isT {L D X : List Int} (h : DrawnT k p n L D X) : ∃ xs : List (El k p n), X = flat xs ∧ D = L.map dimOf ∧ IsT k p n dimOf U6 L xs := by
  have s := labs_sub h.labs
  have hw := ringOk_wide hr
  have hW : ringWidth k n = ((ringWidth k n).toNat : Nat) := by have := hw.lo; omega
  have hz := uni6.size s
  have hl := h.len
  rw [h.dims, ← hz, hW] at hl
  obtain ⟨xs, h1, h2⟩ := flat_of hW (P := Proofs.Ytabeciopggofkaa.size (axs dimOf L)) (by exact_mod_cast hl) h.top
  exact ⟨xs, h2.symm, h.dims, uni6, s, h1⟩
theorem contr_isT {dm : Int → Int} {U a b : List Int} {xs ys : List (El k p n)} (ha : IsT k p n dm U a xs) (hb : IsT k p n dm U b ys) (keep : List Int) : IsT k p n dm U (keepL (joinL a b) keep) (contrXs hr dm a b keep xs ys) :=
  IsT.tab ha.uni ((ha.sub.join hb.sub).keep keep) _
theorem mulF_dep (dm : Int → Int) (a b : List Int) (xs ys : List (El k p n)) : Dep (mulF hr dm a b xs ys) (joinL a b) := mul_dep (rig hr) (valT_dep hr dm a xs) (valT_dep hr dm b ys)
/-- The order of two tensors is not seen. -/
theorem pairs_sort {dm : Int → Int} {U a b : List Int} {xs ys : List (El k p n)} (ha : IsT k p n dm U a xs) (hb : IsT k p n dm U b ys) (keep : List Int) :
    sortL (keepL (joinL a b) keep) = sortL (keepL (joinL b a) keep) ∧
      permXs hr dm (keepL (joinL a b) keep) (sortL (keepL (joinL a b) keep)) (contrXs hr dm a b keep xs ys) = permXs hr dm (keepL (joinL b a) keep) (sortL (keepL (joinL b a) keep)) (contrXs hr dm b a keep ys xs) :=
  sort_same hr ha.uni ((ha.sub.join hb.sub).keep keep) (keepL_perm (joinL_comm ha.sub hb.sub) keep) (contrF_dep (rig hr) (mulF_dep hr dm a b xs ys)) (contrF_dep (rig hr) (mulF_dep hr dm b a ys xs))
    fun σ => contrF_comm (rig hr) ha.sub hb.sub _ _ σ
end
theorem prod_joins {dm : Int → Int} {U a b : List Int} (sa : Sub U a) (sb : Sub U b) : prodL ((joinL b a).map dm) = prodL ((joinL a b).map dm) := prodL_perm ((joinL_comm sb sa).map dm)
theorem prod_keep {dm : Int → Int} {U J : List Int} (u : Uni dm U) (s : Sub U J) (keep : List Int) : prodL ((keepL J keep).map dm) ≤ prodL (J.map dm) := by
  have e := prodL_perm ((keep_gone J keep).map dm)
  rw [List.map_append, prodL_append] at e
  have p1 := prodL_pos (u.ax (s.keep keep)).dims
  have p2 := prodL_pos (u.ax (s.gone keep)).dims
  have : prodL ((keepL J keep).map dm) * 1 ≤ prodL ((keepL J keep).map dm) * prodL ((goneL J keep).map dm) := Int.mul_le_mul_of_nonneg_left p2 (by omega)
  omega
end Go.Proofs.Ytabeciopggofkaa
