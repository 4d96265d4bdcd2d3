/- Tensors in order of their labels, plain: permuting, sorting, equality up to the order of axes. No program in sight. -/
import Derived.Test.YtabeciopggofkaaXBase
import Derived.Test.YtabeciopggofkaaXContr
namespace Go.Proofs.Ytabeciopggofkaa
open Go.RowKit
set_option linter.unusedSimpArgs false
set_option linter.unusedVariables false

/-- 'sortedInts' -/
def sortL (l : List Int) : List Int := l.mergeSort fun a b => decide (a ≤ b)
theorem sortL_perm (l : List Int) : (sortL l).Perm l := List.mergeSort_perm _ _
theorem sortL_sorted (l : List Int) : (sortL l).Pairwise (· ≤ ·) := by
  have := List.pairwise_mergeSort (le := fun a b : Int => decide (a ≤ b)) (by intro a b c; simp; omega) (by intro a b; simp; omega) l
  exact this.imp fun h => by simpa using h
theorem sorted_one {a b : List Int} (h : a.Perm b) (ha : a.Pairwise (· ≤ ·)) (hb : b.Pairwise (· ≤ ·)) : a = b :=
  List.Perm.eq_of_pairwise (le := (· ≤ ·)) (fun x y _ _ h1 h2 => Int.le_antisymm h1 h2) ha hb h
/-- A sorted list with the same members is the sorted list. -/
theorem sortL_eq {l m : List Int} (h : m.Perm l) (hs : m.Pairwise (· ≤ ·)) : m = sortL l := sorted_one (h.trans (sortL_perm l).symm) hs (sortL_sorted l)
theorem sortL_of_perm {a b : List Int} (h : a.Perm b) : sortL a = sortL b := sorted_one ((sortL_perm a).trans (h.trans (sortL_perm b).symm)) (sortL_sorted a) (sortL_sorted b)
theorem Dep.perm {α : Type} {F : (Int → Int) → α} {L M : List Int} (h : Dep F L) (p : L.Perm M) : Dep F M := h.mono fun l hl => p.mem_iff.1 hl
section
variable {k p n : Int} (hr : ringOk k p n = true)
/-- The elements of a tensor with its axes in another order. -/
def permXs (dm : Int → Int) (L M : List Int) (xs : List (El k p n)) : List (El k p n) := tab (axs dm M) (valT hr dm L xs) σ0
theorem asg_fits' {U L : List Int} {dm : Int → Int} (u : Uni dm U) (h : Sub U L) (o : Nat) (σ : Int → Int) : Fits (axs dm L) (asg (axs dm L) o σ) := asg_fits (Uni.nodup h) (u.dims h) o σ
theorem Fits.perm {a b : List (Int × Int)} {σ : Int → Int} (h : Fits a σ) (p : a.Perm b) : Fits b σ := fun x hx => h x (p.mem_iff.2 hx)
/-- A table, permuted, is the table over the permuted axes. -/
theorem permXs_tab {U L M : List Int} {dm : Int → Int} (u : Uni dm U) (hL : Sub U L) (hM : L.Perm M) {F : (Int → Int) → El k p n} (hF : Dep F L) : permXs hr dm L M (tab (axs dm L) F σ0) = tab (axs dm M) F σ0 := by
  have hM' := hL.perm hM
  unfold permXs
  refine tab_congr (Uni.nodup hM') (u.dims hM') fun o => ?_
  exact valT_tab hr hF ((asg_fits' u hM' o σ0).perm (axs_perm hM.symm)) σ0
theorem permXs_self {U L : List Int} {dm : Int → Int} (h : Sub U L) {xs : List (El k p n)} (hl : xs.length = size (axs dm L)) : permXs hr dm L L xs = xs := tab_valT hr h.nodup hl σ0
/-- There and back. -/
theorem permXs_back {U L M : List Int} {dm : Int → Int} (u : Uni dm U) (hL : Sub U L) (hM : L.Perm M) {xs : List (El k p n)} (hl : xs.length = size (axs dm L)) : permXs hr dm M L (permXs hr dm L M xs) = xs := by
  have h := permXs_tab hr u (hL.perm hM) hM.symm ((valT_dep hr dm L xs).perm hM)
  unfold permXs at h ⊢
  rw [h]
  exact tab_valT hr hL.nodup hl σ0
theorem permXs_length {dm : Int → Int} (L M : List Int) (xs : List (El k p n)) : (permXs hr dm L M xs).length = size (axs dm M) := tab_length _ _ _
/-- Two tables of one function over permuted axes are the same tensor. -/
theorem sort_same {U L M : List Int} {dm : Int → Int} (u : Uni dm U) (hL : Sub U L) (hM : L.Perm M) {F G : (Int → Int) → El k p n} (hF : Dep F L) (hG : Dep G M) (e : ∀ σ, F σ = G σ) :
    sortL L = sortL M ∧ permXs hr dm L (sortL L) (tab (axs dm L) F σ0) = permXs hr dm M (sortL M) (tab (axs dm M) G σ0) := by
  have hs := sortL_of_perm hM
  have hM' := hL.perm hM
  refine ⟨hs, ?_⟩
  rw [permXs_tab hr u hL (sortL_perm L).symm hF, permXs_tab hr u hM' (sortL_perm M).symm hG, hs, show F = G from funext e]
end
end Go.Proofs.Ytabeciopggofkaa
