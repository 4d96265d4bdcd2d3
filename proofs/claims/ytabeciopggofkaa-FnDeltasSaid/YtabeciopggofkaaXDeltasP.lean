/- The law of deltas, plain: a delta tensor renames a label, one with three labels takes a diagonal. No program in sight. -/
import Derived.Test.YtabeciopggofkaaXBase
import Derived.Test.YtabeciopggofkaaXSliceP
import Derived.Test.YtabeciopggofkaaXDeltaP
import Derived.Test.YtabeciopggofkaaXPairsP
import Derived.Test.YtabeciopggofkaaXAssocP
namespace Go.Proofs.Ytabeciopggofkaa
open Go.RowKit
set_option linter.unusedSimpArgs false
set_option linter.unusedVariables false

section
variable {k p n : Int} (hr : ringOk k p n = true)
/-- All labels have one value, below v. -/
def sameB (L : List Int) (v : Nat) (τ : Int → Int) : Bool := (List.range v).any fun u => L.all fun l => τ l == (u : Int)
def deltaE (dm : Int → Int) (L : List Int) (v : Nat) : List (El k p n) := tab (axs dm L) (fun τ => ind (rig hr) (sameB L v τ)) σ0
theorem sameB_iff {L : List Int} {v : Nat} {τ : Int → Int} : sameB L v τ = true ↔ ∃ u : Nat, u < v ∧ ∀ l ∈ L, τ l = (u : Int) := by simp [sameB]
theorem map_const {L : List Int} {τ : Int → Int} {v : Int} (h : ∀ l ∈ L, τ l = v) : L.map τ = List.replicate L.length v := by
  rw [List.map_congr_left h, List.map_const']
theorem delta_step {dm : Int → Int} {U L : List Int} (u : Uni dm U) (s : Sub U L) {d : Int} (hd : ∀ l ∈ L, dm l = d) {v : Nat} (h0 : 1 ≤ d) (h8 : d ≤ 8) (hv : (v : Int) < d) :
    (deltaE (k := k) (p := p) (n := n) hr dm L v).set (diag L.length d v).toNat (rig hr).one = deltaE hr dm L (v + 1) := by
  have hD : L.map dm = List.replicate L.length d := map_const hd
  have hdims := (u.ax s).dims
  have hl1 : ∀ l ∈ L, 1 ≤ dm l := fun l hl => (u.dim (s.sub l hl)).1
  obtain ⟨b0, b1⟩ := diag_bounds (m := L.length) h0 h8 (show (0 : Int) ≤ v by omega) hv
  rw [← hD] at b1
  have hs := u.size s
  have hS : (diag L.length d v).toNat < size (axs dm L) := by omega
  have key : ∀ o, o < size (axs dm L) → ((∀ l ∈ L, asg (axs dm L) o σ0 l = (v : Int)) ↔ o = (diag L.length d v).toNat) := by
    intro o ho
    constructor
    · intro h
      have h1 := offL_idx (D := L.map dm) (n := o) hdims (by omega) (by omega)
      rw [idxL_asg s.nodup hl1, map_const h, hD] at h1
      show o = (offL _ _).toNat
      rw [h1]; omega
    · intro h l hl
      have hf : Fits (axs dm L) (fun _ => (v : Int)) := fun a ha => by
        obtain ⟨x, hx, rfl⟩ := List.mem_map.1 ha
        exact ⟨by show (0 : Int) ≤ v; omega, by show (v : Int) < dm x; rw [hd x hx]; exact hv⟩
      have h2 := asg_off hf σ0 l (by rw [labs_axs]; exact hl)
      have h3 : off (axs dm L) (fun _ => (v : Int)) = o := by
        have ho2 := off_lt hf
        have h1 := offL_idx (D := L.map dm) (n := (off (axs dm L) (fun _ => (v : Int)) : Nat)) hdims (by omega) (by omega)
        rw [idxL_asg s.nodup hl1, map_const (fun l hl => asg_off hf σ0 l (by rw [labs_axs]; exact hl)), hD] at h1
        rw [h]
        show _ = (offL _ _).toNat
        rw [h1]; omega
      rw [← h3]; exact h2
  apply List.ext_getElem?
  intro o
  rw [List.getElem?_set]
  have hlen : (deltaE (k := k) (p := p) (n := n) hr dm L v).length = size (axs dm L) := tab_length _ _ _
  by_cases ho : o < size (axs dm L)
  · have g1 : (deltaE (k := k) (p := p) (n := n) hr dm L (v + 1))[o]? = _ := tab_get _ _ _ ho
    have g0 : (deltaE (k := k) (p := p) (n := n) hr dm L v)[o]? = _ := tab_get _ _ _ ho
    rw [g1, g0]
    by_cases e : (diag L.length d v).toNat = o
    · rw [if_pos e, if_pos (by rw [hlen]; omega)]
      have : sameB L (v + 1) (asg (axs dm L) o σ0) = true := sameB_iff.2 ⟨v, by omega, (key o ho).2 e.symm⟩
      rw [this]; rfl
    · rw [if_neg e]
      have : sameB L (v + 1) (asg (axs dm L) o σ0) = sameB L v (asg (axs dm L) o σ0) := by
        rw [Bool.eq_iff_iff, sameB_iff, sameB_iff]
        constructor
        · rintro ⟨q, hq, h⟩
          rcases Nat.lt_or_eq_of_le (Nat.le_of_lt_succ hq) with hq | rfl
          · exact ⟨q, hq, h⟩
          · exact absurd ((key o ho).1 h).symm e
        · rintro ⟨q, hq, h⟩
          exact ⟨q, by omega, h⟩
      rw [this]
  · have g1 : (deltaE (k := k) (p := p) (n := n) hr dm L (v + 1))[o]? = none := List.getElem?_eq_none (by rw [show (deltaE (k := k) (p := p) (n := n) hr dm L (v + 1)).length = size (axs dm L) from tab_length _ _ _]; omega)
    rw [g1, List.getElem?_eq_none (by rw [hlen]; omega), if_neg (by omega)]
theorem deltaX_flat {W : Nat} (hW : ringWidth k n = (W : Int)) {dm : Int → Int} {U L : List Int} (u : Uni dm U) (s : Sub U L) {d : Int} (hd : ∀ l ∈ L, dm l = d) (h0 : 1 ≤ d) (h8 : d ≤ 8) :
    ∀ v : Nat, (v : Int) ≤ d → deltaX L.length W (oneL k p n) (rep (size (axs dm L)) (zeroL k p n)) d v = flat (deltaE (k := k) (p := p) (n := n) hr dm L v)
  | 0, _ => by
    have e : deltaE (k := k) (p := p) (n := n) hr dm L 0 = List.replicate (size (axs dm L)) (rig hr).zero := by
      unfold deltaE
      rw [tab_range]
      have : ∀ τ, ind (rig hr) (sameB L 0 τ) = (rig hr).zero := fun τ => by simp [sameB, ind]
      simp only [this]
      rw [List.map_const', List.length_range]
    rw [deltaX, e]
    exact flat_rep (rig hr).zero _
  | v + 1, hv => by
    have hlen : (deltaE (k := k) (p := p) (n := n) hr dm L v).length = size (axs dm L) := tab_length _ _ _
    obtain ⟨b0, b1⟩ := diag_bounds (m := L.length) h0 h8 (show (0 : Int) ≤ v by omega) (by omega)
    rw [← map_const hd] at b1
    have hs := u.size s
    rw [deltaX, deltaX_flat hW u s hd h0 h8 v (by omega), ← delta_step hr u s hd h0 h8 (by omega)]
    exact flat_put hW (by rw [hlen]; omega) (rig hr).one
/-- The data of a delta tensor. -/
def deltaXs (dm : Int → Int) (L : List Int) (l0 : Int) : List (El k p n) := tab (axs dm L) (fun τ => ind (rig hr) (L.all fun l => τ l == τ l0)) σ0
theorem deltaE_all {dm : Int → Int} {U L : List Int} (u : Uni dm U) (s : Sub U L) {d : Int} (hd : ∀ l ∈ L, dm l = d) (h0 : 1 ≤ d) {l0 : Int} (hl : l0 ∈ L) : deltaE (k := k) (p := p) (n := n) hr dm L d.toNat = deltaXs hr dm L l0 := by
  refine tab_fits u s fun τ hf => ?_
  congr 1
  rw [Bool.eq_iff_iff, sameB_iff, List.all_eq_true]
  constructor
  · rintro ⟨q, _, h⟩ l hl'
    rw [h l hl', h l0 hl]; simp
  · intro h
    obtain ⟨f0, f1⟩ := hf (l0, dm l0) (List.mem_map_of_mem hl)
    have f0 : 0 ≤ τ l0 := f0
    have f1 : τ l0 < dm l0 := f1
    rw [hd l0 hl] at f1
    exact ⟨(τ l0).toNat, by omega, fun l hl' => by have := h l hl'; rw [beq_iff_eq] at this; omega⟩
theorem deltaXs_isT {dm : Int → Int} {U L : List Int} (u : Uni dm U) (s : Sub U L) (l0 : Int) : IsT k p n dm U L (deltaXs hr dm L l0) := IsT.tab u s _
theorem deltaXs_dep (L : List Int) {l0 : Int} (hl : l0 ∈ L) : Dep (fun τ => ind (rig hr) (L.all fun l => τ l == τ l0)) L := fun σ τ h => by
  show ind _ _ = ind _ _
  congr 1
  rw [Bool.eq_iff_iff, List.all_eq_true, List.all_eq_true]
  constructor
  · intro q l hl'; rw [← h l hl', ← h l0 hl]; exact q l hl'
  · intro q l hl'; rw [h l hl', h l0 hl]; exact q l hl'
theorem deltaXs_val {dm : Int → Int} {L : List Int} {l0 : Int} (hl : l0 ∈ L) {τ : Int → Int} (hf : Fits (axs dm L) τ) : valT hr dm L (deltaXs hr dm L l0) τ = ind (rig hr) (L.all fun l => τ l == τ l0) := valT_tab hr (deltaXs_dep hr L hl) hf σ0
end
end Go.Proofs.Ytabeciopggofkaa
