/- Tables read by strides, plain. No program in sight. -/
import Derived.Test.YtabeciopggofkaaXBase
import Derived.Test.YtabeciopggofkaaXListW
import Derived.Test.YtabeciopggofkaaXSort
namespace Go.Proofs.Ytabeciopggofkaa
open Go.RowKit
set_option linter.unusedSimpArgs false
set_option linter.unusedVariables false

theorem map_get_find {dm : Int → Int} {L : List Int} {x : Int} (h : x ∈ L) : ∃ j : Nat, findL L x = j ∧ j < L.length ∧ L[j]? = some x ∧ (L.map dm)[j]? = some (dm x) := by
  have gen : ∀ (L : List Int) (i : Nat), x ∈ L → ∃ j : Nat, findGo x i L = ((i + j : Nat) : Int) ∧ j < L.length ∧ L[j]? = some x := by
    intro L
    induction L with
    | nil => intro i h; simp at h
    | cons y t ih =>
      intro i h
      rw [findGo]
      by_cases e : y = x
      · exact ⟨0, by rw [if_pos e]; simp, by simp, by simp [e]⟩
      · rcases List.mem_cons.1 h with h | h
        · exact absurd h.symm e
        obtain ⟨j, h1, h2, h3⟩ := ih (i + 1) h
        refine ⟨j + 1, ?_, by simp; omega, by simpa using h3⟩
        rw [if_neg e]
        have : ((i : Nat) : Int) + 1 = ((i + 1 : Nat) : Int) := by simp
        rw [this, h1]; congr 1; omega
  obtain ⟨j, h1, h2, h3⟩ := gen L 0 h
  exact ⟨j, by unfold findL; simpa using h1, h2, h3, by rw [List.getElem?_map, h3]; rfl⟩
section
variable {k p n : Int} (hr : ringOk k p n = true)
/-- A valid tensor over a universe of labels. -/
structure IsT (k p n : Int) (dm : Int → Int) (U L : List Int) (xs : List (El k p n)) : Prop where
  uni : Uni dm U
  sub : Sub U L
  len : xs.length = size (axs dm L)
theorem IsT.ax {dm : Int → Int} {U L : List Int} {xs : List (El k p n)} (h : IsT k p n dm U L xs) : AxOk L (L.map dm) := h.uni.ax h.sub
include hr in
theorem IsT.ok {dm : Int → Int} {U L : List Int} {xs : List (El k p n)} (h : IsT k p n dm U L xs) : TOk k p n L (L.map dm) (flat xs) := by
  have hw := ringOk_wide hr
  have hW : ringWidth k n = ((ringWidth k n).toNat : Nat) := by have := hw.lo; omega
  refine ⟨h.ax, ?_, flat_top _⟩
  rw [flat_length hW, h.len, Int.natCast_mul, h.uni.size h.sub, ← hW]
include hr in
theorem IsT.yes {dm : Int → Int} {U L : List Int} {xs : List (El k p n)} (h : IsT k p n dm U L xs) : tensOk k p n L (L.map dm) (flat xs) = true := (tensOk_iff hr).2 (h.ok hr)
theorem IsT.dims {dm : Int → Int} {U L : List Int} {xs : List (El k p n)} (h : IsT k p n dm U L xs) : ∀ d ∈ L.map dm, 1 ≤ d ∧ d ≤ 8 := h.ax.dims
theorem IsT.tab {dm : Int → Int} {U L : List Int} (u : Uni dm U) (s : Sub U L) (F : (Int → Int) → El k p n) : IsT k p n dm U L (Proofs.Ytabeciopggofkaa.tab (axs dm L) F σ0) := ⟨u, s, tab_length _ _ _⟩
/-- One element more of a table. -/
theorem tab_take {α : Type} (F : (Int → Int) → α) (ax : List (Int × Int)) (σ : Int → Int) {o : Nat} (h : o < size ax) : (Proofs.Ytabeciopggofkaa.tab ax F σ).take (o + 1) = (Proofs.Ytabeciopggofkaa.tab ax F σ).take o ++ [F (asg ax o σ)] := by
  have hg := tab_get F ax σ h
  obtain ⟨h1, h2⟩ := List.getElem?_eq_some_iff.1 hg
  rw [List.take_succ_eq_append_getElem h1, h2]
theorem flat_take_tab (F : (Int → Int) → El k p n) (ax : List (Int × Int)) (σ : Int → Int) {o : Nat} (h : o < size ax) : flat ((Proofs.Ytabeciopggofkaa.tab ax F σ).take (o + 1)) = flat ((Proofs.Ytabeciopggofkaa.tab ax F σ).take o) ++ (F (asg ax o σ)).1 := by
  rw [tab_take F ax σ h, flat_snoc]
/-- What a tensor holds at an assignment that fits: where it lies. -/
theorem read_at {W : Nat} (hW : ringWidth k n = (W : Int)) {dm : Int → Int} {U L M : List Int} {xs : List (El k p n)} (h : IsT k p n dm U L xs) (hM : M.Nodup) (hs : ∀ l ∈ L, l ∈ M) {τ : Int → Int} (hf : Fits (axs dm L) τ) :
    ∃ q : Nat, dotL (M.map (stride L (L.map dm))) (M.map τ) = (q : Int) ∧ q * W + W ≤ (flat xs).length ∧ getL (flat xs) (q * W) W = (valT hr dm L xs τ).1 ∧ q < size (axs dm L) := by
  have hd : ∀ l ∈ L, 1 ≤ dm l := fun l hl => (h.uni.dim (h.sub.sub l hl)).1
  have h0 : ∀ l ∈ L, 0 ≤ τ l := fun l hl => (hf (l, dm l) (List.mem_map_of_mem hl)).1
  have hq := off_lt hf
  refine ⟨off (axs dm L) τ, dot_off hM h.sub.nodup hs hd h0, ?_, flat_get hW (valT_get hr h.len hf), hq⟩
  rw [flat_length hW, h.len]
  have : (off (axs dm L) τ + 1) * W ≤ size (axs dm L) * W := Nat.mul_le_mul_right _ (by omega)
  rw [Nat.add_mul, Nat.one_mul] at this
  exact this
theorem IsT.small {dm : Int → Int} {U L : List Int} {xs : List (El k p n)} (h : IsT k p n dm U L xs) : size (axs dm L) ≤ 4096 := by
  have h1 := h.uni.size h.sub
  have h2 := h.ax.size
  omega
theorem Uni.small {dm : Int → Int} {U L : List Int} (u : Uni dm U) (s : Sub U L) : Proofs.Ytabeciopggofkaa.size (axs dm L) ≤ 4096 ∧ 1 ≤ Proofs.Ytabeciopggofkaa.size (axs dm L) := by
  have h1 := u.size s
  have h2 := (u.ax s).size
  have h3 := prodL_pos (u.ax s).dims
  omega
theorem stride_pos {dm : Int → Int} {U L M : List Int} (u : Uni dm U) (s : Sub U L) : ∀ x ∈ M.map (stride L (L.map dm)), 0 ≤ x := by
  intro x hx
  obtain ⟨l, _, rfl⟩ := List.mem_map.1 hx
  exact stride_nonneg _ _ (u.ax s).dims l
/-- The values of the assignment at an offset. -/
theorem asg_pos {dm : Int → Int} {U M : List Int} (u : Uni dm U) (s : Sub U M) (o : Nat) : ∀ x ∈ M.map (asg (axs dm M) o σ0), 0 ≤ x ∧ x ≤ 8 := by
  intro x hx
  obtain ⟨l, hl, rfl⟩ := List.mem_map.1 hx
  have hf := asg_fits' u s o σ0 (l, dm l) (List.mem_map_of_mem hl)
  have := (u.dim (s.sub l hl)).2
  simp only at hf
  omega
/-- The index that follows, in assignments. -/
theorem next_asg {dm : Int → Int} {U M : List Int} (u : Uni dm U) (s : Sub U M) {o : Nat} (h : o < size (axs dm M)) :
    nextI (M.map dm) (M.map (asg (axs dm M) o σ0)) = if o + 1 < size (axs dm M) then (M.map (asg (axs dm M) (o + 1) σ0), true) else (M.map (asg (axs dm M) 0 σ0), false) := by
  have hd : ∀ l ∈ M, 1 ≤ dm l := fun l hl => (u.dim (s.sub l hl)).1
  have hz := u.size s
  rw [← idxL_asg s.nodup hd, ← idxL_asg s.nodup hd, ← idxL_asg s.nodup hd, next_idx (u.ax s).dims (by omega) (by omega)]
  have e : ((o : Int) + 1 < prodL (M.map dm)) ↔ (o + 1 < size (axs dm M)) := by omega
  by_cases c : o + 1 < size (axs dm M)
  · rw [if_pos c, if_pos (e.2 c)]; simp
  · rw [if_neg c, if_neg (fun h => c (e.1 h))]; simp
theorem asg_zero {dm : Int → Int} {U M : List Int} (u : Uni dm U) (s : Sub U M) : M.map (asg (axs dm M) 0 σ0) = List.replicate M.length 0 := by
  have hd : ∀ l ∈ M, 1 ≤ dm l := fun l hl => (u.dim (s.sub l hl)).1
  have g : ∀ D : List Int, idxL D 0 = List.replicate D.length 0 := by
    intro D
    induction D with
    | nil => rfl
    | cons d D ih => rw [idxL, ih, Int.zero_ediv, Int.zero_emod]; rfl
  have := idxL_asg s.nodup hd 0 σ0
  rw [← this]
  show idxL _ 0 = _
  rw [g, List.length_map]
end
end Go.Proofs.Ytabeciopggofkaa
