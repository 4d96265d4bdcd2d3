/- Where slices and diagonals read, plain. No program in sight. -/
import Derived.Test.YtabeciopggofkaaXBase
import Derived.Test.YtabeciopggofkaaXPermP
import Derived.Test.YtabeciopggofkaaXDeltaV
import Derived.Test.YtabeciopggofkaaXListW
namespace Go.Proofs.Ytabeciopggofkaa
open Go.RowKit
set_option linter.unusedSimpArgs false
set_option linter.unusedVariables false

/-- One label taken out of a sum of products. -/
theorem dot_cut (g f : Int → Int) {b : Int} : ∀ {L : List Int}, L.Nodup → b ∈ L → dotL (L.map g) (L.map f) = g b * f b + dotL ((cutL L b).map g) ((cutL L b).map f)
  | [], _, h => by simp at h
  | l :: L, hn, h => by
    rw [List.nodup_cons] at hn
    rw [List.map_cons, List.map_cons, dotL]
    by_cases e : l = b
    · subst e
      have e1 : cutL (l :: L) l = L := by
        unfold cutL
        rw [List.filter_cons, if_neg (by simp), List.filter_eq_self]
        intro x hx
        have : x ≠ l := fun e => hn.1 (e ▸ hx)
        simp [this]
      rw [e1]
    · have e1 : cutL (l :: L) b = l :: cutL L b := by
        unfold cutL
        rw [List.filter_cons, if_pos (by simp [e])]
      rw [e1, List.map_cons, List.map_cons, dotL, dot_cut g f hn.2 ((List.mem_cons.1 h).resolve_left fun h => e h.symm)]
      omega
theorem dot_congr {g f f' : Int → Int} : ∀ {M : List Int}, (∀ l ∈ M, f l = f' l) → dotL (M.map g) (M.map f) = dotL (M.map g) (M.map f')
  | [], _ => rfl
  | l :: M, h => by
    rw [List.map_cons, List.map_cons, List.map_cons, dotL, dotL, h l (by simp), dot_congr fun x hx => h x (List.mem_cons_of_mem _ hx)]
theorem dot_add (g g' f : Int → Int) : ∀ (M : List Int), dotL (M.map fun l => g l + g' l) (M.map f) = dotL (M.map g) (M.map f) + dotL (M.map g') (M.map f)
  | [] => rfl
  | l :: M => by
    rw [List.map_cons, List.map_cons, List.map_cons, List.map_cons, dotL, dotL, dotL, dot_add g g' f M, Int.add_mul]
    omega
theorem not_mem_cutL (L : List Int) (b : Int) : b ∉ cutL L b := fun h => (mem_cutL.1 h).2 rfl
section
variable {k p n : Int} (hr : ringOk k p n = true)
/-- The values of a tensor where one label is told by the others. -/
def cutXs (dm : Int → Int) (L : List Int) (b : Int) (y : (Int → Int) → Int) (xs : List (El k p n)) : List (El k p n) := tab (axs dm (cutL L b)) (fun τ => valT hr dm L xs (upd τ b (y τ))) σ0
theorem cutXs_isT {dm : Int → Int} {U L : List Int} {xs : List (El k p n)} (h : IsT k p n dm U L xs) (b : Int) (y : (Int → Int) → Int) : IsT k p n dm U (cutL L b) (cutXs hr dm L b y xs) := IsT.tab h.uni (h.sub.cut b) _
/-- Where the value is read: the strides of the other labels, and that of b times its value. -/
theorem cut_at {W : Nat} (hW : ringWidth k n = (W : Int)) {dm : Int → Int} {U L : List Int} {xs : List (El k p n)} (h : IsT k p n dm U L xs) {b : Int} (hb : b ∈ L) {τ : Int → Int} (hf : Fits (axs dm (cutL L b)) τ) {v : Int} (v0 : 0 ≤ v) (v1 : v < dm b) :
    ∃ q : Nat, v * stride L (L.map dm) b + dotL ((cutL L b).map (stride L (L.map dm))) ((cutL L b).map τ) = (q : Int) ∧ q * W + W ≤ (flat xs).length ∧ getL (flat xs) (q * W) W = (valT hr dm L xs (upd τ b v)).1 ∧ q < size (axs dm L) := by
  have hF : Fits (axs dm L) (upd τ b v) := by
    intro a ha
    obtain ⟨l, hl, rfl⟩ := List.mem_map.1 ha
    by_cases e : l = b
    · subst e; rw [upd_same]; exact ⟨v0, v1⟩
    · rw [upd_ne _ _ e]
      exact hf (l, dm l) (List.mem_map_of_mem (mem_cutL.2 ⟨hl, e⟩))
  obtain ⟨q, h1, h2, h3, h4⟩ := read_at hr hW h h.sub.nodup (fun l hl => hl) hF
  refine ⟨q, ?_, h2, h3, h4⟩
  rw [← h1, dot_cut _ _ h.sub.nodup hb, upd_same, Int.mul_comm]
  congr 1
  exact dot_congr fun l hl => (upd_ne τ v (by rintro rfl; exact not_mem_cutL L l hl)).symm
/-- The strides of a diagonal. -/
def strideD (dm : Int → Int) (L : List Int) (a b l : Int) : Int := if l = a then stride L (L.map dm) l + stride L (L.map dm) b else stride L (L.map dm) l
theorem dot_one (f : Int → Int) (a c : Int) : ∀ {M : List Int}, M.Nodup → a ∈ M → dotL (M.map fun l => if l = a then c else 0) (M.map f) = c * f a
  | [], _, h => by simp at h
  | l :: M, hn, h => by
    rw [List.nodup_cons] at hn
    rw [List.map_cons, List.map_cons, dotL]
    by_cases e : l = a
    · subst e
      rw [if_pos rfl]
      have : dotL (M.map fun x => if x = l then c else 0) (M.map f) = 0 := by
        have e1 : (M.map fun x => if x = l then c else 0) = M.map fun _ => (0 : Int) := List.map_congr_left fun x hx => if_neg (by rintro rfl; exact hn.1 hx)
        rw [e1, dotL_zero]
      omega
    · rw [if_neg e, dot_one f a c hn.2 ((List.mem_cons.1 h).resolve_left fun h => e h.symm)]
      omega
theorem diag_at {W : Nat} (hW : ringWidth k n = (W : Int)) {dm : Int → Int} {U L : List Int} {xs : List (El k p n)} (h : IsT k p n dm U L xs) {a b : Int} (ha : a ∈ L) (hb : b ∈ L) (hab : a ≠ b) (hd : dm a = dm b) {τ : Int → Int} (hf : Fits (axs dm (cutL L b)) τ) :
    ∃ q : Nat, dotL ((cutL L b).map (strideD dm L a b)) ((cutL L b).map τ) = (q : Int) ∧ q * W + W ≤ (flat xs).length ∧ getL (flat xs) (q * W) W = (valT hr dm L xs (upd τ b (τ a))).1 ∧ q < size (axs dm L) := by
  have haM : a ∈ cutL L b := mem_cutL.2 ⟨ha, hab⟩
  obtain ⟨f0, f1⟩ := hf (a, dm a) (List.mem_map_of_mem haM)
  obtain ⟨q, h1, h2⟩ := cut_at hr hW h hb hf f0 (by rw [← hd]; exact f1)
  refine ⟨q, ?_, h2⟩
  rw [← h1]
  have e : ∀ l, strideD dm L a b l = stride L (L.map dm) l + (if l = a then stride L (L.map dm) b else 0) := fun l => by
    unfold strideD; split <;> omega
  rw [show (cutL L b).map (strideD dm L a b) = (cutL L b).map fun l => stride L (L.map dm) l + (if l = a then stride L (L.map dm) b else 0) from List.map_congr_left fun l _ => e l, dot_add, dot_one _ a _ (h.sub.cut b).nodup haM, Int.mul_comm]
  exact Int.add_comm _ _
theorem stride_le : ∀ (L D : List Int), (∀ d ∈ D, 1 ≤ d ∧ d ≤ 8) → ∀ l, stride L D l ≤ prodL D
  | [], D, h, l => by have := prodL_pos h; unfold stride; omega
  | _ :: _, [], h, l => by simp [stride, prodL]
  | x :: L, d :: D, h, l => by
    have hD : ∀ e ∈ D, 1 ≤ e ∧ e ≤ 8 := fun e he => h e (List.mem_cons_of_mem _ he)
    have h1 := prodL_pos hD
    have h2 := (h d (by simp)).1
    have h3 : 1 * prodL D ≤ d * prodL D := Int.mul_le_mul_of_nonneg_right h2 (by omega)
    have h4 := stride_le L D hD l
    rw [prodL_cons]
    unfold stride
    split <;> omega
/-- One round of the loop that reads a slice. -/
theorem slice_step {W : Nat} (hW : ringWidth k n = (W : Int)) {dm : Int → Int} {U L : List Int} {xs : List (El k p n)} (h : IsT k p n dm U L xs) {b : Int} (hb : b ∈ L) {v : Int} (v0 : 0 ≤ v) (v1 : v < dm b) {o : Nat} (ho : o < size (axs dm (cutL L b))) :
    ∃ (q : Nat) (x : List Int), v * stride L (L.map dm) b + dotL ((cutL L b).map (stride L (L.map dm))) ((cutL L b).map (asg (axs dm (cutL L b)) o σ0)) = (q : Int) ∧ q * W + W ≤ (flat xs).length ∧ getL (flat xs) (q * W) W = x ∧ q < 4097 ∧
      flat ((cutXs hr dm L b (fun _ => v) xs).take (o + 1)) = flat ((cutXs hr dm L b (fun _ => v) xs).take o) ++ x := by
  obtain ⟨q, h1, h2, h3, h4⟩ := cut_at hr hW h hb (asg_fits' h.uni (h.sub.cut b) o σ0) v0 v1
  have := h.small
  exact ⟨q, _, h1, h2, h3, by omega, flat_take_tab _ _ _ ho⟩
theorem diag_step {W : Nat} (hW : ringWidth k n = (W : Int)) {dm : Int → Int} {U L : List Int} {xs : List (El k p n)} (h : IsT k p n dm U L xs) {a b : Int} (ha : a ∈ L) (hb : b ∈ L) (hab : a ≠ b) (hd : dm a = dm b) {o : Nat} (ho : o < size (axs dm (cutL L b))) :
    ∃ (q : Nat) (x : List Int), dotL ((cutL L b).map (strideD dm L a b)) ((cutL L b).map (asg (axs dm (cutL L b)) o σ0)) = (q : Int) ∧ q * W + W ≤ (flat xs).length ∧ getL (flat xs) (q * W) W = x ∧ q < 4097 ∧
      flat ((cutXs hr dm L b (fun τ => τ a) xs).take (o + 1)) = flat ((cutXs hr dm L b (fun τ => τ a) xs).take o) ++ x := by
  obtain ⟨q, h1, h2, h3, h4⟩ := diag_at hr hW h ha hb hab hd (asg_fits' h.uni (h.sub.cut b) o σ0)
  have := h.small
  exact ⟨q, _, h1, h2, h3, by omega, flat_take_tab _ _ _ ho⟩
theorem strideD_pos {dm : Int → Int} {U L : List Int} (u : Uni dm U) (s : Sub U L) (a b : Int) (M : List Int) : ∀ x ∈ M.map (strideD dm L a b), 0 ≤ x := by
  have h : ∀ l, 0 ≤ stride L (L.map dm) l := stride_nonneg L (L.map dm) (u.ax s).dims
  intro x hx
  obtain ⟨l, _, rfl⟩ := List.mem_map.1 hx
  have h1 := h l; have h2 := h b
  unfold strideD
  split <;> omega
end
end Go.Proofs.Ytabeciopggofkaa
