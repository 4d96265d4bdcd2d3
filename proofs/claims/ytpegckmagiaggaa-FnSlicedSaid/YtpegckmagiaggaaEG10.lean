/- Texts of one kind, merged by program. -/
import Derived.Test.YtpegckmagiaggaaEBase
import Derived.Test.YtpegckmagiaggaaEListW
import Derived.Test.YtpegckmagiaggaaEG5
/- Tables read by strides, plain. No program in sight. -/
namespace Go.Proofs.Ytpegckmagiaggaa
open Go.RowKit
set_option linter.unusedSimpArgs false
set_option linter.unusedVariables false

theorem map_get_find {dm : Int → Int} {L : List Int} {x : Int} (h : x ∈ L) : ∃ j : Nat, findL L x = j ∧ j < L.length ∧ L[j]? = some x ∧ (L.map dm)[j]? = some (dm x) := by
  have gen : ∀ (L : List Int) (i : Nat), x ∈ L → ∃ j : Nat, findGo x i L = ((i + j : Nat) : Int) ∧ j < L.length ∧ L[j]? = some x := by
    intro L
    induction L with
    | nil => intro i h; simp at h
    | cons y t ih =>
      intro i h
      rw [findGo]
      by_cases e : y = x
      · exact ⟨0, by rw [if_pos e]; simp, by simp, by simp [e]⟩
      · rcases List.mem_cons.1 h with h | h
        · exact absurd h.symm e
        obtain ⟨j, h1, h2, h3⟩ := ih (i + 1) h
        refine ⟨j + 1, ?_, by simp; omega, by simpa using h3⟩
        rw [if_neg e]
        have : ((i : Nat) : Int) + 1 = ((i + 1 : Nat) : Int) := by simp
        rw [this, h1]; congr 1; omega
  obtain ⟨j, h1, h2, h3⟩ := gen L 0 h
  exact ⟨j, by unfold findL; simpa using h1, h2, h3, by rw [List.getElem?_map, h3]; rfl⟩
section
variable {k p n : Int} (hr : ringOk k p n = true)
/-- A valid tensor over a universe of labels. -/
structure IsT (k p n : Int) (dm : Int → Int) (U L : List Int) (xs : List (El k p n)) : Prop where
  uni : Uni dm U
  sub : Sub U L
  len : xs.length = size (axs dm L)
theorem IsT.ax {dm : Int → Int} {U L : List Int} {xs : List (El k p n)} (h : IsT k p n dm U L xs) : AxOk L (L.map dm) := h.uni.ax h.sub
include hr in
theorem IsT.ok {dm : Int → Int} {U L : List Int} {xs : List (El k p n)} (h : IsT k p n dm U L xs) : TOk k p n L (L.map dm) (flat xs) := by
  have hw := ringOk_wide hr
  have hW : ringWidth k n = ((ringWidth k n).toNat : Nat) := by have := hw.lo; omega
  refine ⟨h.ax, ?_, flat_top _⟩
  rw [flat_length hW, h.len, Int.natCast_mul, h.uni.size h.sub, ← hW]
include hr in
theorem IsT.yes {dm : Int → Int} {U L : List Int} {xs : List (El k p n)} (h : IsT k p n dm U L xs) : tensOk k p n L (L.map dm) (flat xs) = true := (tensOk_iff hr).2 (h.ok hr)
theorem IsT.dims {dm : Int → Int} {U L : List Int} {xs : List (El k p n)} (h : IsT k p n dm U L xs) : ∀ d ∈ L.map dm, 1 ≤ d ∧ d ≤ 8 := h.ax.dims
theorem IsT.tab {dm : Int → Int} {U L : List Int} (u : Uni dm U) (s : Sub U L) (F : (Int → Int) → El k p n) : IsT k p n dm U L (Proofs.Ytpegckmagiaggaa.tab (axs dm L) F σ0) := ⟨u, s, tab_length _ _ _⟩
/-- One element more of a table. -/
theorem tab_take {α : Type} (F : (Int → Int) → α) (ax : List (Int × Int)) (σ : Int → Int) {o : Nat} (h : o < size ax) : (Proofs.Ytpegckmagiaggaa.tab ax F σ).take (o + 1) = (Proofs.Ytpegckmagiaggaa.tab ax F σ).take o ++ [F (asg ax o σ)] := by
  have hg := tab_get F ax σ h
  obtain ⟨h1, h2⟩ := List.getElem?_eq_some_iff.1 hg
  rw [List.take_succ_eq_append_getElem h1, h2]
theorem flat_take_tab (F : (Int → Int) → El k p n) (ax : List (Int × Int)) (σ : Int → Int) {o : Nat} (h : o < size ax) : flat ((Proofs.Ytpegckmagiaggaa.tab ax F σ).take (o + 1)) = flat ((Proofs.Ytpegckmagiaggaa.tab ax F σ).take o) ++ (F (asg ax o σ)).1 := by
  rw [tab_take F ax σ h, flat_snoc]
/-- What a tensor holds at an assignment that fits: where it lies. -/
theorem read_at {W : Nat} (hW : ringWidth k n = (W : Int)) {dm : Int → Int} {U L M : List Int} {xs : List (El k p n)} (h : IsT k p n dm U L xs) (hM : M.Nodup) (hs : ∀ l ∈ L, l ∈ M) {τ : Int → Int} (hf : Fits (axs dm L) τ) :
    ∃ q : Nat, dotL (M.map (stride L (L.map dm))) (M.map τ) = (q : Int) ∧ q * W + W ≤ (flat xs).length ∧ getL (flat xs) (q * W) W = (valT hr dm L xs τ).1 ∧ q < size (axs dm L) := by
  have hd : ∀ l ∈ L, 1 ≤ dm l := fun l hl => (h.uni.dim (h.sub.sub l hl)).1
  have h0 : ∀ l ∈ L, 0 ≤ τ l := fun l hl => (hf (l, dm l) (List.mem_map_of_mem hl)).1
  have hq := off_lt hf
  refine ⟨off (axs dm L) τ, dot_off hM h.sub.nodup hs hd h0, ?_, flat_get hW (valT_get hr h.len hf), hq⟩
  rw [flat_length hW, h.len]
  have : (off (axs dm L) τ + 1) * W ≤ size (axs dm L) * W := Nat.mul_le_mul_right _ (by omega)
  rw [Nat.add_mul, Nat.one_mul] at this
  exact this
theorem IsT.small {dm : Int → Int} {U L : List Int} {xs : List (El k p n)} (h : IsT k p n dm U L xs) : size (axs dm L) ≤ 4096 := by
  have h1 := h.uni.size h.sub
  have h2 := h.ax.size
  omega
theorem Uni.small {dm : Int → Int} {U L : List Int} (u : Uni dm U) (s : Sub U L) : Proofs.Ytpegckmagiaggaa.size (axs dm L) ≤ 4096 ∧ 1 ≤ Proofs.Ytpegckmagiaggaa.size (axs dm L) := by
  have h1 := u.size s
  have h2 := (u.ax s).size
  have h3 := prodL_pos (u.ax s).dims
  omega
theorem stride_pos {dm : Int → Int} {U L M : List Int} (u : Uni dm U) (s : Sub U L) : ∀ x ∈ M.map (stride L (L.map dm)), 0 ≤ x := by
  intro x hx
  obtain ⟨l, _, rfl⟩ := List.mem_map.1 hx
  exact stride_nonneg _ _ (u.ax s).dims l
/-- The values of the assignment at an offset. -/
theorem asg_pos {dm : Int → Int} {U M : List Int} (u : Uni dm U) (s : Sub U M) (o : Nat) : ∀ x ∈ M.map (asg (axs dm M) o σ0), 0 ≤ x ∧ x ≤ 8 := by
  intro x hx
  obtain ⟨l, hl, rfl⟩ := List.mem_map.1 hx
  have hf := asg_fits' u s o σ0 (l, dm l) (List.mem_map_of_mem hl)
  have := (u.dim (s.sub l hl)).2
  simp only at hf
  omega
/-- The index that follows, in assignments. -/
theorem next_asg {dm : Int → Int} {U M : List Int} (u : Uni dm U) (s : Sub U M) {o : Nat} (h : o < size (axs dm M)) :
    nextI (M.map dm) (M.map (asg (axs dm M) o σ0)) = if o + 1 < size (axs dm M) then (M.map (asg (axs dm M) (o + 1) σ0), true) else (M.map (asg (axs dm M) 0 σ0), false) := by
  have hd : ∀ l ∈ M, 1 ≤ dm l := fun l hl => (u.dim (s.sub l hl)).1
  have hz := u.size s
  rw [← idxL_asg s.nodup hd, ← idxL_asg s.nodup hd, ← idxL_asg s.nodup hd, next_idx (u.ax s).dims (by omega) (by omega)]
  have e : ((o : Int) + 1 < prodL (M.map dm)) ↔ (o + 1 < size (axs dm M)) := by omega
  by_cases c : o + 1 < size (axs dm M)
  · rw [if_pos c, if_pos (e.2 c)]; simp
  · rw [if_neg c, if_neg (fun h => c (e.1 h))]; simp
theorem asg_zero {dm : Int → Int} {U M : List Int} (u : Uni dm U) (s : Sub U M) : M.map (asg (axs dm M) 0 σ0) = List.replicate M.length 0 := by
  have hd : ∀ l ∈ M, 1 ≤ dm l := fun l hl => (u.dim (s.sub l hl)).1
  have g : ∀ D : List Int, idxL D 0 = List.replicate D.length 0 := by
    intro D
    induction D with
    | nil => rfl
    | cons d D ih => rw [idxL, ih, Int.zero_ediv, Int.zero_emod]; rfl
  have := idxL_asg s.nodup hd 0 σ0
  rw [← this]
  show idxL _ 0 = _
  rw [g, List.length_map]
end
end Go.Proofs.Ytpegckmagiaggaa

/- What ContractPair's loop adds up, plain. No program in sight. -/
namespace Go.Proofs.Ytpegckmagiaggaa
open Go.RowKit
set_option linter.unusedSimpArgs false
set_option linter.unusedVariables false

section
variable {k p n : Int} (hr : ringOk k p n = true)
theorem getD_modify {α : Type} {l : List α} {q : Nat} (h : q < l.length) (f : α → α) : l.modify q f = l.set q (f l[q]) := by
  apply List.ext_getElem?
  intro i
  rw [List.getElem?_modify, List.getElem?_set]
  by_cases e : q = i
  · subst e; simp [h]
  · simp [e]
end
end Go.Proofs.Ytpegckmagiaggaa

/- Drawn tensors over one universe; the law of pairs, plain. No program in sight. -/
namespace Go.Proofs.Ytpegckmagiaggaa
open Go.RowKit
set_option linter.unusedSimpArgs false
set_option linter.unusedVariables false

/-- The labels of drawn tensors. -/
def U6 : List Int := [0, 1, 2, 3, 4, 5]
theorem uni6 : Uni dimOf U6 := ⟨by
  refine ⟨by simp [U6], by simp [U6], fun l hl => ?_, by decide, fun d hd => ?_, by decide⟩
  · simp [U6] at hl; omega
  · obtain ⟨x, _, rfl⟩ := List.mem_map.1 hd
    have := dimOf_range x; omega⟩
theorem labs_sub {m : Int} {L : List Int} (h : Labs 6 m L) : Sub U6 L := ⟨h.nodup, fun l hl => by have := h.low l hl; simp [U6]; omega⟩
section
variable {k p n : Int} (hr : ringOk k p n = true)
include hr in
theorem drawn_isT {L D X : List Int} (h : DrawnT k p n L D X) : ∃ xs : List (El k p n), X = flat xs ∧ D = L.map dimOf ∧ IsT k p n dimOf U6 L xs := by
  have s := labs_sub h.labs
  have hw := ringOk_wide hr
  have hW : ringWidth k n = ((ringWidth k n).toNat : Nat) := by have := hw.lo; omega
  have hz := uni6.size s
  have hl := h.len
  rw [h.dims, ← hz, hW] at hl
  obtain ⟨xs, h1, h2⟩ := flat_of hW (P := Proofs.Ytpegckmagiaggaa.size (axs dimOf L)) (by exact_mod_cast hl) h.top
  exact ⟨xs, h2.symm, h.dims, uni6, s, h1⟩
end
end Go.Proofs.Ytpegckmagiaggaa

/- Networks over a universe of labels, plain. No program in sight. -/
namespace Go.Proofs.Ytpegckmagiaggaa
open Go.RowKit
set_option linter.unusedSimpArgs false
set_option linter.unusedVariables false

/-- Tensors of a network: labels and elements. -/
abbrev NT (k p n : Int) := List Int × List (El k p n)
section
variable {k p n : Int}
/-- A tensor as it is read. -/
def tenOf (dm : Int → Int) (t : NT k p n) : Ten3 := (t.1, t.1.map dm, flat t.2)
/-- All labels of the tensors, one behind the other. -/
def occ (ts : List (NT k p n)) : List Int := ts.flatMap (·.1)
theorem mem_occ {ts : List (NT k p n)} {x : Int} : x ∈ occ ts ↔ ∃ t ∈ ts, x ∈ t.1 := List.mem_flatMap
theorem occ_append (a b : List (NT k p n)) : occ (a ++ b) = occ a ++ occ b := List.flatMap_append
end
/-- The labels of a list in ascending order. -/
def all100 : List Int := (List.range 100).map fun n : Nat => (n : Int)
theorem mem_all100 {x : Int} : x ∈ all100 ↔ 0 ≤ x ∧ x ≤ 99 := by
  unfold all100
  rw [List.mem_map]
  constructor
  · rintro ⟨m, hm, rfl⟩
    have := List.mem_range.1 hm
    omega
  · rintro ⟨h0, h1⟩
    exact ⟨x.toNat, List.mem_range.2 (by omega), by omega⟩
theorem all100_nodup : all100.Nodup := by
  unfold all100
  exact List.pairwise_map.2 (List.Pairwise.imp (fun h e => h (by exact_mod_cast e)) List.nodup_range)
def ascL (S : List Int) : List Int := all100.filter fun x => hasL S x
theorem mem_ascL {S : List Int} {x : Int} : x ∈ ascL S ↔ (0 ≤ x ∧ x ≤ 99) ∧ x ∈ S := by
  unfold ascL
  rw [List.mem_filter, mem_all100, hasL_iff]
theorem ascL_nodup (S : List Int) : (ascL S).Nodup := all100_nodup.filter _
theorem ascL_congr {S T : List Int} (h : ∀ x, x ∈ S ↔ x ∈ T) : ascL S = ascL T := by
  unfold ascL
  apply List.filter_congr
  intro x _
  rw [Bool.eq_iff_iff, hasL_iff, hasL_iff]
  exact h x
/-- The dimensions of labels in an array: 0 where a label does not occur. -/
def arrL (dm : Int → Int) (S : List Int) : List Int := all100.map fun x => if hasL S x = true then dm x else 0
theorem arrL_length (dm : Int → Int) (S : List Int) : (arrL dm S).length = 100 := by simp [arrL, all100]
theorem all100_get {j : Nat} (h : j < 100) : all100[j]? = some (j : Int) := by simp [all100, h]
theorem arrL_get (dm : Int → Int) (S : List Int) {j : Nat} (h : j < 100) : (arrL dm S)[j]? = some (if hasL S (j : Int) = true then dm j else 0) := by
  unfold arrL
  rw [List.getElem?_map, all100_get h]; rfl
theorem arrL_set (dm : Int → Int) (S : List Int) {j : Nat} (h : j < 100) : (arrL dm S).set j (dm j) = arrL dm (S ++ [(j : Int)]) := by
  apply List.ext_getElem?
  intro i
  by_cases hi : i < 100
  · rw [arrL_get _ _ hi]
    by_cases e : j = i
    · subst e
      rw [List.getElem?_set_self (by rw [arrL_length]; exact h), if_pos ((hasL_iff _ _).2 (by simp))]
    · rw [List.getElem?_set_ne e, arrL_get _ _ hi]
      have : hasL (S ++ [(j : Int)]) (i : Int) = hasL S (i : Int) := by
        rw [Bool.eq_iff_iff, hasL_iff, hasL_iff]
        simp; omega
      rw [this]
  · rw [List.getElem?_eq_none (by rw [List.length_set, arrL_length]; omega), List.getElem?_eq_none (by rw [arrL_length]; omega)]
theorem arrL_zero (dm : Int → Int) : arrL dm [] = List.replicate 100 0 := by
  unfold arrL
  have : (fun x : Int => if hasL [] x = true then dm x else 0) = fun _ => 0 := by funext x; simp [hasL]
  rw [this, List.map_const', all100, List.length_map, List.length_range]
section
variable {k p n : Int}
/-- A network whose tensors lie over one universe of labels. -/
structure IsN (k p n : Int) (dm : Int → Int) (U : List Int) (ts : List (NT k p n)) (op : List Int) : Prop where
  uni : Uni dm U
  ten : ∀ t ∈ ts, IsT k p n dm U t.1 t.2
  sub : Sub U op
  occ : ∀ x ∈ op, x ∈ Proofs.Ytpegckmagiaggaa.occ ts
  len : ts.length ≤ 12
variable {dm : Int → Int} {U : List Int} {ts : List (NT k p n)} {op : List Int}
theorem IsN.occU (h : IsN k p n dm U ts op) {x : Int} (hx : x ∈ Proofs.Ytpegckmagiaggaa.occ ts) : x ∈ U := by
  obtain ⟨t, ht, hxt⟩ := mem_occ.1 hx
  exact (h.ten t ht).sub.sub x hxt
theorem Uni.labs (u : Uni dm U) {x : Int} (hx : x ∈ U) : 0 ≤ x ∧ x ≤ 99 := u.ok.labs x hx
theorem IsN.mem_asc (h : IsN k p n dm U ts op) {x : Int} : x ∈ ascL (Proofs.Ytpegckmagiaggaa.occ ts) ↔ x ∈ Proofs.Ytpegckmagiaggaa.occ ts :=
  ⟨fun hx => (mem_ascL.1 hx).2, fun hx => mem_ascL.2 ⟨h.uni.labs (h.occU hx), hx⟩⟩
theorem IsN.ascSub (h : IsN k p n dm U ts op) : Sub U (ascL (Proofs.Ytpegckmagiaggaa.occ ts)) := ⟨ascL_nodup _, fun x hx => h.occU (mem_ascL.1 hx).2⟩
theorem IsN.opAsc (h : IsN k p n dm U ts op) {x : Int} (hx : x ∈ op) : x ∈ ascL (Proofs.Ytpegckmagiaggaa.occ ts) := h.mem_asc.2 (h.occ x hx)
theorem IsN.rank (h : IsN k p n dm U ts op) : op.length ≤ 12 := (h.uni.ax h.sub).rank
end
end Go.Proofs.Ytpegckmagiaggaa

/- Where slices and diagonals read, plain. No program in sight. -/
namespace Go.Proofs.Ytpegckmagiaggaa
open Go.RowKit
set_option linter.unusedSimpArgs false
set_option linter.unusedVariables false

/-- One label taken out of a sum of products. -/
theorem dot_cut (g f : Int → Int) {b : Int} : ∀ {L : List Int}, L.Nodup → b ∈ L → dotL (L.map g) (L.map f) = g b * f b + dotL ((cutL L b).map g) ((cutL L b).map f)
  | [], _, h => by simp at h
  | l :: L, hn, h => by
    rw [List.nodup_cons] at hn
    rw [List.map_cons, List.map_cons, dotL]
    by_cases e : l = b
    · subst e
      have e1 : cutL (l :: L) l = L := by
        unfold cutL
        rw [List.filter_cons, if_neg (by simp), List.filter_eq_self]
        intro x hx
        have : x ≠ l := fun e => hn.1 (e ▸ hx)
        simp [this]
      rw [e1]
    · have e1 : cutL (l :: L) b = l :: cutL L b := by
        unfold cutL
        rw [List.filter_cons, if_pos (by simp [e])]
      rw [e1, List.map_cons, List.map_cons, dotL, dot_cut g f hn.2 ((List.mem_cons.1 h).resolve_left fun h => e h.symm)]
      omega
theorem dot_congr {g f f' : Int → Int} : ∀ {M : List Int}, (∀ l ∈ M, f l = f' l) → dotL (M.map g) (M.map f) = dotL (M.map g) (M.map f')
  | [], _ => rfl
  | l :: M, h => by
    rw [List.map_cons, List.map_cons, List.map_cons, dotL, dotL, h l (by simp), dot_congr fun x hx => h x (List.mem_cons_of_mem _ hx)]
theorem not_mem_cutL (L : List Int) (b : Int) : b ∉ cutL L b := fun h => (mem_cutL.1 h).2 rfl
section
variable {k p n : Int} (hr : ringOk k p n = true)
/-- The values of a tensor where one label is told by the others. -/
def cutXs (dm : Int → Int) (L : List Int) (b : Int) (y : (Int → Int) → Int) (xs : List (El k p n)) : List (El k p n) := tab (axs dm (cutL L b)) (fun τ => valT hr dm L xs (upd τ b (y τ))) σ0
theorem cutXs_isT {dm : Int → Int} {U L : List Int} {xs : List (El k p n)} (h : IsT k p n dm U L xs) (b : Int) (y : (Int → Int) → Int) : IsT k p n dm U (cutL L b) (cutXs hr dm L b y xs) := IsT.tab h.uni (h.sub.cut b) _
/-- Where the value is read: the strides of the other labels, and that of b times its value. -/
theorem cut_at {W : Nat} (hW : ringWidth k n = (W : Int)) {dm : Int → Int} {U L : List Int} {xs : List (El k p n)} (h : IsT k p n dm U L xs) {b : Int} (hb : b ∈ L) {τ : Int → Int} (hf : Fits (axs dm (cutL L b)) τ) {v : Int} (v0 : 0 ≤ v) (v1 : v < dm b) :
    ∃ q : Nat, v * stride L (L.map dm) b + dotL ((cutL L b).map (stride L (L.map dm))) ((cutL L b).map τ) = (q : Int) ∧ q * W + W ≤ (flat xs).length ∧ getL (flat xs) (q * W) W = (valT hr dm L xs (upd τ b v)).1 ∧ q < size (axs dm L) := by
  have hF : Fits (axs dm L) (upd τ b v) := by
    intro a ha
    obtain ⟨l, hl, rfl⟩ := List.mem_map.1 ha
    by_cases e : l = b
    · subst e; rw [upd_same]; exact ⟨v0, v1⟩
    · rw [upd_ne _ _ e]
      exact hf (l, dm l) (List.mem_map_of_mem (mem_cutL.2 ⟨hl, e⟩))
  obtain ⟨q, h1, h2, h3, h4⟩ := read_at hr hW h h.sub.nodup (fun l hl => hl) hF
  refine ⟨q, ?_, h2, h3, h4⟩
  rw [← h1, dot_cut _ _ h.sub.nodup hb, upd_same, Int.mul_comm]
  congr 1
  exact dot_congr fun l hl => (upd_ne τ v (by rintro rfl; exact not_mem_cutL L l hl)).symm
theorem stride_le : ∀ (L D : List Int), (∀ d ∈ D, 1 ≤ d ∧ d ≤ 8) → ∀ l, stride L D l ≤ prodL D
  | [], D, h, l => by have := prodL_pos h; unfold stride; omega
  | _ :: _, [], h, l => by simp [stride, prodL]
  | x :: L, d :: D, h, l => by
    have hD : ∀ e ∈ D, 1 ≤ e ∧ e ≤ 8 := fun e he => h e (List.mem_cons_of_mem _ he)
    have h1 := prodL_pos hD
    have h2 := (h d (by simp)).1
    have h3 : 1 * prodL D ≤ d * prodL D := Int.mul_le_mul_of_nonneg_right h2 (by omega)
    have h4 := stride_le L D hD l
    rw [prodL_cons]
    unfold stride
    split <;> omega
/-- One round of the loop that reads a slice. -/
theorem slice_step {W : Nat} (hW : ringWidth k n = (W : Int)) {dm : Int → Int} {U L : List Int} {xs : List (El k p n)} (h : IsT k p n dm U L xs) {b : Int} (hb : b ∈ L) {v : Int} (v0 : 0 ≤ v) (v1 : v < dm b) {o : Nat} (ho : o < size (axs dm (cutL L b))) :
    ∃ (q : Nat) (x : List Int), v * stride L (L.map dm) b + dotL ((cutL L b).map (stride L (L.map dm))) ((cutL L b).map (asg (axs dm (cutL L b)) o σ0)) = (q : Int) ∧ q * W + W ≤ (flat xs).length ∧ getL (flat xs) (q * W) W = x ∧ q < 4097 ∧
      flat ((cutXs hr dm L b (fun _ => v) xs).take (o + 1)) = flat ((cutXs hr dm L b (fun _ => v) xs).take o) ++ x := by
  obtain ⟨q, h1, h2, h3, h4⟩ := cut_at hr hW h hb (asg_fits' h.uni (h.sub.cut b) o σ0) v0 v1
  have := h.small
  exact ⟨q, _, h1, h2, h3, by omega, flat_take_tab _ _ _ ho⟩
end
end Go.Proofs.Ytpegckmagiaggaa

/- ZeroTensor over a universe of labels. -/
namespace Go.Proofs.Ytpegckmagiaggaa
open Go.RowKit
set_option linter.unusedSimpArgs false
set_option linter.unusedVariables false

section
variable {k p n : Int} (hr : ringOk k p n = true)
theorem zeroT_any {dm : Int → Int} {U L : List Int} (u : Uni dm U) (s : Sub U L) (vL vD : Value) (w : World) (hL : IntS w vL L) (hD : IntS w vD (L.map dm)) :
    Calls Try.prog 25 #[ringV k p n, vL, vD] w fun e w' => ∃ v, e = .returned (.tuple #[v, .bool true]) ∧ OwnT w' w.heap.size v L (L.map dm) (flat (List.replicate (size (axs dm L)) (rig hr).zero)) ∧ Ext w w' := by
  have ax := u.ax s
  have hz : zeroTok k p n L (L.map dm) = true := by
    have := ax.pos
    unfold zeroTok
    rw [hr, ax.tsize, Bool.true_and, bne_iff_ne]
    omega
  have hx : zeroTX k p n L (L.map dm) = flat (List.replicate (size (axs dm L)) (rig hr).zero) := by
    have e : (prodL (L.map dm)).toNat = size (axs dm L) := by have := u.size s; omega
    unfold zeroTX
    rw [if_pos hz, e]
    exact flat_rep (rig hr).zero _
  refine (zeroTensor_impl k p n vL vD L (L.map dm) w hL hD).mono ?_
  rintro e w' ⟨v, rfl, o, h⟩
  rw [hz]
  rw [hx, show zeroTL k p n L (L.map dm) = L by unfold zeroTL; rw [if_pos hz], show zeroTD k p n L (L.map dm) = L.map dm by unfold zeroTD; rw [if_pos hz]] at o
  exact ⟨v, rfl, o, h⟩
end
end Go.Proofs.Ytpegckmagiaggaa
