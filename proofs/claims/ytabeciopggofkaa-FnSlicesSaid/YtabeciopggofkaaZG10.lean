/- Texts of one kind, merged by program. -/
import Derived.Test.YtabeciopggofkaaZBase
import Derived.Test.YtabeciopggofkaaZListW
import Derived.Test.YtabeciopggofkaaZG5
/- Tables read by strides, plain. No program in sight. -/
namespace Go.Proofs.Ytabeciopggofkaa
open Go.RowKit
set_option linter.unusedSimpArgs false
set_option linter.unusedVariables false

theorem map_get_find {dm : Int → Int} {L : List Int} {x : Int} (h : x ∈ L) : ∃ j : Nat, findL L x = j ∧ j < L.length ∧ L[j]? = some x ∧ (L.map dm)[j]? = some (dm x) := by
  have gen : ∀ (L : List Int) (i : Nat), x ∈ L → ∃ j : Nat, findGo x i L = ((i + j : Nat) : Int) ∧ j < L.length ∧ L[j]? = some x := by
    intro L
    induction L with
    | nil => intro i h; simp at h
    | cons y t ih =>
      intro i h
      rw [findGo]
      by_cases e : y = x
      · exact ⟨0, by rw [if_pos e]; simp, by simp, by simp [e]⟩
      · rcases List.mem_cons.1 h with h | h
        · exact absurd h.symm e
        obtain ⟨j, h1, h2, h3⟩ := ih (i + 1) h
        refine ⟨j + 1, ?_, by simp; omega, by simpa using h3⟩
        rw [if_neg e]
        have : ((i : Nat) : Int) + 1 = ((i + 1 : Nat) : Int) := by simp
        rw [this, h1]; congr 1; omega
  obtain ⟨j, h1, h2, h3⟩ := gen L 0 h
  exact ⟨j, by unfold findL; simpa using h1, h2, h3, by rw [List.getElem?_map, h3]; rfl⟩
section
variable {k p n : Int} (hr : ringOk k p n = true)
/-- A valid tensor over a universe of labels. -/
structure IsT (k p n : Int) (dm : Int → Int) (U L : List Int) (xs : List (El k p n)) : Prop where
  uni : Uni dm U
  sub : Sub U L
  len : xs.length = size (axs dm L)
theorem IsT.ax {dm : Int → Int} {U L : List Int} {xs : List (El k p n)} (h : IsT k p n dm U L xs) : AxOk L (L.map dm) := h.uni.ax h.sub
include hr in
theorem IsT.ok {dm : Int → Int} {U L : List Int} {xs : List (El k p n)} (h : IsT k p n dm U L xs) : TOk k p n L (L.map dm) (flat xs) := by
  have hw := ringOk_wide hr
  have hW : ringWidth k n = ((ringWidth k n).toNat : Nat) := by have := hw.lo; omega
  refine ⟨h.ax, ?_, flat_top _⟩
  rw [flat_length hW, h.len, Int.natCast_mul, h.uni.size h.sub, ← hW]
include hr in
theorem IsT.yes {dm : Int → Int} {U L : List Int} {xs : List (El k p n)} (h : IsT k p n dm U L xs) : tensOk k p n L (L.map dm) (flat xs) = true := (tensOk_iff hr).2 (h.ok hr)
theorem IsT.dims {dm : Int → Int} {U L : List Int} {xs : List (El k p n)} (h : IsT k p n dm U L xs) : ∀ d ∈ L.map dm, 1 ≤ d ∧ d ≤ 8 := h.ax.dims
theorem IsT.tab {dm : Int → Int} {U L : List Int} (u : Uni dm U) (s : Sub U L) (F : (Int → Int) → El k p n) : IsT k p n dm U L (Proofs.Ytabeciopggofkaa.tab (axs dm L) F σ0) := ⟨u, s, tab_length _ _ _⟩
/-- One element more of a table. -/
theorem tab_take {α : Type} (F : (Int → Int) → α) (ax : List (Int × Int)) (σ : Int → Int) {o : Nat} (h : o < size ax) : (Proofs.Ytabeciopggofkaa.tab ax F σ).take (o + 1) = (Proofs.Ytabeciopggofkaa.tab ax F σ).take o ++ [F (asg ax o σ)] := by
  have hg := tab_get F ax σ h
  obtain ⟨h1, h2⟩ := List.getElem?_eq_some_iff.1 hg
  rw [List.take_succ_eq_append_getElem h1, h2]
theorem flat_take_tab (F : (Int → Int) → El k p n) (ax : List (Int × Int)) (σ : Int → Int) {o : Nat} (h : o < size ax) : flat ((Proofs.Ytabeciopggofkaa.tab ax F σ).take (o + 1)) = flat ((Proofs.Ytabeciopggofkaa.tab ax F σ).take o) ++ (F (asg ax o σ)).1 := by
  rw [tab_take F ax σ h, flat_snoc]
/-- What a tensor holds at an assignment that fits: where it lies. -/
theorem read_at {W : Nat} (hW : ringWidth k n = (W : Int)) {dm : Int → Int} {U L M : List Int} {xs : List (El k p n)} (h : IsT k p n dm U L xs) (hM : M.Nodup) (hs : ∀ l ∈ L, l ∈ M) {τ : Int → Int} (hf : Fits (axs dm L) τ) :
    ∃ q : Nat, dotL (M.map (stride L (L.map dm))) (M.map τ) = (q : Int) ∧ q * W + W ≤ (flat xs).length ∧ getL (flat xs) (q * W) W = (valT hr dm L xs τ).1 ∧ q < size (axs dm L) := by
  have hd : ∀ l ∈ L, 1 ≤ dm l := fun l hl => (h.uni.dim (h.sub.sub l hl)).1
  have h0 : ∀ l ∈ L, 0 ≤ τ l := fun l hl => (hf (l, dm l) (List.mem_map_of_mem hl)).1
  have hq := off_lt hf
  refine ⟨off (axs dm L) τ, dot_off hM h.sub.nodup hs hd h0, ?_, flat_get hW (valT_get hr h.len hf), hq⟩
  rw [flat_length hW, h.len]
  have : (off (axs dm L) τ + 1) * W ≤ size (axs dm L) * W := Nat.mul_le_mul_right _ (by omega)
  rw [Nat.add_mul, Nat.one_mul] at this
  exact this
theorem IsT.small {dm : Int → Int} {U L : List Int} {xs : List (El k p n)} (h : IsT k p n dm U L xs) : size (axs dm L) ≤ 4096 := by
  have h1 := h.uni.size h.sub
  have h2 := h.ax.size
  omega
theorem Uni.small {dm : Int → Int} {U L : List Int} (u : Uni dm U) (s : Sub U L) : Proofs.Ytabeciopggofkaa.size (axs dm L) ≤ 4096 ∧ 1 ≤ Proofs.Ytabeciopggofkaa.size (axs dm L) := by
  have h1 := u.size s
  have h2 := (u.ax s).size
  have h3 := prodL_pos (u.ax s).dims
  omega
theorem stride_pos {dm : Int → Int} {U L M : List Int} (u : Uni dm U) (s : Sub U L) : ∀ x ∈ M.map (stride L (L.map dm)), 0 ≤ x := by
  intro x hx
  obtain ⟨l, _, rfl⟩ := List.mem_map.1 hx
  exact stride_nonneg _ _ (u.ax s).dims l
/-- The values of the assignment at an offset. -/
theorem asg_pos {dm : Int → Int} {U M : List Int} (u : Uni dm U) (s : Sub U M) (o : Nat) : ∀ x ∈ M.map (asg (axs dm M) o σ0), 0 ≤ x ∧ x ≤ 8 := by
  intro x hx
  obtain ⟨l, hl, rfl⟩ := List.mem_map.1 hx
  have hf := asg_fits' u s o σ0 (l, dm l) (List.mem_map_of_mem hl)
  have := (u.dim (s.sub l hl)).2
  simp only at hf
  omega
/-- The index that follows, in assignments. -/
theorem next_asg {dm : Int → Int} {U M : List Int} (u : Uni dm U) (s : Sub U M) {o : Nat} (h : o < size (axs dm M)) :
    nextI (M.map dm) (M.map (asg (axs dm M) o σ0)) = if o + 1 < size (axs dm M) then (M.map (asg (axs dm M) (o + 1) σ0), true) else (M.map (asg (axs dm M) 0 σ0), false) := by
  have hd : ∀ l ∈ M, 1 ≤ dm l := fun l hl => (u.dim (s.sub l hl)).1
  have hz := u.size s
  rw [← idxL_asg s.nodup hd, ← idxL_asg s.nodup hd, ← idxL_asg s.nodup hd, next_idx (u.ax s).dims (by omega) (by omega)]
  have e : ((o : Int) + 1 < prodL (M.map dm)) ↔ (o + 1 < size (axs dm M)) := by omega
  by_cases c : o + 1 < size (axs dm M)
  · rw [if_pos c, if_pos (e.2 c)]; simp
  · rw [if_neg c, if_neg (fun h => c (e.1 h))]; simp
theorem asg_zero {dm : Int → Int} {U M : List Int} (u : Uni dm U) (s : Sub U M) : M.map (asg (axs dm M) 0 σ0) = List.replicate M.length 0 := by
  have hd : ∀ l ∈ M, 1 ≤ dm l := fun l hl => (u.dim (s.sub l hl)).1
  have g : ∀ D : List Int, idxL D 0 = List.replicate D.length 0 := by
    intro D
    induction D with
    | nil => rfl
    | cons d D ih => rw [idxL, ih, Int.zero_ediv, Int.zero_emod]; rfl
  have := idxL_asg s.nodup hd 0 σ0
  rw [← this]
  show idxL _ 0 = _
  rw [g, List.length_map]
end
end Go.Proofs.Ytabeciopggofkaa

/- What ContractPair's loop adds up, plain. No program in sight. -/
namespace Go.Proofs.Ytabeciopggofkaa
open Go.RowKit
set_option linter.unusedSimpArgs false
set_option linter.unusedVariables false

section
variable {k p n : Int} (hr : ringOk k p n = true)
/-- The product of two tensors' values. -/
def mulF (dm : Int → Int) (a b : List Int) (xs ys : List (El k p n)) : (Int → Int) → El k p n := fun τ => (rig hr).mul (valT hr dm a xs τ) (valT hr dm b ys τ)
/-- The data of a contraction. -/
def contrXs (dm : Int → Int) (a b keep : List Int) (xs ys : List (El k p n)) : List (El k p n) :=
  tab (axs dm (keepL (joinL a b) keep)) (contrF (rig hr) dm (joinL a b) keep (mulF hr dm a b xs ys)) σ0
/-- What has been added up behind o indices. -/
def contrZ (dm : Int → Int) (a b keep : List Int) (xs ys : List (El k p n)) (o : Nat) : List (El k p n) :=
  scat (rig hr) (List.replicate (size (axs dm (keepL (joinL a b) keep))) (rig hr).zero) ((tab (axs dm (joinL a b)) (fun τ => (off (axs dm (keepL (joinL a b) keep)) τ, mulF hr dm a b xs ys τ)) σ0).take o)
theorem contrZ_zero (dm : Int → Int) (a b keep : List Int) (xs ys : List (El k p n)) : contrZ hr dm a b keep xs ys 0 = List.replicate (size (axs dm (keepL (joinL a b) keep))) (rig hr).zero := rfl
theorem contrZ_length (dm : Int → Int) (a b keep : List Int) (xs ys : List (El k p n)) (o : Nat) : (contrZ hr dm a b keep xs ys o).length = size (axs dm (keepL (joinL a b) keep)) := by
  unfold contrZ; rw [scat_length, List.length_replicate]
theorem contrZ_all {dm : Int → Int} {U a b : List Int} (sa : Sub U a) (sb : Sub U b) (keep : List Int) (xs ys : List (El k p n)) : contrZ hr dm a b keep xs ys (size (axs dm (joinL a b))) = contrXs hr dm a b keep xs ys := by
  unfold contrZ contrXs
  rw [List.take_of_length_le (by rw [tab_length]; exact Nat.le_refl _)]
  exact contr_scat (rig hr) (sa.join sb) _ σ0
theorem getD_modify {α : Type} {l : List α} {q : Nat} (h : q < l.length) (f : α → α) : l.modify q f = l.set q (f l[q]) := by
  apply List.ext_getElem?
  intro i
  rw [List.getElem?_modify, List.getElem?_set]
  by_cases e : q = i
  · subst e; simp [h]
  · simp [e]
/-- One round. -/
theorem contr_step {W : Nat} (hW : ringWidth k n = (W : Int)) {dm : Int → Int} {U a b : List Int} {xs ys : List (El k p n)} (ha : IsT k p n dm U a xs) (hb : IsT k p n dm U b ys) (keep : List Int) {o : Nat} (ho : o < size (axs dm (joinL a b))) :
    ∃ (qa qb qc : Nat) (x y z : List Int),
      dotL ((joinL a b).map (stride a (a.map dm))) ((joinL a b).map (asg (axs dm (joinL a b)) o σ0)) = (qa : Int) ∧ qa ≤ 4096 ∧ qa * W + W ≤ (flat xs).length ∧ getL (flat xs) (qa * W) W = x ∧ rawOk k p n x = true ∧
      dotL ((joinL a b).map (stride b (b.map dm))) ((joinL a b).map (asg (axs dm (joinL a b)) o σ0)) = (qb : Int) ∧ qb ≤ 4096 ∧ qb * W + W ≤ (flat ys).length ∧ getL (flat ys) (qb * W) W = y ∧ rawOk k p n y = true ∧
      dotL ((joinL a b).map (stride (keepL (joinL a b) keep) ((keepL (joinL a b) keep).map dm))) ((joinL a b).map (asg (axs dm (joinL a b)) o σ0)) = (qc : Int) ∧ qc ≤ 4096 ∧ qc * W + W ≤ (flat (contrZ hr dm a b keep xs ys o)).length ∧ getL (flat (contrZ hr dm a b keep xs ys o)) (qc * W) W = z ∧ rawOk k p n z = true ∧
      rawOk k p n (mulL k p x y) = true ∧ flat (contrZ hr dm a b keep xs ys (o + 1)) = putL (flat (contrZ hr dm a b keep xs ys o)) (qc * W) (addL k p z (mulL k p x y)) := by
  have sj := ha.sub.join hb.sub
  have sl := sj.keep keep
  have u := ha.uni
  obtain ⟨τ, hτ⟩ : ∃ τ, asg (axs dm (joinL a b)) o σ0 = τ := ⟨_, rfl⟩
  have hf : Fits (axs dm (joinL a b)) τ := by rw [← hτ]; exact asg_fits' u sj o σ0
  have fit : ∀ L : List Int, (∀ l ∈ L, l ∈ joinL a b) → Fits (axs dm L) τ := fun L h x hx => by
    obtain ⟨l, hl, rfl⟩ := List.mem_map.1 hx
    exact hf (l, dm l) (List.mem_map_of_mem (h l hl))
  have hA : ∀ l ∈ a, l ∈ joinL a b := fun l hl => mem_joinL.2 (.inl hl)
  have hB : ∀ l ∈ b, l ∈ joinL a b := fun l hl => mem_joinL.2 (.inr hl)
  have hC : ∀ l ∈ keepL (joinL a b) keep, l ∈ joinL a b := fun l hl => (mem_keepL.1 hl).1
  obtain ⟨qa, a1, a2, a3, a4⟩ := read_at hr hW ha sj.nodup hA (fit a hA)
  obtain ⟨qb, b1, b2, b3, b4⟩ := read_at hr hW hb sj.nodup hB (fit b hB)
  have hd : ∀ l ∈ keepL (joinL a b) keep, 1 ≤ dm l := fun l hl => (u.dim (sl.sub l hl)).1
  have c1 := dot_off (dm := dm) sj.nodup sl.nodup hC hd (σ := τ) (fun l hl => (fit _ hC (l, dm l) (List.mem_map_of_mem hl)).1)
  have c2 := off_lt (fit _ hC)
  have c3 := (u.small sl).1
  have c4 := contrZ_length hr dm a b keep xs ys o
  have hq : off (axs dm (keepL (joinL a b) keep)) τ < (contrZ hr dm a b keep xs ys o).length := by omega
  have hz := List.getElem?_eq_getElem hq
  have hp := flat_put hW hq ((rig hr).add (contrZ hr dm a b keep xs ys o)[off (axs dm (keepL (joinL a b) keep)) τ] (mulF hr dm a b xs ys τ))
  rw [hτ]
  refine ⟨qa, qb, off (axs dm (keepL (joinL a b) keep)) τ, _, _, _, a1, ?_, a2, a3, (valT hr dm a xs τ).2, b1, ?_, b2, b3, (valT hr dm b ys τ).2, c1, by omega, ?_, flat_get hW hz, ((contrZ hr dm a b keep xs ys o)[off (axs dm (keepL (joinL a b) keep)) τ]).2, (mulF hr dm a b xs ys τ).2, ?_⟩
  · have := ha.small; omega
  · have := hb.small; omega
  · rw [flat_length hW, c4]
    have : (off (axs dm (keepL (joinL a b) keep)) τ + 1) * W ≤ size (axs dm (keepL (joinL a b) keep)) * W := Nat.mul_le_mul_right _ (by omega)
    rw [Nat.add_mul, Nat.one_mul] at this
    exact this
  · refine Eq.trans ?_ hp.symm
    congr 1
    conv => lhs; unfold contrZ
    rw [tab_take _ _ _ ho, scat_snoc (xs := []), hτ]
    exact getD_modify hq _
end
end Go.Proofs.Ytabeciopggofkaa

/- Drawn tensors over one universe; the law of pairs, plain. No program in sight. -/
namespace Go.Proofs.Ytabeciopggofkaa
open Go.RowKit
set_option linter.unusedSimpArgs false
set_option linter.unusedVariables false

/-- The labels of drawn tensors. -/
def U6 : List Int := [0, 1, 2, 3, 4, 5]
theorem uni6 : Uni dimOf U6 := ⟨by
  refine ⟨by simp [U6], by simp [U6], fun l hl => ?_, by decide, fun d hd => ?_, by decide⟩
  · simp [U6] at hl; omega
  · obtain ⟨x, _, rfl⟩ := List.mem_map.1 hd
    have := dimOf_range x; omega⟩
theorem labs_sub {m : Int} {L : List Int} (h : Labs 6 m L) : Sub U6 L := ⟨h.nodup, fun l hl => by have := h.low l hl; simp [U6]; omega⟩
section
variable {k p n : Int} (hr : ringOk k p n = true)
include hr in
theorem drawn_isT {L D X : List Int} (h : DrawnT k p n L D X) : ∃ xs : List (El k p n), X = flat xs ∧ D = L.map dimOf ∧ IsT k p n dimOf U6 L xs := by
  have s := labs_sub h.labs
  have hw := ringOk_wide hr
  have hW : ringWidth k n = ((ringWidth k n).toNat : Nat) := by have := hw.lo; omega
  have hz := uni6.size s
  have hl := h.len
  rw [h.dims, ← hz, hW] at hl
  obtain ⟨xs, h1, h2⟩ := flat_of hW (P := Proofs.Ytabeciopggofkaa.size (axs dimOf L)) (by exact_mod_cast hl) h.top
  exact ⟨xs, h2.symm, h.dims, uni6, s, h1⟩
theorem contr_isT {dm : Int → Int} {U a b : List Int} {xs ys : List (El k p n)} (ha : IsT k p n dm U a xs) (hb : IsT k p n dm U b ys) (keep : List Int) : IsT k p n dm U (keepL (joinL a b) keep) (contrXs hr dm a b keep xs ys) :=
  IsT.tab ha.uni ((ha.sub.join hb.sub).keep keep) _
theorem mulF_dep (dm : Int → Int) (a b : List Int) (xs ys : List (El k p n)) : Dep (mulF hr dm a b xs ys) (joinL a b) := mul_dep (rig hr) (valT_dep hr dm a xs) (valT_dep hr dm b ys)
/-- The order of two tensors is not seen. -/
theorem pairs_sort {dm : Int → Int} {U a b : List Int} {xs ys : List (El k p n)} (ha : IsT k p n dm U a xs) (hb : IsT k p n dm U b ys) (keep : List Int) :
    sortL (keepL (joinL a b) keep) = sortL (keepL (joinL b a) keep) ∧
      permXs hr dm (keepL (joinL a b) keep) (sortL (keepL (joinL a b) keep)) (contrXs hr dm a b keep xs ys) = permXs hr dm (keepL (joinL b a) keep) (sortL (keepL (joinL b a) keep)) (contrXs hr dm b a keep ys xs) :=
  sort_same hr ha.uni ((ha.sub.join hb.sub).keep keep) (keepL_perm (joinL_comm ha.sub hb.sub) keep) (contrF_dep (rig hr) (mulF_dep hr dm a b xs ys)) (contrF_dep (rig hr) (mulF_dep hr dm b a ys xs))
    fun σ => contrF_comm (rig hr) ha.sub hb.sub _ _ σ
end
theorem prod_joins {dm : Int → Int} {U a b : List Int} (sa : Sub U a) (sb : Sub U b) : prodL ((joinL b a).map dm) = prodL ((joinL a b).map dm) := prodL_perm ((joinL_comm sb sa).map dm)
theorem prod_keep {dm : Int → Int} {U J : List Int} (u : Uni dm U) (s : Sub U J) (keep : List Int) : prodL ((keepL J keep).map dm) ≤ prodL (J.map dm) := by
  have e := prodL_perm ((keep_gone J keep).map dm)
  rw [List.map_append, prodL_append] at e
  have p1 := prodL_pos (u.ax (s.keep keep)).dims
  have p2 := prodL_pos (u.ax (s.gone keep)).dims
  have : prodL ((keepL J keep).map dm) * 1 ≤ prodL ((keepL J keep).map dm) * prodL ((goneL J keep).map dm) := Int.mul_le_mul_of_nonneg_left p2 (by omega)
  omega
end Go.Proofs.Ytabeciopggofkaa

/- Where slices and diagonals read, plain. No program in sight. -/
namespace Go.Proofs.Ytabeciopggofkaa
open Go.RowKit
set_option linter.unusedSimpArgs false
set_option linter.unusedVariables false

/-- One label taken out of a sum of products. -/
theorem dot_cut (g f : Int → Int) {b : Int} : ∀ {L : List Int}, L.Nodup → b ∈ L → dotL (L.map g) (L.map f) = g b * f b + dotL ((cutL L b).map g) ((cutL L b).map f)
  | [], _, h => by simp at h
  | l :: L, hn, h => by
    rw [List.nodup_cons] at hn
    rw [List.map_cons, List.map_cons, dotL]
    by_cases e : l = b
    · subst e
      have e1 : cutL (l :: L) l = L := by
        unfold cutL
        rw [List.filter_cons, if_neg (by simp), List.filter_eq_self]
        intro x hx
        have : x ≠ l := fun e => hn.1 (e ▸ hx)
        simp [this]
      rw [e1]
    · have e1 : cutL (l :: L) b = l :: cutL L b := by
        unfold cutL
        rw [List.filter_cons, if_pos (by simp [e])]
      rw [e1, List.map_cons, List.map_cons, dotL, dot_cut g f hn.2 ((List.mem_cons.1 h).resolve_left fun h => e h.symm)]
      omega
theorem dot_congr {g f f' : Int → Int} : ∀ {M : List Int}, (∀ l ∈ M, f l = f' l) → dotL (M.map g) (M.map f) = dotL (M.map g) (M.map f')
  | [], _ => rfl
  | l :: M, h => by
    rw [List.map_cons, List.map_cons, List.map_cons, dotL, dotL, h l (by simp), dot_congr fun x hx => h x (List.mem_cons_of_mem _ hx)]
theorem dot_add (g g' f : Int → Int) : ∀ (M : List Int), dotL (M.map fun l => g l + g' l) (M.map f) = dotL (M.map g) (M.map f) + dotL (M.map g') (M.map f)
  | [] => rfl
  | l :: M => by
    rw [List.map_cons, List.map_cons, List.map_cons, List.map_cons, dotL, dotL, dotL, dot_add g g' f M, Int.add_mul]
    omega
theorem not_mem_cutL (L : List Int) (b : Int) : b ∉ cutL L b := fun h => (mem_cutL.1 h).2 rfl
section
variable {k p n : Int} (hr : ringOk k p n = true)
/-- The values of a tensor where one label is told by the others. -/
def cutXs (dm : Int → Int) (L : List Int) (b : Int) (y : (Int → Int) → Int) (xs : List (El k p n)) : List (El k p n) := tab (axs dm (cutL L b)) (fun τ => valT hr dm L xs (upd τ b (y τ))) σ0
theorem cutXs_isT {dm : Int → Int} {U L : List Int} {xs : List (El k p n)} (h : IsT k p n dm U L xs) (b : Int) (y : (Int → Int) → Int) : IsT k p n dm U (cutL L b) (cutXs hr dm L b y xs) := IsT.tab h.uni (h.sub.cut b) _
/-- Where the value is read: the strides of the other labels, and that of b times its value. -/
theorem cut_at {W : Nat} (hW : ringWidth k n = (W : Int)) {dm : Int → Int} {U L : List Int} {xs : List (El k p n)} (h : IsT k p n dm U L xs) {b : Int} (hb : b ∈ L) {τ : Int → Int} (hf : Fits (axs dm (cutL L b)) τ) {v : Int} (v0 : 0 ≤ v) (v1 : v < dm b) :
    ∃ q : Nat, v * stride L (L.map dm) b + dotL ((cutL L b).map (stride L (L.map dm))) ((cutL L b).map τ) = (q : Int) ∧ q * W + W ≤ (flat xs).length ∧ getL (flat xs) (q * W) W = (valT hr dm L xs (upd τ b v)).1 ∧ q < size (axs dm L) := by
  have hF : Fits (axs dm L) (upd τ b v) := by
    intro a ha
    obtain ⟨l, hl, rfl⟩ := List.mem_map.1 ha
    by_cases e : l = b
    · subst e; rw [upd_same]; exact ⟨v0, v1⟩
    · rw [upd_ne _ _ e]
      exact hf (l, dm l) (List.mem_map_of_mem (mem_cutL.2 ⟨hl, e⟩))
  obtain ⟨q, h1, h2, h3, h4⟩ := read_at hr hW h h.sub.nodup (fun l hl => hl) hF
  refine ⟨q, ?_, h2, h3, h4⟩
  rw [← h1, dot_cut _ _ h.sub.nodup hb, upd_same, Int.mul_comm]
  congr 1
  exact dot_congr fun l hl => (upd_ne τ v (by rintro rfl; exact not_mem_cutL L l hl)).symm
/-- The strides of a diagonal. -/
def strideD (dm : Int → Int) (L : List Int) (a b l : Int) : Int := if l = a then stride L (L.map dm) l + stride L (L.map dm) b else stride L (L.map dm) l
theorem dot_one (f : Int → Int) (a c : Int) : ∀ {M : List Int}, M.Nodup → a ∈ M → dotL (M.map fun l => if l = a then c else 0) (M.map f) = c * f a
  | [], _, h => by simp at h
  | l :: M, hn, h => by
    rw [List.nodup_cons] at hn
    rw [List.map_cons, List.map_cons, dotL]
    by_cases e : l = a
    · subst e
      rw [if_pos rfl]
      have : dotL (M.map fun x => if x = l then c else 0) (M.map f) = 0 := by
        have e1 : (M.map fun x => if x = l then c else 0) = M.map fun _ => (0 : Int) := List.map_congr_left fun x hx => if_neg (by rintro rfl; exact hn.1 hx)
        rw [e1, dotL_zero]
      omega
    · rw [if_neg e, dot_one f a c hn.2 ((List.mem_cons.1 h).resolve_left fun h => e h.symm)]
      omega
theorem diag_at {W : Nat} (hW : ringWidth k n = (W : Int)) {dm : Int → Int} {U L : List Int} {xs : List (El k p n)} (h : IsT k p n dm U L xs) {a b : Int} (ha : a ∈ L) (hb : b ∈ L) (hab : a ≠ b) (hd : dm a = dm b) {τ : Int → Int} (hf : Fits (axs dm (cutL L b)) τ) :
    ∃ q : Nat, dotL ((cutL L b).map (strideD dm L a b)) ((cutL L b).map τ) = (q : Int) ∧ q * W + W ≤ (flat xs).length ∧ getL (flat xs) (q * W) W = (valT hr dm L xs (upd τ b (τ a))).1 ∧ q < size (axs dm L) := by
  have haM : a ∈ cutL L b := mem_cutL.2 ⟨ha, hab⟩
  obtain ⟨f0, f1⟩ := hf (a, dm a) (List.mem_map_of_mem haM)
  obtain ⟨q, h1, h2⟩ := cut_at hr hW h hb hf f0 (by rw [← hd]; exact f1)
  refine ⟨q, ?_, h2⟩
  rw [← h1]
  have e : ∀ l, strideD dm L a b l = stride L (L.map dm) l + (if l = a then stride L (L.map dm) b else 0) := fun l => by
    unfold strideD; split <;> omega
  rw [show (cutL L b).map (strideD dm L a b) = (cutL L b).map fun l => stride L (L.map dm) l + (if l = a then stride L (L.map dm) b else 0) from List.map_congr_left fun l _ => e l, dot_add, dot_one _ a _ (h.sub.cut b).nodup haM, Int.mul_comm]
  exact Int.add_comm _ _
theorem stride_le : ∀ (L D : List Int), (∀ d ∈ D, 1 ≤ d ∧ d ≤ 8) → ∀ l, stride L D l ≤ prodL D
  | [], D, h, l => by have := prodL_pos h; unfold stride; omega
  | _ :: _, [], h, l => by simp [stride, prodL]
  | x :: L, d :: D, h, l => by
    have hD : ∀ e ∈ D, 1 ≤ e ∧ e ≤ 8 := fun e he => h e (List.mem_cons_of_mem _ he)
    have h1 := prodL_pos hD
    have h2 := (h d (by simp)).1
    have h3 : 1 * prodL D ≤ d * prodL D := Int.mul_le_mul_of_nonneg_right h2 (by omega)
    have h4 := stride_le L D hD l
    rw [prodL_cons]
    unfold stride
    split <;> omega
/-- One round of the loop that reads a slice. -/
theorem slice_step {W : Nat} (hW : ringWidth k n = (W : Int)) {dm : Int → Int} {U L : List Int} {xs : List (El k p n)} (h : IsT k p n dm U L xs) {b : Int} (hb : b ∈ L) {v : Int} (v0 : 0 ≤ v) (v1 : v < dm b) {o : Nat} (ho : o < size (axs dm (cutL L b))) :
    ∃ (q : Nat) (x : List Int), v * stride L (L.map dm) b + dotL ((cutL L b).map (stride L (L.map dm))) ((cutL L b).map (asg (axs dm (cutL L b)) o σ0)) = (q : Int) ∧ q * W + W ≤ (flat xs).length ∧ getL (flat xs) (q * W) W = x ∧ q < 4097 ∧
      flat ((cutXs hr dm L b (fun _ => v) xs).take (o + 1)) = flat ((cutXs hr dm L b (fun _ => v) xs).take o) ++ x := by
  obtain ⟨q, h1, h2, h3, h4⟩ := cut_at hr hW h hb (asg_fits' h.uni (h.sub.cut b) o σ0) v0 v1
  have := h.small
  exact ⟨q, _, h1, h2, h3, by omega, flat_take_tab _ _ _ ho⟩
theorem diag_step {W : Nat} (hW : ringWidth k n = (W : Int)) {dm : Int → Int} {U L : List Int} {xs : List (El k p n)} (h : IsT k p n dm U L xs) {a b : Int} (ha : a ∈ L) (hb : b ∈ L) (hab : a ≠ b) (hd : dm a = dm b) {o : Nat} (ho : o < size (axs dm (cutL L b))) :
    ∃ (q : Nat) (x : List Int), dotL ((cutL L b).map (strideD dm L a b)) ((cutL L b).map (asg (axs dm (cutL L b)) o σ0)) = (q : Int) ∧ q * W + W ≤ (flat xs).length ∧ getL (flat xs) (q * W) W = x ∧ q < 4097 ∧
      flat ((cutXs hr dm L b (fun τ => τ a) xs).take (o + 1)) = flat ((cutXs hr dm L b (fun τ => τ a) xs).take o) ++ x := by
  obtain ⟨q, h1, h2, h3, h4⟩ := diag_at hr hW h ha hb hab hd (asg_fits' h.uni (h.sub.cut b) o σ0)
  have := h.small
  exact ⟨q, _, h1, h2, h3, by omega, flat_take_tab _ _ _ ho⟩
theorem strideD_pos {dm : Int → Int} {U L : List Int} (u : Uni dm U) (s : Sub U L) (a b : Int) (M : List Int) : ∀ x ∈ M.map (strideD dm L a b), 0 ≤ x := by
  have h : ∀ l, 0 ≤ stride L (L.map dm) l := stride_nonneg L (L.map dm) (u.ax s).dims
  intro x hx
  obtain ⟨l, _, rfl⟩ := List.mem_map.1 hx
  have h1 := h l; have h2 := h b
  unfold strideD
  split <;> omega
end
end Go.Proofs.Ytabeciopggofkaa

/- ZeroTensor over a universe of labels. -/
namespace Go.Proofs.Ytabeciopggofkaa
open Go.RowKit
set_option linter.unusedSimpArgs false
set_option linter.unusedVariables false

section
variable {k p n : Int} (hr : ringOk k p n = true)
theorem zero_isT {dm : Int → Int} {U L : List Int} (u : Uni dm U) (s : Sub U L) : IsT k p n dm U L (List.replicate (size (axs dm L)) (rig hr).zero) := ⟨u, s, List.length_replicate ..⟩
theorem zeroT_any {dm : Int → Int} {U L : List Int} (u : Uni dm U) (s : Sub U L) (vL vD : Value) (w : World) (hL : IntS w vL L) (hD : IntS w vD (L.map dm)) :
    Calls Try.prog 33 #[ringV k p n, vL, vD] w fun e w' => ∃ v, e = .returned (.tuple #[v, .bool true]) ∧ OwnT w' w.heap.size v L (L.map dm) (flat (List.replicate (size (axs dm L)) (rig hr).zero)) ∧ Ext w w' := by
  have ax := u.ax s
  have hz : zeroTok k p n L (L.map dm) = true := by
    have := ax.pos
    unfold zeroTok
    rw [hr, ax.tsize, Bool.true_and, bne_iff_ne]
    omega
  have hx : zeroTX k p n L (L.map dm) = flat (List.replicate (size (axs dm L)) (rig hr).zero) := by
    have e : (prodL (L.map dm)).toNat = size (axs dm L) := by have := u.size s; omega
    unfold zeroTX
    rw [if_pos hz, e]
    exact flat_rep (rig hr).zero _
  refine (zeroTensor_impl k p n vL vD L (L.map dm) w hL hD).mono ?_
  rintro e w' ⟨v, rfl, o, h⟩
  rw [hz]
  rw [hx, show zeroTL k p n L (L.map dm) = L by unfold zeroTL; rw [if_pos hz], show zeroTD k p n L (L.map dm) = L.map dm by unfold zeroTD; rw [if_pos hz]] at o
  exact ⟨v, rfl, o, h⟩
end
end Go.Proofs.Ytabeciopggofkaa
