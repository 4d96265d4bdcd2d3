/- Texts of one kind, merged by program. -/
import Derived.Test.YtlgjddgajdjllaaGreatHListW
/- Tables read by strides, plain. No program in sight. -/
set_option linter.unusedSimpArgs false
set_option linter.unusedVariables false
namespace Go.Proofs.YtlgjddgajdjllaaGreat
open Go.RowKit
theorem map_get_find {dm : Int → Int} {L : List Int} {x : Int} (h : x ∈ L) : ∃ j : Nat, findL L x = j ∧ j < L.length ∧ L[j]? = some x ∧ (L.map dm)[j]? = some (dm x) := by
  have gen : ∀ (L : List Int) (i : Nat), x ∈ L → ∃ j : Nat, findGo x i L = ((i + j : Nat) : Int) ∧ j < L.length ∧ L[j]? = some x := by
    intro L
    induction L with
    | nil => intro i h; simp at h
    | cons y t ih =>
      intro i h
      rw [findGo]
      by_cases e : y = x
      · exact ⟨0, by rw [if_pos e]; simp, by simp, by simp [e]⟩
      · rcases List.mem_cons.1 h with h | h
        · exact absurd h.symm e
        obtain ⟨j, h1, h2, h3⟩ := ih (i + 1) h
        refine ⟨j + 1, ?_, by simp; omega, by simpa using h3⟩
        rw [if_neg e]
        have : ((i : Nat) : Int) + 1 = ((i + 1 : Nat) : Int) := by simp
        rw [this, h1]; congr 1; omega
  obtain ⟨j, h1, h2, h3⟩ := gen L 0 h
  exact ⟨j, by unfold findL; simpa using h1, h2, h3, by rw [List.getElem?_map, h3]; rfl⟩
section
variable {k p n : Int} (hr : ringOk k p n = true)
structure IsT (k p n : Int) (dm : Int → Int) (U L : List Int) (xs : List (El k p n)) : Prop where
  uni : Uni dm U
  sub : Sub U L
  len : xs.length = size (axs dm L)
theorem IsT.ax {dm : Int → Int} {U L : List Int} {xs : List (El k p n)} (h : IsT k p n dm U L xs) : AxOk L (L.map dm) := h.uni.ax h.sub
include hr in
theorem IsT.ok {dm : Int → Int} {U L : List Int} {xs : List (El k p n)} (h : IsT k p n dm U L xs) : TOk k p n L (L.map dm) (flat xs) := by
  have hw := ringOk_wide hr
  have hW : ringWidth k n = ((ringWidth k n).toNat : Nat) := by have := hw.lo; omega
  refine ⟨h.ax, ?_, flat_top _⟩
  rw [flat_length hW, h.len, Int.natCast_mul, h.uni.size h.sub, ← hW]
include hr in
theorem IsT.yes {dm : Int → Int} {U L : List Int} {xs : List (El k p n)} (h : IsT k p n dm U L xs) : tensOk k p n L (L.map dm) (flat xs) = true := (tensOk_iff hr).2 (h.ok hr)
theorem IsT.dims {dm : Int → Int} {U L : List Int} {xs : List (El k p n)} (h : IsT k p n dm U L xs) : ∀ d ∈ L.map dm, 1 ≤ d ∧ d ≤ 8 := h.ax.dims
theorem IsT.tab {dm : Int → Int} {U L : List Int} (u : Uni dm U) (s : Sub U L) (F : (Int → Int) → El k p n) : IsT k p n dm U L (Proofs.YtlgjddgajdjllaaGreat.tab (axs dm L) F σ0) := ⟨u, s, tab_length _ _ _⟩
theorem tab_take {α : Type} (F : (Int → Int) → α) (ax : List (Int × Int)) (σ : Int → Int) {o : Nat} (h : o < size ax) : (Proofs.YtlgjddgajdjllaaGreat.tab ax F σ).take (o + 1) = (Proofs.YtlgjddgajdjllaaGreat.tab ax F σ).take o ++ [F (asg ax o σ)] := by
  have hg := tab_get F ax σ h
  obtain ⟨h1, h2⟩ := List.getElem?_eq_some_iff.1 hg
  rw [List.take_succ_eq_append_getElem h1, h2]
theorem flat_take_tab (F : (Int → Int) → El k p n) (ax : List (Int × Int)) (σ : Int → Int) {o : Nat} (h : o < size ax) : flat ((Proofs.YtlgjddgajdjllaaGreat.tab ax F σ).take (o + 1)) = flat ((Proofs.YtlgjddgajdjllaaGreat.tab ax F σ).take o) ++ (F (asg ax o σ)).1 := by
  rw [tab_take F ax σ h, flat_snoc]
theorem read_at {W : Nat} (hW : ringWidth k n = (W : Int)) {dm : Int → Int} {U L M : List Int} {xs : List (El k p n)} (h : IsT k p n dm U L xs) (hM : M.Nodup) (hs : ∀ l ∈ L, l ∈ M) {τ : Int → Int} (hf : Fits (axs dm L) τ) :
    ∃ q : Nat, dotL (M.map (stride L (L.map dm))) (M.map τ) = (q : Int) ∧ q * W + W ≤ (flat xs).length ∧ getL (flat xs) (q * W) W = (valT hr dm L xs τ).1 ∧ q < size (axs dm L) := by
  have hd : ∀ l ∈ L, 1 ≤ dm l := fun l hl => (h.uni.dim (h.sub.sub l hl)).1
  have h0 : ∀ l ∈ L, 0 ≤ τ l := fun l hl => (hf (l, dm l) (List.mem_map_of_mem hl)).1
  have hq := off_lt hf
  refine ⟨off (axs dm L) τ, dot_off hM h.sub.nodup hs hd h0, ?_, flat_get hW (valT_get hr h.len hf), hq⟩
  rw [flat_length hW, h.len]
  have : (off (axs dm L) τ + 1) * W ≤ size (axs dm L) * W := Nat.mul_le_mul_right _ (by omega)
  rw [Nat.add_mul, Nat.one_mul] at this
  exact this
theorem IsT.small {dm : Int → Int} {U L : List Int} {xs : List (El k p n)} (h : IsT k p n dm U L xs) : size (axs dm L) ≤ 4096 := by
  have h1 := h.uni.size h.sub
  have h2 := h.ax.size
  omega
theorem Uni.small {dm : Int → Int} {U L : List Int} (u : Uni dm U) (s : Sub U L) : Proofs.YtlgjddgajdjllaaGreat.size (axs dm L) ≤ 4096 ∧ 1 ≤ Proofs.YtlgjddgajdjllaaGreat.size (axs dm L) := by
  have h1 := u.size s
  have h2 := (u.ax s).size
  have h3 := prodL_pos (u.ax s).dims
  omega
theorem stride_pos {dm : Int → Int} {U L M : List Int} (u : Uni dm U) (s : Sub U L) : ∀ x ∈ M.map (stride L (L.map dm)), 0 ≤ x := by
  intro x hx
  obtain ⟨l, _, rfl⟩ := List.mem_map.1 hx
  exact stride_nonneg _ _ (u.ax s).dims l
theorem asg_pos {dm : Int → Int} {U M : List Int} (u : Uni dm U) (s : Sub U M) (o : Nat) : ∀ x ∈ M.map (asg (axs dm M) o σ0), 0 ≤ x ∧ x ≤ 8 := by
  intro x hx
  obtain ⟨l, hl, rfl⟩ := List.mem_map.1 hx
  have hf := asg_fits' u s o σ0 (l, dm l) (List.mem_map_of_mem hl)
  have := (u.dim (s.sub l hl)).2
  simp only at hf
  omega
theorem next_asg {dm : Int → Int} {U M : List Int} (u : Uni dm U) (s : Sub U M) {o : Nat} (h : o < size (axs dm M)) :
    nextI (M.map dm) (M.map (asg (axs dm M) o σ0)) = if o + 1 < size (axs dm M) then (M.map (asg (axs dm M) (o + 1) σ0), true) else (M.map (asg (axs dm M) 0 σ0), false) := by
  have hd : ∀ l ∈ M, 1 ≤ dm l := fun l hl => (u.dim (s.sub l hl)).1
  have hz := u.size s
  rw [← idxL_asg s.nodup hd, ← idxL_asg s.nodup hd, ← idxL_asg s.nodup hd, next_idx (u.ax s).dims (by omega) (by omega)]
  have e : ((o : Int) + 1 < prodL (M.map dm)) ↔ (o + 1 < size (axs dm M)) := by omega
  by_cases c : o + 1 < size (axs dm M)
  · rw [if_pos c, if_pos (e.2 c)]; simp
  · rw [if_neg c, if_neg (fun h => c (e.1 h))]; simp
theorem asg_zero {dm : Int → Int} {U M : List Int} (u : Uni dm U) (s : Sub U M) : M.map (asg (axs dm M) 0 σ0) = List.replicate M.length 0 := by
  have hd : ∀ l ∈ M, 1 ≤ dm l := fun l hl => (u.dim (s.sub l hl)).1
  have g : ∀ D : List Int, idxL D 0 = List.replicate D.length 0 := by
    intro D
    induction D with
    | nil => rfl
    | cons d D ih => rw [idxL, ih, Int.zero_ediv, Int.zero_emod]; rfl
  have := idxL_asg s.nodup hd 0 σ0
  rw [← this]
  show idxL _ 0 = _
  rw [g, List.length_map]
end
section
variable {k p n : Int} (hr : ringOk k p n = true)
def mulF (dm : Int → Int) (a b : List Int) (xs ys : List (El k p n)) : (Int → Int) → El k p n := fun τ => (rig hr).mul (valT hr dm a xs τ) (valT hr dm b ys τ)
def contrXs (dm : Int → Int) (a b keep : List Int) (xs ys : List (El k p n)) : List (El k p n) :=
  tab (axs dm (keepL (joinL a b) keep)) (contrF (rig hr) dm (joinL a b) keep (mulF hr dm a b xs ys)) σ0
def contrZ (dm : Int → Int) (a b keep : List Int) (xs ys : List (El k p n)) (o : Nat) : List (El k p n) :=
  scat (rig hr) (List.replicate (size (axs dm (keepL (joinL a b) keep))) (rig hr).zero) ((tab (axs dm (joinL a b)) (fun τ => (off (axs dm (keepL (joinL a b) keep)) τ, mulF hr dm a b xs ys τ)) σ0).take o)
theorem contrZ_zero (dm : Int → Int) (a b keep : List Int) (xs ys : List (El k p n)) : contrZ hr dm a b keep xs ys 0 = List.replicate (size (axs dm (keepL (joinL a b) keep))) (rig hr).zero := rfl
theorem contrZ_length (dm : Int → Int) (a b keep : List Int) (xs ys : List (El k p n)) (o : Nat) : (contrZ hr dm a b keep xs ys o).length = size (axs dm (keepL (joinL a b) keep)) := by
  unfold contrZ; rw [scat_length, List.length_replicate]
theorem contrZ_all {dm : Int → Int} {U a b : List Int} (sa : Sub U a) (sb : Sub U b) (keep : List Int) (xs ys : List (El k p n)) : contrZ hr dm a b keep xs ys (size (axs dm (joinL a b))) = contrXs hr dm a b keep xs ys := by
  unfold contrZ contrXs
  rw [List.take_of_length_le (by rw [tab_length]; exact Nat.le_refl _)]
  exact contr_scat (rig hr) (sa.join sb) _ σ0
theorem getD_modify {α : Type} {l : List α} {q : Nat} (h : q < l.length) (f : α → α) : l.modify q f = l.set q (f l[q]) := by
  apply List.ext_getElem?
  intro i
  rw [List.getElem?_modify, List.getElem?_set]
  by_cases e : q = i
  · subst e; simp [h]
  · simp [e]
theorem contr_step {W : Nat} (hW : ringWidth k n = (W : Int)) {dm : Int → Int} {U a b : List Int} {xs ys : List (El k p n)} (ha : IsT k p n dm U a xs) (hb : IsT k p n dm U b ys) (keep : List Int) {o : Nat} (ho : o < size (axs dm (joinL a b))) :
    ∃ (qa qb qc : Nat) (x y z : List Int),
      dotL ((joinL a b).map (stride a (a.map dm))) ((joinL a b).map (asg (axs dm (joinL a b)) o σ0)) = (qa : Int) ∧ qa ≤ 4096 ∧ qa * W + W ≤ (flat xs).length ∧ getL (flat xs) (qa * W) W = x ∧ rawOk k p n x = true ∧
      dotL ((joinL a b).map (stride b (b.map dm))) ((joinL a b).map (asg (axs dm (joinL a b)) o σ0)) = (qb : Int) ∧ qb ≤ 4096 ∧ qb * W + W ≤ (flat ys).length ∧ getL (flat ys) (qb * W) W = y ∧ rawOk k p n y = true ∧
      dotL ((joinL a b).map (stride (keepL (joinL a b) keep) ((keepL (joinL a b) keep).map dm))) ((joinL a b).map (asg (axs dm (joinL a b)) o σ0)) = (qc : Int) ∧ qc ≤ 4096 ∧ qc * W + W ≤ (flat (contrZ hr dm a b keep xs ys o)).length ∧ getL (flat (contrZ hr dm a b keep xs ys o)) (qc * W) W = z ∧ rawOk k p n z = true ∧
      rawOk k p n (mulL k p x y) = true ∧ flat (contrZ hr dm a b keep xs ys (o + 1)) = putL (flat (contrZ hr dm a b keep xs ys o)) (qc * W) (addL k p z (mulL k p x y)) := by
  have sj := ha.sub.join hb.sub
  have sl := sj.keep keep
  have u := ha.uni
  obtain ⟨τ, hτ⟩ : ∃ τ, asg (axs dm (joinL a b)) o σ0 = τ := ⟨_, rfl⟩
  have hf : Fits (axs dm (joinL a b)) τ := by rw [← hτ]; exact asg_fits' u sj o σ0
  have fit : ∀ L : List Int, (∀ l ∈ L, l ∈ joinL a b) → Fits (axs dm L) τ := fun L h x hx => by
    obtain ⟨l, hl, rfl⟩ := List.mem_map.1 hx
    exact hf (l, dm l) (List.mem_map_of_mem (h l hl))
  have hA : ∀ l ∈ a, l ∈ joinL a b := fun l hl => mem_joinL.2 (.inl hl)
  have hB : ∀ l ∈ b, l ∈ joinL a b := fun l hl => mem_joinL.2 (.inr hl)
  have hC : ∀ l ∈ keepL (joinL a b) keep, l ∈ joinL a b := fun l hl => (mem_keepL.1 hl).1
  obtain ⟨qa, a1, a2, a3, a4⟩ := read_at hr hW ha sj.nodup hA (fit a hA)
  obtain ⟨qb, b1, b2, b3, b4⟩ := read_at hr hW hb sj.nodup hB (fit b hB)
  have hd : ∀ l ∈ keepL (joinL a b) keep, 1 ≤ dm l := fun l hl => (u.dim (sl.sub l hl)).1
  have c1 := dot_off (dm := dm) sj.nodup sl.nodup hC hd (σ := τ) (fun l hl => (fit _ hC (l, dm l) (List.mem_map_of_mem hl)).1)
  have c2 := off_lt (fit _ hC)
  have c3 := (u.small sl).1
  have c4 := contrZ_length hr dm a b keep xs ys o
  have hq : off (axs dm (keepL (joinL a b) keep)) τ < (contrZ hr dm a b keep xs ys o).length := by omega
  have hz := List.getElem?_eq_getElem hq
  have hp := flat_put hW hq ((rig hr).add (contrZ hr dm a b keep xs ys o)[off (axs dm (keepL (joinL a b) keep)) τ] (mulF hr dm a b xs ys τ))
  rw [hτ]
  refine ⟨qa, qb, off (axs dm (keepL (joinL a b) keep)) τ, _, _, _, a1, ?_, a2, a3, (valT hr dm a xs τ).2, b1, ?_, b2, b3, (valT hr dm b ys τ).2, c1, by omega, ?_, flat_get hW hz, ((contrZ hr dm a b keep xs ys o)[off (axs dm (keepL (joinL a b) keep)) τ]).2, (mulF hr dm a b xs ys τ).2, ?_⟩
  · have := ha.small; omega
  · have := hb.small; omega
  · rw [flat_length hW, c4]
    have : (off (axs dm (keepL (joinL a b) keep)) τ + 1) * W ≤ size (axs dm (keepL (joinL a b) keep)) * W := Nat.mul_le_mul_right _ (by omega)
    rw [Nat.add_mul, Nat.one_mul] at this
    exact this
  · refine Eq.trans ?_ hp.symm
    congr 1
    conv => lhs; unfold contrZ
    rw [tab_take _ _ _ ho, scat_snoc (xs := []), hτ]
    exact getD_modify hq _
end
def U6 : List Int := [0, 1, 2, 3, 4, 5]
theorem uni6 : Uni dimOf U6 := ⟨by
  refine ⟨by simp [U6], by simp [U6], fun l hl => ?_, by decide, fun d hd => ?_, by decide⟩
  · simp [U6] at hl; omega
  · obtain ⟨x, _, rfl⟩ := List.mem_map.1 hd
    have := dimOf_range x; omega⟩
theorem labs_sub {m : Int} {L : List Int} (h : Labs 6 m L) : Sub U6 L := ⟨h.nodup, fun l hl => by have := h.low l hl; simp [U6]; omega⟩
section
variable {k p n : Int} (hr : ringOk k p n = true)
include hr in
theorem drawn_isT {L D X : List Int} (h : DrawnT k p n L D X) : ∃ xs : List (El k p n), X = flat xs ∧ D = L.map dimOf ∧ IsT k p n dimOf U6 L xs := by
  have s := labs_sub h.labs
  have hw := ringOk_wide hr
  have hW : ringWidth k n = ((ringWidth k n).toNat : Nat) := by have := hw.lo; omega
  have hz := uni6.size s
  have hl := h.len
  rw [h.dims, ← hz, hW] at hl
  obtain ⟨xs, h1, h2⟩ := flat_of hW (P := Proofs.YtlgjddgajdjllaaGreat.size (axs dimOf L)) (by exact_mod_cast hl) h.top
  exact ⟨xs, h2.symm, h.dims, uni6, s, h1⟩
theorem contr_isT {dm : Int → Int} {U a b : List Int} {xs ys : List (El k p n)} (ha : IsT k p n dm U a xs) (hb : IsT k p n dm U b ys) (keep : List Int) : IsT k p n dm U (keepL (joinL a b) keep) (contrXs hr dm a b keep xs ys) :=
  IsT.tab ha.uni ((ha.sub.join hb.sub).keep keep) _
theorem mulF_dep (dm : Int → Int) (a b : List Int) (xs ys : List (El k p n)) : Dep (mulF hr dm a b xs ys) (joinL a b) := mul_dep (rig hr) (valT_dep hr dm a xs) (valT_dep hr dm b ys)
end
abbrev NT (k p n : Int) := List Int × List (El k p n)
section
variable {k p n : Int}
def tenOf (dm : Int → Int) (t : NT k p n) : Ten3 := (t.1, t.1.map dm, flat t.2)
def occ (ts : List (NT k p n)) : List Int := ts.flatMap (·.1)
theorem mem_occ {ts : List (NT k p n)} {x : Int} : x ∈ occ ts ↔ ∃ t ∈ ts, x ∈ t.1 := List.mem_flatMap
theorem occ_append (a b : List (NT k p n)) : occ (a ++ b) = occ a ++ occ b := List.flatMap_append
theorem occ_snoc (a : List (NT k p n)) (t : NT k p n) : occ (a ++ [t]) = occ a ++ t.1 := by rw [occ_append]; simp [occ]
end
def all100 : List Int := (List.range 100).map fun n : Nat => (n : Int)
theorem mem_all100 {x : Int} : x ∈ all100 ↔ 0 ≤ x ∧ x ≤ 99 := by
  unfold all100
  rw [List.mem_map]
  constructor
  · rintro ⟨m, hm, rfl⟩
    have := List.mem_range.1 hm
    omega
  · rintro ⟨h0, h1⟩
    exact ⟨x.toNat, List.mem_range.2 (by omega), by omega⟩
theorem all100_nodup : all100.Nodup := by
  unfold all100
  exact List.pairwise_map.2 (List.Pairwise.imp (fun h e => h (by exact_mod_cast e)) List.nodup_range)
def ascL (S : List Int) : List Int := all100.filter fun x => hasL S x
theorem mem_ascL {S : List Int} {x : Int} : x ∈ ascL S ↔ (0 ≤ x ∧ x ≤ 99) ∧ x ∈ S := by
  unfold ascL
  rw [List.mem_filter, mem_all100, hasL_iff]
theorem ascL_nodup (S : List Int) : (ascL S).Nodup := all100_nodup.filter _
theorem ascL_congr {S T : List Int} (h : ∀ x, x ∈ S ↔ x ∈ T) : ascL S = ascL T := by
  unfold ascL
  apply List.filter_congr
  intro x _
  rw [Bool.eq_iff_iff, hasL_iff, hasL_iff]
  exact h x
def arrL (dm : Int → Int) (S : List Int) : List Int := all100.map fun x => if hasL S x = true then dm x else 0
theorem arrL_length (dm : Int → Int) (S : List Int) : (arrL dm S).length = 100 := by simp [arrL, all100]
theorem all100_get {j : Nat} (h : j < 100) : all100[j]? = some (j : Int) := by simp [all100, h]
theorem arrL_get (dm : Int → Int) (S : List Int) {j : Nat} (h : j < 100) : (arrL dm S)[j]? = some (if hasL S (j : Int) = true then dm j else 0) := by
  unfold arrL
  rw [List.getElem?_map, all100_get h]; rfl
theorem arrL_set (dm : Int → Int) (S : List Int) {j : Nat} (h : j < 100) : (arrL dm S).set j (dm j) = arrL dm (S ++ [(j : Int)]) := by
  apply List.ext_getElem?
  intro i
  by_cases hi : i < 100
  · rw [arrL_get _ _ hi]
    by_cases e : j = i
    · subst e
      rw [List.getElem?_set_self (by rw [arrL_length]; exact h), if_pos ((hasL_iff _ _).2 (by simp))]
    · rw [List.getElem?_set_ne e, arrL_get _ _ hi]
      have : hasL (S ++ [(j : Int)]) (i : Int) = hasL S (i : Int) := by
        rw [Bool.eq_iff_iff, hasL_iff, hasL_iff]
        simp; omega
      rw [this]
  · rw [List.getElem?_eq_none (by rw [List.length_set, arrL_length]; omega), List.getElem?_eq_none (by rw [arrL_length]; omega)]
theorem arrL_zero (dm : Int → Int) : arrL dm [] = List.replicate 100 0 := by
  unfold arrL
  have : (fun x : Int => if hasL [] x = true then dm x else 0) = fun _ => 0 := by funext x; simp [hasL]
  rw [this, List.map_const', all100, List.length_map, List.length_range]
section
variable {k p n : Int}
structure IsN (k p n : Int) (dm : Int → Int) (U : List Int) (ts : List (NT k p n)) (op : List Int) : Prop where
  uni : Uni dm U
  ten : ∀ t ∈ ts, IsT k p n dm U t.1 t.2
  sub : Sub U op
  occ : ∀ x ∈ op, x ∈ Proofs.YtlgjddgajdjllaaGreat.occ ts
  len : ts.length ≤ 12
variable {dm : Int → Int} {U : List Int} {ts : List (NT k p n)} {op : List Int}
theorem IsN.occU (h : IsN k p n dm U ts op) {x : Int} (hx : x ∈ Proofs.YtlgjddgajdjllaaGreat.occ ts) : x ∈ U := by
  obtain ⟨t, ht, hxt⟩ := mem_occ.1 hx
  exact (h.ten t ht).sub.sub x hxt
theorem Uni.labs (u : Uni dm U) {x : Int} (hx : x ∈ U) : 0 ≤ x ∧ x ≤ 99 := u.ok.labs x hx
theorem IsN.mem_asc (h : IsN k p n dm U ts op) {x : Int} : x ∈ ascL (Proofs.YtlgjddgajdjllaaGreat.occ ts) ↔ x ∈ Proofs.YtlgjddgajdjllaaGreat.occ ts :=
  ⟨fun hx => (mem_ascL.1 hx).2, fun hx => mem_ascL.2 ⟨h.uni.labs (h.occU hx), hx⟩⟩
theorem IsN.ascSub (h : IsN k p n dm U ts op) : Sub U (ascL (Proofs.YtlgjddgajdjllaaGreat.occ ts)) := ⟨ascL_nodup _, fun x hx => h.occU (mem_ascL.1 hx).2⟩
theorem IsN.opAsc (h : IsN k p n dm U ts op) {x : Int} (hx : x ∈ op) : x ∈ ascL (Proofs.YtlgjddgajdjllaaGreat.occ ts) := h.mem_asc.2 (h.occ x hx)
theorem IsN.rank (h : IsN k p n dm U ts op) : op.length ≤ 12 := (h.uni.ax h.sub).rank
end
def mrgL (l : List Int) (a b : Int) : List Int := l.map fun x => if x = b then a else x
theorem mrgL_length (l : List Int) (a b : Int) : (mrgL l a b).length = l.length := by simp [mrgL]
theorem mrgL_get {l : List Int} {a b : Int} {i : Nat} {x : Int} (h : l[i]? = some x) : (mrgL l a b)[i]? = some (if x = b then a else x) := by
  unfold mrgL; rw [List.getElem?_map, h]; rfl
def atL (l : List Int) (i : Nat) : Int := l.getD i 0
theorem atL_get {l : List Int} {i : Nat} (h : i < l.length) : l[i]? = some (atL l i) := by
  unfold atL; rw [List.getD_eq_getElem?_getD, List.getElem?_eq_getElem h]; rfl
theorem atL_mrg {l : List Int} {a b : Int} {i : Nat} (h : i < l.length) : atL (mrgL l a b) i = if atL l i = b then a else atL l i := by
  have := mrgL_get (a := a) (b := b) (atL_get h)
  unfold atL at this ⊢
  rw [List.getD_eq_getElem?_getD, this]; rfl
structure Mrg (l l' : List Int) (u v : Nat) : Prop where
  eq : l' = mrgL l (atL l u) (atL l v) ∨ l' = mrgL l (atL l v) (atL l u)
theorem Mrg.length {l l' : List Int} {u v : Nat} (h : Mrg l l' u v) : l'.length = l.length := by rcases h.eq with rfl | rfl <;> exact mrgL_length _ _ _
inductive Mrgs : List Int → List (Nat × Nat) → List Int → Prop
  | nil (l : List Int) : Mrgs l [] l
  | snoc {l l1 l2 : List Int} {E : List (Nat × Nat)} {u v : Nat} : Mrgs l E l1 → Mrg l1 l2 u v → Mrgs l (E ++ [(u, v)]) l2
theorem Mrgs.length {l l' : List Int} {E : List (Nat × Nat)} (h : Mrgs l E l') : l'.length = l.length := by
  induction h with
  | nil => rfl
  | snoc _ h2 ih => rw [h2.length, ih]
theorem Mrg.keep {l l' : List Int} {u v x y : Nat} (h : Mrg l l' u v) (hx : x < l.length) (hy : y < l.length) (e : atL l x = atL l y) : atL l' x = atL l' y := by
  rcases h.eq with rfl | rfl <;> rw [atL_mrg hx, atL_mrg hy, e]
theorem Mrg.join {l l' : List Int} {u v : Nat} (h : Mrg l l' u v) (hu : u < l.length) (hv : v < l.length) : atL l' u = atL l' v := by
  rcases h.eq with rfl | rfl <;> rw [atL_mrg hu, atL_mrg hv] <;> split <;> simp_all
theorem Mrgs.pair {l l' : List Int} {E : List (Nat × Nat)} (h : Mrgs l E l') : (∀ q ∈ E, q.1 < l.length ∧ q.2 < l.length) → ∀ q ∈ E, atL l' q.1 = atL l' q.2 := by
  induction h with
  | nil => intro _ q hq; cases hq
  | snoc h1 h2 ih =>
    intro hE q hq
    have hl := h1.length
    rcases List.mem_append.1 hq with hq | hq
    · have h3 := hE q (List.mem_append_left _ hq)
      exact h2.keep (by omega) (by omega) (ih (fun q hq => hE q (List.mem_append_left _ hq)) q hq)
    · simp at hq; subst hq
      have h3 := hE _ (List.mem_append_right _ (List.mem_singleton.2 rfl))
      exact h2.join (by simp at h3; omega) (by simp at h3; omega)
theorem Mrgs.factor {α : Type} {l l' : List Int} {E : List (Nat × Nat)} {g : Nat → α} (h : Mrgs l E l') (h0 : ∀ x y, x < l.length → y < l.length → atL l x = atL l y → g x = g y) :
    (∀ q ∈ E, q.1 < l.length ∧ q.2 < l.length ∧ g q.1 = g q.2) → ∀ x y, x < l.length → y < l.length → atL l' x = atL l' y → g x = g y := by
  induction h with
  | nil => exact fun _ => h0
  | @snoc l1 l2 E u v h1 h2 ih =>
    intro hE x y hx hy e
    have ih := ih (fun q hq => hE q (List.mem_append_left _ hq))
    obtain ⟨hu, hv, huv⟩ := hE (u, v) (List.mem_append_right _ (List.mem_singleton.2 rfl))
    simp only at hu hv huv
    have hl := h1.length
    have cu := ih u; have cv := ih v
    rcases h2.eq with rfl | rfl
    · rw [atL_mrg (by omega), atL_mrg (by omega)] at e
      by_cases ex : atL l1 x = atL l1 v
      · have gx := ih x v hx hv ex
        rw [if_pos ex] at e
        by_cases ey : atL l1 y = atL l1 v
        · rw [gx, ih y v hy hv ey]
        · rw [if_neg ey] at e
          rw [gx, ← huv, ih u y hu hy e]
      · rw [if_neg ex] at e
        by_cases ey : atL l1 y = atL l1 v
        · rw [if_pos ey] at e
          rw [ih x u hx hu e, huv, ih y v hy hv ey]
        · rw [if_neg ey] at e
          exact ih x y hx hy e
    · rw [atL_mrg (by omega), atL_mrg (by omega)] at e
      by_cases ex : atL l1 x = atL l1 u
      · have gx := ih x u hx hu ex
        rw [if_pos ex] at e
        by_cases ey : atL l1 y = atL l1 u
        · rw [gx, ih y u hy hu ey]
        · rw [if_neg ey] at e
          rw [gx, huv, ih v y hv hy e]
      · rw [if_neg ex] at e
        by_cases ey : atL l1 y = atL l1 u
        · rw [if_pos ey] at e
          rw [ih x v hx hv e, ← huv, ih y u hy hu ey]
        · rw [if_neg ey] at e
          exact ih x y hx hy e
def idL (N : Nat) : List Int := (List.range N).map fun i : Nat => (i : Int)
theorem idL_length (N : Nat) : (idL N).length = N := by simp [idL]
theorem idL_at {N i : Nat} (h : i < N) : atL (idL N) i = (i : Int) := by
  unfold atL idL; rw [List.getD_eq_getElem?_getD, List.getElem?_map, List.getElem?_range h]; rfl
theorem Mrgs.trans {l l1 l2 : List Int} {E1 E2 : List (Nat × Nat)} (h1 : Mrgs l E1 l1) (h2 : Mrgs l1 E2 l2) : Mrgs l (E1 ++ E2) l2 := by
  induction h2 with
  | nil => simpa using h1
  | snoc _ h3 ih => rw [← List.append_assoc]; exact ih.snoc h3
theorem Mrgs.cons {l l1 l2 : List Int} {u v : Nat} {E : List (Nat × Nat)} (h1 : Mrg l l1 u v) (h2 : Mrgs l1 E l2) : Mrgs l ((u, v) :: E) l2 :=
  Mrgs.trans (E1 := [(u, v)]) ((Mrgs.nil l).snoc (E := []) h1) h2
theorem Mrgs.any (l : List Int) : ∀ E : List (Nat × Nat), ∃ l', Mrgs l E l'
  | [] => ⟨l, .nil l⟩
  | (u, v) :: E => by
    obtain ⟨l', h⟩ := Mrgs.any (mrgL l (atL l u) (atL l v)) E
    exact ⟨l', Mrgs.cons ⟨.inl rfl⟩ h⟩
def labL (Ls : List (List Int)) (i : Nat) : List Int := Ls.getD i []
theorem labL_of {Ls : List (List Int)} {i : Nat} {L : List Int} (h : Ls[i]? = some L) : labL Ls i = L := by unfold labL; rw [List.getD_eq_getElem?_getD, h]; rfl
def shareL (a b : List Int) : Bool := a.any fun x => hasL b x
theorem shareL_iff {a b : List Int} : shareL a b = true ↔ ∃ x, x ∈ a ∧ x ∈ b := by
  unfold shareL
  rw [List.any_eq_true]
  constructor
  · rintro ⟨x, h1, h2⟩; exact ⟨x, h1, (hasL_iff _ _).1 h2⟩
  · rintro ⟨x, h1, h2⟩; exact ⟨x, h1, (hasL_iff _ _).2 h2⟩
def pairTo (Ls : List (List Int)) (i j : Nat) : List (Nat × Nat) := ((List.range j).filter fun j => shareL (labL Ls i) (labL Ls j)).map fun j => (i, j)
def pairsL (Ls : List (List Int)) (m : Nat) : List (Nat × Nat) := (List.range m).flatMap fun i => pairTo Ls i i
theorem pairTo_succ (Ls : List (List Int)) (i j : Nat) : pairTo Ls i (j + 1) = pairTo Ls i j ++ if shareL (labL Ls i) (labL Ls j) = true then [(i, j)] else [] := by
  unfold pairTo
  rw [List.range_succ, List.filter_append, List.map_append]
  congr 1
  by_cases h : shareL (labL Ls i) (labL Ls j) = true <;> simp [h]
theorem pairsL_succ (Ls : List (List Int)) (m : Nat) : pairsL Ls (m + 1) = pairsL Ls m ++ pairTo Ls m m := by
  unfold pairsL; rw [List.range_succ, List.flatMap_append]; simp
theorem mem_pairsL {Ls : List (List Int)} {m i j : Nat} : (i, j) ∈ pairsL Ls m ↔ i < m ∧ j < i ∧ shareL (labL Ls i) (labL Ls j) = true := by
  unfold pairsL pairTo
  simp only [List.mem_flatMap, List.mem_map, List.mem_filter, List.mem_range, Prod.mk.injEq]
  constructor
  · rintro ⟨i', h1, j', ⟨h2, h3⟩, rfl, rfl⟩; exact ⟨h1, h2, h3⟩
  · rintro ⟨h1, h2, h3⟩; exact ⟨i, h1, j, ⟨h2, h3⟩, rfl, rfl⟩
def subOpen (Si So op : List Int) : List Int := (op.filter fun x => hasL Si x) ++ all100.filter fun x => hasL Si x && hasL So x && !hasL op x
theorem mem_subOpen {Si So op : List Int} (hop : ∀ x ∈ op, 0 ≤ x ∧ x ≤ 99) {x : Int} : x ∈ subOpen Si So op ↔ (0 ≤ x ∧ x ≤ 99) ∧ x ∈ Si ∧ (x ∈ op ∨ x ∈ So) := by
  unfold subOpen
  simp only [List.mem_append, List.mem_filter, mem_all100, Bool.and_eq_true, Bool.not_eq_true', hasL_iff, hasL_not]
  constructor
  · rintro (⟨h1, h2⟩ | ⟨h1, ⟨h2, h3⟩, h4⟩)
    · exact ⟨hop x h1, h2, .inl h1⟩
    · exact ⟨h1, h2, .inr h3⟩
  · rintro ⟨h1, h2, h3⟩
    by_cases h : x ∈ op
    · exact .inl ⟨h, h2⟩
    · exact .inr ⟨h1, ⟨h2, h3.resolve_left h⟩, h⟩
theorem subOpen_nodup {Si So op : List Int} (hn : op.Nodup) : (subOpen Si So op).Nodup := by
  unfold subOpen
  rw [List.nodup_append]
  refine ⟨hn.filter _, all100_nodup.filter _, fun a ha b hb e => ?_⟩
  subst e
  have h1 := (List.mem_filter.1 ha).1
  have h2 := (List.mem_filter.1 hb).2
  simp only [Bool.and_eq_true, Bool.not_eq_true', hasL_not] at h2
  exact h2.2 h1
end Go.Proofs.YtlgjddgajdjllaaGreat
