/- Texts of one kind, merged by program. -/
import Derived.Test.YtpegckmagiaggaaKListW
/- Tables read by strides, plain. No program in sight. -/
set_option linter.unusedSimpArgs false
set_option linter.unusedVariables false
namespace Go.Proofs.Ytpegckmagiaggaa
open Go.RowKit
theorem map_get_find {dm : Int → Int} {L : List Int} {x : Int} (h : x ∈ L) : ∃ j : Nat, findL L x = j ∧ j < L.length ∧ L[j]? = some x ∧ (L.map dm)[j]? = some (dm x) := by
  have gen : ∀ (L : List Int) (i : Nat), x ∈ L → ∃ j : Nat, findGo x i L = ((i + j : Nat) : Int) ∧ j < L.length ∧ L[j]? = some x := by
    intro L
    induction L with
    | nil => intro i h; simp at h
    | cons y t ih =>
      intro i h
      rw [findGo]
      by_cases e : y = x
      · exact ⟨0, by rw [if_pos e]; simp, by simp, by simp [e]⟩
      · rcases List.mem_cons.1 h with h | h
        · exact absurd h.symm e
        obtain ⟨j, h1, h2, h3⟩ := ih (i + 1) h
        refine ⟨j + 1, ?_, by simp; omega, by simpa using h3⟩
        rw [if_neg e]
        have : ((i : Nat) : Int) + 1 = ((i + 1 : Nat) : Int) := by simp
        rw [this, h1]; congr 1; omega
  obtain ⟨j, h1, h2, h3⟩ := gen L 0 h
  exact ⟨j, by unfold findL; simpa using h1, h2, h3, by rw [List.getElem?_map, h3]; rfl⟩
section
variable {k p n : Int} (hr : ringOk k p n = true)
structure IsT (k p n : Int) (dm : Int → Int) (U L : List Int) (xs : List (El k p n)) : Prop where
  uni : Uni dm U
  sub : Sub U L
  len : xs.length = size (axs dm L)
theorem IsT.ax {dm : Int → Int} {U L : List Int} {xs : List (El k p n)} (h : IsT k p n dm U L xs) : AxOk L (L.map dm) := h.uni.ax h.sub
include hr in
theorem IsT.ok {dm : Int → Int} {U L : List Int} {xs : List (El k p n)} (h : IsT k p n dm U L xs) : TOk k p n L (L.map dm) (flat xs) := by
  have hw := ringOk_wide hr
  have hW : ringWidth k n = ((ringWidth k n).toNat : Nat) := by have := hw.lo; omega
  refine ⟨h.ax, ?_, flat_top _⟩
  rw [flat_length hW, h.len, Int.natCast_mul, h.uni.size h.sub, ← hW]
include hr in
theorem IsT.yes {dm : Int → Int} {U L : List Int} {xs : List (El k p n)} (h : IsT k p n dm U L xs) : tensOk k p n L (L.map dm) (flat xs) = true := (tensOk_iff hr).2 (h.ok hr)
theorem IsT.dims {dm : Int → Int} {U L : List Int} {xs : List (El k p n)} (h : IsT k p n dm U L xs) : ∀ d ∈ L.map dm, 1 ≤ d ∧ d ≤ 8 := h.ax.dims
theorem IsT.tab {dm : Int → Int} {U L : List Int} (u : Uni dm U) (s : Sub U L) (F : (Int → Int) → El k p n) : IsT k p n dm U L (Proofs.Ytpegckmagiaggaa.tab (axs dm L) F σ0) := ⟨u, s, tab_length _ _ _⟩
theorem tab_take {α : Type} (F : (Int → Int) → α) (ax : List (Int × Int)) (σ : Int → Int) {o : Nat} (h : o < size ax) : (Proofs.Ytpegckmagiaggaa.tab ax F σ).take (o + 1) = (Proofs.Ytpegckmagiaggaa.tab ax F σ).take o ++ [F (asg ax o σ)] := by
  have hg := tab_get F ax σ h
  obtain ⟨h1, h2⟩ := List.getElem?_eq_some_iff.1 hg
  rw [List.take_succ_eq_append_getElem h1, h2]
theorem flat_take_tab (F : (Int → Int) → El k p n) (ax : List (Int × Int)) (σ : Int → Int) {o : Nat} (h : o < size ax) : flat ((Proofs.Ytpegckmagiaggaa.tab ax F σ).take (o + 1)) = flat ((Proofs.Ytpegckmagiaggaa.tab ax F σ).take o) ++ (F (asg ax o σ)).1 := by
  rw [tab_take F ax σ h, flat_snoc]
theorem read_at {W : Nat} (hW : ringWidth k n = (W : Int)) {dm : Int → Int} {U L M : List Int} {xs : List (El k p n)} (h : IsT k p n dm U L xs) (hM : M.Nodup) (hs : ∀ l ∈ L, l ∈ M) {τ : Int → Int} (hf : Fits (axs dm L) τ) :
    ∃ q : Nat, dotL (M.map (stride L (L.map dm))) (M.map τ) = (q : Int) ∧ q * W + W ≤ (flat xs).length ∧ getL (flat xs) (q * W) W = (valT hr dm L xs τ).1 ∧ q < size (axs dm L) := by
  have hd : ∀ l ∈ L, 1 ≤ dm l := fun l hl => (h.uni.dim (h.sub.sub l hl)).1
  have h0 : ∀ l ∈ L, 0 ≤ τ l := fun l hl => (hf (l, dm l) (List.mem_map_of_mem hl)).1
  have hq := off_lt hf
  refine ⟨off (axs dm L) τ, dot_off hM h.sub.nodup hs hd h0, ?_, flat_get hW (valT_get hr h.len hf), hq⟩
  rw [flat_length hW, h.len]
  have : (off (axs dm L) τ + 1) * W ≤ size (axs dm L) * W := Nat.mul_le_mul_right _ (by omega)
  rw [Nat.add_mul, Nat.one_mul] at this
  exact this
theorem IsT.small {dm : Int → Int} {U L : List Int} {xs : List (El k p n)} (h : IsT k p n dm U L xs) : size (axs dm L) ≤ 4096 := by
  have h1 := h.uni.size h.sub
  have h2 := h.ax.size
  omega
theorem Uni.small {dm : Int → Int} {U L : List Int} (u : Uni dm U) (s : Sub U L) : Proofs.Ytpegckmagiaggaa.size (axs dm L) ≤ 4096 ∧ 1 ≤ Proofs.Ytpegckmagiaggaa.size (axs dm L) := by
  have h1 := u.size s
  have h2 := (u.ax s).size
  have h3 := prodL_pos (u.ax s).dims
  omega
theorem stride_pos {dm : Int → Int} {U L M : List Int} (u : Uni dm U) (s : Sub U L) : ∀ x ∈ M.map (stride L (L.map dm)), 0 ≤ x := by
  intro x hx
  obtain ⟨l, _, rfl⟩ := List.mem_map.1 hx
  exact stride_nonneg _ _ (u.ax s).dims l
theorem asg_pos {dm : Int → Int} {U M : List Int} (u : Uni dm U) (s : Sub U M) (o : Nat) : ∀ x ∈ M.map (asg (axs dm M) o σ0), 0 ≤ x ∧ x ≤ 8 := by
  intro x hx
  obtain ⟨l, hl, rfl⟩ := List.mem_map.1 hx
  have hf := asg_fits' u s o σ0 (l, dm l) (List.mem_map_of_mem hl)
  have := (u.dim (s.sub l hl)).2
  simp only at hf
  omega
theorem next_asg {dm : Int → Int} {U M : List Int} (u : Uni dm U) (s : Sub U M) {o : Nat} (h : o < size (axs dm M)) :
    nextI (M.map dm) (M.map (asg (axs dm M) o σ0)) = if o + 1 < size (axs dm M) then (M.map (asg (axs dm M) (o + 1) σ0), true) else (M.map (asg (axs dm M) 0 σ0), false) := by
  have hd : ∀ l ∈ M, 1 ≤ dm l := fun l hl => (u.dim (s.sub l hl)).1
  have hz := u.size s
  rw [← idxL_asg s.nodup hd, ← idxL_asg s.nodup hd, ← idxL_asg s.nodup hd, next_idx (u.ax s).dims (by omega) (by omega)]
  have e : ((o : Int) + 1 < prodL (M.map dm)) ↔ (o + 1 < size (axs dm M)) := by omega
  by_cases c : o + 1 < size (axs dm M)
  · rw [if_pos c, if_pos (e.2 c)]; simp
  · rw [if_neg c, if_neg (fun h => c (e.1 h))]; simp
theorem asg_zero {dm : Int → Int} {U M : List Int} (u : Uni dm U) (s : Sub U M) : M.map (asg (axs dm M) 0 σ0) = List.replicate M.length 0 := by
  have hd : ∀ l ∈ M, 1 ≤ dm l := fun l hl => (u.dim (s.sub l hl)).1
  have g : ∀ D : List Int, idxL D 0 = List.replicate D.length 0 := by
    intro D
    induction D with
    | nil => rfl
    | cons d D ih => rw [idxL, ih, Int.zero_ediv, Int.zero_emod]; rfl
  have := idxL_asg s.nodup hd 0 σ0
  rw [← this]
  show idxL _ 0 = _
  rw [g, List.length_map]
end
section
variable {k p n : Int} (hr : ringOk k p n = true)
def mulF (dm : Int → Int) (a b : List Int) (xs ys : List (El k p n)) : (Int → Int) → El k p n := fun τ => (rig hr).mul (valT hr dm a xs τ) (valT hr dm b ys τ)
def contrXs (dm : Int → Int) (a b keep : List Int) (xs ys : List (El k p n)) : List (El k p n) :=
  tab (axs dm (keepL (joinL a b) keep)) (contrF (rig hr) dm (joinL a b) keep (mulF hr dm a b xs ys)) σ0
def contrZ (dm : Int → Int) (a b keep : List Int) (xs ys : List (El k p n)) (o : Nat) : List (El k p n) :=
  scat (rig hr) (List.replicate (size (axs dm (keepL (joinL a b) keep))) (rig hr).zero) ((tab (axs dm (joinL a b)) (fun τ => (off (axs dm (keepL (joinL a b) keep)) τ, mulF hr dm a b xs ys τ)) σ0).take o)
theorem contrZ_zero (dm : Int → Int) (a b keep : List Int) (xs ys : List (El k p n)) : contrZ hr dm a b keep xs ys 0 = List.replicate (size (axs dm (keepL (joinL a b) keep))) (rig hr).zero := rfl
theorem contrZ_length (dm : Int → Int) (a b keep : List Int) (xs ys : List (El k p n)) (o : Nat) : (contrZ hr dm a b keep xs ys o).length = size (axs dm (keepL (joinL a b) keep)) := by
  unfold contrZ; rw [scat_length, List.length_replicate]
theorem contrZ_all {dm : Int → Int} {U a b : List Int} (sa : Sub U a) (sb : Sub U b) (keep : List Int) (xs ys : List (El k p n)) : contrZ hr dm a b keep xs ys (size (axs dm (joinL a b))) = contrXs hr dm a b keep xs ys := by
  unfold contrZ contrXs
  rw [List.take_of_length_le (by rw [tab_length]; exact Nat.le_refl _)]
  exact contr_scat (rig hr) (sa.join sb) _ σ0
theorem getD_modify {α : Type} {l : List α} {q : Nat} (h : q < l.length) (f : α → α) : l.modify q f = l.set q (f l[q]) := by
  apply List.ext_getElem?
  intro i
  rw [List.getElem?_modify, List.getElem?_set]
  by_cases e : q = i
  · subst e; simp [h]
  · simp [e]
theorem contr_step {W : Nat} (hW : ringWidth k n = (W : Int)) {dm : Int → Int} {U a b : List Int} {xs ys : List (El k p n)} (ha : IsT k p n dm U a xs) (hb : IsT k p n dm U b ys) (keep : List Int) {o : Nat} (ho : o < size (axs dm (joinL a b))) :
    ∃ (qa qb qc : Nat) (x y z : List Int),
      dotL ((joinL a b).map (stride a (a.map dm))) ((joinL a b).map (asg (axs dm (joinL a b)) o σ0)) = (qa : Int) ∧ qa ≤ 4096 ∧ qa * W + W ≤ (flat xs).length ∧ getL (flat xs) (qa * W) W = x ∧ rawOk k p n x = true ∧
      dotL ((joinL a b).map (stride b (b.map dm))) ((joinL a b).map (asg (axs dm (joinL a b)) o σ0)) = (qb : Int) ∧ qb ≤ 4096 ∧ qb * W + W ≤ (flat ys).length ∧ getL (flat ys) (qb * W) W = y ∧ rawOk k p n y = true ∧
      dotL ((joinL a b).map (stride (keepL (joinL a b) keep) ((keepL (joinL a b) keep).map dm))) ((joinL a b).map (asg (axs dm (joinL a b)) o σ0)) = (qc : Int) ∧ qc ≤ 4096 ∧ qc * W + W ≤ (flat (contrZ hr dm a b keep xs ys o)).length ∧ getL (flat (contrZ hr dm a b keep xs ys o)) (qc * W) W = z ∧ rawOk k p n z = true ∧
      rawOk k p n (mulL k p x y) = true ∧ flat (contrZ hr dm a b keep xs ys (o + 1)) = putL (flat (contrZ hr dm a b keep xs ys o)) (qc * W) (addL k p z (mulL k p x y)) := by
  have sj := ha.sub.join hb.sub
  have sl := sj.keep keep
  have u := ha.uni
  obtain ⟨τ, hτ⟩ : ∃ τ, asg (axs dm (joinL a b)) o σ0 = τ := ⟨_, rfl⟩
  have hf : Fits (axs dm (joinL a b)) τ := by rw [← hτ]; exact asg_fits' u sj o σ0
  have fit : ∀ L : List Int, (∀ l ∈ L, l ∈ joinL a b) → Fits (axs dm L) τ := fun L h x hx => by
    obtain ⟨l, hl, rfl⟩ := List.mem_map.1 hx
    exact hf (l, dm l) (List.mem_map_of_mem (h l hl))
  have hA : ∀ l ∈ a, l ∈ joinL a b := fun l hl => mem_joinL.2 (.inl hl)
  have hB : ∀ l ∈ b, l ∈ joinL a b := fun l hl => mem_joinL.2 (.inr hl)
  have hC : ∀ l ∈ keepL (joinL a b) keep, l ∈ joinL a b := fun l hl => (mem_keepL.1 hl).1
  obtain ⟨qa, a1, a2, a3, a4⟩ := read_at hr hW ha sj.nodup hA (fit a hA)
  obtain ⟨qb, b1, b2, b3, b4⟩ := read_at hr hW hb sj.nodup hB (fit b hB)
  have hd : ∀ l ∈ keepL (joinL a b) keep, 1 ≤ dm l := fun l hl => (u.dim (sl.sub l hl)).1
  have c1 := dot_off (dm := dm) sj.nodup sl.nodup hC hd (σ := τ) (fun l hl => (fit _ hC (l, dm l) (List.mem_map_of_mem hl)).1)
  have c2 := off_lt (fit _ hC)
  have c3 := (u.small sl).1
  have c4 := contrZ_length hr dm a b keep xs ys o
  have hq : off (axs dm (keepL (joinL a b) keep)) τ < (contrZ hr dm a b keep xs ys o).length := by omega
  have hz := List.getElem?_eq_getElem hq
  have hp := flat_put hW hq ((rig hr).add (contrZ hr dm a b keep xs ys o)[off (axs dm (keepL (joinL a b) keep)) τ] (mulF hr dm a b xs ys τ))
  rw [hτ]
  refine ⟨qa, qb, off (axs dm (keepL (joinL a b) keep)) τ, _, _, _, a1, ?_, a2, a3, (valT hr dm a xs τ).2, b1, ?_, b2, b3, (valT hr dm b ys τ).2, c1, by omega, ?_, flat_get hW hz, ((contrZ hr dm a b keep xs ys o)[off (axs dm (keepL (joinL a b) keep)) τ]).2, (mulF hr dm a b xs ys τ).2, ?_⟩
  · have := ha.small; omega
  · have := hb.small; omega
  · rw [flat_length hW, c4]
    have : (off (axs dm (keepL (joinL a b) keep)) τ + 1) * W ≤ size (axs dm (keepL (joinL a b) keep)) * W := Nat.mul_le_mul_right _ (by omega)
    rw [Nat.add_mul, Nat.one_mul] at this
    exact this
  · refine Eq.trans ?_ hp.symm
    congr 1
    conv => lhs; unfold contrZ
    rw [tab_take _ _ _ ho, scat_snoc (xs := []), hτ]
    exact getD_modify hq _
end
def U6 : List Int := [0, 1, 2, 3, 4, 5]
theorem uni6 : Uni dimOf U6 := ⟨by
  refine ⟨by simp [U6], by simp [U6], fun l hl => ?_, by decide, fun d hd => ?_, by decide⟩
  · simp [U6] at hl; omega
  · obtain ⟨x, _, rfl⟩ := List.mem_map.1 hd
    have := dimOf_range x; omega⟩
theorem labs_sub {m : Int} {L : List Int} (h : Labs 6 m L) : Sub U6 L := ⟨h.nodup, fun l hl => by have := h.low l hl; simp [U6]; omega⟩
section
variable {k p n : Int} (hr : ringOk k p n = true)
include hr in
theorem drawn_isT {L D X : List Int} (h : DrawnT k p n L D X) : ∃ xs : List (El k p n), X = flat xs ∧ D = L.map dimOf ∧ IsT k p n dimOf U6 L xs := by
  have s := labs_sub h.labs
  have hw := ringOk_wide hr
  have hW : ringWidth k n = ((ringWidth k n).toNat : Nat) := by have := hw.lo; omega
  have hz := uni6.size s
  have hl := h.len
  rw [h.dims, ← hz, hW] at hl
  obtain ⟨xs, h1, h2⟩ := flat_of hW (P := Proofs.Ytpegckmagiaggaa.size (axs dimOf L)) (by exact_mod_cast hl) h.top
  exact ⟨xs, h2.symm, h.dims, uni6, s, h1⟩
theorem contr_isT {dm : Int → Int} {U a b : List Int} {xs ys : List (El k p n)} (ha : IsT k p n dm U a xs) (hb : IsT k p n dm U b ys) (keep : List Int) : IsT k p n dm U (keepL (joinL a b) keep) (contrXs hr dm a b keep xs ys) :=
  IsT.tab ha.uni ((ha.sub.join hb.sub).keep keep) _
theorem mulF_dep (dm : Int → Int) (a b : List Int) (xs ys : List (El k p n)) : Dep (mulF hr dm a b xs ys) (joinL a b) := mul_dep (rig hr) (valT_dep hr dm a xs) (valT_dep hr dm b ys)
end
abbrev NT (k p n : Int) := List Int × List (El k p n)
section
variable {k p n : Int}
def tenOf (dm : Int → Int) (t : NT k p n) : Ten3 := (t.1, t.1.map dm, flat t.2)
def occ (ts : List (NT k p n)) : List Int := ts.flatMap (·.1)
theorem mem_occ {ts : List (NT k p n)} {x : Int} : x ∈ occ ts ↔ ∃ t ∈ ts, x ∈ t.1 := List.mem_flatMap
theorem occ_append (a b : List (NT k p n)) : occ (a ++ b) = occ a ++ occ b := List.flatMap_append
theorem occ_snoc (a : List (NT k p n)) (t : NT k p n) : occ (a ++ [t]) = occ a ++ t.1 := by rw [occ_append]; simp [occ]
end
def all100 : List Int := (List.range 100).map fun n : Nat => (n : Int)
theorem mem_all100 {x : Int} : x ∈ all100 ↔ 0 ≤ x ∧ x ≤ 99 := by
  unfold all100
  rw [List.mem_map]
  constructor
  · rintro ⟨m, hm, rfl⟩
    have := List.mem_range.1 hm
    omega
  · rintro ⟨h0, h1⟩
    exact ⟨x.toNat, List.mem_range.2 (by omega), by omega⟩
theorem all100_nodup : all100.Nodup := by
  unfold all100
  exact List.pairwise_map.2 (List.Pairwise.imp (fun h e => h (by exact_mod_cast e)) List.nodup_range)
def ascL (S : List Int) : List Int := all100.filter fun x => hasL S x
theorem mem_ascL {S : List Int} {x : Int} : x ∈ ascL S ↔ (0 ≤ x ∧ x ≤ 99) ∧ x ∈ S := by
  unfold ascL
  rw [List.mem_filter, mem_all100, hasL_iff]
theorem ascL_nodup (S : List Int) : (ascL S).Nodup := all100_nodup.filter _
theorem ascL_congr {S T : List Int} (h : ∀ x, x ∈ S ↔ x ∈ T) : ascL S = ascL T := by
  unfold ascL
  apply List.filter_congr
  intro x _
  rw [Bool.eq_iff_iff, hasL_iff, hasL_iff]
  exact h x
def arrL (dm : Int → Int) (S : List Int) : List Int := all100.map fun x => if hasL S x = true then dm x else 0
theorem arrL_length (dm : Int → Int) (S : List Int) : (arrL dm S).length = 100 := by simp [arrL, all100]
theorem all100_get {j : Nat} (h : j < 100) : all100[j]? = some (j : Int) := by simp [all100, h]
theorem arrL_get (dm : Int → Int) (S : List Int) {j : Nat} (h : j < 100) : (arrL dm S)[j]? = some (if hasL S (j : Int) = true then dm j else 0) := by
  unfold arrL
  rw [List.getElem?_map, all100_get h]; rfl
theorem arrL_set (dm : Int → Int) (S : List Int) {j : Nat} (h : j < 100) : (arrL dm S).set j (dm j) = arrL dm (S ++ [(j : Int)]) := by
  apply List.ext_getElem?
  intro i
  by_cases hi : i < 100
  · rw [arrL_get _ _ hi]
    by_cases e : j = i
    · subst e
      rw [List.getElem?_set_self (by rw [arrL_length]; exact h), if_pos ((hasL_iff _ _).2 (by simp))]
    · rw [List.getElem?_set_ne e, arrL_get _ _ hi]
      have : hasL (S ++ [(j : Int)]) (i : Int) = hasL S (i : Int) := by
        rw [Bool.eq_iff_iff, hasL_iff, hasL_iff]
        simp; omega
      rw [this]
  · rw [List.getElem?_eq_none (by rw [List.length_set, arrL_length]; omega), List.getElem?_eq_none (by rw [arrL_length]; omega)]
theorem arrL_zero (dm : Int → Int) : arrL dm [] = List.replicate 100 0 := by
  unfold arrL
  have : (fun x : Int => if hasL [] x = true then dm x else 0) = fun _ => 0 := by funext x; simp [hasL]
  rw [this, List.map_const', all100, List.length_map, List.length_range]
section
variable {k p n : Int}
structure IsN (k p n : Int) (dm : Int → Int) (U : List Int) (ts : List (NT k p n)) (op : List Int) : Prop where
  uni : Uni dm U
  ten : ∀ t ∈ ts, IsT k p n dm U t.1 t.2
  sub : Sub U op
  occ : ∀ x ∈ op, x ∈ Proofs.Ytpegckmagiaggaa.occ ts
  len : ts.length ≤ 12
variable {dm : Int → Int} {U : List Int} {ts : List (NT k p n)} {op : List Int}
theorem IsN.occU (h : IsN k p n dm U ts op) {x : Int} (hx : x ∈ Proofs.Ytpegckmagiaggaa.occ ts) : x ∈ U := by
  obtain ⟨t, ht, hxt⟩ := mem_occ.1 hx
  exact (h.ten t ht).sub.sub x hxt
theorem Uni.labs (u : Uni dm U) {x : Int} (hx : x ∈ U) : 0 ≤ x ∧ x ≤ 99 := u.ok.labs x hx
theorem IsN.mem_asc (h : IsN k p n dm U ts op) {x : Int} : x ∈ ascL (Proofs.Ytpegckmagiaggaa.occ ts) ↔ x ∈ Proofs.Ytpegckmagiaggaa.occ ts :=
  ⟨fun hx => (mem_ascL.1 hx).2, fun hx => mem_ascL.2 ⟨h.uni.labs (h.occU hx), hx⟩⟩
theorem IsN.ascSub (h : IsN k p n dm U ts op) : Sub U (ascL (Proofs.Ytpegckmagiaggaa.occ ts)) := ⟨ascL_nodup _, fun x hx => h.occU (mem_ascL.1 hx).2⟩
theorem IsN.opAsc (h : IsN k p n dm U ts op) {x : Int} (hx : x ∈ op) : x ∈ ascL (Proofs.Ytpegckmagiaggaa.occ ts) := h.mem_asc.2 (h.occ x hx)
theorem IsN.rank (h : IsN k p n dm U ts op) : op.length ≤ 12 := (h.uni.ax h.sub).rank
end
theorem joinL_nodup {a b : List Int} (ha : a.Nodup) (hb : b.Nodup) : (joinL a b).Nodup :=
  (Sub.join (U := a ++ b) ⟨ha, fun l h => List.mem_append_left _ h⟩ ⟨hb, fun l h => List.mem_append_right _ h⟩).nodup
def bucketL (ls : List (List Int)) (x : Int) : List Int := ls.foldl (fun acc l => if hasL l x = true then joinL acc l else acc) []
def elimL (ls : List (List Int)) (x : Int) : List (List Int) := (ls.filter fun l => !hasL l x) ++ [cutL (bucketL ls x) x]
def widthsL : List (List Int) → List Int → List Nat
  | _, [] => []
  | ls, x :: l => (bucketL ls x).length :: widthsL (elimL ls x) l
def elimAll (ls : List (List Int)) (l : List Int) : List (List Int) := l.foldl elimL ls
theorem elimAll_snoc (ls : List (List Int)) (l : List Int) (x : Int) : elimAll ls (l ++ [x]) = elimL (elimAll ls l) x := by simp [elimAll]
theorem widthsL_length : ∀ (ls : List (List Int)) (l : List Int), (widthsL ls l).length = l.length
  | _, [] => rfl
  | ls, x :: l => by simp [widthsL, widthsL_length (elimL ls x) l]
theorem widthsL_snoc : ∀ (ls : List (List Int)) (l : List Int) (x : Int), widthsL ls (l ++ [x]) = widthsL ls l ++ [(bucketL (elimAll ls l) x).length]
  | _, [], _ => rfl
  | ls, y :: l, x => by
    rw [List.cons_append, widthsL, widthsL, widthsL_snoc (elimL ls y) l x]; rfl
def Adj (ls : List (List Int)) (x y : Int) : Prop := ∃ l ∈ ls, x ∈ l ∧ y ∈ l
theorem bucketGo_mem (x y : Int) : ∀ (ls : List (List Int)) (acc : List Int), y ∈ ls.foldl (fun acc l => if hasL l x = true then joinL acc l else acc) acc ↔ y ∈ acc ∨ Adj ls x y
  | [], acc => by simp [Adj]
  | l :: ls, acc => by
    rw [List.foldl_cons, bucketGo_mem x y ls]
    have e : Adj (l :: ls) x y ↔ (x ∈ l ∧ y ∈ l) ∨ Adj ls x y := by simp [Adj]
    rw [e]
    by_cases h : hasL l x = true
    · have hx := (hasL_iff _ _).1 h
      rw [if_pos h, mem_joinL]
      simp [hx, or_assoc]
    · have hx : x ∉ l := fun hx => h ((hasL_iff _ _).2 hx)
      rw [if_neg h]; simp [hx]
theorem mem_bucket {ls : List (List Int)} {x y : Int} : y ∈ bucketL ls x ↔ Adj ls x y := by
  unfold bucketL; rw [bucketGo_mem]; simp
theorem bucketGo_nodup (x : Int) : ∀ (ls : List (List Int)) (acc : List Int), acc.Nodup → (∀ l ∈ ls, l.Nodup) → (ls.foldl (fun acc l => if hasL l x = true then joinL acc l else acc) acc).Nodup
  | [], acc, h, _ => h
  | l :: ls, acc, h, hl => by
    rw [List.foldl_cons]
    refine bucketGo_nodup x ls _ ?_ fun m hm => hl m (by simp [hm])
    by_cases hx : hasL l x = true
    · rw [if_pos hx]; exact joinL_nodup h (hl l (by simp))
    · rw [if_neg hx]; exact h
theorem bucket_nodup {ls : List (List Int)} (h : ∀ l ∈ ls, l.Nodup) (x : Int) : (bucketL ls x).Nodup := bucketGo_nodup x ls [] List.nodup_nil h
theorem elimL_nodup {ls : List (List Int)} (h : ∀ l ∈ ls, l.Nodup) (x : Int) : ∀ l ∈ elimL ls x, l.Nodup := fun l hl => by
  rcases List.mem_append.1 hl with hl | hl
  · exact h l (List.mem_filter.1 hl).1
  · simp at hl; subst hl; exact (bucket_nodup h x).filter _
theorem elimAll_nodup : ∀ {l : List Int} {ls : List (List Int)}, (∀ m ∈ ls, m.Nodup) → ∀ m ∈ elimAll ls l, m.Nodup
  | [], _, h => h
  | x :: l, ls, h => by
    show ∀ m ∈ elimAll (elimL ls x) l, m.Nodup
    exact elimAll_nodup (elimL_nodup h x)
def elimG (R : Int → Int → Prop) (z : Int) (x y : Int) : Prop := x ≠ z ∧ y ≠ z ∧ (R x y ∨ (R z x ∧ R z y))
theorem adj_symm {ls : List (List Int)} {x y : Int} (h : Adj ls x y) : Adj ls y x := by
  obtain ⟨l, hl, a, b⟩ := h; exact ⟨l, hl, b, a⟩
theorem adj_elim (ls : List (List Int)) (z : Int) : Adj (elimL ls z) = elimG (Adj ls) z := by
  funext x y
  refine propext ⟨?_, ?_⟩
  · rintro ⟨l, hl, hx, hy⟩
    rcases List.mem_append.1 hl with hl | hl
    · obtain ⟨h1, h2⟩ := List.mem_filter.1 hl
      have hz : z ∉ l := by
        intro h; rw [(hasL_iff _ _).2 h] at h2; simp at h2
      exact ⟨fun e => hz (e ▸ hx), fun e => hz (e ▸ hy), .inl ⟨l, h1, hx, hy⟩⟩
    · simp at hl; subst hl
      rw [mem_cutL, mem_bucket] at hx hy
      exact ⟨hx.2, hy.2, .inr ⟨hx.1, hy.1⟩⟩
  · rintro ⟨h1, h2, h3⟩
    have key : Adj ls z x → Adj ls z y → Adj (elimL ls z) x y := fun a b =>
      ⟨_, List.mem_append.2 (.inr (List.mem_singleton.2 rfl)), by rw [mem_cutL, mem_bucket]; exact ⟨a, h1⟩, by rw [mem_cutL, mem_bucket]; exact ⟨b, h2⟩⟩
    rcases h3 with ⟨l, hl, hx, hy⟩ | ⟨a, b⟩
    · by_cases hz : z ∈ l
      · exact key ⟨l, hl, hz, hx⟩ ⟨l, hl, hz, hy⟩
      · refine ⟨l, List.mem_append.2 (.inl (List.mem_filter.2 ⟨hl, ?_⟩)), hx, hy⟩
        rw [hasL_not.2 hz]; rfl
    · exact key a b
def SymR (R : Int → Int → Prop) : Prop := ∀ x y, R x y → R y x
theorem elimG_sym {R : Int → Int → Prop} (h : SymR R) (z : Int) : SymR (elimG R z) := by
  rintro x y ⟨a, b, c | ⟨c, d⟩⟩
  · exact ⟨b, a, .inl (h _ _ c)⟩
  · exact ⟨b, a, .inr ⟨d, c⟩⟩
theorem elimG_half {R : Int → Int → Prop} (h : SymR R) (a b x y : Int) (k : elimG (elimG R a) b x y) : elimG (elimG R b) a x y := by
  obtain ⟨h1, h2, h3⟩ := k
  have e : (x ≠ a ∧ y ≠ a) ∧ (R x y ∨ (R a x ∧ R a y) ∨ (b ≠ a ∧ (R b x ∨ (R a b ∧ R a x)) ∧ (R b y ∨ (R a b ∧ R a y)))) := by
    rcases h3 with ⟨p, q, r | ⟨r, s⟩⟩ | ⟨⟨p, q, r⟩, p', q', s⟩
    · exact ⟨⟨p, q⟩, .inl r⟩
    · exact ⟨⟨p, q⟩, .inr (.inl ⟨r, s⟩)⟩
    · exact ⟨⟨q, q'⟩, .inr (.inr ⟨p, r, s⟩)⟩
  obtain ⟨⟨xa, ya⟩, e⟩ := e
  refine ⟨xa, ya, ?_⟩
  rcases e with e | ⟨e, f⟩ | ⟨ba, e, f⟩
  · exact .inl ⟨h1, h2, .inl e⟩
  · by_cases ab : a = b
    · subst ab; exact .inl ⟨h1, h2, .inr ⟨e, f⟩⟩
    · exact .inr ⟨⟨ab, h1, .inl e⟩, ab, h2, .inl f⟩
  · have ab : a ≠ b := fun e => ba e.symm
    rcases e with e | ⟨e1, e2⟩
    · rcases f with f | ⟨f1, f2⟩
      · exact .inl ⟨h1, h2, .inr ⟨e, f⟩⟩
      · exact .inr ⟨⟨ab, h1, .inr ⟨h _ _ f1, e⟩⟩, ab, h2, .inl f2⟩
    · rcases f with f | ⟨f1, f2⟩
      · exact .inr ⟨⟨ab, h1, .inl e2⟩, ab, h2, .inr ⟨h _ _ e1, f⟩⟩
      · exact .inr ⟨⟨ab, h1, .inl e2⟩, ab, h2, .inl f2⟩
theorem elimG_comm {R : Int → Int → Prop} (h : SymR R) (a b : Int) : elimG (elimG R a) b = elimG (elimG R b) a := by
  funext x y
  exact propext ⟨elimG_half h a b x y, elimG_half h b a x y⟩
theorem elimG_perm {l m : List Int} (p : l.Perm m) : ∀ {R : Int → Int → Prop}, SymR R → l.foldl elimG R = m.foldl elimG R := by
  induction p with
  | nil => intro R _; rfl
  | cons x _ ih => intro R h; exact ih (elimG_sym h x)
  | swap x y l => intro R h; rw [List.foldl_cons, List.foldl_cons, List.foldl_cons, List.foldl_cons, elimG_comm h]
  | trans _ _ h1 h2 => intro R h; rw [h1 h, h2 h]
theorem adj_elimAll : ∀ (l : List Int) (ls : List (List Int)), Adj (elimAll ls l) = l.foldl elimG (Adj ls)
  | [], _ => rfl
  | x :: l, ls => by
    show Adj (elimAll (elimL ls x) l) = _
    rw [adj_elimAll l, adj_elim]; rfl
theorem len_of_mem {l m : List Int} (hl : l.Nodup) (hm : m.Nodup) (h : ∀ x, x ∈ l ↔ x ∈ m) : l.length = m.length := ((List.perm_ext_iff_of_nodup hl hm).2 h).length_eq
theorem width_perm {ls : List (List Int)} (hn : ∀ l ∈ ls, l.Nodup) {l m : List Int} (p : l.Perm m) (x : Int) : (bucketL (elimAll ls l) x).length = (bucketL (elimAll ls m) x).length :=
  len_of_mem (bucket_nodup (elimAll_nodup hn) x) (bucket_nodup (elimAll_nodup hn) x) fun y => by
    rw [mem_bucket, mem_bucket, adj_elimAll, adj_elimAll, elimG_perm p fun _ _ => adj_symm]
theorem adj_self_elim {R : Int → Int → Prop} {x z : Int} (h : R x x) (hz : x ≠ z) : elimG R z x x := ⟨hz, hz, .inl h⟩
theorem adj_self_all : ∀ {l : List Int} {R : Int → Int → Prop} {x : Int}, R x x → x ∉ l → l.foldl elimG R x x
  | [], _, _, h, _ => h
  | z :: l, R, x, h, hx => by
    rw [List.foldl_cons]
    exact adj_self_all (adj_self_elim h fun e => hx (by simp [e])) fun e => hx (by simp [e])
theorem width_pos {ls : List (List Int)} {l : List Int} {x : Int} (h : ∃ m ∈ ls, x ∈ m) (hx : x ∉ l) : 1 ≤ (bucketL (elimAll ls l) x).length := by
  obtain ⟨m, hm, hxm⟩ := h
  have : x ∈ bucketL (elimAll ls l) x := by rw [mem_bucket, adj_elimAll]; exact adj_self_all ⟨m, hm, hxm, hxm⟩ hx
  cases e : bucketL (elimAll ls l) x with
  | nil => rw [e] at this; cases this
  | cons _ _ => simp
def tabL (C : List Int) (s : Nat) : Int := C.getD s 0
theorem tabL_set_self {C : List Int} {s : Nat} (h : s < C.length) (x : Int) : tabL (C.set s x) s = x := by
  unfold tabL; rw [List.getD_eq_getElem?_getD, List.getElem?_set_self h]; rfl
theorem tabL_set_ne {C : List Int} {s t : Nat} (h : s ≠ t) (x : Int) : tabL (C.set s x) t = tabL C t := by
  unfold tabL; rw [List.getD_eq_getElem?_getD, List.getD_eq_getElem?_getD, List.getElem?_set_ne h]
theorem tabL_get {C : List Int} {s : Nat} (h : s < C.length) : C[s]? = some (tabL C s) := by
  unfold tabL; rw [List.getD_eq_getElem?_getD, List.getElem?_eq_getElem h]; rfl
theorem tabL_zeros (n s : Nat) : tabL (List.replicate n 0) s = 0 := by
  unfold tabL
  rw [List.getD_eq_getElem?_getD]
  by_cases h : s < n
  · rw [List.getElem?_replicate_of_lt h]; rfl
  · rw [List.getElem?_eq_none (by rw [List.length_replicate]; omega)]; rfl
theorem nodup_idx {C : List Int} (hC : C.Nodup) {i j : Nat} {x : Int} (hi : C[i]? = some x) (hj : C[j]? = some x) : i = j :=
  (List.getElem?_inj (List.getElem?_eq_some_iff.1 hi).1 hC).1 (by rw [hi, hj])
def selL (C : List Int) (s : Nat) (m : Nat) : List Int := (List.range m).filterMap fun i : Nat => if s.testBit i = true then C[i]? else none
theorem selL_yes {C : List Int} {s j : Nat} {x : Int} (h : s.testBit j = true) (hx : C[j]? = some x) : selL C s (j + 1) = selL C s j ++ [x] := by
  unfold selL
  rw [List.range_succ, List.filterMap_append]
  simp [h, hx]
theorem selL_no {C : List Int} {s j : Nat} (h : s.testBit j = false) : selL C s (j + 1) = selL C s j := by
  unfold selL
  rw [List.range_succ, List.filterMap_append]
  simp [h]
theorem mem_selL {C : List Int} {s m : Nat} {x : Int} : x ∈ selL C s m ↔ ∃ i, i < m ∧ s.testBit i = true ∧ C[i]? = some x := by
  unfold selL
  rw [List.mem_filterMap]
  constructor
  · rintro ⟨i, hi, h⟩
    by_cases e : s.testBit i = true
    · rw [if_pos e] at h; exact ⟨i, List.mem_range.1 hi, e, h⟩
    · rw [if_neg e] at h; cases h
  · rintro ⟨i, hi, e, h⟩
    exact ⟨i, List.mem_range.2 hi, by rw [if_pos e]; exact h⟩
theorem selL_nodup {C : List Int} (hC : C.Nodup) (s : Nat) : ∀ m, (selL C s m).Nodup
  | 0 => by simp [selL]
  | m + 1 => by
    cases h : s.testBit m
    · rw [selL_no h]; exact selL_nodup hC s m
    · cases hx : C[m]? with
      | none =>
        have : selL C s (m + 1) = selL C s m := by
          unfold selL
          rw [List.range_succ, List.filterMap_append]
          simp [h, hx]
        rw [this]; exact selL_nodup hC s m
      | some x =>
        rw [selL_yes h hx, List.nodup_append]
        refine ⟨selL_nodup hC s m, by simp, fun y hy z hz e => ?_⟩
        simp at hz; subst hz; subst e
        obtain ⟨i, hi, _, hi2⟩ := mem_selL.1 hy
        have := nodup_idx hC hi2 hx
        omega
def Msk (C l : List Int) (s : Nat) : Prop := ∀ i, s.testBit i = true ↔ ∃ x, C[i]? = some x ∧ x ∈ l
theorem Msk.uniq {C l : List Int} {s t : Nat} (h : Msk C l s) (k : Msk C l t) : s = t := Nat.eq_of_testBit_eq fun i => by rw [Bool.eq_iff_iff, h i, k i]
theorem Msk.nil (C : List Int) : Msk C [] 0 := fun i => by simp
theorem Msk.snoc {C l : List Int} {s i : Nat} {x : Int} (hC : C.Nodup) (h : Msk C l s) (hx : C[i]? = some x) : Msk C (l ++ [x]) (s ||| 2 ^ i) := fun j => by
  rw [Nat.testBit_or, Bool.or_eq_true, h j, Nat.testBit_two_pow]
  constructor
  · rintro (⟨y, h1, h2⟩ | h1)
    · exact ⟨y, h1, List.mem_append_left _ h2⟩
    · have : i = j := by simpa using h1
      subst this
      exact ⟨x, hx, by simp⟩
  · rintro ⟨y, h1, h2⟩
    rcases List.mem_append.1 h2 with h2 | h2
    · exact .inl ⟨y, h1, h2⟩
    · simp at h2; subst h2
      have := nodup_idx hC hx h1
      exact .inr (by simpa using this)
theorem Msk.perm {C l m : List Int} {s : Nat} (h : Msk C l s) (p : l.Perm m) : Msk C m s := fun i => by
  rw [h i]; exact ⟨fun ⟨x, a, b⟩ => ⟨x, a, p.mem_iff.1 b⟩, fun ⟨x, a, b⟩ => ⟨x, a, p.mem_iff.2 b⟩⟩
theorem Msk.ex {C : List Int} (hC : C.Nodup) : ∀ l : List Int, (∀ z ∈ l, z ∈ C) → ∃ q, Msk C l q
  | [], _ => ⟨0, Msk.nil C⟩
  | z :: l, hz => by
    obtain ⟨q, hq⟩ := Msk.ex hC l fun y hy => hz y (by simp [hy])
    obtain ⟨k, hk⟩ := List.getElem?_of_mem (hz z (by simp))
    exact ⟨_, (hq.snoc hC hk).perm List.perm_append_comm⟩
theorem Msk.sel {C l : List Int} {s : Nat} (hC : C.Nodup) (hl : l.Nodup) (hs : ∀ x ∈ l, x ∈ C) (h : Msk C l s) : l.Perm (selL C s C.length) := by
  refine (List.perm_ext_iff_of_nodup hl (selL_nodup hC s _)).2 fun x => ?_
  rw [mem_selL]
  constructor
  · intro hx
    obtain ⟨i, hi⟩ := List.getElem?_of_mem (hs x hx)
    exact ⟨i, (List.getElem?_eq_some_iff.1 hi).1, (h i).2 ⟨x, hi, hx⟩, hi⟩
  · rintro ⟨i, _, h1, h2⟩
    obtain ⟨y, h3, h4⟩ := (h i).1 h1
    rw [h2] at h3; cases h3; exact h4
theorem Msk.lt {C l : List Int} {s i : Nat} {x : Int} (h : Msk C l s) (hx : C[i]? = some x) (hn : x ∉ l) : s < s ||| 2 ^ i := by
  have h1 : s ≤ s ||| 2 ^ i := Nat.left_le_or
  rcases Nat.lt_or_eq_of_le h1 with h2 | h2
  · exact h2
  · exfalso
    have h3 : s.testBit i = true := by rw [h2, Nat.testBit_or, Nat.testBit_two_pow_self]; simp
    obtain ⟨y, h4, h5⟩ := (h i).1 h3
    rw [hx] at h4; cases h4; exact hn h5
def maxW (ls : List (List Int)) (l : List Int) : Int := (widthsL ls l).foldl (fun (a : Int) (b : Nat) => max a (b : Int)) 0
theorem maxW_snoc (ls : List (List Int)) (l : List Int) (x : Int) : maxW ls (l ++ [x]) = max (maxW ls l) ((bucketL (elimAll ls l) x).length : Int) := by
  unfold maxW; rw [widthsL_snoc, List.foldl_append]; rfl
def widS (ls : List (List Int)) (C : List Int) (s i : Nat) : Int := ((bucketL (elimAll ls (selL C s C.length)) (C.getD i 0)).length : Int)
section
variable {ls : List (List Int)} {C : List Int} {T : List Int} {s i : Nat}
structure TabE (ls : List (List Int)) (C T : List Int) (s i : Nat) : Prop where
  len : T.length = 2 ^ C.length
  zero : tabL T 0 = 0
  pos : ∀ t, 1 ≤ t → t < 2 ^ C.length → 1 ≤ tabL T t
  le : ∀ (l : List Int) (x : Int) (q j t : Nat), (l ++ [x]).Nodup → (∀ y ∈ l, y ∈ C) → Msk C l q → C[j]? = some x → Msk C (l ++ [x]) t → (q < s ∨ (q = s ∧ j < i)) → tabL T t ≤ maxW ls (l ++ [x])
theorem TabE.start {T : List Int} (h : T.length = 2 ^ C.length) (h0 : tabL T 0 = 0) (h1 : ∀ t, 1 ≤ t → t < 2 ^ C.length → 1 ≤ tabL T t) : TabE ls C T 0 0 :=
  ⟨h, h0, h1, fun _ _ _ _ _ _ _ _ _ _ hq => by omega⟩
theorem TabE.next (h : TabE ls C T s i) (hi : C.length ≤ i) : TabE ls C T (s + 1) 0 :=
  ⟨h.len, h.zero, h.pos, fun l x q j t a b c d e hq => h.le l x q j t a b c d e (by
    have := (List.getElem?_eq_some_iff.1 d).1
    omega)⟩
theorem TabE.skip (h : TabE ls C T s i) (hs : s.testBit i = true) : TabE ls C T s (i + 1) :=
  ⟨h.len, h.zero, h.pos, fun l x q j t a b c d e hq => h.le l x q j t a b c d e (by
    rcases hq with hq | ⟨rfl, hj⟩
    · exact .inl hq
    · by_cases e : j = i
      · subst e
        obtain ⟨y, h1, h2⟩ := (c j).1 hs
        rw [d] at h1; cases h1
        rw [List.nodup_append] at a
        exact absurd rfl (a.2.2 x h2 x (by simp))
      · exact .inr ⟨rfl, by omega⟩)⟩
theorem TabE.turn (h : TabE ls C T s i) (hn : ∀ l ∈ ls, l.Nodup) (hC : C.Nodup) (hocc : ∀ x ∈ C, ∃ m ∈ ls, x ∈ m) (hs : s.testBit i = false) (hi : i < C.length) (hsM : s < 2 ^ C.length) :
    TabE ls C (T.set (s ||| 2 ^ i) (min (tabL T (s ||| 2 ^ i)) (max (tabL T s) (widS ls C s i)))) s (i + 1) := by
  obtain ⟨v, hv⟩ : ∃ v, min (tabL T (s ||| 2 ^ i)) (max (tabL T s) (widS ls C s i)) = v := ⟨_, rfl⟩
  obtain ⟨u, hu⟩ : ∃ u, s ||| 2 ^ i = u := ⟨_, rfl⟩
  rw [hu] at hv ⊢
  rw [hv]
  have hu2 : u < 2 ^ C.length := by rw [← hu]; exact Nat.or_lt_two_pow hsM (Nat.pow_lt_pow_right (by decide) hi)
  have hu1 : 1 ≤ u := by
    have : 2 ^ i ≤ u := by rw [← hu]; exact Nat.right_le_or
    have := Nat.one_le_two_pow (n := i); omega
  have hul : u < T.length := by rw [h.len]; exact hu2
  have e1 : tabL (T.set u v) u = v := tabL_set_self hul v
  have e2 : ∀ t, u ≠ t → tabL (T.set u v) t = tabL T t := fun t ht => tabL_set_ne ht v
  have hle : ∀ t, tabL (T.set u v) t ≤ tabL T t := fun t => by
    by_cases e : u = t
    · subst e; rw [e1]; omega
    · rw [e2 t e]; exact Int.le_refl _
  have hwid : 1 ≤ widS ls C s i := by
    unfold widS
    have hx := List.getElem?_eq_getElem hi
    have hg : C.getD i 0 = C[i] := by rw [List.getD_eq_getElem?_getD, hx]; rfl
    rw [hg]
    have := width_pos (ls := ls) (l := selL C s C.length) (x := C[i]) (hocc _ (List.getElem_mem hi)) (fun hm => by
      obtain ⟨j, _, hj1, hj2⟩ := mem_selL.1 hm
      have := nodup_idx hC hj2 hx
      subst this
      rw [hs] at hj1; cases hj1)
    omega
  refine ⟨by rw [List.length_set, h.len], by rw [e2 0 (by omega)]; exact h.zero, fun t h1 h2 => ?_, fun l x q j t a b c d e hq => ?_⟩
  · by_cases et : u = t
    · subst et; rw [e1]; have := h.pos u h1 h2; omega
    · rw [e2 t et]; exact h.pos t h1 h2
  · by_cases old : q < s ∨ (q = s ∧ j < i)
    · exact Int.le_trans (hle t) (h.le l x q j t a b c d e old)
    · have hqs : q = s := by omega
      have hji : j = i := by omega
      subst hqs hji
      have ht : t = u := by rw [← hu]; exact e.uniq (c.snoc hC d)
      subst ht
      rw [e1, maxW_snoc]
      rw [List.nodup_append] at a
      have hp := c.sel hC a.1 b
      have hw : widS ls C q j = ((bucketL (elimAll ls l) x).length : Int) := by
        unfold widS
        have hg : C.getD j 0 = x := by rw [List.getD_eq_getElem?_getD, d]; rfl
        rw [hg, width_perm hn hp.symm]
      have hq0 : tabL T q ≤ maxW ls l := by
        rcases List.eq_nil_or_concat l with rfl | ⟨l', y, rfl⟩
        · have : q = 0 := c.uniq (Msk.nil C)
          subst this
          rw [h.zero]; exact Int.le_refl _
        · rw [List.concat_eq_append] at c a b ⊢
          obtain ⟨j', hj'⟩ := List.getElem?_of_mem (b y (by simp))
          have hmk : ∃ q', Msk C l' q' := by
            exact Msk.ex hC l' fun z hz => b z (by simp [hz])
          obtain ⟨q', hq'⟩ := hmk
          have hyl : y ∉ l' := fun hy => (List.nodup_append.1 a.1).2.2 y hy y (by simp) rfl
          have hqq : q = q' ||| 2 ^ j' := c.uniq (hq'.snoc hC hj')
          exact h.le l' y q' j' q a.1 (fun z hz => b z (by simp [hz])) hq' hj' c (.inl (by rw [hqq]; exact hq'.lt hj' hyl))
      rw [hw] at hv
      omega
theorem TabE.best (h : TabE ls C T (2 ^ C.length) i) (hC : C.Nodup) {l : List Int} (hp : l.Perm C) : tabL T (2 ^ C.length - 1) ≤ maxW ls l := by
  have hM : Msk C l (2 ^ C.length - 1) := fun i => by
    rw [Nat.testBit_two_pow_sub_one, decide_eq_true_eq]
    constructor
    · intro hi
      exact ⟨C[i], List.getElem?_eq_getElem hi, hp.mem_iff.2 (List.getElem_mem hi)⟩
    · rintro ⟨x, hx, _⟩
      exact (List.getElem?_eq_some_iff.1 hx).1
  rcases List.eq_nil_or_concat l with rfl | ⟨l', y, rfl⟩
  · have hc : C = [] := List.nil_perm.1 hp
    subst hc
    have : tabL T 0 = 0 := h.zero
    show tabL T 0 ≤ 0
    omega
  · rw [List.concat_eq_append] at hp hM ⊢
    have hn := hp.nodup_iff.2 hC
    obtain ⟨j, hj⟩ := List.getElem?_of_mem (hp.mem_iff.1 (by simp : y ∈ l' ++ [y]))
    obtain ⟨q, hq⟩ := Msk.ex hC l' fun z hz => hp.mem_iff.1 (by simp [hz])
    have hyl : y ∉ l' := fun hy => (List.nodup_append.1 hn).2.2 y hy y (by simp) rfl
    have hqq := hM.uniq (hq.snoc hC hj)
    have hlt := hq.lt hj hyl
    have := Nat.one_le_two_pow (n := C.length)
    exact h.le l' y q j _ hn (fun z hz => hp.mem_iff.1 (by simp [hz])) hq hj hM (.inl (by omega))
end
end Go.Proofs.Ytpegckmagiaggaa
