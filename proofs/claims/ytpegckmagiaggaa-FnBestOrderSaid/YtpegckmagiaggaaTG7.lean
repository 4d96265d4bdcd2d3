/- Texts of one kind, merged by program. -/
import Derived.Test.YtpegckmagiaggaaTListW
/- Tables read by strides, plain. No program in sight. -/
set_option linter.unusedSimpArgs false
set_option linter.unusedVariables false
namespace Go.Proofs.Ytpegckmagiaggaa
open Go.RowKit
theorem map_get_find {dm : Int → Int} {L : List Int} {x : Int} (h : x ∈ L) : ∃ j : Nat, findL L x = j ∧ j < L.length ∧ L[j]? = some x ∧ (L.map dm)[j]? = some (dm x) := by
  have gen : ∀ (L : List Int) (i : Nat), x ∈ L → ∃ j : Nat, findGo x i L = ((i + j : Nat) : Int) ∧ j < L.length ∧ L[j]? = some x := by
    intro L
    induction L with
    | nil => intro i h; simp at h
    | cons y t ih =>
      intro i h
      rw [findGo]
      by_cases e : y = x
      · exact ⟨0, by rw [if_pos e]; simp, by simp, by simp [e]⟩
      · rcases List.mem_cons.1 h with h | h
        · exact absurd h.symm e
        obtain ⟨j, h1, h2, h3⟩ := ih (i + 1) h
        refine ⟨j + 1, ?_, by simp; omega, by simpa using h3⟩
        rw [if_neg e]
        have : ((i : Nat) : Int) + 1 = ((i + 1 : Nat) : Int) := by simp
        rw [this, h1]; congr 1; omega
  obtain ⟨j, h1, h2, h3⟩ := gen L 0 h
  exact ⟨j, by unfold findL; simpa using h1, h2, h3, by rw [List.getElem?_map, h3]; rfl⟩
section
variable {k p n : Int} (hr : ringOk k p n = true)
structure IsT (k p n : Int) (dm : Int → Int) (U L : List Int) (xs : List (El k p n)) : Prop where
  uni : Uni dm U
  sub : Sub U L
  len : xs.length = size (axs dm L)
theorem IsT.ax {dm : Int → Int} {U L : List Int} {xs : List (El k p n)} (h : IsT k p n dm U L xs) : AxOk L (L.map dm) := h.uni.ax h.sub
include hr in
theorem IsT.ok {dm : Int → Int} {U L : List Int} {xs : List (El k p n)} (h : IsT k p n dm U L xs) : TOk k p n L (L.map dm) (flat xs) := by
  have hw := ringOk_wide hr
  have hW : ringWidth k n = ((ringWidth k n).toNat : Nat) := by have := hw.lo; omega
  refine ⟨h.ax, ?_, flat_top _⟩
  rw [flat_length hW, h.len, Int.natCast_mul, h.uni.size h.sub, ← hW]
include hr in
theorem IsT.yes {dm : Int → Int} {U L : List Int} {xs : List (El k p n)} (h : IsT k p n dm U L xs) : tensOk k p n L (L.map dm) (flat xs) = true := (tensOk_iff hr).2 (h.ok hr)
theorem IsT.dims {dm : Int → Int} {U L : List Int} {xs : List (El k p n)} (h : IsT k p n dm U L xs) : ∀ d ∈ L.map dm, 1 ≤ d ∧ d ≤ 8 := h.ax.dims
theorem IsT.tab {dm : Int → Int} {U L : List Int} (u : Uni dm U) (s : Sub U L) (F : (Int → Int) → El k p n) : IsT k p n dm U L (Proofs.Ytpegckmagiaggaa.tab (axs dm L) F σ0) := ⟨u, s, tab_length _ _ _⟩
theorem IsT.small {dm : Int → Int} {U L : List Int} {xs : List (El k p n)} (h : IsT k p n dm U L xs) : size (axs dm L) ≤ 4096 := by
  have h1 := h.uni.size h.sub
  have h2 := h.ax.size
  omega
theorem Uni.small {dm : Int → Int} {U L : List Int} (u : Uni dm U) (s : Sub U L) : Proofs.Ytpegckmagiaggaa.size (axs dm L) ≤ 4096 ∧ 1 ≤ Proofs.Ytpegckmagiaggaa.size (axs dm L) := by
  have h1 := u.size s
  have h2 := (u.ax s).size
  have h3 := prodL_pos (u.ax s).dims
  omega
end
section
variable {k p n : Int} (hr : ringOk k p n = true)
def mulF (dm : Int → Int) (a b : List Int) (xs ys : List (El k p n)) : (Int → Int) → El k p n := fun τ => (rig hr).mul (valT hr dm a xs τ) (valT hr dm b ys τ)
def contrXs (dm : Int → Int) (a b keep : List Int) (xs ys : List (El k p n)) : List (El k p n) :=
  tab (axs dm (keepL (joinL a b) keep)) (contrF (rig hr) dm (joinL a b) keep (mulF hr dm a b xs ys)) σ0
end
def U6 : List Int := [0, 1, 2, 3, 4, 5]
theorem uni6 : Uni dimOf U6 := ⟨by
  refine ⟨by simp [U6], by simp [U6], fun l hl => ?_, by decide, fun d hd => ?_, by decide⟩
  · simp [U6] at hl; omega
  · obtain ⟨x, _, rfl⟩ := List.mem_map.1 hd
    have := dimOf_range x; omega⟩
theorem labs_sub {m : Int} {L : List Int} (h : Labs 6 m L) : Sub U6 L := ⟨h.nodup, fun l hl => by have := h.low l hl; simp [U6]; omega⟩
section
variable {k p n : Int} (hr : ringOk k p n = true)
include hr in
theorem drawn_isT {L D X : List Int} (h : DrawnT k p n L D X) : ∃ xs : List (El k p n), X = flat xs ∧ D = L.map dimOf ∧ IsT k p n dimOf U6 L xs := by
  have s := labs_sub h.labs
  have hw := ringOk_wide hr
  have hW : ringWidth k n = ((ringWidth k n).toNat : Nat) := by have := hw.lo; omega
  have hz := uni6.size s
  have hl := h.len
  rw [h.dims, ← hz, hW] at hl
  obtain ⟨xs, h1, h2⟩ := flat_of hW (P := Proofs.Ytpegckmagiaggaa.size (axs dimOf L)) (by exact_mod_cast hl) h.top
  exact ⟨xs, h2.symm, h.dims, uni6, s, h1⟩
theorem contr_isT {dm : Int → Int} {U a b : List Int} {xs ys : List (El k p n)} (ha : IsT k p n dm U a xs) (hb : IsT k p n dm U b ys) (keep : List Int) : IsT k p n dm U (keepL (joinL a b) keep) (contrXs hr dm a b keep xs ys) :=
  IsT.tab ha.uni ((ha.sub.join hb.sub).keep keep) _
theorem mulF_dep (dm : Int → Int) (a b : List Int) (xs ys : List (El k p n)) : Dep (mulF hr dm a b xs ys) (joinL a b) := mul_dep (rig hr) (valT_dep hr dm a xs) (valT_dep hr dm b ys)
end
theorem prod_keep {dm : Int → Int} {U J : List Int} (u : Uni dm U) (s : Sub U J) (keep : List Int) : prodL ((keepL J keep).map dm) ≤ prodL (J.map dm) := by
  have e := prodL_perm ((keep_gone J keep).map dm)
  rw [List.map_append, prodL_append] at e
  have p1 := prodL_pos (u.ax (s.keep keep)).dims
  have p2 := prodL_pos (u.ax (s.gone keep)).dims
  have : prodL ((keepL J keep).map dm) * 1 ≤ prodL ((keepL J keep).map dm) * prodL ((goneL J keep).map dm) := Int.mul_le_mul_of_nonneg_left p2 (by omega)
  omega
abbrev NT (k p n : Int) := List Int × List (El k p n)
section
variable {k p n : Int}
def tenOf (dm : Int → Int) (t : NT k p n) : Ten3 := (t.1, t.1.map dm, flat t.2)
def occ (ts : List (NT k p n)) : List Int := ts.flatMap (·.1)
theorem mem_occ {ts : List (NT k p n)} {x : Int} : x ∈ occ ts ↔ ∃ t ∈ ts, x ∈ t.1 := List.mem_flatMap
theorem occ_append (a b : List (NT k p n)) : occ (a ++ b) = occ a ++ occ b := List.flatMap_append
theorem occ_snoc (a : List (NT k p n)) (t : NT k p n) : occ (a ++ [t]) = occ a ++ t.1 := by rw [occ_append]; simp [occ]
end
def all100 : List Int := (List.range 100).map fun n : Nat => (n : Int)
theorem mem_all100 {x : Int} : x ∈ all100 ↔ 0 ≤ x ∧ x ≤ 99 := by
  unfold all100
  rw [List.mem_map]
  constructor
  · rintro ⟨m, hm, rfl⟩
    have := List.mem_range.1 hm
    omega
  · rintro ⟨h0, h1⟩
    exact ⟨x.toNat, List.mem_range.2 (by omega), by omega⟩
theorem all100_nodup : all100.Nodup := by
  unfold all100
  exact List.pairwise_map.2 (List.Pairwise.imp (fun h e => h (by exact_mod_cast e)) List.nodup_range)
def ascL (S : List Int) : List Int := all100.filter fun x => hasL S x
theorem mem_ascL {S : List Int} {x : Int} : x ∈ ascL S ↔ (0 ≤ x ∧ x ≤ 99) ∧ x ∈ S := by
  unfold ascL
  rw [List.mem_filter, mem_all100, hasL_iff]
theorem ascL_nodup (S : List Int) : (ascL S).Nodup := all100_nodup.filter _
theorem ascL_congr {S T : List Int} (h : ∀ x, x ∈ S ↔ x ∈ T) : ascL S = ascL T := by
  unfold ascL
  apply List.filter_congr
  intro x _
  rw [Bool.eq_iff_iff, hasL_iff, hasL_iff]
  exact h x
def arrL (dm : Int → Int) (S : List Int) : List Int := all100.map fun x => if hasL S x = true then dm x else 0
theorem arrL_length (dm : Int → Int) (S : List Int) : (arrL dm S).length = 100 := by simp [arrL, all100]
theorem all100_get {j : Nat} (h : j < 100) : all100[j]? = some (j : Int) := by simp [all100, h]
theorem arrL_get (dm : Int → Int) (S : List Int) {j : Nat} (h : j < 100) : (arrL dm S)[j]? = some (if hasL S (j : Int) = true then dm j else 0) := by
  unfold arrL
  rw [List.getElem?_map, all100_get h]; rfl
theorem arrL_set (dm : Int → Int) (S : List Int) {j : Nat} (h : j < 100) : (arrL dm S).set j (dm j) = arrL dm (S ++ [(j : Int)]) := by
  apply List.ext_getElem?
  intro i
  by_cases hi : i < 100
  · rw [arrL_get _ _ hi]
    by_cases e : j = i
    · subst e
      rw [List.getElem?_set_self (by rw [arrL_length]; exact h), if_pos ((hasL_iff _ _).2 (by simp))]
    · rw [List.getElem?_set_ne e, arrL_get _ _ hi]
      have : hasL (S ++ [(j : Int)]) (i : Int) = hasL S (i : Int) := by
        rw [Bool.eq_iff_iff, hasL_iff, hasL_iff]
        simp; omega
      rw [this]
  · rw [List.getElem?_eq_none (by rw [List.length_set, arrL_length]; omega), List.getElem?_eq_none (by rw [arrL_length]; omega)]
theorem arrL_zero (dm : Int → Int) : arrL dm [] = List.replicate 100 0 := by
  unfold arrL
  have : (fun x : Int => if hasL [] x = true then dm x else 0) = fun _ => 0 := by funext x; simp [hasL]
  rw [this, List.map_const', all100, List.length_map, List.length_range]
section
variable {k p n : Int}
structure IsN (k p n : Int) (dm : Int → Int) (U : List Int) (ts : List (NT k p n)) (op : List Int) : Prop where
  uni : Uni dm U
  ten : ∀ t ∈ ts, IsT k p n dm U t.1 t.2
  sub : Sub U op
  occ : ∀ x ∈ op, x ∈ Proofs.Ytpegckmagiaggaa.occ ts
  len : ts.length ≤ 12
variable {dm : Int → Int} {U : List Int} {ts : List (NT k p n)} {op : List Int}
theorem IsN.occU (h : IsN k p n dm U ts op) {x : Int} (hx : x ∈ Proofs.Ytpegckmagiaggaa.occ ts) : x ∈ U := by
  obtain ⟨t, ht, hxt⟩ := mem_occ.1 hx
  exact (h.ten t ht).sub.sub x hxt
theorem Uni.labs (u : Uni dm U) {x : Int} (hx : x ∈ U) : 0 ≤ x ∧ x ≤ 99 := u.ok.labs x hx
theorem IsN.rank (h : IsN k p n dm U ts op) : op.length ≤ 12 := (h.uni.ax h.sub).rank
end
def subOpen (Si So op : List Int) : List Int := (op.filter fun x => hasL Si x) ++ all100.filter fun x => hasL Si x && hasL So x && !hasL op x
def setLab (Si So op : List Int) : List Int := all100.filter fun x => hasL Si x && (hasL op x || hasL So x)
theorem mem_subOpen {Si So op : List Int} (hop : ∀ x ∈ op, 0 ≤ x ∧ x ≤ 99) {x : Int} : x ∈ subOpen Si So op ↔ (0 ≤ x ∧ x ≤ 99) ∧ x ∈ Si ∧ (x ∈ op ∨ x ∈ So) := by
  unfold subOpen
  simp only [List.mem_append, List.mem_filter, mem_all100, Bool.and_eq_true, Bool.not_eq_true', hasL_iff, hasL_not]
  constructor
  · rintro (⟨h1, h2⟩ | ⟨h1, ⟨h2, h3⟩, h4⟩)
    · exact ⟨hop x h1, h2, .inl h1⟩
    · exact ⟨h1, h2, .inr h3⟩
  · rintro ⟨h1, h2, h3⟩
    by_cases h : x ∈ op
    · exact .inl ⟨h, h2⟩
    · exact .inr ⟨h1, ⟨h2, h3.resolve_left h⟩, h⟩
theorem mem_setLab {Si So op : List Int} {x : Int} : x ∈ setLab Si So op ↔ (0 ≤ x ∧ x ≤ 99) ∧ x ∈ Si ∧ (x ∈ op ∨ x ∈ So) := by
  unfold setLab
  simp only [List.mem_filter, mem_all100, Bool.and_eq_true, Bool.or_eq_true, hasL_iff]
theorem setLab_nodup (Si So op : List Int) : (setLab Si So op).Nodup := all100_nodup.filter _
def tabL (C : List Int) (s : Nat) : Int := C.getD s 0
theorem tabL_set_self {C : List Int} {s : Nat} (h : s < C.length) (x : Int) : tabL (C.set s x) s = x := by
  unfold tabL; rw [List.getD_eq_getElem?_getD, List.getElem?_set_self h]; rfl
theorem tabL_set_ne {C : List Int} {s t : Nat} (h : s ≠ t) (x : Int) : tabL (C.set s x) t = tabL C t := by
  unfold tabL; rw [List.getD_eq_getElem?_getD, List.getD_eq_getElem?_getD, List.getElem?_set_ne h]
theorem tabL_get {C : List Int} {s : Nat} (h : s < C.length) : C[s]? = some (tabL C s) := by
  unfold tabL; rw [List.getD_eq_getElem?_getD, List.getElem?_eq_getElem h]; rfl
theorem tabL_zeros (n s : Nat) : tabL (List.replicate n 0) s = 0 := by
  unfold tabL
  rw [List.getD_eq_getElem?_getD]
  by_cases h : s < n
  · rw [List.getElem?_replicate_of_lt h]; rfl
  · rw [List.getElem?_eq_none (by rw [List.length_replicate]; omega)]; rfl
def lowB (s : Nat) : Nat := s &&& (s ^^^ (s - 1))
def CutOf (a s : Nat) : Prop := a &&& s = a ∧ a &&& lowB s ≠ 0
instance decCutOf (a s : Nat) : Decidable (CutOf a s) := inferInstanceAs (Decidable (_ ∧ _))
theorem cut_facts : ∀ s : Fin 32, ∀ a : Fin 32, CutOf a.val s.val → a.val ≠ s.val → 1 ≤ a.val ∧ a.val < s.val ∧ s.val ^^^ a.val < s.val ∧ 1 ≤ s.val ^^^ a.val ∧ a.val + (s.val ^^^ a.val) = s.val ∧ a.val &&& (s.val ^^^ a.val) = 0 ∧ a.val ||| (s.val ^^^ a.val) = s.val := by decide +kernel
theorem cut_either : ∀ a b : Fin 32, 1 ≤ a.val → 1 ≤ b.val → a.val &&& b.val = 0 → (CutOf a.val (a.val ||| b.val) ∧ (a.val ||| b.val) ^^^ a.val = b.val ∧ a.val < (a.val ||| b.val)) ∨ (CutOf b.val (a.val ||| b.val) ∧ (a.val ||| b.val) ^^^ b.val = a.val ∧ b.val < (a.val ||| b.val)) := by decide +kernel
theorem cut_some : ∀ s : Fin 32, (∀ i : Fin 5, s.val ≠ 2 ^ i.val) → 1 ≤ s.val → CutOf (lowB s.val) s.val ∧ 1 ≤ lowB s.val ∧ lowB s.val < s.val := by decide +kernel
theorem cut_single : ∀ i : Fin 5, ∀ a : Fin 32, a.val < 2 ^ i.val → ¬ CutOf a.val (2 ^ i.val) := by decide +kernel
section
variable (val : Nat → Nat → Int)
structure PartT (C F : List Int) (s a : Nat) : Prop where
  le : ∀ x, x < a → x < s → CutOf x s → tabL F s ≠ 0 ∧ tabL C s ≤ tabL C x + tabL C (s ^^^ x) + val x (s ^^^ x)
  none : tabL F s = 0 → tabL C s = 0
  some : tabL F s ≠ 0 → ∃ x : Nat, tabL F s = (x : Int) ∧ x < s ∧ CutOf x s ∧ tabL C s = tabL C x + tabL C (s ^^^ x) + val x (s ^^^ x)
structure TabT (M : Nat) (C F : List Int) (s a : Nat) : Prop where
  lenC : C.length = M
  lenF : F.length = M
  old : ∀ t, 1 ≤ t → t < s → PartT val C F t t
  cur : PartT val C F s a
  new : ∀ t, t = 0 ∨ s < t → tabL C t = 0 ∧ tabL F t = 0
  low : ∀ t, 1 ≤ t → 0 ≤ tabL C t ∧ tabL C t ≤ 4096 * ((t : Int) - 1)
variable {val}
variable {M : Nat} {C F : List Int} {s a : Nat}
theorem TabT.start (h : 2 ≤ M ∨ M = 1) : TabT val M (List.replicate M 0) (List.replicate M 0) 1 1 := by
  have z := fun s => tabL_zeros M s
  have c1 : ∀ x, x < 1 → ¬ CutOf x 1 := fun x hx h => by
    obtain rfl : x = 0 := by omega
    exact h.2 (by simp)
  refine ⟨by simp, by simp, fun t h1 h2 => by omega, ⟨fun x hx _ hc => absurd hc (c1 x hx), fun _ => z 1, fun h => absurd (z 1) h⟩, fun t _ => ⟨z t, z t⟩, fun t ht => by rw [z t]; omega⟩
theorem TabT.skip (h : TabT val M C F s a) (hc : ¬ CutOf a s) : TabT val M C F s (a + 1) :=
  ⟨h.lenC, h.lenF, h.old, ⟨fun x hx hxs hcx => h.cur.le x (by
    rcases Nat.lt_or_ge x a with h | h
    · exact h
    · obtain rfl : x = a := by omega
      exact absurd hcx hc) hxs hcx, h.cur.none, h.cur.some⟩, h.new, h.low⟩
theorem xor_lt32 {s a : Nat} (hs : s < 32) (ha : a < s) (hc : CutOf a s) : 1 ≤ a ∧ a < s ∧ s ^^^ a < s ∧ 1 ≤ s ^^^ a ∧ a + (s ^^^ a) = s ∧ a &&& (s ^^^ a) = 0 ∧ a ||| (s ^^^ a) = s :=
  cut_facts ⟨s, hs⟩ ⟨a, by omega⟩ hc (Nat.ne_of_lt ha)
theorem TabT.keep (h : TabT val M C F s a) (hs : s < 32) (hw : ∀ x y, 0 ≤ val x y ∧ val x y ≤ 4096) (ha : a < s) (hc : CutOf a s) (h1 : tabL F s ≠ 0) (h2 : ¬ tabL C a + tabL C (s ^^^ a) + val a (s ^^^ a) < tabL C s) : TabT val M C F s (a + 1) :=
  ⟨h.lenC, h.lenF, h.old, ⟨fun x hx hxs hcx => by
    rcases Nat.lt_or_ge x a with h3 | h3
    · exact h.cur.le x h3 hxs hcx
    · obtain rfl : x = a := by omega
      exact ⟨h1, by omega⟩, h.cur.none, h.cur.some⟩, h.new, h.low⟩
theorem PartT.other {C F : List Int} {t a s : Nat} {u v : Int} (h : PartT val C F t a) (ht : t < 32) (hts : t < s) : PartT val (C.set s u) (F.set s v) t a := by
  have e : ∀ x, x ≤ t → tabL (C.set s u) x = tabL C x := fun x hx => tabL_set_ne (by omega) u
  have eF : tabL (F.set s v) t = tabL F t := tabL_set_ne (by omega) v
  refine ⟨fun x hx hxt hcx => ?_, fun hz => ?_, fun hz => ?_⟩
  · obtain ⟨_, _, f3, _⟩ := xor_lt32 ht hxt hcx
    rw [eF, e t (Nat.le_refl _), e x (by omega), e _ (by omega)]; exact h.le x hx hxt hcx
  · rw [eF] at hz; rw [e t (Nat.le_refl _)]; exact h.none hz
  · rw [eF] at hz
    obtain ⟨x, g1, g2, g3, g4⟩ := h.some hz
    obtain ⟨_, _, f3, _⟩ := xor_lt32 ht g2 g3
    exact ⟨x, by rw [eF]; exact g1, g2, g3, by rw [e t (Nat.le_refl _), e x (by omega), e _ (by omega)]; exact g4⟩
theorem TabT.turn (h : TabT val M C F s a) (hs : s < 32) (hsM : s < M) (hw : ∀ x y, 0 ≤ val x y ∧ val x y ≤ 4096) (ha : a < s) (hc : CutOf a s) (h2 : tabL F s = 0 ∨ tabL C a + tabL C (s ^^^ a) + val a (s ^^^ a) < tabL C s) :
    TabT val M (C.set s (tabL C a + tabL C (s ^^^ a) + val a (s ^^^ a))) (F.set s (a : Int)) s (a + 1) := by
  obtain ⟨f1, f2, f3, f4, f5, _⟩ := xor_lt32 hs ha hc
  obtain ⟨v, hv⟩ : ∃ v, tabL C a + tabL C (s ^^^ a) + val a (s ^^^ a) = v := ⟨_, rfl⟩
  rw [hv] at h2 ⊢
  have e : ∀ x, x < s → tabL (C.set s v) x = tabL C x := fun x hx => tabL_set_ne (by omega) v
  have es : tabL (C.set s v) s = v := tabL_set_self (by rw [h.lenC]; exact hsM) v
  have eF : tabL (F.set s (a : Int)) s = (a : Int) := tabL_set_self (by rw [h.lenF]; exact hsM) _
  refine ⟨by rw [List.length_set, h.lenC], by rw [List.length_set, h.lenF], fun t h1 ht => (h.old t h1 ht).other (by omega) ht, ⟨fun x hx hxs hcx => ?_, fun hz => ?_, fun _ => ⟨a, eF, ha, hc, by rw [es, e a ha, e _ f3, hv]⟩⟩, fun t ht => ?_, fun t ht => ?_⟩
  · obtain ⟨_, _, g3, _⟩ := xor_lt32 hs hxs hcx
    refine ⟨by rw [eF]; omega, ?_⟩
    rw [es, e x hxs, e _ g3]
    rcases Nat.lt_or_ge x a with h3 | h3
    · obtain ⟨k1, k2⟩ := h.cur.le x h3 hxs hcx
      rcases h2 with h2 | h2
      · exact absurd h2 k1
      · omega
    · obtain rfl : x = a := by omega
      omega
  · rw [eF] at hz; omega
  · have hts : s ≠ t := by omega
    rw [tabL_set_ne hts, tabL_set_ne hts]; exact h.new t ht
  · by_cases ets : s = t
    · subst ets
      rw [es]
      have l1 := h.low a f1
      have l2 := h.low (s ^^^ a) f4
      have l3 := hw a (s ^^^ a)
      have : (a : Int) + ((s ^^^ a : Nat) : Int) = (s : Int) := by exact_mod_cast f5
      omega
    · rw [tabL_set_ne ets]; exact h.low t ht
theorem TabT.next (h : TabT val M C F s a) (hs : s ≤ a) : TabT val M C F (s + 1) 1 := by
  have c1 : ∀ x, x < 1 → ¬ CutOf x (s + 1) := fun x hx h => by
    obtain rfl : x = 0 := by omega
    exact h.2 (by simp)
  have hn := h.new (s + 1) (.inr (by omega))
  refine ⟨h.lenC, h.lenF, fun t h1 ht => ?_, ⟨fun x hx _ hc => absurd hc (c1 x hx), fun _ => hn.1, fun k => absurd hn.2 k⟩, fun t ht => h.new t (by omega), h.low⟩
  rcases Nat.lt_or_ge t s with h3 | h3
  · exact h.old t h1 h3
  · obtain rfl : t = s := by omega
    exact ⟨fun x hx hxs hcx => h.cur.le x (by omega) hxs hcx, h.cur.none, h.cur.some⟩
theorem TabT.done (h : TabT val M C F M a) (hM : M ≤ 32) {t : Nat} (h1 : 1 ≤ t) (ht : t < M) : PartT val C F t t := h.old t h1 ht
theorem TabT.opt (h : TabT val M C F M a) (hM : M ≤ 32) (hsym : ∀ x y, val x y = val y x) {x y : Nat} (hx : 1 ≤ x) (hy : 1 ≤ y) (hxy : x &&& y = 0) (ht : x ||| y < M) : tabL C (x ||| y) ≤ tabL C x + tabL C y + val x y := by
  have hx2 : x ≤ x ||| y := Nat.left_le_or
  have hy2 : y ≤ x ||| y := Nat.right_le_or
  rcases cut_either ⟨x, by omega⟩ ⟨y, by omega⟩ hx hy hxy with ⟨c1, c2, c3⟩ | ⟨c1, c2, c3⟩
  · simp only at c1 c2 c3
    have := ((h.done hM (t := x ||| y) (by omega) ht).le x c3 c3 c1).2
    rw [c2] at this; exact this
  · simp only at c1 c2 c3
    have := ((h.done hM (t := x ||| y) (by omega) ht).le y c3 c3 c1).2
    rw [c2, hsym] at this; omega
end
section
variable {k p n : Int} (hr : ringOk k p n = true)
def netF (dm : Int → Int) (ts : List (NT k p n)) (σ : Int → Int) : El k p n := ts.foldl (fun a t => (rig hr).mul a (valT hr dm t.1 t.2 σ)) (rig hr).one
theorem foldl_mul {α : Type} (f : α → El k p n) : ∀ (l : List α) (a : El k p n), l.foldl (fun a t => (rig hr).mul a (f t)) a = (rig hr).mul a (l.foldl (fun a t => (rig hr).mul a (f t)) (rig hr).one)
  | [], a => by simp only [List.foldl_nil]; exact ((rig hr).mul_one a).symm
  | x :: l, a => by
    rw [List.foldl_cons, List.foldl_cons, foldl_mul f l, foldl_mul f l ((rig hr).mul (rig hr).one (f x)), (rig hr).one_mul, (rig hr).mul_assoc]
theorem netF_nil (dm : Int → Int) (σ : Int → Int) : netF hr dm [] σ = (rig hr).one := rfl
theorem netF_cons (dm : Int → Int) (t : NT k p n) (ts : List (NT k p n)) (σ : Int → Int) : netF hr dm (t :: ts) σ = (rig hr).mul (valT hr dm t.1 t.2 σ) (netF hr dm ts σ) := by
  unfold netF
  rw [List.foldl_cons, foldl_mul, (rig hr).one_mul]
theorem netF_append (dm : Int → Int) (ts us : List (NT k p n)) (σ : Int → Int) : netF hr dm (ts ++ us) σ = (rig hr).mul (netF hr dm ts σ) (netF hr dm us σ) := by
  unfold netF
  rw [List.foldl_append, foldl_mul]
theorem netF_perm (dm : Int → Int) {ts us : List (NT k p n)} (h : ts.Perm us) (σ : Int → Int) : netF hr dm ts σ = netF hr dm us σ := by
  induction h with
  | nil => rfl
  | cons x _ ih => rw [netF_cons, netF_cons, ih]
  | swap x y l => rw [netF_cons, netF_cons, netF_cons, netF_cons, (rig hr).mul_swap]
  | trans _ _ h1 h2 => rw [h1, h2]
theorem netF_dep (dm : Int → Int) : ∀ ts : List (NT k p n), Dep (netF hr dm ts) (occ ts)
  | [] => fun _ _ _ => rfl
  | t :: ts => fun σ τ h => by
    rw [netF_cons, netF_cons, valT_dep hr dm t.1 t.2 σ τ fun l hl => h l (by rw [mem_occ]; exact ⟨t, by simp, hl⟩),
      netF_dep dm ts σ τ fun l hl => h l (by obtain ⟨u, hu, hl⟩ := mem_occ.1 hl; rw [mem_occ]; exact ⟨u, by simp [hu], hl⟩)]
def netG (dm : Int → Int) (ts : List (NT k p n)) (op : List Int) : (Int → Int) → El k p n := contrF (rig hr) dm (ascL (occ ts)) op (netF hr dm ts)
def netXs (dm : Int → Int) (ts : List (NT k p n)) (op : List Int) : List (El k p n) := tab (axs dm op) (netG hr dm ts op) σ0
variable {dm : Int → Int} {U : List Int} {ts : List (NT k p n)} {op : List Int}
end
theorem nodup_idx {C : List Int} (hC : C.Nodup) {i j : Nat} {x : Int} (hi : C[i]? = some x) (hj : C[j]? = some x) : i = j :=
  (List.getElem?_inj (List.getElem?_eq_some_iff.1 hi).1 hC).1 (by rw [hi, hj])
end Go.Proofs.Ytpegckmagiaggaa
