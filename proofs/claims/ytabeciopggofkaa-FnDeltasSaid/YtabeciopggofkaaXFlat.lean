/- The elements of a ring as a semiring; a tensor's data as a list of elements; tensors over a universe of labels. No program in sight. -/
import Derived.Test.YtabeciopggofkaaXBase
import Derived.Test.YtabeciopggofkaaXAlg
import Derived.Test.YtabeciopggofkaaXTenP
namespace Go.Proofs.Ytabeciopggofkaa
open Go.RowKit
set_option linter.unusedSimpArgs false
set_option linter.unusedVariables false

/-- The elements of a ring. -/
def El (k p n : Int) : Type := {x : List Int // rawOk k p n x = true}
/-- The ring as a semiring. -/
def rig {k p n : Int} (h : ringOk k p n = true) : Rig (El k p n) where
  add a b := ⟨addL k p a.1 b.1, rawOk_add h a.2 b.2⟩
  mul a b := ⟨mulL k p a.1 b.1, rawOk_mul h a.2 b.2⟩
  zero := ⟨zeroL k p n, rawOk_zero h⟩
  one := ⟨oneL k p n, rawOk_one h⟩
  add_comm a b := Subtype.ext (addL_comm h a.2 b.2)
  add_assoc a b c := Subtype.ext (addL_assoc h a.2 b.2 c.2)
  add_zero a := Subtype.ext (addL_zero h a.2)
  mul_comm a b := Subtype.ext (mulL_comm h a.2 b.2)
  mul_assoc a b c := Subtype.ext (mulL_assoc h a.2 b.2 c.2)
  mul_one a := Subtype.ext (mulL_unit h a.2)
  mul_zero a := Subtype.ext (mulL_zero h a.2)
  add_mul a b c := Subtype.ext (mulL_add h a.2 b.2 c.2)
/-- The data of a list of elements. -/
def flat {k p n : Int} (l : List (El k p n)) : List Int := (l.map (·.1)).flatten
section
variable {k p n : Int} {W : Nat} (hW : ringWidth k n = (W : Int))
include hW
theorem El.len (x : El k p n) : x.1.length = W := by have := (rawOk_iff.1 x.2).1; omega
theorem flat_length (l : List (El k p n)) : (flat l).length = l.length * W := by
  induction l with
  | nil => simp [flat]
  | cons a l ih =>
    have : flat (a :: l) = a.1 ++ flat l := rfl
    rw [this, List.length_append, ih, El.len hW a, List.length_cons, Nat.add_mul]; omega
theorem flat_drop (l : List (El k p n)) : ∀ o : Nat, (flat l).drop (o * W) = flat (l.drop o) := by
  induction l with
  | nil => intro o; simp [flat]
  | cons a l ih =>
    intro o
    have e : flat (a :: l) = a.1 ++ flat l := rfl
    cases o with
    | zero => simp
    | succ o =>
      rw [List.drop_succ_cons, ← ih o, e, Nat.succ_mul, Nat.add_comm, ← List.drop_drop]
      congr 1
      have := El.len hW a
      rw [← this, List.drop_left]
theorem flat_take (l : List (El k p n)) : ∀ o : Nat, (flat l).take (o * W) = flat (l.take o) := by
  induction l with
  | nil => intro o; simp [flat]
  | cons a l ih =>
    intro o
    have e : flat (a :: l) = a.1 ++ flat l := rfl
    cases o with
    | zero => simp [flat]
    | succ o =>
      have e2 : flat (a :: l.take o) = a.1 ++ flat (l.take o) := rfl
      rw [List.take_succ_cons, e2, ← ih o, e, Nat.succ_mul, Nat.add_comm]
      have := El.len hW a
      rw [← this, List.take_length_add_append]
theorem flat_get {l : List (El k p n)} {o : Nat} {x : El k p n} (h : l[o]? = some x) : getL (flat l) (o * W) W = x.1 := by
  obtain ⟨ho, rfl⟩ := List.getElem?_eq_some_iff.1 h
  unfold getL
  rw [flat_drop hW, List.drop_eq_getElem_cons ho]
  have e : flat (l[o] :: l.drop (o + 1)) = l[o].1 ++ flat (l.drop (o + 1)) := rfl
  have := El.len hW l[o]
  rw [e, ← this, List.take_left]
theorem flat_put {l : List (El k p n)} {o : Nat} (ho : o < l.length) (x : El k p n) : putL (flat l) (o * W) x.1 = flat (l.set o x) := by
  unfold putL
  have e : o * W + W = (o + 1) * W := by rw [Nat.succ_mul]
  rw [El.len hW x, e, flat_take hW, flat_drop hW, List.set_eq_take_append_cons_drop, if_pos ho]
  simp [flat]
theorem flat_of : ∀ {P : Nat} {X : List Int}, X.length = P * W → allTo (ringTop k p n) X = true → ∃ l : List (El k p n), l.length = P ∧ flat l = X
  | 0, X, h, _ => ⟨[], rfl, by simp at h; rw [h]; rfl⟩
  | P + 1, X, h, ht => by
    rw [Nat.succ_mul] at h
    have ht' := allTo_iff.1 ht
    obtain ⟨l, h1, h2⟩ := flat_of (P := P) (X := X.drop W) (by simp; omega) (allTo_iff.2 fun v hv => ht' v (List.mem_of_mem_drop hv))
    have hx : rawOk k p n (X.take W) = true := rawOk_iff.2 ⟨by rw [List.length_take]; omega, fun v hv => ht' v (List.mem_of_mem_take hv)⟩
    obtain ⟨y, hy⟩ : ∃ y : El k p n, y.1 = X.take W := ⟨⟨X.take W, hx⟩, rfl⟩
    refine ⟨y :: l, by rw [List.length_cons, h1], ?_⟩
    have e : flat (y :: l) = y.1 ++ flat l := rfl
    rw [e, hy, h2, List.take_append_drop]
omit hW in
theorem flat_top (l : List (El k p n)) : allTo (ringTop k p n) (flat l) = true := by
  rw [allTo_iff]
  intro v hv
  obtain ⟨x, hx, hv⟩ := List.mem_flatten.1 hv
  obtain ⟨y, _, rfl⟩ := List.mem_map.1 hx
  exact (rawOk_iff.1 y.2).2 v hv
omit hW in
theorem flat_snoc (l : List (El k p n)) (x : El k p n) : flat (l ++ [x]) = flat l ++ x.1 := by simp [flat]
omit hW in
theorem flat_append (l m : List (El k p n)) : flat (l ++ m) = flat l ++ flat m := by simp [flat]
omit hW in
theorem flat_rep (x : El k p n) : ∀ m : Nat, rep m x.1 = flat (List.replicate m x)
  | 0 => rfl
  | m + 1 => by rw [rep_succ, flat_rep x m, List.replicate_succ', flat_snoc]
end

/-! ### a universe of labels, each of one dimension -/
/-- Labels U with dimensions dm: all together still a tensor's axes. -/
structure Uni (dm : Int → Int) (U : List Int) : Prop where
  ok : AxOk U (U.map dm)
/-- Labels of the universe, apart. -/
structure Sub (U L : List Int) : Prop where
  nodup : L.Nodup
  sub : ∀ l ∈ L, l ∈ U
theorem Sub.self {dm : Int → Int} {U : List Int} (h : Uni dm U) : Sub U U := ⟨h.ok.nodup, fun _ h => h⟩
theorem Sub.filter {U L : List Int} (h : Sub U L) (f : Int → Bool) : Sub U (L.filter f) := ⟨h.nodup.filter f, fun l hl => h.sub l (List.mem_filter.1 hl).1⟩
theorem Sub.nil (U : List Int) : Sub U [] := ⟨List.nodup_nil, fun l h => by simp at h⟩
theorem Sub.perm {U L M : List Int} (h : Sub U L) (p : L.Perm M) : Sub U M := ⟨p.nodup_iff.1 h.nodup, fun l hl => h.sub l (p.mem_iff.2 hl)⟩
theorem prodL_append (a b : List Int) : prodL (a ++ b) = prodL a * prodL b := by
  induction a with
  | nil => simp [prodL]
  | cons x a ih => rw [List.cons_append, prodL_cons, ih, prodL_cons, Int.mul_assoc]
theorem prodL_perm {a b : List Int} (h : a.Perm b) : prodL a = prodL b := by
  induction h with
  | nil => rfl
  | cons x h ih => rw [prodL_cons, prodL_cons, ih]
  | swap x y l => rw [prodL_cons, prodL_cons, prodL_cons, prodL_cons, ← Int.mul_assoc, Int.mul_comm y x, Int.mul_assoc]
  | trans h1 h2 ih1 ih2 => rw [ih1, ih2]
/-- What is in U and not in L, behind L: U in another order. -/
theorem Sub.rest {U L : List Int} (h : Sub U L) (hU : U.Nodup) : U.Perm (L ++ U.filter fun x => !L.contains x) := by
  refine (List.perm_ext_iff_of_nodup hU ?_).2 fun x => ?_
  · rw [List.nodup_append]
    refine ⟨h.nodup, hU.filter _, fun a ha b hb e => ?_⟩
    subst e
    simp at hb
    exact hb.2 ha
  · simp
    constructor
    · intro hx
      by_cases hl : x ∈ L
      · exact .inl hl
      · exact .inr ⟨hx, hl⟩
    · rintro (hx | hx)
      · exact h.sub x hx
      · exact hx.1
theorem Uni.dim {dm : Int → Int} {U : List Int} (u : Uni dm U) {l : Int} (h : l ∈ U) : 1 ≤ dm l ∧ dm l ≤ 8 := u.ok.dims _ (List.mem_map_of_mem h)
theorem Uni.ax {dm : Int → Int} {U L : List Int} (u : Uni dm U) (h : Sub U L) : AxOk L (L.map dm) := by
  have hp := h.rest u.ok.nodup
  have hl := hp.length_eq
  rw [List.length_append] at hl
  have hr := u.ok.rank
  have hd : ∀ d ∈ L.map dm, 1 ≤ d ∧ d ≤ 8 := fun d hd => by
    obtain ⟨x, hx, rfl⟩ := List.mem_map.1 hd
    exact u.dim (h.sub x hx)
  refine ⟨by simp, by omega, fun l hl => u.ok.labs l (h.sub l hl), h.nodup, hd, ?_⟩
  have e := prodL_perm (hp.map dm)
  rw [List.map_append, prodL_append] at e
  have hs := u.ok.size
  have p1 := prodL_pos hd
  have p2 := prodL_pos (D := (U.filter fun x => !L.contains x).map dm) fun d hd => by
    obtain ⟨x, hx, rfl⟩ := List.mem_map.1 hd
    exact u.dim (List.mem_filter.1 hx).1
  have : prodL (L.map dm) * 1 ≤ prodL (L.map dm) * prodL ((U.filter fun x => !L.contains x).map dm) := Int.mul_le_mul_of_nonneg_left p2 (by omega)
  omega
/-- The axes with labels L. -/
def axs (dm : Int → Int) (L : List Int) : List (Int × Int) := L.map fun l => (l, dm l)
theorem labs_axs (dm : Int → Int) (L : List Int) : labs (axs dm L) = L := by simp [labs, axs, Function.comp_def]
theorem axs_cons (dm : Int → Int) (l : Int) (L : List Int) : axs dm (l :: L) = (l, dm l) :: axs dm L := rfl
theorem axs_append (dm : Int → Int) (L M : List Int) : axs dm (L ++ M) = axs dm L ++ axs dm M := by simp [axs]
theorem size_axs {dm : Int → Int} : ∀ {L : List Int}, (∀ l ∈ L, 1 ≤ dm l) → ((size (axs dm L) : Nat) : Int) = prodL (L.map dm)
  | [], _ => rfl
  | l :: L, h => by
    have h1 := h l (by simp)
    rw [axs_cons, size, List.map_cons, prodL_cons, Int.natCast_mul, size_axs fun x hx => h x (by simp [hx]), Int.toNat_of_nonneg (by omega)]
theorem Uni.size {dm : Int → Int} {U L : List Int} (u : Uni dm U) (h : Sub U L) : ((Proofs.Ytabeciopggofkaa.size (axs dm L) : Nat) : Int) = prodL (L.map dm) := size_axs fun l hl => (u.dim (h.sub l hl)).1
theorem Uni.nodup {dm : Int → Int} {U L : List Int} (h : Sub U L) : (labs (axs dm L)).Nodup := by rw [labs_axs]; exact h.nodup
theorem Uni.dims {dm : Int → Int} {U L : List Int} (u : Uni dm U) (h : Sub U L) : ∀ a ∈ axs dm L, 1 ≤ a.2 := fun a ha => by
  obtain ⟨l, hl, rfl⟩ := List.mem_map.1 ha
  exact (u.dim (h.sub l hl)).1

/-- The index at an offset is what the assignment of that offset gives the labels. -/
theorem idxL_asg {dm : Int → Int} : ∀ {L : List Int}, L.Nodup → (∀ l ∈ L, 1 ≤ dm l) → ∀ (o : Nat) (σ : Int → Int), idxL (L.map dm) o = L.map (asg (axs dm L) o σ)
  | [], _, _, o, σ => rfl
  | l :: L, hn, h, o, σ => by
    rw [List.nodup_cons] at hn
    have h1 := h l (by simp)
    have hL : ∀ x ∈ L, 1 ≤ dm x := fun x hx => h x (by simp [hx])
    rw [List.map_cons, idxL, List.map_cons, axs_cons, asg, asg_other (by rw [labs_axs]; exact hn.1), upd_same, idxL_asg hn.2 hL, ← size_axs hL]
    congr 1
    rw [Int.natCast_emod, Int.natCast_ediv, Int.toNat_of_nonneg (by omega)]

/-! ### strides -/
/-- How far the next value of a label is, 0 for a label that is not there. -/
def stride : List Int → List Int → Int → Int
  | m :: L, _ :: D, l => if m = l then prodL D else stride L D l
  | _, _, _ => 0
/-- Σ a b -/
def dotL : List Int → List Int → Int
  | a :: s, b :: t => a * b + dotL s t
  | _, _ => 0
theorem stride_no {dm : Int → Int} : ∀ {L : List Int} {l : Int}, l ∉ L → stride L (L.map dm) l = 0
  | [], l, _ => rfl
  | m :: L, l, h => by
    rw [List.mem_cons] at h
    rw [List.map_cons, stride, if_neg (fun e => h (.inl e.symm)), stride_no (fun e => h (.inr e))]
theorem dotL_zero (σ : Int → Int) : ∀ M : List Int, dotL (M.map fun _ => 0) (M.map σ) = 0
  | [] => rfl
  | m :: M => by rw [List.map_cons, List.map_cons, dotL, dotL_zero σ M]; omega
theorem dotL_one (g : Int → Int) (σ : Int → Int) (m c : Int) (hg : g m = 0) : ∀ {M : List Int}, M.Nodup →
    dotL (M.map fun l => if m = l then c else g l) (M.map σ) = (if m ∈ M then c * σ m else 0) + dotL (M.map g) (M.map σ)
  | [], _ => by simp [dotL]
  | l :: M, hn => by
    rw [List.nodup_cons] at hn
    simp only [List.map_cons, dotL]
    rw [dotL_one g σ m c hg hn.2]
    by_cases e : m = l
    · subst e
      rw [if_pos rfl, if_neg hn.1, if_pos (List.mem_cons_self ..), hg]; omega
    · rw [if_neg e]
      by_cases hm : m ∈ M
      · rw [if_pos hm, if_pos (by simp [hm])]; omega
      · rw [if_neg hm, if_neg (by simp [hm, e])]; omega
/-- Strides times values: the offset. -/
theorem dot_off {dm : Int → Int} {M : List Int} (hM : M.Nodup) : ∀ {L : List Int}, L.Nodup → (∀ l ∈ L, l ∈ M) → (∀ l ∈ L, 1 ≤ dm l) → ∀ {σ : Int → Int}, (∀ l ∈ L, 0 ≤ σ l) → dotL (M.map (stride L (L.map dm))) (M.map σ) = (off (axs dm L) σ : Nat)
  | [], _, _, _, σ, _ => by
    have : stride [] (([] : List Int).map dm) = fun _ => 0 := by funext l; rfl
    rw [this, dotL_zero]; rfl
  | m :: L, hn, hs, hd, σ, h0 => by
    rw [List.nodup_cons] at hn
    have e : stride (m :: L) ((m :: L).map dm) = fun l => if m = l then prodL (L.map dm) else stride L (L.map dm) l := by funext l; rfl
    have hm := hs m (by simp)
    have h1 := h0 m (by simp)
    have hL : ∀ x ∈ L, 1 ≤ dm x := fun x hx => hd x (by simp [hx])
    rw [e, dotL_one _ _ _ _ (stride_no hn.1) hM, if_pos hm, dot_off hM hn.2 (fun l hl => hs l (by simp [hl])) hL (fun l hl => h0 l (by simp [hl])), axs_cons, off, ← size_axs hL, Int.natCast_add, Int.natCast_mul, Int.toNat_of_nonneg h1, Int.mul_comm]
theorem stride_nonneg : ∀ (L D : List Int), (∀ d ∈ D, 1 ≤ d ∧ d ≤ 8) → ∀ l, 0 ≤ stride L D l
  | [], D, _, l => by simp [stride]
  | m :: L, [], _, l => by simp [stride]
  | m :: L, d :: D, h, l => by
    rw [stride]
    have := prodL_pos (D := D) fun x hx => h x (by simp [hx])
    split
    · omega
    · exact stride_nonneg L D (fun x hx => h x (by simp [hx])) l

/-! ### tensors by their values -/
/-- The assignment that all sums begin with. -/
def σ0 : Int → Int := fun _ => 0
section
variable {k p n : Int} (hr : ringOk k p n = true)
/-- The value of a tensor's elements at an assignment. -/
def valT (dm : Int → Int) (L : List Int) (xs : List (El k p n)) : (Int → Int) → El k p n := fun σ => xs.getD (off (axs dm L) σ) (rig hr).zero
theorem valT_dep (dm : Int → Int) (L : List Int) (xs : List (El k p n)) : Dep (valT hr dm L xs) L := by
  intro σ τ h
  unfold valT
  rw [off_dep (axs dm L) σ τ (by rw [labs_axs]; exact h)]
theorem tab_valT {dm : Int → Int} {L : List Int} (hn : L.Nodup) {xs : List (El k p n)} (hl : xs.length = size (axs dm L)) (σ : Int → Int) : tab (axs dm L) (valT hr dm L xs) σ = xs :=
  tab_self _ (by rw [labs_axs]; exact hn) hl σ
theorem valT_tab {dm : Int → Int} {L : List Int} {F : (Int → Int) → El k p n} (hF : Dep F L) {τ : Int → Int} (hf : Fits (axs dm L) τ) (σ : Int → Int) : valT hr dm L (tab (axs dm L) F σ) τ = F τ := by
  unfold valT
  rw [List.getD_eq_getElem?_getD, tab_off hf (by rw [labs_axs]; exact hF)]; rfl
theorem valT_get {dm : Int → Int} {L : List Int} {xs : List (El k p n)} (hl : xs.length = size (axs dm L)) {τ : Int → Int} (hf : Fits (axs dm L) τ) : xs[off (axs dm L) τ]? = some (valT hr dm L xs τ) := by
  have := off_lt hf
  unfold valT
  rw [List.getD_eq_getElem?_getD, List.getElem?_eq_getElem (by omega)]; rfl
end
end Go.Proofs.Ytabeciopggofkaa
