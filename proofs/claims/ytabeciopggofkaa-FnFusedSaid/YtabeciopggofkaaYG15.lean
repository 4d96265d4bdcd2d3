/- Texts of one kind, merged by program. -/
import Derived.Test.YtabeciopggofkaaYBase
import Derived.Test.YtabeciopggofkaaYSumLW
import Derived.Test.YtabeciopggofkaaYG10
import Derived.Test.YtabeciopggofkaaYG5
import Derived.Test.YtabeciopggofkaaYPermutedP
/- The law of three tensors, plain. No program in sight. -/
namespace Go.Proofs.Ytabeciopggofkaa
open Go.RowKit
set_option linter.unusedSimpArgs false
set_option linter.unusedVariables false

section
variable {k p n : Int} (hr : ringOk k p n = true)
theorem fits_sub {dm : Int → Int} {L M : List Int} {τ : Int → Int} (h : Fits (axs dm M) τ) (hs : ∀ l ∈ L, l ∈ M) : Fits (axs dm L) τ := fun x hx => by
  obtain ⟨l, hl, rfl⟩ := List.mem_map.1 hx
  exact h (l, dm l) (List.mem_map_of_mem (hs l hl))
/-- Tables over one list of labels agree where the functions agree at what fits. -/
theorem tab_fits {α : Type} {dm : Int → Int} {U L : List Int} (u : Uni dm U) (s : Sub U L) {F G : (Int → Int) → α} (h : ∀ τ, Fits (axs dm L) τ → F τ = G τ) : tab (axs dm L) F σ0 = tab (axs dm L) G σ0 :=
  tab_congr (Uni.nodup s) (u.dims s) fun o => h _ (asg_fits' u s o σ0)
theorem contr_all {dm : Int → Int} {a b keep : List Int} (h : ∀ x ∈ joinL a b, x ∈ keep) (xs ys : List (El k p n)) :
    contrXs hr dm a b keep xs ys = tab (axs dm (joinL a b)) (mulF hr dm a b xs ys) σ0 := by
  unfold contrXs
  rw [keepL_all h]
  congr 1
  funext σ
  exact contrF_all (rig hr) h _ σ
theorem assoc_data {dm : Int → Int} {U a b c : List Int} {xs ys zs : List (El k p n)} (ha : IsT k p n dm U a xs) (hb : IsT k p n dm U b ys) (hc : IsT k p n dm U c zs) :
    keepL (joinL (keepL (joinL a b) U) c) U = keepL (joinL a (keepL (joinL b c) U)) U ∧
      contrXs hr dm (keepL (joinL a b) U) c U (contrXs hr dm a b U xs ys) zs = contrXs hr dm a (keepL (joinL b c) U) U xs (contrXs hr dm b c U ys zs) := by
  have u := ha.uni
  have sab := ha.sub.join hb.sub
  have sbc := hb.sub.join hc.sub
  have e1 := keepL_all (keep := U) sab.sub
  have e2 := keepL_all (keep := U) sbc.sub
  rw [e1, e2, contr_all hr sab.sub, contr_all hr sbc.sub, contr_all hr (sab.join hc.sub).sub, contr_all hr (ha.sub.join sbc).sub]
  have e3 := joinL_assoc a b c
  refine ⟨by rw [e3], ?_⟩
  have s3 := ha.sub.join sbc
  rw [e3]
  refine tab_fits u s3 fun τ hf => ?_
  have f1 : Fits (axs dm (joinL a b)) τ := fits_sub hf fun l hl => by rw [← e3]; exact mem_joinL.2 (.inl hl)
  have f2 : Fits (axs dm (joinL b c)) τ := fits_sub hf fun l hl => mem_joinL.2 (.inr hl)
  show (rig hr).mul (valT hr dm (joinL a b) _ τ) _ = (rig hr).mul _ (valT hr dm (joinL b c) _ τ)
  rw [valT_tab hr (mulF_dep hr dm a b xs ys) f1, valT_tab hr (mulF_dep hr dm b c ys zs) f2]
  exact (rig hr).mul_assoc _ _ _
theorem sum_isT {dm : Int → Int} {U a : List Int} {xs : List (El k p n)} (ha : IsT k p n dm U a xs) (keep : List Int) : IsT k p n dm U (keepL a keep) (sumXs hr dm a keep xs) := IsT.tab ha.uni (ha.sub.keep keep) _
theorem early_data {dm : Int → Int} {U a b keep : List Int} {xs ys : List (El k p n)} (ha : IsT k p n dm U a xs) (hb : IsT k p n dm U b ys) (hk : ∀ x ∈ b, x ∈ keep) :
    keepL (joinL a b) keep = keepL (joinL (keepL a keep) b) keep ∧ contrXs hr dm a b keep xs ys = contrXs hr dm (keepL a keep) b keep (sumXs hr dm a keep xs) ys := by
  have u := ha.uni
  have e1 := keep_early (a := a) hk
  refine ⟨e1, ?_⟩
  unfold contrXs
  rw [← e1]
  refine tab_fits u ((ha.sub.join hb.sub).keep keep) fun τ hf => ?_
  have hall : ∀ x ∈ joinL (keepL a keep) b, x ∈ keep := fun x hx => (mem_joinL.1 hx).elim (fun h => (mem_keepL.1 h).2) (hk x)
  rw [contrF_all (rig hr) hall]
  show contrF (rig hr) dm (joinL a b) keep (fun τ => (rig hr).mul (valT hr dm a xs τ) (valT hr dm b ys τ)) τ = (rig hr).mul (valT hr dm (keepL a keep) _ τ) _
  rw [contrF_early (rig hr) hk (valT_dep hr dm b ys)]
  congr 1
  refine (valT_tab hr (contrF_dep (rig hr) (valT_dep hr dm a xs)) (fits_sub hf fun l hl => ?_) σ0).symm
  have := mem_keepL.1 hl
  exact mem_keepL.2 ⟨mem_joinL.2 (.inl this.1), this.2⟩
theorem late_data {dm : Int → Int} {U a b : List Int} (keep : List Int) {xs ys : List (El k p n)} (ha : IsT k p n dm U a xs) (hb : IsT k p n dm U b ys) :
    keepL (keepL (joinL a b) U) keep = keepL (joinL a b) keep ∧ sumXs hr dm (keepL (joinL a b) U) keep (contrXs hr dm a b U xs ys) = contrXs hr dm a b keep xs ys := by
  have u := ha.uni
  have sab := ha.sub.join hb.sub
  rw [keepL_all (keep := U) sab.sub, contr_all hr sab.sub]
  refine ⟨rfl, ?_⟩
  unfold sumXs contrXs
  refine tab_fits u (sab.keep keep) fun τ hf => ?_
  unfold contrF
  refine sumA_congr (rig hr) fun υ h1 h2 => ?_
  have hg := h2 (by rw [labs_axs]; exact (sab.gone keep).nodup)
  refine valT_tab hr (mulF_dep hr dm a b xs ys) (fun x hx => ?_) σ0
  obtain ⟨l, hl, rfl⟩ := List.mem_map.1 hx
  by_cases hlk : l ∈ keep
  · have := hf (l, dm l) (List.mem_map_of_mem (mem_keepL.2 ⟨hl, hlk⟩))
    have e : υ l = τ l := h1 l (by rw [labs_axs]; exact fun h => (mem_goneL.1 h).2 hlk)
    simp only at this ⊢
    rw [e]; exact this
  · exact hg (l, dm l) (List.mem_map_of_mem (mem_goneL.2 ⟨hl, hlk⟩))
end
end Go.Proofs.Ytabeciopggofkaa

/- The law of deltas, plain: a delta tensor renames a label, one with three labels takes a diagonal. No program in sight. -/
namespace Go.Proofs.Ytabeciopggofkaa
open Go.RowKit
set_option linter.unusedSimpArgs false
set_option linter.unusedVariables false

section
variable {k p n : Int} (hr : ringOk k p n = true)
/-- All labels have one value, below v. -/
def sameB (L : List Int) (v : Nat) (τ : Int → Int) : Bool := (List.range v).any fun u => L.all fun l => τ l == (u : Int)
def deltaE (dm : Int → Int) (L : List Int) (v : Nat) : List (El k p n) := tab (axs dm L) (fun τ => ind (rig hr) (sameB L v τ)) σ0
theorem sameB_iff {L : List Int} {v : Nat} {τ : Int → Int} : sameB L v τ = true ↔ ∃ u : Nat, u < v ∧ ∀ l ∈ L, τ l = (u : Int) := by simp [sameB]
theorem map_const {L : List Int} {τ : Int → Int} {v : Int} (h : ∀ l ∈ L, τ l = v) : L.map τ = List.replicate L.length v := by
  rw [List.map_congr_left h, List.map_const']
theorem delta_step {dm : Int → Int} {U L : List Int} (u : Uni dm U) (s : Sub U L) {d : Int} (hd : ∀ l ∈ L, dm l = d) {v : Nat} (h0 : 1 ≤ d) (h8 : d ≤ 8) (hv : (v : Int) < d) :
    (deltaE (k := k) (p := p) (n := n) hr dm L v).set (diag L.length d v).toNat (rig hr).one = deltaE hr dm L (v + 1) := by
  have hD : L.map dm = List.replicate L.length d := map_const hd
  have hdims := (u.ax s).dims
  have hl1 : ∀ l ∈ L, 1 ≤ dm l := fun l hl => (u.dim (s.sub l hl)).1
  obtain ⟨b0, b1⟩ := diag_bounds (m := L.length) h0 h8 (show (0 : Int) ≤ v by omega) hv
  rw [← hD] at b1
  have hs := u.size s
  have hS : (diag L.length d v).toNat < size (axs dm L) := by omega
  have key : ∀ o, o < size (axs dm L) → ((∀ l ∈ L, asg (axs dm L) o σ0 l = (v : Int)) ↔ o = (diag L.length d v).toNat) := by
    intro o ho
    constructor
    · intro h
      have h1 := offL_idx (D := L.map dm) (n := o) hdims (by omega) (by omega)
      rw [idxL_asg s.nodup hl1, map_const h, hD] at h1
      show o = (offL _ _).toNat
      rw [h1]; omega
    · intro h l hl
      have hf : Fits (axs dm L) (fun _ => (v : Int)) := fun a ha => by
        obtain ⟨x, hx, rfl⟩ := List.mem_map.1 ha
        exact ⟨by show (0 : Int) ≤ v; omega, by show (v : Int) < dm x; rw [hd x hx]; exact hv⟩
      have h2 := asg_off hf σ0 l (by rw [labs_axs]; exact hl)
      have h3 : off (axs dm L) (fun _ => (v : Int)) = o := by
        have ho2 := off_lt hf
        have h1 := offL_idx (D := L.map dm) (n := (off (axs dm L) (fun _ => (v : Int)) : Nat)) hdims (by omega) (by omega)
        rw [idxL_asg s.nodup hl1, map_const (fun l hl => asg_off hf σ0 l (by rw [labs_axs]; exact hl)), hD] at h1
        rw [h]
        show _ = (offL _ _).toNat
        rw [h1]; omega
      rw [← h3]; exact h2
  apply List.ext_getElem?
  intro o
  rw [List.getElem?_set]
  have hlen : (deltaE (k := k) (p := p) (n := n) hr dm L v).length = size (axs dm L) := tab_length _ _ _
  by_cases ho : o < size (axs dm L)
  · have g1 : (deltaE (k := k) (p := p) (n := n) hr dm L (v + 1))[o]? = _ := tab_get _ _ _ ho
    have g0 : (deltaE (k := k) (p := p) (n := n) hr dm L v)[o]? = _ := tab_get _ _ _ ho
    rw [g1, g0]
    by_cases e : (diag L.length d v).toNat = o
    · rw [if_pos e, if_pos (by rw [hlen]; omega)]
      have : sameB L (v + 1) (asg (axs dm L) o σ0) = true := sameB_iff.2 ⟨v, by omega, (key o ho).2 e.symm⟩
      rw [this]; rfl
    · rw [if_neg e]
      have : sameB L (v + 1) (asg (axs dm L) o σ0) = sameB L v (asg (axs dm L) o σ0) := by
        rw [Bool.eq_iff_iff, sameB_iff, sameB_iff]
        constructor
        · rintro ⟨q, hq, h⟩
          rcases Nat.lt_or_eq_of_le (Nat.le_of_lt_succ hq) with hq | rfl
          · exact ⟨q, hq, h⟩
          · exact absurd ((key o ho).1 h).symm e
        · rintro ⟨q, hq, h⟩
          exact ⟨q, by omega, h⟩
      rw [this]
  · have g1 : (deltaE (k := k) (p := p) (n := n) hr dm L (v + 1))[o]? = none := List.getElem?_eq_none (by rw [show (deltaE (k := k) (p := p) (n := n) hr dm L (v + 1)).length = size (axs dm L) from tab_length _ _ _]; omega)
    rw [g1, List.getElem?_eq_none (by rw [hlen]; omega), if_neg (by omega)]
theorem deltaX_flat {W : Nat} (hW : ringWidth k n = (W : Int)) {dm : Int → Int} {U L : List Int} (u : Uni dm U) (s : Sub U L) {d : Int} (hd : ∀ l ∈ L, dm l = d) (h0 : 1 ≤ d) (h8 : d ≤ 8) :
    ∀ v : Nat, (v : Int) ≤ d → deltaX L.length W (oneL k p n) (rep (size (axs dm L)) (zeroL k p n)) d v = flat (deltaE (k := k) (p := p) (n := n) hr dm L v)
  | 0, _ => by
    have e : deltaE (k := k) (p := p) (n := n) hr dm L 0 = List.replicate (size (axs dm L)) (rig hr).zero := by
      unfold deltaE
      rw [tab_range]
      have : ∀ τ, ind (rig hr) (sameB L 0 τ) = (rig hr).zero := fun τ => by simp [sameB, ind]
      simp only [this]
      rw [List.map_const', List.length_range]
    rw [deltaX, e]
    exact flat_rep (rig hr).zero _
  | v + 1, hv => by
    have hlen : (deltaE (k := k) (p := p) (n := n) hr dm L v).length = size (axs dm L) := tab_length _ _ _
    obtain ⟨b0, b1⟩ := diag_bounds (m := L.length) h0 h8 (show (0 : Int) ≤ v by omega) (by omega)
    rw [← map_const hd] at b1
    have hs := u.size s
    rw [deltaX, deltaX_flat hW u s hd h0 h8 v (by omega), ← delta_step hr u s hd h0 h8 (by omega)]
    exact flat_put hW (by rw [hlen]; omega) (rig hr).one
/-- The data of a delta tensor. -/
def deltaXs (dm : Int → Int) (L : List Int) (l0 : Int) : List (El k p n) := tab (axs dm L) (fun τ => ind (rig hr) (L.all fun l => τ l == τ l0)) σ0
theorem deltaE_all {dm : Int → Int} {U L : List Int} (u : Uni dm U) (s : Sub U L) {d : Int} (hd : ∀ l ∈ L, dm l = d) (h0 : 1 ≤ d) {l0 : Int} (hl : l0 ∈ L) : deltaE (k := k) (p := p) (n := n) hr dm L d.toNat = deltaXs hr dm L l0 := by
  refine tab_fits u s fun τ hf => ?_
  congr 1
  rw [Bool.eq_iff_iff, sameB_iff, List.all_eq_true]
  constructor
  · rintro ⟨q, _, h⟩ l hl'
    rw [h l hl', h l0 hl]; simp
  · intro h
    obtain ⟨f0, f1⟩ := hf (l0, dm l0) (List.mem_map_of_mem hl)
    have f0 : 0 ≤ τ l0 := f0
    have f1 : τ l0 < dm l0 := f1
    rw [hd l0 hl] at f1
    exact ⟨(τ l0).toNat, by omega, fun l hl' => by have := h l hl'; rw [beq_iff_eq] at this; omega⟩
theorem deltaXs_isT {dm : Int → Int} {U L : List Int} (u : Uni dm U) (s : Sub U L) (l0 : Int) : IsT k p n dm U L (deltaXs hr dm L l0) := IsT.tab u s _
theorem deltaXs_dep (L : List Int) {l0 : Int} (hl : l0 ∈ L) : Dep (fun τ => ind (rig hr) (L.all fun l => τ l == τ l0)) L := fun σ τ h => by
  show ind _ _ = ind _ _
  congr 1
  rw [Bool.eq_iff_iff, List.all_eq_true, List.all_eq_true]
  constructor
  · intro q l hl'; rw [← h l hl', ← h l0 hl]; exact q l hl'
  · intro q l hl'; rw [h l hl', h l0 hl]; exact q l hl'
theorem deltaXs_val {dm : Int → Int} {L : List Int} {l0 : Int} (hl : l0 ∈ L) {τ : Int → Int} (hf : Fits (axs dm L) τ) : valT hr dm L (deltaXs hr dm L l0) τ = ind (rig hr) (L.all fun l => τ l == τ l0) := valT_tab hr (deltaXs_dep hr L hl) hf σ0
end
end Go.Proofs.Ytabeciopggofkaa

/- The law of deltas, plain, joined. No program in sight. -/
namespace Go.Proofs.Ytabeciopggofkaa
open Go.RowKit
set_option linter.unusedSimpArgs false
set_option linter.unusedVariables false

theorem hasL_no {L : List Int} {x : Int} (h : x ∉ L) : hasL L x = false := by
  cases e : hasL L x
  · rfl
  · exact absurd ((hasL_iff L x).1 e) h
theorem cutL_none {L : List Int} {x : Int} (h : x ∉ L) : cutL L x = L := by
  unfold cutL
  rw [List.filter_eq_self]
  intro a ha
  have : a ≠ x := fun e => h (e ▸ ha)
  simp [this]
theorem cutL_append (L M : List Int) (x : Int) : cutL (L ++ M) x = cutL L x ++ cutL M x := by simp [cutL]
theorem cutL_head {x : Int} {L : List Int} (h : x ∉ L) : cutL (x :: L) x = L := by
  have : cutL (x :: L) x = cutL L x := by simp [cutL]
  rw [this, cutL_none h]
theorem prodL_le3 : ∀ {D : List Int}, (∀ d ∈ D, 1 ≤ d ∧ d ≤ 3) → prodL D ≤ 3 ^ D.length ∧ 1 ≤ prodL D
  | [], _ => ⟨by simp [prodL], by simp [prodL]⟩
  | d :: D, h => by
    obtain ⟨h1, h2⟩ := prodL_le3 fun x hx => h x (List.mem_cons_of_mem _ hx)
    obtain ⟨d1, d3⟩ := h d (by simp)
    rw [prodL_cons, List.length_cons, Int.pow_succ]
    constructor
    · calc d * prodL D ≤ 3 * prodL D := Int.mul_le_mul_of_nonneg_right d3 (by omega)
        _ = prodL D * 3 := Int.mul_comm _ _
        _ ≤ 3 ^ D.length * 3 := Int.mul_le_mul_of_nonneg_right h1 (by omega)
    · have : 1 * 1 ≤ d * prodL D := Int.mul_le_mul d1 h2 (by omega) (by omega)
      omega
/-- The dimensions where three labels more are as wide as x. -/
def dmX (x l : Int) : Int := if l = 50 ∨ l = 60 ∨ l = 70 then dimOf x else dimOf l
theorem dmX_range (x l : Int) : 1 ≤ dmX x l ∧ dmX x l ≤ 3 := by
  unfold dmX
  split
  · exact dimOf_range x
  · exact dimOf_range l
theorem u6_le {L : List Int} (h : Sub U6 L) {l : Int} (hl : l ∈ L) : 0 ≤ l ∧ l ≤ 5 := by
  have := h.sub l hl
  simp [U6] at this; omega
theorem dmX_on {L : List Int} (h : Sub U6 L) (x : Int) {l : Int} (hl : l ∈ L) : dmX x l = dimOf l := by
  have := u6_le h hl
  unfold dmX
  rw [if_neg (by omega)]
theorem dmX_map {L : List Int} (h : Sub U6 L) (x : Int) : L.map dimOf = L.map (dmX x) := List.map_congr_left fun l hl => (dmX_on h x hl).symm
def UX (L : List Int) : List Int := L ++ [50, 60, 70]
theorem uniX {L : List Int} (h : Sub U6 L) (hl : L.length ≤ 3) (x : Int) : Uni (dmX x) (UX L) := by
  have hlen : (UX L).length ≤ 6 := by simp [UX]; omega
  refine ⟨⟨by rw [List.length_map], by omega, fun l hm => ?_, ?_, fun d hd => ?_, ?_⟩⟩
  · rcases List.mem_append.1 hm with h1 | h1
    · have := u6_le h h1; omega
    · simp at h1; omega
  · show List.Nodup (L ++ [50, 60, 70])
    rw [List.nodup_append]
    refine ⟨h.nodup, by decide, fun a ha b hb e => ?_⟩
    have := u6_le h ha
    simp at hb; omega
  · obtain ⟨l, _, rfl⟩ := List.mem_map.1 hd
    have := dmX_range x l; omega
  · have h1 := (prodL_le3 (D := (UX L).map (dmX x)) fun d hd => by obtain ⟨l, _, rfl⟩ := List.mem_map.1 hd; exact dmX_range x l).1
    rw [List.length_map] at h1
    have h2 : ∀ q : Nat, q ≤ 6 → (3 : Int) ^ q ≤ 729 := fun q hq => by
      have : q = 0 ∨ q = 1 ∨ q = 2 ∨ q = 3 ∨ q = 4 ∨ q = 5 ∨ q = 6 := by omega
      rcases this with rfl | rfl | rfl | rfl | rfl | rfl | rfl <;> decide
    have h2 := h2 _ hlen
    omega
theorem subX {L : List Int} (h : Sub U6 L) (hl : L.length ≤ 3) {M : List Int} (hn : M.Nodup) (hM : ∀ m ∈ M, m ∈ L ∨ m = 50 ∨ m = 60 ∨ m = 70) : Sub (UX L) M := ⟨hn, fun m hm => by
  unfold UX
  rcases hM m hm with h1 | h1
  · exact List.mem_append_left _ h1
  · apply List.mem_append_right; simp; omega⟩
section
variable {k p n : Int} (hr : ringOk k p n = true)
theorem axs_congr {dm dm' : Int → Int} {L : List Int} (h : ∀ l ∈ L, dm l = dm' l) : axs dm L = axs dm' L := List.map_congr_left fun l hl => by rw [h l hl]
theorem isT_X {L : List Int} {xs : List (El k p n)} (h : IsT k p n dimOf U6 L xs) (hl : L.length ≤ 3) (x : Int) : IsT k p n (dmX x) (UX L) L xs :=
  ⟨uniX h.sub hl x, subX h.sub hl h.sub.nodup fun m hm => .inl hm, by rw [h.len, axs_congr fun l hl => (dmX_on h.sub x hl).symm]⟩
/-- A delta tensor renames a label. -/
theorem rename_data {dm : Int → Int} {U L : List Int} {x y : Int} {xs : List (El k p n)} (ht : IsT k p n dm U (x :: L) xs) (hy : y ∉ x :: L) (hyU : y ∈ U) (hd : dm y = dm x) :
    keepL (joinL (x :: L) [x, y]) (L ++ [y]) = L ++ [y] ∧ IsT k p n dm U (y :: L) xs ∧ sortL (L ++ [y]) = sortL (y :: L) ∧
      permXs hr dm (L ++ [y]) (sortL (L ++ [y])) (contrXs hr dm (x :: L) [x, y] (L ++ [y]) xs (deltaXs hr dm [x, y] x)) = permXs hr dm (y :: L) (sortL (y :: L)) xs := by
  have hnx := ht.sub.nodup
  rw [List.nodup_cons] at hnx
  have hyx : y ≠ x := fun e => hy (by rw [e]; exact List.mem_cons_self ..)
  have hyL : y ∉ L := fun h => hy (List.mem_cons_of_mem _ h)
  have hxM : x ∉ L ++ [y] := fun h => by
    rcases List.mem_append.1 h with h | h
    · exact hnx.1 h
    · simp at h; exact hyx h.symm
  have ej : joinL (x :: L) [x, y] = x :: (L ++ [y]) := by
    unfold joinL
    rw [List.filter_cons, if_neg (by rw [(hasL_iff _ _).2 (List.mem_cons_self ..)]; simp), List.filter_cons, if_pos (by rw [hasL_no hy]; rfl)]
    rfl
  have ek : keepL (x :: (L ++ [y])) (L ++ [y]) = L ++ [y] := by
    unfold keepL
    rw [List.filter_cons, if_neg (by rw [hasL_no hxM]; simp), List.filter_eq_self]
    exact fun a ha => (hasL_iff _ _).2 ha
  have eg : goneL (x :: (L ++ [y])) (L ++ [y]) = [x] := by
    unfold goneL
    rw [List.filter_cons, if_pos (by rw [hasL_no hxM]; rfl), List.filter_eq_nil_iff.2 fun a ha => by rw [(hasL_iff _ _).2 ha]; simp]
  have hnM : (L ++ [y]).Nodup := List.nodup_append.2 ⟨hnx.2, by simp, fun a ha b hb e => by simp at hb; exact hyL (by rw [← hb, ← e]; exact ha)⟩
  have sM : Sub U (L ++ [y]) := ⟨hnM, fun l hl => by
    rcases List.mem_append.1 hl with h | h
    · exact ht.sub.sub l (List.mem_cons_of_mem _ h)
    · simp at h; rw [h]; exact hyU⟩
  have hperm : (L ++ [y]).Perm (y :: L) := List.perm_append_comm
  have sY : Sub U (y :: L) := sM.perm hperm
  have hT : IsT k p n dm U (y :: L) xs := ⟨ht.uni, sY, by rw [ht.len, axs_cons, axs_cons, size, size, hd]⟩
  have hF : Dep (fun σ => valT hr dm (x :: L) xs (upd σ x (σ y))) (L ++ [y]) := fun σ τ h => by
    apply valT_dep hr dm (x :: L) xs
    intro l hl
    by_cases e : l = x
    · subst e; rw [upd_same, upd_same]; exact h y (by simp)
    · rw [upd_ne _ _ e, upd_ne _ _ e]
      exact h l (List.mem_append_left _ ((List.mem_cons.1 hl).resolve_left e))
  have hC : contrXs hr dm (x :: L) [x, y] (L ++ [y]) xs (deltaXs hr dm [x, y] x) = tab (axs dm (L ++ [y])) (fun σ => valT hr dm (x :: L) xs (upd σ x (σ y))) σ0 := by
    unfold contrXs
    rw [ej, ek]
    refine tab_fits ht.uni sM fun σ hf => ?_
    unfold contrF
    rw [eg]
    obtain ⟨f0, f1⟩ := hf (y, dm y) (List.mem_map_of_mem (by simp))
    have f0 : 0 ≤ σ y := f0
    have f1 : σ y < dm y := f1
    rw [show axs dm [x] = [(x, dm x)] from rfl]
    rw [sumA_congr (rig hr) (G := fun τ => (rig hr).mul (valT hr dm (x :: L) xs τ) (ind (rig hr) (decide (τ x = τ y)))) fun τ h1 h2 => ?_]
    · exact sumA_delta (rig hr) hyx _ f0 (by rw [← hd]; exact f1)
    · have hy' : τ y = σ y := h1 y (by simpa [labs] using hyx)
      obtain ⟨g0, g1⟩ := h2 (by simp [labs]) (x, dm x) (by simp)
      have hfit : Fits (axs dm [x, y]) τ := fun a ha => by
        simp [axs] at ha
        rcases ha with rfl | rfl
        · exact ⟨g0, g1⟩
        · exact ⟨by show 0 ≤ τ y; rw [hy']; exact f0, by show τ y < dm y; rw [hy']; exact f1⟩
      show (rig hr).mul _ _ = _
      rw [deltaXs_val hr (by simp) hfit]
      congr 2
      rw [Bool.eq_iff_iff]
      simp
      exact ⟨fun h => h.symm, fun h => h.symm⟩
  have hX : xs = tab (axs dm (y :: L)) (fun σ => valT hr dm (x :: L) xs (upd σ x (σ y))) σ0 := by
    conv => lhs; rw [← tab_valT hr sY.nodup hT.len σ0]
    congr 1
    funext τ
    unfold valT
    rw [axs_cons, axs_cons, off, off, upd_same]
    have : off (axs dm L) (upd τ x (τ y)) = off (axs dm L) τ := off_dep (axs dm L) _ _ fun l hl => upd_ne _ _ (by rw [labs_axs] at hl; rintro rfl; exact hnx.1 hl)
    rw [this]
  refine ⟨by rw [ej, ek], hT, ?_⟩
  have h := sort_same hr ht.uni sM hperm hF (hF.perm hperm) fun σ => rfl
  refine ⟨h.1, ?_⟩
  rw [hC, h.2, ← hX]
/-- A delta tensor with three labels takes a diagonal, and that of the result is what it was. -/
theorem diag_data {dm : Int → Int} {U L : List Int} {x y z : Int} {xs : List (El k p n)} (ht : IsT k p n dm U L xs) (hx : x ∈ L) (hy : y ∉ L) (hz : z ∉ L) (hyz : y ≠ z) (hyU : y ∈ U) (hzU : z ∈ U) (hdy : dm y = dm x) (hdz : dm z = dm x) :
    keepL (joinL L [x, y, z]) (L ++ [y, z]) = L ++ [y, z] ∧ cutL (L ++ [y, z]) y = L ++ [z] ∧ cutL (L ++ [z]) z = L ∧
      cutXs hr dm (L ++ [z]) z (fun τ => τ x) (cutXs hr dm (L ++ [y, z]) y (fun τ => τ z) (contrXs hr dm L [x, y, z] (L ++ [y, z]) xs (deltaXs hr dm [x, y, z] x))) = xs := by
  have hxy : x ≠ y := fun e => hy (e ▸ hx)
  have hxz : x ≠ z := fun e => hz (e ▸ hx)
  have ej : joinL L [x, y, z] = L ++ [y, z] := by
    unfold joinL
    rw [List.filter_cons, if_neg (by rw [(hasL_iff _ _).2 hx]; simp), List.filter_cons, if_pos (by rw [hasL_no hy]; rfl), List.filter_cons, if_pos (by rw [hasL_no hz]; rfl)]
    rfl
  have ek : keepL (L ++ [y, z]) (L ++ [y, z]) = L ++ [y, z] := keepL_all fun a ha => ha
  have e1 : cutL (L ++ [y, z]) y = L ++ [z] := by
    rw [cutL_append, cutL_none hy, cutL_head (by simpa using hyz)]
  have e2 : cutL (L ++ [z]) z = L := by
    rw [cutL_append, cutL_none hz, cutL_head (by simp), List.append_nil]
  refine ⟨by rw [ej, ek], e1, e2, ?_⟩
  have hn2 : (L ++ [y, z]).Nodup := List.nodup_append.2 ⟨ht.sub.nodup, by simp [hyz], fun a ha b hb e => by
    simp at hb
    rcases hb with h | h
    · exact hy (by rw [← h, ← e]; exact ha)
    · exact hz (by rw [← h, ← e]; exact ha)⟩
  have s2 : Sub U (L ++ [y, z]) := ⟨hn2, fun l hl => by
    rcases List.mem_append.1 hl with h | h
    · exact ht.sub.sub l h
    · simp at h; rcases h with rfl | rfl <;> assumption⟩
  have hc : contrXs hr dm L [x, y, z] (L ++ [y, z]) xs (deltaXs hr dm [x, y, z] x) = tab (axs dm (L ++ [y, z])) (mulF hr dm L [x, y, z] xs (deltaXs hr dm [x, y, z] x)) σ0 := by
    rw [contr_all hr (by rw [ej]; exact fun a ha => ha), ej]
  rw [hc]
  have hMF : Dep (mulF hr dm L [x, y, z] xs (deltaXs hr dm [x, y, z] x)) (L ++ [y, z]) := fun σ τ h => by
    show (rig hr).mul _ _ = (rig hr).mul _ _
    rw [valT_dep hr dm L xs σ τ fun l hl => h l (List.mem_append_left _ hl), valT_dep hr dm [x, y, z] _ σ τ fun l hl => h l (by
      simp at hl
      rcases hl with rfl | rfl | rfl
      · exact List.mem_append_left _ hx
      · simp
      · simp)]
  conv => rhs; rw [← tab_valT hr ht.sub.nodup ht.len σ0]
  unfold cutXs
  rw [e1, e2]
  refine tab_fits ht.uni ht.sub fun τ hf => ?_
  obtain ⟨f0, f1⟩ := hf (x, dm x) (List.mem_map_of_mem hx)
  have f0 : 0 ≤ τ x := f0
  have f1 : τ x < dm x := f1
  have a1 : Fits (axs dm (L ++ [z])) (upd τ z (τ x)) := fun a ha => by
    obtain ⟨l, hl, rfl⟩ := List.mem_map.1 ha
    by_cases e : l = z
    · subst e; rw [upd_same]; exact ⟨f0, by show τ x < dm l; rw [hdz]; exact f1⟩
    · rw [upd_ne _ _ e]
      exact hf (l, dm l) (List.mem_map_of_mem ((List.mem_append.1 hl).resolve_right fun h => e (by simpa using h)))
  have a2 : Fits (axs dm (L ++ [y, z])) (upd (upd τ z (τ x)) y (upd τ z (τ x) z)) := fun a ha => by
    obtain ⟨l, hl, rfl⟩ := List.mem_map.1 ha
    by_cases e : l = y
    · subst e; rw [upd_same, upd_same]; exact ⟨f0, by show τ x < dm l; rw [hdy]; exact f1⟩
    · rw [upd_ne _ _ e]
      refine a1 (l, dm l) (List.mem_map_of_mem ?_)
      rcases List.mem_append.1 hl with h | h
      · exact List.mem_append_left _ h
      · simp at h
        rcases h with h | h
        · exact absurd h e
        · simp [h]
  have hG : Dep (fun τ => valT hr dm (L ++ [y, z]) (tab (axs dm (L ++ [y, z])) (mulF hr dm L [x, y, z] xs (deltaXs hr dm [x, y, z] x)) σ0) (upd τ y (τ z))) (L ++ [z]) := by
    have := diag_dep (valT_dep hr dm (L ++ [y, z]) (tab (axs dm (L ++ [y, z])) (mulF hr dm L [x, y, z] xs (deltaXs hr dm [x, y, z] x)) σ0)) (a := z) (b := y) (Ne.symm hyz) (by simp)
    have e1' : (L ++ [y, z]).filter (fun w => !(w == y)) = L ++ [z] := e1
    rwa [e1'] at this
  rw [valT_tab hr hG a1, valT_tab hr hMF a2]
  show (rig hr).mul _ _ = _
  have a3 : Fits (axs dm [x, y, z]) (upd (upd τ z (τ x)) y (upd τ z (τ x) z)) := fits_sub a2 fun l hl => by
    simp at hl
    rcases hl with rfl | rfl | rfl
    · exact List.mem_append_left _ hx
    · simp
    · simp
  rw [deltaXs_val hr (by simp) a3]
  have hall : ([x, y, z].all fun l => upd (upd τ z (τ x)) y (upd τ z (τ x) z) l == upd (upd τ z (τ x)) y (upd τ z (τ x) z) x) = true := by
    simp [upd, hxy, hxz, Ne.symm hyz]
  rw [hall]
  show (rig hr).mul _ (rig hr).one = _
  rw [(rig hr).mul_one]
  exact valT_dep hr dm L xs _ _ fun l hl => by
    rw [upd_ne _ _ (by rintro rfl; exact hy hl), upd_ne _ _ (by rintro rfl; exact hz hl)]
end
end Go.Proofs.Ytabeciopggofkaa

/- The law of fused axes, plain. No program in sight. -/
namespace Go.Proofs.Ytabeciopggofkaa
open Go.RowKit
set_option linter.unusedSimpArgs false
set_option linter.unusedVariables false

/-- The labels that are not fused. -/
def restL (L F : List Int) : List Int := L.filter fun x => !hasL F x
theorem restL_mem {L F : List Int} {x : Int} : x ∈ restL L F ↔ x ∈ L ∧ x ∉ F := by
  unfold restL
  rw [List.mem_filter]
  constructor
  · rintro ⟨h1, h2⟩
    refine ⟨h1, fun h => ?_⟩
    rw [(hasL_iff F x).2 h] at h2
    simp at h2
  · rintro ⟨h1, h2⟩
    exact ⟨h1, by rw [hasL_no h2]; rfl⟩
theorem restL_perm {L F : List Int} (hL : L.Nodup) (hF : F.Nodup) (h : ∀ f ∈ F, f ∈ L) : L.Perm (restL L F ++ F) := by
  have hn : (restL L F ++ F).Nodup := List.nodup_append.2 ⟨hL.filter _, hF, fun a ha b hb e => (restL_mem.1 ha).2 (e ▸ hb)⟩
  rw [List.perm_ext_iff_of_nodup hL hn]
  intro a
  rw [List.mem_append, restL_mem]
  constructor
  · intro ha
    by_cases hf : a ∈ F
    · exact .inr hf
    · exact .inl ⟨ha, hf⟩
  · rintro (⟨h1, _⟩ | h1)
    · exact h1
    · exact h a h1
theorem restL_snoc_yes {l F : List Int} {x : Int} (h : hasL F x = true) : restL (l ++ [x]) F = restL l F := by simp [restL, h]
theorem restL_snoc_no {l F : List Int} {x : Int} (h : hasL F x = false) : restL (l ++ [x]) F = restL l F ++ [x] := by simp [restL, h]
theorem restL_len (l F : List Int) : (restL l F).length ≤ l.length := List.length_filter_le _ _
section
variable {k p n : Int} (hr : ringOk k p n = true)
theorem size_fused {dm : Int → Int} {U R F : List Int} (u : Uni dm U) (sF : Sub U F) {c : Int} (hc : dm c = prodL (F.map dm)) : size (axs dm (R ++ [c])) = size (axs dm (R ++ F)) := by
  rw [axs_append, axs_append, size_append, size_append]
  congr 1
  have h1 := u.size sF
  show (dm c).toNat * size [] = _
  rw [hc]
  have : size [] = 1 := rfl
  rw [this]; omega
/-- What is fused is a tensor. -/
theorem fused_isT {dm : Int → Int} {U R F : List Int} {ys : List (El k p n)} (h : IsT k p n dm U (R ++ F) ys) {c : Int} (hs : Sub U (R ++ [c])) (hc : dm c = prodL (F.map dm)) : IsT k p n dm U (R ++ [c]) ys :=
  ⟨h.uni, hs, by rw [h.len, size_fused h.uni ⟨(List.nodup_append.1 h.sub.nodup).2.1, fun l hl => h.sub.sub l (List.mem_append_right _ hl)⟩ hc]⟩
theorem split_isT {dm : Int → Int} {U R F : List Int} {ys : List (El k p n)} {c : Int} (h : IsT k p n dm U (R ++ [c]) ys) (hs : Sub U (R ++ F)) (hc : dm c = prodL (F.map dm)) : IsT k p n dm U (R ++ F) ys :=
  ⟨h.uni, hs, by rw [h.len, size_fused h.uni ⟨(List.nodup_append.1 hs.nodup).2.1, fun l hl => hs.sub l (List.mem_append_right _ hl)⟩ hc]⟩
/-- The value at a fused index. -/
theorem fused_val {dm : Int → Int} {R F : List Int} {ys : List (El k p n)} {c : Int} (hcR : c ∉ R) (hc : ((dm c).toNat) = size (axs dm F)) (hn : F.Nodup) (hRF : ∀ x ∈ R, x ∉ F) (σ : Int → Int) {o : Nat} (ho : o < size (axs dm F)) :
    valT hr dm (R ++ [c]) ys (upd σ c (o : Nat)) = valT hr dm (R ++ F) ys (asg (axs dm F) o σ) := by
  unfold valT
  congr 1
  rw [axs_append, axs_append, off_append, off_append]
  have e1 : off (axs dm R) (upd σ c (o : Nat)) = off (axs dm R) σ := off_dep (axs dm R) _ _ fun l hl => upd_ne _ _ (by rw [labs_axs] at hl; rintro rfl; exact hcR hl)
  have e2 : off (axs dm R) (asg (axs dm F) o σ) = off (axs dm R) σ := off_dep (axs dm R) _ _ fun l hl => asg_other (by rw [labs_axs] at hl ⊢; exact hRF l hl) o σ
  have e3 : off (axs dm F) (asg (axs dm F) o σ) = o := off_asg (by rw [labs_axs]; exact hn) ho σ
  have e4 : off (axs dm [c]) (upd σ c (o : Nat)) = o := by
    show (upd σ c (o : Nat) c).toNat * size [] + off [] _ = o
    rw [upd_same]
    show ((o : Nat) : Int).toNat * 1 + 0 = o
    omega
  have e5 : size (axs dm [c]) = size (axs dm F) := by
    show (dm c).toNat * size [] = _
    rw [hc]
    show _ * 1 = _
    omega
  rw [e1, e2, e3, e4, e5]
end
end Go.Proofs.Ytabeciopggofkaa

/- The law of fused axes, plain, joined: common axes may be fused before a contraction. No program in sight. -/
namespace Go.Proofs.Ytabeciopggofkaa
open Go.RowKit
set_option linter.unusedSimpArgs false
set_option linter.unusedVariables false

section
variable {k p n : Int} (hr : ringOk k p n = true)
theorem fused_contr {dm : Int → Int} {U M1 M2 F : List Int} {xs ys : List (El k p n)} (ha : IsT k p n dm U M1 xs) (hb : IsT k p n dm U M2 ys) (hF : F.Nodup) (h1 : ∀ f ∈ F, f ∈ M1) (h2 : ∀ f ∈ F, f ∈ M2) (h12 : ∀ x ∈ restL M2 F, x ∉ M1)
    {c : Int} (hc1 : c ∉ M1) (hc2 : c ∉ M2) (hcU : c ∈ U) (hc : dm c = prodL (F.map dm)) :
    keepL (joinL M1 M2) (restL M1 F ++ restL M2 F) = restL M1 F ++ restL M2 F ∧
    keepL (joinL (restL M1 F ++ [c]) (restL M2 F ++ [c])) (restL M1 F ++ restL M2 F) = restL M1 F ++ restL M2 F ∧
    contrXs hr dm M1 M2 (restL M1 F ++ restL M2 F) xs ys = contrXs hr dm (restL M1 F ++ [c]) (restL M2 F ++ [c]) (restL M1 F ++ restL M2 F) (permXs hr dm M1 (restL M1 F ++ F) xs) (permXs hr dm M2 (restL M2 F ++ F) ys) := by
  have p1 := restL_perm ha.sub.nodup hF h1
  have p2 := restL_perm hb.sub.nodup hF h2
  have s1 := ha.sub.perm p1
  have s2 := hb.sub.perm p2
  have sF : Sub U F := ⟨hF, fun l hl => ha.sub.sub l (h1 l hl)⟩
  have hR1 : ∀ x, x ∈ restL M1 F ↔ x ∈ M1 ∧ x ∉ F := fun x => restL_mem
  have hR2 : ∀ x, x ∈ restL M2 F ↔ x ∈ M2 ∧ x ∉ F := fun x => restL_mem
  have hszc : (dm c).toNat = size (axs dm F) := by have := ha.uni.size sF; omega
  have ej : joinL M1 M2 = M1 ++ restL M2 F := by
    unfold joinL restL
    congr 1
    apply List.filter_congr
    intro x hx
    congr 1
    rw [Bool.eq_iff_iff, hasL_iff, hasL_iff]
    constructor
    · intro h
      by_cases hf : x ∈ F
      · exact hf
      · exact absurd h (h12 x ((hR2 x).2 ⟨hx, hf⟩))
    · exact h1 x
  have hcR1 : c ∉ restL M1 F := fun h => hc1 ((hR1 c).1 h).1
  have hcR2 : c ∉ restL M2 F := fun h => hc2 ((hR2 c).1 h).1
  have hcK : c ∉ restL M1 F ++ restL M2 F := fun h => by
    rcases List.mem_append.1 h with h | h
    · exact hcR1 h
    · exact hcR2 h
  have ek : keepL (M1 ++ restL M2 F) (restL M1 F ++ restL M2 F) = restL M1 F ++ restL M2 F := by
    unfold keepL
    rw [List.filter_append]
    congr 1
    · show M1.filter _ = M1.filter _
      apply List.filter_congr
      intro x hx
      by_cases hf : x ∈ F
      · rw [(hasL_iff F x).2 hf, hasL_no fun h => by
          rcases List.mem_append.1 h with h | h
          · exact ((hR1 x).1 h).2 hf
          · exact ((hR2 x).1 h).2 hf]
        rfl
      · rw [hasL_no hf, (hasL_iff _ x).2 (List.mem_append_left _ ((hR1 x).2 ⟨hx, hf⟩))]
        rfl
    · rw [List.filter_eq_self]
      exact fun x hx => (hasL_iff _ x).2 (List.mem_append_right _ hx)
  have eg : (goneL (M1 ++ restL M2 F) (restL M1 F ++ restL M2 F)).Perm F := by
    have hn : (goneL (M1 ++ restL M2 F) (restL M1 F ++ restL M2 F)).Nodup := by
      unfold goneL
      have hh : (M1 ++ restL M2 F).Nodup := List.nodup_append.2 ⟨ha.sub.nodup, hb.sub.nodup.filter _, fun x hx y hy e => h12 y hy (e ▸ hx)⟩
      exact hh.filter _
    rw [List.perm_ext_iff_of_nodup hn hF]
    intro x
    unfold goneL
    rw [List.mem_filter]
    constructor
    · rintro ⟨g1, g2⟩
      by_cases hf : x ∈ F
      · exact hf
      · have : x ∈ restL M1 F ++ restL M2 F := by
          rcases List.mem_append.1 g1 with g | g
          · exact List.mem_append_left _ ((hR1 x).2 ⟨g, hf⟩)
          · exact List.mem_append_right _ g
        rw [(hasL_iff _ x).2 this] at g2
        simp at g2
    · intro hf
      refine ⟨List.mem_append_left _ (h1 x hf), ?_⟩
      rw [hasL_no fun h => by
        rcases List.mem_append.1 h with h | h
        · exact ((hR1 x).1 h).2 hf
        · exact ((hR2 x).1 h).2 hf]
      rfl
  have ej' : joinL (restL M1 F ++ [c]) (restL M2 F ++ [c]) = restL M1 F ++ [c] ++ restL M2 F := by
    unfold joinL
    rw [List.filter_append]
    congr 1
    rw [List.filter_eq_self.2 fun x hx => by
      rw [hasL_no fun h => by
        rcases List.mem_append.1 h with h | h
        · exact h12 x hx ((hR1 x).1 h).1
        · simp at h; subst h; exact hcR2 hx]
      rfl, List.filter_cons, if_neg (by rw [(hasL_iff _ c).2 (by simp)]; simp)]
    simp
  have ek' : keepL (restL M1 F ++ [c] ++ restL M2 F) (restL M1 F ++ restL M2 F) = restL M1 F ++ restL M2 F := by
    unfold keepL
    rw [List.filter_append, List.filter_append, List.filter_eq_self.2 fun x hx => (hasL_iff _ x).2 (List.mem_append_left _ hx), List.filter_eq_self.2 fun x hx => (hasL_iff _ x).2 (List.mem_append_right _ hx), List.filter_cons, if_neg (by rw [hasL_no hcK]; simp)]
    simp
  have eg' : goneL (restL M1 F ++ [c] ++ restL M2 F) (restL M1 F ++ restL M2 F) = [c] := by
    unfold goneL
    have f1 : (restL M1 F).filter (fun x => !hasL (restL M1 F ++ restL M2 F) x) = [] := List.filter_eq_nil_iff.2 fun x hx => by rw [(hasL_iff _ x).2 (List.mem_append_left _ hx)]; simp
    have f2 : (restL M2 F).filter (fun x => !hasL (restL M1 F ++ restL M2 F) x) = [] := List.filter_eq_nil_iff.2 fun x hx => by rw [(hasL_iff _ x).2 (List.mem_append_right _ hx)]; simp
    rw [List.filter_append, List.filter_append, f1, f2, List.filter_cons, if_pos (by rw [hasL_no hcK]; rfl)]
    simp
  refine ⟨by rw [ej, ek], by rw [ej', ek'], ?_⟩
  unfold contrXs
  rw [ej, ej', ek, ek']
  have sK : Sub U (restL M1 F ++ restL M2 F) := ⟨List.nodup_append.2 ⟨ha.sub.nodup.filter _, hb.sub.nodup.filter _, fun x hx y hy e => h12 y hy (e ▸ ((hR1 x).1 hx).1)⟩, fun l hl => by
    rcases List.mem_append.1 hl with h | h
    · exact ha.sub.sub l ((hR1 l).1 h).1
    · exact hb.sub.sub l ((hR2 l).1 h).1⟩
  refine tab_fits ha.uni sK fun σ hf => ?_
  unfold contrF
  rw [eg', sumA_perm (rig hr) _ (axs_perm eg) (by rw [labs_axs]; exact (eg.nodup_iff).2 hF)]
  have e1 : sumA (rig hr) (axs dm F) (mulF hr dm M1 M2 xs ys) σ = sumA (rig hr) (axs dm F) (fun τ => (rig hr).mul (valT hr dm (restL M1 F ++ F) (permXs hr dm M1 (restL M1 F ++ F) xs) τ) (valT hr dm (restL M2 F ++ F) (permXs hr dm M2 (restL M2 F ++ F) ys) τ)) σ := by
    refine sumA_congr (rig hr) fun τ g1 g2 => ?_
    have g2 := g2 (by rw [labs_axs]; exact hF)
    have fit : ∀ R : List Int, (∀ x ∈ R, x ∈ restL M1 F ++ restL M2 F) → (∀ x ∈ R, x ∉ F) → Fits (axs dm (R ++ F)) τ := fun R hR hRF a ha => by
      obtain ⟨l, hl, rfl⟩ := List.mem_map.1 ha
      rcases List.mem_append.1 hl with h | h
      · have e := g1 l (by rw [labs_axs]; exact hRF l h)
        have := hf (l, dm l) (List.mem_map_of_mem (hR l h))
        show 0 ≤ τ l ∧ τ l < dm l
        rw [e]; exact this
      · exact g2 (l, dm l) (List.mem_map_of_mem h)
    show (rig hr).mul _ _ = (rig hr).mul _ _
    congr 1
    · unfold permXs
      rw [valT_tab hr ((valT_dep hr dm M1 xs).perm p1) (fit _ (fun x hx => List.mem_append_left _ hx) fun x hx => ((hR1 x).1 hx).2)]
    · unfold permXs
      rw [valT_tab hr ((valT_dep hr dm M2 ys).perm p2) (fit _ (fun x hx => List.mem_append_right _ hx) fun x hx => ((hR2 x).1 hx).2)]
  rw [e1, sumA_fused (rig hr) (l := c) (G := mulF hr dm (restL M1 F ++ [c]) (restL M2 F ++ [c]) (permXs hr dm M1 (restL M1 F ++ F) xs) (permXs hr dm M2 (restL M2 F ++ F) ys)) σ fun o ho => ?_]
  · have : axs dm [c] = [(c, ((size (axs dm F) : Nat) : Int))] := by
      show [(c, dm c)] = _
      rw [hc, ha.uni.size sF]
    rw [this]
  · show (rig hr).mul _ _ = (rig hr).mul _ _
    rw [fused_val hr hcR1 hszc hF (fun x hx => ((hR1 x).1 hx).2) σ ho, fused_val hr hcR2 hszc hF (fun x hx => ((hR2 x).1 hx).2) σ ho]
end
end Go.Proofs.Ytabeciopggofkaa

/- The law of fused axes, plain, at its labels. No program in sight. -/
namespace Go.Proofs.Ytabeciopggofkaa
open Go.RowKit
set_option linter.unusedSimpArgs false
set_option linter.unusedVariables false

def dm9 (l : Int) : Int := if l = 1 then 3 else if l = 9 then 6 else 2
def U9 : List Int := [1, 3, 4, 5, 9]
theorem uni9 : Uni dm9 U9 := ⟨by
  refine ⟨by simp [U9], by simp [U9], fun l hl => ?_, by decide, fun d hd => ?_, by decide⟩
  · simp [U9] at hl; omega
  · simp [U9, dm9] at hd; omega⟩
theorem sub314 : Sub U9 [3, 1, 4] := ⟨by decide, by decide⟩
theorem sub153 : Sub U9 [1, 5, 3] := ⟨by decide, by decide⟩
theorem map314 : [3, 1, 4].map dm9 = [2, 3, 2] := by decide
theorem map153 : [1, 5, 3].map dm9 = [3, 2, 2] := by decide
theorem rest314 {M : List Int} (h : M.Perm [3, 1, 4]) : restL M [3, 1] = [4] := by
  have h2 : (restL M [3, 1]).Perm (restL [3, 1, 4] [3, 1]) := h.filter _
  have e : restL [3, 1, 4] [3, 1] = [4] := by decide
  rw [e] at h2
  exact List.perm_singleton.1 h2
theorem rest153 {M : List Int} (h : M.Perm [1, 5, 3]) : restL M [3, 1] = [5] := by
  have h2 : (restL M [3, 1]).Perm (restL [1, 5, 3] [3, 1]) := h.filter _
  have e : restL [1, 5, 3] [3, 1] = [5] := by decide
  rw [e] at h2
  exact List.perm_singleton.1 h2
section
variable {k p n : Int} (hr : ringOk k p n = true)
theorem fused_law {M1 M2 : List Int} {xs ys : List (El k p n)} (hp1 : M1.Perm [3, 1, 4]) (hp2 : M2.Perm [1, 5, 3]) (ha : IsT k p n dm9 U9 M1 xs) (hb : IsT k p n dm9 U9 M2 ys) :
    keepL (joinL M1 M2) [4, 5] = [4, 5] ∧ keepL (joinL [4, 9] [5, 9]) [4, 5] = [4, 5] ∧
    contrXs hr dm9 M1 M2 [4, 5] xs ys = contrXs hr dm9 [4, 9] [5, 9] [4, 5] (permXs hr dm9 M1 [4, 3, 1] xs) (permXs hr dm9 M2 [5, 3, 1] ys) ∧
    sortL [4, 3, 1] = sortL M1 ∧ permXs hr dm9 [4, 3, 1] (sortL [4, 3, 1]) (permXs hr dm9 M1 [4, 3, 1] xs) = permXs hr dm9 M1 (sortL M1) xs := by
  have e1 := rest314 hp1
  have e2 := rest153 hp2
  have h := fused_contr hr (F := [3, 1]) (c := 9) ha hb (by decide) (fun f hf => hp1.mem_iff.2 (by simp at hf ⊢; omega)) (fun f hf => hp2.mem_iff.2 (by simp at hf ⊢; omega))
    (fun x hx hx2 => by rw [e2] at hx; have := hp1.mem_iff.1 hx2; simp at hx this; omega) (fun h => by have := hp1.mem_iff.1 h; simp at this) (fun h => by have := hp2.mem_iff.1 h; simp at this) (by decide) (by decide)
  rw [e1, e2] at h
  have hM : M1.Perm [4, 3, 1] := hp1.trans (by decide)
  have hs := perm_sort hr ha hM
  exact ⟨h.1, h.2.1, h.2.2, hs.1.symm, hs.2.symm⟩
end
end Go.Proofs.Ytabeciopggofkaa

/- Tensors added, multiplied and scaled element by element, plain. No program in sight. -/
namespace Go.Proofs.Ytabeciopggofkaa
open Go.RowKit
set_option linter.unusedSimpArgs false
set_option linter.unusedVariables false

/-- A list whose first elements are another one's. -/
def mixX {α : Type} (zs ys : List α) (i : Nat) : List α := zs.take i ++ ys.drop i
theorem mixX_zero {α : Type} (zs ys : List α) : mixX zs ys 0 = ys := by simp [mixX]
theorem mixX_all {α : Type} {zs ys : List α} (h : zs.length = ys.length) : mixX zs ys ys.length = zs := by simp [mixX, ← h]
theorem mixX_length {α : Type} {zs ys : List α} (h : zs.length = ys.length) (i : Nat) : (mixX zs ys i).length = ys.length := by simp [mixX]; omega
theorem mixX_get {α : Type} {zs ys : List α} (h : zs.length = ys.length) {i : Nat} {y : α} (hy : ys[i]? = some y) : (mixX zs ys i)[i]? = some y := by
  obtain ⟨hi, rfl⟩ := List.getElem?_eq_some_iff.1 hy
  unfold mixX
  rw [List.getElem?_append_right (by rw [List.length_take]; omega), List.length_take, Nat.min_eq_left (by omega), Nat.sub_self, List.getElem?_drop, Nat.add_zero]
  exact List.getElem?_eq_getElem hi
theorem mixX_step {α : Type} {zs ys : List α} (h : zs.length = ys.length) {i : Nat} {z : α} (hz : zs[i]? = some z) : (mixX zs ys i).set i z = mixX zs ys (i + 1) := by
  obtain ⟨hi, rfl⟩ := List.getElem?_eq_some_iff.1 hz
  have e : (zs.take i).length = i := by rw [List.length_take]; omega
  unfold mixX
  rw [List.drop_eq_getElem_cons (by omega), List.set_append_right _ _ (by omega), e, Nat.sub_self, List.set_cons_zero, List.take_succ_eq_append_getElem hi, List.append_assoc]; rfl
section
variable {k p n : Int} (hr : ringOk k p n = true)
/-- One round of a loop that changes element after element. -/
theorem flat_mix {W : Nat} (hW : ringWidth k n = (W : Int)) {zs ys : List (El k p n)} (h : zs.length = ys.length) {i : Nat} {y z : El k p n} (hy : ys[i]? = some y) (hz : zs[i]? = some z) :
    i * W + W ≤ (flat (mixX zs ys i)).length ∧ getL (flat (mixX zs ys i)) (i * W) W = y.1 ∧ putL (flat (mixX zs ys i)) (i * W) z.1 = flat (mixX zs ys (i + 1)) := by
  have hi := (List.getElem?_eq_some_iff.1 hy).1
  refine ⟨?_, flat_get hW (mixX_get h hy), ?_⟩
  · rw [flat_length hW, mixX_length h]
    have : (i + 1) * W ≤ ys.length * W := Nat.mul_le_mul_right _ (by omega)
    rw [Nat.add_mul, Nat.one_mul] at this
    exact this
  · rw [flat_put hW (by rw [mixX_length h]; exact hi), mixX_step h hz]
theorem flat_at {W : Nat} (hW : ringWidth k n = (W : Int)) {ys : List (El k p n)} {i : Nat} {y : El k p n} (hy : ys[i]? = some y) : i * W + W ≤ (flat ys).length ∧ getL (flat ys) (i * W) W = y.1 := by
  have hi := (List.getElem?_eq_some_iff.1 hy).1
  refine ⟨?_, flat_get hW hy⟩
  rw [flat_length hW]
  have : (i + 1) * W ≤ ys.length * W := Nat.mul_le_mul_right _ (by omega)
  rw [Nat.add_mul, Nat.one_mul] at this
  exact this
/-- What 'AddTensors' adds up, what 'MultiplyTensors' multiplies: ys is in the order of xs. -/
def addXs (xs ys : List (El k p n)) : List (El k p n) := List.zipWith (rig hr).add ys xs
def mulXs (xs ys : List (El k p n)) : List (El k p n) := List.zipWith (rig hr).mul xs ys
def scaleXs (x : El k p n) (xs : List (El k p n)) : List (El k p n) := xs.map ((rig hr).mul x)
theorem addXs_tab {dm : Int → Int} {U L M : List Int} {xs ys : List (El k p n)} (hx : IsT k p n dm U L xs) (hy : IsT k p n dm U M ys) : addXs hr xs (permXs hr dm M L ys) = tab (axs dm L) (fun τ => (rig hr).add (valT hr dm M ys τ) (valT hr dm L xs τ)) σ0 := by
  conv => lhs; rw [← tab_valT hr hx.sub.nodup hx.len σ0]
  unfold addXs permXs
  rw [tab_zip]
theorem mulXs_tab {dm : Int → Int} {U L M : List Int} {xs ys : List (El k p n)} (hx : IsT k p n dm U L xs) (hy : IsT k p n dm U M ys) : mulXs hr xs (permXs hr dm M L ys) = tab (axs dm L) (mulF hr dm L M xs ys) σ0 := by
  conv => lhs; rw [← tab_valT hr hx.sub.nodup hx.len σ0]
  unfold mulXs permXs
  rw [tab_zip]
  rfl
theorem scaleXs_isT {dm : Int → Int} {U L : List Int} (x : El k p n) {xs : List (El k p n)} (hx : IsT k p n dm U L xs) : IsT k p n dm U L (scaleXs hr x xs) := ⟨hx.uni, hx.sub, by unfold scaleXs; rw [List.length_map]; exact hx.len⟩
theorem addXs_isT {dm : Int → Int} {U L M : List Int} {xs ys : List (El k p n)} (hx : IsT k p n dm U L xs) (hy : IsT k p n dm U M ys) : IsT k p n dm U L (addXs hr xs (permXs hr dm M L ys)) := by rw [addXs_tab hr hx hy]; exact IsT.tab hx.uni hx.sub _
theorem val_both_dep {dm : Int → Int} {L M : List Int} (hp : L.Perm M) (xs ys : List (El k p n)) (f : El k p n → El k p n → El k p n) : Dep (fun τ => f (valT hr dm M ys τ) (valT hr dm L xs τ)) L := fun σ τ h => by
  show f _ _ = f _ _
  rw [valT_dep hr dm L xs σ τ h, valT_dep hr dm M ys σ τ fun l hl => h l (hp.mem_iff.2 hl)]
/-- One round of each loop, told of integers. -/
theorem add_step {W : Nat} (hW : ringWidth k n = (W : Int)) {xs ys : List (El k p n)} (h : xs.length = ys.length) {j : Nat} (hj : j < ys.length) :
    ∃ x y : List Int, j * W + W ≤ (flat ys).length ∧ j * W + W ≤ (flat xs).length ∧ getL (flat xs) (j * W) W = x ∧ getL (flat (mixX (addXs hr xs ys) ys j)) (j * W) W = y ∧ rawOk k p n x = true ∧ rawOk k p n y = true ∧
      putL (flat (mixX (addXs hr xs ys) ys j)) (j * W) (addL k p y x) = flat (mixX (addXs hr xs ys) ys (j + 1)) := by
  obtain ⟨x, hx⟩ : ∃ x, xs[j]? = some x := ⟨_, List.getElem?_eq_getElem (by omega)⟩
  obtain ⟨y, hy⟩ : ∃ y, ys[j]? = some y := ⟨_, List.getElem?_eq_getElem hj⟩
  have hz : (addXs hr xs ys)[j]? = some ((rig hr).add y x) := by unfold addXs; rw [List.getElem?_zipWith, hy, hx]
  have hl : (addXs hr xs ys).length = ys.length := by unfold addXs; rw [List.length_zipWith]; omega
  obtain ⟨_, h2, h3⟩ := flat_mix hW hl hy hz
  exact ⟨x.1, y.1, (flat_at hW hy).1, (flat_at hW hx).1, (flat_at hW hx).2, h2, x.2, y.2, h3⟩
theorem mul_step {W : Nat} (hW : ringWidth k n = (W : Int)) {xs ys : List (El k p n)} (h : xs.length = ys.length) {j : Nat} (hj : j < ys.length) :
    ∃ x y : List Int, j * W + W ≤ (flat ys).length ∧ j * W + W ≤ (flat xs).length ∧ getL (flat xs) (j * W) W = x ∧ getL (flat ys) (j * W) W = y ∧ rawOk k p n x = true ∧ rawOk k p n y = true ∧
      putL (flat (mixX (mulXs hr xs ys) ys j)) (j * W) (mulL k p x y) = flat (mixX (mulXs hr xs ys) ys (j + 1)) := by
  obtain ⟨x, hx⟩ : ∃ x, xs[j]? = some x := ⟨_, List.getElem?_eq_getElem (by omega)⟩
  obtain ⟨y, hy⟩ : ∃ y, ys[j]? = some y := ⟨_, List.getElem?_eq_getElem hj⟩
  have hz : (mulXs hr xs ys)[j]? = some ((rig hr).mul x y) := by unfold mulXs; rw [List.getElem?_zipWith, hx, hy]
  have hl : (mulXs hr xs ys).length = ys.length := by unfold mulXs; rw [List.length_zipWith]; omega
  obtain ⟨_, _, h3⟩ := flat_mix hW hl hy hz
  exact ⟨x.1, y.1, (flat_at hW hy).1, (flat_at hW hx).1, (flat_at hW hx).2, (flat_at hW hy).2, x.2, y.2, h3⟩
theorem scale_step {W : Nat} (hW : ringWidth k n = (W : Int)) (x : El k p n) {ys : List (El k p n)} {j : Nat} (hj : j < ys.length) :
    ∃ y : List Int, j * W + W ≤ (flat ys).length ∧ getL (flat ys) (j * W) W = y ∧ rawOk k p n y = true ∧
      putL (flat (mixX (scaleXs hr x ys) ys j)) (j * W) (mulL k p x.1 y) = flat (mixX (scaleXs hr x ys) ys (j + 1)) := by
  obtain ⟨y, hy⟩ : ∃ y, ys[j]? = some y := ⟨_, List.getElem?_eq_getElem hj⟩
  have hz : (scaleXs hr x ys)[j]? = some ((rig hr).mul x y) := by unfold scaleXs; rw [List.getElem?_map, hy]; rfl
  have hl : (scaleXs hr x ys).length = ys.length := by unfold scaleXs; rw [List.length_map]
  obtain ⟨_, _, h3⟩ := flat_mix hW hl hy hz
  exact ⟨y.1, (flat_at hW hy).1, (flat_at hW hy).2, y.2, h3⟩
/-- Sums in both orders are one tensor. -/
theorem add_sort {dm : Int → Int} {U L M : List Int} {xs ys : List (El k p n)} (hx : IsT k p n dm U L xs) (hy : IsT k p n dm U M ys) (hp : L.Perm M) :
    sortL L = sortL M ∧ permXs hr dm L (sortL L) (addXs hr xs (permXs hr dm M L ys)) = permXs hr dm M (sortL M) (addXs hr ys (permXs hr dm L M xs)) := by
  rw [addXs_tab hr hx hy, addXs_tab hr hy hx]
  exact sort_same hr hx.uni hx.sub hp (val_both_dep hr hp xs ys (rig hr).add) (val_both_dep hr hp.symm ys xs (rig hr).add) fun σ => (rig hr).add_comm _ _
theorem permXs_map {dm : Int → Int} {L M : List Int} (f : El k p n → El k p n) (h0 : f (rig hr).zero = (rig hr).zero) (xs : List (El k p n)) : permXs hr dm L M (xs.map f) = (permXs hr dm L M xs).map f := by
  unfold permXs
  rw [tab_map]
  congr 1
  funext τ
  unfold valT
  rw [List.getD_eq_getElem?_getD, List.getD_eq_getElem?_getD, List.getElem?_map]
  cases xs[off (axs dm L) τ]? with
  | none => exact h0.symm
  | some x => rfl
/-- Scaling goes through a sum. -/
theorem scale_add {dm : Int → Int} {L M : List Int} (x : El k p n) (xs ys : List (El k p n)) : scaleXs hr x (addXs hr xs (permXs hr dm M L ys)) = addXs hr (scaleXs hr x xs) (permXs hr dm M L (scaleXs hr x ys)) := by
  unfold scaleXs addXs
  rw [permXs_map hr _ ((rig hr).mul_zero x), List.map_zipWith, List.zipWith_map]
  congr 1
  funext a b
  exact (rig hr).mul_add _ _ _
theorem joinL_sub {a b : List Int} (h : ∀ x ∈ b, x ∈ a) : joinL a b = a := by
  unfold joinL
  rw [List.filter_eq_nil_iff.2 fun x hx => by rw [(hasL_iff a x).2 (h x hx)]; simp, List.append_nil]
/-- The product element by element is a contraction that keeps all. -/
theorem mul_contr {dm : Int → Int} {U L M : List Int} {xs ys : List (El k p n)} (hx : IsT k p n dm U L xs) (hy : IsT k p n dm U M ys) (hp : L.Perm M) :
    keepL (joinL L M) L = L ∧ contrXs hr dm L M L xs ys = mulXs hr xs (permXs hr dm M L ys) := by
  have e := joinL_sub fun x hx => hp.mem_iff.2 hx
  have hall : ∀ x ∈ joinL L M, x ∈ L := by rw [e]; exact fun x h => h
  refine ⟨by rw [keepL_all hall, e], ?_⟩
  rw [contr_all hr hall, e, mulXs_tab hr hx hy]
theorem zero_addXs (xs : List (El k p n)) : addXs hr (List.replicate xs.length (rig hr).zero) xs = xs := by
  unfold addXs
  induction xs with
  | nil => rfl
  | cons x xs ih => rw [List.length_cons, List.replicate_succ, List.zipWith_cons_cons, ih, (rig hr).add_zero]
end
end Go.Proofs.Ytabeciopggofkaa

/- The law of slices, plain: a tensor is the stack of its slices; their sum. No program in sight. -/
namespace Go.Proofs.Ytabeciopggofkaa
open Go.RowKit
set_option linter.unusedSimpArgs false
set_option linter.unusedVariables false

section
variable {k p n : Int} (hr : ringOk k p n = true)
/-- What has been added up behind v slices. -/
def accXs (dm : Int → Int) (L : List Int) (x : Int) (v : Nat) (xs : List (El k p n)) : List (El k p n) :=
  tab (axs dm (cutL L x)) (fun τ => sumN (rig hr) v fun u => valT hr dm L xs (upd τ x (u : Nat))) σ0
theorem accXs_isT {dm : Int → Int} {U L : List Int} {xs : List (El k p n)} (h : IsT k p n dm U L xs) (x : Int) (v : Nat) : IsT k p n dm U (cutL L x) (accXs hr dm L x v xs) := IsT.tab h.uni (h.sub.cut x) _
theorem accXs_zero (dm : Int → Int) (L : List Int) (x : Int) (xs : List (El k p n)) : accXs hr dm L x 0 xs = List.replicate (size (axs dm (cutL L x))) (rig hr).zero := by
  unfold accXs
  rw [tab_range]
  show (List.range _).map (fun _ => (rig hr).zero) = _
  rw [List.map_const', List.length_range]
theorem permXs_selfT {dm : Int → Int} {U L : List Int} {xs : List (El k p n)} (h : IsT k p n dm U L xs) : permXs hr dm L L xs = xs := by
  unfold permXs; exact tab_valT hr h.sub.nodup h.len σ0
theorem accXs_step {dm : Int → Int} {U L : List Int} {xs : List (El k p n)} (h : IsT k p n dm U L xs) (x : Int) (v : Nat) :
    addXs hr (accXs hr dm L x v xs) (permXs hr dm (cutL L x) (cutL L x) (cutXs hr dm L x (fun _ => (v : Int)) xs)) = accXs hr dm L x (v + 1) xs := by
  rw [permXs_selfT hr (cutXs_isT hr h x _)]
  unfold addXs accXs cutXs
  rw [tab_zip]
  congr 1
  funext τ
  exact (rig hr).add_comm _ _
theorem goneL_cut {L : List Int} {x : Int} (hn : L.Nodup) (hx : x ∈ L) : (goneL L (cutL L x)).Perm [x] := by
  have h1 : (goneL L (cutL L x)).Nodup := by unfold goneL; exact hn.filter _
  rw [List.perm_ext_iff_of_nodup h1 (by simp)]
  intro y
  unfold goneL
  rw [List.mem_filter, List.mem_singleton]
  constructor
  · rintro ⟨h2, h3⟩
    by_cases e : y = x
    · exact e
    · rw [(hasL_iff _ y).2 (mem_cutL.2 ⟨h2, e⟩)] at h3
      simp at h3
  · rintro rfl
    refine ⟨hx, ?_⟩
    cases e : hasL (cutL L y) y
    · rfl
    · exact absurd ((hasL_iff _ _).1 e) (not_mem_cutL L y)
theorem keepL_cut {L : List Int} {x : Int} : keepL L (cutL L x) = cutL L x := by
  unfold keepL cutL
  apply List.filter_congr
  intro y hy
  rw [Bool.eq_iff_iff, hasL_iff, List.mem_filter]
  constructor
  · exact fun h => h.2
  · exact fun h => ⟨hy, h⟩
/-- All slices, added up, are the sum over the label. -/
theorem accXs_all {dm : Int → Int} {U L : List Int} {xs : List (El k p n)} (h : IsT k p n dm U L xs) {x : Int} (hx : x ∈ L) {d : Nat} (hd : dm x = (d : Int)) : keepL L (cutL L x) = cutL L x ∧ accXs hr dm L x d xs = sumXs hr dm L (cutL L x) xs := by
  refine ⟨keepL_cut, ?_⟩
  unfold accXs sumXs
  rw [keepL_cut]
  congr 1
  funext τ
  unfold contrF
  rw [sumA_perm (rig hr) _ (axs_perm (goneL_cut h.sub.nodup hx)) (by rw [labs_axs]; unfold goneL; exact h.sub.nodup.filter _)]
  show _ = sumA (rig hr) [(x, dm x)] _ τ
  rw [sumA_slices, hd]
  rfl
/-- The rows of a stack: the elements at one place of each slice. -/
def stackRow (l : List (List (El k p n))) (o : Nat) : List (El k p n) := l.filterMap fun ys => ys[o]?
def stackXs (l : List (List (El k p n))) (m : Nat) : List (El k p n) := (List.range m).flatMap (stackRow l)
theorem stackXs_step (l : List (List (El k p n))) (m : Nat) : stackXs l (m + 1) = stackXs l m ++ stackRow l m := by
  unfold stackXs
  rw [List.range_succ, List.flatMap_append]
  simp
/-- The slices, stacked, are the tensor with its axes in another order. -/
theorem stack_data {dm : Int → Int} {U L : List Int} {xs : List (El k p n)} (h : IsT k p n dm U L xs) {x : Int} (hx : x ∈ L) {d : Nat} (hd : dm x = (d : Int)) :
    stackXs ((List.range d).map fun v : Nat => cutXs hr dm L x (fun _ => (v : Int)) xs) (size (axs dm (cutL L x))) = permXs hr dm L (cutL L x ++ [x]) xs := by
  unfold permXs
  rw [axs_append, tab_append, tab_range]
  unfold stackXs
  rw [← List.flatMap_def]
  apply flatMap_congr'
  intro o ho
  have ho := List.mem_range.1 ho
  show stackRow _ o = (List.range (dm x).toNat).flatMap fun v : Nat => [valT hr dm L xs (upd (asg (axs dm (cutL L x)) o σ0) x (v : Nat))]
  rw [hd]
  unfold stackRow
  rw [List.filterMap_map]
  have e : ∀ l : List Nat, l.filterMap ((fun ys : List (El k p n) => ys[o]?) ∘ fun v : Nat => cutXs hr dm L x (fun _ => (v : Int)) xs) = l.flatMap fun v : Nat => [valT hr dm L xs (upd (asg (axs dm (cutL L x)) o σ0) x (v : Nat))] := by
    intro l
    induction l with
    | nil => rfl
    | cons v l ih =>
      have : (cutXs hr dm L x (fun _ => (v : Int)) xs)[o]? = some (valT hr dm L xs (upd (asg (axs dm (cutL L x)) o σ0) x (v : Nat))) := tab_get _ _ _ ho
      rw [List.filterMap_cons, List.flatMap_cons, ih]
      have hc : ((fun ys : List (El k p n) => ys[o]?) ∘ fun v : Nat => cutXs hr dm L x (fun _ => (v : Int)) xs) v = some (valT hr dm L xs (upd (asg (axs dm (cutL L x)) o σ0) x (v : Nat))) := this
      rw [hc]
      rfl
  exact e _
theorem cut_perm {L : List Int} {x : Int} (hn : L.Nodup) (hx : x ∈ L) : L.Perm (cutL L x ++ [x]) := by
  have h1 : (cutL L x ++ [x]).Nodup := List.nodup_append.2 ⟨by unfold cutL; exact hn.filter _, by simp, fun a ha b hb e => by simp at hb; subst hb; subst e; exact not_mem_cutL L _ ha⟩
  rw [List.perm_ext_iff_of_nodup hn h1]
  intro y
  rw [List.mem_append, mem_cutL, List.mem_singleton]
  constructor
  · intro hy
    by_cases e : y = x
    · exact .inr e
    · exact .inl ⟨hy, e⟩
  · rintro (⟨h, _⟩ | rfl)
    · exact h
    · exact hx
end
end Go.Proofs.Ytabeciopggofkaa
