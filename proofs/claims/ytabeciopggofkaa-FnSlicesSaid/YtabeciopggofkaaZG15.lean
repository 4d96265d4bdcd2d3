/- Texts of one kind, merged by program. -/
import Derived.Test.YtabeciopggofkaaZBase
import Derived.Test.YtabeciopggofkaaZSumLW
import Derived.Test.YtabeciopggofkaaZG10
import Derived.Test.YtabeciopggofkaaZG14
import Derived.Test.YtabeciopggofkaaZG5
import Derived.Test.YtabeciopggofkaaZDeltaJ
/- The law of three tensors, plain. No program in sight. -/
namespace Go.Proofs.Ytabeciopggofkaa
open Go.RowKit
set_option linter.unusedSimpArgs false
set_option linter.unusedVariables false

section
variable {k p n : Int} (hr : ringOk k p n = true)
theorem fits_sub {dm : Int → Int} {L M : List Int} {τ : Int → Int} (h : Fits (axs dm M) τ) (hs : ∀ l ∈ L, l ∈ M) : Fits (axs dm L) τ := fun x hx => by
  obtain ⟨l, hl, rfl⟩ := List.mem_map.1 hx
  exact h (l, dm l) (List.mem_map_of_mem (hs l hl))
/-- Tables over one list of labels agree where the functions agree at what fits. -/
theorem tab_fits {α : Type} {dm : Int → Int} {U L : List Int} (u : Uni dm U) (s : Sub U L) {F G : (Int → Int) → α} (h : ∀ τ, Fits (axs dm L) τ → F τ = G τ) : tab (axs dm L) F σ0 = tab (axs dm L) G σ0 :=
  tab_congr (Uni.nodup s) (u.dims s) fun o => h _ (asg_fits' u s o σ0)
theorem contr_all {dm : Int → Int} {a b keep : List Int} (h : ∀ x ∈ joinL a b, x ∈ keep) (xs ys : List (El k p n)) :
    contrXs hr dm a b keep xs ys = tab (axs dm (joinL a b)) (mulF hr dm a b xs ys) σ0 := by
  unfold contrXs
  rw [keepL_all h]
  congr 1
  funext σ
  exact contrF_all (rig hr) h _ σ
theorem assoc_data {dm : Int → Int} {U a b c : List Int} {xs ys zs : List (El k p n)} (ha : IsT k p n dm U a xs) (hb : IsT k p n dm U b ys) (hc : IsT k p n dm U c zs) :
    keepL (joinL (keepL (joinL a b) U) c) U = keepL (joinL a (keepL (joinL b c) U)) U ∧
      contrXs hr dm (keepL (joinL a b) U) c U (contrXs hr dm a b U xs ys) zs = contrXs hr dm a (keepL (joinL b c) U) U xs (contrXs hr dm b c U ys zs) := by
  have u := ha.uni
  have sab := ha.sub.join hb.sub
  have sbc := hb.sub.join hc.sub
  have e1 := keepL_all (keep := U) sab.sub
  have e2 := keepL_all (keep := U) sbc.sub
  rw [e1, e2, contr_all hr sab.sub, contr_all hr sbc.sub, contr_all hr (sab.join hc.sub).sub, contr_all hr (ha.sub.join sbc).sub]
  have e3 := joinL_assoc a b c
  refine ⟨by rw [e3], ?_⟩
  have s3 := ha.sub.join sbc
  rw [e3]
  refine tab_fits u s3 fun τ hf => ?_
  have f1 : Fits (axs dm (joinL a b)) τ := fits_sub hf fun l hl => by rw [← e3]; exact mem_joinL.2 (.inl hl)
  have f2 : Fits (axs dm (joinL b c)) τ := fits_sub hf fun l hl => mem_joinL.2 (.inr hl)
  show (rig hr).mul (valT hr dm (joinL a b) _ τ) _ = (rig hr).mul _ (valT hr dm (joinL b c) _ τ)
  rw [valT_tab hr (mulF_dep hr dm a b xs ys) f1, valT_tab hr (mulF_dep hr dm b c ys zs) f2]
  exact (rig hr).mul_assoc _ _ _
theorem sum_isT {dm : Int → Int} {U a : List Int} {xs : List (El k p n)} (ha : IsT k p n dm U a xs) (keep : List Int) : IsT k p n dm U (keepL a keep) (sumXs hr dm a keep xs) := IsT.tab ha.uni (ha.sub.keep keep) _
theorem early_data {dm : Int → Int} {U a b keep : List Int} {xs ys : List (El k p n)} (ha : IsT k p n dm U a xs) (hb : IsT k p n dm U b ys) (hk : ∀ x ∈ b, x ∈ keep) :
    keepL (joinL a b) keep = keepL (joinL (keepL a keep) b) keep ∧ contrXs hr dm a b keep xs ys = contrXs hr dm (keepL a keep) b keep (sumXs hr dm a keep xs) ys := by
  have u := ha.uni
  have e1 := keep_early (a := a) hk
  refine ⟨e1, ?_⟩
  unfold contrXs
  rw [← e1]
  refine tab_fits u ((ha.sub.join hb.sub).keep keep) fun τ hf => ?_
  have hall : ∀ x ∈ joinL (keepL a keep) b, x ∈ keep := fun x hx => (mem_joinL.1 hx).elim (fun h => (mem_keepL.1 h).2) (hk x)
  rw [contrF_all (rig hr) hall]
  show contrF (rig hr) dm (joinL a b) keep (fun τ => (rig hr).mul (valT hr dm a xs τ) (valT hr dm b ys τ)) τ = (rig hr).mul (valT hr dm (keepL a keep) _ τ) _
  rw [contrF_early (rig hr) hk (valT_dep hr dm b ys)]
  congr 1
  refine (valT_tab hr (contrF_dep (rig hr) (valT_dep hr dm a xs)) (fits_sub hf fun l hl => ?_) σ0).symm
  have := mem_keepL.1 hl
  exact mem_keepL.2 ⟨mem_joinL.2 (.inl this.1), this.2⟩
theorem late_data {dm : Int → Int} {U a b : List Int} (keep : List Int) {xs ys : List (El k p n)} (ha : IsT k p n dm U a xs) (hb : IsT k p n dm U b ys) :
    keepL (keepL (joinL a b) U) keep = keepL (joinL a b) keep ∧ sumXs hr dm (keepL (joinL a b) U) keep (contrXs hr dm a b U xs ys) = contrXs hr dm a b keep xs ys := by
  have u := ha.uni
  have sab := ha.sub.join hb.sub
  rw [keepL_all (keep := U) sab.sub, contr_all hr sab.sub]
  refine ⟨rfl, ?_⟩
  unfold sumXs contrXs
  refine tab_fits u (sab.keep keep) fun τ hf => ?_
  unfold contrF
  refine sumA_congr (rig hr) fun υ h1 h2 => ?_
  have hg := h2 (by rw [labs_axs]; exact (sab.gone keep).nodup)
  refine valT_tab hr (mulF_dep hr dm a b xs ys) (fun x hx => ?_) σ0
  obtain ⟨l, hl, rfl⟩ := List.mem_map.1 hx
  by_cases hlk : l ∈ keep
  · have := hf (l, dm l) (List.mem_map_of_mem (mem_keepL.2 ⟨hl, hlk⟩))
    have e : υ l = τ l := h1 l (by rw [labs_axs]; exact fun h => (mem_goneL.1 h).2 hlk)
    simp only at this ⊢
    rw [e]; exact this
  · exact hg (l, dm l) (List.mem_map_of_mem (mem_goneL.2 ⟨hl, hlk⟩))
end
end Go.Proofs.Ytabeciopggofkaa

/- Tensors added, multiplied and scaled element by element, plain. No program in sight. -/
namespace Go.Proofs.Ytabeciopggofkaa
open Go.RowKit
set_option linter.unusedSimpArgs false
set_option linter.unusedVariables false

/-- A list whose first elements are another one's. -/
def mixX {α : Type} (zs ys : List α) (i : Nat) : List α := zs.take i ++ ys.drop i
theorem mixX_zero {α : Type} (zs ys : List α) : mixX zs ys 0 = ys := by simp [mixX]
theorem mixX_all {α : Type} {zs ys : List α} (h : zs.length = ys.length) : mixX zs ys ys.length = zs := by simp [mixX, ← h]
theorem mixX_length {α : Type} {zs ys : List α} (h : zs.length = ys.length) (i : Nat) : (mixX zs ys i).length = ys.length := by simp [mixX]; omega
theorem mixX_get {α : Type} {zs ys : List α} (h : zs.length = ys.length) {i : Nat} {y : α} (hy : ys[i]? = some y) : (mixX zs ys i)[i]? = some y := by
  obtain ⟨hi, rfl⟩ := List.getElem?_eq_some_iff.1 hy
  unfold mixX
  rw [List.getElem?_append_right (by rw [List.length_take]; omega), List.length_take, Nat.min_eq_left (by omega), Nat.sub_self, List.getElem?_drop, Nat.add_zero]
  exact List.getElem?_eq_getElem hi
theorem mixX_step {α : Type} {zs ys : List α} (h : zs.length = ys.length) {i : Nat} {z : α} (hz : zs[i]? = some z) : (mixX zs ys i).set i z = mixX zs ys (i + 1) := by
  obtain ⟨hi, rfl⟩ := List.getElem?_eq_some_iff.1 hz
  have e : (zs.take i).length = i := by rw [List.length_take]; omega
  unfold mixX
  rw [List.drop_eq_getElem_cons (by omega), List.set_append_right _ _ (by omega), e, Nat.sub_self, List.set_cons_zero, List.take_succ_eq_append_getElem hi, List.append_assoc]; rfl
section
variable {k p n : Int} (hr : ringOk k p n = true)
/-- One round of a loop that changes element after element. -/
theorem flat_mix {W : Nat} (hW : ringWidth k n = (W : Int)) {zs ys : List (El k p n)} (h : zs.length = ys.length) {i : Nat} {y z : El k p n} (hy : ys[i]? = some y) (hz : zs[i]? = some z) :
    i * W + W ≤ (flat (mixX zs ys i)).length ∧ getL (flat (mixX zs ys i)) (i * W) W = y.1 ∧ putL (flat (mixX zs ys i)) (i * W) z.1 = flat (mixX zs ys (i + 1)) := by
  have hi := (List.getElem?_eq_some_iff.1 hy).1
  refine ⟨?_, flat_get hW (mixX_get h hy), ?_⟩
  · rw [flat_length hW, mixX_length h]
    have : (i + 1) * W ≤ ys.length * W := Nat.mul_le_mul_right _ (by omega)
    rw [Nat.add_mul, Nat.one_mul] at this
    exact this
  · rw [flat_put hW (by rw [mixX_length h]; exact hi), mixX_step h hz]
theorem flat_at {W : Nat} (hW : ringWidth k n = (W : Int)) {ys : List (El k p n)} {i : Nat} {y : El k p n} (hy : ys[i]? = some y) : i * W + W ≤ (flat ys).length ∧ getL (flat ys) (i * W) W = y.1 := by
  have hi := (List.getElem?_eq_some_iff.1 hy).1
  refine ⟨?_, flat_get hW hy⟩
  rw [flat_length hW]
  have : (i + 1) * W ≤ ys.length * W := Nat.mul_le_mul_right _ (by omega)
  rw [Nat.add_mul, Nat.one_mul] at this
  exact this
/-- What 'AddTensors' adds up, what 'MultiplyTensors' multiplies: ys is in the order of xs. -/
def addXs (xs ys : List (El k p n)) : List (El k p n) := List.zipWith (rig hr).add ys xs
def mulXs (xs ys : List (El k p n)) : List (El k p n) := List.zipWith (rig hr).mul xs ys
def scaleXs (x : El k p n) (xs : List (El k p n)) : List (El k p n) := xs.map ((rig hr).mul x)
theorem addXs_tab {dm : Int → Int} {U L M : List Int} {xs ys : List (El k p n)} (hx : IsT k p n dm U L xs) (hy : IsT k p n dm U M ys) : addXs hr xs (permXs hr dm M L ys) = tab (axs dm L) (fun τ => (rig hr).add (valT hr dm M ys τ) (valT hr dm L xs τ)) σ0 := by
  conv => lhs; rw [← tab_valT hr hx.sub.nodup hx.len σ0]
  unfold addXs permXs
  rw [tab_zip]
theorem mulXs_tab {dm : Int → Int} {U L M : List Int} {xs ys : List (El k p n)} (hx : IsT k p n dm U L xs) (hy : IsT k p n dm U M ys) : mulXs hr xs (permXs hr dm M L ys) = tab (axs dm L) (mulF hr dm L M xs ys) σ0 := by
  conv => lhs; rw [← tab_valT hr hx.sub.nodup hx.len σ0]
  unfold mulXs permXs
  rw [tab_zip]
  rfl
theorem scaleXs_isT {dm : Int → Int} {U L : List Int} (x : El k p n) {xs : List (El k p n)} (hx : IsT k p n dm U L xs) : IsT k p n dm U L (scaleXs hr x xs) := ⟨hx.uni, hx.sub, by unfold scaleXs; rw [List.length_map]; exact hx.len⟩
theorem addXs_isT {dm : Int → Int} {U L M : List Int} {xs ys : List (El k p n)} (hx : IsT k p n dm U L xs) (hy : IsT k p n dm U M ys) : IsT k p n dm U L (addXs hr xs (permXs hr dm M L ys)) := by rw [addXs_tab hr hx hy]; exact IsT.tab hx.uni hx.sub _
theorem val_both_dep {dm : Int → Int} {L M : List Int} (hp : L.Perm M) (xs ys : List (El k p n)) (f : El k p n → El k p n → El k p n) : Dep (fun τ => f (valT hr dm M ys τ) (valT hr dm L xs τ)) L := fun σ τ h => by
  show f _ _ = f _ _
  rw [valT_dep hr dm L xs σ τ h, valT_dep hr dm M ys σ τ fun l hl => h l (hp.mem_iff.2 hl)]
/-- One round of each loop, told of integers. -/
theorem add_step {W : Nat} (hW : ringWidth k n = (W : Int)) {xs ys : List (El k p n)} (h : xs.length = ys.length) {j : Nat} (hj : j < ys.length) :
    ∃ x y : List Int, j * W + W ≤ (flat ys).length ∧ j * W + W ≤ (flat xs).length ∧ getL (flat xs) (j * W) W = x ∧ getL (flat (mixX (addXs hr xs ys) ys j)) (j * W) W = y ∧ rawOk k p n x = true ∧ rawOk k p n y = true ∧
      putL (flat (mixX (addXs hr xs ys) ys j)) (j * W) (addL k p y x) = flat (mixX (addXs hr xs ys) ys (j + 1)) := by
  obtain ⟨x, hx⟩ : ∃ x, xs[j]? = some x := ⟨_, List.getElem?_eq_getElem (by omega)⟩
  obtain ⟨y, hy⟩ : ∃ y, ys[j]? = some y := ⟨_, List.getElem?_eq_getElem hj⟩
  have hz : (addXs hr xs ys)[j]? = some ((rig hr).add y x) := by unfold addXs; rw [List.getElem?_zipWith, hy, hx]
  have hl : (addXs hr xs ys).length = ys.length := by unfold addXs; rw [List.length_zipWith]; omega
  obtain ⟨_, h2, h3⟩ := flat_mix hW hl hy hz
  exact ⟨x.1, y.1, (flat_at hW hy).1, (flat_at hW hx).1, (flat_at hW hx).2, h2, x.2, y.2, h3⟩
theorem mul_step {W : Nat} (hW : ringWidth k n = (W : Int)) {xs ys : List (El k p n)} (h : xs.length = ys.length) {j : Nat} (hj : j < ys.length) :
    ∃ x y : List Int, j * W + W ≤ (flat ys).length ∧ j * W + W ≤ (flat xs).length ∧ getL (flat xs) (j * W) W = x ∧ getL (flat ys) (j * W) W = y ∧ rawOk k p n x = true ∧ rawOk k p n y = true ∧
      putL (flat (mixX (mulXs hr xs ys) ys j)) (j * W) (mulL k p x y) = flat (mixX (mulXs hr xs ys) ys (j + 1)) := by
  obtain ⟨x, hx⟩ : ∃ x, xs[j]? = some x := ⟨_, List.getElem?_eq_getElem (by omega)⟩
  obtain ⟨y, hy⟩ : ∃ y, ys[j]? = some y := ⟨_, List.getElem?_eq_getElem hj⟩
  have hz : (mulXs hr xs ys)[j]? = some ((rig hr).mul x y) := by unfold mulXs; rw [List.getElem?_zipWith, hx, hy]
  have hl : (mulXs hr xs ys).length = ys.length := by unfold mulXs; rw [List.length_zipWith]; omega
  obtain ⟨_, _, h3⟩ := flat_mix hW hl hy hz
  exact ⟨x.1, y.1, (flat_at hW hy).1, (flat_at hW hx).1, (flat_at hW hx).2, (flat_at hW hy).2, x.2, y.2, h3⟩
theorem scale_step {W : Nat} (hW : ringWidth k n = (W : Int)) (x : El k p n) {ys : List (El k p n)} {j : Nat} (hj : j < ys.length) :
    ∃ y : List Int, j * W + W ≤ (flat ys).length ∧ getL (flat ys) (j * W) W = y ∧ rawOk k p n y = true ∧
      putL (flat (mixX (scaleXs hr x ys) ys j)) (j * W) (mulL k p x.1 y) = flat (mixX (scaleXs hr x ys) ys (j + 1)) := by
  obtain ⟨y, hy⟩ : ∃ y, ys[j]? = some y := ⟨_, List.getElem?_eq_getElem hj⟩
  have hz : (scaleXs hr x ys)[j]? = some ((rig hr).mul x y) := by unfold scaleXs; rw [List.getElem?_map, hy]; rfl
  have hl : (scaleXs hr x ys).length = ys.length := by unfold scaleXs; rw [List.length_map]
  obtain ⟨_, _, h3⟩ := flat_mix hW hl hy hz
  exact ⟨y.1, (flat_at hW hy).1, (flat_at hW hy).2, y.2, h3⟩
/-- Sums in both orders are one tensor. -/
theorem add_sort {dm : Int → Int} {U L M : List Int} {xs ys : List (El k p n)} (hx : IsT k p n dm U L xs) (hy : IsT k p n dm U M ys) (hp : L.Perm M) :
    sortL L = sortL M ∧ permXs hr dm L (sortL L) (addXs hr xs (permXs hr dm M L ys)) = permXs hr dm M (sortL M) (addXs hr ys (permXs hr dm L M xs)) := by
  rw [addXs_tab hr hx hy, addXs_tab hr hy hx]
  exact sort_same hr hx.uni hx.sub hp (val_both_dep hr hp xs ys (rig hr).add) (val_both_dep hr hp.symm ys xs (rig hr).add) fun σ => (rig hr).add_comm _ _
theorem permXs_map {dm : Int → Int} {L M : List Int} (f : El k p n → El k p n) (h0 : f (rig hr).zero = (rig hr).zero) (xs : List (El k p n)) : permXs hr dm L M (xs.map f) = (permXs hr dm L M xs).map f := by
  unfold permXs
  rw [tab_map]
  congr 1
  funext τ
  unfold valT
  rw [List.getD_eq_getElem?_getD, List.getD_eq_getElem?_getD, List.getElem?_map]
  cases xs[off (axs dm L) τ]? with
  | none => exact h0.symm
  | some x => rfl
/-- Scaling goes through a sum. -/
theorem scale_add {dm : Int → Int} {L M : List Int} (x : El k p n) (xs ys : List (El k p n)) : scaleXs hr x (addXs hr xs (permXs hr dm M L ys)) = addXs hr (scaleXs hr x xs) (permXs hr dm M L (scaleXs hr x ys)) := by
  unfold scaleXs addXs
  rw [permXs_map hr _ ((rig hr).mul_zero x), List.map_zipWith, List.zipWith_map]
  congr 1
  funext a b
  exact (rig hr).mul_add _ _ _
theorem joinL_sub {a b : List Int} (h : ∀ x ∈ b, x ∈ a) : joinL a b = a := by
  unfold joinL
  rw [List.filter_eq_nil_iff.2 fun x hx => by rw [(hasL_iff a x).2 (h x hx)]; simp, List.append_nil]
/-- The product element by element is a contraction that keeps all. -/
theorem mul_contr {dm : Int → Int} {U L M : List Int} {xs ys : List (El k p n)} (hx : IsT k p n dm U L xs) (hy : IsT k p n dm U M ys) (hp : L.Perm M) :
    keepL (joinL L M) L = L ∧ contrXs hr dm L M L xs ys = mulXs hr xs (permXs hr dm M L ys) := by
  have e := joinL_sub fun x hx => hp.mem_iff.2 hx
  have hall : ∀ x ∈ joinL L M, x ∈ L := by rw [e]; exact fun x h => h
  refine ⟨by rw [keepL_all hall, e], ?_⟩
  rw [contr_all hr hall, e, mulXs_tab hr hx hy]
theorem zero_addXs (xs : List (El k p n)) : addXs hr (List.replicate xs.length (rig hr).zero) xs = xs := by
  unfold addXs
  induction xs with
  | nil => rfl
  | cons x xs ih => rw [List.length_cons, List.replicate_succ, List.zipWith_cons_cons, ih, (rig hr).add_zero]
end
end Go.Proofs.Ytabeciopggofkaa

/- The law of slices, plain: a tensor is the stack of its slices; their sum. No program in sight. -/
namespace Go.Proofs.Ytabeciopggofkaa
open Go.RowKit
set_option linter.unusedSimpArgs false
set_option linter.unusedVariables false

section
variable {k p n : Int} (hr : ringOk k p n = true)
/-- What has been added up behind v slices. -/
def accXs (dm : Int → Int) (L : List Int) (x : Int) (v : Nat) (xs : List (El k p n)) : List (El k p n) :=
  tab (axs dm (cutL L x)) (fun τ => sumN (rig hr) v fun u => valT hr dm L xs (upd τ x (u : Nat))) σ0
theorem accXs_isT {dm : Int → Int} {U L : List Int} {xs : List (El k p n)} (h : IsT k p n dm U L xs) (x : Int) (v : Nat) : IsT k p n dm U (cutL L x) (accXs hr dm L x v xs) := IsT.tab h.uni (h.sub.cut x) _
theorem accXs_zero (dm : Int → Int) (L : List Int) (x : Int) (xs : List (El k p n)) : accXs hr dm L x 0 xs = List.replicate (size (axs dm (cutL L x))) (rig hr).zero := by
  unfold accXs
  rw [tab_range]
  show (List.range _).map (fun _ => (rig hr).zero) = _
  rw [List.map_const', List.length_range]
theorem permXs_selfT {dm : Int → Int} {U L : List Int} {xs : List (El k p n)} (h : IsT k p n dm U L xs) : permXs hr dm L L xs = xs := by
  unfold permXs; exact tab_valT hr h.sub.nodup h.len σ0
theorem accXs_step {dm : Int → Int} {U L : List Int} {xs : List (El k p n)} (h : IsT k p n dm U L xs) (x : Int) (v : Nat) :
    addXs hr (accXs hr dm L x v xs) (permXs hr dm (cutL L x) (cutL L x) (cutXs hr dm L x (fun _ => (v : Int)) xs)) = accXs hr dm L x (v + 1) xs := by
  rw [permXs_selfT hr (cutXs_isT hr h x _)]
  unfold addXs accXs cutXs
  rw [tab_zip]
  congr 1
  funext τ
  exact (rig hr).add_comm _ _
theorem goneL_cut {L : List Int} {x : Int} (hn : L.Nodup) (hx : x ∈ L) : (goneL L (cutL L x)).Perm [x] := by
  have h1 : (goneL L (cutL L x)).Nodup := by unfold goneL; exact hn.filter _
  rw [List.perm_ext_iff_of_nodup h1 (by simp)]
  intro y
  unfold goneL
  rw [List.mem_filter, List.mem_singleton]
  constructor
  · rintro ⟨h2, h3⟩
    by_cases e : y = x
    · exact e
    · rw [(hasL_iff _ y).2 (mem_cutL.2 ⟨h2, e⟩)] at h3
      simp at h3
  · rintro rfl
    refine ⟨hx, ?_⟩
    cases e : hasL (cutL L y) y
    · rfl
    · exact absurd ((hasL_iff _ _).1 e) (not_mem_cutL L y)
theorem keepL_cut {L : List Int} {x : Int} : keepL L (cutL L x) = cutL L x := by
  unfold keepL cutL
  apply List.filter_congr
  intro y hy
  rw [Bool.eq_iff_iff, hasL_iff, List.mem_filter]
  constructor
  · exact fun h => h.2
  · exact fun h => ⟨hy, h⟩
/-- All slices, added up, are the sum over the label. -/
theorem accXs_all {dm : Int → Int} {U L : List Int} {xs : List (El k p n)} (h : IsT k p n dm U L xs) {x : Int} (hx : x ∈ L) {d : Nat} (hd : dm x = (d : Int)) : keepL L (cutL L x) = cutL L x ∧ accXs hr dm L x d xs = sumXs hr dm L (cutL L x) xs := by
  refine ⟨keepL_cut, ?_⟩
  unfold accXs sumXs
  rw [keepL_cut]
  congr 1
  funext τ
  unfold contrF
  rw [sumA_perm (rig hr) _ (axs_perm (goneL_cut h.sub.nodup hx)) (by rw [labs_axs]; unfold goneL; exact h.sub.nodup.filter _)]
  show _ = sumA (rig hr) [(x, dm x)] _ τ
  rw [sumA_slices, hd]
  rfl
/-- The rows of a stack: the elements at one place of each slice. -/
def stackRow (l : List (List (El k p n))) (o : Nat) : List (El k p n) := l.filterMap fun ys => ys[o]?
def stackXs (l : List (List (El k p n))) (m : Nat) : List (El k p n) := (List.range m).flatMap (stackRow l)
theorem stackXs_step (l : List (List (El k p n))) (m : Nat) : stackXs l (m + 1) = stackXs l m ++ stackRow l m := by
  unfold stackXs
  rw [List.range_succ, List.flatMap_append]
  simp
/-- The slices, stacked, are the tensor with its axes in another order. -/
theorem stack_data {dm : Int → Int} {U L : List Int} {xs : List (El k p n)} (h : IsT k p n dm U L xs) {x : Int} (hx : x ∈ L) {d : Nat} (hd : dm x = (d : Int)) :
    stackXs ((List.range d).map fun v : Nat => cutXs hr dm L x (fun _ => (v : Int)) xs) (size (axs dm (cutL L x))) = permXs hr dm L (cutL L x ++ [x]) xs := by
  unfold permXs
  rw [axs_append, tab_append, tab_range]
  unfold stackXs
  rw [← List.flatMap_def]
  apply flatMap_congr'
  intro o ho
  have ho := List.mem_range.1 ho
  show stackRow _ o = (List.range (dm x).toNat).flatMap fun v : Nat => [valT hr dm L xs (upd (asg (axs dm (cutL L x)) o σ0) x (v : Nat))]
  rw [hd]
  unfold stackRow
  rw [List.filterMap_map]
  have e : ∀ l : List Nat, l.filterMap ((fun ys : List (El k p n) => ys[o]?) ∘ fun v : Nat => cutXs hr dm L x (fun _ => (v : Int)) xs) = l.flatMap fun v : Nat => [valT hr dm L xs (upd (asg (axs dm (cutL L x)) o σ0) x (v : Nat))] := by
    intro l
    induction l with
    | nil => rfl
    | cons v l ih =>
      have : (cutXs hr dm L x (fun _ => (v : Int)) xs)[o]? = some (valT hr dm L xs (upd (asg (axs dm (cutL L x)) o σ0) x (v : Nat))) := tab_get _ _ _ ho
      rw [List.filterMap_cons, List.flatMap_cons, ih]
      have hc : ((fun ys : List (El k p n) => ys[o]?) ∘ fun v : Nat => cutXs hr dm L x (fun _ => (v : Int)) xs) v = some (valT hr dm L xs (upd (asg (axs dm (cutL L x)) o σ0) x (v : Nat))) := this
      rw [hc]
      rfl
  exact e _
theorem cut_perm {L : List Int} {x : Int} (hn : L.Nodup) (hx : x ∈ L) : L.Perm (cutL L x ++ [x]) := by
  have h1 : (cutL L x ++ [x]).Nodup := List.nodup_append.2 ⟨by unfold cutL; exact hn.filter _, by simp, fun a ha b hb e => by simp at hb; subst hb; subst e; exact not_mem_cutL L _ ha⟩
  rw [List.perm_ext_iff_of_nodup hn h1]
  intro y
  rw [List.mem_append, mem_cutL, List.mem_singleton]
  constructor
  · intro hy
    by_cases e : y = x
    · exact .inr e
    · exact .inl ⟨hy, e⟩
  · rintro (⟨h, _⟩ | rfl)
    · exact h
    · exact hx
end
end Go.Proofs.Ytabeciopggofkaa

/- The law of deltas, plain: a delta tensor renames a label, one with three labels takes a diagonal. No program in sight. -/
namespace Go.Proofs.Ytabeciopggofkaa
open Go.RowKit
set_option linter.unusedSimpArgs false
set_option linter.unusedVariables false

section
variable {k p n : Int} (hr : ringOk k p n = true)
/-- All labels have one value, below v. -/
def sameB (L : List Int) (v : Nat) (τ : Int → Int) : Bool := (List.range v).any fun u => L.all fun l => τ l == (u : Int)
def deltaE (dm : Int → Int) (L : List Int) (v : Nat) : List (El k p n) := tab (axs dm L) (fun τ => ind (rig hr) (sameB L v τ)) σ0
theorem sameB_iff {L : List Int} {v : Nat} {τ : Int → Int} : sameB L v τ = true ↔ ∃ u : Nat, u < v ∧ ∀ l ∈ L, τ l = (u : Int) := by simp [sameB]
theorem map_const {L : List Int} {τ : Int → Int} {v : Int} (h : ∀ l ∈ L, τ l = v) : L.map τ = List.replicate L.length v := by
  rw [List.map_congr_left h, List.map_const']
theorem delta_step {dm : Int → Int} {U L : List Int} (u : Uni dm U) (s : Sub U L) {d : Int} (hd : ∀ l ∈ L, dm l = d) {v : Nat} (h0 : 1 ≤ d) (h8 : d ≤ 8) (hv : (v : Int) < d) :
    (deltaE (k := k) (p := p) (n := n) hr dm L v).set (diag L.length d v).toNat (rig hr).one = deltaE hr dm L (v + 1) := by
  have hD : L.map dm = List.replicate L.length d := map_const hd
  have hdims := (u.ax s).dims
  have hl1 : ∀ l ∈ L, 1 ≤ dm l := fun l hl => (u.dim (s.sub l hl)).1
  obtain ⟨b0, b1⟩ := diag_bounds (m := L.length) h0 h8 (show (0 : Int) ≤ v by omega) hv
  rw [← hD] at b1
  have hs := u.size s
  have hS : (diag L.length d v).toNat < size (axs dm L) := by omega
  have key : ∀ o, o < size (axs dm L) → ((∀ l ∈ L, asg (axs dm L) o σ0 l = (v : Int)) ↔ o = (diag L.length d v).toNat) := by
    intro o ho
    constructor
    · intro h
      have h1 := offL_idx (D := L.map dm) (n := o) hdims (by omega) (by omega)
      rw [idxL_asg s.nodup hl1, map_const h, hD] at h1
      show o = (offL _ _).toNat
      rw [h1]; omega
    · intro h l hl
      have hf : Fits (axs dm L) (fun _ => (v : Int)) := fun a ha => by
        obtain ⟨x, hx, rfl⟩ := List.mem_map.1 ha
        exact ⟨by show (0 : Int) ≤ v; omega, by show (v : Int) < dm x; rw [hd x hx]; exact hv⟩
      have h2 := asg_off hf σ0 l (by rw [labs_axs]; exact hl)
      have h3 : off (axs dm L) (fun _ => (v : Int)) = o := by
        have ho2 := off_lt hf
        have h1 := offL_idx (D := L.map dm) (n := (off (axs dm L) (fun _ => (v : Int)) : Nat)) hdims (by omega) (by omega)
        rw [idxL_asg s.nodup hl1, map_const (fun l hl => asg_off hf σ0 l (by rw [labs_axs]; exact hl)), hD] at h1
        rw [h]
        show _ = (offL _ _).toNat
        rw [h1]; omega
      rw [← h3]; exact h2
  apply List.ext_getElem?
  intro o
  rw [List.getElem?_set]
  have hlen : (deltaE (k := k) (p := p) (n := n) hr dm L v).length = size (axs dm L) := tab_length _ _ _
  by_cases ho : o < size (axs dm L)
  · have g1 : (deltaE (k := k) (p := p) (n := n) hr dm L (v + 1))[o]? = _ := tab_get _ _ _ ho
    have g0 : (deltaE (k := k) (p := p) (n := n) hr dm L v)[o]? = _ := tab_get _ _ _ ho
    rw [g1, g0]
    by_cases e : (diag L.length d v).toNat = o
    · rw [if_pos e, if_pos (by rw [hlen]; omega)]
      have : sameB L (v + 1) (asg (axs dm L) o σ0) = true := sameB_iff.2 ⟨v, by omega, (key o ho).2 e.symm⟩
      rw [this]; rfl
    · rw [if_neg e]
      have : sameB L (v + 1) (asg (axs dm L) o σ0) = sameB L v (asg (axs dm L) o σ0) := by
        rw [Bool.eq_iff_iff, sameB_iff, sameB_iff]
        constructor
        · rintro ⟨q, hq, h⟩
          rcases Nat.lt_or_eq_of_le (Nat.le_of_lt_succ hq) with hq | rfl
          · exact ⟨q, hq, h⟩
          · exact absurd ((key o ho).1 h).symm e
        · rintro ⟨q, hq, h⟩
          exact ⟨q, by omega, h⟩
      rw [this]
  · have g1 : (deltaE (k := k) (p := p) (n := n) hr dm L (v + 1))[o]? = none := List.getElem?_eq_none (by rw [show (deltaE (k := k) (p := p) (n := n) hr dm L (v + 1)).length = size (axs dm L) from tab_length _ _ _]; omega)
    rw [g1, List.getElem?_eq_none (by rw [hlen]; omega), if_neg (by omega)]
theorem deltaX_flat {W : Nat} (hW : ringWidth k n = (W : Int)) {dm : Int → Int} {U L : List Int} (u : Uni dm U) (s : Sub U L) {d : Int} (hd : ∀ l ∈ L, dm l = d) (h0 : 1 ≤ d) (h8 : d ≤ 8) :
    ∀ v : Nat, (v : Int) ≤ d → deltaX L.length W (oneL k p n) (rep (size (axs dm L)) (zeroL k p n)) d v = flat (deltaE (k := k) (p := p) (n := n) hr dm L v)
  | 0, _ => by
    have e : deltaE (k := k) (p := p) (n := n) hr dm L 0 = List.replicate (size (axs dm L)) (rig hr).zero := by
      unfold deltaE
      rw [tab_range]
      have : ∀ τ, ind (rig hr) (sameB L 0 τ) = (rig hr).zero := fun τ => by simp [sameB, ind]
      simp only [this]
      rw [List.map_const', List.length_range]
    rw [deltaX, e]
    exact flat_rep (rig hr).zero _
  | v + 1, hv => by
    have hlen : (deltaE (k := k) (p := p) (n := n) hr dm L v).length = size (axs dm L) := tab_length _ _ _
    obtain ⟨b0, b1⟩ := diag_bounds (m := L.length) h0 h8 (show (0 : Int) ≤ v by omega) (by omega)
    rw [← map_const hd] at b1
    have hs := u.size s
    rw [deltaX, deltaX_flat hW u s hd h0 h8 v (by omega), ← delta_step hr u s hd h0 h8 (by omega)]
    exact flat_put hW (by rw [hlen]; omega) (rig hr).one
/-- The data of a delta tensor. -/
def deltaXs (dm : Int → Int) (L : List Int) (l0 : Int) : List (El k p n) := tab (axs dm L) (fun τ => ind (rig hr) (L.all fun l => τ l == τ l0)) σ0
theorem deltaE_all {dm : Int → Int} {U L : List Int} (u : Uni dm U) (s : Sub U L) {d : Int} (hd : ∀ l ∈ L, dm l = d) (h0 : 1 ≤ d) {l0 : Int} (hl : l0 ∈ L) : deltaE (k := k) (p := p) (n := n) hr dm L d.toNat = deltaXs hr dm L l0 := by
  refine tab_fits u s fun τ hf => ?_
  congr 1
  rw [Bool.eq_iff_iff, sameB_iff, List.all_eq_true]
  constructor
  · rintro ⟨q, _, h⟩ l hl'
    rw [h l hl', h l0 hl]; simp
  · intro h
    obtain ⟨f0, f1⟩ := hf (l0, dm l0) (List.mem_map_of_mem hl)
    have f0 : 0 ≤ τ l0 := f0
    have f1 : τ l0 < dm l0 := f1
    rw [hd l0 hl] at f1
    exact ⟨(τ l0).toNat, by omega, fun l hl' => by have := h l hl'; rw [beq_iff_eq] at this; omega⟩
theorem deltaXs_isT {dm : Int → Int} {U L : List Int} (u : Uni dm U) (s : Sub U L) (l0 : Int) : IsT k p n dm U L (deltaXs hr dm L l0) := IsT.tab u s _
theorem deltaXs_dep (L : List Int) {l0 : Int} (hl : l0 ∈ L) : Dep (fun τ => ind (rig hr) (L.all fun l => τ l == τ l0)) L := fun σ τ h => by
  show ind _ _ = ind _ _
  congr 1
  rw [Bool.eq_iff_iff, List.all_eq_true, List.all_eq_true]
  constructor
  · intro q l hl'; rw [← h l hl', ← h l0 hl]; exact q l hl'
  · intro q l hl'; rw [h l hl', h l0 hl]; exact q l hl'
theorem deltaXs_val {dm : Int → Int} {L : List Int} {l0 : Int} (hl : l0 ∈ L) {τ : Int → Int} (hf : Fits (axs dm L) τ) : valT hr dm L (deltaXs hr dm L l0) τ = ind (rig hr) (L.all fun l => τ l == τ l0) := valT_tab hr (deltaXs_dep hr L hl) hf σ0
end
end Go.Proofs.Ytabeciopggofkaa

/- The law of deltas, plain, joined. No program in sight. -/
namespace Go.Proofs.Ytabeciopggofkaa
open Go.RowKit
set_option linter.unusedSimpArgs false
set_option linter.unusedVariables false

theorem hasL_no {L : List Int} {x : Int} (h : x ∉ L) : hasL L x = false := by
  cases e : hasL L x
  · rfl
  · exact absurd ((hasL_iff L x).1 e) h
theorem cutL_none {L : List Int} {x : Int} (h : x ∉ L) : cutL L x = L := by
  unfold cutL
  rw [List.filter_eq_self]
  intro a ha
  have : a ≠ x := fun e => h (e ▸ ha)
  simp [this]
theorem cutL_append (L M : List Int) (x : Int) : cutL (L ++ M) x = cutL L x ++ cutL M x := by simp [cutL]
theorem cutL_head {x : Int} {L : List Int} (h : x ∉ L) : cutL (x :: L) x = L := by
  have : cutL (x :: L) x = cutL L x := by simp [cutL]
  rw [this, cutL_none h]
theorem prodL_le3 : ∀ {D : List Int}, (∀ d ∈ D, 1 ≤ d ∧ d ≤ 3) → prodL D ≤ 3 ^ D.length ∧ 1 ≤ prodL D
  | [], _ => ⟨by simp [prodL], by simp [prodL]⟩
  | d :: D, h => by
    obtain ⟨h1, h2⟩ := prodL_le3 fun x hx => h x (List.mem_cons_of_mem _ hx)
    obtain ⟨d1, d3⟩ := h d (by simp)
    rw [prodL_cons, List.length_cons, Int.pow_succ]
    constructor
    · calc d * prodL D ≤ 3 * prodL D := Int.mul_le_mul_of_nonneg_right d3 (by omega)
        _ = prodL D * 3 := Int.mul_comm _ _
        _ ≤ 3 ^ D.length * 3 := Int.mul_le_mul_of_nonneg_right h1 (by omega)
    · have : 1 * 1 ≤ d * prodL D := Int.mul_le_mul d1 h2 (by omega) (by omega)
      omega
/-- The dimensions where three labels more are as wide as x. -/
def dmX (x l : Int) : Int := if l = 50 ∨ l = 60 ∨ l = 70 then dimOf x else dimOf l
theorem dmX_range (x l : Int) : 1 ≤ dmX x l ∧ dmX x l ≤ 3 := by
  unfold dmX
  split
  · exact dimOf_range x
  · exact dimOf_range l
theorem u6_le {L : List Int} (h : Sub U6 L) {l : Int} (hl : l ∈ L) : 0 ≤ l ∧ l ≤ 5 := by
  have := h.sub l hl
  simp [U6] at this; omega
theorem dmX_on {L : List Int} (h : Sub U6 L) (x : Int) {l : Int} (hl : l ∈ L) : dmX x l = dimOf l := by
  have := u6_le h hl
  unfold dmX
  rw [if_neg (by omega)]
theorem dmX_map {L : List Int} (h : Sub U6 L) (x : Int) : L.map dimOf = L.map (dmX x) := List.map_congr_left fun l hl => (dmX_on h x hl).symm
def UX (L : List Int) : List Int := L ++ [50, 60, 70]
theorem uniX {L : List Int} (h : Sub U6 L) (hl : L.length ≤ 3) (x : Int) : Uni (dmX x) (UX L) := by
  have hlen : (UX L).length ≤ 6 := by simp [UX]; omega
  refine ⟨⟨by rw [List.length_map], by omega, fun l hm => ?_, ?_, fun d hd => ?_, ?_⟩⟩
  · rcases List.mem_append.1 hm with h1 | h1
    · have := u6_le h h1; omega
    · simp at h1; omega
  · show List.Nodup (L ++ [50, 60, 70])
    rw [List.nodup_append]
    refine ⟨h.nodup, by decide, fun a ha b hb e => ?_⟩
    have := u6_le h ha
    simp at hb; omega
  · obtain ⟨l, _, rfl⟩ := List.mem_map.1 hd
    have := dmX_range x l; omega
  · have h1 := (prodL_le3 (D := (UX L).map (dmX x)) fun d hd => by obtain ⟨l, _, rfl⟩ := List.mem_map.1 hd; exact dmX_range x l).1
    rw [List.length_map] at h1
    have h2 : ∀ q : Nat, q ≤ 6 → (3 : Int) ^ q ≤ 729 := fun q hq => by
      have : q = 0 ∨ q = 1 ∨ q = 2 ∨ q = 3 ∨ q = 4 ∨ q = 5 ∨ q = 6 := by omega
      rcases this with rfl | rfl | rfl | rfl | rfl | rfl | rfl <;> decide
    have h2 := h2 _ hlen
    omega
theorem subX {L : List Int} (h : Sub U6 L) (hl : L.length ≤ 3) {M : List Int} (hn : M.Nodup) (hM : ∀ m ∈ M, m ∈ L ∨ m = 50 ∨ m = 60 ∨ m = 70) : Sub (UX L) M := ⟨hn, fun m hm => by
  unfold UX
  rcases hM m hm with h1 | h1
  · exact List.mem_append_left _ h1
  · apply List.mem_append_right; simp; omega⟩
section
variable {k p n : Int} (hr : ringOk k p n = true)
theorem axs_congr {dm dm' : Int → Int} {L : List Int} (h : ∀ l ∈ L, dm l = dm' l) : axs dm L = axs dm' L := List.map_congr_left fun l hl => by rw [h l hl]
theorem isT_X {L : List Int} {xs : List (El k p n)} (h : IsT k p n dimOf U6 L xs) (hl : L.length ≤ 3) (x : Int) : IsT k p n (dmX x) (UX L) L xs :=
  ⟨uniX h.sub hl x, subX h.sub hl h.sub.nodup fun m hm => .inl hm, by rw [h.len, axs_congr fun l hl => (dmX_on h.sub x hl).symm]⟩
/-- A delta tensor renames a label. -/
theorem rename_data {dm : Int → Int} {U L : List Int} {x y : Int} {xs : List (El k p n)} (ht : IsT k p n dm U (x :: L) xs) (hy : y ∉ x :: L) (hyU : y ∈ U) (hd : dm y = dm x) :
    keepL (joinL (x :: L) [x, y]) (L ++ [y]) = L ++ [y] ∧ IsT k p n dm U (y :: L) xs ∧ sortL (L ++ [y]) = sortL (y :: L) ∧
      permXs hr dm (L ++ [y]) (sortL (L ++ [y])) (contrXs hr dm (x :: L) [x, y] (L ++ [y]) xs (deltaXs hr dm [x, y] x)) = permXs hr dm (y :: L) (sortL (y :: L)) xs := by
  have hnx := ht.sub.nodup
  rw [List.nodup_cons] at hnx
  have hyx : y ≠ x := fun e => hy (by rw [e]; exact List.mem_cons_self ..)
  have hyL : y ∉ L := fun h => hy (List.mem_cons_of_mem _ h)
  have hxM : x ∉ L ++ [y] := fun h => by
    rcases List.mem_append.1 h with h | h
    · exact hnx.1 h
    · simp at h; exact hyx h.symm
  have ej : joinL (x :: L) [x, y] = x :: (L ++ [y]) := by
    unfold joinL
    rw [List.filter_cons, if_neg (by rw [(hasL_iff _ _).2 (List.mem_cons_self ..)]; simp), List.filter_cons, if_pos (by rw [hasL_no hy]; rfl)]
    rfl
  have ek : keepL (x :: (L ++ [y])) (L ++ [y]) = L ++ [y] := by
    unfold keepL
    rw [List.filter_cons, if_neg (by rw [hasL_no hxM]; simp), List.filter_eq_self]
    exact fun a ha => (hasL_iff _ _).2 ha
  have eg : goneL (x :: (L ++ [y])) (L ++ [y]) = [x] := by
    unfold goneL
    rw [List.filter_cons, if_pos (by rw [hasL_no hxM]; rfl), List.filter_eq_nil_iff.2 fun a ha => by rw [(hasL_iff _ _).2 ha]; simp]
  have hnM : (L ++ [y]).Nodup := List.nodup_append.2 ⟨hnx.2, by simp, fun a ha b hb e => by simp at hb; exact hyL (by rw [← hb, ← e]; exact ha)⟩
  have sM : Sub U (L ++ [y]) := ⟨hnM, fun l hl => by
    rcases List.mem_append.1 hl with h | h
    · exact ht.sub.sub l (List.mem_cons_of_mem _ h)
    · simp at h; rw [h]; exact hyU⟩
  have hperm : (L ++ [y]).Perm (y :: L) := List.perm_append_comm
  have sY : Sub U (y :: L) := sM.perm hperm
  have hT : IsT k p n dm U (y :: L) xs := ⟨ht.uni, sY, by rw [ht.len, axs_cons, axs_cons, size, size, hd]⟩
  have hF : Dep (fun σ => valT hr dm (x :: L) xs (upd σ x (σ y))) (L ++ [y]) := fun σ τ h => by
    apply valT_dep hr dm (x :: L) xs
    intro l hl
    by_cases e : l = x
    · subst e; rw [upd_same, upd_same]; exact h y (by simp)
    · rw [upd_ne _ _ e, upd_ne _ _ e]
      exact h l (List.mem_append_left _ ((List.mem_cons.1 hl).resolve_left e))
  have hC : contrXs hr dm (x :: L) [x, y] (L ++ [y]) xs (deltaXs hr dm [x, y] x) = tab (axs dm (L ++ [y])) (fun σ => valT hr dm (x :: L) xs (upd σ x (σ y))) σ0 := by
    unfold contrXs
    rw [ej, ek]
    refine tab_fits ht.uni sM fun σ hf => ?_
    unfold contrF
    rw [eg]
    obtain ⟨f0, f1⟩ := hf (y, dm y) (List.mem_map_of_mem (by simp))
    have f0 : 0 ≤ σ y := f0
    have f1 : σ y < dm y := f1
    rw [show axs dm [x] = [(x, dm x)] from rfl]
    rw [sumA_congr (rig hr) (G := fun τ => (rig hr).mul (valT hr dm (x :: L) xs τ) (ind (rig hr) (decide (τ x = τ y)))) fun τ h1 h2 => ?_]
    · exact sumA_delta (rig hr) hyx _ f0 (by rw [← hd]; exact f1)
    · have hy' : τ y = σ y := h1 y (by simpa [labs] using hyx)
      obtain ⟨g0, g1⟩ := h2 (by simp [labs]) (x, dm x) (by simp)
      have hfit : Fits (axs dm [x, y]) τ := fun a ha => by
        simp [axs] at ha
        rcases ha with rfl | rfl
        · exact ⟨g0, g1⟩
        · exact ⟨by show 0 ≤ τ y; rw [hy']; exact f0, by show τ y < dm y; rw [hy']; exact f1⟩
      show (rig hr).mul _ _ = _
      rw [deltaXs_val hr (by simp) hfit]
      congr 2
      rw [Bool.eq_iff_iff]
      simp
      exact ⟨fun h => h.symm, fun h => h.symm⟩
  have hX : xs = tab (axs dm (y :: L)) (fun σ => valT hr dm (x :: L) xs (upd σ x (σ y))) σ0 := by
    conv => lhs; rw [← tab_valT hr sY.nodup hT.len σ0]
    congr 1
    funext τ
    unfold valT
    rw [axs_cons, axs_cons, off, off, upd_same]
    have : off (axs dm L) (upd τ x (τ y)) = off (axs dm L) τ := off_dep (axs dm L) _ _ fun l hl => upd_ne _ _ (by rw [labs_axs] at hl; rintro rfl; exact hnx.1 hl)
    rw [this]
  refine ⟨by rw [ej, ek], hT, ?_⟩
  have h := sort_same hr ht.uni sM hperm hF (hF.perm hperm) fun σ => rfl
  refine ⟨h.1, ?_⟩
  rw [hC, h.2, ← hX]
/-- A delta tensor with three labels takes a diagonal, and that of the result is what it was. -/
theorem diag_data {dm : Int → Int} {U L : List Int} {x y z : Int} {xs : List (El k p n)} (ht : IsT k p n dm U L xs) (hx : x ∈ L) (hy : y ∉ L) (hz : z ∉ L) (hyz : y ≠ z) (hyU : y ∈ U) (hzU : z ∈ U) (hdy : dm y = dm x) (hdz : dm z = dm x) :
    keepL (joinL L [x, y, z]) (L ++ [y, z]) = L ++ [y, z] ∧ cutL (L ++ [y, z]) y = L ++ [z] ∧ cutL (L ++ [z]) z = L ∧
      cutXs hr dm (L ++ [z]) z (fun τ => τ x) (cutXs hr dm (L ++ [y, z]) y (fun τ => τ z) (contrXs hr dm L [x, y, z] (L ++ [y, z]) xs (deltaXs hr dm [x, y, z] x))) = xs := by
  have hxy : x ≠ y := fun e => hy (e ▸ hx)
  have hxz : x ≠ z := fun e => hz (e ▸ hx)
  have ej : joinL L [x, y, z] = L ++ [y, z] := by
    unfold joinL
    rw [List.filter_cons, if_neg (by rw [(hasL_iff _ _).2 hx]; simp), List.filter_cons, if_pos (by rw [hasL_no hy]; rfl), List.filter_cons, if_pos (by rw [hasL_no hz]; rfl)]
    rfl
  have ek : keepL (L ++ [y, z]) (L ++ [y, z]) = L ++ [y, z] := keepL_all fun a ha => ha
  have e1 : cutL (L ++ [y, z]) y = L ++ [z] := by
    rw [cutL_append, cutL_none hy, cutL_head (by simpa using hyz)]
  have e2 : cutL (L ++ [z]) z = L := by
    rw [cutL_append, cutL_none hz, cutL_head (by simp), List.append_nil]
  refine ⟨by rw [ej, ek], e1, e2, ?_⟩
  have hn2 : (L ++ [y, z]).Nodup := List.nodup_append.2 ⟨ht.sub.nodup, by simp [hyz], fun a ha b hb e => by
    simp at hb
    rcases hb with h | h
    · exact hy (by rw [← h, ← e]; exact ha)
    · exact hz (by rw [← h, ← e]; exact ha)⟩
  have s2 : Sub U (L ++ [y, z]) := ⟨hn2, fun l hl => by
    rcases List.mem_append.1 hl with h | h
    · exact ht.sub.sub l h
    · simp at h; rcases h with rfl | rfl <;> assumption⟩
  have hc : contrXs hr dm L [x, y, z] (L ++ [y, z]) xs (deltaXs hr dm [x, y, z] x) = tab (axs dm (L ++ [y, z])) (mulF hr dm L [x, y, z] xs (deltaXs hr dm [x, y, z] x)) σ0 := by
    rw [contr_all hr (by rw [ej]; exact fun a ha => ha), ej]
  rw [hc]
  have hMF : Dep (mulF hr dm L [x, y, z] xs (deltaXs hr dm [x, y, z] x)) (L ++ [y, z]) := fun σ τ h => by
    show (rig hr).mul _ _ = (rig hr).mul _ _
    rw [valT_dep hr dm L xs σ τ fun l hl => h l (List.mem_append_left _ hl), valT_dep hr dm [x, y, z] _ σ τ fun l hl => h l (by
      simp at hl
      rcases hl with rfl | rfl | rfl
      · exact List.mem_append_left _ hx
      · simp
      · simp)]
  conv => rhs; rw [← tab_valT hr ht.sub.nodup ht.len σ0]
  unfold cutXs
  rw [e1, e2]
  refine tab_fits ht.uni ht.sub fun τ hf => ?_
  obtain ⟨f0, f1⟩ := hf (x, dm x) (List.mem_map_of_mem hx)
  have f0 : 0 ≤ τ x := f0
  have f1 : τ x < dm x := f1
  have a1 : Fits (axs dm (L ++ [z])) (upd τ z (τ x)) := fun a ha => by
    obtain ⟨l, hl, rfl⟩ := List.mem_map.1 ha
    by_cases e : l = z
    · subst e; rw [upd_same]; exact ⟨f0, by show τ x < dm l; rw [hdz]; exact f1⟩
    · rw [upd_ne _ _ e]
      exact hf (l, dm l) (List.mem_map_of_mem ((List.mem_append.1 hl).resolve_right fun h => e (by simpa using h)))
  have a2 : Fits (axs dm (L ++ [y, z])) (upd (upd τ z (τ x)) y (upd τ z (τ x) z)) := fun a ha => by
    obtain ⟨l, hl, rfl⟩ := List.mem_map.1 ha
    by_cases e : l = y
    · subst e; rw [upd_same, upd_same]; exact ⟨f0, by show τ x < dm l; rw [hdy]; exact f1⟩
    · rw [upd_ne _ _ e]
      refine a1 (l, dm l) (List.mem_map_of_mem ?_)
      rcases List.mem_append.1 hl with h | h
      · exact List.mem_append_left _ h
      · simp at h
        rcases h with h | h
        · exact absurd h e
        · simp [h]
  have hG : Dep (fun τ => valT hr dm (L ++ [y, z]) (tab (axs dm (L ++ [y, z])) (mulF hr dm L [x, y, z] xs (deltaXs hr dm [x, y, z] x)) σ0) (upd τ y (τ z))) (L ++ [z]) := by
    have := diag_dep (valT_dep hr dm (L ++ [y, z]) (tab (axs dm (L ++ [y, z])) (mulF hr dm L [x, y, z] xs (deltaXs hr dm [x, y, z] x)) σ0)) (a := z) (b := y) (Ne.symm hyz) (by simp)
    have e1' : (L ++ [y, z]).filter (fun w => !(w == y)) = L ++ [z] := e1
    rwa [e1'] at this
  rw [valT_tab hr hG a1, valT_tab hr hMF a2]
  show (rig hr).mul _ _ = _
  have a3 : Fits (axs dm [x, y, z]) (upd (upd τ z (τ x)) y (upd τ z (τ x) z)) := fits_sub a2 fun l hl => by
    simp at hl
    rcases hl with rfl | rfl | rfl
    · exact List.mem_append_left _ hx
    · simp
    · simp
  rw [deltaXs_val hr (by simp) a3]
  have hall : ([x, y, z].all fun l => upd (upd τ z (τ x)) y (upd τ z (τ x) z) l == upd (upd τ z (τ x)) y (upd τ z (τ x) z) x) = true := by
    simp [upd, hxy, hxz, Ne.symm hyz]
  rw [hall]
  show (rig hr).mul _ (rig hr).one = _
  rw [(rig hr).mul_one]
  exact valT_dep hr dm L xs _ _ fun l hl => by
    rw [upd_ne _ _ (by rintro rfl; exact hy hl), upd_ne _ _ (by rintro rfl; exact hz hl)]
end
end Go.Proofs.Ytabeciopggofkaa

/- DeltaTensor over a universe of labels; the laws' cut. -/
namespace Go.Proofs.Ytabeciopggofkaa
open Go.RowKit
set_option linter.unusedSimpArgs false
set_option linter.unusedVariables false

section
variable {k p n : Int} (hr : ringOk k p n = true)
theorem deltaT_any {dm : Int → Int} {U L : List Int} (u : Uni dm U) (s : Sub U L) {d : Int} (hd : ∀ l ∈ L, dm l = d) (h0 : 1 ≤ d) (h8 : d ≤ 8) {l0 : Int} (hl : l0 ∈ L) (vL : Value) (w : World) (hL : IntS w vL L) :
    Calls Try.prog 34 #[ringV k p n, vL, .int .i64 d] w fun e w' => ∃ v, e = .returned (.tuple #[v, .bool true]) ∧ OwnT w' w.heap.size v L (L.map dm) (flat (deltaXs hr dm L l0)) ∧ Ext w w' := by
  have ax := u.ax s
  have hD : L.map dm = List.replicate L.length d := map_const hd
  have hz : deltaTok k p n L d = true := by
    have := ax.pos
    unfold deltaTok
    rw [hr, ← hD, ax.tsize]
    simp [h0, h8]
    omega
  obtain ⟨W, hW⟩ : ∃ W : Nat, ringWidth k n = W := ⟨(ringWidth k n).toNat, by have := (ringOk_wide hr).lo; omega⟩
  have hx : deltaTX k p n L d = flat (deltaXs hr dm L l0) := by
    have e : (prodL (L.map dm)).toNat = size (axs dm L) := by have := u.size s; omega
    unfold deltaTX
    rw [if_pos hz, ← hD, e, hW, ← deltaE_all hr u s hd h0 hl]
    exact deltaX_flat hr hW u s hd h0 h8 _ (by omega)
  refine (deltaTensor_impl k p n vL d L w hL ⟨by omega, by omega⟩ (by have := ax.rank; omega)).mono ?_
  rintro e w' ⟨v, rfl, o, h⟩
  rw [hz]
  rw [hx, show deltaTL k p n L d = L by unfold deltaTL; rw [if_pos hz], show deltaTD k p n L d = L.map dm by unfold deltaTD; rw [if_pos hz, hD]] at o
  exact ⟨v, rfl, o, h⟩
theorem putL_whole {l x : List Int} (h : l.length = x.length) : putL l 0 x = x := by
  unfold putL
  rw [List.take_zero, List.nil_append, Nat.zero_add, ← h, List.drop_length, List.append_nil]
include hr in
theorem delta0_any (w : World) : Calls Try.prog 34 #[ringV k p n, .slice none 0 0, .int .i64 2] w fun e w' => ∃ v, e = .returned (.tuple #[v, .bool true]) ∧ OwnT w' w.heap.size v [] [] (oneL k p n) ∧ Ext w w' := by
  have hz : deltaTok k p n [] 2 = true := by
    unfold deltaTok
    rw [hr]
    decide
  have hl : (zeroL k p n).length = (oneL k p n).length := by
    have h1 := (rawOk_iff.1 (rawOk_zero hr)).1
    have h2 := (rawOk_iff.1 (rawOk_one hr)).1
    omega
  have hx : deltaTX k p n [] 2 = oneL k p n := by
    unfold deltaTX
    rw [if_pos hz]
    have e1 : rep (prodL (List.replicate ([] : List Int).length 2)).toNat (zeroL k p n) = zeroL k p n := by
      show rep 1 (zeroL k p n) = _
      simp [rep]
    rw [e1]
    show putL (putL (zeroL k p n) ((diag 0 2 0).toNat * _) (oneL k p n)) ((diag 0 2 1).toNat * _) (oneL k p n) = _
    have e2 : ∀ v, (diag 0 2 v).toNat = 0 := fun v => rfl
    rw [e2, e2, Nat.zero_mul, putL_whole hl, putL_whole rfl]
  refine (deltaTensor_impl k p n _ 2 [] w (IntS.nil w) ⟨by omega, by omega⟩ (by simp)).mono ?_
  rintro e w' ⟨v, rfl, o, h⟩
  rw [hz]
  rw [hx, show deltaTL k p n [] 2 = [] by unfold deltaTL; rw [if_pos hz], show deltaTD k p n [] 2 = [] by unfold deltaTD; rw [if_pos hz]; rfl] at o
  exact ⟨v, rfl, o, h⟩
end
set_option maxHeartbeats 1000000 in
theorem lawsCut_any (va : Value) (a : List Int) (z : Int) (w : World) (ha : IntS w va a) (hla : a.length ≤ 1000) : Calls Try.prog 36 #[va, .int .i64 z] w fun e w' =>
    ∃ v, e = .returned v ∧ OwnI w' w.heap.size v (cutL a z) ∧ Ext w w' := by
  obtain ⟨aA, cA, rfl, hcA, hdA⟩ := ha.val
  go_enter Try.func36, Try.ntmps36
  go_wp2
  go_loopw [5, 11] (fun q i wr => ∃ j : Nat, j ≤ a.length ∧ i = .int .i64 j ∧ OwnI wr w.heap.size q (cutL (a.take j) z) ∧ Ext w wr) (fun q i wr => a.length - (RowKit.intOf i).toNat)
  case atStart => exact ⟨0, Nat.zero_le _, rfl, OwnI.empty (Nat.le_refl _) rfl, (Ext.refl _).alloc _⟩
  case round =>
    obtain ⟨j, hj, rfl, hO, hE⟩ := hrel
    obtain ⟨aq, cq, rfl, hq1, hq2⟩ := hO.ints.val
    have hjl := cutL_len (a.take j) z
    rw [List.length_take] at hjl
    by_cases hlt : j < a.length
    · obtain ⟨b2, off2, x, rfl, hcx, hx, _⟩ := (ha.ext hE).get hlt
      have HX := Lib.hid hx; clear hx
      have hs := hE.size
      by_cases hh : x = z
      · subst hh
        go_wp2
        go_roundw
        case rel => exact ⟨j + 1, by omega, by go_num, by rw [take_snoc' HX.out, cutL_snoc_no]; exact hO, hE⟩
        case measure => simp [RowKit.intOf]; omega
      · have hne : (x != z) = true := by rw [bne_iff_ne]; exact hh
        go_wp2_with (at_builtin; refine wpList_app _ rfl _ _ 29 rfl _ _ rfl rfl _ (run_push _ wr w.heap.size _ _ x hO (by omega) hs) ?_; rintro v3 w3 ⟨o3, g3, _⟩)
        go_roundw
        case rel => exact ⟨j + 1, by omega, by go_num, by rw [take_snoc' HX.out, cutL_snoc_yes hh]; exact o3, hE.mark hO g3⟩
        case measure => simp [RowKit.intOf]; omega
    · have : j = a.length := by omega
      subst this
      rw [List.take_length] at hO
      have HO := Lib.hid hO; clear hO
      rw [List.take_length]
      go_wp2
      go_ret
      exact ⟨_, rfl, HO.out, hE⟩
end Go.Proofs.Ytabeciopggofkaa
