/- Tensors added, multiplied and scaled element by element, plain. No program in sight. -/
import Derived.Test.YtabeciopggofkaaUBase
import Derived.Test.YtabeciopggofkaaUAssocP
import Derived.Test.YtabeciopggofkaaUPermutedP
namespace Go.Proofs.Ytabeciopggofkaa
open Go.RowKit
set_option linter.unusedSimpArgs false
set_option linter.unusedVariables false

/-- A list whose first elements are another one's. -/
def mixX {α : Type} (zs ys : List α) (i : Nat) : List α := zs.take i ++ ys.drop i
theorem mixX_zero {α : Type} (zs ys : List α) : mixX zs ys 0 = ys := by simp [mixX]
theorem mixX_all {α : Type} {zs ys : List α} (h : zs.length = ys.length) : mixX zs ys ys.length = zs := by simp [mixX, ← h]
theorem mixX_length {α : Type} {zs ys : List α} (h : zs.length = ys.length) (i : Nat) : (mixX zs ys i).length = ys.length := by simp [mixX]; omega
theorem mixX_get {α : Type} {zs ys : List α} (h : zs.length = ys.length) {i : Nat} {y : α} (hy : ys[i]? = some y) : (mixX zs ys i)[i]? = some y := by
  obtain ⟨hi, rfl⟩ := List.getElem?_eq_some_iff.1 hy
  unfold mixX
  rw [List.getElem?_append_right (by rw [List.length_take]; omega), List.length_take, Nat.min_eq_left (by omega), Nat.sub_self, List.getElem?_drop, Nat.add_zero]
  exact List.getElem?_eq_getElem hi
theorem mixX_step {α : Type} {zs ys : List α} (h : zs.length = ys.length) {i : Nat} {z : α} (hz : zs[i]? = some z) : (mixX zs ys i).set i z = mixX zs ys (i + 1) := by
  obtain ⟨hi, rfl⟩ := List.getElem?_eq_some_iff.1 hz
  have e : (zs.take i).length = i := by rw [List.length_take]; omega
  unfold mixX
  rw [List.drop_eq_getElem_cons (by omega), List.set_append_right _ _ (by omega), e, Nat.sub_self, List.set_cons_zero, List.take_succ_eq_append_getElem hi, List.append_assoc]; rfl
section
variable {k p n : Int} (hr : ringOk k p n = true)
/-- One round of a loop that changes element after element. -/
theorem flat_mix {W : Nat} (hW : ringWidth k n = (W : Int)) {zs ys : List (El k p n)} (h : zs.length = ys.length) {i : Nat} {y z : El k p n} (hy : ys[i]? = some y) (hz : zs[i]? = some z) :
    i * W + W ≤ (flat (mixX zs ys i)).length ∧ getL (flat (mixX zs ys i)) (i * W) W = y.1 ∧ putL (flat (mixX zs ys i)) (i * W) z.1 = flat (mixX zs ys (i + 1)) := by
  have hi := (List.getElem?_eq_some_iff.1 hy).1
  refine ⟨?_, flat_get hW (mixX_get h hy), ?_⟩
  · rw [flat_length hW, mixX_length h]
    have : (i + 1) * W ≤ ys.length * W := Nat.mul_le_mul_right _ (by omega)
    rw [Nat.add_mul, Nat.one_mul] at this
    exact this
  · rw [flat_put hW (by rw [mixX_length h]; exact hi), mixX_step h hz]
theorem flat_at {W : Nat} (hW : ringWidth k n = (W : Int)) {ys : List (El k p n)} {i : Nat} {y : El k p n} (hy : ys[i]? = some y) : i * W + W ≤ (flat ys).length ∧ getL (flat ys) (i * W) W = y.1 := by
  have hi := (List.getElem?_eq_some_iff.1 hy).1
  refine ⟨?_, flat_get hW hy⟩
  rw [flat_length hW]
  have : (i + 1) * W ≤ ys.length * W := Nat.mul_le_mul_right _ (by omega)
  rw [Nat.add_mul, Nat.one_mul] at this
  exact this
/-- What 'AddTensors' adds up, what 'MultiplyTensors' multiplies: ys is in the order of xs. -/
def addXs (xs ys : List (El k p n)) : List (El k p n) := List.zipWith (rig hr).add ys xs
def mulXs (xs ys : List (El k p n)) : List (El k p n) := List.zipWith (rig hr).mul xs ys
def scaleXs (x : El k p n) (xs : List (El k p n)) : List (El k p n) := xs.map ((rig hr).mul x)
theorem addXs_tab {dm : Int → Int} {U L M : List Int} {xs ys : List (El k p n)} (hx : IsT k p n dm U L xs) (hy : IsT k p n dm U M ys) : addXs hr xs (permXs hr dm M L ys) = tab (axs dm L) (fun τ => (rig hr).add (valT hr dm M ys τ) (valT hr dm L xs τ)) σ0 := by
  conv => lhs; rw [← tab_valT hr hx.sub.nodup hx.len σ0]
  unfold addXs permXs
  rw [tab_zip]
theorem mulXs_tab {dm : Int → Int} {U L M : List Int} {xs ys : List (El k p n)} (hx : IsT k p n dm U L xs) (hy : IsT k p n dm U M ys) : mulXs hr xs (permXs hr dm M L ys) = tab (axs dm L) (mulF hr dm L M xs ys) σ0 := by
  conv => lhs; rw [← tab_valT hr hx.sub.nodup hx.len σ0]
  unfold mulXs permXs
  rw [tab_zip]
  rfl
theorem scaleXs_isT {dm : Int → Int} {U L : List Int} (x : El k p n) {xs : List (El k p n)} (hx : IsT k p n dm U L xs) : IsT k p n dm U L (scaleXs hr x xs) := ⟨hx.uni, hx.sub, by unfold scaleXs; rw [List.length_map]; exact hx.len⟩
theorem addXs_isT {dm : Int → Int} {U L M : List Int} {xs ys : List (El k p n)} (hx : IsT k p n dm U L xs) (hy : IsT k p n dm U M ys) : IsT k p n dm U L (addXs hr xs (permXs hr dm M L ys)) := by rw [addXs_tab hr hx hy]; exact IsT.tab hx.uni hx.sub _
theorem val_both_dep {dm : Int → Int} {L M : List Int} (hp : L.Perm M) (xs ys : List (El k p n)) (f : El k p n → El k p n → El k p n) : Dep (fun τ => f (valT hr dm M ys τ) (valT hr dm L xs τ)) L := fun σ τ h => by
  show f _ _ = f _ _
  rw [valT_dep hr dm L xs σ τ h, valT_dep hr dm M ys σ τ fun l hl => h l (hp.mem_iff.2 hl)]
/-- One round of each loop, told of integers. -/
theorem add_step {W : Nat} (hW : ringWidth k n = (W : Int)) {xs ys : List (El k p n)} (h : xs.length = ys.length) {j : Nat} (hj : j < ys.length) :
    ∃ x y : List Int, j * W + W ≤ (flat ys).length ∧ j * W + W ≤ (flat xs).length ∧ getL (flat xs) (j * W) W = x ∧ getL (flat (mixX (addXs hr xs ys) ys j)) (j * W) W = y ∧ rawOk k p n x = true ∧ rawOk k p n y = true ∧
      putL (flat (mixX (addXs hr xs ys) ys j)) (j * W) (addL k p y x) = flat (mixX (addXs hr xs ys) ys (j + 1)) := by
  obtain ⟨x, hx⟩ : ∃ x, xs[j]? = some x := ⟨_, List.getElem?_eq_getElem (by omega)⟩
  obtain ⟨y, hy⟩ : ∃ y, ys[j]? = some y := ⟨_, List.getElem?_eq_getElem hj⟩
  have hz : (addXs hr xs ys)[j]? = some ((rig hr).add y x) := by unfold addXs; rw [List.getElem?_zipWith, hy, hx]
  have hl : (addXs hr xs ys).length = ys.length := by unfold addXs; rw [List.length_zipWith]; omega
  obtain ⟨_, h2, h3⟩ := flat_mix hW hl hy hz
  exact ⟨x.1, y.1, (flat_at hW hy).1, (flat_at hW hx).1, (flat_at hW hx).2, h2, x.2, y.2, h3⟩
theorem mul_step {W : Nat} (hW : ringWidth k n = (W : Int)) {xs ys : List (El k p n)} (h : xs.length = ys.length) {j : Nat} (hj : j < ys.length) :
    ∃ x y : List Int, j * W + W ≤ (flat ys).length ∧ j * W + W ≤ (flat xs).length ∧ getL (flat xs) (j * W) W = x ∧ getL (flat ys) (j * W) W = y ∧ rawOk k p n x = true ∧ rawOk k p n y = true ∧
      putL (flat (mixX (mulXs hr xs ys) ys j)) (j * W) (mulL k p x y) = flat (mixX (mulXs hr xs ys) ys (j + 1)) := by
  obtain ⟨x, hx⟩ : ∃ x, xs[j]? = some x := ⟨_, List.getElem?_eq_getElem (by omega)⟩
  obtain ⟨y, hy⟩ : ∃ y, ys[j]? = some y := ⟨_, List.getElem?_eq_getElem hj⟩
  have hz : (mulXs hr xs ys)[j]? = some ((rig hr).mul x y) := by unfold mulXs; rw [List.getElem?_zipWith, hx, hy]
  have hl : (mulXs hr xs ys).length = ys.length := by unfold mulXs; rw [List.length_zipWith]; omega
  obtain ⟨_, _, h3⟩ := flat_mix hW hl hy hz
  exact ⟨x.1, y.1, (flat_at hW hy).1, (flat_at hW hx).1, (flat_at hW hx).2, (flat_at hW hy).2, x.2, y.2, h3⟩
theorem scale_step {W : Nat} (hW : ringWidth k n = (W : Int)) (x : El k p n) {ys : List (El k p n)} {j : Nat} (hj : j < ys.length) :
    ∃ y : List Int, j * W + W ≤ (flat ys).length ∧ getL (flat ys) (j * W) W = y ∧ rawOk k p n y = true ∧
      putL (flat (mixX (scaleXs hr x ys) ys j)) (j * W) (mulL k p x.1 y) = flat (mixX (scaleXs hr x ys) ys (j + 1)) := by
  obtain ⟨y, hy⟩ : ∃ y, ys[j]? = some y := ⟨_, List.getElem?_eq_getElem hj⟩
  have hz : (scaleXs hr x ys)[j]? = some ((rig hr).mul x y) := by unfold scaleXs; rw [List.getElem?_map, hy]; rfl
  have hl : (scaleXs hr x ys).length = ys.length := by unfold scaleXs; rw [List.length_map]
  obtain ⟨_, _, h3⟩ := flat_mix hW hl hy hz
  exact ⟨y.1, (flat_at hW hy).1, (flat_at hW hy).2, y.2, h3⟩
/-- Sums in both orders are one tensor. -/
theorem add_sort {dm : Int → Int} {U L M : List Int} {xs ys : List (El k p n)} (hx : IsT k p n dm U L xs) (hy : IsT k p n dm U M ys) (hp : L.Perm M) :
    sortL L = sortL M ∧ permXs hr dm L (sortL L) (addXs hr xs (permXs hr dm M L ys)) = permXs hr dm M (sortL M) (addXs hr ys (permXs hr dm L M xs)) := by
  rw [addXs_tab hr hx hy, addXs_tab hr hy hx]
  exact sort_same hr hx.uni hx.sub hp (val_both_dep hr hp xs ys (rig hr).add) (val_both_dep hr hp.symm ys xs (rig hr).add) fun σ => (rig hr).add_comm _ _
theorem permXs_map {dm : Int → Int} {L M : List Int} (f : El k p n → El k p n) (h0 : f (rig hr).zero = (rig hr).zero) (xs : List (El k p n)) : permXs hr dm L M (xs.map f) = (permXs hr dm L M xs).map f := by
  unfold permXs
  rw [tab_map]
  congr 1
  funext τ
  unfold valT
  rw [List.getD_eq_getElem?_getD, List.getD_eq_getElem?_getD, List.getElem?_map]
  cases xs[off (axs dm L) τ]? with
  | none => exact h0.symm
  | some x => rfl
/-- Scaling goes through a sum. -/
theorem scale_add {dm : Int → Int} {L M : List Int} (x : El k p n) (xs ys : List (El k p n)) : scaleXs hr x (addXs hr xs (permXs hr dm M L ys)) = addXs hr (scaleXs hr x xs) (permXs hr dm M L (scaleXs hr x ys)) := by
  unfold scaleXs addXs
  rw [permXs_map hr _ ((rig hr).mul_zero x), List.map_zipWith, List.zipWith_map]
  congr 1
  funext a b
  exact (rig hr).mul_add _ _ _
theorem joinL_sub {a b : List Int} (h : ∀ x ∈ b, x ∈ a) : joinL a b = a := by
  unfold joinL
  rw [List.filter_eq_nil_iff.2 fun x hx => by rw [(hasL_iff a x).2 (h x hx)]; simp, List.append_nil]
/-- The product element by element is a contraction that keeps all. -/
theorem mul_contr {dm : Int → Int} {U L M : List Int} {xs ys : List (El k p n)} (hx : IsT k p n dm U L xs) (hy : IsT k p n dm U M ys) (hp : L.Perm M) :
    keepL (joinL L M) L = L ∧ contrXs hr dm L M L xs ys = mulXs hr xs (permXs hr dm M L ys) := by
  have e := joinL_sub fun x hx => hp.mem_iff.2 hx
  have hall : ∀ x ∈ joinL L M, x ∈ L := by rw [e]; exact fun x h => h
  refine ⟨by rw [keepL_all hall, e], ?_⟩
  rw [contr_all hr hall, e, mulXs_tab hr hx hy]
theorem zero_addXs (xs : List (El k p n)) : addXs hr (List.replicate xs.length (rig hr).zero) xs = xs := by
  unfold addXs
  induction xs with
  | nil => rfl
  | cons x xs ih => rw [List.length_cons, List.replicate_succ, List.zipWith_cons_cons, ih, (rig hr).add_zero]
end
end Go.Proofs.Ytabeciopggofkaa
