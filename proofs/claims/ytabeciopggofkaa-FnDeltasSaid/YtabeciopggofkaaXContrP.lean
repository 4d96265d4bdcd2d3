/- What ContractPair's loop adds up, plain. No program in sight. -/
import Derived.Test.YtabeciopggofkaaXBase
import Derived.Test.YtabeciopggofkaaXPermP
import Derived.Test.YtabeciopggofkaaXAssoc
namespace Go.Proofs.Ytabeciopggofkaa
open Go.RowKit
set_option linter.unusedSimpArgs false
set_option linter.unusedVariables false

section
variable {k p n : Int} (hr : ringOk k p n = true)
/-- The product of two tensors' values. -/
def mulF (dm : Int → Int) (a b : List Int) (xs ys : List (El k p n)) : (Int → Int) → El k p n := fun τ => (rig hr).mul (valT hr dm a xs τ) (valT hr dm b ys τ)
/-- The data of a contraction. -/
def contrXs (dm : Int → Int) (a b keep : List Int) (xs ys : List (El k p n)) : List (El k p n) :=
  tab (axs dm (keepL (joinL a b) keep)) (contrF (rig hr) dm (joinL a b) keep (mulF hr dm a b xs ys)) σ0
/-- What has been added up behind o indices. -/
def contrZ (dm : Int → Int) (a b keep : List Int) (xs ys : List (El k p n)) (o : Nat) : List (El k p n) :=
  scat (rig hr) (List.replicate (size (axs dm (keepL (joinL a b) keep))) (rig hr).zero) ((tab (axs dm (joinL a b)) (fun τ => (off (axs dm (keepL (joinL a b) keep)) τ, mulF hr dm a b xs ys τ)) σ0).take o)
theorem contrZ_zero (dm : Int → Int) (a b keep : List Int) (xs ys : List (El k p n)) : contrZ hr dm a b keep xs ys 0 = List.replicate (size (axs dm (keepL (joinL a b) keep))) (rig hr).zero := rfl
theorem contrZ_length (dm : Int → Int) (a b keep : List Int) (xs ys : List (El k p n)) (o : Nat) : (contrZ hr dm a b keep xs ys o).length = size (axs dm (keepL (joinL a b) keep)) := by
  unfold contrZ; rw [scat_length, List.length_replicate]
theorem contrZ_all {dm : Int → Int} {U a b : List Int} (sa : Sub U a) (sb : Sub U b) (keep : List Int) (xs ys : List (El k p n)) : contrZ hr dm a b keep xs ys (size (axs dm (joinL a b))) = contrXs hr dm a b keep xs ys := by
  unfold contrZ contrXs
  rw [List.take_of_length_le (by rw [tab_length]; exact Nat.le_refl _)]
  exact contr_scat (rig hr) (sa.join sb) _ σ0
theorem getD_modify {α : Type} {l : List α} {q : Nat} (h : q < l.length) (f : α → α) : l.modify q f = l.set q (f l[q]) := by
  apply List.ext_getElem?
  intro i
  rw [List.getElem?_modify, List.getElem?_set]
  by_cases e : q = i
  · subst e; simp [h]
  · simp [e]
/-- One round. -/
theorem contr_step {W : Nat} (hW : ringWidth k n = (W : Int)) {dm : Int → Int} {U a b : List Int} {xs ys : List (El k p n)} (ha : IsT k p n dm U a xs) (hb : IsT k p n dm U b ys) (keep : List Int) {o : Nat} (ho : o < size (axs dm (joinL a b))) :
    ∃ (qa qb qc : Nat) (x y z : List Int),
      dotL ((joinL a b).map (stride a (a.map dm))) ((joinL a b).map (asg (axs dm (joinL a b)) o σ0)) = (qa : Int) ∧ qa ≤ 4096 ∧ qa * W + W ≤ (flat xs).length ∧ getL (flat xs) (qa * W) W = x ∧ rawOk k p n x = true ∧
      dotL ((joinL a b).map (stride b (b.map dm))) ((joinL a b).map (asg (axs dm (joinL a b)) o σ0)) = (qb : Int) ∧ qb ≤ 4096 ∧ qb * W + W ≤ (flat ys).length ∧ getL (flat ys) (qb * W) W = y ∧ rawOk k p n y = true ∧
      dotL ((joinL a b).map (stride (keepL (joinL a b) keep) ((keepL (joinL a b) keep).map dm))) ((joinL a b).map (asg (axs dm (joinL a b)) o σ0)) = (qc : Int) ∧ qc ≤ 4096 ∧ qc * W + W ≤ (flat (contrZ hr dm a b keep xs ys o)).length ∧ getL (flat (contrZ hr dm a b keep xs ys o)) (qc * W) W = z ∧ rawOk k p n z = true ∧
      rawOk k p n (mulL k p x y) = true ∧ flat (contrZ hr dm a b keep xs ys (o + 1)) = putL (flat (contrZ hr dm a b keep xs ys o)) (qc * W) (addL k p z (mulL k p x y)) := by
  have sj := ha.sub.join hb.sub
  have sl := sj.keep keep
  have u := ha.uni
  obtain ⟨τ, hτ⟩ : ∃ τ, asg (axs dm (joinL a b)) o σ0 = τ := ⟨_, rfl⟩
  have hf : Fits (axs dm (joinL a b)) τ := by rw [← hτ]; exact asg_fits' u sj o σ0
  have fit : ∀ L : List Int, (∀ l ∈ L, l ∈ joinL a b) → Fits (axs dm L) τ := fun L h x hx => by
    obtain ⟨l, hl, rfl⟩ := List.mem_map.1 hx
    exact hf (l, dm l) (List.mem_map_of_mem (h l hl))
  have hA : ∀ l ∈ a, l ∈ joinL a b := fun l hl => mem_joinL.2 (.inl hl)
  have hB : ∀ l ∈ b, l ∈ joinL a b := fun l hl => mem_joinL.2 (.inr hl)
  have hC : ∀ l ∈ keepL (joinL a b) keep, l ∈ joinL a b := fun l hl => (mem_keepL.1 hl).1
  obtain ⟨qa, a1, a2, a3, a4⟩ := read_at hr hW ha sj.nodup hA (fit a hA)
  obtain ⟨qb, b1, b2, b3, b4⟩ := read_at hr hW hb sj.nodup hB (fit b hB)
  have hd : ∀ l ∈ keepL (joinL a b) keep, 1 ≤ dm l := fun l hl => (u.dim (sl.sub l hl)).1
  have c1 := dot_off (dm := dm) sj.nodup sl.nodup hC hd (σ := τ) (fun l hl => (fit _ hC (l, dm l) (List.mem_map_of_mem hl)).1)
  have c2 := off_lt (fit _ hC)
  have c3 := (u.small sl).1
  have c4 := contrZ_length hr dm a b keep xs ys o
  have hq : off (axs dm (keepL (joinL a b) keep)) τ < (contrZ hr dm a b keep xs ys o).length := by omega
  have hz := List.getElem?_eq_getElem hq
  have hp := flat_put hW hq ((rig hr).add (contrZ hr dm a b keep xs ys o)[off (axs dm (keepL (joinL a b) keep)) τ] (mulF hr dm a b xs ys τ))
  rw [hτ]
  refine ⟨qa, qb, off (axs dm (keepL (joinL a b) keep)) τ, _, _, _, a1, ?_, a2, a3, (valT hr dm a xs τ).2, b1, ?_, b2, b3, (valT hr dm b ys τ).2, c1, by omega, ?_, flat_get hW hz, ((contrZ hr dm a b keep xs ys o)[off (axs dm (keepL (joinL a b) keep)) τ]).2, (mulF hr dm a b xs ys τ).2, ?_⟩
  · have := ha.small; omega
  · have := hb.small; omega
  · rw [flat_length hW, c4]
    have : (off (axs dm (keepL (joinL a b) keep)) τ + 1) * W ≤ size (axs dm (keepL (joinL a b) keep)) * W := Nat.mul_le_mul_right _ (by omega)
    rw [Nat.add_mul, Nat.one_mul] at this
    exact this
  · refine Eq.trans ?_ hp.symm
    congr 1
    conv => lhs; unfold contrZ
    rw [tab_take _ _ _ ho, scat_snoc (xs := []), hτ]
    exact getD_modify hq _
end
end Go.Proofs.Ytabeciopggofkaa
