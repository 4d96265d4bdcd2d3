/- Three tensors, and labels summed early, plain. No program in sight. -/
import Derived.Test.YtabeciopggofkaaXBase
import Derived.Test.YtabeciopggofkaaXSort
namespace Go.Proofs.Ytabeciopggofkaa
open Go.RowKit
set_option linter.unusedSimpArgs false
set_option linter.unusedVariables false

theorem hasL_join (a b : List Int) (x : Int) : hasL (joinL a b) x = (hasL a x || hasL b x) := by
  rw [Bool.eq_iff_iff, hasL_iff, mem_joinL, Bool.or_eq_true, hasL_iff, hasL_iff]
theorem hasL_keep (a keep : List Int) (x : Int) : hasL (keepL a keep) x = (hasL a x && hasL keep x) := by
  rw [Bool.eq_iff_iff, hasL_iff, mem_keepL, Bool.and_eq_true, hasL_iff, hasL_iff]
theorem joinL_assoc (a b c : List Int) : joinL (joinL a b) c = joinL a (joinL b c) := by
  have e : ∀ u v : List Int, joinL u v = u ++ v.filter fun x => !hasL u x := fun _ _ => rfl
  rw [e (joinL a b) c, e a b, e a (joinL b c), e b c, List.filter_append, List.append_assoc, List.filter_filter]
  congr 2
  refine List.filter_congr fun x _ => ?_
  have := hasL_join a b x
  rw [e a b] at this
  rw [this, Bool.not_or]
theorem keepL_all {l keep : List Int} (h : ∀ x ∈ l, x ∈ keep) : keepL l keep = l := List.filter_eq_self.2 fun x hx => (hasL_iff _ _).2 (h x hx)
theorem goneL_none {l keep : List Int} (h : ∀ x ∈ l, x ∈ keep) : goneL l keep = [] := List.filter_eq_nil_iff.2 fun x hx => by simp [(hasL_iff _ _).2 (h x hx)]
theorem gone_early {a b keep : List Int} (hb : ∀ x ∈ b, x ∈ keep) : goneL (joinL a b) keep = goneL a keep := by
  have e : goneL (joinL a b) keep = goneL a keep ++ goneL (b.filter fun x => !hasL a x) keep := List.filter_append ..
  rw [e, goneL_none (fun x hx => hb x (List.mem_filter.1 hx).1), List.append_nil]
theorem keep_early {a b keep : List Int} (hb : ∀ x ∈ b, x ∈ keep) : keepL (joinL a b) keep = keepL (joinL (keepL a keep) b) keep := by
  have e : ∀ u : List Int, keepL (joinL u b) keep = keepL u keep ++ keepL (b.filter fun x => !hasL u x) keep := fun u => List.filter_append ..
  rw [e, e, keepL_all (l := keepL a keep) fun x hx => (mem_keepL.1 hx).2]
  congr 2
  refine List.filter_congr fun x hx => ?_
  rw [hasL_keep, (hasL_iff _ _).2 (hb x hx), Bool.and_true]
section
variable {R : Type} (S : Rig R)
theorem contrF_all {dm : Int → Int} {all keep : List Int} (h : ∀ x ∈ all, x ∈ keep) (F : (Int → Int) → R) (σ : Int → Int) : contrF S dm all keep F σ = F σ := by
  unfold contrF; rw [goneL_none h]; rfl
/-- Labels of the first factor alone may be summed early. -/
theorem contrF_early {dm : Int → Int} {a b keep : List Int} (hb : ∀ x ∈ b, x ∈ keep) {A B : (Int → Int) → R} (hB : Dep B b) (σ : Int → Int) :
    contrF S dm (joinL a b) keep (fun τ => S.mul (A τ) (B τ)) σ = S.mul (contrF S dm a keep A σ) (B σ) := by
  unfold contrF
  rw [gone_early hb]
  refine sumA_mul S A hB (fun x hx hx2 => ?_) σ
  rw [labs_axs] at hx
  exact (mem_goneL.1 hx).2 (hb x hx2)
end
end Go.Proofs.Ytabeciopggofkaa
