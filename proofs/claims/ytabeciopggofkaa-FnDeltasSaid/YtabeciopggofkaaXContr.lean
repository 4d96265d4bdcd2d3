/- Contractions and permutations of tensors, plain. No program in sight. -/
import Derived.Test.YtabeciopggofkaaXBase
import Derived.Test.YtabeciopggofkaaXFlat
namespace Go.Proofs.Ytabeciopggofkaa
open Go.RowKit
set_option linter.unusedSimpArgs false
set_option linter.unusedVariables false

/-- 'joinLabels' -/
def joinL (a b : List Int) : List Int := a ++ b.filter fun x => !hasL a x
/-- 'keptOnly' -/
def keepL (l keep : List Int) : List Int := l.filter fun x => hasL keep x
/-- What is summed over. -/
def goneL (l keep : List Int) : List Int := l.filter fun x => !hasL keep x
theorem mem_joinL {a b : List Int} {x : Int} : x ∈ joinL a b ↔ x ∈ a ∨ x ∈ b := by
  unfold joinL
  rw [List.mem_append, List.mem_filter]
  constructor
  · rintro (h | h)
    · exact .inl h
    · exact .inr h.1
  · rintro (h | h)
    · exact .inl h
    · by_cases hx : x ∈ a
      · exact .inl hx
      · exact .inr ⟨h, by rw [hasL_not.2 hx]; rfl⟩
theorem mem_keepL {l keep : List Int} {x : Int} : x ∈ keepL l keep ↔ x ∈ l ∧ x ∈ keep := by
  unfold keepL; rw [List.mem_filter, hasL_iff]
theorem mem_goneL {l keep : List Int} {x : Int} : x ∈ goneL l keep ↔ x ∈ l ∧ x ∉ keep := by
  unfold goneL; rw [List.mem_filter, Bool.not_eq_true', hasL_not]
theorem Sub.join {U a b : List Int} (ha : Sub U a) (hb : Sub U b) : Sub U (joinL a b) := by
  refine ⟨?_, fun l hl => (mem_joinL.1 hl).elim (ha.sub l) (hb.sub l)⟩
  unfold joinL
  rw [List.nodup_append]
  refine ⟨ha.nodup, hb.nodup.filter _, fun x hx y hy e => ?_⟩
  subst e
  have := (List.mem_filter.1 hy).2
  rw [Bool.not_eq_true', hasL_not] at this
  exact this hx
theorem Sub.keep {U l : List Int} (h : Sub U l) (keep : List Int) : Sub U (keepL l keep) := h.filter _
theorem Sub.gone {U l : List Int} (h : Sub U l) (keep : List Int) : Sub U (goneL l keep) := h.filter _
theorem keep_gone (l keep : List Int) : l.Perm (keepL l keep ++ goneL l keep) := (List.filter_append_perm _ l).symm
theorem axs_perm {dm : Int → Int} {a b : List Int} (h : a.Perm b) : (axs dm a).Perm (axs dm b) := h.map _
theorem joinL_comm {U a b : List Int} (ha : Sub U a) (hb : Sub U b) : (joinL a b).Perm (joinL b a) :=
  (List.perm_ext_iff_of_nodup (ha.join hb).nodup (hb.join ha).nodup).2 fun x => by rw [mem_joinL, mem_joinL]; exact Or.comm
theorem keepL_perm {a b : List Int} (h : a.Perm b) (keep : List Int) : (keepL a keep).Perm (keepL b keep) := h.filter _
theorem goneL_perm {a b : List Int} (h : a.Perm b) (keep : List Int) : (goneL a keep).Perm (goneL b keep) := h.filter _
section
variable {R : Type} (S : Rig R)
/-- The value of a contraction: the sum over what is not kept. -/
def contrF (dm : Int → Int) (all keep : List Int) (F : (Int → Int) → R) : (Int → Int) → R := sumA S (axs dm (goneL all keep)) F
theorem contrF_dep {dm : Int → Int} {all keep : List Int} {F : (Int → Int) → R} (hF : Dep F all) : Dep (contrF S dm all keep F) (keepL all keep) :=
  sumA_dep' S hF fun x hx hn => by
    rw [labs_axs] at hn
    by_cases h : x ∈ keep
    · exact mem_keepL.2 ⟨hx, h⟩
    · exact absurd (mem_goneL.2 ⟨hx, h⟩) hn
/-- Contributions scattered over all indices give the table of the contraction. -/
theorem contr_scat {U : List Int} {dm : Int → Int} {all keep : List Int} (h : Sub U all) (F : (Int → Int) → R) (σ : Int → Int) :
    scat S (List.replicate (size (axs dm (keepL all keep))) S.zero) (tab (axs dm all) (fun τ => (off (axs dm (keepL all keep)) τ, F τ)) σ) = tab (axs dm (keepL all keep)) (contrF S dm all keep F) σ := by
  refine scat_tab S F ?_ (by rw [labs_axs]; exact h.nodup) σ
  rw [← axs_append]
  exact axs_perm (keep_gone all keep)
theorem contrF_perm {U : List Int} {dm : Int → Int} {all all' keep : List Int} (h : Sub U all) (p : all.Perm all') (F : (Int → Int) → R) (σ : Int → Int) : contrF S dm all keep F σ = contrF S dm all' keep F σ :=
  sumA_perm S F (axs_perm (goneL_perm p keep)) (by rw [labs_axs]; exact (h.gone keep).nodup) σ
theorem mul_dep {A B : (Int → Int) → R} {a b : List Int} (hA : Dep A a) (hB : Dep B b) : Dep (fun σ => S.mul (A σ) (B σ)) (joinL a b) := fun σ τ h => by
  show S.mul (A σ) (B σ) = S.mul (A τ) (B τ)
  rw [hA σ τ fun l hl => h l (mem_joinL.2 (.inl hl)), hB σ τ fun l hl => h l (mem_joinL.2 (.inr hl))]
/-- The order of two factors is not seen. -/
theorem contrF_comm {U : List Int} {dm : Int → Int} {a b keep : List Int} (ha : Sub U a) (hb : Sub U b) (A B : (Int → Int) → R) (σ : Int → Int) :
    contrF S dm (joinL a b) keep (fun τ => S.mul (A τ) (B τ)) σ = contrF S dm (joinL b a) keep (fun τ => S.mul (B τ) (A τ)) σ := by
  rw [contrF_perm S (ha.join hb) (joinL_comm ha hb)]
  exact sumA_ext S _ σ fun τ => S.mul_comm _ _
/-- Summing in two steps. -/
theorem contrF_twice {U : List Int} {dm : Int → Int} {all k1 k2 : List Int} (h : Sub U all) (hk : ∀ x ∈ k2, x ∈ k1) (F : (Int → Int) → R) (σ : Int → Int) :
    contrF S dm (keepL all k1) k2 (contrF S dm all k1 F) σ = contrF S dm all k2 F σ := by
  unfold contrF
  rw [← sumA_append, ← axs_append]
  refine sumA_perm S F (axs_perm ?_) ?_ σ
  · refine (List.perm_ext_iff_of_nodup ?_ (h.gone k2).nodup).2 fun x => ?_
    · rw [List.nodup_append]
      refine ⟨((h.keep k1).gone k2).nodup, (h.gone k1).nodup, fun x hx y hy e => ?_⟩
      subst e
      exact (mem_goneL.1 hy).2 (mem_keepL.1 (mem_goneL.1 hx).1).2
    · rw [List.mem_append, mem_goneL, mem_keepL, mem_goneL, mem_goneL]
      constructor
      · rintro (⟨⟨h1, _⟩, h3⟩ | ⟨h1, h2⟩)
        · exact ⟨h1, h3⟩
        · exact ⟨h1, fun h3 => h2 (hk x h3)⟩
      · rintro ⟨h1, h2⟩
        by_cases h3 : x ∈ k1
        · exact .inl ⟨⟨h1, h3⟩, h2⟩
        · exact .inr ⟨h1, h3⟩
  · rw [labs_axs, List.nodup_append]
    refine ⟨((h.keep k1).gone k2).nodup, (h.gone k1).nodup, fun x hx y hy e => ?_⟩
    subst e
    exact (mem_goneL.1 hy).2 (mem_keepL.1 (mem_goneL.1 hx).1).2
/-- A homomorphism goes through a contraction. -/
theorem contrF_hom {Q : Type} (T : Rig Q) {h : R → Q} (h0 : h S.zero = T.zero) (ha : ∀ a b, h (S.add a b) = T.add (h a) (h b)) (dm : Int → Int) (all keep : List Int) (F : (Int → Int) → R) (σ : Int → Int) :
    h (contrF S dm all keep F σ) = contrF T dm all keep (fun τ => h (F τ)) σ := sumA_hom S T h0 ha F _ σ
end
end Go.Proofs.Ytabeciopggofkaa
