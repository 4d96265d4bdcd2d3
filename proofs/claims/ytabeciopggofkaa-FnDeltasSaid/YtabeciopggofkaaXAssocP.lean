/- The law of three tensors, plain. No program in sight. -/
import Derived.Test.YtabeciopggofkaaXBase
import Derived.Test.YtabeciopggofkaaXSumLW
import Derived.Test.YtabeciopggofkaaXPairsP
namespace Go.Proofs.Ytabeciopggofkaa
open Go.RowKit
set_option linter.unusedSimpArgs false
set_option linter.unusedVariables false

section
variable {k p n : Int} (hr : ringOk k p n = true)
theorem fits_sub {dm : Int → Int} {L M : List Int} {τ : Int → Int} (h : Fits (axs dm M) τ) (hs : ∀ l ∈ L, l ∈ M) : Fits (axs dm L) τ := fun x hx => by
  obtain ⟨l, hl, rfl⟩ := List.mem_map.1 hx
  exact h (l, dm l) (List.mem_map_of_mem (hs l hl))
/-- Tables over one list of labels agree where the functions agree at what fits. -/
theorem tab_fits {α : Type} {dm : Int → Int} {U L : List Int} (u : Uni dm U) (s : Sub U L) {F G : (Int → Int) → α} (h : ∀ τ, Fits (axs dm L) τ → F τ = G τ) : tab (axs dm L) F σ0 = tab (axs dm L) G σ0 :=
  tab_congr (Uni.nodup s) (u.dims s) fun o => h _ (asg_fits' u s o σ0)
theorem contr_all {dm : Int → Int} {a b keep : List Int} (h : ∀ x ∈ joinL a b, x ∈ keep) (xs ys : List (El k p n)) :
    contrXs hr dm a b keep xs ys = tab (axs dm (joinL a b)) (mulF hr dm a b xs ys) σ0 := by
  unfold contrXs
  rw [keepL_all h]
  congr 1
  funext σ
  exact contrF_all (rig hr) h _ σ
theorem assoc_data {dm : Int → Int} {U a b c : List Int} {xs ys zs : List (El k p n)} (ha : IsT k p n dm U a xs) (hb : IsT k p n dm U b ys) (hc : IsT k p n dm U c zs) :
    keepL (joinL (keepL (joinL a b) U) c) U = keepL (joinL a (keepL (joinL b c) U)) U ∧
      contrXs hr dm (keepL (joinL a b) U) c U (contrXs hr dm a b U xs ys) zs = contrXs hr dm a (keepL (joinL b c) U) U xs (contrXs hr dm b c U ys zs) := by
  have u := ha.uni
  have sab := ha.sub.join hb.sub
  have sbc := hb.sub.join hc.sub
  have e1 := keepL_all (keep := U) sab.sub
  have e2 := keepL_all (keep := U) sbc.sub
  rw [e1, e2, contr_all hr sab.sub, contr_all hr sbc.sub, contr_all hr (sab.join hc.sub).sub, contr_all hr (ha.sub.join sbc).sub]
  have e3 := joinL_assoc a b c
  refine ⟨by rw [e3], ?_⟩
  have s3 := ha.sub.join sbc
  rw [e3]
  refine tab_fits u s3 fun τ hf => ?_
  have f1 : Fits (axs dm (joinL a b)) τ := fits_sub hf fun l hl => by rw [← e3]; exact mem_joinL.2 (.inl hl)
  have f2 : Fits (axs dm (joinL b c)) τ := fits_sub hf fun l hl => mem_joinL.2 (.inr hl)
  show (rig hr).mul (valT hr dm (joinL a b) _ τ) _ = (rig hr).mul _ (valT hr dm (joinL b c) _ τ)
  rw [valT_tab hr (mulF_dep hr dm a b xs ys) f1, valT_tab hr (mulF_dep hr dm b c ys zs) f2]
  exact (rig hr).mul_assoc _ _ _
theorem sum_isT {dm : Int → Int} {U a : List Int} {xs : List (El k p n)} (ha : IsT k p n dm U a xs) (keep : List Int) : IsT k p n dm U (keepL a keep) (sumXs hr dm a keep xs) := IsT.tab ha.uni (ha.sub.keep keep) _
theorem early_data {dm : Int → Int} {U a b keep : List Int} {xs ys : List (El k p n)} (ha : IsT k p n dm U a xs) (hb : IsT k p n dm U b ys) (hk : ∀ x ∈ b, x ∈ keep) :
    keepL (joinL a b) keep = keepL (joinL (keepL a keep) b) keep ∧ contrXs hr dm a b keep xs ys = contrXs hr dm (keepL a keep) b keep (sumXs hr dm a keep xs) ys := by
  have u := ha.uni
  have e1 := keep_early (a := a) hk
  refine ⟨e1, ?_⟩
  unfold contrXs
  rw [← e1]
  refine tab_fits u ((ha.sub.join hb.sub).keep keep) fun τ hf => ?_
  have hall : ∀ x ∈ joinL (keepL a keep) b, x ∈ keep := fun x hx => (mem_joinL.1 hx).elim (fun h => (mem_keepL.1 h).2) (hk x)
  rw [contrF_all (rig hr) hall]
  show contrF (rig hr) dm (joinL a b) keep (fun τ => (rig hr).mul (valT hr dm a xs τ) (valT hr dm b ys τ)) τ = (rig hr).mul (valT hr dm (keepL a keep) _ τ) _
  rw [contrF_early (rig hr) hk (valT_dep hr dm b ys)]
  congr 1
  refine (valT_tab hr (contrF_dep (rig hr) (valT_dep hr dm a xs)) (fits_sub hf fun l hl => ?_) σ0).symm
  have := mem_keepL.1 hl
  exact mem_keepL.2 ⟨mem_joinL.2 (.inl this.1), this.2⟩
theorem late_data {dm : Int → Int} {U a b : List Int} (keep : List Int) {xs ys : List (El k p n)} (ha : IsT k p n dm U a xs) (hb : IsT k p n dm U b ys) :
    keepL (keepL (joinL a b) U) keep = keepL (joinL a b) keep ∧ sumXs hr dm (keepL (joinL a b) U) keep (contrXs hr dm a b U xs ys) = contrXs hr dm a b keep xs ys := by
  have u := ha.uni
  have sab := ha.sub.join hb.sub
  rw [keepL_all (keep := U) sab.sub, contr_all hr sab.sub]
  refine ⟨rfl, ?_⟩
  unfold sumXs contrXs
  refine tab_fits u (sab.keep keep) fun τ hf => ?_
  unfold contrF
  refine sumA_congr (rig hr) fun υ h1 h2 => ?_
  have hg := h2 (by rw [labs_axs]; exact (sab.gone keep).nodup)
  refine valT_tab hr (mulF_dep hr dm a b xs ys) (fun x hx => ?_) σ0
  obtain ⟨l, hl, rfl⟩ := List.mem_map.1 hx
  by_cases hlk : l ∈ keep
  · have := hf (l, dm l) (List.mem_map_of_mem (mem_keepL.2 ⟨hl, hlk⟩))
    have e : υ l = τ l := h1 l (by rw [labs_axs]; exact fun h => (mem_goneL.1 h).2 hlk)
    simp only at this ⊢
    rw [e]; exact this
  · exact hg (l, dm l) (List.mem_map_of_mem (mem_goneL.2 ⟨hl, hlk⟩))
end
end Go.Proofs.Ytabeciopggofkaa
