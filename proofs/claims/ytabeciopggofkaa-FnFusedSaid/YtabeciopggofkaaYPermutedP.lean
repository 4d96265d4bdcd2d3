/- The law of permuted axes, plain. No program in sight. -/
import Derived.Test.YtabeciopggofkaaYBase
import Derived.Test.YtabeciopggofkaaYG10
import Derived.Test.YtabeciopggofkaaYRelabW
namespace Go.Proofs.Ytabeciopggofkaa
open Go.RowKit
set_option linter.unusedSimpArgs false
set_option linter.unusedVariables false

section
variable {k p n : Int} (hr : ringOk k p n = true)
theorem permXs_trans {dm : Int → Int} {U L M N : List Int} (u : Uni dm U) (hL : Sub U L) (hM : L.Perm M) (hN : M.Perm N) (xs : List (El k p n)) : permXs hr dm M N (permXs hr dm L M xs) = permXs hr dm L N xs :=
  permXs_tab hr u (hL.perm hM) hN ((valT_dep hr dm L xs).perm hM)
theorem perm_isT {dm : Int → Int} {U L M : List Int} {xs : List (El k p n)} (h : IsT k p n dm U L xs) (hM : L.Perm M) : IsT k p n dm U M (permXs hr dm L M xs) := IsT.tab h.uni (h.sub.perm hM) _
theorem perm_sort {dm : Int → Int} {U L M : List Int} {xs : List (El k p n)} (h : IsT k p n dm U L xs) (hM : L.Perm M) :
    sortL L = sortL M ∧ permXs hr dm L (sortL L) xs = permXs hr dm M (sortL M) (permXs hr dm L M xs) := by
  refine ⟨sortL_of_perm hM, ?_⟩
  rw [permXs_trans hr h.uni h.sub hM (sortL_perm M).symm, sortL_of_perm hM]
end
theorem renL_map {f : Int → Int} : ∀ {L : List Int} {x : Int}, x ∈ L → renL L (L.map f) x = f x
  | [], x, h => by simp at h
  | y :: L, x, h => by
    rw [List.map_cons, renL]
    by_cases e : y = x
    · rw [if_pos e, e]
    · rw [if_neg e]
      exact renL_map ((List.mem_cons.1 h).resolve_left fun h => e h.symm)
theorem renL_there (f : Int → Int) (L : List Int) : L.map (renL L (L.map f)) = L.map f := List.map_congr_left fun _ hx => renL_map hx
theorem renL_inv {f : Int → Int} (hf : ∀ x y, f x = f y → x = y) : ∀ {L : List Int} {x : Int}, x ∈ L → renL (L.map f) L (f x) = x
  | [], x, h => by simp at h
  | y :: L, x, h => by
    rw [List.map_cons, renL]
    by_cases e : y = x
    · rw [if_pos (by rw [e]), e]
    · rw [if_neg fun h => e (hf _ _ h)]
      exact renL_inv hf ((List.mem_cons.1 h).resolve_left fun h => e h.symm)
theorem renL_back {f : Int → Int} (hf : ∀ x y, f x = f y → x = y) (L : List Int) : (L.map f).map (renL (L.map f) L) = L := by
  rw [List.map_map]
  conv => rhs; rw [← List.map_id L]
  exact List.map_congr_left fun x hx => renL_inv hf hx
theorem axOk_map {f : Int → Int} (hf : ∀ x y, f x = f y → x = y) {L D : List Int} (h : AxOk L D) (hl : ∀ l ∈ L, 0 ≤ f l ∧ f l ≤ 99) : AxOk (L.map f) D := by
  refine ⟨by rw [List.length_map]; exact h.len, by rw [List.length_map]; exact h.rank, fun l hm => ?_, ?_, h.dims, h.size⟩
  · obtain ⟨x, hx, rfl⟩ := List.mem_map.1 hm
    exact hl x hx
  · exact List.Pairwise.map f (fun a b hab e => hab (hf a b e)) h.nodup
end Go.Proofs.Ytabeciopggofkaa
