/- The law of deltas, plain, joined. No program in sight. -/
import Derived.Test.YtabeciopggofkaaXBase
import Derived.Test.YtabeciopggofkaaXDeltasP
namespace Go.Proofs.Ytabeciopggofkaa
open Go.RowKit
set_option linter.unusedSimpArgs false
set_option linter.unusedVariables false

theorem hasL_no {L : List Int} {x : Int} (h : x ∉ L) : hasL L x = false := by
  cases e : hasL L x
  · rfl
  · exact absurd ((hasL_iff L x).1 e) h
theorem cutL_none {L : List Int} {x : Int} (h : x ∉ L) : cutL L x = L := by
  unfold cutL
  rw [List.filter_eq_self]
  intro a ha
  have : a ≠ x := fun e => h (e ▸ ha)
  simp [this]
theorem cutL_append (L M : List Int) (x : Int) : cutL (L ++ M) x = cutL L x ++ cutL M x := by simp [cutL]
theorem cutL_head {x : Int} {L : List Int} (h : x ∉ L) : cutL (x :: L) x = L := by
  have : cutL (x :: L) x = cutL L x := by simp [cutL]
  rw [this, cutL_none h]
theorem prodL_le3 : ∀ {D : List Int}, (∀ d ∈ D, 1 ≤ d ∧ d ≤ 3) → prodL D ≤ 3 ^ D.length ∧ 1 ≤ prodL D
  | [], _ => ⟨by simp [prodL], by simp [prodL]⟩
  | d :: D, h => by
    obtain ⟨h1, h2⟩ := prodL_le3 fun x hx => h x (List.mem_cons_of_mem _ hx)
    obtain ⟨d1, d3⟩ := h d (by simp)
    rw [prodL_cons, List.length_cons, Int.pow_succ]
    constructor
    · calc d * prodL D ≤ 3 * prodL D := Int.mul_le_mul_of_nonneg_right d3 (by omega)
        _ = prodL D * 3 := Int.mul_comm _ _
        _ ≤ 3 ^ D.length * 3 := Int.mul_le_mul_of_nonneg_right h1 (by omega)
    · have : 1 * 1 ≤ d * prodL D := Int.mul_le_mul d1 h2 (by omega) (by omega)
      omega
/-- The dimensions where three labels more are as wide as x. -/
def dmX (x l : Int) : Int := if l = 50 ∨ l = 60 ∨ l = 70 then dimOf x else dimOf l
theorem dmX_range (x l : Int) : 1 ≤ dmX x l ∧ dmX x l ≤ 3 := by
  unfold dmX
  split
  · exact dimOf_range x
  · exact dimOf_range l
theorem u6_le {L : List Int} (h : Sub U6 L) {l : Int} (hl : l ∈ L) : 0 ≤ l ∧ l ≤ 5 := by
  have := h.sub l hl
  simp [U6] at this; omega
theorem dmX_on {L : List Int} (h : Sub U6 L) (x : Int) {l : Int} (hl : l ∈ L) : dmX x l = dimOf l := by
  have := u6_le h hl
  unfold dmX
  rw [if_neg (by omega)]
theorem dmX_map {L : List Int} (h : Sub U6 L) (x : Int) : L.map dimOf = L.map (dmX x) := List.map_congr_left fun l hl => (dmX_on h x hl).symm
def UX (L : List Int) : List Int := L ++ [50, 60, 70]
theorem uniX {L : List Int} (h : Sub U6 L) (hl : L.length ≤ 3) (x : Int) : Uni (dmX x) (UX L) := by
  have hlen : (UX L).length ≤ 6 := by simp [UX]; omega
  refine ⟨⟨by rw [List.length_map], by omega, fun l hm => ?_, ?_, fun d hd => ?_, ?_⟩⟩
  · rcases List.mem_append.1 hm with h1 | h1
    · have := u6_le h h1; omega
    · simp at h1; omega
  · show List.Nodup (L ++ [50, 60, 70])
    rw [List.nodup_append]
    refine ⟨h.nodup, by decide, fun a ha b hb e => ?_⟩
    have := u6_le h ha
    simp at hb; omega
  · obtain ⟨l, _, rfl⟩ := List.mem_map.1 hd
    have := dmX_range x l; omega
  · have h1 := (prodL_le3 (D := (UX L).map (dmX x)) fun d hd => by obtain ⟨l, _, rfl⟩ := List.mem_map.1 hd; exact dmX_range x l).1
    rw [List.length_map] at h1
    have h2 : ∀ q : Nat, q ≤ 6 → (3 : Int) ^ q ≤ 729 := fun q hq => by
      have : q = 0 ∨ q = 1 ∨ q = 2 ∨ q = 3 ∨ q = 4 ∨ q = 5 ∨ q = 6 := by omega
      rcases this with rfl | rfl | rfl | rfl | rfl | rfl | rfl <;> decide
    have h2 := h2 _ hlen
    omega
theorem subX {L : List Int} (h : Sub U6 L) (hl : L.length ≤ 3) {M : List Int} (hn : M.Nodup) (hM : ∀ m ∈ M, m ∈ L ∨ m = 50 ∨ m = 60 ∨ m = 70) : Sub (UX L) M := ⟨hn, fun m hm => by
  unfold UX
  rcases hM m hm with h1 | h1
  · exact List.mem_append_left _ h1
  · apply List.mem_append_right; simp; omega⟩
section
variable {k p n : Int} (hr : ringOk k p n = true)
theorem axs_congr {dm dm' : Int → Int} {L : List Int} (h : ∀ l ∈ L, dm l = dm' l) : axs dm L = axs dm' L := List.map_congr_left fun l hl => by rw [h l hl]
theorem isT_X {L : List Int} {xs : List (El k p n)} (h : IsT k p n dimOf U6 L xs) (hl : L.length ≤ 3) (x : Int) : IsT k p n (dmX x) (UX L) L xs :=
  ⟨uniX h.sub hl x, subX h.sub hl h.sub.nodup fun m hm => .inl hm, by rw [h.len, axs_congr fun l hl => (dmX_on h.sub x hl).symm]⟩
/-- A delta tensor renames a label. -/
theorem rename_data {dm : Int → Int} {U L : List Int} {x y : Int} {xs : List (El k p n)} (ht : IsT k p n dm U (x :: L) xs) (hy : y ∉ x :: L) (hyU : y ∈ U) (hd : dm y = dm x) :
    keepL (joinL (x :: L) [x, y]) (L ++ [y]) = L ++ [y] ∧ IsT k p n dm U (y :: L) xs ∧ sortL (L ++ [y]) = sortL (y :: L) ∧
      permXs hr dm (L ++ [y]) (sortL (L ++ [y])) (contrXs hr dm (x :: L) [x, y] (L ++ [y]) xs (deltaXs hr dm [x, y] x)) = permXs hr dm (y :: L) (sortL (y :: L)) xs := by
  have hnx := ht.sub.nodup
  rw [List.nodup_cons] at hnx
  have hyx : y ≠ x := fun e => hy (by rw [e]; exact List.mem_cons_self ..)
  have hyL : y ∉ L := fun h => hy (List.mem_cons_of_mem _ h)
  have hxM : x ∉ L ++ [y] := fun h => by
    rcases List.mem_append.1 h with h | h
    · exact hnx.1 h
    · simp at h; exact hyx h.symm
  have ej : joinL (x :: L) [x, y] = x :: (L ++ [y]) := by
    unfold joinL
    rw [List.filter_cons, if_neg (by rw [(hasL_iff _ _).2 (List.mem_cons_self ..)]; simp), List.filter_cons, if_pos (by rw [hasL_no hy]; rfl)]
    rfl
  have ek : keepL (x :: (L ++ [y])) (L ++ [y]) = L ++ [y] := by
    unfold keepL
    rw [List.filter_cons, if_neg (by rw [hasL_no hxM]; simp), List.filter_eq_self]
    exact fun a ha => (hasL_iff _ _).2 ha
  have eg : goneL (x :: (L ++ [y])) (L ++ [y]) = [x] := by
    unfold goneL
    rw [List.filter_cons, if_pos (by rw [hasL_no hxM]; rfl), List.filter_eq_nil_iff.2 fun a ha => by rw [(hasL_iff _ _).2 ha]; simp]
  have hnM : (L ++ [y]).Nodup := List.nodup_append.2 ⟨hnx.2, by simp, fun a ha b hb e => by simp at hb; exact hyL (by rw [← hb, ← e]; exact ha)⟩
  have sM : Sub U (L ++ [y]) := ⟨hnM, fun l hl => by
    rcases List.mem_append.1 hl with h | h
    · exact ht.sub.sub l (List.mem_cons_of_mem _ h)
    · simp at h; rw [h]; exact hyU⟩
  have hperm : (L ++ [y]).Perm (y :: L) := List.perm_append_comm
  have sY : Sub U (y :: L) := sM.perm hperm
  have hT : IsT k p n dm U (y :: L) xs := ⟨ht.uni, sY, by rw [ht.len, axs_cons, axs_cons, size, size, hd]⟩
  have hF : Dep (fun σ => valT hr dm (x :: L) xs (upd σ x (σ y))) (L ++ [y]) := fun σ τ h => by
    apply valT_dep hr dm (x :: L) xs
    intro l hl
    by_cases e : l = x
    · subst e; rw [upd_same, upd_same]; exact h y (by simp)
    · rw [upd_ne _ _ e, upd_ne _ _ e]
      exact h l (List.mem_append_left _ ((List.mem_cons.1 hl).resolve_left e))
  have hC : contrXs hr dm (x :: L) [x, y] (L ++ [y]) xs (deltaXs hr dm [x, y] x) = tab (axs dm (L ++ [y])) (fun σ => valT hr dm (x :: L) xs (upd σ x (σ y))) σ0 := by
    unfold contrXs
    rw [ej, ek]
    refine tab_fits ht.uni sM fun σ hf => ?_
    unfold contrF
    rw [eg]
    obtain ⟨f0, f1⟩ := hf (y, dm y) (List.mem_map_of_mem (by simp))
    have f0 : 0 ≤ σ y := f0
    have f1 : σ y < dm y := f1
    rw [show axs dm [x] = [(x, dm x)] from rfl]
    rw [sumA_congr (rig hr) (G := fun τ => (rig hr).mul (valT hr dm (x :: L) xs τ) (ind (rig hr) (decide (τ x = τ y)))) fun τ h1 h2 => ?_]
    · exact sumA_delta (rig hr) hyx _ f0 (by rw [← hd]; exact f1)
    · have hy' : τ y = σ y := h1 y (by simpa [labs] using hyx)
      obtain ⟨g0, g1⟩ := h2 (by simp [labs]) (x, dm x) (by simp)
      have hfit : Fits (axs dm [x, y]) τ := fun a ha => by
        simp [axs] at ha
        rcases ha with rfl | rfl
        · exact ⟨g0, g1⟩
        · exact ⟨by show 0 ≤ τ y; rw [hy']; exact f0, by show τ y < dm y; rw [hy']; exact f1⟩
      show (rig hr).mul _ _ = _
      rw [deltaXs_val hr (by simp) hfit]
      congr 2
      rw [Bool.eq_iff_iff]
      simp
      exact ⟨fun h => h.symm, fun h => h.symm⟩
  have hX : xs = tab (axs dm (y :: L)) (fun σ => valT hr dm (x :: L) xs (upd σ x (σ y))) σ0 := by
    conv => lhs; rw [← tab_valT hr sY.nodup hT.len σ0]
    congr 1
    funext τ
    unfold valT
    rw [axs_cons, axs_cons, off, off, upd_same]
    have : off (axs dm L) (upd τ x (τ y)) = off (axs dm L) τ := off_dep (axs dm L) _ _ fun l hl => upd_ne _ _ (by rw [labs_axs] at hl; rintro rfl; exact hnx.1 hl)
    rw [this]
  refine ⟨by rw [ej, ek], hT, ?_⟩
  have h := sort_same hr ht.uni sM hperm hF (hF.perm hperm) fun σ => rfl
  refine ⟨h.1, ?_⟩
  rw [hC, h.2, ← hX]
/-- A delta tensor with three labels takes a diagonal, and that of the result is what it was. -/
theorem diag_data {dm : Int → Int} {U L : List Int} {x y z : Int} {xs : List (El k p n)} (ht : IsT k p n dm U L xs) (hx : x ∈ L) (hy : y ∉ L) (hz : z ∉ L) (hyz : y ≠ z) (hyU : y ∈ U) (hzU : z ∈ U) (hdy : dm y = dm x) (hdz : dm z = dm x) :
    keepL (joinL L [x, y, z]) (L ++ [y, z]) = L ++ [y, z] ∧ cutL (L ++ [y, z]) y = L ++ [z] ∧ cutL (L ++ [z]) z = L ∧
      cutXs hr dm (L ++ [z]) z (fun τ => τ x) (cutXs hr dm (L ++ [y, z]) y (fun τ => τ z) (contrXs hr dm L [x, y, z] (L ++ [y, z]) xs (deltaXs hr dm [x, y, z] x))) = xs := by
  have hxy : x ≠ y := fun e => hy (e ▸ hx)
  have hxz : x ≠ z := fun e => hz (e ▸ hx)
  have ej : joinL L [x, y, z] = L ++ [y, z] := by
    unfold joinL
    rw [List.filter_cons, if_neg (by rw [(hasL_iff _ _).2 hx]; simp), List.filter_cons, if_pos (by rw [hasL_no hy]; rfl), List.filter_cons, if_pos (by rw [hasL_no hz]; rfl)]
    rfl
  have ek : keepL (L ++ [y, z]) (L ++ [y, z]) = L ++ [y, z] := keepL_all fun a ha => ha
  have e1 : cutL (L ++ [y, z]) y = L ++ [z] := by
    rw [cutL_append, cutL_none hy, cutL_head (by simpa using hyz)]
  have e2 : cutL (L ++ [z]) z = L := by
    rw [cutL_append, cutL_none hz, cutL_head (by simp), List.append_nil]
  refine ⟨by rw [ej, ek], e1, e2, ?_⟩
  have hn2 : (L ++ [y, z]).Nodup := List.nodup_append.2 ⟨ht.sub.nodup, by simp [hyz], fun a ha b hb e => by
    simp at hb
    rcases hb with h | h
    · exact hy (by rw [← h, ← e]; exact ha)
    · exact hz (by rw [← h, ← e]; exact ha)⟩
  have s2 : Sub U (L ++ [y, z]) := ⟨hn2, fun l hl => by
    rcases List.mem_append.1 hl with h | h
    · exact ht.sub.sub l h
    · simp at h; rcases h with rfl | rfl <;> assumption⟩
  have hc : contrXs hr dm L [x, y, z] (L ++ [y, z]) xs (deltaXs hr dm [x, y, z] x) = tab (axs dm (L ++ [y, z])) (mulF hr dm L [x, y, z] xs (deltaXs hr dm [x, y, z] x)) σ0 := by
    rw [contr_all hr (by rw [ej]; exact fun a ha => ha), ej]
  rw [hc]
  have hMF : Dep (mulF hr dm L [x, y, z] xs (deltaXs hr dm [x, y, z] x)) (L ++ [y, z]) := fun σ τ h => by
    show (rig hr).mul _ _ = (rig hr).mul _ _
    rw [valT_dep hr dm L xs σ τ fun l hl => h l (List.mem_append_left _ hl), valT_dep hr dm [x, y, z] _ σ τ fun l hl => h l (by
      simp at hl
      rcases hl with rfl | rfl | rfl
      · exact List.mem_append_left _ hx
      · simp
      · simp)]
  conv => rhs; rw [← tab_valT hr ht.sub.nodup ht.len σ0]
  unfold cutXs
  rw [e1, e2]
  refine tab_fits ht.uni ht.sub fun τ hf => ?_
  obtain ⟨f0, f1⟩ := hf (x, dm x) (List.mem_map_of_mem hx)
  have f0 : 0 ≤ τ x := f0
  have f1 : τ x < dm x := f1
  have a1 : Fits (axs dm (L ++ [z])) (upd τ z (τ x)) := fun a ha => by
    obtain ⟨l, hl, rfl⟩ := List.mem_map.1 ha
    by_cases e : l = z
    · subst e; rw [upd_same]; exact ⟨f0, by show τ x < dm l; rw [hdz]; exact f1⟩
    · rw [upd_ne _ _ e]
      exact hf (l, dm l) (List.mem_map_of_mem ((List.mem_append.1 hl).resolve_right fun h => e (by simpa using h)))
  have a2 : Fits (axs dm (L ++ [y, z])) (upd (upd τ z (τ x)) y (upd τ z (τ x) z)) := fun a ha => by
    obtain ⟨l, hl, rfl⟩ := List.mem_map.1 ha
    by_cases e : l = y
    · subst e; rw [upd_same, upd_same]; exact ⟨f0, by show τ x < dm l; rw [hdy]; exact f1⟩
    · rw [upd_ne _ _ e]
      refine a1 (l, dm l) (List.mem_map_of_mem ?_)
      rcases List.mem_append.1 hl with h | h
      · exact List.mem_append_left _ h
      · simp at h
        rcases h with h | h
        · exact absurd h e
        · simp [h]
  have hG : Dep (fun τ => valT hr dm (L ++ [y, z]) (tab (axs dm (L ++ [y, z])) (mulF hr dm L [x, y, z] xs (deltaXs hr dm [x, y, z] x)) σ0) (upd τ y (τ z))) (L ++ [z]) := by
    have := diag_dep (valT_dep hr dm (L ++ [y, z]) (tab (axs dm (L ++ [y, z])) (mulF hr dm L [x, y, z] xs (deltaXs hr dm [x, y, z] x)) σ0)) (a := z) (b := y) (Ne.symm hyz) (by simp)
    have e1' : (L ++ [y, z]).filter (fun w => !(w == y)) = L ++ [z] := e1
    rwa [e1'] at this
  rw [valT_tab hr hG a1, valT_tab hr hMF a2]
  show (rig hr).mul _ _ = _
  have a3 : Fits (axs dm [x, y, z]) (upd (upd τ z (τ x)) y (upd τ z (τ x) z)) := fits_sub a2 fun l hl => by
    simp at hl
    rcases hl with rfl | rfl | rfl
    · exact List.mem_append_left _ hx
    · simp
    · simp
  rw [deltaXs_val hr (by simp) a3]
  have hall : ([x, y, z].all fun l => upd (upd τ z (τ x)) y (upd τ z (τ x) z) l == upd (upd τ z (τ x)) y (upd τ z (τ x) z) x) = true := by
    simp [upd, hxy, hxz, Ne.symm hyz]
  rw [hall]
  show (rig hr).mul _ (rig hr).one = _
  rw [(rig hr).mul_one]
  exact valT_dep hr dm L xs _ _ fun l hl => by
    rw [upd_ne _ _ (by rintro rfl; exact hy hl), upd_ne _ _ (by rintro rfl; exact hz hl)]
end
end Go.Proofs.Ytabeciopggofkaa
