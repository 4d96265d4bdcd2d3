/- Tables of best costs: bits, rows of labels in one block. No program in sight but make and load. -/
import Derived.Test.YtpegckmagiaggaaTBestQ
import Derived.Test.YtpegckmagiaggaaTElimB
set_option linter.unusedSimpArgs false
set_option linter.unusedVariables false
namespace Go.Proofs.Ytpegckmagiaggaa
open Go.RowKit
theorem bits_and64 (a b : Nat) (ha : a < 1099511627776) (hb : b < 1099511627776) : bits .and .i64 (a : Int) (b : Int) = ((a &&& b : Nat) : Int) :=
  (bits_nat .i64 40 (by decide) (fun n h0 h1 => by rw [IntKind.wrap_i64]; omega) a b ha hb).1
theorem bits_low32 : ∀ s : Fin 32, bits .and .i64 ((s.val : Nat) : Int) (-((s.val : Nat) : Int)) = ((lowB s.val : Nat) : Int) := by decide +kernel
theorem bits_cut32 : ∀ s a : Fin 32, a.val &&& s.val = a.val → bits .andNot .i64 ((s.val : Nat) : Int) ((a.val : Nat) : Int) = ((s.val ^^^ a.val : Nat) : Int) := by decide +kernel
theorem low_le : ∀ s : Fin 32, lowB s.val ≤ s.val := by decide +kernel
theorem mkSlices (n : Nat) (h : n ≤ 1099511627776) (w : World) : (Instr.makeSlice 33 (.int .i64 (n : Int)) (.int .i64 (n : Int))).run Try.prog w =
    .ok (.slice (some ⟨w.heap.size, 0, none⟩) n n) (w.alloc (.cells (madeCells #[.slice none 0 0] n) 27)) := by
  obtain ⟨i, hi, hzz⟩ := Option.map_eq_some_iff.1 Try.infoInts
  simp only [Prod.mk.injEq] at hzz
  obtain ⟨hz, hs, hb⟩ := hzz
  have hr := run_make (P := Try.prog) w 33 27 i _ Try.underlying33 hi hz .i64 .i64 n n (by omega) (Int.le_refl _) (by rw [hb]; omega) (by omega)
  simp only [Int.toNat_natCast, hs, Nat.mul_one] at hr
  exact hr
theorem made_nil (n : Nat) : (madeCells #[.slice none 0 0] n).toList = List.replicate n (.slice none 0 0) := by
  apply List.ext_getElem?
  intro i
  by_cases h : i < n
  · simp [madeCells, h, Nat.mod_one]
  · simp [madeCells, h, Nat.mod_one]
structure LabR (w : World) (vs : List Value) (f : Nat → List Int) (M : Nat) : Prop where
  len : vs.length = M
  elem : ∀ (s : Nat) (v : Value), vs[s]? = some v → IntS w v (f s)
theorem LabR.nil (w : World) (M : Nat) : LabR w (List.replicate M (.slice none 0 0)) (fun _ => []) M := ⟨List.length_replicate, fun s v h => by
  obtain ⟨_, rfl⟩ := List.mem_replicate.1 (List.mem_of_getElem? h)
  exact IntS.nil _⟩
theorem LabR.ext {w w' : World} {vs : List Value} {f : Nat → List Int} {M : Nat} (h : LabR w vs f M) (e : Ext w w') : LabR w' vs f M := ⟨h.len, fun s v hv => (h.elem s v hv).ext e⟩
theorem LabR.congr {w : World} {vs : List Value} {f g : Nat → List Int} {M : Nat} (h : LabR w vs f M) (e : ∀ s, s < M → f s = g s) : LabR w vs g M := ⟨h.len, fun s v hv => by
  rw [← e s (by rw [← h.len]; exact (List.getElem?_eq_some_iff.1 hv).1)]; exact h.elem s v hv⟩
theorem LabR.notInt {w : World} {vs : List Value} {f : Nat → List Int} {M : Nat} (h : LabR w vs f M) : ∀ u ∈ vs, ∀ i : Int, u ≠ .int .i64 i := fun u hu i e => by
  obtain ⟨s, hs⟩ := List.getElem?_of_mem hu
  obtain ⟨_, _, hv, _, _⟩ := (h.elem s u hs).val
  rw [hv] at e; cases e
theorem LabR.set {w : World} {vs : List Value} {f g : Nat → List Int} {M b j : Nat} {T : TypeId} {u : Value} (h : LabR w vs f M) (hB : Blk w b T vs) (hu : IntS w u (g j)) (e : ∀ s, s < M → s ≠ j → f s = g s) : LabR (w.setCell ⟨b, j, none⟩ u) (vs.set j u) g M := by
  have G := grown_setCell (grown_refl w (some b)) j u
  have K : ∀ {v : Value} {l : List Int}, IntS w v l → IntS (w.setCell ⟨b, j, none⟩ u) v l := fun hv => hv.keep G (hv.notBlk hB h.notInt)
  refine ⟨by rw [List.length_set]; exact h.len, fun s v hv => ?_⟩
  by_cases hs : j = s
  · subst hs
    have hl : j < vs.length := by have := (List.getElem?_eq_some_iff.1 hv).1; simpa using this
    rw [List.getElem?_set_self hl] at hv
    cases hv
    exact K hu
  · rw [List.getElem?_set_ne hs] at hv
    rw [← e s (by rw [← h.len]; exact (List.getElem?_eq_some_iff.1 hv).1) (Ne.symm hs)]
    exact K (h.elem s v hv)
theorem LabR.get {w : World} {vs : List Value} {f : Nat → List Int} {M : Nat} (h : LabR w vs f M) {s : Nat} (hs : s < M) : ∃ a c, vs[s]? = some (.slice a (f s).length c) ∧ IntS w (.slice a (f s).length c) (f s) := by
  have h1 := List.getElem?_eq_getElem (show s < vs.length by rw [h.len]; exact hs)
  have h2 := h.elem s _ h1
  obtain ⟨a, c, hv, _, _⟩ := h2.val
  rw [hv] at h1 h2
  exact ⟨a, c, h1, h2⟩
theorem TabT.single {val : Nat → Nat → Int} {M : Nat} {C F : List Int} {a0 : Nat} (hT : TabT val M C F M a0) (hM : M ≤ 32) {i : Nat} (hi : 2 ^ i < M) : tabL C (2 ^ i) = 0 := by
  have hP := hT.done hM (Nat.one_le_two_pow (n := i)) hi
  apply hP.none
  apply Classical.byContradiction
  intro hF
  obtain ⟨x, _, hx, hc, _⟩ := hP.some hF
  have hi5 : i < 5 := by
    apply Classical.byContradiction
    intro h
    have : 2 ^ 5 ≤ 2 ^ i := Nat.pow_le_pow_right (by decide) (by omega)
    omega
  exact cut_single ⟨i, hi5⟩ ⟨x, by omega⟩ hx hc
theorem labJ_step {k p n : Int} {ts : List (NT k p n)} {op : List Int} {j : Nat} {t : NT k p n} (ht : ts[j]? = some t) (s : Nat) : labJ ts op (j + 1) s = if s = 2 ^ j then t.1 else labJ ts op j s := by
  unfold labJ
  by_cases e : s = 2 ^ j
  · subst e
    rw [Nat.log2_two_pow, if_pos ⟨sing_pow j, by omega⟩, if_pos rfl]
    exact labAt_map ht
  · rw [if_neg e]
    by_cases h : Sing s
    · have hl : s.log2 ≠ j := fun hj => e (by have h2 : s = 2 ^ s.log2 := h; rw [hj] at h2; exact h2)
      by_cases h2 : s.log2 < j
      · rw [if_pos ⟨h, by omega⟩, if_pos ⟨h, h2⟩]
      · rw [if_neg fun k => h2 (by have := k.2; omega), if_neg fun k => h2 k.2]
    · rw [if_neg fun k => h k.1, if_neg fun k => h k.1]
end Go.Proofs.Ytpegckmagiaggaa
