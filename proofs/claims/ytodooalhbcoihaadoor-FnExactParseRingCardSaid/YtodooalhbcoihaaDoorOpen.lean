/- The arguments of a law, opened: what the form's reading gives, in the words of Mem. No program in sight. -/
import Derived.Test.YtodooalhbcoihaaDoorData
import Derived.ProofKit
import Derived.OpenShut
import Derived.ShutString
import Derived.ChangeOld
import Derived.Below
import Derived.Carry
import Derived.Lib.SmallJoins
import Derived.Deep.Slices
namespace Go.Proofs.YtodooalhbcoihaaDoor
open Go.RowKit Go.ChangeShapes Go.WideShapes Go.Deep Go.Joins
set_option linter.unusedSimpArgs false
set_option linter.unusedVariables false

section
variable {H : Type} {enc : TypeId × Value → H} {P : Program} {w : World} {base : Nat} {spare : Nat → Bool} {held : Bool}

/-- A slice of one-cell elements: a row of values, each of which is read. -/
theorem opn_row {t e : TypeId} {fuel : Nat} {v : Value} {x : DataW H × List MemPlace} (ht : P.underlying t = some (.slice e)) (hc : P.cellsOf e = 1)
    (h : DataW.trod enc P w base spare held fuel t [v] = some x) :
    ∃ vs : List Value, Row w 1 v vs.length vs ∧ ∀ u ∈ vs, ∃ n y, DataW.trod enc P w base spare held n e [u] = some y := by
  rcases open_slice1 ht hc h with ⟨h0, _⟩ | ⟨a, len, cap, m, n, V, D, Pl, h0, _, hl, hm, hmm, _, hx⟩
  · simp at h0
    subst h0
    exact ⟨[], ⟨rfl, none, 0, rfl, Nat.le_refl _, Nat.zero_le _, by simp⟩, by simp⟩
  · simp at h0
    subst h0
    have hlm : len ≤ m := by rw [hmm]; split <;> omega
    refine ⟨(List.range len).map V, ⟨by simp, some a, cap, by simp, by simpa using hl, hm, fun hp => ?_⟩, ?_⟩
    · simp at hp
      obtain ⟨b, off, spot⟩ := a
      have h0 := (hx 0 (by omega)).1
      have hs : spot = none := by simpa [Addr.add] using World.cell?_spot h0
      subst hs
      refine ⟨b, off, rfl, fun j u hj => ?_⟩
      simp only [List.getElem?_map] at hj
      by_cases hjl : j < len
      · rw [List.getElem?_range hjl] at hj
        simp at hj
        subst hj
        have := (hx j (by omega)).1
        have ea : (⟨b, off, none⟩ : Addr).add j = ⟨b, off + j, none⟩ := by unfold Addr.add; split <;> simp_all
        rw [ea] at this
        exact this
      · rw [List.getElem?_eq_none (by simp; omega)] at hj
        simp at hj
    · intro u hu
      simp at hu
      obtain ⟨i, hi, rfl⟩ := hu
      exact ⟨n, _, (hx i (by omega)).2⟩

theorem opn_ints1 {t e : TypeId} {fuel : Nat} {v : Value} {x : DataW H × List MemPlace} (ht : P.underlying t = some (.slice e)) (hc : P.cellsOf e = 1) (he : P.underlying e = some (.int .i64))
    (h : DataW.trod enc P w base spare held fuel t [v] = some x) : ∃ l, IntS w v l ∧ I64s l := by
  obtain ⟨vs, hr, hv⟩ := opn_row ht hc h
  have key : ∀ vs : List Value, (∀ u ∈ vs, ∃ n y, DataW.trod enc P w base spare held n e [u] = some y) → ∃ l, vs = ints l ∧ I64s l := by
    intro vs
    induction vs with
    | nil => exact fun _ => ⟨[], rfl, by simp [I64s]⟩
    | cons u us ih =>
      intro hall
      obtain ⟨l, rfl, hl⟩ := ih (fun u hu => hall u (by simp [hu]))
      obtain ⟨n, y, hy⟩ := hall u (by simp)
      obtain ⟨z, hz, _, hwf⟩ := DataW.trod_int he hy
      simp at hz
      subst hz
      refine ⟨z :: l, rfl, fun x hx => ?_⟩
      rcases List.mem_cons.1 hx with rfl | hx
      · exact bounds_i64 hwf
      · exact hl x hx
  obtain ⟨l, rfl, hl⟩ := key vs hv
  rw [ints_length] at hr
  exact ⟨l, ⟨hr⟩, hl⟩

theorem opn_bytes1 {t e : TypeId} {fuel : Nat} {v : Value} {x : DataW H × List MemPlace} (ht : P.underlying t = some (.slice e)) (hc : P.cellsOf e = 1) (he : P.underlying e = some (.int .u8))
    (h : DataW.trod enc P w base spare held fuel t [v] = some x) : ∃ l, ByteS w v l ∧ ∀ x ∈ l, 0 ≤ x ∧ x ≤ 255 := by
  obtain ⟨vs, hr, hv⟩ := opn_row ht hc h
  have key : ∀ vs : List Value, (∀ u ∈ vs, ∃ n y, DataW.trod enc P w base spare held n e [u] = some y) → ∃ l : List Int, vs = l.map (.int .u8) ∧ ∀ x ∈ l, 0 ≤ x ∧ x ≤ 255 := by
    intro vs
    induction vs with
    | nil => exact fun _ => ⟨[], rfl, by simp⟩
    | cons u us ih =>
      intro hall
      obtain ⟨l, rfl, hl⟩ := ih (fun u hu => hall u (by simp [hu]))
      obtain ⟨n, y, hy⟩ := hall u (by simp)
      obtain ⟨z, hz, _, hwf⟩ := DataW.trod_int he hy
      simp at hz
      subst hz
      refine ⟨z :: l, rfl, fun x hx => ?_⟩
      rcases List.mem_cons.1 hx with rfl | hx
      · exact bounds_u8 hwf
      · exact hl x hx
  obtain ⟨l, rfl, hl⟩ := key vs hv
  rw [List.length_map] at hr
  exact ⟨l, ⟨hr⟩, hl⟩

theorem opn_strs1 {t e : TypeId} {fuel : Nat} {v : Value} {x : DataW H × List MemPlace} (ht : P.underlying t = some (.slice e)) (hc : P.cellsOf e = 1) (he : P.underlying e = some .string)
    (h : DataW.trod enc P w base spare held fuel t [v] = some x) : ∃ l, StrS w v l ∧ ∀ s ∈ l, s.size ≤ maxLen := by
  obtain ⟨vs, hr, hv⟩ := opn_row ht hc h
  have key : ∀ vs : List Value, (∀ u ∈ vs, ∃ n y, DataW.trod enc P w base spare held n e [u] = some y) → ∃ l, vs = strs l ∧ ∀ s ∈ l, s.size ≤ maxLen := by
    intro vs
    induction vs with
    | nil => exact fun _ => ⟨[], rfl, by simp⟩
    | cons u us ih =>
      intro hall
      obtain ⟨l, rfl, hl⟩ := ih (fun u hu => hall u (by simp [hu]))
      obtain ⟨n, y, hy⟩ := hall u (by simp)
      obtain ⟨z, hz, _, hwf⟩ := DataW.trod_string he hy
      simp at hz
      subst hz
      refine ⟨z :: l, rfl, fun x hx => ?_⟩
      rcases List.mem_cons.1 hx with rfl | hx
      · exact hwf
      · exact hl x hx
  obtain ⟨l, rfl, hl⟩ := key vs hv
  rw [show (strs l).length = l.length by simp [strs]] at hr
  exact ⟨l, ⟨hr⟩, hl⟩

theorem opn_rows1 {t e q : TypeId} {fuel : Nat} {v : Value} {x : DataW H × List MemPlace} (ht : P.underlying t = some (.slice e)) (hc : P.cellsOf e = 1) (he : P.underlying e = some (.slice q))
    (hcq : P.cellsOf q = 1) (hq : P.underlying q = some (.int .i64))
    (h : DataW.trod enc P w base spare held fuel t [v] = some x) : ∃ ll, RowsS w v ll ∧ ∀ l ∈ ll, I64s l := by
  obtain ⟨vs, hr, hv⟩ := opn_row ht hc h
  have key : ∀ vs : List Value, (∀ u ∈ vs, ∃ n y, DataW.trod enc P w base spare held n e [u] = some y) →
      ∃ ll : List (List Int), vs.length = ll.length ∧ (∀ (i : Nat) (u : Value) (l : List Int), vs[i]? = some u → ll[i]? = some l → IntS w u l) ∧ ∀ l ∈ ll, I64s l := by
    intro vs
    induction vs with
    | nil => exact fun _ => ⟨[], rfl, by simp, by simp⟩
    | cons u us ih =>
      intro hall
      obtain ⟨ll, h1, h2, h3⟩ := ih (fun u hu => hall u (by simp [hu]))
      obtain ⟨n, y, hy⟩ := hall u (by simp)
      obtain ⟨l, hl, hw⟩ := opn_ints1 he hcq hq hy
      refine ⟨l :: ll, by simp [h1], fun i u' l' hi hj => ?_, fun x hx => ?_⟩
      · cases i with
        | zero => simp at hi hj; subst hi; subst hj; exact hl
        | succ i => simp at hi hj; exact h2 i u' l' hi hj
      · rcases List.mem_cons.1 hx with rfl | hx
        · exact hw
        · exact h3 x hx
  obtain ⟨ll, h1, h2, h3⟩ := key vs hv
  rw [h1] at hr
  exact ⟨ll, ⟨vs, h1, hr, h2⟩, h3⟩
end

section
variable {H : Type} {enc : TypeId × Value → H} {P : Program} {w : World} {base : Nat} {spare : Nat → Bool} {held : Bool} {r : Reach} {b0 : Nat} {t : TypeId} {v : Value} {d : DataW H} {ps : List MemPlace}

theorem cells_slice (ht : ∃ e, P.underlying t = some (.slice e)) (hv : Value.okWide P w r b0 t v) : v.cells.toList = [v] := by
  obtain ⟨e, ht⟩ := ht
  obtain ⟨a, n, c, rfl⟩ := okWide_slice ht hv
  rfl
theorem opn_ints {e : TypeId} (ht : P.underlying t = some (.slice e)) (hc : P.cellsOf e = 1) (he : P.underlying e = some (.int .i64))
    (hv : Value.okWide P w r b0 t v) (h : DataW.Trod enc P w base spare held t v d ps) : ∃ l, IntS w v l ∧ I64s l := by
  obtain ⟨fuel, hf⟩ := h
  rw [cells_slice ⟨e, ht⟩ hv] at hf
  exact opn_ints1 ht hc he hf
theorem opn_bytes {e : TypeId} (ht : P.underlying t = some (.slice e)) (hc : P.cellsOf e = 1) (he : P.underlying e = some (.int .u8))
    (hv : Value.okWide P w r b0 t v) (h : DataW.Trod enc P w base spare held t v d ps) : ∃ l, ByteS w v l ∧ ∀ x ∈ l, 0 ≤ x ∧ x ≤ 255 := by
  obtain ⟨fuel, hf⟩ := h
  rw [cells_slice ⟨e, ht⟩ hv] at hf
  exact opn_bytes1 ht hc he hf
theorem opn_strs {e : TypeId} (ht : P.underlying t = some (.slice e)) (hc : P.cellsOf e = 1) (he : P.underlying e = some .string)
    (hv : Value.okWide P w r b0 t v) (h : DataW.Trod enc P w base spare held t v d ps) : ∃ l, StrS w v l ∧ ∀ s ∈ l, s.size ≤ maxLen := by
  obtain ⟨fuel, hf⟩ := h
  rw [cells_slice ⟨e, ht⟩ hv] at hf
  exact opn_strs1 ht hc he hf
theorem opn_rows {e q : TypeId} (ht : P.underlying t = some (.slice e)) (hc : P.cellsOf e = 1) (he : P.underlying e = some (.slice q))
    (hcq : P.cellsOf q = 1) (hq : P.underlying q = some (.int .i64))
    (hv : Value.okWide P w r b0 t v) (h : DataW.Trod enc P w base spare held t v d ps) : ∃ ll, RowsS w v ll ∧ ∀ l ∈ ll, I64s l := by
  obtain ⟨fuel, hf⟩ := h
  rw [cells_slice ⟨e, ht⟩ hv] at hf
  exact opn_rows1 ht hc he hcq hq hf
/-- A struct of three ints. -/
theorem opn_int3 {ti : TypeId} {f0 f1 f2 : Field} (hs : P.underlying t = some (.struct #[f0, f1, f2])) (hone : oneCellFields P #[f0, f1, f2] = true) (hC : P.cellsOf t = 3)
    (e0 : f0.type = ti) (e1 : f1.type = ti) (e2 : f2.type = ti) (hu : P.underlying ti = some (.int .i64))
    (hv : Value.okWide P w r b0 t v) (h : DataW.Trod enc P w base spare held t v d ps) :
    ∃ k p n : Int, v = .agg #[.int .i64 k, .int .i64 p, .int .i64 n] ∧ I64s [k, p, n] := by
  obtain ⟨v0, v1, v2, y0, y1, y2, m, rfl, _, _, h0, h1, h2⟩ := open_agg3 hs hone hC hv h
  rw [e0] at h0; rw [e1] at h1; rw [e2] at h2
  obtain ⟨k, hk, _, wk⟩ := DataW.trod_int hu h0
  obtain ⟨p, hp, _, wp⟩ := DataW.trod_int hu h1
  obtain ⟨n, hn, _, wn⟩ := DataW.trod_int hu h2
  simp at hk hp hn
  subst hk; subst hp; subst hn
  refine ⟨k, p, n, rfl, fun x hx => ?_⟩
  simp at hx
  rcases hx with rfl | rfl | rfl
  · exact bounds_i64 wk
  · exact bounds_i64 wp
  · exact bounds_i64 wn
/-- A struct of two ints. -/
theorem opn_int2 {ti : TypeId} {f0 f1 : Field} (hs : P.underlying t = some (.struct #[f0, f1])) (hone : oneCellFields P #[f0, f1] = true) (hC : P.cellsOf t = 2)
    (e0 : f0.type = ti) (e1 : f1.type = ti) (hu : P.underlying ti = some (.int .i64))
    (hv : Value.okWide P w r b0 t v) (h : DataW.Trod enc P w base spare held t v d ps) :
    ∃ k p : Int, v = .agg #[.int .i64 k, .int .i64 p] ∧ I64s [k, p] := by
  obtain ⟨v0, v1, y0, y1, m, rfl, _, _, h0, h1⟩ := open_agg2 hs hone hC hv h
  rw [e0] at h0; rw [e1] at h1
  obtain ⟨k, hk, _, wk⟩ := DataW.trod_int hu h0
  obtain ⟨p, hp, _, wp⟩ := DataW.trod_int hu h1
  simp at hk hp
  subst hk; subst hp
  refine ⟨k, p, rfl, fun x hx => ?_⟩
  simp at hx
  rcases hx with rfl | rfl
  · exact bounds_i64 wk
  · exact bounds_i64 wp
/-- A struct of a slice of slices of ints and a slice of ints. -/
theorem opn_dec {te ti tr : TypeId} {f0 f1 : Field} (hs : P.underlying t = some (.struct #[f0, f1])) (hone : oneCellFields P #[f0, f1] = true) (hC : P.cellsOf t = 2)
    (e0 : f0.type = tr) (e1 : f1.type = te) (hr : P.underlying tr = some (.slice te)) (he : P.underlying te = some (.slice ti)) (hu : P.underlying ti = some (.int .i64))
    (ce : P.cellsOf te = 1) (ci : P.cellsOf ti = 1)
    (hv : Value.okWide P w r b0 t v) (h : DataW.Trod enc P w base spare held t v d ps) :
    ∃ (vb vp : Value) (ll : List (List Int)) (l : List Int), v = .agg #[vb, vp] ∧ RowsS w vb ll ∧ (∀ l ∈ ll, I64s l) ∧ IntS w vp l ∧ I64s l := by
  obtain ⟨v0, v1, y0, y1, m, rfl, _, _, h0, h1⟩ := open_agg2 hs hone hC hv h
  rw [e0] at h0; rw [e1] at h1
  obtain ⟨ll, hll, hw⟩ := opn_rows1 hr ce he ci hu h0
  obtain ⟨l, hl, hwl⟩ := opn_ints1 he ci hu h1
  exact ⟨v0, v1, ll, l, rfl, hll, hw, hl, hwl⟩
end
end Go.Proofs.YtodooalhbcoihaaDoor
