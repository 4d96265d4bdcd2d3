/- What memory holds: slices of integers that are read, slices that the call owns, worlds that only grow. No program in sight. -/
import Derived.Test.YtodooalhbcoihaaDoorBase

namespace Go.Proofs.YtodooalhbcoihaaDoor
open Go.RowKit
set_option linter.unusedSimpArgs false
set_option linter.unusedVariables false

/-- The world w' is w with at most new blocks (and draws). -/
structure Ext (w w' : World) : Prop where
  below : Below w.heap.size w w'
theorem Ext.refl (w : World) : Ext w w := ⟨Below.refl _ _⟩
theorem Ext.size {w w' : World} (h : Ext w w') : w.heap.size ≤ w'.heap.size := h.below.size
theorem Ext.trans {a b c : World} (h : Ext a b) (k : Ext b c) : Ext a c := ⟨h.below.trans (k.below.mono h.size)⟩
theorem Ext.alloc {a b : World} (h : Ext a b) (o : Obj) : Ext a (b.alloc o) := ⟨h.below.alloc h.size o⟩
theorem Ext.drew {a b : World} (h : Ext a b) : Ext a b.drew := ⟨h.below.drew⟩
theorem Ext.drewN {a b : World} (h : Ext a b) (n : Nat) : Ext a (b.drewN n) := ⟨below_drewN h.below n⟩
theorem Ext.setCell {a b : World} (h : Ext a b) {p : Addr} (hp : a.heap.size ≤ p.block) (u : Value) : Ext a (b.setCell p u) := ⟨h.below.setCell hp u⟩
theorem Ext.setAt {a b : World} (h : Ext a b) {k : Nat} (hp : a.heap.size ≤ k) (o : Nat) (u : Value) : Ext a (b.setCell ⟨k, o, none⟩ u) := h.setCell (p := ⟨k, o, none⟩) hp u
theorem Ext.cells {w w' : World} (h : Ext w w') : ∀ b o, b < w.heap.size → w'.cell? ⟨b, o, none⟩ = w.cell? ⟨b, o, none⟩ :=
  fun b o hb => h.below.cell (p := ⟨b, o, none⟩) hb
theorem Ext.frozens {w w' : World} (h : Ext w w') : ∀ b o, b < w.heap.size → w'.frozen? ⟨b, o, none⟩ = w.frozen? ⟨b, o, none⟩ :=
  fun b o hb => h.below.frozen (p := ⟨b, o, none⟩) hb
theorem Ext.block {w w' : World} (h : Ext w w') {b : Nat} {o : Obj} (hb : w.heap[b]? = some o) : w'.heap[b]? = some o := by
  have := (Array.getElem?_eq_some_iff.1 hb).1
  rw [h.below.block b this]; exact hb
theorem Ext.cell {w w' : World} (h : Ext w w') {a : Addr} {v : Value} (hc : w.cell? a = some v) : w'.cell? a = some v := by
  rw [h.below.cell (World.block_lt_of_cell? _ _ hc)]; exact hc

/-- The slice value v (n elements of 'size' cells each) reads as the cells xs. -/
structure Row (w : World) (size : Nat) (v : Value) (n : Nat) (xs : List Value) : Prop where
  len : xs.length = n * size
  val : ∃ a cap, v = .slice a n cap ∧ n ≤ cap ∧ cap ≤ maxLen ∧
    (0 < xs.length → ∃ b off, a = some ⟨b, off, none⟩ ∧ ∀ j u, xs[j]? = some u → w.cell? ⟨b, off + j, none⟩ = some u)
theorem Row.ext {w w' : World} {size n : Nat} {v : Value} {xs : List Value} (h : Row w size v n xs) (e : Ext w w') : Row w' size v n xs := by
  obtain ⟨hl, a, cap, hv, h1, h2, h3⟩ := h
  refine ⟨hl, a, cap, hv, h1, h2, fun hp => ?_⟩
  obtain ⟨b, off, ha, hc⟩ := h3 hp
  exact ⟨b, off, ha, fun j u hj => e.cell (hc j u hj)⟩

/-- Integers as cells. -/
def ints (l : List Int) : List Value := l.map (.int .i64)
theorem ints_length (l : List Int) : (ints l).length = l.length := by simp [ints]
theorem ints_get (l : List Int) (i : Nat) : (ints l)[i]? = (l[i]?).map (.int .i64) := by simp [ints]
theorem ints_append (l m : List Int) : ints (l ++ m) = ints l ++ ints m := by simp [ints]
/-- v is a slice of integers that reads as l. -/
structure IntS (w : World) (v : Value) (l : List Int) : Prop where
  row : Row w 1 v l.length (ints l)
theorem IntS.ext {w w' : World} {v : Value} {l : List Int} (h : IntS w v l) (e : Ext w w') : IntS w' v l := ⟨h.row.ext e⟩
theorem IntS.val {w : World} {v : Value} {l : List Int} (h : IntS w v l) : ∃ a cap, v = .slice a l.length cap ∧ l.length ≤ cap ∧ cap ≤ 9223372036854775807 := by
  obtain ⟨a, cap, hv, h1, h2, _⟩ := h.row.val
  exact ⟨a, cap, hv, h1, h2⟩
/-- The element at i: its cell, and what it is in the list. -/
theorem IntS.get {w : World} {a : Option Addr} {n cap : Nat} {l : List Int} (h : IntS w (.slice a n cap) l) {i : Nat} (hi : i < l.length) :
    ∃ b off x, a = some ⟨b, off, none⟩ ∧ w.cell? ⟨b, off + i, none⟩ = some (.int .i64 x) ∧ l[i]? = some x ∧ l.drop i = x :: l.drop (i + 1) := by
  obtain ⟨a', cap', hv, _, _, h3⟩ := h.row.val
  cases hv
  obtain ⟨b, off, ha, hc⟩ := h3 (by rw [ints_length]; omega)
  refine ⟨b, off, l[i], ha, hc i _ ?_, List.getElem?_eq_getElem hi, List.drop_eq_getElem_cons hi⟩
  rw [ints_get]; simp [hi]
theorem IntS.nil (w : World) : IntS w (.slice none 0 0) [] := ⟨⟨rfl, none, 0, rfl, Nat.le_refl _, Nat.zero_le _, by simp [ints]⟩⟩

/-- All of l fits an int. -/
def I64s (l : List Int) : Prop := ∀ x ∈ l, -9223372036854775808 ≤ x ∧ x ≤ 9223372036854775807
theorem I64s.get {l : List Int} (h : I64s l) {i : Nat} {x : Int} (hx : l[i]? = some x) : -9223372036854775808 ≤ x ∧ x ≤ 9223372036854775807 :=
  h x (List.mem_of_getElem? hx)

end Go.Proofs.YtodooalhbcoihaaDoor
