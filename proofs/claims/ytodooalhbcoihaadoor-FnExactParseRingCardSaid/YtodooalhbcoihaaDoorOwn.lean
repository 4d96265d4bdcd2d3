/- Blocks that the call owns. No program in sight. -/
import Derived.Test.YtodooalhbcoihaaDoorMem
namespace Go.Proofs.YtodooalhbcoihaaDoor
open Go.RowKit
set_option linter.unusedSimpArgs false
set_option linter.unusedVariables false

/-- Block b is a row of the cells xs (of element type T), none frozen. -/
structure Blk (w : World) (b : Nat) (T : TypeId) (xs : List Value) : Prop where
  row : w.heap[b]? = some (.cells xs.toArray T (0, 0))
theorem Blk.lt {w : World} {b : Nat} {T : TypeId} {xs : List Value} (h : Blk w b T xs) : b < w.heap.size := (Array.getElem?_eq_some_iff.1 h.row).1
theorem Blk.cell {w : World} {b : Nat} {T : TypeId} {xs : List Value} (h : Blk w b T xs) {j : Nat} {u : Value} (hj : xs[j]? = some u) : w.cell? ⟨b, j, none⟩ = some u := by
  simp [World.cell?, h.row, hj]
theorem Blk.free {w : World} {b : Nat} {T : TypeId} {xs : List Value} (h : Blk w b T xs) (j : Nat) : w.frozen? ⟨b, j, none⟩ = false := by
  simp [World.frozen?, h.row]
theorem Blk.block {w w' : World} {b : Nat} {T : TypeId} {xs : List Value} (h : Blk w b T xs) (e : w'.heap[b]? = w.heap[b]?) : Blk w' b T xs := ⟨e.trans h.row⟩
theorem Blk.below {w w' : World} {b B : Nat} {T : TypeId} {xs : List Value} (h : Blk w b T xs) (e : Below B w w') (hb : b < B) : Blk w' b T xs := h.block (e.block b hb)
theorem Blk.ext {w w' : World} {b : Nat} {T : TypeId} {xs : List Value} (h : Blk w b T xs) (e : Ext w w') : Blk w' b T xs := h.below e.below h.lt
theorem Blk.set {w : World} {b : Nat} {T : TypeId} {xs : List Value} (h : Blk w b T xs) (j : Nat) (u : Value) : Blk (w.setCell ⟨b, j, none⟩ u) b T (xs.set j u) := by
  refine ⟨?_⟩
  simp [World.setCell, Array.getElem?_modify, h.row]
theorem Blk.other {w : World} {b : Nat} {T : TypeId} {xs : List Value} (h : Blk w b T xs) {p : Addr} (hp : p.block ≠ b) (u : Value) : Blk (w.setCell p u) b T xs :=
  h.block (Below.heap_setCell w p u b (fun e => hp e.symm))
theorem Blk.new (w : World) (c : Array Value) (T : TypeId) : Blk (w.alloc (.cells c T)) w.heap.size T c.toList := ⟨by simpa using heap_alloc_new w (.cells c T)⟩
theorem made_zero (n : Nat) : (madeCells #[.int .i64 0] n).toList = ints (List.replicate n 0) := by
  apply List.ext_getElem?
  intro i
  rw [ints_get]
  by_cases h : i < n
  · simp [madeCells, h, Nat.mod_one]
  · simp [madeCells, h, Nat.mod_one]

/-- v is a slice of integers of the call's own (its block from B on), that reads as l. -/
structure OwnI (w : World) (B : Nat) (v : Value) (l : List Int) : Prop where
  own : (v = .slice none 0 0 ∧ l = []) ∨ ∃ b rest, B ≤ b ∧ v = .slice (some ⟨b, 0, none⟩) l.length (l.length + rest.length) ∧ Blk w b 3 (ints l ++ rest) ∧ l.length + rest.length ≤ maxLen
theorem OwnI.nil (w : World) (B : Nat) : OwnI w B (.slice none 0 0) [] := ⟨.inl ⟨rfl, rfl⟩⟩
theorem OwnI.of {w : World} {B b : Nat} {l : List Int} (hb : B ≤ b) (h : Blk w b 3 (ints l)) (hl : l.length ≤ maxLen) : OwnI w B (.slice (some ⟨b, 0, none⟩) l.length l.length) l :=
  ⟨.inr ⟨b, [], hb, by simp, by simpa using h, by simpa using hl⟩⟩
theorem OwnI.mk' {w : World} {B b n : Nat} {l : List Int} (hn : l.length = n) (hb : B ≤ b) (h : Blk w b 3 (ints l)) (hl : n ≤ maxLen) : OwnI w B (.slice (some ⟨b, 0, none⟩) n n) l := by
  subst hn; exact OwnI.of hb h hl
theorem OwnI.ext {w w' : World} {B : Nat} {v : Value} {l : List Int} (h : OwnI w B v l) (e : Ext w w') : OwnI w' B v l := by
  rcases h.own with h | ⟨b, rest, h1, h2, h3, h4⟩
  · exact ⟨.inl h⟩
  · exact ⟨.inr ⟨b, rest, h1, h2, h3.ext e, h4⟩⟩
theorem OwnI.mono {w : World} {B B' : Nat} {v : Value} {l : List Int} (h : OwnI w B v l) (hB : B' ≤ B) : OwnI w B' v l := by
  rcases h.own with h | ⟨b, rest, h1, h2, h3, h4⟩
  · exact ⟨.inl h⟩
  · exact ⟨.inr ⟨b, rest, Nat.le_trans hB h1, h2, h3, h4⟩⟩
theorem OwnI.ints {w : World} {B : Nat} {v : Value} {l : List Int} (h : OwnI w B v l) : IntS w v l := by
  rcases h.own with ⟨rfl, rfl⟩ | ⟨b, rest, h1, rfl, h3, h4⟩
  · exact IntS.nil w
  · refine ⟨⟨by simp [Proofs.YtodooalhbcoihaaDoor.ints], some ⟨b, 0, none⟩, _, rfl, by omega, h4, fun _ => ⟨b, 0, rfl, fun j u hj => ?_⟩⟩⟩
    have : (Proofs.YtodooalhbcoihaaDoor.ints l ++ rest)[j]? = some u := by
      have hlt : j < (Proofs.YtodooalhbcoihaaDoor.ints l).length := (List.getElem?_eq_some_iff.1 hj).1
      rw [List.getElem?_append_left hlt, hj]
    simpa using h3.cell this
theorem OwnI.open {w : World} {B : Nat} {v : Value} {l : List Int} (h : OwnI w B v l) (hp : 0 < l.length) :
    ∃ b cap, B ≤ b ∧ v = .slice (some ⟨b, 0, none⟩) l.length cap ∧ l.length ≤ cap ∧ cap ≤ 9223372036854775807 := by
  rcases h.own with ⟨rfl, rfl⟩ | ⟨b, rest, h1, rfl, h3, h4⟩
  · simp at hp
  · exact ⟨b, _, h1, rfl, by omega, h4⟩
theorem OwnI.cell {w : World} {B b n cap : Nat} {l : List Int} (h : OwnI w B (.slice (some ⟨b, 0, none⟩) n cap) l) {j : Nat} {x : Int} (hx : l[j]? = some x) :
    w.cell? ⟨b, j, none⟩ = some (.int .i64 x) ∧ w.frozen? ⟨b, j, none⟩ = false := by
  rcases h.own with ⟨h0, rfl⟩ | ⟨b', rest, h1, h2, h3, h4⟩
  · simp at hx
  · cases h2
    refine ⟨h3.cell ?_, h3.free j⟩
    have hlt : j < l.length := (List.getElem?_eq_some_iff.1 hx).1
    rw [List.getElem?_append_left (by rw [ints_length]; exact hlt), ints_get, hx]; rfl
theorem OwnI.set {w : World} {B b n cap : Nat} {l : List Int} (h : OwnI w B (.slice (some ⟨b, 0, none⟩) n cap) l) (j : Nat) (hj : j < l.length) (x : Int) :
    OwnI (w.setCell ⟨b, j, none⟩ (.int .i64 x)) B (.slice (some ⟨b, 0, none⟩) n cap) (l.set j x) := by
  rcases h.own with ⟨h0, rfl⟩ | ⟨b', rest, h1, h2, h3, h4⟩
  · simp at hj
  · cases h2
    refine ⟨.inr ⟨b, rest, h1, by simp, ?_, by simpa using h4⟩⟩
    have := h3.set j (.int .i64 x)
    rw [List.set_append_left _ _ (by rw [ints_length]; exact hj)] at this
    simpa [Proofs.YtodooalhbcoihaaDoor.ints, List.map_set] using this
/-- A store into block b turns no other block. -/
theorem grown_setCell {w0 w : World} {b : Nat} (h : w0.grownBy w (some b)) (o : Nat) (u : Value) : w0.grownBy (w.setCell ⟨b, o, none⟩ u) (some b) :=
  ⟨h.os, h.tape, h.output, by have := h.size; simp [World.setCell]; exact this, fun k hk hne => by
    rw [Below.heap_setCell _ _ _ _ (fun e => hne (by rw [e]))]; exact h.block k hk hne⟩
theorem grown_alloc {w0 w : World} {b : Option Nat} (h : w0.grownBy w b) (o : Obj) : w0.grownBy (w.alloc o) b :=
  ⟨h.os, h.tape, h.output, by have := h.size; simp; omega, fun k hk hne => by
    rw [Below.heap_alloc _ _ _ (Nat.lt_of_lt_of_le hk h.size)]; exact h.block k hk hne⟩
theorem grown_drew {w0 w : World} {b : Option Nat} (h : w0.grownBy w b) : w0.grownBy w.drew b := ⟨h.os, h.tape, h.output, h.size, h.block⟩
theorem grown_drewN {w0 w : World} {b : Option Nat} (h : w0.grownBy w b) (n : Nat) : w0.grownBy (w.drewN n) b := by
  have e := (Ext.refl w).drewN n
  exact ⟨e.below.os.trans h.os, e.below.tape.trans h.tape, e.below.output.trans h.output, Nat.le_trans h.size e.size, fun k hk hne => (e.below.block k (Nat.lt_of_lt_of_le hk h.size)).trans (h.block k hk hne)⟩
theorem grown_refl (w : World) (b : Option Nat) : w.grownBy w b := ⟨rfl, rfl, rfl, Nat.le_refl _, fun _ _ _ => rfl⟩
theorem OwnI.block_lt {w : World} {B : Nat} {v : Value} {l : List Int} (h : OwnI w B v l) {k : Nat} (hk : v.ownBlock = some k) : B ≤ k ∧ k < w.heap.size := by
  rcases h.own with ⟨rfl, _⟩ | ⟨b, rest, h1, rfl, h3, _⟩
  · simp [Value.ownBlock] at hk
  · simp [Value.ownBlock] at hk; subst hk; exact ⟨h1, h3.lt⟩
/-- A world in which one block has turned, and new ones have come. -/
theorem Ext.only {w0 w w' : World} {b : Option Nat} (h : Ext w0 w) (e : w.grownBy w' b) (hb : ∀ k, b = some k → w0.heap.size ≤ k) : Ext w0 w' := ⟨h.below.grown e h.size hb⟩
theorem Ext.mark {w0 w w' : World} {v : Value} {l : List Int} (h : Ext w0 w) (o : OwnI w w0.heap.size v l) (e : w.grownBy w' v.ownBlock) : Ext w0 w' :=
  h.only e fun k hk => (o.block_lt hk).1
theorem OwnI.only {w w' : World} {B : Nat} {b : Option Nat} {v : Value} {l : List Int} (h : OwnI w B v l) (e : w.grownBy w' b) (hne : ∀ k, v.ownBlock = some k → b ≠ some k) : OwnI w' B v l := by
  rcases h.own with h | ⟨k, rest, h1, rfl, h3, h4⟩
  · exact ⟨.inl h⟩
  · exact ⟨.inr ⟨k, rest, h1, rfl, h3.block (e.block k h3.lt (fun e => hne k rfl e.symm)), h4⟩⟩
theorem grownBy_trans {a b c : World} {r : Option Nat} (h : a.grownBy b r) (k : b.grownBy c r) : a.grownBy c r :=
  ⟨k.os.trans h.os, k.tape.trans h.tape, k.output.trans h.output, Nat.le_trans h.size k.size, fun i hi hne => (k.block i (Nat.lt_of_lt_of_le hi h.size) hne).trans (h.block i hi hne)⟩
/-- A world in which only blocks from w0's size on have turned is still w0 grown. -/
theorem Ext.below' {w0 w w' : World} (h : Ext w0 w) (k : Below w0.heap.size w w') : Ext w0 w' := ⟨h.below.trans k⟩
theorem Ext.belowB {w0 w w' : World} {B : Nat} (h : Ext w0 w) (k : Below B w w') (hB : w0.heap.size ≤ B) : Ext w0 w' := ⟨h.below.trans (k.mono hB)⟩
end Go.Proofs.YtodooalhbcoihaaDoor
