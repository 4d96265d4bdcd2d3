/- A part of a block, replaced. No program in sight. -/
import Derived.Test.YtodooalhbcoihaaDoorOwn
namespace Go.Proofs.YtodooalhbcoihaaDoor
open Go.RowKit
set_option linter.unusedSimpArgs false
set_option linter.unusedVariables false

/-- c with xs from off on. -/
def splice (c : List Value) (off : Nat) (xs : List Value) : List Value := c.take off ++ xs ++ c.drop (off + xs.length)
theorem splice_length {c : List Value} {off : Nat} {xs : List Value} (h : off + xs.length ≤ c.length) : (splice c off xs).length = c.length := by
  simp [splice]; omega
theorem splice_get {c : List Value} {off : Nat} {xs : List Value} (h : off + xs.length ≤ c.length) {i : Nat} (hi : i < xs.length) : (splice c off xs)[off + i]? = xs[i]? := by
  have e : (c.take off).length = off := by rw [List.length_take]; omega
  unfold splice
  rw [List.append_assoc, List.getElem?_append_right (by omega), e, List.getElem?_append_left (by omega)]
  congr 1; omega
theorem splice_set {c : List Value} {off : Nat} {xs : List Value} (h : off + xs.length ≤ c.length) {i : Nat} (hi : i < xs.length) (u : Value) : (splice c off xs).set (off + i) u = splice c off (xs.set i u) := by
  have e : (c.take off).length = off := by rw [List.length_take]; omega
  unfold splice
  rw [List.append_assoc, List.set_append_right _ _ (by omega), e, Nat.add_sub_cancel_left, List.set_append_left _ _ hi, List.length_set, List.append_assoc]
theorem splice_self {c : List Value} {off n : Nat} (h : off + n ≤ c.length) : splice c off ((c.drop off).take n) = c := by
  have e : ((c.drop off).take n).length = n := by rw [List.length_take, List.length_drop]; omega
  unfold splice
  rw [e, ← List.drop_drop, List.append_assoc, List.take_append_drop, List.take_append_drop]
theorem splice_splice {c : List Value} {off : Nat} {xs ys : List Value} (h : off + xs.length ≤ c.length) (hl : ys.length = xs.length) : splice (splice c off xs) off ys = splice c off ys := by
  have e : (c.take off).length = off := by rw [List.length_take]; omega
  unfold splice
  rw [hl]
  congr 1
  · congr 1
    rw [List.append_assoc, List.take_append_of_le_length (by omega), List.take_of_length_le (by omega)]
  · rw [List.append_assoc, List.drop_append, List.drop_of_length_le (by omega), e, Nat.add_sub_cancel_left, List.drop_left, List.nil_append]
theorem splice_take {c : List Value} {off : Nat} {xs : List Value} (h : off + xs.length ≤ c.length) : ((splice c off xs).drop off).take xs.length = xs := by
  have e : (c.take off).length = off := by rw [List.length_take]; omega
  unfold splice
  rw [List.append_assoc, List.drop_append, List.drop_of_length_le (by omega), e, Nat.sub_self, List.drop_zero, List.nil_append, List.take_left]

/-- In block b, from off on, lie the integers l; the block's whole is c. -/
structure Part (w : World) (b off : Nat) (c : List Value) (l : List Int) : Prop where
  blk : Blk w b 3 c
  len : off + l.length ≤ c.length
  here : (c.drop off).take l.length = ints l
theorem Part.get {w : World} {b off : Nat} {c : List Value} {l : List Int} (h : Part w b off c l) {i : Nat} {x : Int} (hx : l[i]? = some x) : c[off + i]? = some (.int .i64 x) := by
  have hi := (List.getElem?_eq_some_iff.1 hx).1
  have : ((c.drop off).take l.length)[i]? = some (.int .i64 x) := by rw [h.here, ints_get, hx]; rfl
  rw [List.getElem?_take_of_lt hi, List.getElem?_drop] at this
  exact this
theorem Part.cell {w : World} {b off : Nat} {c : List Value} {l : List Int} (h : Part w b off c l) {i : Nat} {x : Int} (hx : l[i]? = some x) :
    w.cell? ⟨b, off + i, none⟩ = some (.int .i64 x) ∧ w.frozen? ⟨b, off + i, none⟩ = false := ⟨h.blk.cell (h.get hx), h.blk.free _⟩
theorem Part.set_splice {w : World} {b off : Nat} {c : List Value} {l : List Int} (h : Part w b off c l) {i : Nat} (hi : i < l.length) (x : Int) :
    c.set (off + i) (.int .i64 x) = splice c off (ints (l.set i x)) := by
  conv => lhs; rw [← splice_self (c := c) (off := off) (n := l.length) h.len]
  rw [h.here, splice_set (by rw [ints_length]; exact h.len) (by rw [ints_length]; exact hi)]
  congr 1
  simp [ints, List.map_set]
theorem Part.set {w : World} {b off : Nat} {c : List Value} {l : List Int} (h : Part w b off c l) {i : Nat} (hi : i < l.length) (x : Int) :
    Part (w.setCell ⟨b, off + i, none⟩ (.int .i64 x)) b off (c.set (off + i) (.int .i64 x)) (l.set i x) := by
  refine ⟨h.blk.set _ _, by simpa using h.len, ?_⟩
  have e : c.set (off + i) (.int .i64 x) = splice c off ((ints l).set i (.int .i64 x)) := by
    conv => lhs; rw [← splice_self (c := c) (off := off) (n := l.length) h.len]
    rw [h.here, splice_set (by rw [ints_length]; exact h.len) (by rw [ints_length]; exact hi)]
  rw [e]
  have e2 : (l.set i x).length = ((ints l).set i (.int .i64 x)).length := by simp [ints]
  rw [e2, splice_take (by simp [ints]; exact h.len)]
  simp [ints, List.map_set]
theorem Part.splice {w : World} {b off : Nat} {c : List Value} {l : List Int} (h : Part w b off c l) : c = splice c off (ints l) := by
  conv => lhs; rw [← splice_self (c := c) (off := off) (n := l.length) h.len]
  rw [h.here]
theorem Part.block {w w' : World} {b off : Nat} {c : List Value} {l : List Int} (h : Part w b off c l) (e : w'.heap[b]? = w.heap[b]?) : Part w' b off c l := ⟨h.blk.block e, h.len, h.here⟩
theorem Part.ext {w w' : World} {b off : Nat} {c : List Value} {l : List Int} (h : Part w b off c l) (e : Ext w w') : Part w' b off c l := ⟨h.blk.ext e, h.len, h.here⟩
theorem Part.of {w : World} {b off : Nat} {c : List Value} {l : List Int} (h : Blk w b 3 (Proofs.YtodooalhbcoihaaDoor.splice c off (ints l))) (hl : off + l.length ≤ c.length) : Part w b off (Proofs.YtodooalhbcoihaaDoor.splice c off (ints l)) l :=
  ⟨h, by rw [splice_length (by rw [ints_length]; exact hl)]; exact hl, by have := splice_take (c := c) (off := off) (xs := ints l) (by rw [ints_length]; exact hl); rwa [ints_length] at this⟩
/-- What an owned slice's block holds. -/
theorem OwnI.part {w : World} {B b n cap : Nat} {l : List Int} (h : OwnI w B (.slice (some ⟨b, 0, none⟩) n cap) l) : ∃ rest, Part w b 0 (Proofs.YtodooalhbcoihaaDoor.ints l ++ rest) l ∧ cap = l.length + rest.length ∧ n = l.length ∧ B ≤ b ∧ l.length + rest.length ≤ maxLen := by
  rcases h.own with ⟨h0, _⟩ | ⟨b', rest, h1, h2, h3, h4⟩
  · cases h0
  · cases h2
    exact ⟨rest, ⟨h3, by simp [Proofs.YtodooalhbcoihaaDoor.ints], by simp [Proofs.YtodooalhbcoihaaDoor.ints]⟩, rfl, rfl, h1, h4⟩
theorem OwnI.of_part {w : World} {B b : Nat} {l l' : List Int} {rest : List Value} (hb : B ≤ b) (h : Blk w b 3 (Proofs.YtodooalhbcoihaaDoor.splice (Proofs.YtodooalhbcoihaaDoor.ints l ++ rest) 0 (Proofs.YtodooalhbcoihaaDoor.ints l'))) (hl : l'.length = l.length) (hm : l.length + rest.length ≤ maxLen) :
    OwnI w B (.slice (some ⟨b, 0, none⟩) l.length (l.length + rest.length)) l' := by
  refine ⟨.inr ⟨b, rest, hb, by rw [hl], ?_, by rw [hl]; exact hm⟩⟩
  have e : Proofs.YtodooalhbcoihaaDoor.splice (Proofs.YtodooalhbcoihaaDoor.ints l ++ rest) 0 (Proofs.YtodooalhbcoihaaDoor.ints l') = Proofs.YtodooalhbcoihaaDoor.ints l' ++ rest := by
    unfold Proofs.YtodooalhbcoihaaDoor.splice
    rw [Nat.zero_add, ints_length, hl, List.take_zero, List.nil_append, List.drop_append, List.drop_of_length_le (by rw [ints_length]; omega), ints_length, Nat.sub_self, List.drop_zero, List.nil_append]
  rwa [e] at h
/-- The block of a slice that is not empty lies in memory. -/
theorem IntS.block_lt {w : World} {v : Value} {l : List Int} (h : IntS w v l) (hl : 0 < l.length) {k : Nat} (hk : v.ownBlock = some k) : k < w.heap.size := by
  obtain ⟨a, cap, rfl, _, _⟩ := h.val
  obtain ⟨b, off, x, rfl, hc, _, _⟩ := h.get hl
  simp [Value.ownBlock] at hk
  subst hk
  exact World.block_lt_of_cell? w _ hc
/-- The first j of f, then x from j on. -/
def mix (f x : List Int) (j : Nat) : List Int := f.take j ++ x.drop j
theorem mix_zero (f x : List Int) : mix f x 0 = x := by simp [mix]
theorem mix_all {f x : List Int} (h : f.length = x.length) : mix f x x.length = f := by simp [mix, ← h]
theorem mix_length {f x : List Int} (h : f.length = x.length) {j : Nat} (hj : j ≤ x.length) : (mix f x j).length = x.length := by simp [mix]; omega
theorem mix_get {f x : List Int} (h : f.length = x.length) {j : Nat} (hj : j < x.length) : (mix f x j)[j]? = x[j]? := by
  have e : (f.take j).length = j := by rw [List.length_take]; omega
  unfold mix
  rw [List.getElem?_append_right (by omega), e, Nat.sub_self, List.getElem?_drop, Nat.add_zero]
theorem mix_set {f x : List Int} (h : f.length = x.length) {j : Nat} {v : Int} (hv : f[j]? = some v) : (mix f x j).set j v = mix f x (j + 1) := by
  obtain ⟨hlt, rfl⟩ := List.getElem?_eq_some_iff.1 hv
  have e : (f.take j).length = j := by rw [List.length_take]; omega
  unfold mix
  rw [List.set_append_right _ _ (by omega), e, Nat.sub_self, List.take_succ_eq_append_getElem hlt, List.drop_eq_getElem_cons (by omega), List.set_cons_zero, List.append_assoc]
  rfl
theorem grown_cell {w w' : World} {b b2 o : Nat} {v : Value} (h : w.grownBy w' (some b)) (hne : b2 ≠ b) (hc : w.cell? ⟨b2, o, none⟩ = some v) : w'.cell? ⟨b2, o, none⟩ = some v :=
  h.cell hc (by simpa using hne)
theorem zip_get {f : Int → Int → Int} {x y : List Int} {j : Nat} {a b : Int} (ha : x[j]? = some a) (hb : y[j]? = some b) : (List.zipWith f x y)[j]? = some (f a b) := by
  simp [List.getElem?_zipWith, ha, hb]

end Go.Proofs.YtodooalhbcoihaaDoor
