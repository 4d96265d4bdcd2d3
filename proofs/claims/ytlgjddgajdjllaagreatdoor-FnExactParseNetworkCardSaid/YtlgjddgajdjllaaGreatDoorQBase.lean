/- Texts that all that follows stands on, merged by program. -/
import Derived.WalkKit
import Derived.WalkSpells
import Derived.WalkLawsBesides
import Derived.Lib.Hide
import Derived.Handy
import Derived.ProofKit
import Derived.OpenShut
import Derived.ShutString
import Derived.ChangeOld
import Derived.Below
import Derived.Carry
import Derived.Lib.SmallJoins
import Derived.Deep.Slices
import Derived.Test.YtlgjddgajdjllaaGreatDoorProg
import Derived.Deep.OwnRows
import Derived.Deep.QuietTactic
import Derived.BigQuiet
import Derived.Deep.RegionHeld3
import Derived.Maps.AppendAt
import Derived.OwnWalk
import Derived.Lib.AtoiAllCases
import Derived.Lib.ItoaNum
import Derived.Lib.ItoaLen
import Derived.Lib.SplitLaws
import Derived.Lib.Join
import Derived.Laws.IdiomStrings
import Derived.Deep.RegionLaw
import Derived.Test.YtlgjddgajdjllaaGreatDoorRows
import Derived.Lib.LaidTab
import Derived.Stop.LaidErr
import Derived.Shelf.Strings.Builder1
import Derived.Shelf.Strings.Builder2
import Derived.Shelf.Strings.OnBuilder
import Derived.Shelf.Strings.BuilderF
import Derived.Shelf.Strconv.Atoi
import Derived.Shelf.Strconv.Itoa0
import Derived.Shelf.Strconv.Itoa1
import Derived.Shelf.LaysM
import Derived.Shelf.Strconv.Itoa2
import Derived.Shelf.Strconv.Itoa3
import Derived.Shelf.Strconv.AtoiErrFast
import Derived.Shelf.Strconv.ParseIntEmpty
import Derived.Shelf.Strconv.AtoiFail
import Derived.Shelf.Strconv.Clone
import Derived.Shelf.Strconv.SyntaxError
import Derived.Shelf.LaysC
import Derived.Shelf.Strconv.ToError
import Derived.Shelf.Strconv.Lower
import Derived.Shelf.Strconv.ParseUint10
import Derived.Shelf.Strconv.ParseUint10Empty
import Derived.Shelf.Strconv.ParseUint10Any
import Derived.Shelf.Strconv.ParseInt10
import Derived.Shelf.Strconv.AtoiLong
import Derived.Shelf.Strconv.AtoiInnerAll
import Derived.Shelf.Strconv.RangeError
import Derived.Shelf.Strconv.ToErrorRange
import Derived.Shelf.Strconv.AtoiAll
import Derived.Shelf.Strconv.ErrVarAll
import Derived.Shelf.Strings.Search1
import Derived.Shelf.Strings.Search2
import Derived.Shelf.Strings.Search3
import Derived.Shelf.Strings.Count
import Derived.Shelf.Strings.Shaped
import Derived.Shelf.Strings.Prefix
import Derived.Shelf.Strings.Split
import Derived.Shelf.Strings.SplitShaped
import Derived.Shelf.Unicode.DecodeSlow
import Derived.Lib.AppendIntMem
import Derived.StillTailTactics
import Derived.RegionTactic
import Derived.ChangeAlike
import Derived.Lib.SliceRun
import Derived.BigFrame
import Derived.Laws.BitsLemmas
import Derived.Deep.AppendLies
import Derived.Laws.CopyRow
import Derived.Laws.OwnMore
import Derived.Deep.MidRow
import Derived.Laws.ResultCell
import Derived.Deep.DeepCutAuto
import Derived.Deep.LoopGhost
import Derived.Deep.Cut
import Derived.Deep.DeepHandedRow
import Derived.Deep.DeepWitnessRowRef
/- Plain functions and small lemmas that all walks of this seat share: no program in sight. -/
set_option linter.unusedSimpArgs false
set_option linter.unusedVariables false
namespace Go.Proofs.YtlgjddgajdjllaaGreatDoor
open Go.RowKit
theorem ret_bool {a b : Bool} (h : a = b) : Ending.returned (.bool a) = .returned (.bool b) := by rw [h]
theorem ret_int {k : IntKind} {a b : Int} (h : a = b) : Ending.returned (.int k a) = .returned (.int k b) := by rw [h]
def noDiv (n : Int) : Nat → Int → Bool
  | 0, _ => true
  | f + 1, d => if n < d * d then true else if n % d = 0 then false else noDiv n f (d + 1)
theorem sq_le {k : Nat} (h : k ≤ 1002) : (k : Int) * k ≤ 1004004 := by
  have h2 := Nat.mul_le_mul h h
  have h3 : ((k * k : Nat) : Int) ≤ ((1002 * 1002 : Nat) : Int) := Int.ofNat_le.2 h2
  rw [Int.natCast_mul] at h3
  exact h3
theorem noDiv_end {n d : Int} (f : Nat) (h : n < d * d) : noDiv n (f + 1) d = true := by simp [noDiv, h]
theorem noDiv_hit {n d : Int} (f : Nat) (h : d * d ≤ n) (h2 : n % d = 0) : noDiv n (f + 1) d = false := by
  have : ¬ n < d * d := by omega
  simp [noDiv, this, h2]
theorem noDiv_step {n d : Int} (f : Nat) (h : d * d ≤ n) (h2 : n % d ≠ 0) : noDiv n (f + 1) d = noDiv n f (d + 1) := by
  have : ¬ n < d * d := by omega
  simp [noDiv, this, h2]
def isPrime (n : Int) : Bool := if n < 2 then false else if 1000003 < n then false else noDiv n 1001 2
theorem isPrime_mid {n : Int} (h1 : 2 ≤ n) (h2 : n ≤ 1000003) : isPrime n = noDiv n 1001 2 := by
  have a : ¬ n < 2 := by omega
  have b : ¬ 1000003 < n := by omega
  simp [isPrime, a, b]
theorem isPrime_low {n : Int} (h1 : n < 2) : isPrime n = false := by simp [isPrime, h1]
theorem isPrime_ge {n : Int} (h : isPrime n = true) : 2 ≤ n := by
  by_cases h1 : n < 2
  · rw [isPrime_low h1] at h; cases h
  · omega
theorem isPrime_le {n : Int} (h : isPrime n = true) : n ≤ 1000003 := by
  by_cases h1 : n < 2
  · rw [isPrime_low h1] at h; cases h
  · by_cases h2 : 1000003 < n
    · simp [isPrime, h1, h2] at h
    · omega
theorem isPrime_high {n : Int} (h1 : 1000003 < n) : isPrime n = false := by simp [isPrime, h1]
def ringOk (k p n : Int) : Bool :=
  if k = 1 then (p == 0) && (n == 0)
  else if k = 2 then isPrime p && (n == 0)
  else if k = 3 ∨ k = 4 ∨ k = 5 then decide (1 ≤ p) && decide (p ≤ 1000000) && (n == 0)
  else if k = 6 then (p == 0) && decide (1 ≤ n) && decide (n ≤ 20)
  else if k = 7 then isPrime p && decide (1 ≤ n) && decide (n ≤ 6)
  else if k = 8 then isPrime p && (p != 2) && (n == 0)
  else false
theorem kinds (k : Int) : k = 1 ∨ k = 2 ∨ k = 3 ∨ k = 4 ∨ k = 5 ∨ k = 6 ∨ k = 7 ∨ k = 8 ∨ (¬ k = 1 ∧ ¬ k = 2 ∧ ¬ k = 3 ∧ ¬ k = 4 ∧ ¬ k = 5 ∧ ¬ k = 6 ∧ ¬ k = 7 ∧ ¬ k = 8) := by omega
structure Ext (w w' : World) : Prop where
  below : Below w.heap.size w w'
theorem Ext.refl (w : World) : Ext w w := ⟨Below.refl _ _⟩
theorem Ext.size {w w' : World} (h : Ext w w') : w.heap.size ≤ w'.heap.size := h.below.size
theorem Ext.trans {a b c : World} (h : Ext a b) (k : Ext b c) : Ext a c := ⟨h.below.trans (k.below.mono h.size)⟩
theorem Ext.alloc {a b : World} (h : Ext a b) (o : Obj) : Ext a (b.alloc o) := ⟨h.below.alloc h.size o⟩
theorem Ext.drew {a b : World} (h : Ext a b) : Ext a b.drew := ⟨h.below.drew⟩
theorem Ext.drewN {a b : World} (h : Ext a b) (n : Nat) : Ext a (b.drewN n) := ⟨below_drewN h.below n⟩
theorem Ext.setCell {a b : World} (h : Ext a b) {p : Addr} (hp : a.heap.size ≤ p.block) (u : Value) : Ext a (b.setCell p u) := ⟨h.below.setCell hp u⟩
theorem Ext.setAt {a b : World} (h : Ext a b) {k : Nat} (hp : a.heap.size ≤ k) (o : Nat) (u : Value) : Ext a (b.setCell ⟨k, o, none⟩ u) := h.setCell (p := ⟨k, o, none⟩) hp u
theorem Ext.cells {w w' : World} (h : Ext w w') : ∀ b o, b < w.heap.size → w'.cell? ⟨b, o, none⟩ = w.cell? ⟨b, o, none⟩ :=
  fun b o hb => h.below.cell (p := ⟨b, o, none⟩) hb
theorem Ext.frozens {w w' : World} (h : Ext w w') : ∀ b o, b < w.heap.size → w'.frozen? ⟨b, o, none⟩ = w.frozen? ⟨b, o, none⟩ :=
  fun b o hb => h.below.frozen (p := ⟨b, o, none⟩) hb
theorem Ext.block {w w' : World} (h : Ext w w') {b : Nat} {o : Obj} (hb : w.heap[b]? = some o) : w'.heap[b]? = some o := by
  have := (Array.getElem?_eq_some_iff.1 hb).1
  rw [h.below.block b this]; exact hb
theorem Ext.cell {w w' : World} (h : Ext w w') {a : Addr} {v : Value} (hc : w.cell? a = some v) : w'.cell? a = some v := by
  rw [h.below.cell (World.block_lt_of_cell? _ _ hc)]; exact hc
structure Row (w : World) (size : Nat) (v : Value) (n : Nat) (xs : List Value) : Prop where
  len : xs.length = n * size
  val : ∃ a cap, v = .slice a n cap ∧ n ≤ cap ∧ cap ≤ maxLen ∧
    (0 < xs.length → ∃ b off, a = some ⟨b, off, none⟩ ∧ ∀ j u, xs[j]? = some u → w.cell? ⟨b, off + j, none⟩ = some u)
theorem Row.ext {w w' : World} {size n : Nat} {v : Value} {xs : List Value} (h : Row w size v n xs) (e : Ext w w') : Row w' size v n xs := by
  obtain ⟨hl, a, cap, hv, h1, h2, h3⟩ := h
  refine ⟨hl, a, cap, hv, h1, h2, fun hp => ?_⟩
  obtain ⟨b, off, ha, hc⟩ := h3 hp
  exact ⟨b, off, ha, fun j u hj => e.cell (hc j u hj)⟩
def ints (l : List Int) : List Value := l.map (.int .i64)
theorem ints_length (l : List Int) : (ints l).length = l.length := by simp [ints]
theorem ints_get (l : List Int) (i : Nat) : (ints l)[i]? = (l[i]?).map (.int .i64) := by simp [ints]
theorem ints_append (l m : List Int) : ints (l ++ m) = ints l ++ ints m := by simp [ints]
structure IntS (w : World) (v : Value) (l : List Int) : Prop where
  row : Row w 1 v l.length (ints l)
theorem IntS.ext {w w' : World} {v : Value} {l : List Int} (h : IntS w v l) (e : Ext w w') : IntS w' v l := ⟨h.row.ext e⟩
theorem IntS.val {w : World} {v : Value} {l : List Int} (h : IntS w v l) : ∃ a cap, v = .slice a l.length cap ∧ l.length ≤ cap ∧ cap ≤ 9223372036854775807 := by
  obtain ⟨a, cap, hv, h1, h2, _⟩ := h.row.val
  exact ⟨a, cap, hv, h1, h2⟩
theorem IntS.get {w : World} {a : Option Addr} {n cap : Nat} {l : List Int} (h : IntS w (.slice a n cap) l) {i : Nat} (hi : i < l.length) :
    ∃ b off x, a = some ⟨b, off, none⟩ ∧ w.cell? ⟨b, off + i, none⟩ = some (.int .i64 x) ∧ l[i]? = some x ∧ l.drop i = x :: l.drop (i + 1) := by
  obtain ⟨a', cap', hv, _, _, h3⟩ := h.row.val
  cases hv
  obtain ⟨b, off, ha, hc⟩ := h3 (by rw [ints_length]; omega)
  refine ⟨b, off, l[i], ha, hc i _ ?_, List.getElem?_eq_getElem hi, List.drop_eq_getElem_cons hi⟩
  rw [ints_get]; simp [hi]
theorem IntS.nil (w : World) : IntS w (.slice none 0 0) [] := ⟨⟨rfl, none, 0, rfl, Nat.le_refl _, Nat.zero_le _, by simp [ints]⟩⟩
def I64s (l : List Int) : Prop := ∀ x ∈ l, -9223372036854775808 ≤ x ∧ x ≤ 9223372036854775807
theorem I64s.get {l : List Int} (h : I64s l) {i : Nat} {x : Int} (hx : l[i]? = some x) : -9223372036854775808 ≤ x ∧ x ≤ 9223372036854775807 :=
  h x (List.mem_of_getElem? hx)
def strs (l : List ByteArray) : List Value := l.map .string
structure StrS (w : World) (v : Value) (l : List ByteArray) : Prop where
  row : Row w 1 v l.length (strs l)
structure RowsS (w : World) (v : Value) (ll : List (List Int)) : Prop where
  rows : ∃ vs : List Value, vs.length = ll.length ∧ Row w 1 v ll.length vs ∧ ∀ (i : Nat) (u : Value) (l : List Int), vs[i]? = some u → ll[i]? = some l → IntS w u l
theorem StrS.ext {w w' : World} {v : Value} {l : List ByteArray} (h : StrS w v l) (e : Ext w w') : StrS w' v l := ⟨h.row.ext e⟩
structure Blk (w : World) (b : Nat) (T : TypeId) (xs : List Value) : Prop where
  row : w.heap[b]? = some (.cells xs.toArray T (0, 0))
theorem Blk.lt {w : World} {b : Nat} {T : TypeId} {xs : List Value} (h : Blk w b T xs) : b < w.heap.size := (Array.getElem?_eq_some_iff.1 h.row).1
theorem Blk.cell {w : World} {b : Nat} {T : TypeId} {xs : List Value} (h : Blk w b T xs) {j : Nat} {u : Value} (hj : xs[j]? = some u) : w.cell? ⟨b, j, none⟩ = some u := by
  simp [World.cell?, h.row, hj]
theorem Blk.free {w : World} {b : Nat} {T : TypeId} {xs : List Value} (h : Blk w b T xs) (j : Nat) : w.frozen? ⟨b, j, none⟩ = false := by
  simp [World.frozen?, h.row]
theorem Blk.block {w w' : World} {b : Nat} {T : TypeId} {xs : List Value} (h : Blk w b T xs) (e : w'.heap[b]? = w.heap[b]?) : Blk w' b T xs := ⟨e.trans h.row⟩
theorem Blk.below {w w' : World} {b B : Nat} {T : TypeId} {xs : List Value} (h : Blk w b T xs) (e : Below B w w') (hb : b < B) : Blk w' b T xs := h.block (e.block b hb)
theorem Blk.ext {w w' : World} {b : Nat} {T : TypeId} {xs : List Value} (h : Blk w b T xs) (e : Ext w w') : Blk w' b T xs := h.below e.below h.lt
theorem Blk.set {w : World} {b : Nat} {T : TypeId} {xs : List Value} (h : Blk w b T xs) (j : Nat) (u : Value) : Blk (w.setCell ⟨b, j, none⟩ u) b T (xs.set j u) := by
  refine ⟨?_⟩
  simp [World.setCell, Array.getElem?_modify, h.row]
theorem Blk.other {w : World} {b : Nat} {T : TypeId} {xs : List Value} (h : Blk w b T xs) {p : Addr} (hp : p.block ≠ b) (u : Value) : Blk (w.setCell p u) b T xs :=
  h.block (Below.heap_setCell w p u b (fun e => hp e.symm))
theorem Blk.new (w : World) (c : Array Value) (T : TypeId) : Blk (w.alloc (.cells c T)) w.heap.size T c.toList := ⟨by simpa using heap_alloc_new w (.cells c T)⟩
theorem made_zero (n : Nat) : (madeCells #[.int .i64 0] n).toList = ints (List.replicate n 0) := by
  apply List.ext_getElem?
  intro i
  rw [ints_get]
  by_cases h : i < n
  · simp [madeCells, h, Nat.mod_one]
  · simp [madeCells, h, Nat.mod_one]
structure OwnI (w : World) (B : Nat) (v : Value) (l : List Int) : Prop where
  own : (v = .slice none 0 0 ∧ l = []) ∨ ∃ b rest, B ≤ b ∧ v = .slice (some ⟨b, 0, none⟩) l.length (l.length + rest.length) ∧ Blk w b 3 (ints l ++ rest) ∧ l.length + rest.length ≤ maxLen
theorem OwnI.nil (w : World) (B : Nat) : OwnI w B (.slice none 0 0) [] := ⟨.inl ⟨rfl, rfl⟩⟩
theorem OwnI.of {w : World} {B b : Nat} {l : List Int} (hb : B ≤ b) (h : Blk w b 3 (ints l)) (hl : l.length ≤ maxLen) : OwnI w B (.slice (some ⟨b, 0, none⟩) l.length l.length) l :=
  ⟨.inr ⟨b, [], hb, by simp, by simpa using h, by simpa using hl⟩⟩
theorem OwnI.mk' {w : World} {B b n : Nat} {l : List Int} (hn : l.length = n) (hb : B ≤ b) (h : Blk w b 3 (ints l)) (hl : n ≤ maxLen) : OwnI w B (.slice (some ⟨b, 0, none⟩) n n) l := by
  subst hn; exact OwnI.of hb h hl
theorem OwnI.ext {w w' : World} {B : Nat} {v : Value} {l : List Int} (h : OwnI w B v l) (e : Ext w w') : OwnI w' B v l := by
  rcases h.own with h | ⟨b, rest, h1, h2, h3, h4⟩
  · exact ⟨.inl h⟩
  · exact ⟨.inr ⟨b, rest, h1, h2, h3.ext e, h4⟩⟩
theorem OwnI.mono {w : World} {B B' : Nat} {v : Value} {l : List Int} (h : OwnI w B v l) (hB : B' ≤ B) : OwnI w B' v l := by
  rcases h.own with h | ⟨b, rest, h1, h2, h3, h4⟩
  · exact ⟨.inl h⟩
  · exact ⟨.inr ⟨b, rest, Nat.le_trans hB h1, h2, h3, h4⟩⟩
theorem OwnI.ints {w : World} {B : Nat} {v : Value} {l : List Int} (h : OwnI w B v l) : IntS w v l := by
  rcases h.own with ⟨rfl, rfl⟩ | ⟨b, rest, h1, rfl, h3, h4⟩
  · exact IntS.nil w
  · refine ⟨⟨by simp [Proofs.YtlgjddgajdjllaaGreatDoor.ints], some ⟨b, 0, none⟩, _, rfl, by omega, h4, fun _ => ⟨b, 0, rfl, fun j u hj => ?_⟩⟩⟩
    have : (Proofs.YtlgjddgajdjllaaGreatDoor.ints l ++ rest)[j]? = some u := by
      have hlt : j < (Proofs.YtlgjddgajdjllaaGreatDoor.ints l).length := (List.getElem?_eq_some_iff.1 hj).1
      rw [List.getElem?_append_left hlt, hj]
    simpa using h3.cell this
theorem OwnI.open {w : World} {B : Nat} {v : Value} {l : List Int} (h : OwnI w B v l) (hp : 0 < l.length) :
    ∃ b cap, B ≤ b ∧ v = .slice (some ⟨b, 0, none⟩) l.length cap ∧ l.length ≤ cap ∧ cap ≤ 9223372036854775807 := by
  rcases h.own with ⟨rfl, rfl⟩ | ⟨b, rest, h1, rfl, h3, h4⟩
  · simp at hp
  · exact ⟨b, _, h1, rfl, by omega, h4⟩
theorem OwnI.cell {w : World} {B b n cap : Nat} {l : List Int} (h : OwnI w B (.slice (some ⟨b, 0, none⟩) n cap) l) {j : Nat} {x : Int} (hx : l[j]? = some x) :
    w.cell? ⟨b, j, none⟩ = some (.int .i64 x) ∧ w.frozen? ⟨b, j, none⟩ = false := by
  rcases h.own with ⟨h0, rfl⟩ | ⟨b', rest, h1, h2, h3, h4⟩
  · simp at hx
  · cases h2
    refine ⟨h3.cell ?_, h3.free j⟩
    have hlt : j < l.length := (List.getElem?_eq_some_iff.1 hx).1
    rw [List.getElem?_append_left (by rw [ints_length]; exact hlt), ints_get, hx]; rfl
theorem OwnI.set {w : World} {B b n cap : Nat} {l : List Int} (h : OwnI w B (.slice (some ⟨b, 0, none⟩) n cap) l) (j : Nat) (hj : j < l.length) (x : Int) :
    OwnI (w.setCell ⟨b, j, none⟩ (.int .i64 x)) B (.slice (some ⟨b, 0, none⟩) n cap) (l.set j x) := by
  rcases h.own with ⟨h0, rfl⟩ | ⟨b', rest, h1, h2, h3, h4⟩
  · simp at hj
  · cases h2
    refine ⟨.inr ⟨b, rest, h1, by simp, ?_, by simpa using h4⟩⟩
    have := h3.set j (.int .i64 x)
    rw [List.set_append_left _ _ (by rw [ints_length]; exact hj)] at this
    simpa [Proofs.YtlgjddgajdjllaaGreatDoor.ints, List.map_set] using this
theorem grown_setCell {w0 w : World} {b : Nat} (h : w0.grownBy w (some b)) (o : Nat) (u : Value) : w0.grownBy (w.setCell ⟨b, o, none⟩ u) (some b) :=
  ⟨h.os, h.tape, h.output, by have := h.size; simp [World.setCell]; exact this, fun k hk hne => by
    rw [Below.heap_setCell _ _ _ _ (fun e => hne (by rw [e]))]; exact h.block k hk hne⟩
theorem grown_alloc {w0 w : World} {b : Option Nat} (h : w0.grownBy w b) (o : Obj) : w0.grownBy (w.alloc o) b :=
  ⟨h.os, h.tape, h.output, by have := h.size; simp; omega, fun k hk hne => by
    rw [Below.heap_alloc _ _ _ (Nat.lt_of_lt_of_le hk h.size)]; exact h.block k hk hne⟩
theorem grown_drew {w0 w : World} {b : Option Nat} (h : w0.grownBy w b) : w0.grownBy w.drew b := ⟨h.os, h.tape, h.output, h.size, h.block⟩
theorem grown_refl (w : World) (b : Option Nat) : w.grownBy w b := ⟨rfl, rfl, rfl, Nat.le_refl _, fun _ _ _ => rfl⟩
theorem OwnI.block_lt {w : World} {B : Nat} {v : Value} {l : List Int} (h : OwnI w B v l) {k : Nat} (hk : v.ownBlock = some k) : B ≤ k ∧ k < w.heap.size := by
  rcases h.own with ⟨rfl, _⟩ | ⟨b, rest, h1, rfl, h3, _⟩
  · simp [Value.ownBlock] at hk
  · simp [Value.ownBlock] at hk; subst hk; exact ⟨h1, h3.lt⟩
theorem Ext.only {w0 w w' : World} {b : Option Nat} (h : Ext w0 w) (e : w.grownBy w' b) (hb : ∀ k, b = some k → w0.heap.size ≤ k) : Ext w0 w' := ⟨h.below.grown e h.size hb⟩
theorem OwnI.only {w w' : World} {B : Nat} {b : Option Nat} {v : Value} {l : List Int} (h : OwnI w B v l) (e : w.grownBy w' b) (hne : ∀ k, v.ownBlock = some k → b ≠ some k) : OwnI w' B v l := by
  rcases h.own with h | ⟨k, rest, h1, rfl, h3, h4⟩
  · exact ⟨.inl h⟩
  · exact ⟨.inr ⟨k, rest, h1, rfl, h3.block (e.block k h3.lt (fun e => hne k rfl e.symm)), h4⟩⟩
theorem grownBy_trans {a b c : World} {r : Option Nat} (h : a.grownBy b r) (k : b.grownBy c r) : a.grownBy c r :=
  ⟨k.os.trans h.os, k.tape.trans h.tape, k.output.trans h.output, Nat.le_trans h.size k.size, fun i hi hne => (k.block i (Nat.lt_of_lt_of_le hi h.size) hne).trans (h.block i hi hne)⟩
theorem Tryz.infoInt : (Tryz.prog.info? 3).map (fun i => (i.zero, i.size, i.bytes)) = some (some (.int .i64 0), 1, 8) := by kernel_rfl
theorem mkInts (n : Nat) (h : n ≤ 35184372088832) (w : World) : (Instr.makeSlice 27 (.int .i64 (n : Int)) (.int .i64 (n : Int))).run Tryz.prog w =
    .ok (.slice (some ⟨w.heap.size, 0, none⟩) n n) (w.alloc (.cells (madeCells #[.int .i64 0] n) 3)) :=
  run_make_row' (P := Tryz.prog) 27 3 (.int .i64 0) 8 Tryz.underlying27 Tryz.infoInt rfl .i64 .i64 n (by omega) (by omega) w
theorem ints_set (l : List Int) (j : Nat) (x : Int) : (ints l).set j (.int .i64 x) = ints (l.set j x) := by simp [ints, List.map_set]
theorem drop_len {α : Type} (l : List α) : l.drop l.length = [] := by simp
set_option maxHeartbeats 400000 in
theorem eqIntS_quiet (v u : Value) (l m : List Int) (w : World) (hl : IntS w v l) (hm : IntS w u m) : Calls Tryz.prog 41 #[v, u] w fun e w' =>
 e = .returned (.bool (l == m)) ∧ ∃ n, w' = w.drewN n := by
 obtain ⟨a, cap, rfl, hc1, hc2⟩ := hl.val
 obtain ⟨a2, cap2, rfl, hc3, hc4⟩ := hm.val
 by_cases hne : l.length = m.length
 · have HN := Lib.hid hne; clear hne
   have hne2 : ((l.length : Int) == (m.length : Int)) = true := by rw [beq_iff_eq]; have := HN.out; omega
   go_enter Tryz.func41, Tryz.ntmps41
   go_wp2
   go_loopw [5] (fun i wr => ∃ j : Nat, j ≤ l.length ∧ i = .int .i64 j ∧ (l.drop j == m.drop j) = (l == m) ∧ ∃ n, wr = w.drewN n) (fun i _ => l.length - (RowKit.intOf i).toNat)
   case atStart => exact ⟨0, Nat.zero_le _, rfl, rfl, 0, rfl⟩
   case round =>
    obtain ⟨j, hj, rfl, hq, nq, rfl⟩ := hrel
    have HQ := Lib.hid hq; clear hq
    by_cases hlt : j < l.length
    · obtain ⟨b, off, x, rfl, hcell, _, hx⟩ := hl.get hlt
      obtain ⟨b2, off2, y, rfl, hcell2, _, hy⟩ := hm.get (i := j) (by have := HN.out; omega)
      have HX := Lib.hid hx; clear hx
      have HY := Lib.hid hy; clear hy
      have hlt2 : j < m.length := by have := HN.out; omega
      by_cases hxy : x = y
      · subst hxy
        go_wp2
        go_quiet (fail)
        go_wp2
        go_roundw
        case rel => exact ⟨j + 1, by omega, by go_num, by rw [← HQ.out, HX.out, HY.out]; simp, _, rfl⟩
        case measure => simp [RowKit.intOf]; omega
      · go_wp2
        go_quiet (fail)
        go_wp2
        go_ret
        exact ⟨ret_bool (by rw [← HQ.out, HX.out, HY.out]; simp [hxy]), _, World.drewN_drewN _ _ _⟩
    · have : j = l.length := by omega
      subst this
      go_wp2
      go_ret
      exact ⟨ret_bool (by rw [← HQ.out, drop_len, HN.out, drop_len]; rfl), _, rfl⟩
 · have hne2 : ((l.length : Int) == (m.length : Int)) = false := by rw [beq_eq_false_iff_ne]; omega
   have hne3 : ((l.length : Int) != (m.length : Int)) = true := by rw [bne_iff_ne]; omega
   have hf : (l == m) = false := by
    rw [beq_eq_false_iff_ne]
    intro e; exact hne (by rw [e])
   have HF := Lib.hid hf; clear hf
   go_enter Tryz.func41, Tryz.ntmps41
   go_wp2
   go_ret
   exact ⟨ret_bool HF.out.symm, 0, rfl⟩
theorem eqIntS_any (v u : Value) (l m : List Int) (w : World) (hl : IntS w v l) (hm : IntS w u m) : Calls Tryz.prog 41 #[v, u] w fun e w' =>
    e = .returned (.bool (l == m)) ∧ Ext w w' :=
  (eqIntS_quiet v u l m w hl hm).mono fun _ _ ⟨he, n, hn⟩ => ⟨he, hn ▸ (Ext.refl w).drewN n⟩
def marks (k : Int) : Nat → List Int
  | 0 => []
  | n + 1 => k :: marks (k + 1) n
theorem marks_length (k : Int) (n : Nat) : (marks k n).length = n := by
  induction n generalizing k with
  | zero => rfl
  | succ n ih => simp [marks, ih]
theorem marks_get (k : Int) (n j : Nat) (h : j < n) : (marks k n)[j]? = some (k + j) := by
  induction n generalizing k j with
  | zero => omega
  | succ n ih =>
    cases j with
    | zero => simp [marks]
    | succ j =>
      simp only [marks, List.getElem?_cons_succ]
      rw [ih (k + 1) j (by omega)]
      congr 1; omega
theorem upd_take {α : Type} {xs ys : List α} {j : Nat} {a : α} (h : xs.take j = ys.take j) (hj : j < xs.length) (hy : ys[j]? = some a) : (xs.set j a).take (j + 1) = ys.take (j + 1) := by
  obtain ⟨hlt, rfl⟩ := List.getElem?_eq_some_iff.1 hy
  rw [List.take_succ_eq_append_getElem hlt, ← h, List.take_succ_eq_append_getElem (by simpa using hj)]
  simp [List.take_set]
  rw [List.set_eq_of_length_le (by rw [List.length_take]; omega)]
set_option maxHeartbeats 400000 in
theorem markIntS_any (B : Nat) (v : Value) (l : List Int) (k : Int) (w : World) (hl : OwnI w B v l) (h0 : 0 ≤ k) (h1 : k + l.length ≤ 4611686018427387904) : Calls Tryz.prog 43 #[v, .int .i64 k] w fun e w' =>
 e = .returned (.int .i64 (k + l.length)) ∧ OwnI w' B v (marks k l.length) ∧ w.grownBy w' v.ownBlock := by
 rcases hl.own with ⟨rfl, rfl⟩ | ⟨b, rest, hb, rfl, hB, hcap⟩
 · go_enter Tryz.func43, Tryz.ntmps43
   go_wp2
   go_loop [1, 5] (fun q i => q = .int .i64 k ∧ i = .int .i64 0) (fun q i => 0)
   case atStart => exact ⟨rfl, rfl⟩
   case round =>
    obtain ⟨rfl, rfl⟩ := hrel
    go_wp2
    go_ret
    exact ⟨ret_int (by simp), OwnI.nil _ _, grown_refl _ _⟩
 · go_enter Tryz.func43, Tryz.ntmps43
   go_wp2
   go_loopw [1, 5] (fun q i wr => ∃ j : Nat, ∃ xs : List Value, j ≤ l.length ∧ q = .int .i64 (k + j) ∧ i = .int .i64 j ∧ xs.length = l.length + rest.length ∧ xs.take j = (ints (marks k l.length)).take j ∧ xs.drop l.length = rest ∧ Blk wr b 3 xs ∧ w.grownBy wr (some b)) (fun _ i _ => l.length - (RowKit.intOf i).toNat)
   case atStart => exact ⟨0, ints l ++ rest, Nat.zero_le _, by simp, rfl, by simp [ints], by simp, by rw [← ints_length l]; simp, hB, grown_refl _ _⟩
   case round =>
    obtain ⟨j, xs, hj, rfl, rfl, hxl, hx1, hx2, hX, hE⟩ := hrel
    have HL := Lib.hid hxl; clear hxl
    have HX1 := Lib.hid hx1; clear hx1
    have HX2 := Lib.hid hx2; clear hx2
    by_cases hlt : j < l.length
    · have hjx : j < xs.length := by have := HL.out; omega
      have ho := hX.cell (j := j) (List.getElem?_eq_getElem hjx)
      generalize xs[j] = u at ho
      have hf := hX.free j
      clear hjx
      go_wp2
      go_roundw
      case rel =>
       refine ⟨j + 1, xs.set j (.int .i64 (k + j)), by omega, by go_num, by go_num, by simpa using HL.out, ?_, ?_, hX.set _ _, grown_setCell hE _ _⟩
       · exact upd_take HX1.out (by have := HL.out; omega) (by rw [ints_get, marks_get k l.length j hlt]; rfl)
       · rw [List.drop_set_of_lt hlt]; exact HX2.out
      case measure => simp [RowKit.intOf]; omega
    · have : j = l.length := by omega
      subst this
      go_wp2
      go_ret
      refine ⟨ret_int rfl, ⟨.inr ⟨b, rest, hb, by rw [marks_length], ?_, by rw [marks_length]; exact hcap⟩⟩, hE⟩
      have e := List.take_append_drop l.length xs
      rw [HX1.out, HX2.out, List.take_of_length_le (by rw [ints_length, marks_length]; exact Nat.le_refl _)] at e
      rw [e]; exact hX
set_option maxHeartbeats 400000 in
theorem heldIntS_any (v : Value) (n : Nat) (k : Int) (w : World) (hl : IntS w v (marks k n)) (h0 : 0 ≤ k) (h1 : k + n ≤ 4611686018427387904) : Calls Tryz.prog 45 #[v, .int .i64 k] w fun e w' =>
 e = .returned (.int .i64 (k + n)) ∧ Ext w w' := by
 obtain ⟨a, cap, rfl, hc1, hc2⟩ := hl.val
 rw [marks_length] at *
 go_enter Tryz.func45, Tryz.ntmps45
 go_wp2
 go_loopw [1, 5] (fun q i wr => ∃ j : Nat, j ≤ n ∧ q = .int .i64 (k + j) ∧ i = .int .i64 j ∧ Ext w wr) (fun _ i _ => n - (RowKit.intOf i).toNat)
 case atStart => exact ⟨0, Nat.zero_le _, by simp, rfl, (by repeat' (first | (with_reducible first | exact Ext.refl _ | assumption | apply Ext.alloc | apply Ext.drew | apply Ext.drewN) | (refine Ext.setAt ?_ (by omega) _ _) | (refine Ext.trans ?_ (by assumption))))⟩
 case round =>
  obtain ⟨j, hj, rfl, rfl, hE⟩ := hrel
  by_cases hlt : j < n
  · obtain ⟨b, off, x, rfl, hcell, hx, _⟩ := (hl.ext hE).get (i := j) (by rw [marks_length]; exact hlt)
    rw [marks_get k n j hlt] at hx
    obtain rfl := Option.some.inj hx
    clear hx
    go_wp2
    go_roundw
    case rel => exact ⟨j + 1, by omega, by go_num, by go_num, hE⟩
    case measure => simp [RowKit.intOf]; omega
  · have : j = n := by omega
    subst this
    go_wp2
    go_ret
    exact ⟨ret_int rfl, hE⟩
theorem StrS.val {w : World} {v : Value} {l : List ByteArray} (h : StrS w v l) : ∃ a cap, v = .slice a l.length cap ∧ l.length ≤ cap ∧ cap ≤ 9223372036854775807 := by
  obtain ⟨a, cap, hv, h1, h2, _⟩ := h.row.val
  exact ⟨a, cap, hv, h1, h2⟩
theorem strs_get (l : List ByteArray) (i : Nat) : (strs l)[i]? = (l[i]?).map .string := by simp [strs]
theorem strs_length (l : List ByteArray) : (strs l).length = l.length := by simp [strs]
theorem StrS.get {w : World} {a : Option Addr} {n cap : Nat} {l : List ByteArray} (h : StrS w (.slice a n cap) l) {i : Nat} (hi : i < l.length) :
    ∃ b off x, a = some ⟨b, off, none⟩ ∧ w.cell? ⟨b, off + i, none⟩ = some (.string x) ∧ l[i]? = some x ∧ l.drop i = x :: l.drop (i + 1) := by
  obtain ⟨a', cap', hv, _, _, h3⟩ := h.row.val
  cases hv
  obtain ⟨b, off, ha, hc⟩ := h3 (by rw [strs_length]; omega)
  refine ⟨b, off, l[i], ha, hc i _ ?_, List.getElem?_eq_getElem hi, List.drop_eq_getElem_cons hi⟩
  rw [strs_get]; simp [hi]
structure OwnStr (w : World) (B : Nat) (v : Value) (l : List ByteArray) : Prop where
  own : (v = .slice none 0 0 ∧ l = []) ∨ ∃ b rest, B ≤ b ∧ v = .slice (some ⟨b, 0, none⟩) l.length (l.length + rest.length) ∧ Blk w b 9 (strs l ++ rest) ∧ l.length + rest.length ≤ maxLen
theorem OwnStr.ext {w w' : World} {B : Nat} {v : Value} {l : List ByteArray} (h : OwnStr w B v l) (e : Ext w w') : OwnStr w' B v l := by
  rcases h.own with h | ⟨b, rest, h1, h2, h3, h4⟩
  · exact ⟨.inl h⟩
  · exact ⟨.inr ⟨b, rest, h1, h2, h3.ext e, h4⟩⟩
theorem OwnStr.mono {w : World} {B B' : Nat} {v : Value} {l : List ByteArray} (h : OwnStr w B v l) (hB : B' ≤ B) : OwnStr w B' v l := by
  rcases h.own with h | ⟨b, rest, h1, h2, h3, h4⟩
  · exact ⟨.inl h⟩
  · exact ⟨.inr ⟨b, rest, Nat.le_trans hB h1, h2, h3, h4⟩⟩
theorem OwnStr.strs {w : World} {B : Nat} {v : Value} {l : List ByteArray} (h : OwnStr w B v l) : StrS w v l := by
  rcases h.own with ⟨rfl, rfl⟩ | ⟨b, rest, h1, rfl, h3, h4⟩
  · exact ⟨⟨rfl, none, 0, rfl, Nat.le_refl _, Nat.zero_le _, by simp [Proofs.YtlgjddgajdjllaaGreatDoor.strs]⟩⟩
  · refine ⟨⟨by simp [Proofs.YtlgjddgajdjllaaGreatDoor.strs], some ⟨b, 0, none⟩, _, rfl, by omega, h4, fun _ => ⟨b, 0, rfl, fun j u hj => ?_⟩⟩⟩
    have : (Proofs.YtlgjddgajdjllaaGreatDoor.strs l ++ rest)[j]? = some u := by
      have hlt : j < (Proofs.YtlgjddgajdjllaaGreatDoor.strs l).length := (List.getElem?_eq_some_iff.1 hj).1
      rw [List.getElem?_append_left hlt, hj]
    simpa using h3.cell this
def sizeStr (l : List ByteArray) : Nat := (l.map ByteArray.size).sum
theorem sizeStr_cons (s : ByteArray) (l : List ByteArray) : sizeStr (s :: l) = s.size + sizeStr l := by simp [sizeStr]
theorem RowsS.val {w : World} {v : Value} {ll : List (List Int)} (h : RowsS w v ll) : ∃ a cap, v = .slice a ll.length cap ∧ ll.length ≤ cap ∧ cap ≤ 9223372036854775807 := by
  obtain ⟨vs, _, hr, _⟩ := h.rows
  obtain ⟨a, cap, hv, h1, h2, _⟩ := hr.val
  exact ⟨a, cap, hv, h1, h2⟩
theorem RowsS.get {w : World} {a : Option Addr} {n cap : Nat} {ll : List (List Int)} (h : RowsS w (.slice a n cap) ll) {i : Nat} (hi : i < ll.length) :
    ∃ b off u l, a = some ⟨b, off, none⟩ ∧ w.cell? ⟨b, off + i, none⟩ = some u ∧ IntS w u l ∧ ll[i]? = some l ∧ ll.drop i = l :: ll.drop (i + 1) := by
  obtain ⟨vs, hl, hr, hs⟩ := h.rows
  obtain ⟨a', cap', hv, _, _, h3⟩ := hr.val
  cases hv
  obtain ⟨b, off, ha, hc⟩ := h3 (by omega)
  have hi' : i < vs.length := by omega
  refine ⟨b, off, vs[i], ll[i], ha, hc i _ (List.getElem?_eq_getElem hi'), hs i _ _ (List.getElem?_eq_getElem hi') (List.getElem?_eq_getElem hi), List.getElem?_eq_getElem hi, List.drop_eq_getElem_cons hi⟩
theorem OwnI.setBelow {w : World} {B : Nat} {v : Value} {l : List Int} (h : OwnI w B v l) {p : Addr} (hp : p.block < B) (u : Value) : OwnI (w.setCell p u) B v l := by
  rcases h.own with h | ⟨b, rest, h1, h2, h3, h4⟩
  · exact ⟨.inl h⟩
  · exact ⟨.inr ⟨b, rest, h1, h2, h3.other (by omega) _, h4⟩⟩
structure OwnRows (w : World) (B : Nat) (v : Value) (ll : List (List Int)) : Prop where
  own : (v = .slice none 0 0 ∧ ll = []) ∨ ∃ b vs rest, B ≤ b ∧ v = .slice (some ⟨b, 0, none⟩) ll.length (ll.length + rest.length) ∧ vs.length = ll.length ∧ Blk w b 27 (vs ++ rest) ∧ ll.length + rest.length ≤ maxLen ∧
    (∀ (i : Nat) (u : Value) (l : List Int), vs[i]? = some u → ll[i]? = some l → OwnI w B u l ∧ u.ownBlock ≠ some b) ∧
    (∀ (i j : Nat) (u u' : Value) (k : Nat), i < j → vs[i]? = some u → vs[j]? = some u' → u.ownBlock = some k → u'.ownBlock ≠ some k)
theorem OwnRows.mono {w : World} {B B' : Nat} {v : Value} {ll : List (List Int)} (h : OwnRows w B v ll) (hB : B' ≤ B) : OwnRows w B' v ll := by
  rcases h.own with h | ⟨b, vs, rest, h1, h2, h3, h4, h5, h6, h7⟩
  · exact ⟨.inl h⟩
  · exact ⟨.inr ⟨b, vs, rest, Nat.le_trans hB h1, h2, h3, h4, h5, fun i u l a c => ⟨(h6 i u l a c).1.mono hB, (h6 i u l a c).2⟩, h7⟩⟩
theorem Tryz.infoStr : (Tryz.prog.info? 9).map (fun i => (i.zero, i.size, i.bytes)) = some (some (.string ByteArray.empty), 1, 16) := by kernel_rfl
theorem mkStrs (n : Nat) (h : n ≤ 1099511627776) (w : World) : (Instr.makeSlice 43 (.int .i64 (n : Int)) (.int .i64 (n : Int))).run Tryz.prog w =
    .ok (.slice (some ⟨w.heap.size, 0, none⟩) n n) (w.alloc (.cells (madeCells #[.string ByteArray.empty] n) 9)) :=
  run_make_row' (P := Tryz.prog) 43 9 (.string ByteArray.empty) 16 Tryz.underlying43 Tryz.infoStr rfl .i64 .i64 n (by omega) (by omega) w
theorem madeStrs_toList (n : Nat) : (madeCells #[.string ByteArray.empty] n).toList = List.replicate n (.string ByteArray.empty) := by
  apply List.ext_getElem?
  intro i
  by_cases h : i < n
  · simp [madeCells, h, Nat.mod_one]
  · simp [madeCells, h]
def splice (c : List Value) (off : Nat) (xs : List Value) : List Value := c.take off ++ xs ++ c.drop (off + xs.length)
theorem splice_length {c : List Value} {off : Nat} {xs : List Value} (h : off + xs.length ≤ c.length) : (splice c off xs).length = c.length := by
  simp [splice]; omega
theorem splice_self {c : List Value} {off n : Nat} (h : off + n ≤ c.length) : splice c off ((c.drop off).take n) = c := by
  have e : ((c.drop off).take n).length = n := by rw [List.length_take, List.length_drop]; omega
  unfold splice
  rw [e, ← List.drop_drop, List.append_assoc, List.take_append_drop, List.take_append_drop]
theorem splice_take {c : List Value} {off : Nat} {xs : List Value} (h : off + xs.length ≤ c.length) : ((splice c off xs).drop off).take xs.length = xs := by
  have e : (c.take off).length = off := by rw [List.length_take]; omega
  unfold splice
  rw [List.append_assoc, List.drop_append, List.drop_of_length_le (by omega), e, Nat.sub_self, List.drop_zero, List.nil_append, List.take_left]
structure Part (w : World) (b off : Nat) (c : List Value) (l : List Int) : Prop where
  blk : Blk w b 3 c
  len : off + l.length ≤ c.length
  here : (c.drop off).take l.length = ints l
theorem Part.get {w : World} {b off : Nat} {c : List Value} {l : List Int} (h : Part w b off c l) {i : Nat} {x : Int} (hx : l[i]? = some x) : c[off + i]? = some (.int .i64 x) := by
  have hi := (List.getElem?_eq_some_iff.1 hx).1
  have : ((c.drop off).take l.length)[i]? = some (.int .i64 x) := by rw [h.here, ints_get, hx]; rfl
  rw [List.getElem?_take_of_lt hi, List.getElem?_drop] at this
  exact this
theorem Part.cell {w : World} {b off : Nat} {c : List Value} {l : List Int} (h : Part w b off c l) {i : Nat} {x : Int} (hx : l[i]? = some x) :
    w.cell? ⟨b, off + i, none⟩ = some (.int .i64 x) ∧ w.frozen? ⟨b, off + i, none⟩ = false := ⟨h.blk.cell (h.get hx), h.blk.free _⟩
theorem Part.splice {w : World} {b off : Nat} {c : List Value} {l : List Int} (h : Part w b off c l) : c = splice c off (ints l) := by
  conv => lhs; rw [← splice_self (c := c) (off := off) (n := l.length) h.len]
  rw [h.here]
theorem Part.block {w w' : World} {b off : Nat} {c : List Value} {l : List Int} (h : Part w b off c l) (e : w'.heap[b]? = w.heap[b]?) : Part w' b off c l := ⟨h.blk.block e, h.len, h.here⟩
theorem Part.of {w : World} {b off : Nat} {c : List Value} {l : List Int} (h : Blk w b 3 (Proofs.YtlgjddgajdjllaaGreatDoor.splice c off (ints l))) (hl : off + l.length ≤ c.length) : Part w b off (Proofs.YtlgjddgajdjllaaGreatDoor.splice c off (ints l)) l :=
  ⟨h, by rw [splice_length (by rw [ints_length]; exact hl)]; exact hl, by have := splice_take (c := c) (off := off) (xs := ints l) (by rw [ints_length]; exact hl); rwa [ints_length] at this⟩
theorem IntS.block_lt {w : World} {v : Value} {l : List Int} (h : IntS w v l) (hl : 0 < l.length) {k : Nat} (hk : v.ownBlock = some k) : k < w.heap.size := by
  obtain ⟨a, cap, rfl, _, _⟩ := h.val
  obtain ⟨b, off, x, rfl, hc, _, _⟩ := h.get hl
  simp [Value.ownBlock] at hk
  subst hk
  exact World.block_lt_of_cell? w _ hc
section
variable {P : Program} (w : World)
theorem run_app (base : Nat) (t ty e : TypeId) (i : TypeInfo) (z : Value) (size bytes : Nat) (ht : P.underlying t = some (.slice e)) (hi : P.info? e = some i) (hz : i.zero = some z)
    (hsize : i.size = size) (hby : i.bytes = bytes) (hzs : z.cells.size = size) (hsz : 0 < size)
    (v : Value) (n : Nat) (xs : List Value) (hown : w.ownsRow base e size v n xs)
    (src : Value) (m : Nat) (news : List Value) (hr : Row w size src m news) (h1 : ∀ u ∈ news, u.oneCell' = true)
    (h63 : n + m ≤ maxLen) (hbytes : (n + m) * bytes ≤ 140737488355328) (hbase : base ≤ w.heap.size) :
    ∃ v' w', (Builtin.append_ #[t, t] ty #[v, src]).run P w = .ok v' w' ∧ w'.ownsRow base e size v' (n + m) (xs ++ news) ∧ w.grownBy w' v.ownBlock ∧
      (v'.ownBlock = v.ownBlock ∨ v'.ownBlock = some w.heap.size) := by
  obtain ⟨a, c, rfl, hmc, _, hcell⟩ := hr.val
  by_cases hm : m = 0
  · subst hm
    have hn : news = [] := List.eq_nil_of_length_eq_zero (by simpa using hr.len)
    subst hn
    cases a with
    | none =>
      refine ⟨v, w, ?_, by simpa using hown, grown_refl w _, .inl rfl⟩
      rcases hown.2 with ⟨rfl, rfl⟩ | ⟨g, cap, cur, rfl, _, _, hnc, _⟩
      · simp [Builtin.append_, run_underlying ht, sizeOf, typeInfo, hi, Builtin.lenOf, Builtin.firstCells]
      · simp [Builtin.append_, run_underlying ht, sizeOf, typeInfo, hi, Builtin.lenOf, Builtin.firstCells, hnc, storeCells]
    | some ad =>
      obtain ⟨v', w', hrun, h2, h3, _, h5⟩ := run_append_own_at (P := P) w base t ty e i z size bytes ht hi hz hsize hby hzs hsz v n xs hown ad 0 c [] (by simp) (by simp) h1 h63 hbytes hbase
      exact ⟨v', w', hrun, h2, h3, h5⟩
  · have hpos : 0 < news.length := by rw [hr.len]; exact Nat.mul_pos (by omega) hsz
    obtain ⟨b, off, rfl, hc⟩ := hcell hpos
    have hcells : ∀ j u, news[j]? = some u → w.cell? ((⟨b, off, none⟩ : Addr).add j) = some u := by
      intro j u hu
      have := hc j u hu
      have ea : (⟨b, off, none⟩ : Addr).add j = ⟨b, off + j, none⟩ := by unfold Addr.add; split <;> simp_all
      rw [ea]; exact this
    obtain ⟨v', w', hrun, h2, h3, _, h5⟩ := run_append_own_at (P := P) w base t ty e i z size bytes ht hi hz hsize hby hzs hsz v n xs hown ⟨b, off, none⟩ m c news hr.len hcells h1 h63 hbytes hbase
    exact ⟨v', w', hrun, h2, h3, h5⟩
theorem wpList_app {ops : Array Oper} {rest : List Oper} {o : Oper} {a : Act} {Q : Exit → Act → World → Prop} (hgd : o.guard = none) (s x : Operand) (t : TypeId)
    (ho : o.op = .call { callee := .builtin .append, args := #[s, x], argTypes := #[t, t] }) (v src : Value) (hs : a.eval s = v) (hx : a.eval x = src) (R : Value → World → Prop)
    (hrun : ∃ v' w', (Builtin.append_ #[t, t] o.type #[v, src]).run P w = .ok v' w' ∧ R v' w')
    (h : ∀ v' w', R v' w' → wpList P ops Q rest (a.put o.dst v') w') : wpList P ops Q (o :: rest) a w := by
  obtain ⟨v', w', hr, hR⟩ := hrun
  refine wpList_plain hgd fun K hK => ?_
  unfold Oper.wp execOp
  simp only [ho, resolve, invoke, builtin, Sem.run_bind, Sem.run_pure, Result.andThen_ok, List.map_toArray, List.map_cons, List.map_nil, hs, hx, hr]
  exact hK _ _ (h v' w' hR)
end
theorem OwnI.owns {w : World} {B : Nat} {v : Value} {l : List Int} (h : OwnI w B v l) : w.ownsRow B 3 1 v l.length (Proofs.YtlgjddgajdjllaaGreatDoor.ints l) := by
  refine ⟨by simp [Proofs.YtlgjddgajdjllaaGreatDoor.ints], ?_⟩
  rcases h.own with ⟨rfl, rfl⟩ | ⟨b, rest, h1, rfl, h3, h4⟩
  · exact .inl ⟨rfl, rfl⟩
  · refine .inr ⟨b, _, _, rfl, h1, h3.row, by omega, h4, by simp [Proofs.YtlgjddgajdjllaaGreatDoor.ints], ?_⟩
    simp [Proofs.YtlgjddgajdjllaaGreatDoor.ints]
theorem OwnI.of_owns {w : World} {B n : Nat} {v : Value} {l : List Int} (h : w.ownsRow B 3 1 v n (Proofs.YtlgjddgajdjllaaGreatDoor.ints l)) : OwnI w B v l := by
  obtain ⟨hl, h⟩ := h
  simp [Proofs.YtlgjddgajdjllaaGreatDoor.ints] at hl
  subst hl
  rcases h with ⟨rfl, h0⟩ | ⟨g, cap, cur, rfl, hb, hg, hn, hm, hs, ht⟩
  · exact ⟨.inl ⟨rfl, List.eq_nil_of_length_eq_zero h0⟩⟩
  · have e : cur.toList = Proofs.YtlgjddgajdjllaaGreatDoor.ints l ++ cur.toList.drop l.length := by
      rw [Nat.mul_one] at ht
      rw [← ht, List.take_append_drop]
    have hr : (cur.toList.drop l.length).length = cap - l.length := by simp [hs]
    refine ⟨.inr ⟨g, cur.toList.drop l.length, hb, by rw [hr]; congr 1; omega, ⟨by rw [← e]; simpa using hg⟩, by rw [hr]; omega⟩⟩
theorem run_app_ints (ty : TypeId) (w : World) (B : Nat) (v src : Value) (xs ys : List Int) (hv : OwnI w B v xs) (hs : IntS w src ys) (hb : xs.length + ys.length ≤ 1099511627776) (hB : B ≤ w.heap.size) :
    ∃ v' w', (Builtin.append_ #[27, 27] ty #[v, src]).run Tryz.prog w = .ok v' w' ∧ (OwnI w' B v' (xs ++ ys) ∧ w.grownBy w' v.ownBlock ∧ (v'.ownBlock = v.ownBlock ∨ v'.ownBlock = some w.heap.size)) := by
  obtain ⟨i, hi, hzz⟩ := Option.map_eq_some_iff.1 Tryz.infoInt
  simp only [Prod.mk.injEq] at hzz
  obtain ⟨hz, hsz, hby⟩ := hzz
  obtain ⟨v', w', h1, h2, h3, h4⟩ := run_app (P := Tryz.prog) w B 27 ty 3 i (.int .i64 0) 1 8 Tryz.underlying27 hi hz hsz hby rfl (by omega) v _ _ hv.owns src ys.length (ints ys) hs.row
    (by intro u hu; simp [ints] at hu; obtain ⟨x, _, rfl⟩ := hu; rfl) (by unfold maxLen; omega) (by omega) hB
  exact ⟨v', w', h1, OwnI.of_owns (by rw [ints_append]; exact h2), h3, h4⟩
theorem IntS.one (w : World) (x : Int) : IntS (w.alloc (.cells #[.int .i64 x] 3)) (.slice (some ⟨w.heap.size, 0, none⟩) 1 1) [x] := by
  refine ⟨⟨rfl, some ⟨w.heap.size, 0, none⟩, 1, rfl, Nat.le_refl _, by unfold maxLen; omega, fun _ => ⟨_, 0, rfl, fun j u hj => ?_⟩⟩⟩
  match j, hj with
  | 0, hj => simp [ints] at hj; subst hj; simp
  | j + 1, hj => simp [ints] at hj
theorem copyInts_any (v : Value) (l : List Int) (w : World) (hl : IntS w v l) (hlen : l.length ≤ 1099511627776) : Calls Tryz.prog 68 #[v] w fun e w' =>
 ∃ v', e = .returned v' ∧ OwnI w' w.heap.size v' l ∧ Ext w w' := by
 obtain ⟨a, cap, rfl, hc1, hc2⟩ := hl.val
 go_enter Tryz.func68, Tryz.ntmps68
 go_wp2_with (at_builtin; refine wpList_app _ rfl _ _ 27 rfl _ _ rfl rfl _ (run_app_ints _ w w.heap.size (.slice none 0 0) _ [] l (OwnI.nil _ _) hl (by simpa using hlen) (Nat.le_refl _)) ?_; rintro v1 w1 ⟨o1, g1, _⟩)
 go_ret
 exact ⟨_, rfl, o1, ⟨(Below.refl _ _).grown g1 (Nat.le_refl _) (by simp [Value.ownBlock])⟩⟩
theorem OwnStr.nil (w : World) (B : Nat) : OwnStr w B (.slice none 0 0) [] := ⟨.inl ⟨rfl, rfl⟩⟩
theorem OwnStr.owns {w : World} {B : Nat} {v : Value} {l : List ByteArray} (h : OwnStr w B v l) : w.ownsRow B 9 1 v l.length (Proofs.YtlgjddgajdjllaaGreatDoor.strs l) := by
  refine ⟨by simp [Proofs.YtlgjddgajdjllaaGreatDoor.strs], ?_⟩
  rcases h.own with ⟨rfl, rfl⟩ | ⟨b, rest, h1, rfl, h3, h4⟩
  · exact .inl ⟨rfl, rfl⟩
  · refine .inr ⟨b, _, _, rfl, h1, h3.row, by omega, h4, by simp [Proofs.YtlgjddgajdjllaaGreatDoor.strs], ?_⟩
    simp [Proofs.YtlgjddgajdjllaaGreatDoor.strs]
theorem OwnStr.of_owns {w : World} {B n : Nat} {v : Value} {l : List ByteArray} (h : w.ownsRow B 9 1 v n (Proofs.YtlgjddgajdjllaaGreatDoor.strs l)) : OwnStr w B v l := by
  obtain ⟨hl, h⟩ := h
  simp [Proofs.YtlgjddgajdjllaaGreatDoor.strs] at hl
  subst hl
  rcases h with ⟨rfl, h0⟩ | ⟨g, cap, cur, rfl, hb, hg, hn, hm, hs, ht⟩
  · exact ⟨.inl ⟨rfl, List.eq_nil_of_length_eq_zero h0⟩⟩
  · have e : cur.toList = Proofs.YtlgjddgajdjllaaGreatDoor.strs l ++ cur.toList.drop l.length := by
      rw [Nat.mul_one] at ht
      rw [← ht, List.take_append_drop]
    have hr : (cur.toList.drop l.length).length = cap - l.length := by simp [hs]
    refine ⟨.inr ⟨g, cur.toList.drop l.length, hb, by rw [hr]; congr 1; omega, ⟨by rw [← e]; simpa using hg⟩, by rw [hr]; omega⟩⟩
theorem OwnStr.block_lt {w : World} {B : Nat} {v : Value} {l : List ByteArray} (h : OwnStr w B v l) {k : Nat} (hk : v.ownBlock = some k) : B ≤ k ∧ k < w.heap.size := by
  rcases h.own with ⟨rfl, _⟩ | ⟨b, rest, h1, rfl, h3, _⟩
  · simp [Value.ownBlock] at hk
  · simp [Value.ownBlock] at hk; subst hk; exact ⟨h1, h3.lt⟩
theorem strs_append (l m : List ByteArray) : strs (l ++ m) = strs l ++ strs m := by simp [strs]
theorem StrS.one (w : World) (x : ByteArray) : StrS (w.alloc (.cells #[.string x] 9)) (.slice (some ⟨w.heap.size, 0, none⟩) 1 1) [x] := by
  refine ⟨⟨rfl, some ⟨w.heap.size, 0, none⟩, 1, rfl, Nat.le_refl _, by unfold maxLen; omega, fun _ => ⟨_, 0, rfl, fun j u hj => ?_⟩⟩⟩
  match j, hj with
  | 0, hj => simp [strs] at hj; subst hj; simp
  | j + 1, hj => simp [strs] at hj
theorem run_pushS (ty : TypeId) (w : World) (B : Nat) (v : Value) (xs : List ByteArray) (y : ByteArray) (hv : OwnStr w B v xs) (hb : xs.length + 1 ≤ 1099511627776) (hB : B ≤ w.heap.size) :
    ∃ v' w', (Builtin.append_ #[43, 43] ty #[v, .slice (some ⟨w.heap.size, 0, none⟩) 1 1]).run Tryz.prog (w.alloc (.cells #[.string y] 9)) = .ok v' w' ∧
      (OwnStr w' B v' (xs ++ [y]) ∧ w.grownBy w' v.ownBlock ∧ (∀ q, v'.ownBlock = some q → v.ownBlock = some q ∨ w.heap.size ≤ q)) := by
  obtain ⟨i, hi, hzz⟩ := Option.map_eq_some_iff.1 Tryz.infoStr
  simp only [Prod.mk.injEq] at hzz
  obtain ⟨hz, hsz, hby⟩ := hzz
  obtain ⟨v', w', h1, h2, h3, h4⟩ := run_app (P := Tryz.prog) (w.alloc (.cells #[.string y] 9)) B 43 ty 9 i (.string ByteArray.empty) 1 16 Tryz.underlying43 hi hz hsz hby rfl (by omega) v _ _ (hv.ext ((Ext.refl _).alloc _)).owns
    (.slice (some ⟨w.heap.size, 0, none⟩) 1 1) 1 (strs [y]) (StrS.one w y).row (by intro u hu; simp [strs] at hu; subst hu; rfl) (by unfold maxLen; omega) (by omega) (by simp; omega)
  refine ⟨v', w', h1, OwnStr.of_owns (by rw [strs_append]; exact h2), grownBy_trans (grown_alloc (grown_refl _ _) _) h3, fun q hq => ?_⟩
  rcases h4 with h4 | h4
  · exact .inl (h4 ▸ hq)
  · rw [h4] at hq; injection hq with hq; right; simp at hq; omega
theorem OwnStr.empty {w : World} {B b : Nat} (hb : B ≤ b) (hs : b = w.heap.size) : OwnStr (w.alloc (.cells #[] 9)) B (.slice (some ⟨b, 0, none⟩) 0 0) [] := by
  subst hs
  exact ⟨.inr ⟨_, [], hb, by simp [Proofs.YtlgjddgajdjllaaGreatDoor.strs], by simpa [Proofs.YtlgjddgajdjllaaGreatDoor.strs] using Blk.new w #[] 9, by simp⟩⟩
open Go.Lib
theorem str_eq {a b : ByteArray} (h : a.data.toList = b.data.toList) : a = b := by
  cases a; cases b; simp at h; simp [h]
theorem append_bytes (a b : ByteArray) : (a ++ b).data.toList = a.data.toList ++ b.data.toList := by simp
theorem dec_digit (u : Nat) : ∀ c ∈ decDigits u, 48 ≤ c.toNat ∧ c.toNat ≤ 57 := by
  induction u using Nat.strongRecOn with
  | _ u ih =>
    intro c hc
    rw [decDigits] at hc
    split at hc
    · simp at hc; subst hc; simp; omega
    · rcases List.mem_append.1 hc with hc | hc
      · exact ih (u / 10) (by omega) c hc
      · simp at hc; subst hc; simp; omega
theorem dec_ne (u : Nat) : decDigits u ≠ [] := by
  rw [decDigits]; split <;> simp
theorem dec_cons (u : Nat) : ∃ c r, decDigits u = c :: r ∧ 48 ≤ c.toNat ∧ c.toNat ≤ 57 := by
  cases h : decDigits u with
  | nil => exact absurd h (dec_ne u)
  | cons c r => exact ⟨c, r, rfl, dec_digit u c (by rw [h]; simp)⟩
theorem nDigits_lt : ∀ (k u : Nat), 1 ≤ k → u < 10 ^ k → nDigits u ≤ k
  | 0, u, h, _ => by omega
  | k + 1, u, _, hu => by
    by_cases h : u < 10
    · rw [nDigits_small h]; omega
    · rw [nDigits_big h]
      have hk : 1 ≤ k := by
        rcases Nat.eq_zero_or_pos k with rfl | h'
        · simp at hu; omega
        · exact h'
      have := nDigits_lt k (u / 10) hk (by rw [Nat.pow_succ] at hu; omega)
      omega
theorem dec_len {u : Nat} (h : u ≤ 9223372036854775808) : 1 ≤ (decDigits u).length ∧ (decDigits u).length ≤ 19 := by
  rw [decDigits_length]
  exact ⟨nDigits_pos u, nDigits_lt 19 u (by omega) (by omega)⟩
def isI64 (v : Int) : Prop := -9223372036854775808 ≤ v ∧ v ≤ 9223372036854775807
theorem itoa_neg {v : Int} (h : v < 0) : itoa v = 45 :: decDigits v.natAbs := by simp [itoa, h]
theorem itoa_nonneg {v : Int} (h : 0 ≤ v) : itoa v = decDigits v.toNat := by simp [itoa, show ¬ v < 0 by omega]
theorem itoa_ne (v : Int) : itoa v ≠ [] := by
  by_cases h : v < 0
  · rw [itoa_neg h]; simp
  · rw [itoa_nonneg (by omega)]; exact dec_ne _
theorem itoa_len {v : Int} (h : isI64 v) : 1 ≤ (itoa v).length ∧ (itoa v).length ≤ 20 := by
  obtain ⟨h0, h1⟩ := h
  by_cases c : v < 0
  · rw [itoa_neg c, List.length_cons]; have := dec_len (u := v.natAbs) (by omega); omega
  · rw [itoa_nonneg (by omega)]; have := dec_len (u := v.toNat) (by omega); omega
theorem itoa_chars (v : Int) : ∀ c ∈ itoa v, c.toNat = 45 ∨ (48 ≤ c.toNat ∧ c.toNat ≤ 57) := by
  intro c hc
  by_cases h : v < 0
  · rw [itoa_neg h] at hc
    rcases List.mem_cons.1 hc with rfl | hc
    · exact .inl rfl
    · exact .inr (dec_digit _ c hc)
  · rw [itoa_nonneg (by omega)] at hc
    exact .inr (dec_digit _ c hc)
theorem parse_snoc : ∀ (l : List UInt8) (acc u : Nat) (c : UInt8), parseUint10 acc l = .ok u → parseUint10 acc (l ++ [c]) = parseUint10 u [c]
  | [], acc, u, c, h => by simp [parseUint10] at h; subst h; rfl
  | b :: r, acc, u, c, h => by
    simp only [parseUint10] at h
    split at h
    · split at h
      · cases h
      · split at h
        · cases h
        · rename_i h1 h2 h3
          rw [List.cons_append, parseUint10, if_pos h1, if_neg h2, if_neg h3]
          exact parse_snoc r _ u c h
    · cases h
theorem parse_dec {u : Nat} (h : u < 18446744073709551616) : parseUint10 0 (decDigits u) = .ok u := by
  induction u using Nat.strongRecOn with
  | _ u ih =>
    rw [decDigits]
    split
    · rename_i h1
      have e : (UInt8.ofNat (48 + u)).toNat = 48 + u := by simp; omega
      simp only [parseUint10, e]
      rw [if_pos (by omega), if_neg (by omega), if_neg (by omega)]
      congr 1; omega
    · rename_i h1
      rw [parse_snoc _ _ (u / 10) _ (ih (u / 10) (by omega) (by omega))]
      have e : (UInt8.ofNat (48 + u % 10)).toNat = 48 + u % 10 := by simp; omega
      simp only [parseUint10, e]
      rw [if_pos (by omega), if_neg (by omega), if_neg (by omega)]
      congr 1; omega
theorem atoi_itoa {v : Int} (h : isI64 v) : atoiAll (itoa v) = .ok v := by
  obtain ⟨h0, h1⟩ := h
  by_cases c : v < 0
  · rw [itoa_neg c]
    have hp : parseMag (decDigits v.natAbs) = .ok v.natAbs := by rw [parseMag, if_neg (dec_ne _)]; exact parse_dec (by omega)
    have e : (45 : UInt8).toNat = 45 := rfl
    simp only [atoiAll, e, or_true, if_true, hp]
    rw [if_neg (by simp), if_neg (by omega)]
    simp; omega
  · rw [itoa_nonneg (by omega)]
    obtain ⟨d, r, hd, d0, d1⟩ := dec_cons v.toNat
    have hp : parseMag (decDigits v.toNat) = .ok v.toNat := by rw [parseMag, if_neg (dec_ne _)]; exact parse_dec (by omega)
    rw [hd] at hp ⊢
    simp only [atoiAll]
    rw [if_neg (by omega), hp]
    simp only
    rw [if_neg (by omega), if_neg (by omega), if_neg (by omega)]
    congr 1; omega
def parseI (s : List UInt8) : Option Int := match atoiAll s with
  | .ok v => if itoa v = s then some v else none
  | _ => none
theorem parseI_itoa {v : Int} (h : isI64 v) : parseI (itoa v) = some v := by simp [parseI, atoi_itoa h]
theorem parseI_some {s : List UInt8} {v : Int} (h : parseI s = some v) : s = itoa v ∧ isI64 v := by
  unfold parseI at h
  split at h
  · rename_i x hx
    split at h
    · rename_i e
      injection h with h
      subst h
      exact ⟨e.symm, atoiAll_bounds hx⟩
    · cases h
  · cases h
def digGo (n : Int) : List UInt8 → Option Int
  | [] => some n
  | c :: r => if c.toNat < 48 ∨ 57 < c.toNat then none else if n < Int.tdiv (-9223372036854775808 + ((c.toNat : Int) - 48)) 10 then none else digGo (n * 10 - ((c.toNat : Int) - 48)) r
theorem tdiv_low {d : Int} (h0 : 0 ≤ d) (h1 : d ≤ 9) : Int.tdiv (-9223372036854775808 + d) 10 = -((9223372036854775808 - d) / 10) := by
  rw [show (-9223372036854775808 + d : Int) = -(9223372036854775808 - d) by omega, Int.neg_tdiv, Int.tdiv_eq_ediv_of_nonneg (by omega)]
theorem digGo_snoc : ∀ (l : List UInt8) (n m : Int) (c : UInt8), digGo n l = some m → digGo n (l ++ [c]) = digGo m [c]
  | [], n, m, c, h => by simp [digGo] at h; subst h; rfl
  | b :: r, n, m, c, h => by
    rw [digGo] at h
    split at h
    · cases h
    · split at h
      · cases h
      · rename_i h1 h2
        rw [List.cons_append, digGo, if_neg h1, if_neg h2]
        exact digGo_snoc r _ m c h
theorem digGo_dec {u : Nat} (h : u ≤ 9223372036854775808) : digGo 0 (decDigits u) = some (-(u : Int)) := by
  induction u using Nat.strongRecOn with
  | _ u ih =>
    rw [decDigits]
    split
    · rename_i h1
      have e : (UInt8.ofNat (48 + u)).toNat = 48 + u := by simp; omega
      simp only [digGo, e]
      have ed : (((48 + u : Nat) : Int) - 48) = (u : Int) := by omega
      rw [if_neg (by omega), ed, tdiv_low (by omega) (by omega), if_neg (by omega)]
      congr 1; omega
    · rename_i h1
      rw [digGo_snoc _ _ _ _ (ih (u / 10) (by omega) (by omega))]
      have e : (UInt8.ofNat (48 + u % 10)).toNat = 48 + u % 10 := by simp; omega
      simp only [digGo, e]
      have ed : (((48 + u % 10 : Nat) : Int) - 48) = ((u % 10 : Nat) : Int) := by omega
      rw [if_neg (by omega), ed, tdiv_low (by omega) (by omega), if_neg (by omega)]
      congr 1; omega
theorem digGo_range : ∀ (l : List UInt8) (n m : Int), -9223372036854775808 ≤ n ∧ n ≤ 0 → digGo n l = some m → -9223372036854775808 ≤ m ∧ m ≤ 0
  | [], n, m, hn, h => by simp [digGo] at h; subst h; exact hn
  | b :: r, n, m, hn, h => by
    rw [digGo] at h
    split at h
    · cases h
    · split at h
      · cases h
      · rename_i h1 h2
        rw [tdiv_low (by omega) (by omega)] at h2
        exact digGo_range r _ m (by omega) h
def finI (m : Int) (s : List UInt8) : Option Int := if itoa m = s then some m else none
def signB (s : List UInt8) : Bool := s.head? == some 45
def magL (s : List UInt8) : List UInt8 := if signB s = true then s.tail else s
def sparseN (neg : Bool) (n : Int) (s : List UInt8) : Option Int := if neg = true then finI n s else if n = -9223372036854775808 then none else finI (-n) s
def sparse (s : List UInt8) : Option Int := if (magL s).length < 1 ∨ 19 < (magL s).length then none else (digGo 0 (magL s)).bind fun n => sparseN (signB s) n s
theorem finI_some {m v : Int} {s : List UInt8} (h : finI m s = some v) : m = v ∧ itoa v = s := by
  unfold finI at h
  split at h
  · rename_i e
    injection h with h
    subst h
    exact ⟨rfl, e⟩
  · cases h
theorem sparse_some {s : List UInt8} {v : Int} (h : sparse s = some v) : itoa v = s ∧ isI64 v := by
  unfold sparse at h
  split at h
  · cases h
  · cases hn : digGo 0 (magL s) with
    | none => rw [hn] at h; cases h
    | some n =>
      have hr := digGo_range _ _ _ (by omega) hn
      rw [hn, Option.bind_some, sparseN] at h
      split at h
      · obtain ⟨rfl, e⟩ := finI_some h
        exact ⟨e, by unfold isI64; omega⟩
      · split at h
        · cases h
        · obtain ⟨rfl, e⟩ := finI_some h
          exact ⟨e, by unfold isI64; omega⟩
theorem sign_neg {v : Int} (h : v < 0) : signB (itoa v) = true ∧ magL (itoa v) = decDigits v.natAbs := by
  have e : signB (itoa v) = true := by rw [itoa_neg h]; rfl
  exact ⟨e, by rw [magL, if_pos e, itoa_neg h]; rfl⟩
theorem sign_pos {v : Int} (h : 0 ≤ v) : signB (itoa v) = false ∧ magL (itoa v) = decDigits v.toNat := by
  have e : signB (itoa v) = false := by
    obtain ⟨d, r, hd2, d0, d1⟩ := dec_cons v.toNat
    rw [itoa_nonneg h, hd2, signB]
    simp
    intro h
    subst h
    simp at d0
  exact ⟨e, by rw [magL, e, itoa_nonneg h]; rfl⟩
theorem sparse_itoa {v : Int} (h : isI64 v) : sparse (itoa v) = some v := by
  obtain ⟨h0, h1⟩ := h
  by_cases c : v < 0
  · have hl := dec_len (u := v.natAbs) (by omega)
    have hd := digGo_dec (u := v.natAbs) (by omega)
    obtain ⟨e1, e2⟩ := sign_neg c
    rw [sparse, e2, if_neg (by omega), hd, Option.bind_some, e1, sparseN, if_pos rfl, show -(v.natAbs : Int) = v by omega, finI, if_pos rfl]
  · have hl := dec_len (u := v.toNat) (by omega)
    have hd := digGo_dec (u := v.toNat) (by omega)
    obtain ⟨e1, e2⟩ := sign_pos (v := v) (by omega)
    rw [sparse, e2, if_neg (by omega), hd, Option.bind_some, e1, sparseN, if_neg (by simp), if_neg (by omega), show -(-(v.toNat : Int)) = v by omega, finI, if_pos rfl]
theorem sparse_eq (s : List UInt8) : sparse s = parseI s := by
  cases h : sparse s with
  | some v =>
    obtain ⟨e, hv⟩ := sparse_some h
    rw [← e, parseI_itoa hv]
  | none =>
    cases h2 : parseI s with
    | none => rfl
    | some v =>
      obtain ⟨e, hv⟩ := parseI_some h2
      rw [e, sparse_itoa hv] at h
      cases h
def sp (c : UInt8) : List UInt8 → List (List UInt8)
  | [] => [[]]
  | b :: l => if b = c then [] :: sp c l else (b :: (sp c l).headD []) :: (sp c l).tail
theorem sp_ne (c : UInt8) (l : List UInt8) : sp c l ≠ [] := by
  cases l with
  | nil => simp [sp]
  | cons b l => rw [sp]; split <;> simp
theorem sp_shape (c : UInt8) (l : List UInt8) : ∃ h t, sp c l = h :: t := by
  cases hh : sp c l with
  | nil => exact absurd hh (sp_ne c l)
  | cons h t => exact ⟨h, t, rfl⟩
theorem sp_none {c : UInt8} : ∀ {l : List UInt8}, c ∉ l → sp c l = [l]
  | [], _ => rfl
  | b :: l, h => by
    simp at h
    rw [sp, if_neg (fun e => h.1 e.symm), sp_none h.2]; rfl
theorem sp_at {c : UInt8} : ∀ {p q : List UInt8}, c ∉ p → sp c (p ++ c :: q) = p :: sp c q
  | [], q, _ => by simp [sp]
  | b :: p, q, h => by
    simp at h
    rw [List.cons_append, sp, if_neg (fun e => h.1 e.symm), sp_at h.2]; rfl
theorem sp_length (c : UInt8) : ∀ l : List UInt8, (sp c l).length = l.count c + 1
  | [] => rfl
  | b :: l => by
    rw [sp]
    split
    · rename_i e; subst e; rw [List.length_cons, sp_length, List.count_cons_self]
    · rename_i e
      obtain ⟨h, t, ht⟩ := sp_shape c l
      have := sp_length c l
      rw [ht] at this ⊢
      rw [List.count_cons_of_ne (by simpa using e)]
      simpa using this
theorem sp_join {c : UInt8} : ∀ {l : List (List UInt8)}, l ≠ [] → (∀ p ∈ l, c ∉ p) → sp c (join l [c]) = l
  | [], h, _ => absurd rfl h
  | [x], _, h => by rw [join_one]; exact sp_none (h x (by simp))
  | x :: y :: l, _, h => by
    have ih := sp_join (c := c) (l := y :: l) (by simp) (fun p hp => h p (List.mem_cons_of_mem _ hp))
    rw [Go.Lib.join_cons] at ih ⊢
    have e : joinTail [c] (y :: l) = c :: (y ++ joinTail [c] l) := by simp [joinTail]
    rw [e, sp_at (h x (by simp)), ih]
theorem occ_one (l : List UInt8) (c : UInt8) (i : Nat) : occAt l [c] i = (l[i]? == some c) := by
  unfold occAt
  cases h : l.drop i with
  | nil =>
    have : l.length ≤ i := by rw [List.drop_eq_nil_iff] at h; exact h
    simp [List.isPrefixOf, List.getElem?_eq_none this]
  | cons b r =>
    have e : l[i]? = some b := by
      have := List.getElem?_drop (xs := l) (i := i) (j := 0)
      rw [h] at this; simpa using this.symm
    rw [e]
    simp [List.isPrefixOf]
    rw [Bool.eq_iff_iff, beq_iff_eq, beq_iff_eq]; exact eq_comm
theorem split_sp (c : UInt8) : ∀ (k : Nat) (l : List UInt8), l.length ≤ k → split l [c] = sp c l := by
  intro k
  induction k with
  | zero =>
    intro l hl
    have : l = [] := List.eq_nil_of_length_eq_zero (by omega)
    subst this
    rfl
  | succ k ih =>
    intro l hl
    rcases index_spec l [c] with ⟨hi, hno⟩ | ⟨i, hi, hle, ho, hn⟩
    · have : c ∉ l := by
        intro hm
        obtain ⟨j, hj⟩ := List.getElem?_of_mem hm
        have hlt := (List.getElem?_eq_some_iff.1 hj).1
        have := hno j (by omega)
        rw [occ_one, hj] at this
        simp at this
      rw [split, count_miss hi, sp_none this]; rfl
    · rw [occ_one] at ho
      have ho : l[i]? = some c := by simpa using ho
      have hlt := (List.getElem?_eq_some_iff.1 ho).1
      have hp : c ∉ l.take i := by
        intro hm
        obtain ⟨j, hj⟩ := List.getElem?_of_mem hm
        have hj2 := (List.getElem?_eq_some_iff.1 hj).1
        rw [List.length_take] at hj2
        rw [List.getElem?_take_of_lt (by omega)] at hj
        have := hn j (by omega)
        rw [occ_one, hj] at this
        simp at this
      have e : l = l.take i ++ c :: l.drop (i + 1) := by
        obtain ⟨h1, h2⟩ := List.getElem?_eq_some_iff.1 ho
        rw [← h2, ← List.drop_eq_getElem_cons hlt, List.take_append_drop]
      have hih := ih (l.drop (i + 1)) (by rw [List.length_drop]; omega)
      rw [split, count_hit (by simp) hi, Nat.add_comm 1, splitK, hi]
      rw [if_neg (by simp), Int.toNat_natCast, Nat.add_zero]
      have e2 : i + ([c] : List UInt8).length = i + 1 := rfl
      rw [e2]
      rw [split] at hih
      rw [hih]
      conv => rhs; rw [e]
      rw [sp_at hp]
theorem split_sp' (c : UInt8) (l : List UInt8) : split l [c] = sp c l := split_sp c l.length l (Nat.le_refl _)
def wordsL (s : List UInt8) : List (List UInt8) := (sp 32 s).filter (fun w => !w.isEmpty)
theorem words_nil : wordsL [] = [] := rfl
theorem words_gap {q : List UInt8} : wordsL (32 :: q) = wordsL q := by simp [wordsL, sp]
theorem words_at {p q : List UInt8} (h : 32 ∉ p) (hp : p ≠ []) : wordsL (p ++ 32 :: q) = p :: wordsL q := by
  unfold wordsL
  rw [sp_at h]
  cases p with
  | nil => exact absurd rfl hp
  | cons b p => rfl
theorem words_end {p : List UInt8} (h : 32 ∉ p) (hp : p ≠ []) : wordsL p = [p] := by
  unfold wordsL
  rw [sp_none h]
  cases p with
  | nil => exact absurd rfl hp
  | cons b p => rfl
def linesL (s : List UInt8) : List (List UInt8) := if (sp 10 s).getLastD [] = [] then (sp 10 s).dropLast else sp 10 s
theorem lines_at {p q : List UInt8} (h : 10 ∉ p) : linesL (p ++ 10 :: q) = p :: linesL q := by
  unfold linesL
  rw [sp_at h]
  obtain ⟨x, t, ht⟩ := sp_shape 10 q
  rw [ht]
  have e : (p :: x :: t).getLastD [] = (x :: t).getLastD [] := by simp [List.getLastD]
  rw [e]
  split <;> simp
theorem lines_end {p : List UInt8} (h : 10 ∉ p) (hp : p ≠ []) : linesL p = [p] := by
  unfold linesL
  rw [sp_none h]
  simp [hp]
theorem lines_nil : linesL [] = [] := by simp [linesL, sp]
def intsBy (c : UInt8) (s : List UInt8) : Option (List Int) := if s = [] then some [] else (sp c s).mapM parseI
theorem mapM_parse : ∀ {l : List (List UInt8)} {x : List Int}, l.mapM parseI = some x → l = x.map itoa ∧ ∀ v ∈ x, isI64 v
  | [], x, h => by simp at h; subst h; simp
  | p :: l, x, h => by
    rw [List.mapM_cons] at h
    cases h1 : parseI p with
    | none => rw [h1] at h; simp at h
    | some v =>
      cases h2 : l.mapM parseI with
      | none => rw [h1, h2] at h; simp at h
      | some y =>
        rw [h1, h2] at h
        simp at h
        subst h
        obtain ⟨e, hv⟩ := parseI_some h1
        obtain ⟨e2, hy⟩ := mapM_parse h2
        refine ⟨by rw [e, e2]; rfl, fun u hu => ?_⟩
        rcases List.mem_cons.1 hu with rfl | hu
        · exact hv
        · exact hy u hu
theorem mapM_itoa : ∀ {x : List Int}, (∀ v ∈ x, isI64 v) → (x.map itoa).mapM parseI = some x
  | [], _ => rfl
  | v :: x, h => by
    rw [List.map_cons, List.mapM_cons, parseI_itoa (h v (by simp)), mapM_itoa (x := x) (fun u hu => h u (by simp [hu]))]
    rfl
theorem itoa_clean {c : UInt8} (h1 : c.toNat < 48 ∨ 57 < c.toNat) (h2 : c.toNat ≠ 45) (v : Int) : c ∉ itoa v := by
  intro h
  have := itoa_chars v c h
  omega
theorem intsBy_join {c : UInt8} (h1 : c.toNat < 48 ∨ 57 < c.toNat) (h2 : c.toNat ≠ 45) {x : List Int} (hx : ∀ v ∈ x, isI64 v) : intsBy c (join (x.map itoa) [c]) = some x := by
  unfold intsBy
  cases x with
  | nil => rfl
  | cons v x =>
    have hne : join ((v :: x).map itoa) [c] ≠ [] := by
      rw [List.map_cons, Go.Lib.join_cons]
      simp [itoa_ne v]
    rw [if_neg hne, sp_join (by simp) (fun p hp => by obtain ⟨u, _, rfl⟩ := List.mem_map.1 hp; exact itoa_clean h1 h2 u)]
    exact mapM_itoa hx
theorem var_ext {P : Program} {w w' : World} {n : String} {cs : Array Value} (e : Ext w w') (h : w.var? P n = some cs) : w'.var? P n = some cs := by
  unfold World.var? at *
  cases hg : P.globalNamed n with
  | none => rw [hg] at h; cases h
  | some g =>
    rw [hg] at h
    simp only [Option.bind_some] at h ⊢
    cases hb : w.heap[g]? with
    | none => rw [hb] at h; cases h
    | some o => rw [e.block hb]; rw [hb] at h; exact h
structure Tab (w : World) : Prop where
  tab : Lib.TabIs Tryz.prog w "internal/strconv.uint64pow10" .u64 Lib.pow10Tab
theorem Tab.ext {w w' : World} (h : Tab w) (e : Ext w w') : Tab w' := ⟨var_ext e h.tab⟩
theorem gTab : Tryz.prog.globalNamed "internal/strconv.uint64pow10" = some 3 := by kernel_rfl
theorem gTabType : (Tryz.prog.globals[3]?).map (·.type) = some 148 := by kernel_rfl
theorem cellsTab : Tryz.prog.cellsOf 148 = 20 := by kernel_rfl
theorem cellsU64 : Tryz.prog.cellsOf 134 = 1 := by kernel_rfl
theorem tab_of_head {W : World} {rest : List (String × DataW Unit)} (h : laidMet Tryz.prog (("internal/strconv.uint64pow10", Rows.laid_internal_strconv_uint64pow10) :: rest) W) : Tab W :=
  ⟨Lib.tabIs_of_head (zs := Lib.pow10Tab) (rest := rest) gTab gTabType Tryz.underlying148 Tryz.underlying134 cellsU64 cellsTab h⟩
theorem in_any (n a b : Int) (w : World) : Calls Tryz.prog 70 #[.int .i64 n, .int .i64 a, .int .i64 b] w fun e w' =>
 e = .returned (.bool (decide (a ≤ n) && decide (n ≤ b))) ∧ w = w' := by
 by_cases h1 : a ≤ n <;> by_cases h2 : n ≤ b
 all_goals
  go_enter Tryz.func70, Tryz.ntmps70
  go_wp2
  go_ret
  exact ⟨by simp [h1, h2], rfl⟩
set_option maxHeartbeats 400000 in
theorem isPrime_impl (n : Int) (w : World) : Calls Tryz.prog 64 #[.int .i64 n] w fun e w' =>
 e = .returned (.bool (isPrime n)) ∧ w = w' := by
 by_cases h1 : n < 2
 · go_enter Tryz.func64, Tryz.ntmps64
   go_wp2
   go_ret
   exact ⟨by simp [isPrime, h1], rfl⟩
 by_cases h2 : 1000003 < n
 · go_enter Tryz.func64, Tryz.ntmps64
   go_wp2
   go_ret
   exact ⟨by simp [isPrime, h1, h2], rfl⟩
 · have h1' : 2 ≤ n := by omega
   have h2' : n ≤ 1000003 := by omega
   go_enter Tryz.func64, Tryz.ntmps64
   go_wp2
   go_loop [3] (fun d => ∃ k : Nat, 2 ≤ k ∧ k ≤ 1002 ∧ noDiv n (1003 - k) k = noDiv n 1001 2 ∧ d = .int .i64 k) (fun d => 1002 - (RowKit.intOf d).toNat)
   case atStart => exact ⟨2, by omega, by omega, rfl, rfl⟩
   case round =>
    obtain ⟨k, hk1, hk2, hk, rfl⟩ := hrel
    have hkk : (k : Int) * k ≤ 1004004 := sq_le hk2
    have hkk0 : 0 ≤ (k : Int) * k := Int.mul_nonneg (by omega) (by omega)
    have hf : 1003 - k = (1002 - k) + 1 := by omega
    have HF := isPrime_mid h1' h2'
    rw [hf] at hk
    have HK := Lib.hid hk; clear hk hf
    have HG := Lib.hid HF; clear HF
    have hk' : k < 1002 ∨ n < (k : Int) * k := by
     by_cases h : k < 1002
     · exact .inl h
     · right
       have : k = 1002 := by omega
       subst this; omega
    go_wp2
    · have hle : (k : Int) * k ≤ n := by assumption
      have hd : (n % (k : Int) == 0) = true := by assumption
      go_ret
      exact ⟨ret_bool (by rw [HG.out, ← HK.out, noDiv_hit _ hle (by simpa using hd)]), rfl⟩
    · have hle : (k : Int) * k ≤ n := by assumption
      have hd : (n % (k : Int) == 0) = false := by assumption
      go_round
      case rel =>
       refine ⟨k + 1, by omega, by omega, ?_, by go_num⟩
       rw [← HK.out, noDiv_step _ hle (by simpa using hd), show 1003 - (k + 1) = 1002 - k from by omega]
       rfl
      case measure => simp [RowKit.intOf]; omega
    · have hlt : n < (k : Int) * k := by assumption
      go_ret
      exact ⟨ret_bool (by rw [HG.out, ← HK.out, noDiv_end _ hlt]), rfl⟩
set_option maxHeartbeats 400000 in
theorem isPrime_spec (n : Int) (w : World) : Calls Tryz.prog 112 #[.int .i64 n] w fun e w' =>
    e = .returned (.bool (isPrime n)) ∧ w = w' := by
  by_cases hm : 2 ≤ n ∧ n ≤ 1000003
  · obtain ⟨h1', h2'⟩ := hm
    go_enter Tryz.func112, Tryz.ntmps112
    go_wp2
    go_loop [3] (fun d => ∃ k : Nat, 2 ≤ k ∧ k ≤ 1002 ∧ noDiv n (1003 - k) k = noDiv n 1001 2 ∧ d = .int .i64 k) (fun d => 1002 - (RowKit.intOf d).toNat)
    case atStart => exact ⟨2, by omega, by omega, rfl, rfl⟩
    case round =>
      obtain ⟨k, hk1, hk2, hk, rfl⟩ := hrel
      have hkk : (k : Int) * k ≤ 1004004 := sq_le hk2
      have hkk0 : 0 ≤ (k : Int) * k := Int.mul_nonneg (by omega) (by omega)
      have hf : 1003 - k = (1002 - k) + 1 := by omega
      have HF := isPrime_mid h1' h2'
      rw [hf] at hk
      have HK := Lib.hid hk; clear hk hf
      have HG := Lib.hid HF; clear HF
      have hk' : k < 1002 ∨ n < (k : Int) * k := by
        by_cases h : k < 1002
        · exact .inl h
        · right
          have : k = 1002 := by omega
          subst this; omega
      by_cases hle : (k : Int) * k ≤ n
      · by_cases hd : n % (k : Int) = 0
        · go_wp2
          go_ret
          exact ⟨ret_bool (by rw [HG.out, ← HK.out, noDiv_hit _ hle hd]), rfl⟩
        · go_wp2
          go_round
          case rel =>
            refine ⟨k + 1, by omega, by omega, ?_, by go_num⟩
            rw [← HK.out, noDiv_step _ hle hd, show 1003 - (k + 1) = 1002 - k from by omega]
            rfl
          case measure => simp [RowKit.intOf]; omega
      · go_wp2_with (go_at_call 70; refine (in_any _ _ _ _).mono ?_; rintro e w' ⟨rfl, rfl⟩)
        go_ret
        exact ⟨ret_bool (by rw [HG.out, ← HK.out, noDiv_end _ (by omega)]), rfl⟩
  · have hf : isPrime n = (decide (2 ≤ n) && decide (n ≤ 1000003)) := by
      by_cases h : n < 2
      · rw [isPrime_low h]; have : ¬ 2 ≤ n := by omega
        simp [this]
      · have h2 : 1000003 < n := by omega
        rw [isPrime_high h2]; have : ¬ n ≤ 1000003 := by omega
        simp [this]
    have HF := Lib.hid hf; clear hf
    have hn : n < 4 ∨ 1000003 < n := by omega
    go_enter Tryz.func112, Tryz.ntmps112
    go_wp2
    go_loop [3] (fun d => d = .int .i64 2) (fun d => 0)
    case atStart => rfl
    case round =>
      obtain rfl := hrel
      rcases hn with hn | hn
      · go_wp2_with (go_at_call 70; refine (in_any _ _ _ _).mono ?_; rintro e w' ⟨rfl, rfl⟩)
        go_ret
        exact ⟨ret_bool HF.out.symm, rfl⟩
      · go_wp2_with (go_at_call 70; refine (in_any _ _ _ _).mono ?_; rintro e w' ⟨rfl, rfl⟩)
        go_ret
        exact ⟨ret_bool HF.out.symm, rfl⟩
theorem run_push (ty : TypeId) (w : World) (B : Nat) (v : Value) (xs : List Int) (y : Int) (hv : OwnI w B v xs) (hb : xs.length + 1 ≤ 1099511627776) (hB : B ≤ w.heap.size) :
    ∃ v' w', (Builtin.append_ #[27, 27] ty #[v, .slice (some ⟨w.heap.size, 0, none⟩) 1 1]).run Tryz.prog (w.alloc (.cells #[.int .i64 y] 3)) = .ok v' w' ∧
      (OwnI w' B v' (xs ++ [y]) ∧ w.grownBy w' v.ownBlock ∧ (∀ q, v'.ownBlock = some q → v.ownBlock = some q ∨ w.heap.size ≤ q)) := by
  obtain ⟨v', w', h1, h2, h3, h4⟩ := run_app_ints ty (w.alloc (.cells #[.int .i64 y] 3)) B v (.slice (some ⟨w.heap.size, 0, none⟩) 1 1) xs [y] (hv.ext ((Ext.refl _).alloc _)) (IntS.one w y) hb (by simp; omega)
  refine ⟨v', w', h1, h2, grownBy_trans (grown_alloc (grown_refl _ _) _) h3, fun q hq => ?_⟩
  rcases h4 with h4 | h4
  · exact .inl (h4 ▸ hq)
  · rw [h4] at hq; injection hq with hq; right; simp at hq; omega
abbrev ringV (k p n : Int) : Value := .agg #[.int .i64 k, .int .i64 p, .int .i64 n]
set_option maxHeartbeats 400000 in
theorem ringOk_impl (k p n : Int) (w : World) : Calls Tryz.prog 28 #[ringV k p n] w fun e w' =>
 e = .returned (.bool (ringOk k p n)) ∧ Ext w w' := by
 rcases kinds k with rfl | rfl | rfl | rfl | rfl | rfl | rfl | rfl | ⟨e1, e2, e3, e4, e5, e6, e7, e8⟩
 all_goals
  go_enter Tryz.func28, Tryz.ntmps28
  go_wp2_with (go_at_call 64; refine (isPrime_impl _ _).mono ?_; rintro e w' ⟨rfl, rfl⟩)
 all_goals
  go_ret
  refine ⟨ret_bool ?_, (Ext.refl _).alloc _⟩
  simp [ringOk, *] <;> omega
set_option maxHeartbeats 400000 in
theorem ringOk_spec (k p n : Int) (w : World) : Calls Tryz.prog 89 #[ringV k p n] w fun e w' =>
 e = .returned (.bool (ringOk k p n)) ∧ Ext w w' := by
 rcases kinds k with rfl | rfl | rfl | rfl | rfl | rfl | rfl | rfl | ⟨e1, e2, e3, e4, e5, e6, e7, e8⟩
 all_goals
  go_enter Tryz.func89, Tryz.ntmps89
  go_wp2_with (first | (go_at_call 112; refine (isPrime_spec _ _).mono ?_; rintro e w' ⟨rfl, rfl⟩) | (go_at_call 70; refine (in_any _ _ _ _).mono ?_; rintro e w' ⟨rfl, rfl⟩))
 all_goals
  go_ret
  refine ⟨ret_bool ?_, (Ext.refl _).alloc _⟩
  first | (simp [ringOk, *] <;> omega) | (have h2 := isPrime_ge (n := p) ‹_›; simp [ringOk, *] <;> omega)
def ringWidth (k n : Int) : Int := if k = 7 then n else if k = 8 then 4 else 1
theorem rawWidth_any (k p n : Int) (w : World) : Calls Tryz.prog 65 #[ringV k p n] w fun e w' =>
 e = .returned (.int .i64 (ringWidth k n)) ∧ Ext w w' := by
 have hk : k = 7 ∨ k = 8 ∨ (¬ k = 7 ∧ ¬ k = 8) := by omega
 rcases hk with rfl | rfl | ⟨e7, e8⟩
 all_goals
  go_enter Tryz.func65, Tryz.ntmps65
  go_wp2
  go_ret
  exact ⟨ret_int (by simp [ringWidth, *]), (by repeat' (first | (with_reducible first | exact Ext.refl _ | assumption | apply Ext.alloc | apply Ext.drew | apply Ext.drewN) | (refine Ext.setAt ?_ (by omega) _ _) | (refine Ext.trans ?_ (by assumption))))⟩
theorem l02Width_any (k p n : Int) (w : World) : Calls Tryz.prog 114 #[ringV k p n] w fun e w' =>
 e = .returned (.int .i64 (ringWidth k n)) ∧ Ext w w' := by
 have hk : k = 7 ∨ k = 8 ∨ (¬ k = 7 ∧ ¬ k = 8) := by omega
 rcases hk with rfl | rfl | ⟨e7, e8⟩
 all_goals
  go_enter Tryz.func114, Tryz.ntmps114
  go_wp2
  go_ret
  exact ⟨ret_int (by simp [ringWidth, *]), (by repeat' (first | (with_reducible first | exact Ext.refl _ | assumption | apply Ext.alloc | apply Ext.drew | apply Ext.drewN) | (refine Ext.setAt ?_ (by omega) _ _) | (refine Ext.trans ?_ (by assumption))))⟩
def ringTop (k p n : Int) : Int := if k = 1 then 1 else if k = 3 ∨ k = 4 ∨ k = 5 then p else if k = 6 then 2 ^ n.toNat - 1 else p - 1
theorem pow_small (n : Nat) (h : n ≤ 20) : 1 ≤ (2 : Int) ^ n ∧ (2 : Int) ^ n ≤ 1048576 := by
  have h1 : (2 : Nat) ^ n ≤ 2 ^ 20 := Nat.pow_le_pow_right (by omega) h
  have h2 : 0 < (2 : Nat) ^ n := Nat.pow_pos (by omega)
  have h3 : ((2 ^ n : Nat) : Int) = (2 : Int) ^ n := by simp
  rw [← h3]
  omega
theorem pow_wrap (n : Nat) (h : n ≤ 20) : wrap64 (wrap64 (2 ^ n) - 1) = 2 ^ n - 1 := by
  have := pow_small n h
  have e : wrap64 (2 ^ n) = 2 ^ n := IntWalk.wrap64_in _ (by omega)
  rw [e]
  exact IntWalk.wrap64_in _ (by omega)
structure RingFit (k p n : Int) : Prop where
  six : k = 6 → 1 ≤ n ∧ n ≤ 20
  lo : -9223372036854775808 < p
  hi : p ≤ 9223372036854775807
theorem ringOk_fit {k p n : Int} (h : ringOk k p n = true) : RingFit k p n := by
  rcases kinds k with rfl | rfl | rfl | rfl | rfl | rfl | rfl | rfl | ⟨e1, e2, e3, e4, e5, e6, e7, e8⟩
  all_goals simp [ringOk, *] at h
  · exact ⟨by omega, by omega, by omega⟩
  · have := isPrime_ge h.1; have := isPrime_le h.1; exact ⟨by omega, by omega, by omega⟩
  · exact ⟨by omega, by omega, by omega⟩
  · exact ⟨by omega, by omega, by omega⟩
  · exact ⟨by omega, by omega, by omega⟩
  · exact ⟨by omega, by omega, by omega⟩
  · have := isPrime_ge h.1.1; have := isPrime_le h.1.1; exact ⟨by omega, by omega, by omega⟩
  · have := isPrime_ge h.1.1; have := isPrime_le h.1.1; exact ⟨by omega, by omega, by omega⟩
theorem ringTop_le {k p n : Int} (h : RingFit k p n) : ringTop k p n ≤ 9223372036854775807 := by
  have := h.lo; have := h.hi
  unfold ringTop
  split
  · omega
  · split
    · omega
    · split
      · have := pow_small n.toNat (by have := h.six (by assumption); omega); omega
      · omega
theorem rawTop_any (k p n : Int) (h : RingFit k p n) (w : World) : Calls Tryz.prog 88 #[ringV k p n] w fun e w' =>
 e = .returned (.int .i64 (ringTop k p n)) ∧ Ext w w' := by
 obtain ⟨h6, hp, hp2⟩ := h
 by_cases e6 : k = 6
 · subst e6
   obtain ⟨g1, g2⟩ := h6 rfl
   clear h6
   go_enter Tryz.func88, Tryz.ntmps88
   go_wp2
   go_ret
   exact ⟨ret_int ((pow_wrap n.toNat (by omega)).trans (by simp [ringTop])), (by repeat' (first | (with_reducible first | exact Ext.refl _ | assumption | apply Ext.alloc | apply Ext.drew | apply Ext.drewN) | (refine Ext.setAt ?_ (by omega) _ _) | (refine Ext.trans ?_ (by assumption))))⟩
 clear h6
 have hk : k = 1 ∨ k = 3 ∨ k = 4 ∨ k = 5 ∨ (¬ k = 1 ∧ ¬ k = 3 ∧ ¬ k = 4 ∧ ¬ k = 5) := by omega
 rcases hk with rfl | rfl | rfl | rfl | ⟨e1, e3, e4, e5⟩
 all_goals
  go_enter Tryz.func88, Tryz.ntmps88
  go_wp2
  go_ret
  exact ⟨ret_int (by simp [ringTop, *]), (by repeat' (first | (with_reducible first | exact Ext.refl _ | assumption | apply Ext.alloc | apply Ext.drew | apply Ext.drewN) | (refine Ext.setAt ?_ (by omega) _ _) | (refine Ext.trans ?_ (by assumption))))⟩
theorem l02Top_any (k p n : Int) (h : RingFit k p n) (w : World) : Calls Tryz.prog 115 #[ringV k p n] w fun e w' =>
 e = .returned (.int .i64 (ringTop k p n)) ∧ Ext w w' := by
 obtain ⟨h6, hp, hp2⟩ := h
 by_cases e6 : k = 6
 · subst e6
   obtain ⟨g1, g2⟩ := h6 rfl
   clear h6
   go_enter Tryz.func115, Tryz.ntmps115
   go_wp2
   go_ret
   exact ⟨ret_int ((pow_wrap n.toNat (by omega)).trans (by simp [ringTop])), (by repeat' (first | (with_reducible first | exact Ext.refl _ | assumption | apply Ext.alloc | apply Ext.drew | apply Ext.drewN) | (refine Ext.setAt ?_ (by omega) _ _) | (refine Ext.trans ?_ (by assumption))))⟩
 clear h6
 have hk : k = 1 ∨ k = 3 ∨ k = 4 ∨ k = 5 ∨ (¬ k = 1 ∧ ¬ k = 3 ∧ ¬ k = 4 ∧ ¬ k = 5) := by omega
 rcases hk with rfl | rfl | rfl | rfl | ⟨e1, e3, e4, e5⟩
 all_goals
  go_enter Tryz.func115, Tryz.ntmps115
  go_wp2
  go_ret
  exact ⟨ret_int (by simp [ringTop, *]), (by repeat' (first | (with_reducible first | exact Ext.refl _ | assumption | apply Ext.alloc | apply Ext.drew | apply Ext.drewN) | (refine Ext.setAt ?_ (by omega) _ _) | (refine Ext.trans ?_ (by assumption))))⟩
def allTo (top : Int) (l : List Int) : Bool := l.all fun v => decide (0 ≤ v) && decide (v ≤ top)
theorem allTo_nil (top : Int) : allTo top [] = true := rfl
theorem allTo_cons (top v : Int) (l : List Int) : allTo top (v :: l) = (decide (0 ≤ v) && decide (v ≤ top) && allTo top l) := rfl
theorem allTo_in {top v : Int} {l : List Int} (h1 : 0 ≤ v) (h2 : v ≤ top) : allTo top (v :: l) = allTo top l := by simp [allTo_cons, h1, h2]
theorem allTo_out {top v : Int} {l : List Int} (h : v < 0 ∨ top < v) : allTo top (v :: l) = false := by
  rw [allTo_cons]
  rcases h with h | h
  · have : ¬ 0 ≤ v := by omega
    simp [this]
  · have : ¬ v ≤ top := by omega
    simp [this]
theorem inRing_any (k p n : Int) (h : RingFit k p n) (v : Value) (l : List Int) (w : World) (hl : IntS w v l) : Calls Tryz.prog 66 #[ringV k p n, v] w fun e w' =>
 e = .returned (.bool (allTo (ringTop k p n) l)) ∧ Ext w w' := by
 obtain ⟨a, cap, rfl, hc1, hc2⟩ := hl.val
 go_enter Tryz.func66, Tryz.ntmps66
 go_wp2_with (go_at_call 88; refine (rawTop_any _ _ _ h _).mono ?_; rintro e1 w1 ⟨rfl, h1⟩)
 have hl1 := hl.ext (show Ext w w1 from (by repeat' (first | (with_reducible first | exact Ext.refl _ | assumption | apply Ext.alloc | apply Ext.drew | apply Ext.drewN) | (refine Ext.setAt ?_ (by omega) _ _) | (refine Ext.trans ?_ (by assumption)))))
 have ht := ringTop_le h
 go_loop [12] (fun i => ∃ j : Nat, j ≤ l.length ∧ allTo (ringTop k p n) (l.drop j) = allTo (ringTop k p n) l ∧ i = .int .i64 j) (fun i => l.length - (RowKit.intOf i).toNat)
 case atStart => exact ⟨0, Nat.zero_le _, rfl, rfl⟩
 case round =>
  obtain ⟨j, hj, ha, rfl⟩ := hrel
  have HA := Lib.hid ha; clear ha
  by_cases hlt : j < l.length
  · obtain ⟨b, off, x, rfl, hcell, _, hd⟩ := hl1.get hlt
    have HD := Lib.hid hd; clear hd
    by_cases g0 : x < 0
    · go_wp2
      go_ret
      exact ⟨ret_bool (by rw [← HA.out, HD.out, allTo_out (.inl g0)]), (by repeat' (first | (with_reducible first | exact Ext.refl _ | assumption | apply Ext.alloc | apply Ext.drew | apply Ext.drewN) | (refine Ext.setAt ?_ (by omega) _ _) | (refine Ext.trans ?_ (by assumption))))⟩
    by_cases g1 : ringTop k p n < x
    · go_wp2
      go_ret
      exact ⟨ret_bool (by rw [← HA.out, HD.out, allTo_out (.inr g1)]), (by repeat' (first | (with_reducible first | exact Ext.refl _ | assumption | apply Ext.alloc | apply Ext.drew | apply Ext.drewN) | (refine Ext.setAt ?_ (by omega) _ _) | (refine Ext.trans ?_ (by assumption))))⟩
    · go_wp2
      go_round
      case rel => exact ⟨j + 1, by omega, by rw [← HA.out, HD.out, allTo_in (by omega) (by omega)], by go_num⟩
      case measure => simp [RowKit.intOf]; omega
  · have : j = l.length := by omega
    subst this
    go_wp2
    go_ret
    exact ⟨ret_bool (by rw [← HA.out, drop_len, allTo_nil]), (by repeat' (first | (with_reducible first | exact Ext.refl _ | assumption | apply Ext.alloc | apply Ext.drew | apply Ext.drewN) | (refine Ext.setAt ?_ (by omega) _ _) | (refine Ext.trans ?_ (by assumption))))⟩
def elemOk (k p n : Int) (l : List Int) : Bool := ringOk k p n && ((l.length : Int) == ringWidth k n) && allTo (ringTop k p n) l
def rawOk (k p n : Int) (l : List Int) : Bool := ((l.length : Int) == ringWidth k n) && allTo (ringTop k p n) l
theorem elemOk_no {k p n : Int} {l : List Int} (h : ringOk k p n = false) : elemOk k p n l = false := by simp [elemOk, h]
theorem elemOk_yes {k p n : Int} {l : List Int} (h : ringOk k p n = true) : elemOk k p n l = rawOk k p n l := by simp [elemOk, rawOk, h]
theorem rawOk_len {k p n : Int} {l : List Int} (h : ((l.length : Int) == ringWidth k n) = true) : rawOk k p n l = allTo (ringTop k p n) l := by simp [rawOk, h]
theorem rawOk_nolen {k p n : Int} {l : List Int} (h : ((l.length : Int) == ringWidth k n) = false) : rawOk k p n l = false := by simp [rawOk, h]
set_option maxHeartbeats 400000 in
theorem elemOk_impl (k p n : Int) (v : Value) (l : List Int) (w : World) (hl : IntS w v l) : Calls Tryz.prog 85 #[ringV k p n, v] w fun e w' =>
 e = .returned (.bool (elemOk k p n l)) ∧ Ext w w' := by
 obtain ⟨a, cap, hv, hc1, hc2⟩ := hl.val
 cases hr : ringOk k p n
 · have HF := Lib.hid (elemOk_no (l := l) hr)
   subst hv
   go_enter Tryz.func85, Tryz.ntmps85
   go_wp2_with (go_at_call 28; refine (ringOk_impl _ _ _ _).mono ?_; rintro e1 w1 ⟨rfl, h1⟩; have s1 := h1.size; (try simp at s1); have t1_0 : w.heap.size < w1.heap.size := (by omega); have c1_0 := fun o => h1.cells (w.heap.size) o (by first | (simp; done) | (simp; omega) | omega))
   go_ret
   exact ⟨ret_bool HF.out.symm, (by repeat' (first | (with_reducible first | exact Ext.refl _ | assumption | apply Ext.alloc | apply Ext.drew | apply Ext.drewN) | (refine Ext.setAt ?_ (by omega) _ _) | (refine Ext.trans ?_ (by assumption))))⟩
 · have HY := Lib.hid (elemOk_yes (l := l) hr)
   have hf := ringOk_fit hr
   cases hw : ((l.length : Int) == ringWidth k n)
   · have HF := Lib.hid (HY.out.trans (rawOk_nolen (p := p) hw))
     subst hv
     go_enter Tryz.func85, Tryz.ntmps85
     go_wp2_with (first | (go_at_call 28; refine (ringOk_impl _ _ _ _).mono ?_; rintro e1 w1 ⟨rfl, h1⟩; have s1 := h1.size; (try simp at s1); have t1_0 : w.heap.size < w1.heap.size := (by omega); have c1_0 := fun o => h1.cells (w.heap.size) o (by first | (simp; done) | (simp; omega) | omega)) | (go_at_call 65; refine (rawWidth_any _ _ _ _).mono ?_; rintro e2 w2 ⟨rfl, h2⟩; have s2 := h2.size; (try simp at s2); have t2_0 : w.heap.size < w2.heap.size := (by omega); have c2_0 := fun o => h2.cells (w.heap.size) o (by first | (simp; done) | (simp; omega) | omega)))
     go_ret
     exact ⟨ret_bool HF.out.symm, (by repeat' (first | (with_reducible first | exact Ext.refl _ | assumption | apply Ext.alloc | apply Ext.drew | apply Ext.drewN) | (refine Ext.setAt ?_ (by omega) _ _) | (refine Ext.trans ?_ (by assumption))))⟩
   · have HF := Lib.hid (HY.out.trans (rawOk_len (p := p) hw))
     subst hv
     go_enter Tryz.func85, Tryz.ntmps85
     go_wp2_with (first | (go_at_call 28; refine (ringOk_impl _ _ _ _).mono ?_; rintro e1 w1 ⟨rfl, h1⟩; have s1 := h1.size; (try simp at s1); have t1_0 : w.heap.size < w1.heap.size := (by omega); have c1_0 := fun o => h1.cells (w.heap.size) o (by first | (simp; done) | (simp; omega) | omega)) | (go_at_call 65; refine (rawWidth_any _ _ _ _).mono ?_; rintro e2 w2 ⟨rfl, h2⟩; have s2 := h2.size; (try simp at s2); have t2_0 : w.heap.size < w2.heap.size := (by omega); have c2_0 := fun o => h2.cells (w.heap.size) o (by first | (simp; done) | (simp; omega) | omega)) | (go_at_call 66; refine (inRing_any _ _ _ hf _ _ _ (hl.ext (by repeat' (first | (with_reducible first | exact Ext.refl _ | assumption | apply Ext.alloc | apply Ext.drew | apply Ext.drewN) | (refine Ext.setAt ?_ (by omega) _ _) | (refine Ext.trans ?_ (by assumption)))))).mono ?_; rintro e3 w3 ⟨rfl, h3⟩; have s3 := h3.size; (try simp at s3); have t3_0 : w.heap.size < w3.heap.size := (by omega); have c3_0 := fun o => h3.cells (w.heap.size) o (by first | (simp; done) | (simp; omega) | omega)))
     go_ret
     exact ⟨ret_bool HF.out.symm, (by repeat' (first | (with_reducible first | exact Ext.refl _ | assumption | apply Ext.alloc | apply Ext.drew | apply Ext.drewN) | (refine Ext.setAt ?_ (by omega) _ _) | (refine Ext.trans ?_ (by assumption))))⟩
theorem rawOk_out {k p n : Int} {l : List Int} (h : allTo (ringTop k p n) l = false) : rawOk k p n l = false := by simp [rawOk, h]
theorem rawOk_all {k p n : Int} {l : List Int} (h : allTo (ringTop k p n) l = true) : rawOk k p n l = ((l.length : Int) == ringWidth k n) := by simp [rawOk, h]
set_option maxHeartbeats 400000 in
theorem l02Elem_any (k p n : Int) (h : RingFit k p n) (v : Value) (l : List Int) (w : World) (hl : IntS w v l) : Calls Tryz.prog 113 #[ringV k p n, v] w fun e w' =>
 e = .returned (.bool (rawOk k p n l)) ∧ Ext w w' := by
 obtain ⟨a, cap, rfl, hc1, hc2⟩ := hl.val
 go_enter Tryz.func113, Tryz.ntmps113
 go_wp2
 go_loopw [9] (fun i wr => ∃ j : Nat, j ≤ l.length ∧ i = .int .i64 j ∧ allTo (ringTop k p n) (l.drop j) = allTo (ringTop k p n) l ∧ Ext (w.alloc (.cells #[.int .i64 k, .int .i64 p, .int .i64 n] 24)) wr) (fun i _ => l.length - (RowKit.intOf i).toNat)
 case atStart => exact ⟨0, Nat.zero_le _, rfl, rfl, Ext.refl _⟩
 case round =>
  obtain ⟨j, hj, rfl, ha, hE⟩ := hrel
  have HA := Lib.hid ha; clear ha
  have h0 : Ext w wr := (Ext.alloc (Ext.refl w) _).trans hE
  have c0 := fun o => hE.cells w.heap.size o (by simp)
  have s0 := hE.size
  simp at s0
  by_cases hlt : j < l.length
  · obtain ⟨b, off, x, rfl, hcell, _, hd⟩ := (hl.ext h0).get hlt
    have HD := Lib.hid hd; clear hd
    by_cases g0 : x < 0
    · have hb : decide (0 ≤ x) = false := by simpa using g0
      go_wp2_with (first | (go_at_call 115; refine (l02Top_any _ _ _ h _).mono ?_; rintro e1 w1 ⟨rfl, h1⟩; have s1 := h1.size; (try simp at s1); have t1_0 : w.heap.size < w1.heap.size := (by omega); have c1_0 := fun o => h1.cells (w.heap.size) o (by first | (simp; done) | (simp; omega) | omega)) | (go_at_call 70; refine (in_any _ _ _ _).mono ?_; rintro e2 w2 ⟨rfl, rfl⟩))
      go_ret
      exact ⟨ret_bool (by rw [rawOk_out]; rw [← HA.out, HD.out, allTo_out (.inl g0)]), (by repeat' (first | (with_reducible first | exact Ext.refl _ | assumption | apply Ext.alloc | apply Ext.drew | apply Ext.drewN) | (refine Ext.setAt ?_ (by omega) _ _) | (refine Ext.trans ?_ (by assumption))))⟩
    by_cases g1 : ringTop k p n < x
    · have hb : decide (x ≤ ringTop k p n) = false := by simpa using g1
      go_wp2_with (first | (go_at_call 115; refine (l02Top_any _ _ _ h _).mono ?_; rintro e1 w1 ⟨rfl, h1⟩; have s1 := h1.size; (try simp at s1); have t1_0 : w.heap.size < w1.heap.size := (by omega); have c1_0 := fun o => h1.cells (w.heap.size) o (by first | (simp; done) | (simp; omega) | omega)) | (go_at_call 70; refine (in_any _ _ _ _).mono ?_; rintro e2 w2 ⟨rfl, rfl⟩))
      go_ret
      exact ⟨ret_bool (by rw [rawOk_out]; rw [← HA.out, HD.out, allTo_out (.inr g1)]), (by repeat' (first | (with_reducible first | exact Ext.refl _ | assumption | apply Ext.alloc | apply Ext.drew | apply Ext.drewN) | (refine Ext.setAt ?_ (by omega) _ _) | (refine Ext.trans ?_ (by assumption))))⟩
    · have hb : decide (x ≤ ringTop k p n) = true := by simpa using g1
      go_wp2_with (first | (go_at_call 115; refine (l02Top_any _ _ _ h _).mono ?_; rintro e1 w1 ⟨rfl, h1⟩; have s1 := h1.size; (try simp at s1); have t1_0 : w.heap.size < w1.heap.size := (by omega); have c1_0 := fun o => h1.cells (w.heap.size) o (by first | (simp; done) | (simp; omega) | omega)) | (go_at_call 70; refine (in_any _ _ _ _).mono ?_; rintro e2 w2 ⟨rfl, rfl⟩))
      go_roundw
      case rel => exact ⟨j + 1, by omega, by go_num, by rw [← HA.out, HD.out, allTo_in (by omega) (by omega)], (by repeat' (first | (with_reducible first | exact Ext.refl _ | assumption | apply Ext.alloc | apply Ext.drew | apply Ext.drewN) | (refine Ext.setAt ?_ (by omega) _ _) | (refine Ext.trans ?_ (by assumption))))⟩
      case measure => simp [RowKit.intOf]; omega
  · have : j = l.length := by omega
    subst this
    go_wp2_with (go_at_call 114; refine (l02Width_any _ _ _ _).mono ?_; rintro e1 w1 ⟨rfl, h1⟩; have s1 := h1.size; (try simp at s1); have t1_0 : w.heap.size < w1.heap.size := (by omega); have c1_0 := fun o => h1.cells (w.heap.size) o (by first | (simp; done) | (simp; omega) | omega))
    go_ret
    exact ⟨ret_bool (by rw [rawOk_all]; rw [← HA.out, drop_len, allTo_nil]), (by repeat' (first | (with_reducible first | exact Ext.refl _ | assumption | apply Ext.alloc | apply Ext.drew | apply Ext.drewN) | (refine Ext.setAt ?_ (by omega) _ _) | (refine Ext.trans ?_ (by assumption))))⟩
set_option maxHeartbeats 400000 in
theorem elemOk_spec (k p n : Int) (v : Value) (l : List Int) (w : World) (hl : IntS w v l) : Calls Tryz.prog 91 #[ringV k p n, v] w fun e w' =>
 e = .returned (.bool (elemOk k p n l)) ∧ Ext w w' := by
 obtain ⟨a, cap, hv, hc1, hc2⟩ := hl.val
 cases hr : ringOk k p n
 · have HF := Lib.hid (elemOk_no (l := l) hr)
   subst hv
   go_enter Tryz.func91, Tryz.ntmps91
   go_wp2_with (go_at_call 89; refine (ringOk_spec _ _ _ _).mono ?_; rintro e1 w1 ⟨rfl, h1⟩; have s1 := h1.size; (try simp at s1); have t1_0 : w.heap.size < w1.heap.size := (by omega); have c1_0 := fun o => h1.cells (w.heap.size) o (by first | (simp; done) | (simp; omega) | omega))
   go_ret
   exact ⟨ret_bool HF.out.symm, (by repeat' (first | (with_reducible first | exact Ext.refl _ | assumption | apply Ext.alloc | apply Ext.drew | apply Ext.drewN) | (refine Ext.setAt ?_ (by omega) _ _) | (refine Ext.trans ?_ (by assumption))))⟩
 · have HF := Lib.hid (elemOk_yes (l := l) hr)
   have hf := ringOk_fit hr
   subst hv
   go_enter Tryz.func91, Tryz.ntmps91
   go_wp2_with (first | (go_at_call 89; refine (ringOk_spec _ _ _ _).mono ?_; rintro e1 w1 ⟨rfl, h1⟩; have s1 := h1.size; (try simp at s1); have t1_0 : w.heap.size < w1.heap.size := (by omega); have c1_0 := fun o => h1.cells (w.heap.size) o (by first | (simp; done) | (simp; omega) | omega)) | (go_at_call 113; refine (l02Elem_any _ _ _ hf _ _ _ (hl.ext (by repeat' (first | (with_reducible first | exact Ext.refl _ | assumption | apply Ext.alloc | apply Ext.drew | apply Ext.drewN) | (refine Ext.setAt ?_ (by omega) _ _) | (refine Ext.trans ?_ (by assumption)))))).mono ?_; rintro e3 w3 ⟨rfl, h3⟩; have s3 := h3.size; (try simp at s3); have t3_0 : w.heap.size < w3.heap.size := (by omega); have c3_0 := fun o => h3.cells (w.heap.size) o (by first | (simp; done) | (simp; omega) | omega)))
   go_ret
   exact ⟨ret_bool HF.out.symm, (by repeat' (first | (with_reducible first | exact Ext.refl _ | assumption | apply Ext.alloc | apply Ext.drew | apply Ext.drewN) | (refine Ext.setAt ?_ (by omega) _ _) | (refine Ext.trans ?_ (by assumption))))⟩
structure RingWide (k n : Int) : Prop where
  lo : 1 ≤ ringWidth k n
  hi : ringWidth k n ≤ 6
theorem ringOk_wide {k p n : Int} (h : ringOk k p n = true) : RingWide k n := by
  rcases kinds k with rfl | rfl | rfl | rfl | rfl | rfl | rfl | rfl | ⟨e1, e2, e3, e4, e5, e6, e7, e8⟩
  all_goals simp [ringOk, *] at h
  all_goals constructor
  all_goals simp [ringWidth]
  · exact h.1.2
  · exact h.2
theorem RowsS.len {w : World} {v : Value} {ll : List (List Int)} (h : RowsS w v ll) : True := trivial
structure Turn (lo hi : Nat) (w w' : World) : Prop where
  os : w'.os = w.os
  tape : w'.tape = w.tape
  output : w'.output = w.output
  size : w.heap.size ≤ w'.heap.size
  block : ∀ k, k < w.heap.size → (k < lo ∨ hi ≤ k) → w'.heap[k]? = w.heap[k]?
theorem Turn.trans {lo hi : Nat} {a b c : World} (h : Turn lo hi a b) (k : Turn lo hi b c) : Turn lo hi a c :=
  ⟨k.os.trans h.os, k.tape.trans h.tape, k.output.trans h.output, Nat.le_trans h.size k.size, fun i hi ho => (k.block i (Nat.lt_of_lt_of_le hi h.size) ho).trans (h.block i hi ho)⟩
structure TenS (w : World) (v : Value) (L D X : List Int) : Prop where
  val : ∃ a b c, v = .agg #[a, b, c] ∧ IntS w a L ∧ IntS w b D ∧ IntS w c X
theorem TenS.ext {w w' : World} {v : Value} {L D X : List Int} (h : TenS w v L D X) (e : Ext w w') : TenS w' v L D X := by
  obtain ⟨a, b, c, rfl, h1, h2, h3⟩ := h.val
  exact ⟨a, b, c, rfl, h1.ext e, h2.ext e, h3.ext e⟩
structure OwnT (w : World) (B : Nat) (v : Value) (L D X : List Int) : Prop where
  val : ∃ a b c, v = .agg #[a, b, c] ∧ OwnI w B a L ∧ OwnI w B b D ∧ OwnI w B c X ∧ (∀ k, a.ownBlock = some k → b.ownBlock ≠ some k ∧ c.ownBlock ≠ some k) ∧ (∀ k, b.ownBlock = some k → c.ownBlock ≠ some k)
theorem OwnT.mono {w : World} {B B' : Nat} {v : Value} {L D X : List Int} (h : OwnT w B v L D X) (e : B' ≤ B) : OwnT w B' v L D X := by
  obtain ⟨a, b, c, rfl, h1, h2, h3, h4⟩ := h.val
  exact ⟨a, b, c, rfl, h1.mono e, h2.mono e, h3.mono e, h4⟩
theorem OwnT.tens {w : World} {B : Nat} {v : Value} {L D X : List Int} (h : OwnT w B v L D X) : TenS w v L D X := by
  obtain ⟨a, b, c, rfl, h1, h2, h3, h4⟩ := h.val
  exact ⟨a, b, c, rfl, h1.ints, h2.ints, h3.ints⟩
theorem OwnT.empty (w : World) (B : Nat) : OwnT w B (.agg #[.slice none 0 0, .slice none 0 0, .slice none 0 0]) [] [] [] :=
  ⟨_, _, _, rfl, OwnI.nil _ _, OwnI.nil _ _, OwnI.nil _ _, by simp [Value.ownBlock], by simp [Value.ownBlock]⟩
theorem OwnT.data {w : World} {B : Nat} {v : Value} {X : List Int} (h : OwnI w B v X) : OwnT w B (.agg #[.slice none 0 0, .slice none 0 0, v]) [] [] X :=
  ⟨_, _, _, rfl, OwnI.nil _ _, OwnI.nil _ _, h, by simp [Value.ownBlock], by simp [Value.ownBlock]⟩
theorem TenS.shape {w : World} {v : Value} {L D X : List Int} (h : TenS w v L D X) : ∃ p1 n1 c1 p2 n2 c2 p3 n3 c3, v = .agg #[.slice p1 n1 c1, .slice p2 n2 c2, .slice p3 n3 c3] := by
  obtain ⟨a, b, c, rfl, h1, h2, h3⟩ := h.val
  obtain ⟨x1, y1, rfl, _, _⟩ := h1.val
  obtain ⟨x2, y2, rfl, _, _⟩ := h2.val
  obtain ⟨x3, y3, rfl, _, _⟩ := h3.val
  exact ⟨_, _, _, _, _, _, _, _, _, rfl⟩
theorem OwnT.shape {w : World} {B : Nat} {v : Value} {L D X : List Int} (h : OwnT w B v L D X) : ∃ p1 n1 c1 p2 n2 c2 p3 n3 c3, v = .agg #[.slice p1 n1 c1, .slice p2 n2 c2, .slice p3 n3 c3] := h.tens.shape
theorem Turn.cells {lo hi : Nat} {w w' : World} (t : Turn lo hi w w') (b o : Nat) (h : b < w.heap.size) (h2 : b < lo ∨ hi ≤ b) : w'.cell? ⟨b, o, none⟩ = w.cell? ⟨b, o, none⟩ := by
  unfold World.cell?; rw [t.block b h h2]
theorem eqTensor_any (v u : Value) (L D X : List Int) (w : World) (hl : TenS w v L D X) (hm : TenS w u L D X) : Calls Tryz.prog 76 #[v, u] w fun e w' =>
 e = .returned (.bool true) ∧ Ext w w' := by
 obtain ⟨a, b, c, rfl, h1, h2, h3⟩ := hl.val
 obtain ⟨a', b', c', rfl, g1, g2, g3⟩ := hm.val
 obtain ⟨x1, y1, rfl, _, _⟩ := h1.val
 obtain ⟨x2, y2, rfl, _, _⟩ := h2.val
 obtain ⟨x3, y3, rfl, _, _⟩ := h3.val
 obtain ⟨z1, u1, rfl, _, _⟩ := g1.val
 obtain ⟨z2, u2, rfl, _, _⟩ := g2.val
 obtain ⟨z3, u3, rfl, _, _⟩ := g3.val
 have q1 : (L == L) = true := by simp
 have q2 : (D == D) = true := by simp
 have q3 : (X == X) = true := by simp
 go_enter Tryz.func76, Tryz.ntmps76
 go_wp2_with fail
 refine (eqIntS_any _ _ L L _ (h1.ext (by repeat' (first | (with_reducible first | exact Ext.refl _ | assumption | apply Ext.alloc | apply Ext.drew | apply Ext.drewN) | (refine Ext.setAt ?_ (by omega) _ _) | (refine Ext.trans ?_ (by assumption))))) (g1.ext (by repeat' (first | (with_reducible first | exact Ext.refl _ | assumption | apply Ext.alloc | apply Ext.drew | apply Ext.drewN) | (refine Ext.setAt ?_ (by omega) _ _) | (refine Ext.trans ?_ (by assumption)))))).mono ?_; rintro e1 w1 ⟨rfl, h1⟩; have s1 := h1.size; (try simp at s1); have t1_0 : w.heap.size < w1.heap.size := (by omega); have c1_0 := fun o => h1.cells (w.heap.size) o (by first | (simp; done) | (simp; omega) | omega); have t1_1 : w.heap.size + 1 < w1.heap.size := (by omega); have c1_1 := fun o => h1.cells (w.heap.size + 1) o (by first | (simp; done) | (simp; omega) | omega); go_wp2_with fail
 refine (eqIntS_any _ _ D D _ (h2.ext (by repeat' (first | (with_reducible first | exact Ext.refl _ | assumption | apply Ext.alloc | apply Ext.drew | apply Ext.drewN) | (refine Ext.setAt ?_ (by omega) _ _) | (refine Ext.trans ?_ (by assumption))))) (g2.ext (by repeat' (first | (with_reducible first | exact Ext.refl _ | assumption | apply Ext.alloc | apply Ext.drew | apply Ext.drewN) | (refine Ext.setAt ?_ (by omega) _ _) | (refine Ext.trans ?_ (by assumption)))))).mono ?_; rintro e2 w2 ⟨rfl, h2⟩; have s2 := h2.size; (try simp at s2); have t2_0 : w.heap.size < w2.heap.size := (by omega); have c2_0 := fun o => h2.cells (w.heap.size) o (by first | (simp; done) | (simp; omega) | omega); have t2_1 : w.heap.size + 1 < w2.heap.size := (by omega); have c2_1 := fun o => h2.cells (w.heap.size + 1) o (by first | (simp; done) | (simp; omega) | omega); go_wp2_with fail
 refine (eqIntS_any _ _ X X _ (h3.ext (by repeat' (first | (with_reducible first | exact Ext.refl _ | assumption | apply Ext.alloc | apply Ext.drew | apply Ext.drewN) | (refine Ext.setAt ?_ (by omega) _ _) | (refine Ext.trans ?_ (by assumption))))) (g3.ext (by repeat' (first | (with_reducible first | exact Ext.refl _ | assumption | apply Ext.alloc | apply Ext.drew | apply Ext.drewN) | (refine Ext.setAt ?_ (by omega) _ _) | (refine Ext.trans ?_ (by assumption)))))).mono ?_; rintro e3 w3 ⟨rfl, h3⟩; have s3 := h3.size; (try simp at s3); have t3_0 : w.heap.size < w3.heap.size := (by omega); have c3_0 := fun o => h3.cells (w.heap.size) o (by first | (simp; done) | (simp; omega) | omega); have t3_1 : w.heap.size + 1 < w3.heap.size := (by omega); have c3_1 := fun o => h3.cells (w.heap.size + 1) o (by first | (simp; done) | (simp; omega) | omega); go_wp2_with fail
 go_ret
 exact ⟨rfl, (by repeat' (first | (with_reducible first | exact Ext.refl _ | assumption | apply Ext.alloc | apply Ext.drew | apply Ext.drewN) | (refine Ext.setAt ?_ (by omega) _ _) | (refine Ext.trans ?_ (by assumption))))⟩
def Small (x : List Int) : Prop := ∀ v ∈ x, 0 ≤ v ∧ v ≤ 1048576
theorem Small.get {x : List Int} (h : Small x) {i : Nat} {v : Int} (hv : x[i]? = some v) : 0 ≤ v ∧ v ≤ 1048576 := h v (List.mem_of_getElem? hv)
def cg (l : List Int) (i : Nat) : Int := l[i]?.getD 0
theorem beqF {a b : Nat} (h : a ≠ b) : (a == b) = false := by rw [beq_eq_false_iff_ne]; exact h
def updB (b : Nat → Bool) (i j : Nat) : Bool := bif j == i then true else b j
def updV (t : Nat → Value) (i : Nat) (v : Value) (j : Nat) : Value := bif j == i then v else t j
section
variable {P : Program} {ops : Array Oper} {Q : Exit → Act → World → Prop}
def putAll (a : Act) : Nat → List Oper → (Nat → Value) → Act
  | _, [], _ => a
  | i, o :: l, t => putAll (a.put o.dst (t i)) (i + 1) l t
def edge (l : List Oper) (j i : Nat) : Bool := match l[j]? with
  | some o => o.after.toList.any fun e => Region.binds .any e && Nat.beq e.on i
  | none => false
theorem edge_of {l : List Oper} {j : Nat} {o : Oper} {e : Edge} (h : l[j]? = some o) (he : e ∈ o.after.toList) (hb : Region.binds .any e = true) : edge l j e.on = true := by
  unfold edge
  rw [h]
  simp only [List.any_eq_true]
  exact ⟨e, he, by rw [hb, Nat.beq_refl]; rfl⟩
theorem edge_spec {l : List Oper} {j i : Nat} (h : edge l j i = true) : ∃ o e, l[j]? = some o ∧ e ∈ o.after.toList ∧ Region.binds .any e = true ∧ e.on = i := by
  unfold edge at h
  split at h
  · rename_i o ho
    simp only [List.any_eq_true, Bool.and_eq_true] at h
    obtain ⟨e, he, h1, h2⟩ := h
    exact ⟨o, e, ho, he, h1, Nat.eq_of_beq_eq_true h2⟩
  · cases h
def Closed (l : List Oper) (b : Nat → Bool) : Prop := ∀ j i, edge l j i = true → b j = true → b i = true
def StepOk (P : Program) (ops : Array Oper) (l0 : List Oper) (Q : Exit → Act → World → Prop) (F : (Nat → Value) → Act) (J : (Nat → Bool) → (Nat → Value) → World → Prop) (i : Nat) (o : Oper) : Prop :=
  ∀ b t w, J b t w → b i = false → Shut (∀ j, edge l0 i j = true → b j = true) → Shut (Closed l0 b) →
    ∀ K : Act → World → Prop, Shut (∀ a' v w', J (updB b i) (updV t i v) w' → a' = (F t).put o.dst v → K a' w') →
      if Region.wanted o (yielded ops (F t).tmps) = true then Oper.wp P o (F t) w K Q else K ((F t).put o.dst undef) w
def AllSteps (P : Program) (ops : Array Oper) (l0 : List Oper) (Q : Exit → Act → World → Prop) (F : (Nat → Value) → Act) (J : (Nat → Bool) → (Nat → Value) → World → Prop) : Nat → List Oper → Prop
  | _, [] => True
  | i, o :: l => StepOk P ops l0 Q F J i o ∧ AllSteps P ops l0 Q F J (i + 1) l
theorem AllSteps.nil {l0 : List Oper} {F : (Nat → Value) → Act} {J : (Nat → Bool) → (Nat → Value) → World → Prop} {i : Nat} : AllSteps P ops l0 Q F J i [] := trivial
theorem AllSteps.cons {l0 : List Oper} {F : (Nat → Value) → Act} {J : (Nat → Bool) → (Nat → Value) → World → Prop} {i j : Nat} {o : Oper} {l : List Oper} (hj : i + 1 = j) (h : StepOk P ops l0 Q F J i o) (hs : AllSteps P ops l0 Q F J j l) : AllSteps P ops l0 Q F J i (o :: l) := ⟨h, hj ▸ hs⟩
theorem AllSteps.get {l0 : List Oper} {F : (Nat → Value) → Act} {J : (Nat → Bool) → (Nat → Value) → World → Prop} : ∀ {l : List Oper} {i k : Nat} {o : Oper}, AllSteps P ops l0 Q F J i l → l[k]? = some o → StepOk P ops l0 Q F J (i + k) o
  | [], _, _, _, _, h => by simp at h
  | x :: l, i, 0, o, hs, h => by simp at h; subst h; exact hs.1
  | x :: l, i, k + 1, o, hs, h => by
    have := AllSteps.get hs.2 (k := k) (by simpa using h)
    rwa [show i + 1 + k = i + (k + 1) by omega] at this
def backGo (seen : List Tmp) : Nat → List Oper → Bool
  | _, [] => true
  | i, o :: l => (o.after.toList.all fun e => !Region.binds .any e || Nat.blt e.on i) && (match o.dst with | some d => !seen.contains d && backGo (d :: seen) (i + 1) l | none => backGo seen (i + 1) l)
theorem backGo.edge : ∀ {l : List Oper} {i k : Nat} {o : Oper} {seen : List Tmp} {e : Edge}, backGo seen i l = true → l[k]? = some o → e ∈ o.after.toList → Region.binds .any e = true → e.on < i + k
  | [], _, _, _, _, _, _, h, _, _ => by simp at h
  | x :: l, i, 0, o, seen, e, hs, h, he, hb => by
    simp at h; subst h
    simp only [backGo, Bool.and_eq_true, List.all_eq_true] at hs
    have := hs.1 e he
    simp [hb] at this
    simpa using this
  | x :: l, i, k + 1, o, seen, e, hs, h, he, hb => by
    simp only [backGo, Bool.and_eq_true] at hs
    have h2 : ∃ s, backGo s (i + 1) l = true := by
      have := hs.2
      split at this
      · simp at this; exact ⟨_, this.2⟩
      · exact ⟨_, this⟩
    obtain ⟨s, h2⟩ := h2
    have := backGo.edge h2 (k := k) (by simpa using h) he hb
    omega
theorem put_same (a : Act) (d : Option Tmp) (v : Value) (h : ∀ d', d = some d' → d' < a.tmps.size → a.tmps[d']? = some v) : a.put d v = a := by
  cases d with
  | none => rfl
  | some d =>
    unfold Act.put
    have : a.tmps.setIfInBounds d v = a.tmps := by
      apply Array.ext_getElem?
      intro i
      by_cases e : d = i
      · subst e
        by_cases hlt : d < a.tmps.size
        · rw [h d rfl hlt]; simp [hlt]
        · simp [Array.setIfInBounds, hlt]
      · rw [Array.getElem?_setIfInBounds_ne e]
    simp only [this]
def oldAt (a : Act) (l : List Oper) (i : Nat) : Value := match (l[i]?).bind (·.dst) with | some d => (a.tmps[d]?).getD undef | none => undef
theorem putAll_old (a : Act) (l0 : List Oper) : ∀ (l : List Oper) (i : Nat), (∀ k, l[k]? = l0[i + k]?) → putAll a i l (oldAt a l0) = a
  | [], _, _ => rfl
  | o :: l, i, h => by
    have e : a.put o.dst (oldAt a l0 i) = a := by
      apply put_same
      intro d hd hlt
      have h0 := h 0
      simp at h0
      unfold oldAt
      rw [← h0]
      simp [hd, hlt]
    unfold putAll
    rw [e]
    refine putAll_old a l0 l (i + 1) fun k => ?_
    have := h (k + 1)
    rw [show i + 1 + k = i + (k + 1) by omega, ← this]; simp
theorem put_comm' (a : Act) {x : Option Tmp} {d : Tmp} (v u : Value) (h : x ≠ some d) : (a.put x v).put (some d) u = (a.put (some d) u).put x v := by
  cases x with
  | none => rfl
  | some y => exact Act.put_comm a v u (fun z hz => by intro e; exact h (by rw [hz, ← e]))
theorem putAll_put : ∀ (l : List Oper) (a : Act) (i : Nat) (t : Nat → Value) (d : Tmp) (v : Value), (∀ o ∈ l, o.dst ≠ some d) → (putAll a i l t).put (some d) v = putAll (a.put (some d) v) i l t
  | [], _, _, _, _, _, _ => rfl
  | o :: l, a, i, t, d, v, h => by
    unfold putAll
    rw [putAll_put l _ _ t d v (fun x hx => h x (by simp [hx])), put_comm' _ _ _ (h o (by simp))]
theorem putAll_congr : ∀ (l : List Oper) (a : Act) (i : Nat) (t u : Nat → Value), (∀ k, k < l.length → t (i + k) = u (i + k)) → putAll a i l t = putAll a i l u
  | [], _, _, _, _, _ => rfl
  | o :: l, a, i, t, u, h => by
    unfold putAll
    have h0 := h 0 (by simp)
    rw [Nat.add_zero] at h0
    rw [h0, putAll_congr l _ (i + 1) t u fun k hk => by have := h (k + 1) (by simp; omega); rwa [show i + 1 + k = i + (k + 1) by omega]]
theorem backGo.fresh : ∀ {l : List Oper} {i : Nat} {seen : List Tmp} {d : Tmp}, backGo seen i l = true → d ∈ seen → ∀ o ∈ l, o.dst ≠ some d
  | [], _, _, _, _, _, _, h => by simp at h
  | x :: l, i, seen, d, hs, hd, o, ho => by
    simp only [backGo, Bool.and_eq_true] at hs
    have h2 := hs.2
    cases hx : x.dst with
    | none =>
      rw [hx] at h2
      rcases List.mem_cons.1 ho with rfl | ho
      · rw [hx]; simp
      · exact backGo.fresh h2 hd o ho
    | some y =>
      rw [hx] at h2
      simp at h2
      rcases List.mem_cons.1 ho with rfl | ho
      · rw [hx]; intro e; cases e; exact h2.1 hd
      · exact backGo.fresh h2.2 (by simp [hd]) o ho
theorem putAll_upd : ∀ {l : List Oper} {a : Act} {i k : Nat} {t : Nat → Value} {v : Value} {o : Oper} {seen : List Tmp}, backGo seen i l = true → l[k]? = some o →
    (putAll a i l t).put o.dst v = putAll a i l (updV t (i + k) v)
  | [], _, _, _, _, _, _, _, _, h => by simp at h
  | x :: l, a, i, 0, t, v, o, seen, hs, h => by
    simp at h; subst h
    have hc : putAll (a.put x.dst (t i)) (i + 1) l (updV t i v) = putAll (a.put x.dst (t i)) (i + 1) l t := putAll_congr l _ _ _ _ fun k _ => by
      unfold updV
      have : (i + 1 + k == i) = false := beqF (by omega)
      rw [this]; rfl
    simp only [backGo, Bool.and_eq_true] at hs
    have h2 := hs.2
    unfold putAll
    simp only [Nat.add_zero]
    have hi : updV t i v i = v := by unfold updV; rw [beq_self_eq_true]; rfl
    rw [hi]
    cases hx : x.dst with
    | none =>
      rw [hx] at hc
      exact hc.symm
    | some d =>
      rw [hx] at h2 hc
      simp at h2
      have hfr := backGo.fresh h2.2 (d := d) (by simp)
      rw [← hc, putAll_put l _ _ _ _ _ hfr]
      congr 1
      simp [Act.put]
  | x :: l, a, i, k + 1, t, v, o, seen, hs, h => by
    have h2 : ∃ s, backGo s (i + 1) l = true := by
      simp only [backGo, Bool.and_eq_true] at hs
      have := hs.2
      split at this
      · simp at this; exact ⟨_, this.2⟩
      · exact ⟨_, this⟩
    obtain ⟨s, h2⟩ := h2
    have := putAll_upd h2 (a := a.put x.dst (t i)) (t := t) (v := v) (k := k) (by simpa using h)
    unfold putAll
    rw [this]
    have hi : updV t (i + (k + 1)) v i = t i := by
      unfold updV
      have : (i == i + (k + 1)) = false := beqF (by omega)
      rw [this]; rfl
    rw [hi, show i + 1 + k = i + (k + 1) by omega]
theorem all_listed {l : List Oper} {seen : List Tmp} {listed : Array Bool} (hb : backGo seen 0 l = true) (hz : listed.size = l.length) (hr : Region.ready .any l.toArray listed = []) :
    ∀ i, i < l.length → listed.getD i false = true := by
  intro i
  induction i using Nat.strongRecOn with
  | ind i ih =>
    intro hi
    by_cases h : listed.getD i false = true
    · exact h
    · exfalso
      have h' : listed.getD i true = false := by
        have : i < listed.size := by omega
        simp [this] at h ⊢
        exact h
      have : i ∈ Region.ready .any l.toArray listed := mem_ready.2 ⟨h', l[i], by simp [hi], fun e he hbe => by
        have hlt := backGo.edge hb (k := i) (o := l[i]) (by simp [hi]) (by simpa using he) hbe
        exact ih e.on (by omega) (by omega)⟩
      rw [hr] at this
      cases this
theorem wpAny_steps {l : List Oper} {a0 : Act} {J : (Nat → Bool) → (Nat → Value) → World → Prop} (hb : backGo [] 0 l = true)
    (hs : AllSteps P l.toArray l Q (putAll a0 0 l) J 0 l) (hend : ∀ b t w, J b t w → (∀ i, i < l.length → b i = true) → Q .normal (putAll a0 0 l t) w) :
    ∀ (fuel : Nat) (listed : Array Bool) (t : Nat → Value) (w : World), listed.size = l.length → (List.range l.length).countP (fun i => !listed.getD i true) ≤ fuel →
      Closed l (fun i => listed.getD i false) → J (fun i => listed.getD i false) t w → wpAny P .any l.toArray Q fuel listed (putAll a0 0 l t) w := by
  intro fuel
  induction fuel with
  | zero =>
    intro listed t w hz hf hcl hJ
    have hall : ∀ i, i < l.length → listed.getD i false = true := by
      intro i hi
      have h0 : (List.range l.length).countP (fun i => !listed.getD i true) = 0 := by omega
      rw [List.countP_eq_zero] at h0
      have := h0 i (by simp [hi])
      have hi2 : i < listed.size := by omega
      simp [hi2] at this ⊢
      exact this
    refine ⟨?_, hend _ t w hJ hall⟩
    unfold Region.ready
    rw [List.filter_eq_nil_iff]
    intro i hi
    have h1 := hall i (by simpa using hi)
    have hi2 : i < listed.size := by simp at hi; omega
    simp [hi2] at h1 ⊢
    intro h; rw [h1] at h; cases h
  | succ fuel ih =>
    intro listed t w hz hf hcl hJ
    refine ⟨fun hr => hend _ t w hJ (all_listed hb hz hr), fun i hi => ?_⟩
    obtain ⟨hu, o, ho, hall⟩ := mem_ready.1 hi
    have hol : l[i]? = some o := by simpa using ho
    have hil : i < l.length := (List.getElem?_eq_some_iff.1 hol).1
    have hu' : listed.getD i false = false := by
      have : i < listed.size := by omega
      simp [this] at hu ⊢; exact hu
    have st := hs.get hol
    rw [Nat.zero_add] at st
    refine wpOp_step ho fun K hK => ?_
    have hd : ∀ j, edge l i j = true → listed.getD j false = true := fun j hj => by
      obtain ⟨o', e, ho', he, hbe, rfl⟩ := edge_spec hj
      rw [hol] at ho'
      cases ho'
      exact hall e (by simpa using he) hbe
    refine st _ t w hJ hu' hd hcl K (fun a' v w' hJ' ha' => ha' ▸ hK _ _ ?_)
    rw [putAll_upd hb hol, Nat.zero_add]
    have hupd : (fun j => (listed.setIfInBounds i true).getD j false) = updB (fun j => listed.getD j false) i := by
      funext j
      unfold updB
      by_cases e : j = i
      · subst e
        have : j < listed.size := by omega
        rw [beq_self_eq_true]; simp [this]
      · have e2 : (j == i) = false := beqF e
        rw [e2]; simp [Array.getElem?_setIfInBounds_ne (Ne.symm e)]
    refine ih _ _ w' (by simpa using hz) ?_ ?_ ?_
    · have hlt : (List.range l.length).countP (fun j => !(listed.setIfInBounds i true).getD j true) < (List.range l.length).countP (fun j => !listed.getD j true) := by
        have key : ∀ L : List Nat, i ∈ L → L.countP (fun j => !(listed.setIfInBounds i true).getD j true) < L.countP (fun j => !listed.getD j true) := by
          have le : ∀ L : List Nat, L.countP (fun j => !(listed.setIfInBounds i true).getD j true) ≤ L.countP (fun j => !listed.getD j true) := fun L =>
            List.countP_mono_left fun j _ hj => by
              by_cases e : i = j
              · subst e
                have : i < listed.size := by omega
                simp [this] at hj
              · simpa [Array.getElem?_setIfInBounds_ne e] using hj
          intro L
          induction L with
          | nil => intro h; cases h
          | cons x L ihL =>
            intro hm
            rw [List.countP_cons, List.countP_cons]
            by_cases e : x = i
            · subst e
              have : x < listed.size := by omega
              have e1 : (!(listed.setIfInBounds x true).getD x true) = false := by simp [this]
              have e2 : (!listed.getD x true) = true := by rw [hu]; rfl
              rw [e1, e2]
              have := le L
              rw [if_neg (by simp), if_pos rfl]; omega
            · have e1 : (!(listed.setIfInBounds i true).getD x true) = (!listed.getD x true) := by
                simp [Array.getElem?_setIfInBounds_ne (Ne.symm e)]
              rw [e1]
              have := ihL (by rcases List.mem_cons.1 hm with h | h; exact absurd h.symm e; exact h)
              omega
        exact key _ (by simp [hil])
      omega
    · rw [hupd]
      intro j k hjk hj
      unfold updB at hj ⊢
      by_cases ek : k = i
      · subst ek; rw [beq_self_eq_true]; rfl
      · rw [beqF ek]
        by_cases ej : j = i
        · subst ej; exact hd k hjk
        · rw [beqF ej] at hj; exact hcl j k hjk hj
    · rw [hupd]; exact hJ'
theorem wp_region_steps {id : Nat} {l : List Oper} {a0 : Act} {w : World} (F : (Nat → Value) → Act) (J : (Nat → Bool) → (Nat → Value) → World → Prop)
    (hF : ∀ t, putAll a0 0 l t = F t) (hm : P.follows .mixedOrders = true) (hb : backGo [] 0 l = true) (hJ : J (fun _ => false) (oldAt a0 l) w.drew)
    (hs : AllSteps P l.toArray l Q F J 0 l) (hend : ∀ b t w, J b t w → (∀ i, i < l.length → b i = true) → Q .normal (F t) w) : (Code.region id l.toArray true).wp P Q a0 w := by
  obtain rfl : putAll a0 0 l = F := funext hF
  refine wp_region_any hm ?_
  have h0 : (fun i => (Array.replicate l.length false).getD i false) = fun _ => false := by
    funext i
    by_cases hi : i < l.length <;> simp [hi]
  have h := wpAny_steps (P := P) (Q := Q) hb hs hend l.length (Array.replicate l.length false) (oldAt a0 l) w.drew (by simp) (by have := List.countP_le_length (p := fun i => !(Array.replicate l.length false).getD i true) (l := List.range l.length); simpa using this)
    (by rw [h0]; intro j i _ h; cases h) (by rw [h0]; exact hJ)
  rw [putAll_old a0 l l 0 (fun k => by rw [Nat.zero_add])] at h
  simpa using h
end
def cells3 (c : Value × Value × Value) : List Value := [c.1, c.2.1, c.2.2]
theorem cells3_get : ∀ {cs : List (Value × Value × Value)} {i : Nat} {c : Value × Value × Value}, cs[i]? = some c →
    (cs.flatMap cells3)[3 * i]? = some c.1 ∧ (cs.flatMap cells3)[3 * i + 1]? = some c.2.1 ∧ (cs.flatMap cells3)[3 * i + 2]? = some c.2.2
  | [], i, c, h => by simp at h
  | a :: cs, 0, c, h => by
    simp at h; subst h
    simp [cells3]
  | a :: cs, i + 1, c, h => by
    have ih := cells3_get (cs := cs) (i := i) (c := c) (by simpa using h)
    have e : (a :: cs).flatMap cells3 = a.1 :: a.2.1 :: a.2.2 :: cs.flatMap cells3 := by simp [cells3]
    rw [e]
    have e1 : 3 * (i + 1) = 3 * i + 1 + 1 + 1 := by omega
    rw [e1]
    exact ih
structure TensS (w : World) (v : Value) (ts : List (List Int × List Int × List Int)) : Prop where
  has : ∃ cs : List (Value × Value × Value), cs.length = ts.length ∧ Row w 3 v ts.length (cs.flatMap cells3) ∧
    ∀ (i : Nat) (c : Value × Value × Value) (t : List Int × List Int × List Int), cs[i]? = some c → ts[i]? = some t → IntS w c.1 t.1 ∧ IntS w c.2.1 t.2.1 ∧ IntS w c.2.2 t.2.2
theorem TensS.ext {w w' : World} {v : Value} {ts : List (List Int × List Int × List Int)} (h : TensS w v ts) (e : Ext w w') : TensS w' v ts := by
  obtain ⟨cs, a, b, c⟩ := h.has
  exact ⟨cs, a, b.ext e, fun i x t h1 h2 => ⟨(c i x t h1 h2).1.ext e, (c i x t h1 h2).2.1.ext e, (c i x t h1 h2).2.2.ext e⟩⟩
theorem TensS.val {w : World} {v : Value} {ts : List (List Int × List Int × List Int)} (h : TensS w v ts) : ∃ a cap, v = .slice a ts.length cap ∧ ts.length ≤ cap ∧ cap ≤ 9223372036854775807 := by
  obtain ⟨cs, _, hr, _⟩ := h.has
  obtain ⟨a, cap, hv, h1, h2, _⟩ := hr.val
  exact ⟨a, cap, hv, h1, h2⟩
theorem TensS.get {w : World} {a : Option Addr} {n cap : Nat} {ts : List (List Int × List Int × List Int)} (h : TensS w (.slice a n cap) ts) {i : Nat} (hi : i < ts.length) :
    ∃ b off x y z t, a = some ⟨b, off, none⟩ ∧ w.cell? ⟨b, off + 3 * i, none⟩ = some x ∧ w.cell? ⟨b, off + 3 * i + 1, none⟩ = some y ∧ w.cell? ⟨b, off + 3 * i + 2, none⟩ = some z ∧ ts[i]? = some t ∧ TenS w (.agg #[x, y, z]) t.1 t.2.1 t.2.2 := by
  obtain ⟨cs, hl, hr, hs⟩ := h.has
  obtain ⟨a', cap', hv, _, _, h3⟩ := hr.val
  cases hv
  obtain ⟨b, off, ha, hc⟩ := h3 (by rw [hr.len]; omega)
  have hci : cs[i]? = some cs[i] := List.getElem?_eq_getElem (by omega)
  have hti : ts[i]? = some ts[i] := List.getElem?_eq_getElem hi
  obtain ⟨g1, g2, g3⟩ := cells3_get hci
  obtain ⟨s1, s2, s3⟩ := hs i _ _ hci hti
  refine ⟨b, off, _, _, _, ts[i], ha, hc _ _ g1, ?_, ?_, hti, _, _, _, rfl, s1, s2, s3⟩
  · have := hc _ _ g2; rw [← Nat.add_assoc] at this; exact this
  · have := hc _ _ g3; rw [← Nat.add_assoc] at this; exact this
def upd (σ : Int → Int) (l v : Int) : Int → Int := fun x => if x = l then v else σ x
def labs (ax : List (Int × Int)) : List Int := ax.map (·.1)
def Dep {α : Type} (F : (Int → Int) → α) (L : List Int) : Prop := ∀ σ τ : Int → Int, (∀ l ∈ L, σ l = τ l) → F σ = F τ
theorem Dep.mono {α : Type} {F : (Int → Int) → α} {L M : List Int} (h : Dep F L) (hs : ∀ l ∈ L, l ∈ M) : Dep F M :=
  fun σ τ e => h σ τ fun l hl => e l (hs l hl)
def tab {α : Type} : List (Int × Int) → ((Int → Int) → α) → (Int → Int) → List α
  | [], F, σ => [F σ]
  | (l, d) :: r, F, σ => (List.range d.toNat).flatMap fun v : Nat => tab r F (upd σ l v)
def size : List (Int × Int) → Nat
  | [] => 1
  | (_, d) :: r => d.toNat * size r
def off : List (Int × Int) → (Int → Int) → Nat
  | [], _ => 0
  | (l, _) :: r, σ => (σ l).toNat * size r + off r σ
end Go.Proofs.YtlgjddgajdjllaaGreatDoor
