/- Texts that all that follows stands on, merged by program. -/
import Derived.WalkKit
import Derived.WalkSpells
import Derived.WalkLawsBesides
import Derived.Lib.Hide
import Derived.Handy
import Derived.ProofKit
import Derived.OpenShut
import Derived.ShutString
import Derived.ChangeOld
import Derived.Below
import Derived.Carry
import Derived.Lib.SmallJoins
import Derived.Deep.Slices
import Derived.Test.YtlgjddgajdjllaaGreatProg
import Derived.Deep.OwnRows
import Derived.Deep.QuietTactic
import Derived.BigQuiet
import Derived.Deep.RegionHeld3
import Derived.Maps.AppendAt
import Derived.OwnWalk
import Derived.StillTailTactics
import Derived.RegionTactic
import Derived.ChangeAlike
import Derived.Lib.SliceRun
import Derived.BigFrame
import Derived.Laws.BitsLemmas
import Derived.Deep.AppendLies
import Derived.Deep.RegionLaw
import Derived.Laws.OwnMore
import Derived.Deep.MidRow
import Derived.Laws.ResultCell
import Derived.Laws.CopyRow
import Derived.Deep.DeepCutAuto
import Derived.Deep.LoopGhost
import Derived.Shelf.Sort.Plain
import Derived.Shelf.Slices.In.SortNone
import Derived.Lib.SortBridge
import Derived.Test.YtlgjddgajdjllaaGreatRows
/- Plain functions and small lemmas that all walks of this seat share: no program in sight. -/
set_option linter.unusedSimpArgs false
set_option linter.unusedVariables false
namespace Go.Proofs.YtlgjddgajdjllaaGreat
open Go.RowKit
theorem ret_bool {a b : Bool} (h : a = b) : Ending.returned (.bool a) = .returned (.bool b) := by rw [h]
theorem ret_int {k : IntKind} {a b : Int} (h : a = b) : Ending.returned (.int k a) = .returned (.int k b) := by rw [h]
def noDiv (n : Int) : Nat → Int → Bool
  | 0, _ => true
  | f + 1, d => if n < d * d then true else if n % d = 0 then false else noDiv n f (d + 1)
theorem sq_le {k : Nat} (h : k ≤ 1002) : (k : Int) * k ≤ 1004004 := by
  have h2 := Nat.mul_le_mul h h
  have h3 : ((k * k : Nat) : Int) ≤ ((1002 * 1002 : Nat) : Int) := Int.ofNat_le.2 h2
  rw [Int.natCast_mul] at h3
  exact h3
theorem noDiv_end {n d : Int} (f : Nat) (h : n < d * d) : noDiv n (f + 1) d = true := by simp [noDiv, h]
theorem noDiv_hit {n d : Int} (f : Nat) (h : d * d ≤ n) (h2 : n % d = 0) : noDiv n (f + 1) d = false := by
  have : ¬ n < d * d := by omega
  simp [noDiv, this, h2]
theorem noDiv_step {n d : Int} (f : Nat) (h : d * d ≤ n) (h2 : n % d ≠ 0) : noDiv n (f + 1) d = noDiv n f (d + 1) := by
  have : ¬ n < d * d := by omega
  simp [noDiv, this, h2]
def isPrime (n : Int) : Bool := if n < 2 then false else if 1000003 < n then false else noDiv n 1001 2
theorem isPrime_mid {n : Int} (h1 : 2 ≤ n) (h2 : n ≤ 1000003) : isPrime n = noDiv n 1001 2 := by
  have a : ¬ n < 2 := by omega
  have b : ¬ 1000003 < n := by omega
  simp [isPrime, a, b]
theorem isPrime_low {n : Int} (h1 : n < 2) : isPrime n = false := by simp [isPrime, h1]
theorem isPrime_ge {n : Int} (h : isPrime n = true) : 2 ≤ n := by
  by_cases h1 : n < 2
  · rw [isPrime_low h1] at h; cases h
  · omega
theorem isPrime_le {n : Int} (h : isPrime n = true) : n ≤ 1000003 := by
  by_cases h1 : n < 2
  · rw [isPrime_low h1] at h; cases h
  · by_cases h2 : 1000003 < n
    · simp [isPrime, h1, h2] at h
    · omega
theorem isPrime_high {n : Int} (h1 : 1000003 < n) : isPrime n = false := by simp [isPrime, h1]
def ringOk (k p n : Int) : Bool :=
  if k = 1 then (p == 0) && (n == 0)
  else if k = 2 then isPrime p && (n == 0)
  else if k = 3 ∨ k = 4 ∨ k = 5 then decide (1 ≤ p) && decide (p ≤ 1000000) && (n == 0)
  else if k = 6 then (p == 0) && decide (1 ≤ n) && decide (n ≤ 20)
  else if k = 7 then isPrime p && decide (1 ≤ n) && decide (n ≤ 6)
  else if k = 8 then isPrime p && (p != 2) && (n == 0)
  else false
theorem kinds (k : Int) : k = 1 ∨ k = 2 ∨ k = 3 ∨ k = 4 ∨ k = 5 ∨ k = 6 ∨ k = 7 ∨ k = 8 ∨ (¬ k = 1 ∧ ¬ k = 2 ∧ ¬ k = 3 ∧ ¬ k = 4 ∧ ¬ k = 5 ∧ ¬ k = 6 ∧ ¬ k = 7 ∧ ¬ k = 8) := by omega
structure Ext (w w' : World) : Prop where
  below : Below w.heap.size w w'
theorem Ext.refl (w : World) : Ext w w := ⟨Below.refl _ _⟩
theorem Ext.size {w w' : World} (h : Ext w w') : w.heap.size ≤ w'.heap.size := h.below.size
theorem Ext.trans {a b c : World} (h : Ext a b) (k : Ext b c) : Ext a c := ⟨h.below.trans (k.below.mono h.size)⟩
theorem Ext.alloc {a b : World} (h : Ext a b) (o : Obj) : Ext a (b.alloc o) := ⟨h.below.alloc h.size o⟩
theorem Ext.drew {a b : World} (h : Ext a b) : Ext a b.drew := ⟨h.below.drew⟩
theorem Ext.drewN {a b : World} (h : Ext a b) (n : Nat) : Ext a (b.drewN n) := ⟨below_drewN h.below n⟩
theorem Ext.setCell {a b : World} (h : Ext a b) {p : Addr} (hp : a.heap.size ≤ p.block) (u : Value) : Ext a (b.setCell p u) := ⟨h.below.setCell hp u⟩
theorem Ext.setAt {a b : World} (h : Ext a b) {k : Nat} (hp : a.heap.size ≤ k) (o : Nat) (u : Value) : Ext a (b.setCell ⟨k, o, none⟩ u) := h.setCell (p := ⟨k, o, none⟩) hp u
theorem xt {w w' : World} (h : Ext w w' := by repeat' (first | (with_reducible first | exact Ext.refl _ | assumption | apply Ext.alloc | apply Ext.drew | apply Ext.drewN) | (refine Ext.setAt ?_ (by omega) _ _) | (refine Ext.trans ?_ (by assumption)))) : Ext w w' := h
theorem Ext.cells {w w' : World} (h : Ext w w') : ∀ b o, b < w.heap.size → w'.cell? ⟨b, o, none⟩ = w.cell? ⟨b, o, none⟩ :=
  fun b o hb => h.below.cell (p := ⟨b, o, none⟩) hb
theorem Ext.frozens {w w' : World} (h : Ext w w') : ∀ b o, b < w.heap.size → w'.frozen? ⟨b, o, none⟩ = w.frozen? ⟨b, o, none⟩ :=
  fun b o hb => h.below.frozen (p := ⟨b, o, none⟩) hb
theorem Ext.block {w w' : World} (h : Ext w w') {b : Nat} {o : Obj} (hb : w.heap[b]? = some o) : w'.heap[b]? = some o := by
  have := (Array.getElem?_eq_some_iff.1 hb).1
  rw [h.below.block b this]; exact hb
theorem Ext.cell {w w' : World} (h : Ext w w') {a : Addr} {v : Value} (hc : w.cell? a = some v) : w'.cell? a = some v := by
  rw [h.below.cell (World.block_lt_of_cell? _ _ hc)]; exact hc
structure Row (w : World) (size : Nat) (v : Value) (n : Nat) (xs : List Value) : Prop where
  len : xs.length = n * size
  val : ∃ a cap, v = .slice a n cap ∧ n ≤ cap ∧ cap ≤ maxLen ∧
    (0 < xs.length → ∃ b off, a = some ⟨b, off, none⟩ ∧ ∀ j u, xs[j]? = some u → w.cell? ⟨b, off + j, none⟩ = some u)
theorem Row.ext {w w' : World} {size n : Nat} {v : Value} {xs : List Value} (h : Row w size v n xs) (e : Ext w w') : Row w' size v n xs := by
  obtain ⟨hl, a, cap, hv, h1, h2, h3⟩ := h
  refine ⟨hl, a, cap, hv, h1, h2, fun hp => ?_⟩
  obtain ⟨b, off, ha, hc⟩ := h3 hp
  exact ⟨b, off, ha, fun j u hj => e.cell (hc j u hj)⟩
def ints (l : List Int) : List Value := l.map (.int .i64)
theorem ints_length (l : List Int) : (ints l).length = l.length := by simp [ints]
theorem ints_get (l : List Int) (i : Nat) : (ints l)[i]? = (l[i]?).map (.int .i64) := by simp [ints]
theorem ints_append (l m : List Int) : ints (l ++ m) = ints l ++ ints m := by simp [ints]
structure IntS (w : World) (v : Value) (l : List Int) : Prop where
  row : Row w 1 v l.length (ints l)
theorem IntS.ext {w w' : World} {v : Value} {l : List Int} (h : IntS w v l) (e : Ext w w') : IntS w' v l := ⟨h.row.ext e⟩
theorem IntS.val {w : World} {v : Value} {l : List Int} (h : IntS w v l) : ∃ a cap, v = .slice a l.length cap ∧ l.length ≤ cap ∧ cap ≤ 9223372036854775807 := by
  obtain ⟨a, cap, hv, h1, h2, _⟩ := h.row.val
  exact ⟨a, cap, hv, h1, h2⟩
theorem IntS.get {w : World} {a : Option Addr} {n cap : Nat} {l : List Int} (h : IntS w (.slice a n cap) l) {i : Nat} (hi : i < l.length) :
    ∃ b off x, a = some ⟨b, off, none⟩ ∧ w.cell? ⟨b, off + i, none⟩ = some (.int .i64 x) ∧ l[i]? = some x ∧ l.drop i = x :: l.drop (i + 1) := by
  obtain ⟨a', cap', hv, _, _, h3⟩ := h.row.val
  cases hv
  obtain ⟨b, off, ha, hc⟩ := h3 (by rw [ints_length]; omega)
  refine ⟨b, off, l[i], ha, hc i _ ?_, List.getElem?_eq_getElem hi, List.drop_eq_getElem_cons hi⟩
  rw [ints_get]; simp [hi]
theorem IntS.nil (w : World) : IntS w (.slice none 0 0) [] := ⟨⟨rfl, none, 0, rfl, Nat.le_refl _, Nat.zero_le _, by simp [ints]⟩⟩
structure ByteS (w : World) (v : Value) (l : List Int) : Prop where
  row : Row w 1 v l.length (l.map (.int .u8))
structure RowsS (w : World) (v : Value) (ll : List (List Int)) : Prop where
  rows : ∃ vs : List Value, vs.length = ll.length ∧ Row w 1 v ll.length vs ∧ ∀ (i : Nat) (u : Value) (l : List Int), vs[i]? = some u → ll[i]? = some l → IntS w u l
open Go.RowKit Go.ChangeShapes Go.WideShapes Go.Deep Go.Joins
section
variable {H : Type} {enc : TypeId × Value → H} {P : Program} {w : World} {base : Nat} {spare : Nat → Bool} {held : Bool}
theorem opn_row {t e : TypeId} {fuel : Nat} {v : Value} {x : DataW H × List MemPlace} (ht : P.underlying t = some (.slice e)) (hc : P.cellsOf e = 1)
    (h : DataW.trod enc P w base spare held fuel t [v] = some x) :
    ∃ vs : List Value, Row w 1 v vs.length vs ∧ ∀ u ∈ vs, ∃ n y, DataW.trod enc P w base spare held n e [u] = some y := by
  rcases open_slice1 ht hc h with ⟨h0, _⟩ | ⟨a, len, cap, m, n, V, D, Pl, h0, _, hl, hm, hmm, _, hx⟩
  · simp at h0
    subst h0
    exact ⟨[], ⟨rfl, none, 0, rfl, Nat.le_refl _, Nat.zero_le _, by simp⟩, by simp⟩
  · simp at h0
    subst h0
    have hlm : len ≤ m := by rw [hmm]; split <;> omega
    refine ⟨(List.range len).map V, ⟨by simp, some a, cap, by simp, by simpa using hl, hm, fun hp => ?_⟩, ?_⟩
    · simp at hp
      obtain ⟨b, off, spot⟩ := a
      have h0 := (hx 0 (by omega)).1
      have hs : spot = none := by simpa [Addr.add] using World.cell?_spot h0
      subst hs
      refine ⟨b, off, rfl, fun j u hj => ?_⟩
      simp only [List.getElem?_map] at hj
      by_cases hjl : j < len
      · rw [List.getElem?_range hjl] at hj
        simp at hj
        subst hj
        have := (hx j (by omega)).1
        have ea : (⟨b, off, none⟩ : Addr).add j = ⟨b, off + j, none⟩ := by unfold Addr.add; split <;> simp_all
        rw [ea] at this
        exact this
      · rw [List.getElem?_eq_none (by simp; omega)] at hj
        simp at hj
    · intro u hu
      simp at hu
      obtain ⟨i, hi, rfl⟩ := hu
      exact ⟨n, _, (hx i (by omega)).2⟩
theorem opn_bytes1 {t e : TypeId} {fuel : Nat} {v : Value} {x : DataW H × List MemPlace} (ht : P.underlying t = some (.slice e)) (hc : P.cellsOf e = 1) (he : P.underlying e = some (.int .u8))
    (h : DataW.trod enc P w base spare held fuel t [v] = some x) : ∃ l, ByteS w v l ∧ ∀ x ∈ l, 0 ≤ x ∧ x ≤ 255 := by
  obtain ⟨vs, hr, hv⟩ := opn_row ht hc h
  have key : ∀ vs : List Value, (∀ u ∈ vs, ∃ n y, DataW.trod enc P w base spare held n e [u] = some y) → ∃ l : List Int, vs = l.map (.int .u8) ∧ ∀ x ∈ l, 0 ≤ x ∧ x ≤ 255 := by
    intro vs
    induction vs with
    | nil => exact fun _ => ⟨[], rfl, by simp⟩
    | cons u us ih =>
      intro hall
      obtain ⟨l, rfl, hl⟩ := ih (fun u hu => hall u (by simp [hu]))
      obtain ⟨n, y, hy⟩ := hall u (by simp)
      obtain ⟨z, hz, _, hwf⟩ := DataW.trod_int he hy
      simp at hz
      subst hz
      refine ⟨z :: l, rfl, fun x hx => ?_⟩
      rcases List.mem_cons.1 hx with rfl | hx
      · exact bounds_u8 hwf
      · exact hl x hx
  obtain ⟨l, rfl, hl⟩ := key vs hv
  rw [List.length_map] at hr
  exact ⟨l, ⟨hr⟩, hl⟩
end
section
variable {H : Type} {enc : TypeId × Value → H} {P : Program} {w : World} {base : Nat} {spare : Nat → Bool} {held : Bool} {r : Reach} {b0 : Nat} {t : TypeId} {v : Value} {d : DataW H} {ps : List MemPlace}
theorem cells_slice (ht : ∃ e, P.underlying t = some (.slice e)) (hv : Value.okWide P w r b0 t v) : v.cells.toList = [v] := by
  obtain ⟨e, ht⟩ := ht
  obtain ⟨a, n, c, rfl⟩ := okWide_slice ht hv
  rfl
theorem opn_bytes {e : TypeId} (ht : P.underlying t = some (.slice e)) (hc : P.cellsOf e = 1) (he : P.underlying e = some (.int .u8))
    (hv : Value.okWide P w r b0 t v) (h : DataW.Trod enc P w base spare held t v d ps) : ∃ l, ByteS w v l ∧ ∀ x ∈ l, 0 ≤ x ∧ x ≤ 255 := by
  obtain ⟨fuel, hf⟩ := h
  rw [cells_slice ⟨e, ht⟩ hv] at hf
  exact opn_bytes1 ht hc he hf
end
structure Blk (w : World) (b : Nat) (T : TypeId) (xs : List Value) : Prop where
  row : w.heap[b]? = some (.cells xs.toArray T (0, 0))
theorem Blk.lt {w : World} {b : Nat} {T : TypeId} {xs : List Value} (h : Blk w b T xs) : b < w.heap.size := (Array.getElem?_eq_some_iff.1 h.row).1
theorem Blk.cell {w : World} {b : Nat} {T : TypeId} {xs : List Value} (h : Blk w b T xs) {j : Nat} {u : Value} (hj : xs[j]? = some u) : w.cell? ⟨b, j, none⟩ = some u := by
  simp [World.cell?, h.row, hj]
theorem Blk.free {w : World} {b : Nat} {T : TypeId} {xs : List Value} (h : Blk w b T xs) (j : Nat) : w.frozen? ⟨b, j, none⟩ = false := by
  simp [World.frozen?, h.row]
theorem Blk.block {w w' : World} {b : Nat} {T : TypeId} {xs : List Value} (h : Blk w b T xs) (e : w'.heap[b]? = w.heap[b]?) : Blk w' b T xs := ⟨e.trans h.row⟩
theorem Blk.below {w w' : World} {b B : Nat} {T : TypeId} {xs : List Value} (h : Blk w b T xs) (e : Below B w w') (hb : b < B) : Blk w' b T xs := h.block (e.block b hb)
theorem Blk.ext {w w' : World} {b : Nat} {T : TypeId} {xs : List Value} (h : Blk w b T xs) (e : Ext w w') : Blk w' b T xs := h.below e.below h.lt
theorem Blk.set {w : World} {b : Nat} {T : TypeId} {xs : List Value} (h : Blk w b T xs) (j : Nat) (u : Value) : Blk (w.setCell ⟨b, j, none⟩ u) b T (xs.set j u) := by
  refine ⟨?_⟩
  simp [World.setCell, Array.getElem?_modify, h.row]
theorem Blk.other {w : World} {b : Nat} {T : TypeId} {xs : List Value} (h : Blk w b T xs) {p : Addr} (hp : p.block ≠ b) (u : Value) : Blk (w.setCell p u) b T xs :=
  h.block (Below.heap_setCell w p u b (fun e => hp e.symm))
theorem Blk.new (w : World) (c : Array Value) (T : TypeId) : Blk (w.alloc (.cells c T)) w.heap.size T c.toList := ⟨by simpa using heap_alloc_new w (.cells c T)⟩
theorem made_zero (n : Nat) : (madeCells #[.int .i64 0] n).toList = ints (List.replicate n 0) := by
  apply List.ext_getElem?
  intro i
  rw [ints_get]
  by_cases h : i < n
  · simp [madeCells, h, Nat.mod_one]
  · simp [madeCells, h, Nat.mod_one]
structure OwnI (w : World) (B : Nat) (v : Value) (l : List Int) : Prop where
  own : (v = .slice none 0 0 ∧ l = []) ∨ ∃ b rest, B ≤ b ∧ v = .slice (some ⟨b, 0, none⟩) l.length (l.length + rest.length) ∧ Blk w b 3 (ints l ++ rest) ∧ l.length + rest.length ≤ maxLen
theorem OwnI.nil (w : World) (B : Nat) : OwnI w B (.slice none 0 0) [] := ⟨.inl ⟨rfl, rfl⟩⟩
theorem OwnI.of {w : World} {B b : Nat} {l : List Int} (hb : B ≤ b) (h : Blk w b 3 (ints l)) (hl : l.length ≤ maxLen) : OwnI w B (.slice (some ⟨b, 0, none⟩) l.length l.length) l :=
  ⟨.inr ⟨b, [], hb, by simp, by simpa using h, by simpa using hl⟩⟩
theorem OwnI.mk' {w : World} {B b n : Nat} {l : List Int} (hn : l.length = n) (hb : B ≤ b) (h : Blk w b 3 (ints l)) (hl : n ≤ maxLen) : OwnI w B (.slice (some ⟨b, 0, none⟩) n n) l := by
  subst hn; exact OwnI.of hb h hl
theorem OwnI.ext {w w' : World} {B : Nat} {v : Value} {l : List Int} (h : OwnI w B v l) (e : Ext w w') : OwnI w' B v l := by
  rcases h.own with h | ⟨b, rest, h1, h2, h3, h4⟩
  · exact ⟨.inl h⟩
  · exact ⟨.inr ⟨b, rest, h1, h2, h3.ext e, h4⟩⟩
theorem OwnI.mono {w : World} {B B' : Nat} {v : Value} {l : List Int} (h : OwnI w B v l) (hB : B' ≤ B) : OwnI w B' v l := by
  rcases h.own with h | ⟨b, rest, h1, h2, h3, h4⟩
  · exact ⟨.inl h⟩
  · exact ⟨.inr ⟨b, rest, Nat.le_trans hB h1, h2, h3, h4⟩⟩
theorem OwnI.ints {w : World} {B : Nat} {v : Value} {l : List Int} (h : OwnI w B v l) : IntS w v l := by
  rcases h.own with ⟨rfl, rfl⟩ | ⟨b, rest, h1, rfl, h3, h4⟩
  · exact IntS.nil w
  · refine ⟨⟨by simp [Proofs.YtlgjddgajdjllaaGreat.ints], some ⟨b, 0, none⟩, _, rfl, by omega, h4, fun _ => ⟨b, 0, rfl, fun j u hj => ?_⟩⟩⟩
    have : (Proofs.YtlgjddgajdjllaaGreat.ints l ++ rest)[j]? = some u := by
      have hlt : j < (Proofs.YtlgjddgajdjllaaGreat.ints l).length := (List.getElem?_eq_some_iff.1 hj).1
      rw [List.getElem?_append_left hlt, hj]
    simpa using h3.cell this
theorem OwnI.open {w : World} {B : Nat} {v : Value} {l : List Int} (h : OwnI w B v l) (hp : 0 < l.length) :
    ∃ b cap, B ≤ b ∧ v = .slice (some ⟨b, 0, none⟩) l.length cap ∧ l.length ≤ cap ∧ cap ≤ 9223372036854775807 := by
  rcases h.own with ⟨rfl, rfl⟩ | ⟨b, rest, h1, rfl, h3, h4⟩
  · simp at hp
  · exact ⟨b, _, h1, rfl, by omega, h4⟩
theorem OwnI.cell {w : World} {B b n cap : Nat} {l : List Int} (h : OwnI w B (.slice (some ⟨b, 0, none⟩) n cap) l) {j : Nat} {x : Int} (hx : l[j]? = some x) :
    w.cell? ⟨b, j, none⟩ = some (.int .i64 x) ∧ w.frozen? ⟨b, j, none⟩ = false := by
  rcases h.own with ⟨h0, rfl⟩ | ⟨b', rest, h1, h2, h3, h4⟩
  · simp at hx
  · cases h2
    refine ⟨h3.cell ?_, h3.free j⟩
    have hlt : j < l.length := (List.getElem?_eq_some_iff.1 hx).1
    rw [List.getElem?_append_left (by rw [ints_length]; exact hlt), ints_get, hx]; rfl
theorem OwnI.set {w : World} {B b n cap : Nat} {l : List Int} (h : OwnI w B (.slice (some ⟨b, 0, none⟩) n cap) l) (j : Nat) (hj : j < l.length) (x : Int) :
    OwnI (w.setCell ⟨b, j, none⟩ (.int .i64 x)) B (.slice (some ⟨b, 0, none⟩) n cap) (l.set j x) := by
  rcases h.own with ⟨h0, rfl⟩ | ⟨b', rest, h1, h2, h3, h4⟩
  · simp at hj
  · cases h2
    refine ⟨.inr ⟨b, rest, h1, by simp, ?_, by simpa using h4⟩⟩
    have := h3.set j (.int .i64 x)
    rw [List.set_append_left _ _ (by rw [ints_length]; exact hj)] at this
    simpa [Proofs.YtlgjddgajdjllaaGreat.ints, List.map_set] using this
theorem grown_setCell {w0 w : World} {b : Nat} (h : w0.grownBy w (some b)) (o : Nat) (u : Value) : w0.grownBy (w.setCell ⟨b, o, none⟩ u) (some b) :=
  ⟨h.os, h.tape, h.output, by have := h.size; simp [World.setCell]; exact this, fun k hk hne => by
    rw [Below.heap_setCell _ _ _ _ (fun e => hne (by rw [e]))]; exact h.block k hk hne⟩
theorem grown_alloc {w0 w : World} {b : Option Nat} (h : w0.grownBy w b) (o : Obj) : w0.grownBy (w.alloc o) b :=
  ⟨h.os, h.tape, h.output, by have := h.size; simp; omega, fun k hk hne => by
    rw [Below.heap_alloc _ _ _ (Nat.lt_of_lt_of_le hk h.size)]; exact h.block k hk hne⟩
theorem grown_drew {w0 w : World} {b : Option Nat} (h : w0.grownBy w b) : w0.grownBy w.drew b := ⟨h.os, h.tape, h.output, h.size, h.block⟩
theorem grown_drewN {w0 w : World} {b : Option Nat} (h : w0.grownBy w b) (n : Nat) : w0.grownBy (w.drewN n) b := by
  have e := (Ext.refl w).drewN n
  exact ⟨e.below.os.trans h.os, e.below.tape.trans h.tape, e.below.output.trans h.output, Nat.le_trans h.size e.size, fun k hk hne => (e.below.block k (Nat.lt_of_lt_of_le hk h.size)).trans (h.block k hk hne)⟩
theorem grown_refl (w : World) (b : Option Nat) : w.grownBy w b := ⟨rfl, rfl, rfl, Nat.le_refl _, fun _ _ _ => rfl⟩
theorem OwnI.block_lt {w : World} {B : Nat} {v : Value} {l : List Int} (h : OwnI w B v l) {k : Nat} (hk : v.ownBlock = some k) : B ≤ k ∧ k < w.heap.size := by
  rcases h.own with ⟨rfl, _⟩ | ⟨b, rest, h1, rfl, h3, _⟩
  · simp [Value.ownBlock] at hk
  · simp [Value.ownBlock] at hk; subst hk; exact ⟨h1, h3.lt⟩
theorem Ext.only {w0 w w' : World} {b : Option Nat} (h : Ext w0 w) (e : w.grownBy w' b) (hb : ∀ k, b = some k → w0.heap.size ≤ k) : Ext w0 w' := ⟨h.below.grown e h.size hb⟩
theorem Ext.mark {w0 w w' : World} {v : Value} {l : List Int} (h : Ext w0 w) (o : OwnI w w0.heap.size v l) (e : w.grownBy w' v.ownBlock) : Ext w0 w' :=
  h.only e fun k hk => (o.block_lt hk).1
theorem OwnI.only {w w' : World} {B : Nat} {b : Option Nat} {v : Value} {l : List Int} (h : OwnI w B v l) (e : w.grownBy w' b) (hne : ∀ k, v.ownBlock = some k → b ≠ some k) : OwnI w' B v l := by
  rcases h.own with h | ⟨k, rest, h1, rfl, h3, h4⟩
  · exact ⟨.inl h⟩
  · exact ⟨.inr ⟨k, rest, h1, rfl, h3.block (e.block k h3.lt (fun e => hne k rfl e.symm)), h4⟩⟩
theorem grownBy_trans {a b c : World} {r : Option Nat} (h : a.grownBy b r) (k : b.grownBy c r) : a.grownBy c r :=
  ⟨k.os.trans h.os, k.tape.trans h.tape, k.output.trans h.output, Nat.le_trans h.size k.size, fun i hi hne => (k.block i (Nat.lt_of_lt_of_le hi h.size) hne).trans (h.block i hi hne)⟩
theorem Tryz.infoInt : (Tryz.prog.info? 3).map (fun i => (i.zero, i.size, i.bytes)) = some (some (.int .i64 0), 1, 8) := by kernel_rfl
theorem mkInts (n : Nat) (h : n ≤ 35184372088832) (w : World) : (Instr.makeSlice 27 (.int .i64 (n : Int)) (.int .i64 (n : Int))).run Tryz.prog w =
    .ok (.slice (some ⟨w.heap.size, 0, none⟩) n n) (w.alloc (.cells (madeCells #[.int .i64 0] n) 3)) :=
  run_make_row' (P := Tryz.prog) 27 3 (.int .i64 0) 8 Tryz.underlying27 Tryz.infoInt rfl .i64 .i64 n (by omega) (by omega) w
theorem ints_set (l : List Int) (j : Nat) (x : Int) : (ints l).set j (.int .i64 x) = ints (l.set j x) := by simp [ints, List.map_set]
theorem drop_len {α : Type} (l : List α) : l.drop l.length = [] := by simp
theorem RowsS.val {w : World} {v : Value} {ll : List (List Int)} (h : RowsS w v ll) : ∃ a cap, v = .slice a ll.length cap ∧ ll.length ≤ cap ∧ cap ≤ 9223372036854775807 := by
  obtain ⟨vs, _, hr, _⟩ := h.rows
  obtain ⟨a, cap, hv, h1, h2, _⟩ := hr.val
  exact ⟨a, cap, hv, h1, h2⟩
theorem RowsS.get {w : World} {a : Option Addr} {n cap : Nat} {ll : List (List Int)} (h : RowsS w (.slice a n cap) ll) {i : Nat} (hi : i < ll.length) :
    ∃ b off u l, a = some ⟨b, off, none⟩ ∧ w.cell? ⟨b, off + i, none⟩ = some u ∧ IntS w u l ∧ ll[i]? = some l ∧ ll.drop i = l :: ll.drop (i + 1) := by
  obtain ⟨vs, hl, hr, hs⟩ := h.rows
  obtain ⟨a', cap', hv, _, _, h3⟩ := hr.val
  cases hv
  obtain ⟨b, off, ha, hc⟩ := h3 (by omega)
  have hi' : i < vs.length := by omega
  refine ⟨b, off, vs[i], ll[i], ha, hc i _ (List.getElem?_eq_getElem hi'), hs i _ _ (List.getElem?_eq_getElem hi') (List.getElem?_eq_getElem hi), List.getElem?_eq_getElem hi, List.drop_eq_getElem_cons hi⟩
theorem OwnI.setBelow {w : World} {B : Nat} {v : Value} {l : List Int} (h : OwnI w B v l) {p : Addr} (hp : p.block < B) (u : Value) : OwnI (w.setCell p u) B v l := by
  rcases h.own with h | ⟨b, rest, h1, h2, h3, h4⟩
  · exact ⟨.inl h⟩
  · exact ⟨.inr ⟨b, rest, h1, h2, h3.other (by omega) _, h4⟩⟩
structure OwnRows (w : World) (B : Nat) (v : Value) (ll : List (List Int)) : Prop where
  own : (v = .slice none 0 0 ∧ ll = []) ∨ ∃ b vs rest, B ≤ b ∧ v = .slice (some ⟨b, 0, none⟩) ll.length (ll.length + rest.length) ∧ vs.length = ll.length ∧ Blk w b 27 (vs ++ rest) ∧ ll.length + rest.length ≤ maxLen ∧
    (∀ (i : Nat) (u : Value) (l : List Int), vs[i]? = some u → ll[i]? = some l → OwnI w B u l ∧ u.ownBlock ≠ some b) ∧
    (∀ (i j : Nat) (u u' : Value) (k : Nat), i < j → vs[i]? = some u → vs[j]? = some u' → u.ownBlock = some k → u'.ownBlock ≠ some k)
theorem OwnRows.mono {w : World} {B B' : Nat} {v : Value} {ll : List (List Int)} (h : OwnRows w B v ll) (hB : B' ≤ B) : OwnRows w B' v ll := by
  rcases h.own with h | ⟨b, vs, rest, h1, h2, h3, h4, h5, h6, h7⟩
  · exact ⟨.inl h⟩
  · exact ⟨.inr ⟨b, vs, rest, Nat.le_trans hB h1, h2, h3, h4, h5, fun i u l a c => ⟨(h6 i u l a c).1.mono hB, (h6 i u l a c).2⟩, h7⟩⟩
theorem Tryz.infoInts : (Tryz.prog.info? 27).map (fun i => (i.zero, i.size, i.bytes)) = some (some (.slice none 0 0), 1, 24) := by kernel_rfl
def splice (c : List Value) (off : Nat) (xs : List Value) : List Value := c.take off ++ xs ++ c.drop (off + xs.length)
theorem splice_length {c : List Value} {off : Nat} {xs : List Value} (h : off + xs.length ≤ c.length) : (splice c off xs).length = c.length := by
  simp [splice]; omega
theorem splice_get {c : List Value} {off : Nat} {xs : List Value} (h : off + xs.length ≤ c.length) {i : Nat} (hi : i < xs.length) : (splice c off xs)[off + i]? = xs[i]? := by
  have e : (c.take off).length = off := by rw [List.length_take]; omega
  unfold splice
  rw [List.append_assoc, List.getElem?_append_right (by omega), e, List.getElem?_append_left (by omega)]
  congr 1; omega
theorem splice_set {c : List Value} {off : Nat} {xs : List Value} (h : off + xs.length ≤ c.length) {i : Nat} (hi : i < xs.length) (u : Value) : (splice c off xs).set (off + i) u = splice c off (xs.set i u) := by
  have e : (c.take off).length = off := by rw [List.length_take]; omega
  unfold splice
  rw [List.append_assoc, List.set_append_right _ _ (by omega), e, Nat.add_sub_cancel_left, List.set_append_left _ _ hi, List.length_set, List.append_assoc]
theorem splice_self {c : List Value} {off n : Nat} (h : off + n ≤ c.length) : splice c off ((c.drop off).take n) = c := by
  have e : ((c.drop off).take n).length = n := by rw [List.length_take, List.length_drop]; omega
  unfold splice
  rw [e, ← List.drop_drop, List.append_assoc, List.take_append_drop, List.take_append_drop]
theorem splice_splice {c : List Value} {off : Nat} {xs ys : List Value} (h : off + xs.length ≤ c.length) (hl : ys.length = xs.length) : splice (splice c off xs) off ys = splice c off ys := by
  have e : (c.take off).length = off := by rw [List.length_take]; omega
  unfold splice
  rw [hl]
  congr 1
  · congr 1
    rw [List.append_assoc, List.take_append_of_le_length (by omega), List.take_of_length_le (by omega)]
  · rw [List.append_assoc, List.drop_append, List.drop_of_length_le (by omega), e, Nat.add_sub_cancel_left, List.drop_left, List.nil_append]
theorem splice_take {c : List Value} {off : Nat} {xs : List Value} (h : off + xs.length ≤ c.length) : ((splice c off xs).drop off).take xs.length = xs := by
  have e : (c.take off).length = off := by rw [List.length_take]; omega
  unfold splice
  rw [List.append_assoc, List.drop_append, List.drop_of_length_le (by omega), e, Nat.sub_self, List.drop_zero, List.nil_append, List.take_left]
structure Part (w : World) (b off : Nat) (c : List Value) (l : List Int) : Prop where
  blk : Blk w b 3 c
  len : off + l.length ≤ c.length
  here : (c.drop off).take l.length = ints l
theorem Part.get {w : World} {b off : Nat} {c : List Value} {l : List Int} (h : Part w b off c l) {i : Nat} {x : Int} (hx : l[i]? = some x) : c[off + i]? = some (.int .i64 x) := by
  have hi := (List.getElem?_eq_some_iff.1 hx).1
  have : ((c.drop off).take l.length)[i]? = some (.int .i64 x) := by rw [h.here, ints_get, hx]; rfl
  rw [List.getElem?_take_of_lt hi, List.getElem?_drop] at this
  exact this
theorem Part.cell {w : World} {b off : Nat} {c : List Value} {l : List Int} (h : Part w b off c l) {i : Nat} {x : Int} (hx : l[i]? = some x) :
    w.cell? ⟨b, off + i, none⟩ = some (.int .i64 x) ∧ w.frozen? ⟨b, off + i, none⟩ = false := ⟨h.blk.cell (h.get hx), h.blk.free _⟩
theorem Part.set_splice {w : World} {b off : Nat} {c : List Value} {l : List Int} (h : Part w b off c l) {i : Nat} (hi : i < l.length) (x : Int) :
    c.set (off + i) (.int .i64 x) = splice c off (ints (l.set i x)) := by
  conv => lhs; rw [← splice_self (c := c) (off := off) (n := l.length) h.len]
  rw [h.here, splice_set (by rw [ints_length]; exact h.len) (by rw [ints_length]; exact hi)]
  congr 1
  simp [ints, List.map_set]
theorem Part.set {w : World} {b off : Nat} {c : List Value} {l : List Int} (h : Part w b off c l) {i : Nat} (hi : i < l.length) (x : Int) :
    Part (w.setCell ⟨b, off + i, none⟩ (.int .i64 x)) b off (c.set (off + i) (.int .i64 x)) (l.set i x) := by
  refine ⟨h.blk.set _ _, by simpa using h.len, ?_⟩
  have e : c.set (off + i) (.int .i64 x) = splice c off ((ints l).set i (.int .i64 x)) := by
    conv => lhs; rw [← splice_self (c := c) (off := off) (n := l.length) h.len]
    rw [h.here, splice_set (by rw [ints_length]; exact h.len) (by rw [ints_length]; exact hi)]
  rw [e]
  have e2 : (l.set i x).length = ((ints l).set i (.int .i64 x)).length := by simp [ints]
  rw [e2, splice_take (by simp [ints]; exact h.len)]
  simp [ints, List.map_set]
theorem Part.splice {w : World} {b off : Nat} {c : List Value} {l : List Int} (h : Part w b off c l) : c = splice c off (ints l) := by
  conv => lhs; rw [← splice_self (c := c) (off := off) (n := l.length) h.len]
  rw [h.here]
theorem Part.block {w w' : World} {b off : Nat} {c : List Value} {l : List Int} (h : Part w b off c l) (e : w'.heap[b]? = w.heap[b]?) : Part w' b off c l := ⟨h.blk.block e, h.len, h.here⟩
theorem Part.ext {w w' : World} {b off : Nat} {c : List Value} {l : List Int} (h : Part w b off c l) (e : Ext w w') : Part w' b off c l := ⟨h.blk.ext e, h.len, h.here⟩
theorem Part.of {w : World} {b off : Nat} {c : List Value} {l : List Int} (h : Blk w b 3 (Proofs.YtlgjddgajdjllaaGreat.splice c off (ints l))) (hl : off + l.length ≤ c.length) : Part w b off (Proofs.YtlgjddgajdjllaaGreat.splice c off (ints l)) l :=
  ⟨h, by rw [splice_length (by rw [ints_length]; exact hl)]; exact hl, by have := splice_take (c := c) (off := off) (xs := ints l) (by rw [ints_length]; exact hl); rwa [ints_length] at this⟩
theorem OwnI.part {w : World} {B b n cap : Nat} {l : List Int} (h : OwnI w B (.slice (some ⟨b, 0, none⟩) n cap) l) : ∃ rest, Part w b 0 (Proofs.YtlgjddgajdjllaaGreat.ints l ++ rest) l ∧ cap = l.length + rest.length ∧ n = l.length ∧ B ≤ b ∧ l.length + rest.length ≤ maxLen := by
  rcases h.own with ⟨h0, _⟩ | ⟨b', rest, h1, h2, h3, h4⟩
  · cases h0
  · cases h2
    exact ⟨rest, ⟨h3, by simp [Proofs.YtlgjddgajdjllaaGreat.ints], by simp [Proofs.YtlgjddgajdjllaaGreat.ints]⟩, rfl, rfl, h1, h4⟩
theorem OwnI.of_part {w : World} {B b : Nat} {l l' : List Int} {rest : List Value} (hb : B ≤ b) (h : Blk w b 3 (Proofs.YtlgjddgajdjllaaGreat.splice (Proofs.YtlgjddgajdjllaaGreat.ints l ++ rest) 0 (Proofs.YtlgjddgajdjllaaGreat.ints l'))) (hl : l'.length = l.length) (hm : l.length + rest.length ≤ maxLen) :
    OwnI w B (.slice (some ⟨b, 0, none⟩) l.length (l.length + rest.length)) l' := by
  refine ⟨.inr ⟨b, rest, hb, by rw [hl], ?_, by rw [hl]; exact hm⟩⟩
  have e : Proofs.YtlgjddgajdjllaaGreat.splice (Proofs.YtlgjddgajdjllaaGreat.ints l ++ rest) 0 (Proofs.YtlgjddgajdjllaaGreat.ints l') = Proofs.YtlgjddgajdjllaaGreat.ints l' ++ rest := by
    unfold Proofs.YtlgjddgajdjllaaGreat.splice
    rw [Nat.zero_add, ints_length, hl, List.take_zero, List.nil_append, List.drop_append, List.drop_of_length_le (by rw [ints_length]; omega), ints_length, Nat.sub_self, List.drop_zero, List.nil_append]
  rwa [e] at h
def mix (f x : List Int) (j : Nat) : List Int := f.take j ++ x.drop j
theorem mix_zero (f x : List Int) : mix f x 0 = x := by simp [mix]
theorem mix_all {f x : List Int} (h : f.length = x.length) : mix f x x.length = f := by simp [mix, ← h]
theorem mix_length {f x : List Int} (h : f.length = x.length) {j : Nat} (hj : j ≤ x.length) : (mix f x j).length = x.length := by simp [mix]; omega
theorem mix_get {f x : List Int} (h : f.length = x.length) {j : Nat} (hj : j < x.length) : (mix f x j)[j]? = x[j]? := by
  have e : (f.take j).length = j := by rw [List.length_take]; omega
  unfold mix
  rw [List.getElem?_append_right (by omega), e, Nat.sub_self, List.getElem?_drop, Nat.add_zero]
theorem mix_set {f x : List Int} (h : f.length = x.length) {j : Nat} {v : Int} (hv : f[j]? = some v) : (mix f x j).set j v = mix f x (j + 1) := by
  obtain ⟨hlt, rfl⟩ := List.getElem?_eq_some_iff.1 hv
  have e : (f.take j).length = j := by rw [List.length_take]; omega
  unfold mix
  rw [List.set_append_right _ _ (by omega), e, Nat.sub_self, List.take_succ_eq_append_getElem hlt, List.drop_eq_getElem_cons (by omega), List.set_cons_zero, List.append_assoc]
  rfl
theorem grown_cell {w w' : World} {b b2 o : Nat} {v : Value} (h : w.grownBy w' (some b)) (hne : b2 ≠ b) (hc : w.cell? ⟨b2, o, none⟩ = some v) : w'.cell? ⟨b2, o, none⟩ = some v :=
  h.cell hc (by simpa using hne)
theorem xc3 {w w' : World} {a0 a1 a2 : Addr} {v0 v1 v2 : Value} (e : Ext w w') (h0 : w.cell? a0 = some v0) (h1 : w.cell? a1 = some v1) (h2 : w.cell? a2 = some v2) : w'.cell? a0 = some v0 ∧ w'.cell? a1 = some v1 ∧ w'.cell? a2 = some v2 := ⟨e.cell h0, e.cell h1, e.cell h2⟩
theorem gc3 {w w' : World} {b : Nat} {q0 q1 q2 o0 o1 o2 : Nat} {v0 v1 v2 : Value} (g : w.grownBy w' (some b)) (n0 : q0 ≠ b) (h0 : w.cell? ⟨q0, o0, none⟩ = some v0) (n1 : q1 ≠ b) (h1 : w.cell? ⟨q1, o1, none⟩ = some v1) (n2 : q2 ≠ b) (h2 : w.cell? ⟨q2, o2, none⟩ = some v2) : w'.cell? ⟨q0, o0, none⟩ = some v0 ∧ w'.cell? ⟨q1, o1, none⟩ = some v1 ∧ w'.cell? ⟨q2, o2, none⟩ = some v2 := ⟨grown_cell g n0 h0, grown_cell g n1 h1, grown_cell g n2 h2⟩
theorem xc6 {w w' : World} {a0 a1 a2 a3 a4 a5 : Addr} {v0 v1 v2 v3 v4 v5 : Value} (e : Ext w w') (h0 : w.cell? a0 = some v0) (h1 : w.cell? a1 = some v1) (h2 : w.cell? a2 = some v2) (h3 : w.cell? a3 = some v3) (h4 : w.cell? a4 = some v4) (h5 : w.cell? a5 = some v5) : w'.cell? a0 = some v0 ∧ w'.cell? a1 = some v1 ∧ w'.cell? a2 = some v2 ∧ w'.cell? a3 = some v3 ∧ w'.cell? a4 = some v4 ∧ w'.cell? a5 = some v5 := ⟨e.cell h0, e.cell h1, e.cell h2, e.cell h3, e.cell h4, e.cell h5⟩
theorem gc6 {w w' : World} {b : Nat} {q0 q1 q2 q3 q4 q5 o0 o1 o2 o3 o4 o5 : Nat} {v0 v1 v2 v3 v4 v5 : Value} (g : w.grownBy w' (some b)) (n0 : q0 ≠ b) (h0 : w.cell? ⟨q0, o0, none⟩ = some v0) (n1 : q1 ≠ b) (h1 : w.cell? ⟨q1, o1, none⟩ = some v1) (n2 : q2 ≠ b) (h2 : w.cell? ⟨q2, o2, none⟩ = some v2) (n3 : q3 ≠ b) (h3 : w.cell? ⟨q3, o3, none⟩ = some v3) (n4 : q4 ≠ b) (h4 : w.cell? ⟨q4, o4, none⟩ = some v4) (n5 : q5 ≠ b) (h5 : w.cell? ⟨q5, o5, none⟩ = some v5) : w'.cell? ⟨q0, o0, none⟩ = some v0 ∧ w'.cell? ⟨q1, o1, none⟩ = some v1 ∧ w'.cell? ⟨q2, o2, none⟩ = some v2 ∧ w'.cell? ⟨q3, o3, none⟩ = some v3 ∧ w'.cell? ⟨q4, o4, none⟩ = some v4 ∧ w'.cell? ⟨q5, o5, none⟩ = some v5 := ⟨grown_cell g n0 h0, grown_cell g n1 h1, grown_cell g n2 h2, grown_cell g n3 h3, grown_cell g n4 h4, grown_cell g n5 h5⟩
theorem zip_get {f : Int → Int → Int} {x y : List Int} {j : Nat} {a b : Int} (ha : x[j]? = some a) (hb : y[j]? = some b) : (List.zipWith f x y)[j]? = some (f a b) := by
  simp [List.getElem?_zipWith, ha, hb]
section
variable {P : Program} (w : World)
theorem run_app (base : Nat) (t ty e : TypeId) (i : TypeInfo) (z : Value) (size bytes : Nat) (ht : P.underlying t = some (.slice e)) (hi : P.info? e = some i) (hz : i.zero = some z)
    (hsize : i.size = size) (hby : i.bytes = bytes) (hzs : z.cells.size = size) (hsz : 0 < size)
    (v : Value) (n : Nat) (xs : List Value) (hown : w.ownsRow base e size v n xs)
    (src : Value) (m : Nat) (news : List Value) (hr : Row w size src m news) (h1 : ∀ u ∈ news, u.oneCell' = true)
    (h63 : n + m ≤ maxLen) (hbytes : (n + m) * bytes ≤ 140737488355328) (hbase : base ≤ w.heap.size) :
    ∃ v' w', (Builtin.append_ #[t, t] ty #[v, src]).run P w = .ok v' w' ∧ w'.ownsRow base e size v' (n + m) (xs ++ news) ∧ w.grownBy w' v.ownBlock ∧
      (v'.ownBlock = v.ownBlock ∨ v'.ownBlock = some w.heap.size) := by
  obtain ⟨a, c, rfl, hmc, _, hcell⟩ := hr.val
  by_cases hm : m = 0
  · subst hm
    have hn : news = [] := List.eq_nil_of_length_eq_zero (by simpa using hr.len)
    subst hn
    cases a with
    | none =>
      refine ⟨v, w, ?_, by simpa using hown, grown_refl w _, .inl rfl⟩
      rcases hown.2 with ⟨rfl, rfl⟩ | ⟨g, cap, cur, rfl, _, _, hnc, _⟩
      · simp [Builtin.append_, run_underlying ht, sizeOf, typeInfo, hi, Builtin.lenOf, Builtin.firstCells]
      · simp [Builtin.append_, run_underlying ht, sizeOf, typeInfo, hi, Builtin.lenOf, Builtin.firstCells, hnc, storeCells]
    | some ad =>
      obtain ⟨v', w', hrun, h2, h3, _, h5⟩ := run_append_own_at (P := P) w base t ty e i z size bytes ht hi hz hsize hby hzs hsz v n xs hown ad 0 c [] (by simp) (by simp) h1 h63 hbytes hbase
      exact ⟨v', w', hrun, h2, h3, h5⟩
  · have hpos : 0 < news.length := by rw [hr.len]; exact Nat.mul_pos (by omega) hsz
    obtain ⟨b, off, rfl, hc⟩ := hcell hpos
    have hcells : ∀ j u, news[j]? = some u → w.cell? ((⟨b, off, none⟩ : Addr).add j) = some u := by
      intro j u hu
      have := hc j u hu
      have ea : (⟨b, off, none⟩ : Addr).add j = ⟨b, off + j, none⟩ := by unfold Addr.add; split <;> simp_all
      rw [ea]; exact this
    obtain ⟨v', w', hrun, h2, h3, _, h5⟩ := run_append_own_at (P := P) w base t ty e i z size bytes ht hi hz hsize hby hzs hsz v n xs hown ⟨b, off, none⟩ m c news hr.len hcells h1 h63 hbytes hbase
    exact ⟨v', w', hrun, h2, h3, h5⟩
theorem wpList_app {ops : Array Oper} {rest : List Oper} {o : Oper} {a : Act} {Q : Exit → Act → World → Prop} (hgd : o.guard = none) (s x : Operand) (t : TypeId)
    (ho : o.op = .call { callee := .builtin .append, args := #[s, x], argTypes := #[t, t] }) (v src : Value) (hs : a.eval s = v) (hx : a.eval x = src) (R : Value → World → Prop)
    (hrun : ∃ v' w', (Builtin.append_ #[t, t] o.type #[v, src]).run P w = .ok v' w' ∧ R v' w')
    (h : ∀ v' w', R v' w' → wpList P ops Q rest (a.put o.dst v') w') : wpList P ops Q (o :: rest) a w := by
  obtain ⟨v', w', hr, hR⟩ := hrun
  refine wpList_plain hgd fun K hK => ?_
  unfold Oper.wp execOp
  simp only [ho, resolve, invoke, builtin, Sem.run_bind, Sem.run_pure, Result.andThen_ok, List.map_toArray, List.map_cons, List.map_nil, hs, hx, hr]
  exact hK _ _ (h v' w' hR)
end
theorem OwnI.owns {w : World} {B : Nat} {v : Value} {l : List Int} (h : OwnI w B v l) : w.ownsRow B 3 1 v l.length (Proofs.YtlgjddgajdjllaaGreat.ints l) := by
  refine ⟨by simp [Proofs.YtlgjddgajdjllaaGreat.ints], ?_⟩
  rcases h.own with ⟨rfl, rfl⟩ | ⟨b, rest, h1, rfl, h3, h4⟩
  · exact .inl ⟨rfl, rfl⟩
  · refine .inr ⟨b, _, _, rfl, h1, h3.row, by omega, h4, by simp [Proofs.YtlgjddgajdjllaaGreat.ints], ?_⟩
    simp [Proofs.YtlgjddgajdjllaaGreat.ints]
theorem OwnI.of_owns {w : World} {B n : Nat} {v : Value} {l : List Int} (h : w.ownsRow B 3 1 v n (Proofs.YtlgjddgajdjllaaGreat.ints l)) : OwnI w B v l := by
  obtain ⟨hl, h⟩ := h
  simp [Proofs.YtlgjddgajdjllaaGreat.ints] at hl
  subst hl
  rcases h with ⟨rfl, h0⟩ | ⟨g, cap, cur, rfl, hb, hg, hn, hm, hs, ht⟩
  · exact ⟨.inl ⟨rfl, List.eq_nil_of_length_eq_zero h0⟩⟩
  · have e : cur.toList = Proofs.YtlgjddgajdjllaaGreat.ints l ++ cur.toList.drop l.length := by
      rw [Nat.mul_one] at ht
      rw [← ht, List.take_append_drop]
    have hr : (cur.toList.drop l.length).length = cap - l.length := by simp [hs]
    refine ⟨.inr ⟨g, cur.toList.drop l.length, hb, by rw [hr]; congr 1; omega, ⟨by rw [← e]; simpa using hg⟩, by rw [hr]; omega⟩⟩
theorem run_app_ints (ty : TypeId) (w : World) (B : Nat) (v src : Value) (xs ys : List Int) (hv : OwnI w B v xs) (hs : IntS w src ys) (hb : xs.length + ys.length ≤ 1099511627776) (hB : B ≤ w.heap.size) :
    ∃ v' w', (Builtin.append_ #[27, 27] ty #[v, src]).run Tryz.prog w = .ok v' w' ∧ (OwnI w' B v' (xs ++ ys) ∧ w.grownBy w' v.ownBlock ∧ (v'.ownBlock = v.ownBlock ∨ v'.ownBlock = some w.heap.size)) := by
  obtain ⟨i, hi, hzz⟩ := Option.map_eq_some_iff.1 Tryz.infoInt
  simp only [Prod.mk.injEq] at hzz
  obtain ⟨hz, hsz, hby⟩ := hzz
  obtain ⟨v', w', h1, h2, h3, h4⟩ := run_app (P := Tryz.prog) w B 27 ty 3 i (.int .i64 0) 1 8 Tryz.underlying27 hi hz hsz hby rfl (by omega) v _ _ hv.owns src ys.length (ints ys) hs.row
    (by intro u hu; simp [ints] at hu; obtain ⟨x, _, rfl⟩ := hu; rfl) (by unfold maxLen; omega) (by omega) hB
  exact ⟨v', w', h1, OwnI.of_owns (by rw [ints_append]; exact h2), h3, h4⟩
theorem IntS.one (w : World) (x : Int) : IntS (w.alloc (.cells #[.int .i64 x] 3)) (.slice (some ⟨w.heap.size, 0, none⟩) 1 1) [x] := by
  refine ⟨⟨rfl, some ⟨w.heap.size, 0, none⟩, 1, rfl, Nat.le_refl _, by unfold maxLen; omega, fun _ => ⟨_, 0, rfl, fun j u hj => ?_⟩⟩⟩
  match j, hj with
  | 0, hj => simp [ints] at hj; subst hj; simp
  | j + 1, hj => simp [ints] at hj
theorem copyInts_any (v : Value) (l : List Int) (w : World) (hl : IntS w v l) (hlen : l.length ≤ 1099511627776) : Calls Tryz.prog 58 #[v] w fun e w' =>
 ∃ v', e = .returned v' ∧ OwnI w' w.heap.size v' l ∧ Ext w w' := by
 obtain ⟨a, cap, rfl, hc1, hc2⟩ := hl.val
 go_enter Tryz.func58, Tryz.ntmps58
 go_wp2_with (at_builtin; refine wpList_app _ rfl _ _ 27 rfl _ _ rfl rfl _ (run_app_ints _ w w.heap.size (.slice none 0 0) _ [] l (OwnI.nil _ _) hl (by simpa using hlen) (Nat.le_refl _)) ?_; rintro v1 w1 ⟨o1, g1, _⟩)
 go_ret
 exact ⟨_, rfl, o1, ⟨(Below.refl _ _).grown g1 (Nat.le_refl _) (by simp [Value.ownBlock])⟩⟩
structure Turn (lo hi : Nat) (w w' : World) : Prop where
  os : w'.os = w.os
  tape : w'.tape = w.tape
  output : w'.output = w.output
  size : w.heap.size ≤ w'.heap.size
  block : ∀ k, k < w.heap.size → (k < lo ∨ hi ≤ k) → w'.heap[k]? = w.heap[k]?
theorem Turn.trans {lo hi : Nat} {a b c : World} (h : Turn lo hi a b) (k : Turn lo hi b c) : Turn lo hi a c :=
  ⟨k.os.trans h.os, k.tape.trans h.tape, k.output.trans h.output, Nat.le_trans h.size k.size, fun i hi ho => (k.block i (Nat.lt_of_lt_of_le hi h.size) ho).trans (h.block i hi ho)⟩
structure TenS (w : World) (v : Value) (L D X : List Int) : Prop where
  val : ∃ a b c, v = .agg #[a, b, c] ∧ IntS w a L ∧ IntS w b D ∧ IntS w c X
theorem TenS.ext {w w' : World} {v : Value} {L D X : List Int} (h : TenS w v L D X) (e : Ext w w') : TenS w' v L D X := by
  obtain ⟨a, b, c, rfl, h1, h2, h3⟩ := h.val
  exact ⟨a, b, c, rfl, h1.ext e, h2.ext e, h3.ext e⟩
structure OwnT (w : World) (B : Nat) (v : Value) (L D X : List Int) : Prop where
  val : ∃ a b c, v = .agg #[a, b, c] ∧ OwnI w B a L ∧ OwnI w B b D ∧ OwnI w B c X ∧ (∀ k, a.ownBlock = some k → b.ownBlock ≠ some k ∧ c.ownBlock ≠ some k) ∧ (∀ k, b.ownBlock = some k → c.ownBlock ≠ some k)
theorem OwnT.ext {w w' : World} {B : Nat} {v : Value} {L D X : List Int} (h : OwnT w B v L D X) (e : Ext w w') : OwnT w' B v L D X := by
  obtain ⟨a, b, c, rfl, h1, h2, h3, h4⟩ := h.val
  exact ⟨a, b, c, rfl, h1.ext e, h2.ext e, h3.ext e, h4⟩
theorem OwnT.mono {w : World} {B B' : Nat} {v : Value} {L D X : List Int} (h : OwnT w B v L D X) (e : B' ≤ B) : OwnT w B' v L D X := by
  obtain ⟨a, b, c, rfl, h1, h2, h3, h4⟩ := h.val
  exact ⟨a, b, c, rfl, h1.mono e, h2.mono e, h3.mono e, h4⟩
theorem OwnT.tens {w : World} {B : Nat} {v : Value} {L D X : List Int} (h : OwnT w B v L D X) : TenS w v L D X := by
  obtain ⟨a, b, c, rfl, h1, h2, h3, h4⟩ := h.val
  exact ⟨a, b, c, rfl, h1.ints, h2.ints, h3.ints⟩
theorem OwnT.data {w : World} {B : Nat} {v : Value} {X : List Int} (h : OwnI w B v X) : OwnT w B (.agg #[.slice none 0 0, .slice none 0 0, v]) [] [] X :=
  ⟨_, _, _, rfl, OwnI.nil _ _, OwnI.nil _ _, h, by simp [Value.ownBlock], by simp [Value.ownBlock]⟩
theorem TenS.shape {w : World} {v : Value} {L D X : List Int} (h : TenS w v L D X) : ∃ p1 n1 c1 p2 n2 c2 p3 n3 c3, v = .agg #[.slice p1 n1 c1, .slice p2 n2 c2, .slice p3 n3 c3] := by
  obtain ⟨a, b, c, rfl, h1, h2, h3⟩ := h.val
  obtain ⟨x1, y1, rfl, _, _⟩ := h1.val
  obtain ⟨x2, y2, rfl, _, _⟩ := h2.val
  obtain ⟨x3, y3, rfl, _, _⟩ := h3.val
  exact ⟨_, _, _, _, _, _, _, _, _, rfl⟩
theorem OwnT.shape {w : World} {B : Nat} {v : Value} {L D X : List Int} (h : OwnT w B v L D X) : ∃ p1 n1 c1 p2 n2 c2 p3 n3 c3, v = .agg #[.slice p1 n1 c1, .slice p2 n2 c2, .slice p3 n3 c3] := h.tens.shape
theorem beqF {a b : Nat} (h : a ≠ b) : (a == b) = false := by rw [beq_eq_false_iff_ne]; exact h
def updB (b : Nat → Bool) (i j : Nat) : Bool := bif j == i then true else b j
def updV (t : Nat → Value) (i : Nat) (v : Value) (j : Nat) : Value := bif j == i then v else t j
section
variable {P : Program} {ops : Array Oper} {Q : Exit → Act → World → Prop}
def putAll (a : Act) : Nat → List Oper → (Nat → Value) → Act
  | _, [], _ => a
  | i, o :: l, t => putAll (a.put o.dst (t i)) (i + 1) l t
def edge (l : List Oper) (j i : Nat) : Bool := match l[j]? with
  | some o => o.after.toList.any fun e => Region.binds .any e && Nat.beq e.on i
  | none => false
theorem edge_of {l : List Oper} {j : Nat} {o : Oper} {e : Edge} (h : l[j]? = some o) (he : e ∈ o.after.toList) (hb : Region.binds .any e = true) : edge l j e.on = true := by
  unfold edge
  rw [h]
  simp only [List.any_eq_true]
  exact ⟨e, he, by rw [hb, Nat.beq_refl]; rfl⟩
theorem edge_spec {l : List Oper} {j i : Nat} (h : edge l j i = true) : ∃ o e, l[j]? = some o ∧ e ∈ o.after.toList ∧ Region.binds .any e = true ∧ e.on = i := by
  unfold edge at h
  split at h
  · rename_i o ho
    simp only [List.any_eq_true, Bool.and_eq_true] at h
    obtain ⟨e, he, h1, h2⟩ := h
    exact ⟨o, e, ho, he, h1, Nat.eq_of_beq_eq_true h2⟩
  · cases h
def Closed (l : List Oper) (b : Nat → Bool) : Prop := ∀ j i, edge l j i = true → b j = true → b i = true
theorem so {l : List Oper} {i : Nat} {b : Nat → Bool} (h : Shut (∀ j, edge l i j = true → b j = true)) (j : Nat) (e : edge l i j = true := by kernel_rfl) : b j = true := h.out j e
theorem sc {l : List Oper} {b : Nat → Bool} (h : Shut (Closed l b)) (j i : Nat) (hj : b j = true) (e : edge l j i = true := by kernel_rfl) : b i = true := h.out j i e hj
theorem nf {b : Nat → Bool} {i j : Nat} (hb : b i = false) (f : b j = true → b i = true) : b j = false := Bool.eq_false_iff.2 fun h => absurd (f h) (by rw [hb]; exact Bool.false_ne_true)
theorem ab {c : Bool} {p : Prop} (n : c = false) (h : c = true) : p := absurd h (by rw [n]; exact Bool.false_ne_true)
theorem jA {a b c : Prop} (f : b → c) (h : a ∧ b) : a ∧ c := ⟨h.1, f h.2⟩
theorem jB {a b c d : Prop} (f : c → d) (h : a ∧ b ∧ c) : a ∧ b ∧ d := ⟨h.1, h.2.1, f h.2.2⟩
theorem jD {a b c d e g : Prop} (f : e → g) (h : a ∧ b ∧ c ∧ d ∧ e) : a ∧ b ∧ c ∧ d ∧ g := ⟨h.1, h.2.1, h.2.2.1, h.2.2.2.1, f h.2.2.2.2⟩
theorem sk {V W A : Type} {J : V → W → Prop} {E : A → V → Prop} {K : A → W → Prop} (h : Shut (∀ a v w, J v w → E a v → K a w)) {a : A} {v : V} {w : W} (e : E a v) (j : J v w) : K a w := h.out a v w j e
theorem rp {a c b : Prop} (x : c) (h : a ∧ b) : c ∧ b := ⟨x, h.2⟩
def StepOk (P : Program) (ops : Array Oper) (l0 : List Oper) (Q : Exit → Act → World → Prop) (F : (Nat → Value) → Act) (J : (Nat → Bool) → (Nat → Value) → World → Prop) (i : Nat) (o : Oper) : Prop :=
  ∀ b t w, J b t w → b i = false → Shut (∀ j, edge l0 i j = true → b j = true) → Shut (Closed l0 b) →
    ∀ K : Act → World → Prop, Shut (∀ a' v w', J (updB b i) (updV t i v) w' → a' = (F t).put o.dst v → K a' w') →
      if Region.wanted o (yielded ops (F t).tmps) = true then Oper.wp P o (F t) w K Q else K ((F t).put o.dst undef) w
def AllSteps (P : Program) (ops : Array Oper) (l0 : List Oper) (Q : Exit → Act → World → Prop) (F : (Nat → Value) → Act) (J : (Nat → Bool) → (Nat → Value) → World → Prop) : Nat → List Oper → Prop
  | _, [] => True
  | i, o :: l => StepOk P ops l0 Q F J i o ∧ AllSteps P ops l0 Q F J (i + 1) l
theorem AllSteps.nil {l0 : List Oper} {F : (Nat → Value) → Act} {J : (Nat → Bool) → (Nat → Value) → World → Prop} {i : Nat} : AllSteps P ops l0 Q F J i [] := trivial
theorem AllSteps.cons {l0 : List Oper} {F : (Nat → Value) → Act} {J : (Nat → Bool) → (Nat → Value) → World → Prop} {i j : Nat} {o : Oper} {l : List Oper} (hj : i + 1 = j) (h : StepOk P ops l0 Q F J i o) (hs : AllSteps P ops l0 Q F J j l) : AllSteps P ops l0 Q F J i (o :: l) := ⟨h, hj ▸ hs⟩
theorem st {l0 : List Oper} {F : (Nat → Value) → Act} {J : (Nat → Bool) → (Nat → Value) → World → Prop} {i : Nat} (j : Nat) {o : Oper} {l : List Oper} (hj : i + 1 = j) (h : StepOk P ops l0 Q F J i o) (hs : AllSteps P ops l0 Q F J j l) : AllSteps P ops l0 Q F J i (o :: l) := ⟨h, hj ▸ hs⟩
theorem AllSteps.get {l0 : List Oper} {F : (Nat → Value) → Act} {J : (Nat → Bool) → (Nat → Value) → World → Prop} : ∀ {l : List Oper} {i k : Nat} {o : Oper}, AllSteps P ops l0 Q F J i l → l[k]? = some o → StepOk P ops l0 Q F J (i + k) o
  | [], _, _, _, _, h => by simp at h
  | x :: l, i, 0, o, hs, h => by simp at h; subst h; exact hs.1
  | x :: l, i, k + 1, o, hs, h => by
    have := AllSteps.get hs.2 (k := k) (by simpa using h)
    rwa [show i + 1 + k = i + (k + 1) by omega] at this
def backGo (seen : List Tmp) : Nat → List Oper → Bool
  | _, [] => true
  | i, o :: l => (o.after.toList.all fun e => !Region.binds .any e || Nat.blt e.on i) && (match o.dst with | some d => !seen.contains d && backGo (d :: seen) (i + 1) l | none => backGo seen (i + 1) l)
theorem backGo.edge : ∀ {l : List Oper} {i k : Nat} {o : Oper} {seen : List Tmp} {e : Edge}, backGo seen i l = true → l[k]? = some o → e ∈ o.after.toList → Region.binds .any e = true → e.on < i + k
  | [], _, _, _, _, _, _, h, _, _ => by simp at h
  | x :: l, i, 0, o, seen, e, hs, h, he, hb => by
    simp at h; subst h
    simp only [backGo, Bool.and_eq_true, List.all_eq_true] at hs
    have := hs.1 e he
    simp [hb] at this
    simpa using this
  | x :: l, i, k + 1, o, seen, e, hs, h, he, hb => by
    simp only [backGo, Bool.and_eq_true] at hs
    have h2 : ∃ s, backGo s (i + 1) l = true := by
      have := hs.2
      split at this
      · simp at this; exact ⟨_, this.2⟩
      · exact ⟨_, this⟩
    obtain ⟨s, h2⟩ := h2
    have := backGo.edge h2 (k := k) (by simpa using h) he hb
    omega
theorem put_same (a : Act) (d : Option Tmp) (v : Value) (h : ∀ d', d = some d' → d' < a.tmps.size → a.tmps[d']? = some v) : a.put d v = a := by
  cases d with
  | none => rfl
  | some d =>
    unfold Act.put
    have : a.tmps.setIfInBounds d v = a.tmps := by
      apply Array.ext_getElem?
      intro i
      by_cases e : d = i
      · subst e
        by_cases hlt : d < a.tmps.size
        · rw [h d rfl hlt]; simp [hlt]
        · simp [Array.setIfInBounds, hlt]
      · rw [Array.getElem?_setIfInBounds_ne e]
    simp only [this]
def oldAt (a : Act) (l : List Oper) (i : Nat) : Value := match (l[i]?).bind (·.dst) with | some d => (a.tmps[d]?).getD undef | none => undef
theorem putAll_old (a : Act) (l0 : List Oper) : ∀ (l : List Oper) (i : Nat), (∀ k, l[k]? = l0[i + k]?) → putAll a i l (oldAt a l0) = a
  | [], _, _ => rfl
  | o :: l, i, h => by
    have e : a.put o.dst (oldAt a l0 i) = a := by
      apply put_same
      intro d hd hlt
      have h0 := h 0
      simp at h0
      unfold oldAt
      rw [← h0]
      simp [hd, hlt]
    unfold putAll
    rw [e]
    refine putAll_old a l0 l (i + 1) fun k => ?_
    have := h (k + 1)
    rw [show i + 1 + k = i + (k + 1) by omega, ← this]; simp
theorem put_comm' (a : Act) {x : Option Tmp} {d : Tmp} (v u : Value) (h : x ≠ some d) : (a.put x v).put (some d) u = (a.put (some d) u).put x v := by
  cases x with
  | none => rfl
  | some y => exact Act.put_comm a v u (fun z hz => by intro e; exact h (by rw [hz, ← e]))
theorem putAll_put : ∀ (l : List Oper) (a : Act) (i : Nat) (t : Nat → Value) (d : Tmp) (v : Value), (∀ o ∈ l, o.dst ≠ some d) → (putAll a i l t).put (some d) v = putAll (a.put (some d) v) i l t
  | [], _, _, _, _, _, _ => rfl
  | o :: l, a, i, t, d, v, h => by
    unfold putAll
    rw [putAll_put l _ _ t d v (fun x hx => h x (by simp [hx])), put_comm' _ _ _ (h o (by simp))]
theorem putAll_congr : ∀ (l : List Oper) (a : Act) (i : Nat) (t u : Nat → Value), (∀ k, k < l.length → t (i + k) = u (i + k)) → putAll a i l t = putAll a i l u
  | [], _, _, _, _, _ => rfl
  | o :: l, a, i, t, u, h => by
    unfold putAll
    have h0 := h 0 (by simp)
    rw [Nat.add_zero] at h0
    rw [h0, putAll_congr l _ (i + 1) t u fun k hk => by have := h (k + 1) (by simp; omega); rwa [show i + 1 + k = i + (k + 1) by omega]]
theorem backGo.fresh : ∀ {l : List Oper} {i : Nat} {seen : List Tmp} {d : Tmp}, backGo seen i l = true → d ∈ seen → ∀ o ∈ l, o.dst ≠ some d
  | [], _, _, _, _, _, _, h => by simp at h
  | x :: l, i, seen, d, hs, hd, o, ho => by
    simp only [backGo, Bool.and_eq_true] at hs
    have h2 := hs.2
    cases hx : x.dst with
    | none =>
      rw [hx] at h2
      rcases List.mem_cons.1 ho with rfl | ho
      · rw [hx]; simp
      · exact backGo.fresh h2 hd o ho
    | some y =>
      rw [hx] at h2
      simp at h2
      rcases List.mem_cons.1 ho with rfl | ho
      · rw [hx]; intro e; cases e; exact h2.1 hd
      · exact backGo.fresh h2.2 (by simp [hd]) o ho
theorem putAll_upd : ∀ {l : List Oper} {a : Act} {i k : Nat} {t : Nat → Value} {v : Value} {o : Oper} {seen : List Tmp}, backGo seen i l = true → l[k]? = some o →
    (putAll a i l t).put o.dst v = putAll a i l (updV t (i + k) v)
  | [], _, _, _, _, _, _, _, _, h => by simp at h
  | x :: l, a, i, 0, t, v, o, seen, hs, h => by
    simp at h; subst h
    have hc : putAll (a.put x.dst (t i)) (i + 1) l (updV t i v) = putAll (a.put x.dst (t i)) (i + 1) l t := putAll_congr l _ _ _ _ fun k _ => by
      unfold updV
      have : (i + 1 + k == i) = false := beqF (by omega)
      rw [this]; rfl
    simp only [backGo, Bool.and_eq_true] at hs
    have h2 := hs.2
    unfold putAll
    simp only [Nat.add_zero]
    have hi : updV t i v i = v := by unfold updV; rw [beq_self_eq_true]; rfl
    rw [hi]
    cases hx : x.dst with
    | none =>
      rw [hx] at hc
      exact hc.symm
    | some d =>
      rw [hx] at h2 hc
      simp at h2
      have hfr := backGo.fresh h2.2 (d := d) (by simp)
      rw [← hc, putAll_put l _ _ _ _ _ hfr]
      congr 1
      simp [Act.put]
  | x :: l, a, i, k + 1, t, v, o, seen, hs, h => by
    have h2 : ∃ s, backGo s (i + 1) l = true := by
      simp only [backGo, Bool.and_eq_true] at hs
      have := hs.2
      split at this
      · simp at this; exact ⟨_, this.2⟩
      · exact ⟨_, this⟩
    obtain ⟨s, h2⟩ := h2
    have := putAll_upd h2 (a := a.put x.dst (t i)) (t := t) (v := v) (k := k) (by simpa using h)
    unfold putAll
    rw [this]
    have hi : updV t (i + (k + 1)) v i = t i := by
      unfold updV
      have : (i == i + (k + 1)) = false := beqF (by omega)
      rw [this]; rfl
    rw [hi, show i + 1 + k = i + (k + 1) by omega]
theorem all_listed {l : List Oper} {seen : List Tmp} {listed : Array Bool} (hb : backGo seen 0 l = true) (hz : listed.size = l.length) (hr : Region.ready .any l.toArray listed = []) :
    ∀ i, i < l.length → listed.getD i false = true := by
  intro i
  induction i using Nat.strongRecOn with
  | ind i ih =>
    intro hi
    by_cases h : listed.getD i false = true
    · exact h
    · exfalso
      have h' : listed.getD i true = false := by
        have : i < listed.size := by omega
        simp [this] at h ⊢
        exact h
      have : i ∈ Region.ready .any l.toArray listed := mem_ready.2 ⟨h', l[i], by simp [hi], fun e he hbe => by
        have hlt := backGo.edge hb (k := i) (o := l[i]) (by simp [hi]) (by simpa using he) hbe
        exact ih e.on (by omega) (by omega)⟩
      rw [hr] at this
      cases this
theorem wpAny_steps {l : List Oper} {a0 : Act} {J : (Nat → Bool) → (Nat → Value) → World → Prop} (hb : backGo [] 0 l = true)
    (hs : AllSteps P l.toArray l Q (putAll a0 0 l) J 0 l) (hend : ∀ b t w, J b t w → (∀ i, i < l.length → b i = true) → Q .normal (putAll a0 0 l t) w) :
    ∀ (fuel : Nat) (listed : Array Bool) (t : Nat → Value) (w : World), listed.size = l.length → (List.range l.length).countP (fun i => !listed.getD i true) ≤ fuel →
      Closed l (fun i => listed.getD i false) → J (fun i => listed.getD i false) t w → wpAny P .any l.toArray Q fuel listed (putAll a0 0 l t) w := by
  intro fuel
  induction fuel with
  | zero =>
    intro listed t w hz hf hcl hJ
    have hall : ∀ i, i < l.length → listed.getD i false = true := by
      intro i hi
      have h0 : (List.range l.length).countP (fun i => !listed.getD i true) = 0 := by omega
      rw [List.countP_eq_zero] at h0
      have := h0 i (by simp [hi])
      have hi2 : i < listed.size := by omega
      simp [hi2] at this ⊢
      exact this
    refine ⟨?_, hend _ t w hJ hall⟩
    unfold Region.ready
    rw [List.filter_eq_nil_iff]
    intro i hi
    have h1 := hall i (by simpa using hi)
    have hi2 : i < listed.size := by simp at hi; omega
    simp [hi2] at h1 ⊢
    intro h; rw [h1] at h; cases h
  | succ fuel ih =>
    intro listed t w hz hf hcl hJ
    refine ⟨fun hr => hend _ t w hJ (all_listed hb hz hr), fun i hi => ?_⟩
    obtain ⟨hu, o, ho, hall⟩ := mem_ready.1 hi
    have hol : l[i]? = some o := by simpa using ho
    have hil : i < l.length := (List.getElem?_eq_some_iff.1 hol).1
    have hu' : listed.getD i false = false := by
      have : i < listed.size := by omega
      simp [this] at hu ⊢; exact hu
    have st := hs.get hol
    rw [Nat.zero_add] at st
    refine wpOp_step ho fun K hK => ?_
    have hd : ∀ j, edge l i j = true → listed.getD j false = true := fun j hj => by
      obtain ⟨o', e, ho', he, hbe, rfl⟩ := edge_spec hj
      rw [hol] at ho'
      cases ho'
      exact hall e (by simpa using he) hbe
    refine st _ t w hJ hu' hd hcl K (fun a' v w' hJ' ha' => ha' ▸ hK _ _ ?_)
    rw [putAll_upd hb hol, Nat.zero_add]
    have hupd : (fun j => (listed.setIfInBounds i true).getD j false) = updB (fun j => listed.getD j false) i := by
      funext j
      unfold updB
      by_cases e : j = i
      · subst e
        have : j < listed.size := by omega
        rw [beq_self_eq_true]; simp [this]
      · have e2 : (j == i) = false := beqF e
        rw [e2]; simp [Array.getElem?_setIfInBounds_ne (Ne.symm e)]
    refine ih _ _ w' (by simpa using hz) ?_ ?_ ?_
    · have hlt : (List.range l.length).countP (fun j => !(listed.setIfInBounds i true).getD j true) < (List.range l.length).countP (fun j => !listed.getD j true) := by
        have key : ∀ L : List Nat, i ∈ L → L.countP (fun j => !(listed.setIfInBounds i true).getD j true) < L.countP (fun j => !listed.getD j true) := by
          have le : ∀ L : List Nat, L.countP (fun j => !(listed.setIfInBounds i true).getD j true) ≤ L.countP (fun j => !listed.getD j true) := fun L =>
            List.countP_mono_left fun j _ hj => by
              by_cases e : i = j
              · subst e
                have : i < listed.size := by omega
                simp [this] at hj
              · simpa [Array.getElem?_setIfInBounds_ne e] using hj
          intro L
          induction L with
          | nil => intro h; cases h
          | cons x L ihL =>
            intro hm
            rw [List.countP_cons, List.countP_cons]
            by_cases e : x = i
            · subst e
              have : x < listed.size := by omega
              have e1 : (!(listed.setIfInBounds x true).getD x true) = false := by simp [this]
              have e2 : (!listed.getD x true) = true := by rw [hu]; rfl
              rw [e1, e2]
              have := le L
              rw [if_neg (by simp), if_pos rfl]; omega
            · have e1 : (!(listed.setIfInBounds i true).getD x true) = (!listed.getD x true) := by
                simp [Array.getElem?_setIfInBounds_ne (Ne.symm e)]
              rw [e1]
              have := ihL (by rcases List.mem_cons.1 hm with h | h; exact absurd h.symm e; exact h)
              omega
        exact key _ (by simp [hil])
      omega
    · rw [hupd]
      intro j k hjk hj
      unfold updB at hj ⊢
      by_cases ek : k = i
      · subst ek; rw [beq_self_eq_true]; rfl
      · rw [beqF ek]
        by_cases ej : j = i
        · subst ej; exact hd k hjk
        · rw [beqF ej] at hj; exact hcl j k hjk hj
    · rw [hupd]; exact hJ'
theorem wp_region_steps {id : Nat} {l : List Oper} {a0 : Act} {w : World} (F : (Nat → Value) → Act) (J : (Nat → Bool) → (Nat → Value) → World → Prop)
    (hF : ∀ t, putAll a0 0 l t = F t) (hm : P.follows .mixedOrders = true) (hb : backGo [] 0 l = true) (hJ : J (fun _ => false) (oldAt a0 l) w.drew)
    (hs : AllSteps P l.toArray l Q F J 0 l) (hend : ∀ b t w, J b t w → (∀ i, i < l.length → b i = true) → Q .normal (F t) w) : (Code.region id l.toArray true).wp P Q a0 w := by
  obtain rfl : putAll a0 0 l = F := funext hF
  refine wp_region_any hm ?_
  have h0 : (fun i => (Array.replicate l.length false).getD i false) = fun _ => false := by
    funext i
    by_cases hi : i < l.length <;> simp [hi]
  have h := wpAny_steps (P := P) (Q := Q) hb hs hend l.length (Array.replicate l.length false) (oldAt a0 l) w.drew (by simp) (by have := List.countP_le_length (p := fun i => !(Array.replicate l.length false).getD i true) (l := List.range l.length); simpa using this)
    (by rw [h0]; intro j i _ h; cases h) (by rw [h0]; exact hJ)
  rw [putAll_old a0 l l 0 (fun k => by rw [Nat.zero_add])] at h
  simpa using h
end
def cells3 (c : Value × Value × Value) : List Value := [c.1, c.2.1, c.2.2]
theorem cells3_get : ∀ {cs : List (Value × Value × Value)} {i : Nat} {c : Value × Value × Value}, cs[i]? = some c →
    (cs.flatMap cells3)[3 * i]? = some c.1 ∧ (cs.flatMap cells3)[3 * i + 1]? = some c.2.1 ∧ (cs.flatMap cells3)[3 * i + 2]? = some c.2.2
  | [], i, c, h => by simp at h
  | a :: cs, 0, c, h => by
    simp at h; subst h
    simp [cells3]
  | a :: cs, i + 1, c, h => by
    have ih := cells3_get (cs := cs) (i := i) (c := c) (by simpa using h)
    have e : (a :: cs).flatMap cells3 = a.1 :: a.2.1 :: a.2.2 :: cs.flatMap cells3 := by simp [cells3]
    rw [e]
    have e1 : 3 * (i + 1) = 3 * i + 1 + 1 + 1 := by omega
    rw [e1]
    exact ih
structure TensS (w : World) (v : Value) (ts : List (List Int × List Int × List Int)) : Prop where
  has : ∃ cs : List (Value × Value × Value), cs.length = ts.length ∧ Row w 3 v ts.length (cs.flatMap cells3) ∧
    ∀ (i : Nat) (c : Value × Value × Value) (t : List Int × List Int × List Int), cs[i]? = some c → ts[i]? = some t → IntS w c.1 t.1 ∧ IntS w c.2.1 t.2.1 ∧ IntS w c.2.2 t.2.2
theorem TensS.ext {w w' : World} {v : Value} {ts : List (List Int × List Int × List Int)} (h : TensS w v ts) (e : Ext w w') : TensS w' v ts := by
  obtain ⟨cs, a, b, c⟩ := h.has
  exact ⟨cs, a, b.ext e, fun i x t h1 h2 => ⟨(c i x t h1 h2).1.ext e, (c i x t h1 h2).2.1.ext e, (c i x t h1 h2).2.2.ext e⟩⟩
theorem TensS.val {w : World} {v : Value} {ts : List (List Int × List Int × List Int)} (h : TensS w v ts) : ∃ a cap, v = .slice a ts.length cap ∧ ts.length ≤ cap ∧ cap ≤ 9223372036854775807 := by
  obtain ⟨cs, _, hr, _⟩ := h.has
  obtain ⟨a, cap, hv, h1, h2, _⟩ := hr.val
  exact ⟨a, cap, hv, h1, h2⟩
theorem TensS.get {w : World} {a : Option Addr} {n cap : Nat} {ts : List (List Int × List Int × List Int)} (h : TensS w (.slice a n cap) ts) {i : Nat} (hi : i < ts.length) :
    ∃ b off x y z t, a = some ⟨b, off, none⟩ ∧ w.cell? ⟨b, off + 3 * i, none⟩ = some x ∧ w.cell? ⟨b, off + 3 * i + 1, none⟩ = some y ∧ w.cell? ⟨b, off + 3 * i + 2, none⟩ = some z ∧ ts[i]? = some t ∧ TenS w (.agg #[x, y, z]) t.1 t.2.1 t.2.2 := by
  obtain ⟨cs, hl, hr, hs⟩ := h.has
  obtain ⟨a', cap', hv, _, _, h3⟩ := hr.val
  cases hv
  obtain ⟨b, off, ha, hc⟩ := h3 (by rw [hr.len]; omega)
  have hci : cs[i]? = some cs[i] := List.getElem?_eq_getElem (by omega)
  have hti : ts[i]? = some ts[i] := List.getElem?_eq_getElem hi
  obtain ⟨g1, g2, g3⟩ := cells3_get hci
  obtain ⟨s1, s2, s3⟩ := hs i _ _ hci hti
  refine ⟨b, off, _, _, _, ts[i], ha, hc _ _ g1, ?_, ?_, hti, _, _, _, rfl, s1, s2, s3⟩
  · have := hc _ _ g2; rw [← Nat.add_assoc] at this; exact this
  · have := hc _ _ g3; rw [← Nat.add_assoc] at this; exact this
theorem in_any (n a b : Int) (w : World) : Calls Tryz.prog 104 #[.int .i64 n, .int .i64 a, .int .i64 b] w fun e w' =>
 e = .returned (.bool (decide (a ≤ n) && decide (n ≤ b))) ∧ w = w' := by
 by_cases h1 : a ≤ n <;> by_cases h2 : n ≤ b
 all_goals
  go_enter Tryz.func104, Tryz.ntmps104
  go_wp2
  go_ret
  exact ⟨by simp [h1, h2], rfl⟩
set_option maxHeartbeats 400000 in
theorem isPrime_impl (n : Int) (w : World) : Calls Tryz.prog 90 #[.int .i64 n] w fun e w' =>
 e = .returned (.bool (isPrime n)) ∧ w = w' := by
 by_cases h1 : n < 2
 · go_enter Tryz.func90, Tryz.ntmps90
   go_wp2
   go_ret
   exact ⟨by simp [isPrime, h1], rfl⟩
 by_cases h2 : 1000003 < n
 · go_enter Tryz.func90, Tryz.ntmps90
   go_wp2
   go_ret
   exact ⟨by simp [isPrime, h1, h2], rfl⟩
 · have h1' : 2 ≤ n := by omega
   have h2' : n ≤ 1000003 := by omega
   go_enter Tryz.func90, Tryz.ntmps90
   go_wp2
   go_loop [3] (fun d => ∃ k : Nat, 2 ≤ k ∧ k ≤ 1002 ∧ noDiv n (1003 - k) k = noDiv n 1001 2 ∧ d = .int .i64 k) (fun d => 1002 - (RowKit.intOf d).toNat)
   case atStart => exact ⟨2, by omega, by omega, rfl, rfl⟩
   obtain ⟨k, hk1, hk2, hk, rfl⟩ := hrel
   have hkk : (k : Int) * k ≤ 1004004 := sq_le hk2
   have hkk0 : 0 ≤ (k : Int) * k := Int.mul_nonneg (by omega) (by omega)
   have hf : 1003 - k = (1002 - k) + 1 := by omega
   have HF := isPrime_mid h1' h2'
   rw [hf] at hk
   have HK := Lib.hid hk; clear hk hf
   have HG := Lib.hid HF; clear HF
   have hk' : k < 1002 ∨ n < (k : Int) * k := by
    by_cases h : k < 1002
    · exact .inl h
    · right
      have : k = 1002 := by omega
      subst this; omega
   go_wp2
   · have hle : (k : Int) * k ≤ n := by assumption
     have hd : (n % (k : Int) == 0) = true := by assumption
     go_ret
     exact ⟨ret_bool (by rw [HG.out, ← HK.out, noDiv_hit _ hle (by simpa using hd)]), rfl⟩
   · have hle : (k : Int) * k ≤ n := by assumption
     have hd : (n % (k : Int) == 0) = false := by assumption
     go_round
     case rel =>
      refine ⟨k + 1, by omega, by omega, ?_, by go_num⟩
      rw [← HK.out, noDiv_step _ hle (by simpa using hd), show 1003 - (k + 1) = 1002 - k from by omega]
      rfl
     case measure => simp [RowKit.intOf]; omega
   have hlt : n < (k : Int) * k := by assumption
   go_ret
   exact ⟨ret_bool (by rw [HG.out, ← HK.out, noDiv_end _ hlt]), rfl⟩
set_option maxHeartbeats 400000 in
theorem isPrime_spec (n : Int) (w : World) : Calls Tryz.prog 103 #[.int .i64 n] w fun e w' =>
    e = .returned (.bool (isPrime n)) ∧ w = w' := by
  by_cases hm : 2 ≤ n ∧ n ≤ 1000003
  · obtain ⟨h1', h2'⟩ := hm
    go_enter Tryz.func103, Tryz.ntmps103
    go_wp2
    go_loop [3] (fun d => ∃ k : Nat, 2 ≤ k ∧ k ≤ 1002 ∧ noDiv n (1003 - k) k = noDiv n 1001 2 ∧ d = .int .i64 k) (fun d => 1002 - (RowKit.intOf d).toNat)
    case atStart => exact ⟨2, by omega, by omega, rfl, rfl⟩
    obtain ⟨k, hk1, hk2, hk, rfl⟩ := hrel
    have hkk : (k : Int) * k ≤ 1004004 := sq_le hk2
    have hkk0 : 0 ≤ (k : Int) * k := Int.mul_nonneg (by omega) (by omega)
    have hf : 1003 - k = (1002 - k) + 1 := by omega
    have HF := isPrime_mid h1' h2'
    rw [hf] at hk
    have HK := Lib.hid hk; clear hk hf
    have HG := Lib.hid HF; clear HF
    have hk' : k < 1002 ∨ n < (k : Int) * k := by
      by_cases h : k < 1002
      · exact .inl h
      · right
        have : k = 1002 := by omega
        subst this; omega
    by_cases hle : (k : Int) * k ≤ n
    · by_cases hd : n % (k : Int) = 0
      · go_wp2
        go_ret
        exact ⟨ret_bool (by rw [HG.out, ← HK.out, noDiv_hit _ hle hd]), rfl⟩
      go_wp2
      go_round
      case rel =>
       refine ⟨k + 1, by omega, by omega, ?_, by go_num⟩
       rw [← HK.out, noDiv_step _ hle hd, show 1003 - (k + 1) = 1002 - k from by omega]
       rfl
      case measure => simp [RowKit.intOf]; omega
    go_wp2_with (go_at_call 104; refine (in_any _ _ _ _).mono ?_; rintro e w' ⟨rfl, rfl⟩)
    go_ret
    exact ⟨ret_bool (by rw [HG.out, ← HK.out, noDiv_end _ (by omega)]), rfl⟩
  · have hf : isPrime n = (decide (2 ≤ n) && decide (n ≤ 1000003)) := by
      by_cases h : n < 2
      · rw [isPrime_low h]; have : ¬ 2 ≤ n := by omega
        simp [this]
      · have h2 : 1000003 < n := by omega
        rw [isPrime_high h2]; have : ¬ n ≤ 1000003 := by omega
        simp [this]
    have HF := Lib.hid hf; clear hf
    have hn : n < 4 ∨ 1000003 < n := by omega
    go_enter Tryz.func103, Tryz.ntmps103
    go_wp2
    go_loop [3] (fun d => d = .int .i64 2) (fun d => 0)
    case atStart => rfl
    case round =>
      obtain rfl := hrel
      rcases hn with hn | hn
      · go_wp2_with (go_at_call 104; refine (in_any _ _ _ _).mono ?_; rintro e w' ⟨rfl, rfl⟩)
        go_ret
        exact ⟨ret_bool HF.out.symm, rfl⟩
      · go_wp2_with (go_at_call 104; refine (in_any _ _ _ _).mono ?_; rintro e w' ⟨rfl, rfl⟩)
        go_ret
        exact ⟨ret_bool HF.out.symm, rfl⟩
abbrev ringV (k p n : Int) : Value := .agg #[.int .i64 k, .int .i64 p, .int .i64 n]
set_option maxHeartbeats 400000 in
theorem ringOk_impl (k p n : Int) (w : World) : Calls Tryz.prog 55 #[ringV k p n] w fun e w' =>
 e = .returned (.bool (ringOk k p n)) ∧ Ext w w' := by
 rcases kinds k with rfl | rfl | rfl | rfl | rfl | rfl | rfl | rfl | ⟨e1, e2, e3, e4, e5, e6, e7, e8⟩
 all_goals
  go_enter Tryz.func55, Tryz.ntmps55
  go_wp2_with (go_at_call 90; refine (isPrime_impl _ _).mono ?_; rintro e w' ⟨rfl, rfl⟩)
 all_goals
  go_ret
  refine ⟨ret_bool ?_, (Ext.refl _).alloc _⟩
  simp [ringOk, *] <;> omega
set_option maxHeartbeats 400000 in
theorem ringOk_spec (k p n : Int) (w : World) : Calls Tryz.prog 93 #[ringV k p n] w fun e w' =>
 e = .returned (.bool (ringOk k p n)) ∧ Ext w w' := by
 rcases kinds k with rfl | rfl | rfl | rfl | rfl | rfl | rfl | rfl | ⟨e1, e2, e3, e4, e5, e6, e7, e8⟩
 all_goals
  go_enter Tryz.func93, Tryz.ntmps93
  go_wp2_with (first | (go_at_call 103; refine (isPrime_spec _ _).mono ?_; rintro e w' ⟨rfl, rfl⟩) | (go_at_call 104; refine (in_any _ _ _ _).mono ?_; rintro e w' ⟨rfl, rfl⟩))
 all_goals
  go_ret
  refine ⟨ret_bool ?_, (Ext.refl _).alloc _⟩
  first | (simp [ringOk, *] <;> omega) | (have h2 := isPrime_ge (n := p) ‹_›; simp [ringOk, *] <;> omega)
def ringWidth (k n : Int) : Int := if k = 7 then n else if k = 8 then 4 else 1
theorem rawWidth_any (k p n : Int) (w : World) : Calls Tryz.prog 39 #[ringV k p n] w fun e w' =>
 e = .returned (.int .i64 (ringWidth k n)) ∧ Ext w w' := by
 have hk : k = 7 ∨ k = 8 ∨ (¬ k = 7 ∧ ¬ k = 8) := by omega
 rcases hk with rfl | rfl | ⟨e7, e8⟩
 all_goals
  go_enter Tryz.func39, Tryz.ntmps39
  go_wp2
  go_ret
  exact ⟨ret_int (by simp [ringWidth, *]), xt⟩
theorem l02Width_any (k p n : Int) (w : World) : Calls Tryz.prog 97 #[ringV k p n] w fun e w' =>
 e = .returned (.int .i64 (ringWidth k n)) ∧ Ext w w' := by
 have hk : k = 7 ∨ k = 8 ∨ (¬ k = 7 ∧ ¬ k = 8) := by omega
 rcases hk with rfl | rfl | ⟨e7, e8⟩
 all_goals
  go_enter Tryz.func97, Tryz.ntmps97
  go_wp2
  go_ret
  exact ⟨ret_int (by simp [ringWidth, *]), xt⟩
def ringTop (k p n : Int) : Int := if k = 1 then 1 else if k = 3 ∨ k = 4 ∨ k = 5 then p else if k = 6 then 2 ^ n.toNat - 1 else p - 1
theorem pow_small (n : Nat) (h : n ≤ 20) : 1 ≤ (2 : Int) ^ n ∧ (2 : Int) ^ n ≤ 1048576 := by
  have h1 : (2 : Nat) ^ n ≤ 2 ^ 20 := Nat.pow_le_pow_right (by omega) h
  have h2 : 0 < (2 : Nat) ^ n := Nat.pow_pos (by omega)
  have h3 : ((2 ^ n : Nat) : Int) = (2 : Int) ^ n := by simp
  rw [← h3]
  omega
theorem pow_wrap (n : Nat) (h : n ≤ 20) : wrap64 (wrap64 (2 ^ n) - 1) = 2 ^ n - 1 := by
  have := pow_small n h
  have e : wrap64 (2 ^ n) = 2 ^ n := IntWalk.wrap64_in _ (by omega)
  rw [e]
  exact IntWalk.wrap64_in _ (by omega)
structure RingFit (k p n : Int) : Prop where
  six : k = 6 → 1 ≤ n ∧ n ≤ 20
  lo : -9223372036854775808 < p
  hi : p ≤ 9223372036854775807
theorem ringOk_fit {k p n : Int} (h : ringOk k p n = true) : RingFit k p n := by
  rcases kinds k with rfl | rfl | rfl | rfl | rfl | rfl | rfl | rfl | ⟨e1, e2, e3, e4, e5, e6, e7, e8⟩
  all_goals simp [ringOk, *] at h
  · exact ⟨by omega, by omega, by omega⟩
  · have := isPrime_ge h.1; have := isPrime_le h.1; exact ⟨by omega, by omega, by omega⟩
  · exact ⟨by omega, by omega, by omega⟩
  · exact ⟨by omega, by omega, by omega⟩
  · exact ⟨by omega, by omega, by omega⟩
  · exact ⟨by omega, by omega, by omega⟩
  · have := isPrime_ge h.1.1; have := isPrime_le h.1.1; exact ⟨by omega, by omega, by omega⟩
  · have := isPrime_ge h.1.1; have := isPrime_le h.1.1; exact ⟨by omega, by omega, by omega⟩
theorem ringTop_le {k p n : Int} (h : RingFit k p n) : ringTop k p n ≤ 9223372036854775807 := by
  have := h.lo; have := h.hi
  unfold ringTop
  split
  · omega
  · split
    · omega
    · split
      · have := pow_small n.toNat (by have := h.six (by assumption); omega); omega
      · omega
theorem rawTop_any (k p n : Int) (h : RingFit k p n) (w : World) : Calls Tryz.prog 91 #[ringV k p n] w fun e w' =>
 e = .returned (.int .i64 (ringTop k p n)) ∧ Ext w w' := by
 obtain ⟨h6, hp, hp2⟩ := h
 by_cases e6 : k = 6
 · subst e6
   obtain ⟨g1, g2⟩ := h6 rfl
   clear h6
   go_enter Tryz.func91, Tryz.ntmps91
   go_wp2
   go_ret
   exact ⟨ret_int ((pow_wrap n.toNat (by omega)).trans (by simp [ringTop])), xt⟩
 clear h6
 have hk : k = 1 ∨ k = 3 ∨ k = 4 ∨ k = 5 ∨ (¬ k = 1 ∧ ¬ k = 3 ∧ ¬ k = 4 ∧ ¬ k = 5) := by omega
 rcases hk with rfl | rfl | rfl | rfl | ⟨e1, e3, e4, e5⟩
 all_goals
  go_enter Tryz.func91, Tryz.ntmps91
  go_wp2
  go_ret
  exact ⟨ret_int (by simp [ringTop, *]), xt⟩
theorem l02Top_any (k p n : Int) (h : RingFit k p n) (w : World) : Calls Tryz.prog 105 #[ringV k p n] w fun e w' =>
 e = .returned (.int .i64 (ringTop k p n)) ∧ Ext w w' := by
 obtain ⟨h6, hp, hp2⟩ := h
 by_cases e6 : k = 6
 · subst e6
   obtain ⟨g1, g2⟩ := h6 rfl
   clear h6
   go_enter Tryz.func105, Tryz.ntmps105
   go_wp2
   go_ret
   exact ⟨ret_int ((pow_wrap n.toNat (by omega)).trans (by simp [ringTop])), xt⟩
 clear h6
 have hk : k = 1 ∨ k = 3 ∨ k = 4 ∨ k = 5 ∨ (¬ k = 1 ∧ ¬ k = 3 ∧ ¬ k = 4 ∧ ¬ k = 5) := by omega
 rcases hk with rfl | rfl | rfl | rfl | ⟨e1, e3, e4, e5⟩
 all_goals
  go_enter Tryz.func105, Tryz.ntmps105
  go_wp2
  go_ret
  exact ⟨ret_int (by simp [ringTop, *]), xt⟩
def allTo (top : Int) (l : List Int) : Bool := l.all fun v => decide (0 ≤ v) && decide (v ≤ top)
theorem allTo_nil (top : Int) : allTo top [] = true := rfl
theorem allTo_cons (top v : Int) (l : List Int) : allTo top (v :: l) = (decide (0 ≤ v) && decide (v ≤ top) && allTo top l) := rfl
theorem allTo_in {top v : Int} {l : List Int} (h1 : 0 ≤ v) (h2 : v ≤ top) : allTo top (v :: l) = allTo top l := by simp [allTo_cons, h1, h2]
theorem allTo_out {top v : Int} {l : List Int} (h : v < 0 ∨ top < v) : allTo top (v :: l) = false := by
  rw [allTo_cons]
  rcases h with h | h
  · have : ¬ 0 ≤ v := by omega
    simp [this]
  · have : ¬ v ≤ top := by omega
    simp [this]
theorem inRing_any (k p n : Int) (h : RingFit k p n) (v : Value) (l : List Int) (w : World) (hl : IntS w v l) : Calls Tryz.prog 80 #[ringV k p n, v] w fun e w' =>
 e = .returned (.bool (allTo (ringTop k p n) l)) ∧ Ext w w' := by
 obtain ⟨a, cap, rfl, hc1, hc2⟩ := hl.val
 go_enter Tryz.func80, Tryz.ntmps80
 go_wp2_with (go_at_call 91; refine (rawTop_any _ _ _ h _).mono ?_; rintro e1 w1 ⟨rfl, h1⟩)
 have hl1 := hl.ext (show Ext w w1 from xt)
 have ht := ringTop_le h
 go_loop [12] (fun i => ∃ j : Nat, j ≤ l.length ∧ allTo (ringTop k p n) (l.drop j) = allTo (ringTop k p n) l ∧ i = .int .i64 j) (fun i => l.length - (RowKit.intOf i).toNat)
 case atStart => exact ⟨0, Nat.zero_le _, rfl, rfl⟩
 obtain ⟨j, hj, ha, rfl⟩ := hrel
 have HA := Lib.hid ha; clear ha
 by_cases hlt : j < l.length
 · obtain ⟨b, off, x, rfl, hcell, _, hd⟩ := hl1.get hlt
   have HD := Lib.hid hd; clear hd
   by_cases g0 : x < 0
   · go_wp2
     go_ret
     exact ⟨ret_bool (by rw [← HA.out, HD.out, allTo_out (.inl g0)]), xt⟩
   by_cases g1 : ringTop k p n < x
   · go_wp2
     go_ret
     exact ⟨ret_bool (by rw [← HA.out, HD.out, allTo_out (.inr g1)]), xt⟩
   go_wp2
   go_round
   case rel => exact ⟨j + 1, by omega, by rw [← HA.out, HD.out, allTo_in (by omega) (by omega)], by go_num⟩
   case measure => simp [RowKit.intOf]; omega
 have : j = l.length := by omega
 subst this
 go_wp2
 go_ret
 exact ⟨ret_bool (by rw [← HA.out, drop_len, allTo_nil]), xt⟩
def rawOk (k p n : Int) (l : List Int) : Bool := ((l.length : Int) == ringWidth k n) && allTo (ringTop k p n) l
theorem mkIntsI (m : Int) (h0 : 0 ≤ m) (h : m ≤ 35184372088832) (w : World) : (Instr.makeSlice 27 (.int .i64 m) (.int .i64 m)).run Tryz.prog w =
    .ok (.slice (some ⟨w.heap.size, 0, none⟩) m.toNat m.toNat) (w.alloc (.cells (madeCells #[.int .i64 0] m.toNat) 3)) := by
  have := mkInts m.toNat (by omega) w
  rwa [Int.toNat_of_nonneg h0] at this
theorem made_get {n j : Nat} (h : j < n) : (madeCells #[.int .i64 0] n)[j]? = some (.int .i64 0) := by simp [madeCells, h, Nat.mod_one]
structure RingWide (k n : Int) : Prop where
  lo : 1 ≤ ringWidth k n
  hi : ringWidth k n ≤ 6
theorem ringOk_wide {k p n : Int} (h : ringOk k p n = true) : RingWide k n := by
  rcases kinds k with rfl | rfl | rfl | rfl | rfl | rfl | rfl | rfl | ⟨e1, e2, e3, e4, e5, e6, e7, e8⟩
  all_goals simp [ringOk, *] at h
  all_goals constructor
  all_goals simp [ringWidth]
  · exact h.1.2
  · exact h.2
def zeroL (k p n : Int) : List Int := if k = 4 then (List.replicate (ringWidth k n).toNat 0).set 0 p else List.replicate (ringWidth k n).toNat 0
def unit (k p n : Int) : Int := if k = 4 then 0 else if k = 5 then p else if k = 6 then 2 ^ n.toNat - 1 else 1
def oneL (k p n : Int) : List Int := (List.replicate (ringWidth k n).toNat 0).set 0 (unit k p n)
theorem zeroL_length (k p n : Int) : (zeroL k p n).length = (ringWidth k n).toNat := by unfold zeroL; split <;> simp
theorem oneL_length (k p n : Int) : (oneL k p n).length = (ringWidth k n).toNat := by simp [oneL]
theorem blk_made_set (w : World) (n : Nat) (x : Int) (b : Nat) (hb : b = w.heap.size) : Blk (w.alloc (.cells ((madeCells #[.int .i64 0] n).setIfInBounds 0 (.int .i64 x)) 3)) b 3 (ints ((List.replicate n 0).set 0 x)) := by
  subst hb
  have := Blk.new w ((madeCells #[.int .i64 0] n).setIfInBounds 0 (.int .i64 x)) 3
  rwa [Array.toList_setIfInBounds, made_zero, ints_set] at this
theorem blk_made (w : World) (n : Nat) (b : Nat) (hb : b = w.heap.size) : Blk (w.alloc (.cells (madeCells #[.int .i64 0] n) 3)) b 3 (ints (List.replicate n 0)) := by
  subst hb
  have := Blk.new w (madeCells #[.int .i64 0] n) 3
  rwa [made_zero] at this
theorem fits (m : Int) (h : m ≤ 6) : m.toNat ≤ maxLen := by unfold maxLen; omega
theorem unit_one {k p n : Int} (h4 : ¬ k = 4) (h5 : ¬ k = 5) (h6 : ¬ k = 6) : unit k p n = 1 := by simp [unit, h4, h5, h6]
set_option maxHeartbeats 400000 in
theorem rawZero_any (k p n : Int) (hw : RingWide k n) (w : World) : Calls Tryz.prog 37 #[ringV k p n] w fun e w' =>
 ∃ v, e = .returned v ∧ OwnI w' w.heap.size v (zeroL k p n) ∧ Ext w w' := by
 obtain ⟨h1, h2⟩ := hw
 have hmk := mkIntsI (ringWidth k n) (by omega) (by omega)
 have hg := made_get (n := (ringWidth k n).toNat) (j := 0) (by omega)
 by_cases h4 : k = 4
 · subst h4
   go_enter Tryz.func37, Tryz.ntmps37
   go_wp2_with (go_at_call 39; refine (rawWidth_any _ _ _ _).mono ?_; rintro e1 w1 ⟨rfl, h1⟩; have s1 := h1.size; (try simp at s1); have t1_0 : w.heap.size < w1.heap.size := (by omega); have c1_0 := fun o => h1.cells (w.heap.size) o (by first | (simp; done) | (simp; omega) | omega))
   go_ret
   exact ⟨_, rfl, OwnI.mk' (by simp [zeroL]) (Nat.le_of_lt t1_0) (blk_made_set w1 _ p _ rfl) (fits _ h2), xt⟩
 · go_enter Tryz.func37, Tryz.ntmps37
   go_wp2_with (go_at_call 39; refine (rawWidth_any _ _ _ _).mono ?_; rintro e1 w1 ⟨rfl, h1⟩; have s1 := h1.size; (try simp at s1); have t1_0 : w.heap.size < w1.heap.size := (by omega); have c1_0 := fun o => h1.cells (w.heap.size) o (by first | (simp; done) | (simp; omega) | omega))
   go_ret
   exact ⟨_, rfl, OwnI.mk' (by simp [zeroL, h4]) (Nat.le_of_lt t1_0) (by rw [zeroL, if_neg h4]; exact blk_made w1 _ _ rfl) (fits _ h2), xt⟩
set_option maxHeartbeats 400000 in
theorem l02Zero_any (k p n : Int) (hw : RingWide k n) (w : World) : Calls Tryz.prog 96 #[ringV k p n] w fun e w' =>
 ∃ v, e = .returned v ∧ OwnI w' w.heap.size v (zeroL k p n) ∧ Ext w w' := by
 obtain ⟨h1, h2⟩ := hw
 have hmk := mkIntsI (ringWidth k n) (by omega) (by omega)
 have hg := made_get (n := (ringWidth k n).toNat) (j := 0) (by omega)
 by_cases h4 : k = 4
 · subst h4
   go_enter Tryz.func96, Tryz.ntmps96
   go_wp2_with (go_at_call 97; refine (l02Width_any _ _ _ _).mono ?_; rintro e1 w1 ⟨rfl, h1⟩; have s1 := h1.size; (try simp at s1); have t1_0 : w.heap.size < w1.heap.size := (by omega); have c1_0 := fun o => h1.cells (w.heap.size) o (by first | (simp; done) | (simp; omega) | omega))
   go_ret
   exact ⟨_, rfl, OwnI.mk' (by simp [zeroL]) (Nat.le_of_lt t1_0) (blk_made_set w1 _ p _ rfl) (fits _ h2), xt⟩
 · go_enter Tryz.func96, Tryz.ntmps96
   go_wp2_with (go_at_call 97; refine (l02Width_any _ _ _ _).mono ?_; rintro e1 w1 ⟨rfl, h1⟩; have s1 := h1.size; (try simp at s1); have t1_0 : w.heap.size < w1.heap.size := (by omega); have c1_0 := fun o => h1.cells (w.heap.size) o (by first | (simp; done) | (simp; omega) | omega))
   go_ret
   exact ⟨_, rfl, OwnI.mk' (by simp [zeroL, h4]) (Nat.le_of_lt t1_0) (by rw [zeroL, if_neg h4]; exact blk_made w1 _ _ rfl) (fits _ h2), xt⟩
set_option maxHeartbeats 400000 in
theorem rawOne_any (k p n : Int) (hw : RingWide k n) (hf : RingFit k p n) (w : World) : Calls Tryz.prog 59 #[ringV k p n] w fun e w' =>
 ∃ v, e = .returned v ∧ OwnI w' w.heap.size v (oneL k p n) ∧ Ext w w' := by
 obtain ⟨h1, h2⟩ := hw
 have hmk := mkIntsI (ringWidth k n) (by omega) (by omega)
 have hg := made_get (n := (ringWidth k n).toNat) (j := 0) (by omega)
 have hk : k = 4 ∨ k = 5 ∨ k = 6 ∨ (¬ k = 4 ∧ ¬ k = 5 ∧ ¬ k = 6) := by omega
 rcases hk with rfl | rfl | rfl | ⟨e4, e5, e6⟩
 · go_enter Tryz.func59, Tryz.ntmps59
   go_wp2_with (go_at_call 39; refine (rawWidth_any _ _ _ _).mono ?_; rintro e1 w1 ⟨rfl, h1⟩; have s1 := h1.size; (try simp at s1); have t1_0 : w.heap.size < w1.heap.size := (by omega); have c1_0 := fun o => h1.cells (w.heap.size) o (by first | (simp; done) | (simp; omega) | omega))
   go_ret
   exact ⟨_, rfl, OwnI.mk' (oneL_length _ _ _) (Nat.le_of_lt t1_0) (blk_made_set w1 _ _ _ rfl) (fits _ h2), xt⟩
 · go_enter Tryz.func59, Tryz.ntmps59
   go_wp2_with (first | (go_at_call 39; refine (rawWidth_any _ _ _ _).mono ?_; rintro e1 w1 ⟨rfl, h1⟩; have s1 := h1.size; (try simp at s1); have t1_0 : w.heap.size < w1.heap.size := (by omega); have c1_0 := fun o => h1.cells (w.heap.size) o (by first | (simp; done) | (simp; omega) | omega)) | (go_at_call 91; refine (rawTop_any _ _ _ hf _).mono ?_; rintro e2 w2 ⟨rfl, h2⟩; have s2 := h2.size; (try simp at s2); have t2_0 : w.heap.size < w2.heap.size := (by omega); have c2_0 := fun o => h2.cells (w.heap.size) o (by first | (simp; done) | (simp; omega) | omega)))
   go_ret
   exact ⟨_, rfl, OwnI.mk' (oneL_length _ _ _) (Nat.le_of_lt t1_0) (blk_made_set w1 _ _ _ rfl) (fits _ h2), xt⟩
 · go_enter Tryz.func59, Tryz.ntmps59
   go_wp2_with fail
   refine (rawWidth_any _ _ _ _).mono ?_; rintro e1 w1 ⟨rfl, h1⟩; have s1 := h1.size; (try simp at s1); have t1_0 : w.heap.size < w1.heap.size := (by omega); have c1_0 := fun o => h1.cells (w.heap.size) o (by first | (simp; done) | (simp; omega) | omega); go_wp2_with fail
   have B1 := blk_made w1 (ringWidth 6 n).toNat _ rfl
   refine (rawTop_any _ _ _ hf _).mono ?_; rintro e2 w2 ⟨rfl, h2'⟩; have s2 := h2'.size; (try simp at s2)
   have B2 := B1.ext h2'
   have ho := B2.cell (j := 0) (u := .int .i64 0) (by rw [ints_get, List.getElem?_replicate, if_pos (by omega)]; rfl)
   have hfr := B2.free 0
   go_wp2
   go_ret
   exact ⟨_, rfl, OwnI.mk' (oneL_length _ _ _) (Nat.le_of_lt t1_0) (by rw [oneL, ← ints_set]; exact B2.set _ _) (fits _ h2), Ext.setCell xt (Nat.le_of_lt t1_0) _⟩
 · go_enter Tryz.func59, Tryz.ntmps59
   go_wp2_with (go_at_call 39; refine (rawWidth_any _ _ _ _).mono ?_; rintro e1 w1 ⟨rfl, h1⟩; have s1 := h1.size; (try simp at s1); have t1_0 : w.heap.size < w1.heap.size := (by omega); have c1_0 := fun o => h1.cells (w.heap.size) o (by first | (simp; done) | (simp; omega) | omega))
   go_ret
   exact ⟨_, rfl, OwnI.mk' (oneL_length _ _ _) (Nat.le_of_lt t1_0) (by rw [oneL, unit_one e4 e5 e6]; exact blk_made_set w1 _ _ _ rfl) (fits _ h2), xt⟩
set_option maxHeartbeats 400000 in
theorem l02One_any (k p n : Int) (hw : RingWide k n) (hf : RingFit k p n) (w : World) : Calls Tryz.prog 98 #[ringV k p n] w fun e w' =>
 ∃ v, e = .returned v ∧ OwnI w' w.heap.size v (oneL k p n) ∧ Ext w w' := by
 obtain ⟨h1, h2⟩ := hw
 have hmk := mkIntsI (ringWidth k n) (by omega) (by omega)
 have hg := made_get (n := (ringWidth k n).toNat) (j := 0) (by omega)
 have hk : k = 4 ∨ k = 5 ∨ k = 6 ∨ (¬ k = 4 ∧ ¬ k = 5 ∧ ¬ k = 6) := by omega
 rcases hk with rfl | rfl | rfl | ⟨e4, e5, e6⟩
 · go_enter Tryz.func98, Tryz.ntmps98
   go_wp2_with (go_at_call 97; refine (l02Width_any _ _ _ _).mono ?_; rintro e1 w1 ⟨rfl, h1⟩; have s1 := h1.size; (try simp at s1); have t1_0 : w.heap.size < w1.heap.size := (by omega); have c1_0 := fun o => h1.cells (w.heap.size) o (by first | (simp; done) | (simp; omega) | omega))
   go_ret
   exact ⟨_, rfl, OwnI.mk' (oneL_length _ _ _) (Nat.le_of_lt t1_0) (blk_made_set w1 _ _ _ rfl) (fits _ h2), xt⟩
 · go_enter Tryz.func98, Tryz.ntmps98
   go_wp2_with fail
   refine (l02Width_any _ _ _ _).mono ?_; rintro e1 w1 ⟨rfl, h1⟩; have s1 := h1.size; (try simp at s1); have t1_0 : w.heap.size < w1.heap.size := (by omega); have c1_0 := fun o => h1.cells (w.heap.size) o (by first | (simp; done) | (simp; omega) | omega); go_wp2_with fail
   have B1 := blk_made w1 (ringWidth 5 n).toNat _ rfl
   refine (l02Top_any _ _ _ hf _).mono ?_; rintro e2 w2 ⟨rfl, h2'⟩; have s2 := h2'.size; (try simp at s2)
   have B2 := B1.ext h2'
   have ho := B2.cell (j := 0) (u := .int .i64 0) (by rw [ints_get, List.getElem?_replicate, if_pos (by omega)]; rfl)
   have hfr := B2.free 0
   go_wp2
   go_ret
   exact ⟨_, rfl, OwnI.mk' (oneL_length _ _ _) (Nat.le_of_lt t1_0) (by rw [oneL, ← ints_set]; exact B2.set _ _) (fits _ h2), Ext.setCell xt (Nat.le_of_lt t1_0) _⟩
 · go_enter Tryz.func98, Tryz.ntmps98
   go_wp2_with fail
   refine (l02Width_any _ _ _ _).mono ?_; rintro e1 w1 ⟨rfl, h1⟩; have s1 := h1.size; (try simp at s1); have t1_0 : w.heap.size < w1.heap.size := (by omega); have c1_0 := fun o => h1.cells (w.heap.size) o (by first | (simp; done) | (simp; omega) | omega); go_wp2_with fail
   have B1 := blk_made w1 (ringWidth 6 n).toNat _ rfl
   refine (l02Top_any _ _ _ hf _).mono ?_; rintro e2 w2 ⟨rfl, h2'⟩; have s2 := h2'.size; (try simp at s2)
   have B2 := B1.ext h2'
   have ho := B2.cell (j := 0) (u := .int .i64 0) (by rw [ints_get, List.getElem?_replicate, if_pos (by omega)]; rfl)
   have hfr := B2.free 0
   go_wp2
   go_ret
   exact ⟨_, rfl, OwnI.mk' (oneL_length _ _ _) (Nat.le_of_lt t1_0) (by rw [oneL, ← ints_set]; exact B2.set _ _) (fits _ h2), Ext.setCell xt (Nat.le_of_lt t1_0) _⟩
 · go_enter Tryz.func98, Tryz.ntmps98
   go_wp2_with (go_at_call 97; refine (l02Width_any _ _ _ _).mono ?_; rintro e1 w1 ⟨rfl, h1⟩; have s1 := h1.size; (try simp at s1); have t1_0 : w.heap.size < w1.heap.size := (by omega); have c1_0 := fun o => h1.cells (w.heap.size) o (by first | (simp; done) | (simp; omega) | omega))
   go_ret
   exact ⟨_, rfl, OwnI.mk' (oneL_length _ _ _) (Nat.le_of_lt t1_0) (by rw [oneL, unit_one e4 e5 e6]; exact blk_made_set w1 _ _ _ rfl) (fits _ h2), xt⟩
def add1 (k p a b : Int) : Int :=
  if k = 1 ∨ k = 5 then max a b else if k = 3 then min (a + b) p else if k = 4 then min a b else if k = 6 then bits BinOp.or IntKind.i64 a b else (a + b) % p
def addL (k p : Int) (x y : List Int) : List Int := List.zipWith (add1 k p) x y
def Small (x : List Int) : Prop := ∀ v ∈ x, 0 ≤ v ∧ v ≤ 1048576
theorem top_small {k p n : Int} (h : ringOk k p n = true) : ringTop k p n ≤ 1048576 := by
  rcases kinds k with rfl | rfl | rfl | rfl | rfl | rfl | rfl | rfl | ⟨e1, e2, e3, e4, e5, e6, e7, e8⟩
  all_goals simp [ringOk, *] at h
  all_goals simp [ringTop]
  · have := isPrime_le h.1; omega
  · omega
  · omega
  · omega
  · have := pow_small n.toNat (by omega); omega
  · have := isPrime_le h.1.1; omega
  · have := isPrime_le h.1.1; omega
theorem allTo_small {top : Int} {x : List Int} (h : allTo top x = true) (ht : top ≤ 1048576) : Small x := by
  intro v hv
  have := List.all_eq_true.1 h v hv
  simp at this
  omega
theorem Small.get {x : List Int} (h : Small x) {i : Nat} {v : Int} (hv : x[i]? = some v) : 0 ≤ v ∧ v ≤ 1048576 := h v (List.mem_of_getElem? hv)
set_option maxRecDepth 100000 in
set_option maxHeartbeats 1000000 in
theorem addInto_one (k p n a c2 : Int) (b off cap : Nat) (c : List Value) (vy : Value) (w : World) (hk : k = 1 ∨ k = 3 ∨ k = 4 ∨ k = 5 ∨ k = 6) (hP : Part w b off c [a]) (hy : IntS w vy [c2]) (hne : vy.ownBlock ≠ some b)
 (ha : 0 ≤ a ∧ a ≤ 1048576) (hb : 0 ≤ c2 ∧ c2 ≤ 1048576) :
 Calls Tryz.prog 43 #[ringV k p n, .slice (some ⟨b, off, none⟩) 1 cap, vy] w fun e w' =>
  e = .returned (.tuple #[]) ∧ Blk w' b 3 (splice c off (ints [add1 k p a c2])) ∧ w.grownBy w' (some b) := by
 obtain ⟨ay, capy, rfl, hc1, hc2⟩ := hy.val
 obtain ⟨b2, off2, y, rfl, hcy, hy0, _⟩ := hy.get (i := 0) (by simp)
 simp at hy0
 subst hy0
 obtain ⟨hcx, hfx⟩ := hP.cell (i := 0) rfl
 rw [Nat.add_zero] at hcx hfx hcy
 have l1 := World.block_lt_of_cell? w _ hcx
 have l2 := World.block_lt_of_cell? w _ hcy
 have hne2 : b2 ≠ b := by simpa [Value.ownBlock] using hne
 obtain ⟨a0, a1⟩ := ha
 obtain ⟨b0, b1⟩ := hb
 obtain ⟨v, hv⟩ : ∃ v, add1 k p a c2 = v := ⟨_, rfl⟩
 simp only [hv]
 have HV := Lib.hid hv; clear hv
 have hset := fun x => hP.set_splice (i := 0) (by simp) x
 have HS := Lib.hid hset; clear hset
 rcases hk with rfl | rfl | rfl | rfl | rfl
 all_goals
  go_enter Tryz.func43, Tryz.ntmps43
  go_wp2
  go_region
  go_wp2
 all_goals
  go_end0
  refine ⟨rfl, ?_, (by repeat' (first | (with_reducible exact grown_refl _ _) | (with_reducible assumption) | (with_reducible apply grown_alloc) | (with_reducible apply grown_drew) | (with_reducible apply grown_drewN) | (with_reducible refine grown_setCell ?_ _ _) | (refine grownBy_trans ?_ (by assumption))))⟩
  refine Blk.ext (w := w.setCell ⟨b, off, none⟩ _) ?_ xt
  have hb := hP.blk.set (off + 0) (.int .i64 v)
  rw [HS.out] at hb
  have e : ∀ x y : Int, x = y → Blk (w.setCell ⟨b, off, none⟩ (.int .i64 y)) b 3 (splice c off (ints ([a].set 0 y))) → Blk (w.setCell ⟨b, off, none⟩ (.int .i64 x)) b 3 (splice c off (ints [y])) := fun x y h hh => by subst h; exact hh
  refine e _ _ ?_ hb
  rw [← HV.out]
  simp [add1]
  try (first | omega | (split <;> omega))
theorem addL_length {k p : Int} {x y : List Int} (h : y.length = x.length) : (addL k p x y).length = x.length := by simp [addL, h]
theorem add1_mod {k p a b : Int} (hk : k = 2 ∨ k = 7 ∨ k = 8) : add1 k p a b = (a + b) % p := by
  rcases hk with rfl | rfl | rfl <;> simp [add1]
set_option maxRecDepth 100000 in
set_option maxHeartbeats 1000000 in
theorem addInto_many (k p n : Int) (b off cap : Nat) (c : List Value) (vy : Value) (x y : List Int) (w : World) (hk : k = 2 ∨ k = 7 ∨ k = 8) (hP : Part w b off c x) (hy : IntS w vy y) (hne : vy.ownBlock ≠ some b)
 (hlen : y.length = x.length) (hx : Small x) (hys : Small y) (hp : 1 ≤ p) (hp2 : p ≤ 1048576) (hl64 : x.length ≤ 1048576) :
 Calls Tryz.prog 43 #[ringV k p n, .slice (some ⟨b, off, none⟩) x.length cap, vy] w fun e w' =>
  e = .returned (.tuple #[]) ∧ Blk w' b 3 (splice c off (ints (addL k p x y))) ∧ w.grownBy w' (some b) := by
 obtain ⟨ay, capy, rfl, hc1, hc2⟩ := hy.val
 have hb := hP.blk.lt
 have hlenF := addL_length (k := k) (p := p) hlen
 have HN := Lib.hid hlen; clear hlen
 have HF := Lib.hid hlenF; clear hlenF
 have HX := Lib.hid hx; clear hx
 have HY := Lib.hid hys; clear hys
 have hP0 : Part (w.alloc (.cells #[.int .i64 k, .int .i64 p, .int .i64 n] 24)) b off c x := hP.ext xt
 have hsp := hP.splice
 have HS := Lib.hid hsp; clear hsp
 have hcl := hP.len
 have HK := Lib.hid hk
 obtain ⟨k1, k3, k4, k5, k6⟩ : (k == 1) = false ∧ (k == 3) = false ∧ (k == 4) = false ∧ (k == 5) = false ∧ (k == 6) = false := by
  rcases hk with rfl | rfl | rfl <;> exact ⟨rfl, rfl, rfl, rfl, rfl⟩
 clear hk
 go_enter Tryz.func43, Tryz.ntmps43
 go_wp2
 go_loopw [11] (fun i wr => ∃ j : Nat, j ≤ x.length ∧ i = .int .i64 j ∧ Part wr b off (splice c off (ints (mix (addL k p x y) x j))) (mix (addL k p x y) x j) ∧
  (w.alloc (.cells #[.int .i64 k, .int .i64 p, .int .i64 n] 24)).grownBy wr (some b)) (fun i _ => x.length - (RowKit.intOf i).toNat)
 case atStart => exact ⟨0, Nat.zero_le _, rfl, by rw [mix_zero, ← HS.out]; exact hP0, grown_refl _ _⟩
 obtain ⟨j, hj, rfl, hPj, hG⟩ := hrel
 have g1 : wr.cell? ⟨w.heap.size, 1, none⟩ = some (.int .i64 p) := grown_cell hG (by omega) (by simp)
 by_cases hlt : j < x.length
 · obtain ⟨a, ha⟩ : ∃ a, x[j]? = some a := ⟨_, List.getElem?_eq_getElem hlt⟩
   obtain ⟨b2, off2, c2, rfl, hcy, hyj, _⟩ := hy.get (i := j) (by have := HN.out; omega)
   have hne2 : b2 ≠ b := by simpa [Value.ownBlock] using hne
   have hlt2 : j < y.length := by have := HN.out; omega
   have hcy' : wr.cell? ⟨b2, off2 + j, none⟩ = some (.int .i64 c2) := grown_cell hG hne2 ((Ext.alloc (Ext.refl w) _).cell hcy)
   have hmx : (mix (addL k p x y) x j)[j]? = some a := by rw [mix_get HF.out hlt, ha]
   obtain ⟨hcx, hfx⟩ := hPj.cell hmx
   obtain ⟨a0, a1⟩ := HX.out.get ha
   obtain ⟨b0, b1⟩ := HY.out.get hyj
   have hf : (addL k p x y)[j]? = some ((a + c2) % p) := by unfold addL; rw [zip_get ha hyj, add1_mod HK.out]
   have hset := hPj.set (i := j) (by rw [mix_length HF.out hj]; exact hlt) ((a + c2) % p)
   have hsets := hPj.set_splice (i := j) (by rw [mix_length HF.out hj]; exact hlt) ((a + c2) % p)
   rw [mix_set HF.out hf] at hset hsets
   rw [hsets, splice_splice (by rw [ints_length, mix_length HF.out hj]; exact hcl) (by rw [ints_length, ints_length, mix_length HF.out hj, mix_length HF.out hlt])] at hset
   have HP := Lib.hid hset
   clear hset hsets hf hmx ha hyj hcy
   have l1 := World.block_lt_of_cell? wr _ hcx
   have l2 := World.block_lt_of_cell? wr _ hcy'
   go_wp2
   go_region
   go_wp2
   go_roundw
   case rel => exact ⟨j + 1, by omega, by go_num, HP.out.ext xt, (by repeat' (first | (with_reducible exact grown_refl _ _) | (with_reducible assumption) | (with_reducible apply grown_alloc) | (with_reducible apply grown_drew) | (with_reducible apply grown_drewN) | (with_reducible refine grown_setCell ?_ _ _) | (refine grownBy_trans ?_ (by assumption))))⟩
   case measure => simp [RowKit.intOf]; omega
 have : j = x.length := by omega
 subst this
 go_wp2
 go_end0
 rw [mix_all HF.out] at hPj
 refine ⟨rfl, hPj.blk, ?_⟩
 exact grownBy_trans (grown_alloc (grown_refl w (some b)) _) hG
def FitK (k : Int) (x : List Int) : Prop := Small x ∧ (k = 1 → ∀ v ∈ x, v ≤ 1)
theorem rawOk_fit {k p n : Int} {x : List Int} (h : ringOk k p n = true) (hx : rawOk k p n x = true) : FitK k x ∧ (x.length : Int) = ringWidth k n := by
  simp [rawOk] at hx
  refine ⟨⟨allTo_small hx.2 (top_small h), fun e v hv => ?_⟩, hx.1⟩
  subst e
  have := List.all_eq_true.1 hx.2 v hv
  simp [ringTop] at this
  exact this.2
theorem or_bool (a b : Int) (ha : 0 ≤ a ∧ a ≤ 1) (hb : 0 ≤ b ∧ b ≤ 1) : bits BinOp.or IntKind.i64 a b = max a b := by
  obtain rfl | rfl : a = 0 ∨ a = 1 := by omega
  all_goals obtain rfl | rfl : b = 0 ∨ b = 1 := by omega
  all_goals decide
theorem Blk.sets : ∀ (xs : List Value) {w : World} {b : Nat} {T : TypeId} {c : List Value} (_ : Blk w b T c) (o : Nat) (_ : o + xs.length ≤ c.length), Blk (w.setCells b o xs) b T (splice c o xs)
  | [], w, b, T, c, h, o, _ => by
    have e : splice c o [] = c := by simp [splice]
    rw [e]; exact h
  | v :: t, w, b, T, c, h, o, ho => by
    have hl : o < c.length := by simp at ho; omega
    have := Blk.sets t (h.set o v) (o + 1) (by simp at ho ⊢; omega)
    have e : splice (c.set o v) (o + 1) t = splice c o (v :: t) := by
      unfold splice
      have h1 : (c.set o v).take (o + 1) = c.take o ++ [v] := by
        rw [List.take_succ_eq_append_getElem (by simpa using hl), List.getElem_set_self, List.take_set_of_le (Nat.le_refl o)]
      have h2 : (c.set o v).drop (o + 1 + t.length) = c.drop (o + (v :: t).length) := by
        rw [List.drop_set_of_lt (by omega), List.length_cons]
        congr 1
        omega
      rw [h1, h2]
      simp
    rw [e] at this
    exact this
theorem grown_sets {w : World} {b : Nat} : ∀ (xs : List Value) {w' : World} (_ : w.grownBy w' (some b)) (o : Nat), w.grownBy (w'.setCells b o xs) (some b)
  | [], _, h, _ => h
  | v :: t, _, h, o => grown_sets t (grown_setCell h _ _) (o + 1)
theorem size_sets (b : Nat) : ∀ (xs : List Value) (w : World) (o : Nat), (w.setCells b o xs).heap.size = w.heap.size
  | [], _, _ => rfl
  | v :: t, w, o => (size_sets b t _ (o + 1)).trans (by simp)
theorem zeroI (w : World) : (zeroValue 3).run Tryz.prog w = .ok (.int .i64 0) w := by kernel_rfl
theorem ints_replicate (m : Nat) (v : Int) : ints (List.replicate m v) = List.replicate m (.int .i64 v) := by simp [ints]
def Under (p : Int) (x : List Int) : Prop := ∀ v ∈ x, 0 ≤ v ∧ v < p
theorem under_zeros {p : Int} (m : Nat) (h : 0 < p) : Under p (List.replicate m 0) := by
  intro v hv
  have := (List.mem_replicate.1 hv).2
  omega
def put1 (om : Bool) (p : Int) (acc : List Int) (k : Nat) (v : Int) : List Int :=
  if k < acc.length then acc.set k ((acc[k]?.getD 0 + v) % p) else if om = true then acc.set (k - 4) ((acc[k - 4]?.getD 0 - v) % p) else acc
def mulRow (om : Bool) (p : Int) (i : Nat) (a : Int) : List Int → Nat → List Int → List Int
  | acc, _, [] => acc
  | acc, j, b :: t => mulRow om p i a (put1 om p acc (i + j) (a * b)) (j + 1) t
def mulRows (om : Bool) (p : Int) (y : List Int) : List Int → Nat → List Int → List Int
  | acc, _, [] => acc
  | acc, i, a :: t => mulRows om p y (mulRow om p i a acc 0 y) (i + 1) t
theorem put1_length (om : Bool) (p : Int) (acc : List Int) (k : Nat) (v : Int) : (put1 om p acc k v).length = acc.length := by
  unfold put1; split
  · simp
  · split <;> simp
theorem put1_in {om : Bool} {p : Int} {acc : List Int} {k : Nat} {v o : Int} (h : k < acc.length) (ho : acc[k]? = some o) : put1 om p acc k v = acc.set k ((o + v) % p) := by simp only [put1, h, ho, if_true, Option.getD_some]
theorem put1_over {p : Int} {acc : List Int} {k : Nat} {v o : Int} (h : ¬ k < acc.length) (ho : acc[k - 4]? = some o) : put1 true p acc k v = acc.set (k - 4) ((o - v) % p) := by simp only [put1, h, ho, if_true, if_false, Option.getD_some]
theorem put1_out {p : Int} {acc : List Int} {k : Nat} {v : Int} (h : ¬ k < acc.length) : put1 false p acc k v = acc := by simp [put1, h]
theorem under_put {p : Int} (om : Bool) {acc : List Int} (h : Under p acc) (k : Nat) (v : Int) (hp : 1 ≤ p) : Under p (put1 om p acc k v) := by
  have hb := fun a : Int => And.intro (Int.emod_nonneg a (show p ≠ 0 by omega)) (Int.emod_lt_of_pos a (show 0 < p by omega))
  unfold put1
  split
  · intro u hu
    rcases List.mem_or_eq_of_mem_set hu with hu | rfl
    · exact h u hu
    · exact hb _
  · split
    · intro u hu
      rcases List.mem_or_eq_of_mem_set hu with hu | rfl
      · exact h u hu
      · exact hb _
    · exact h
theorem mulRow_length (om : Bool) (p : Int) (i : Nat) (a : Int) : ∀ (y acc : List Int) (j : Nat), (mulRow om p i a acc j y).length = acc.length
  | [], _, _ => rfl
  | _ :: t, acc, j => by rw [mulRow, mulRow_length om p i a t, put1_length]
theorem mulRows_length (om : Bool) (p : Int) (y : List Int) : ∀ (x acc : List Int) (i : Nat), (mulRows om p y acc i x).length = acc.length
  | [], _, _ => rfl
  | _ :: t, acc, j => by rw [mulRows, mulRows_length om p y t, mulRow_length]
theorem under_row {om : Bool} {p : Int} {i : Nat} {a : Int} (hp : 1 ≤ p) : ∀ (y : List Int) {acc : List Int} (j : Nat), Under p acc → Under p (mulRow om p i a acc j y)
  | [], _, _, h => h
  | _ :: t, _, j, h => under_row hp t (j + 1) (under_put om h _ _ hp)
theorem under_rows {om : Bool} {p : Int} {y : List Int} (hp : 1 ≤ p) : ∀ (x : List Int) {acc : List Int} (i : Nat), Under p acc → Under p (mulRows om p y acc i x)
  | [], _, _, h => h
  | _ :: t, _, i, h => under_rows hp t (i + 1) (under_row hp y 0 h)
theorem drop_at {x : List Int} {i : Nat} {a : Int} (h : x[i]? = some a) : x.drop i = a :: x.drop (i + 1) := by
  obtain ⟨hlt, rfl⟩ := List.getElem?_eq_some_iff.1 h
  exact List.drop_eq_getElem_cons hlt
theorem prod_bound {a b : Int} (a0 : 0 ≤ a) (b0 : 0 ≤ b) (a1 : a ≤ 1048576) (b1 : b ≤ 1048576) : 0 ≤ a * b ∧ a * b ≤ 1099511627776 :=
  ⟨Int.mul_nonneg a0 b0, Int.le_trans (Int.mul_le_mul a1 b1 b0 (by omega)) (by decide)⟩
theorem mod_bound (a : Int) {p : Int} (hp : 1 ≤ p) : 0 ≤ a % p ∧ a % p < p := ⟨Int.emod_nonneg a (by omega), Int.emod_lt_of_pos a (by omega)⟩
theorem mod_sub2 (o a b p : Int) : (o + (p - a) * b) % p = (o - a * b) % p := by
  rw [show o + (p - a) * b = o - a * b + p * b by rw [Int.sub_mul]; omega, Int.add_mul_emod_self_left]
def mul1 (k p a b : Int) : Int :=
  if k = 2 then a * b % p else if k = 3 then min (a * b) p else if k = 4 then min (a + b) p else if k = 6 then bits BinOp.and IntKind.i64 a b else min a b
def mulL (k p : Int) (x y : List Int) : List Int :=
  if k = 7 ∨ k = 8 then mulRows (decide (k = 8)) p y (List.replicate x.length 0) 0 x else List.zipWith (mul1 k p) x y
theorem mulL_length {k p : Int} {x y : List Int} (h : y.length = x.length) : (mulL k p x y).length = x.length := by
  unfold mulL
  split
  · rw [mulRows_length, List.length_replicate]
  · simp [h]
theorem mulL_one {k p : Int} (h7 : ¬ k = 7) (h8 : ¬ k = 8) (a b : Int) : mulL k p [a] [b] = [mul1 k p a b] := by simp [mulL, h7, h8]
theorem rawOk_under {k p n : Int} {x : List Int} (hk : k = 7 ∨ k = 8) (hp : 1 ≤ p) (hx : rawOk k p n x = true) : Under p x := by
  have ht : ringTop k p n = p - 1 := by rcases hk with rfl | rfl <;> simp [ringTop]
  simp [rawOk, ht] at hx
  intro v hv
  have := List.all_eq_true.1 hx.2 v hv
  simp at this
  omega
theorem ringOk_pos {k p n : Int} (h : ringOk k p n = true) (hk : k = 2 ∨ k = 3 ∨ k = 4 ∨ k = 5 ∨ k = 7 ∨ k = 8) : 1 ≤ p ∧ p ≤ 1000003 := by
  rcases hk with rfl | rfl | rfl | rfl | rfl | rfl
  all_goals simp [ringOk] at h
  · exact ⟨by have := isPrime_ge h.1; omega, isPrime_le h.1⟩
  · omega
  · omega
  · omega
  · exact ⟨by have := isPrime_ge h.1.1; omega, isPrime_le h.1.1⟩
  · exact ⟨by have := isPrime_ge h.1.1; omega, isPrime_le h.1.1⟩
set_option maxRecDepth 100000 in
set_option maxHeartbeats 2000000 in
theorem mulCo_7 (p n : Int) (b off cap : Nat) (c : List Value) (vx vy : Value) (x y z : List Int) (w : World) (hP : Part w b off c z) (hvx : IntS w vx x) (hvy : IntS w vy y) (hnx : vx.ownBlock ≠ some b) (hny : vy.ownBlock ≠ some b)
 (hz0 : 0 < z.length) (hx : Under p x) (hy : Under p y) (hp : 1 ≤ p) (hp2 : p ≤ 1048576) (hl64 : z.length ≤ 1048576) (hxl : x.length ≤ 6) (hyl : y.length ≤ 6) :
 Calls Tryz.prog 82 #[ringV 7 p n, .slice (some ⟨b, off, none⟩) z.length cap, vx, vy] w fun e w' =>
  e = .returned (.tuple #[]) ∧ Blk w' b 3 (splice c off (ints (mulRows false p y (List.replicate z.length 0) 0 x))) ∧ w.grownBy w' (some b) := by
 obtain ⟨ax, capx, rfl, hc1, hc2⟩ := hvx.val
 obtain ⟨ay, capy, rfl, hc3, hc4⟩ := hvy.val
 have hb := hP.blk.lt
 have hcl := hP.len
 obtain ⟨m, hm⟩ : ∃ m, z.length = m := ⟨_, rfl⟩
 rw [hm]
 have hcl2 : off + m ≤ c.length := by omega
 have hm64 : m ≤ 1048576 := by omega
 have hz : ∀ (w : World), (∀ j, j < m → (w.cell? ⟨b, off + j, none⟩).isSome = true) → (∀ j, j < m → w.frozen? ⟨b, off + j, none⟩ = false) → ∀ ty, (Builtin.clear_ #[27] ty #[.slice (some ⟨b, off, none⟩) m cap]).run Tryz.prog w = .ok (.tuple #[]) (w.setCells b off (List.replicate m (.int .i64 0))) :=
  fun w h1 h2 ty => Lib.run_clear_slice w 27 3 ty (.int .i64 0) Tryz.underlying27 zeroI rfl rfl b off m cap (by omega) h1 h2
 have hB1 : Blk (w.alloc (.cells #[.int .i64 7, .int .i64 p, .int .i64 n] 24)) b 3 c := hP.blk.ext xt
 have hcl_ := hz _ (fun j hj => by rw [hB1.cell (List.getElem?_eq_getElem (by omega))]; rfl) (fun j _ => hB1.free _)
 clear hz
 have hS := hB1.sets (List.replicate m (.int .i64 0)) off (by simpa using hcl2)
 rw [← ints_replicate] at hS
 obtain ⟨w1, hw1⟩ : ∃ w1, World.setCells (w.alloc (.cells #[.int .i64 7, .int .i64 p, .int .i64 n] 24)) b off (List.replicate m (.int .i64 0)) = w1 := ⟨_, rfl⟩
 have hG1 : (w.alloc (.cells #[.int .i64 7, .int .i64 p, .int .i64 n] 24)).grownBy w1 (some b) := by rw [← hw1]; exact grown_sets _ (grown_refl _ _) _
 have hs1 : w1.heap.size = w.heap.size + 1 := by rw [← hw1, size_sets]; simp
 rw [ints_replicate, hw1, ← ints_replicate] at hS
 simp only [hw1] at hcl_
 have hP1 : Part w1 b off (splice c off (ints (List.replicate m 0))) (List.replicate m 0) := Part.of hS (by simpa using hcl2)
 clear hS hB1 hw1
 have HX := Lib.hid hx; clear hx
 have HY := Lib.hid hy; clear hy
 have HM := Lib.hid hm; clear hm
 go_enter Tryz.func82, Tryz.ntmps82
 go_wp2_with (simp only [hcl_])
 clear hcl_
 go_loopw [15] (fun i wr => ∃ (i' : Nat) (acc : List Int), i' ≤ x.length ∧ i = .int .i64 i' ∧ acc.length = m ∧ Under p acc ∧ Part wr b off (splice c off (ints acc)) acc ∧
  mulRows false p y acc i' (x.drop i') = mulRows false p y (List.replicate m 0) 0 x ∧
  (w.alloc (.cells #[.int .i64 7, .int .i64 p, .int .i64 n] 24)).grownBy wr (some b)) (fun i _ => x.length - (RowKit.intOf i).toNat)
 case atStart => exact ⟨0, _, Nat.zero_le _, rfl, by simp, under_zeros _ (by omega), hP1, rfl, hG1⟩
 obtain ⟨i', acc, hi, rfl, hla, hua, hPa, hE, hG⟩ := hrel
 by_cases hlt : i' < x.length
 · obtain ⟨a, ha⟩ : ∃ a, x[i']? = some a := ⟨_, List.getElem?_eq_getElem hlt⟩
   have hE2 : mulRows false p y (mulRow false p i' a acc 0 y) (i' + 1) (x.drop (i' + 1)) = mulRows false p y (List.replicate m 0) 0 x := by rw [← hE, drop_at ha]; rfl
   clear hE
   have HE := Lib.hid hE2; clear hE2
   have HU := Lib.hid hua; clear hua
   have HA := Lib.hid ha; clear ha
   go_wp2
   go_loopw [20] (fun i wr => ∃ (j : Nat) (acc' : List Int), j ≤ y.length ∧ i = .int .i64 j ∧ acc'.length = m ∧ Under p acc' ∧ Part wr b off (splice c off (ints acc')) acc' ∧
    mulRow false p i' a acc' j (y.drop j) = mulRow false p i' a acc 0 y ∧
    (w.alloc (.cells #[.int .i64 7, .int .i64 p, .int .i64 n] 24)).grownBy wr (some b)) (fun i _ => y.length - (RowKit.intOf i).toNat)
   case atStart => exact ⟨0, acc, Nat.zero_le _, rfl, hla, HU.out, hPa, rfl, hG⟩
   obtain ⟨j, acc2, hj, rfl, hla2, hua2, hPa2, hE3, hG2⟩ := hrel
   have g1 : wr.cell? ⟨w.heap.size, 1, none⟩ = some (.int .i64 p) := grown_cell hG2 (by omega) (by simp)
   have g0 : wr.cell? ⟨w.heap.size, 0, none⟩ = some (.int .i64 7) := grown_cell hG2 (by omega) (by simp)
   by_cases hlt2 : j < y.length
   · obtain ⟨b1, off1, a', rfl, hcx, hxi, _⟩ := hvx.get (i := i') hlt
     obtain ⟨b2, off2, b', rfl, hcy, hyj, _⟩ := hvy.get (i := j) hlt2
     obtain rfl : a' = a := by have := HA.out; rw [hxi] at this; injection this
     have hne1 : b1 ≠ b := by simpa [Value.ownBlock] using hnx
     have hne2 : b2 ≠ b := by simpa [Value.ownBlock] using hny
     have hcx' : wr.cell? ⟨b1, off1 + i', none⟩ = some (.int .i64 a') := grown_cell hG2 hne1 ((Ext.alloc (Ext.refl w) _).cell hcx)
     have hcy' : wr.cell? ⟨b2, off2 + j, none⟩ = some (.int .i64 b') := grown_cell hG2 hne2 ((Ext.alloc (Ext.refl w) _).cell hcy)
     obtain ⟨a0, a1⟩ := HX.out a' (List.mem_of_getElem? hxi)
     obtain ⟨b0, b1'⟩ := HY.out b' (List.mem_of_getElem? hyj)
     obtain ⟨p0, p1⟩ := prod_bound a0 b0 (show a' ≤ 1048576 by omega) (show b' ≤ 1048576 by omega)
     obtain ⟨r0, r1⟩ := mod_bound (a' * b') hp
     have hE4 : mulRow false p i' a' (put1 false p acc2 (i' + j) (a' * b')) (j + 1) (y.drop (j + 1)) = mulRow false p i' a' acc 0 y := by rw [← hE3, drop_at hyj]; rfl
     clear hE3
     have HE4 := Lib.hid hE4; clear hE4
     have hput := under_put false hua2 (i' + j) (a' * b') hp
     have HU2 := Lib.hid hput; clear hput
     have l0 := World.block_lt_of_cell? wr _ g0
     have l1 := World.block_lt_of_cell? wr _ hcx'
     have l2 := World.block_lt_of_cell? wr _ hcy'
     by_cases hk : i' + j < m
     · obtain ⟨o, ho⟩ : ∃ o, acc2[i' + j]? = some o := ⟨_, List.getElem?_eq_getElem (by omega)⟩
       obtain ⟨o0, o1⟩ := hua2 o (List.mem_of_getElem? ho)
       obtain ⟨hco, hfo⟩ := hPa2.cell ho
       have hpt : put1 false p acc2 (i' + j) (a' * b') = acc2.set (i' + j) ((o + a' * b') % p) := put1_in (by omega) ho
       have HPT := Lib.hid hpt; clear hpt
       have hset := hPa2.set (i := i' + j) (by omega) ((o + a' * b') % p)
       have hsets := hPa2.set_splice (i := i' + j) (by omega) ((o + a' * b') % p)
       rw [hsets, splice_splice (by rw [ints_length, hla2]; exact hcl2) (by simp [ints_length]), ← HPT.out] at hset
       have HS := Lib.hid hset; clear hset hsets ho hua2 hxi hyj hcx hcy
       go_wp2
       go_region
       go_wp2
       go_region
       go_wp2
       go_roundw
       case rel => exact ⟨j + 1, _, by omega, by go_num, (put1_length _ _ _ _ _).trans hla2, HU2.out, HS.out.ext xt, HE4.out, (by repeat' (first | (with_reducible exact grown_refl _ _) | (with_reducible assumption) | (with_reducible apply grown_alloc) | (with_reducible apply grown_drew) | (with_reducible apply grown_drewN) | (with_reducible refine grown_setCell ?_ _ _) | (refine grownBy_trans ?_ (by assumption))))⟩
       case measure => simp [RowKit.intOf]; omega
     have hpt : put1 false p acc2 (i' + j) (a' * b') = acc2 := put1_out (by omega)
     have HPT := Lib.hid hpt; clear hpt hua2 hxi hyj hcx hcy
     go_wp2
     go_region
     go_wp2
     go_roundw
     case rel => exact ⟨j + 1, _, by omega, by go_num, (put1_length _ _ _ _ _).trans hla2, HU2.out, by rw [HPT.out]; exact hPa2.ext xt, HE4.out, (by repeat' (first | (with_reducible exact grown_refl _ _) | (with_reducible assumption) | (with_reducible apply grown_alloc) | (with_reducible apply grown_drew) | (with_reducible apply grown_drewN) | (with_reducible refine grown_setCell ?_ _ _) | (refine grownBy_trans ?_ (by assumption))))⟩
     case measure => simp [RowKit.intOf]; omega
   have : j = y.length := by omega
   subst this
   have hend : acc2 = mulRow false p i' a acc 0 y := by simpa [mulRow] using hE3
   subst hend
   have HU3 := Lib.hid hua2; clear hua2 hE3
   go_wp2
   go_roundw
   case rel => exact ⟨i' + 1, _, by omega, by go_num, hla2, HU3.out, hPa2.ext xt, HE.out, (by repeat' (first | (with_reducible exact grown_refl _ _) | (with_reducible assumption) | (with_reducible apply grown_alloc) | (with_reducible apply grown_drew) | (with_reducible apply grown_drewN) | (with_reducible refine grown_setCell ?_ _ _) | (refine grownBy_trans ?_ (by assumption))))⟩
   case measure => simp [RowKit.intOf]; omega
 have : i' = x.length := by omega
 subst this
 have hend : acc = mulRows false p y (List.replicate m 0) 0 x := by simpa [mulRows] using hE
 subst hend
 clear hua hE
 go_wp2
 go_end0
 exact ⟨rfl, hPa.blk, grownBy_trans (grown_alloc (grown_refl w (some b)) _) hG⟩
set_option maxRecDepth 100000 in
set_option maxHeartbeats 2000000 in
theorem mulCo_8 (p n : Int) (b off cap : Nat) (c : List Value) (vx vy : Value) (x y z : List Int) (w : World) (hP : Part w b off c z) (hvx : IntS w vx x) (hvy : IntS w vy y) (hnx : vx.ownBlock ≠ some b) (hny : vy.ownBlock ≠ some b)
 (hz0 : 0 < z.length) (hx : Under p x) (hy : Under p y) (hp : 1 ≤ p) (hp2 : p ≤ 1048576) (hl64 : z.length ≤ 1048576) (hxl : x.length ≤ 6) (hyl : y.length ≤ 6) (hx4 : x.length ≤ 4) (hy4 : y.length ≤ 4) (hz4 : z.length = 4) :
 Calls Tryz.prog 82 #[ringV 8 p n, .slice (some ⟨b, off, none⟩) z.length cap, vx, vy] w fun e w' =>
  e = .returned (.tuple #[]) ∧ Blk w' b 3 (splice c off (ints (mulRows true p y (List.replicate z.length 0) 0 x))) ∧ w.grownBy w' (some b) := by
 obtain ⟨ax, capx, rfl, hc1, hc2⟩ := hvx.val
 obtain ⟨ay, capy, rfl, hc3, hc4⟩ := hvy.val
 have hb := hP.blk.lt
 have hcl := hP.len
 obtain ⟨m, hm⟩ : ∃ m, z.length = m := ⟨_, rfl⟩
 rw [hm]
 have hcl2 : off + m ≤ c.length := by omega
 have hm64 : m ≤ 1048576 := by omega
 have HM4 := Lib.hid (show m = 4 by omega); clear hz4
 have hz : ∀ (w : World), (∀ j, j < m → (w.cell? ⟨b, off + j, none⟩).isSome = true) → (∀ j, j < m → w.frozen? ⟨b, off + j, none⟩ = false) → ∀ ty, (Builtin.clear_ #[27] ty #[.slice (some ⟨b, off, none⟩) m cap]).run Tryz.prog w = .ok (.tuple #[]) (w.setCells b off (List.replicate m (.int .i64 0))) :=
  fun w h1 h2 ty => Lib.run_clear_slice w 27 3 ty (.int .i64 0) Tryz.underlying27 zeroI rfl rfl b off m cap (by omega) h1 h2
 have hB1 : Blk (w.alloc (.cells #[.int .i64 8, .int .i64 p, .int .i64 n] 24)) b 3 c := hP.blk.ext xt
 have hcl_ := hz _ (fun j hj => by rw [hB1.cell (List.getElem?_eq_getElem (by omega))]; rfl) (fun j _ => hB1.free _)
 clear hz
 have hS := hB1.sets (List.replicate m (.int .i64 0)) off (by simpa using hcl2)
 rw [← ints_replicate] at hS
 obtain ⟨w1, hw1⟩ : ∃ w1, World.setCells (w.alloc (.cells #[.int .i64 8, .int .i64 p, .int .i64 n] 24)) b off (List.replicate m (.int .i64 0)) = w1 := ⟨_, rfl⟩
 have hG1 : (w.alloc (.cells #[.int .i64 8, .int .i64 p, .int .i64 n] 24)).grownBy w1 (some b) := by rw [← hw1]; exact grown_sets _ (grown_refl _ _) _
 have hs1 : w1.heap.size = w.heap.size + 1 := by rw [← hw1, size_sets]; simp
 rw [ints_replicate, hw1, ← ints_replicate] at hS
 simp only [hw1] at hcl_
 have hP1 : Part w1 b off (splice c off (ints (List.replicate m 0))) (List.replicate m 0) := Part.of hS (by simpa using hcl2)
 clear hS hB1 hw1
 have HX := Lib.hid hx; clear hx
 have HY := Lib.hid hy; clear hy
 have HM := Lib.hid hm; clear hm
 go_enter Tryz.func82, Tryz.ntmps82
 go_wp2_with (simp only [hcl_])
 clear hcl_
 go_loopw [15] (fun i wr => ∃ (i' : Nat) (acc : List Int), i' ≤ x.length ∧ i = .int .i64 i' ∧ acc.length = m ∧ Under p acc ∧ Part wr b off (splice c off (ints acc)) acc ∧
  mulRows true p y acc i' (x.drop i') = mulRows true p y (List.replicate m 0) 0 x ∧
  (w.alloc (.cells #[.int .i64 8, .int .i64 p, .int .i64 n] 24)).grownBy wr (some b)) (fun i _ => x.length - (RowKit.intOf i).toNat)
 case atStart => exact ⟨0, _, Nat.zero_le _, rfl, by simp, under_zeros _ (by omega), hP1, rfl, hG1⟩
 obtain ⟨i', acc, hi, rfl, hla, hua, hPa, hE, hG⟩ := hrel
 by_cases hlt : i' < x.length
 · obtain ⟨a, ha⟩ : ∃ a, x[i']? = some a := ⟨_, List.getElem?_eq_getElem hlt⟩
   have hE2 : mulRows true p y (mulRow true p i' a acc 0 y) (i' + 1) (x.drop (i' + 1)) = mulRows true p y (List.replicate m 0) 0 x := by rw [← hE, drop_at ha]; rfl
   clear hE
   have HE := Lib.hid hE2; clear hE2
   have HU := Lib.hid hua; clear hua
   have HA := Lib.hid ha; clear ha
   go_wp2
   go_loopw [20] (fun i wr => ∃ (j : Nat) (acc' : List Int), j ≤ y.length ∧ i = .int .i64 j ∧ acc'.length = m ∧ Under p acc' ∧ Part wr b off (splice c off (ints acc')) acc' ∧
    mulRow true p i' a acc' j (y.drop j) = mulRow true p i' a acc 0 y ∧
    (w.alloc (.cells #[.int .i64 8, .int .i64 p, .int .i64 n] 24)).grownBy wr (some b)) (fun i _ => y.length - (RowKit.intOf i).toNat)
   case atStart => exact ⟨0, acc, Nat.zero_le _, rfl, hla, HU.out, hPa, rfl, hG⟩
   obtain ⟨j, acc2, hj, rfl, hla2, hua2, hPa2, hE3, hG2⟩ := hrel
   have g1 : wr.cell? ⟨w.heap.size, 1, none⟩ = some (.int .i64 p) := grown_cell hG2 (by omega) (by simp)
   have g0 : wr.cell? ⟨w.heap.size, 0, none⟩ = some (.int .i64 8) := grown_cell hG2 (by omega) (by simp)
   by_cases hlt2 : j < y.length
   · obtain ⟨b1, off1, a', rfl, hcx, hxi, _⟩ := hvx.get (i := i') hlt
     obtain ⟨b2, off2, b', rfl, hcy, hyj, _⟩ := hvy.get (i := j) hlt2
     obtain rfl : a' = a := by have := HA.out; rw [hxi] at this; injection this
     have hne1 : b1 ≠ b := by simpa [Value.ownBlock] using hnx
     have hne2 : b2 ≠ b := by simpa [Value.ownBlock] using hny
     have hcx' : wr.cell? ⟨b1, off1 + i', none⟩ = some (.int .i64 a') := grown_cell hG2 hne1 ((Ext.alloc (Ext.refl w) _).cell hcx)
     have hcy' : wr.cell? ⟨b2, off2 + j, none⟩ = some (.int .i64 b') := grown_cell hG2 hne2 ((Ext.alloc (Ext.refl w) _).cell hcy)
     obtain ⟨a0, a1⟩ := HX.out a' (List.mem_of_getElem? hxi)
     obtain ⟨b0, b1'⟩ := HY.out b' (List.mem_of_getElem? hyj)
     obtain ⟨p0, p1⟩ := prod_bound a0 b0 (show a' ≤ 1048576 by omega) (show b' ≤ 1048576 by omega)
     obtain ⟨r0, r1⟩ := mod_bound (a' * b') hp
     have hE4 : mulRow true p i' a' (put1 true p acc2 (i' + j) (a' * b')) (j + 1) (y.drop (j + 1)) = mulRow true p i' a' acc 0 y := by rw [← hE3, drop_at hyj]; rfl
     clear hE3
     have HE4 := Lib.hid hE4; clear hE4
     have hput := under_put true hua2 (i' + j) (a' * b') hp
     have HU2 := Lib.hid hput; clear hput
     have l0 := World.block_lt_of_cell? wr _ g0
     have l1 := World.block_lt_of_cell? wr _ hcx'
     have l2 := World.block_lt_of_cell? wr _ hcy'
     by_cases hk : i' + j < m
     · obtain ⟨o, ho⟩ : ∃ o, acc2[i' + j]? = some o := ⟨_, List.getElem?_eq_getElem (by omega)⟩
       obtain ⟨o0, o1⟩ := hua2 o (List.mem_of_getElem? ho)
       obtain ⟨hco, hfo⟩ := hPa2.cell ho
       have hpt : put1 true p acc2 (i' + j) (a' * b') = acc2.set (i' + j) ((o + a' * b') % p) := put1_in (by omega) ho
       have HPT := Lib.hid hpt; clear hpt
       have hset := hPa2.set (i := i' + j) (by omega) ((o + a' * b') % p)
       have hsets := hPa2.set_splice (i := i' + j) (by omega) ((o + a' * b') % p)
       rw [hsets, splice_splice (by rw [ints_length, hla2]; exact hcl2) (by simp [ints_length]), ← HPT.out] at hset
       have HS := Lib.hid hset; clear hset hsets ho hua2 hxi hyj hcx hcy
       go_wp2
       go_region
       go_wp2
       go_region
       go_wp2
       go_roundw
       case rel => exact ⟨j + 1, _, by omega, by go_num, (put1_length _ _ _ _ _).trans hla2, HU2.out, HS.out.ext xt, HE4.out, (by repeat' (first | (with_reducible exact grown_refl _ _) | (with_reducible assumption) | (with_reducible apply grown_alloc) | (with_reducible apply grown_drew) | (with_reducible apply grown_drewN) | (with_reducible refine grown_setCell ?_ _ _) | (refine grownBy_trans ?_ (by assumption))))⟩
       case measure => simp [RowKit.intOf]; omega
     have hk4 : 4 ≤ i' + j := by have := HM4.out; omega
     obtain ⟨o, ho⟩ : ∃ o, acc2[i' + j - 4]? = some o := ⟨_, List.getElem?_eq_getElem (by have := HM4.out; omega)⟩
     obtain ⟨o0, o1⟩ := hua2 o (List.mem_of_getElem? ho)
     obtain ⟨hco, hfo⟩ := hPa2.cell ho
     have hpt : put1 true p acc2 (i' + j) (a' * b') = acc2.set (i' + j - 4) ((o - a' * b') % p) := put1_over (by omega) ho
     have HPT := Lib.hid hpt; clear hpt
     have hset := hPa2.set (i := i' + j - 4) (by have := HM4.out; omega) ((o - a' * b') % p)
     have hsets := hPa2.set_splice (i := i' + j - 4) (by have := HM4.out; omega) ((o - a' * b') % p)
     rw [hsets, splice_splice (by rw [ints_length, hla2]; exact hcl2) (by simp [ints_length]), ← HPT.out] at hset
     have HS := Lib.hid hset; clear hset hsets ho hua2 hxi hyj hcx hcy
     have hk5 : i' + j - 4 < m := by have := HM4.out; omega
     have hcast : ((i' : Int) + (j : Int) - 4).toNat = i' + j - 4 := by omega
     go_wp2
     go_region
     go_wp2
     go_region
     go_wp2
     have he : (o + p - a' * b') % p = (o - a' * b') % p := by rw [show o + p - a' * b' = o - a' * b' + p by omega, Int.add_emod_right]
     go_roundw
     case rel => exact ⟨j + 1, _, by omega, by go_num, (put1_length _ _ _ _ _).trans hla2, HU2.out, by rw [he]; exact HS.out.ext xt, HE4.out, (by repeat' (first | (with_reducible exact grown_refl _ _) | (with_reducible assumption) | (with_reducible apply grown_alloc) | (with_reducible apply grown_drew) | (with_reducible apply grown_drewN) | (with_reducible refine grown_setCell ?_ _ _) | (refine grownBy_trans ?_ (by assumption))))⟩
     case measure => simp [RowKit.intOf]; omega
   have : j = y.length := by omega
   subst this
   have hend : acc2 = mulRow true p i' a acc 0 y := by simpa [mulRow] using hE3
   subst hend
   have HU3 := Lib.hid hua2; clear hua2 hE3
   go_wp2
   go_roundw
   case rel => exact ⟨i' + 1, _, by omega, by go_num, hla2, HU3.out, hPa2.ext xt, HE.out, (by repeat' (first | (with_reducible exact grown_refl _ _) | (with_reducible assumption) | (with_reducible apply grown_alloc) | (with_reducible apply grown_drew) | (with_reducible apply grown_drewN) | (with_reducible refine grown_setCell ?_ _ _) | (refine grownBy_trans ?_ (by assumption))))⟩
   case measure => simp [RowKit.intOf]; omega
 have : i' = x.length := by omega
 subst this
 have hend : acc = mulRows true p y (List.replicate m 0) 0 x := by simpa [mulRows] using hE
 subst hend
 clear hua hE
 go_wp2
 go_end0
 exact ⟨rfl, hPa.blk, grownBy_trans (grown_alloc (grown_refl w (some b)) _) hG⟩
def sm : Nat → (Nat → Int) → Int
  | 0, _ => 0
  | n + 1, f => sm n f + f n
theorem sm_congr {n : Nat} {f g : Nat → Int} (h : ∀ i, i < n → f i = g i) : sm n f = sm n g := by
  induction n with
  | zero => rfl
  | succ n ih => rw [sm, sm, ih (fun i hi => h i (by omega)), h n (by omega)]
theorem sm_add (n : Nat) (f g : Nat → Int) : sm n (fun i => f i + g i) = sm n f + sm n g := by
  induction n with
  | zero => rfl
  | succ n ih => rw [sm, sm, sm, ih]; omega
theorem sm_mul (n : Nat) (c : Int) (f : Nat → Int) : sm n (fun i => c * f i) = c * sm n f := by
  induction n with
  | zero => simp [sm]
  | succ n ih => rw [sm, sm, ih, Int.mul_add]
theorem sm_mulr (n : Nat) (c : Int) (f : Nat → Int) : sm n (fun i => f i * c) = sm n f * c := by
  rw [Int.mul_comm, ← sm_mul]; exact sm_congr fun i _ => Int.mul_comm _ _
theorem sm_zero (n : Nat) : sm n (fun _ => 0) = 0 := by
  induction n with
  | zero => rfl
  | succ n ih => rw [sm, ih]; rfl
theorem sm_comm (n m : Nat) (f : Nat → Nat → Int) : sm n (fun i => sm m (fun j => f i j)) = sm m (fun j => sm n (fun i => f i j)) := by
  induction n with
  | zero => simp [sm, sm_zero]
  | succ n ih => simp only [sm]; rw [ih, ← sm_add]
theorem sm_one {n : Nat} {f : Nat → Int} {k : Nat} (hk : k < n) (h : ∀ i, i < n → i ≠ k → f i = 0) : sm n f = f k := by
  induction n with
  | zero => omega
  | succ n ih =>
    rw [sm]
    by_cases e : k = n
    · subst e
      rw [sm_congr (g := fun _ => 0) (fun i hi => h i (by omega) (by omega)), sm_zero]; omega
    · rw [ih (by omega) (fun i hi hne => h i (by omega) hne), h n (by omega) (by omega)]; omega
theorem sm_mod (p : Int) {n : Nat} {f g : Nat → Int} (h : ∀ i, i < n → f i % p = g i % p) : sm n f % p = sm n g % p := by
  induction n with
  | zero => rfl
  | succ n ih => rw [sm, sm, Int.add_emod, ih (fun i hi => h i (by omega)), h n (by omega), ← Int.add_emod]
theorem sm_head (n : Nat) (f : Nat → Int) : sm (n + 1) f = f 0 + sm n (fun i => f (i + 1)) := by
  induction n with
  | zero => simp [sm]
  | succ n ih => rw [sm, ih, sm]; omega
def cg (l : List Int) (i : Nat) : Int := l[i]?.getD 0
theorem cg_cons0 (a : Int) (l : List Int) : cg (a :: l) 0 = a := by simp [cg]
theorem cg_cons (a : Int) (l : List Int) (i : Nat) : cg (a :: l) (i + 1) = cg l i := by simp [cg]
theorem cg_ext {x y : List Int} (hl : x.length = y.length) (h : ∀ i, i < x.length → cg x i = cg y i) : x = y := by
  apply List.ext_getElem hl
  intro i h1 h2
  have := h i h1
  simp [cg, h1, h2] at this
  exact this
theorem cg_mem {l : List Int} {i : Nat} (h : i < l.length) : cg l i ∈ l := by simp [cg, h]
theorem cg_set {l : List Int} {k : Nat} (hk : k < l.length) (v : Int) (m : Nat) : cg (l.set k v) m = if k = m then v else cg l m := by
  unfold cg
  rw [List.getElem?_set]
  split
  · simp [hk]
  · rfl
theorem cg_replicate (n m : Nat) : cg (List.replicate n 0) m = 0 := by
  unfold cg
  by_cases h : m < n <;> simp [h]
def cf (om : Bool) (n k m : Nat) : Int := if k < n then (if k = m then 1 else 0) else if om = true ∧ k - 4 = m then -1 else 0
theorem put1_cg {om : Bool} {p : Int} {acc : List Int} {k : Nat} (v : Int) {m : Nat} (hm : m < acc.length) (hr : cg acc m % p = cg acc m) (hk : om = true → acc.length = 4 ∧ k < 8) :
    cg (put1 om p acc k v) m = (cg acc m + cf om acc.length k m * v) % p := by
  unfold put1 cf
  by_cases h : k < acc.length
  · simp only [if_pos h]
    rw [cg_set h]
    split
    · rename_i e; subst e; simp [cg]
    · simp [hr]
  · simp only [if_neg h]
    by_cases ho : om = true
    · simp only [if_pos ho]
      have := hk ho
      rw [cg_set (by omega)]
      split
      · rename_i e; subst e; simp [cg, ho, Int.sub_eq_add_neg]
      · rename_i e; simp [e, hr]
    · simp [ho, hr]
def Red (p : Int) (l : List Int) : Prop := ∀ m, m < l.length → cg l m % p = cg l m
theorem put1_red {om : Bool} {p : Int} {acc : List Int} {k : Nat} (v : Int) (hr : Red p acc) (hk : om = true → acc.length = 4 ∧ k < 8) : Red p (put1 om p acc k v) := by
  intro m hm
  rw [put1_length] at hm
  rw [put1_cg v hm (hr m hm) hk, Int.emod_emod_of_dvd _ (Int.dvd_refl p)]
theorem mulRow_cg (om : Bool) (p : Int) (i : Nat) (a : Int) : ∀ (y : List Int) (acc : List Int) (j : Nat) (_ : Red p acc) (_ : om = true → acc.length = 4 ∧ i + j + y.length ≤ 8),
    (mulRow om p i a acc j y).length = acc.length ∧ Red p (mulRow om p i a acc j y) ∧
    ∀ m, m < acc.length → cg (mulRow om p i a acc j y) m = (cg acc m + sm y.length (fun t => cf om acc.length (i + j + t) m * (a * cg y t))) % p
  | [], acc, j, hr, hk => ⟨rfl, hr, fun m hm => by simp [mulRow, sm, hr m hm]⟩
  | b :: t, acc, j, hr, hk => by
    have hk1 : om = true → acc.length = 4 ∧ i + j < 8 := fun h => by have := hk h; simp at this; omega
    obtain ⟨h1, h2, h3⟩ := mulRow_cg om p i a t (put1 om p acc (i + j) (a * b)) (j + 1) (put1_red _ hr hk1) (fun h => by have := hk h; rw [put1_length]; simp at this ⊢; omega)
    rw [put1_length] at h1 h3
    refine ⟨h1, h2, fun m hm => ?_⟩
    rw [mulRow, h3 m hm, put1_cg _ hm (hr m hm) hk1, List.length_cons, sm_head]
    simp only [cg_cons0, cg_cons, Nat.add_zero]
    rw [Int.emod_add_emod, Int.add_assoc]
    congr 3
    apply sm_congr
    intro t' _
    rw [show i + (j + 1) + t' = i + j + (t' + 1) by omega]
theorem mulRows_cg (om : Bool) (p : Int) (y : List Int) : ∀ (x : List Int) (acc : List Int) (i : Nat) (_ : Red p acc) (_ : om = true → acc.length = 4 ∧ y.length = 4 ∧ i + x.length ≤ 4),
    ∀ m, m < acc.length → cg (mulRows om p y acc i x) m = (cg acc m + sm x.length (fun s => sm y.length (fun t => cf om acc.length (i + s + t) m * (cg x s * cg y t)))) % p
  | [], acc, i, hr, hk, m, hm => by simp [mulRows, sm, hr m hm]
  | a :: t, acc, i, hr, hk, m, hm => by
    obtain ⟨h1, h2, h3⟩ := mulRow_cg om p i a y acc 0 hr (fun h => by have := hk h; simp at this; omega)
    have h4 := mulRows_cg om p y t (mulRow om p i a acc 0 y) (i + 1) h2 (fun h => by have := hk h; rw [h1]; simp at this; omega) m (by omega)
    rw [mulRows, h4, h3 m hm, h1, List.length_cons, sm_head]
    simp only [cg_cons0, cg_cons, Nat.add_zero]
    rw [Int.emod_add_emod, Int.add_assoc]
    congr 3
    apply sm_congr
    intro s _
    apply sm_congr
    intro t' _
    rw [show i + 1 + s + t' = i + (s + 1) + t' by omega]
def cnv (om : Bool) (p : Int) (x y : List Int) : List Int := mulRows om p y (List.replicate x.length 0) 0 x
theorem cnv_length (om : Bool) (p : Int) (x y : List Int) : (cnv om p x y).length = x.length := by rw [cnv, mulRows_length, List.length_replicate]
structure Co (om : Bool) (n : Nat) : Prop where
  hi : n ≤ 6
  om4 : om = true → n = 4
theorem cnv_cg {om : Bool} {n : Nat} (hn : Co om n) (p : Int) {x y : List Int} (hx : x.length = n) (hy : y.length = n) {m : Nat} (hm : m < n) :
    cg (cnv om p x y) m = sm n (fun s => sm n (fun t => cf om n (s + t) m * (cg x s * cg y t))) % p := by
  have := mulRows_cg om p y x (List.replicate x.length 0) 0 (fun m _ => by rw [cg_replicate]; rfl) (fun h => by have := hn.om4 h; rw [List.length_replicate]; omega) m (by rw [List.length_replicate]; omega)
  rw [cnv, this, cg_replicate, List.length_replicate, hx, hy, Int.zero_add]
  simp only [Nat.zero_add]
theorem cnv_comm {om : Bool} {n : Nat} (hn : Co om n) (p : Int) {x y : List Int} (hx : x.length = n) (hy : y.length = n) : cnv om p x y = cnv om p y x := by
  apply cg_ext (by rw [cnv_length, cnv_length, hx, hy])
  intro m hm
  rw [cnv_length, hx] at hm
  rw [cnv_cg hn p hx hy hm, cnv_cg hn p hy hx hm, sm_comm]
  congr 1
  apply sm_congr; intro s _
  apply sm_congr; intro t _
  rw [Nat.add_comm t s, Int.mul_comm (cg x t)]
theorem cf_assoc_f : ∀ n, n ≤ 6 → ∀ i, i < n → ∀ j, j < n → ∀ l, l < n → ∀ m, m < n → sm n (fun s => cf false n (s + l) m * cf false n (i + j) s) = sm n (fun s => cf false n (i + s) m * cf false n (j + l) s) := by decide +kernel
theorem cf_assoc_t : ∀ i, i < 4 → ∀ j, j < 4 → ∀ l, l < 4 → ∀ m, m < 4 → sm 4 (fun s => cf true 4 (s + l) m * cf true 4 (i + j) s) = sm 4 (fun s => cf true 4 (i + s) m * cf true 4 (j + l) s) := by decide +kernel
theorem cf_assoc {om : Bool} {n : Nat} (hn : Co om n) {i j l m : Nat} (hi : i < n) (hj : j < n) (hl : l < n) (hm : m < n) :
    sm n (fun s => cf om n (s + l) m * cf om n (i + j) s) = sm n (fun s => cf om n (i + s) m * cf om n (j + l) s) := by
  cases om with
  | false => exact cf_assoc_f n hn.hi i hi j hj l hl m hm
  | true => obtain rfl := hn.om4 rfl; exact cf_assoc_t i hi j hj l hl m hm
theorem mod_in (p a b c : Int) : (a * (b % p * c)) % p = (a * (b * c)) % p := by
  rw [Int.mul_emod a (b % p * c), Int.mul_emod (b % p) c, Int.emod_emod_of_dvd _ (Int.dvd_refl p), ← Int.mul_emod b c, ← Int.mul_emod]
theorem cnv_assoc {om : Bool} {n : Nat} (hn : Co om n) (p : Int) {x y z : List Int} (hx : x.length = n) (hy : y.length = n) (hz : z.length = n) : cnv om p (cnv om p x y) z = cnv om p x (cnv om p y z) := by
  apply cg_ext (by rw [cnv_length, cnv_length, cnv_length])
  intro m hm
  rw [cnv_length, cnv_length, hx] at hm
  rw [cnv_cg hn p (by rw [cnv_length]; exact hx) hz hm, cnv_cg hn p hx (by rw [cnv_length]; exact hy) hm]
  have e1 : sm n (fun s => sm n (fun t => cf om n (s + t) m * (cg (cnv om p x y) s * cg z t))) % p = sm n (fun i => sm n (fun j => sm n (fun l => sm n (fun s => cf om n (s + l) m * cf om n (i + j) s) * (cg x i * cg y j * cg z l)))) % p := by
    have : sm n (fun s => sm n (fun t => cf om n (s + t) m * (cg (cnv om p x y) s * cg z t))) % p = sm n (fun s => sm n (fun t => cf om n (s + t) m * (sm n (fun i => sm n (fun j => cf om n (i + j) s * (cg x i * cg y j))) * cg z t))) % p := by
      apply sm_mod; intro s hs
      apply sm_mod; intro t ht
      rw [cnv_cg hn p hx hy hs, mod_in]
    rw [this]
    congr 1
    have e : ∀ s t, s < n → t < n → cf om n (s + t) m * (sm n (fun i => sm n (fun j => cf om n (i + j) s * (cg x i * cg y j))) * cg z t) = sm n (fun i => sm n (fun j => (cf om n (s + t) m * cf om n (i + j) s) * (cg x i * cg y j * cg z t))) := by
      intro s t _ _
      rw [← sm_mulr, ← sm_mul]
      apply sm_congr; intro i _
      rw [← sm_mulr, ← sm_mul]
      apply sm_congr; intro j _
      simp only [Int.mul_assoc]
    rw [sm_congr (fun s hs => sm_congr (fun t ht => e s t hs ht))]
    -- order: s t i j -> i j t s
    rw [sm_congr (fun s hs => sm_comm n n _)]
    rw [sm_comm]
    apply sm_congr; intro i _
    rw [sm_congr (fun s hs => sm_comm n n _)]
    rw [sm_comm]
    apply sm_congr; intro j _
    rw [sm_comm]
    apply sm_congr; intro l _
    rw [sm_mulr]
  have e2 : sm n (fun s => sm n (fun t => cf om n (s + t) m * (cg x s * cg (cnv om p y z) t))) % p = sm n (fun i => sm n (fun j => sm n (fun l => sm n (fun s => cf om n (i + s) m * cf om n (j + l) s) * (cg x i * cg y j * cg z l)))) % p := by
    have : sm n (fun s => sm n (fun t => cf om n (s + t) m * (cg x s * cg (cnv om p y z) t))) % p = sm n (fun s => sm n (fun t => cf om n (s + t) m * (sm n (fun j => sm n (fun l => cf om n (j + l) t * (cg y j * cg z l))) * cg x s))) % p := by
      apply sm_mod; intro s hs
      apply sm_mod; intro t ht
      rw [cnv_cg hn p hy hz ht, Int.mul_comm (cg x s), mod_in]
    rw [this]
    congr 1
    apply sm_congr; intro i _
    have e : ∀ t, t < n → cf om n (i + t) m * (sm n (fun j => sm n (fun l => cf om n (j + l) t * (cg y j * cg z l))) * cg x i) = sm n (fun j => sm n (fun l => (cf om n (i + t) m * cf om n (j + l) t) * (cg x i * cg y j * cg z l))) := by
      intro t _
      rw [← sm_mulr, ← sm_mul]
      apply sm_congr; intro j _
      rw [← sm_mulr, ← sm_mul]
      apply sm_congr; intro l _
      rw [Int.mul_assoc, Int.mul_assoc, Int.mul_comm _ (cg x i)]
      simp only [Int.mul_assoc, Int.mul_left_comm (cg x i)]
    rw [sm_congr (fun t ht => e t ht), sm_comm]
    apply sm_congr; intro j _
    rw [sm_comm]
    apply sm_congr; intro l _
    rw [sm_mulr]
  rw [e1, e2]
  congr 1
  apply sm_congr; intro i hi
  apply sm_congr; intro j hj
  apply sm_congr; intro l hl
  rw [cf_assoc hn hi hj hl hm]
theorem zip_cg {f : Int → Int → Int} {x y : List Int} {n m : Nat} (hx : x.length = n) (hy : y.length = n) (hm : m < n) : cg (List.zipWith f x y) m = f (cg x m) (cg y m) := by
  simp [cg, List.getElem?_zipWith, List.getElem?_eq_getElem (show m < x.length by omega), List.getElem?_eq_getElem (show m < y.length by omega)]
theorem cnv_add {om : Bool} {n : Nat} (hn : Co om n) (p : Int) {x y z : List Int} (hx : x.length = n) (hy : y.length = n) (hz : z.length = n) :
    cnv om p (List.zipWith (fun a b => (a + b) % p) x y) z = List.zipWith (fun a b => (a + b) % p) (cnv om p x z) (cnv om p y z) := by
  have hl : (List.zipWith (fun a b => (a + b) % p) x y).length = n := by simp [hx, hy]
  apply cg_ext (by rw [cnv_length, hl, List.length_zipWith, cnv_length, cnv_length, hx, hy, Nat.min_self])
  intro m hm
  rw [cnv_length, hl] at hm
  rw [cnv_cg hn p hl hz hm, zip_cg (by rw [cnv_length]; exact hx) (by rw [cnv_length]; exact hy) hm, cnv_cg hn p hx hz hm, cnv_cg hn p hy hz hm, ← Int.add_emod, ← sm_add]
  apply sm_mod; intro s hs
  rw [← sm_add]
  apply sm_mod; intro t ht
  rw [zip_cg hx hy hs, mod_in, Int.add_mul, Int.mul_add]
theorem cnv_one {om : Bool} {n : Nat} (hn : Co om n) (p : Int) {x : List Int} (hx : x.length = n) (hr : Red p x) (hp : 2 ≤ p) : cnv om p x ((List.replicate n 0).set 0 1) = x := by
  have hl : ((List.replicate n (0 : Int)).set 0 1).length = n := by simp
  apply cg_ext (by rw [cnv_length])
  intro m hm
  rw [cnv_length, hx] at hm
  rw [cnv_cg hn p hx hl hm]
  rw [sm_congr (g := fun s => cf om n s m * cg x s) (fun s hs => by
    rw [sm_one (k := 0) (by omega) (fun t ht h0 => by rw [cg_set (by simp; omega), if_neg (by omega), cg_replicate]; simp)]
    rw [cg_set (by simp; omega), if_pos rfl]; simp)]
  rw [sm_one (k := m) hm (fun s hs hne => by simp [cf, hs, hne])]
  simp [cf, hm]
  exact hr m (by omega)
theorem cnv_zero {om : Bool} {n : Nat} (hn : Co om n) (p : Int) {x : List Int} (hx : x.length = n) : cnv om p x (List.replicate n 0) = List.replicate n 0 := by
  apply cg_ext (by rw [cnv_length, hx, List.length_replicate])
  intro m hm
  rw [cnv_length, hx] at hm
  rw [cnv_cg hn p hx (by simp) hm, cg_replicate]
  rw [sm_congr (g := fun _ => 0) (fun s hs => by rw [sm_congr (g := fun _ => 0) (fun t ht => by rw [cg_replicate]; simp), sm_zero]), sm_zero]; rfl
theorem run_push (ty : TypeId) (w : World) (B : Nat) (v : Value) (xs : List Int) (y : Int) (hv : OwnI w B v xs) (hb : xs.length + 1 ≤ 1099511627776) (hB : B ≤ w.heap.size) :
    ∃ v' w', (Builtin.append_ #[27, 27] ty #[v, .slice (some ⟨w.heap.size, 0, none⟩) 1 1]).run Tryz.prog (w.alloc (.cells #[.int .i64 y] 3)) = .ok v' w' ∧
      (OwnI w' B v' (xs ++ [y]) ∧ w.grownBy w' v.ownBlock ∧ (∀ q, v'.ownBlock = some q → v.ownBlock = some q ∨ w.heap.size ≤ q)) := by
  obtain ⟨v', w', h1, h2, h3, h4⟩ := run_app_ints ty (w.alloc (.cells #[.int .i64 y] 3)) B v (.slice (some ⟨w.heap.size, 0, none⟩) 1 1) xs [y] (hv.ext ((Ext.refl _).alloc _)) (IntS.one w y) hb (by simp; omega)
  refine ⟨v', w', h1, h2, grownBy_trans (grown_alloc (grown_refl _ _) _) h3, fun q hq => ?_⟩
  rcases h4 with h4 | h4
  · exact .inl (h4 ▸ hq)
  · rw [h4] at hq; injection hq with hq; right; simp at hq; omega
theorem ints_same (v u : Value) (l m : List Int) (w : World) (hl : IntS w v l) (hm : IntS w u m) (e : l = m) : Calls Tryz.prog 28 #[v, u] w fun e w' =>
 e = .returned (.bool true) ∧ w = w' := by
 subst e
 obtain ⟨a, cap, rfl, hc1, hc2⟩ := hl.val
 obtain ⟨a2, cap2, rfl, hc3, hc4⟩ := hm.val
 go_enter Tryz.func28, Tryz.ntmps28
 go_wp2
 go_loop [9] (fun i => ∃ j : Nat, j ≤ l.length ∧ i = .int .i64 j) (fun i => l.length - (RowKit.intOf i).toNat)
 case atStart => exact ⟨0, Nat.zero_le _, rfl⟩
 obtain ⟨j, hj, rfl⟩ := hrel
 by_cases hlt : j < l.length
 · obtain ⟨b, off, x, rfl, hcell, hx, _⟩ := hl.get hlt
   obtain ⟨b2, off2, y, rfl, hcell2, hy, _⟩ := hm.get hlt
   obtain rfl : x = y := by rw [hx] at hy; injection hy
   clear hx hy
   go_wp2
   go_round
   case rel => exact ⟨j + 1, by omega, by go_num⟩
   case measure => simp [RowKit.intOf]; omega
 have : j = l.length := by omega
 subst this
 go_wp2
 go_ret
 exact ⟨rfl, rfl⟩
structure Rig (R : Type) where
  add : R → R → R
  mul : R → R → R
  zero : R
  one : R
  add_comm : ∀ a b, add a b = add b a
  add_assoc : ∀ a b c, add (add a b) c = add a (add b c)
  add_zero : ∀ a, add a zero = a
  mul_comm : ∀ a b, mul a b = mul b a
  mul_assoc : ∀ a b c, mul (mul a b) c = mul a (mul b c)
  mul_one : ∀ a, mul a one = a
  mul_zero : ∀ a, mul a zero = zero
  add_mul : ∀ a b c, mul (add a b) c = add (mul a c) (mul b c)
section
variable {R : Type} (S : Rig R)
theorem Rig.zero_add (a : R) : S.add S.zero a = a := by rw [S.add_comm, S.add_zero]
theorem Rig.zero_mul (a : R) : S.mul S.zero a = S.zero := by rw [S.mul_comm, S.mul_zero]
theorem Rig.one_mul (a : R) : S.mul S.one a = a := by rw [S.mul_comm, S.mul_one]
theorem Rig.add_swap (a b c : R) : S.add a (S.add b c) = S.add b (S.add a c) := by rw [← S.add_assoc, S.add_comm a b, S.add_assoc]
theorem Rig.add4 (a b c d : R) : S.add (S.add a b) (S.add c d) = S.add (S.add a c) (S.add b d) := by rw [S.add_assoc, S.add_assoc, S.add_swap b c d]
theorem Rig.mul_swap (a b c : R) : S.mul a (S.mul b c) = S.mul b (S.mul a c) := by rw [← S.mul_assoc, S.mul_comm a b, S.mul_assoc]
def sumN : Nat → (Nat → R) → R
  | 0, _ => S.zero
  | n + 1, f => S.add (sumN n f) (f n)
theorem sumN_congr {f g : Nat → R} : ∀ {n : Nat}, (∀ v, v < n → f v = g v) → sumN S n f = sumN S n g
  | 0, _ => rfl
  | n + 1, h => by rw [sumN, sumN, sumN_congr (fun v hv => h v (by omega)), h n (by omega)]
theorem sumN_zero : ∀ n : Nat, sumN S n (fun _ => S.zero) = S.zero
  | 0 => rfl
  | n + 1 => by rw [sumN, sumN_zero n, S.add_zero]
theorem sumN_add (f g : Nat → R) : ∀ n : Nat, sumN S n (fun v => S.add (f v) (g v)) = S.add (sumN S n f) (sumN S n g)
  | 0 => (S.add_zero _).symm
  | n + 1 => by rw [sumN, sumN_add f g n, sumN, sumN, S.add4]
theorem sumN_mul (f : Nat → R) (c : R) : ∀ n : Nat, sumN S n (fun v => S.mul (f v) c) = S.mul (sumN S n f) c
  | 0 => (S.zero_mul c).symm
  | n + 1 => by rw [sumN, sumN_mul f c n, sumN, S.add_mul]
theorem sumN_comm (f : Nat → Nat → R) (m : Nat) : ∀ n : Nat, sumN S n (fun i => sumN S m (fun j => f i j)) = sumN S m (fun j => sumN S n (fun i => f i j))
  | 0 => by simp only [sumN]; exact (sumN_zero S m).symm
  | n + 1 => by simp only [sumN]; rw [sumN_comm f m n, ← sumN_add]
theorem sumN_none {f : Nat → R} {n k : Nat} (h : n ≤ k) : sumN S n (fun v => if v = k then f v else S.zero) = S.zero := by
  rw [sumN_congr S (g := fun _ => S.zero) fun v hv => if_neg (fun e : v = k => by omega), sumN_zero]
theorem sumN_single {f : Nat → R} {k : Nat} : ∀ {n : Nat}, k < n → sumN S n (fun v => if v = k then f v else S.zero) = f k
  | 0, h => by omega
  | n + 1, h => by
    rw [sumN]
    by_cases e : n = k
    · subst e
      rw [sumN_none S (Nat.le_refl _), if_pos rfl, S.zero_add]
    · rw [sumN_single (by omega), if_neg e, S.add_zero]
def sumL : List R → R
  | [] => S.zero
  | a :: l => S.add a (sumL l)
theorem sumL_append : ∀ l m : List R, sumL S (l ++ m) = S.add (sumL S l) (sumL S m)
  | [], m => (S.zero_add _).symm
  | a :: l, m => by rw [List.cons_append, sumL, sumL_append l m, sumL, S.add_assoc]
theorem sumL_range (f : Nat → R) : ∀ n : Nat, sumL S ((List.range n).map f) = sumN S n f
  | 0 => rfl
  | n + 1 => by rw [List.range_succ, List.map_append, sumL_append, sumL_range f n]; simp [sumL, sumN, S.add_zero]
theorem sumL_flatMap (f : Nat → List R) : ∀ n : Nat, sumL S ((List.range n).flatMap f) = sumN S n (fun v => sumL S (f v))
  | 0 => rfl
  | n + 1 => by rw [List.range_succ, List.flatMap_append, sumL_append, sumL_flatMap f n]; simp [sumN]
end
def upd (σ : Int → Int) (l v : Int) : Int → Int := fun x => if x = l then v else σ x
theorem upd_same (σ : Int → Int) (l v : Int) : upd σ l v l = v := by simp [upd]
theorem upd_ne (σ : Int → Int) {l x : Int} (v : Int) (h : x ≠ l) : upd σ l v x = σ x := by simp [upd, h]
theorem upd_comm (σ : Int → Int) {l m : Int} (v u : Int) (h : l ≠ m) : upd (upd σ l v) m u = upd (upd σ m u) l v := by
  funext x
  simp only [upd]
  by_cases h1 : x = m
  · subst h1; simp [Ne.symm h]
  · simp [h1]
def labs (ax : List (Int × Int)) : List Int := ax.map (·.1)
theorem labs_cons (l d : Int) (r : List (Int × Int)) : labs ((l, d) :: r) = l :: labs r := rfl
theorem labs_append (a b : List (Int × Int)) : labs (a ++ b) = labs a ++ labs b := by simp [labs]
theorem labs_perm {a b : List (Int × Int)} (h : a.Perm b) : (labs a).Perm (labs b) := h.map _
theorem labs_nodup {a b : List (Int × Int)} (h : a.Perm b) (hn : (labs a).Nodup) : (labs b).Nodup := (labs_perm h).nodup_iff.1 hn
def Dep {α : Type} (F : (Int → Int) → α) (L : List Int) : Prop := ∀ σ τ : Int → Int, (∀ l ∈ L, σ l = τ l) → F σ = F τ
theorem Dep.mono {α : Type} {F : (Int → Int) → α} {L M : List Int} (h : Dep F L) (hs : ∀ l ∈ L, l ∈ M) : Dep F M :=
  fun σ τ e => h σ τ fun l hl => e l (hs l hl)
def tab {α : Type} : List (Int × Int) → ((Int → Int) → α) → (Int → Int) → List α
  | [], F, σ => [F σ]
  | (l, d) :: r, F, σ => (List.range d.toNat).flatMap fun v : Nat => tab r F (upd σ l v)
def size : List (Int × Int) → Nat
  | [] => 1
  | (_, d) :: r => d.toNat * size r
def off : List (Int × Int) → (Int → Int) → Nat
  | [], _ => 0
  | (l, _) :: r, σ => (σ l).toNat * size r + off r σ
def asg : List (Int × Int) → Nat → (Int → Int) → (Int → Int)
  | [], _, σ => σ
  | (l, d) :: r, o, σ => asg r o (upd σ l ((o / size r % d.toNat : Nat) : Int))
def Fits (ax : List (Int × Int)) (σ : Int → Int) : Prop := ∀ a ∈ ax, 0 ≤ σ a.1 ∧ σ a.1 < a.2
theorem tab_length {α : Type} (F : (Int → Int) → α) : ∀ (ax : List (Int × Int)) (σ : Int → Int), (tab ax F σ).length = size ax
  | [], σ => rfl
  | (l, d) :: r, σ => by
    rw [tab, size, List.length_flatMap]
    rw [show ((fun v : Nat => (tab r F (upd σ l v)).length) : Nat → Nat) = fun _ => size r from funext fun v => tab_length F r _]
    have e : ∀ n : Nat, ((List.range n).map fun _ => size r).sum = n * size r := by
      intro n
      induction n with
      | zero => simp
      | succ n ih => rw [List.range_succ, List.map_append, List.sum_append, ih, Nat.add_mul]; simp
    exact e _
theorem range_mul (a b : Nat) {α : Type} (f : Nat → α) : (List.range (a * b)).map f = (List.range a).flatMap fun v => (List.range b).map fun o => f (v * b + o) := by
  induction a with
  | zero => simp
  | succ a ih =>
    rw [Nat.succ_mul, List.range_add, List.map_append, ih, List.range_succ, List.flatMap_append]
    simp [List.map_map, Function.comp_def]
theorem flatMap_congr' {α β : Type} {f g : α → List β} : ∀ {l : List α}, (∀ v ∈ l, f v = g v) → l.flatMap f = l.flatMap g
  | [], _ => rfl
  | a :: l, h => by rw [List.flatMap_cons, List.flatMap_cons, h a (by simp), flatMap_congr' fun v hv => h v (by simp [hv])]
theorem asg_mod : ∀ (ax : List (Int × Int)) (o k : Nat) (σ : Int → Int), asg ax (k * size ax + o) σ = asg ax o σ
  | [], o, k, σ => rfl
  | (l, d) :: r, o, k, σ => by
    rw [asg, asg, size]
    by_cases h0 : size r = 0
    · simp [h0]
    · have e : (k * (d.toNat * size r) + o) / size r % d.toNat = o / size r % d.toNat := by
        rw [← Nat.mul_assoc, Nat.add_comm, Nat.add_mul_div_right _ _ (by omega), Nat.add_mul_mod_self_right]
      rw [e, ← Nat.mul_assoc, asg_mod r o (k * d.toNat)]
theorem tab_range {α : Type} (F : (Int → Int) → α) : ∀ (ax : List (Int × Int)) (σ : Int → Int), tab ax F σ = (List.range (size ax)).map fun o => F (asg ax o σ)
  | [], σ => rfl
  | (l, d) :: r, σ => by
    rw [tab, size, range_mul]
    have e : ∀ v ∈ List.range d.toNat, tab r F (upd σ l (v : Nat)) = (List.range (size r)).map fun o => F (asg ((l, d) :: r) (v * size r + o) σ) := by
      intro v hv
      rw [List.mem_range] at hv
      rw [tab_range F r]
      apply List.map_congr_left
      intro o ho
      rw [List.mem_range] at ho
      rw [asg, asg_mod]
      have e : (v * size r + o) / size r % d.toNat = v := by
        rw [Nat.add_comm, Nat.add_mul_div_right _ _ (by omega), Nat.div_eq_of_lt ho, Nat.zero_add, Nat.mod_eq_of_lt hv]
      rw [e]
    exact flatMap_congr' e
theorem asg_other : ∀ {ax : List (Int × Int)} {x : Int}, x ∉ labs ax → ∀ (o : Nat) (σ : Int → Int), asg ax o σ x = σ x
  | [], x, _, o, σ => rfl
  | (l, d) :: r, x, h, o, σ => by
    rw [labs_cons, List.mem_cons] at h
    rw [asg, asg_other (fun e => h (.inr e)), upd_ne _ _ (fun e => h (.inl e))]
theorem asg_fits : ∀ {ax : List (Int × Int)}, (labs ax).Nodup → (∀ a ∈ ax, 1 ≤ a.2) → ∀ (o : Nat) (σ : Int → Int), Fits ax (asg ax o σ)
  | [], _, _, o, σ => fun a h => by simp at h
  | (l, d) :: r, hn, hd, o, σ => by
    rw [labs_cons, List.nodup_cons] at hn
    intro a ha
    rw [asg]
    rcases List.mem_cons.1 ha with rfl | ha
    · have hd1 := hd _ (List.mem_cons_self ..)
      simp only at hd1 ⊢
      rw [asg_other hn.1, upd_same]
      have := Nat.mod_lt (o / size r) (show 0 < d.toNat by omega)
      omega
    · exact asg_fits hn.2 (fun a ha => hd a (by simp [ha])) o _ a ha
theorem off_dep (ax : List (Int × Int)) : Dep (off ax) (labs ax) := by
  intro σ τ h
  induction ax with
  | nil => rfl
  | cons a r ih =>
    obtain ⟨l, d⟩ := a
    rw [off, off, h l (by simp [labs]), ih fun x hx => h x (by rw [labs_cons]; simp [hx])]
theorem off_asg : ∀ {ax : List (Int × Int)}, (labs ax).Nodup → ∀ {o : Nat}, o < size ax → ∀ σ : Int → Int, off ax (asg ax o σ) = o
  | [], _, o, h, σ => by simp [size] at h; simp [off, h]
  | (l, d) :: r, hn, o, h, σ => by
    rw [labs_cons, List.nodup_cons] at hn
    rw [size] at h
    have hs : 0 < size r := by
      rcases Nat.eq_zero_or_pos (size r) with e | e
      · rw [e] at h; simp at h
      · exact e
    have h1 : o / size r < d.toNat := (Nat.div_lt_iff_lt_mul hs).2 h
    have e1 : o = o / size r * size r + o % size r := by
      have := Nat.div_add_mod o (size r); rw [Nat.mul_comm] at this; omega
    have e2 : asg r o (upd σ l ((o / size r % d.toNat : Nat) : Int)) = asg r (o % size r) (upd σ l ((o / size r % d.toNat : Nat) : Int)) := by
      have := asg_mod r (o % size r) (o / size r) (upd σ l ((o / size r % d.toNat : Nat) : Int))
      rwa [← e1] at this
    rw [off, asg, e2, asg_other hn.1, upd_same, off_asg hn.2 (Nat.mod_lt _ hs), Nat.mod_eq_of_lt h1, Int.toNat_natCast]
    exact e1.symm
theorem off_lt : ∀ {ax : List (Int × Int)} {σ : Int → Int}, Fits ax σ → off ax σ < size ax
  | [], σ, _ => by simp [off, size]
  | (l, d) :: r, σ, h => by
    have h1 := h (l, d) (by simp)
    have h2 := off_lt (ax := r) (σ := σ) fun a ha => h a (by simp [ha])
    simp only at h1
    rw [off, size]
    have : ((σ l).toNat + 1) * size r ≤ d.toNat * size r := Nat.mul_le_mul_right _ (by omega)
    rw [Nat.add_mul, Nat.one_mul] at this
    omega
theorem asg_off : ∀ {ax : List (Int × Int)} {τ : Int → Int}, Fits ax τ → ∀ σ : Int → Int, ∀ x ∈ labs ax, asg ax (off ax τ) σ x = τ x
  | [], τ, _, σ, x, hx => by simp [labs] at hx
  | (l, d) :: r, τ, h, σ, x, hx => by
    have h1 := h (l, d) (by simp)
    simp only at h1
    have hr : Fits r τ := fun a ha => h a (by simp [ha])
    have h2 := off_lt hr
    rw [asg, off, asg_mod]
    have e : ((τ l).toNat * size r + off r τ) / size r % d.toNat = (τ l).toNat := by
      rw [Nat.add_comm, Nat.add_mul_div_right _ _ (by omega), Nat.div_eq_of_lt h2, Nat.zero_add, Nat.mod_eq_of_lt (by omega)]
    rw [e]
    by_cases hm : x ∈ labs r
    · exact asg_off hr _ x hm
    · rw [labs_cons, List.mem_cons] at hx
      rcases hx with rfl | hx
      · rw [asg_other hm, upd_same]; omega
      · exact absurd hx hm
theorem tab_get {α : Type} (F : (Int → Int) → α) (ax : List (Int × Int)) (σ : Int → Int) {o : Nat} (h : o < size ax) : (tab ax F σ)[o]? = some (F (asg ax o σ)) := by
  rw [tab_range]; simp [h]
theorem tab_off {α : Type} {F : (Int → Int) → α} {ax : List (Int × Int)} {τ : Int → Int} (hf : Fits ax τ) (hd : Dep F (labs ax)) (σ : Int → Int) : (tab ax F σ)[off ax τ]? = some (F τ) := by
  rw [tab_get F ax σ (off_lt hf), hd _ τ (asg_off hf σ)]
theorem tab_congr {α : Type} {F G : (Int → Int) → α} {ax : List (Int × Int)} (hn : (labs ax).Nodup) (hd : ∀ a ∈ ax, 1 ≤ a.2) {σ : Int → Int} (h : ∀ o, F (asg ax o σ) = G (asg ax o σ)) : tab ax F σ = tab ax G σ := by
  rw [tab_range, tab_range]
  exact List.map_congr_left fun o _ => h o
theorem tab_map {α β : Type} (h : α → β) (F : (Int → Int) → α) (ax : List (Int × Int)) (σ : Int → Int) : (tab ax F σ).map h = tab ax (fun τ => h (F τ)) σ := by
  rw [tab_range, tab_range, List.map_map]; rfl
section
variable {R : Type} (S : Rig R)
def sumA : List (Int × Int) → ((Int → Int) → R) → (Int → Int) → R
  | [], F, σ => F σ
  | (l, d) :: r, F, σ => sumN S d.toNat fun v => sumA r F (upd σ l v)
theorem sumA_tab (F : (Int → Int) → R) : ∀ (ax : List (Int × Int)) (σ : Int → Int), sumL S (tab ax F σ) = sumA S ax F σ
  | [], σ => by simp [tab, sumL, sumA, S.add_zero]
  | (l, d) :: r, σ => by
    rw [tab, sumL_flatMap, sumA]
    exact sumN_congr S fun v _ => sumA_tab F r _
theorem sumA_append (F : (Int → Int) → R) : ∀ (a b : List (Int × Int)) (σ : Int → Int), sumA S (a ++ b) F σ = sumA S a (sumA S b F) σ
  | [], b, σ => rfl
  | (l, d) :: r, b, σ => by
    rw [List.cons_append, sumA, sumA]
    exact sumN_congr S fun v _ => sumA_append F r b _
theorem sumA_congr {F G : (Int → Int) → R} : ∀ {ax : List (Int × Int)} {σ : Int → Int}, (∀ τ, (∀ x, x ∉ labs ax → τ x = σ x) → ((labs ax).Nodup → Fits ax τ) → F τ = G τ) → sumA S ax F σ = sumA S ax G σ
  | [], σ, h => h σ (fun _ _ => rfl) (fun _ a ha => by simp at ha)
  | (l, d) :: r, σ, h => by
    rw [sumA, sumA]
    refine sumN_congr S fun v hv => sumA_congr fun τ h1 h2 => h τ (fun x hx => ?_) (fun hn => ?_)
    · rw [labs_cons, List.mem_cons] at hx
      rw [h1 x (fun e => hx (.inr e)), upd_ne _ _ (fun e => hx (.inl e))]
    · rw [labs_cons, List.nodup_cons] at hn
      intro a ha
      rcases List.mem_cons.1 ha with rfl | ha
      · simp only
        rw [h1 l hn.1, upd_same]; omega
      · exact h2 hn.2 a ha
theorem sumA_ext {F G : (Int → Int) → R} (ax : List (Int × Int)) (σ : Int → Int) (h : ∀ τ, F τ = G τ) : sumA S ax F σ = sumA S ax G σ := by
  rw [show F = G from funext h]
theorem sumA_zero : ∀ (ax : List (Int × Int)) (σ : Int → Int), sumA S ax (fun _ => S.zero) σ = S.zero
  | [], σ => rfl
  | (l, d) :: r, σ => by
    rw [sumA, sumN_congr S (g := fun _ => S.zero) fun v _ => sumA_zero r _, sumN_zero]
theorem sumA_mul (F : (Int → Int) → R) {G : (Int → Int) → R} {L : List Int} (hG : Dep G L) : ∀ {ax : List (Int × Int)}, (∀ x ∈ labs ax, x ∉ L) → ∀ σ : Int → Int, sumA S ax (fun τ => S.mul (F τ) (G τ)) σ = S.mul (sumA S ax F σ) (G σ)
  | [], _, σ => rfl
  | (l, d) :: r, h, σ => by
    rw [labs_cons] at h
    rw [sumA, sumA, ← sumN_mul]
    refine sumN_congr S fun v _ => ?_
    rw [sumA_mul F hG (fun x hx => h x (by simp [hx]))]
    congr 1
    apply hG
    intro x hx
    exact upd_ne _ _ (fun e => h l (by simp) (e ▸ hx))
theorem sumA_swap (F : (Int → Int) → R) (a b : Int × Int) (r : List (Int × Int)) (h : a.1 ≠ b.1) (σ : Int → Int) : sumA S (a :: b :: r) F σ = sumA S (b :: a :: r) F σ := by
  obtain ⟨l, d⟩ := a
  obtain ⟨m, e⟩ := b
  simp only [sumA]
  rw [sumN_comm]
  refine sumN_congr S fun u _ => sumN_congr S fun v _ => ?_
  rw [upd_comm _ _ _ h]
theorem sumA_perm (F : (Int → Int) → R) {a b : List (Int × Int)} (h : a.Perm b) : (labs a).Nodup → ∀ σ : Int → Int, sumA S a F σ = sumA S b F σ := by
  induction h with
  | nil => intro _ σ; rfl
  | cons x h ih =>
    intro hn σ
    obtain ⟨l, d⟩ := x
    rw [labs_cons, List.nodup_cons] at hn
    rw [sumA, sumA]
    exact sumN_congr S fun v _ => ih hn.2 _
  | swap x y l =>
    intro hn σ
    apply sumA_swap
    intro e
    rw [labs, List.map_cons, List.map_cons, List.nodup_cons] at hn
    exact hn.1 (by rw [e]; simp)
  | trans h1 h2 ih1 ih2 =>
    intro hn σ
    rw [ih1 hn, ih2 (labs_nodup h1 hn)]
theorem sumA_dep {F : (Int → Int) → R} {L : List Int} (hF : Dep F L) : ∀ (ax : List (Int × Int)), Dep (sumA S ax F) (L.filter fun x => !(labs ax).contains x)
  | [], σ, τ, h => hF σ τ fun l hl => h l (by simp [labs, hl])
  | (l, d) :: r, σ, τ, h => by
    rw [sumA, sumA]
    refine sumN_congr S fun v _ => sumA_dep hF r _ _ fun x hx => ?_
    simp only [upd]
    split
    · rfl
    · rename_i hne
      apply h
      simp [labs_cons] at hx ⊢
      exact ⟨hx.1, hne, hx.2⟩
theorem sumA_dep' {F : (Int → Int) → R} {L M : List Int} {ax : List (Int × Int)} (hF : Dep F L) (h : ∀ x ∈ L, x ∉ labs ax → x ∈ M) : Dep (sumA S ax F) M :=
  (sumA_dep S hF ax).mono fun x hx => by simp at hx; exact h x hx.1 hx.2
theorem sumA_pick (G : (Int → Int) → R) {ax : List (Int × Int)} (hn : (labs ax).Nodup) {i : Nat} (hi : i < size ax) (σ : Int → Int) : sumA S ax (fun τ => if off ax τ = i then G τ else S.zero) σ = G (asg ax i σ) := by
  rw [← sumA_tab, tab_range, sumL_range]
  rw [sumN_congr S (g := fun o => if o = i then G (asg ax o σ) else S.zero) fun o ho => by rw [off_asg hn ho]]
  exact sumN_single S (f := fun o => G (asg ax o σ)) hi
def scat : List R → List (Nat × R) → List R
  | xs, [] => xs
  | xs, (p, f) :: r => scat (xs.modify p fun x => S.add x f) r
theorem scat_length : ∀ (ps : List (Nat × R)) (xs : List R), (scat S xs ps).length = xs.length
  | [], xs => rfl
  | (p, f) :: r, xs => by rw [scat, scat_length r, List.length_modify]
theorem scat_get : ∀ (ps : List (Nat × R)) (xs : List R) (i : Nat), (scat S xs ps)[i]? = (xs[i]?).map fun x => S.add x (sumL S (ps.map fun q => if q.1 = i then q.2 else S.zero))
  | [], xs, i => by simp [scat, sumL, S.add_zero]
  | (p, f) :: r, xs, i => by
    rw [scat, scat_get r, List.getElem?_modify, List.map_cons, sumL]
    cases xs[i]? with
    | none => simp
    | some x =>
      by_cases e : p = i
      · simp [e, S.add_assoc]
      · simp [e, S.zero_add]
theorem scat_snoc (xs : List R) (p : Nat) (f : R) : ∀ (ps : List (Nat × R)) (xs : List R), scat S xs (ps ++ [(p, f)]) = (scat S xs ps).modify p fun x => S.add x f
  | [], xs => rfl
  | (q, g) :: r, xs => by rw [List.cons_append, scat, scat_snoc xs p f r, scat]
theorem scat_tab (F : (Int → Int) → R) {all left rest : List (Int × Int)} (hp : all.Perm (left ++ rest)) (hn : (labs all).Nodup) (σ : Int → Int) :
    scat S (List.replicate (size left) S.zero) (tab all (fun τ => (off left τ, F τ)) σ) = tab left (sumA S rest F) σ := by
  have hn2 : (labs (left ++ rest)).Nodup := labs_nodup hp hn
  rw [labs_append, List.nodup_append] at hn2
  obtain ⟨n1, n2, n3⟩ := hn2
  apply List.ext_getElem?
  intro i
  rw [scat_get]
  by_cases hi : i < size left
  · rw [tab_get _ _ _ hi, List.getElem?_replicate, if_pos hi, tab_map, sumA_tab, sumA_perm S _ hp hn, sumA_append]
    simp only [Option.map_some]
    congr 1
    rw [S.zero_add, ← sumA_pick S (sumA S rest F) n1 hi σ]
    refine sumA_ext S left σ fun τ => ?_
    by_cases e : off left τ = i
    · rw [if_pos e]
      refine sumA_congr S fun υ h1 _ => ?_
      have : off left υ = off left τ := off_dep left _ _ fun x hx => h1 x fun hx2 => n3 x hx x hx2 rfl
      rw [this, if_pos e]
    · rw [if_neg e]
      refine (sumA_congr S (G := fun _ => S.zero) fun υ h1 _ => ?_).trans (sumA_zero S rest τ)
      have : off left υ = off left τ := off_dep left _ _ fun x hx => h1 x fun hx2 => n3 x hx x hx2 rfl
      rw [this, if_neg e]
  · have h2 := tab_length (sumA S rest F) left σ
    rw [List.getElem?_eq_none (by simp; omega), List.getElem?_eq_none (by omega)]; rfl
end
theorem and255 (n : Int) : bits .and .i64 n 255 = n % 256 := by
  have h : (BitVec.ofInt 64 255).toNat = 2 ^ 8 - 1 := by decide
  have key : (BitVec.ofInt 64 n &&& BitVec.ofInt 64 255).toNat = (n % ((2 ^ 64 : Nat) : Int)).toNat % 2 ^ 8 := by
    rw [BitVec.toNat_and, BitVec.toNat_ofInt, h, Nat.and_two_pow_sub_one_eq_mod]
  show IntKind.i64.wrap ((BitVec.ofInt 64 n &&& BitVec.ofInt 64 255).toNat : Nat) = n % 256
  rw [key, IntKind.wrap_i64]
  omega
theorem and30 (n : Int) : bits .and .i64 n 1073741823 = n % 1073741824 := by
  have h : (BitVec.ofInt 64 1073741823).toNat = 2 ^ 30 - 1 := by decide
  have key : (BitVec.ofInt 64 n &&& BitVec.ofInt 64 1073741823).toNat = (n % ((2 ^ 64 : Nat) : Int)).toNat % 2 ^ 30 := by
    rw [BitVec.toNat_and, BitVec.toNat_ofInt, h, Nat.and_two_pow_sub_one_eq_mod]
  show IntKind.i64.wrap ((BitVec.ofInt 64 n &&& BitVec.ofInt 64 1073741823).toNat : Nat) = n % 1073741824
  rw [key, IntKind.wrap_i64]
  omega
theorem ByteS.val {w : World} {v : Value} {l : List Int} (h : ByteS w v l) : ∃ a cap, v = .slice a l.length cap ∧ l.length ≤ cap ∧ cap ≤ 9223372036854775807 := by
  obtain ⟨a, cap, hv, h1, h2, _⟩ := h.row.val
  exact ⟨a, cap, hv, h1, h2⟩
theorem ByteS.get {w : World} {a : Option Addr} {n cap : Nat} {l : List Int} (h : ByteS w (.slice a n cap) l) {i : Nat} (hi : i < l.length) :
    ∃ b off x, a = some ⟨b, off, none⟩ ∧ w.cell? ⟨b, off + i, none⟩ = some (.int .u8 x) ∧ l[i]? = some x := by
  obtain ⟨a', cap', hv, _, _, h3⟩ := h.row.val
  cases hv
  obtain ⟨b, off, ha, hc⟩ := h3 (by simp; omega)
  exact ⟨b, off, l[i], ha, hc i _ (by simp [hi]), List.getElem?_eq_getElem hi⟩
theorem ByteS.only {w w' : World} {v : Value} {l : List Int} {b : Nat} (h : ByteS w v l) (e : w.grownBy w' (some b)) (hne : 0 < l.length → v.ownBlock ≠ some b) : ByteS w' v l := by
  obtain ⟨hl, a, cap, hv, h1, h2, h3⟩ := h.row
  refine ⟨hl, a, cap, hv, h1, h2, fun hp => ?_⟩
  obtain ⟨b', off, ha, hc⟩ := h3 hp
  refine ⟨b', off, ha, fun j u hj => e.cell (hc j u hj) ?_⟩
  subst hv; subst ha
  simpa [Value.ownBlock] using hne (by simpa using hp)
theorem IntS.only {w w' : World} {v : Value} {l : List Int} {b : Nat} (h : IntS w v l) (e : w.grownBy w' (some b)) (hne : v.ownBlock ≠ some b) : IntS w' v l := by
  obtain ⟨hl, a, cap, hv, h1, h2, h3⟩ := h.row
  refine ⟨hl, a, cap, hv, h1, h2, fun hp => ?_⟩
  obtain ⟨b', off, ha, hc⟩ := h3 hp
  refine ⟨b', off, ha, fun j u hj => e.cell (hc j u hj) ?_⟩
  subst hv; subst ha
  simpa [Value.ownBlock] using hne
structure Code (w : World) (v : Value) (l : List Int) : Prop where
  bytes : ByteS w v l
  all : ∀ x ∈ l, 0 ≤ x ∧ x ≤ 255
  len : l.length ≤ 1048576
structure Cur (w : World) (b : Nat) (l : List Int) : Prop where
  has : ∃ v i h, Blk w b 85 [v, .int .i64 i, .int .i64 h] ∧ Code w v l ∧ 0 ≤ i ∧ i ≤ (l.length : Int) ∧ -9223372036854775808 ≤ h ∧ h ≤ 9223372036854775807 ∧ (0 < l.length → ∀ k, v.ownBlock = some k → k < b)
theorem Cur.lt {w : World} {b : Nat} {l : List Int} (h : Cur w b l) : b < w.heap.size := by
  obtain ⟨v, i, h, hb, _⟩ := h.has
  exact hb.lt
theorem Cur.ext {w w' : World} {b : Nat} {l : List Int} (h : Cur w b l) (e : Ext w w') : Cur w' b l := by
  obtain ⟨v, i, h, hb, hc, r⟩ := h.has
  exact ⟨v, i, h, hb.ext e, ⟨⟨hc.bytes.row.ext e⟩, hc.all, hc.len⟩, r⟩
theorem ByteS.setAbove {w : World} {v : Value} {l : List Int} (h : ByteS w v l) {q o : Nat} (u : Value) (hq : 0 < l.length → v.ownBlock ≠ some q) : ByteS (w.setCell ⟨q, o, none⟩ u) v l := by
  have g : w.grownBy (w.setCell ⟨q, o, none⟩ u) (some q) := grown_setCell (grown_refl _ _) _ _
  exact h.only g hq
theorem Cur.setOther {w : World} {b : Nat} {l : List Int} (h : Cur w b l) {q o : Nat} (hq : b < q) (u : Value) : Cur (w.setCell ⟨q, o, none⟩ u) b l := by
  obtain ⟨v, i, h, hb, hc, i0, i1, r0, r1, hlow⟩ := h.has
  exact ⟨v, i, h, hb.other (by simp; omega) u, ⟨hc.bytes.setAbove u (fun h e => by have := hlow h q e; omega), hc.all, hc.len⟩, i0, i1, r0, r1, hlow⟩
theorem wrap_range (x : Int) : -9223372036854775808 ≤ wrap64 x ∧ wrap64 x ≤ 9223372036854775807 := by
  unfold wrap64; omega
set_option maxRecDepth 100000 in
set_option maxHeartbeats 1000000 in
theorem l01Byte_any (b : Nat) {l : List Int} (w : World) (hc : Cur w b l) : Calls Tryz.prog 20 #[.pointer (some ⟨b, 0, none⟩)] w fun e w' =>
 ∃ x : Int, e = .returned (.int .i64 x) ∧ (0 ≤ x ∧ x ≤ 255) ∧ Cur w' b l ∧ w.grownBy w' (some b) := by
 obtain ⟨v, i, h, hb, hl, hi0, hi1, hh0, hh1, hlow⟩ := hc.has
 have hne : 0 < l.length → v.ownBlock ≠ some b := fun h e => by have := hlow h b e; omega
 have HLOW := Lib.hid hlow; clear hlow
 obtain ⟨a, cap, rfl, hc1, hc2⟩ := hl.bytes.val
 have hln := hl.len
 have f0 := hb.free 0
 have f1 := hb.free 1
 have f2 := hb.free 2
 have q0 := hb.cell (j := 0) rfl
 have q1 := hb.cell (j := 1) rfl
 have q2 := hb.cell (j := 2) rfl
 have hlt := hb.lt
 go_enter Tryz.func20, Tryz.ntmps20
 go_wp2
 obtain ⟨h2, e2⟩ : ∃ h2, wrap64 (wrap64 (h * 6364136223846793005) + 1442695040888963407) = h2 := ⟨_, rfl⟩
 have hr := wrap_range (wrap64 (h * 6364136223846793005) + 1442695040888963407)
 rw [e2] at hr
 simp only [e2]
 clear e2
 obtain ⟨w1, hw1⟩ : ∃ w1, w.setCell ⟨b, 2, none⟩ (.int .i64 h2) = w1 := ⟨_, rfl⟩
 simp only [hw1]
 have hb1 : Blk w1 b 85 [.slice a l.length cap, .int .i64 i, .int .i64 h2] := by rw [← hw1]; exact hb.set 2 _
 have G1 : w.grownBy w1 (some b) := by rw [← hw1]; exact grown_setCell (grown_refl _ _) _ _
 clear hw1
 have q0' := hb1.cell (j := 0) rfl
 have q1' := hb1.cell (j := 1) rfl
 have q2' := hb1.cell (j := 2) rfl
 have f1' := hb1.free 1
 have hlt1 := hb1.lt
 have hbd := and255 (bits .xor .i64 (h2 / 8589934592) (h2 / 35184372088832))
 have hbr : 0 ≤ bits .xor .i64 (h2 / 8589934592) (h2 / 35184372088832) % 256 ∧ bits .xor .i64 (h2 / 8589934592) (h2 / 35184372088832) % 256 ≤ 255 := by omega
 rw [← hbd] at hbr
 clear hbd
 obtain ⟨m, rfl⟩ : ∃ m : Nat, i = (m : Int) := ⟨i.toNat, by omega⟩
 have bq := hl.bytes
 by_cases hm : m < l.length
 · obtain ⟨bb, off, y, rfl, hcell, hy⟩ := hl.bytes.get hm
   have hyr := hl.all y (List.mem_of_getElem? hy)
   clear hy
   have hnb : bb ≠ b := by simpa [Value.ownBlock] using hne (by omega)
   have hcell1 : w1.cell? ⟨bb, off + m, none⟩ = some (.int .u8 y) := grown_cell G1 hnb hcell
   have hlt2 := World.block_lt_of_cell? w1 _ hcell1
   obtain ⟨y0, y1⟩ := hyr
   go_quiet (fail)
   generalize bits .and .i64 (bits .xor .i64 (h2 / 8589934592) (h2 / 35184372088832)) 255 = x0 at hbr ⊢
   obtain ⟨x00, x01⟩ := hbr
   have hbd2 := and255 (x0 + y)
   have hbr2 : 0 ≤ (x0 + y) % 256 ∧ (x0 + y) % 256 ≤ 255 := by omega
   rw [← hbd2] at hbr2
   clear hbd2
   go_wp2
   go_quiet (fail)
   go_wp2
   go_quiet (fail)
   generalize bits .and .i64 (x0 + y) 255 = x1 at hbr2 ⊢
   go_wp2
   go_ret
   refine ⟨x1, rfl, hbr2, ⟨_, (m : Int) + 1, h2, (hb1.ext (show Ext w1 _ from xt)).set 1 (.int .i64 ((m : Int) + 1)), ?_, by omega, by omega, hr.1, hr.2, HLOW.out⟩, ?_⟩
   · exact ⟨bq.only (show w.grownBy _ (some b) from (by repeat' (first | (with_reducible exact grown_refl _ _) | (with_reducible assumption) | (with_reducible apply grown_alloc) | (with_reducible apply grown_drew) | (with_reducible apply grown_drewN) | (with_reducible refine grown_setCell ?_ _ _) | (refine grownBy_trans ?_ (by assumption))))) hne, hl.all, hl.len⟩
   exact (by repeat' (first | (with_reducible exact grown_refl _ _) | (with_reducible assumption) | (with_reducible apply grown_alloc) | (with_reducible apply grown_drew) | (with_reducible apply grown_drewN) | (with_reducible refine grown_setCell ?_ _ _) | (refine grownBy_trans ?_ (by assumption))))
 go_quiet (fail)
 generalize bits .and .i64 (bits .xor .i64 (h2 / 8589934592) (h2 / 35184372088832)) 255 = x0 at hbr ⊢
 go_wp2
 go_quiet (fail)
 go_wp2
 go_ret
 refine ⟨x0, rfl, hbr, ⟨_, (m : Int), h2, hb1.ext (show Ext w1 _ from xt), ?_, by omega, by omega, hr.1, hr.2, HLOW.out⟩, ?_⟩
 · exact ⟨bq.only (show w.grownBy _ (some b) from (by repeat' (first | (with_reducible exact grown_refl _ _) | (with_reducible assumption) | (with_reducible apply grown_alloc) | (with_reducible apply grown_drew) | (with_reducible apply grown_drewN) | (with_reducible refine grown_setCell ?_ _ _) | (refine grownBy_trans ?_ (by assumption))))) hne, hl.all, hl.len⟩
 exact (by repeat' (first | (with_reducible exact grown_refl _ _) | (with_reducible assumption) | (with_reducible apply grown_alloc) | (with_reducible apply grown_drew) | (with_reducible apply grown_drewN) | (with_reducible refine grown_setCell ?_ _ _) | (refine grownBy_trans ?_ (by assumption))))
theorem l01Below_any (b : Nat) (n : Int) {l : List Int} (w : World) (hc : Cur w b l) (hn : -9223372036854775808 ≤ n ∧ n ≤ 9223372036854775807) : Calls Tryz.prog 48 #[.pointer (some ⟨b, 0, none⟩), .int .i64 n] w fun e w' =>
 ∃ x : Int, e = .returned (.int .i64 x) ∧ (0 ≤ x ∧ x ≤ 255 ∧ (0 < n → x < n)) ∧ Cur w' b l ∧ w.grownBy w' (some b) := by
 by_cases h0 : n ≤ 0
 · go_enter Tryz.func48, Tryz.ntmps48
   go_wp2
   go_ret
   exact ⟨0, rfl, by omega, hc, grown_refl _ _⟩
 · have h1 : 0 < n := by omega
   go_enter Tryz.func48, Tryz.ntmps48
   go_wp2_with fail
   refine (l01Byte_any b _ hc).mono ?_; rintro e1 w1 ⟨x, rfl, ⟨x0, x1⟩, c1, g1⟩
   have r0 := Int.emod_nonneg x (show n ≠ 0 by omega)
   have r1 := Int.emod_lt_of_pos x h1
   have r2 : x % n ≤ x := by
    by_cases hx : x < n
    · rw [Int.emod_eq_of_lt x0 hx]; exact Int.le_refl _
    · omega
   go_wp2
   go_ret
   exact ⟨_, rfl, ⟨r0, by omega, fun _ => r1⟩, c1, g1⟩
theorem l01Once_any (b : Nat) (n : Int) {l : List Int} (w : World) (hc : Cur w b l) (hn : -9223372036854775808 ≤ n ∧ n ≤ 9223372036854775807) : Calls Tryz.prog 54 #[.pointer (some ⟨b, 0, none⟩), .int .i64 n] w fun e w' =>
 ∃ x : Bool, e = .returned (.bool x) ∧ Cur w' b l ∧ w.grownBy w' (some b) := by
 go_enter Tryz.func54, Tryz.ntmps54
 go_wp2_with fail
 refine (l01Below_any b n _ hc hn).mono ?_; rintro e1 w1 ⟨x, rfl, hx, c1, g1⟩
 go_wp2
 go_ret
 exact ⟨_, rfl, c1, g1⟩
theorem l01Pick_any (b : Nat) (v : Value) (l : List Int) {code : List Int} (w : World) (hc : Cur w b code) (hl : IntS w v l) (h0 : 0 < l.length) (h1 : l.length ≤ 255) (hne : v.ownBlock ≠ some b) : Calls Tryz.prog 49 #[.pointer (some ⟨b, 0, none⟩), v] w fun e w' =>
 ∃ x : Int, e = .returned (.int .i64 x) ∧ x ∈ l ∧ Cur w' b code ∧ w.grownBy w' (some b) := by
 obtain ⟨a, cap, rfl, hc1, hc2⟩ := hl.val
 go_enter Tryz.func49, Tryz.ntmps49
 go_wp2_with fail
 refine (l01Below_any b _ _ hc (by omega)).mono ?_; rintro e1 w1 ⟨x, rfl, ⟨x0, x1, x2⟩, c1, g1⟩
 obtain ⟨m, rfl⟩ : ∃ m : Nat, x = (m : Int) := ⟨x.toNat, by omega⟩
 have hm : m < l.length := by have := x2 (by omega); omega
 obtain ⟨b2, off, y, rfl, hcell, hy, _⟩ := (hl.only g1 hne).get hm
 have hmem := List.mem_of_getElem? hy
 clear hy
 go_wp2
 go_ret
 exact ⟨y, rfl, hmem, c1, g1⟩
set_option maxRecDepth 100000 in
set_option maxHeartbeats 1000000 in
theorem l01New_any (v : Value) (l : List Int) (w : World) (hl : Code w v l) : Calls Tryz.prog 50 #[v] w fun e w' =>
 ∃ b, e = .returned (.pointer (some ⟨b, 0, none⟩)) ∧ w.heap.size ≤ b ∧ Cur w' b l ∧ Ext w w' := by
 obtain ⟨a, cap, rfl, hc1, hc2⟩ := hl.bytes.val
 have hln := hl.len
 have bq := hl.bytes
 have HA := Lib.hid hl.all
 go_enter Tryz.func50, Tryz.ntmps50
 go_wp2
 go_loop [3, 4] (fun q i => ∃ (j : Nat) (h : Int), j ≤ l.length ∧ i = .int .i64 j ∧ q = .int .i64 h ∧ 0 ≤ h ∧ h ≤ 1073741823) (fun q i => l.length - (RowKit.intOf i).toNat)
 case atStart => exact ⟨0, _, Nat.zero_le _, rfl, rfl, by omega, by omega⟩
 obtain ⟨j, h, hj, rfl, rfl, hh0, hh1⟩ := hrel
 have hend : ∀ w', Ext w w' → ∃ b, (Ending.returned (.pointer (some ⟨w'.heap.size, 0, none⟩)) : Ending) = .returned (.pointer (some ⟨b, 0, none⟩)) ∧ w.heap.size ≤ b ∧ Cur (w'.alloc (.cells #[.slice a l.length cap, .int .i64 0, .int .i64 h] 85)) b l ∧ Ext w (w'.alloc (.cells #[.slice a l.length cap, .int .i64 0, .int .i64 h] 85)) := by
  intro w' e
  refine ⟨_, rfl, e.size, ⟨_, 0, h, Blk.new w' #[_, _, _] 85, ⟨⟨(bq.row.ext e).ext xt⟩, HA.out, hln⟩, by omega, by omega, by omega, by omega, ?_⟩, xt⟩
  intro h0 k hb
  obtain ⟨b2, off, y, rfl, hcell, _⟩ := bq.get h0
  have hbl : b2 < w.heap.size := World.block_lt_of_cell? w _ hcell
  have := e.size
  have hb2 : b2 = k := by simpa [Value.ownBlock] using hb
  omega
 have HEND := Lib.hid hend; clear hend
 by_cases hlt : j < l.length
 · by_cases h4 : j < 4000
   · obtain ⟨b, off, y, rfl, hcell, hy⟩ := bq.get hlt
     obtain ⟨y0, y1⟩ := HA.out y (List.mem_of_getElem? hy)
     clear hy
     have hbd := and30 (h * 131 + y + 7)
     have hbr : 0 ≤ (h * 131 + y + 7) % 1073741824 ∧ (h * 131 + y + 7) % 1073741824 ≤ 1073741823 := by omega
     rw [← hbd] at hbr
     clear hbd
     go_wp2
     generalize bits .and .i64 (h * 131 + y + 7) 1073741823 = h' at hbr ⊢
     go_round
     case rel => exact ⟨j + 1, _, by omega, by go_num, rfl, hbr.1, hbr.2⟩
     case measure => simp [RowKit.intOf]; omega
   go_wp2
   go_ret
   exact HEND.out _ xt
 have : j = l.length := by omega
 subst this
 go_wp2
 go_ret
 exact HEND.out _ xt
set_option maxRecDepth 100000 in
theorem l45At_any (v : Value) (l : List Int) (n : Int) (w : World) (hl : Code w v l) (hn : 0 ≤ n ∧ n ≤ 1000000) : Calls Tryz.prog 18 #[v, .int .i64 n] w fun e w' =>
 ∃ b, e = .returned (.pointer (some ⟨b, 0, none⟩)) ∧ w.heap.size ≤ b ∧ Cur w' b l ∧ Ext w w' := by
 obtain ⟨a, cap, rfl, hc1, hc2⟩ := hl.bytes.val
 obtain ⟨hn0, hn1⟩ := hn
 have hln := hl.len
 go_enter Tryz.func18, Tryz.ntmps18
 go_wp2_with fail
 refine (l01New_any _ l _ hl).mono ?_; rintro e1 w1 ⟨b, rfl, hb, c1, h1⟩
 obtain ⟨v2, i2, h2, hB, hC, i0, i1, r0, r1, hlow⟩ := c1.has
 have hne : 0 < l.length → v2.ownBlock ≠ some b := fun h e => by have := hlow h b e; omega
 have HLOW := Lib.hid hlow; clear hlow
 have f1 := hB.free 1
 have f2 := hB.free 2
 have q2 := hB.cell (j := 2) rfl
 have q1 := hB.cell (j := 1) rfl
 have hlt := hB.lt
 have hbd : ∀ z, -9223372036854775808 ≤ bits .and .i64 z 1073741823 ∧ bits .and .i64 z 1073741823 ≤ 9223372036854775807 := fun z => by rw [and30]; omega
 have HBD := Lib.hid hbd; clear hbd
 go_wp2
 all_goals
  go_ret
  refine ⟨b, rfl, hb, ⟨_, _, _, (hB.set 1 _).set 2 _, ⟨hC.bytes.only (show w1.grownBy _ (some b) from (by repeat' (first | (with_reducible exact grown_refl _ _) | (with_reducible assumption) | (with_reducible apply grown_alloc) | (with_reducible apply grown_drew) | (with_reducible apply grown_drewN) | (with_reducible refine grown_setCell ?_ _ _) | (refine grownBy_trans ?_ (by assumption))))) hne, hC.all, hC.len⟩, by omega, by omega, (HBD.out _).1, (HBD.out _).2, HLOW.out⟩, ?_⟩
  exact (h1.setAt hb _ _).setAt hb _ _
end Go.Proofs.YtlgjddgajdjllaaGreat
