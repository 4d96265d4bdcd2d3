/- Elements of a tensor's data: read, and put in place. -/
import Derived.Laws.CopyRow
import Derived.Test.YtabeciopggofkaaXBase
import Derived.Test.YtabeciopggofkaaXOffs
namespace Go.Proofs.Ytabeciopggofkaa
open Go.RowKit
set_option linter.unusedSimpArgs false
set_option linter.unusedVariables false

/-- l, with x from o on. -/
def putL (l : List Int) (o : Nat) (x : List Int) : List Int := l.take o ++ x ++ l.drop (o + x.length)
theorem putL_nil (l : List Int) (o : Nat) : putL l o [] = l := by simp [putL]
theorem putL_length {l : List Int} {o : Nat} {x : List Int} (h : o + x.length ≤ l.length) : (putL l o x).length = l.length := by simp [putL]; omega
theorem putL_step {l x : List Int} {o j : Nat} {y : Int} (h : o + j < l.length) (hy : x[j]? = some y) : (putL l o (x.take j)).set (o + j) y = putL l o (x.take (j + 1)) := by
  obtain ⟨hj, rfl⟩ := List.getElem?_eq_some_iff.1 hy
  have e : (l.take o).length = o := by rw [List.length_take]; omega
  have e2 : (x.take j).length = j := by rw [List.length_take]; omega
  have e3 : (x.take (j + 1)).length = j + 1 := by rw [List.length_take]; omega
  unfold putL
  rw [e2, e3, List.set_append_right _ _ (by rw [List.length_append]; omega), List.length_append, e, e2, Nat.sub_self, List.drop_eq_getElem_cons h, List.set_cons_zero, List.take_succ_eq_append_getElem hj]
  simp only [List.append_assoc, List.cons_append, List.nil_append, Nat.add_assoc]
theorem putL_some {l x : List Int} {o j : Nat} (h : o + x.length ≤ l.length) (hj : j < l.length) : ∃ y, (putL l o x)[j]? = some y := by
  have := putL_length h
  exact ⟨_, List.getElem?_eq_getElem (by omega)⟩

set_option maxHeartbeats 1000000 in
theorem l05Put_any (k p n i : Int) (o : Nat) (a1 a2 : Option Addr) (m1 c1 m2 c2 bd cd B : Nat) (vx : Value) (X x : List Int) (w : World) (hX : OwnI w B (.slice (some ⟨bd, 0, none⟩) X.length cd) X) (hx : IntS w vx x)
    (hne : ∀ q, vx.ownBlock = some q → q ≠ bd) (ho : i * ringWidth k n = o) (hi : 0 ≤ i) (hw : RingWide k n) (hfit : o + x.length ≤ X.length) (hlen : X.length ≤ 1048576) :
    Calls Try.prog 102 #[ringV k p n, .agg #[.slice a1 m1 c1, .slice a2 m2 c2, .slice (some ⟨bd, 0, none⟩) X.length cd], .int .i64 i, vx] w fun e w' =>
      e = .returned (.tuple #[]) ∧ OwnI w' B (.slice (some ⟨bd, 0, none⟩) X.length cd) (putL X o x) ∧ w.grownBy w' (some bd) := by
  obtain ⟨ax, cx, rfl, hc1, hc2⟩ := hx.val
  have hbd : bd < w.heap.size := (hX.block_lt rfl).2
  have HX := Lib.hid hX; clear hX
  have HO := Lib.hid ho; clear ho
  have HN := Lib.hid hne; clear hne
  go_enter Try.func102, Try.ntmps102
  go_wp2_with fail
  refine (l02Width_any _ _ _ _).mono ?_; rintro e1 w1 ⟨rfl, h1⟩; have s1 := h1.size; (try simp at s1); have t1_0 : w.heap.size < w1.heap.size := (by omega); have c1_0 := fun o => h1.cells (w.heap.size) o (by first | (simp; done) | (simp; omega) | omega); have t1_1 : w.heap.size + 1 < w1.heap.size := (by omega); have c1_1 := fun o => h1.cells (w.heap.size + 1) o (by first | (simp; done) | (simp; omega) | omega); have f1_0 := fun o => h1.frozens (w.heap.size) o (by first | (simp; done) | (simp; omega) | omega); have f1_1 := fun o => h1.frozens (w.heap.size + 1) o (by first | (simp; done) | (simp; omega) | omega)
  have E1 : Ext w w1 := (by repeat' (first | (with_reducible exact Ext.refl _) | (with_reducible assumption) | (with_reducible apply Ext.alloc) | (with_reducible apply Ext.drew) | (with_reducible apply Ext.drewN) | (refine Ext.setAt ?_ (by omega) _ _) | (refine Ext.trans ?_ (by assumption))))
  have hB1 : Blk w1 (w.heap.size + 1) 31 [.slice a1 m1 c1, .slice a2 m2 c2, .slice (some ⟨bd, 0, none⟩) X.length cd] := Blk.ext (w := (w.alloc (.cells #[.int .i64 k, .int .i64 p, .int .i64 n] 24)).alloc (.cells #[.slice a1 m1 c1, .slice a2 m2 c2, .slice (some ⟨bd, 0, none⟩) X.length cd] 31)) (by simpa using Blk.new (w.alloc (.cells #[.int .i64 k, .int .i64 p, .int .i64 n] 24)) #[.slice a1 m1 c1, .slice a2 m2 c2, .slice (some ⟨bd, 0, none⟩) X.length cd] 31) h1
  have g1 : w.grownBy w1 (some bd) := ⟨E1.below.os, E1.below.tape, E1.below.output, E1.size, fun q hq _ => E1.below.block q hq⟩
  have hw0 := hw.lo
  have hw1 := hw.hi
  go_wp2_with fail
  go_loopw [14] (fun q wr => ∃ j : Nat, j ≤ x.length ∧ q = .int .i64 j ∧ OwnI wr B (.slice (some ⟨bd, 0, none⟩) X.length cd) (putL X o (x.take j)) ∧ w.grownBy wr (some bd) ∧ Blk wr (w.heap.size + 1) 31 [.slice a1 m1 c1, .slice a2 m2 c2, .slice (some ⟨bd, 0, none⟩) X.length cd]) (fun q _ => x.length - (RowKit.intOf q).toNat)
  case atStart => exact ⟨0, Nat.zero_le _, rfl, by rw [List.take_zero, putL_nil]; exact HX.out.ext E1, g1, hB1⟩
  case round =>
    obtain ⟨j, hj, rfl, hO, hG, hT⟩ := hrel
    by_cases hlt : j < x.length
    · obtain ⟨b, off, y, rfl, hcell, hy, _⟩ := hx.get hlt
      have hnb : b ≠ bd := HN.out b rfl
      have hcr := hG.cell hcell (by simpa using hnb)
      have q2 := hT.cell (j := 2) rfl
      have hlj : (x.take j).length = j := by rw [List.length_take]; omega
      obtain ⟨z, hz⟩ := putL_some (l := X) (x := x.take j) (o := o) (j := o + j) (by rw [hlj]; omega) (by omega)
      obtain ⟨z1, z2⟩ := hO.cell hz
      have hset := hO.set (o + j) (by rw [putL_length (by rw [hlj]; omega)]; omega) y
      rw [putL_step (by omega) hy] at hset
      have HS := Lib.hid hset; clear hset hz hy
      have hl1 := World.block_lt_of_cell? wr _ hcr
      have hl2 := World.block_lt_of_cell? wr _ z1
      have hio : i * ringWidth k n + j = ((o + j : Nat) : Int) := by rw [HO.out]; simp
      have hio1 : i * ringWidth k n = (o : Int) := HO.out
      have hTn := hT.other (p := ⟨bd, o + j, none⟩) (by simp; omega) (.int .i64 y)
      have HT := Lib.hid hTn; clear hTn
      go_wp2
      go_region
      go_wp2
      all_goals
        go_roundw
        case rel =>
          exact ⟨j + 1, by omega, by go_num, HS.out.ext (by repeat' (first | (with_reducible exact Ext.refl _) | (with_reducible assumption) | (with_reducible apply Ext.alloc) | (with_reducible apply Ext.drew) | (with_reducible apply Ext.drewN) | (refine Ext.setAt ?_ (by omega) _ _) | (refine Ext.trans ?_ (by assumption)))), grown_drew (grown_setCell hG _ _), HT.out.ext (by repeat' (first | (with_reducible exact Ext.refl _) | (with_reducible assumption) | (with_reducible apply Ext.alloc) | (with_reducible apply Ext.drew) | (with_reducible apply Ext.drewN) | (refine Ext.setAt ?_ (by omega) _ _) | (refine Ext.trans ?_ (by assumption))))⟩
        case measure => simp [RowKit.intOf]; omega
    · have : j = x.length := by omega
      subst this
      rw [List.take_length] at hO
      go_wp2
      (try simp only [Exit.inBlock, Exit.then]); refine bodyPost_end (results_none rfl _ _ _) rfl ?_
      exact ⟨rfl, hO, hG⟩
end Go.Proofs.Ytabeciopggofkaa
