/- The part of Data with an element; copy. -/
import Derived.Test.YtabeciopggofkaaVBase
import Derived.Test.YtabeciopggofkaaVPutT
namespace Go.Proofs.Ytabeciopggofkaa
open Go.RowKit
set_option linter.unusedSimpArgs false
set_option linter.unusedVariables false

theorem rawElem_any (k p n i : Int) (o W : Nat) (hW : ringWidth k n = (W : Int)) (a1 a2 : Option Addr) (m1 c1 m2 c2 bd nd cd : Nat) (w : World) (ho : i * (W : Int) = o) (hi : 0 ≤ i) (hw : RingWide k n) (hfit : o + W ≤ nd) (hcd : nd ≤ cd) (hlen : nd ≤ 1048576) :
    Calls Try.prog 57 #[ringV k p n, .agg #[.slice a1 m1 c1, .slice a2 m2 c2, .slice (some ⟨bd, 0, none⟩) nd cd], .int .i64 i] w fun e w' =>
      e = .returned (.slice (some ⟨bd, o, none⟩) W (cd - o)) ∧ Ext w w' := by
  have hw0 := hw.lo
  have hw1 := hw.hi
  rw [hW] at hw0 hw1
  have h1o : (i + 1) * (W : Int) = (o : Int) + W := by rw [Int.add_mul, Int.one_mul, ho]
  have hib : i * 1 ≤ i * (W : Int) := Int.mul_le_mul_of_nonneg_left (by omega) hi
  have e1 : IntKind.i64.wrap (i * (W : Int)) = (o : Int) := by rw [IntKind.wrap_i64, ho]; omega
  have e2 : IntKind.i64.wrap (i + 1) = i + 1 := by rw [IntKind.wrap_i64]; omega
  have e3 : IntKind.i64.wrap ((i + 1) * (W : Int)) = ((o + W : Nat) : Int) := by rw [IntKind.wrap_i64, h1o]; omega
  have e4 : o + W - o = W := by omega
  have e5 : o < cd := by omega
  have HW := Lib.hid hW; clear hW hw ho h1o
  go_enter Try.func57, Try.ntmps57
  go_wp2_with fail
  refine (rawWidth_any _ _ _ _).mono ?_; rintro e1 w1 ⟨rfl, h1⟩; rw [HW.out]; have s1 := h1.size; (try simp at s1); have t1_0 : w.heap.size < w1.heap.size := (by omega); have c1_0 := fun o => h1.cells (w.heap.size) o (by first | (simp; done) | (simp; omega) | omega); have t1_1 : w.heap.size + 1 < w1.heap.size := (by omega); have c1_1 := fun o => h1.cells (w.heap.size + 1) o (by first | (simp; done) | (simp; omega) | omega); have f1_0 := fun o => h1.frozens (w.heap.size) o (by first | (simp; done) | (simp; omega) | omega); have f1_1 := fun o => h1.frozens (w.heap.size + 1) o (by first | (simp; done) | (simp; omega) | omega)
  go_wp2
  go_ret
  exact ⟨by show Ending.returned (.slice (some ⟨bd, o, none⟩) (o + W - o) (cd - o)) = _; rw [e4], (by repeat' (first | (with_reducible exact Ext.refl _) | (with_reducible assumption) | (with_reducible apply Ext.alloc) | (with_reducible apply Ext.drew) | (with_reducible apply Ext.drewN) | (refine Ext.setAt ?_ (by omega) _ _) | (refine Ext.trans ?_ (by assumption))))⟩

theorem l05Put_len (k p n i : Int) (o nd : Nat) (a1 a2 : Option Addr) (m1 c1 m2 c2 bd cd B : Nat) (vx : Value) (X x : List Int) (w : World) (hnd : X.length = nd) (hX : OwnI w B (.slice (some ⟨bd, 0, none⟩) nd cd) X) (hx : IntS w vx x)
    (hne : ∀ q, vx.ownBlock = some q → q ≠ bd) (ho : i * ringWidth k n = o) (hi : 0 ≤ i) (hw : RingWide k n) (hfit : o + x.length ≤ nd) (hlen : nd ≤ 1048576) :
    Calls Try.prog 102 #[ringV k p n, .agg #[.slice a1 m1 c1, .slice a2 m2 c2, .slice (some ⟨bd, 0, none⟩) nd cd], .int .i64 i, vx] w fun e w' =>
      e = .returned (.tuple #[]) ∧ OwnI w' B (.slice (some ⟨bd, 0, none⟩) nd cd) (putL X o x) ∧ w.grownBy w' (some bd) := by
  subst hnd
  exact l05Put_any k p n i o a1 a2 m1 c1 m2 c2 bd cd B vx X x w hX hx hne ho hi hw hfit hlen
end Go.Proofs.Ytabeciopggofkaa
