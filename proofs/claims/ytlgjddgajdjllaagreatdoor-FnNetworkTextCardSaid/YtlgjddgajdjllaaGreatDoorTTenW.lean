/- Tensors of the program: IndexAt, OffsetOf, ElemAt, SetElem; the laws' same. -/
import Derived.Test.YtlgjddgajdjllaaGreatDoorTTokW
import Derived.Test.YtlgjddgajdjllaaGreatDoorTDrawT
set_option linter.unusedSimpArgs false
set_option linter.unusedVariables false
namespace Go.Proofs.YtlgjddgajdjllaaGreatDoor
open Go.RowKit
theorem IntS.part {w : World} {b off n cap o W : Nat} {X : List Int} (h : IntS w (.slice (some ⟨b, off, none⟩) n cap) X) (hW : 1 ≤ W) (hf : o + W ≤ X.length) : IntS w (.slice (some ⟨b, off + o, none⟩) W (cap - o)) (getL X o W) := by
  obtain ⟨hl, a', cap', hv, h1, h2, h3⟩ := h.row
  cases hv
  have e : (getL X o W).length = W := getL_length hf
  refine ⟨⟨by rw [ints_length]; omega, some ⟨b, off + o, none⟩, cap - o, by rw [e], by omega, by omega, fun _ => ⟨b, off + o, rfl, fun j u hj => ?_⟩⟩⟩
  obtain ⟨b', off', ha, hc⟩ := h3 (by rw [ints_length]; omega)
  cases ha
  have hj2 := (List.getElem?_eq_some_iff.1 hj).1
  rw [ints_length, e] at hj2
  have : (ints X)[o + j]? = some u := by
    rw [ints_get] at hj ⊢
    rw [getL, List.getElem?_take_of_lt hj2, List.getElem?_drop] at hj
    exact hj
  have := hc (o + j) u this
  rw [Nat.add_assoc]; exact this
theorem rawElem_gen (k p n i : Int) (o W : Nat) (hW : ringWidth k n = (W : Int)) (a1 a2 : Option Addr) (m1 c1 m2 c2 bd off nd cd : Nat) (w : World) (ho : i * (W : Int) = o) (hi : 0 ≤ i) (hw : RingWide k n) (hfit : o + W ≤ nd) (hcd : nd ≤ cd) (hlen : nd ≤ 1048576) :
 Calls Tryz.prog 62 #[ringV k p n, .agg #[.slice a1 m1 c1, .slice a2 m2 c2, .slice (some ⟨bd, off, none⟩) nd cd], .int .i64 i] w fun e w' =>
  e = .returned (.slice (some ⟨bd, off + o, none⟩) W (cd - o)) ∧ Ext w w' := by
 have hw0 := hw.lo
 have hw1 := hw.hi
 rw [hW] at hw0 hw1
 have h1o : (i + 1) * (W : Int) = (o : Int) + W := by rw [Int.add_mul, Int.one_mul, ho]
 have hib : i * 1 ≤ i * (W : Int) := Int.mul_le_mul_of_nonneg_left (by omega) hi
 have e1 : IntKind.i64.wrap (i * (W : Int)) = (o : Int) := by rw [IntKind.wrap_i64, ho]; omega
 have e2 : IntKind.i64.wrap (i + 1) = i + 1 := by rw [IntKind.wrap_i64]; omega
 have e3 : IntKind.i64.wrap ((i + 1) * (W : Int)) = ((o + W : Nat) : Int) := by rw [IntKind.wrap_i64, h1o]; omega
 have e4 : o + W - o = W := by omega
 have e5 : o < cd := by omega
 have HW := Lib.hid hW; clear hW hw ho h1o
 go_enter Tryz.func62, Tryz.ntmps62
 go_wp2_with fail
 refine (rawWidth_any _ _ _ _).mono ?_; rintro e1 w1 ⟨rfl, h1⟩; rw [HW.out]; have s1 := h1.size; (try simp at s1); have t1_0 : w.heap.size < w1.heap.size := (by omega); have c1_0 := fun o => h1.cells (w.heap.size) o (by first | (simp; done) | (simp; omega) | omega); have t1_1 : w.heap.size + 1 < w1.heap.size := (by omega); have c1_1 := fun o => h1.cells (w.heap.size + 1) o (by first | (simp; done) | (simp; omega) | omega); have f1_0 := fun o => h1.frozens (w.heap.size) o (by first | (simp; done) | (simp; omega) | omega); have f1_1 := fun o => h1.frozens (w.heap.size + 1) o (by first | (simp; done) | (simp; omega) | omega)
 go_wp2
 go_ret
 exact ⟨by show Ending.returned (.slice (some ⟨bd, off + o, none⟩) (o + W - o) (cd - o)) = _; rw [e4], (by repeat' (first | (with_reducible first | exact Ext.refl _ | assumption | apply Ext.alloc | apply Ext.drew | apply Ext.drewN) | (refine Ext.setAt ?_ (by omega) _ _) | (refine Ext.trans ?_ (by assumption))))⟩
theorem IntS.open {w : World} {v : Value} {l : List Int} (h : IntS w v l) (hp : 0 < l.length) : ∃ b off cap, v = .slice (some ⟨b, off, none⟩) l.length cap ∧ l.length ≤ cap ∧ cap ≤ 9223372036854775807 ∧ b < w.heap.size := by
  obtain ⟨hl, a, cap, hv, h1, h2, h3⟩ := h.row
  obtain ⟨b, off, rfl, hc⟩ := h3 (by rw [ints_length]; exact hp)
  have := hc 0 (.int .i64 l[0]) (by rw [ints_get, List.getElem?_eq_getElem hp]; rfl)
  exact ⟨b, off, cap, hv, h1, h2, World.block_lt_of_cell? _ _ this⟩
theorem TOk.nat {k p n : Int} {L D X : List Int} (h : TOk k p n L D X) (hr : ringOk k p n = true) : ∃ P W : Nat, prodL D = P ∧ ringWidth k n = W ∧ 1 ≤ P ∧ P ≤ 4096 ∧ 1 ≤ W ∧ W ≤ 6 ∧ X.length = P * W := by
  have hw := ringOk_wide hr
  have h0 := hw.lo
  have h1 := hw.hi
  have p0 := h.ax.pos
  have p1 := h.ax.size
  refine ⟨(prodL D).toNat, (ringWidth k n).toNat, by omega, by omega, by omega, by omega, by omega, by omega, ?_⟩
  have := h.len
  have e : prodL D * ringWidth k n = (((prodL D).toNat * (ringWidth k n).toNat : Nat) : Int) := by
    rw [Int.natCast_mul, Int.toNat_of_nonneg (by omega), Int.toNat_of_nonneg (by omega)]
  rw [e] at this
  exact Int.ofNat.inj this
theorem same_same (v u : Value) (L D X L' D' X' : List Int) (w : World) (hl : TenS w v L D X) (hm : TenS w u L' D' X') (e1 : L = L') (e2 : D = D') (e3 : X = X') : Calls Tryz.prog 26 #[v, u] w fun e w' =>
 e = .returned (.bool true) ∧ Ext w w' := by
 subst e1 e2 e3
 obtain ⟨a, b, c, rfl, h1, h2, h3⟩ := hl.val
 obtain ⟨a', b', c', rfl, g1, g2, g3⟩ := hm.val
 obtain ⟨x1, y1, rfl, _, _⟩ := h1.val
 obtain ⟨x2, y2, rfl, _, _⟩ := h2.val
 obtain ⟨x3, y3, rfl, _, _⟩ := h3.val
 obtain ⟨z1, u1, rfl, _, _⟩ := g1.val
 obtain ⟨z2, u2, rfl, _, _⟩ := g2.val
 obtain ⟨z3, u3, rfl, _, _⟩ := g3.val
 go_enter Tryz.func26, Tryz.ntmps26
 go_wp2_with fail
 refine (ints_same _ _ L L _ (h1.ext (by repeat' (first | (with_reducible first | exact Ext.refl _ | assumption | apply Ext.alloc | apply Ext.drew | apply Ext.drewN) | (refine Ext.setAt ?_ (by omega) _ _) | (refine Ext.trans ?_ (by assumption))))) (g1.ext (by repeat' (first | (with_reducible first | exact Ext.refl _ | assumption | apply Ext.alloc | apply Ext.drew | apply Ext.drewN) | (refine Ext.setAt ?_ (by omega) _ _) | (refine Ext.trans ?_ (by assumption))))) rfl).mono ?_; rintro e1 w1 ⟨rfl, rfl⟩
 go_wp2_with fail
 refine (ints_same _ _ D D _ (h2.ext (by repeat' (first | (with_reducible first | exact Ext.refl _ | assumption | apply Ext.alloc | apply Ext.drew | apply Ext.drewN) | (refine Ext.setAt ?_ (by omega) _ _) | (refine Ext.trans ?_ (by assumption))))) (g2.ext (by repeat' (first | (with_reducible first | exact Ext.refl _ | assumption | apply Ext.alloc | apply Ext.drew | apply Ext.drewN) | (refine Ext.setAt ?_ (by omega) _ _) | (refine Ext.trans ?_ (by assumption))))) rfl).mono ?_; rintro e2 w2 ⟨rfl, rfl⟩
 go_wp2_with fail
 refine (ints_same _ _ X X _ (h3.ext (by repeat' (first | (with_reducible first | exact Ext.refl _ | assumption | apply Ext.alloc | apply Ext.drew | apply Ext.drewN) | (refine Ext.setAt ?_ (by omega) _ _) | (refine Ext.trans ?_ (by assumption))))) (g3.ext (by repeat' (first | (with_reducible first | exact Ext.refl _ | assumption | apply Ext.alloc | apply Ext.drew | apply Ext.drewN) | (refine Ext.setAt ?_ (by omega) _ _) | (refine Ext.trans ?_ (by assumption))))) rfl).mono ?_; rintro e3 w3 ⟨rfl, rfl⟩
 go_wp2
 go_ret
 exact ⟨rfl, (by repeat' (first | (with_reducible first | exact Ext.refl _ | assumption | apply Ext.alloc | apply Ext.drew | apply Ext.drewN) | (refine Ext.setAt ?_ (by omega) _ _) | (refine Ext.trans ?_ (by assumption))))⟩
end Go.Proofs.YtlgjddgajdjllaaGreatDoor
