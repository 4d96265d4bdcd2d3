/- l06Shuffle: a list in some order. -/
import Derived.Test.YtlgjddgajdjllaaGreatDoorTDrawT
set_option linter.unusedSimpArgs false
set_option linter.unusedVariables false
namespace Go.Proofs.YtlgjddgajdjllaaGreatDoor
open Go.RowKit
theorem swap_perm {l : List Int} {i j : Nat} {x y : Int} (hx : l[i]? = some x) (hy : l[j]? = some y) : ((l.set i y).set j x).Perm l := by
  obtain ⟨h1, rfl⟩ := List.getElem?_eq_some_iff.1 hx
  obtain ⟨h2, rfl⟩ := List.getElem?_eq_some_iff.1 hy
  exact List.set_set_perm h1 h2
set_option maxHeartbeats 1000000 in
theorem l06Shuffle_any (b : Nat) {l : List Int} (v : Value) (L : List Int) (w : World) (hc : Cur w b l) (hL : IntS w v L) (hlen : L.length ≤ 200) : Calls Tryz.prog 50 #[.pointer (some ⟨b, 0, none⟩), v] w fun e w' =>
 ∃ u M, e = .returned u ∧ OwnI w' w.heap.size u M ∧ M.Perm L ∧ Cur w' b l ∧ w.grownBy w' (some b) := by
 have hbl := hc.lt
 obtain ⟨av, cv, rfl, hv1, hv2⟩ := hL.val
 go_enter Tryz.func50, Tryz.ntmps50
 go_wp2_with fail
 refine (l05Ints_any _ L _ hL (by omega)).mono ?_; rintro e1 w1 ⟨v1, rfl, o1, h1⟩
 have c1 := hc.ext h1
 have g1 : w.grownBy w1 (some b) := grown_ext (grown_refl w (some b)) h1
 obtain ⟨a1, k1, rfl, hk1, hk2⟩ := o1.ints.val
 go_wp2_with fail
 go_loopw [13] (fun i wr => ∃ (j : Nat) (M : List Int), j ≤ L.length ∧ i = .int .i64 j ∧ Hid (M.length = L.length ∧ M.Perm L) ∧ OwnI wr w.heap.size (.slice a1 L.length k1) M ∧ Cur wr b l ∧ w.grownBy wr (some b)) (fun i wr => L.length - (RowKit.intOf i).toNat)
 case atStart => exact ⟨0, L, Nat.zero_le _, rfl, Lib.hid ⟨rfl, List.Perm.refl _⟩, o1, c1, g1⟩
 case round =>
  obtain ⟨j, M, hj, rfl, HM, hO, hC, hG⟩ := hrel
  by_cases hlt : j < L.length
  · go_wp2_with fail
    refine (l01Below_any b ((j : Int) + 1) _ hC (by omega)).mono ?_; rintro e2 w2 ⟨x, rfl, ⟨x0, _, x1⟩, c2, g2⟩
    have xm := x1 (by omega)
    clear x1
    obtain ⟨k, rfl⟩ : ∃ k : Nat, x = k := ⟨x.toNat, by omega⟩
    have hO2 := hO.onlyB g2 hbl
    have G2 := grownBy_trans hG g2
    have hkl : k < L.length := by omega
    have hml := HM.out.1
    obtain ⟨y, hy⟩ : ∃ y, M[j]? = some y := ⟨_, List.getElem?_eq_getElem (by omega)⟩
    obtain ⟨z, hz⟩ : ∃ z, M[k]? = some z := ⟨_, List.getElem?_eq_getElem (by omega)⟩
    obtain ⟨q, kk, hq, hvq, hq1, hq2⟩ := hO2.open (by omega)
    rw [hml] at hvq
    cases hvq
    have HY := Lib.hid hy; have HZ := Lib.hid hz; have HML := Lib.hid hml
    obtain ⟨cy, fy⟩ := hO2.cell hy
    obtain ⟨cz, fz⟩ := hO2.cell hz
    have hql := (hO2.block_lt rfl).2
    have hO3 := hO2.set j (by omega) z
    have hz3 : (M.set j z)[k]? ≠ none := by simp; omega
    obtain ⟨t, ht⟩ : ∃ t, (M.set j z)[k]? = some t := Option.ne_none_iff_exists'.1 hz3
    obtain ⟨ct, ft⟩ := hO3.cell ht
    have hO4 := hO3.set k (by simp; omega) y
    have HP : Hid (((M.set j z).set k y).length = L.length ∧ ((M.set j z).set k y).Perm L) := Lib.hid ⟨by simp; exact HML.out, (swap_perm HY.out HZ.out).trans HM.out.2⟩
    have hjk : j < k1 := by omega
    have hkk : k < k1 := by omega
    clear hy hz hml ht hz3
    go_wp2
    go_roundw
    case rel => exact ⟨j + 1, _, by omega, by go_num, HP, hO4, (c2.setOther (by first | omega | (simp; omega)) _).setOther (by first | omega | (simp; omega)) _, (G2.setNew (by omega) _).setNew (by omega) _⟩
    case measure => simp [RowKit.intOf]; omega
  · go_wp2
    go_ret
    exact ⟨_, M, rfl, hO, HM.out.2, hC, hG⟩
end Go.Proofs.YtlgjddgajdjllaaGreatDoor
