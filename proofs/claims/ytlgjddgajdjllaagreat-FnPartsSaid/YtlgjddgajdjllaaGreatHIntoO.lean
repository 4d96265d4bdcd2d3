/- mulInto, addInto onto slices of the call's own. -/
import Derived.Test.YtlgjddgajdjllaaGreatHJoinA
set_option linter.unusedSimpArgs false
set_option linter.unusedVariables false
namespace Go.Proofs.YtlgjddgajdjllaaGreat
open Go.RowKit
theorem mulInto_own (k p n : Int) (B b W cap : Nat) (vx vy : Value) (z x y : List Int) (w : World) (hr : ringOk k p n = true) (hO : OwnI w B (.slice (some ⟨b, 0, none⟩) W cap) z) (hzl : z.length = W) (hvx : IntS w vx x) (hvy : IntS w vy y)
    (hnx : vx.ownBlock ≠ some b) (hny : vy.ownBlock ≠ some b) (hx : rawOk k p n x = true) (hy : rawOk k p n y = true) (hxl : x.length = W) :
    Calls Tryz.prog 40 #[ringV k p n, .slice (some ⟨b, 0, none⟩) W cap, vx, vy] w fun e w' =>
      e = .returned (.tuple #[]) ∧ OwnI w' B (.slice (some ⟨b, 0, none⟩) W cap) (mulL k p x y) ∧ w.grownBy w' (some b) := by
  subst hzl
  obtain ⟨rest, hP, rfl, _, hb, hm⟩ := hO.part
  refine (mulInto_any k p n b 0 _ _ vx vy z x y w hr hP hvx hvy hnx hny hxl.symm hx hy).mono ?_
  rintro e w' ⟨rfl, hB, g⟩
  have hl := (rawOk_iff.1 (rawOk_mul hr hx hy)).1
  have hl2 := (rawOk_iff.1 hx).1
  exact ⟨rfl, OwnI.of_part hb hB (by omega) hm, g⟩
theorem splice_put {X y : List Int} {rest : List Value} {o : Nat} (h : o + y.length ≤ X.length) : splice (ints X ++ rest) o (ints y) = ints (putL X o y) ++ rest := by
  have e1 : (ints X ++ rest).take o = ints (X.take o) := by rw [List.take_append_of_le_length (by rw [ints_length]; omega)]; simp [Proofs.YtlgjddgajdjllaaGreat.ints]
  have e2 : (ints X ++ rest).drop (o + (ints y).length) = ints (X.drop (o + y.length)) ++ rest := by rw [List.drop_append_of_le_length (by rw [ints_length, ints_length]; omega)]; simp [Proofs.YtlgjddgajdjllaaGreat.ints]
  unfold splice
  rw [e1, e2]; unfold putL; simp [Proofs.YtlgjddgajdjllaaGreat.ints]
theorem addInto_own (k p n : Int) (B b o W N cap cap' : Nat) (vy : Value) (X z y : List Int) (w : World) (hr : ringOk k p n = true) (hO : OwnI w B (.slice (some ⟨b, 0, none⟩) N cap) X) (hN : X.length = N) (hf : o + W ≤ N) (hz : getL X o W = z) (hvy : IntS w vy y)
    (hny : vy.ownBlock ≠ some b) (hx : rawOk k p n z = true) (hy : rawOk k p n y = true) :
    Calls Tryz.prog 43 #[ringV k p n, .slice (some ⟨b, o, none⟩) W cap', vy] w fun e w' =>
      e = .returned (.tuple #[]) ∧ OwnI w' B (.slice (some ⟨b, 0, none⟩) N cap) (putL X o (addL k p z y)) ∧ w.grownBy w' (some b) := by
  subst hN
  obtain ⟨rest, hP, rfl, _, hb, hm⟩ := hO.part
  have hzl : z.length = W := by rw [← hz]; exact getL_length hf
  subst hzl
  have hPz : Part w b o (ints X ++ rest) z := ⟨hP.blk, by rw [List.length_append, ints_length]; omega, by
    rw [List.drop_append_of_le_length (by rw [ints_length]; omega), List.take_append_of_le_length (by rw [List.length_drop, ints_length]; omega)]
    conv => rhs; rw [← hz]
    unfold getL Proofs.YtlgjddgajdjllaaGreat.ints
    rw [List.map_take, List.map_drop]⟩
  refine (addInto_any k p n b o cap' _ vy z y w hr hPz hvy hny hx hy).mono ?_
  rintro e w' ⟨rfl, hB, g⟩
  have hl := (rawOk_iff.1 (rawOk_add hr hx hy)).1
  have hl2 := (rawOk_iff.1 hx).1
  have hal : (addL k p z y).length = z.length := by omega
  rw [splice_put (by rw [hal]; exact hf)] at hB
  refine ⟨rfl, ⟨.inr ⟨b, rest, hb, ?_, hB, ?_⟩⟩, g⟩
  · rw [putL_length (by rw [hal]; exact hf)]
  · rw [putL_length (by rw [hal]; exact hf)]; exact hm
theorem mixM_at {f g : Int → Int} {M : List Int} {j : Nat} {m : Int} (h : M[j]? = some m) : (mixM f g M j)[j]? = some (g m) := by
  obtain ⟨hj, rfl⟩ := List.getElem?_eq_some_iff.1 h
  have e : ((M.take j).map f).length = j := by rw [List.length_map, List.length_take]; omega
  unfold mixM
  rw [List.getElem?_append_right (by omega), e, Nat.sub_self, List.drop_eq_getElem_cons hj]; rfl
theorem set_same {l : List Int} {j : Nat} {x : Int} (h : l[j]? = some x) : l.set j x = l := by
  obtain ⟨hj, rfl⟩ := List.getElem?_eq_some_iff.1 h
  exact List.set_getElem_self hj
theorem hasL_snoc (l : List Int) (y x : Int) : hasL (l ++ [y]) x = (hasL l x || (x == y)) := by
  simp [hasL]
end Go.Proofs.YtlgjddgajdjllaaGreat
