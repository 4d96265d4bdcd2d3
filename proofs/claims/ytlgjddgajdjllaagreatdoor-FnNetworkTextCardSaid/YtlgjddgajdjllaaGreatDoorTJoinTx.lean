/- Join of the program and of the reference; the law's walk. -/
import Derived.Test.YtlgjddgajdjllaaGreatDoorTShelf
set_option linter.unusedSimpArgs false
set_option linter.unusedVariables false
namespace Go.Proofs.YtlgjddgajdjllaaGreatDoor
open Go.RowKit
def tailB (sep : List UInt8) (l : List (List UInt8)) : List UInt8 := l.flatMap fun x => sep ++ x
theorem join_cons (sep x : List UInt8) (l : List (List UInt8)) : Lib.join (x :: l) sep = x ++ tailB sep l := by
  induction l generalizing x with
  | nil => simp [Lib.join, tailB, List.intercalate]
  | cons y l ih =>
    have h := ih y
    simp only [Lib.join, List.intercalate] at h ⊢
    simp only [List.intersperse_cons_cons, List.flatten_cons]
    rw [h]
    simp [tailB]
theorem tailB_cons (sep x : List UInt8) (l : List (List UInt8)) : tailB sep (x :: l) = sep ++ x ++ tailB sep l := by simp [tailB]
theorem tailB_len (sep : List UInt8) (l : List ByteArray) : (tailB sep (l.map (·.data.toList))).length = l.length * sep.length + sizeStr l := by
  induction l with
  | nil => simp [tailB, sizeStr]
  | cons x l ih =>
    rw [List.map_cons, tailB_cons, List.length_append, List.length_append, ih, sizeStr_cons, List.length_cons, Nat.add_mul, Nat.one_mul]
    have : x.data.toList.length = x.size := by simp
    omega
theorem join_impl (v : Value) (l : List ByteArray) (sep : ByteArray) (w : World) (hl : StrS w v l) (h1 : l.length + sizeStr l ≤ 67108864) (h2 : sep.size ≤ 1048576) : Calls Tryz.prog 63 #[v, .string sep] w fun e w' =>
 e = .returned (.string ⟨(Lib.join (l.map (·.data.toList)) sep.data.toList).toArray⟩) ∧ Ext w w' := by
 obtain ⟨a, cap, hv, hc1, hc2⟩ := hl.val
 by_cases h0 : l = []
 · subst h0
   subst hv
   go_enter Tryz.func63, Tryz.ntmps63
   go_wp2_with (go_at_call 87; refine (Tryz.strings_Join_none _ _ _ _).mono ?_; rintro e w' ⟨rfl, rfl⟩)
   go_ret
   exact ⟨by simp [Lib.join, List.intercalate], (by repeat' (first | (with_reducible first | exact Ext.refl _ | assumption | apply Ext.alloc | apply Ext.drew | apply Ext.drewN) | (refine Ext.setAt ?_ (by omega) _ _) | (refine Ext.trans ?_ (by assumption))))⟩
 · have hp : 0 < l.length := List.length_pos_iff.2 h0
   subst hv
   obtain ⟨b, off, x, rfl, hcell, _, _⟩ := hl.get hp
   have hb := World.block_lt_of_cell? w _ hcell
   clear hcell
   have hcells : ∀ (j : Nat) x, l[j]? = some x → w.cell? ⟨b, off + j, none⟩ = some (.string x) := by
    intro j x hj
    obtain ⟨b', off', x', e, hcell, hx, _⟩ := hl.get (List.getElem?_eq_some_iff.1 hj).1
    cases e
    rw [hj] at hx
    obtain rfl := Option.some.inj hx
    exact hcell
   have hlen : (Lib.join (l.map (·.data.toList)) sep.data.toList).length ≤ 140737488355328 := by
    obtain ⟨y, m, rfl⟩ : ∃ y m, l = y :: m := by cases l with | nil => exact absurd rfl h0 | cons y m => exact ⟨y, m, rfl⟩
    rw [List.map_cons, join_cons, List.length_append, tailB_len]
    rw [sizeStr_cons, List.length_cons] at h1
    have e1 : y.data.toList.length = y.size := by simp
    have e2 : sep.data.toList.length = sep.size := by simp
    have : m.length * sep.data.toList.length ≤ 67108864 * 1048576 := Nat.mul_le_mul (by omega) (by omega)
    omega
   have HC := Lib.hid hcells; clear hcells
   have HL := Lib.hid hlen; clear hlen
   go_enter Tryz.func63, Tryz.ntmps63
   go_wp2_with fail
   refine (Tryz.strings_Join b off cap l sep w HC.out hb (by omega) hc1 HL.out).mono ?_
   rintro e w' ⟨rfl, hbl⟩
   go_wp2
   go_ret
   exact ⟨rfl, ⟨hbl⟩⟩
end Go.Proofs.YtlgjddgajdjllaaGreatDoor
