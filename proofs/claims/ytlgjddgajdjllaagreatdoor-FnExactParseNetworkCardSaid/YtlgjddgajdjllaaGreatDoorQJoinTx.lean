/- Join of the program and of the reference; the law's walk. -/
import Derived.Test.YtlgjddgajdjllaaGreatDoorQShelf
set_option linter.unusedSimpArgs false
set_option linter.unusedVariables false
namespace Go.Proofs.YtlgjddgajdjllaaGreatDoor
open Go.RowKit
def tailB (sep : List UInt8) (l : List (List UInt8)) : List UInt8 := l.flatMap fun x => sep ++ x
theorem join_cons (sep x : List UInt8) (l : List (List UInt8)) : Lib.join (x :: l) sep = x ++ tailB sep l := by
  induction l generalizing x with
  | nil => simp [Lib.join, tailB, List.intercalate]
  | cons y l ih =>
    have h := ih y
    simp only [Lib.join, List.intercalate] at h ⊢
    simp only [List.intersperse_cons_cons, List.flatten_cons]
    rw [h]
    simp [tailB]
theorem tailB_cons (sep x : List UInt8) (l : List (List UInt8)) : tailB sep (x :: l) = sep ++ x ++ tailB sep l := by simp [tailB]
theorem tailB_len (sep : List UInt8) (l : List ByteArray) : (tailB sep (l.map (·.data.toList))).length = l.length * sep.length + sizeStr l := by
  induction l with
  | nil => simp [tailB, sizeStr]
  | cons x l ih =>
    rw [List.map_cons, tailB_cons, List.length_append, List.length_append, ih, sizeStr_cons, List.length_cons, Nat.add_mul, Nat.one_mul]
    have : x.data.toList.length = x.size := by simp
    omega
theorem mem_sizeStr {l : List ByteArray} {s : ByteArray} (h : s ∈ l) : s.size ≤ sizeStr l := by
  induction l with
  | nil => simp at h
  | cons x xs ih =>
    rw [sizeStr_cons]
    rcases List.mem_cons.1 h with rfl | h
    · omega
    · have := ih h; omega
set_option maxHeartbeats 400000 in
theorem join_spec (v : Value) (l : List ByteArray) (sep : ByteArray) (w : World) (hl : StrS w v l) (h1 : l.length + sizeStr l ≤ 67108864) (h2 : sep.size ≤ 1048576) : Calls Tryz.prog 96 #[v, .string sep] w fun e w' =>
 e = .returned (.string ⟨(Lib.join (l.map (·.data.toList)) sep.data.toList).toArray⟩) ∧ Ext w w' := by
 obtain ⟨a, cap, rfl, hc1, hc2⟩ := hl.val
 go_enter Tryz.func96, Tryz.ntmps96
 go_wp2
 go_loop [5, 10] (fun s i => ∃ j : Nat, ∃ t : ByteArray, j ≤ l.length ∧ i = .int .i64 j ∧ s = .string t ∧ t.size ≤ j * 134217728 ∧
  ((j = 0 ∧ t.data.toList = []) ∨ (0 < j ∧ t.data.toList ++ tailB sep.data.toList ((l.drop j).map (·.data.toList)) = Lib.join (l.map (·.data.toList)) sep.data.toList))) (fun s i => l.length - (RowKit.intOf i).toNat)
 case atStart => exact ⟨0, ⟨#[]⟩, Nat.zero_le _, rfl, rfl, Nat.zero_le _, .inl ⟨rfl, rfl⟩⟩
 case round =>
  obtain ⟨j, t, hj, rfl, rfl, hts, hm⟩ := hrel
  by_cases hlt : j < l.length
  · obtain ⟨b, off, x, rfl, hcell, hx, hd⟩ := hl.get hlt
    have hxs := mem_sizeStr (List.mem_of_getElem? hx)
    clear hx
    rcases hm with ⟨rfl, ht⟩ | ⟨h0, ht⟩
    · have HT := Lib.hid ht; clear ht
      have HD := Lib.hid hd; clear hd
      rw [Nat.add_zero] at hcell
      go_wp2
      go_round
      case rel =>
       refine ⟨1, _, by omega, rfl, rfl, by simp; omega, .inr ⟨by omega, ?_⟩⟩
       rw [append_bytes, HT.out, List.nil_append]
       have e : l = x :: l.drop 1 := HD.out
       conv => rhs; rw [e]
       rw [List.map_cons, join_cons]
      case measure => simp [RowKit.intOf]; omega
    · rw [hd, List.map_cons, tailB_cons] at ht
      have HT := Lib.hid ht; clear ht hd
      go_wp2
      go_round
      case rel =>
       refine ⟨j + 1, _, by omega, by go_num, rfl, by simp; omega, .inr ⟨by omega, ?_⟩⟩
       rw [append_bytes, append_bytes, ← HT.out]
       simp
      case measure => simp [RowKit.intOf]; omega
  · have : j = l.length := by omega
    subst this
    have HM := Lib.hid hm; clear hm
    go_wp2
    go_ret
    refine ⟨?_, (by repeat' (first | (with_reducible first | exact Ext.refl _ | assumption | apply Ext.alloc | apply Ext.drew | apply Ext.drewN) | (refine Ext.setAt ?_ (by omega) _ _) | (refine Ext.trans ?_ (by assumption))))⟩
    have e : t = ⟨(Lib.join (l.map (·.data.toList)) sep.data.toList).toArray⟩ := by
     apply str_eq
     rcases HM.out with ⟨h0, ht⟩ | ⟨h0, ht⟩
     · have : l = [] := List.eq_nil_of_length_eq_zero h0
       subst this
       rw [ht]; simp [Lib.join, List.intercalate]
     · rw [← ht]; simp [tailB]
    exact congrArg (fun s => Ending.returned (Value.string s)) e
theorem join_impl (v : Value) (l : List ByteArray) (sep : ByteArray) (w : World) (hl : StrS w v l) (h1 : l.length + sizeStr l ≤ 67108864) (h2 : sep.size ≤ 1048576) : Calls Tryz.prog 63 #[v, .string sep] w fun e w' =>
 e = .returned (.string ⟨(Lib.join (l.map (·.data.toList)) sep.data.toList).toArray⟩) ∧ Ext w w' := by
 obtain ⟨a, cap, hv, hc1, hc2⟩ := hl.val
 by_cases h0 : l = []
 · subst h0
   subst hv
   go_enter Tryz.func63, Tryz.ntmps63
   go_wp2_with (go_at_call 87; refine (Tryz.strings_Join_none _ _ _ _).mono ?_; rintro e w' ⟨rfl, rfl⟩)
   go_ret
   exact ⟨by simp [Lib.join, List.intercalate], (by repeat' (first | (with_reducible first | exact Ext.refl _ | assumption | apply Ext.alloc | apply Ext.drew | apply Ext.drewN) | (refine Ext.setAt ?_ (by omega) _ _) | (refine Ext.trans ?_ (by assumption))))⟩
 · have hp : 0 < l.length := List.length_pos_iff.2 h0
   subst hv
   obtain ⟨b, off, x, rfl, hcell, _, _⟩ := hl.get hp
   have hb := World.block_lt_of_cell? w _ hcell
   clear hcell
   have hcells : ∀ (j : Nat) x, l[j]? = some x → w.cell? ⟨b, off + j, none⟩ = some (.string x) := by
    intro j x hj
    obtain ⟨b', off', x', e, hcell, hx, _⟩ := hl.get (List.getElem?_eq_some_iff.1 hj).1
    cases e
    rw [hj] at hx
    obtain rfl := Option.some.inj hx
    exact hcell
   have hlen : (Lib.join (l.map (·.data.toList)) sep.data.toList).length ≤ 140737488355328 := by
    obtain ⟨y, m, rfl⟩ : ∃ y m, l = y :: m := by cases l with | nil => exact absurd rfl h0 | cons y m => exact ⟨y, m, rfl⟩
    rw [List.map_cons, join_cons, List.length_append, tailB_len]
    rw [sizeStr_cons, List.length_cons] at h1
    have e1 : y.data.toList.length = y.size := by simp
    have e2 : sep.data.toList.length = sep.size := by simp
    have : m.length * sep.data.toList.length ≤ 67108864 * 1048576 := Nat.mul_le_mul (by omega) (by omega)
    omega
   have HC := Lib.hid hcells; clear hcells
   have HL := Lib.hid hlen; clear hlen
   go_enter Tryz.func63, Tryz.ntmps63
   go_wp2_with fail
   refine (Tryz.strings_Join b off cap l sep w HC.out hb (by omega) hc1 HL.out).mono ?_
   rintro e w' ⟨rfl, hbl⟩
   go_wp2
   go_ret
   exact ⟨rfl, ⟨hbl⟩⟩
end Go.Proofs.YtlgjddgajdjllaaGreatDoor
