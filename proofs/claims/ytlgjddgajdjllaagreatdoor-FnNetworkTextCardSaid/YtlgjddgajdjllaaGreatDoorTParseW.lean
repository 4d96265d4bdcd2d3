/- ParseInt of the program and of the reference. -/
import Derived.Test.YtlgjddgajdjllaaGreatDoorTItoaW
import Derived.Test.YtlgjddgajdjllaaGreatDoorTG1
set_option linter.unusedSimpArgs false
set_option linter.unusedVariables false
namespace Go.Proofs.YtlgjddgajdjllaaGreatDoor
open Go.RowKit
open Go.Lib
theorem str_beq_no {z s : ByteArray} (h : z.data.toList ≠ s.data.toList) : (z.toList == s.toList) = false := by
  rw [beq_eq_false_iff_ne]
  intro e
  apply h
  rwa [ByteArray.toList_eq, ByteArray.toList_eq] at e
def pv (l : List UInt8) : Int := (parseI l).getD 0
def pb (l : List UInt8) : Bool := (parseI l).isSome
theorem ret_par {l : List UInt8} (h : parseI l = none) : Ending.returned (.tuple #[.int .i64 0, .bool false]) = .returned (.tuple #[.int .i64 (pv l), .bool (pb l)]) := by rw [pv, pb, h]; rfl
theorem ret_par2 {l : List UInt8} {n : Int} (h : parseI l = some n) : Ending.returned (.tuple #[.int .i64 n, .bool true]) = .returned (.tuple #[.int .i64 (pv l), .bool (pb l)]) := by rw [pv, pb, h]; rfl
theorem mkS_is {l : List UInt8} {s : ByteArray} (h : l = s.data.toList) : mkS l = s := by rw [h, mkS_of]
theorem atoi_bad (s : ByteArray) (hlim : s.size ≤ 281474976710656) (h : ∀ v, atoiAll s.data.toList ≠ .ok v) (w : World) (he : Errs w) : Calls Tryz.prog 83 #[.string s] w fun e w' =>
    ∃ v t p, e = .returned (.tuple #[.int .i64 v, .iface t p]) ∧ Ext w w' := by
  obtain ⟨_, ⟨t1, p1, h1⟩, ⟨t2, p2, h2⟩⟩ := he
  cases hc : atoiAll s.data.toList with
  | ok v => exact absurd hc (h v)
  | range =>
    exact (Any.strconv_Atoi_range_var Tryz.laysC172 s hlim hc t2 p2 w h2).mono fun e w' ⟨N, he, _, _, hb⟩ => ⟨_, _, _, he, ⟨hb⟩⟩
  | _ =>
    exact (Any.strconv_Atoi_syntax_var Tryz.laysC172 s hlim hc t1 p1 w h1).mono fun e w' ⟨N, he, _, _, hb⟩ => ⟨_, _, _, he, ⟨hb⟩⟩
theorem atoi_good (s : ByteArray) (hlim : s.size ≤ 281474976710656) (v : Int) (h : atoiAll s.data.toList = .ok v) (w : World) : Calls Tryz.prog 83 #[.string s] w fun e w' =>
    e = .returned (.tuple #[.int .i64 v, .nilIface]) ∧ Ext w w' :=
  (Tryz.strconv_Atoi_ok s (by omega) v h w).mono fun e w' ⟨he, hw⟩ => ⟨he, by
    rcases hw with rfl | ⟨t, rfl⟩
    · exact Ext.refl _
    · exact ⟨Joins.below_bytesWorld _ w _ t (Nat.le_refl _)⟩⟩
set_option maxRecDepth 100000 in
theorem parseInt_impl (s : ByteArray) (hlim : s.size ≤ 1099511627776) (w : World) (he : Errs w) : Calls Tryz.prog 54 #[.string s] w fun e w' =>
 e = .returned (.tuple #[.int .i64 (pv s.data.toList), .bool (pb s.data.toList)]) ∧ Ext w w' := by
 by_cases hok : ∃ v, atoiAll s.data.toList = .ok v
 · obtain ⟨v, hv⟩ := hok
   obtain ⟨v0, v1⟩ := atoiAll_bounds hv
   by_cases hi : itoa v = s.data.toList
   · have hp : parseI s.data.toList = some v := by rw [parseI, hv]; simp only; rw [if_pos hi]
     have hz : (⟨(itoa v).toArray⟩ : ByteArray) = s := mkS_is hi
     have HP := Lib.hid hp; have HV := Lib.hid hv
     clear hp hv hi
     go_enter Tryz.func54, Tryz.ntmps54
     go_wp2_with fail
     refine (atoi_good s (by omega) v HV.out _).mono ?_; rintro e1 w1 ⟨rfl, h1⟩
     go_wp2_with fail
     refine (Tryz.strconv_Itoa v v0 v1 _ (he.ext h1).tab.tab).mono ?_; rintro e2 w2 ⟨rfl, k, os, rfl⟩; rw [hz]
     go_wp2
     go_ret2
     exact ⟨ret_par2 HP.out, h1.trans (grow_ext _ _ _)⟩
   · have hp : parseI s.data.toList = none := by rw [parseI, hv]; simp only; rw [if_neg hi]
     obtain ⟨z, hz⟩ : ∃ z, (⟨(itoa v).toArray⟩ : ByteArray) = z := ⟨_, rfl⟩
     have hzs : (z.toList == s.toList) = false := str_beq_no (by rw [← hz]; exact hi)
     have HP := Lib.hid hp; have HV := Lib.hid hv
     clear hp hv hi
     go_enter Tryz.func54, Tryz.ntmps54
     go_wp2_with fail
     refine (atoi_good s (by omega) v HV.out _).mono ?_; rintro e1 w1 ⟨rfl, h1⟩
     go_wp2_with fail
     refine (Tryz.strconv_Itoa v v0 v1 _ (he.ext h1).tab.tab).mono ?_; rintro e2 w2 ⟨rfl, k, os, rfl⟩; rw [hz]
     have HZ := Lib.hid hz; clear hz
     go_wp2
     go_ret2
     exact ⟨ret_par HP.out, h1.trans (grow_ext _ _ _)⟩
 · have hno : ∀ v, atoiAll s.data.toList ≠ .ok v := fun v e => hok ⟨v, e⟩
   have hp : parseI s.data.toList = none := by
    rw [parseI]
    cases hc : atoiAll s.data.toList with
    | ok v => exact absurd hc (hno v)
    | _ => rfl
   have HP := Lib.hid hp; have HN := Lib.hid hno
   clear hp hno hok
   go_enter Tryz.func54, Tryz.ntmps54
   go_wp2_with fail
   refine (atoi_bad s (by omega) HN.out _ he).mono ?_; rintro e1 w1 ⟨v, t, p, rfl, h1⟩
   go_wp2
   go_ret2
   exact ⟨ret_par HP.out, h1⟩
end Go.Proofs.YtlgjddgajdjllaaGreatDoor
