/- strings.CutPrefix, at the prefix 'open'. -/
import Derived.Test.YtlgjddgajdjllaaGreatDoorTSplitTx
set_option linter.unusedSimpArgs false
set_option linter.unusedVariables false
namespace Go.Proofs.YtlgjddgajdjllaaGreatDoor
open Go.RowKit
open Go.Lib
theorem ext4 (s : ByteArray) (h : 4 ≤ s.size) : ((s.extract 0 4).toList == ([111, 112, 101, 110] : List UInt8)) = (s.data.toList.take 4 == [111, 112, 101, 110]) := by
  rw [ByteArray.toList_eq]
  have e : (s.extract 0 4).data.toList = s.data.toList.take 4 := by simp
  rw [e]
set_option maxHeartbeats 1000000 in
theorem hasOpen_any (s : ByteArray) (w : World) (hs : s.size ≤ 1073741824) : Calls Tryz.prog 84 #[.string s, .string ⟨#[111, 112, 101, 110]⟩] w fun e w' =>
 e = .returned (.bool (s.data.toList.take 4 == [111, 112, 101, 110])) ∧ w' = w := by
 by_cases h : 4 ≤ s.size
 · have hb : (4 : Int) ≤ (s.size : Int) := by omega
   have he := ext4 s h
   go_enter Tryz.func84, Tryz.ntmps84
   go_wp2
   go_ret
   exact ⟨by rw [← he]; rfl, rfl⟩
 · have hb : ¬ (4 : Int) ≤ (s.size : Int) := by omega
   have he : (s.data.toList.take 4 == ([111, 112, 101, 110] : List UInt8)) = false := by
    rw [beq_eq_false_iff_ne]
    intro e
    have := congrArg List.length e
    rw [List.length_take] at this
    have h2 := slen s
    simp at this; omega
   have HE := Lib.hid he; clear he
   go_enter Tryz.func84, Tryz.ntmps84
   go_wp2
   go_ret
   exact ⟨by rw [HE.out]; rfl, rfl⟩
structure CutR (s : ByteArray) (w w' : World) (e : Ending) : Prop where
  out : ∃ r b, e = .returned (.tuple #[.string r, .bool b]) ∧ w' = w ∧ r.size ≤ s.size ∧ ((b = true ∧ s.data.toList.take 4 = [111, 112, 101, 110] ∧ r.data.toList = s.data.toList.drop 4) ∨ (b = false ∧ s.data.toList.take 4 ≠ [111, 112, 101, 110]))
set_option maxHeartbeats 1000000 in
theorem cutLite_any (s : ByteArray) (w : World) (hs : s.size ≤ 1073741824) : Calls Tryz.prog 56 #[.string s, .string ⟨#[111, 112, 101, 110]⟩] w fun e w' => CutR s w w' e := by
 cases hb : (s.data.toList.take 4 == [111, 112, 101, 110])
 · have hne : s.data.toList.take 4 ≠ [111, 112, 101, 110] := by simpa using hb
   have HB := Lib.hid hb; have HN := Lib.hid hne; clear hb hne
   go_enter Tryz.func56, Tryz.ntmps56
   go_wp2_with fail
   refine (hasOpen_any s _ hs).mono ?_; rintro e1 w1 ⟨rfl, rfl⟩; rw [HB.out]
   go_wp2_with fail
   go_ret2
   exact ⟨⟨_, _, rfl, rfl, Nat.le_refl _, .inr ⟨rfl, HN.out⟩⟩⟩
 · have heq : s.data.toList.take 4 = [111, 112, 101, 110] := by simpa using hb
   have h4 : 4 ≤ s.size := by
    have := congrArg List.length heq
    rw [List.length_take] at this
    have h2 := slen s
    simp at this; omega
   have hbi : (4 : Int) ≤ (s.size : Int) := by omega
   obtain ⟨t, ht⟩ : ∃ t : ByteArray, s.extract 4 s.size = t := ⟨_, rfl⟩
   have htl : t.data.toList = s.data.toList.drop 4 := by rw [← ht, Go.Lib.extract_to_end]
   have hts : t.size ≤ s.size := by rw [← ht]; simp
   have HB := Lib.hid hb; have HN := Lib.hid heq; have HT := Lib.hid htl; have HTS := Lib.hid hts; clear hb heq htl hts
   go_enter Tryz.func56, Tryz.ntmps56
   go_wp2_with fail
   refine (hasOpen_any s _ hs).mono ?_; rintro e1 w1 ⟨rfl, rfl⟩; rw [HB.out]
   go_wp2_with fail
   go_ret2
   exact ⟨⟨_, _, rfl, rfl, HTS.out, .inl ⟨rfl, HN.out, HT.out⟩⟩⟩
theorem cutOpen_any (s : ByteArray) (w : World) (hs : s.size ≤ 1073741824) : Calls Tryz.prog 20 #[.string s, .string ⟨#[111, 112, 101, 110]⟩] w fun e w' => CutR s w w' e := by
 go_enter Tryz.func20, Tryz.ntmps20
 go_wp2_with fail
 refine (cutLite_any s _ hs).mono ?_; rintro e1 w1 ⟨r, b, rfl, rfl, hr⟩
 have HR := Lib.hid hr; clear hr
 go_wp2_with fail
 go_ret2
 exact ⟨⟨_, _, rfl, rfl, HR.out⟩⟩
end Go.Proofs.YtlgjddgajdjllaaGreatDoor
