/- Elements read from their text. -/
import Derived.Test.YtlgjddgajdjllaaGreatDoorTParsesW
import Derived.Test.YtlgjddgajdjllaaGreatDoorTElemTx
set_option linter.unusedSimpArgs false
set_option linter.unusedVariables false
namespace Go.Proofs.YtlgjddgajdjllaaGreatDoor
open Go.RowKit
open Go.Lib
def peO (k p n : Int) (s : List UInt8) : Option (List Int) := ((sp 44 s).mapM parseI).bind fun x => if elemOk k p n x = true then some x else none
theorem peO_bad {k p n : Int} {s : List UInt8} (h : (sp 44 s).mapM parseI = none) : peO k p n s = none := by rw [peO, h]; rfl
theorem peO_no {k p n : Int} {s : List UInt8} {x : List Int} (h : (sp 44 s).mapM parseI = some x) (he : elemOk k p n x = false) : peO k p n s = none := by rw [peO, h, Option.bind_some, he]; rfl
theorem peO_yes {k p n : Int} {s : List UInt8} {x : List Int} (h : (sp 44 s).mapM parseI = some x) (he : elemOk k p n x = true) : peO k p n s = some x := by rw [peO, h, Option.bind_some, if_pos he]
def pev (k p n : Int) (s : List UInt8) : List Int := (peO k p n s).getD []
def peb (k p n : Int) (s : List UInt8) : Bool := (peO k p n s).isSome
theorem pev_none {k p n : Int} {s : List UInt8} (h : peO k p n s = none) : pev k p n s = [] := by rw [pev, h]; rfl
theorem peb_none {k p n : Int} {s : List UInt8} (h : peO k p n s = none) : peb k p n s = false := by rw [peb, h]; rfl
theorem pev_some {k p n : Int} {s : List UInt8} {x : List Int} (h : peO k p n s = some x) : pev k p n s = x := by rw [pev, h]; rfl
theorem peb_some {k p n : Int} {s : List UInt8} {x : List Int} (h : peO k p n s = some x) : peb k p n s = true := by rw [peb, h]; rfl
theorem elemOk_nil (k p n : Int) : elemOk k p n [] = false := by
  cases h : ringOk k p n
  · exact elemOk_no h
  · rw [elemOk_yes h]
    have := (ringOk_wide h).lo
    apply rawOk_nolen
    rw [beq_eq_false_iff_ne]
    simp; omega
theorem peO_ints (k p n : Int) (s : List UInt8) : (pib 44 s = false → peO k p n s = none) ∧ (pib 44 s = true → elemOk k p n (piv 44 s) = false → peO k p n s = none) ∧ (pib 44 s = true → elemOk k p n (piv 44 s) = true → peO k p n s = some (piv 44 s)) := by
  by_cases h : s = []
  · subst h
    have e : peO k p n [] = none := rfl
    have e1 : pib 44 [] = true := rfl
    have e2 : piv 44 [] = [] := rfl
    rw [e, e1, e2]
    refine ⟨fun h => (by cases h), fun _ _ => rfl, fun _ h => ?_⟩
    rw [elemOk_nil] at h; cases h
  · have e := intsBy_ne (c := 44) h
    cases hm : (sp 44 s).mapM parseI with
    | none =>
      rw [hm] at e
      rw [peO_bad hm, pib_none e]
      exact ⟨fun _ => rfl, fun _ _ => rfl, fun h => (by cases h)⟩
    | some x =>
      rw [hm] at e
      rw [pib_some e, piv_some e]
      exact ⟨fun h => (by cases h), fun _ h => peO_no hm h, fun _ h => peO_yes hm h⟩
theorem parseElem_impl (k p n : Int) (s : ByteArray) (w : World) (hs : s.size ≤ 1073741824) (hT : AllV w) : Calls Tryz.prog 58 #[ringV k p n, .string s] w fun e w' => ParR w w' e (pev k p n s.data.toList) (peb k p n s.data.toList) := by
 obtain ⟨q1, q2, q3⟩ := peO_ints k p n s.data.toList
 obtain ⟨x, hx⟩ : ∃ x, piv 44 s.data.toList = x := ⟨_, rfl⟩
 obtain ⟨b, hb⟩ : ∃ b, pib 44 s.data.toList = b := ⟨_, rfl⟩
 have A : ∀ w, AllV w → Calls Tryz.prog 57 #[.string s, .string ⟨#[44]⟩] w fun e w' => ParR w w' e x b := fun w h => hx ▸ hb ▸ parseIntList_any s 44 w hs h
 rw [hx, hb] at q2 q3
 rw [hb] at q1
 have HA := Lib.hid A
 clear A hx hb
 cases hbb : b
 · have hin := q1 hbb
   have hin1 := Lib.hid (pev_none hin); have hin2 := Lib.hid (peb_none hin)
   subst hbb
   clear q1 q2 q3 hin
   go_enter Tryz.func58, Tryz.ntmps58
   go_wp2_with fail
   refine (HA.out _ (hT.ext (by repeat' (first | (with_reducible first | exact Ext.refl _ | assumption | apply Ext.alloc | apply Ext.drew | apply Ext.drewN) | (refine Ext.setAt ?_ (by omega) _ _) | (refine Ext.trans ?_ (by assumption)))))).mono ?_; rintro e1 w1 ⟨v1, rfl, o1, h1⟩
   go_wp2
   go_ret2
   exact ⟨⟨_, by rw [hin2.out]; rfl, by rw [hin1.out]; exact OwnI.nil _ _, (by repeat' (first | (with_reducible first | exact Ext.refl _ | assumption | apply Ext.alloc | apply Ext.drew | apply Ext.drewN) | (refine Ext.setAt ?_ (by omega) _ _) | (refine Ext.trans ?_ (by assumption))))⟩⟩
 · cases he : elemOk k p n x
   · have hin := q2 hbb he
     have hin1 := Lib.hid (pev_none hin); have hin2 := Lib.hid (peb_none hin)
     subst hbb
     clear q1 q2 q3 hin
     go_enter Tryz.func58, Tryz.ntmps58
     go_wp2_with fail
     refine (HA.out _ (hT.ext (by repeat' (first | (with_reducible first | exact Ext.refl _ | assumption | apply Ext.alloc | apply Ext.drew | apply Ext.drewN) | (refine Ext.setAt ?_ (by omega) _ _) | (refine Ext.trans ?_ (by assumption)))))).mono ?_; rintro e1 w1 ⟨v1, rfl, o1, h1⟩; have s1 := h1.size; (try simp at s1); have t1_0 : w.heap.size < w1.heap.size := (by omega); have c1_0 := fun o => h1.cells (w.heap.size) o (by first | (simp; done) | (simp; omega) | omega)
     go_wp2_with fail
     refine (elemOk_impl _ _ _ _ x _ o1.ints).mono ?_; rintro e2 w2 ⟨rfl, h2⟩; rw [he]
     go_wp2
     go_ret2
     exact ⟨⟨_, by rw [hin2.out]; rfl, by rw [hin1.out]; exact OwnI.nil _ _, (by repeat' (first | (with_reducible first | exact Ext.refl _ | assumption | apply Ext.alloc | apply Ext.drew | apply Ext.drewN) | (refine Ext.setAt ?_ (by omega) _ _) | (refine Ext.trans ?_ (by assumption))))⟩⟩
   · have hin := q3 hbb he
     have hin1 := Lib.hid (pev_some hin); have hin2 := Lib.hid (peb_some hin)
     subst hbb
     clear q1 q2 q3 hin
     go_enter Tryz.func58, Tryz.ntmps58
     go_wp2_with fail
     refine (HA.out _ (hT.ext (by repeat' (first | (with_reducible first | exact Ext.refl _ | assumption | apply Ext.alloc | apply Ext.drew | apply Ext.drewN) | (refine Ext.setAt ?_ (by omega) _ _) | (refine Ext.trans ?_ (by assumption)))))).mono ?_; rintro e1 w1 ⟨v1, rfl, o1, h1⟩; have s1 := h1.size; (try simp at s1); have t1_0 : w.heap.size < w1.heap.size := (by omega); have c1_0 := fun o => h1.cells (w.heap.size) o (by first | (simp; done) | (simp; omega) | omega)
     go_wp2_with fail
     refine (elemOk_impl _ _ _ _ x _ o1.ints).mono ?_; rintro e2 w2 ⟨rfl, h2⟩; rw [he]
     go_wp2
     go_ret2
     exact ⟨⟨_, by rw [hin2.out]; rfl, by rw [hin1.out]; exact (o1.ext h2).mono (by first | (simp [World.setCell]; done) | (simp [World.setCell]; omega) | omega), (by repeat' (first | (with_reducible first | exact Ext.refl _ | assumption | apply Ext.alloc | apply Ext.drew | apply Ext.drewN) | (refine Ext.setAt ?_ (by omega) _ _) | (refine Ext.trans ?_ (by assumption))))⟩⟩
theorem pe_len {k p n : Int} {s : List UInt8} : (pev k p n s).length ≤ 6 := by
  unfold pev peO
  cases (sp 44 s).mapM parseI with
  | none => simp
  | some x =>
    rw [Option.bind_some]
    split
    · rename_i h
      exact (elemOk_i64 h).2
    · simp
end Go.Proofs.YtlgjddgajdjllaaGreatDoor
