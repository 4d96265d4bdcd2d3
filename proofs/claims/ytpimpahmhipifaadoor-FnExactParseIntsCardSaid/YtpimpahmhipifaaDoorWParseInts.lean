/- The law 'FnExactParseInts', walked. -/
import Derived.Test.YtpimpahmhipifaaDoorParsesW
namespace Go.Proofs.YtpimpahmhipifaaDoor
open Go.RowKit
set_option linter.unusedSimpArgs false
set_option linter.unusedVariables false
open Go.Lib

theorem pi_len {c : UInt8} {s : List UInt8} : (piv c s).length ≤ s.length + 1 := by
  unfold piv
  cases h : intsBy c s with
  | none => simp
  | some x =>
    rw [intsBy] at h
    split at h
    · injection h with h; subst h; simp
    · have := mapM_len _ h
      have e := sp_length c s
      have := List.count_le_length (a := c) (l := s)
      simp; omega
set_option maxHeartbeats 1000000 in
theorem walkFnExactParseInts (s : ByteArray) (w : World) (hT : AllV w) (hs : s.size ≤ maxLen) :
    Calls Tryd.prog 10 #[.string s] w fun e w' => e = .returned (.bool true) ∧ Ext w w' := by
  have hs' : s.size ≤ 9223372036854775807 := hs
  clear hs
  by_cases hbig : 1048576 < s.size
  · go_enter Tryd.func10, Tryd.ntmps10
    go_wp2
    go_ret
    exact ⟨rfl, (by repeat' (first | (with_reducible exact Ext.refl _) | (with_reducible assumption) | (with_reducible apply Ext.alloc) | (with_reducible apply Ext.drew) | (with_reducible apply Ext.drewN) | (refine Ext.setAt ?_ (by omega) _ _) | (refine Ext.trans ?_ (by assumption))))⟩
  · have hsz : s.size ≤ 1048576 := by omega
    have hwl := pi_len (c := 32) (s := s.data.toList)
    rw [slen] at hwl
    obtain ⟨L, hL⟩ : ∃ L, piv 32 s.data.toList = L := ⟨_, rfl⟩
    obtain ⟨b, hb⟩ : ∃ b, pib 32 s.data.toList = b := ⟨_, rfl⟩
    rw [hL] at hwl
    have A : ∀ w, Calls Tryd.prog 34 #[.string s] w fun e w' => ParR w w' e L b := fun w => hL ▸ hb ▸ parseInts_spec s w (by omega)
    have B : ∀ w, AllV w → Calls Tryd.prog 35 #[.string s] w fun e w' => ParR w w' e L b := fun w hM => hL ▸ hb ▸ parseInts_impl s w (by omega) hM
    have hkk : ∀ b : Bool, (b != b) = false := by decide
    have hok := hkk b
    have hq : (L == L) = true := by simp
    clear hL hb hkk
    go_enter Tryd.func10, Tryd.ntmps10
    go_wp2_with fail
    refine (A _).mono ?_; rintro e1 w1 ⟨v1, rfl, o1, h1⟩; go_wp2_with fail
    refine (B _ (hT.ext (by repeat' (first | (with_reducible exact Ext.refl _) | (with_reducible assumption) | (with_reducible apply Ext.alloc) | (with_reducible apply Ext.drew) | (with_reducible apply Ext.drewN) | (refine Ext.setAt ?_ (by omega) _ _) | (refine Ext.trans ?_ (by assumption)))))).mono ?_; rintro e2 w2 ⟨v2, rfl, o2, h2⟩; go_wp2_with fail
    refine (eqIntS_any _ _ L L _ o2.ints (o1.ints.ext (by repeat' (first | (with_reducible exact Ext.refl _) | (with_reducible assumption) | (with_reducible apply Ext.alloc) | (with_reducible apply Ext.drew) | (with_reducible apply Ext.drewN) | (refine Ext.setAt ?_ (by omega) _ _) | (refine Ext.trans ?_ (by assumption)))))).mono ?_; rintro e3 w3 ⟨rfl, h3⟩; go_wp2_with fail
    have o2b := o2.ext h3
    refine (markIntS_any w1.heap.size v2 _ 1 _ o2b (by omega) (by omega)).mono ?_; rintro e4 w4 ⟨rfl, o4, b4⟩; have h4 : Ext w1 w4 := (h2.trans h3).mark o2b b4; go_wp2_with fail
    refine (heldIntS_any v2 L.length 1 _ o4.ints (by omega) (by omega)).mono ?_; rintro e5 w5 ⟨rfl, h5⟩; go_wp2_with fail
    refine (B _ (hT.ext (by repeat' (first | (with_reducible exact Ext.refl _) | (with_reducible assumption) | (with_reducible apply Ext.alloc) | (with_reducible apply Ext.drew) | (with_reducible apply Ext.drewN) | (refine Ext.setAt ?_ (by omega) _ _) | (refine Ext.trans ?_ (by assumption)))))).mono ?_; rintro e6 w6 ⟨v6, rfl, o6, h6⟩; go_wp2_with fail
    refine (eqIntS_any _ _ L L _ o6.ints (o1.ints.ext (by repeat' (first | (with_reducible exact Ext.refl _) | (with_reducible assumption) | (with_reducible apply Ext.alloc) | (with_reducible apply Ext.drew) | (with_reducible apply Ext.drewN) | (refine Ext.setAt ?_ (by omega) _ _) | (refine Ext.trans ?_ (by assumption)))))).mono ?_; rintro e7 w7 ⟨rfl, h7⟩; go_wp2_with fail
    refine (heldIntS_any v2 L.length 1 _ (o4.ints.ext (by repeat' (first | (with_reducible exact Ext.refl _) | (with_reducible assumption) | (with_reducible apply Ext.alloc) | (with_reducible apply Ext.drew) | (with_reducible apply Ext.drewN) | (refine Ext.setAt ?_ (by omega) _ _) | (refine Ext.trans ?_ (by assumption))))) (by omega) (by omega)).mono ?_; rintro e8 w8 ⟨rfl, h8⟩; go_wp2_with fail
    go_ret
    exact ⟨rfl, (by repeat' (first | (with_reducible exact Ext.refl _) | (with_reducible assumption) | (with_reducible apply Ext.alloc) | (with_reducible apply Ext.drew) | (with_reducible apply Ext.drewN) | (refine Ext.setAt ?_ (by omega) _ _) | (refine Ext.trans ?_ (by assumption))))⟩
end Go.Proofs.YtpimpahmhipifaaDoor
