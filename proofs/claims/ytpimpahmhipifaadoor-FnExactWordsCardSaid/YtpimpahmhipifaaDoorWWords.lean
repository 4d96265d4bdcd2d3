/- The laws 'FnExactWords' and 'FnExactSplitLines', walked. -/
import Derived.Test.YtpimpahmhipifaaDoorSplitW
namespace Go.Proofs.YtpimpahmhipifaaDoor
open Go.RowKit
set_option linter.unusedSimpArgs false
set_option linter.unusedVariables false

theorem OwnStr.only {w w' : World} {B : Nat} {b : Option Nat} {v : Value} {l : List ByteArray} (h : OwnStr w B v l) (e : w.grownBy w' b) (hne : ∀ k, v.ownBlock = some k → b ≠ some k) : OwnStr w' B v l := by
  rcases h.own with h | ⟨k, rest, h1, rfl, h3, h4⟩
  · exact ⟨.inl h⟩
  · exact ⟨.inr ⟨k, rest, h1, rfl, h3.block (e.block k h3.lt (fun e => hne k rfl e.symm)), h4⟩⟩
theorem Ext.markStr {w0 w w' : World} {v : Value} {l : List ByteArray} (h : Ext w0 w) (o : OwnStr w w0.heap.size v l) (e : w.grownBy w' v.ownBlock) : Ext w0 w' :=
  h.only e fun k hk => (o.block_lt hk).1

set_option maxHeartbeats 1000000 in
theorem walkFnExactWords (s : ByteArray) (w : World) (hT : Maxl w) (hs : s.size ≤ maxLen) :
    Calls Tryd.prog 5 #[.string s] w fun e w' => e = .returned (.bool true) ∧ Ext w w' := by
  have hs' : s.size ≤ 9223372036854775807 := hs
  clear hs
  by_cases hbig : 1048576 < s.size
  · go_enter Tryd.func5, Tryd.ntmps5
    go_wp2
    go_ret
    exact ⟨rfl, (by repeat' (first | (with_reducible exact Ext.refl _) | (with_reducible assumption) | (with_reducible apply Ext.alloc) | (with_reducible apply Ext.drew) | (with_reducible apply Ext.drewN) | (refine Ext.setAt ?_ (by omega) _ _) | (refine Ext.trans ?_ (by assumption))))⟩
  · have hsz : s.size ≤ 1048576 := by omega
    have hwl := words_le s.data.toList
    rw [slen] at hwl
    obtain ⟨L, hL⟩ : ∃ L, wordsL s.data.toList = L := ⟨_, rfl⟩
    rw [hL] at hwl
    have hml := mkSs_length L
    have A : ∀ w, Calls Tryd.prog 21 #[.string s] w fun e w' => ∃ v, e = .returned v ∧ OwnStr w' w.heap.size v (mkSs L) ∧ Ext w w' := fun w => hL ▸ words_spec s w (by omega)
    have B : ∀ w, Maxl w → Calls Tryd.prog 22 #[.string s] w fun e w' => ∃ v, e = .returned v ∧ OwnStr w' w.heap.size v (mkSs L) ∧ Ext w w' := fun w hM => hL ▸ words_impl s w (by omega) hM
    clear hL
    go_enter Tryd.func5, Tryd.ntmps5
    go_wp2_with fail
    refine (A _).mono ?_; rintro e1 w1 ⟨v1, rfl, o1, h1⟩; go_wp2_with fail
    refine (B _ (hT.ext (by repeat' (first | (with_reducible exact Ext.refl _) | (with_reducible assumption) | (with_reducible apply Ext.alloc) | (with_reducible apply Ext.drew) | (with_reducible apply Ext.drewN) | (refine Ext.setAt ?_ (by omega) _ _) | (refine Ext.trans ?_ (by assumption)))))).mono ?_; rintro e2 w2 ⟨v2, rfl, o2, h2⟩; go_wp2_with fail
    refine (eqStringS_same _ _ (mkSs L) _ o2.strs (o1.strs.ext (by repeat' (first | (with_reducible exact Ext.refl _) | (with_reducible assumption) | (with_reducible apply Ext.alloc) | (with_reducible apply Ext.drew) | (with_reducible apply Ext.drewN) | (refine Ext.setAt ?_ (by omega) _ _) | (refine Ext.trans ?_ (by assumption)))))).mono ?_; rintro e3 w3 ⟨rfl, h3⟩; go_wp2_with fail
    have o2b := o2.ext h3
    refine (markStringS_any w1.heap.size v2 _ 1 _ o2b (by omega)).mono ?_; rintro e4 w4 ⟨rfl, o4, b4⟩; have h4 : Ext w1 w4 := (h2.trans h3).markStr o2b b4; rw [hml] at o4; go_wp2_with fail
    refine (heldStringS_any v2 L.length 1 _ o4.strs (by omega)).mono ?_; rintro e5 w5 ⟨rfl, h5⟩; go_wp2_with fail
    refine (B _ (hT.ext (by repeat' (first | (with_reducible exact Ext.refl _) | (with_reducible assumption) | (with_reducible apply Ext.alloc) | (with_reducible apply Ext.drew) | (with_reducible apply Ext.drewN) | (refine Ext.setAt ?_ (by omega) _ _) | (refine Ext.trans ?_ (by assumption)))))).mono ?_; rintro e6 w6 ⟨v6, rfl, o6, h6⟩; go_wp2_with fail
    refine (eqStringS_same _ _ (mkSs L) _ o6.strs (o1.strs.ext (by repeat' (first | (with_reducible exact Ext.refl _) | (with_reducible assumption) | (with_reducible apply Ext.alloc) | (with_reducible apply Ext.drew) | (with_reducible apply Ext.drewN) | (refine Ext.setAt ?_ (by omega) _ _) | (refine Ext.trans ?_ (by assumption)))))).mono ?_; rintro e7 w7 ⟨rfl, h7⟩; go_wp2_with fail
    refine (heldStringS_any v2 L.length 1 _ (o4.strs.ext (by repeat' (first | (with_reducible exact Ext.refl _) | (with_reducible assumption) | (with_reducible apply Ext.alloc) | (with_reducible apply Ext.drew) | (with_reducible apply Ext.drewN) | (refine Ext.setAt ?_ (by omega) _ _) | (refine Ext.trans ?_ (by assumption))))) (by omega)).mono ?_; rintro e8 w8 ⟨rfl, h8⟩; go_wp2_with fail
    go_ret
    exact ⟨rfl, (by repeat' (first | (with_reducible exact Ext.refl _) | (with_reducible assumption) | (with_reducible apply Ext.alloc) | (with_reducible apply Ext.drew) | (with_reducible apply Ext.drewN) | (refine Ext.setAt ?_ (by omega) _ _) | (refine Ext.trans ?_ (by assumption))))⟩
set_option maxHeartbeats 1000000 in
theorem walkFnExactSplitLines (s : ByteArray) (w : World) (hT : Maxl w) (hs : s.size ≤ maxLen) :
    Calls Tryd.prog 4 #[.string s] w fun e w' => e = .returned (.bool true) ∧ Ext w w' := by
  have hs' : s.size ≤ 9223372036854775807 := hs
  clear hs
  by_cases hbig : 1048576 < s.size
  · go_enter Tryd.func4, Tryd.ntmps4
    go_wp2
    go_ret
    exact ⟨rfl, (by repeat' (first | (with_reducible exact Ext.refl _) | (with_reducible assumption) | (with_reducible apply Ext.alloc) | (with_reducible apply Ext.drew) | (with_reducible apply Ext.drewN) | (refine Ext.setAt ?_ (by omega) _ _) | (refine Ext.trans ?_ (by assumption))))⟩
  · have hsz : s.size ≤ 1048576 := by omega
    have hwl := lines_le s.data.toList
    rw [slen] at hwl
    obtain ⟨L, hL⟩ : ∃ L, linesL s.data.toList = L := ⟨_, rfl⟩
    rw [hL] at hwl
    have hml := mkSs_length L
    have A : ∀ w, Calls Tryd.prog 16 #[.string s] w fun e w' => ∃ v, e = .returned v ∧ OwnStr w' w.heap.size v (mkSs L) ∧ Ext w w' := fun w => hL ▸ lines_spec s w (by omega)
    have B : ∀ w, Maxl w → Calls Tryd.prog 17 #[.string s] w fun e w' => ∃ v, e = .returned v ∧ OwnStr w' w.heap.size v (mkSs L) ∧ Ext w w' := fun w hM => hL ▸ lines_impl s w (by omega) hM
    clear hL
    go_enter Tryd.func4, Tryd.ntmps4
    go_wp2_with fail
    refine (A _).mono ?_; rintro e1 w1 ⟨v1, rfl, o1, h1⟩; go_wp2_with fail
    refine (B _ (hT.ext (by repeat' (first | (with_reducible exact Ext.refl _) | (with_reducible assumption) | (with_reducible apply Ext.alloc) | (with_reducible apply Ext.drew) | (with_reducible apply Ext.drewN) | (refine Ext.setAt ?_ (by omega) _ _) | (refine Ext.trans ?_ (by assumption)))))).mono ?_; rintro e2 w2 ⟨v2, rfl, o2, h2⟩; go_wp2_with fail
    refine (eqStringS_same _ _ (mkSs L) _ o2.strs (o1.strs.ext (by repeat' (first | (with_reducible exact Ext.refl _) | (with_reducible assumption) | (with_reducible apply Ext.alloc) | (with_reducible apply Ext.drew) | (with_reducible apply Ext.drewN) | (refine Ext.setAt ?_ (by omega) _ _) | (refine Ext.trans ?_ (by assumption)))))).mono ?_; rintro e3 w3 ⟨rfl, h3⟩; go_wp2_with fail
    have o2b := o2.ext h3
    refine (markStringS_any w1.heap.size v2 _ 1 _ o2b (by omega)).mono ?_; rintro e4 w4 ⟨rfl, o4, b4⟩; have h4 : Ext w1 w4 := (h2.trans h3).markStr o2b b4; rw [hml] at o4; go_wp2_with fail
    refine (heldStringS_any v2 L.length 1 _ o4.strs (by omega)).mono ?_; rintro e5 w5 ⟨rfl, h5⟩; go_wp2_with fail
    refine (B _ (hT.ext (by repeat' (first | (with_reducible exact Ext.refl _) | (with_reducible assumption) | (with_reducible apply Ext.alloc) | (with_reducible apply Ext.drew) | (with_reducible apply Ext.drewN) | (refine Ext.setAt ?_ (by omega) _ _) | (refine Ext.trans ?_ (by assumption)))))).mono ?_; rintro e6 w6 ⟨v6, rfl, o6, h6⟩; go_wp2_with fail
    refine (eqStringS_same _ _ (mkSs L) _ o6.strs (o1.strs.ext (by repeat' (first | (with_reducible exact Ext.refl _) | (with_reducible assumption) | (with_reducible apply Ext.alloc) | (with_reducible apply Ext.drew) | (with_reducible apply Ext.drewN) | (refine Ext.setAt ?_ (by omega) _ _) | (refine Ext.trans ?_ (by assumption)))))).mono ?_; rintro e7 w7 ⟨rfl, h7⟩; go_wp2_with fail
    refine (heldStringS_any v2 L.length 1 _ (o4.strs.ext (by repeat' (first | (with_reducible exact Ext.refl _) | (with_reducible assumption) | (with_reducible apply Ext.alloc) | (with_reducible apply Ext.drew) | (with_reducible apply Ext.drewN) | (refine Ext.setAt ?_ (by omega) _ _) | (refine Ext.trans ?_ (by assumption))))) (by omega)).mono ?_; rintro e8 w8 ⟨rfl, h8⟩; go_wp2_with fail
    go_ret
    exact ⟨rfl, (by repeat' (first | (with_reducible exact Ext.refl _) | (with_reducible assumption) | (with_reducible apply Ext.alloc) | (with_reducible apply Ext.drew) | (with_reducible apply Ext.drewN) | (refine Ext.setAt ?_ (by omega) _ _) | (refine Ext.trans ?_ (by assumption))))⟩
end Go.Proofs.YtpimpahmhipifaaDoor
