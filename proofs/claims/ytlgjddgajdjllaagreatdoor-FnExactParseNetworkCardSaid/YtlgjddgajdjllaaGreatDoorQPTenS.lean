/- ParseTensor of the reference. -/
import Derived.Test.YtlgjddgajdjllaaGreatDoorQTenTxS
import Derived.Test.YtlgjddgajdjllaaGreatDoorQPTenW
set_option linter.unusedSimpArgs false
set_option linter.unusedVariables false
namespace Go.Proofs.YtlgjddgajdjllaaGreatDoor
open Go.RowKit
open Go.Lib
structure AxR (x : List UInt8) (n d : Int) (b : Bool) : Prop where
  out : (b = true ∧ intsBy 58 x = some [n, d]) ∨ (b = false ∧ ∀ a c, intsBy 58 x ≠ some [a, c])
theorem ax_none {x : List UInt8} (h : (58 : UInt8) ∉ x) : AxR x 0 0 false := by
  refine ⟨.inr ⟨rfl, fun a c e => ?_⟩⟩
  by_cases h0 : x = []
  · subst h0; simp [intsBy] at e
  · rw [intsBy_ne h0, sp_none h] at e
    have := mapM_len _ e
    simp at this
theorem ax_at {p q : List UInt8} (h : (58 : UInt8) ∉ p) : AxR (p ++ 58 :: q) (pv p) (pv q) (pb p && pb q) := by
  have e := intsBy_ne (c := 58) (s := p ++ 58 :: q) (by simp)
  rw [sp_at h] at e
  cases hp : parseI p with
  | none =>
    refine ⟨.inr ⟨by rw [pib_none' hp]; rfl, fun a c h2 => ?_⟩⟩
    rw [e, mapM_none _ (List.mem_cons_self ..) hp] at h2; cases h2
  | some a =>
    obtain ⟨p1, p2⟩ := pib_some' hp
    cases hq : parseI q with
    | none =>
      refine ⟨.inr ⟨by rw [p2, pib_none' hq]; rfl, fun a' c h2 => ?_⟩⟩
      rw [e] at h2
      obtain ⟨h3, h4⟩ := mapM_parse h2
      simp only [List.map_cons, List.map_nil, List.cons.injEq] at h3
      have h5 := congrArg List.length h3.2
      rw [sp_length] at h5
      simp at h5
      have h6 := h3.2
      rw [sp_none (List.count_eq_zero.1 h5)] at h6
      simp at h6
      rw [h6, parseI_itoa (h4 c (by simp))] at hq; cases hq
    | some c =>
      obtain ⟨q1, q2⟩ := pib_some' hq
      refine ⟨.inl ⟨by rw [p2, q2]; rfl, ?_⟩⟩
      obtain ⟨h5, h6⟩ := parseI_some hq
      have : (58 : UInt8) ∉ q := by rw [h5]; exact itoa_clean (by decide) (by decide) c
      rw [e, sp_none this, p1, q1, List.mapM_cons, hp, List.mapM_cons, hq]; rfl
set_option maxHeartbeats 2000000 in
theorem l11Axis_any (s : ByteArray) (w : World) (hs : s.size ≤ 1073741824) : Calls Tryz.prog 73 #[.string s] w fun e w' => ∃ n d b, e = .returned (.tuple #[.int .i64 n, .int .i64 d, .bool b]) ∧ AxR s.data.toList n d b ∧ Ext w w' := by
  have hsl := slen s
  have HSL := Lib.hid hsl; clear hsl
  go_enter Tryz.func73, Tryz.ntmps73
  go_wp2_with fail
  go_loopw [5] (fun i wr => ∃ j : Nat, j ≤ s.size ∧ i = .int .i64 j ∧ Hid ((58 : UInt8) ∉ s.data.toList.take j) ∧ wr = w) (fun i _ => s.size - (RowKit.intOf i).toNat)
  case atStart => exact ⟨0, Nat.zero_le _, rfl, Lib.hid (by simp), rfl⟩
  case round =>
    obtain ⟨j, hj, rfl, HN, rfl⟩ := hrel
    by_cases hlt : j < s.size
    · have hg := byte_get hlt
      by_cases hc : s[j] = 58
      · have hAx : AxR s.data.toList (pv ((s.data.toList.take j).drop 0)) (pv ((s.data.toList.take s.size).drop (j + 1))) (pb ((s.data.toList.take j).drop 0) && pb ((s.data.toList.take s.size).drop (j + 1))) := by
          have e : s.data.toList = s.data.toList.take j ++ 58 :: s.data.toList.drop (j + 1) := by
            rw [hc] at hg
            obtain ⟨h1, h2⟩ := List.getElem?_eq_some_iff.1 hg
            conv => lhs; rw [← List.take_append_drop j s.data.toList, List.drop_eq_getElem_cons h1, h2]
          have h1 := ax_at (q := s.data.toList.drop (j + 1)) HN.out
          rw [← e] at h1
          rw [List.drop_zero, ← HSL.out, List.take_length]
          exact h1
        have hz1 := size_ext s 0 j (by omega)
        have hz2 := size_ext s (j + 1) s.size (Nat.le_refl _)
        have P1 := fun w => parseInt_spec (s.extract 0 j) (by omega) w
        have P2 := fun w => parseInt_spec (s.extract (j + 1) s.size) (by omega) w
        simp only [ext_list] at P1 P2
        obtain ⟨z1, e1⟩ : ∃ z, s.extract 0 j = z := ⟨_, rfl⟩
        obtain ⟨z2, e2⟩ : ∃ z, s.extract (j + 1) s.size = z := ⟨_, rfl⟩
        obtain ⟨x1, f1⟩ : ∃ z, (s.data.toList.take j).drop 0 = z := ⟨_, rfl⟩
        obtain ⟨x2, f2⟩ : ∃ z, (s.data.toList.take s.size).drop (j + 1) = z := ⟨_, rfl⟩
        rw [f1] at P1 hAx; rw [f2] at P2 hAx
        rw [e1] at P1 hz1; rw [e2] at P2 hz2
        have H1 := Lib.hid P1; have H2 := Lib.hid P2; have HAX := Lib.hid hAx
        have HE1 := Lib.hid e1; have HE2 := Lib.hid e2
        clear P1 P2 hAx f1 f2 hg
        go_wp2_with fail
        refine (H1.out _).mono ?_; rintro e3 w3 ⟨rfl, h3⟩
        go_wp2_with fail
        refine (H2.out _).mono ?_; rintro e4 w4 ⟨rfl, h4⟩
        obtain ⟨b1, hb1⟩ : ∃ b, pb x1 = b := ⟨_, rfl⟩
        obtain ⟨b2, hb2⟩ : ∃ b, pb x2 = b := ⟨_, rfl⟩
        have hax := HAX.out
        rw [hb1, hb2] at hax
        rw [hb1, hb2]
        have HAX2 := Lib.hid hax
        clear hb1 hb2 hax
        cases b1
        · go_wp2
          go_ret3
          exact ⟨_, _, _, rfl, HAX2.out, h3.trans h4⟩
        · go_wp2
          go_ret3
          exact ⟨_, _, _, rfl, HAX2.out, h3.trans h4⟩
      · have hcn := u8ne (n := 58) (by omega) hc
        simp only [Int.cast_ofNat_Int] at hcn
        have HN2 : Hid ((58 : UInt8) ∉ s.data.toList.take (j + 1)) := Lib.hid (by
          obtain ⟨h1, h2⟩ := List.getElem?_eq_some_iff.1 hg
          rw [List.take_succ_eq_append_getElem h1, h2, List.mem_append, List.mem_singleton]
          rintro (h | h)
          · exact HN.out h
          · exact hc h.symm)
        clear hg hc
        go_wp2
        go_roundw
        case rel => exact ⟨j + 1, by omega, by go_num, HN2, by trivial⟩
        case measure => simp [RowKit.intOf]; omega
    · have : j = s.size := by omega
      subst this
      have HAX : Hid (AxR s.data.toList 0 0 false) := Lib.hid (ax_none (by have := HN.out; rwa [← HSL.out, List.take_length] at this))
      go_wp2
      go_ret3
      exact ⟨0, 0, false, rfl, HAX.out, (by repeat' (first | (with_reducible first | exact Ext.refl _ | assumption | apply Ext.alloc | apply Ext.drew | apply Ext.drewN) | (refine Ext.setAt ?_ (by omega) _ _) | (refine Ext.trans ?_ (by assumption))))⟩
theorem OwnStr.keep {w w' : World} {B : Nat} {v : Value} {l : List ByteArray} (h : OwnStr w B v l) (e : ∀ k, v.ownBlock = some k → w'.heap[k]? = w.heap[k]?) : OwnStr w' B v l := by
  rcases h.own with h | ⟨b, rest, h1, rfl, h3, h4⟩
  · exact ⟨.inl h⟩
  · exact ⟨.inr ⟨b, rest, h1, rfl, h3.block (e b rfl), h4⟩⟩
theorem tensOk_bare {k p n : Int} (L D : List Int) : tensOk k p n L D [] = false := by
  cases h : tensOk k p n L D []
  · rfl
  · obtain ⟨P, W, _, _, h1, _, h2, _, h3⟩ := ((tensOk_iff (tensOk_ring h)).1 h).nat (tensOk_ring h)
    have : 1 * 1 ≤ P * W := Nat.mul_le_mul h1 h2
    simp at h3; omega
inductive WdSt (k p n : Int) (ws : List (List UInt8)) (L D X : List Int) : Bool → List (List UInt8) → Prop
  | axes {rest : List (List UInt8)} (h : AxSt ws L D rest) (hX : X = []) : WdSt k p n ws L D X false rest
  | data {rest : List (List UInt8)} (ts done : List (List UInt8)) (xs : List (List Int)) (h : axP ws = some (L, D, ts)) (e : ts = done ++ rest) (hm : done.mapM (peO k p n) = some xs) (hX : xs.flatten = X) : WdSt k p n ws L D X true rest
theorem WdSt.eq {k p n : Int} {ws rest : List (List UInt8)} {L D X : List Int} (h : WdSt k p n ws L D X false ([61] :: rest)) : WdSt k p n ws L D X true rest := by
  cases h with
  | axes h hX => exact .data rest [] [] h.fin rfl rfl (by rw [hX]; rfl)
theorem WdSt.pair {k p n : Int} {ws rest : List (List UInt8)} {L D X : List Int} {x : List UInt8} {a b : Int} (h : WdSt k p n ws L D X false (x :: rest)) (hx : x ≠ [61]) (hi : intsBy 58 x = some [a, b]) : WdSt k p n ws (L ++ [a]) (D ++ [b]) X false rest := by
  cases h with
  | axes h hX => exact .axes (h.step hx hi) hX
theorem WdSt.elem {k p n : Int} {ws rest : List (List UInt8)} {L D X : List Int} {x : List UInt8} {y : List Int} (h : WdSt k p n ws L D X true (x :: rest)) (hy : peO k p n x = some y) : WdSt k p n ws L D (X ++ y) true rest := by
  cases h with
  | data ts done xs h e hm hX => exact .data ts (done ++ [x]) (xs ++ [y]) h (by rw [e, List.append_assoc]; rfl) (mapM_snoc _ hm hy) (by rw [List.flatten_append, hX]; simp)
theorem WdSt.noPair {k p n : Int} {ws rest : List (List UInt8)} {L D X : List Int} {x : List UInt8} (h : WdSt k p n ws L D X false (x :: rest)) (hx : x ≠ [61]) (hi : ∀ a c, intsBy 58 x ≠ some [a, c]) : pT k p n ws = none := by
  cases h with
  | axes h hX =>
    refine pT_none (h.none ?_)
    cases e : intsBy 58 x with
    | none => exact axP_bad hx e
    | some xs =>
      refine axP_len hx e fun hl => ?_
      match xs, hl with
      | [a, c], _ => exact hi a c e
theorem WdSt.noElem {k p n : Int} {ws rest : List (List UInt8)} {L D X : List Int} {x : List UInt8} (h : WdSt k p n ws L D X true (x :: rest)) (hy : peO k p n x = none) : pT k p n ws = none := by
  cases h with
  | data ts done xs h e hm hX => exact pT_bad h (mapM_none _ (x := x) (by rw [e]; simp) hy)
theorem WdSt.fin {k p n : Int} {ws : List (List UInt8)} {L D X : List Int} (h : WdSt k p n ws L D X true []) : pT k p n ws = some (L, D, X) := by
  cases h with
  | data ts done xs h e hm hX =>
    rw [List.append_nil] at e; subst e
    rw [pT_some h hm, hX]
theorem WdSt.bare {k p n : Int} {ws : List (List UInt8)} {L D X : List Int} (h : WdSt k p n ws L D X false []) : pT k p n ws = none ∧ X = [] := by
  cases h with
  | axes h hX => exact ⟨pT_none (h.none rfl), hX⟩
structure Three (w : World) (B t : Nat) (vL vD vX : Value) (L D X : List Int) : Prop where
  own1 : OwnI w B vL L
  own2 : OwnI w B vD D
  own3 : OwnI w B vX X
  ap12 : ∀ z, vL.ownBlock = some z → vD.ownBlock ≠ some z
  ap13 : ∀ z, vL.ownBlock = some z → vX.ownBlock ≠ some z
  ap23 : ∀ z, vD.ownBlock = some z → vX.ownBlock ≠ some z
  box : Blk w t 52 [vL, vD, vX]
  low : t < B
theorem Three.ext {w w' : World} {B t : Nat} {vL vD vX : Value} {L D X : List Int} (h : Three w B t vL vD vX L D X) (e : Ext w w') : Three w' B t vL vD vX L D X :=
  ⟨h.own1.ext e, h.own2.ext e, h.own3.ext e, h.ap12, h.ap13, h.ap23, h.box.ext e, h.low⟩
theorem Three.set1 {w w' : World} {B t : Nat} {vL vD vX v : Value} {L D X L' : List Int} (h : Three w B t vL vD vX L D X) (g : w.grownBy w' vL.ownBlock) (o : OwnI w' B v L') (d : ∀ q, v.ownBlock = some q → vL.ownBlock = some q ∨ w.heap.size ≤ q) : Three (w'.setCell ⟨t, 0, none⟩ v) B t v vD vX L' D X := by
  have hl := h.low
  refine ⟨o.setBelow hl _, (h.own2.only g fun q hq e => h.ap12 q e hq).setBelow hl _, (h.own3.only g fun q hq e => h.ap13 q e hq).setBelow hl _, fun q hq e => ?_, fun q hq e => ?_, h.ap23, (h.box.block (g.block _ h.box.lt fun e => ?_)).set 0 v, hl⟩
  · rcases d q hq with h1 | h1
    · exact h.ap12 q h1 e
    · have := (h.own2.block_lt e).2; omega
  · rcases d q hq with h1 | h1
    · exact h.ap13 q h1 e
    · have := (h.own3.block_lt e).2; omega
  · have := (h.own1.block_lt e.symm).1; omega
theorem Three.set2 {w w' : World} {B t : Nat} {vL vD vX v : Value} {L D X L' : List Int} (h : Three w B t vL vD vX L D X) (g : w.grownBy w' vD.ownBlock) (o : OwnI w' B v L') (d : ∀ q, v.ownBlock = some q → vD.ownBlock = some q ∨ w.heap.size ≤ q) : Three (w'.setCell ⟨t, 1, none⟩ v) B t vL v vX L L' X := by
  have hl := h.low
  refine ⟨(h.own1.only g fun q hq e => h.ap12 q hq e).setBelow hl _, o.setBelow hl _, (h.own3.only g fun q hq e => h.ap23 q e hq).setBelow hl _, fun q hq e => ?_, h.ap13, fun q hq e => ?_, (h.box.block (g.block _ h.box.lt fun e => ?_)).set 1 v, hl⟩
  · rcases d q e with h1 | h1
    · exact h.ap12 q hq h1
    · have := (h.own1.block_lt hq).2; omega
  · rcases d q hq with h1 | h1
    · exact h.ap23 q h1 e
    · have := (h.own3.block_lt e).2; omega
  · have := (h.own2.block_lt e.symm).1; omega
theorem Three.set3 {w w' : World} {B t : Nat} {vL vD vX v : Value} {L D X L' : List Int} (h : Three w B t vL vD vX L D X) (g : w.grownBy w' vX.ownBlock) (o : OwnI w' B v L') (d : ∀ q, v.ownBlock = some q → vX.ownBlock = some q ∨ w.heap.size ≤ q) : Three (w'.setCell ⟨t, 2, none⟩ v) B t vL vD v L D L' := by
  have hl := h.low
  refine ⟨(h.own1.only g fun q hq e => h.ap13 q hq e).setBelow hl _, (h.own2.only g fun q hq e => h.ap23 q hq e).setBelow hl _, o.setBelow hl _, h.ap12, fun q hq e => ?_, fun q hq e => ?_, (h.box.block (g.block _ h.box.lt fun e => ?_)).set 2 v, hl⟩
  · rcases d q e with h1 | h1
    · exact h.ap13 q hq h1
    · have := (h.own1.block_lt hq).2; omega
  · rcases d q e with h1 | h1
    · exact h.ap23 q hq h1
    · have := (h.own2.block_lt hq).2; omega
  · have := (h.own3.block_lt e.symm).1; omega
end Go.Proofs.YtlgjddgajdjllaaGreatDoor
