/- Elements read from their text. -/
import Derived.Test.YtlgjddgajdjllaaGreatDoorQParsesW
import Derived.Test.YtlgjddgajdjllaaGreatDoorQElemTx
set_option linter.unusedSimpArgs false
set_option linter.unusedVariables false
namespace Go.Proofs.YtlgjddgajdjllaaGreatDoor
open Go.RowKit
open Go.Lib
def peO (k p n : Int) (s : List UInt8) : Option (List Int) := ((sp 44 s).mapM parseI).bind fun x => if elemOk k p n x = true then some x else none
theorem peO_bad {k p n : Int} {s : List UInt8} (h : (sp 44 s).mapM parseI = none) : peO k p n s = none := by rw [peO, h]; rfl
theorem peO_no {k p n : Int} {s : List UInt8} {x : List Int} (h : (sp 44 s).mapM parseI = some x) (he : elemOk k p n x = false) : peO k p n s = none := by rw [peO, h, Option.bind_some, he]; rfl
theorem peO_yes {k p n : Int} {s : List UInt8} {x : List Int} (h : (sp 44 s).mapM parseI = some x) (he : elemOk k p n x = true) : peO k p n s = some x := by rw [peO, h, Option.bind_some, if_pos he]
def pev (k p n : Int) (s : List UInt8) : List Int := (peO k p n s).getD []
def peb (k p n : Int) (s : List UInt8) : Bool := (peO k p n s).isSome
theorem pev_none {k p n : Int} {s : List UInt8} (h : peO k p n s = none) : pev k p n s = [] := by rw [pev, h]; rfl
theorem peb_none {k p n : Int} {s : List UInt8} (h : peO k p n s = none) : peb k p n s = false := by rw [peb, h]; rfl
theorem pev_some {k p n : Int} {s : List UInt8} {x : List Int} (h : peO k p n s = some x) : pev k p n s = x := by rw [pev, h]; rfl
theorem peb_some {k p n : Int} {s : List UInt8} {x : List Int} (h : peO k p n s = some x) : peb k p n s = true := by rw [peb, h]; rfl
theorem elemOk_nil (k p n : Int) : elemOk k p n [] = false := by
  cases h : ringOk k p n
  · exact elemOk_no h
  · rw [elemOk_yes h]
    have := (ringOk_wide h).lo
    apply rawOk_nolen
    rw [beq_eq_false_iff_ne]
    simp; omega
theorem peO_ints (k p n : Int) (s : List UInt8) : (pib 44 s = false → peO k p n s = none) ∧ (pib 44 s = true → elemOk k p n (piv 44 s) = false → peO k p n s = none) ∧ (pib 44 s = true → elemOk k p n (piv 44 s) = true → peO k p n s = some (piv 44 s)) := by
  by_cases h : s = []
  · subst h
    have e : peO k p n [] = none := rfl
    have e1 : pib 44 [] = true := rfl
    have e2 : piv 44 [] = [] := rfl
    rw [e, e1, e2]
    refine ⟨fun h => (by cases h), fun _ _ => rfl, fun _ h => ?_⟩
    rw [elemOk_nil] at h; cases h
  · have e := intsBy_ne (c := 44) h
    cases hm : (sp 44 s).mapM parseI with
    | none =>
      rw [hm] at e
      rw [peO_bad hm, pib_none e]
      exact ⟨fun _ => rfl, fun _ _ => rfl, fun h => (by cases h)⟩
    | some x =>
      rw [hm] at e
      rw [pib_some e, piv_some e]
      exact ⟨fun h => (by cases h), fun _ h => peO_no hm h, fun _ h => peO_yes hm h⟩
theorem parseElem_impl (k p n : Int) (s : ByteArray) (w : World) (hs : s.size ≤ 1073741824) (hT : AllV w) : Calls Tryz.prog 58 #[ringV k p n, .string s] w fun e w' => ParR w w' e (pev k p n s.data.toList) (peb k p n s.data.toList) := by
 obtain ⟨q1, q2, q3⟩ := peO_ints k p n s.data.toList
 obtain ⟨x, hx⟩ : ∃ x, piv 44 s.data.toList = x := ⟨_, rfl⟩
 obtain ⟨b, hb⟩ : ∃ b, pib 44 s.data.toList = b := ⟨_, rfl⟩
 have A : ∀ w, AllV w → Calls Tryz.prog 57 #[.string s, .string ⟨#[44]⟩] w fun e w' => ParR w w' e x b := fun w h => hx ▸ hb ▸ parseIntList_any s 44 w hs h
 rw [hx, hb] at q2 q3
 rw [hb] at q1
 have HA := Lib.hid A
 clear A hx hb
 cases hbb : b
 · have hin := q1 hbb
   have hin1 := Lib.hid (pev_none hin); have hin2 := Lib.hid (peb_none hin)
   subst hbb
   clear q1 q2 q3 hin
   go_enter Tryz.func58, Tryz.ntmps58
   go_wp2_with fail
   refine (HA.out _ (hT.ext (by repeat' (first | (with_reducible first | exact Ext.refl _ | assumption | apply Ext.alloc | apply Ext.drew | apply Ext.drewN) | (refine Ext.setAt ?_ (by omega) _ _) | (refine Ext.trans ?_ (by assumption)))))).mono ?_; rintro e1 w1 ⟨v1, rfl, o1, h1⟩
   go_wp2
   go_ret2
   exact ⟨⟨_, by rw [hin2.out]; rfl, by rw [hin1.out]; exact OwnI.nil _ _, (by repeat' (first | (with_reducible first | exact Ext.refl _ | assumption | apply Ext.alloc | apply Ext.drew | apply Ext.drewN) | (refine Ext.setAt ?_ (by omega) _ _) | (refine Ext.trans ?_ (by assumption))))⟩⟩
 · cases he : elemOk k p n x
   · have hin := q2 hbb he
     have hin1 := Lib.hid (pev_none hin); have hin2 := Lib.hid (peb_none hin)
     subst hbb
     clear q1 q2 q3 hin
     go_enter Tryz.func58, Tryz.ntmps58
     go_wp2_with fail
     refine (HA.out _ (hT.ext (by repeat' (first | (with_reducible first | exact Ext.refl _ | assumption | apply Ext.alloc | apply Ext.drew | apply Ext.drewN) | (refine Ext.setAt ?_ (by omega) _ _) | (refine Ext.trans ?_ (by assumption)))))).mono ?_; rintro e1 w1 ⟨v1, rfl, o1, h1⟩; have s1 := h1.size; (try simp at s1); have t1_0 : w.heap.size < w1.heap.size := (by omega); have c1_0 := fun o => h1.cells (w.heap.size) o (by first | (simp; done) | (simp; omega) | omega)
     go_wp2_with fail
     refine (elemOk_impl _ _ _ _ x _ o1.ints).mono ?_; rintro e2 w2 ⟨rfl, h2⟩; rw [he]
     go_wp2
     go_ret2
     exact ⟨⟨_, by rw [hin2.out]; rfl, by rw [hin1.out]; exact OwnI.nil _ _, (by repeat' (first | (with_reducible first | exact Ext.refl _ | assumption | apply Ext.alloc | apply Ext.drew | apply Ext.drewN) | (refine Ext.setAt ?_ (by omega) _ _) | (refine Ext.trans ?_ (by assumption))))⟩⟩
   · have hin := q3 hbb he
     have hin1 := Lib.hid (pev_some hin); have hin2 := Lib.hid (peb_some hin)
     subst hbb
     clear q1 q2 q3 hin
     go_enter Tryz.func58, Tryz.ntmps58
     go_wp2_with fail
     refine (HA.out _ (hT.ext (by repeat' (first | (with_reducible first | exact Ext.refl _ | assumption | apply Ext.alloc | apply Ext.drew | apply Ext.drewN) | (refine Ext.setAt ?_ (by omega) _ _) | (refine Ext.trans ?_ (by assumption)))))).mono ?_; rintro e1 w1 ⟨v1, rfl, o1, h1⟩; have s1 := h1.size; (try simp at s1); have t1_0 : w.heap.size < w1.heap.size := (by omega); have c1_0 := fun o => h1.cells (w.heap.size) o (by first | (simp; done) | (simp; omega) | omega)
     go_wp2_with fail
     refine (elemOk_impl _ _ _ _ x _ o1.ints).mono ?_; rintro e2 w2 ⟨rfl, h2⟩; rw [he]
     go_wp2
     go_ret2
     exact ⟨⟨_, by rw [hin2.out]; rfl, by rw [hin1.out]; exact (o1.ext h2).mono (by first | (simp [World.setCell]; done) | (simp [World.setCell]; omega) | omega), (by repeat' (first | (with_reducible first | exact Ext.refl _ | assumption | apply Ext.alloc | apply Ext.drew | apply Ext.drewN) | (refine Ext.setAt ?_ (by omega) _ _) | (refine Ext.trans ?_ (by assumption))))⟩⟩
set_option maxHeartbeats 2000000 in
theorem parseElem_spec (k0 p n0 : Int) (s : ByteArray) (w : World) (hs : s.size ≤ 1073741824) : Calls Tryz.prog 72 #[ringV k0 p n0, .string s] w fun e w' => ParR w w' e (pev k0 p n0 s.data.toList) (peb k0 p n0 s.data.toList) := by
  have hsl := slen s
  have HSL := Lib.hid hsl; clear hsl
  go_enter Tryz.func72, Tryz.ntmps72
  go_wp2_with fail
  go_loopw [6, 7, 8] (fun q f i wr => ∃ j : Nat, ∃ k : Nat, ∃ done : List (List UInt8), ∃ xs : List Int, j ≤ s.size + 1 ∧ i = .int .i64 j ∧ f = .int .i64 k ∧ k ≤ j ∧ Hid (PSt 44 s.data.toList j k done) ∧ Hid (done.mapM parseI = some xs) ∧ OwnI wr (w.heap.size + 1) q xs ∧ Blk wr w.heap.size 24 [.int .i64 k0, .int .i64 p, .int .i64 n0] ∧ Ext w wr) (fun q f i _ => s.size + 1 - (RowKit.intOf i).toNat)
  case atStart => exact ⟨0, 0, [], [], Nat.zero_le _, rfl, rfl, Nat.le_refl _, Lib.hid (.inl ⟨Nat.le_refl _, Nat.zero_le _, by simp, rfl⟩), Lib.hid rfl, OwnI.empty' (Nat.le_refl _) (by simp), (Blk.new w #[.int .i64 k0, .int .i64 p, .int .i64 n0] 24).ext ((Ext.refl _).alloc _), (by repeat' (first | (with_reducible first | exact Ext.refl _ | assumption | apply Ext.alloc | apply Ext.drew | apply Ext.drewN) | (refine Ext.setAt ?_ (by omega) _ _) | (refine Ext.trans ?_ (by assumption))))⟩
  case round =>
    obtain ⟨j, k, done, xs, hj, rfl, rfl, hkj, HW, HM, hQ, HB, hE⟩ := hrel
    have hsE := hE.size
    have hbl := HB.lt
    by_cases hend : j = s.size + 1
    · subst hend
      have hd := HW.out
      rw [← HSL.out] at hd
      have hm : (sp 44 s.data.toList).mapM parseI = some xs := by rw [← pst_fin hd]; exact HM.out
      have HMM := Lib.hid hm
      clear hm hd
      have cb0 := HB.cell (j := 0) rfl; have cb1 := HB.cell (j := 1) rfl; have cb2 := HB.cell (j := 2) rfl
      obtain ⟨aq, cq, hqv, hq1, hq2⟩ := hQ.ints.val
      subst hqv
      cases he : elemOk k0 p n0 xs
      · have hin := peO_no HMM.out he
        have hin1 := Lib.hid (pev_none hin); have hin2 := Lib.hid (peb_none hin)
        clear hin
        go_wp2_with fail
        refine (elemOk_spec _ _ _ _ xs _ hQ.ints).mono ?_; rintro e1 w1 ⟨rfl, h1⟩; rw [he]
        go_wp2
        go_ret2
        exact ⟨⟨_, by rw [hin2.out]; rfl, by rw [hin1.out]; exact OwnI.nil _ _, hE.trans h1⟩⟩
      · have hin := peO_yes HMM.out he
        have hin1 := Lib.hid (pev_some hin); have hin2 := Lib.hid (peb_some hin)
        clear hin
        go_wp2_with fail
        refine (elemOk_spec _ _ _ _ xs _ hQ.ints).mono ?_; rintro e1 w1 ⟨rfl, h1⟩; rw [he]
        go_wp2
        go_ret2
        exact ⟨⟨_, by rw [hin2.out]; rfl, by rw [hin1.out]; exact (hQ.ext h1).mono (by omega), hE.trans h1⟩⟩
    have hj' : j ≤ s.size := by omega
    clear hj
    have hstep : ∀ hgap : PSt 44 s.data.toList (j + 1) (j + 1) (done ++ [(s.data.toList.take j).drop k]), ∀ w, Calls Tryz.prog 36 #[.string (s.extract k j)] w fun e w' => e = .returned (.tuple #[.int .i64 (pv ((s.data.toList.take j).drop k)), .bool (pb ((s.data.toList.take j).drop k))]) ∧ Ext w w' := fun _ w => by
      have hz := size_ext s k j (by omega)
      have := parseInt_spec (s.extract k j) (by omega) w
      rwa [ext_list] at this
    by_cases hgap : j = s.size ∨ s.data.toList[j]? = some 44
    · have hps : PSt 44 s.data.toList (j + 1) (j + 1) (done ++ [(s.data.toList.take j).drop k]) := by
        rcases hgap with rfl | h
        · have := pst_end (k' := s.size + 1) (c := 44) (l := s.data.toList) (k := k) (done := done) (by rw [HSL.out]; exact HW.out)
          rw [HSL.out] at this; exact this
        · exact pst_gap HW.out h
      have hlenx := pst_len hps
      rw [HSL.out] at hlenx
      have hlx := mapM_len _ HM.out
      have hmem := pst_mem (j' := 0) (k' := 0) hps
      have HP := Lib.hid (hstep hps)
      have HPS := Lib.hid hps
      have HMEM := Lib.hid hmem
      obtain ⟨x, hx⟩ : ∃ x, (s.data.toList.take j).drop k = x := ⟨_, rfl⟩
      obtain ⟨z, hz⟩ : ∃ z, s.extract k j = z := ⟨_, rfl⟩
      rw [hx] at HP HPS HMEM
      rw [hz] at HP
      have HZ := Lib.hid hz
      rw [List.length_append, List.length_singleton] at hlenx
      have hxs : xs.length + 1 ≤ 1099511627776 := by omega
      have HXS := Lib.hid hxs
      clear hstep hps hmem hx hlenx hlx hxs
      have hcond : ((j : Int) == (s.size : Int)) = true ∨ (((j : Int) == (s.size : Int)) = false ∧ ∃ h : j < s.size, s[j] = 44) := by
        rcases hgap with rfl | h
        · exact .inl (by rw [beq_iff_eq])
        · have hlt := (List.getElem?_eq_some_iff.1 h).1
          rw [HSL.out] at hlt
          refine .inr ⟨by rw [beq_eq_false_iff_ne]; omega, hlt, ?_⟩
          have := byte_get hlt
          rw [h] at this
          exact (Option.some.inj this).symm
      clear hgap
      cases hpar : parseI x with
      | none =>
        have hpb := Lib.hid (pib_none' hpar)
        have hin : peO k0 p n0 s.data.toList = none := peO_bad (mapM_none _ HMEM.out hpar)
        have hin1 := Lib.hid (pev_none hin); have hin2 := Lib.hid (peb_none hin)
        clear hin hpar
        have hR : ∀ w, Calls Tryz.prog 36 #[.string z] w fun e w' => e = .returned (.tuple #[.int .i64 (pv x), .bool false]) ∧ Ext w w' := fun w => by rw [← hpb.out]; exact HP.out w
        have HR := Lib.hid hR; clear hR
        rcases hcond with hc1 | ⟨hc1, hc2, hc3⟩
        · go_wp2_with fail
          refine (HR.out _).mono ?_; rintro e2 w2 ⟨rfl, h2⟩
          go_wp2
          go_ret2
          exact ⟨⟨_, by rw [hin2.out]; rfl, by rw [hin1.out]; exact OwnI.nil _ _, hE.trans h2⟩⟩
        · go_wp2_with fail
          refine (HR.out _).mono ?_; rintro e2 w2 ⟨rfl, h2⟩
          go_wp2
          go_ret2
          exact ⟨⟨_, by rw [hin2.out]; rfl, by rw [hin1.out]; exact OwnI.nil _ _, hE.trans h2⟩⟩
      | some n =>
        obtain ⟨hpv, hpb⟩ := pib_some' hpar
        have HN := Lib.hid hpar
        have hR : ∀ w, Calls Tryz.prog 36 #[.string z] w fun e w' => e = .returned (.tuple #[.int .i64 n, .bool true]) ∧ Ext w w' := fun w => by
          have := HP.out w; rwa [hpv, hpb] at this
        have HR := Lib.hid hR
        clear hR hpv hpb hpar
        have HMN := Lib.hid (mapM_snoc _ HM.out HN.out)
        rcases hcond with hc1 | ⟨hc1, hc2, hc3⟩
        · have hc1' := hc1
          go_wp2_with fail
          refine (HR.out _).mono ?_; rintro e2 w2 ⟨rfl, h2⟩
          have hQ2 := hQ.ext h2
          have HB2 := HB.ext h2
          have hs2 := h2.size
          obtain ⟨aq, cq, hqv, hq1, hq2⟩ := hQ2.ints.val
          subst hqv
          have HQB := Lib.hid (fun q (hq : (Value.slice aq xs.length cq).ownBlock = some q) => (hQ2.block_lt hq).1)
          go_wp2_with (at_builtin; refine wpList_app _ rfl _ _ 27 rfl _ _ rfl rfl _ (run_push _ w2 (w.heap.size + 1) (.slice aq xs.length cq) xs n hQ2 HXS.out (by omega)) ?_; rintro v4 w4 ⟨o4, g4, _⟩)
          go_roundw
          case rel => exact ⟨j + 1, j + 1, done ++ [x], xs ++ [n], by omega, by go_num, by go_num, Nat.le_refl _, HPS, HMN, o4, HB2.block (g4.block _ (by omega) (fun e => by have := HQB.out _ e.symm; omega)), (hE.trans h2).only g4 (fun q hq => by have := HQB.out q hq; omega)⟩
          case measure => simp [RowKit.intOf] <;> omega
        · go_wp2_with fail
          refine (HR.out _).mono ?_; rintro e2 w2 ⟨rfl, h2⟩
          have hQ2 := hQ.ext h2
          have HB2 := HB.ext h2
          have hs2 := h2.size
          obtain ⟨aq, cq, hqv, hq1, hq2⟩ := hQ2.ints.val
          subst hqv
          have HQB := Lib.hid (fun q (hq : (Value.slice aq xs.length cq).ownBlock = some q) => (hQ2.block_lt hq).1)
          go_wp2_with (at_builtin; refine wpList_app _ rfl _ _ 27 rfl _ _ rfl rfl _ (run_push _ w2 (w.heap.size + 1) (.slice aq xs.length cq) xs n hQ2 HXS.out (by omega)) ?_; rintro v4 w4 ⟨o4, g4, _⟩)
          go_roundw
          case rel => exact ⟨j + 1, j + 1, done ++ [x], xs ++ [n], by omega, by go_num, by go_num, Nat.le_refl _, HPS, HMN, o4, HB2.block (g4.block _ (by omega) (fun e => by have := HQB.out _ e.symm; omega)), (hE.trans h2).only g4 (fun q hq => by have := HQB.out q hq; omega)⟩
          case measure => simp [RowKit.intOf] <;> omega
    · have hlt : j < s.size := by
        rcases Nat.lt_or_ge j s.size with h | h
        · exact h
        · exact absurd (.inl (by omega)) hgap
      have hjs : ((j : Int) == (s.size : Int)) = false := by rw [beq_eq_false_iff_ne]; omega
      have hg := byte_get hlt
      have hcc : s[j] ≠ 44 := fun e => hgap (.inr (by rw [hg, e]))
      have hps := Lib.hid (pst_more HW.out hg hcc)
      have hcn := u8ne (n := 44) (by omega) hcc
      simp only [Int.cast_ofNat_Int] at hcn
      clear hstep hgap hg hcc
      go_wp2
      go_roundw
      case rel => exact ⟨j + 1, k, done, xs, by omega, by go_num, rfl, by omega, hps, HM, hQ, HB, hE⟩
      case measure => simp [RowKit.intOf] <;> omega
theorem pe_len {k p n : Int} {s : List UInt8} : (pev k p n s).length ≤ 6 := by
  unfold pev peO
  cases (sp 44 s).mapM parseI with
  | none => simp
  | some x =>
    rw [Option.bind_some]
    split
    · rename_i h
      exact (elemOk_i64 h).2
    · simp
end Go.Proofs.YtlgjddgajdjllaaGreatDoor
