/- ParseRing of the program. -/
import Derived.Test.YtlgjddgajdjllaaGreatDoorTG4
set_option linter.unusedSimpArgs false
set_option linter.unusedVariables false
namespace Go.Proofs.YtlgjddgajdjllaaGreatDoor
open Go.RowKit
open Go.Lib
structure RingR (s : List UInt8) (w w' : World) (e : Ending) : Prop where
  out : ∃ k p n b, e = .returned (.tuple #[ringV k p n, .bool b]) ∧ RP s k p n b ∧ Ext w w'
theorem list_cases (xs : List Int) : xs = [] ∨ (∃ a, xs = [a]) ∨ (∃ a b, xs = [a, b]) ∨ ∃ a b c r, xs = a :: b :: c :: r := by
  match xs with
  | [] => exact .inl rfl
  | [a] => exact .inr (.inl ⟨a, rfl⟩)
  | [a, b] => exact .inr (.inr (.inl ⟨a, b, rfl⟩))
  | a :: b :: c :: r => exact .inr (.inr (.inr ⟨a, b, c, r, rfl⟩))
theorem bytes_beq (a b : ByteArray) (h : a.data.toList = b.data.toList) : (a.toList == b.toList) = true := by rw [beq_iff_eq, ByteArray.toList_eq, ByteArray.toList_eq]; exact h
set_option maxRecDepth 100000 in
set_option maxHeartbeats 8000000 in
theorem parseRing_impl (s : ByteArray) (w : World) (hs : s.size ≤ 1073741824) (hT : AllV w) : Calls Tryz.prog 19 #[.string s] w fun e w' => RingR s.data.toList w w' e := by
 obtain ⟨p0, pt, hp⟩ := sp_shape 32 s.data.toList
 have hpl : ∀ p ∈ p0 :: pt, p.length ≤ s.size := fun p hq => by rw [← hp] at hq; have := sp_piece_le hq; rwa [slen] at this
 have hle := sp_le 32 s
 have A : ∀ w, Maxl w → Calls Tryz.prog 53 #[.string s, .string ⟨#[32]⟩] w fun e w' => e = .returned (.slice (some ⟨w.heap.size, 0, none⟩) (pt.length + 1) (pt.length + 1)) ∧ Blk w' w.heap.size 9 (strs (mkSs (p0 :: pt))) ∧ Ext w w' := fun w hM => by
  have := split_any s 32 w hs hM
  rwa [hp, List.length_cons] at this
 rw [hp, List.length_cons] at hle
 have HA := Lib.hid A; have HP := Lib.hid hp; have HPL := Lib.hid hpl
 clear A hp hpl
 go_enter Tryz.func19, Tryz.ntmps19
 go_wp2_with fail
 refine (HA.out _ (hT.maxl.ext (by repeat' (first | (with_reducible first | exact Ext.refl _ | assumption | apply Ext.alloc | apply Ext.drew | apply Ext.drewN) | (refine Ext.setAt ?_ (by omega) _ _) | (refine Ext.trans ?_ (by assumption)))))).mono ?_; rintro e1 w1 ⟨rfl, hB, h1⟩
 have hR1 := (Blk.new w #[.int .i64 0, .int .i64 0, .int .i64 0] 24).ext h1
 have E1 : Ext w w1 := (by repeat' (first | (with_reducible first | exact Ext.refl _ | assumption | apply Ext.alloc | apply Ext.drew | apply Ext.drewN) | (refine Ext.setAt ?_ (by omega) _ _) | (refine Ext.trans ?_ (by assumption))))
 have hB : Blk w1 (w.heap.size + 1) 9 (strs (mkSs (p0 :: pt))) := by simpa using hB
 have hR1 : Blk w1 w.heap.size 24 [.int .i64 0, .int .i64 0, .int .i64 0] := hR1
 have hb1 := hB.lt
 go_wp2_with fail
 · subst h
   go_loopw [5, 17] (fun q i wr => q = .slice none 0 0 ∧ i = .int .i64 0 ∧ wr = w1) (fun q i _ => 0)
   case atStart => exact ⟨rfl, rfl, rfl⟩
   case round =>
    obtain ⟨rfl, rfl, rfl⟩ := hrel
    have HMM : Hid (([] : List (List UInt8)).mapM parseI = some []) := Lib.hid rfl
    have hQ : OwnI wr (w.heap.size + 2) (.slice none 0 0) [] := OwnI.nil _ _
    have hBr := hB; have hR := hR1; have hE := E1
    have hsE := hE.size
    have hbl := hBr.lt
    obtain ⟨wq, hwq⟩ : ∃ u, u = wr := ⟨_, rfl⟩
    subst hwq
    obtain ⟨z0, hz0⟩ : ∃ z, mkS p0 = z := ⟨_, rfl⟩
    have hcell0 := hBr.cell (j := 0) (u := .string z0) (by rw [strs_get, mkSs_get, ← hz0]; rfl)
    have HZ0 : Hid (z0.data.toList = p0) := Lib.hid (by rw [← hz0, mkS_list])
    clear hz0
    have hRl := hR.lt
    go_wp2_with fail
    go_loopw [11] (fun i wr => ∃ m : Nat, m ≤ 8 ∧ i = .int .i64 ((m : Int) + 1) ∧ Blk wr wq.heap.size 24 [.int .i64 (kUp m p0), .int .i64 0, .int .i64 0] ∧ Ext wq wr) (fun i _ => 9 - (RowKit.intOf i).toNat)
    case atStart => exact ⟨0, by omega, rfl, Blk.new wq #[.int .i64 0, .int .i64 0, .int .i64 0] 24, (by repeat' (first | (with_reducible first | exact Ext.refl _ | assumption | apply Ext.alloc | apply Ext.drew | apply Ext.drewN) | (refine Ext.setAt ?_ (by omega) _ _) | (refine Ext.trans ?_ (by assumption))))⟩
    case round =>
     obtain ⟨m, hm, rfl, hK, hE3⟩ := hrel
     have hs3 := hE3.size
     have hKl := hK.lt
     by_cases hm8 : m < 8
     · have hcell3 := hE3.cell hcell0
       have f0 := hK.free 0
       have k0 := hK.cell (j := 0) rfl
       obtain ⟨zn, hzn⟩ : ∃ z, mkS (nameL ((m : Int) + 1)) = z := ⟨_, rfl⟩
       have hnm : ∀ w, Calls Tryz.prog 55 #[.int .i64 ((m : Int) + 1)] w fun e w' => e = .returned (.string zn) ∧ w' = w := fun w => hzn ▸ (ringName_any _ w).mono fun _ _ h => ⟨h.1, h.2.symm⟩
       have HNM := Lib.hid hnm
       have HZN : Hid (zn.data.toList = nameL ((m : Int) + 1)) := Lib.hid (by rw [← hzn, mkS_list])
       clear hnm hzn
       by_cases hname : nameL ((m : Int) + 1) = p0
       · have heq := bytes_beq zn z0 (by rw [HZN.out, HZ0.out, hname])
         have HNAME := Lib.hid hname; clear hname
         go_wp2
         go_quiet ((go_at_call 55; exact Calls.quiet_of_same (HNM.out _)))
         go_wp2
         go_roundw
         case rel =>
          refine ⟨m + 1, by omega, by go_num, ?_, (by repeat' (first | (with_reducible first | exact Ext.refl _ | assumption | apply Ext.alloc | apply Ext.drew | apply Ext.drewN) | (refine Ext.setAt ?_ (by omega) _ _) | (refine Ext.trans ?_ (by assumption))))⟩
          have e : kUp (m + 1) p0 = (m : Int) + 1 := by rw [kUp, if_pos HNAME.out]
          rw [e]
          exact (hK.ext ((Ext.refl _).drewN _)).set 0 _
         case measure => simp [RowKit.intOf] <;> omega
       · have hne := str_beq_no (z := zn) (s := z0) (by rw [HZN.out, HZ0.out]; exact hname)
         have HNAME := Lib.hid hname; clear hname
         go_wp2
         go_quiet ((go_at_call 55; exact Calls.quiet_of_same (HNM.out _)))
         go_wp2
         go_roundw
         case rel =>
          refine ⟨m + 1, by omega, by go_num, ?_, (by repeat' (first | (with_reducible first | exact Ext.refl _ | assumption | apply Ext.alloc | apply Ext.drew | apply Ext.drewN) | (refine Ext.setAt ?_ (by omega) _ _) | (refine Ext.trans ?_ (by assumption))))⟩
          have e : kUp (m + 1) p0 = kUp m p0 := by rw [kUp, if_neg HNAME.out]
          rw [e]
          exact hK.ext ((Ext.refl _).drewN _)
         case measure => simp [RowKit.intOf] <;> omega
     · have : m = 8 := by omega
       subst this
       have hno := fun h => RP.no HP.out HMM.out h
       obtain ⟨K, hKK⟩ : ∃ K, kUp 8 p0 = K := ⟨_, rfl⟩
       rw [hKK] at hK hno
       have HNO := Lib.hid hno
       have hR3 := hR.ext hE3
       have hQ3 := hQ.ext hE3
       have T3 : Tab wq := hT.errs.tab.ext hE
       clear hno hKK hm hm8
       have AP : assP K [] = 0 := rfl
       have AN : assN K [] = 0 := rfl
       obtain ⟨aq, cq, hqv, hq1, hq2⟩ := hQ3.ints.val
       cases hqv
       have hno := HNO.out
       rw [show assP K _ = 0 from AP, show assN K _ = 0 from AN] at hno
       have HNO2 := Lib.hid hno
       clear hno AP AN
       have hK4 := hK
       have hR4 := hR3
       have hKc0 := hK.cell (j := 0) rfl; have hKc1 := hK.cell (j := 1) rfl; have hKc2 := hK.cell (j := 2) rfl
       have hKf1 := hK.free 1; have hKf2 := hK.free 2
       cases hr : ringOk K (0) (0)
       · have hr0 := hr
         go_wp2_with fail
         refine (ringOk_impl K (0) (0) _).mono ?_; rintro e5 w5 ⟨rfl, h5⟩; rw [hr]
         have hK5 := hK4.ext h5; have hR5 := hR4.ext h5
         have i50 : w5.cell? ⟨wq.heap.size, 0, none⟩ = some (.int .i64 K) := hK5.cell (j := 0) rfl; have i51 : w5.cell? ⟨wq.heap.size, 1, none⟩ = some (.int .i64 (0)) := hK5.cell (j := 1) rfl; have i52 : w5.cell? ⟨wq.heap.size, 2, none⟩ = some (.int .i64 (0)) := hK5.cell (j := 2) rfl
         have j50 := hR5.cell (j := 0) rfl; have j51 := hR5.cell (j := 1) rfl; have j52 := hR5.cell (j := 2) rfl
         have m50 := hR5.free 0; have m51 := hR5.free 1; have m52 := hR5.free 2; have hl5 := hR5.lt; have s5 := h5.size; (try simp at s5)
         go_wp2
         refine bodyPost_ret (v := .tuple #[ringV 0 0 0, .bool false]) (by simp [results, Tryz.results19, go_sem, *]) rfl ?_
         exact ⟨⟨0, 0, 0, false, rfl, HNO2.out (fun h => absurd h (by rw [hr]; simp)), (by repeat' (first | (with_reducible first | exact Ext.refl _ | assumption | apply Ext.alloc | apply Ext.drew | apply Ext.drewN) | (refine Ext.setAt ?_ (by omega) _ _) | (refine Ext.trans ?_ (by assumption))))⟩⟩
       · obtain ⟨y, hy⟩ : ∃ y, mkS (fmtRing K (0) (0)) = y := ⟨_, rfl⟩
         have HY : Hid (y.data.toList = fmtRing K (0) (0)) := Lib.hid (by rw [← hy, mkS_list])
         have HFR := Lib.hid (fun w (h : Tab w) => hy ▸ formatRing_impl K (0) (0) w h)
         clear hy
         by_cases ht : fmtRing K (0) (0) = s.data.toList
         · have hq := bytes_beq y s (by rw [HY.out, ht])
           have HT2 := Lib.hid ht
           have HR0 := Lib.hid hr
           have hq2 : (y.toList != s.toList) = false := by rw [bne, hq]; rfl
           clear ht
           go_wp2_with fail
           refine (ringOk_impl K (0) (0) _).mono ?_; rintro e5 w5 ⟨rfl, h5⟩; rw [hr]
           have hK5 := hK4.ext h5; have hR5 := hR4.ext h5
           have i50 : w5.cell? ⟨wq.heap.size, 0, none⟩ = some (.int .i64 K) := hK5.cell (j := 0) rfl; have i51 : w5.cell? ⟨wq.heap.size, 1, none⟩ = some (.int .i64 (0)) := hK5.cell (j := 1) rfl; have i52 : w5.cell? ⟨wq.heap.size, 2, none⟩ = some (.int .i64 (0)) := hK5.cell (j := 2) rfl
           have j50 := hR5.cell (j := 0) rfl; have j51 := hR5.cell (j := 1) rfl; have j52 := hR5.cell (j := 2) rfl
           have m50 := hR5.free 0; have m51 := hR5.free 1; have m52 := hR5.free 2; have hl5 := hR5.lt; have s5 := h5.size; (try simp at s5)
           have T5 : Tab w5 := T3.ext (by repeat' (first | (with_reducible first | exact Ext.refl _ | assumption | apply Ext.alloc | apply Ext.drew | apply Ext.drewN) | (refine Ext.setAt ?_ (by omega) _ _) | (refine Ext.trans ?_ (by assumption))))
           go_wp2_with fail
           refine (HFR.out _ T5).mono ?_; rintro e6 w6 ⟨rfl, h6⟩
           have hK6 := hK5.ext h6; have hR6 := hR5.ext h6
           have i60 : w6.cell? ⟨wq.heap.size, 0, none⟩ = some (.int .i64 K) := hK6.cell (j := 0) rfl; have i61 : w6.cell? ⟨wq.heap.size, 1, none⟩ = some (.int .i64 (0)) := hK6.cell (j := 1) rfl; have i62 : w6.cell? ⟨wq.heap.size, 2, none⟩ = some (.int .i64 (0)) := hK6.cell (j := 2) rfl
           have j60 := hR6.cell (j := 0) rfl; have j61 := hR6.cell (j := 1) rfl; have j62 := hR6.cell (j := 2) rfl
           have m60 := hR6.free 0; have m61 := hR6.free 1; have m62 := hR6.free 2; have hl6 := hR6.lt; have s6 := h6.size; (try simp at s6)
           go_wp2
           refine bodyPost_ret (v := .tuple #[ringV K (0) (0), .bool true]) (by simp [results, Tryz.results19, go_sem, *]) rfl ?_
           exact ⟨⟨K, 0, 0, true, rfl, RP.yes HR0.out HT2.out, (by repeat' (first | (with_reducible first | exact Ext.refl _ | assumption | apply Ext.alloc | apply Ext.drew | apply Ext.drewN) | (refine Ext.setAt ?_ (by omega) _ _) | (refine Ext.trans ?_ (by assumption))))⟩⟩
         · have hq := str_beq_no (z := y) (s := s) (by rw [HY.out]; exact ht)
           have HT2 := Lib.hid ht
           have HR0 := Lib.hid hr
           have hq2 : (y.toList != s.toList) = true := by rw [bne, hq]; rfl
           clear ht
           go_wp2_with fail
           refine (ringOk_impl K (0) (0) _).mono ?_; rintro e5 w5 ⟨rfl, h5⟩; rw [hr]
           have hK5 := hK4.ext h5; have hR5 := hR4.ext h5
           have i50 : w5.cell? ⟨wq.heap.size, 0, none⟩ = some (.int .i64 K) := hK5.cell (j := 0) rfl; have i51 : w5.cell? ⟨wq.heap.size, 1, none⟩ = some (.int .i64 (0)) := hK5.cell (j := 1) rfl; have i52 : w5.cell? ⟨wq.heap.size, 2, none⟩ = some (.int .i64 (0)) := hK5.cell (j := 2) rfl
           have j50 := hR5.cell (j := 0) rfl; have j51 := hR5.cell (j := 1) rfl; have j52 := hR5.cell (j := 2) rfl
           have m50 := hR5.free 0; have m51 := hR5.free 1; have m52 := hR5.free 2; have hl5 := hR5.lt; have s5 := h5.size; (try simp at s5)
           have T5 : Tab w5 := T3.ext (by repeat' (first | (with_reducible first | exact Ext.refl _ | assumption | apply Ext.alloc | apply Ext.drew | apply Ext.drewN) | (refine Ext.setAt ?_ (by omega) _ _) | (refine Ext.trans ?_ (by assumption))))
           go_wp2_with fail
           refine (HFR.out _ T5).mono ?_; rintro e6 w6 ⟨rfl, h6⟩
           have hK6 := hK5.ext h6; have hR6 := hR5.ext h6
           have i60 : w6.cell? ⟨wq.heap.size, 0, none⟩ = some (.int .i64 K) := hK6.cell (j := 0) rfl; have i61 : w6.cell? ⟨wq.heap.size, 1, none⟩ = some (.int .i64 (0)) := hK6.cell (j := 1) rfl; have i62 : w6.cell? ⟨wq.heap.size, 2, none⟩ = some (.int .i64 (0)) := hK6.cell (j := 2) rfl
           have j60 := hR6.cell (j := 0) rfl; have j61 := hR6.cell (j := 1) rfl; have j62 := hR6.cell (j := 2) rfl
           have m60 := hR6.free 0; have m61 := hR6.free 1; have m62 := hR6.free 2; have hl6 := hR6.lt; have s6 := h6.size; (try simp at s6)
           go_wp2
           refine bodyPost_ret (v := .tuple #[ringV 0 0 0, .bool false]) (by simp [results, Tryz.results19, go_sem, *]) rfl ?_
           exact ⟨⟨0, 0, 0, false, rfl, HNO2.out (fun _ => HT2.out), (by repeat' (first | (with_reducible first | exact Ext.refl _ | assumption | apply Ext.alloc | apply Ext.drew | apply Ext.drewN) | (refine Ext.setAt ?_ (by omega) _ _) | (refine Ext.trans ?_ (by assumption))))⟩⟩
 · go_loopw [5, 17] (fun q i wr => ∃ j : Nat, ∃ xs : List Int, j ≤ pt.length ∧ i = .int .i64 j ∧ Hid ((pt.take j).mapM parseI = some xs) ∧ OwnI wr (w.heap.size + 2) q xs ∧ Blk wr (w.heap.size + 1) 9 (strs (mkSs (p0 :: pt))) ∧ Blk wr w.heap.size 24 [.int .i64 0, .int .i64 0, .int .i64 0] ∧ Ext w wr) (fun q i _ => pt.length - (RowKit.intOf i).toNat)
   case atStart => exact ⟨0, [], Nat.zero_le _, rfl, Lib.hid rfl, OwnI.nil _ _, hB, hR1, E1⟩
   case round =>
    obtain ⟨j, xs, hj, rfl, HM, hQ, hBr, hR, hE⟩ := hrel
    have hsE := hE.size
    have hbl := hBr.lt
    by_cases hlt : j < pt.length
    · obtain ⟨x, hx⟩ : ∃ x, pt[j]? = some x := ⟨_, List.getElem?_eq_getElem hlt⟩
      have hcell := hBr.cell (j := 1 + j) (u := .string (mkS x)) (by rw [strs_get, mkSs_get, Nat.add_comm, List.getElem?_cons_succ, hx]; rfl)
      have hxs : (mkS x).size ≤ 1099511627776 := by rw [mkS_size]; have := HPL.out x (List.mem_cons_of_mem _ (List.mem_of_getElem? hx)); omega
      have hP : ∀ w, Errs w → Calls Tryz.prog 54 #[.string (mkS x)] w fun e w' => e = .returned (.tuple #[.int .i64 (pv x), .bool (pb x)]) ∧ Ext w w' := fun w he => by
       have := parseInt_impl (mkS x) hxs w he
       rwa [mkS_list] at this
      have HPI := Lib.hid hP
      obtain ⟨z, hz⟩ : ∃ z, mkS x = z := ⟨_, rfl⟩
      rw [hz] at hcell HPI
      have HX := Lib.hid hx
      clear hx hz hP hxs
      go_wp2_with fail
      refine (HPI.out _ (hT.errs.ext hE)).mono ?_; rintro e2 w2 ⟨rfl, h2⟩
      have HB2 := hBr.ext h2
      have hR2 := hR.ext h2
      cases hpar : parseI x with
      | none =>
       have hpb := pib_none' hpar
       rw [hpb]
       have hin : RP s.data.toList 0 0 0 false := RP.bad HP.out (mapM_none _ (List.mem_of_getElem? HX.out) hpar)
       have HIN := Lib.hid hin
       clear hin hpar hpb
       have f0 := hR2.free 0; have f1 := hR2.free 1; have f2 := hR2.free 2
       have r0 := hR2.cell (j := 0) rfl; have r1 := hR2.cell (j := 1) rfl; have r2 := hR2.cell (j := 2) rfl
       have hRl := hR2.lt
       go_wp2
       refine bodyPost_ret (v := .tuple #[ringV 0 0 0, .bool false]) (by simp [results, Tryz.results19, go_sem, *]) rfl ?_
       exact ⟨⟨0, 0, 0, false, rfl, HIN.out, (by repeat' (first | (with_reducible first | exact Ext.refl _ | assumption | apply Ext.alloc | apply Ext.drew | apply Ext.drewN) | (refine Ext.setAt ?_ (by omega) _ _) | (refine Ext.trans ?_ (by assumption))))⟩⟩
      | some n =>
       obtain ⟨hpv, hpb⟩ := pib_some' hpar
       rw [hpv, hpb]
       have HN := Lib.hid hpar
       clear hpv hpb hpar
       have hQ2 := hQ.ext h2
       have hs2 := h2.size
       obtain ⟨aq, cq, hqv, hq1, hq2⟩ := hQ2.ints.val
       subst hqv
       have hxl : xs.length = j := by have := mapM_len _ HM.out; rw [List.length_take] at this; omega
       rw [hxl] at hq1 hQ2 ⊢
       have HXL := Lib.hid hxl
       have hqb : ∀ q, (Value.slice aq j cq).ownBlock = some q → w.heap.size + 2 ≤ q := fun q hq => (hQ2.block_lt hq).1
       have HQB := Lib.hid hqb; clear hqb hxl
       go_wp2_with (at_builtin; refine wpList_app _ rfl _ _ 27 rfl _ _ rfl rfl _ (run_push _ w2 (w.heap.size + 2) (.slice aq j cq) xs n hQ2 (by rw [HXL.out]; omega) (by omega)) ?_; rintro v4 w4 ⟨o4, g4, _⟩)
       go_roundw
       case rel =>
        refine ⟨j + 1, xs ++ [n], by omega, by go_num, Lib.hid ?_, o4, HB2.block (g4.block _ (by omega) (fun e => by have := HQB.out _ e.symm; omega)), hR2.block (g4.block _ (by omega) (fun e => by have := HQB.out _ e.symm; omega)), (hE.trans h2).only g4 (fun q hq => by have := HQB.out q hq; omega)⟩
        obtain ⟨hlt', e⟩ := List.getElem?_eq_some_iff.1 HX.out
        rw [List.take_succ_eq_append_getElem hlt', e]
        exact mapM_snoc _ HM.out HN.out
       case measure => simp [RowKit.intOf] <;> omega
    · have : j = pt.length := by omega
      subst this
      have hm := HM.out
      rw [List.take_length] at hm
      have HMM := Lib.hid hm
      clear hm HM hj hlt
      obtain ⟨wq, hwq⟩ : ∃ u, u = wr := ⟨_, rfl⟩
      subst hwq
      obtain ⟨z0, hz0⟩ : ∃ z, mkS p0 = z := ⟨_, rfl⟩
      have hcell0 := hBr.cell (j := 0) (u := .string z0) (by rw [strs_get, mkSs_get, ← hz0]; rfl)
      have HZ0 : Hid (z0.data.toList = p0) := Lib.hid (by rw [← hz0, mkS_list])
      clear hz0
      have hRl := hR.lt
      go_wp2_with fail
      go_loopw [11] (fun i wr => ∃ m : Nat, m ≤ 8 ∧ i = .int .i64 ((m : Int) + 1) ∧ Blk wr wq.heap.size 24 [.int .i64 (kUp m p0), .int .i64 0, .int .i64 0] ∧ Ext wq wr) (fun i _ => 9 - (RowKit.intOf i).toNat)
      case atStart => exact ⟨0, by omega, rfl, Blk.new wq #[.int .i64 0, .int .i64 0, .int .i64 0] 24, (by repeat' (first | (with_reducible first | exact Ext.refl _ | assumption | apply Ext.alloc | apply Ext.drew | apply Ext.drewN) | (refine Ext.setAt ?_ (by omega) _ _) | (refine Ext.trans ?_ (by assumption))))⟩
      case round =>
       obtain ⟨m, hm, rfl, hK, hE3⟩ := hrel
       have hs3 := hE3.size
       have hKl := hK.lt
       by_cases hm8 : m < 8
       · have hcell3 := hE3.cell hcell0
         have f0 := hK.free 0
         have k0 := hK.cell (j := 0) rfl
         obtain ⟨zn, hzn⟩ : ∃ z, mkS (nameL ((m : Int) + 1)) = z := ⟨_, rfl⟩
         have hnm : ∀ w, Calls Tryz.prog 55 #[.int .i64 ((m : Int) + 1)] w fun e w' => e = .returned (.string zn) ∧ w' = w := fun w => hzn ▸ (ringName_any _ w).mono fun _ _ h => ⟨h.1, h.2.symm⟩
         have HNM := Lib.hid hnm
         have HZN : Hid (zn.data.toList = nameL ((m : Int) + 1)) := Lib.hid (by rw [← hzn, mkS_list])
         clear hnm hzn
         by_cases hname : nameL ((m : Int) + 1) = p0
         · have heq := bytes_beq zn z0 (by rw [HZN.out, HZ0.out, hname])
           have HNAME := Lib.hid hname; clear hname
           go_wp2
           go_quiet ((go_at_call 55; exact Calls.quiet_of_same (HNM.out _)))
           go_wp2
           go_roundw
           case rel =>
            refine ⟨m + 1, by omega, by go_num, ?_, (by repeat' (first | (with_reducible first | exact Ext.refl _ | assumption | apply Ext.alloc | apply Ext.drew | apply Ext.drewN) | (refine Ext.setAt ?_ (by omega) _ _) | (refine Ext.trans ?_ (by assumption))))⟩
            have e : kUp (m + 1) p0 = (m : Int) + 1 := by rw [kUp, if_pos HNAME.out]
            rw [e]
            exact (hK.ext ((Ext.refl _).drewN _)).set 0 _
           case measure => simp [RowKit.intOf] <;> omega
         · have hne := str_beq_no (z := zn) (s := z0) (by rw [HZN.out, HZ0.out]; exact hname)
           have HNAME := Lib.hid hname; clear hname
           go_wp2
           go_quiet ((go_at_call 55; exact Calls.quiet_of_same (HNM.out _)))
           go_wp2
           go_roundw
           case rel =>
            refine ⟨m + 1, by omega, by go_num, ?_, (by repeat' (first | (with_reducible first | exact Ext.refl _ | assumption | apply Ext.alloc | apply Ext.drew | apply Ext.drewN) | (refine Ext.setAt ?_ (by omega) _ _) | (refine Ext.trans ?_ (by assumption))))⟩
            have e : kUp (m + 1) p0 = kUp m p0 := by rw [kUp, if_neg HNAME.out]
            rw [e]
            exact hK.ext ((Ext.refl _).drewN _)
           case measure => simp [RowKit.intOf] <;> omega
       · have : m = 8 := by omega
         subst this
         have hno := fun h => RP.no HP.out HMM.out h
         obtain ⟨K, hKK⟩ : ∃ K, kUp 8 p0 = K := ⟨_, rfl⟩
         rw [hKK] at hK hno
         have HNO := Lib.hid hno
         have hR3 := hR.ext hE3
         have hQ3 := hQ.ext hE3
         have T3 : Tab wq := hT.errs.tab.ext hE
         clear hno hKK hm hm8
         rcases list_cases xs with rfl | ⟨a, rfl⟩ | ⟨a, b, rfl⟩ | ⟨a, b, c, rr, rfl⟩
         · have AP : assP K [] = 0 := rfl
           have AN : assN K [] = 0 := rfl
           obtain ⟨aq, cq, hqv, hq1, hq2⟩ := hQ3.ints.val
           subst hqv
           have hno := HNO.out
           rw [show assP K _ = 0 from AP, show assN K _ = 0 from AN] at hno
           have HNO2 := Lib.hid hno
           clear hno AP AN
           have hK4 := hK
           have hR4 := hR3
           have hKc0 := hK.cell (j := 0) rfl; have hKc1 := hK.cell (j := 1) rfl; have hKc2 := hK.cell (j := 2) rfl
           have hKf1 := hK.free 1; have hKf2 := hK.free 2
           cases hr : ringOk K (0) (0)
           · have hr0 := hr
             go_wp2_with fail
             refine (ringOk_impl K (0) (0) _).mono ?_; rintro e5 w5 ⟨rfl, h5⟩; rw [hr]
             have hK5 := hK4.ext h5; have hR5 := hR4.ext h5
             have i50 : w5.cell? ⟨wq.heap.size, 0, none⟩ = some (.int .i64 K) := hK5.cell (j := 0) rfl; have i51 : w5.cell? ⟨wq.heap.size, 1, none⟩ = some (.int .i64 (0)) := hK5.cell (j := 1) rfl; have i52 : w5.cell? ⟨wq.heap.size, 2, none⟩ = some (.int .i64 (0)) := hK5.cell (j := 2) rfl
             have j50 := hR5.cell (j := 0) rfl; have j51 := hR5.cell (j := 1) rfl; have j52 := hR5.cell (j := 2) rfl
             have m50 := hR5.free 0; have m51 := hR5.free 1; have m52 := hR5.free 2; have hl5 := hR5.lt; have s5 := h5.size; (try simp at s5)
             go_wp2
             refine bodyPost_ret (v := .tuple #[ringV 0 0 0, .bool false]) (by simp [results, Tryz.results19, go_sem, *]) rfl ?_
             exact ⟨⟨0, 0, 0, false, rfl, HNO2.out (fun h => absurd h (by rw [hr]; simp)), (by repeat' (first | (with_reducible first | exact Ext.refl _ | assumption | apply Ext.alloc | apply Ext.drew | apply Ext.drewN) | (refine Ext.setAt ?_ (by omega) _ _) | (refine Ext.trans ?_ (by assumption))))⟩⟩
           · obtain ⟨y, hy⟩ : ∃ y, mkS (fmtRing K (0) (0)) = y := ⟨_, rfl⟩
             have HY : Hid (y.data.toList = fmtRing K (0) (0)) := Lib.hid (by rw [← hy, mkS_list])
             have HFR := Lib.hid (fun w (h : Tab w) => hy ▸ formatRing_impl K (0) (0) w h)
             clear hy
             by_cases ht : fmtRing K (0) (0) = s.data.toList
             · have hq := bytes_beq y s (by rw [HY.out, ht])
               have HT2 := Lib.hid ht
               have HR0 := Lib.hid hr
               have hq2 : (y.toList != s.toList) = false := by rw [bne, hq]; rfl
               clear ht
               go_wp2_with fail
               refine (ringOk_impl K (0) (0) _).mono ?_; rintro e5 w5 ⟨rfl, h5⟩; rw [hr]
               have hK5 := hK4.ext h5; have hR5 := hR4.ext h5
               have i50 : w5.cell? ⟨wq.heap.size, 0, none⟩ = some (.int .i64 K) := hK5.cell (j := 0) rfl; have i51 : w5.cell? ⟨wq.heap.size, 1, none⟩ = some (.int .i64 (0)) := hK5.cell (j := 1) rfl; have i52 : w5.cell? ⟨wq.heap.size, 2, none⟩ = some (.int .i64 (0)) := hK5.cell (j := 2) rfl
               have j50 := hR5.cell (j := 0) rfl; have j51 := hR5.cell (j := 1) rfl; have j52 := hR5.cell (j := 2) rfl
               have m50 := hR5.free 0; have m51 := hR5.free 1; have m52 := hR5.free 2; have hl5 := hR5.lt; have s5 := h5.size; (try simp at s5)
               have T5 : Tab w5 := T3.ext (by repeat' (first | (with_reducible first | exact Ext.refl _ | assumption | apply Ext.alloc | apply Ext.drew | apply Ext.drewN) | (refine Ext.setAt ?_ (by omega) _ _) | (refine Ext.trans ?_ (by assumption))))
               go_wp2_with fail
               refine (HFR.out _ T5).mono ?_; rintro e6 w6 ⟨rfl, h6⟩
               have hK6 := hK5.ext h6; have hR6 := hR5.ext h6
               have i60 : w6.cell? ⟨wq.heap.size, 0, none⟩ = some (.int .i64 K) := hK6.cell (j := 0) rfl; have i61 : w6.cell? ⟨wq.heap.size, 1, none⟩ = some (.int .i64 (0)) := hK6.cell (j := 1) rfl; have i62 : w6.cell? ⟨wq.heap.size, 2, none⟩ = some (.int .i64 (0)) := hK6.cell (j := 2) rfl
               have j60 := hR6.cell (j := 0) rfl; have j61 := hR6.cell (j := 1) rfl; have j62 := hR6.cell (j := 2) rfl
               have m60 := hR6.free 0; have m61 := hR6.free 1; have m62 := hR6.free 2; have hl6 := hR6.lt; have s6 := h6.size; (try simp at s6)
               go_wp2
               refine bodyPost_ret (v := .tuple #[ringV K (0) (0), .bool true]) (by simp [results, Tryz.results19, go_sem, *]) rfl ?_
               exact ⟨⟨K, 0, 0, true, rfl, RP.yes HR0.out HT2.out, (by repeat' (first | (with_reducible first | exact Ext.refl _ | assumption | apply Ext.alloc | apply Ext.drew | apply Ext.drewN) | (refine Ext.setAt ?_ (by omega) _ _) | (refine Ext.trans ?_ (by assumption))))⟩⟩
             · have hq := str_beq_no (z := y) (s := s) (by rw [HY.out]; exact ht)
               have HT2 := Lib.hid ht
               have HR0 := Lib.hid hr
               have hq2 : (y.toList != s.toList) = true := by rw [bne, hq]; rfl
               clear ht
               go_wp2_with fail
               refine (ringOk_impl K (0) (0) _).mono ?_; rintro e5 w5 ⟨rfl, h5⟩; rw [hr]
               have hK5 := hK4.ext h5; have hR5 := hR4.ext h5
               have i50 : w5.cell? ⟨wq.heap.size, 0, none⟩ = some (.int .i64 K) := hK5.cell (j := 0) rfl; have i51 : w5.cell? ⟨wq.heap.size, 1, none⟩ = some (.int .i64 (0)) := hK5.cell (j := 1) rfl; have i52 : w5.cell? ⟨wq.heap.size, 2, none⟩ = some (.int .i64 (0)) := hK5.cell (j := 2) rfl
               have j50 := hR5.cell (j := 0) rfl; have j51 := hR5.cell (j := 1) rfl; have j52 := hR5.cell (j := 2) rfl
               have m50 := hR5.free 0; have m51 := hR5.free 1; have m52 := hR5.free 2; have hl5 := hR5.lt; have s5 := h5.size; (try simp at s5)
               have T5 : Tab w5 := T3.ext (by repeat' (first | (with_reducible first | exact Ext.refl _ | assumption | apply Ext.alloc | apply Ext.drew | apply Ext.drewN) | (refine Ext.setAt ?_ (by omega) _ _) | (refine Ext.trans ?_ (by assumption))))
               go_wp2_with fail
               refine (HFR.out _ T5).mono ?_; rintro e6 w6 ⟨rfl, h6⟩
               have hK6 := hK5.ext h6; have hR6 := hR5.ext h6
               have i60 : w6.cell? ⟨wq.heap.size, 0, none⟩ = some (.int .i64 K) := hK6.cell (j := 0) rfl; have i61 : w6.cell? ⟨wq.heap.size, 1, none⟩ = some (.int .i64 (0)) := hK6.cell (j := 1) rfl; have i62 : w6.cell? ⟨wq.heap.size, 2, none⟩ = some (.int .i64 (0)) := hK6.cell (j := 2) rfl
               have j60 := hR6.cell (j := 0) rfl; have j61 := hR6.cell (j := 1) rfl; have j62 := hR6.cell (j := 2) rfl
               have m60 := hR6.free 0; have m61 := hR6.free 1; have m62 := hR6.free 2; have hl6 := hR6.lt; have s6 := h6.size; (try simp at s6)
               go_wp2
               refine bodyPost_ret (v := .tuple #[ringV 0 0 0, .bool false]) (by simp [results, Tryz.results19, go_sem, *]) rfl ?_
               exact ⟨⟨0, 0, 0, false, rfl, HNO2.out (fun _ => HT2.out), (by repeat' (first | (with_reducible first | exact Ext.refl _ | assumption | apply Ext.alloc | apply Ext.drew | apply Ext.drewN) | (refine Ext.setAt ?_ (by omega) _ _) | (refine Ext.trans ?_ (by assumption))))⟩⟩
         · obtain ⟨aq, cq, hqv, hq1, hq2⟩ := hQ3.ints.val
           subst hqv
           obtain ⟨bq, oq, ya, rfl, hca, hya, _⟩ := hQ3.ints.get (i := 0) (by simp)
           obtain rfl : a = ya := by simpa using hya
           clear hya
           rw [Nat.add_zero] at hca
           cases b6 : (K == 6)
           · have h6 : ¬ K = 6 := by rw [beq_eq_false_iff_ne] at b6; exact b6
             have AP : assP K [a] = a := by simp [assP, h6]
             have AN : assN K [a] = 0 := by simp [assN, h6]
             clear h6
             have hno := HNO.out
             rw [show assP K _ = a from AP, show assN K _ = 0 from AN] at hno
             have HNO2 := Lib.hid hno
             clear hno AP AN
             have hK4 := (hK.set 1 (.int .i64 a))
             have hR4 := (hR3.other (p := ⟨wq.heap.size, 1, none⟩) (by show wq.heap.size ≠ w.heap.size; omega) (.int .i64 a))
             have hKc0 := hK.cell (j := 0) rfl; have hKc1 := hK.cell (j := 1) rfl; have hKc2 := hK.cell (j := 2) rfl
             have hKf1 := hK.free 1; have hKf2 := hK.free 2
             cases hr : ringOk K (a) (0)
             · have hr0 := hr
               go_wp2_with fail
               refine (ringOk_impl K (a) (0) _).mono ?_; rintro e5 w5 ⟨rfl, h5⟩; rw [hr]
               have hK5 := hK4.ext h5; have hR5 := hR4.ext h5
               have i50 : w5.cell? ⟨wq.heap.size, 0, none⟩ = some (.int .i64 K) := hK5.cell (j := 0) rfl; have i51 : w5.cell? ⟨wq.heap.size, 1, none⟩ = some (.int .i64 (a)) := hK5.cell (j := 1) rfl; have i52 : w5.cell? ⟨wq.heap.size, 2, none⟩ = some (.int .i64 (0)) := hK5.cell (j := 2) rfl
               have j50 := hR5.cell (j := 0) rfl; have j51 := hR5.cell (j := 1) rfl; have j52 := hR5.cell (j := 2) rfl
               have m50 := hR5.free 0; have m51 := hR5.free 1; have m52 := hR5.free 2; have hl5 := hR5.lt; have s5 := h5.size; (try simp at s5)
               go_wp2
               refine bodyPost_ret (v := .tuple #[ringV 0 0 0, .bool false]) (by simp [results, Tryz.results19, go_sem, *]) rfl ?_
               exact ⟨⟨0, 0, 0, false, rfl, HNO2.out (fun h => absurd h (by rw [hr]; simp)), (by repeat' (first | (with_reducible first | exact Ext.refl _ | assumption | apply Ext.alloc | apply Ext.drew | apply Ext.drewN) | (refine Ext.setAt ?_ (by omega) _ _) | (refine Ext.trans ?_ (by assumption))))⟩⟩
             · obtain ⟨y, hy⟩ : ∃ y, mkS (fmtRing K (a) (0)) = y := ⟨_, rfl⟩
               have HY : Hid (y.data.toList = fmtRing K (a) (0)) := Lib.hid (by rw [← hy, mkS_list])
               have HFR := Lib.hid (fun w (h : Tab w) => hy ▸ formatRing_impl K (a) (0) w h)
               clear hy
               by_cases ht : fmtRing K (a) (0) = s.data.toList
               · have hq := bytes_beq y s (by rw [HY.out, ht])
                 have HT2 := Lib.hid ht
                 have HR0 := Lib.hid hr
                 have hq2 : (y.toList != s.toList) = false := by rw [bne, hq]; rfl
                 clear ht
                 go_wp2_with fail
                 refine (ringOk_impl K (a) (0) _).mono ?_; rintro e5 w5 ⟨rfl, h5⟩; rw [hr]
                 have hK5 := hK4.ext h5; have hR5 := hR4.ext h5
                 have i50 : w5.cell? ⟨wq.heap.size, 0, none⟩ = some (.int .i64 K) := hK5.cell (j := 0) rfl; have i51 : w5.cell? ⟨wq.heap.size, 1, none⟩ = some (.int .i64 (a)) := hK5.cell (j := 1) rfl; have i52 : w5.cell? ⟨wq.heap.size, 2, none⟩ = some (.int .i64 (0)) := hK5.cell (j := 2) rfl
                 have j50 := hR5.cell (j := 0) rfl; have j51 := hR5.cell (j := 1) rfl; have j52 := hR5.cell (j := 2) rfl
                 have m50 := hR5.free 0; have m51 := hR5.free 1; have m52 := hR5.free 2; have hl5 := hR5.lt; have s5 := h5.size; (try simp at s5)
                 have T5 : Tab w5 := T3.ext (by repeat' (first | (with_reducible first | exact Ext.refl _ | assumption | apply Ext.alloc | apply Ext.drew | apply Ext.drewN) | (refine Ext.setAt ?_ (by omega) _ _) | (refine Ext.trans ?_ (by assumption))))
                 go_wp2_with fail
                 refine (HFR.out _ T5).mono ?_; rintro e6 w6 ⟨rfl, h6⟩
                 have hK6 := hK5.ext h6; have hR6 := hR5.ext h6
                 have i60 : w6.cell? ⟨wq.heap.size, 0, none⟩ = some (.int .i64 K) := hK6.cell (j := 0) rfl; have i61 : w6.cell? ⟨wq.heap.size, 1, none⟩ = some (.int .i64 (a)) := hK6.cell (j := 1) rfl; have i62 : w6.cell? ⟨wq.heap.size, 2, none⟩ = some (.int .i64 (0)) := hK6.cell (j := 2) rfl
                 have j60 := hR6.cell (j := 0) rfl; have j61 := hR6.cell (j := 1) rfl; have j62 := hR6.cell (j := 2) rfl
                 have m60 := hR6.free 0; have m61 := hR6.free 1; have m62 := hR6.free 2; have hl6 := hR6.lt; have s6 := h6.size; (try simp at s6)
                 go_wp2
                 refine bodyPost_ret (v := .tuple #[ringV K (a) (0), .bool true]) (by simp [results, Tryz.results19, go_sem, *]) rfl ?_
                 exact ⟨⟨K, a, 0, true, rfl, RP.yes HR0.out HT2.out, (by repeat' (first | (with_reducible first | exact Ext.refl _ | assumption | apply Ext.alloc | apply Ext.drew | apply Ext.drewN) | (refine Ext.setAt ?_ (by omega) _ _) | (refine Ext.trans ?_ (by assumption))))⟩⟩
               · have hq := str_beq_no (z := y) (s := s) (by rw [HY.out]; exact ht)
                 have HT2 := Lib.hid ht
                 have HR0 := Lib.hid hr
                 have hq2 : (y.toList != s.toList) = true := by rw [bne, hq]; rfl
                 clear ht
                 go_wp2_with fail
                 refine (ringOk_impl K (a) (0) _).mono ?_; rintro e5 w5 ⟨rfl, h5⟩; rw [hr]
                 have hK5 := hK4.ext h5; have hR5 := hR4.ext h5
                 have i50 : w5.cell? ⟨wq.heap.size, 0, none⟩ = some (.int .i64 K) := hK5.cell (j := 0) rfl; have i51 : w5.cell? ⟨wq.heap.size, 1, none⟩ = some (.int .i64 (a)) := hK5.cell (j := 1) rfl; have i52 : w5.cell? ⟨wq.heap.size, 2, none⟩ = some (.int .i64 (0)) := hK5.cell (j := 2) rfl
                 have j50 := hR5.cell (j := 0) rfl; have j51 := hR5.cell (j := 1) rfl; have j52 := hR5.cell (j := 2) rfl
                 have m50 := hR5.free 0; have m51 := hR5.free 1; have m52 := hR5.free 2; have hl5 := hR5.lt; have s5 := h5.size; (try simp at s5)
                 have T5 : Tab w5 := T3.ext (by repeat' (first | (with_reducible first | exact Ext.refl _ | assumption | apply Ext.alloc | apply Ext.drew | apply Ext.drewN) | (refine Ext.setAt ?_ (by omega) _ _) | (refine Ext.trans ?_ (by assumption))))
                 go_wp2_with fail
                 refine (HFR.out _ T5).mono ?_; rintro e6 w6 ⟨rfl, h6⟩
                 have hK6 := hK5.ext h6; have hR6 := hR5.ext h6
                 have i60 : w6.cell? ⟨wq.heap.size, 0, none⟩ = some (.int .i64 K) := hK6.cell (j := 0) rfl; have i61 : w6.cell? ⟨wq.heap.size, 1, none⟩ = some (.int .i64 (a)) := hK6.cell (j := 1) rfl; have i62 : w6.cell? ⟨wq.heap.size, 2, none⟩ = some (.int .i64 (0)) := hK6.cell (j := 2) rfl
                 have j60 := hR6.cell (j := 0) rfl; have j61 := hR6.cell (j := 1) rfl; have j62 := hR6.cell (j := 2) rfl
                 have m60 := hR6.free 0; have m61 := hR6.free 1; have m62 := hR6.free 2; have hl6 := hR6.lt; have s6 := h6.size; (try simp at s6)
                 go_wp2
                 refine bodyPost_ret (v := .tuple #[ringV 0 0 0, .bool false]) (by simp [results, Tryz.results19, go_sem, *]) rfl ?_
                 exact ⟨⟨0, 0, 0, false, rfl, HNO2.out (fun _ => HT2.out), (by repeat' (first | (with_reducible first | exact Ext.refl _ | assumption | apply Ext.alloc | apply Ext.drew | apply Ext.drewN) | (refine Ext.setAt ?_ (by omega) _ _) | (refine Ext.trans ?_ (by assumption))))⟩⟩
           · have h6 : K = 6 := by rw [beq_iff_eq] at b6; exact b6
             have AP : assP K [a] = 0 := by simp [assP, h6]
             have AN : assN K [a] = a := by simp [assN, h6]
             clear h6
             have hno := HNO.out
             rw [show assP K _ = 0 from AP, show assN K _ = a from AN] at hno
             have HNO2 := Lib.hid hno
             clear hno AP AN
             have hK4 := (hK.set 2 (.int .i64 a))
             have hR4 := (hR3.other (p := ⟨wq.heap.size, 2, none⟩) (by show wq.heap.size ≠ w.heap.size; omega) (.int .i64 a))
             have hKc0 := hK.cell (j := 0) rfl; have hKc1 := hK.cell (j := 1) rfl; have hKc2 := hK.cell (j := 2) rfl
             have hKf1 := hK.free 1; have hKf2 := hK.free 2
             cases hr : ringOk K (0) (a)
             · have hr0 := hr
               go_wp2_with fail
               refine (ringOk_impl K (0) (a) _).mono ?_; rintro e5 w5 ⟨rfl, h5⟩; rw [hr]
               have hK5 := hK4.ext h5; have hR5 := hR4.ext h5
               have i50 : w5.cell? ⟨wq.heap.size, 0, none⟩ = some (.int .i64 K) := hK5.cell (j := 0) rfl; have i51 : w5.cell? ⟨wq.heap.size, 1, none⟩ = some (.int .i64 (0)) := hK5.cell (j := 1) rfl; have i52 : w5.cell? ⟨wq.heap.size, 2, none⟩ = some (.int .i64 (a)) := hK5.cell (j := 2) rfl
               have j50 := hR5.cell (j := 0) rfl; have j51 := hR5.cell (j := 1) rfl; have j52 := hR5.cell (j := 2) rfl
               have m50 := hR5.free 0; have m51 := hR5.free 1; have m52 := hR5.free 2; have hl5 := hR5.lt; have s5 := h5.size; (try simp at s5)
               go_wp2
               refine bodyPost_ret (v := .tuple #[ringV 0 0 0, .bool false]) (by simp [results, Tryz.results19, go_sem, *]) rfl ?_
               exact ⟨⟨0, 0, 0, false, rfl, HNO2.out (fun h => absurd h (by rw [hr]; simp)), (by repeat' (first | (with_reducible first | exact Ext.refl _ | assumption | apply Ext.alloc | apply Ext.drew | apply Ext.drewN) | (refine Ext.setAt ?_ (by omega) _ _) | (refine Ext.trans ?_ (by assumption))))⟩⟩
             · obtain ⟨y, hy⟩ : ∃ y, mkS (fmtRing K (0) (a)) = y := ⟨_, rfl⟩
               have HY : Hid (y.data.toList = fmtRing K (0) (a)) := Lib.hid (by rw [← hy, mkS_list])
               have HFR := Lib.hid (fun w (h : Tab w) => hy ▸ formatRing_impl K (0) (a) w h)
               clear hy
               by_cases ht : fmtRing K (0) (a) = s.data.toList
               · have hq := bytes_beq y s (by rw [HY.out, ht])
                 have HT2 := Lib.hid ht
                 have HR0 := Lib.hid hr
                 have hq2 : (y.toList != s.toList) = false := by rw [bne, hq]; rfl
                 clear ht
                 go_wp2_with fail
                 refine (ringOk_impl K (0) (a) _).mono ?_; rintro e5 w5 ⟨rfl, h5⟩; rw [hr]
                 have hK5 := hK4.ext h5; have hR5 := hR4.ext h5
                 have i50 : w5.cell? ⟨wq.heap.size, 0, none⟩ = some (.int .i64 K) := hK5.cell (j := 0) rfl; have i51 : w5.cell? ⟨wq.heap.size, 1, none⟩ = some (.int .i64 (0)) := hK5.cell (j := 1) rfl; have i52 : w5.cell? ⟨wq.heap.size, 2, none⟩ = some (.int .i64 (a)) := hK5.cell (j := 2) rfl
                 have j50 := hR5.cell (j := 0) rfl; have j51 := hR5.cell (j := 1) rfl; have j52 := hR5.cell (j := 2) rfl
                 have m50 := hR5.free 0; have m51 := hR5.free 1; have m52 := hR5.free 2; have hl5 := hR5.lt; have s5 := h5.size; (try simp at s5)
                 have T5 : Tab w5 := T3.ext (by repeat' (first | (with_reducible first | exact Ext.refl _ | assumption | apply Ext.alloc | apply Ext.drew | apply Ext.drewN) | (refine Ext.setAt ?_ (by omega) _ _) | (refine Ext.trans ?_ (by assumption))))
                 go_wp2_with fail
                 refine (HFR.out _ T5).mono ?_; rintro e6 w6 ⟨rfl, h6⟩
                 have hK6 := hK5.ext h6; have hR6 := hR5.ext h6
                 have i60 : w6.cell? ⟨wq.heap.size, 0, none⟩ = some (.int .i64 K) := hK6.cell (j := 0) rfl; have i61 : w6.cell? ⟨wq.heap.size, 1, none⟩ = some (.int .i64 (0)) := hK6.cell (j := 1) rfl; have i62 : w6.cell? ⟨wq.heap.size, 2, none⟩ = some (.int .i64 (a)) := hK6.cell (j := 2) rfl
                 have j60 := hR6.cell (j := 0) rfl; have j61 := hR6.cell (j := 1) rfl; have j62 := hR6.cell (j := 2) rfl
                 have m60 := hR6.free 0; have m61 := hR6.free 1; have m62 := hR6.free 2; have hl6 := hR6.lt; have s6 := h6.size; (try simp at s6)
                 go_wp2
                 refine bodyPost_ret (v := .tuple #[ringV K (0) (a), .bool true]) (by simp [results, Tryz.results19, go_sem, *]) rfl ?_
                 exact ⟨⟨K, 0, a, true, rfl, RP.yes HR0.out HT2.out, (by repeat' (first | (with_reducible first | exact Ext.refl _ | assumption | apply Ext.alloc | apply Ext.drew | apply Ext.drewN) | (refine Ext.setAt ?_ (by omega) _ _) | (refine Ext.trans ?_ (by assumption))))⟩⟩
               · have hq := str_beq_no (z := y) (s := s) (by rw [HY.out]; exact ht)
                 have HT2 := Lib.hid ht
                 have HR0 := Lib.hid hr
                 have hq2 : (y.toList != s.toList) = true := by rw [bne, hq]; rfl
                 clear ht
                 go_wp2_with fail
                 refine (ringOk_impl K (0) (a) _).mono ?_; rintro e5 w5 ⟨rfl, h5⟩; rw [hr]
                 have hK5 := hK4.ext h5; have hR5 := hR4.ext h5
                 have i50 : w5.cell? ⟨wq.heap.size, 0, none⟩ = some (.int .i64 K) := hK5.cell (j := 0) rfl; have i51 : w5.cell? ⟨wq.heap.size, 1, none⟩ = some (.int .i64 (0)) := hK5.cell (j := 1) rfl; have i52 : w5.cell? ⟨wq.heap.size, 2, none⟩ = some (.int .i64 (a)) := hK5.cell (j := 2) rfl
                 have j50 := hR5.cell (j := 0) rfl; have j51 := hR5.cell (j := 1) rfl; have j52 := hR5.cell (j := 2) rfl
                 have m50 := hR5.free 0; have m51 := hR5.free 1; have m52 := hR5.free 2; have hl5 := hR5.lt; have s5 := h5.size; (try simp at s5)
                 have T5 : Tab w5 := T3.ext (by repeat' (first | (with_reducible first | exact Ext.refl _ | assumption | apply Ext.alloc | apply Ext.drew | apply Ext.drewN) | (refine Ext.setAt ?_ (by omega) _ _) | (refine Ext.trans ?_ (by assumption))))
                 go_wp2_with fail
                 refine (HFR.out _ T5).mono ?_; rintro e6 w6 ⟨rfl, h6⟩
                 have hK6 := hK5.ext h6; have hR6 := hR5.ext h6
                 have i60 : w6.cell? ⟨wq.heap.size, 0, none⟩ = some (.int .i64 K) := hK6.cell (j := 0) rfl; have i61 : w6.cell? ⟨wq.heap.size, 1, none⟩ = some (.int .i64 (0)) := hK6.cell (j := 1) rfl; have i62 : w6.cell? ⟨wq.heap.size, 2, none⟩ = some (.int .i64 (a)) := hK6.cell (j := 2) rfl
                 have j60 := hR6.cell (j := 0) rfl; have j61 := hR6.cell (j := 1) rfl; have j62 := hR6.cell (j := 2) rfl
                 have m60 := hR6.free 0; have m61 := hR6.free 1; have m62 := hR6.free 2; have hl6 := hR6.lt; have s6 := h6.size; (try simp at s6)
                 go_wp2
                 refine bodyPost_ret (v := .tuple #[ringV 0 0 0, .bool false]) (by simp [results, Tryz.results19, go_sem, *]) rfl ?_
                 exact ⟨⟨0, 0, 0, false, rfl, HNO2.out (fun _ => HT2.out), (by repeat' (first | (with_reducible first | exact Ext.refl _ | assumption | apply Ext.alloc | apply Ext.drew | apply Ext.drewN) | (refine Ext.setAt ?_ (by omega) _ _) | (refine Ext.trans ?_ (by assumption))))⟩⟩
         · have AP : assP K [a, b] = a := rfl
           have AN : assN K [a, b] = b := rfl
           obtain ⟨aq, cq, hqv, hq1, hq2⟩ := hQ3.ints.val
           subst hqv
           obtain ⟨bq, oq, ya, rfl, hca, hya, _⟩ := hQ3.ints.get (i := 0) (by simp)
           obtain rfl : a = ya := by simpa using hya
           obtain ⟨bq', oq', yb, hqq, hcb, hyb, _⟩ := hQ3.ints.get (i := 1) (by simp)
           cases hqq
           obtain rfl : b = yb := by simpa using hyb
           have hbk := hQ.block_lt (k := bq) rfl
           have hbn : ¬ bq = wq.heap.size := by omega
           have hbn2 : ¬ wq.heap.size = bq := by omega
           clear hya hyb
           rw [Nat.add_zero] at hca
           have hno := HNO.out
           rw [show assP K _ = a from AP, show assN K _ = b from AN] at hno
           have HNO2 := Lib.hid hno
           clear hno AP AN
           have hK4 := ((hK.set 1 (.int .i64 a)).set 2 (.int .i64 b))
           have hR4 := ((hR3.other (p := ⟨wq.heap.size, 1, none⟩) (by show wq.heap.size ≠ w.heap.size; omega) (.int .i64 a)).other (p := ⟨wq.heap.size, 2, none⟩) (by show wq.heap.size ≠ w.heap.size; omega) (.int .i64 b))
           have hKc0 := hK.cell (j := 0) rfl; have hKc1 := hK.cell (j := 1) rfl; have hKc2 := hK.cell (j := 2) rfl
           have hKf1 := hK.free 1; have hKf2 := hK.free 2
           cases hr : ringOk K (a) (b)
           · have hr0 := hr
             go_wp2_with fail
             refine (ringOk_impl K (a) (b) _).mono ?_; rintro e5 w5 ⟨rfl, h5⟩; rw [hr]
             have hK5 := hK4.ext h5; have hR5 := hR4.ext h5
             have i50 : w5.cell? ⟨wq.heap.size, 0, none⟩ = some (.int .i64 K) := hK5.cell (j := 0) rfl; have i51 : w5.cell? ⟨wq.heap.size, 1, none⟩ = some (.int .i64 (a)) := hK5.cell (j := 1) rfl; have i52 : w5.cell? ⟨wq.heap.size, 2, none⟩ = some (.int .i64 (b)) := hK5.cell (j := 2) rfl
             have j50 := hR5.cell (j := 0) rfl; have j51 := hR5.cell (j := 1) rfl; have j52 := hR5.cell (j := 2) rfl
             have m50 := hR5.free 0; have m51 := hR5.free 1; have m52 := hR5.free 2; have hl5 := hR5.lt; have s5 := h5.size; (try simp at s5)
             go_wp2
             refine bodyPost_ret (v := .tuple #[ringV 0 0 0, .bool false]) (by simp [results, Tryz.results19, go_sem, *]) rfl ?_
             exact ⟨⟨0, 0, 0, false, rfl, HNO2.out (fun h => absurd h (by rw [hr]; simp)), (by repeat' (first | (with_reducible first | exact Ext.refl _ | assumption | apply Ext.alloc | apply Ext.drew | apply Ext.drewN) | (refine Ext.setAt ?_ (by omega) _ _) | (refine Ext.trans ?_ (by assumption))))⟩⟩
           · obtain ⟨y, hy⟩ : ∃ y, mkS (fmtRing K (a) (b)) = y := ⟨_, rfl⟩
             have HY : Hid (y.data.toList = fmtRing K (a) (b)) := Lib.hid (by rw [← hy, mkS_list])
             have HFR := Lib.hid (fun w (h : Tab w) => hy ▸ formatRing_impl K (a) (b) w h)
             clear hy
             by_cases ht : fmtRing K (a) (b) = s.data.toList
             · have hq := bytes_beq y s (by rw [HY.out, ht])
               have HT2 := Lib.hid ht
               have HR0 := Lib.hid hr
               have hq2 : (y.toList != s.toList) = false := by rw [bne, hq]; rfl
               clear ht
               go_wp2_with fail
               refine (ringOk_impl K (a) (b) _).mono ?_; rintro e5 w5 ⟨rfl, h5⟩; rw [hr]
               have hK5 := hK4.ext h5; have hR5 := hR4.ext h5
               have i50 : w5.cell? ⟨wq.heap.size, 0, none⟩ = some (.int .i64 K) := hK5.cell (j := 0) rfl; have i51 : w5.cell? ⟨wq.heap.size, 1, none⟩ = some (.int .i64 (a)) := hK5.cell (j := 1) rfl; have i52 : w5.cell? ⟨wq.heap.size, 2, none⟩ = some (.int .i64 (b)) := hK5.cell (j := 2) rfl
               have j50 := hR5.cell (j := 0) rfl; have j51 := hR5.cell (j := 1) rfl; have j52 := hR5.cell (j := 2) rfl
               have m50 := hR5.free 0; have m51 := hR5.free 1; have m52 := hR5.free 2; have hl5 := hR5.lt; have s5 := h5.size; (try simp at s5)
               have T5 : Tab w5 := T3.ext (by repeat' (first | (with_reducible first | exact Ext.refl _ | assumption | apply Ext.alloc | apply Ext.drew | apply Ext.drewN) | (refine Ext.setAt ?_ (by omega) _ _) | (refine Ext.trans ?_ (by assumption))))
               go_wp2_with fail
               refine (HFR.out _ T5).mono ?_; rintro e6 w6 ⟨rfl, h6⟩
               have hK6 := hK5.ext h6; have hR6 := hR5.ext h6
               have i60 : w6.cell? ⟨wq.heap.size, 0, none⟩ = some (.int .i64 K) := hK6.cell (j := 0) rfl; have i61 : w6.cell? ⟨wq.heap.size, 1, none⟩ = some (.int .i64 (a)) := hK6.cell (j := 1) rfl; have i62 : w6.cell? ⟨wq.heap.size, 2, none⟩ = some (.int .i64 (b)) := hK6.cell (j := 2) rfl
               have j60 := hR6.cell (j := 0) rfl; have j61 := hR6.cell (j := 1) rfl; have j62 := hR6.cell (j := 2) rfl
               have m60 := hR6.free 0; have m61 := hR6.free 1; have m62 := hR6.free 2; have hl6 := hR6.lt; have s6 := h6.size; (try simp at s6)
               go_wp2
               refine bodyPost_ret (v := .tuple #[ringV K (a) (b), .bool true]) (by simp [results, Tryz.results19, go_sem, *]) rfl ?_
               exact ⟨⟨K, a, b, true, rfl, RP.yes HR0.out HT2.out, (by repeat' (first | (with_reducible first | exact Ext.refl _ | assumption | apply Ext.alloc | apply Ext.drew | apply Ext.drewN) | (refine Ext.setAt ?_ (by omega) _ _) | (refine Ext.trans ?_ (by assumption))))⟩⟩
             · have hq := str_beq_no (z := y) (s := s) (by rw [HY.out]; exact ht)
               have HT2 := Lib.hid ht
               have HR0 := Lib.hid hr
               have hq2 : (y.toList != s.toList) = true := by rw [bne, hq]; rfl
               clear ht
               go_wp2_with fail
               refine (ringOk_impl K (a) (b) _).mono ?_; rintro e5 w5 ⟨rfl, h5⟩; rw [hr]
               have hK5 := hK4.ext h5; have hR5 := hR4.ext h5
               have i50 : w5.cell? ⟨wq.heap.size, 0, none⟩ = some (.int .i64 K) := hK5.cell (j := 0) rfl; have i51 : w5.cell? ⟨wq.heap.size, 1, none⟩ = some (.int .i64 (a)) := hK5.cell (j := 1) rfl; have i52 : w5.cell? ⟨wq.heap.size, 2, none⟩ = some (.int .i64 (b)) := hK5.cell (j := 2) rfl
               have j50 := hR5.cell (j := 0) rfl; have j51 := hR5.cell (j := 1) rfl; have j52 := hR5.cell (j := 2) rfl
               have m50 := hR5.free 0; have m51 := hR5.free 1; have m52 := hR5.free 2; have hl5 := hR5.lt; have s5 := h5.size; (try simp at s5)
               have T5 : Tab w5 := T3.ext (by repeat' (first | (with_reducible first | exact Ext.refl _ | assumption | apply Ext.alloc | apply Ext.drew | apply Ext.drewN) | (refine Ext.setAt ?_ (by omega) _ _) | (refine Ext.trans ?_ (by assumption))))
               go_wp2_with fail
               refine (HFR.out _ T5).mono ?_; rintro e6 w6 ⟨rfl, h6⟩
               have hK6 := hK5.ext h6; have hR6 := hR5.ext h6
               have i60 : w6.cell? ⟨wq.heap.size, 0, none⟩ = some (.int .i64 K) := hK6.cell (j := 0) rfl; have i61 : w6.cell? ⟨wq.heap.size, 1, none⟩ = some (.int .i64 (a)) := hK6.cell (j := 1) rfl; have i62 : w6.cell? ⟨wq.heap.size, 2, none⟩ = some (.int .i64 (b)) := hK6.cell (j := 2) rfl
               have j60 := hR6.cell (j := 0) rfl; have j61 := hR6.cell (j := 1) rfl; have j62 := hR6.cell (j := 2) rfl
               have m60 := hR6.free 0; have m61 := hR6.free 1; have m62 := hR6.free 2; have hl6 := hR6.lt; have s6 := h6.size; (try simp at s6)
               go_wp2
               refine bodyPost_ret (v := .tuple #[ringV 0 0 0, .bool false]) (by simp [results, Tryz.results19, go_sem, *]) rfl ?_
               exact ⟨⟨0, 0, 0, false, rfl, HNO2.out (fun _ => HT2.out), (by repeat' (first | (with_reducible first | exact Ext.refl _ | assumption | apply Ext.alloc | apply Ext.drew | apply Ext.drewN) | (refine Ext.setAt ?_ (by omega) _ _) | (refine Ext.trans ?_ (by assumption))))⟩⟩
         · have AP : assP K (a :: b :: c :: rr) = 0 := rfl
           have AN : assN K (a :: b :: c :: rr) = 0 := rfl
           obtain ⟨aq, cq, hqv, hq1, hq2⟩ := hQ3.ints.val
           subst hqv
           have hno := HNO.out
           rw [show assP K _ = 0 from AP, show assN K _ = 0 from AN] at hno
           have HNO2 := Lib.hid hno
           clear hno AP AN
           have hK4 := hK
           have hR4 := hR3
           have hKc0 := hK.cell (j := 0) rfl; have hKc1 := hK.cell (j := 1) rfl; have hKc2 := hK.cell (j := 2) rfl
           have hKf1 := hK.free 1; have hKf2 := hK.free 2
           cases hr : ringOk K (0) (0)
           · have hr0 := hr
             go_wp2_with fail
             refine (ringOk_impl K (0) (0) _).mono ?_; rintro e5 w5 ⟨rfl, h5⟩; rw [hr]
             have hK5 := hK4.ext h5; have hR5 := hR4.ext h5
             have i50 : w5.cell? ⟨wq.heap.size, 0, none⟩ = some (.int .i64 K) := hK5.cell (j := 0) rfl; have i51 : w5.cell? ⟨wq.heap.size, 1, none⟩ = some (.int .i64 (0)) := hK5.cell (j := 1) rfl; have i52 : w5.cell? ⟨wq.heap.size, 2, none⟩ = some (.int .i64 (0)) := hK5.cell (j := 2) rfl
             have j50 := hR5.cell (j := 0) rfl; have j51 := hR5.cell (j := 1) rfl; have j52 := hR5.cell (j := 2) rfl
             have m50 := hR5.free 0; have m51 := hR5.free 1; have m52 := hR5.free 2; have hl5 := hR5.lt; have s5 := h5.size; (try simp at s5)
             go_wp2
             refine bodyPost_ret (v := .tuple #[ringV 0 0 0, .bool false]) (by simp [results, Tryz.results19, go_sem, *]) rfl ?_
             exact ⟨⟨0, 0, 0, false, rfl, HNO2.out (fun h => absurd h (by rw [hr]; simp)), (by repeat' (first | (with_reducible first | exact Ext.refl _ | assumption | apply Ext.alloc | apply Ext.drew | apply Ext.drewN) | (refine Ext.setAt ?_ (by omega) _ _) | (refine Ext.trans ?_ (by assumption))))⟩⟩
           · obtain ⟨y, hy⟩ : ∃ y, mkS (fmtRing K (0) (0)) = y := ⟨_, rfl⟩
             have HY : Hid (y.data.toList = fmtRing K (0) (0)) := Lib.hid (by rw [← hy, mkS_list])
             have HFR := Lib.hid (fun w (h : Tab w) => hy ▸ formatRing_impl K (0) (0) w h)
             clear hy
             by_cases ht : fmtRing K (0) (0) = s.data.toList
             · have hq := bytes_beq y s (by rw [HY.out, ht])
               have HT2 := Lib.hid ht
               have HR0 := Lib.hid hr
               have hq2 : (y.toList != s.toList) = false := by rw [bne, hq]; rfl
               clear ht
               go_wp2_with fail
               refine (ringOk_impl K (0) (0) _).mono ?_; rintro e5 w5 ⟨rfl, h5⟩; rw [hr]
               have hK5 := hK4.ext h5; have hR5 := hR4.ext h5
               have i50 : w5.cell? ⟨wq.heap.size, 0, none⟩ = some (.int .i64 K) := hK5.cell (j := 0) rfl; have i51 : w5.cell? ⟨wq.heap.size, 1, none⟩ = some (.int .i64 (0)) := hK5.cell (j := 1) rfl; have i52 : w5.cell? ⟨wq.heap.size, 2, none⟩ = some (.int .i64 (0)) := hK5.cell (j := 2) rfl
               have j50 := hR5.cell (j := 0) rfl; have j51 := hR5.cell (j := 1) rfl; have j52 := hR5.cell (j := 2) rfl
               have m50 := hR5.free 0; have m51 := hR5.free 1; have m52 := hR5.free 2; have hl5 := hR5.lt; have s5 := h5.size; (try simp at s5)
               have T5 : Tab w5 := T3.ext (by repeat' (first | (with_reducible first | exact Ext.refl _ | assumption | apply Ext.alloc | apply Ext.drew | apply Ext.drewN) | (refine Ext.setAt ?_ (by omega) _ _) | (refine Ext.trans ?_ (by assumption))))
               go_wp2_with fail
               refine (HFR.out _ T5).mono ?_; rintro e6 w6 ⟨rfl, h6⟩
               have hK6 := hK5.ext h6; have hR6 := hR5.ext h6
               have i60 : w6.cell? ⟨wq.heap.size, 0, none⟩ = some (.int .i64 K) := hK6.cell (j := 0) rfl; have i61 : w6.cell? ⟨wq.heap.size, 1, none⟩ = some (.int .i64 (0)) := hK6.cell (j := 1) rfl; have i62 : w6.cell? ⟨wq.heap.size, 2, none⟩ = some (.int .i64 (0)) := hK6.cell (j := 2) rfl
               have j60 := hR6.cell (j := 0) rfl; have j61 := hR6.cell (j := 1) rfl; have j62 := hR6.cell (j := 2) rfl
               have m60 := hR6.free 0; have m61 := hR6.free 1; have m62 := hR6.free 2; have hl6 := hR6.lt; have s6 := h6.size; (try simp at s6)
               go_wp2
               refine bodyPost_ret (v := .tuple #[ringV K (0) (0), .bool true]) (by simp [results, Tryz.results19, go_sem, *]) rfl ?_
               exact ⟨⟨K, 0, 0, true, rfl, RP.yes HR0.out HT2.out, (by repeat' (first | (with_reducible first | exact Ext.refl _ | assumption | apply Ext.alloc | apply Ext.drew | apply Ext.drewN) | (refine Ext.setAt ?_ (by omega) _ _) | (refine Ext.trans ?_ (by assumption))))⟩⟩
             · have hq := str_beq_no (z := y) (s := s) (by rw [HY.out]; exact ht)
               have HT2 := Lib.hid ht
               have HR0 := Lib.hid hr
               have hq2 : (y.toList != s.toList) = true := by rw [bne, hq]; rfl
               clear ht
               go_wp2_with fail
               refine (ringOk_impl K (0) (0) _).mono ?_; rintro e5 w5 ⟨rfl, h5⟩; rw [hr]
               have hK5 := hK4.ext h5; have hR5 := hR4.ext h5
               have i50 : w5.cell? ⟨wq.heap.size, 0, none⟩ = some (.int .i64 K) := hK5.cell (j := 0) rfl; have i51 : w5.cell? ⟨wq.heap.size, 1, none⟩ = some (.int .i64 (0)) := hK5.cell (j := 1) rfl; have i52 : w5.cell? ⟨wq.heap.size, 2, none⟩ = some (.int .i64 (0)) := hK5.cell (j := 2) rfl
               have j50 := hR5.cell (j := 0) rfl; have j51 := hR5.cell (j := 1) rfl; have j52 := hR5.cell (j := 2) rfl
               have m50 := hR5.free 0; have m51 := hR5.free 1; have m52 := hR5.free 2; have hl5 := hR5.lt; have s5 := h5.size; (try simp at s5)
               have T5 : Tab w5 := T3.ext (by repeat' (first | (with_reducible first | exact Ext.refl _ | assumption | apply Ext.alloc | apply Ext.drew | apply Ext.drewN) | (refine Ext.setAt ?_ (by omega) _ _) | (refine Ext.trans ?_ (by assumption))))
               go_wp2_with fail
               refine (HFR.out _ T5).mono ?_; rintro e6 w6 ⟨rfl, h6⟩
               have hK6 := hK5.ext h6; have hR6 := hR5.ext h6
               have i60 : w6.cell? ⟨wq.heap.size, 0, none⟩ = some (.int .i64 K) := hK6.cell (j := 0) rfl; have i61 : w6.cell? ⟨wq.heap.size, 1, none⟩ = some (.int .i64 (0)) := hK6.cell (j := 1) rfl; have i62 : w6.cell? ⟨wq.heap.size, 2, none⟩ = some (.int .i64 (0)) := hK6.cell (j := 2) rfl
               have j60 := hR6.cell (j := 0) rfl; have j61 := hR6.cell (j := 1) rfl; have j62 := hR6.cell (j := 2) rfl
               have m60 := hR6.free 0; have m61 := hR6.free 1; have m62 := hR6.free 2; have hl6 := hR6.lt; have s6 := h6.size; (try simp at s6)
               go_wp2
               refine bodyPost_ret (v := .tuple #[ringV 0 0 0, .bool false]) (by simp [results, Tryz.results19, go_sem, *]) rfl ?_
               exact ⟨⟨0, 0, 0, false, rfl, HNO2.out (fun _ => HT2.out), (by repeat' (first | (with_reducible first | exact Ext.refl _ | assumption | apply Ext.alloc | apply Ext.drew | apply Ext.drewN) | (refine Ext.setAt ?_ (by omega) _ _) | (refine Ext.trans ?_ (by assumption))))⟩⟩
end Go.Proofs.YtlgjddgajdjllaaGreatDoor
