/- ParseRing of the reference. -/
import Derived.Test.YtlgjddgajdjllaaGreatDoorQPRingW
set_option linter.unusedSimpArgs false
set_option linter.unusedVariables false
namespace Go.Proofs.YtlgjddgajdjllaaGreatDoor
open Go.RowKit
open Go.Lib
theorem tail_get (l : List (List UInt8)) (j : Nat) : l.tail[j]? = l[j + 1]? := by
  cases l with
  | nil => simp
  | cons a l => simp
theorem words_mem_le {s : List UInt8} {p : List UInt8} (h : p ∈ wordsL s) : p.length ≤ s.length := by
  rw [wordsL] at h
  exact sp_piece_le (List.mem_filter.1 h).1
theorem ref_nil (k : Int) : refP k [] = 0 ∧ refN k [] = 0 := ⟨rfl, rfl⟩
theorem ref_one6 {k a : Int} (h : k = 6) : refP k [a] = 0 ∧ refN k [a] = a := by simp [refP, refN, h]
theorem ref_one {k a : Int} (h : ¬ k = 6) : refP k [a] = a ∧ refN k [a] = 0 := by simp [refP, refN, h]
theorem ref_two6 {k a b : Int} {r : List Int} (h : k = 6) : refP k (a :: b :: r) = 0 ∧ refN k (a :: b :: r) = b := by simp [refP, refN, h]
theorem ref_two {k a b : Int} {r : List Int} (h : ¬ k = 6) : refP k (a :: b :: r) = a ∧ refN k (a :: b :: r) = b := by simp [refP, refN, h]
theorem two_cases (xs : List Int) : xs = [] ∨ (∃ a, xs = [a]) ∨ ∃ a b r, xs = a :: b :: r := by
  match xs with
  | [] => exact .inl rfl
  | [a] => exact .inr (.inl ⟨a, rfl⟩)
  | a :: b :: r => exact .inr (.inr ⟨a, b, r, rfl⟩)
set_option maxRecDepth 100000 in
set_option maxHeartbeats 8000000 in
theorem parseRing_spec (s : ByteArray) (w : World) (hs : s.size ≤ 1073741824) : Calls Tryz.prog 34 #[.string s] w fun e w' => RingR s.data.toList w w' e := by
  obtain ⟨ws, hws⟩ : ∃ ws, wordsL s.data.toList = ws := ⟨_, rfl⟩
  have hpl : ∀ p ∈ ws, p.length ≤ s.size := fun p hq => by rw [← hws] at hq; have := words_mem_le hq; rwa [slen] at this
  have hle := words_le s.data.toList
  rw [hws, slen] at hle
  have A : ∀ w, Calls Tryz.prog 35 #[.string s] w fun e w' => ∃ v, e = .returned v ∧ OwnStr w' w.heap.size v (mkSs ws) ∧ Ext w w' := fun w => hws ▸ words_spec s w hs
  have hbad : ws.tail.mapM parseI = none → RP s.data.toList 0 0 0 false := fun h => RP.badW (by rw [hws]; exact h)
  have hnow : ∀ xs, ws.tail.mapM parseI = some xs → (∀ k : Nat, 1 ≤ k → k < 9 → s.data.toList ≠ [] → fmtRing k (refP k xs) (refN k xs) ≠ s.data.toList) → RP s.data.toList 0 0 0 false := fun xs h => RP.noW (by rw [hws]; exact h)
  have HA := Lib.hid A; have HPL := Lib.hid hpl; have HBAD := Lib.hid hbad; have HNOW := Lib.hid hnow
  have hwl : (mkSs ws).length = ws.length := mkSs_length ws
  clear A hpl hws hbad hnow
  go_enter Tryz.func34, Tryz.ntmps34
  go_wp2_with fail
  refine (HA.out _).mono ?_; rintro e1 w1 ⟨v1, rfl, o1, h1⟩
  have hR1 := (Blk.new w #[.int .i64 0, .int .i64 0, .int .i64 0] 24).ext h1
  have E1 : Ext w w1 := (by repeat' (first | (with_reducible first | exact Ext.refl _ | assumption | apply Ext.alloc | apply Ext.drew | apply Ext.drewN) | (refine Ext.setAt ?_ (by omega) _ _) | (refine Ext.trans ?_ (by assumption))))
  have hR1 : Blk w1 w.heap.size 24 [.int .i64 0, .int .i64 0, .int .i64 0] := hR1
  obtain ⟨aw, cw, hvw, hw1, hw2⟩ := o1.strs.val
  subst hvw
  rw [hwl] at hw1 o1 ⊢
  have hb1 := hR1.lt
  have hs1 := E1.size
  have O1 : StrS w1 (.slice aw ws.length cw) (mkSs ws) := o1.strs
  clear o1
  go_wp2_with fail
  go_loopw [5, 6] (fun q i wr => ∃ j : Nat, ∃ xs : List Int, j ≤ ws.tail.length ∧ i = .int .i64 ((j : Int) + 1) ∧ Hid ((ws.tail.take j).mapM parseI = some xs) ∧ OwnI wr w1.heap.size q xs ∧ Ext w1 wr) (fun q i _ => ws.length - (RowKit.intOf i).toNat)
  case atStart => exact ⟨0, [], Nat.zero_le _, rfl, Lib.hid rfl, OwnI.empty' (Nat.le_refl _) rfl, (by repeat' (first | (with_reducible first | exact Ext.refl _ | assumption | apply Ext.alloc | apply Ext.drew | apply Ext.drewN) | (refine Ext.setAt ?_ (by omega) _ _) | (refine Ext.trans ?_ (by assumption))))⟩
  case round =>
    obtain ⟨j, xs, hj, rfl, HM, hQ, hE⟩ := hrel
    have hsE := hE.size
    have hR := hR1.ext hE
    have hO := O1.ext hE
    rw [List.length_tail] at hj
    by_cases hlt : j + 1 < ws.length
    · obtain ⟨x, hx⟩ : ∃ x, ws[j + 1]? = some x := ⟨_, List.getElem?_eq_getElem hlt⟩
      obtain ⟨bw, ow, y, haw, hcell, hy, _⟩ := hO.get (i := j + 1) (by rw [hwl]; exact hlt)
      rw [mkSs_get, hx] at hy
      have hy : mkS x = y := Option.some.inj hy
      have hxs : (mkS x).size ≤ 1099511627776 := by rw [mkS_size]; have := HPL.out x (List.mem_of_getElem? hx); omega
      have hP : ∀ w, Calls Tryz.prog 36 #[.string (mkS x)] w fun e w' => e = .returned (.tuple #[.int .i64 (pv x), .bool (pb x)]) ∧ Ext w w' := fun w => by
        have := parseInt_spec (mkS x) hxs w
        rwa [mkS_list] at this
      rw [hy] at hP
      have HPI := Lib.hid hP
      have hxt : ws.tail[j]? = some x := by rw [tail_get]; exact hx
      have HX := Lib.hid hxt
      subst haw
      clear hx hy hP hxs hxt
      go_wp2_with fail
      refine (HPI.out _).mono ?_; rintro e2 w2 ⟨rfl, h2⟩
      have hR2 := hR.ext h2
      cases hpar : parseI x with
      | none =>
        have hpb := pib_none' hpar
        rw [hpb]
        have HIN := Lib.hid (HBAD.out (mapM_none _ (List.mem_of_getElem? HX.out) hpar))
        clear hpar hpb
        have f0 := hR2.free 0; have f1 := hR2.free 1; have f2 := hR2.free 2
        have r0 := hR2.cell (j := 0) rfl; have r1 := hR2.cell (j := 1) rfl; have r2 := hR2.cell (j := 2) rfl
        have hRl := hR2.lt
        go_wp2
        refine bodyPost_ret (v := .tuple #[ringV 0 0 0, .bool false]) (by simp [results, Tryz.results34, go_sem, *]) rfl ?_
        exact ⟨⟨0, 0, 0, false, rfl, HIN.out, (by repeat' (first | (with_reducible first | exact Ext.refl _ | assumption | apply Ext.alloc | apply Ext.drew | apply Ext.drewN) | (refine Ext.setAt ?_ (by omega) _ _) | (refine Ext.trans ?_ (by assumption))))⟩⟩
      | some n =>
        obtain ⟨hpv, hpb⟩ := pib_some' hpar
        rw [hpv, hpb]
        have HN := Lib.hid hpar
        clear hpv hpb hpar
        have hQ2 := hQ.ext h2
        have hs2 := h2.size
        obtain ⟨aq, cq, hqv, hq1, hq2⟩ := hQ2.ints.val
        subst hqv
        have hxl : xs.length = j := by have := mapM_len _ HM.out; rw [List.length_take, List.length_tail] at this; omega
        rw [hxl] at hq1 hQ2 ⊢
        have HXL := Lib.hid hxl
        have hqb : ∀ q, (Value.slice aq j cq).ownBlock = some q → w1.heap.size ≤ q := fun q hq => (hQ2.block_lt hq).1
        have HQB := Lib.hid hqb; clear hqb hxl
        go_wp2_with (at_builtin; refine wpList_app _ rfl _ _ 27 rfl _ _ rfl rfl _ (run_push _ w2 w1.heap.size (.slice aq j cq) xs n hQ2 (by rw [HXL.out]; omega) (by omega)) ?_; rintro v4 w4 ⟨o4, g4, _⟩)
        go_roundw
        case rel =>
          refine ⟨j + 1, xs ++ [n], by rw [List.length_tail]; omega, by go_num, Lib.hid ?_, o4, (hE.trans h2).only g4 (fun q hq => by have := HQB.out q hq; omega)⟩
          obtain ⟨hlt', e⟩ := List.getElem?_eq_some_iff.1 HX.out
          rw [List.take_succ_eq_append_getElem hlt', e]
          exact mapM_snoc _ HM.out HN.out
        case measure => simp [RowKit.intOf] <;> omega
    · have hm : ws.tail.mapM parseI = some xs := by
        have := HM.out
        rwa [List.take_of_length_le (by rw [List.length_tail]; omega)] at this
      have HMM := Lib.hid hm
      clear hm HM hj
      have hRl := hR.lt
      obtain ⟨wq, hwq⟩ : ∃ u, u = wr := ⟨_, rfl⟩
      subst hwq
      obtain ⟨aq, cq, hqv, hq1, hq2⟩ := hQ.ints.val
      subst hqv
      obtain ⟨nx, hnx⟩ : ∃ nx, xs.length = nx := ⟨_, rfl⟩
      rw [hnx] at hQ hq1 ⊢
      have HNX := Lib.hid hnx
      clear hnx
      go_wp2_with fail
      go_loopw [9] (fun i wr => ∃ m : Nat, m ≤ 8 ∧ i = .int .i64 ((m : Int) + 1) ∧ Hid (∀ k : Nat, 1 ≤ k → k < m + 1 → s.data.toList ≠ [] → fmtRing k (refP k xs) (refN k xs) ≠ s.data.toList) ∧ Ext wq wr) (fun i _ => 9 - (RowKit.intOf i).toNat)
      case atStart => exact ⟨0, by omega, rfl, Lib.hid (fun k h1 h2 => by omega), (by repeat' (first | (with_reducible first | exact Ext.refl _ | assumption | apply Ext.alloc | apply Ext.drew | apply Ext.drewN) | (refine Ext.setAt ?_ (by omega) _ _) | (refine Ext.trans ?_ (by assumption))))⟩
      case round =>
        obtain ⟨m, hm, rfl, HNM, hE3⟩ := hrel
        have hs3 := hE3.size
        have hR3 := hR.ext hE3
        have hQ3 := hQ.ext hE3
        by_cases hm8 : m < 8
        · have hstep : (s.data.toList ≠ [] → fmtRing ((m : Int) + 1) (refP ((m : Int) + 1) xs) (refN ((m : Int) + 1) xs) ≠ s.data.toList) → ∀ k : Nat, 1 ≤ k → k < m + 1 + 1 → s.data.toList ≠ [] → fmtRing k (refP k xs) (refN k xs) ≠ s.data.toList := by
            intro h k h1 h2 h3
            by_cases hk : k = m + 1
            · subst hk; exact h h3
            · exact HNM.out k h1 (by omega) h3
          have HST := Lib.hid hstep
          clear hstep HNM hm
          obtain ⟨K, hK⟩ : ∃ K : Int, (m : Int) + 1 = K := ⟨_, rfl⟩
          have k1 : 1 ≤ K := by omega
          have k8 : K ≤ 8 := by omega
          have hKi : (m : Int) + 1 + 1 = K + 1 := by omega
          rw [hK] at HST ⊢
          rcases two_cases xs with rfl | ⟨a, rfl⟩ | ⟨a, b, rr, rfl⟩
          · have hn1 : nx < 1 := by have := HNX.out; simp at this; omega
            have rp := ref_nil K
            have HK := Lib.hid ((Blk.new wr #[.int .i64 K, .int .i64 0, .int .i64 0] 24))
            rw [rp.1, rp.2] at HST
            clear rp
            obtain ⟨y, hy⟩ : ∃ y, mkS (fmtRing K (0) (0)) = y := ⟨_, rfl⟩
            have HY : Hid (y.data.toList = fmtRing K (0) (0)) := Lib.hid (by rw [← hy, mkS_list])
            have HFR := Lib.hid (fun w => hy ▸ formatRing_spec K (0) (0) w)
            clear hy
            by_cases hs0 : s.size = 0
            · obtain rfl := is_empty hs0
              clear hs0
              go_wp2
              go_roundw
              case rel => exact ⟨m + 1, by omega, by rw [Int.natCast_add, Int.natCast_one]; first | rfl | go_num | (congr 1; omega), Lib.hid (HST.out (fun h => absurd rfl h)), (by repeat' (first | (with_reducible first | exact Ext.refl _ | assumption | apply Ext.alloc | apply Ext.drew | apply Ext.drewN) | (refine Ext.setAt ?_ (by omega) _ _) | (refine Ext.trans ?_ (by assumption))))⟩
              case measure => simp [RowKit.intOf] <;> omega
            · have hb0 := beq_no hs0
              have hb1 : (s.toList != ([] : List UInt8)) = true := by rw [bne, hb0]; rfl
              have HNE := Lib.hid (ne_of_size hs0)
              by_cases ht : fmtRing K (0) (0) = s.data.toList
              · have hq := bytes_beq y s (by rw [HY.out, ht])
                have HT2 := Lib.hid ht
                clear ht
                go_wp2_with fail
                refine (HFR.out _).mono ?_; rintro e5 w5 ⟨rfl, h5⟩
                have E5 : Ext wr w5 := (by repeat' (first | (with_reducible first | exact Ext.refl _ | assumption | apply Ext.alloc | apply Ext.drew | apply Ext.drewN) | (refine Ext.setAt ?_ (by omega) _ _) | (refine Ext.trans ?_ (by assumption))))
                have hR5 := hR3.ext E5
                have hK5 := HK.out.ext h5
                have i0 : w5.cell? ⟨wr.heap.size, 0, none⟩ = some (.int .i64 K) := hK5.cell (j := 0) rfl
                have i1 : w5.cell? ⟨wr.heap.size, 1, none⟩ = some (.int .i64 (0)) := hK5.cell (j := 1) rfl
                have i2 : w5.cell? ⟨wr.heap.size, 2, none⟩ = some (.int .i64 (0)) := hK5.cell (j := 2) rfl
                have f0 := hR5.free 0; have f1 := hR5.free 1; have f2 := hR5.free 2
                have r0 := hR5.cell (j := 0) rfl; have r1 := hR5.cell (j := 1) rfl; have r2 := hR5.cell (j := 2) rfl
                have hRl5 := hR5.lt
                have s5 := E5.size
                have EW5 : Ext w w5 := E1.trans (hE.trans (hE3.trans E5))
                go_wp2
                refine bodyPost_ret (v := .tuple #[ringV K (0) (0), .bool true]) (by simp [results, Tryz.results34, go_sem, *]) rfl ?_
                exact ⟨⟨K, 0, 0, true, rfl, RP.yesW HNE.out HT2.out, (by repeat' (first | (with_reducible first | exact Ext.refl _ | assumption | apply Ext.alloc | apply Ext.drew | apply Ext.drewN) | (refine Ext.setAt ?_ (by omega) _ _) | (refine Ext.trans ?_ (by assumption))))⟩⟩
              · have hq := str_beq_no (z := y) (s := s) (by rw [HY.out]; exact ht)
                have HT2 := Lib.hid ht
                clear ht
                go_wp2_with fail
                refine (HFR.out _).mono ?_; rintro e5 w5 ⟨rfl, h5⟩
                go_wp2
                go_roundw
                case rel => exact ⟨m + 1, by omega, by rw [Int.natCast_add, Int.natCast_one]; first | rfl | go_num | (congr 1; omega), Lib.hid (HST.out (fun _ => HT2.out)), hE3.trans (by repeat' (first | (with_reducible first | exact Ext.refl _ | assumption | apply Ext.alloc | apply Ext.drew | apply Ext.drewN) | (refine Ext.setAt ?_ (by omega) _ _) | (refine Ext.trans ?_ (by assumption))))⟩
                case measure => simp [RowKit.intOf] <;> omega
          · have hn0 : 0 < nx := by have := HNX.out; simp at this; omega
            have hn1 : nx < 2 := by have := HNX.out; simp at this; omega
            obtain ⟨bq, oq, ya, rfl, hca, hya, _⟩ := hQ3.ints.get (i := 0) (by simp)
            obtain rfl : a = ya := by simpa using hya
            clear hya
            rw [Nat.add_zero] at hca
            have hbq := World.block_lt_of_cell? wr _ hca
            (try simp at hbq)
            have hbn : ¬ bq = wr.heap.size := by omega
            have hbn2 : ¬ wr.heap.size = bq := by omega
            cases b6 : (K == 6)
            · have h6 : ¬ K = 6 := by rw [beq_eq_false_iff_ne] at b6; exact b6
              have rp := ref_one (a := a) h6
              have HK := Lib.hid ((Blk.new wr #[.int .i64 K, .int .i64 a, .int .i64 0] 24))
              rw [rp.1, rp.2] at HST
              clear rp
              obtain ⟨y, hy⟩ : ∃ y, mkS (fmtRing K (a) (0)) = y := ⟨_, rfl⟩
              have HY : Hid (y.data.toList = fmtRing K (a) (0)) := Lib.hid (by rw [← hy, mkS_list])
              have HFR := Lib.hid (fun w => hy ▸ formatRing_spec K (a) (0) w)
              clear hy
              by_cases hs0 : s.size = 0
              · obtain rfl := is_empty hs0
                clear hs0
                go_wp2
                go_roundw
                case rel => exact ⟨m + 1, by omega, by rw [Int.natCast_add, Int.natCast_one]; first | rfl | go_num | (congr 1; omega), Lib.hid (HST.out (fun h => absurd rfl h)), (by repeat' (first | (with_reducible first | exact Ext.refl _ | assumption | apply Ext.alloc | apply Ext.drew | apply Ext.drewN) | (refine Ext.setAt ?_ (by omega) _ _) | (refine Ext.trans ?_ (by assumption))))⟩
                case measure => simp [RowKit.intOf] <;> omega
              · have hb0 := beq_no hs0
                have hb1 : (s.toList != ([] : List UInt8)) = true := by rw [bne, hb0]; rfl
                have HNE := Lib.hid (ne_of_size hs0)
                by_cases ht : fmtRing K (a) (0) = s.data.toList
                · have hq := bytes_beq y s (by rw [HY.out, ht])
                  have HT2 := Lib.hid ht
                  clear ht
                  go_wp2_with fail
                  refine (HFR.out _).mono ?_; rintro e5 w5 ⟨rfl, h5⟩
                  have E5 : Ext wr w5 := (by repeat' (first | (with_reducible first | exact Ext.refl _ | assumption | apply Ext.alloc | apply Ext.drew | apply Ext.drewN) | (refine Ext.setAt ?_ (by omega) _ _) | (refine Ext.trans ?_ (by assumption))))
                  have hR5 := hR3.ext E5
                  have hK5 := HK.out.ext h5
                  have i0 : w5.cell? ⟨wr.heap.size, 0, none⟩ = some (.int .i64 K) := hK5.cell (j := 0) rfl
                  have i1 : w5.cell? ⟨wr.heap.size, 1, none⟩ = some (.int .i64 (a)) := hK5.cell (j := 1) rfl
                  have i2 : w5.cell? ⟨wr.heap.size, 2, none⟩ = some (.int .i64 (0)) := hK5.cell (j := 2) rfl
                  have f0 := hR5.free 0; have f1 := hR5.free 1; have f2 := hR5.free 2
                  have r0 := hR5.cell (j := 0) rfl; have r1 := hR5.cell (j := 1) rfl; have r2 := hR5.cell (j := 2) rfl
                  have hRl5 := hR5.lt
                  have s5 := E5.size
                  have EW5 : Ext w w5 := E1.trans (hE.trans (hE3.trans E5))
                  go_wp2
                  refine bodyPost_ret (v := .tuple #[ringV K (a) (0), .bool true]) (by simp [results, Tryz.results34, go_sem, *]) rfl ?_
                  exact ⟨⟨K, a, 0, true, rfl, RP.yesW HNE.out HT2.out, (by repeat' (first | (with_reducible first | exact Ext.refl _ | assumption | apply Ext.alloc | apply Ext.drew | apply Ext.drewN) | (refine Ext.setAt ?_ (by omega) _ _) | (refine Ext.trans ?_ (by assumption))))⟩⟩
                · have hq := str_beq_no (z := y) (s := s) (by rw [HY.out]; exact ht)
                  have HT2 := Lib.hid ht
                  clear ht
                  go_wp2_with fail
                  refine (HFR.out _).mono ?_; rintro e5 w5 ⟨rfl, h5⟩
                  go_wp2
                  go_roundw
                  case rel => exact ⟨m + 1, by omega, by rw [Int.natCast_add, Int.natCast_one]; first | rfl | go_num | (congr 1; omega), Lib.hid (HST.out (fun _ => HT2.out)), hE3.trans (by repeat' (first | (with_reducible first | exact Ext.refl _ | assumption | apply Ext.alloc | apply Ext.drew | apply Ext.drewN) | (refine Ext.setAt ?_ (by omega) _ _) | (refine Ext.trans ?_ (by assumption))))⟩
                  case measure => simp [RowKit.intOf] <;> omega
            · have h6 : K = 6 := by rw [beq_iff_eq] at b6; exact b6
              have rp := ref_one6 (a := a) h6; clear h6
              have HK := Lib.hid ((Blk.new wr #[.int .i64 K, .int .i64 0, .int .i64 a] 24))
              rw [rp.1, rp.2] at HST
              clear rp
              obtain ⟨y, hy⟩ : ∃ y, mkS (fmtRing K (0) (a)) = y := ⟨_, rfl⟩
              have HY : Hid (y.data.toList = fmtRing K (0) (a)) := Lib.hid (by rw [← hy, mkS_list])
              have HFR := Lib.hid (fun w => hy ▸ formatRing_spec K (0) (a) w)
              clear hy
              by_cases hs0 : s.size = 0
              · obtain rfl := is_empty hs0
                clear hs0
                go_wp2
                go_roundw
                case rel => exact ⟨m + 1, by omega, by rw [Int.natCast_add, Int.natCast_one]; first | rfl | go_num | (congr 1; omega), Lib.hid (HST.out (fun h => absurd rfl h)), (by repeat' (first | (with_reducible first | exact Ext.refl _ | assumption | apply Ext.alloc | apply Ext.drew | apply Ext.drewN) | (refine Ext.setAt ?_ (by omega) _ _) | (refine Ext.trans ?_ (by assumption))))⟩
                case measure => simp [RowKit.intOf] <;> omega
              · have hb0 := beq_no hs0
                have hb1 : (s.toList != ([] : List UInt8)) = true := by rw [bne, hb0]; rfl
                have HNE := Lib.hid (ne_of_size hs0)
                by_cases ht : fmtRing K (0) (a) = s.data.toList
                · have hq := bytes_beq y s (by rw [HY.out, ht])
                  have HT2 := Lib.hid ht
                  clear ht
                  go_wp2_with fail
                  refine (HFR.out _).mono ?_; rintro e5 w5 ⟨rfl, h5⟩
                  have E5 : Ext wr w5 := (by repeat' (first | (with_reducible first | exact Ext.refl _ | assumption | apply Ext.alloc | apply Ext.drew | apply Ext.drewN) | (refine Ext.setAt ?_ (by omega) _ _) | (refine Ext.trans ?_ (by assumption))))
                  have hR5 := hR3.ext E5
                  have hK5 := HK.out.ext h5
                  have i0 : w5.cell? ⟨wr.heap.size, 0, none⟩ = some (.int .i64 K) := hK5.cell (j := 0) rfl
                  have i1 : w5.cell? ⟨wr.heap.size, 1, none⟩ = some (.int .i64 (0)) := hK5.cell (j := 1) rfl
                  have i2 : w5.cell? ⟨wr.heap.size, 2, none⟩ = some (.int .i64 (a)) := hK5.cell (j := 2) rfl
                  have f0 := hR5.free 0; have f1 := hR5.free 1; have f2 := hR5.free 2
                  have r0 := hR5.cell (j := 0) rfl; have r1 := hR5.cell (j := 1) rfl; have r2 := hR5.cell (j := 2) rfl
                  have hRl5 := hR5.lt
                  have s5 := E5.size
                  have EW5 : Ext w w5 := E1.trans (hE.trans (hE3.trans E5))
                  go_wp2
                  refine bodyPost_ret (v := .tuple #[ringV K (0) (a), .bool true]) (by simp [results, Tryz.results34, go_sem, *]) rfl ?_
                  exact ⟨⟨K, 0, a, true, rfl, RP.yesW HNE.out HT2.out, (by repeat' (first | (with_reducible first | exact Ext.refl _ | assumption | apply Ext.alloc | apply Ext.drew | apply Ext.drewN) | (refine Ext.setAt ?_ (by omega) _ _) | (refine Ext.trans ?_ (by assumption))))⟩⟩
                · have hq := str_beq_no (z := y) (s := s) (by rw [HY.out]; exact ht)
                  have HT2 := Lib.hid ht
                  clear ht
                  go_wp2_with fail
                  refine (HFR.out _).mono ?_; rintro e5 w5 ⟨rfl, h5⟩
                  go_wp2
                  go_roundw
                  case rel => exact ⟨m + 1, by omega, by rw [Int.natCast_add, Int.natCast_one]; first | rfl | go_num | (congr 1; omega), Lib.hid (HST.out (fun _ => HT2.out)), hE3.trans (by repeat' (first | (with_reducible first | exact Ext.refl _ | assumption | apply Ext.alloc | apply Ext.drew | apply Ext.drewN) | (refine Ext.setAt ?_ (by omega) _ _) | (refine Ext.trans ?_ (by assumption))))⟩
                  case measure => simp [RowKit.intOf] <;> omega
          · have hn0 : 0 < nx := by have := HNX.out; simp at this; omega
            have hn1 : 1 < nx := by have := HNX.out; simp at this; omega
            obtain ⟨bq, oq, ya, rfl, hca, hya, _⟩ := hQ3.ints.get (i := 0) (by simp)
            obtain rfl : a = ya := by simpa using hya
            clear hya
            rw [Nat.add_zero] at hca
            have hbq := World.block_lt_of_cell? wr _ hca
            (try simp at hbq)
            have hbn : ¬ bq = wr.heap.size := by omega
            have hbn2 : ¬ wr.heap.size = bq := by omega
            obtain ⟨bq', oq', yb, hqq, hcb, hyb, _⟩ := hQ3.ints.get (i := 1) (by simp)
            cases hqq
            obtain rfl : b = yb := by simpa using hyb
            clear hyb
            cases b6 : (K == 6)
            · have h6 : ¬ K = 6 := by rw [beq_eq_false_iff_ne] at b6; exact b6
              have rp := ref_two (a := a) (b := b) (r := rr) h6
              have HK := Lib.hid ((Blk.new wr #[.int .i64 K, .int .i64 a, .int .i64 b] 24))
              rw [rp.1, rp.2] at HST
              clear rp
              obtain ⟨y, hy⟩ : ∃ y, mkS (fmtRing K (a) (b)) = y := ⟨_, rfl⟩
              have HY : Hid (y.data.toList = fmtRing K (a) (b)) := Lib.hid (by rw [← hy, mkS_list])
              have HFR := Lib.hid (fun w => hy ▸ formatRing_spec K (a) (b) w)
              clear hy
              by_cases hs0 : s.size = 0
              · obtain rfl := is_empty hs0
                clear hs0
                go_wp2
                go_roundw
                case rel => exact ⟨m + 1, by omega, by rw [Int.natCast_add, Int.natCast_one]; first | rfl | go_num | (congr 1; omega), Lib.hid (HST.out (fun h => absurd rfl h)), (by repeat' (first | (with_reducible first | exact Ext.refl _ | assumption | apply Ext.alloc | apply Ext.drew | apply Ext.drewN) | (refine Ext.setAt ?_ (by omega) _ _) | (refine Ext.trans ?_ (by assumption))))⟩
                case measure => simp [RowKit.intOf] <;> omega
              · have hb0 := beq_no hs0
                have hb1 : (s.toList != ([] : List UInt8)) = true := by rw [bne, hb0]; rfl
                have HNE := Lib.hid (ne_of_size hs0)
                by_cases ht : fmtRing K (a) (b) = s.data.toList
                · have hq := bytes_beq y s (by rw [HY.out, ht])
                  have HT2 := Lib.hid ht
                  clear ht
                  go_wp2_with fail
                  refine (HFR.out _).mono ?_; rintro e5 w5 ⟨rfl, h5⟩
                  have E5 : Ext wr w5 := (by repeat' (first | (with_reducible first | exact Ext.refl _ | assumption | apply Ext.alloc | apply Ext.drew | apply Ext.drewN) | (refine Ext.setAt ?_ (by omega) _ _) | (refine Ext.trans ?_ (by assumption))))
                  have hR5 := hR3.ext E5
                  have hK5 := HK.out.ext h5
                  have i0 : w5.cell? ⟨wr.heap.size, 0, none⟩ = some (.int .i64 K) := hK5.cell (j := 0) rfl
                  have i1 : w5.cell? ⟨wr.heap.size, 1, none⟩ = some (.int .i64 (a)) := hK5.cell (j := 1) rfl
                  have i2 : w5.cell? ⟨wr.heap.size, 2, none⟩ = some (.int .i64 (b)) := hK5.cell (j := 2) rfl
                  have f0 := hR5.free 0; have f1 := hR5.free 1; have f2 := hR5.free 2
                  have r0 := hR5.cell (j := 0) rfl; have r1 := hR5.cell (j := 1) rfl; have r2 := hR5.cell (j := 2) rfl
                  have hRl5 := hR5.lt
                  have s5 := E5.size
                  have EW5 : Ext w w5 := E1.trans (hE.trans (hE3.trans E5))
                  go_wp2
                  refine bodyPost_ret (v := .tuple #[ringV K (a) (b), .bool true]) (by simp [results, Tryz.results34, go_sem, *]) rfl ?_
                  exact ⟨⟨K, a, b, true, rfl, RP.yesW HNE.out HT2.out, (by repeat' (first | (with_reducible first | exact Ext.refl _ | assumption | apply Ext.alloc | apply Ext.drew | apply Ext.drewN) | (refine Ext.setAt ?_ (by omega) _ _) | (refine Ext.trans ?_ (by assumption))))⟩⟩
                · have hq := str_beq_no (z := y) (s := s) (by rw [HY.out]; exact ht)
                  have HT2 := Lib.hid ht
                  clear ht
                  go_wp2_with fail
                  refine (HFR.out _).mono ?_; rintro e5 w5 ⟨rfl, h5⟩
                  go_wp2
                  go_roundw
                  case rel => exact ⟨m + 1, by omega, by rw [Int.natCast_add, Int.natCast_one]; first | rfl | go_num | (congr 1; omega), Lib.hid (HST.out (fun _ => HT2.out)), hE3.trans (by repeat' (first | (with_reducible first | exact Ext.refl _ | assumption | apply Ext.alloc | apply Ext.drew | apply Ext.drewN) | (refine Ext.setAt ?_ (by omega) _ _) | (refine Ext.trans ?_ (by assumption))))⟩
                  case measure => simp [RowKit.intOf] <;> omega
            · have h6 : K = 6 := by rw [beq_iff_eq] at b6; exact b6
              have rp := ref_two6 (a := a) (b := b) (r := rr) h6; clear h6
              have HK := Lib.hid ((Blk.new wr #[.int .i64 K, .int .i64 0, .int .i64 b] 24))
              rw [rp.1, rp.2] at HST
              clear rp
              obtain ⟨y, hy⟩ : ∃ y, mkS (fmtRing K (0) (b)) = y := ⟨_, rfl⟩
              have HY : Hid (y.data.toList = fmtRing K (0) (b)) := Lib.hid (by rw [← hy, mkS_list])
              have HFR := Lib.hid (fun w => hy ▸ formatRing_spec K (0) (b) w)
              clear hy
              by_cases hs0 : s.size = 0
              · obtain rfl := is_empty hs0
                clear hs0
                go_wp2
                go_roundw
                case rel => exact ⟨m + 1, by omega, by rw [Int.natCast_add, Int.natCast_one]; first | rfl | go_num | (congr 1; omega), Lib.hid (HST.out (fun h => absurd rfl h)), (by repeat' (first | (with_reducible first | exact Ext.refl _ | assumption | apply Ext.alloc | apply Ext.drew | apply Ext.drewN) | (refine Ext.setAt ?_ (by omega) _ _) | (refine Ext.trans ?_ (by assumption))))⟩
                case measure => simp [RowKit.intOf] <;> omega
              · have hb0 := beq_no hs0
                have hb1 : (s.toList != ([] : List UInt8)) = true := by rw [bne, hb0]; rfl
                have HNE := Lib.hid (ne_of_size hs0)
                by_cases ht : fmtRing K (0) (b) = s.data.toList
                · have hq := bytes_beq y s (by rw [HY.out, ht])
                  have HT2 := Lib.hid ht
                  clear ht
                  go_wp2_with fail
                  refine (HFR.out _).mono ?_; rintro e5 w5 ⟨rfl, h5⟩
                  have E5 : Ext wr w5 := (by repeat' (first | (with_reducible first | exact Ext.refl _ | assumption | apply Ext.alloc | apply Ext.drew | apply Ext.drewN) | (refine Ext.setAt ?_ (by omega) _ _) | (refine Ext.trans ?_ (by assumption))))
                  have hR5 := hR3.ext E5
                  have hK5 := HK.out.ext h5
                  have i0 : w5.cell? ⟨wr.heap.size, 0, none⟩ = some (.int .i64 K) := hK5.cell (j := 0) rfl
                  have i1 : w5.cell? ⟨wr.heap.size, 1, none⟩ = some (.int .i64 (0)) := hK5.cell (j := 1) rfl
                  have i2 : w5.cell? ⟨wr.heap.size, 2, none⟩ = some (.int .i64 (b)) := hK5.cell (j := 2) rfl
                  have f0 := hR5.free 0; have f1 := hR5.free 1; have f2 := hR5.free 2
                  have r0 := hR5.cell (j := 0) rfl; have r1 := hR5.cell (j := 1) rfl; have r2 := hR5.cell (j := 2) rfl
                  have hRl5 := hR5.lt
                  have s5 := E5.size
                  have EW5 : Ext w w5 := E1.trans (hE.trans (hE3.trans E5))
                  go_wp2
                  refine bodyPost_ret (v := .tuple #[ringV K (0) (b), .bool true]) (by simp [results, Tryz.results34, go_sem, *]) rfl ?_
                  exact ⟨⟨K, 0, b, true, rfl, RP.yesW HNE.out HT2.out, (by repeat' (first | (with_reducible first | exact Ext.refl _ | assumption | apply Ext.alloc | apply Ext.drew | apply Ext.drewN) | (refine Ext.setAt ?_ (by omega) _ _) | (refine Ext.trans ?_ (by assumption))))⟩⟩
                · have hq := str_beq_no (z := y) (s := s) (by rw [HY.out]; exact ht)
                  have HT2 := Lib.hid ht
                  clear ht
                  go_wp2_with fail
                  refine (HFR.out _).mono ?_; rintro e5 w5 ⟨rfl, h5⟩
                  go_wp2
                  go_roundw
                  case rel => exact ⟨m + 1, by omega, by rw [Int.natCast_add, Int.natCast_one]; first | rfl | go_num | (congr 1; omega), Lib.hid (HST.out (fun _ => HT2.out)), hE3.trans (by repeat' (first | (with_reducible first | exact Ext.refl _ | assumption | apply Ext.alloc | apply Ext.drew | apply Ext.drewN) | (refine Ext.setAt ?_ (by omega) _ _) | (refine Ext.trans ?_ (by assumption))))⟩
                  case measure => simp [RowKit.intOf] <;> omega
        · have : m = 8 := by omega
          subst this
          have HIN := Lib.hid (HNOW.out xs HMM.out HNM.out)
          have f0 := hR3.free 0; have f1 := hR3.free 1; have f2 := hR3.free 2
          have r0 := hR3.cell (j := 0) rfl; have r1 := hR3.cell (j := 1) rfl; have r2 := hR3.cell (j := 2) rfl
          have hRl3 := hR3.lt
          have EW : Ext w wr := E1.trans (hE.trans hE3)
          clear HNM hm8 hm
          go_wp2
          refine bodyPost_ret (v := .tuple #[ringV 0 0 0, .bool false]) (by simp [results, Tryz.results34, go_sem, *]) rfl ?_
          exact ⟨⟨0, 0, 0, false, rfl, HIN.out, (by repeat' (first | (with_reducible first | exact Ext.refl _ | assumption | apply Ext.alloc | apply Ext.drew | apply Ext.drewN) | (refine Ext.setAt ?_ (by omega) _ _) | (refine Ext.trans ?_ (by assumption))))⟩⟩
set_option maxHeartbeats 1000000 in
theorem eqRing_any (k p n : Int) (w : World) : Calls Tryz.prog 39 #[ringV k p n, ringV k p n] w fun e w' => e = .returned (.bool true) ∧ Ext w w' := by
 have hkk : ∀ v : Int, (v != v) = false := by simp
 have q1 := hkk k; have q2 := hkk p; have q3 := hkk n
 clear hkk
 go_enter Tryz.func39, Tryz.ntmps39
 go_wp2
 go_ret
 exact ⟨rfl, (by repeat' (first | (with_reducible first | exact Ext.refl _ | assumption | apply Ext.alloc | apply Ext.drew | apply Ext.drewN) | (refine Ext.setAt ?_ (by omega) _ _) | (refine Ext.trans ?_ (by assumption))))⟩
end Go.Proofs.YtlgjddgajdjllaaGreatDoor
