/- ParseTensor of the reference: the walk. -/
import Derived.Test.YtlgjddgajdjllaaGreatDoorQPTenS
set_option linter.unusedSimpArgs false
set_option linter.unusedVariables false
namespace Go.Proofs.YtlgjddgajdjllaaGreatDoor
open Go.RowKit
open Go.Lib
theorem drop_cons_at {α : Type} {l : List α} {j : Nat} {x : α} (h : l[j]? = some x) : l.drop j = x :: l.drop (j + 1) := by
  obtain ⟨h1, rfl⟩ := List.getElem?_eq_some_iff.1 h
  exact List.drop_eq_getElem_cons h1
theorem OwnStr.past {w w' : World} {B K : Nat} {v : Value} {l : List ByteArray} (h : OwnStr w K v l) (hb : ∀ k, v.ownBlock = some k → k < B) {r : Option Nat} (g : w.grownBy w' r) (hr : ∀ q, r = some q → B ≤ q) {t o : Nat} {u : Value} (ht : t < K) : OwnStr (w'.setCell ⟨t, o, none⟩ u) K v l := by
  refine h.keep fun k hk => ?_
  have h1 := h.block_lt hk
  have h2 := hb k hk
  rw [Below.heap_setCell _ _ _ _ (by simp; omega)]
  exact g.block k h1.2 (fun e => by have := hr k e.symm; omega)
set_option maxRecDepth 100000 in
set_option maxHeartbeats 3000000 in
theorem parseTensor_spec (k p n : Int) (s : ByteArray) (w : World) (hs : s.size ≤ 1073741824) : Calls Tryz.prog 37 #[ringV k p n, .string s] w fun e w' => TenR k p n s.data.toList w w' e := by
  obtain ⟨ws, hws⟩ : ∃ ws, wordsL s.data.toList = ws := ⟨_, rfl⟩
  have hpl : ∀ q ∈ ws, q.length ≤ s.size := fun q hq => by rw [← hws] at hq; rw [wordsL] at hq; have := sp_piece_le (List.mem_filter.1 hq).1; rwa [slen] at this
  have hle := words_le s.data.toList
  rw [hws, slen] at hle
  have A : ∀ w, Calls Tryz.prog 35 #[.string s] w fun e w' => ∃ v, e = .returned v ∧ OwnStr w' w.heap.size v (mkSs ws) ∧ Ext w w' := fun w => hws ▸ words_spec s w hs
  have HBAD : Hid (pT k p n ws = none → TP k p n s.data.toList [] [] [] false) := Lib.hid fun h => TP.badW (by rw [hws]; exact h)
  have HNO : Hid (∀ L D X, pT k p n ws = some (L, D, X) → (fmtTen k p n L D X ≠ s.data.toList ∨ s.data.toList = []) → TP k p n s.data.toList [] [] [] false) := Lib.hid fun L D X h => TP.noW (by rw [hws]; exact h)
  have HA := Lib.hid A; have HPL := Lib.hid hpl
  have hwl : (mkSs ws).length = ws.length := mkSs_length ws
  clear A hpl hws
  go_enter Tryz.func37, Tryz.ntmps37
  go_wp2_with fail
  refine (HA.out _).mono ?_; rintro e1 w1 ⟨v1, rfl, o1, h1⟩
  have E1 : Ext w w1 := (by repeat' (first | (with_reducible first | exact Ext.refl _ | assumption | apply Ext.alloc | apply Ext.drew | apply Ext.drewN) | (refine Ext.setAt ?_ (by omega) _ _) | (refine Ext.trans ?_ (by assumption))))
  have BK1 : Blk w1 w.heap.size 24 [.int .i64 k, .int .i64 p, .int .i64 n] := Blk.ext (w' := w1) (Blk.new w #[.int .i64 k, .int .i64 p, .int .i64 n] 24) (Ext.trans (((Ext.refl _).alloc _).alloc _) h1)
  have BR1 : Blk w1 (w.heap.size + 1) 52 [.slice none 0 0, .slice none 0 0, .slice none 0 0] := by
    have := (Blk.new (w.alloc (.cells #[.int .i64 k, .int .i64 p, .int .i64 n] 24)) #[.slice none 0 0, .slice none 0 0, .slice none 0 0] 52).ext (Ext.trans ((Ext.refl _).alloc _) h1)
    simpa using this
  have BT1 : Blk w1 (w.heap.size + 2) 52 [.slice none 0 0, .slice none 0 0, .slice none 0 0] := by
    have := (Blk.new ((w.alloc (.cells #[.int .i64 k, .int .i64 p, .int .i64 n] 24)).alloc (.cells #[.slice none 0 0, .slice none 0 0, .slice none 0 0] 52)) #[.slice none 0 0, .slice none 0 0, .slice none 0 0] 52).ext h1
    simpa using this
  obtain ⟨tb, htb⟩ : ∃ tb, w.heap.size + 1 + 1 = tb := ⟨_, rfl⟩
  have BT1 : Blk w1 tb 52 [.slice none 0 0, .slice none 0 0, .slice none 0 0] := by rw [← htb]; exact BT1
  rw [htb]
  have htb1 : w.heap.size + 2 ≤ tb := by omega
  have htb2 : tb ≤ w.heap.size + 2 := by omega
  clear htb
  have hlT1 := BT1.lt
  have o1 : OwnStr w1 (w.heap.size + 3) v1 (mkSs ws) := by simpa using o1
  obtain ⟨aw, cw, hvw, hw1, hw2⟩ := o1.strs.val
  subst hvw
  rw [hwl] at hw1 o1 ⊢
  have HWB : Hid (∀ k, (Value.slice aw ws.length cw).ownBlock = some k → k < w1.heap.size) := Lib.hid fun k hk => (o1.block_lt hk).2
  have TH1 : Three w1 w1.heap.size tb (.slice none 0 0) (.slice none 0 0) (.slice none 0 0) [] [] [] := ⟨OwnI.nil _ _, OwnI.nil _ _, OwnI.nil _ _, by simp [Value.ownBlock], by simp [Value.ownBlock], by simp [Value.ownBlock], BT1, hlT1⟩
  clear h1 BT1
  go_wp2_with fail
  go_loopw [7, 19] (fun f i wr => ∃ (j : Nat) (L D X : List Int) (vL vD vX : Value) (b : Bool), j ≤ ws.length ∧ i = .int .i64 j ∧ f = .bool b ∧ Hid (WdSt k p n ws L D X b (ws.drop j)) ∧ Hid (L.length ≤ j ∧ D.length ≤ j ∧ X.length ≤ j * 6) ∧ Three wr w1.heap.size tb vL vD vX L D X ∧
      OwnStr wr (w.heap.size + 3) (.slice aw ws.length cw) (mkSs ws) ∧ Blk wr w.heap.size 24 [.int .i64 k, .int .i64 p, .int .i64 n] ∧ Blk wr (w.heap.size + 1) 52 [.slice none 0 0, .slice none 0 0, .slice none 0 0] ∧ Ext w wr ∧ w1.heap.size ≤ wr.heap.size) (fun f i _ => ws.length - (RowKit.intOf i).toNat)
  case atStart => exact ⟨0, [], [], [], _, _, _, false, Nat.zero_le _, rfl, rfl, Lib.hid (.axes (AxSt.start ws) rfl), Lib.hid (by simp), TH1, o1, BK1, BR1, E1, Nat.le_refl _⟩
  case round =>
    clear TH1 o1 BK1 BR1 E1
    obtain ⟨j, L, D, X, vL, vD, vX, b, hj, rfl, rfl, HST, HLE, TH, OS, BK, BR, EW, hsz⟩ := hrel
    obtain ⟨aL, cL, hvL, hL1, hL2⟩ := TH.own1.ints.val
    subst hvL
    obtain ⟨aD, cD, hvD, hD1, hD2⟩ := TH.own2.ints.val
    subst hvD
    obtain ⟨aX, cX, hvX, hX1, hX2⟩ := TH.own3.ints.val
    subst hvX
    have hlT := TH.box.lt
    have k0 := BK.cell (j := 0) rfl; have k1 := BK.cell (j := 1) rfl; have k2 := BK.cell (j := 2) rfl
    have hKl := BK.lt
    by_cases hlt : j < ws.length
    · obtain ⟨x, hx⟩ : ∃ x, ws[j]? = some x := ⟨_, List.getElem?_eq_getElem hlt⟩
      obtain ⟨bw, ow, y, haw, hcell, hy, _⟩ := OS.strs.get (i := j) (by rw [hwl]; exact hlt)
      rw [mkSs_get, hx] at hy
      have hy : mkS x = y := Option.some.inj hy
      have HZ : Hid (y.data.toList = x) := Lib.hid (by rw [← hy, mkS_list])
      have hzs : y.size ≤ 1073741824 := by rw [← hy, mkS_size]; have := HPL.out x (List.mem_of_getElem? hx); omega
      have hst := HST.out
      rw [drop_cons_at hx] at hst
      have HS2 := Lib.hid hst
      subst haw
      clear hx hy hst HST
      cases b
      · by_cases hx : x = [61]
        · have hq : (y.toList == ([61] : List UInt8)) = true := by rw [beq_iff_eq, ByteArray.toList_eq, HZ.out]; exact hx
          have HS3 : Hid (WdSt k p n ws L D X true (ws.drop (j + 1))) := Lib.hid (by have := HS2.out; rw [hx] at this; exact this.eq)
          clear hx
          go_wp2
          go_roundw
          case rel => exact ⟨j + 1, L, D, X, _, _, _, true, by omega, by go_num, rfl, HS3, Lib.hid (by have := HLE.out; omega), TH, OS, BK, BR, EW, hsz⟩
          case measure => simp [RowKit.intOf] <;> omega
        · have hq : (y.toList == ([61] : List UInt8)) = false := by rw [beq_eq_false_iff_ne, ByteArray.toList_eq, HZ.out]; exact hx
          have HXN := Lib.hid hx
          clear hx
          go_wp2_with fail
          refine (l11Axis_any y _ hzs).mono ?_; rintro e3 w3 ⟨a, b, ok, rfl, hax, h3⟩
          rw [HZ.out] at hax
          have BR3 := BR.ext h3
          have TH3 := TH.ext h3
          cases ok
          · have HIN : Hid (TP k p n s.data.toList [] [] [] false) := Lib.hid (HBAD.out (HS2.out.noPair HXN.out (hax.out.resolve_left (fun h => by cases h.1)).2))
            have f0 := BR3.free 0; have f1 := BR3.free 1; have f2 := BR3.free 2
            have r0 := BR3.cell (j := 0) rfl; have r1 := BR3.cell (j := 1) rfl; have r2 := BR3.cell (j := 2) rfl
            have hRl := BR3.lt
            clear hax
            go_wp2
            refine bodyPost_ret (v := .tuple #[.agg #[.slice none 0 0, .slice none 0 0, .slice none 0 0], .bool false]) (by simp [results, Tryz.results37, go_sem, *]) rfl ?_
            exact ⟨⟨_, [], [], [], false, rfl, HIN.out, OwnT.empty _ _, (by repeat' (first | (with_reducible first | exact Ext.refl _ | assumption | apply Ext.alloc | apply Ext.drew | apply Ext.drewN) | (refine Ext.setAt ?_ (by omega) _ _) | (refine Ext.trans ?_ (by assumption))))⟩⟩
          · have HS4 : Hid (WdSt k p n ws (L ++ [a]) (D ++ [b]) X false (ws.drop (j + 1))) := Lib.hid (HS2.out.pair HXN.out (hax.out.resolve_right (fun h => by cases h.1)).2)
            clear hax
            have hs3 := h3.size
            have t0 := TH3.box.cell (j := 0) rfl
            have t3l := TH3.box.lt
            have HLE2 : Hid (L.length ≤ 1099511627775 ∧ D.length ≤ 1099511627775) := Lib.hid (by have := HLE.out; omega)
            have mark1 : True := trivial
            have mark2 : True := trivial
            go_wp2_with (at_builtin; first | (clear mark1; refine wpList_app (o := ⟨some 53, _, _, _, _, _⟩) _ rfl _ _ 27 rfl _ _ rfl rfl _ (run_push _ w3 w1.heap.size (.slice aL L.length cL) L a TH3.own1 (by have := HLE2.out; omega) (by omega)) ?_; rintro v4 w4 ⟨o4, g4, d4⟩; have hs4 := g4.size; have HB4 : Hid (∀ q, (Value.slice aL L.length cL).ownBlock = some q → w1.heap.size ≤ q) := Lib.hid (fun q hq => (TH3.own1.block_lt hq).1); obtain ⟨a4, c4, hv4, hz4, hz5⟩ := o4.ints.val; rw [List.length_append, List.length_singleton] at hv4 hz4; subst hv4; have TH4 := TH3.set1 g4 o4 d4; have bx4 := TH3.box.block (g4.block _ t3l (fun e => by have := HB4.out _ e.symm; omega)); have z4 := bx4.free 0; have q4 := bx4.cell (j := 0) rfl; have q14 : w4.cell? ⟨tb, 1, none⟩ = some (.slice aD D.length cD) := bx4.cell (j := 1) rfl; have u4 := bx4.lt; have i14 := TH4.box.cell (j := 1) rfl; have l14 := TH4.box.lt; have D4 := Lib.hid d4; clear d4) | (clear mark2; obtain ⟨W4, hW4⟩ : ∃ W, w4.setCell ⟨tb, 0, none⟩ (.slice a4 (L.length + 1) c4) = W := ⟨_, rfl⟩; rw [hW4] at TH4 i14 ⊢; have e4 : w4.heap.size = W4.heap.size := (by rw [← hW4]; simp [World.setCell]); rw [e4]; have e5 : w4.heap.size ≤ W4.heap.size := Nat.le_of_eq e4; have HW4 := Lib.hid hW4; clear e4 hW4; have l14 := TH4.box.lt; refine wpList_app (o := ⟨some 59, _, _, _, _, _⟩) _ rfl _ _ 27 rfl _ _ rfl rfl _ (run_push _ W4 w1.heap.size (.slice aD D.length cD) D b TH4.own2 (by have := HLE2.out; omega) (by omega)) ?_; rintro v5 w5 ⟨o5, g5, d5⟩; have hs5 := g5.size; have HB5 : Hid (∀ q, (Value.slice aD D.length cD).ownBlock = some q → w1.heap.size ≤ q) := Lib.hid (fun q hq => (TH4.own2.block_lt hq).1); obtain ⟨a5, c5, hv5, hz6, hz7⟩ := o5.ints.val; rw [List.length_append, List.length_singleton] at hv5 hz6; subst hv5; have TH5 := TH4.set2 g5 o5 d5; have bx5 := TH4.box.block (g5.block _ l14 (fun e => by have := HB5.out _ e.symm; omega)); have z5 := bx5.free 1; have q5 := bx5.cell (j := 1) rfl; have u5 := bx5.lt; have D5 := Lib.hid d5; clear d5))
            go_roundw
            case rel =>
              have hW4 := HW4.out
              subst hW4
              have OS4 := (OS.ext h3).past HWB.out g4 HB4.out (t := tb) (o := 0) (u := .slice a4 (L.length + 1) c4) (by omega)
              have OS5 := OS4.past HWB.out g5 HB5.out (t := tb) (o := 1) (u := .slice a5 (D.length + 1) c5) (by omega)
              have E4 : Ext w (w4.setCell ⟨tb, 0, none⟩ (.slice a4 (L.length + 1) c4)) := ((EW.trans h3).only g4 (fun q hq => by have := HB4.out q hq; omega)).setAt (by omega) _ _
              have E5 : Ext w (w5.setCell ⟨tb, 1, none⟩ (.slice a5 (D.length + 1) c5)) := (E4.only g5 (fun q hq => by have := HB5.out q hq; omega)).setAt (by omega) _ _
              have BK5 := ((((BK.ext h3).block (g4.block _ (by have := (BK.ext h3).lt; omega) (fun e => by have := HB4.out _ e.symm; omega))).other (p := ⟨tb, 0, none⟩) (by simp; omega) (.slice a4 (L.length + 1) c4)).block (g5.block _ (by simp [World.setCell]; omega) (fun e => by have := HB5.out _ e.symm; omega))).other (p := ⟨tb, 1, none⟩) (by simp; omega) (.slice a5 (D.length + 1) c5)
              have BR5 := (((BR3.block (g4.block _ (by have := BR3.lt; omega) (fun e => by have := HB4.out _ e.symm; omega))).other (p := ⟨tb, 0, none⟩) (by simp; omega) (.slice a4 (L.length + 1) c4)).block (g5.block _ (by simp [World.setCell]; omega) (fun e => by have := HB5.out _ e.symm; omega))).other (p := ⟨tb, 1, none⟩) (by simp; omega) (.slice a5 (D.length + 1) c5)
              exact ⟨j + 1, L ++ [a], D ++ [b], X, _, _, _, false, by omega, by go_num, rfl, HS4, Lib.hid (by have := HLE.out; simp; omega), TH5, OS5, BK5, BR5, E5, by simp [World.setCell] at hs5 ⊢; omega⟩
            case measure => simp [RowKit.intOf] <;> omega
      · go_wp2_with fail
        refine (parseElem_spec k p n y _ hzs).mono ?_; rintro e3 w3 ⟨v3, rfl, o3, h3⟩
        rw [HZ.out] at o3 ⊢
        have BR3 := BR.ext h3
        have TH3 := TH.ext h3
        cases hpe : peO k p n x with
        | none =>
          have HIN := Lib.hid (HBAD.out (HS2.out.noElem hpe))
          rw [peb_none hpe]
          rw [pev_none hpe] at o3
          obtain ⟨a3, c3, hv3, _, _⟩ := o3.ints.val
          subst hv3
          clear hpe
          have f0 := BR3.free 0; have f1 := BR3.free 1; have f2 := BR3.free 2
          have r0 := BR3.cell (j := 0) rfl; have r1 := BR3.cell (j := 1) rfl; have r2 := BR3.cell (j := 2) rfl
          have hRl := BR3.lt
          go_wp2
          refine bodyPost_ret (v := .tuple #[.agg #[.slice none 0 0, .slice none 0 0, .slice none 0 0], .bool false]) (by simp [results, Tryz.results37, go_sem, *]) rfl ?_
          exact ⟨⟨_, [], [], [], false, rfl, HIN.out, OwnT.empty _ _, (by repeat' (first | (with_reducible first | exact Ext.refl _ | assumption | apply Ext.alloc | apply Ext.drew | apply Ext.drewN) | (refine Ext.setAt ?_ (by omega) _ _) | (refine Ext.trans ?_ (by assumption))))⟩⟩
        | some x5 =>
          have hx6 : x5.length ≤ 6 := by have := pe_len (k := k) (p := p) (n := n) (s := x); rwa [pev_some hpe] at this
          rw [peb_some hpe]
          rw [pev_some hpe] at o3
          have HS4 := Lib.hid (HS2.out.elem hpe)
          clear hpe
          obtain ⟨a3, c3, hv3, _, _⟩ := o3.ints.val
          subst hv3
          have hs3 := h3.size
          have t2 := TH3.box.cell (j := 2) rfl
          have t3l := TH3.box.lt
          have HLE2 : Hid (X.length + x5.length ≤ 1099511627776) := Lib.hid (by
            have := HLE.out.2.2
            have : j * 6 ≤ ws.length * 6 := Nat.mul_le_mul_right _ hj
            omega)
          go_wp2_with (at_builtin; refine wpList_app _ rfl _ _ 27 rfl _ _ rfl rfl _ (run_app_ints _ w3 w1.heap.size (.slice aX X.length cX) (.slice a3 x5.length c3) X x5 TH3.own3 o3.ints HLE2.out (by omega)) ?_; rintro v4 w4 ⟨o4, g4, d4⟩; have hs4 := g4.size; have HB4 : Hid (∀ q, (Value.slice aX X.length cX).ownBlock = some q → w1.heap.size ≤ q) := Lib.hid (fun q hq => (TH3.own3.block_lt hq).1); obtain ⟨a4, c4, hv4, hz4, hz5⟩ := o4.ints.val; rw [List.length_append] at hv4 hz4; subst hv4; have TH4 := TH3.set3 g4 o4 (fun q hq => d4.elim (fun h => .inl (h ▸ hq)) (fun h => .inr (by rw [h] at hq; injection hq with hq; omega))); have bx4 := TH3.box.block (g4.block _ t3l (fun e => by have := HB4.out _ e.symm; omega)); have z4 := bx4.free 2; have q4 := bx4.cell (j := 2) rfl; have u4 := bx4.lt; have D4 := Lib.hid d4; clear d4)
          go_roundw
          case rel =>
            have OS4 := (OS.ext h3).past HWB.out g4 HB4.out (t := tb) (o := 2) (u := .slice a4 (X.length + x5.length) c4) (by omega)
            have E4 : Ext w (w4.setCell ⟨tb, 2, none⟩ (.slice a4 (X.length + x5.length) c4)) := ((EW.trans h3).only g4 (fun q hq => by have := HB4.out q hq; omega)).setAt (by omega) _ _
            have BK4 := ((BK.ext h3).block (g4.block _ (by have := (BK.ext h3).lt; omega) (fun e => by have := HB4.out _ e.symm; omega))).other (p := ⟨tb, 2, none⟩) (by simp; omega) (.slice a4 (X.length + x5.length) c4)
            have BR4 := (BR3.block (g4.block _ (by have := BR3.lt; omega) (fun e => by have := HB4.out _ e.symm; omega))).other (p := ⟨tb, 2, none⟩) (by simp; omega) (.slice a4 (X.length + x5.length) c4)
            exact ⟨j + 1, L, D, X ++ x5, _, _, _, true, by omega, by go_num, rfl, HS4, Lib.hid (by have := HLE.out; rw [List.length_append]; omega), TH4, OS4, BK4, BR4, E4, by simp [World.setCell]; omega⟩
          case measure => simp [RowKit.intOf] <;> omega
    · have : j = ws.length := by omega
      subst this
      have hst := HST.out
      rw [List.drop_length] at hst
      have HS2 := Lib.hid hst
      clear hst HST
      have t0 := TH.box.cell (j := 0) rfl; have t1 := TH.box.cell (j := 1) rfl; have t2 := TH.box.cell (j := 2) rfl
      have hTS : TenS wr (.agg #[.slice aL L.length cL, .slice aD D.length cD, .slice aX X.length cX]) L D X := ⟨_, _, _, rfl, TH.own1.ints, TH.own2.ints, TH.own3.ints⟩
      obtain ⟨y, hy⟩ : ∃ y, mkS (fmtTen k p n L D X) = y := ⟨_, rfl⟩
      have HY : Hid (y.data.toList = fmtTen k p n L D X) := Lib.hid (by rw [← hy, mkS_list])
      have HFT : Hid (Calls Tryz.prog 74 #[ringV k p n, .agg #[.slice aL L.length cL, .slice aD D.length cD, .slice aX X.length cX]] wr fun e w' => e = .returned (.string y) ∧ Ext wr w') := Lib.hid (hy ▸ formatTensor_spec k p n _ L D X wr hTS)
      clear hy
      have hRl0 := BR.lt
      by_cases hgood : b = true ∧ fmtTen k p n L D X = s.data.toList ∧ s.data.toList ≠ []
      · obtain ⟨hb, hf, hne⟩ := hgood
        subst hb
        have HIN := Lib.hid (TP.yesW hne hf)
        have hq2 := bytes_beq y s (by rw [HY.out, hf])
        have hqn2 : (y.toList != s.toList) = false := by rw [bne, hq2]; rfl
        have hq3 : (s.toList == ([] : List UInt8)) = false := by rw [beq_eq_false_iff_ne, ByteArray.toList_eq]; exact hne
        clear hf hne
        go_wp2_with fail
        refine HFT.out.mono ?_; rintro e8 w8 ⟨rfl, h8⟩
        have BR8 := BR.ext h8
        have TH8 := TH.ext h8
        have f0 := BR8.free 0; have f1 := BR8.free 1; have f2 := BR8.free 2
        have r0 := BR8.cell (j := 0) rfl; have r1 := BR8.cell (j := 1) rfl; have r2 := BR8.cell (j := 2) rfl
        have s0 := TH8.box.cell (j := 0) rfl; have s1 := TH8.box.cell (j := 1) rfl; have s2 := TH8.box.cell (j := 2) rfl
        have hRl := BR8.lt
        have hlow : w.heap.size + 1 < w1.heap.size := by omega
        go_wp2
        refine bodyPost_ret (v := .tuple #[.agg #[.slice aL L.length cL, .slice aD D.length cD, .slice aX X.length cX], .bool true]) (by simp [results, Tryz.results37, go_sem, *]) rfl ?_
        refine ⟨⟨_, L, D, X, true, rfl, HIN.out, ⟨_, _, _, rfl, ?_, ?_, ?_, fun q hq => ⟨fun e => TH.ap12 q hq e, fun e => TH.ap13 q hq e⟩, fun q hq e => TH.ap23 q hq e⟩, (by repeat' (first | (with_reducible first | exact Ext.refl _ | assumption | apply Ext.alloc | apply Ext.drew | apply Ext.drewN) | (refine Ext.setAt ?_ (by omega) _ _) | (refine Ext.trans ?_ (by assumption))))⟩⟩
        · exact (((TH8.own1.setBelow hlow _).setBelow hlow _).setBelow hlow _).mono (by omega)
        · exact (((TH8.own2.setBelow hlow _).setBelow hlow _).setBelow hlow _).mono (by omega)
        · exact (((TH8.own3.setBelow hlow _).setBelow hlow _).setBelow hlow _).mono (by omega)
      · have hbad : fmtTen k p n L D X ≠ s.data.toList ∨ s.data.toList = [] := by
          by_cases h1 : fmtTen k p n L D X = s.data.toList
          · right
            cases b
            · rw [← h1, HS2.out.bare.2, fmtTen_no (tensOk_bare L D)]
            · by_cases h2 : s.data.toList = []
              · exact h2
              · exact absurd ⟨rfl, h1, h2⟩ hgood
          · exact .inl h1
        have HIN : Hid (TP k p n s.data.toList [] [] [] false) := Lib.hid (match b, HS2 with
          | false, HS2 => HBAD.out HS2.out.bare.1
          | true, HS2 => HNO.out L D X HS2.out.fin hbad)
        clear hgood
        have hnn : fmtTen k p n L D X ≠ s.data.toList ∨ (fmtTen k p n L D X = s.data.toList ∧ s.data.toList = []) := by
          by_cases h1 : fmtTen k p n L D X = s.data.toList
          · exact .inr ⟨h1, hbad.resolve_left (fun h => h h1)⟩
          · exact .inl h1
        clear hbad
        rcases hnn with hf | ⟨hf, h0⟩
        · have hq2 := str_beq_no (z := y) (s := s) (by rw [HY.out]; exact hf)
          have hqn2 : (y.toList != s.toList) = true := by rw [bne, hq2]; rfl
          clear hf
          go_wp2_with fail
          refine HFT.out.mono ?_; rintro e8 w8 ⟨rfl, h8⟩
          have BR8 := BR.ext h8
          have f0 := BR8.free 0; have f1 := BR8.free 1; have f2 := BR8.free 2
          have r0 := BR8.cell (j := 0) rfl; have r1 := BR8.cell (j := 1) rfl; have r2 := BR8.cell (j := 2) rfl
          have hRl := BR8.lt
          go_wp2
          refine bodyPost_ret (v := .tuple #[.agg #[.slice none 0 0, .slice none 0 0, .slice none 0 0], .bool false]) (by simp [results, Tryz.results37, go_sem, *]) rfl ?_
          exact ⟨⟨_, [], [], [], false, rfl, HIN.out, OwnT.empty _ _, (by repeat' (first | (with_reducible first | exact Ext.refl _ | assumption | apply Ext.alloc | apply Ext.drew | apply Ext.drewN) | (refine Ext.setAt ?_ (by omega) _ _) | (refine Ext.trans ?_ (by assumption))))⟩⟩
        · have hq2 := bytes_beq y s (by rw [HY.out, hf])
          have hqn2 : (y.toList != s.toList) = false := by rw [bne, hq2]; rfl
          have hq3 : (s.toList == ([] : List UInt8)) = true := by rw [beq_iff_eq, ByteArray.toList_eq]; exact h0
          clear hf h0
          go_wp2_with fail
          refine HFT.out.mono ?_; rintro e8 w8 ⟨rfl, h8⟩
          have BR8 := BR.ext h8
          have f0 := BR8.free 0; have f1 := BR8.free 1; have f2 := BR8.free 2
          have r0 := BR8.cell (j := 0) rfl; have r1 := BR8.cell (j := 1) rfl; have r2 := BR8.cell (j := 2) rfl
          have hRl := BR8.lt
          go_wp2
          refine bodyPost_ret (v := .tuple #[.agg #[.slice none 0 0, .slice none 0 0, .slice none 0 0], .bool false]) (by simp [results, Tryz.results37, go_sem, *]) rfl ?_
          exact ⟨⟨_, [], [], [], false, rfl, HIN.out, OwnT.empty _ _, (by repeat' (first | (with_reducible first | exact Ext.refl _ | assumption | apply Ext.alloc | apply Ext.drew | apply Ext.drewN) | (refine Ext.setAt ?_ (by omega) _ _) | (refine Ext.trans ?_ (by assumption))))⟩⟩
end Go.Proofs.YtlgjddgajdjllaaGreatDoor
