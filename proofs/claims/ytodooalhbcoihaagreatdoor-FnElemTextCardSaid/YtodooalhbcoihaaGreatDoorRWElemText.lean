/- The law 'FnElemText', walked. -/
import Derived.Deep.RegionHeld3
import Derived.Test.YtodooalhbcoihaaGreatDoorRBase
import Derived.Test.YtodooalhbcoihaaGreatDoorRPTenW
namespace Go.Proofs.YtodooalhbcoihaaGreatDoor
open Go.RowKit
set_option linter.unusedSimpArgs false
set_option linter.unusedVariables false
open Go.Lib

theorem join_len : ∀ T : List (List UInt8), (join T [32]).length ≤ (T.map (·.length + 1)).sum
  | [] => by simp [join]
  | [a] => by simp [join]
  | a :: b :: l => by
    have ih := join_len (b :: l)
    have e : join (a :: b :: l) [32] = a ++ [32] ++ join (b :: l) [32] := by simp [join]
    rw [e]
    simp only [List.length_append, List.length_cons, List.length_nil, List.map_cons, List.sum_cons] at ih ⊢
    omega
theorem sum_le {T : List (List UInt8)} {c : Nat} : (∀ t ∈ T, t.length ≤ c) → (T.map (·.length + 1)).sum ≤ T.length * (c + 1) := by
  induction T with
  | nil => intro _; simp
  | cons a T ih =>
    intro h
    have h1 := h a (by simp)
    have h2 := ih fun t ht => h t (by simp [ht])
    rw [List.map_cons, List.sum_cons, List.length_cons, Nat.add_mul]
    omega
theorem fmtTen_len {k p n : Int} {L D X : List Int} (h : tensOk k p n L D X = true) : (fmtTen k p n L D X).length ≤ 4109 * 127 := by
  have hr := tensOk_ring h
  obtain ⟨h1, h2⟩ := toks_len hr ((tensOk_iff hr).1 h)
  rw [fmtTen_yes h]
  have a := join_len (tenToks (ringWidth k n).toNat (prodL D).toNat L D X)
  have b := sum_le h2
  have c : (tenToks (ringWidth k n).toNat (prodL D).toNat L D X).length * (126 + 1) ≤ 4109 * 127 := Nat.mul_le_mul_right _ h1
  omega
theorem numT_len {p : Int} (h : isI64 p) : (numT p).length ≤ 21 := by
  have := (itoa_len h).2
  unfold numT
  split <;> simp <;> omega
theorem fmtRing_len {k p n : Int} (h : ringOk k p n = true) : (fmtRing k p n).length ≤ 47 := by
  obtain ⟨⟨p0, p1⟩, n0, n1⟩ := ringOk_small h
  have h1 := numT_len (p := p) (by unfold isI64; omega)
  have h2 := numT_len (p := n) (by unfold isI64; omega)
  have h3 := nameL_len k
  rw [fmtRing_yes h]
  simp only [List.length_append]
  omega
set_option maxRecDepth 100000 in
set_option maxHeartbeats 4000000 in
theorem walkFnElemText (v : Value) (l : List Int) (w : World) (hT : AllV w) (hl : ByteS w v l) (hall : ∀ x ∈ l, 0 ≤ x ∧ x ≤ 255) :
    Calls Tryz.prog 3 #[v] w fun e w' => e = .returned (.bool true) ∧ Ext w w' := by
  obtain ⟨a, cap, rfl, hc1, hc2⟩ := hl.val
  by_cases big : 1048576 < l.length
  · go_enter Tryz.func3, Tryz.ntmps3
    go_wp2
    go_ret
    exact ⟨rfl, (by repeat' (first | (with_reducible exact Ext.refl _) | (with_reducible assumption) | (with_reducible apply Ext.alloc) | (with_reducible apply Ext.drew) | (with_reducible apply Ext.drewN) | (refine Ext.setAt ?_ (by omega) _ _) | (refine Ext.trans ?_ (by assumption))))⟩
  have hC : ∀ w', Ext w w' → Code w' (.slice a l.length cap) l := fun w' e => ⟨hl.ext e, hall, by omega⟩
  have HC := Lib.hid hC; clear hall hC
  go_enter Tryz.func3, Tryz.ntmps3
  go_wp2_with fail
  refine (makeRing_any _ l 0 _ (HC.out _ (by repeat' (first | (with_reducible exact Ext.refl _) | (with_reducible assumption) | (with_reducible apply Ext.alloc) | (with_reducible apply Ext.drew) | (with_reducible apply Ext.drewN) | (refine Ext.setAt ?_ (by omega) _ _) | (refine Ext.trans ?_ (by assumption))))) (by omega)).mono ?_; rintro e1 w1 ⟨k, p, n, rfl, hd, h1⟩
  have HR := Lib.hid (drawn_ok hd); clear hd
  obtain ⟨zR, hzR⟩ : ∃ z, mkS (fmtRing k p n) = z := ⟨_, rfl⟩
  have HFR : Hid (∀ w, Tab w → Calls Tryz.prog 11 #[ringV k p n] w fun e w' => e = .returned (.string zR) ∧ Ext w w') := Lib.hid fun w ht => hzR ▸ formatRing_impl k p n w ht
  have HPR : Hid (∀ w, AllV w → Calls Tryz.prog 10 #[.string zR] w fun e w' => e = .returned (.tuple #[ringV k p n, .bool true]) ∧ Ext w w') := Lib.hid fun w ht => by
    refine (parseRing_impl zR w (by rw [← hzR, mkS_size]; have := fmtRing_len HR.out; omega) ht).mono ?_
    rintro e w' ⟨k', p', n', b', rfl, hrp, h⟩
    obtain ⟨rfl, rfl, rfl, rfl⟩ := (RP.yes (s := zR.data.toList) HR.out (by rw [← hzR, mkS_list])).one hrp
    exact ⟨rfl, h⟩
  clear hzR
  go_wp2_with fail
  generalize hG2 : w1.alloc (.cells #[.int .i64 k, .int .i64 p, .int .i64 n] 24) = w2
  have h2 : Ext w1 w2 := by rw [← hG2]; exact (Ext.refl _).alloc _
  have BA2 : Blk w2 w1.heap.size 24 [.int .i64 k, .int .i64 p, .int .i64 n] := by rw [← hG2]; exact Blk.new w1 #[.int .i64 k, .int .i64 p, .int .i64 n] 24
  clear hG2
  have E2 : Ext w w2 := h1.trans h2
  have a0 := BA2.cell (j := 0) rfl; have a1 := BA2.cell (j := 1) rfl; have a2 := BA2.cell (j := 2) rfl
  have al := BA2.lt
  refine (makeElem_any _ l 10 k p n HR.out _ (HC.out _ E2) (by omega)).mono ?_; rintro e3 w3 ⟨vx, x, rfl, ox, hx, h3⟩
  obtain ⟨ax, cx, rfl, hcx, hdx⟩ := ox.ints.val
  have hok : elemOk k p n x = true := by rw [elemOk_yes HR.out]; exact hx
  obtain ⟨zE, hzE⟩ : ∃ z, mkS (fmtElem k p n x) = z := ⟨_, rfl⟩
  have HFE : Hid (∀ w v, IntS w v x → Tab w → Calls Tryz.prog 13 #[ringV k p n, v] w fun e w' => e = .returned (.string zE) ∧ Ext w w') := Lib.hid fun w v hv ht => hzE ▸ formatElem_impl k p n v x w hv ht
  have HPE : Hid (∀ w, AllV w → Calls Tryz.prog 12 #[ringV k p n, .string zE] w fun e w' => ∃ v, e = .returned (.tuple #[v, .bool true]) ∧ OwnI w' w.heap.size v x ∧ Ext w w') := Lib.hid fun w ht => by
    have h64 := elemOk_i64 hok
    have hlen := fmtL_len h64.1
    have e1 : zE.data.toList = fmtL 44 x := by rw [← hzE, mkS_list, fmtElem_yes hok]
    have hp : peO k p n zE.data.toList = some x := by rw [e1]; exact peO_fmt hok
    have := parseElem_impl k p n zE w (by rw [← hzE, mkS_size, fmtElem_yes hok]; omega) ht
    rw [pev_some hp, peb_some hp] at this
    refine this.mono ?_
    rintro e w' ⟨v, rfl, o, h⟩
    exact ⟨v, rfl, o, h⟩
  clear hzE hx hok a0 a1 a2 al
  have BA3 := BA2.ext h3
  have E3 : Ext w w3 := E2.trans h3
  have a0 := BA3.cell (j := 0) rfl; have a1 := BA3.cell (j := 1) rfl; have a2 := BA3.cell (j := 2) rfl
  have al := BA3.lt
  go_wp2_with fail
  refine (makeTensor_any _ l 20 k p n HR.out _ (HC.out _ E3) (by omega)).mono ?_; rintro e4 w4 ⟨vT, L, D, X, rfl, oT, dT, h4⟩
  have htk : tensOk k p n L D X = true := (tensOk_iff HR.out).2 dT.ok
  clear dT
  obtain ⟨p1, n1, c1, p2, n2, c2, p3, n3, c3, rfl⟩ := oT.shape
  obtain ⟨zT, hzT⟩ : ∃ z, mkS (fmtTen k p n L D X) = z := ⟨_, rfl⟩
  have HFT : Hid (∀ w, Tab w → TenS w (.agg #[.slice p1 n1 c1, .slice p2 n2 c2, .slice p3 n3 c3]) L D X → Calls Tryz.prog 15 #[ringV k p n, .agg #[.slice p1 n1 c1, .slice p2 n2 c2, .slice p3 n3 c3]] w fun e w' => e = .returned (.string zT) ∧ Ext w w') := Lib.hid fun w ht hs => hzT ▸ formatTensor_impl k p n _ L D X w hs ht
  have HPT : Hid (∀ w, AllV w → Calls Tryz.prog 14 #[ringV k p n, .string zT] w fun e w' => ∃ v, e = .returned (.tuple #[v, .bool true]) ∧ OwnT w' w.heap.size v L D X ∧ Ext w w') := Lib.hid fun w ht => by
    refine (parseTensor_impl k p n zT w (by rw [← hzT, mkS_size]; have := fmtTen_len htk; omega) ht).mono ?_
    rintro e w' ⟨v, L', D', X', b', rfl, hrp, o, h⟩
    obtain ⟨rfl, rfl, rfl, rfl⟩ := (TP.yes (s := zT.data.toList) htk (by rw [← hzT, mkS_list])).one hrp
    exact ⟨v, rfl, o, h⟩
  clear hzT htk a0 a1 a2 al
  have BA4 := BA3.ext h4
  have E4 : Ext w w4 := E3.trans h4
  have a0 := BA4.cell (j := 0) rfl; have a1 := BA4.cell (j := 1) rfl; have a2 := BA4.cell (j := 2) rfl
  have al := BA4.lt
  go_wp2_with fail
  generalize hG5 : w4.alloc (.cells #[.slice p1 n1 c1, .slice p2 n2 c2, .slice p3 n3 c3] 29) = w5
  have h5 : Ext w4 w5 := by rw [← hG5]; exact (Ext.refl _).alloc _
  have BT5 : Blk w5 w4.heap.size 29 [.slice p1 n1 c1, .slice p2 n2 c2, .slice p3 n3 c3] := by rw [← hG5]; exact Blk.new w4 #[.slice p1 n1 c1, .slice p2 n2 c2, .slice p3 n3 c3] 29
  clear hG5
  have BA5 := BA4.ext h5
  have E5 : Ext w w5 := E4.trans h5
  refine (HFR.out _ (hT.errs.tab.ext E5)).mono ?_; rintro e6 w6 ⟨rfl, h6⟩
  clear a0 a1 a2 al
  go_wp2_with fail
  refine (HPR.out _ (hT.ext (E5.trans h6))).mono ?_; rintro e7 w7 ⟨rfl, h7⟩
  have E7 : Ext w5 w7 := h6.trans h7
  have EW7 : Ext w w7 := E5.trans E7
  have s7 := E7.size
  have BA7 := BA5.ext E7; have BT7 := BT5.ext E7
  have hlA7 := BA7.lt
  have hlT7 := BT7.lt
  have a0 := BA7.cell (j := 0) rfl; have a1 := BA7.cell (j := 1) rfl; have a2 := BA7.cell (j := 2) rfl
  go_wp2_with fail
  generalize hG8 : w7.alloc (.cells #[.int .i64 k, .int .i64 p, .int .i64 n] 24) = w8
  have h8 : Ext w7 w8 := by rw [← hG8]; exact (Ext.refl _).alloc _
  have BQ8 : Blk w8 w7.heap.size 24 [.int .i64 k, .int .i64 p, .int .i64 n] := by rw [← hG8]; exact Blk.new w7 #[.int .i64 k, .int .i64 p, .int .i64 n] 24
  clear hG8
  have BA8 := BA7.ext h8; have BT8 := BT7.ext h8
  have EW8 : Ext w w8 := EW7.trans h8
  clear a0 a1 a2
  have E38 : Ext w3 w8 := h4.trans (h5.trans (E7.trans h8))
  have a0 := BA8.cell (j := 0) rfl; have a1 := BA8.cell (j := 1) rfl; have a2 := BA8.cell (j := 2) rfl
  have D8 : Ext w8 w8.drew := (Ext.refl _).drew
  go_region_held3 (fun w' => w'.cell? ⟨w1.heap.size, 0, none⟩ = some (.int .i64 k) ∧ w'.cell? ⟨w1.heap.size, 1, none⟩ = some (.int .i64 p) ∧ w'.cell? ⟨w1.heap.size, 2, none⟩ = some (.int .i64 n))
    (refine ⟨?_, ?_, ?_⟩ <;> first | assumption | (simp [*]; done))
    (first | (go_at_call 13; (with_reducible refine (HFE.out w8.drew _ (ox.ints.ext (E38.trans D8)) (hT.errs.tab.ext (EW8.trans D8))).mono ?_); rintro e9 w9 ⟨rfl, h9⟩; have E9 : Ext w8 w9 := D8.trans h9; have b0 := E9.cell a0; have b1 := E9.cell a1; have b2 := E9.cell a2) | (go_at_call 12; (with_reducible refine (HPE.out w9 (hT.ext (EW8.trans E9))).mono ?_); rintro e10 w10 ⟨vy, rfl, oy, h10⟩; obtain ⟨ay, cy, rfl, hcy, hdy⟩ := oy.ints.val; have E10 : Ext w8 w10 := E9.trans h10; have c0 := E10.cell a0; have c1' := E10.cell a1; have c2' := E10.cell a2))
  clear a0 a1 a2 b0 b1 b2 c0 c1' c2'
  have BA10 := BA8.ext E10; have BT10 := BT8.ext E10; have BQ10 := BQ8.ext E10
  have EW10 : Ext w w10 := EW8.trans E10
  have E410 : Ext w4 w10 := h5.trans (E7.trans (h8.trans E10))
  have a0 := BA10.cell (j := 0) rfl; have a1 := BA10.cell (j := 1) rfl; have a2 := BA10.cell (j := 2) rfl
  have t0 := BT10.cell (j := 0) rfl; have t1 := BT10.cell (j := 1) rfl; have t2 := BT10.cell (j := 2) rfl
  have D10 : Ext w10 w10.drew := (Ext.refl _).drew
  have hlA10 := BA10.lt; have hlT10 := BT10.lt
  go_upto_region 8 with fail
  go_cut [10, 11] from 12 (fun u ok wx => ∃ b q1 m1 d1 q2 m2 d2 q3 m3 d3, u = .pointer (some ⟨b, 0, none⟩) ∧ ok = .bool true ∧ Ext w10 wx ∧ OwnT wx w10.heap.size (.agg #[.slice q1 m1 d1, .slice q2 m2 d2, .slice q3 m3 d3]) L D X ∧ Blk wx b 29 [.slice q1 m1 d1, .slice q2 m2 d2, .slice q3 m3 d3] ∧ w10.heap.size ≤ b)
  case first =>
    go_region_law (first | (go_simp; go_at_call 15; (with_reducible refine (HFT.out _ (hT.errs.tab.ext (EW10.trans (show Ext w10 _ from (by repeat' (first | (with_reducible exact Ext.refl _) | (with_reducible assumption) | (with_reducible apply Ext.alloc) | (with_reducible apply Ext.drew) | (with_reducible apply Ext.drewN) | (refine Ext.setAt ?_ (by omega) _ _) | (refine Ext.trans ?_ (by assumption))))))) (oT.tens.ext (E410.trans (show Ext w10 _ from (by repeat' (first | (with_reducible exact Ext.refl _) | (with_reducible assumption) | (with_reducible apply Ext.alloc) | (with_reducible apply Ext.drew) | (with_reducible apply Ext.drewN) | (refine Ext.setAt ?_ (by omega) _ _) | (refine Ext.trans ?_ (by assumption)))))))).mono ?_); rintro e11 w11 ⟨rfl, h11⟩; have E11 : Ext w10 w11 := (show Ext w10 _ from (by repeat' (first | (with_reducible exact Ext.refl _) | (with_reducible assumption) | (with_reducible apply Ext.alloc) | (with_reducible apply Ext.drew) | (with_reducible apply Ext.drewN) | (refine Ext.setAt ?_ (by omega) _ _) | (refine Ext.trans ?_ (by assumption))))).trans h11; have b0 := E11.cell a0; have b1 := E11.cell a1; have b2 := E11.cell a2; have b3 := E11.cell t0; have b4 := E11.cell t1; have b5 := E11.cell t2; have hl11 := E11.size; have lA11 : w1.heap.size < w11.heap.size := (by omega); have lT11 : w4.heap.size < w11.heap.size := (by omega); (try (have BU11 : Blk w11 w10.heap.size 29 [.slice none 0 0, .slice none 0 0, .slice none 0 0] := (Blk.new w10.drew #[.slice none 0 0, .slice none 0 0, .slice none 0 0] 29).ext h11))) | (go_simp; go_at_call 14; (with_reducible refine (HPT.out _ (hT.ext (EW10.trans (show Ext w10 _ from (by repeat' (first | (with_reducible exact Ext.refl _) | (with_reducible assumption) | (with_reducible apply Ext.alloc) | (with_reducible apply Ext.drew) | (with_reducible apply Ext.drewN) | (refine Ext.setAt ?_ (by omega) _ _) | (refine Ext.trans ?_ (by assumption)))))))).mono ?_); rintro e12 w12 ⟨vU, rfl, oU, h12⟩; obtain ⟨q1, m1, d1, q2, m2, d2, q3, m3, d3, rfl⟩ := oU.shape; have E12 : Ext w10 w12 := (show Ext w10 _ from (by repeat' (first | (with_reducible exact Ext.refl _) | (with_reducible assumption) | (with_reducible apply Ext.alloc) | (with_reducible apply Ext.drew) | (with_reducible apply Ext.drewN) | (refine Ext.setAt ?_ (by omega) _ _) | (refine Ext.trans ?_ (by assumption))))).trans h12; (try (have BU12 : Blk w12 w11.heap.size 29 [.slice none 0 0, .slice none 0 0, .slice none 0 0] := (Blk.new w11 #[.slice none 0 0, .slice none 0 0, .slice none 0 0] 29).ext h12; have z0 := BU12.free 0; have z1 := BU12.free 1; have z2 := BU12.free 2; have y0 := BU12.cell (j := 0) rfl; have y1 := BU12.cell (j := 1) rfl; have y2 := BU12.cell (j := 2) rfl; have zl := BU12.lt)); (try (have BU12 : Blk w12 w10.heap.size 29 [.slice none 0 0, .slice none 0 0, .slice none 0 0] := BU11.ext h12; have z0 := BU12.free 0; have z1 := BU12.free 1; have z2 := BU12.free 2; have y0 := BU12.cell (j := 0) rfl; have y1 := BU12.cell (j := 1) rfl; have y2 := BU12.cell (j := 2) rfl; have zl := BU12.lt))))
    all_goals
      go_wp2_with fail
      go_meet
      first
        | exact ⟨w12.heap.size, q1, m1, d1, q2, m2, d2, q3, m3, d3, rfl, rfl, E12.alloc _, (oU.mono (by first | omega | (simp; omega))).ext ((Ext.refl _).alloc _), Blk.new w12 #[.slice q1 m1 d1, .slice q2 m2 d2, .slice q3 m3 d3] 29, E12.size⟩
        | exact ⟨w11.heap.size, q1, m1, d1, q2, m2, d2, q3, m3, d3, rfl, rfl, ((E12.setAt hl11 0 _).setAt hl11 1 _).setAt hl11 2 _, (((oU.setBelow (p := ⟨w11.heap.size, 0, none⟩) (by simp) _).setBelow (p := ⟨w11.heap.size, 1, none⟩) (by simp) _).setBelow (p := ⟨w11.heap.size, 2, none⟩) (by simp) _).mono (by first | omega | (simp; omega)), ((BU12.set 0 _).set 1 _).set 2 _, hl11⟩
        | exact ⟨w10.heap.size, q1, m1, d1, q2, m2, d2, q3, m3, d3, rfl, rfl, ((E12.setAt (Nat.le_refl _) 0 _).setAt (Nat.le_refl _) 1 _).setAt (Nat.le_refl _) 2 _, (((oU.setBelow (p := ⟨w10.heap.size, 0, none⟩) (by have := BU11.lt; first | omega | (simp; omega)) _).setBelow (p := ⟨w10.heap.size, 1, none⟩) (by have := BU11.lt; first | omega | (simp; omega)) _).setBelow (p := ⟨w10.heap.size, 2, none⟩) (by have := BU11.lt; first | omega | (simp; omega)) _).mono (by first | omega | (simp; omega)), ((BU12.set 0 _).set 1 _).set 2 _, (Nat.le_refl _)⟩
  case rest =>
    obtain ⟨bU, q1, m1, d1, q2, m2, d2, q3, m3, d3, rfl, rfl, E13, oU, BU, hbU⟩ := hcut
    have BA13 := BA10.ext E13; have BT13 := BT10.ext E13; have BQ13 := BQ10.ext E13
    have r0 := BA13.cell (j := 0) rfl; have r1 := BA13.cell (j := 1) rfl; have r2 := BA13.cell (j := 2) rfl
    have s0 := BQ13.cell (j := 0) rfl; have s1 := BQ13.cell (j := 1) rfl; have s2 := BQ13.cell (j := 2) rfl
    have x0 := BT13.cell (j := 0) rfl; have x1 := BT13.cell (j := 1) rfl; have x2 := BT13.cell (j := 2) rfl
    have y0 := BU.cell (j := 0) rfl; have y1 := BU.cell (j := 1) rfl; have y2 := BU.cell (j := 2) rfl
    go_wp2_with fail
    refine (ints_same _ _ x x _ (ox.ints.ext (E38.trans (E10.trans E13))) (oy.ints.ext E13) rfl).mono ?_; rintro e14 u14 ⟨rfl, rfl⟩
    go_wp2_with fail
    refine (same_same _ _ L D X L D X _ (oT.tens.ext (E410.trans E13)) oU.tens rfl rfl rfl).mono ?_; rintro e15 w15 ⟨rfl, h15⟩
    go_wp2
    go_ret
    exact ⟨rfl, (EW10.trans E13).trans h15⟩
end Go.Proofs.YtodooalhbcoihaaGreatDoor
