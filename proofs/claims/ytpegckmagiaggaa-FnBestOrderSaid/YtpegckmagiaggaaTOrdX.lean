/- place, size, resultLabels of an order's state. -/
import Derived.Test.YtpegckmagiaggaaTOrdW
import Derived.Test.YtpegckmagiaggaaTNetVX
set_option linter.unusedSimpArgs false
set_option linter.unusedVariables false
namespace Go.Proofs.Ytpegckmagiaggaa
open Go.RowKit
theorem findGo_drop {l : List Int} {x : Int} {j : Nat} {y : Int} (h : l[j]? = some y) : findGo x (j : Int) (l.drop j) = if y = x then (j : Int) else findGo x ((j + 1 : Nat) : Int) (l.drop (j + 1)) := by
  obtain ⟨hj, rfl⟩ := List.getElem?_eq_some_iff.1 h
  rw [List.drop_eq_getElem_cons hj, findGo]; rfl
set_option maxRecDepth 100000 in
set_option maxHeartbeats 4000000 in
theorem place_any {s : Nat} {A op : List Int} {cs : List (Int × Value)} {ls : List (List Int)} {nx : Int} (hal : A.length = 100) (w : World) (hS : OrdS w s A op cs ls nx) (hlen : ls.length ≤ 1000) (x : Int) :
 Calls Try.prog 136 #[.pointer (some ⟨s, 0, none⟩), .int .i64 x] w fun e w' => e = .returned (.int .i64 (findL (cs.map (·.1)) x)) ∧ Ext w w' := by
 obtain ⟨ov, lv, hB, hov, hovs, hLv⟩ := hS.has
 obtain ⟨aV, cV, rfl, hcV1, hcV2⟩ := hLv.val
 obtain ⟨aO, cO, rfl, hcO1, hcO2⟩ := hov.val
 obtain ⟨m, hm⟩ : ∃ m, ls.length = m := ⟨_, rfl⟩
 rw [hm] at hLv hcV1 hlen hB
 have HM := Lib.hid hm
 have hcm : cs.length = m := by rw [hLv.len]; exact hm
 have HCM := Lib.hid hcm; clear hm hcm
 have HAL := Lib.hid hal
 have k100 := (state_100 hal hB).1
 have k101 := (state_100 hal hB).2.1
 have k102 := (state_100 hal hB).2.2
 have kst := hB.lt
 clear hal
 obtain ⟨NS, hNS⟩ : ∃ q, cs.map (·.1) = q := ⟨_, rfl⟩
 obtain ⟨R, hR⟩ : ∃ q, findL (cs.map (·.1)) x = q := ⟨_, rfl⟩
 rw [hR]
 rw [hNS] at hR
 have hnl : NS.length = m := by rw [← hNS, List.length_map]; exact HCM.out
 have HNS := Lib.hid hNS; have HR := Lib.hid hR; have HNL := Lib.hid hnl; clear hNS hR hnl
 have hH : Held w w [] := Held.new (Ext.refl w) 0
 go_enter Try.func136, Try.ntmps136
 have c_k100 := hH.ext.cell k100; have c_k101 := hH.ext.cell k101; have c_k102 := hH.ext.cell k102
 have c_kst := Nat.lt_of_lt_of_le kst hH.ext.size
 go_wp2_with fail
 clear c_k100 c_k101 c_k102 c_kst
 go_loopw [12] (fun i wr => ∃ j : Nat, j ≤ m ∧ i = .int .i64 (j : Int) ∧ Hid (findGo x (j : Int) (NS.drop j) = R) ∧ Held w wr []) (fun i wr => m - (RowKit.intOf i).toNat)
 case atStart => exact ⟨0, Nat.zero_le _, rfl, HR, hH⟩
 case round =>
  clear hH
  obtain ⟨j, hj, rfl, HF, hH⟩ := hrel
  by_cases hlt : j < m
  ·
   obtain ⟨bL, oL, c, l, hV, hcj, hlj, hq0, hq1, hI⟩ := hLv.get (i := j) (by rw [HM.out]; exact hlt)
   subst hV
   obtain ⟨n, u⟩ := c
   simp only at hq0 hq1 hI
   obtain ⟨ea, ec, rfl, _, _⟩ := hI.val
   rw [Nat.mul_comm 2 j] at hq0 hq1
   rw [← Nat.add_assoc] at hq1
   have HC := Lib.hid hcj; have HL := Lib.hid hlj; clear hcj hlj
   have hnj : NS[j]? = some n := by rw [← HNS.out, List.getElem?_map, HC.out]; rfl
   have hfd := findGo_drop (x := x) hnj
   rw [HF.out] at hfd
   have HFD := Lib.hid hfd; clear hfd hnj
   have c_k100 := hH.ext.cell k100; have c_k101 := hH.ext.cell k101; have c_k102 := hH.ext.cell k102; have c_hq0 := hH.ext.cell hq0; have c_hq1 := hH.ext.cell hq1
   have c_kst := Nat.lt_of_lt_of_le kst hH.ext.size
   go_upto_region 4 with fail
   clear c_k100 c_k101 c_k102 c_hq0 c_hq1 c_kst
   have hB : Held w (wr.alloc (.cells #[.int .i64 n, .slice ea l.length ec] 140)) [aB (wr.heap.size) 140 [.int .i64 n, .slice ea l.length ec]] := by
    have h := (hH.mores 1).addB 0 #[.int .i64 n, .slice ea l.length ec] 140
    exact h
   have hsz : (wr.alloc (.cells #[.int .i64 n, .slice ea l.length ec] 140)).heap.size = wr.heap.size + 1 := by simp
   generalize wr.alloc (.cells #[.int .i64 n, .slice ea l.length ec] 140) = wn1 at hB hsz ⊢
   replace hH := hB; have HSZwn1 := Lib.hid hsz; clear hB hsz
   by_cases hnx : n = x
   ·
    have hR2 := HFD.out; rw [if_pos hnx] at hR2
    have HR2 := Lib.hid hR2; clear hR2
    have q0_0 := hH.cl 0 0 rfl rfl; have q0_1 := hH.cl 0 1 rfl rfl; have l0_ := hH.bl 0 rfl; have c_k100 := hH.ext.cell k100; have c_k101 := hH.ext.cell k101; have c_k102 := hH.ext.cell k102; have c_hq0 := hH.ext.cell hq0; have c_hq1 := hH.ext.cell hq1
    have c_kst := Nat.lt_of_lt_of_le kst hH.ext.size
    have HE := Lib.hid hH.ext
    go_wp2
    go_ret
    exact ⟨by rw [← HR2.out]; rfl, HE.out⟩
   ·
    have hR2 := HFD.out; rw [if_neg hnx] at hR2
    have HR2 := Lib.hid hR2.symm; clear hR2
    have q0_0 := hH.cl 0 0 rfl rfl; have q0_1 := hH.cl 0 1 rfl rfl; have l0_ := hH.bl 0 rfl; have c_k100 := hH.ext.cell k100; have c_k101 := hH.ext.cell k101; have c_k102 := hH.ext.cell k102; have c_hq0 := hH.ext.cell hq0; have c_hq1 := hH.ext.cell hq1
    have c_kst := Nat.lt_of_lt_of_le kst hH.ext.size
    go_wp2_with fail
    go_roundw
    case rel => exact ⟨j + 1, by omega, by go_num, HR2, hH.sub (.cons _ .slnil)⟩
    case measure => simp [RowKit.intOf]; omega
  ·
   have hje : j = m := by omega
   subst hje
   have hR2 := HF.out; rw [List.drop_eq_nil_of_le (by rw [HNL.out]; exact Nat.le_refl _)] at hR2
   have HR2 : Hid ((-1 : Int) = R) := Lib.hid hR2; clear hR2
   have HE := Lib.hid hH.ext; clear hH
   go_wp2
   go_ret
   exact ⟨by rw [← HR2.out]; rfl, HE.out⟩
set_option maxRecDepth 100000 in
set_option maxHeartbeats 4000000 in
theorem size_any {dm : Int → Int} {S : List Int} {s : Nat} {op : List Int} {cs : List (Int × Value)} {ls : List (List Int)} {nx : Int} (w : World) (hS : OrdS w s (arrL dm S) op cs ls nx) (hlen : ls.length ≤ 1000) {L : List Int} (hL : ∀ x ∈ L, (0 ≤ x ∧ x ≤ 99) ∧ x ∈ S) (hdl : ∀ d ∈ L.map dm, 1 ≤ d ∧ d ≤ 8) (hpl : prodL (L.map dm) ≤ 4096) (hll : L.length ≤ 1000) (v : Value) (hv : IntS w v L) :
 Calls Try.prog 137 #[.pointer (some ⟨s, 0, none⟩), v] w fun e w' => e = .returned (.int .i64 (prodL (L.map dm))) ∧ Ext w w' := by
 have hal : (arrL dm S).length = 100 := arrL_length _ _
 obtain ⟨ov, lv, hB, hov, hovs, hLv⟩ := hS.has
 obtain ⟨aV, cV, rfl, hcV1, hcV2⟩ := hLv.val
 obtain ⟨aO, cO, rfl, hcO1, hcO2⟩ := hov.val
 obtain ⟨m, hm⟩ : ∃ m, ls.length = m := ⟨_, rfl⟩
 rw [hm] at hLv hcV1 hlen hB
 have HM := Lib.hid hm
 have hcm : cs.length = m := by rw [hLv.len]; exact hm
 have HCM := Lib.hid hcm; clear hm hcm
 have HAL := Lib.hid hal
 have k100 := (state_100 hal hB).1
 have k101 := (state_100 hal hB).2.1
 have k102 := (state_100 hal hB).2.2
 have kst := hB.lt
 clear hal
 obtain ⟨av, cv, rfl, _, _⟩ := hv.val
 have HLL := Lib.hid hL; have HDL := Lib.hid hdl; clear hL hdl
 obtain ⟨P, hP⟩ : ∃ q, prodL (L.map dm) = q := ⟨_, rfl⟩
 rw [hP] at hpl ⊢
 have HP := Lib.hid hP; clear hP
 have hH : Held w w [] := Held.new (Ext.refl w) 0
 go_enter Try.func137, Try.ntmps137
 go_wp2_with (first | (refine wpList_load_arrS rfl _ rfl rfl hB HAL.out ?_))
 refine (axesOf_ten HLL.out hll _ _ hv).mono ?_; rintro e2 w2 ⟨u, rfl, ou, h2⟩
 obtain ⟨p1, c1, p2, c2, p3, c3, rfl⟩ := ou.shape3 (L.length) (L.length) (0) rfl (by rw [List.length_map]) rfl
 have hfd : ∀ w : World, (Instr.field 32 (.agg #[.slice p1 L.length c1, .slice p2 L.length c2, .slice p3 0 c3]) 1).run Try.prog w = .ok (.slice p2 L.length c2) w := fun _ => by kernel_rfl
 obtain ⟨_, _, _, hvv, _, hTD, _⟩ := ou.tens.val
 simp at hvv
 obtain ⟨rfl, rfl, rfl⟩ := hvv
 have hTD' := hTD; clear hTD
 go_wp2_with fail
 refine (cappedProduct_any _ (L.map dm) 1000000000 _ hTD' HDL.out (by rw [HP.out]; exact hpl) (by omega) (by omega)).mono ?_; rintro e3 w3 ⟨rfl, h3⟩
 rw [HP.out]
 have HE := Lib.hid (h2.trans h3); clear ou h2 h3 hTD'
 go_wp2
 go_ret
 exact ⟨rfl, HE.out⟩
end Go.Proofs.Ytpegckmagiaggaa
