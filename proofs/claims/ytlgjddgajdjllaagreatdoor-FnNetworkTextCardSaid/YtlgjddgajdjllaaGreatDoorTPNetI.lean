/- ParseNetwork of the program. -/
import Derived.Test.YtlgjddgajdjllaaGreatDoorTPNetH
set_option linter.unusedSimpArgs false
set_option linter.unusedVariables false
namespace Go.Proofs.YtlgjddgajdjllaaGreatDoor
open Go.RowKit
open Go.Lib
set_option maxRecDepth 100000 in
set_option maxHeartbeats 8000000 in
theorem parseNetwork_impl (s : ByteArray) (w : World) (hs : s.size ≤ 10000000) (hT : AllV w) : Calls Tryz.prog 7 #[.string s] w fun e w' => PNR s.data.toList w w' e := by
 obtain ⟨ls, hls⟩ : ∃ ls, linesL s.data.toList = ls := ⟨_, rfl⟩
 have HPL : Hid (∀ q ∈ ls, q.length ≤ s.size) := Lib.hid fun q hq => by rw [← hls] at hq; have := lines_mem_le hq; rwa [slen] at this
 have HA : Hid (∀ w, Maxl w → Calls Tryz.prog 18 #[.string s] w fun e w' => ∃ v, e = .returned v ∧ OwnStr w' w.heap.size v (mkSs ls) ∧ Ext w w') := Lib.hid fun w hM => by
  have := lines_impl s w (by omega) hM
  rwa [hls] at this
 have HLS := Lib.hid hls; clear hls
 obtain ⟨nl, hnl⟩ : ∃ nl, ls.length = nl := ⟨_, rfl⟩
 have HNL := Lib.hid hnl; clear hnl
 go_enter Tryz.func7, Tryz.ntmps7
 go_upto_region 1 with fail
 have hH : Held w w [] := Held.new (Ext.refl w) 0
 have hB : Held w (w.alloc (.cells #[.int .i64 0, .int .i64 0, .int .i64 0, .slice none 0 0, .slice none 0 0] 29)) [aB (w.heap.size) 29 [.int .i64 0, .int .i64 0, .int .i64 0, .slice none 0 0, .slice none 0 0]] := by
  have h := (hH.mores 1).addB 0 #[.int .i64 0, .int .i64 0, .int .i64 0, .slice none 0 0, .slice none 0 0] 29
  exact h
 have hsz : (w.alloc (.cells #[.int .i64 0, .int .i64 0, .int .i64 0, .slice none 0 0, .slice none 0 0] 29)).heap.size = w.heap.size + 1 := by simp
 generalize w.alloc (.cells #[.int .i64 0, .int .i64 0, .int .i64 0, .slice none 0 0, .slice none 0 0] 29) = wn1 at hB hsz ⊢
 replace hH := hB; have HSZwn1 := Lib.hid hsz; clear hB hsz
 obtain ⟨wz, rfl⟩ : ∃ q, q = wn1 := ⟨wn1, rfl⟩
 obtain ⟨q0_0, q0_1, q0_2, q0_3, q0_4, l0_⟩ := hH.c5 0 rfl
 go_wp2_with fail
 clear q0_0 q0_1 q0_2 q0_3 q0_4 l0_
 refine (HA.out _ (hT.maxl.ext hH.ext)).mono ?_; rintro ewn2 wn2 ⟨v1, rfl, oL, hwn2⟩
 replace hH : Held w wn2 [aB (w.heap.size) 29 [.int .i64 0, .int .i64 0, .int .i64 0, .slice none 0 0, .slice none 0 0], aS v1 (mkSs ls)] := (hH.mores 1).addS 1 hwn2 oL (Nat.le_refl _)
 clear hwn2
 obtain ⟨aL, cL, hv1, hcL1, hcL2⟩ := (hH.ownS (k := 1) rfl).strs.val
 rw [mkSs_length, HNL.out] at hv1 hcL1
 subst hv1
 by_cases h2 : nl < 2
 ·
  have hI : (nl : Int) < 2 := by omega
  have HNO := Lib.hid (NP.len (s := s.data.toList) (.inl (by rw [HLS.out, HNL.out]; exact h2)))
  obtain ⟨q0_0, q0_1, q0_2, q0_3, q0_4, l0_⟩ := hH.c5 0 rfl; have f0_0 := hH.fr 0 0 rfl; have f0_1 := hH.fr 0 1 rfl; have f0_2 := hH.fr 0 2 rfl; have f0_3 := hH.fr 0 3 rfl; have f0_4 := hH.fr 0 4 rfl
  have HH := Lib.hid hH
  go_upto_region 3 with fail
  repeat go_step
  refine bodyPost_ret (v := .tuple #[.agg #[.int .i64 0, .int .i64 0, .int .i64 0, .slice none 0 0, .slice none 0 0], .bool false]) (by simp [results, Tryz.results7, go_sem, *]) rfl ?_
  exact PNR.fail HNO.out (HH.out.setB5 (k := 0) rfl (.int .i64 0) (.int .i64 0) (.int .i64 0) (.slice none 0 0) (.slice none 0 0))
 ·
  by_cases h14 : 14 < nl
  ·
   have hI : ¬ (nl : Int) < 2 := by omega
   have hI2 : (14 : Int) < (nl : Int) := by omega
   have HNO := Lib.hid (NP.len (s := s.data.toList) (.inr (by rw [HLS.out, HNL.out]; exact h14)))
   obtain ⟨q0_0, q0_1, q0_2, q0_3, q0_4, l0_⟩ := hH.c5 0 rfl; have f0_0 := hH.fr 0 0 rfl; have f0_1 := hH.fr 0 1 rfl; have f0_2 := hH.fr 0 2 rfl; have f0_3 := hH.fr 0 3 rfl; have f0_4 := hH.fr 0 4 rfl
   have HH := Lib.hid hH
   go_upto_region 3 with fail
   repeat go_step
   refine bodyPost_ret (v := .tuple #[.agg #[.int .i64 0, .int .i64 0, .int .i64 0, .slice none 0 0, .slice none 0 0], .bool false]) (by simp [results, Tryz.results7, go_sem, *]) rfl ?_
   exact PNR.fail HNO.out (HH.out.setB5 (k := 0) rfl (.int .i64 0) (.int .i64 0) (.int .i64 0) (.slice none 0 0) (.slice none 0 0))
  ·
   have hI : ¬ (nl : Int) < 2 := by omega
   have hI2 : ¬ (14 : Int) < (nl : Int) := by omega
   have hJ0 : (0 : Int) < (nl : Int) := by omega
   have hJ1 : (1 : Int) < (nl : Int) := by omega
   have hJ2 : 0 < nl := by omega
   have hJ3 : 1 < nl := by omega
   obtain ⟨a, ha⟩ : ∃ a, ls[0]? = some a := ⟨_, List.getElem?_eq_getElem (by rw [HNL.out]; omega)⟩
   obtain ⟨b, hb⟩ : ∃ b, ls[1]? = some b := ⟨_, List.getElem?_eq_getElem (by rw [HNL.out]; omega)⟩
   obtain ⟨bL, rfl⟩ := hH.lineAt (k := 1) rfl ha
   obtain ⟨z0, hz0⟩ : ∃ z, mkS a = z := ⟨_, rfl⟩
   obtain ⟨z1, hz1⟩ : ∃ z, mkS b = z := ⟨_, rfl⟩
   have hs0 : z0.size ≤ s.size := by rw [← hz0]; exact line_known HPL.out ha
   have hs1 : z1.size ≤ s.size := by rw [← hz1]; exact line_known HPL.out hb
   have HZ0 : Hid (z0.data.toList = a) := Lib.hid (by rw [← hz0, mkS_list])
   have HZ1 : Hid (z1.data.toList = b) := Lib.hid (by rw [← hz1, mkS_list])
   have HL0 : Hid ((linesL s.data.toList)[0]? = some a) := Lib.hid (by rw [HLS.out]; exact ha)
   have HL1 : Hid ((linesL s.data.toList)[1]? = some b) := Lib.hid (by rw [HLS.out]; exact hb)
   have HYA := Lib.hid ha; have HYB := Lib.hid hb; have HY0 := Lib.hid hz0; have HY1 := Lib.hid hz1
   clear ha hb hz0 hz1 h2 h14
   obtain ⟨q0_0, q0_1, q0_2, q0_3, q0_4, l0_⟩ := hH.c5 0 rfl
   have c_l0 := hH.lineC (k := 1) rfl HYA.out HY0.out
   have c_l1 := hH.lineC (k := 1) rfl HYB.out HY1.out
   go_wp2_with fail
   clear q0_0 q0_1 q0_2 q0_3 q0_4 l0_ c_l0 c_l1
   refine (parseRing_impl z0 _ (by omega) (hT.ext hH.ext)).mono ?_; rintro ewn3 wn3 ⟨⟨k, p, n, okr, rfl, hrp, hwn3⟩⟩
   rw [HZ0.out] at hrp
   replace hH : Held w wn3 [aB (w.heap.size) 29 [.int .i64 0, .int .i64 0, .int .i64 0, .slice none 0 0, .slice none 0 0], aS (.slice (some ⟨bL, 0, none⟩) nl cL) (mkSs ls)] := hH.grow hwn3
   clear hwn3
   obtain ⟨q0_0, q0_1, q0_2, q0_3, q0_4, l0_⟩ := hH.c5 0 rfl
   have c_l0 := hH.lineC (k := 1) rfl HYA.out HY0.out
   have c_l1 := hH.lineC (k := 1) rfl HYB.out HY1.out
   go_upto_region 5 with fail
   clear q0_0 q0_1 q0_2 q0_3 q0_4 l0_ c_l0 c_l1
   have hB : Held w (wn3.alloc (.cells #[.int .i64 k, .int .i64 p, .int .i64 n] 24)) [aB (w.heap.size) 29 [.int .i64 0, .int .i64 0, .int .i64 0, .slice none 0 0, .slice none 0 0], aS (.slice (some ⟨bL, 0, none⟩) nl cL) (mkSs ls), aB (wn3.heap.size) 24 [.int .i64 k, .int .i64 p, .int .i64 n]] := by
    have h := (hH.mores 1).addB 2 #[.int .i64 k, .int .i64 p, .int .i64 n] 24
    exact h
   have hsz : (wn3.alloc (.cells #[.int .i64 k, .int .i64 p, .int .i64 n] 24)).heap.size = wn3.heap.size + 1 := by simp
   generalize wn3.alloc (.cells #[.int .i64 k, .int .i64 p, .int .i64 n] 24) = wn4 at hB hsz ⊢
   replace hH := hB; have HSZwn4 := Lib.hid hsz; clear hB hsz
   obtain ⟨wy, rfl⟩ : ∃ q, q = wn4 := ⟨wn4, rfl⟩
   obtain ⟨q0_0, q0_1, q0_2, q0_3, q0_4, l0_⟩ := hH.c5 0 rfl; obtain ⟨q2_0, q2_1, q2_2, l2_⟩ := hH.c3 2 rfl
   have c_l0 := hH.lineC (k := 1) rfl HYA.out HY0.out
   have c_l1 := hH.lineC (k := 1) rfl HYB.out HY1.out
   go_wp2_with fail
   clear q0_0 q0_1 q0_2 q0_3 q0_4 l0_ q2_0 q2_1 q2_2 l2_ c_l0 c_l1
   refine (cutOpen_any z1 _ (by omega)).mono ?_; rintro ec wc ⟨⟨rs, fd, rfl, hwc, hrz, hcut⟩⟩; rw [hwc]; clear hwc
   rw [HZ1.out] at hcut
   cases okr
   ·
    have HNO := Lib.hid (NP.ring HL0.out hrp); clear hcut hrp
    obtain ⟨q0_0, q0_1, q0_2, q0_3, q0_4, l0_⟩ := hH.c5 0 rfl; have f0_0 := hH.fr 0 0 rfl; have f0_1 := hH.fr 0 1 rfl; have f0_2 := hH.fr 0 2 rfl; have f0_3 := hH.fr 0 3 rfl; have f0_4 := hH.fr 0 4 rfl; obtain ⟨q2_0, q2_1, q2_2, l2_⟩ := hH.c3 2 rfl
    have c_l0 := hH.lineC (k := 1) rfl HYA.out HY0.out
    have c_l1 := hH.lineC (k := 1) rfl HYB.out HY1.out
    have HH := Lib.hid hH
    go_upto_region 7 with fail
    repeat go_step
    refine bodyPost_ret (v := .tuple #[.agg #[.int .i64 0, .int .i64 0, .int .i64 0, .slice none 0 0, .slice none 0 0], .bool false]) (by simp [results, Tryz.results7, go_sem, *]) rfl ?_
    exact PNR.fail HNO.out (HH.out.setB5 (k := 0) rfl (.int .i64 0) (.int .i64 0) (.int .i64 0) (.slice none 0 0) (.slice none 0 0))
   ·
    have HRP := Lib.hid hrp; clear hrp
    rcases hcut with ⟨rfl, hc4, hcr⟩ | ⟨rfl, hc4⟩
    rotate_left
    ·
     have HNO := Lib.hid (NP.noI HL1.out (opI_no hc4)); clear hc4
     obtain ⟨q0_0, q0_1, q0_2, q0_3, q0_4, l0_⟩ := hH.c5 0 rfl; have f0_0 := hH.fr 0 0 rfl; have f0_1 := hH.fr 0 1 rfl; have f0_2 := hH.fr 0 2 rfl; have f0_3 := hH.fr 0 3 rfl; have f0_4 := hH.fr 0 4 rfl; obtain ⟨q2_0, q2_1, q2_2, l2_⟩ := hH.c3 2 rfl
     have c_l0 := hH.lineC (k := 1) rfl HYA.out HY0.out
     have c_l1 := hH.lineC (k := 1) rfl HYB.out HY1.out
     have HH := Lib.hid hH
     go_upto_region 7 with fail
     repeat go_step
     refine bodyPost_ret (v := .tuple #[.agg #[.int .i64 0, .int .i64 0, .int .i64 0, .slice none 0 0, .slice none 0 0], .bool false]) (by simp [results, Tryz.results7, go_sem, *]) rfl ?_
     exact PNR.fail HNO.out (HH.out.setB5 (k := 0) rfl (.int .i64 0) (.int .i64 0) (.int .i64 0) (.slice none 0 0) (.slice none 0 0))
    ·
     obtain ⟨q0_0, q0_1, q0_2, q0_3, q0_4, l0_⟩ := hH.c5 0 rfl; obtain ⟨q2_0, q2_1, q2_2, l2_⟩ := hH.c3 2 rfl
     have c_l0 := hH.lineC (k := 1) rfl HYA.out HY0.out
     have c_l1 := hH.lineC (k := 1) rfl HYB.out HY1.out
     go_upto_region 9 with fail
     clear q0_0 q0_1 q0_2 q0_3 q0_4 l0_ q2_0 q2_1 q2_2 l2_ c_l0 c_l1
     have hB : Held w (wy.alloc (.cells #[.int .i64 k, .int .i64 p, .int .i64 n, .slice none 0 0, .slice none 0 0] 29)) [aB (w.heap.size) 29 [.int .i64 0, .int .i64 0, .int .i64 0, .slice none 0 0, .slice none 0 0], aS (.slice (some ⟨bL, 0, none⟩) nl cL) (mkSs ls), aB (wn3.heap.size) 24 [.int .i64 k, .int .i64 p, .int .i64 n], aB (wy.heap.size) 29 [.int .i64 k, .int .i64 p, .int .i64 n, .slice none 0 0, .slice none 0 0]] := by
      have h := (hH.mores 1).addB 3 #[.int .i64 k, .int .i64 p, .int .i64 n, .slice none 0 0, .slice none 0 0] 29
      exact h
     have hsz : (wy.alloc (.cells #[.int .i64 k, .int .i64 p, .int .i64 n, .slice none 0 0, .slice none 0 0] 29)).heap.size = wy.heap.size + 1 := by simp
     generalize wy.alloc (.cells #[.int .i64 k, .int .i64 p, .int .i64 n, .slice none 0 0, .slice none 0 0] 29) = wn5 at hB hsz ⊢
     replace hH := hB; have HSZwn5 := Lib.hid hsz; clear hB hsz
     obtain ⟨bq, hbq⟩ : ∃ q, rs.toList.isEmpty = q := ⟨_, rfl⟩
     obtain ⟨q0_0, q0_1, q0_2, q0_3, q0_4, l0_⟩ := hH.c5 0 rfl; obtain ⟨q2_0, q2_1, q2_2, l2_⟩ := hH.c3 2 rfl; obtain ⟨q3_0, q3_1, q3_2, q3_3, q3_4, l3_⟩ := hH.c5 3 rfl
     have c_l0 := hH.lineC (k := 1) rfl HYA.out HY0.out
     have c_l1 := hH.lineC (k := 1) rfl HYB.out HY1.out
     go_upto_if 51 with fail
     clear q0_0 q0_1 q0_2 q0_3 q0_4 l0_ q2_0 q2_1 q2_2 l2_ q3_0 q3_1 q3_2 q3_3 q3_4 l3_ c_l0 c_l1
     have HBQ := Lib.hid hbq; clear hbq
     go_cut [10, 11] from 16 (fun so sf wx => ∃ (ov : Value) (O : List Int), Hid (opI b = some O) ∧ O.length ≤ 1000000000 ∧ Held w wx [aB (w.heap.size) 29 [.int .i64 0, .int .i64 0, .int .i64 0, .slice none 0 0, .slice none 0 0], aS (.slice (some ⟨bL, 0, none⟩) nl cL) (mkSs ls), aB (wn3.heap.size) 24 [.int .i64 k, .int .i64 p, .int .i64 n], aB (wy.heap.size) 29 [.int .i64 k, .int .i64 p, .int .i64 n, .slice none 0 0, ov], aI ov O])
     case first =>
      cases bq
      rotate_left
      ·
       have hre : rs.data.toList = [] := by have := HBQ.out; rw [ByteArray.toList_eq] at this; exact List.isEmpty_iff.1 this
       have HOP := Lib.hid (opI_nil hc4 (by rw [← hcr]; exact hre))
       clear hcr hc4
       obtain ⟨q0_0, q0_1, q0_2, q0_3, q0_4, l0_⟩ := hH.c5 0 rfl; obtain ⟨q2_0, q2_1, q2_2, l2_⟩ := hH.c3 2 rfl; obtain ⟨q3_0, q3_1, q3_2, q3_3, q3_4, l3_⟩ := hH.c5 3 rfl
       have c_l0 := hH.lineC (k := 1) rfl HYA.out HY0.out
       have c_l1 := hH.lineC (k := 1) rfl HYB.out HY1.out
       go_wp2_with fail
       clear q0_0 q0_1 q0_2 q0_3 q0_4 l0_ q2_0 q2_1 q2_2 l2_ q3_0 q3_1 q3_2 q3_3 q3_4 l3_ c_l0 c_l1
       go_meet
       exact ⟨_, _, HOP, by simp, hH.nilI⟩
      ·
       have hre : ¬ rs.data.toList = [] := fun e => by have := HBQ.out; rw [ByteArray.toList_eq, e] at this; cases this
       have HOP := Lib.hid (opI_ints hc4 (by rw [← hcr]; exact hre))
       have hrs1 : 1 ≤ rs.size := by
        rw [← slen]
        exact List.length_pos_iff.2 hre
       have hrsi : (1 : Int) ≤ (rs.size : Int) := by omega
       obtain ⟨t, ht⟩ : ∃ t : ByteArray, rs.extract 1 rs.size = t := ⟨_, rfl⟩
       have HTL : Hid (t.data.toList = (b.drop 4).drop 1) := Lib.hid (by rw [← ht, Go.Lib.extract_to_end, hcr])
       have hts : t.size ≤ s.size := by
        have h1 : t.size ≤ rs.size := by rw [← ht]; exact size_ext rs 1 rs.size (Nat.le_refl _)
        omega
       clear hcr hc4 hre
       obtain ⟨q0_0, q0_1, q0_2, q0_3, q0_4, l0_⟩ := hH.c5 0 rfl; obtain ⟨q2_0, q2_1, q2_2, l2_⟩ := hH.c3 2 rfl; obtain ⟨q3_0, q3_1, q3_2, q3_3, q3_4, l3_⟩ := hH.c5 3 rfl
       have c_l0 := hH.lineC (k := 1) rfl HYA.out HY0.out
       have c_l1 := hH.lineC (k := 1) rfl HYB.out HY1.out
       go_wp2_with fail
       clear q0_0 q0_1 q0_2 q0_3 q0_4 l0_ q2_0 q2_1 q2_2 l2_ q3_0 q3_1 q3_2 q3_3 q3_4 l3_ c_l0 c_l1
       refine (parseInts_impl t _ (by omega) (hT.ext hH.ext)).mono ?_; rintro ewn6 wn6 ⟨⟨v4, rfl, o4, hwn6⟩⟩
       replace hH : Held w wn6 [aB (w.heap.size) 29 [.int .i64 0, .int .i64 0, .int .i64 0, .slice none 0 0, .slice none 0 0], aS (.slice (some ⟨bL, 0, none⟩) nl cL) (mkSs ls), aB (wn3.heap.size) 24 [.int .i64 k, .int .i64 p, .int .i64 n], aB (wy.heap.size) 29 [.int .i64 k, .int .i64 p, .int .i64 n, .slice none 0 0, .slice none 0 0], aI v4 (piv 32 t.data.toList)] := (hH.mores 1).addI 4 hwn6 o4 (Nat.le_refl _)
       clear hwn6
       rw [HTL.out] at hH ⊢
       cases hi : intsBy 32 ((b.drop 4).drop 1) with
       | none =>
        have HNO := Lib.hid (NP.noI HL1.out (by rw [HOP.out]; exact hi))
        rw [pib_none hi]
        rw [piv_none hi] at hH
        obtain ⟨a4, c4, rfl, _, _⟩ := (hH.ints (k := 4) rfl).val
        clear hi
        obtain ⟨q0_0, q0_1, q0_2, q0_3, q0_4, l0_⟩ := hH.c5 0 rfl; have f0_0 := hH.fr 0 0 rfl; have f0_1 := hH.fr 0 1 rfl; have f0_2 := hH.fr 0 2 rfl; have f0_3 := hH.fr 0 3 rfl; have f0_4 := hH.fr 0 4 rfl; obtain ⟨q2_0, q2_1, q2_2, l2_⟩ := hH.c3 2 rfl; obtain ⟨q3_0, q3_1, q3_2, q3_3, q3_4, l3_⟩ := hH.c5 3 rfl
        have c_l0 := hH.lineC (k := 1) rfl HYA.out HY0.out
        have c_l1 := hH.lineC (k := 1) rfl HYB.out HY1.out
        have HH := Lib.hid hH
        go_upto_region 12 with fail
        repeat go_step
        refine bodyPost_ret (v := .tuple #[.agg #[.int .i64 0, .int .i64 0, .int .i64 0, .slice none 0 0, .slice none 0 0], .bool false]) (by simp [results, Tryz.results7, go_sem, *]) rfl ?_
        exact PNR.fail HNO.out (HH.out.setB5 (k := 0) rfl (.int .i64 0) (.int .i64 0) (.int .i64 0) (.slice none 0 0) (.slice none 0 0))
       | some O =>
        have HO2 := Lib.hid (HOP.out.trans hi)
        have hol := ints_len hi
        rw [← HTL.out, slen] at hol
        rw [pib_some hi]
        rw [piv_some hi] at hH
        clear hi
        obtain ⟨a4, c4, rfl, _, _⟩ := (hH.ints (k := 4) rfl).val
        obtain ⟨q0_0, q0_1, q0_2, q0_3, q0_4, l0_⟩ := hH.c5 0 rfl; obtain ⟨q2_0, q2_1, q2_2, l2_⟩ := hH.c3 2 rfl; obtain ⟨q3_0, q3_1, q3_2, q3_3, q3_4, l3_⟩ := hH.c5 3 rfl; have f3_0 := hH.fr 3 0 rfl; have f3_1 := hH.fr 3 1 rfl; have f3_2 := hH.fr 3 2 rfl; have f3_3 := hH.fr 3 3 rfl; have f3_4 := hH.fr 3 4 rfl
        have c_l0 := hH.lineC (k := 1) rfl HYA.out HY0.out
        have c_l1 := hH.lineC (k := 1) rfl HYB.out HY1.out
        go_wp2_with fail
        go_meet
        exact ⟨_, _, HO2, by omega, hH.setB (k := 3) rfl 4 (.slice a4 O.length c4)⟩
     case rest =>
      clear hH
      obtain ⟨ov, O, HOO, hol, hH⟩ := hcut
      have HRD := Lib.hid (Rd.startI HL0.out HRP.out HL1.out HOO.out)
      have HR := Lib.hid HRD.out.ring
      clear hc4 hcr
      obtain ⟨wb, rfl⟩ : ∃ q, q = wc := ⟨wc, rfl⟩
      obtain ⟨aO, cO, rfl, _, _⟩ := (hH.ints (k := 4) rfl).val
      obtain ⟨m, hm⟩ : ∃ m, nl - 2 = m := ⟨_, rfl⟩
      obtain ⟨cM, hcM⟩ : ∃ c, cL - 2 = c := ⟨_, rfl⟩
      obtain ⟨q0_0, q0_1, q0_2, q0_3, q0_4, l0_⟩ := hH.c5 0 rfl; obtain ⟨q2_0, q2_1, q2_2, l2_⟩ := hH.c3 2 rfl; obtain ⟨q3_0, q3_1, q3_2, q3_3, q3_4, l3_⟩ := hH.c5 3 rfl
      have c_l0 := hH.lineC (k := 1) rfl HYA.out HY0.out
      have c_l1 := hH.lineC (k := 1) rfl HYB.out HY1.out
      go_upto_region 14 with fail
      clear q0_0 q0_1 q0_2 q0_3 q0_4 l0_ q2_0 q2_1 q2_2 l2_ q3_0 q3_1 q3_2 q3_3 q3_4 l3_ c_l0 c_l1
      go_cut [64, 65, 66] from 16 (fun x y z wx => ∃ o, x = .slice (some ⟨bL, o, none⟩) m cM ∧ (0 < m → o = 2) ∧ y = .int .i64 (m : Int) ∧ z = .int .i64 0 ∧ wx = wb)
      case first =>
       have hlo : 2 ≤ nl := by omega
       have hlo2 : (2 : Int) ≤ (nl : Int) := by omega
       by_cases hc2 : cL = 2
       · subst hc2; obtain rfl : cM = 0 := by omega
         go_wp2_with fail; go_meet; exact ⟨_, rfl, fun h => by omega, rfl, rfl, rfl⟩
       · go_wp2_with fail; go_meet; exact ⟨_, rfl, fun h => rfl, rfl, rfl, rfl⟩
      case rest =>
       obtain ⟨o, rfl, ho, rfl, rfl, hwc⟩ := hcut
       rw [hwc]; clear hwc
       replace hH := hH.nilTs
       replace hH : Held w wb [aB (w.heap.size) 29 [.int .i64 0, .int .i64 0, .int .i64 0, .slice none 0 0, .slice none 0 0], aS (.slice (some ⟨bL, 0, none⟩) nl cL) (mkSs ls), aB (wn3.heap.size) 24 [.int .i64 k, .int .i64 p, .int .i64 n], aB (wy.heap.size) 29 [.int .i64 k, .int .i64 p, .int .i64 n, .slice none 0 0, .slice aO O.length cO], aI (.slice aO O.length cO) O, aTs (.slice none 0 0) [] []] := hH
       go_wp2_with fail
       go_loopw [66] (fun i wr => ∃ (j : Nat) (tv : Value) (cs : List (Value × Value × Value)) (T : List Ten3), j ≤ m ∧ i = .int .i64 (j : Int) ∧ Hid (T.length = j) ∧ Hid (Rd s.data.toList k p n O T) ∧ Hid (ApartD cs) ∧ Held w wr [aB (w.heap.size) 29 [.int .i64 0, .int .i64 0, .int .i64 0, .slice none 0 0, .slice none 0 0], aS (.slice (some ⟨bL, 0, none⟩) nl cL) (mkSs ls), aB (wn3.heap.size) 24 [.int .i64 k, .int .i64 p, .int .i64 n], aB (wy.heap.size) 29 [.int .i64 k, .int .i64 p, .int .i64 n, tv, .slice aO O.length cO], aI (.slice aO O.length cO) O, aTs (tv) cs T]) (fun i wr => m - (RowKit.intOf i).toNat)
       case atStart => exact ⟨0, _, [], [], Nat.zero_le _, rfl, Lib.hid rfl, HRD, Lib.hid ApartD.nil, hH⟩
       case round =>
        clear hH HRD
        obtain ⟨j, tv, cs, T, hj, rfl, HQL, HRD, HAP, hH⟩ := hrel
        obtain ⟨wq, rfl⟩ : ∃ q, q = wr := ⟨wr, rfl⟩
        obtain ⟨aQ, cQ, hvQ, _, _⟩ := (hH.tensS (k := 5) rfl).val
        rw [HQL.out] at hvQ
        subst hvQ
        by_cases hlt : j < m
        ·
         obtain rfl : o = 2 := ho (by omega)
         obtain ⟨l, hl⟩ : ∃ l, ls[2 + j]? = some l := ⟨_, List.getElem?_eq_getElem (by rw [HNL.out]; omega)⟩
         obtain ⟨zl, hzl⟩ : ∃ z, mkS l = z := ⟨_, rfl⟩
         have hsl : zl.size ≤ s.size := by rw [← hzl]; exact line_known HPL.out hl
         have HZL : Hid (zl.data.toList = l) := Lib.hid (by rw [← hzl, mkS_list])
         have HLJ : Hid ((linesL s.data.toList)[T.length + 2]? = some l) := Lib.hid (by rw [HLS.out, HQL.out, Nat.add_comm]; exact hl)
         have HYL := Lib.hid hl; have HYZ := Lib.hid hzl
         clear hl hzl
         obtain ⟨q0_0, q0_1, q0_2, q0_3, q0_4, l0_⟩ := hH.c5 0 rfl; obtain ⟨q2_0, q2_1, q2_2, l2_⟩ := hH.c3 2 rfl; obtain ⟨q3_0, q3_1, q3_2, q3_3, q3_4, l3_⟩ := hH.c5 3 rfl
         have c_ll := hH.lineC (k := 1) rfl HYL.out HYZ.out
         go_wp2_with fail
         clear q0_0 q0_1 q0_2 q0_3 q0_4 l0_ q2_0 q2_1 q2_2 l2_ q3_0 q3_1 q3_2 q3_3 q3_4 l3_ c_ll
         refine (parseTensor_impl k p n zl _ (by omega) (hT.ext hH.ext)).mono ?_; rintro ewn7 wn7 ⟨⟨vt, Lt, Dt, Xt, bt, rfl, htp, oT, hwn7⟩⟩
         rw [HZL.out] at htp
         obtain ⟨tp1, tn1, tc1, tp2, tn2, tc2, tp3, tn3, tc3, rfl⟩ := oT.shape
         replace hH : Held w wn7 [aB (w.heap.size) 29 [.int .i64 0, .int .i64 0, .int .i64 0, .slice none 0 0, .slice none 0 0], aS (.slice (some ⟨bL, 0, none⟩) nl cL) (mkSs ls), aB (wn3.heap.size) 24 [.int .i64 k, .int .i64 p, .int .i64 n], aB (wy.heap.size) 29 [.int .i64 k, .int .i64 p, .int .i64 n, .slice aQ j cQ, .slice aO O.length cO], aI (.slice aO O.length cO) O, aTs (.slice aQ j cQ) cs T, aT (.agg #[.slice tp1 tn1 tc1, .slice tp2 tn2 tc2, .slice tp3 tn3 tc3]) Lt Dt Xt] := (hH.mores 1).addT 6 hwn7 oT (Nat.le_refl _)
         clear hwn7
         obtain ⟨q0_0, q0_1, q0_2, q0_3, q0_4, l0_⟩ := hH.c5 0 rfl; obtain ⟨q2_0, q2_1, q2_2, l2_⟩ := hH.c3 2 rfl; obtain ⟨q3_0, q3_1, q3_2, q3_3, q3_4, l3_⟩ := hH.c5 3 rfl
         go_upto_region 18 with fail
         clear q0_0 q0_1 q0_2 q0_3 q0_4 l0_ q2_0 q2_1 q2_2 l2_ q3_0 q3_1 q3_2 q3_3 q3_4 l3_
         have hB : Held w (wn7.alloc (.cells #[.slice tp1 tn1 tc1, .slice tp2 tn2 tc2, .slice tp3 tn3 tc3] 52)) [aB (w.heap.size) 29 [.int .i64 0, .int .i64 0, .int .i64 0, .slice none 0 0, .slice none 0 0], aS (.slice (some ⟨bL, 0, none⟩) nl cL) (mkSs ls), aB (wn3.heap.size) 24 [.int .i64 k, .int .i64 p, .int .i64 n], aB (wy.heap.size) 29 [.int .i64 k, .int .i64 p, .int .i64 n, .slice aQ j cQ, .slice aO O.length cO], aI (.slice aO O.length cO) O, aTs (.slice aQ j cQ) cs T, aT (.agg #[.slice tp1 tn1 tc1, .slice tp2 tn2 tc2, .slice tp3 tn3 tc3]) Lt Dt Xt, aB (wn7.heap.size) 52 [.slice tp1 tn1 tc1, .slice tp2 tn2 tc2, .slice tp3 tn3 tc3]] := by
          have h := (hH.mores 1).addB 7 #[.slice tp1 tn1 tc1, .slice tp2 tn2 tc2, .slice tp3 tn3 tc3] 52
          exact h
         have hsz : (wn7.alloc (.cells #[.slice tp1 tn1 tc1, .slice tp2 tn2 tc2, .slice tp3 tn3 tc3] 52)).heap.size = wn7.heap.size + 1 := by simp
         generalize wn7.alloc (.cells #[.slice tp1 tn1 tc1, .slice tp2 tn2 tc2, .slice tp3 tn3 tc3] 52) = wn8 at hB hsz ⊢
         replace hH := hB; have HSZwn8 := Lib.hid hsz; clear hB hsz
         cases bt
         ·
          have HNO := Lib.hid (HRD.out.bad HLJ.out htp); clear htp
          obtain ⟨q0_0, q0_1, q0_2, q0_3, q0_4, l0_⟩ := hH.c5 0 rfl; have f0_0 := hH.fr 0 0 rfl; have f0_1 := hH.fr 0 1 rfl; have f0_2 := hH.fr 0 2 rfl; have f0_3 := hH.fr 0 3 rfl; have f0_4 := hH.fr 0 4 rfl; obtain ⟨q2_0, q2_1, q2_2, l2_⟩ := hH.c3 2 rfl; obtain ⟨q3_0, q3_1, q3_2, q3_3, q3_4, l3_⟩ := hH.c5 3 rfl; obtain ⟨q7_0, q7_1, q7_2, l7_⟩ := hH.c3 7 rfl
          have HH := Lib.hid hH
          go_upto_region 19 with fail
          repeat go_step
          refine bodyPost_ret (v := .tuple #[.agg #[.int .i64 0, .int .i64 0, .int .i64 0, .slice none 0 0, .slice none 0 0], .bool false]) (by simp [results, Tryz.results7, go_sem, *]) rfl ?_
          exact PNR.fail HNO.out (HH.out.setB5 (k := 0) rfl (.int .i64 0) (.int .i64 0) (.int .i64 0) (.slice none 0 0) (.slice none 0 0))
         ·
          have HRN := Lib.hid (HRD.out.step HLJ.out htp); clear htp
          have HAP2 := Lib.hid (HAP.out.push hH (k1 := 5) (k2 := 6) rfl rfl (by decide))
          have HTL : Hid ((T ++ [(Lt, Dt, Xt)]).length = j + 1) := Lib.hid (by rw [List.length_append, List.length_singleton, HQL.out])
          obtain ⟨q0_0, q0_1, q0_2, q0_3, q0_4, l0_⟩ := hH.c5 0 rfl; obtain ⟨q2_0, q2_1, q2_2, l2_⟩ := hH.c3 2 rfl; obtain ⟨q3_0, q3_1, q3_2, q3_3, q3_4, l3_⟩ := hH.c5 3 rfl; obtain ⟨q7_0, q7_1, q7_2, l7_⟩ := hH.c3 7 rfl
          go_upto_region 20 with fail
          clear q0_0 q0_1 q0_2 q0_3 q0_4 l0_ q2_0 q2_1 q2_2 l2_ q3_0 q3_1 q3_2 q3_3 q3_4 l3_ q7_0 q7_1 q7_2 l7_; obtain ⟨q0_0, q0_1, q0_2, q0_3, q0_4, l0_⟩ := hH.c5 0 rfl; obtain ⟨q2_0, q2_1, q2_2, l2_⟩ := hH.c3 2 rfl; obtain ⟨q3_0, q3_1, q3_2, q3_3, q3_4, l3_⟩ := hH.c5 3 rfl; have f3_0 := hH.fr 3 0 rfl; have f3_1 := hH.fr 3 1 rfl; have f3_2 := hH.fr 3 2 rfl; have f3_3 := hH.fr 3 3 rfl; have f3_4 := hH.fr 3 4 rfl; obtain ⟨q7_0, q7_1, q7_2, l7_⟩ := hH.c3 7 rfl
          go_wp2_with (at_builtin; refine wpList_app _ rfl _ _ 26 rfl _ _ rfl rfl _ (run_pushT2 _ (hH.grow ((Ext.refl _).alloc _)) (k1 := 5) (k2 := 6) rfl rfl (by decide) (row_one3 _ _ _ _ _) (by rw [HQL.out]; omega)) ?_; rintro vp wp ⟨hHp, gp⟩; obtain ⟨ap, cp, hvp, _, _⟩ := (hHp.tensS (k := 5) rfl).val; rw [List.length_append, List.length_singleton, HQL.out] at hvp; subst hvp; have yB := hHp.blk (k := 3) rfl; have yl := yB.lt; have y3 := yB.cell (j := 3) rfl; have y3f := yB.free 3; clear yB)
          have hHq := hHp.setB (k := 3) rfl 3 (.slice ap (j + 1) cp)
          go_roundw
          case rel => exact ⟨j + 1, _, _, _, by omega, by go_num, HTL, HRN, HAP2, hHq.sub (.cons_cons _ (.cons_cons _ (.cons_cons _ (.cons_cons _ (.cons_cons _ (.cons_cons _ (.cons _ (.cons _ .slnil))))))))⟩
          case measure => simp [RowKit.intOf]; omega
        ·
         have hje : j = m := by omega
         subst hje
         clear hlt hj ho
         have HLN : Hid ((linesL s.data.toList).length = T.length + 2) := Lib.hid (by rw [HLS.out, HNL.out, HQL.out]; omega)
         have HT12 : Hid (T.length ≤ 12) := Lib.hid (by rw [HQL.out]; omega)
         have HTE := Lib.hid HRD.out.tens
         obtain ⟨wo, rfl⟩ : ∃ q, q = wq := ⟨wq, rfl⟩
         obtain ⟨q0_0, q0_1, q0_2, q0_3, q0_4, l0_⟩ := hH.c5 0 rfl; obtain ⟨q2_0, q2_1, q2_2, l2_⟩ := hH.c3 2 rfl; obtain ⟨q3_0, q3_1, q3_2, q3_3, q3_4, l3_⟩ := hH.c5 3 rfl
         go_wp2_with fail
         clear q0_0 q0_1 q0_2 q0_3 q0_4 l0_ q2_0 q2_1 q2_2 l2_ q3_0 q3_1 q3_2 q3_3 q3_4 l3_
         refine (networkOk_gen HR.out HTE.out HT12.out _ _ _ (hH.tensS (k := 5) rfl) (hH.ints (k := 4) rfl)).mono ?_; rintro ewn9 wn9 ⟨rfl, hwn9⟩
         replace hH : Held w wn9 [aB (w.heap.size) 29 [.int .i64 0, .int .i64 0, .int .i64 0, .slice none 0 0, .slice none 0 0], aS (.slice (some ⟨bL, 0, none⟩) nl cL) (mkSs ls), aB (wn3.heap.size) 24 [.int .i64 k, .int .i64 p, .int .i64 n], aB (wy.heap.size) 29 [.int .i64 k, .int .i64 p, .int .i64 n, .slice aQ j cQ, .slice aO O.length cO], aI (.slice aO O.length cO) O, aTs (.slice aQ j cQ) cs T] := hH.grow hwn9
         clear hwn9
         cases hnb : netB T O
         ·
          have HNO := Lib.hid (HRD.out.no HLN.out (fun h => by rw [hnb] at h; cases h)); clear hnb
          obtain ⟨q0_0, q0_1, q0_2, q0_3, q0_4, l0_⟩ := hH.c5 0 rfl; have f0_0 := hH.fr 0 0 rfl; have f0_1 := hH.fr 0 1 rfl; have f0_2 := hH.fr 0 2 rfl; have f0_3 := hH.fr 0 3 rfl; have f0_4 := hH.fr 0 4 rfl; obtain ⟨q2_0, q2_1, q2_2, l2_⟩ := hH.c3 2 rfl; obtain ⟨q3_0, q3_1, q3_2, q3_3, q3_4, l3_⟩ := hH.c5 3 rfl
          have HH := Lib.hid hH
          go_upto_region 23 with fail
          repeat go_step
          refine bodyPost_ret (v := .tuple #[.agg #[.int .i64 0, .int .i64 0, .int .i64 0, .slice none 0 0, .slice none 0 0], .bool false]) (by simp [results, Tryz.results7, go_sem, *]) rfl ?_
          exact PNR.fail HNO.out (HH.out.setB5 (k := 0) rfl (.int .i64 0) (.int .i64 0) (.int .i64 0) (.slice none 0 0) (.slice none 0 0))
         ·
          obtain ⟨y, hy⟩ : ∃ y, mkS (fnAll k p n O T) = y := ⟨_, rfl⟩
          have HYY : Hid (y.data.toList = fmtNetB k p n O T) := Lib.hid (by rw [← hy, mkS_list, fnAll, hnb]; rfl)
          have HYE := Lib.hid hy; have HNB := Lib.hid hnb; clear hy hnb
          obtain ⟨q0_0, q0_1, q0_2, q0_3, q0_4, l0_⟩ := hH.c5 0 rfl; obtain ⟨q2_0, q2_1, q2_2, l2_⟩ := hH.c3 2 rfl; obtain ⟨q3_0, q3_1, q3_2, q3_3, q3_4, l3_⟩ := hH.c5 3 rfl
          go_wp2_with fail
          clear q0_0 q0_1 q0_2 q0_3 q0_4 l0_ q2_0 q2_1 q2_2 l2_ q3_0 q3_1 q3_2 q3_3 q3_4 l3_
          refine (formatNetwork_impl HR.out HTE.out HT12.out hol _ _ _ (hH.tensS (k := 5) rfl) (hH.ints (k := 4) rfl) (hT.errs.tab.ext hH.ext)).mono ?_; rintro ewn10 wn10 ⟨rfl, hwn10⟩
          rw [HYE.out]
          replace hH : Held w wn10 [aB (w.heap.size) 29 [.int .i64 0, .int .i64 0, .int .i64 0, .slice none 0 0, .slice none 0 0], aS (.slice (some ⟨bL, 0, none⟩) nl cL) (mkSs ls), aB (wn3.heap.size) 24 [.int .i64 k, .int .i64 p, .int .i64 n], aB (wy.heap.size) 29 [.int .i64 k, .int .i64 p, .int .i64 n, .slice aQ j cQ, .slice aO O.length cO], aI (.slice aO O.length cO) O, aTs (.slice aQ j cQ) cs T] := hH.grow hwn10
          clear hwn10
          by_cases hf : fmtNetB k p n O T = s.data.toList
          ·
           have hq2 := bytes_beq y s (by rw [HYY.out, hf])
           have hqn2 : (y.toList != s.toList) = false := by rw [bne, hq2]; rfl
           have HNP := Lib.hid (HRD.out.yes HT12.out HNB.out hf)
           clear hf
           obtain ⟨q0_0, q0_1, q0_2, q0_3, q0_4, l0_⟩ := hH.c5 0 rfl; have f0_0 := hH.fr 0 0 rfl; have f0_1 := hH.fr 0 1 rfl; have f0_2 := hH.fr 0 2 rfl; have f0_3 := hH.fr 0 3 rfl; have f0_4 := hH.fr 0 4 rfl; obtain ⟨q2_0, q2_1, q2_2, l2_⟩ := hH.c3 2 rfl; obtain ⟨q3_0, q3_1, q3_2, q3_3, q3_4, l3_⟩ := hH.c5 3 rfl
           have HH := Lib.hid hH
           go_upto_region 24 with fail
           repeat go_step
           refine bodyPost_ret (v := .tuple #[.agg #[.int .i64 k, .int .i64 p, .int .i64 n, .slice aQ j cQ, .slice aO O.length cO], .bool true]) (by simp [results, Tryz.results7, go_sem, *]) rfl ?_
           exact ⟨⟨k, p, n, _, _, cs, O, T, true, rfl, HNP.out, (HH.out.setB5 (k := 0) rfl (.int .i64 k) (.int .i64 p) (.int .i64 n) (.slice aQ j cQ) (.slice aO O.length cO)).sub (.cons _ (.cons _ (.cons _ (.cons _ (.cons_cons _ (.cons_cons _ .slnil)))))), HAP.out⟩⟩
          ·
           have hq2 := str_beq_no (z := y) (s := s) (by rw [HYY.out]; exact hf)
           have hqn2 : (y.toList != s.toList) = true := by rw [bne, hq2]; rfl
           have HNO := Lib.hid (HRD.out.no HLN.out (fun _ => hf))
           clear hf
           obtain ⟨q0_0, q0_1, q0_2, q0_3, q0_4, l0_⟩ := hH.c5 0 rfl; have f0_0 := hH.fr 0 0 rfl; have f0_1 := hH.fr 0 1 rfl; have f0_2 := hH.fr 0 2 rfl; have f0_3 := hH.fr 0 3 rfl; have f0_4 := hH.fr 0 4 rfl; obtain ⟨q2_0, q2_1, q2_2, l2_⟩ := hH.c3 2 rfl; obtain ⟨q3_0, q3_1, q3_2, q3_3, q3_4, l3_⟩ := hH.c5 3 rfl
           have HH := Lib.hid hH
           go_upto_region 23 with fail
           repeat go_step
           refine bodyPost_ret (v := .tuple #[.agg #[.int .i64 0, .int .i64 0, .int .i64 0, .slice none 0 0, .slice none 0 0], .bool false]) (by simp [results, Tryz.results7, go_sem, *]) rfl ?_
           exact PNR.fail HNO.out (HH.out.setB5 (k := 0) rfl (.int .i64 0) (.int .i64 0) (.int .i64 0) (.slice none 0 0) (.slice none 0 0))
end Go.Proofs.YtlgjddgajdjllaaGreatDoor
