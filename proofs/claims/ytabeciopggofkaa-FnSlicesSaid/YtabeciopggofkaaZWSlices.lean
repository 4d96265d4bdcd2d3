/- The law 'FnSlices', walked. -/
import Derived.Test.YtabeciopggofkaaZBase
import Derived.Test.YtabeciopggofkaaZSlicesL
import Derived.Test.YtabeciopggofkaaZG14
import Derived.Test.YtabeciopggofkaaZG15
import Derived.Test.YtabeciopggofkaaZG10
import Derived.Test.YtabeciopggofkaaZDrawS
namespace Go.Proofs.Ytabeciopggofkaa
open Go.RowKit
set_option linter.unusedSimpArgs false
set_option linter.unusedVariables false
set_option maxRecDepth 100000 in
set_option maxHeartbeats 8000000 in
theorem walkFnSlices (v : Value) (l : List Int) (w : World) (hl : ByteS w v l) (hall : ∀ x ∈ l, 0 ≤ x ∧ x ≤ 255) :
    Calls Try.prog 9 #[v] w fun e w' => e = .returned (.bool true) ∧ Ext w w' := by
  obtain ⟨ca, cap, rfl, hc1, hc2⟩ := hl.val
  by_cases big : 1048576 < l.length
  · go_enter Try.func9, Try.ntmps9
    go_wp2
    go_ret
    exact ⟨rfl, (by repeat' (first | (with_reducible exact Ext.refl _) | (with_reducible assumption) | (with_reducible apply Ext.alloc) | (with_reducible apply Ext.drew) | (with_reducible apply Ext.drewN) | (refine Ext.setAt ?_ (by omega) _ _) | (refine Ext.trans ?_ (by assumption))))⟩
  have hC : Code w (.slice ca l.length cap) l := ⟨hl, hall, by omega⟩
  clear hall hl
  have hH : Held w w [] := Held.new (Ext.refl w) 0
  go_enter Try.func9, Try.ntmps9
  go_wp2_with fail
  refine (makeRing_any _ l 0 _ (hC.ext hH.ext) (by omega)).mono ?_; rintro ewn1 wn1 ⟨k, p, n, rfl, hd, hwn1⟩
  have HR := Lib.hid (drawn_ok hd); clear hd
  replace hH : Held w wn1 [] := hH.grow hwn1
  clear hwn1
  go_wp2_with fail
  have hB : Held w (wn1.alloc (.cells #[.int .i64 k, .int .i64 p, .int .i64 n] 24)) [aB (wn1.heap.size) 24 [.int .i64 k, .int .i64 p, .int .i64 n]] := by
    have h := (hH.mores 1).addB 0 #[.int .i64 k, .int .i64 p, .int .i64 n] 24
    exact h
  have hsz : (wn1.alloc (.cells #[.int .i64 k, .int .i64 p, .int .i64 n] 24)).heap.size = wn1.heap.size + 1 := by simp
  generalize wn1.alloc (.cells #[.int .i64 k, .int .i64 p, .int .i64 n] 24) = wn2 at hB hsz ⊢
  replace hH := hB; have HSZwn2 := Lib.hid hsz; clear hB hsz
  have q0_0 := (hH.blk (k := 0) rfl).cell (j := 0) rfl
  have q0_1 := (hH.blk (k := 0) rfl).cell (j := 1) rfl
  have q0_2 := (hH.blk (k := 0) rfl).cell (j := 2) rfl
  have l0_ := (hH.blk (k := 0) rfl).lt
  go_wp2_with fail
  clear q0_0 q0_1 q0_2 l0_
  refine (makeTensor_any _ l 10 k p n HR.out _ (hC.ext hH.ext) (by omega)).mono ?_; rintro ewn3 wn3 ⟨vTt, L, Dt, Xt, rfl, ot, dT, hwn3⟩
  obtain ⟨xs, rfl, rfl, hT⟩ := drawn_isT HR.out dT
  have hl3 : L.length ≤ 3 := by have := dT.labs.len; omega
  have HT := Lib.hid hT; clear dT hT
  obtain ⟨tp1, tn1, tc1, tp2, tn2, tc2, tp3, tn3, tc3, rfl⟩ := ot.shape
  obtain ⟨_, _, _, hvv, hL0, hD0, hX0⟩ := ot.tens.val
  simp at hvv
  obtain ⟨rfl, rfl, rfl⟩ := hvv
  obtain ⟨_, _, hvv, hcL1, _⟩ := hL0.val
  cases hvv
  obtain ⟨_, _, hvv, hcD1, hcD9⟩ := hD0.val
  rw [List.length_map] at hvv hcD1
  cases hvv
  obtain ⟨_, _, hvv, _, _⟩ := hX0.val
  cases hvv
  clear hL0 hD0 hX0
  replace hH : Held w wn3 [aB (wn1.heap.size) 24 [.int .i64 k, .int .i64 p, .int .i64 n], aT (.agg #[.slice tp1 L.length tc1, .slice tp2 L.length tc2, .slice tp3 (flat xs).length tc3]) L (L.map dimOf) (flat xs)] := (hH.mores 1).addT 1 hwn3 ot (Nat.le_refl _)
  clear hwn3
  have hcl : L.length ≤ 3 := hl3
  clear ot
  by_cases hL : L.length = 0
  · skip
    obtain rfl : L = [] := List.eq_nil_of_length_eq_zero hL
    simp only [List.length_nil] at *
    have q0_0 := (hH.blk (k := 0) rfl).cell (j := 0) rfl
    have q0_1 := (hH.blk (k := 0) rfl).cell (j := 1) rfl
    have q0_2 := (hH.blk (k := 0) rfl).cell (j := 2) rfl
    have l0_ := (hH.blk (k := 0) rfl).lt
    go_wp2_with fail
    clear q0_0 q0_1 q0_2 l0_
    have hB : Held w (wn3.alloc (.cells #[.slice tp1 0 tc1, .slice tp2 0 tc2, .slice tp3 (flat xs).length tc3] 31)) [aB (wn1.heap.size) 24 [.int .i64 k, .int .i64 p, .int .i64 n], aT (.agg #[.slice tp1 0 tc1, .slice tp2 0 tc2, .slice tp3 (flat xs).length tc3]) [] (List.map dimOf []) (flat xs), aB (wn3.heap.size) 31 [.slice tp1 0 tc1, .slice tp2 0 tc2, .slice tp3 (flat xs).length tc3]] := by
      have h := (hH.mores 1).addB 2 #[.slice tp1 0 tc1, .slice tp2 0 tc2, .slice tp3 (flat xs).length tc3] 31
      exact h
    have hsz : (wn3.alloc (.cells #[.slice tp1 0 tc1, .slice tp2 0 tc2, .slice tp3 (flat xs).length tc3] 31)).heap.size = wn3.heap.size + 1 := by simp
    generalize wn3.alloc (.cells #[.slice tp1 0 tc1, .slice tp2 0 tc2, .slice tp3 (flat xs).length tc3] 31) = wn4 at hB hsz ⊢
    replace hH := hB; have HSZwn4 := Lib.hid hsz; clear hB hsz
    have q0_0 := (hH.blk (k := 0) rfl).cell (j := 0) rfl
    have q0_1 := (hH.blk (k := 0) rfl).cell (j := 1) rfl
    have q0_2 := (hH.blk (k := 0) rfl).cell (j := 2) rfl
    have l0_ := (hH.blk (k := 0) rfl).lt
    have q2_0 := (hH.blk (k := 2) rfl).cell (j := 0) rfl
    have q2_1 := (hH.blk (k := 2) rfl).cell (j := 1) rfl
    have q2_2 := (hH.blk (k := 2) rfl).cell (j := 2) rfl
    have l2_ := (hH.blk (k := 2) rfl).lt
    go_wp2_with fail
    clear q0_0 q0_1 q0_2 l0_ q2_0 q2_1 q2_2 l2_
    refine (sliceTensor_out HR.out HT.out 0 0 (by simp) _ _ (hH.tens (k := 1) rfl)).mono ?_; rintro ewn5 wn5 ⟨rfl, hwn5⟩
    replace hH : Held w wn5 [aB (wn1.heap.size) 24 [.int .i64 k, .int .i64 p, .int .i64 n], aT (.agg #[.slice tp1 0 tc1, .slice tp2 0 tc2, .slice tp3 (flat xs).length tc3]) [] (List.map dimOf []) (flat xs), aB (wn3.heap.size) 31 [.slice tp1 0 tc1, .slice tp2 0 tc2, .slice tp3 (flat xs).length tc3]] := hH.grow hwn5
    clear hwn5
    have hE := hH.ext; clear hH
    go_wp2
    go_ret
    exact ⟨rfl, hE.alloc _⟩
  · skip
    have hLe : ((L.length : Int) == 0) = false := by rw [beq_eq_false_iff_ne]; omega
    have hL1 : 1 ≤ L.length := by omega
    have hOT := hH.ownT (k := 1) rfl
    obtain ⟨_, _, _, hvv, hO1, hO2, _, _⟩ := hOT.val
    simp at hvv
    obtain ⟨rfl, rfl, rfl⟩ := hvv
    obtain ⟨bD, _, _, hvv, _, _⟩ := hO2.open (by rw [List.length_map]; omega)
    rw [List.length_map] at hvv
    cases hvv
    obtain ⟨bL, _, _, hvv, _, _⟩ := hO1.open hL1
    cases hvv
    clear hOT hO1 hO2
    have q0_0 := (hH.blk (k := 0) rfl).cell (j := 0) rfl
    have q0_1 := (hH.blk (k := 0) rfl).cell (j := 1) rfl
    have q0_2 := (hH.blk (k := 0) rfl).cell (j := 2) rfl
    have l0_ := (hH.blk (k := 0) rfl).lt
    go_wp2_with fail
    clear q0_0 q0_1 q0_2 l0_
    have hB : Held w (wn3.alloc (.cells #[.slice (some ⟨bL, 0, none⟩) L.length tc1, .slice (some ⟨bD, 0, none⟩) L.length tc2, .slice tp3 (flat xs).length tc3] 31)) [aB (wn1.heap.size) 24 [.int .i64 k, .int .i64 p, .int .i64 n], aT (.agg #[.slice (some ⟨bL, 0, none⟩) L.length tc1, .slice (some ⟨bD, 0, none⟩) L.length tc2, .slice tp3 (flat xs).length tc3]) L (L.map dimOf) (flat xs), aB (wn3.heap.size) 31 [.slice (some ⟨bL, 0, none⟩) L.length tc1, .slice (some ⟨bD, 0, none⟩) L.length tc2, .slice tp3 (flat xs).length tc3]] := by
      have h := (hH.mores 1).addB 2 #[.slice (some ⟨bL, 0, none⟩) L.length tc1, .slice (some ⟨bD, 0, none⟩) L.length tc2, .slice tp3 (flat xs).length tc3] 31
      exact h
    have hsz : (wn3.alloc (.cells #[.slice (some ⟨bL, 0, none⟩) L.length tc1, .slice (some ⟨bD, 0, none⟩) L.length tc2, .slice tp3 (flat xs).length tc3] 31)).heap.size = wn3.heap.size + 1 := by simp
    generalize wn3.alloc (.cells #[.slice (some ⟨bL, 0, none⟩) L.length tc1, .slice (some ⟨bD, 0, none⟩) L.length tc2, .slice tp3 (flat xs).length tc3] 31) = wn6 at hB hsz ⊢
    replace hH := hB; have HSZwn6 := Lib.hid hsz; clear hB hsz
    have q0_0 := (hH.blk (k := 0) rfl).cell (j := 0) rfl
    have q0_1 := (hH.blk (k := 0) rfl).cell (j := 1) rfl
    have q0_2 := (hH.blk (k := 0) rfl).cell (j := 2) rfl
    have l0_ := (hH.blk (k := 0) rfl).lt
    have q2_0 := (hH.blk (k := 2) rfl).cell (j := 0) rfl
    have q2_1 := (hH.blk (k := 2) rfl).cell (j := 1) rfl
    have q2_2 := (hH.blk (k := 2) rfl).cell (j := 2) rfl
    have l2_ := (hH.blk (k := 2) rfl).lt
    go_wp2_with fail
    clear q0_0 q0_1 q0_2 l0_ q2_0 q2_1 q2_2 l2_
    refine (makeSize_any _ l 60 0 ((L.length : Int) - 1) _ (hC.ext hH.ext) (by omega) (by omega)).mono ?_; rintro ewn7 wn7 ⟨kk, rfl, hkk, hwn7⟩
    obtain ⟨K, rfl⟩ := Int.eq_ofNat_of_zero_le hkk.1
    have hK : K < L.length := by omega
    clear hkk
    replace hH : Held w wn7 [aB (wn1.heap.size) 24 [.int .i64 k, .int .i64 p, .int .i64 n], aT (.agg #[.slice (some ⟨bL, 0, none⟩) L.length tc1, .slice (some ⟨bD, 0, none⟩) L.length tc2, .slice tp3 (flat xs).length tc3]) L (L.map dimOf) (flat xs), aB (wn3.heap.size) 31 [.slice (some ⟨bL, 0, none⟩) L.length tc1, .slice (some ⟨bD, 0, none⟩) L.length tc2, .slice tp3 (flat xs).length tc3]] := hH.grow hwn7
    clear hwn7
    obtain ⟨x, hxK⟩ : ∃ x, L[K]? = some x := ⟨_, List.getElem?_eq_getElem hK⟩
    have hcK := ((hH.parts (k := 1) rfl).1.cell hxK).1
    have HXK := Lib.hid hxK; have hxL : x ∈ L := List.mem_of_getElem? hxK
    obtain ⟨d, hd⟩ : ∃ d : Nat, dimOf x = (d : Int) := ⟨(dimOf x).toNat, by have := dimOf_range x; omega⟩
    have hd1 : 1 ≤ d := by have := dimOf_range x; omega
    have hd3 : d ≤ 3 := by have := dimOf_range x; omega
    have hdK : (L.map dimOf)[K]? = some (d : Int) := by rw [List.getElem?_map, hxK, ← hd]; rfl
    have HDK := Lib.hid hdK; have HD := Lib.hid hd; have HXL := Lib.hid hxL; clear hdK hd hxK hxL
    have q0_0 := (hH.blk (k := 0) rfl).cell (j := 0) rfl
    have q0_1 := (hH.blk (k := 0) rfl).cell (j := 1) rfl
    have q0_2 := (hH.blk (k := 0) rfl).cell (j := 2) rfl
    have l0_ := (hH.blk (k := 0) rfl).lt
    have q2_0 := (hH.blk (k := 2) rfl).cell (j := 0) rfl
    have q2_1 := (hH.blk (k := 2) rfl).cell (j := 1) rfl
    have q2_2 := (hH.blk (k := 2) rfl).cell (j := 2) rfl
    have l2_ := (hH.blk (k := 2) rfl).lt
    go_wp2_with fail
    clear q0_0 q0_1 q0_2 l0_ q2_0 q2_1 q2_2 l2_
    clear hcK
    have hB : Held w (wn7.alloc (.cells #[] 31)) [aB (wn1.heap.size) 24 [.int .i64 k, .int .i64 p, .int .i64 n], aT (.agg #[.slice (some ⟨bL, 0, none⟩) L.length tc1, .slice (some ⟨bD, 0, none⟩) L.length tc2, .slice tp3 (flat xs).length tc3]) L (L.map dimOf) (flat xs), aB (wn3.heap.size) 31 [.slice (some ⟨bL, 0, none⟩) L.length tc1, .slice (some ⟨bD, 0, none⟩) L.length tc2, .slice tp3 (flat xs).length tc3], aTs (.slice (some ⟨wn7.heap.size, 0, none⟩) 0 0) [] []] := by
      have h := (hH.mores 1).emptyTs 3
      exact h
    have hsz : (wn7.alloc (.cells #[] 31)).heap.size = wn7.heap.size + 1 := by simp
    generalize wn7.alloc (.cells #[] 31) = wn8 at hB hsz ⊢
    replace hH := hB; have HSZwn8 := Lib.hid hsz; clear hB hsz
    have hKi : (0 : Int) ≤ (K : Int) := Int.natCast_nonneg K
    have hKl : (K : Int) < (L.length : Int) := by omega
    have hK1c : K + 1 ≤ tc2 := by omega
    have hKc : K ≤ tc2 := by omega
    obtain ⟨M, hM⟩ : ∃ q, cutL L x = q := ⟨_, rfl⟩
    obtain ⟨DK, hDK⟩ : ∃ q, (L.map dimOf).take K = q := ⟨_, rfl⟩
    obtain ⟨DR, hDR⟩ : ∃ q, (L.map dimOf).drop (K + 1) = q := ⟨_, rfl⟩
    have hDM : DK ++ DR = M.map dimOf := by rw [← hDK, ← hDR, ← hM, cutL_at HT.out.sub.nodup HXK.out, List.map_append, List.map_take, List.map_drop]
    have hDKl : DK.length = K := by rw [← hDK, List.length_take, List.length_map]; omega
    have hDRl : DR.length = L.length - (K + 1) := by rw [← hDR, List.length_drop, List.length_map]
    have HMM := Lib.hid hM; have HDM := Lib.hid hDM; have HDKl := Lib.hid hDKl; have HDRl := Lib.hid hDRl; have HDK1 := Lib.hid hDK; have HDR1 := Lib.hid hDR; clear hM hDM hDKl hDRl hDK hDR
    have SM : Hid (Sub U6 M) := Lib.hid (by rw [← HMM.out]; exact HT.out.sub.cut x)
    obtain ⟨RA, hRA⟩ : ∃ q : Option Addr, (if tc2 = K + 1 then some ⟨bD, 0, none⟩ else some ⟨bD, K + 1, none⟩) = q := ⟨_, rfl⟩
    have HRA := Lib.hid hRA; clear hRA
    have HRV : Hid (∀ w' : World, IntS w' (.slice (some ⟨bD, 0, none⟩) L.length tc2) (L.map dimOf) → IntS w' (.slice RA (L.length - (K + 1)) (tc2 - (K + 1))) DR) := Lib.hid fun w' h => by rw [← HDR1.out, ← HRA.out]; exact h.rest (by omega)
    have hKw : IntKind.i64.wrap ((K : Int) + 1) = (K : Int) + 1 := by rw [IntKind.wrap_i64]; omega
    have hb1 : (0 : Int) ≤ (K : Int) + 1 := by omega
    have hb2 : (K : Int) + 1 ≤ (L.length : Int) := by omega
    replace hH := hH.mores 4
    go_upto_region 11 with fail
    replace hH : Held w wn8 [aB (wn1.heap.size) 24 [.int .i64 k, .int .i64 p, .int .i64 n], aT (.agg #[.slice (some ⟨bL, 0, none⟩) L.length tc1, .slice (some ⟨bD, 0, none⟩) L.length tc2, .slice tp3 (flat xs).length tc3]) L (L.map dimOf) (flat xs), aB (wn3.heap.size) 31 [.slice (some ⟨bL, 0, none⟩) L.length tc1, .slice (some ⟨bD, 0, none⟩) L.length tc2, .slice tp3 (flat xs).length tc3], aTs (.slice (some ⟨wn7.heap.size, 0, none⟩) 0 0) [] [], emp, emp, emp, emp] := hH
    refine wp_region_steps ?Fs (fun b t wx => Held w wx [aB (wn1.heap.size) 24 [.int .i64 k, .int .i64 p, .int .i64 n], aT (.agg #[.slice (some ⟨bL, 0, none⟩) L.length tc1, .slice (some ⟨bD, 0, none⟩) L.length tc2, .slice tp3 (flat xs).length tc3]) L (L.map dimOf) (flat xs), aB (wn3.heap.size) 31 [.slice (some ⟨bL, 0, none⟩) L.length tc1, .slice (some ⟨bD, 0, none⟩) L.length tc2, .slice tp3 (flat xs).length tc3], aTs (.slice (some ⟨wn7.heap.size, 0, none⟩) 0 0) [] [], (bif b 4 then aI (t 4) M else emp), (bif b 16 then aI (t 16) (M.map dimOf) else (bif b 10 then aI (t 10) DK else (bif b 5 then aI (t 5) [] else emp))), (bif b 17 then aT (tup0 (t 17)) M (M.map dimOf) (flat (List.replicate (size (axs dimOf M)) (rig HR.out).zero)) else emp), (bif b 22 then aB (blkOf (t 21)) 31 (partsOf (t 19)) else (bif b 21 then aB (blkOf (t 21)) 31 [.slice none 0 0, .slice none 0 0, .slice none 0 0] else emp))] ∧ (b 0 = true → t 0 = .agg #[.int .i64 k, .int .i64 p, .int .i64 n]) ∧ (b 1 = true → t 1 = .pointer (some ⟨wn3.heap.size, 0, none⟩)) ∧ (b 2 = true → t 2 = .slice (some ⟨bL, 0, none⟩) L.length tc1) ∧ (b 3 = true → t 3 = .int .i64 x) ∧ (b 4 = true → ∃ x c, t 4 = .slice x M.length c) ∧ (b 5 = true → ∃ x c, t 5 = .slice x 0 c) ∧ (b 6 = true → t 6 = .pointer (some ⟨wn3.heap.size, 1, none⟩)) ∧ (b 7 = true → t 7 = .slice (some ⟨bD, 0, none⟩) L.length tc2) ∧ (b 8 = true → t 8 = .int .i64 (K : Int)) ∧ (b 9 = true → t 9 = .slice (some ⟨bD, 0, none⟩) K tc2) ∧ (b 10 = true → ∃ x c, t 10 = .slice x K c) ∧ (b 11 = true → t 11 = .pointer (some ⟨wn3.heap.size, 1, none⟩)) ∧ (b 12 = true → t 12 = .slice (some ⟨bD, 0, none⟩) L.length tc2) ∧ (b 13 = true → t 13 = .int .i64 (K : Int)) ∧ (b 14 = true → t 14 = .int .i64 ((K : Int) + 1)) ∧ (b 15 = true → t 15 = .slice RA (L.length - (K + 1)) (tc2 - (K + 1))) ∧ (b 16 = true → ∃ x c, t 16 = .slice x M.length c) ∧ (b 17 = true → ∃ p1 n1 c1 p2 n2 c2 p3 n3 c3, t 17 = .tuple #[.agg #[.slice p1 n1 c1, .slice p2 n2 c2, .slice p3 n3 c3], .bool true]) ∧ (b 18 = true → t 18 = t 17) ∧ (b 19 = true → t 19 = tup0 (t 17)) ∧ (b 20 = true → t 20 = .bool true) ∧ (b 21 = true → ∃ q, t 21 = .pointer (some ⟨q, 0, none⟩)) ∧ (b 23 = true → t 23 = .bool true)) ?hFs (by kernel_rfl) (by kernel_rfl) ?hJs ?hSs ?hEs
    (case hFs => intro t; simp only [putAll, Act.put, List.setIfInBounds_toArray, List.set_cons_zero, List.set_cons_succ, Nat.reduceAdd, Nat.zero_add]; exact rfl)
    case hJs => exact ⟨hH.grow ((Ext.refl _).drew), fun h => absurd h Bool.false_ne_true, fun h => absurd h Bool.false_ne_true, fun h => absurd h Bool.false_ne_true, fun h => absurd h Bool.false_ne_true, fun h => absurd h Bool.false_ne_true, fun h => absurd h Bool.false_ne_true, fun h => absurd h Bool.false_ne_true, fun h => absurd h Bool.false_ne_true, fun h => absurd h Bool.false_ne_true, fun h => absurd h Bool.false_ne_true, fun h => absurd h Bool.false_ne_true, fun h => absurd h Bool.false_ne_true, fun h => absurd h Bool.false_ne_true, fun h => absurd h Bool.false_ne_true, fun h => absurd h Bool.false_ne_true, fun h => absurd h Bool.false_ne_true, fun h => absurd h Bool.false_ne_true, fun h => absurd h Bool.false_ne_true, fun h => absurd h Bool.false_ne_true, fun h => absurd h Bool.false_ne_true, fun h => absurd h Bool.false_ne_true, fun h => absurd h Bool.false_ne_true, fun h => absurd h Bool.false_ne_true⟩
    case hSs =>
      as_aux_lemma =>
        refine AllSteps.cons (j := 1) rfl (fun b t wx hJ hb hd hcl Kc hK => ?_) ?_
        · obtain ⟨hH, v0, v1, v2, v3, v4, v5, v6, v7, v8, v9, v10, v11, v12, v13, v14, v15, v16, v17, v18, v19, v20, v21, v23⟩ := hJ
          have q0_0 := (hH.blk (k := 0) rfl).cell (j := 0) rfl
          have q0_1 := (hH.blk (k := 0) rfl).cell (j := 1) rfl
          have q0_2 := (hH.blk (k := 0) rfl).cell (j := 2) rfl
          go_simp
          refine hK.out _ ?_ _ ?_ ?_; rotate_left 2
          · rfl
          exact ⟨hH, fun _ => rfl, v1, v2, v3, v4, v5, v6, v7, v8, v9, v10, v11, v12, v13, v14, v15, v16, v17, v18, v19, v20, v21, v23⟩
        refine AllSteps.cons (j := 2) rfl (fun b t wx hJ hb hd hcl Kc hK => ?_) ?_
        · obtain ⟨hH, v0, v1, v2, v3, v4, v5, v6, v7, v8, v9, v10, v11, v12, v13, v14, v15, v16, v17, v18, v19, v20, v21, v23⟩ := hJ
          go_simp
          refine hK.out _ ?_ _ ?_ ?_; rotate_left 2
          · rfl
          exact ⟨hH, v0, fun _ => rfl, v2, v3, v4, v5, v6, v7, v8, v9, v10, v11, v12, v13, v14, v15, v16, v17, v18, v19, v20, v21, v23⟩
        refine AllSteps.cons (j := 3) rfl (fun b t wx hJ hb hd hcl Kc hK => ?_) ?_
        · obtain ⟨hH, v0, v1, v2, v3, v4, v5, v6, v7, v8, v9, v10, v11, v12, v13, v14, v15, v16, v17, v18, v19, v20, v21, v23⟩ := hJ
          have d1 : b 1 = true := hd.out 1 (by kernel_rfl)
          have r1 := v1 d1
          have q2_0 := (hH.blk (k := 2) rfl).cell (j := 0) rfl
          go_simp
          refine hK.out _ ?_ _ ?_ ?_; rotate_left 2
          · (try simp only [r1]); rfl
          exact ⟨hH, v0, v1, fun _ => rfl, v3, v4, v5, v6, v7, v8, v9, v10, v11, v12, v13, v14, v15, v16, v17, v18, v19, v20, v21, v23⟩
        refine AllSteps.cons (j := 4) rfl (fun b t wx hJ hb hd hcl Kc hK => ?_) ?_
        · obtain ⟨hH, v0, v1, v2, v3, v4, v5, v6, v7, v8, v9, v10, v11, v12, v13, v14, v15, v16, v17, v18, v19, v20, v21, v23⟩ := hJ
          go_simp
          refine hK.out _ ?_ _ ?_ ?_; rotate_left 2
          · rfl
          exact ⟨hH, v0, v1, v2, fun _ => rfl, v4, v5, v6, v7, v8, v9, v10, v11, v12, v13, v14, v15, v16, v17, v18, v19, v20, v21, v23⟩
        refine AllSteps.cons (j := 5) rfl (fun b t wx hJ hb hd hcl Kc hK => ?_) ?_
        · obtain ⟨hH, v0, v1, v2, v3, v4, v5, v6, v7, v8, v9, v10, v11, v12, v13, v14, v15, v16, v17, v18, v19, v20, v21, v23⟩ := hJ
          have d2 : b 2 = true := hd.out 2 (by kernel_rfl)
          have d3 : b 3 = true := hd.out 3 (by kernel_rfl)
          have r2 := v2 d2
          have r3 := v3 d3
          have hN := hH; (try simp only [hb, d2, d3, cond_true, cond_false] at hN)
          go_simp
          go_at_call 36
          refine (lawsCut_any _ L x _ (hH.parts (k := 1) rfl).1.ints (by omega)).mono ?_; rintro e4 w4 ⟨vc, rfl, oc, h4⟩
          rw [HMM.out] at oc
          obtain ⟨x4, c4, rfl, _, _⟩ := oc.ints.val
          (try go_simp)
          refine hK.out _ ?_ _ ?_ ?_; rotate_left 2
          · (try simp only [r2, r3]); rfl
          exact ⟨by have hX := hN.addI 4 h4 oc (Nat.le_refl _); (try simp only [List.set_cons_zero, List.set_cons_succ] at hX); simpa only [updB, updV, blkOf_mk, tup0_mk, partsOf3, Nat.reduceBEq, cond_true, cond_false, hb, d2, d3, r2, r3] using hX, v0, v1, v2, v3, fun _ => ⟨_, _, rfl⟩, v5, v6, v7, v8, v9, v10, v11, v12, v13, v14, v15, v16, v17, v18, v19, v20, v21, v23⟩
        refine AllSteps.cons (j := 6) rfl (fun b t wx hJ hb hd hcl Kc hK => ?_) ?_
        · obtain ⟨hH, v0, v1, v2, v3, v4, v5, v6, v7, v8, v9, v10, v11, v12, v13, v14, v15, v16, v17, v18, v19, v20, v21, v23⟩ := hJ
          have n10 : b 10 = false := Bool.eq_false_iff.2 fun h => absurd (hcl.out 10 5 (by kernel_rfl) (h)) (by rw [hb]; exact Bool.false_ne_true)
          have n16 : b 16 = false := Bool.eq_false_iff.2 fun h => absurd (hcl.out 10 5 (by kernel_rfl) (hcl.out 16 10 (by kernel_rfl) (h))) (by rw [hb]; exact Bool.false_ne_true)
          have hN := hH; (try simp only [hb, n10, n16, cond_true, cond_false] at hN)
          go_simp
          refine hK.out _ ?_ _ ?_ ?_; rotate_left 2
          · rfl
          exact ⟨by have hX := hN.built 5 ([] : List Int) 0 rfl (by simp [maxLen]) #[] rfl; (try simp only [List.set_cons_zero, List.set_cons_succ] at hX); simpa only [updB, updV, blkOf_mk, tup0_mk, partsOf3, Nat.reduceBEq, cond_true, cond_false, hb, n10, n16] using hX, v0, v1, v2, v3, v4, fun _ => ⟨_, _, rfl⟩, v6, v7, v8, v9, v10, v11, v12, v13, v14, v15, v16, v17, v18, v19, v20, v21, v23⟩
        refine AllSteps.cons (j := 7) rfl (fun b t wx hJ hb hd hcl Kc hK => ?_) ?_
        · obtain ⟨hH, v0, v1, v2, v3, v4, v5, v6, v7, v8, v9, v10, v11, v12, v13, v14, v15, v16, v17, v18, v19, v20, v21, v23⟩ := hJ
          go_simp
          refine hK.out _ ?_ _ ?_ ?_; rotate_left 2
          · rfl
          exact ⟨hH, v0, v1, v2, v3, v4, v5, fun _ => rfl, v7, v8, v9, v10, v11, v12, v13, v14, v15, v16, v17, v18, v19, v20, v21, v23⟩
        refine AllSteps.cons (j := 8) rfl (fun b t wx hJ hb hd hcl Kc hK => ?_) ?_
        · obtain ⟨hH, v0, v1, v2, v3, v4, v5, v6, v7, v8, v9, v10, v11, v12, v13, v14, v15, v16, v17, v18, v19, v20, v21, v23⟩ := hJ
          have d6 : b 6 = true := hd.out 6 (by kernel_rfl)
          have r6 := v6 d6
          have q2_1 := (hH.blk (k := 2) rfl).cell (j := 1) rfl
          go_simp
          refine hK.out _ ?_ _ ?_ ?_; rotate_left 2
          · (try simp only [r6]); rfl
          exact ⟨hH, v0, v1, v2, v3, v4, v5, v6, fun _ => rfl, v8, v9, v10, v11, v12, v13, v14, v15, v16, v17, v18, v19, v20, v21, v23⟩
        refine AllSteps.cons (j := 9) rfl (fun b t wx hJ hb hd hcl Kc hK => ?_) ?_
        · obtain ⟨hH, v0, v1, v2, v3, v4, v5, v6, v7, v8, v9, v10, v11, v12, v13, v14, v15, v16, v17, v18, v19, v20, v21, v23⟩ := hJ
          go_simp
          refine hK.out _ ?_ _ ?_ ?_; rotate_left 2
          · rfl
          exact ⟨hH, v0, v1, v2, v3, v4, v5, v6, v7, fun _ => rfl, v9, v10, v11, v12, v13, v14, v15, v16, v17, v18, v19, v20, v21, v23⟩
        refine AllSteps.cons (j := 10) rfl (fun b t wx hJ hb hd hcl Kc hK => ?_) ?_
        · obtain ⟨hH, v0, v1, v2, v3, v4, v5, v6, v7, v8, v9, v10, v11, v12, v13, v14, v15, v16, v17, v18, v19, v20, v21, v23⟩ := hJ
          have d7 : b 7 = true := hd.out 7 (by kernel_rfl)
          have d8 : b 8 = true := hd.out 8 (by kernel_rfl)
          have r7 := v7 d7
          have r8 := v8 d8
          go_simp
          refine hK.out _ ?_ _ ?_ ?_; rotate_left 2
          · (try simp only [r7, r8]); rfl
          exact ⟨hH, v0, v1, v2, v3, v4, v5, v6, v7, v8, fun _ => rfl, v10, v11, v12, v13, v14, v15, v16, v17, v18, v19, v20, v21, v23⟩
        refine AllSteps.cons (j := 11) rfl (fun b t wx hJ hb hd hcl Kc hK => ?_) ?_
        · obtain ⟨hH, v0, v1, v2, v3, v4, v5, v6, v7, v8, v9, v10, v11, v12, v13, v14, v15, v16, v17, v18, v19, v20, v21, v23⟩ := hJ
          have d4 : b 4 = true := hd.out 4 (by kernel_rfl)
          have d5 : b 5 = true := hd.out 5 (by kernel_rfl)
          have d9 : b 9 = true := hd.out 9 (by kernel_rfl)
          have n16 : b 16 = false := Bool.eq_false_iff.2 fun h => absurd (hcl.out 16 10 (by kernel_rfl) (h)) (by rw [hb]; exact Bool.false_ne_true)
          have r4 := v4 d4
          have r5 := v5 d5
          have r9 := v9 d9
          obtain ⟨x_4, c_4, r4⟩ := r4
          obtain ⟨x_5, c_5, r5⟩ := r5
          have hN := hH; (try simp only [hb, d4, d5, d9, n16, cond_true, cond_false] at hN)
          refine step_app wx rfl _ _ 29 rfl (t 5) (.slice (some ⟨bD, 0, none⟩) K tc2) (by first | rfl | (go_simp; done)) (by first | rfl | (go_simp; done)) _ (run_pushes _ wx 0 _ _ [] DK (hN.own (k := 5) rfl).zero (by have h : IntS wx _ _ := ((hH.parts (k := 1) rfl).2.1.ints).takeS (j := K) (by simp; omega); rw [HDK1.out] at h; exact h) (by have := HDKl.out; simp; omega) (Nat.zero_le _)) ?_; rintro va wa ⟨oa, ga, na⟩; rw [List.nil_append] at oa
          obtain ⟨aa, ca, hva, _, _⟩ := oa.ints.val; rw [HDKl.out] at hva; subst hva
          refine hK.out _ ?_ _ ?_ ?_; rotate_left 2
          · (try simp only [r4, r5, r9]); rfl
          exact ⟨by have hX := hN.pushed (k := 5) rfl oa ga na; (try simp only [List.set_cons_zero, List.set_cons_succ] at hX); simpa only [updB, updV, blkOf_mk, tup0_mk, partsOf3, Nat.reduceBEq, cond_true, cond_false, hb, d4, d5, d9, n16, r4, r5, r9] using hX, v0, v1, v2, v3, v4, v5, v6, v7, v8, v9, fun _ => ⟨_, _, rfl⟩, v11, v12, v13, v14, v15, v16, v17, v18, v19, v20, v21, v23⟩
        refine AllSteps.cons (j := 12) rfl (fun b t wx hJ hb hd hcl Kc hK => ?_) ?_
        · obtain ⟨hH, v0, v1, v2, v3, v4, v5, v6, v7, v8, v9, v10, v11, v12, v13, v14, v15, v16, v17, v18, v19, v20, v21, v23⟩ := hJ
          go_simp
          refine hK.out _ ?_ _ ?_ ?_; rotate_left 2
          · rfl
          exact ⟨hH, v0, v1, v2, v3, v4, v5, v6, v7, v8, v9, v10, fun _ => rfl, v12, v13, v14, v15, v16, v17, v18, v19, v20, v21, v23⟩
        refine AllSteps.cons (j := 13) rfl (fun b t wx hJ hb hd hcl Kc hK => ?_) ?_
        · obtain ⟨hH, v0, v1, v2, v3, v4, v5, v6, v7, v8, v9, v10, v11, v12, v13, v14, v15, v16, v17, v18, v19, v20, v21, v23⟩ := hJ
          have d11 : b 11 = true := hd.out 11 (by kernel_rfl)
          have r11 := v11 d11
          have q2_1 := (hH.blk (k := 2) rfl).cell (j := 1) rfl
          go_simp
          refine hK.out _ ?_ _ ?_ ?_; rotate_left 2
          · (try simp only [r11]); rfl
          exact ⟨hH, v0, v1, v2, v3, v4, v5, v6, v7, v8, v9, v10, v11, fun _ => rfl, v13, v14, v15, v16, v17, v18, v19, v20, v21, v23⟩
        refine AllSteps.cons (j := 14) rfl (fun b t wx hJ hb hd hcl Kc hK => ?_) ?_
        · obtain ⟨hH, v0, v1, v2, v3, v4, v5, v6, v7, v8, v9, v10, v11, v12, v13, v14, v15, v16, v17, v18, v19, v20, v21, v23⟩ := hJ
          go_simp
          refine hK.out _ ?_ _ ?_ ?_; rotate_left 2
          · rfl
          exact ⟨hH, v0, v1, v2, v3, v4, v5, v6, v7, v8, v9, v10, v11, v12, fun _ => rfl, v14, v15, v16, v17, v18, v19, v20, v21, v23⟩
        refine AllSteps.cons (j := 15) rfl (fun b t wx hJ hb hd hcl Kc hK => ?_) ?_
        · obtain ⟨hH, v0, v1, v2, v3, v4, v5, v6, v7, v8, v9, v10, v11, v12, v13, v14, v15, v16, v17, v18, v19, v20, v21, v23⟩ := hJ
          have d13 : b 13 = true := hd.out 13 (by kernel_rfl)
          have r13 := v13 d13
          go_simp
          refine hK.out _ ?_ _ ?_ ?_; rotate_left 2
          · (try simp only [r13]); rfl
          exact ⟨hH, v0, v1, v2, v3, v4, v5, v6, v7, v8, v9, v10, v11, v12, v13, fun _ => rfl, v15, v16, v17, v18, v19, v20, v21, v23⟩
        refine AllSteps.cons (j := 16) rfl (fun b t wx hJ hb hd hcl Kc hK => ?_) ?_
        · obtain ⟨hH, v0, v1, v2, v3, v4, v5, v6, v7, v8, v9, v10, v11, v12, v13, v14, v15, v16, v17, v18, v19, v20, v21, v23⟩ := hJ
          have d12 : b 12 = true := hd.out 12 (by kernel_rfl)
          have d14 : b 14 = true := hd.out 14 (by kernel_rfl)
          have r12 := v12 d12
          have r14 := v14 d14
          go_simp
          refine hK.out _ ?_ _ ?_ ?_; rotate_left 2
          · (try simp only [r12, r14]); rfl
          exact ⟨hH, v0, v1, v2, v3, v4, v5, v6, v7, v8, v9, v10, v11, v12, v13, v14, fun _ => (by show Value.slice _ _ _ = Value.slice _ _ _; rw [HRA.out]), v16, v17, v18, v19, v20, v21, v23⟩
        refine AllSteps.cons (j := 17) rfl (fun b t wx hJ hb hd hcl Kc hK => ?_) ?_
        · obtain ⟨hH, v0, v1, v2, v3, v4, v5, v6, v7, v8, v9, v10, v11, v12, v13, v14, v15, v16, v17, v18, v19, v20, v21, v23⟩ := hJ
          have d5 : b 5 = true := hcl.out 10 5 (by kernel_rfl) (hd.out 10 (by kernel_rfl))
          have d10 : b 10 = true := hd.out 10 (by kernel_rfl)
          have d15 : b 15 = true := hd.out 15 (by kernel_rfl)
          have r5 := v5 d5
          have r10 := v10 d10
          have r15 := v15 d15
          obtain ⟨x_5, c_5, r5⟩ := r5
          obtain ⟨x_10, c_10, r10⟩ := r10
          have hN := hH; (try simp only [hb, d5, d10, d15, cond_true, cond_false] at hN)
          refine step_app wx rfl _ _ 29 rfl (t 10) (.slice RA (L.length - (K + 1)) (tc2 - (K + 1))) (by first | rfl | (go_simp; done)) (by first | rfl | (go_simp; done)) _ (run_pushes _ wx 0 _ _ DK DR (hN.own (k := 5) rfl).zero (HRV.out wx (hH.parts (k := 1) rfl).2.1.ints) (by have := HDKl.out; have := HDRl.out; omega) (Nat.zero_le _)) ?_; rintro va wa ⟨oa, ga, na⟩; rw [HDM.out] at oa
          obtain ⟨aa, ca, hva, _, _⟩ := oa.ints.val; rw [List.length_map] at hva; subst hva
          refine hK.out _ ?_ _ ?_ ?_; rotate_left 2
          · (try simp only [r5, r10, r15]); rfl
          exact ⟨by have hX := hN.pushed (k := 5) rfl oa ga na; (try simp only [List.set_cons_zero, List.set_cons_succ] at hX); simpa only [updB, updV, blkOf_mk, tup0_mk, partsOf3, Nat.reduceBEq, cond_true, cond_false, hb, d5, d10, d15, r5, r10, r15] using hX, v0, v1, v2, v3, v4, v5, v6, v7, v8, v9, v10, v11, v12, v13, v14, v15, fun _ => ⟨_, _, rfl⟩, v17, v18, v19, v20, v21, v23⟩
        refine AllSteps.cons (j := 18) rfl (fun b t wx hJ hb hd hcl Kc hK => ?_) ?_
        · obtain ⟨hH, v0, v1, v2, v3, v4, v5, v6, v7, v8, v9, v10, v11, v12, v13, v14, v15, v16, v17, v18, v19, v20, v21, v23⟩ := hJ
          have d0 : b 0 = true := hd.out 0 (by kernel_rfl)
          have d4 : b 4 = true := hd.out 4 (by kernel_rfl)
          have d5 : b 5 = true := hcl.out 10 5 (by kernel_rfl) (hcl.out 16 10 (by kernel_rfl) (hd.out 16 (by kernel_rfl)))
          have d10 : b 10 = true := hcl.out 16 10 (by kernel_rfl) (hd.out 16 (by kernel_rfl))
          have d16 : b 16 = true := hd.out 16 (by kernel_rfl)
          have n18 : b 18 = false := Bool.eq_false_iff.2 fun h => absurd (hcl.out 18 17 (by kernel_rfl) (h)) (by rw [hb]; exact Bool.false_ne_true)
          have n19 : b 19 = false := Bool.eq_false_iff.2 fun h => absurd (hcl.out 18 17 (by kernel_rfl) (hcl.out 19 18 (by kernel_rfl) (h))) (by rw [hb]; exact Bool.false_ne_true)
          have r0 := v0 d0
          have r4 := v4 d4
          have r5 := v5 d5
          have r10 := v10 d10
          have r16 := v16 d16
          obtain ⟨x_4, c_4, r4⟩ := r4
          obtain ⟨x_5, c_5, r5⟩ := r5
          obtain ⟨x_10, c_10, r10⟩ := r10
          obtain ⟨x_16, c_16, r16⟩ := r16
          have hN := hH; (try simp only [hb, d0, d4, d5, d10, d16, n18, n19, cond_true, cond_false] at hN)
          go_simp
          go_at_call 33
          refine (zeroT_any HR.out uni6 SM.out _ _ _ (by have h := hN.ints (k := 4) rfl; rw [r4] at h; exact h) (by have h := hN.ints (k := 5) rfl; rw [r16] at h; exact h)).mono ?_; rintro e17 w17 ⟨vc, rfl, oc, hc⟩
          obtain ⟨pa1, na1, ca1, pa2, na2, ca2, pa3, na3, ca3, rfl⟩ := oc.shape
          (try go_simp)
          refine hK.out _ ?_ _ ?_ ?_; rotate_left 2
          · (try simp only [r0, r4, r5, r10, r16]); rfl
          exact ⟨by have hX := hN.addT 6 hc oc (Nat.le_refl _); (try simp only [List.set_cons_zero, List.set_cons_succ] at hX); simpa only [updB, updV, blkOf_mk, tup0_mk, partsOf3, Nat.reduceBEq, cond_true, cond_false, hb, d0, d4, d5, d10, d16, n18, n19, r0, r4, r5, r10, r16] using hX, v0, v1, v2, v3, v4, v5, v6, v7, v8, v9, v10, v11, v12, v13, v14, v15, v16, fun _ => ⟨_, _, _, _, _, _, _, _, _, rfl⟩, fun h => absurd (show b 18 = true from h) (by rw [n18]; exact Bool.false_ne_true), fun h => absurd (show b 19 = true from h) (by rw [n19]; exact Bool.false_ne_true), v20, v21, v23⟩
        refine AllSteps.cons (j := 19) rfl (fun b t wx hJ hb hd hcl Kc hK => ?_) ?_
        · obtain ⟨hH, v0, v1, v2, v3, v4, v5, v6, v7, v8, v9, v10, v11, v12, v13, v14, v15, v16, v17, v18, v19, v20, v21, v23⟩ := hJ
          have d17 : b 17 = true := hd.out 17 (by kernel_rfl)
          have r17 := v17 d17
          obtain ⟨p1_17, n1_17, c1_17, p2_17, n2_17, c2_17, p3_17, n3_17, c3_17, r17⟩ := r17
          go_simp
          refine hK.out _ ?_ _ ?_ ?_; rotate_left 2
          · (try simp only [r17]); rfl
          exact ⟨hH, v0, v1, v2, v3, v4, v5, v6, v7, v8, v9, v10, v11, v12, v13, v14, v15, v16, v17, fun _ => (by first | rfl | exact r17.symm), v19, v20, v21, v23⟩
        refine AllSteps.cons (j := 20) rfl (fun b t wx hJ hb hd hcl Kc hK => ?_) ?_
        · obtain ⟨hH, v0, v1, v2, v3, v4, v5, v6, v7, v8, v9, v10, v11, v12, v13, v14, v15, v16, v17, v18, v19, v20, v21, v23⟩ := hJ
          have d17 : b 17 = true := hcl.out 18 17 (by kernel_rfl) (hd.out 18 (by kernel_rfl))
          have d18 : b 18 = true := hd.out 18 (by kernel_rfl)
          have n22 : b 22 = false := Bool.eq_false_iff.2 fun h => absurd (hcl.out 22 19 (by kernel_rfl) (h)) (by rw [hb]; exact Bool.false_ne_true)
          have r17 := v17 d17
          have r18 := v18 d18
          obtain ⟨p1_17, n1_17, c1_17, p2_17, n2_17, c2_17, p3_17, n3_17, c3_17, r17⟩ := r17
          have hN := hH; (try simp only [hb, d17, d18, n22, cond_true, cond_false] at hN)
          have e17 := r17 -- d17
          go_simp
          refine hK.out _ ?_ _ ?_ ?_; rotate_left 2
          · (try simp only [r17, r18]); rfl
          exact ⟨by have hX := hN; (try simp only [List.set_cons_zero, List.set_cons_succ] at hX); simpa only [updB, updV, blkOf_mk, tup0_mk, partsOf3, Nat.reduceBEq, cond_true, cond_false, hb, d17, d18, n22, r17, r18] using hX, v0, v1, v2, v3, v4, v5, v6, v7, v8, v9, v10, v11, v12, v13, v14, v15, v16, v17, v18, fun _ => (by show _ = tup0 (t 17); rw [r17]; rfl), v20, v21, v23⟩
        refine AllSteps.cons (j := 21) rfl (fun b t wx hJ hb hd hcl Kc hK => ?_) ?_
        · obtain ⟨hH, v0, v1, v2, v3, v4, v5, v6, v7, v8, v9, v10, v11, v12, v13, v14, v15, v16, v17, v18, v19, v20, v21, v23⟩ := hJ
          have d17 : b 17 = true := hcl.out 18 17 (by kernel_rfl) (hd.out 18 (by kernel_rfl))
          have d18 : b 18 = true := hd.out 18 (by kernel_rfl)
          have r17 := v17 d17
          have r18 := v18 d18
          obtain ⟨p1_17, n1_17, c1_17, p2_17, n2_17, c2_17, p3_17, n3_17, c3_17, r17⟩ := r17
          have e17 := r17 -- d17
          go_simp
          refine hK.out _ ?_ _ ?_ ?_; rotate_left 2
          · (try simp only [r17, r18]); rfl
          exact ⟨hH, v0, v1, v2, v3, v4, v5, v6, v7, v8, v9, v10, v11, v12, v13, v14, v15, v16, v17, v18, v19, fun _ => rfl, v21, v23⟩
        refine AllSteps.cons (j := 22) rfl (fun b t wx hJ hb hd hcl Kc hK => ?_) ?_
        · obtain ⟨hH, v0, v1, v2, v3, v4, v5, v6, v7, v8, v9, v10, v11, v12, v13, v14, v15, v16, v17, v18, v19, v20, v21, v23⟩ := hJ
          have n22 : b 22 = false := Bool.eq_false_iff.2 fun h => absurd (hcl.out 22 21 (by kernel_rfl) (h)) (by rw [hb]; exact Bool.false_ne_true)
          have hN := hH; (try simp only [hb, n22, cond_true, cond_false] at hN)
          go_simp
          refine hK.out _ ?_ _ ?_ ?_; rotate_left 2
          · rfl
          exact ⟨by have hX := hN.addB 7 #[.slice none 0 0, .slice none 0 0, .slice none 0 0] 31; (try simp only [List.set_cons_zero, List.set_cons_succ] at hX); simpa only [updB, updV, blkOf_mk, tup0_mk, partsOf3, Nat.reduceBEq, cond_true, cond_false, hb, n22] using hX, v0, v1, v2, v3, v4, v5, v6, v7, v8, v9, v10, v11, v12, v13, v14, v15, v16, v17, v18, v19, v20, fun _ => ⟨_, rfl⟩, v23⟩
        refine AllSteps.cons (j := 23) rfl (fun b t wx hJ hb hd hcl Kc hK => ?_) ?_
        · obtain ⟨hH, v0, v1, v2, v3, v4, v5, v6, v7, v8, v9, v10, v11, v12, v13, v14, v15, v16, v17, v18, v19, v20, v21, v23⟩ := hJ
          have d0 : b 0 = true := hd.out 0 (by kernel_rfl)
          have d1 : b 1 = true := hd.out 1 (by kernel_rfl)
          have d2 : b 2 = true := hd.out 2 (by kernel_rfl)
          have d3 : b 3 = true := hd.out 3 (by kernel_rfl)
          have d4 : b 4 = true := hd.out 4 (by kernel_rfl)
          have d5 : b 5 = true := hd.out 5 (by kernel_rfl)
          have d6 : b 6 = true := hd.out 6 (by kernel_rfl)
          have d7 : b 7 = true := hd.out 7 (by kernel_rfl)
          have d8 : b 8 = true := hd.out 8 (by kernel_rfl)
          have d9 : b 9 = true := hd.out 9 (by kernel_rfl)
          have d10 : b 10 = true := hd.out 10 (by kernel_rfl)
          have d11 : b 11 = true := hd.out 11 (by kernel_rfl)
          have d12 : b 12 = true := hd.out 12 (by kernel_rfl)
          have d13 : b 13 = true := hd.out 13 (by kernel_rfl)
          have d14 : b 14 = true := hd.out 14 (by kernel_rfl)
          have d15 : b 15 = true := hd.out 15 (by kernel_rfl)
          have d16 : b 16 = true := hd.out 16 (by kernel_rfl)
          have d17 : b 17 = true := hd.out 17 (by kernel_rfl)
          have d18 : b 18 = true := hd.out 18 (by kernel_rfl)
          have d19 : b 19 = true := hd.out 19 (by kernel_rfl)
          have d21 : b 21 = true := hd.out 21 (by kernel_rfl)
          have r0 := v0 d0
          have r1 := v1 d1
          have r2 := v2 d2
          have r3 := v3 d3
          have r4 := v4 d4
          have r5 := v5 d5
          have r6 := v6 d6
          have r7 := v7 d7
          have r8 := v8 d8
          have r9 := v9 d9
          have r10 := v10 d10
          have r11 := v11 d11
          have r12 := v12 d12
          have r13 := v13 d13
          have r14 := v14 d14
          have r15 := v15 d15
          have r16 := v16 d16
          have r17 := v17 d17
          have r18 := v18 d18
          have r19 := v19 d19
          have r21 := v21 d21
          obtain ⟨x_4, c_4, r4⟩ := r4
          obtain ⟨x_5, c_5, r5⟩ := r5
          obtain ⟨x_10, c_10, r10⟩ := r10
          obtain ⟨x_16, c_16, r16⟩ := r16
          obtain ⟨p1_17, n1_17, c1_17, p2_17, n2_17, c2_17, p3_17, n3_17, c3_17, r17⟩ := r17
          obtain ⟨q_21, r21⟩ := r21
          have hN := hH; (try simp only [hb, d0, d1, d2, d3, d4, d5, d6, d7, d8, d9, d10, d11, d12, d13, d14, d15, d16, d17, d18, d19, d21, cond_true, cond_false] at hN)
          rw [r17, tup0_mk] at r19 -- d17
          simp only [r21, r19, blkOf_mk, tup0_mk, partsOf3] at hN
          have B := hN.blk (k := 7) rfl
          have f0 := B.free 0; have z0 := B.cell (j := 0) rfl
          have f1 := B.free 1; have z1 := B.cell (j := 1) rfl
          have f2 := B.free 2; have z2 := B.cell (j := 2) rfl
          have lB := B.lt; have hmk0 := @tup0_mk
          go_simp
          refine hK.out _ undef _ ?_ ?_; rotate_left 1
          · (try simp only [r0, r1, r2, r3, r4, r5, r6, r7, r8, r9, r10, r11, r12, r13, r14, r15, r16, r17, r18, r19, r21]); rfl
          exact ⟨by have hX := hN.setB3' (k := 7) rfl (.slice p1_17 n1_17 c1_17) (.slice p2_17 n2_17 c2_17) (.slice p3_17 n3_17 c3_17); (try simp only [List.set_cons_zero, List.set_cons_succ] at hX); simpa only [updB, updV, blkOf_mk, tup0_mk, partsOf3, Nat.reduceBEq, cond_true, cond_false, hb, d0, d1, d2, d3, d4, d5, d6, d7, d8, d9, d10, d11, d12, d13, d14, d15, d16, d17, d18, d19, d21, r0, r1, r2, r3, r4, r5, r6, r7, r8, r9, r10, r11, r12, r13, r14, r15, r16, r17, r18, r19, r21] using hX, v0, v1, v2, v3, v4, v5, v6, v7, v8, v9, v10, v11, v12, v13, v14, v15, v16, v17, v18, v19, v20, v21, v23⟩
        refine AllSteps.cons (j := 24) rfl (fun b t wx hJ hb hd hcl Kc hK => ?_) ?_
        · obtain ⟨hH, v0, v1, v2, v3, v4, v5, v6, v7, v8, v9, v10, v11, v12, v13, v14, v15, v16, v17, v18, v19, v20, v21, v23⟩ := hJ
          have d0 : b 0 = true := hd.out 0 (by kernel_rfl)
          have d1 : b 1 = true := hd.out 1 (by kernel_rfl)
          have d2 : b 2 = true := hd.out 2 (by kernel_rfl)
          have d3 : b 3 = true := hd.out 3 (by kernel_rfl)
          have d4 : b 4 = true := hd.out 4 (by kernel_rfl)
          have d5 : b 5 = true := hd.out 5 (by kernel_rfl)
          have d6 : b 6 = true := hd.out 6 (by kernel_rfl)
          have d7 : b 7 = true := hd.out 7 (by kernel_rfl)
          have d8 : b 8 = true := hd.out 8 (by kernel_rfl)
          have d9 : b 9 = true := hd.out 9 (by kernel_rfl)
          have d10 : b 10 = true := hd.out 10 (by kernel_rfl)
          have d11 : b 11 = true := hd.out 11 (by kernel_rfl)
          have d12 : b 12 = true := hd.out 12 (by kernel_rfl)
          have d13 : b 13 = true := hd.out 13 (by kernel_rfl)
          have d14 : b 14 = true := hd.out 14 (by kernel_rfl)
          have d15 : b 15 = true := hd.out 15 (by kernel_rfl)
          have d16 : b 16 = true := hd.out 16 (by kernel_rfl)
          have d17 : b 17 = true := hd.out 17 (by kernel_rfl)
          have d18 : b 18 = true := hd.out 18 (by kernel_rfl)
          have d19 : b 19 = true := hd.out 19 (by kernel_rfl)
          have d20 : b 20 = true := hd.out 20 (by kernel_rfl)
          have d21 : b 21 = true := hd.out 21 (by kernel_rfl)
          have d22 : b 22 = true := hd.out 22 (by kernel_rfl)
          have r0 := v0 d0
          have r1 := v1 d1
          have r2 := v2 d2
          have r3 := v3 d3
          have r4 := v4 d4
          have r5 := v5 d5
          have r6 := v6 d6
          have r7 := v7 d7
          have r8 := v8 d8
          have r9 := v9 d9
          have r10 := v10 d10
          have r11 := v11 d11
          have r12 := v12 d12
          have r13 := v13 d13
          have r14 := v14 d14
          have r15 := v15 d15
          have r16 := v16 d16
          have r17 := v17 d17
          have r18 := v18 d18
          have r19 := v19 d19
          have r20 := v20 d20
          have r21 := v21 d21
          obtain ⟨x_4, c_4, r4⟩ := r4
          obtain ⟨x_5, c_5, r5⟩ := r5
          obtain ⟨x_10, c_10, r10⟩ := r10
          obtain ⟨x_16, c_16, r16⟩ := r16
          obtain ⟨p1_17, n1_17, c1_17, p2_17, n2_17, c2_17, p3_17, n3_17, c3_17, r17⟩ := r17
          obtain ⟨q_21, r21⟩ := r21
          go_simp
          refine hK.out _ ?_ _ ?_ ?_; rotate_left 2
          · (try simp only [r0, r1, r2, r3, r4, r5, r6, r7, r8, r9, r10, r11, r12, r13, r14, r15, r16, r17, r18, r19, r20, r21]); rfl
          exact ⟨hH, v0, v1, v2, v3, v4, v5, v6, v7, v8, v9, v10, v11, v12, v13, v14, v15, v16, v17, v18, v19, v20, v21, fun _ => rfl⟩
        exact AllSteps.nil
    case hEs =>
      intro b t ws hJ hall
      obtain ⟨hHs, v0, v1, v2, v3, v4, v5, v6, v7, v8, v9, v10, v11, v12, v13, v14, v15, v16, v17, v18, v19, v20, v21, v23⟩ := hJ
      have a0 : b 0 = true := hall 0 (by decide)
      have a1 : b 1 = true := hall 1 (by decide)
      have a2 : b 2 = true := hall 2 (by decide)
      have a3 : b 3 = true := hall 3 (by decide)
      have a4 : b 4 = true := hall 4 (by decide)
      have a5 : b 5 = true := hall 5 (by decide)
      have a6 : b 6 = true := hall 6 (by decide)
      have a7 : b 7 = true := hall 7 (by decide)
      have a8 : b 8 = true := hall 8 (by decide)
      have a9 : b 9 = true := hall 9 (by decide)
      have a10 : b 10 = true := hall 10 (by decide)
      have a11 : b 11 = true := hall 11 (by decide)
      have a12 : b 12 = true := hall 12 (by decide)
      have a13 : b 13 = true := hall 13 (by decide)
      have a14 : b 14 = true := hall 14 (by decide)
      have a15 : b 15 = true := hall 15 (by decide)
      have a16 : b 16 = true := hall 16 (by decide)
      have a17 : b 17 = true := hall 17 (by decide)
      have a18 : b 18 = true := hall 18 (by decide)
      have a19 : b 19 = true := hall 19 (by decide)
      have a20 : b 20 = true := hall 20 (by decide)
      have a21 : b 21 = true := hall 21 (by decide)
      have a22 : b 22 = true := hall 22 (by decide)
      have a23 : b 23 = true := hall 23 (by decide)
      (try simp only [a0, a1, a2, a3, a4, a5, a6, a7, a8, a9, a10, a11, a12, a13, a14, a15, a16, a17, a18, a19, a20, a21, a22, a23, cond_true] at hHs)
      replace v0 := v0 a0
      replace v1 := v1 a1
      replace v2 := v2 a2
      replace v3 := v3 a3
      replace v4 := v4 a4
      replace v5 := v5 a5
      replace v6 := v6 a6
      replace v7 := v7 a7
      replace v8 := v8 a8
      replace v9 := v9 a9
      replace v10 := v10 a10
      replace v11 := v11 a11
      replace v12 := v12 a12
      replace v13 := v13 a13
      replace v14 := v14 a14
      replace v15 := v15 a15
      replace v16 := v16 a16
      replace v17 := v17 a17
      replace v18 := v18 a18
      replace v19 := v19 a19
      replace v20 := v20 a20
      replace v21 := v21 a21
      replace v23 := v23 a23
      clear hall a0 a1 a2 a3 a4 a5 a6 a7 a8 a9 a10 a11 a12 a13 a14 a15 a16 a17 a18 a19 a20 a21 a22 a23
      generalize t 23 = x23 at hHs v23 ⊢
      generalize t 21 = x21 at hHs v21 ⊢
      generalize t 20 = x20 at hHs v20 ⊢
      generalize t 19 = x19 at hHs v19 ⊢
      generalize t 18 = x18 at hHs v18 ⊢
      generalize t 17 = x17 at hHs v17 v18 v19 ⊢
      generalize t 16 = x16 at hHs v16 ⊢
      generalize t 15 = x15 at hHs v15 ⊢
      generalize t 14 = x14 at hHs v14 ⊢
      generalize t 13 = x13 at hHs v13 ⊢
      generalize t 12 = x12 at hHs v12 ⊢
      generalize t 11 = x11 at hHs v11 ⊢
      generalize t 10 = x10 at hHs v10 ⊢
      generalize t 9 = x9 at hHs v9 ⊢
      generalize t 8 = x8 at hHs v8 ⊢
      generalize t 7 = x7 at hHs v7 ⊢
      generalize t 6 = x6 at hHs v6 ⊢
      generalize t 5 = x5 at hHs v5 ⊢
      generalize t 4 = x4 at hHs v4 ⊢
      generalize t 3 = x3 at hHs v3 ⊢
      generalize t 2 = x2 at hHs v2 ⊢
      generalize t 1 = x1 at hHs v1 ⊢
      generalize t 0 = x0 at hHs v0 ⊢
      subst v0
      subst v1
      subst v2
      subst v3
      obtain ⟨xs4, cs4, rfl⟩ := v4
      obtain ⟨xs5, cs5, rfl⟩ := v5
      subst v6
      subst v7
      subst v8
      subst v9
      obtain ⟨xs10, cs10, rfl⟩ := v10
      subst v11
      subst v12
      subst v13
      subst v14
      subst v15
      obtain ⟨xs16, cs16, rfl⟩ := v16
      obtain ⟨p1s17, n1s17, c1s17, p2s17, n2s17, c2s17, p3s17, n3s17, c3s17, rfl⟩ := v17
      subst v18
      subst v19
      subst v20
      obtain ⟨qs21, rfl⟩ := v21
      subst v23
      simp only [blkOf_mk, tup0_mk, partsOf3] at hHs
      clear b
      replace hH := hHs; clear hHs
      replace hH : Held w ws [aB (wn1.heap.size) 24 [.int .i64 k, .int .i64 p, .int .i64 n], aT (.agg #[.slice (some ⟨bL, 0, none⟩) L.length tc1, .slice (some ⟨bD, 0, none⟩) L.length tc2, .slice tp3 (flat xs).length tc3]) L (L.map dimOf) (flat xs), aB (wn3.heap.size) 31 [.slice (some ⟨bL, 0, none⟩) L.length tc1, .slice (some ⟨bD, 0, none⟩) L.length tc2, .slice tp3 (flat xs).length tc3], aTs (.slice (some ⟨wn7.heap.size, 0, none⟩) 0 0) [] [], aI (.slice xs4 M.length cs4) M, aI (.slice xs16 M.length cs16) (M.map dimOf), aT (.agg #[.slice p1s17 n1s17 c1s17, .slice p2s17 n2s17 c2s17, .slice p3s17 n3s17 c3s17]) M (M.map dimOf) (flat (List.replicate (size (axs dimOf M)) (rig HR.out).zero)), aB qs21 31 [.slice p1s17 n1s17 c1s17, .slice p2s17 n2s17 c2s17, .slice p3s17 n3s17 c3s17]] := hH
      have q0_0 := (hH.blk (k := 0) rfl).cell (j := 0) rfl
      have q0_1 := (hH.blk (k := 0) rfl).cell (j := 1) rfl
      have q0_2 := (hH.blk (k := 0) rfl).cell (j := 2) rfl
      have l0_ := (hH.blk (k := 0) rfl).lt
      have q2_0 := (hH.blk (k := 2) rfl).cell (j := 0) rfl
      have q2_1 := (hH.blk (k := 2) rfl).cell (j := 1) rfl
      have q2_2 := (hH.blk (k := 2) rfl).cell (j := 2) rfl
      have l2_ := (hH.blk (k := 2) rfl).lt
      have q7_0 := (hH.blk (k := 7) rfl).cell (j := 0) rfl
      have q7_1 := (hH.blk (k := 7) rfl).cell (j := 1) rfl
      have q7_2 := (hH.blk (k := 7) rfl).cell (j := 2) rfl
      have l7_ := (hH.blk (k := 7) rfl).lt
      go_wp2_with fail
      clear q0_0 q0_1 q0_2 l0_ q2_0 q2_1 q2_2 l2_ q7_0 q7_1 q7_2 l7_
      replace hH : Held w ws [aB (wn1.heap.size) 24 [.int .i64 k, .int .i64 p, .int .i64 n], aT (.agg #[.slice (some ⟨bL, 0, none⟩) L.length tc1, .slice (some ⟨bD, 0, none⟩) L.length tc2, .slice tp3 (flat xs).length tc3]) L (L.map dimOf) (flat xs), aB (wn3.heap.size) 31 [.slice (some ⟨bL, 0, none⟩) L.length tc1, .slice (some ⟨bD, 0, none⟩) L.length tc2, .slice tp3 (flat xs).length tc3], aTs (.slice (some ⟨wn7.heap.size, 0, none⟩) 0 0) [] [], aT (.agg #[.slice p1s17 n1s17 c1s17, .slice p2s17 n2s17 c2s17, .slice p3s17 n3s17 c3s17]) M (M.map dimOf) (flat (List.replicate (size (axs dimOf M)) (rig HR.out).zero)), aB qs21 31 [.slice p1s17 n1s17 c1s17, .slice p2s17 n2s17 c2s17, .slice p3s17 n3s17 c3s17]] := hH.sub (.cons_cons _ (.cons_cons _ (.cons_cons _ (.cons_cons _ (.cons _ (.cons _ (.cons_cons _ (.cons_cons _ .slnil))))))))
      go_loopw [9, 12] (fun vl i wr => ∃ (v : Nat) (cs : List (Value × Value × Value)) (s1 s2 s3 : Value), v ≤ d ∧ i = .int .i64 (v : Int) ∧ Held w wr [aB (wn1.heap.size) 24 [.int .i64 k, .int .i64 p, .int .i64 n], aT (.agg #[.slice (some ⟨bL, 0, none⟩) L.length tc1, .slice (some ⟨bD, 0, none⟩) L.length tc2, .slice tp3 (flat xs).length tc3]) L (L.map dimOf) (flat xs), aB (wn3.heap.size) 31 [.slice (some ⟨bL, 0, none⟩) L.length tc1, .slice (some ⟨bD, 0, none⟩) L.length tc2, .slice tp3 (flat xs).length tc3], aTs vl cs (slTs HR.out dimOf L x xs v), aT (.agg #[s1, s2, s3]) M (M.map dimOf) (flat (accXs HR.out dimOf L x v xs)), aB qs21 31 [s1, s2, s3]]) (fun vl i wr => d - (RowKit.intOf i).toNat)
      case atStart => exact ⟨0, [], _, _, _, Nat.zero_le _, rfl, by rw [accXs_zero, HMM.out]; exact hH⟩
      case round =>
        clear hH
        obtain ⟨v, cs, s1, s2, s3, hv, rfl, hH⟩ := hrel
        obtain ⟨av, cv, hvl, _, _⟩ := (hH.tensS (k := 3) rfl).val
        subst hvl
        obtain ⟨p1, n1, c1, p2, n2, c2, p3, n3, c3, hvv⟩ := (hH.tens (k := 4) rfl).shape
        simp at hvv
        obtain ⟨rfl, rfl, rfl⟩ := hvv
        replace hH : Held w wr [aB (wn1.heap.size) 24 [.int .i64 k, .int .i64 p, .int .i64 n], aT (.agg #[.slice (some ⟨bL, 0, none⟩) L.length tc1, .slice (some ⟨bD, 0, none⟩) L.length tc2, .slice tp3 (flat xs).length tc3]) L (L.map dimOf) (flat xs), aB (wn3.heap.size) 31 [.slice (some ⟨bL, 0, none⟩) L.length tc1, .slice (some ⟨bD, 0, none⟩) L.length tc2, .slice tp3 (flat xs).length tc3], aTs (.slice av (slTs HR.out dimOf L x xs v).length cv) cs (slTs HR.out dimOf L x xs v), aT (.agg #[.slice p1 n1 c1, .slice p2 n2 c2, .slice p3 n3 c3]) M (M.map dimOf) (flat (accXs HR.out dimOf L x v xs)), aB qs21 31 [.slice p1 n1 c1, .slice p2 n2 c2, .slice p3 n3 c3]] := hH
        have hcD := ((hH.parts (k := 1) rfl).2.1.cell HDK.out).1
        by_cases hlt : v < d
        · skip
          have hv1 : (v : Int) < dimOf x := by rw [HD.out]; omega
          have HV1 := Lib.hid hv1; clear hv1
          have q0_0 := (hH.blk (k := 0) rfl).cell (j := 0) rfl
          have q0_1 := (hH.blk (k := 0) rfl).cell (j := 1) rfl
          have q0_2 := (hH.blk (k := 0) rfl).cell (j := 2) rfl
          have l0_ := (hH.blk (k := 0) rfl).lt
          have q2_0 := (hH.blk (k := 2) rfl).cell (j := 0) rfl
          have q2_1 := (hH.blk (k := 2) rfl).cell (j := 1) rfl
          have q2_2 := (hH.blk (k := 2) rfl).cell (j := 2) rfl
          have l2_ := (hH.blk (k := 2) rfl).lt
          have q5_0 := (hH.blk (k := 5) rfl).cell (j := 0) rfl
          have q5_1 := (hH.blk (k := 5) rfl).cell (j := 1) rfl
          have q5_2 := (hH.blk (k := 5) rfl).cell (j := 2) rfl
          have l5_ := (hH.blk (k := 5) rfl).lt
          go_wp2_with fail
          clear q0_0 q0_1 q0_2 l0_ q2_0 q2_1 q2_2 l2_ q5_0 q5_1 q5_2 l5_
          clear hcD
          refine (sliceTensor_any HR.out HT.out x (v : Int) HXL.out (Int.natCast_nonneg v) HV1.out _ _ (hH.tens (k := 1) rfl)).mono ?_; rintro ewn9 wn9 ⟨vc, rfl, oc, hwn9⟩
          rw [HMM.out] at oc
          obtain ⟨sp1, sn1, sc1, sp2, sn2, sc2, sp3, sn3, sc3, rfl⟩ := oc.shape
          replace hH : Held w wn9 [aB (wn1.heap.size) 24 [.int .i64 k, .int .i64 p, .int .i64 n], aT (.agg #[.slice (some ⟨bL, 0, none⟩) L.length tc1, .slice (some ⟨bD, 0, none⟩) L.length tc2, .slice tp3 (flat xs).length tc3]) L (L.map dimOf) (flat xs), aB (wn3.heap.size) 31 [.slice (some ⟨bL, 0, none⟩) L.length tc1, .slice (some ⟨bD, 0, none⟩) L.length tc2, .slice tp3 (flat xs).length tc3], aTs (.slice av (slTs HR.out dimOf L x xs v).length cv) cs (slTs HR.out dimOf L x xs v), aT (.agg #[.slice p1 n1 c1, .slice p2 n2 c2, .slice p3 n3 c3]) M (M.map dimOf) (flat (accXs HR.out dimOf L x v xs)), aB qs21 31 [.slice p1 n1 c1, .slice p2 n2 c2, .slice p3 n3 c3], aT (.agg #[.slice sp1 sn1 sc1, .slice sp2 sn2 sc2, .slice sp3 sn3 sc3]) M (M.map dimOf) (flat (cutXs HR.out dimOf L x (fun _ => (v : Int)) xs))] := (hH.mores 1).addT 6 hwn9 oc (Nat.le_refl _)
          clear hwn9
          have q0_0 := (hH.blk (k := 0) rfl).cell (j := 0) rfl
          have q0_1 := (hH.blk (k := 0) rfl).cell (j := 1) rfl
          have q0_2 := (hH.blk (k := 0) rfl).cell (j := 2) rfl
          have l0_ := (hH.blk (k := 0) rfl).lt
          have q2_0 := (hH.blk (k := 2) rfl).cell (j := 0) rfl
          have q2_1 := (hH.blk (k := 2) rfl).cell (j := 1) rfl
          have q2_2 := (hH.blk (k := 2) rfl).cell (j := 2) rfl
          have l2_ := (hH.blk (k := 2) rfl).lt
          have q5_0 := (hH.blk (k := 5) rfl).cell (j := 0) rfl
          have q5_1 := (hH.blk (k := 5) rfl).cell (j := 1) rfl
          have q5_2 := (hH.blk (k := 5) rfl).cell (j := 2) rfl
          have l5_ := (hH.blk (k := 5) rfl).lt
          go_wp2_with fail
          clear q0_0 q0_1 q0_2 l0_ q2_0 q2_1 q2_2 l2_ q5_0 q5_1 q5_2 l5_
          have hB : Held w (wn9.alloc (.cells #[.slice sp1 sn1 sc1, .slice sp2 sn2 sc2, .slice sp3 sn3 sc3] 31)) [aB (wn1.heap.size) 24 [.int .i64 k, .int .i64 p, .int .i64 n], aT (.agg #[.slice (some ⟨bL, 0, none⟩) L.length tc1, .slice (some ⟨bD, 0, none⟩) L.length tc2, .slice tp3 (flat xs).length tc3]) L (L.map dimOf) (flat xs), aB (wn3.heap.size) 31 [.slice (some ⟨bL, 0, none⟩) L.length tc1, .slice (some ⟨bD, 0, none⟩) L.length tc2, .slice tp3 (flat xs).length tc3], aTs (.slice av (slTs HR.out dimOf L x xs v).length cv) cs (slTs HR.out dimOf L x xs v), aT (.agg #[.slice p1 n1 c1, .slice p2 n2 c2, .slice p3 n3 c3]) M (M.map dimOf) (flat (accXs HR.out dimOf L x v xs)), aB qs21 31 [.slice p1 n1 c1, .slice p2 n2 c2, .slice p3 n3 c3], aT (.agg #[.slice sp1 sn1 sc1, .slice sp2 sn2 sc2, .slice sp3 sn3 sc3]) M (M.map dimOf) (flat (cutXs HR.out dimOf L x (fun _ => (v : Int)) xs)), aB (wn9.heap.size) 31 [.slice sp1 sn1 sc1, .slice sp2 sn2 sc2, .slice sp3 sn3 sc3]] := by
            have h := (hH.mores 1).addB 7 #[.slice sp1 sn1 sc1, .slice sp2 sn2 sc2, .slice sp3 sn3 sc3] 31
            exact h
          have hsz : (wn9.alloc (.cells #[.slice sp1 sn1 sc1, .slice sp2 sn2 sc2, .slice sp3 sn3 sc3] 31)).heap.size = wn9.heap.size + 1 := by simp
          generalize wn9.alloc (.cells #[.slice sp1 sn1 sc1, .slice sp2 sn2 sc2, .slice sp3 sn3 sc3] 31) = wn10 at hB hsz ⊢
          replace hH := hB; have HSZwn10 := Lib.hid hsz; clear hB hsz
          have q0_0 := (hH.blk (k := 0) rfl).cell (j := 0) rfl
          have q0_1 := (hH.blk (k := 0) rfl).cell (j := 1) rfl
          have q0_2 := (hH.blk (k := 0) rfl).cell (j := 2) rfl
          have l0_ := (hH.blk (k := 0) rfl).lt
          have q2_0 := (hH.blk (k := 2) rfl).cell (j := 0) rfl
          have q2_1 := (hH.blk (k := 2) rfl).cell (j := 1) rfl
          have q2_2 := (hH.blk (k := 2) rfl).cell (j := 2) rfl
          have l2_ := (hH.blk (k := 2) rfl).lt
          have q5_0 := (hH.blk (k := 5) rfl).cell (j := 0) rfl
          have q5_1 := (hH.blk (k := 5) rfl).cell (j := 1) rfl
          have q5_2 := (hH.blk (k := 5) rfl).cell (j := 2) rfl
          have l5_ := (hH.blk (k := 5) rfl).lt
          have q7_0 := (hH.blk (k := 7) rfl).cell (j := 0) rfl
          have q7_1 := (hH.blk (k := 7) rfl).cell (j := 1) rfl
          have q7_2 := (hH.blk (k := 7) rfl).cell (j := 2) rfl
          have l7_ := (hH.blk (k := 7) rfl).lt
          go_wp2_with fail
          clear q0_0 q0_1 q0_2 l0_ q2_0 q2_1 q2_2 l2_ q5_0 q5_1 q5_2 l5_ q7_0 q7_1 q7_2 l7_
          have hfx := fix_one HR.out (xs := xs) HXL.out (fun h => by have := u6_le HT.out.sub h; omega) (Int.natCast_nonneg v) HV1.out
          have HFX := Lib.hid hfx; clear hfx
          have hB : Held w (wn10.alloc (.cells #[.int .i64 x, .int .i64 77] 3)) [aB (wn1.heap.size) 24 [.int .i64 k, .int .i64 p, .int .i64 n], aT (.agg #[.slice (some ⟨bL, 0, none⟩) L.length tc1, .slice (some ⟨bD, 0, none⟩) L.length tc2, .slice tp3 (flat xs).length tc3]) L (L.map dimOf) (flat xs), aB (wn3.heap.size) 31 [.slice (some ⟨bL, 0, none⟩) L.length tc1, .slice (some ⟨bD, 0, none⟩) L.length tc2, .slice tp3 (flat xs).length tc3], aTs (.slice av (slTs HR.out dimOf L x xs v).length cv) cs (slTs HR.out dimOf L x xs v), aT (.agg #[.slice p1 n1 c1, .slice p2 n2 c2, .slice p3 n3 c3]) M (M.map dimOf) (flat (accXs HR.out dimOf L x v xs)), aB qs21 31 [.slice p1 n1 c1, .slice p2 n2 c2, .slice p3 n3 c3], aT (.agg #[.slice sp1 sn1 sc1, .slice sp2 sn2 sc2, .slice sp3 sn3 sc3]) M (M.map dimOf) (flat (cutXs HR.out dimOf L x (fun _ => (v : Int)) xs)), aB (wn9.heap.size) 31 [.slice sp1 sn1 sc1, .slice sp2 sn2 sc2, .slice sp3 sn3 sc3], aI (.slice (some ⟨wn9.heap.size + 1, 0, none⟩) 2 2) [x, 77]] := by
            have h := (hH.mores 1).built 8 [x, 77] 2 rfl (by simp [maxLen]) #[.int .i64 x, .int .i64 77] rfl
            rw [HSZwn10.out] at h
            exact h
          have hsz : (wn10.alloc (.cells #[.int .i64 x, .int .i64 77] 3)).heap.size = wn9.heap.size + 1 + 1 := by rw [← HSZwn10.out]; simp
          generalize wn10.alloc (.cells #[.int .i64 x, .int .i64 77] 3) = wn11 at hB hsz ⊢
          replace hH := hB; have HSZwn11 := Lib.hid hsz; clear hB hsz
          have hB : Held w (wn11.alloc (.cells #[.int .i64 (v : Int), .int .i64 5] 3)) [aB (wn1.heap.size) 24 [.int .i64 k, .int .i64 p, .int .i64 n], aT (.agg #[.slice (some ⟨bL, 0, none⟩) L.length tc1, .slice (some ⟨bD, 0, none⟩) L.length tc2, .slice tp3 (flat xs).length tc3]) L (L.map dimOf) (flat xs), aB (wn3.heap.size) 31 [.slice (some ⟨bL, 0, none⟩) L.length tc1, .slice (some ⟨bD, 0, none⟩) L.length tc2, .slice tp3 (flat xs).length tc3], aTs (.slice av (slTs HR.out dimOf L x xs v).length cv) cs (slTs HR.out dimOf L x xs v), aT (.agg #[.slice p1 n1 c1, .slice p2 n2 c2, .slice p3 n3 c3]) M (M.map dimOf) (flat (accXs HR.out dimOf L x v xs)), aB qs21 31 [.slice p1 n1 c1, .slice p2 n2 c2, .slice p3 n3 c3], aT (.agg #[.slice sp1 sn1 sc1, .slice sp2 sn2 sc2, .slice sp3 sn3 sc3]) M (M.map dimOf) (flat (cutXs HR.out dimOf L x (fun _ => (v : Int)) xs)), aB (wn9.heap.size) 31 [.slice sp1 sn1 sc1, .slice sp2 sn2 sc2, .slice sp3 sn3 sc3], aI (.slice (some ⟨wn9.heap.size + 1, 0, none⟩) 2 2) [x, 77], aI (.slice (some ⟨wn9.heap.size + 1 + 1, 0, none⟩) 2 2) [(v : Int), 5]] := by
            have h := (hH.mores 1).built 9 [(v : Int), 5] 2 rfl (by simp [maxLen]) #[.int .i64 (v : Int), .int .i64 5] rfl
            rw [HSZwn11.out] at h
            exact h
          have hsz : (wn11.alloc (.cells #[.int .i64 (v : Int), .int .i64 5] 3)).heap.size = wn9.heap.size + 1 + 1 + 1 := by rw [← HSZwn11.out]; simp
          generalize wn11.alloc (.cells #[.int .i64 (v : Int), .int .i64 5] 3) = wn12 at hB hsz ⊢
          replace hH := hB; have HSZwn12 := Lib.hid hsz; clear hB hsz
          refine (fixLabels_any HR.out HT.out [x, 77] [(v : Int), 5] rfl HFX.out.1 _ _ _ _ (hH.tens (k := 1) rfl) (hH.ints (k := 8) rfl) (hH.ints (k := 9) rfl)).mono ?_; rintro ewn13 wn13 ⟨vc, rfl, oc, hwn13⟩
          rw [HFX.out.2] at oc
          simp only [HMM.out] at oc
          obtain ⟨fp1, fn1, fc1, fp2, fn2, fc2, fp3, fn3, fc3, rfl⟩ := oc.shape
          replace hH : Held w wn13 [aB (wn1.heap.size) 24 [.int .i64 k, .int .i64 p, .int .i64 n], aT (.agg #[.slice (some ⟨bL, 0, none⟩) L.length tc1, .slice (some ⟨bD, 0, none⟩) L.length tc2, .slice tp3 (flat xs).length tc3]) L (L.map dimOf) (flat xs), aB (wn3.heap.size) 31 [.slice (some ⟨bL, 0, none⟩) L.length tc1, .slice (some ⟨bD, 0, none⟩) L.length tc2, .slice tp3 (flat xs).length tc3], aTs (.slice av (slTs HR.out dimOf L x xs v).length cv) cs (slTs HR.out dimOf L x xs v), aT (.agg #[.slice p1 n1 c1, .slice p2 n2 c2, .slice p3 n3 c3]) M (M.map dimOf) (flat (accXs HR.out dimOf L x v xs)), aB qs21 31 [.slice p1 n1 c1, .slice p2 n2 c2, .slice p3 n3 c3], aT (.agg #[.slice sp1 sn1 sc1, .slice sp2 sn2 sc2, .slice sp3 sn3 sc3]) M (M.map dimOf) (flat (cutXs HR.out dimOf L x (fun _ => (v : Int)) xs)), aB (wn9.heap.size) 31 [.slice sp1 sn1 sc1, .slice sp2 sn2 sc2, .slice sp3 sn3 sc3], aI (.slice (some ⟨wn9.heap.size + 1, 0, none⟩) 2 2) [x, 77], aI (.slice (some ⟨wn9.heap.size + 1 + 1, 0, none⟩) 2 2) [(v : Int), 5], aT (.agg #[.slice fp1 fn1 fc1, .slice fp2 fn2 fc2, .slice fp3 fn3 fc3]) M (M.map dimOf) (flat (cutXs HR.out dimOf L x (fun _ => (v : Int)) xs))] := (hH.mores 1).addT 10 hwn13 oc (Nat.le_refl _)
          clear hwn13
          have q0_0 := (hH.blk (k := 0) rfl).cell (j := 0) rfl
          have q0_1 := (hH.blk (k := 0) rfl).cell (j := 1) rfl
          have q0_2 := (hH.blk (k := 0) rfl).cell (j := 2) rfl
          have l0_ := (hH.blk (k := 0) rfl).lt
          have q2_0 := (hH.blk (k := 2) rfl).cell (j := 0) rfl
          have q2_1 := (hH.blk (k := 2) rfl).cell (j := 1) rfl
          have q2_2 := (hH.blk (k := 2) rfl).cell (j := 2) rfl
          have l2_ := (hH.blk (k := 2) rfl).lt
          have q5_0 := (hH.blk (k := 5) rfl).cell (j := 0) rfl
          have q5_1 := (hH.blk (k := 5) rfl).cell (j := 1) rfl
          have q5_2 := (hH.blk (k := 5) rfl).cell (j := 2) rfl
          have l5_ := (hH.blk (k := 5) rfl).lt
          have q7_0 := (hH.blk (k := 7) rfl).cell (j := 0) rfl
          have q7_1 := (hH.blk (k := 7) rfl).cell (j := 1) rfl
          have q7_2 := (hH.blk (k := 7) rfl).cell (j := 2) rfl
          have l7_ := (hH.blk (k := 7) rfl).lt
          go_wp2_with fail
          clear q0_0 q0_1 q0_2 l0_ q2_0 q2_1 q2_2 l2_ q5_0 q5_1 q5_2 l5_ q7_0 q7_1 q7_2 l7_
          have hB : Held w (wn13.alloc (.cells #[.slice fp1 fn1 fc1, .slice fp2 fn2 fc2, .slice fp3 fn3 fc3] 31)) [aB (wn1.heap.size) 24 [.int .i64 k, .int .i64 p, .int .i64 n], aT (.agg #[.slice (some ⟨bL, 0, none⟩) L.length tc1, .slice (some ⟨bD, 0, none⟩) L.length tc2, .slice tp3 (flat xs).length tc3]) L (L.map dimOf) (flat xs), aB (wn3.heap.size) 31 [.slice (some ⟨bL, 0, none⟩) L.length tc1, .slice (some ⟨bD, 0, none⟩) L.length tc2, .slice tp3 (flat xs).length tc3], aTs (.slice av (slTs HR.out dimOf L x xs v).length cv) cs (slTs HR.out dimOf L x xs v), aT (.agg #[.slice p1 n1 c1, .slice p2 n2 c2, .slice p3 n3 c3]) M (M.map dimOf) (flat (accXs HR.out dimOf L x v xs)), aB qs21 31 [.slice p1 n1 c1, .slice p2 n2 c2, .slice p3 n3 c3], aT (.agg #[.slice sp1 sn1 sc1, .slice sp2 sn2 sc2, .slice sp3 sn3 sc3]) M (M.map dimOf) (flat (cutXs HR.out dimOf L x (fun _ => (v : Int)) xs)), aB (wn9.heap.size) 31 [.slice sp1 sn1 sc1, .slice sp2 sn2 sc2, .slice sp3 sn3 sc3], aI (.slice (some ⟨wn9.heap.size + 1, 0, none⟩) 2 2) [x, 77], aI (.slice (some ⟨wn9.heap.size + 1 + 1, 0, none⟩) 2 2) [(v : Int), 5], aT (.agg #[.slice fp1 fn1 fc1, .slice fp2 fn2 fc2, .slice fp3 fn3 fc3]) M (M.map dimOf) (flat (cutXs HR.out dimOf L x (fun _ => (v : Int)) xs)), aB (wn13.heap.size) 31 [.slice fp1 fn1 fc1, .slice fp2 fn2 fc2, .slice fp3 fn3 fc3]] := by
            have h := (hH.mores 1).addB 11 #[.slice fp1 fn1 fc1, .slice fp2 fn2 fc2, .slice fp3 fn3 fc3] 31
            exact h
          have hsz : (wn13.alloc (.cells #[.slice fp1 fn1 fc1, .slice fp2 fn2 fc2, .slice fp3 fn3 fc3] 31)).heap.size = wn13.heap.size + 1 := by simp
          generalize wn13.alloc (.cells #[.slice fp1 fn1 fc1, .slice fp2 fn2 fc2, .slice fp3 fn3 fc3] 31) = wn14 at hB hsz ⊢
          replace hH := hB; have HSZwn14 := Lib.hid hsz; clear hB hsz
          have q0_0 := (hH.blk (k := 0) rfl).cell (j := 0) rfl
          have q0_1 := (hH.blk (k := 0) rfl).cell (j := 1) rfl
          have q0_2 := (hH.blk (k := 0) rfl).cell (j := 2) rfl
          have l0_ := (hH.blk (k := 0) rfl).lt
          have q2_0 := (hH.blk (k := 2) rfl).cell (j := 0) rfl
          have q2_1 := (hH.blk (k := 2) rfl).cell (j := 1) rfl
          have q2_2 := (hH.blk (k := 2) rfl).cell (j := 2) rfl
          have l2_ := (hH.blk (k := 2) rfl).lt
          have q5_0 := (hH.blk (k := 5) rfl).cell (j := 0) rfl
          have q5_1 := (hH.blk (k := 5) rfl).cell (j := 1) rfl
          have q5_2 := (hH.blk (k := 5) rfl).cell (j := 2) rfl
          have l5_ := (hH.blk (k := 5) rfl).lt
          have q7_0 := (hH.blk (k := 7) rfl).cell (j := 0) rfl
          have q7_1 := (hH.blk (k := 7) rfl).cell (j := 1) rfl
          have q7_2 := (hH.blk (k := 7) rfl).cell (j := 2) rfl
          have l7_ := (hH.blk (k := 7) rfl).lt
          have q11_0 := (hH.blk (k := 11) rfl).cell (j := 0) rfl
          have q11_1 := (hH.blk (k := 11) rfl).cell (j := 1) rfl
          have q11_2 := (hH.blk (k := 11) rfl).cell (j := 2) rfl
          have l11_ := (hH.blk (k := 11) rfl).lt
          go_wp2_with fail
          clear q0_0 q0_1 q0_2 l0_ q2_0 q2_1 q2_2 l2_ q5_0 q5_1 q5_2 l5_ q7_0 q7_1 q7_2 l7_ q11_0 q11_1 q11_2 l11_
          refine (same_same _ _ _ _ _ _ _ _ _ (hH.tens (k := 6) rfl) (hH.tens (k := 10) rfl) rfl rfl rfl).mono ?_; rintro ewn15 wn15 ⟨rfl, hwn15⟩
          replace hH : Held w wn15 [aB (wn1.heap.size) 24 [.int .i64 k, .int .i64 p, .int .i64 n], aT (.agg #[.slice (some ⟨bL, 0, none⟩) L.length tc1, .slice (some ⟨bD, 0, none⟩) L.length tc2, .slice tp3 (flat xs).length tc3]) L (L.map dimOf) (flat xs), aB (wn3.heap.size) 31 [.slice (some ⟨bL, 0, none⟩) L.length tc1, .slice (some ⟨bD, 0, none⟩) L.length tc2, .slice tp3 (flat xs).length tc3], aTs (.slice av (slTs HR.out dimOf L x xs v).length cv) cs (slTs HR.out dimOf L x xs v), aT (.agg #[.slice p1 n1 c1, .slice p2 n2 c2, .slice p3 n3 c3]) M (M.map dimOf) (flat (accXs HR.out dimOf L x v xs)), aB qs21 31 [.slice p1 n1 c1, .slice p2 n2 c2, .slice p3 n3 c3], aT (.agg #[.slice sp1 sn1 sc1, .slice sp2 sn2 sc2, .slice sp3 sn3 sc3]) M (M.map dimOf) (flat (cutXs HR.out dimOf L x (fun _ => (v : Int)) xs)), aB (wn9.heap.size) 31 [.slice sp1 sn1 sc1, .slice sp2 sn2 sc2, .slice sp3 sn3 sc3], aI (.slice (some ⟨wn9.heap.size + 1, 0, none⟩) 2 2) [x, 77], aI (.slice (some ⟨wn9.heap.size + 1 + 1, 0, none⟩) 2 2) [(v : Int), 5], aT (.agg #[.slice fp1 fn1 fc1, .slice fp2 fn2 fc2, .slice fp3 fn3 fc3]) M (M.map dimOf) (flat (cutXs HR.out dimOf L x (fun _ => (v : Int)) xs)), aB (wn13.heap.size) 31 [.slice fp1 fn1 fc1, .slice fp2 fn2 fc2, .slice fp3 fn3 fc3]] := hH.grow hwn15
          clear hwn15
          have q0_0 := (hH.blk (k := 0) rfl).cell (j := 0) rfl
          have q0_1 := (hH.blk (k := 0) rfl).cell (j := 1) rfl
          have q0_2 := (hH.blk (k := 0) rfl).cell (j := 2) rfl
          have l0_ := (hH.blk (k := 0) rfl).lt
          have q2_0 := (hH.blk (k := 2) rfl).cell (j := 0) rfl
          have q2_1 := (hH.blk (k := 2) rfl).cell (j := 1) rfl
          have q2_2 := (hH.blk (k := 2) rfl).cell (j := 2) rfl
          have l2_ := (hH.blk (k := 2) rfl).lt
          have q5_0 := (hH.blk (k := 5) rfl).cell (j := 0) rfl
          have q5_1 := (hH.blk (k := 5) rfl).cell (j := 1) rfl
          have q5_2 := (hH.blk (k := 5) rfl).cell (j := 2) rfl
          have l5_ := (hH.blk (k := 5) rfl).lt
          have q7_0 := (hH.blk (k := 7) rfl).cell (j := 0) rfl
          have q7_1 := (hH.blk (k := 7) rfl).cell (j := 1) rfl
          have q7_2 := (hH.blk (k := 7) rfl).cell (j := 2) rfl
          have l7_ := (hH.blk (k := 7) rfl).lt
          have q11_0 := (hH.blk (k := 11) rfl).cell (j := 0) rfl
          have q11_1 := (hH.blk (k := 11) rfl).cell (j := 1) rfl
          have q11_2 := (hH.blk (k := 11) rfl).cell (j := 2) rfl
          have l11_ := (hH.blk (k := 11) rfl).lt
          go_wp2_with (at_builtin; refine wpList_app _ rfl _ _ 59 rfl _ _ rfl rfl _ (run_pushT _ (hH.grow ((Ext.refl _).alloc _)) (k1 := 3) (k2 := 6) rfl rfl (by decide) (row_one3 _ _ _ _ _) (by rw [slTs_len]; omega)) ?_; rintro vl2 wp hHp; have y0_0 := (hHp.blk (k := 0) rfl).cell (j := 0) rfl; have y0_1 := (hHp.blk (k := 0) rfl).cell (j := 1) rfl; have y0_2 := (hHp.blk (k := 0) rfl).cell (j := 2) rfl; have y2_0 := (hHp.blk (k := 2) rfl).cell (j := 0) rfl; have y2_1 := (hHp.blk (k := 2) rfl).cell (j := 1) rfl; have y2_2 := (hHp.blk (k := 2) rfl).cell (j := 2) rfl; have y5_0 := (hHp.blk (k := 5) rfl).cell (j := 0) rfl; have y5_1 := (hHp.blk (k := 5) rfl).cell (j := 1) rfl; have y5_2 := (hHp.blk (k := 5) rfl).cell (j := 2) rfl; have y7_0 := (hHp.blk (k := 7) rfl).cell (j := 0) rfl; have y7_1 := (hHp.blk (k := 7) rfl).cell (j := 1) rfl; have y7_2 := (hHp.blk (k := 7) rfl).cell (j := 2) rfl; have y11_0 := (hHp.blk (k := 11) rfl).cell (j := 0) rfl; have y11_1 := (hHp.blk (k := 11) rfl).cell (j := 1) rfl; have y11_2 := (hHp.blk (k := 11) rfl).cell (j := 2) rfl; have yl0 := (hHp.blk (k := 0) rfl).lt; have yl2 := (hHp.blk (k := 2) rfl).lt; have yl5 := (hHp.blk (k := 5) rfl).lt; have yl7 := (hHp.blk (k := 7) rfl).lt; have yl11 := (hHp.blk (k := 11) rfl).lt)
          clear q0_0 q0_1 q0_2 l0_ q2_0 q2_1 q2_2 l2_ q5_0 q5_1 q5_2 l5_ q7_0 q7_1 q7_2 l7_ q11_0 q11_1 q11_2 l11_
          clear y0_0 y0_1 y0_2 y2_0 y2_1 y2_2 y5_0 y5_1 y5_2 y7_0 y7_1 y7_2 y11_0 y11_1 y11_2 yl0 yl2 yl5 yl7 yl11
          replace hH : Held w wp [aB (wn1.heap.size) 24 [.int .i64 k, .int .i64 p, .int .i64 n], aT (.agg #[.slice (some ⟨bL, 0, none⟩) L.length tc1, .slice (some ⟨bD, 0, none⟩) L.length tc2, .slice tp3 (flat xs).length tc3]) L (L.map dimOf) (flat xs), aB (wn3.heap.size) 31 [.slice (some ⟨bL, 0, none⟩) L.length tc1, .slice (some ⟨bD, 0, none⟩) L.length tc2, .slice tp3 (flat xs).length tc3], aTs vl2 (cs ++ [(.slice sp1 sn1 sc1, .slice sp2 sn2 sc2, .slice sp3 sn3 sc3)]) (slTs HR.out dimOf L x xs (v + 1)), aT (.agg #[.slice p1 n1 c1, .slice p2 n2 c2, .slice p3 n3 c3]) M (M.map dimOf) (flat (accXs HR.out dimOf L x v xs)), aB qs21 31 [.slice p1 n1 c1, .slice p2 n2 c2, .slice p3 n3 c3], emp, aB (wn9.heap.size) 31 [.slice sp1 sn1 sc1, .slice sp2 sn2 sc2, .slice sp3 sn3 sc3], aI (.slice (some ⟨wn9.heap.size + 1, 0, none⟩) 2 2) [x, 77], aI (.slice (some ⟨wn9.heap.size + 1 + 1, 0, none⟩) 2 2) [(v : Int), 5], aT (.agg #[.slice fp1 fn1 fc1, .slice fp2 fn2 fc2, .slice fp3 fn3 fc3]) M (M.map dimOf) (flat (cutXs HR.out dimOf L x (fun _ => (v : Int)) xs)), aB (wn13.heap.size) 31 [.slice fp1 fn1 fc1, .slice fp2 fn2 fc2, .slice fp3 fn3 fc3]] := by rw [← slTs_snoc, HMM.out]; exact hHp
          clear hHp
          have hcl : cs.length = v := by have h : OwnTs _ _ _ _ := hH.get (k := 3) rfl; have h := h.len; rw [slTs_len] at h; simpa using h
          have hsel : TenS wp (.agg #[.slice sp1 sn1 sc1, .slice sp2 sn2 sc2, .slice sp3 sn3 sc3]) M (M.map dimOf) (flat (cutXs HR.out dimOf L x (fun _ => (v : Int)) xs)) := by
            have h : OwnTs _ _ _ _ := hH.get (k := 3) rfl
            obtain ⟨g1, g2, g3⟩ := h.elem v _ _ (by rw [List.getElem?_append_right (by omega), hcl, Nat.sub_self]; rfl) (show (slTs HR.out dimOf L x xs (v + 1))[v]? = some (M, M.map dimOf, flat (cutXs HR.out dimOf L x (fun _ => (v : Int)) xs)) by rw [← slTs_snoc, List.getElem?_append_right (by rw [slTs_len]; omega), slTs_len, Nat.sub_self, HMM.out]; rfl)
            exact ⟨_, _, _, rfl, g1.ints, g2.ints, g3.ints⟩
          have HTA : Hid (IsT k p n dimOf U6 M (accXs HR.out dimOf L x v xs)) := Lib.hid (by have h := accXs_isT HR.out HT.out x v; rw [HMM.out] at h; exact h)
          have HTC : Hid (IsT k p n dimOf U6 M (cutXs HR.out dimOf L x (fun _ => (v : Int)) xs)) := Lib.hid (by have h := cutXs_isT HR.out HT.out x (fun _ => (v : Int)); rw [HMM.out] at h; exact h)
          have hstep := accXs_step HR.out HT.out x v
          rw [HMM.out] at hstep
          have HST := Lib.hid hstep; clear hstep hcl
          refine (addTensors_any HR.out HTA.out HTC.out (List.Perm.refl _) _ _ _ (hH.tens (k := 4) rfl) hsel).mono ?_; rintro e20 wn16 ⟨va, rfl, oa, hwa⟩
          rw [HST.out] at oa
          clear hsel
          obtain ⟨b1, m1, f1, b2, m2, f2, b3, m3, f3, rfl⟩ := oa.shape
          replace hH : Held w wn16 [aB (wn1.heap.size) 24 [.int .i64 k, .int .i64 p, .int .i64 n], aT (.agg #[.slice (some ⟨bL, 0, none⟩) L.length tc1, .slice (some ⟨bD, 0, none⟩) L.length tc2, .slice tp3 (flat xs).length tc3]) L (L.map dimOf) (flat xs), aB (wn3.heap.size) 31 [.slice (some ⟨bL, 0, none⟩) L.length tc1, .slice (some ⟨bD, 0, none⟩) L.length tc2, .slice tp3 (flat xs).length tc3], aTs vl2 (cs ++ [(.slice sp1 sn1 sc1, .slice sp2 sn2 sc2, .slice sp3 sn3 sc3)]) (slTs HR.out dimOf L x xs (v + 1)), aT (.agg #[.slice b1 m1 f1, .slice b2 m2 f2, .slice b3 m3 f3]) M (M.map dimOf) (flat (accXs HR.out dimOf L x (v + 1) xs)), aB qs21 31 [.slice p1 n1 c1, .slice p2 n2 c2, .slice p3 n3 c3], emp, aB (wn9.heap.size) 31 [.slice sp1 sn1 sc1, .slice sp2 sn2 sc2, .slice sp3 sn3 sc3], aI (.slice (some ⟨wn9.heap.size + 1, 0, none⟩) 2 2) [x, 77], aI (.slice (some ⟨wn9.heap.size + 1 + 1, 0, none⟩) 2 2) [(v : Int), 5], aT (.agg #[.slice fp1 fn1 fc1, .slice fp2 fn2 fc2, .slice fp3 fn3 fc3]) M (M.map dimOf) (flat (cutXs HR.out dimOf L x (fun _ => (v : Int)) xs)), aB (wn13.heap.size) 31 [.slice fp1 fn1 fc1, .slice fp2 fn2 fc2, .slice fp3 fn3 fc3]] := hH.addT 4 hwa oa (Nat.le_refl _)
          clear hwa oa
          have q0_0 := (hH.blk (k := 0) rfl).cell (j := 0) rfl
          have q0_1 := (hH.blk (k := 0) rfl).cell (j := 1) rfl
          have q0_2 := (hH.blk (k := 0) rfl).cell (j := 2) rfl
          have l0_ := (hH.blk (k := 0) rfl).lt
          have q2_0 := (hH.blk (k := 2) rfl).cell (j := 0) rfl
          have q2_1 := (hH.blk (k := 2) rfl).cell (j := 1) rfl
          have q2_2 := (hH.blk (k := 2) rfl).cell (j := 2) rfl
          have l2_ := (hH.blk (k := 2) rfl).lt
          have q5_0 := (hH.blk (k := 5) rfl).cell (j := 0) rfl
          have f5_0 := (hH.blk (k := 5) rfl).free 0
          have q5_1 := (hH.blk (k := 5) rfl).cell (j := 1) rfl
          have f5_1 := (hH.blk (k := 5) rfl).free 1
          have q5_2 := (hH.blk (k := 5) rfl).cell (j := 2) rfl
          have f5_2 := (hH.blk (k := 5) rfl).free 2
          have l5_ := (hH.blk (k := 5) rfl).lt
          have q7_0 := (hH.blk (k := 7) rfl).cell (j := 0) rfl
          have q7_1 := (hH.blk (k := 7) rfl).cell (j := 1) rfl
          have q7_2 := (hH.blk (k := 7) rfl).cell (j := 2) rfl
          have l7_ := (hH.blk (k := 7) rfl).lt
          have q11_0 := (hH.blk (k := 11) rfl).cell (j := 0) rfl
          have q11_1 := (hH.blk (k := 11) rfl).cell (j := 1) rfl
          have q11_2 := (hH.blk (k := 11) rfl).cell (j := 2) rfl
          have l11_ := (hH.blk (k := 11) rfl).lt
          go_wp2_with fail
          clear q0_0 q0_1 q0_2 l0_ q2_0 q2_1 q2_2 l2_ q5_0 f5_0 q5_1 f5_1 q5_2 f5_2 l5_ q7_0 q7_1 q7_2 l7_ q11_0 q11_1 q11_2 l11_
          have hHz := hH.setB3' (k := 5) rfl (.slice b1 m1 f1) (.slice b2 m2 f2) (.slice b3 m3 f3)
          go_roundw
          case rel => exact ⟨v + 1, _, _, _, _, by omega, by go_num, hHz.sub (.cons_cons _ (.cons_cons _ (.cons_cons _ (.cons_cons _ (.cons_cons _ (.cons_cons _ (.cons _ (.cons _ (.cons _ (.cons _ (.cons _ (.cons _ .slnil))))))))))))⟩
          case measure => simp [RowKit.intOf]; omega
        · skip
          have hve : v = d := by omega
          subst hve
          have q0_0 := (hH.blk (k := 0) rfl).cell (j := 0) rfl
          have q0_1 := (hH.blk (k := 0) rfl).cell (j := 1) rfl
          have q0_2 := (hH.blk (k := 0) rfl).cell (j := 2) rfl
          have l0_ := (hH.blk (k := 0) rfl).lt
          have q2_0 := (hH.blk (k := 2) rfl).cell (j := 0) rfl
          have q2_1 := (hH.blk (k := 2) rfl).cell (j := 1) rfl
          have q2_2 := (hH.blk (k := 2) rfl).cell (j := 2) rfl
          have l2_ := (hH.blk (k := 2) rfl).lt
          have q5_0 := (hH.blk (k := 5) rfl).cell (j := 0) rfl
          have q5_1 := (hH.blk (k := 5) rfl).cell (j := 1) rfl
          have q5_2 := (hH.blk (k := 5) rfl).cell (j := 2) rfl
          have l5_ := (hH.blk (k := 5) rfl).lt
          go_wp2_with fail
          clear q0_0 q0_1 q0_2 l0_ q2_0 q2_1 q2_2 l2_ q5_0 q5_1 q5_2 l5_
          clear hcD
          have hst := stack_law HR.out HT.out HXL.out HD.out
          rw [HMM.out] at hst
          have HSK := Lib.hid hst; clear hst
          have hpm := cut_perm HT.out.sub.nodup HXL.out
          rw [HMM.out] at hpm
          have HPM := Lib.hid hpm; clear hpm
          have SMX : Hid (Sub U6 (M ++ [x])) := Lib.hid (HT.out.sub.perm HPM.out)
          refine (stackTensors_any HR.out (dm := dimOf) (U := U6) (L := M) (xss := slXs HR.out dimOf L x xs v) (by have h := slXs_isT HR.out HT.out x v; rw [HMM.out] at h; exact h) (by rw [slXs_len]; omega) (by rw [slXs_len]; omega) x SMX.out (by rw [slXs_len]; exact HD.out) _ _ ((hH.tensS (k := 3) rfl).congr (by unfold slTs; rw [HMM.out]))).mono ?_; rintro ewn17 wn17 ⟨vc, rfl, oc, hwn17⟩
          rw [HSK.out] at oc
          obtain ⟨up1, un1, uc1, up2, un2, uc2, up3, un3, uc3, rfl⟩ := oc.shape
          replace hH : Held w wn17 [aB (wn1.heap.size) 24 [.int .i64 k, .int .i64 p, .int .i64 n], aT (.agg #[.slice (some ⟨bL, 0, none⟩) L.length tc1, .slice (some ⟨bD, 0, none⟩) L.length tc2, .slice tp3 (flat xs).length tc3]) L (L.map dimOf) (flat xs), aB (wn3.heap.size) 31 [.slice (some ⟨bL, 0, none⟩) L.length tc1, .slice (some ⟨bD, 0, none⟩) L.length tc2, .slice tp3 (flat xs).length tc3], aTs (.slice av (slTs HR.out dimOf L x xs v).length cv) cs (slTs HR.out dimOf L x xs v), aT (.agg #[.slice p1 n1 c1, .slice p2 n2 c2, .slice p3 n3 c3]) M (M.map dimOf) (flat (accXs HR.out dimOf L x v xs)), aB qs21 31 [.slice p1 n1 c1, .slice p2 n2 c2, .slice p3 n3 c3], aT (.agg #[.slice up1 un1 uc1, .slice up2 un2 uc2, .slice up3 un3 uc3]) (M ++ [x]) ((M ++ [x]).map dimOf) (flat (permXs HR.out dimOf L (M ++ [x]) xs))] := (hH.mores 1).addT 6 hwn17 oc (Nat.le_refl _)
          clear hwn17
          have q0_0 := (hH.blk (k := 0) rfl).cell (j := 0) rfl
          have q0_1 := (hH.blk (k := 0) rfl).cell (j := 1) rfl
          have q0_2 := (hH.blk (k := 0) rfl).cell (j := 2) rfl
          have l0_ := (hH.blk (k := 0) rfl).lt
          have q2_0 := (hH.blk (k := 2) rfl).cell (j := 0) rfl
          have q2_1 := (hH.blk (k := 2) rfl).cell (j := 1) rfl
          have q2_2 := (hH.blk (k := 2) rfl).cell (j := 2) rfl
          have l2_ := (hH.blk (k := 2) rfl).lt
          have q5_0 := (hH.blk (k := 5) rfl).cell (j := 0) rfl
          have q5_1 := (hH.blk (k := 5) rfl).cell (j := 1) rfl
          have q5_2 := (hH.blk (k := 5) rfl).cell (j := 2) rfl
          have l5_ := (hH.blk (k := 5) rfl).lt
          go_wp2_with fail
          clear q0_0 q0_1 q0_2 l0_ q2_0 q2_1 q2_2 l2_ q5_0 q5_1 q5_2 l5_
          have hB : Held w (wn17.alloc (.cells #[.slice up1 un1 uc1, .slice up2 un2 uc2, .slice up3 un3 uc3] 31)) [aB (wn1.heap.size) 24 [.int .i64 k, .int .i64 p, .int .i64 n], aT (.agg #[.slice (some ⟨bL, 0, none⟩) L.length tc1, .slice (some ⟨bD, 0, none⟩) L.length tc2, .slice tp3 (flat xs).length tc3]) L (L.map dimOf) (flat xs), aB (wn3.heap.size) 31 [.slice (some ⟨bL, 0, none⟩) L.length tc1, .slice (some ⟨bD, 0, none⟩) L.length tc2, .slice tp3 (flat xs).length tc3], aTs (.slice av (slTs HR.out dimOf L x xs v).length cv) cs (slTs HR.out dimOf L x xs v), aT (.agg #[.slice p1 n1 c1, .slice p2 n2 c2, .slice p3 n3 c3]) M (M.map dimOf) (flat (accXs HR.out dimOf L x v xs)), aB qs21 31 [.slice p1 n1 c1, .slice p2 n2 c2, .slice p3 n3 c3], aT (.agg #[.slice up1 un1 uc1, .slice up2 un2 uc2, .slice up3 un3 uc3]) (M ++ [x]) ((M ++ [x]).map dimOf) (flat (permXs HR.out dimOf L (M ++ [x]) xs)), aB (wn17.heap.size) 31 [.slice up1 un1 uc1, .slice up2 un2 uc2, .slice up3 un3 uc3]] := by
            have h := (hH.mores 1).addB 7 #[.slice up1 un1 uc1, .slice up2 un2 uc2, .slice up3 un3 uc3] 31
            exact h
          have hsz : (wn17.alloc (.cells #[.slice up1 un1 uc1, .slice up2 un2 uc2, .slice up3 un3 uc3] 31)).heap.size = wn17.heap.size + 1 := by simp
          generalize wn17.alloc (.cells #[.slice up1 un1 uc1, .slice up2 un2 uc2, .slice up3 un3 uc3] 31) = wn18 at hB hsz ⊢
          replace hH := hB; have HSZwn18 := Lib.hid hsz; clear hB hsz
          replace hH : Held w wn18 [aB (wn1.heap.size) 24 [.int .i64 k, .int .i64 p, .int .i64 n], aT (.agg #[.slice (some ⟨bL, 0, none⟩) L.length tc1, .slice (some ⟨bD, 0, none⟩) L.length tc2, .slice tp3 (flat xs).length tc3]) L (L.map dimOf) (flat xs), aB (wn3.heap.size) 31 [.slice (some ⟨bL, 0, none⟩) L.length tc1, .slice (some ⟨bD, 0, none⟩) L.length tc2, .slice tp3 (flat xs).length tc3], aT (.agg #[.slice p1 n1 c1, .slice p2 n2 c2, .slice p3 n3 c3]) M (M.map dimOf) (flat (accXs HR.out dimOf L x v xs)), aB qs21 31 [.slice p1 n1 c1, .slice p2 n2 c2, .slice p3 n3 c3], aT (.agg #[.slice up1 un1 uc1, .slice up2 un2 uc2, .slice up3 un3 uc3]) (M ++ [x]) ((M ++ [x]).map dimOf) (flat (permXs HR.out dimOf L (M ++ [x]) xs)), aB (wn17.heap.size) 31 [.slice up1 un1 uc1, .slice up2 un2 uc2, .slice up3 un3 uc3]] := hH.sub (.cons_cons _ (.cons_cons _ (.cons_cons _ (.cons _ (.cons_cons _ (.cons_cons _ (.cons_cons _ (.cons_cons _ .slnil))))))))
          have HTU : Hid (IsT k p n dimOf U6 (M ++ [x]) (permXs HR.out dimOf L (M ++ [x]) xs)) := Lib.hid (perm_isT HR.out HT.out HPM.out)
          have hKi : (0 : Int) ≤ (K : Int) := Int.natCast_nonneg K
          have hKl : (K : Int) < (L.length : Int) := by omega
          replace hH := hH.mores 1
          replace hH : Held w wn18 [aB (wn1.heap.size) 24 [.int .i64 k, .int .i64 p, .int .i64 n], aT (.agg #[.slice (some ⟨bL, 0, none⟩) L.length tc1, .slice (some ⟨bD, 0, none⟩) L.length tc2, .slice tp3 (flat xs).length tc3]) L (L.map dimOf) (flat xs), aB (wn3.heap.size) 31 [.slice (some ⟨bL, 0, none⟩) L.length tc1, .slice (some ⟨bD, 0, none⟩) L.length tc2, .slice tp3 (flat xs).length tc3], aT (.agg #[.slice p1 n1 c1, .slice p2 n2 c2, .slice p3 n3 c3]) M (M.map dimOf) (flat (accXs HR.out dimOf L x v xs)), aB qs21 31 [.slice p1 n1 c1, .slice p2 n2 c2, .slice p3 n3 c3], aT (.agg #[.slice up1 un1 uc1, .slice up2 un2 uc2, .slice up3 un3 uc3]) (M ++ [x]) ((M ++ [x]).map dimOf) (flat (permXs HR.out dimOf L (M ++ [x]) xs)), aB (wn17.heap.size) 31 [.slice up1 un1 uc1, .slice up2 un2 uc2, .slice up3 un3 uc3], emp] := hH
          refine wp_region_steps ?Fb (fun b t wx => Held w wx [aB (wn1.heap.size) 24 [.int .i64 k, .int .i64 p, .int .i64 n], aT (.agg #[.slice (some ⟨bL, 0, none⟩) L.length tc1, .slice (some ⟨bD, 0, none⟩) L.length tc2, .slice tp3 (flat xs).length tc3]) L (L.map dimOf) (flat xs), aB (wn3.heap.size) 31 [.slice (some ⟨bL, 0, none⟩) L.length tc1, .slice (some ⟨bD, 0, none⟩) L.length tc2, .slice tp3 (flat xs).length tc3], aT (.agg #[.slice p1 n1 c1, .slice p2 n2 c2, .slice p3 n3 c3]) M (M.map dimOf) (flat (accXs HR.out dimOf L x v xs)), aB qs21 31 [.slice p1 n1 c1, .slice p2 n2 c2, .slice p3 n3 c3], aT (.agg #[.slice up1 un1 uc1, .slice up2 un2 uc2, .slice up3 un3 uc3]) (M ++ [x]) ((M ++ [x]).map dimOf) (flat (permXs HR.out dimOf L (M ++ [x]) xs)), aB (wn17.heap.size) 31 [.slice up1 un1 uc1, .slice up2 un2 uc2, .slice up3 un3 uc3], (bif b 13 then aB (blkOf (t 12)) 31 (partsOf (t 10)) else (bif b 12 then aB (blkOf (t 12)) 31 [.slice none 0 0, .slice none 0 0, .slice none 0 0] else emp))] ∧ (b 0 = true → t 0 = .agg #[.int .i64 k, .int .i64 p, .int .i64 n]) ∧ (b 1 = true → t 1 = .agg #[.slice (some ⟨bL, 0, none⟩) L.length tc1, .slice (some ⟨bD, 0, none⟩) L.length tc2, .slice tp3 (flat xs).length tc3]) ∧ (b 2 = true → t 2 = .int .i64 x) ∧ (b 3 = true → t 3 = .pointer (some ⟨wn3.heap.size, 1, none⟩)) ∧ (b 4 = true → t 4 = .slice (some ⟨bD, 0, none⟩) L.length tc2) ∧ (b 5 = true → t 5 = .int .i64 (K : Int)) ∧ (b 6 = true → t 6 = .pointer (some ⟨bD, K, none⟩)) ∧ (b 7 = true → t 7 = .int .i64 (v : Int)) ∧ (b 8 = true → t 8 = .tuple #[.agg #[.slice none 0 0, .slice none 0 0, .slice none 0 0], .bool false]) ∧ (b 9 = true → t 9 = .tuple #[.agg #[.slice none 0 0, .slice none 0 0, .slice none 0 0], .bool false]) ∧ (b 10 = true → t 10 = .agg #[.slice none 0 0, .slice none 0 0, .slice none 0 0]) ∧ (b 11 = true → t 11 = .bool false) ∧ (b 12 = true → ∃ q, t 12 = .pointer (some ⟨q, 0, none⟩)) ∧ (b 14 = true → t 14 = .bool false)) ?hFb (by kernel_rfl) (by kernel_rfl) ?hJb ?hSb ?hEb
          (case hFb => intro t; simp only [putAll, Act.put, List.setIfInBounds_toArray, List.set_cons_zero, List.set_cons_succ, Nat.reduceAdd, Nat.zero_add]; exact rfl)
          case hJb => exact ⟨hH.grow ((Ext.refl _).drew), fun h => absurd h Bool.false_ne_true, fun h => absurd h Bool.false_ne_true, fun h => absurd h Bool.false_ne_true, fun h => absurd h Bool.false_ne_true, fun h => absurd h Bool.false_ne_true, fun h => absurd h Bool.false_ne_true, fun h => absurd h Bool.false_ne_true, fun h => absurd h Bool.false_ne_true, fun h => absurd h Bool.false_ne_true, fun h => absurd h Bool.false_ne_true, fun h => absurd h Bool.false_ne_true, fun h => absurd h Bool.false_ne_true, fun h => absurd h Bool.false_ne_true, fun h => absurd h Bool.false_ne_true⟩
          case hSb =>
            as_aux_lemma =>
              refine AllSteps.cons (j := 1) rfl (fun b t wx hJ hb hd hcl Kc hK => ?_) ?_
              · obtain ⟨hH, v0, v1, v2, v3, v4, v5, v6, v7, v8, v9, v10, v11, v12, v14⟩ := hJ
                have q0_0 := (hH.blk (k := 0) rfl).cell (j := 0) rfl
                have q0_1 := (hH.blk (k := 0) rfl).cell (j := 1) rfl
                have q0_2 := (hH.blk (k := 0) rfl).cell (j := 2) rfl
                go_simp
                refine hK.out _ ?_ _ ?_ ?_; rotate_left 2
                · rfl
                exact ⟨hH, fun _ => rfl, v1, v2, v3, v4, v5, v6, v7, v8, v9, v10, v11, v12, v14⟩
              refine AllSteps.cons (j := 2) rfl (fun b t wx hJ hb hd hcl Kc hK => ?_) ?_
              · obtain ⟨hH, v0, v1, v2, v3, v4, v5, v6, v7, v8, v9, v10, v11, v12, v14⟩ := hJ
                have q2_0 := (hH.blk (k := 2) rfl).cell (j := 0) rfl
                have q2_1 := (hH.blk (k := 2) rfl).cell (j := 1) rfl
                have q2_2 := (hH.blk (k := 2) rfl).cell (j := 2) rfl
                go_simp
                refine hK.out _ ?_ _ ?_ ?_; rotate_left 2
                · rfl
                exact ⟨hH, v0, fun _ => rfl, v2, v3, v4, v5, v6, v7, v8, v9, v10, v11, v12, v14⟩
              refine AllSteps.cons (j := 3) rfl (fun b t wx hJ hb hd hcl Kc hK => ?_) ?_
              · obtain ⟨hH, v0, v1, v2, v3, v4, v5, v6, v7, v8, v9, v10, v11, v12, v14⟩ := hJ
                go_simp
                refine hK.out _ ?_ _ ?_ ?_; rotate_left 2
                · rfl
                exact ⟨hH, v0, v1, fun _ => rfl, v3, v4, v5, v6, v7, v8, v9, v10, v11, v12, v14⟩
              refine AllSteps.cons (j := 4) rfl (fun b t wx hJ hb hd hcl Kc hK => ?_) ?_
              · obtain ⟨hH, v0, v1, v2, v3, v4, v5, v6, v7, v8, v9, v10, v11, v12, v14⟩ := hJ
                go_simp
                refine hK.out _ ?_ _ ?_ ?_; rotate_left 2
                · rfl
                exact ⟨hH, v0, v1, v2, fun _ => rfl, v4, v5, v6, v7, v8, v9, v10, v11, v12, v14⟩
              refine AllSteps.cons (j := 5) rfl (fun b t wx hJ hb hd hcl Kc hK => ?_) ?_
              · obtain ⟨hH, v0, v1, v2, v3, v4, v5, v6, v7, v8, v9, v10, v11, v12, v14⟩ := hJ
                have d3 : b 3 = true := hd.out 3 (by kernel_rfl)
                have r3 := v3 d3
                have q2_1 := (hH.blk (k := 2) rfl).cell (j := 1) rfl
                go_simp
                refine hK.out _ ?_ _ ?_ ?_; rotate_left 2
                · (try simp only [r3]); rfl
                exact ⟨hH, v0, v1, v2, v3, fun _ => rfl, v5, v6, v7, v8, v9, v10, v11, v12, v14⟩
              refine AllSteps.cons (j := 6) rfl (fun b t wx hJ hb hd hcl Kc hK => ?_) ?_
              · obtain ⟨hH, v0, v1, v2, v3, v4, v5, v6, v7, v8, v9, v10, v11, v12, v14⟩ := hJ
                go_simp
                refine hK.out _ ?_ _ ?_ ?_; rotate_left 2
                · rfl
                exact ⟨hH, v0, v1, v2, v3, v4, fun _ => rfl, v6, v7, v8, v9, v10, v11, v12, v14⟩
              refine AllSteps.cons (j := 7) rfl (fun b t wx hJ hb hd hcl Kc hK => ?_) ?_
              · obtain ⟨hH, v0, v1, v2, v3, v4, v5, v6, v7, v8, v9, v10, v11, v12, v14⟩ := hJ
                have d4 : b 4 = true := hd.out 4 (by kernel_rfl)
                have d5 : b 5 = true := hd.out 5 (by kernel_rfl)
                have r4 := v4 d4
                have r5 := v5 d5
                go_simp
                refine hK.out _ ?_ _ ?_ ?_; rotate_left 2
                · (try simp only [r4, r5]); rfl
                exact ⟨hH, v0, v1, v2, v3, v4, v5, fun _ => rfl, v7, v8, v9, v10, v11, v12, v14⟩
              refine AllSteps.cons (j := 8) rfl (fun b t wx hJ hb hd hcl Kc hK => ?_) ?_
              · obtain ⟨hH, v0, v1, v2, v3, v4, v5, v6, v7, v8, v9, v10, v11, v12, v14⟩ := hJ
                have d6 : b 6 = true := hd.out 6 (by kernel_rfl)
                have r6 := v6 d6
                have hcD := ((hH.parts (k := 1) rfl).2.1.cell HDK.out).1
                go_simp
                refine hK.out _ ?_ _ ?_ ?_; rotate_left 2
                · (try simp only [r6]); rfl
                exact ⟨hH, v0, v1, v2, v3, v4, v5, v6, fun _ => rfl, v8, v9, v10, v11, v12, v14⟩
              refine AllSteps.cons (j := 9) rfl (fun b t wx hJ hb hd hcl Kc hK => ?_) ?_
              · obtain ⟨hH, v0, v1, v2, v3, v4, v5, v6, v7, v8, v9, v10, v11, v12, v14⟩ := hJ
                have d0 : b 0 = true := hd.out 0 (by kernel_rfl)
                have d1 : b 1 = true := hd.out 1 (by kernel_rfl)
                have d2 : b 2 = true := hd.out 2 (by kernel_rfl)
                have d7 : b 7 = true := hd.out 7 (by kernel_rfl)
                have r0 := v0 d0
                have r1 := v1 d1
                have r2 := v2 d2
                have r7 := v7 d7
                go_simp
                go_at_call 38
                refine (sliceTensor_big HR.out HT.out x (v : Int) HXL.out (Int.natCast_nonneg v) (by rw [HD.out]; exact Int.le_refl _) _ _ (hH.tens (k := 1) rfl)).mono ?_; rintro e8 w8 ⟨rfl, h8⟩
                (try go_simp)
                refine hK.out _ ?_ _ ?_ ?_; rotate_left 2
                · (try simp only [r0, r1, r2, r7]); rfl
                exact ⟨by have hX := hH.grow h8; (try simp only [List.set_cons_zero, List.set_cons_succ] at hX); simpa only [updB, updV, blkOf_mk, tup0_mk, partsOf3, Nat.reduceBEq, cond_true, cond_false, hb, d0, d1, d2, d7, r0, r1, r2, r7] using hX, v0, v1, v2, v3, v4, v5, v6, v7, fun _ => rfl, v9, v10, v11, v12, v14⟩
              refine AllSteps.cons (j := 10) rfl (fun b t wx hJ hb hd hcl Kc hK => ?_) ?_
              · obtain ⟨hH, v0, v1, v2, v3, v4, v5, v6, v7, v8, v9, v10, v11, v12, v14⟩ := hJ
                have d8 : b 8 = true := hd.out 8 (by kernel_rfl)
                have r8 := v8 d8
                go_simp
                refine hK.out _ ?_ _ ?_ ?_; rotate_left 2
                · (try simp only [r8]); rfl
                exact ⟨hH, v0, v1, v2, v3, v4, v5, v6, v7, v8, fun _ => rfl, v10, v11, v12, v14⟩
              refine AllSteps.cons (j := 11) rfl (fun b t wx hJ hb hd hcl Kc hK => ?_) ?_
              · obtain ⟨hH, v0, v1, v2, v3, v4, v5, v6, v7, v8, v9, v10, v11, v12, v14⟩ := hJ
                have d9 : b 9 = true := hd.out 9 (by kernel_rfl)
                have n13 : b 13 = false := Bool.eq_false_iff.2 fun h => absurd (hcl.out 13 10 (by kernel_rfl) (h)) (by rw [hb]; exact Bool.false_ne_true)
                have r9 := v9 d9
                have hN := hH; (try simp only [hb, d9, n13, cond_true, cond_false] at hN)
                go_simp
                refine hK.out _ ?_ _ ?_ ?_; rotate_left 2
                · (try simp only [r9]); rfl
                exact ⟨by have hX := hN; (try simp only [List.set_cons_zero, List.set_cons_succ] at hX); simpa only [updB, updV, blkOf_mk, tup0_mk, partsOf3, Nat.reduceBEq, cond_true, cond_false, hb, d9, n13, r9] using hX, v0, v1, v2, v3, v4, v5, v6, v7, v8, v9, fun _ => rfl, v11, v12, v14⟩
              refine AllSteps.cons (j := 12) rfl (fun b t wx hJ hb hd hcl Kc hK => ?_) ?_
              · obtain ⟨hH, v0, v1, v2, v3, v4, v5, v6, v7, v8, v9, v10, v11, v12, v14⟩ := hJ
                have d9 : b 9 = true := hd.out 9 (by kernel_rfl)
                have r9 := v9 d9
                go_simp
                refine hK.out _ ?_ _ ?_ ?_; rotate_left 2
                · (try simp only [r9]); rfl
                exact ⟨hH, v0, v1, v2, v3, v4, v5, v6, v7, v8, v9, v10, fun _ => rfl, v12, v14⟩
              refine AllSteps.cons (j := 13) rfl (fun b t wx hJ hb hd hcl Kc hK => ?_) ?_
              · obtain ⟨hH, v0, v1, v2, v3, v4, v5, v6, v7, v8, v9, v10, v11, v12, v14⟩ := hJ
                have n13 : b 13 = false := Bool.eq_false_iff.2 fun h => absurd (hcl.out 13 12 (by kernel_rfl) (h)) (by rw [hb]; exact Bool.false_ne_true)
                have hN := hH; (try simp only [hb, n13, cond_true, cond_false] at hN)
                go_simp
                refine hK.out _ ?_ _ ?_ ?_; rotate_left 2
                · rfl
                exact ⟨by have hX := hN.addB 7 #[.slice none 0 0, .slice none 0 0, .slice none 0 0] 31; (try simp only [List.set_cons_zero, List.set_cons_succ] at hX); simpa only [updB, updV, blkOf_mk, tup0_mk, partsOf3, Nat.reduceBEq, cond_true, cond_false, hb, n13] using hX, v0, v1, v2, v3, v4, v5, v6, v7, v8, v9, v10, v11, fun _ => ⟨_, rfl⟩, v14⟩
              refine AllSteps.cons (j := 14) rfl (fun b t wx hJ hb hd hcl Kc hK => ?_) ?_
              · obtain ⟨hH, v0, v1, v2, v3, v4, v5, v6, v7, v8, v9, v10, v11, v12, v14⟩ := hJ
                have d0 : b 0 = true := hd.out 0 (by kernel_rfl)
                have d1 : b 1 = true := hd.out 1 (by kernel_rfl)
                have d2 : b 2 = true := hd.out 2 (by kernel_rfl)
                have d3 : b 3 = true := hd.out 3 (by kernel_rfl)
                have d4 : b 4 = true := hd.out 4 (by kernel_rfl)
                have d5 : b 5 = true := hd.out 5 (by kernel_rfl)
                have d6 : b 6 = true := hd.out 6 (by kernel_rfl)
                have d7 : b 7 = true := hd.out 7 (by kernel_rfl)
                have d8 : b 8 = true := hd.out 8 (by kernel_rfl)
                have d9 : b 9 = true := hd.out 9 (by kernel_rfl)
                have d10 : b 10 = true := hd.out 10 (by kernel_rfl)
                have d12 : b 12 = true := hd.out 12 (by kernel_rfl)
                have r0 := v0 d0
                have r1 := v1 d1
                have r2 := v2 d2
                have r3 := v3 d3
                have r4 := v4 d4
                have r5 := v5 d5
                have r6 := v6 d6
                have r7 := v7 d7
                have r8 := v8 d8
                have r9 := v9 d9
                have r10 := v10 d10
                have r12 := v12 d12
                obtain ⟨q_12, r12⟩ := r12
                have hN := hH; (try simp only [hb, d0, d1, d2, d3, d4, d5, d6, d7, d8, d9, d10, d12, cond_true, cond_false] at hN)
                simp only [r12, r10, blkOf_mk, tup0_mk, partsOf3] at hN
                have B := hN.blk (k := 7) rfl
                have f0 := B.free 0; have z0 := B.cell (j := 0) rfl
                have f1 := B.free 1; have z1 := B.cell (j := 1) rfl
                have f2 := B.free 2; have z2 := B.cell (j := 2) rfl
                have lB := B.lt; have hmk0 := @tup0_mk
                go_simp
                refine hK.out _ undef _ ?_ ?_; rotate_left 1
                · (try simp only [r0, r1, r2, r3, r4, r5, r6, r7, r8, r9, r10, r12]); rfl
                exact ⟨by have hX := hN.setB3' (k := 7) rfl (.slice none 0 0) (.slice none 0 0) (.slice none 0 0); (try simp only [List.set_cons_zero, List.set_cons_succ] at hX); simpa only [updB, updV, blkOf_mk, tup0_mk, partsOf3, Nat.reduceBEq, cond_true, cond_false, hb, d0, d1, d2, d3, d4, d5, d6, d7, d8, d9, d10, d12, r0, r1, r2, r3, r4, r5, r6, r7, r8, r9, r10, r12] using hX, v0, v1, v2, v3, v4, v5, v6, v7, v8, v9, v10, v11, v12, v14⟩
              refine AllSteps.cons (j := 15) rfl (fun b t wx hJ hb hd hcl Kc hK => ?_) ?_
              · obtain ⟨hH, v0, v1, v2, v3, v4, v5, v6, v7, v8, v9, v10, v11, v12, v14⟩ := hJ
                have d0 : b 0 = true := hd.out 0 (by kernel_rfl)
                have d1 : b 1 = true := hd.out 1 (by kernel_rfl)
                have d2 : b 2 = true := hd.out 2 (by kernel_rfl)
                have d3 : b 3 = true := hd.out 3 (by kernel_rfl)
                have d4 : b 4 = true := hd.out 4 (by kernel_rfl)
                have d5 : b 5 = true := hd.out 5 (by kernel_rfl)
                have d6 : b 6 = true := hd.out 6 (by kernel_rfl)
                have d7 : b 7 = true := hd.out 7 (by kernel_rfl)
                have d8 : b 8 = true := hd.out 8 (by kernel_rfl)
                have d9 : b 9 = true := hd.out 9 (by kernel_rfl)
                have d10 : b 10 = true := hd.out 10 (by kernel_rfl)
                have d11 : b 11 = true := hd.out 11 (by kernel_rfl)
                have d12 : b 12 = true := hd.out 12 (by kernel_rfl)
                have d13 : b 13 = true := hd.out 13 (by kernel_rfl)
                have r0 := v0 d0
                have r1 := v1 d1
                have r2 := v2 d2
                have r3 := v3 d3
                have r4 := v4 d4
                have r5 := v5 d5
                have r6 := v6 d6
                have r7 := v7 d7
                have r8 := v8 d8
                have r9 := v9 d9
                have r10 := v10 d10
                have r11 := v11 d11
                have r12 := v12 d12
                obtain ⟨q_12, r12⟩ := r12
                go_simp
                refine hK.out _ ?_ _ ?_ ?_; rotate_left 2
                · (try simp only [r0, r1, r2, r3, r4, r5, r6, r7, r8, r9, r10, r11, r12]); rfl
                exact ⟨hH, v0, v1, v2, v3, v4, v5, v6, v7, v8, v9, v10, v11, v12, fun _ => rfl⟩
              exact AllSteps.nil
          case hEb =>
            intro b t wb hJ hall
            obtain ⟨hHb, v0, v1, v2, v3, v4, v5, v6, v7, v8, v9, v10, v11, v12, v14⟩ := hJ
            have a0 : b 0 = true := hall 0 (by decide)
            have a1 : b 1 = true := hall 1 (by decide)
            have a2 : b 2 = true := hall 2 (by decide)
            have a3 : b 3 = true := hall 3 (by decide)
            have a4 : b 4 = true := hall 4 (by decide)
            have a5 : b 5 = true := hall 5 (by decide)
            have a6 : b 6 = true := hall 6 (by decide)
            have a7 : b 7 = true := hall 7 (by decide)
            have a8 : b 8 = true := hall 8 (by decide)
            have a9 : b 9 = true := hall 9 (by decide)
            have a10 : b 10 = true := hall 10 (by decide)
            have a11 : b 11 = true := hall 11 (by decide)
            have a12 : b 12 = true := hall 12 (by decide)
            have a13 : b 13 = true := hall 13 (by decide)
            have a14 : b 14 = true := hall 14 (by decide)
            (try simp only [a0, a1, a2, a3, a4, a5, a6, a7, a8, a9, a10, a11, a12, a13, a14, cond_true] at hHb)
            replace v0 := v0 a0
            replace v1 := v1 a1
            replace v2 := v2 a2
            replace v3 := v3 a3
            replace v4 := v4 a4
            replace v5 := v5 a5
            replace v6 := v6 a6
            replace v7 := v7 a7
            replace v8 := v8 a8
            replace v9 := v9 a9
            replace v10 := v10 a10
            replace v11 := v11 a11
            replace v12 := v12 a12
            replace v14 := v14 a14
            clear hall a0 a1 a2 a3 a4 a5 a6 a7 a8 a9 a10 a11 a12 a13 a14
            generalize t 14 = x14 at hHb v14 ⊢
            generalize t 12 = x12 at hHb v12 ⊢
            generalize t 11 = x11 at hHb v11 ⊢
            generalize t 10 = x10 at hHb v10 ⊢
            generalize t 9 = x9 at hHb v9 ⊢
            generalize t 8 = x8 at hHb v8 ⊢
            generalize t 7 = x7 at hHb v7 ⊢
            generalize t 6 = x6 at hHb v6 ⊢
            generalize t 5 = x5 at hHb v5 ⊢
            generalize t 4 = x4 at hHb v4 ⊢
            generalize t 3 = x3 at hHb v3 ⊢
            generalize t 2 = x2 at hHb v2 ⊢
            generalize t 1 = x1 at hHb v1 ⊢
            generalize t 0 = x0 at hHb v0 ⊢
            subst v0
            subst v1
            subst v2
            subst v3
            subst v4
            subst v5
            subst v6
            subst v7
            subst v8
            subst v9
            subst v10
            subst v11
            obtain ⟨qb12, rfl⟩ := v12
            subst v14
            simp only [blkOf_mk, tup0_mk, partsOf3] at hHb
            clear b
            replace hH := hHb; clear hHb
            replace hH : Held w wb [aB (wn1.heap.size) 24 [.int .i64 k, .int .i64 p, .int .i64 n], aT (.agg #[.slice (some ⟨bL, 0, none⟩) L.length tc1, .slice (some ⟨bD, 0, none⟩) L.length tc2, .slice tp3 (flat xs).length tc3]) L (L.map dimOf) (flat xs), aB (wn3.heap.size) 31 [.slice (some ⟨bL, 0, none⟩) L.length tc1, .slice (some ⟨bD, 0, none⟩) L.length tc2, .slice tp3 (flat xs).length tc3], aT (.agg #[.slice p1 n1 c1, .slice p2 n2 c2, .slice p3 n3 c3]) M (M.map dimOf) (flat (accXs HR.out dimOf L x v xs)), aB qs21 31 [.slice p1 n1 c1, .slice p2 n2 c2, .slice p3 n3 c3], aT (.agg #[.slice up1 un1 uc1, .slice up2 un2 uc2, .slice up3 un3 uc3]) (M ++ [x]) ((M ++ [x]).map dimOf) (flat (permXs HR.out dimOf L (M ++ [x]) xs)), aB (wn17.heap.size) 31 [.slice up1 un1 uc1, .slice up2 un2 uc2, .slice up3 un3 uc3], aB qb12 31 [.slice none 0 0, .slice none 0 0, .slice none 0 0]] := hH
            replace hH : Held w wb [aB (wn1.heap.size) 24 [.int .i64 k, .int .i64 p, .int .i64 n], aT (.agg #[.slice (some ⟨bL, 0, none⟩) L.length tc1, .slice (some ⟨bD, 0, none⟩) L.length tc2, .slice tp3 (flat xs).length tc3]) L (L.map dimOf) (flat xs), aB (wn3.heap.size) 31 [.slice (some ⟨bL, 0, none⟩) L.length tc1, .slice (some ⟨bD, 0, none⟩) L.length tc2, .slice tp3 (flat xs).length tc3], aT (.agg #[.slice p1 n1 c1, .slice p2 n2 c2, .slice p3 n3 c3]) M (M.map dimOf) (flat (accXs HR.out dimOf L x v xs)), aB qs21 31 [.slice p1 n1 c1, .slice p2 n2 c2, .slice p3 n3 c3], aT (.agg #[.slice up1 un1 uc1, .slice up2 un2 uc2, .slice up3 un3 uc3]) (M ++ [x]) ((M ++ [x]).map dimOf) (flat (permXs HR.out dimOf L (M ++ [x]) xs)), aB (wn17.heap.size) 31 [.slice up1 un1 uc1, .slice up2 un2 uc2, .slice up3 un3 uc3]] := hH.sub (.cons_cons _ (.cons_cons _ (.cons_cons _ (.cons_cons _ (.cons_cons _ (.cons_cons _ (.cons_cons _ (.cons _ .slnil))))))))
            have hal := accXs_all HR.out HT.out HXL.out HD.out
            rw [HMM.out] at hal
            have HAL := Lib.hid hal; clear hal
            have hps := perm_sort HR.out HT.out HPM.out
            have HPS := Lib.hid hps; clear hps
            replace hH := hH.mores 2
            go_upto_region 23 with fail
            replace hH : Held w wb [aB (wn1.heap.size) 24 [.int .i64 k, .int .i64 p, .int .i64 n], aT (.agg #[.slice (some ⟨bL, 0, none⟩) L.length tc1, .slice (some ⟨bD, 0, none⟩) L.length tc2, .slice tp3 (flat xs).length tc3]) L (L.map dimOf) (flat xs), aB (wn3.heap.size) 31 [.slice (some ⟨bL, 0, none⟩) L.length tc1, .slice (some ⟨bD, 0, none⟩) L.length tc2, .slice tp3 (flat xs).length tc3], aT (.agg #[.slice p1 n1 c1, .slice p2 n2 c2, .slice p3 n3 c3]) M (M.map dimOf) (flat (accXs HR.out dimOf L x v xs)), aB qs21 31 [.slice p1 n1 c1, .slice p2 n2 c2, .slice p3 n3 c3], aT (.agg #[.slice up1 un1 uc1, .slice up2 un2 uc2, .slice up3 un3 uc3]) (M ++ [x]) ((M ++ [x]).map dimOf) (flat (permXs HR.out dimOf L (M ++ [x]) xs)), aB (wn17.heap.size) 31 [.slice up1 un1 uc1, .slice up2 un2 uc2, .slice up3 un3 uc3], emp, emp] := hH
            refine wp_region_steps ?Fz (fun b t wx => Held w wx [aB (wn1.heap.size) 24 [.int .i64 k, .int .i64 p, .int .i64 n], aT (.agg #[.slice (some ⟨bL, 0, none⟩) L.length tc1, .slice (some ⟨bD, 0, none⟩) L.length tc2, .slice tp3 (flat xs).length tc3]) L (L.map dimOf) (flat xs), aB (wn3.heap.size) 31 [.slice (some ⟨bL, 0, none⟩) L.length tc1, .slice (some ⟨bD, 0, none⟩) L.length tc2, .slice tp3 (flat xs).length tc3], aT (.agg #[.slice p1 n1 c1, .slice p2 n2 c2, .slice p3 n3 c3]) M (M.map dimOf) (flat (accXs HR.out dimOf L x v xs)), aB qs21 31 [.slice p1 n1 c1, .slice p2 n2 c2, .slice p3 n3 c3], aT (.agg #[.slice up1 un1 uc1, .slice up2 un2 uc2, .slice up3 un3 uc3]) (M ++ [x]) ((M ++ [x]).map dimOf) (flat (permXs HR.out dimOf L (M ++ [x]) xs)), aB (wn17.heap.size) 31 [.slice up1 un1 uc1, .slice up2 un2 uc2, .slice up3 un3 uc3], (bif b 21 then aI (t 21) M else emp), (bif b 22 then aT (t 22) M (M.map dimOf) (flat (sumXs HR.out dimOf L M xs)) else emp)] ∧ (b 0 = true → t 0 = .bool true) ∧ (b 1 = true → t 1 = .bool true) ∧ (b 2 = true → t 2 = .bool true) ∧ (b 3 = true → t 3 = .bool true) ∧ (b 4 = true → t 4 = .bool true) ∧ (b 5 = true → t 5 = .bool false) ∧ (b 6 = true → t 6 = .bool true) ∧ (b 7 = true → t 7 = .bool true) ∧ (b 8 = true → t 8 = .bool true) ∧ (b 9 = true → t 9 = .agg #[.int .i64 k, .int .i64 p, .int .i64 n]) ∧ (b 10 = true → t 10 = .agg #[.slice up1 un1 uc1, .slice up2 un2 uc2, .slice up3 un3 uc3]) ∧ (b 11 = true → t 11 = .agg #[.slice (some ⟨bL, 0, none⟩) L.length tc1, .slice (some ⟨bD, 0, none⟩) L.length tc2, .slice tp3 (flat xs).length tc3]) ∧ (b 12 = true → t 12 = .bool true) ∧ (b 13 = true → t 13 = .bool true) ∧ (b 14 = true → t 14 = .bool true) ∧ (b 15 = true → t 15 = .agg #[.slice p1 n1 c1, .slice p2 n2 c2, .slice p3 n3 c3]) ∧ (b 16 = true → t 16 = .agg #[.int .i64 k, .int .i64 p, .int .i64 n]) ∧ (b 17 = true → t 17 = .agg #[.slice (some ⟨bL, 0, none⟩) L.length tc1, .slice (some ⟨bD, 0, none⟩) L.length tc2, .slice tp3 (flat xs).length tc3]) ∧ (b 18 = true → t 18 = .pointer (some ⟨wn3.heap.size, 0, none⟩)) ∧ (b 19 = true → t 19 = .slice (some ⟨bL, 0, none⟩) L.length tc1) ∧ (b 20 = true → t 20 = .int .i64 x) ∧ (b 21 = true → ∃ x c, t 21 = .slice x M.length c) ∧ (b 22 = true → ∃ p1 n1 c1 p2 n2 c2 p3 n3 c3, t 22 = .agg #[.slice p1 n1 c1, .slice p2 n2 c2, .slice p3 n3 c3]) ∧ (b 23 = true → t 23 = .bool true) ∧ (b 24 = true → t 24 = .bool true) ∧ (b 25 = true → t 25 = .bool true)) ?hFz (by kernel_rfl) (by kernel_rfl) ?hJz ?hSz ?hEz
            (case hFz => intro t; simp only [putAll, Act.put, List.setIfInBounds_toArray, List.set_cons_zero, List.set_cons_succ, Nat.reduceAdd, Nat.zero_add]; exact rfl)
            case hJz => exact ⟨hH.grow ((Ext.refl _).drew), fun h => absurd h Bool.false_ne_true, fun h => absurd h Bool.false_ne_true, fun h => absurd h Bool.false_ne_true, fun h => absurd h Bool.false_ne_true, fun h => absurd h Bool.false_ne_true, fun h => absurd h Bool.false_ne_true, fun h => absurd h Bool.false_ne_true, fun h => absurd h Bool.false_ne_true, fun h => absurd h Bool.false_ne_true, fun h => absurd h Bool.false_ne_true, fun h => absurd h Bool.false_ne_true, fun h => absurd h Bool.false_ne_true, fun h => absurd h Bool.false_ne_true, fun h => absurd h Bool.false_ne_true, fun h => absurd h Bool.false_ne_true, fun h => absurd h Bool.false_ne_true, fun h => absurd h Bool.false_ne_true, fun h => absurd h Bool.false_ne_true, fun h => absurd h Bool.false_ne_true, fun h => absurd h Bool.false_ne_true, fun h => absurd h Bool.false_ne_true, fun h => absurd h Bool.false_ne_true, fun h => absurd h Bool.false_ne_true, fun h => absurd h Bool.false_ne_true, fun h => absurd h Bool.false_ne_true, fun h => absurd h Bool.false_ne_true⟩
            case hSz =>
              as_aux_lemma =>
                refine AllSteps.cons (j := 1) rfl (fun b t wx hJ hb hd hcl Kc hK => ?_) ?_
                · obtain ⟨hH, v0, v1, v2, v3, v4, v5, v6, v7, v8, v9, v10, v11, v12, v13, v14, v15, v16, v17, v18, v19, v20, v21, v22, v23, v24, v25⟩ := hJ
                  go_simp
                  refine hK.out _ ?_ _ ?_ ?_; rotate_left 2
                  · rfl
                  exact ⟨hH, fun _ => rfl, v1, v2, v3, v4, v5, v6, v7, v8, v9, v10, v11, v12, v13, v14, v15, v16, v17, v18, v19, v20, v21, v22, v23, v24, v25⟩
                refine AllSteps.cons (j := 2) rfl (fun b t wx hJ hb hd hcl Kc hK => ?_) ?_
                · obtain ⟨hH, v0, v1, v2, v3, v4, v5, v6, v7, v8, v9, v10, v11, v12, v13, v14, v15, v16, v17, v18, v19, v20, v21, v22, v23, v24, v25⟩ := hJ
                  have d0 : b 0 = true := hd.out 0 (by kernel_rfl)
                  have r0 := v0 d0
                  go_simp
                  refine hK.out _ ?_ _ ?_ ?_; rotate_left 2
                  · (try simp only [r0]); rfl
                  exact ⟨hH, v0, fun _ => rfl, v2, v3, v4, v5, v6, v7, v8, v9, v10, v11, v12, v13, v14, v15, v16, v17, v18, v19, v20, v21, v22, v23, v24, v25⟩
                refine AllSteps.cons (j := 3) rfl (fun b t wx hJ hb hd hcl Kc hK => ?_) ?_
                · obtain ⟨hH, v0, v1, v2, v3, v4, v5, v6, v7, v8, v9, v10, v11, v12, v13, v14, v15, v16, v17, v18, v19, v20, v21, v22, v23, v24, v25⟩ := hJ
                  have d1 : b 1 = true := hd.out 1 (by kernel_rfl)
                  have r1 := v1 d1
                  go_simp
                  refine hK.out _ ?_ _ ?_ ?_; rotate_left 2
                  · (try simp only [r1]); rfl
                  exact ⟨hH, v0, v1, fun _ => rfl, v3, v4, v5, v6, v7, v8, v9, v10, v11, v12, v13, v14, v15, v16, v17, v18, v19, v20, v21, v22, v23, v24, v25⟩
                refine AllSteps.cons (j := 4) rfl (fun b t wx hJ hb hd hcl Kc hK => ?_) ?_
                · obtain ⟨hH, v0, v1, v2, v3, v4, v5, v6, v7, v8, v9, v10, v11, v12, v13, v14, v15, v16, v17, v18, v19, v20, v21, v22, v23, v24, v25⟩ := hJ
                  have d1 : b 1 = true := hd.out 1 (by kernel_rfl)
                  have d2 : b 2 = true := hd.out 2 (by kernel_rfl)
                  have r1 := v1 d1
                  have r2 := v2 d2
                  go_simp
                  refine hK.out _ ?_ _ ?_ ?_; rotate_left 2
                  · (try simp only [r1, r2]); rfl
                  exact ⟨hH, v0, v1, v2, fun _ => rfl, v4, v5, v6, v7, v8, v9, v10, v11, v12, v13, v14, v15, v16, v17, v18, v19, v20, v21, v22, v23, v24, v25⟩
                refine AllSteps.cons (j := 5) rfl (fun b t wx hJ hb hd hcl Kc hK => ?_) ?_
                · obtain ⟨hH, v0, v1, v2, v3, v4, v5, v6, v7, v8, v9, v10, v11, v12, v13, v14, v15, v16, v17, v18, v19, v20, v21, v22, v23, v24, v25⟩ := hJ
                  have d1 : b 1 = true := hd.out 1 (by kernel_rfl)
                  have d3 : b 3 = true := hd.out 3 (by kernel_rfl)
                  have r1 := v1 d1
                  have r3 := v3 d3
                  go_simp
                  refine hK.out _ ?_ _ ?_ ?_; rotate_left 2
                  · (try simp only [r1, r3]); rfl
                  exact ⟨hH, v0, v1, v2, v3, fun _ => rfl, v5, v6, v7, v8, v9, v10, v11, v12, v13, v14, v15, v16, v17, v18, v19, v20, v21, v22, v23, v24, v25⟩
                refine AllSteps.cons (j := 6) rfl (fun b t wx hJ hb hd hcl Kc hK => ?_) ?_
                · obtain ⟨hH, v0, v1, v2, v3, v4, v5, v6, v7, v8, v9, v10, v11, v12, v13, v14, v15, v16, v17, v18, v19, v20, v21, v22, v23, v24, v25⟩ := hJ
                  have d4 : b 4 = true := hd.out 4 (by kernel_rfl)
                  have r4 := v4 d4
                  go_simp
                  refine hK.out _ ?_ _ ?_ ?_; rotate_left 2
                  · (try simp only [r4]); rfl
                  exact ⟨hH, v0, v1, v2, v3, v4, fun _ => rfl, v6, v7, v8, v9, v10, v11, v12, v13, v14, v15, v16, v17, v18, v19, v20, v21, v22, v23, v24, v25⟩
                refine AllSteps.cons (j := 7) rfl (fun b t wx hJ hb hd hcl Kc hK => ?_) ?_
                · obtain ⟨hH, v0, v1, v2, v3, v4, v5, v6, v7, v8, v9, v10, v11, v12, v13, v14, v15, v16, v17, v18, v19, v20, v21, v22, v23, v24, v25⟩ := hJ
                  have d4 : b 4 = true := hd.out 4 (by kernel_rfl)
                  have d5 : b 5 = true := hd.out 5 (by kernel_rfl)
                  have r4 := v4 d4
                  have r5 := v5 d5
                  go_simp
                  refine hK.out _ ?_ _ ?_ ?_; rotate_left 2
                  · (try simp only [r4, r5]); rfl
                  exact ⟨hH, v0, v1, v2, v3, v4, v5, fun _ => rfl, v7, v8, v9, v10, v11, v12, v13, v14, v15, v16, v17, v18, v19, v20, v21, v22, v23, v24, v25⟩
                refine AllSteps.cons (j := 8) rfl (fun b t wx hJ hb hd hcl Kc hK => ?_) ?_
                · obtain ⟨hH, v0, v1, v2, v3, v4, v5, v6, v7, v8, v9, v10, v11, v12, v13, v14, v15, v16, v17, v18, v19, v20, v21, v22, v23, v24, v25⟩ := hJ
                  have d4 : b 4 = true := hd.out 4 (by kernel_rfl)
                  have d6 : b 6 = true := hd.out 6 (by kernel_rfl)
                  have r4 := v4 d4
                  have r6 := v6 d6
                  go_simp
                  refine hK.out _ ?_ _ ?_ ?_; rotate_left 2
                  · (try simp only [r4, r6]); rfl
                  exact ⟨hH, v0, v1, v2, v3, v4, v5, v6, fun _ => rfl, v8, v9, v10, v11, v12, v13, v14, v15, v16, v17, v18, v19, v20, v21, v22, v23, v24, v25⟩
                refine AllSteps.cons (j := 9) rfl (fun b t wx hJ hb hd hcl Kc hK => ?_) ?_
                · obtain ⟨hH, v0, v1, v2, v3, v4, v5, v6, v7, v8, v9, v10, v11, v12, v13, v14, v15, v16, v17, v18, v19, v20, v21, v22, v23, v24, v25⟩ := hJ
                  have d4 : b 4 = true := hd.out 4 (by kernel_rfl)
                  have d7 : b 7 = true := hd.out 7 (by kernel_rfl)
                  have r4 := v4 d4
                  have r7 := v7 d7
                  go_simp
                  refine hK.out _ ?_ _ ?_ ?_; rotate_left 2
                  · (try simp only [r4, r7]); rfl
                  exact ⟨hH, v0, v1, v2, v3, v4, v5, v6, v7, fun _ => rfl, v9, v10, v11, v12, v13, v14, v15, v16, v17, v18, v19, v20, v21, v22, v23, v24, v25⟩
                refine AllSteps.cons (j := 10) rfl (fun b t wx hJ hb hd hcl Kc hK => ?_) ?_
                · obtain ⟨hH, v0, v1, v2, v3, v4, v5, v6, v7, v8, v9, v10, v11, v12, v13, v14, v15, v16, v17, v18, v19, v20, v21, v22, v23, v24, v25⟩ := hJ
                  have d8 : b 8 = true := hd.out 8 (by kernel_rfl)
                  have r8 := v8 d8
                  have q0_0 := (hH.blk (k := 0) rfl).cell (j := 0) rfl
                  have q0_1 := (hH.blk (k := 0) rfl).cell (j := 1) rfl
                  have q0_2 := (hH.blk (k := 0) rfl).cell (j := 2) rfl
                  go_simp
                  refine hK.out _ ?_ _ ?_ ?_; rotate_left 2
                  · (try simp only [r8]); rfl
                  exact ⟨hH, v0, v1, v2, v3, v4, v5, v6, v7, v8, fun _ => rfl, v10, v11, v12, v13, v14, v15, v16, v17, v18, v19, v20, v21, v22, v23, v24, v25⟩
                refine AllSteps.cons (j := 11) rfl (fun b t wx hJ hb hd hcl Kc hK => ?_) ?_
                · obtain ⟨hH, v0, v1, v2, v3, v4, v5, v6, v7, v8, v9, v10, v11, v12, v13, v14, v15, v16, v17, v18, v19, v20, v21, v22, v23, v24, v25⟩ := hJ
                  have d8 : b 8 = true := hd.out 8 (by kernel_rfl)
                  have r8 := v8 d8
                  have q6_0 := (hH.blk (k := 6) rfl).cell (j := 0) rfl
                  have q6_1 := (hH.blk (k := 6) rfl).cell (j := 1) rfl
                  have q6_2 := (hH.blk (k := 6) rfl).cell (j := 2) rfl
                  go_simp
                  refine hK.out _ ?_ _ ?_ ?_; rotate_left 2
                  · (try simp only [r8]); rfl
                  exact ⟨hH, v0, v1, v2, v3, v4, v5, v6, v7, v8, v9, fun _ => rfl, v11, v12, v13, v14, v15, v16, v17, v18, v19, v20, v21, v22, v23, v24, v25⟩
                refine AllSteps.cons (j := 12) rfl (fun b t wx hJ hb hd hcl Kc hK => ?_) ?_
                · obtain ⟨hH, v0, v1, v2, v3, v4, v5, v6, v7, v8, v9, v10, v11, v12, v13, v14, v15, v16, v17, v18, v19, v20, v21, v22, v23, v24, v25⟩ := hJ
                  have d8 : b 8 = true := hd.out 8 (by kernel_rfl)
                  have r8 := v8 d8
                  have q2_0 := (hH.blk (k := 2) rfl).cell (j := 0) rfl
                  have q2_1 := (hH.blk (k := 2) rfl).cell (j := 1) rfl
                  have q2_2 := (hH.blk (k := 2) rfl).cell (j := 2) rfl
                  go_simp
                  refine hK.out _ ?_ _ ?_ ?_; rotate_left 2
                  · (try simp only [r8]); rfl
                  exact ⟨hH, v0, v1, v2, v3, v4, v5, v6, v7, v8, v9, v10, fun _ => rfl, v12, v13, v14, v15, v16, v17, v18, v19, v20, v21, v22, v23, v24, v25⟩
                refine AllSteps.cons (j := 13) rfl (fun b t wx hJ hb hd hcl Kc hK => ?_) ?_
                · obtain ⟨hH, v0, v1, v2, v3, v4, v5, v6, v7, v8, v9, v10, v11, v12, v13, v14, v15, v16, v17, v18, v19, v20, v21, v22, v23, v24, v25⟩ := hJ
                  have d8 : b 8 = true := hd.out 8 (by kernel_rfl)
                  have d9 : b 9 = true := hd.out 9 (by kernel_rfl)
                  have d10 : b 10 = true := hd.out 10 (by kernel_rfl)
                  have d11 : b 11 = true := hd.out 11 (by kernel_rfl)
                  have r8 := v8 d8
                  have r9 := v9 d9
                  have r10 := v10 d10
                  have r11 := v11 d11
                  go_simp
                  go_at_call 18
                  refine (sameTensor_yes HR.out HTU.out HT.out HPS.out.1.symm HPS.out.2.symm _ _ _ (hH.tens (k := 5) rfl) (hH.tens (k := 1) rfl)).mono ?_; rintro e12 w12 ⟨rfl, h12⟩
                  (try go_simp)
                  refine hK.out _ ?_ _ ?_ ?_; rotate_left 2
                  · (try simp only [r8, r9, r10, r11]); rfl
                  exact ⟨by have hX := hH.grow h12; (try simp only [List.set_cons_zero, List.set_cons_succ] at hX); simpa only [updB, updV, blkOf_mk, tup0_mk, partsOf3, Nat.reduceBEq, cond_true, cond_false, hb, d8, d9, d10, d11, r8, r9, r10, r11] using hX, v0, v1, v2, v3, v4, v5, v6, v7, v8, v9, v10, v11, fun _ => rfl, v13, v14, v15, v16, v17, v18, v19, v20, v21, v22, v23, v24, v25⟩
                refine AllSteps.cons (j := 14) rfl (fun b t wx hJ hb hd hcl Kc hK => ?_) ?_
                · obtain ⟨hH, v0, v1, v2, v3, v4, v5, v6, v7, v8, v9, v10, v11, v12, v13, v14, v15, v16, v17, v18, v19, v20, v21, v22, v23, v24, v25⟩ := hJ
                  have d8 : b 8 = true := hd.out 8 (by kernel_rfl)
                  have d12 : b 12 = true := hd.out 12 (by kernel_rfl)
                  have r8 := v8 d8
                  have r12 := v12 d12
                  go_simp
                  refine hK.out _ ?_ _ ?_ ?_; rotate_left 2
                  · (try simp only [r8, r12]); rfl
                  exact ⟨hH, v0, v1, v2, v3, v4, v5, v6, v7, v8, v9, v10, v11, v12, fun _ => rfl, v14, v15, v16, v17, v18, v19, v20, v21, v22, v23, v24, v25⟩
                refine AllSteps.cons (j := 15) rfl (fun b t wx hJ hb hd hcl Kc hK => ?_) ?_
                · obtain ⟨hH, v0, v1, v2, v3, v4, v5, v6, v7, v8, v9, v10, v11, v12, v13, v14, v15, v16, v17, v18, v19, v20, v21, v22, v23, v24, v25⟩ := hJ
                  have d12 : b 12 = true := hd.out 12 (by kernel_rfl)
                  have d13 : b 13 = true := hd.out 13 (by kernel_rfl)
                  have r12 := v12 d12
                  have r13 := v13 d13
                  go_simp
                  refine hK.out _ ?_ _ ?_ ?_; rotate_left 2
                  · (try simp only [r12, r13]); rfl
                  exact ⟨hH, v0, v1, v2, v3, v4, v5, v6, v7, v8, v9, v10, v11, v12, v13, fun _ => rfl, v15, v16, v17, v18, v19, v20, v21, v22, v23, v24, v25⟩
                refine AllSteps.cons (j := 16) rfl (fun b t wx hJ hb hd hcl Kc hK => ?_) ?_
                · obtain ⟨hH, v0, v1, v2, v3, v4, v5, v6, v7, v8, v9, v10, v11, v12, v13, v14, v15, v16, v17, v18, v19, v20, v21, v22, v23, v24, v25⟩ := hJ
                  have d14 : b 14 = true := hd.out 14 (by kernel_rfl)
                  have r14 := v14 d14
                  have q4_0 := (hH.blk (k := 4) rfl).cell (j := 0) rfl
                  have q4_1 := (hH.blk (k := 4) rfl).cell (j := 1) rfl
                  have q4_2 := (hH.blk (k := 4) rfl).cell (j := 2) rfl
                  go_simp
                  refine hK.out _ ?_ _ ?_ ?_; rotate_left 2
                  · (try simp only [r14]); rfl
                  exact ⟨hH, v0, v1, v2, v3, v4, v5, v6, v7, v8, v9, v10, v11, v12, v13, v14, fun _ => rfl, v16, v17, v18, v19, v20, v21, v22, v23, v24, v25⟩
                refine AllSteps.cons (j := 17) rfl (fun b t wx hJ hb hd hcl Kc hK => ?_) ?_
                · obtain ⟨hH, v0, v1, v2, v3, v4, v5, v6, v7, v8, v9, v10, v11, v12, v13, v14, v15, v16, v17, v18, v19, v20, v21, v22, v23, v24, v25⟩ := hJ
                  have d14 : b 14 = true := hd.out 14 (by kernel_rfl)
                  have r14 := v14 d14
                  have q0_0 := (hH.blk (k := 0) rfl).cell (j := 0) rfl
                  have q0_1 := (hH.blk (k := 0) rfl).cell (j := 1) rfl
                  have q0_2 := (hH.blk (k := 0) rfl).cell (j := 2) rfl
                  go_simp
                  refine hK.out _ ?_ _ ?_ ?_; rotate_left 2
                  · (try simp only [r14]); rfl
                  exact ⟨hH, v0, v1, v2, v3, v4, v5, v6, v7, v8, v9, v10, v11, v12, v13, v14, v15, fun _ => rfl, v17, v18, v19, v20, v21, v22, v23, v24, v25⟩
                refine AllSteps.cons (j := 18) rfl (fun b t wx hJ hb hd hcl Kc hK => ?_) ?_
                · obtain ⟨hH, v0, v1, v2, v3, v4, v5, v6, v7, v8, v9, v10, v11, v12, v13, v14, v15, v16, v17, v18, v19, v20, v21, v22, v23, v24, v25⟩ := hJ
                  have d14 : b 14 = true := hd.out 14 (by kernel_rfl)
                  have r14 := v14 d14
                  have q2_0 := (hH.blk (k := 2) rfl).cell (j := 0) rfl
                  have q2_1 := (hH.blk (k := 2) rfl).cell (j := 1) rfl
                  have q2_2 := (hH.blk (k := 2) rfl).cell (j := 2) rfl
                  go_simp
                  refine hK.out _ ?_ _ ?_ ?_; rotate_left 2
                  · (try simp only [r14]); rfl
                  exact ⟨hH, v0, v1, v2, v3, v4, v5, v6, v7, v8, v9, v10, v11, v12, v13, v14, v15, v16, fun _ => rfl, v18, v19, v20, v21, v22, v23, v24, v25⟩
                refine AllSteps.cons (j := 19) rfl (fun b t wx hJ hb hd hcl Kc hK => ?_) ?_
                · obtain ⟨hH, v0, v1, v2, v3, v4, v5, v6, v7, v8, v9, v10, v11, v12, v13, v14, v15, v16, v17, v18, v19, v20, v21, v22, v23, v24, v25⟩ := hJ
                  have d14 : b 14 = true := hd.out 14 (by kernel_rfl)
                  have r14 := v14 d14
                  go_simp
                  refine hK.out _ ?_ _ ?_ ?_; rotate_left 2
                  · (try simp only [r14]); rfl
                  exact ⟨hH, v0, v1, v2, v3, v4, v5, v6, v7, v8, v9, v10, v11, v12, v13, v14, v15, v16, v17, fun _ => rfl, v19, v20, v21, v22, v23, v24, v25⟩
                refine AllSteps.cons (j := 20) rfl (fun b t wx hJ hb hd hcl Kc hK => ?_) ?_
                · obtain ⟨hH, v0, v1, v2, v3, v4, v5, v6, v7, v8, v9, v10, v11, v12, v13, v14, v15, v16, v17, v18, v19, v20, v21, v22, v23, v24, v25⟩ := hJ
                  have d14 : b 14 = true := hd.out 14 (by kernel_rfl)
                  have d18 : b 18 = true := hd.out 18 (by kernel_rfl)
                  have r14 := v14 d14
                  have r18 := v18 d18
                  have q2_0 := (hH.blk (k := 2) rfl).cell (j := 0) rfl
                  go_simp
                  refine hK.out _ ?_ _ ?_ ?_; rotate_left 2
                  · (try simp only [r14, r18]); rfl
                  exact ⟨hH, v0, v1, v2, v3, v4, v5, v6, v7, v8, v9, v10, v11, v12, v13, v14, v15, v16, v17, v18, fun _ => rfl, v20, v21, v22, v23, v24, v25⟩
                refine AllSteps.cons (j := 21) rfl (fun b t wx hJ hb hd hcl Kc hK => ?_) ?_
                · obtain ⟨hH, v0, v1, v2, v3, v4, v5, v6, v7, v8, v9, v10, v11, v12, v13, v14, v15, v16, v17, v18, v19, v20, v21, v22, v23, v24, v25⟩ := hJ
                  have d14 : b 14 = true := hd.out 14 (by kernel_rfl)
                  have r14 := v14 d14
                  go_simp
                  refine hK.out _ ?_ _ ?_ ?_; rotate_left 2
                  · (try simp only [r14]); rfl
                  exact ⟨hH, v0, v1, v2, v3, v4, v5, v6, v7, v8, v9, v10, v11, v12, v13, v14, v15, v16, v17, v18, v19, fun _ => rfl, v21, v22, v23, v24, v25⟩
                refine AllSteps.cons (j := 22) rfl (fun b t wx hJ hb hd hcl Kc hK => ?_) ?_
                · obtain ⟨hH, v0, v1, v2, v3, v4, v5, v6, v7, v8, v9, v10, v11, v12, v13, v14, v15, v16, v17, v18, v19, v20, v21, v22, v23, v24, v25⟩ := hJ
                  have d14 : b 14 = true := hd.out 14 (by kernel_rfl)
                  have d19 : b 19 = true := hd.out 19 (by kernel_rfl)
                  have d20 : b 20 = true := hd.out 20 (by kernel_rfl)
                  have r14 := v14 d14
                  have r19 := v19 d19
                  have r20 := v20 d20
                  have hN := hH; (try simp only [hb, d14, d19, d20, cond_true, cond_false] at hN)
                  go_simp
                  go_at_call 36
                  refine (lawsCut_any _ L x _ (hH.parts (k := 1) rfl).1.ints (by omega)).mono ?_; rintro e21 w21 ⟨vc, rfl, oc, h4⟩
                  rw [HMM.out] at oc
                  obtain ⟨x4, c4, rfl, _, _⟩ := oc.ints.val
                  (try go_simp)
                  refine hK.out _ ?_ _ ?_ ?_; rotate_left 2
                  · (try simp only [r14, r19, r20]); rfl
                  exact ⟨by have hX := hN.addI 7 h4 oc (Nat.le_refl _); (try simp only [List.set_cons_zero, List.set_cons_succ] at hX); simpa only [updB, updV, blkOf_mk, tup0_mk, partsOf3, Nat.reduceBEq, cond_true, cond_false, hb, d14, d19, d20, r14, r19, r20] using hX, v0, v1, v2, v3, v4, v5, v6, v7, v8, v9, v10, v11, v12, v13, v14, v15, v16, v17, v18, v19, v20, fun _ => ⟨_, _, rfl⟩, v22, v23, v24, v25⟩
                refine AllSteps.cons (j := 23) rfl (fun b t wx hJ hb hd hcl Kc hK => ?_) ?_
                · obtain ⟨hH, v0, v1, v2, v3, v4, v5, v6, v7, v8, v9, v10, v11, v12, v13, v14, v15, v16, v17, v18, v19, v20, v21, v22, v23, v24, v25⟩ := hJ
                  have d14 : b 14 = true := hd.out 14 (by kernel_rfl)
                  have d16 : b 16 = true := hd.out 16 (by kernel_rfl)
                  have d17 : b 17 = true := hd.out 17 (by kernel_rfl)
                  have d21 : b 21 = true := hd.out 21 (by kernel_rfl)
                  have r14 := v14 d14
                  have r16 := v16 d16
                  have r17 := v17 d17
                  have r21 := v21 d21
                  obtain ⟨x_21, c_21, r21⟩ := r21
                  have hN := hH; (try simp only [hb, d14, d16, d17, d21, cond_true, cond_false] at hN)
                  go_simp
                  go_at_call 22
                  refine (sumLabels_any HR.out HT.out M _ _ _ (hH.tens (k := 1) rfl) (by have h := hN.ints (k := 7) rfl; rw [r21] at h; exact h)).mono ?_; rintro e22 w22 ⟨vs, rfl, os, h5⟩
                  rw [HAL.out.1] at os
                  obtain ⟨pa1, na1, ca1, pa2, na2, ca2, pa3, na3, ca3, rfl⟩ := os.shape
                  (try go_simp)
                  refine hK.out _ ?_ _ ?_ ?_; rotate_left 2
                  · (try simp only [r14, r16, r17, r21]); rfl
                  exact ⟨by have hX := hN.addT 8 h5 os (Nat.le_refl _); (try simp only [List.set_cons_zero, List.set_cons_succ] at hX); simpa only [updB, updV, blkOf_mk, tup0_mk, partsOf3, Nat.reduceBEq, cond_true, cond_false, hb, d14, d16, d17, d21, r14, r16, r17, r21] using hX, v0, v1, v2, v3, v4, v5, v6, v7, v8, v9, v10, v11, v12, v13, v14, v15, v16, v17, v18, v19, v20, v21, fun _ => ⟨_, _, _, _, _, _, _, _, _, rfl⟩, v23, v24, v25⟩
                refine AllSteps.cons (j := 24) rfl (fun b t wx hJ hb hd hcl Kc hK => ?_) ?_
                · obtain ⟨hH, v0, v1, v2, v3, v4, v5, v6, v7, v8, v9, v10, v11, v12, v13, v14, v15, v16, v17, v18, v19, v20, v21, v22, v23, v24, v25⟩ := hJ
                  have d14 : b 14 = true := hd.out 14 (by kernel_rfl)
                  have d15 : b 15 = true := hd.out 15 (by kernel_rfl)
                  have d22 : b 22 = true := hd.out 22 (by kernel_rfl)
                  have r14 := v14 d14
                  have r15 := v15 d15
                  have r22 := v22 d22
                  obtain ⟨p1_22, n1_22, c1_22, p2_22, n2_22, c2_22, p3_22, n3_22, c3_22, r22⟩ := r22
                  have hN := hH; (try simp only [hb, d14, d15, d22, cond_true, cond_false] at hN)
                  go_simp
                  go_at_call 16
                  refine (same_same _ _ _ _ _ _ _ _ _ (hH.tens (k := 3) rfl) (by have h := hN.tens (k := 8) rfl; rw [r22] at h; exact h) rfl rfl (by rw [HAL.out.2])).mono ?_; rintro e23 w23 ⟨rfl, h6⟩
                  (try go_simp)
                  refine hK.out _ ?_ _ ?_ ?_; rotate_left 2
                  · (try simp only [r14, r15, r22]); rfl
                  exact ⟨by have hX := hN.grow h6; (try simp only [List.set_cons_zero, List.set_cons_succ] at hX); simpa only [updB, updV, blkOf_mk, tup0_mk, partsOf3, Nat.reduceBEq, cond_true, cond_false, hb, d14, d15, d22, r14, r15, r22] using hX, v0, v1, v2, v3, v4, v5, v6, v7, v8, v9, v10, v11, v12, v13, v14, v15, v16, v17, v18, v19, v20, v21, v22, fun _ => rfl, v24, v25⟩
                refine AllSteps.cons (j := 25) rfl (fun b t wx hJ hb hd hcl Kc hK => ?_) ?_
                · obtain ⟨hH, v0, v1, v2, v3, v4, v5, v6, v7, v8, v9, v10, v11, v12, v13, v14, v15, v16, v17, v18, v19, v20, v21, v22, v23, v24, v25⟩ := hJ
                  have d14 : b 14 = true := hd.out 14 (by kernel_rfl)
                  have d23 : b 23 = true := hd.out 23 (by kernel_rfl)
                  have r14 := v14 d14
                  have r23 := v23 d23
                  go_simp
                  refine hK.out _ ?_ _ ?_ ?_; rotate_left 2
                  · (try simp only [r14, r23]); rfl
                  exact ⟨hH, v0, v1, v2, v3, v4, v5, v6, v7, v8, v9, v10, v11, v12, v13, v14, v15, v16, v17, v18, v19, v20, v21, v22, v23, fun _ => rfl, v25⟩
                refine AllSteps.cons (j := 26) rfl (fun b t wx hJ hb hd hcl Kc hK => ?_) ?_
                · obtain ⟨hH, v0, v1, v2, v3, v4, v5, v6, v7, v8, v9, v10, v11, v12, v13, v14, v15, v16, v17, v18, v19, v20, v21, v22, v23, v24, v25⟩ := hJ
                  have d0 : b 0 = true := hd.out 0 (by kernel_rfl)
                  have d1 : b 1 = true := hd.out 1 (by kernel_rfl)
                  have d2 : b 2 = true := hd.out 2 (by kernel_rfl)
                  have d3 : b 3 = true := hd.out 3 (by kernel_rfl)
                  have d4 : b 4 = true := hd.out 4 (by kernel_rfl)
                  have d5 : b 5 = true := hd.out 5 (by kernel_rfl)
                  have d6 : b 6 = true := hd.out 6 (by kernel_rfl)
                  have d7 : b 7 = true := hd.out 7 (by kernel_rfl)
                  have d8 : b 8 = true := hd.out 8 (by kernel_rfl)
                  have d9 : b 9 = true := hd.out 9 (by kernel_rfl)
                  have d10 : b 10 = true := hd.out 10 (by kernel_rfl)
                  have d11 : b 11 = true := hd.out 11 (by kernel_rfl)
                  have d12 : b 12 = true := hd.out 12 (by kernel_rfl)
                  have d13 : b 13 = true := hd.out 13 (by kernel_rfl)
                  have d14 : b 14 = true := hd.out 14 (by kernel_rfl)
                  have d15 : b 15 = true := hd.out 15 (by kernel_rfl)
                  have d16 : b 16 = true := hd.out 16 (by kernel_rfl)
                  have d17 : b 17 = true := hd.out 17 (by kernel_rfl)
                  have d18 : b 18 = true := hd.out 18 (by kernel_rfl)
                  have d19 : b 19 = true := hd.out 19 (by kernel_rfl)
                  have d20 : b 20 = true := hd.out 20 (by kernel_rfl)
                  have d21 : b 21 = true := hd.out 21 (by kernel_rfl)
                  have d22 : b 22 = true := hd.out 22 (by kernel_rfl)
                  have d23 : b 23 = true := hd.out 23 (by kernel_rfl)
                  have d24 : b 24 = true := hd.out 24 (by kernel_rfl)
                  have r0 := v0 d0
                  have r1 := v1 d1
                  have r2 := v2 d2
                  have r3 := v3 d3
                  have r4 := v4 d4
                  have r5 := v5 d5
                  have r6 := v6 d6
                  have r7 := v7 d7
                  have r8 := v8 d8
                  have r9 := v9 d9
                  have r10 := v10 d10
                  have r11 := v11 d11
                  have r12 := v12 d12
                  have r13 := v13 d13
                  have r14 := v14 d14
                  have r15 := v15 d15
                  have r16 := v16 d16
                  have r17 := v17 d17
                  have r18 := v18 d18
                  have r19 := v19 d19
                  have r20 := v20 d20
                  have r21 := v21 d21
                  have r22 := v22 d22
                  have r23 := v23 d23
                  have r24 := v24 d24
                  obtain ⟨x_21, c_21, r21⟩ := r21
                  obtain ⟨p1_22, n1_22, c1_22, p2_22, n2_22, c2_22, p3_22, n3_22, c3_22, r22⟩ := r22
                  go_simp
                  refine hK.out _ ?_ _ ?_ ?_; rotate_left 2
                  · (try simp only [r0, r1, r2, r3, r4, r5, r6, r7, r8, r9, r10, r11, r12, r13, r14, r15, r16, r17, r18, r19, r20, r21, r22, r23, r24]); rfl
                  exact ⟨hH, v0, v1, v2, v3, v4, v5, v6, v7, v8, v9, v10, v11, v12, v13, v14, v15, v16, v17, v18, v19, v20, v21, v22, v23, v24, fun _ => rfl⟩
                exact AllSteps.nil
            case hEz =>
              intro b t wz hJ hall
              obtain ⟨hHz, v0, v1, v2, v3, v4, v5, v6, v7, v8, v9, v10, v11, v12, v13, v14, v15, v16, v17, v18, v19, v20, v21, v22, v23, v24, v25⟩ := hJ
              have a0 : b 0 = true := hall 0 (by decide)
              have a1 : b 1 = true := hall 1 (by decide)
              have a2 : b 2 = true := hall 2 (by decide)
              have a3 : b 3 = true := hall 3 (by decide)
              have a4 : b 4 = true := hall 4 (by decide)
              have a5 : b 5 = true := hall 5 (by decide)
              have a6 : b 6 = true := hall 6 (by decide)
              have a7 : b 7 = true := hall 7 (by decide)
              have a8 : b 8 = true := hall 8 (by decide)
              have a9 : b 9 = true := hall 9 (by decide)
              have a10 : b 10 = true := hall 10 (by decide)
              have a11 : b 11 = true := hall 11 (by decide)
              have a12 : b 12 = true := hall 12 (by decide)
              have a13 : b 13 = true := hall 13 (by decide)
              have a14 : b 14 = true := hall 14 (by decide)
              have a15 : b 15 = true := hall 15 (by decide)
              have a16 : b 16 = true := hall 16 (by decide)
              have a17 : b 17 = true := hall 17 (by decide)
              have a18 : b 18 = true := hall 18 (by decide)
              have a19 : b 19 = true := hall 19 (by decide)
              have a20 : b 20 = true := hall 20 (by decide)
              have a21 : b 21 = true := hall 21 (by decide)
              have a22 : b 22 = true := hall 22 (by decide)
              have a23 : b 23 = true := hall 23 (by decide)
              have a24 : b 24 = true := hall 24 (by decide)
              have a25 : b 25 = true := hall 25 (by decide)
              (try simp only [a0, a1, a2, a3, a4, a5, a6, a7, a8, a9, a10, a11, a12, a13, a14, a15, a16, a17, a18, a19, a20, a21, a22, a23, a24, a25, cond_true] at hHz)
              replace v0 := v0 a0
              replace v1 := v1 a1
              replace v2 := v2 a2
              replace v3 := v3 a3
              replace v4 := v4 a4
              replace v5 := v5 a5
              replace v6 := v6 a6
              replace v7 := v7 a7
              replace v8 := v8 a8
              replace v9 := v9 a9
              replace v10 := v10 a10
              replace v11 := v11 a11
              replace v12 := v12 a12
              replace v13 := v13 a13
              replace v14 := v14 a14
              replace v15 := v15 a15
              replace v16 := v16 a16
              replace v17 := v17 a17
              replace v18 := v18 a18
              replace v19 := v19 a19
              replace v20 := v20 a20
              replace v21 := v21 a21
              replace v22 := v22 a22
              replace v23 := v23 a23
              replace v24 := v24 a24
              replace v25 := v25 a25
              clear hall a0 a1 a2 a3 a4 a5 a6 a7 a8 a9 a10 a11 a12 a13 a14 a15 a16 a17 a18 a19 a20 a21 a22 a23 a24 a25
              generalize t 25 = x25 at hHz v25 ⊢
              generalize t 24 = x24 at hHz v24 ⊢
              generalize t 23 = x23 at hHz v23 ⊢
              generalize t 22 = x22 at hHz v22 ⊢
              generalize t 21 = x21 at hHz v21 ⊢
              generalize t 20 = x20 at hHz v20 ⊢
              generalize t 19 = x19 at hHz v19 ⊢
              generalize t 18 = x18 at hHz v18 ⊢
              generalize t 17 = x17 at hHz v17 ⊢
              generalize t 16 = x16 at hHz v16 ⊢
              generalize t 15 = x15 at hHz v15 ⊢
              generalize t 14 = x14 at hHz v14 ⊢
              generalize t 13 = x13 at hHz v13 ⊢
              generalize t 12 = x12 at hHz v12 ⊢
              generalize t 11 = x11 at hHz v11 ⊢
              generalize t 10 = x10 at hHz v10 ⊢
              generalize t 9 = x9 at hHz v9 ⊢
              generalize t 8 = x8 at hHz v8 ⊢
              generalize t 7 = x7 at hHz v7 ⊢
              generalize t 6 = x6 at hHz v6 ⊢
              generalize t 5 = x5 at hHz v5 ⊢
              generalize t 4 = x4 at hHz v4 ⊢
              generalize t 3 = x3 at hHz v3 ⊢
              generalize t 2 = x2 at hHz v2 ⊢
              generalize t 1 = x1 at hHz v1 ⊢
              generalize t 0 = x0 at hHz v0 ⊢
              subst v0
              subst v1
              subst v2
              subst v3
              subst v4
              subst v5
              subst v6
              subst v7
              subst v8
              subst v9
              subst v10
              subst v11
              subst v12
              subst v13
              subst v14
              subst v15
              subst v16
              subst v17
              subst v18
              subst v19
              subst v20
              obtain ⟨xz21, cz21, rfl⟩ := v21
              obtain ⟨p1z22, n1z22, c1z22, p2z22, n2z22, c2z22, p3z22, n3z22, c3z22, rfl⟩ := v22
              subst v23
              subst v24
              subst v25
              clear b
              replace hH := hHz; clear hHz
              replace hH : Held w wz [aB (wn1.heap.size) 24 [.int .i64 k, .int .i64 p, .int .i64 n], aT (.agg #[.slice (some ⟨bL, 0, none⟩) L.length tc1, .slice (some ⟨bD, 0, none⟩) L.length tc2, .slice tp3 (flat xs).length tc3]) L (L.map dimOf) (flat xs), aB (wn3.heap.size) 31 [.slice (some ⟨bL, 0, none⟩) L.length tc1, .slice (some ⟨bD, 0, none⟩) L.length tc2, .slice tp3 (flat xs).length tc3], aT (.agg #[.slice p1 n1 c1, .slice p2 n2 c2, .slice p3 n3 c3]) M (M.map dimOf) (flat (accXs HR.out dimOf L x v xs)), aB qs21 31 [.slice p1 n1 c1, .slice p2 n2 c2, .slice p3 n3 c3], aT (.agg #[.slice up1 un1 uc1, .slice up2 un2 uc2, .slice up3 un3 uc3]) (M ++ [x]) ((M ++ [x]).map dimOf) (flat (permXs HR.out dimOf L (M ++ [x]) xs)), aB (wn17.heap.size) 31 [.slice up1 un1 uc1, .slice up2 un2 uc2, .slice up3 un3 uc3], aI (.slice xz21 M.length cz21) M, aT (.agg #[.slice p1z22 n1z22 c1z22, .slice p2z22 n2z22 c2z22, .slice p3z22 n3z22 c3z22]) M (M.map dimOf) (flat (sumXs HR.out dimOf L M xs))] := hH
              have hE := hH.ext; clear hH
              go_wp2
              go_ret
              exact ⟨rfl, hE⟩
end Go.Proofs.Ytabeciopggofkaa
