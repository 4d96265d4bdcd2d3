/- The law 'FnFused', walked. -/
import Derived.Test.YtabeciopggofkaaYBase
import Derived.Test.YtabeciopggofkaaYFuseW
import Derived.Test.YtabeciopggofkaaYSplitW
import Derived.Test.YtabeciopggofkaaYG15
import Derived.Test.YtabeciopggofkaaYMakeL
import Derived.Test.YtabeciopggofkaaYG10
import Derived.Test.YtabeciopggofkaaYContrW
import Derived.Test.YtabeciopggofkaaYDrawE
namespace Go.Proofs.Ytabeciopggofkaa
open Go.RowKit
set_option linter.unusedSimpArgs false
set_option linter.unusedVariables false
set_option maxRecDepth 100000 in
set_option maxHeartbeats 8000000 in
theorem walkFnFused (v : Value) (l : List Int) (w : World) (hl : ByteS w v l) (hall : ∀ x ∈ l, 0 ≤ x ∧ x ≤ 255) :
    Calls Try.prog 10 #[v] w fun e w' => e = .returned (.bool true) ∧ Ext w w' := by
  obtain ⟨ca, cap, rfl, hc1, hc2⟩ := hl.val
  by_cases big : 1048576 < l.length
  · go_enter Try.func10, Try.ntmps10
    go_wp2
    go_ret
    exact ⟨rfl, (by repeat' (first | (with_reducible exact Ext.refl _) | (with_reducible assumption) | (with_reducible apply Ext.alloc) | (with_reducible apply Ext.drew) | (with_reducible apply Ext.drewN) | (refine Ext.setAt ?_ (by omega) _ _) | (refine Ext.trans ?_ (by assumption))))⟩
  have hC : Code w (.slice ca l.length cap) l := ⟨hl, hall, by omega⟩
  clear hall hl
  have hH : Held w w [] := Held.new (Ext.refl w) 0
  go_enter Try.func10, Try.ntmps10
  go_wp2_with fail
  refine (makeRing_any _ l 0 _ (hC.ext hH.ext) (by omega)).mono ?_; rintro ew1 w1 ⟨k, p, n, rfl, hd, hw1⟩
  have HR := Lib.hid (drawn_ok hd); clear hd
  have hr := HR.out
  replace hH : Held w w1 [] := hH.grow hw1
  clear hw1
  clear hr
  go_wp2_with fail
  have hB : Held w (w1.alloc (.cells #[.int .i64 k, .int .i64 p, .int .i64 n] 24)) [aB (w1.heap.size) 24 [.int .i64 k, .int .i64 p, .int .i64 n]] := by
    have h := (hH.mores 1).addB 0 #[.int .i64 k, .int .i64 p, .int .i64 n] 24
    exact h
  have hsz : (w1.alloc (.cells #[.int .i64 k, .int .i64 p, .int .i64 n] 24)).heap.size = w1.heap.size + 1 := by simp
  generalize w1.alloc (.cells #[.int .i64 k, .int .i64 p, .int .i64 n] 24) = w2 at hB hsz ⊢
  replace hH := hB; have HSZw2 := Lib.hid hsz; clear hB hsz
  have q0_0 := (hH.blk (k := 0) rfl).cell (j := 0) rfl
  have q0_1 := (hH.blk (k := 0) rfl).cell (j := 1) rfl
  have q0_2 := (hH.blk (k := 0) rfl).cell (j := 2) rfl
  have l0_ := (hH.blk (k := 0) rfl).lt
  go_wp2_with fail
  clear q0_0 q0_1 q0_2 l0_
  have hB : Held w (w2.alloc (.cells #[.int .i64 3, .int .i64 1, .int .i64 4] 3)) [aB (w1.heap.size) 24 [.int .i64 k, .int .i64 p, .int .i64 n], aI (.slice (some ⟨w1.heap.size + 1, 0, none⟩) 3 3) [3, 1, 4]] := by
    have h := (hH.mores 1).built 1 [3, 1, 4] 3 rfl (by simp [maxLen]) #[.int .i64 3, .int .i64 1, .int .i64 4] rfl
    rw [HSZw2.out] at h
    exact h
  have hsz : (w2.alloc (.cells #[.int .i64 3, .int .i64 1, .int .i64 4] 3)).heap.size = w1.heap.size + 1 + 1 := by rw [← HSZw2.out]; simp
  generalize w2.alloc (.cells #[.int .i64 3, .int .i64 1, .int .i64 4] 3) = w3 at hB hsz ⊢
  replace hH := hB; have HSZw3 := Lib.hid hsz; clear hB hsz
  have hB : Held w (w3.alloc (.cells #[.int .i64 2, .int .i64 3, .int .i64 2] 3)) [aB (w1.heap.size) 24 [.int .i64 k, .int .i64 p, .int .i64 n], aI (.slice (some ⟨w1.heap.size + 1, 0, none⟩) 3 3) [3, 1, 4], aI (.slice (some ⟨w1.heap.size + 1 + 1, 0, none⟩) 3 3) [2, 3, 2]] := by
    have h := (hH.mores 1).built 2 [2, 3, 2] 3 rfl (by simp [maxLen]) #[.int .i64 2, .int .i64 3, .int .i64 2] rfl
    rw [HSZw3.out] at h
    exact h
  have hsz : (w3.alloc (.cells #[.int .i64 2, .int .i64 3, .int .i64 2] 3)).heap.size = w1.heap.size + 1 + 1 + 1 := by rw [← HSZw3.out]; simp
  generalize w3.alloc (.cells #[.int .i64 2, .int .i64 3, .int .i64 2] 3) = w4 at hB hsz ⊢
  replace hH := hB; have HSZw4 := Lib.hid hsz; clear hB hsz
  refine (zeroT_any HR.out uni9 sub314 _ _ _ (hH.ints (k := 1) rfl) (by rw [map314]; exact (hH.ints (k := 2) rfl))).mono ?_; rintro ew5 w5 ⟨vc, rfl, oc, hw5⟩
  obtain ⟨cp1, cn1, cc1, cp2, cn2, cc2, cp3, cn3, cc3, rfl⟩ := oc.shape
  replace hH : Held w w5 [aB (w1.heap.size) 24 [.int .i64 k, .int .i64 p, .int .i64 n], aI (.slice (some ⟨w1.heap.size + 1, 0, none⟩) 3 3) [3, 1, 4], aI (.slice (some ⟨w1.heap.size + 1 + 1, 0, none⟩) 3 3) [2, 3, 2], aT (.agg #[.slice cp1 cn1 cc1, .slice cp2 cn2 cc2, .slice cp3 cn3 cc3]) [3, 1, 4] ([3, 1, 4].map dm9) (flat (List.replicate (size (axs dm9 [3, 1, 4])) (rig HR.out).zero))] := (hH.mores 1).addT 3 hw5 oc (Nat.le_refl _)
  clear hw5
  have q0_0 := (hH.blk (k := 0) rfl).cell (j := 0) rfl
  have q0_1 := (hH.blk (k := 0) rfl).cell (j := 1) rfl
  have q0_2 := (hH.blk (k := 0) rfl).cell (j := 2) rfl
  have l0_ := (hH.blk (k := 0) rfl).lt
  go_wp2_with fail
  clear q0_0 q0_1 q0_2 l0_
  have hB : Held w (w5.alloc (.cells #[.slice cp1 cn1 cc1, .slice cp2 cn2 cc2, .slice cp3 cn3 cc3] 31)) [aB (w1.heap.size) 24 [.int .i64 k, .int .i64 p, .int .i64 n], aI (.slice (some ⟨w1.heap.size + 1, 0, none⟩) 3 3) [3, 1, 4], aI (.slice (some ⟨w1.heap.size + 1 + 1, 0, none⟩) 3 3) [2, 3, 2], aT (.agg #[.slice cp1 cn1 cc1, .slice cp2 cn2 cc2, .slice cp3 cn3 cc3]) [3, 1, 4] ([3, 1, 4].map dm9) (flat (List.replicate (size (axs dm9 [3, 1, 4])) (rig HR.out).zero)), aB (w5.heap.size) 31 [.slice cp1 cn1 cc1, .slice cp2 cn2 cc2, .slice cp3 cn3 cc3]] := by
    have h := (hH.mores 1).addB 4 #[.slice cp1 cn1 cc1, .slice cp2 cn2 cc2, .slice cp3 cn3 cc3] 31
    exact h
  have hsz : (w5.alloc (.cells #[.slice cp1 cn1 cc1, .slice cp2 cn2 cc2, .slice cp3 cn3 cc3] 31)).heap.size = w5.heap.size + 1 := by simp
  generalize w5.alloc (.cells #[.slice cp1 cn1 cc1, .slice cp2 cn2 cc2, .slice cp3 cn3 cc3] 31) = w6 at hB hsz ⊢
  replace hH := hB; have HSZw6 := Lib.hid hsz; clear hB hsz
  have q0_0 := (hH.blk (k := 0) rfl).cell (j := 0) rfl
  have q0_1 := (hH.blk (k := 0) rfl).cell (j := 1) rfl
  have q0_2 := (hH.blk (k := 0) rfl).cell (j := 2) rfl
  have l0_ := (hH.blk (k := 0) rfl).lt
  have q4_0 := (hH.blk (k := 4) rfl).cell (j := 0) rfl
  have q4_1 := (hH.blk (k := 4) rfl).cell (j := 1) rfl
  have q4_2 := (hH.blk (k := 4) rfl).cell (j := 2) rfl
  have l4_ := (hH.blk (k := 4) rfl).lt
  go_wp2_with fail
  clear q0_0 q0_1 q0_2 l0_ q4_0 q4_1 q4_2 l4_
  have hB : Held w (w6.alloc (.cells #[.int .i64 1, .int .i64 5, .int .i64 3] 3)) [aB (w1.heap.size) 24 [.int .i64 k, .int .i64 p, .int .i64 n], aI (.slice (some ⟨w1.heap.size + 1, 0, none⟩) 3 3) [3, 1, 4], aI (.slice (some ⟨w1.heap.size + 1 + 1, 0, none⟩) 3 3) [2, 3, 2], aT (.agg #[.slice cp1 cn1 cc1, .slice cp2 cn2 cc2, .slice cp3 cn3 cc3]) [3, 1, 4] ([3, 1, 4].map dm9) (flat (List.replicate (size (axs dm9 [3, 1, 4])) (rig HR.out).zero)), aB (w5.heap.size) 31 [.slice cp1 cn1 cc1, .slice cp2 cn2 cc2, .slice cp3 cn3 cc3], aI (.slice (some ⟨w5.heap.size + 1, 0, none⟩) 3 3) [1, 5, 3]] := by
    have h := (hH.mores 1).built 5 [1, 5, 3] 3 rfl (by simp [maxLen]) #[.int .i64 1, .int .i64 5, .int .i64 3] rfl
    rw [HSZw6.out] at h
    exact h
  have hsz : (w6.alloc (.cells #[.int .i64 1, .int .i64 5, .int .i64 3] 3)).heap.size = w5.heap.size + 1 + 1 := by rw [← HSZw6.out]; simp
  generalize w6.alloc (.cells #[.int .i64 1, .int .i64 5, .int .i64 3] 3) = w7 at hB hsz ⊢
  replace hH := hB; have HSZw7 := Lib.hid hsz; clear hB hsz
  have hB : Held w (w7.alloc (.cells #[.int .i64 3, .int .i64 2, .int .i64 2] 3)) [aB (w1.heap.size) 24 [.int .i64 k, .int .i64 p, .int .i64 n], aI (.slice (some ⟨w1.heap.size + 1, 0, none⟩) 3 3) [3, 1, 4], aI (.slice (some ⟨w1.heap.size + 1 + 1, 0, none⟩) 3 3) [2, 3, 2], aT (.agg #[.slice cp1 cn1 cc1, .slice cp2 cn2 cc2, .slice cp3 cn3 cc3]) [3, 1, 4] ([3, 1, 4].map dm9) (flat (List.replicate (size (axs dm9 [3, 1, 4])) (rig HR.out).zero)), aB (w5.heap.size) 31 [.slice cp1 cn1 cc1, .slice cp2 cn2 cc2, .slice cp3 cn3 cc3], aI (.slice (some ⟨w5.heap.size + 1, 0, none⟩) 3 3) [1, 5, 3], aI (.slice (some ⟨w5.heap.size + 1 + 1, 0, none⟩) 3 3) [3, 2, 2]] := by
    have h := (hH.mores 1).built 6 [3, 2, 2] 3 rfl (by simp [maxLen]) #[.int .i64 3, .int .i64 2, .int .i64 2] rfl
    rw [HSZw7.out] at h
    exact h
  have hsz : (w7.alloc (.cells #[.int .i64 3, .int .i64 2, .int .i64 2] 3)).heap.size = w5.heap.size + 1 + 1 + 1 := by rw [← HSZw7.out]; simp
  generalize w7.alloc (.cells #[.int .i64 3, .int .i64 2, .int .i64 2] 3) = w8 at hB hsz ⊢
  replace hH := hB; have HSZw8 := Lib.hid hsz; clear hB hsz
  refine (zeroT_any HR.out uni9 sub153 _ _ _ (hH.ints (k := 5) rfl) (by rw [map153]; exact (hH.ints (k := 6) rfl))).mono ?_; rintro ew9 w9 ⟨vc, rfl, oc, hw9⟩
  obtain ⟨dp1, dn1, dc1, dp2, dn2, dc2, dp3, dn3, dc3, rfl⟩ := oc.shape
  replace hH : Held w w9 [aB (w1.heap.size) 24 [.int .i64 k, .int .i64 p, .int .i64 n], aI (.slice (some ⟨w1.heap.size + 1, 0, none⟩) 3 3) [3, 1, 4], aI (.slice (some ⟨w1.heap.size + 1 + 1, 0, none⟩) 3 3) [2, 3, 2], aT (.agg #[.slice cp1 cn1 cc1, .slice cp2 cn2 cc2, .slice cp3 cn3 cc3]) [3, 1, 4] ([3, 1, 4].map dm9) (flat (List.replicate (size (axs dm9 [3, 1, 4])) (rig HR.out).zero)), aB (w5.heap.size) 31 [.slice cp1 cn1 cc1, .slice cp2 cn2 cc2, .slice cp3 cn3 cc3], aI (.slice (some ⟨w5.heap.size + 1, 0, none⟩) 3 3) [1, 5, 3], aI (.slice (some ⟨w5.heap.size + 1 + 1, 0, none⟩) 3 3) [3, 2, 2], aT (.agg #[.slice dp1 dn1 dc1, .slice dp2 dn2 dc2, .slice dp3 dn3 dc3]) [1, 5, 3] ([1, 5, 3].map dm9) (flat (List.replicate (size (axs dm9 [1, 5, 3])) (rig HR.out).zero))] := (hH.mores 1).addT 7 hw9 oc (Nat.le_refl _)
  clear hw9
  have q0_0 := (hH.blk (k := 0) rfl).cell (j := 0) rfl
  have q0_1 := (hH.blk (k := 0) rfl).cell (j := 1) rfl
  have q0_2 := (hH.blk (k := 0) rfl).cell (j := 2) rfl
  have l0_ := (hH.blk (k := 0) rfl).lt
  have q4_0 := (hH.blk (k := 4) rfl).cell (j := 0) rfl
  have q4_1 := (hH.blk (k := 4) rfl).cell (j := 1) rfl
  have q4_2 := (hH.blk (k := 4) rfl).cell (j := 2) rfl
  have l4_ := (hH.blk (k := 4) rfl).lt
  go_wp2_with fail
  clear q0_0 q0_1 q0_2 l0_ q4_0 q4_1 q4_2 l4_
  have hB : Held w (w9.alloc (.cells #[.slice dp1 dn1 dc1, .slice dp2 dn2 dc2, .slice dp3 dn3 dc3] 31)) [aB (w1.heap.size) 24 [.int .i64 k, .int .i64 p, .int .i64 n], aI (.slice (some ⟨w1.heap.size + 1, 0, none⟩) 3 3) [3, 1, 4], aI (.slice (some ⟨w1.heap.size + 1 + 1, 0, none⟩) 3 3) [2, 3, 2], aT (.agg #[.slice cp1 cn1 cc1, .slice cp2 cn2 cc2, .slice cp3 cn3 cc3]) [3, 1, 4] ([3, 1, 4].map dm9) (flat (List.replicate (size (axs dm9 [3, 1, 4])) (rig HR.out).zero)), aB (w5.heap.size) 31 [.slice cp1 cn1 cc1, .slice cp2 cn2 cc2, .slice cp3 cn3 cc3], aI (.slice (some ⟨w5.heap.size + 1, 0, none⟩) 3 3) [1, 5, 3], aI (.slice (some ⟨w5.heap.size + 1 + 1, 0, none⟩) 3 3) [3, 2, 2], aT (.agg #[.slice dp1 dn1 dc1, .slice dp2 dn2 dc2, .slice dp3 dn3 dc3]) [1, 5, 3] ([1, 5, 3].map dm9) (flat (List.replicate (size (axs dm9 [1, 5, 3])) (rig HR.out).zero)), aB (w9.heap.size) 31 [.slice dp1 dn1 dc1, .slice dp2 dn2 dc2, .slice dp3 dn3 dc3]] := by
    have h := (hH.mores 1).addB 8 #[.slice dp1 dn1 dc1, .slice dp2 dn2 dc2, .slice dp3 dn3 dc3] 31
    exact h
  have hsz : (w9.alloc (.cells #[.slice dp1 dn1 dc1, .slice dp2 dn2 dc2, .slice dp3 dn3 dc3] 31)).heap.size = w9.heap.size + 1 := by simp
  generalize w9.alloc (.cells #[.slice dp1 dn1 dc1, .slice dp2 dn2 dc2, .slice dp3 dn3 dc3] 31) = w10 at hB hsz ⊢
  replace hH := hB; have HSZw10 := Lib.hid hsz; clear hB hsz
  have q0_0 := (hH.blk (k := 0) rfl).cell (j := 0) rfl
  have q0_1 := (hH.blk (k := 0) rfl).cell (j := 1) rfl
  have q0_2 := (hH.blk (k := 0) rfl).cell (j := 2) rfl
  have l0_ := (hH.blk (k := 0) rfl).lt
  have q4_0 := (hH.blk (k := 4) rfl).cell (j := 0) rfl
  have q4_1 := (hH.blk (k := 4) rfl).cell (j := 1) rfl
  have q4_2 := (hH.blk (k := 4) rfl).cell (j := 2) rfl
  have l4_ := (hH.blk (k := 4) rfl).lt
  have q8_0 := (hH.blk (k := 8) rfl).cell (j := 0) rfl
  have q8_1 := (hH.blk (k := 8) rfl).cell (j := 1) rfl
  have q8_2 := (hH.blk (k := 8) rfl).cell (j := 2) rfl
  have l8_ := (hH.blk (k := 8) rfl).lt
  go_wp2_with fail
  clear q0_0 q0_1 q0_2 l0_ q4_0 q4_1 q4_2 l4_ q8_0 q8_1 q8_2 l8_
  refine (makeLike_any HR.out uni9 sub314 _ _ l 10 _ (hC.ext hH.ext) (by omega) (hH.ownT (k := 3) rfl)).mono ?_; rintro ew11 w11 ⟨va, Ma, xa, rfl, oa, hpa, hta, hw11⟩
  obtain ⟨ap1, an1, ac1, ap2, an2, ac2, ap3, an3, ac3, rfl⟩ := oa.shape
  have HPa := Lib.hid hpa; have HTa := Lib.hid hta; clear hpa hta
  replace hH : Held w w11 [aB (w1.heap.size) 24 [.int .i64 k, .int .i64 p, .int .i64 n], aI (.slice (some ⟨w1.heap.size + 1, 0, none⟩) 3 3) [3, 1, 4], aI (.slice (some ⟨w1.heap.size + 1 + 1, 0, none⟩) 3 3) [2, 3, 2], aT (.agg #[.slice cp1 cn1 cc1, .slice cp2 cn2 cc2, .slice cp3 cn3 cc3]) [3, 1, 4] ([3, 1, 4].map dm9) (flat (List.replicate (size (axs dm9 [3, 1, 4])) (rig HR.out).zero)), aB (w5.heap.size) 31 [.slice cp1 cn1 cc1, .slice cp2 cn2 cc2, .slice cp3 cn3 cc3], aI (.slice (some ⟨w5.heap.size + 1, 0, none⟩) 3 3) [1, 5, 3], aI (.slice (some ⟨w5.heap.size + 1 + 1, 0, none⟩) 3 3) [3, 2, 2], aT (.agg #[.slice dp1 dn1 dc1, .slice dp2 dn2 dc2, .slice dp3 dn3 dc3]) [1, 5, 3] ([1, 5, 3].map dm9) (flat (List.replicate (size (axs dm9 [1, 5, 3])) (rig HR.out).zero)), aB (w9.heap.size) 31 [.slice dp1 dn1 dc1, .slice dp2 dn2 dc2, .slice dp3 dn3 dc3], aT (.agg #[.slice ap1 an1 ac1, .slice ap2 an2 ac2, .slice ap3 an3 ac3]) Ma (Ma.map dm9) (flat xa)] := (hH.mores 1).addT 9 hw11 oa (Nat.le_refl _)
  clear hw11
  have q0_0 := (hH.blk (k := 0) rfl).cell (j := 0) rfl
  have q0_1 := (hH.blk (k := 0) rfl).cell (j := 1) rfl
  have q0_2 := (hH.blk (k := 0) rfl).cell (j := 2) rfl
  have l0_ := (hH.blk (k := 0) rfl).lt
  have q4_0 := (hH.blk (k := 4) rfl).cell (j := 0) rfl
  have q4_1 := (hH.blk (k := 4) rfl).cell (j := 1) rfl
  have q4_2 := (hH.blk (k := 4) rfl).cell (j := 2) rfl
  have l4_ := (hH.blk (k := 4) rfl).lt
  have q8_0 := (hH.blk (k := 8) rfl).cell (j := 0) rfl
  have q8_1 := (hH.blk (k := 8) rfl).cell (j := 1) rfl
  have q8_2 := (hH.blk (k := 8) rfl).cell (j := 2) rfl
  have l8_ := (hH.blk (k := 8) rfl).lt
  go_wp2_with fail
  clear q0_0 q0_1 q0_2 l0_ q4_0 q4_1 q4_2 l4_ q8_0 q8_1 q8_2 l8_
  have hB : Held w (w11.alloc (.cells #[.slice ap1 an1 ac1, .slice ap2 an2 ac2, .slice ap3 an3 ac3] 31)) [aB (w1.heap.size) 24 [.int .i64 k, .int .i64 p, .int .i64 n], aI (.slice (some ⟨w1.heap.size + 1, 0, none⟩) 3 3) [3, 1, 4], aI (.slice (some ⟨w1.heap.size + 1 + 1, 0, none⟩) 3 3) [2, 3, 2], aT (.agg #[.slice cp1 cn1 cc1, .slice cp2 cn2 cc2, .slice cp3 cn3 cc3]) [3, 1, 4] ([3, 1, 4].map dm9) (flat (List.replicate (size (axs dm9 [3, 1, 4])) (rig HR.out).zero)), aB (w5.heap.size) 31 [.slice cp1 cn1 cc1, .slice cp2 cn2 cc2, .slice cp3 cn3 cc3], aI (.slice (some ⟨w5.heap.size + 1, 0, none⟩) 3 3) [1, 5, 3], aI (.slice (some ⟨w5.heap.size + 1 + 1, 0, none⟩) 3 3) [3, 2, 2], aT (.agg #[.slice dp1 dn1 dc1, .slice dp2 dn2 dc2, .slice dp3 dn3 dc3]) [1, 5, 3] ([1, 5, 3].map dm9) (flat (List.replicate (size (axs dm9 [1, 5, 3])) (rig HR.out).zero)), aB (w9.heap.size) 31 [.slice dp1 dn1 dc1, .slice dp2 dn2 dc2, .slice dp3 dn3 dc3], aT (.agg #[.slice ap1 an1 ac1, .slice ap2 an2 ac2, .slice ap3 an3 ac3]) Ma (Ma.map dm9) (flat xa), aB (w11.heap.size) 31 [.slice ap1 an1 ac1, .slice ap2 an2 ac2, .slice ap3 an3 ac3]] := by
    have h := (hH.mores 1).addB 10 #[.slice ap1 an1 ac1, .slice ap2 an2 ac2, .slice ap3 an3 ac3] 31
    exact h
  have hsz : (w11.alloc (.cells #[.slice ap1 an1 ac1, .slice ap2 an2 ac2, .slice ap3 an3 ac3] 31)).heap.size = w11.heap.size + 1 := by simp
  generalize w11.alloc (.cells #[.slice ap1 an1 ac1, .slice ap2 an2 ac2, .slice ap3 an3 ac3] 31) = w12 at hB hsz ⊢
  replace hH := hB; have HSZw12 := Lib.hid hsz; clear hB hsz
  have q0_0 := (hH.blk (k := 0) rfl).cell (j := 0) rfl
  have q0_1 := (hH.blk (k := 0) rfl).cell (j := 1) rfl
  have q0_2 := (hH.blk (k := 0) rfl).cell (j := 2) rfl
  have l0_ := (hH.blk (k := 0) rfl).lt
  have q4_0 := (hH.blk (k := 4) rfl).cell (j := 0) rfl
  have q4_1 := (hH.blk (k := 4) rfl).cell (j := 1) rfl
  have q4_2 := (hH.blk (k := 4) rfl).cell (j := 2) rfl
  have l4_ := (hH.blk (k := 4) rfl).lt
  have q8_0 := (hH.blk (k := 8) rfl).cell (j := 0) rfl
  have q8_1 := (hH.blk (k := 8) rfl).cell (j := 1) rfl
  have q8_2 := (hH.blk (k := 8) rfl).cell (j := 2) rfl
  have l8_ := (hH.blk (k := 8) rfl).lt
  have q10_0 := (hH.blk (k := 10) rfl).cell (j := 0) rfl
  have q10_1 := (hH.blk (k := 10) rfl).cell (j := 1) rfl
  have q10_2 := (hH.blk (k := 10) rfl).cell (j := 2) rfl
  have l10_ := (hH.blk (k := 10) rfl).lt
  go_wp2_with fail
  clear q0_0 q0_1 q0_2 l0_ q4_0 q4_1 q4_2 l4_ q8_0 q8_1 q8_2 l8_ q10_0 q10_1 q10_2 l10_
  refine (makeLike_any HR.out uni9 sub153 _ _ l 60 _ (hC.ext hH.ext) (by omega) (hH.ownT (k := 7) rfl)).mono ?_; rintro ew13 w13 ⟨vb, Mb, xb, rfl, ob, hpb, htb, hw13⟩
  obtain ⟨bp1, bn1, bc1, bp2, bn2, bc2, bp3, bn3, bc3, rfl⟩ := ob.shape
  have HPb := Lib.hid hpb; have HTb := Lib.hid htb; clear hpb htb
  replace hH : Held w w13 [aB (w1.heap.size) 24 [.int .i64 k, .int .i64 p, .int .i64 n], aI (.slice (some ⟨w1.heap.size + 1, 0, none⟩) 3 3) [3, 1, 4], aI (.slice (some ⟨w1.heap.size + 1 + 1, 0, none⟩) 3 3) [2, 3, 2], aT (.agg #[.slice cp1 cn1 cc1, .slice cp2 cn2 cc2, .slice cp3 cn3 cc3]) [3, 1, 4] ([3, 1, 4].map dm9) (flat (List.replicate (size (axs dm9 [3, 1, 4])) (rig HR.out).zero)), aB (w5.heap.size) 31 [.slice cp1 cn1 cc1, .slice cp2 cn2 cc2, .slice cp3 cn3 cc3], aI (.slice (some ⟨w5.heap.size + 1, 0, none⟩) 3 3) [1, 5, 3], aI (.slice (some ⟨w5.heap.size + 1 + 1, 0, none⟩) 3 3) [3, 2, 2], aT (.agg #[.slice dp1 dn1 dc1, .slice dp2 dn2 dc2, .slice dp3 dn3 dc3]) [1, 5, 3] ([1, 5, 3].map dm9) (flat (List.replicate (size (axs dm9 [1, 5, 3])) (rig HR.out).zero)), aB (w9.heap.size) 31 [.slice dp1 dn1 dc1, .slice dp2 dn2 dc2, .slice dp3 dn3 dc3], aT (.agg #[.slice ap1 an1 ac1, .slice ap2 an2 ac2, .slice ap3 an3 ac3]) Ma (Ma.map dm9) (flat xa), aB (w11.heap.size) 31 [.slice ap1 an1 ac1, .slice ap2 an2 ac2, .slice ap3 an3 ac3], aT (.agg #[.slice bp1 bn1 bc1, .slice bp2 bn2 bc2, .slice bp3 bn3 bc3]) Mb (Mb.map dm9) (flat xb)] := (hH.mores 1).addT 11 hw13 ob (Nat.le_refl _)
  clear hw13
  have q0_0 := (hH.blk (k := 0) rfl).cell (j := 0) rfl
  have q0_1 := (hH.blk (k := 0) rfl).cell (j := 1) rfl
  have q0_2 := (hH.blk (k := 0) rfl).cell (j := 2) rfl
  have l0_ := (hH.blk (k := 0) rfl).lt
  have q4_0 := (hH.blk (k := 4) rfl).cell (j := 0) rfl
  have q4_1 := (hH.blk (k := 4) rfl).cell (j := 1) rfl
  have q4_2 := (hH.blk (k := 4) rfl).cell (j := 2) rfl
  have l4_ := (hH.blk (k := 4) rfl).lt
  have q8_0 := (hH.blk (k := 8) rfl).cell (j := 0) rfl
  have q8_1 := (hH.blk (k := 8) rfl).cell (j := 1) rfl
  have q8_2 := (hH.blk (k := 8) rfl).cell (j := 2) rfl
  have l8_ := (hH.blk (k := 8) rfl).lt
  have q10_0 := (hH.blk (k := 10) rfl).cell (j := 0) rfl
  have q10_1 := (hH.blk (k := 10) rfl).cell (j := 1) rfl
  have q10_2 := (hH.blk (k := 10) rfl).cell (j := 2) rfl
  have l10_ := (hH.blk (k := 10) rfl).lt
  go_wp2_with fail
  clear q0_0 q0_1 q0_2 l0_ q4_0 q4_1 q4_2 l4_ q8_0 q8_1 q8_2 l8_ q10_0 q10_1 q10_2 l10_
  have hB : Held w (w13.alloc (.cells #[.slice bp1 bn1 bc1, .slice bp2 bn2 bc2, .slice bp3 bn3 bc3] 31)) [aB (w1.heap.size) 24 [.int .i64 k, .int .i64 p, .int .i64 n], aI (.slice (some ⟨w1.heap.size + 1, 0, none⟩) 3 3) [3, 1, 4], aI (.slice (some ⟨w1.heap.size + 1 + 1, 0, none⟩) 3 3) [2, 3, 2], aT (.agg #[.slice cp1 cn1 cc1, .slice cp2 cn2 cc2, .slice cp3 cn3 cc3]) [3, 1, 4] ([3, 1, 4].map dm9) (flat (List.replicate (size (axs dm9 [3, 1, 4])) (rig HR.out).zero)), aB (w5.heap.size) 31 [.slice cp1 cn1 cc1, .slice cp2 cn2 cc2, .slice cp3 cn3 cc3], aI (.slice (some ⟨w5.heap.size + 1, 0, none⟩) 3 3) [1, 5, 3], aI (.slice (some ⟨w5.heap.size + 1 + 1, 0, none⟩) 3 3) [3, 2, 2], aT (.agg #[.slice dp1 dn1 dc1, .slice dp2 dn2 dc2, .slice dp3 dn3 dc3]) [1, 5, 3] ([1, 5, 3].map dm9) (flat (List.replicate (size (axs dm9 [1, 5, 3])) (rig HR.out).zero)), aB (w9.heap.size) 31 [.slice dp1 dn1 dc1, .slice dp2 dn2 dc2, .slice dp3 dn3 dc3], aT (.agg #[.slice ap1 an1 ac1, .slice ap2 an2 ac2, .slice ap3 an3 ac3]) Ma (Ma.map dm9) (flat xa), aB (w11.heap.size) 31 [.slice ap1 an1 ac1, .slice ap2 an2 ac2, .slice ap3 an3 ac3], aT (.agg #[.slice bp1 bn1 bc1, .slice bp2 bn2 bc2, .slice bp3 bn3 bc3]) Mb (Mb.map dm9) (flat xb), aB (w13.heap.size) 31 [.slice bp1 bn1 bc1, .slice bp2 bn2 bc2, .slice bp3 bn3 bc3]] := by
    have h := (hH.mores 1).addB 12 #[.slice bp1 bn1 bc1, .slice bp2 bn2 bc2, .slice bp3 bn3 bc3] 31
    exact h
  have hsz : (w13.alloc (.cells #[.slice bp1 bn1 bc1, .slice bp2 bn2 bc2, .slice bp3 bn3 bc3] 31)).heap.size = w13.heap.size + 1 := by simp
  generalize w13.alloc (.cells #[.slice bp1 bn1 bc1, .slice bp2 bn2 bc2, .slice bp3 bn3 bc3] 31) = w14 at hB hsz ⊢
  replace hH := hB; have HSZw14 := Lib.hid hsz; clear hB hsz
  have q0_0 := (hH.blk (k := 0) rfl).cell (j := 0) rfl
  have q0_1 := (hH.blk (k := 0) rfl).cell (j := 1) rfl
  have q0_2 := (hH.blk (k := 0) rfl).cell (j := 2) rfl
  have l0_ := (hH.blk (k := 0) rfl).lt
  have q4_0 := (hH.blk (k := 4) rfl).cell (j := 0) rfl
  have q4_1 := (hH.blk (k := 4) rfl).cell (j := 1) rfl
  have q4_2 := (hH.blk (k := 4) rfl).cell (j := 2) rfl
  have l4_ := (hH.blk (k := 4) rfl).lt
  have q8_0 := (hH.blk (k := 8) rfl).cell (j := 0) rfl
  have q8_1 := (hH.blk (k := 8) rfl).cell (j := 1) rfl
  have q8_2 := (hH.blk (k := 8) rfl).cell (j := 2) rfl
  have l8_ := (hH.blk (k := 8) rfl).lt
  have q10_0 := (hH.blk (k := 10) rfl).cell (j := 0) rfl
  have q10_1 := (hH.blk (k := 10) rfl).cell (j := 1) rfl
  have q10_2 := (hH.blk (k := 10) rfl).cell (j := 2) rfl
  have l10_ := (hH.blk (k := 10) rfl).lt
  have q12_0 := (hH.blk (k := 12) rfl).cell (j := 0) rfl
  have q12_1 := (hH.blk (k := 12) rfl).cell (j := 1) rfl
  have q12_2 := (hH.blk (k := 12) rfl).cell (j := 2) rfl
  have l12_ := (hH.blk (k := 12) rfl).lt
  go_wp2_with fail
  clear q0_0 q0_1 q0_2 l0_ q4_0 q4_1 q4_2 l4_ q8_0 q8_1 q8_2 l8_ q10_0 q10_1 q10_2 l10_ q12_0 q12_1 q12_2 l12_
  have HL := Lib.hid (fused_law HR.out HPa.out HPb.out HTa.out HTb.out)
  have HFx := Lib.hid (rest314 HPa.out)
  have hB : Held w (w14.alloc (.cells #[.int .i64 3, .int .i64 1] 3)) [aB (w1.heap.size) 24 [.int .i64 k, .int .i64 p, .int .i64 n], aI (.slice (some ⟨w1.heap.size + 1, 0, none⟩) 3 3) [3, 1, 4], aI (.slice (some ⟨w1.heap.size + 1 + 1, 0, none⟩) 3 3) [2, 3, 2], aT (.agg #[.slice cp1 cn1 cc1, .slice cp2 cn2 cc2, .slice cp3 cn3 cc3]) [3, 1, 4] ([3, 1, 4].map dm9) (flat (List.replicate (size (axs dm9 [3, 1, 4])) (rig HR.out).zero)), aB (w5.heap.size) 31 [.slice cp1 cn1 cc1, .slice cp2 cn2 cc2, .slice cp3 cn3 cc3], aI (.slice (some ⟨w5.heap.size + 1, 0, none⟩) 3 3) [1, 5, 3], aI (.slice (some ⟨w5.heap.size + 1 + 1, 0, none⟩) 3 3) [3, 2, 2], aT (.agg #[.slice dp1 dn1 dc1, .slice dp2 dn2 dc2, .slice dp3 dn3 dc3]) [1, 5, 3] ([1, 5, 3].map dm9) (flat (List.replicate (size (axs dm9 [1, 5, 3])) (rig HR.out).zero)), aB (w9.heap.size) 31 [.slice dp1 dn1 dc1, .slice dp2 dn2 dc2, .slice dp3 dn3 dc3], aT (.agg #[.slice ap1 an1 ac1, .slice ap2 an2 ac2, .slice ap3 an3 ac3]) Ma (Ma.map dm9) (flat xa), aB (w11.heap.size) 31 [.slice ap1 an1 ac1, .slice ap2 an2 ac2, .slice ap3 an3 ac3], aT (.agg #[.slice bp1 bn1 bc1, .slice bp2 bn2 bc2, .slice bp3 bn3 bc3]) Mb (Mb.map dm9) (flat xb), aB (w13.heap.size) 31 [.slice bp1 bn1 bc1, .slice bp2 bn2 bc2, .slice bp3 bn3 bc3], aI (.slice (some ⟨w13.heap.size + 1, 0, none⟩) 2 2) [3, 1]] := by
    have h := (hH.mores 1).built 13 [3, 1] 2 rfl (by simp [maxLen]) #[.int .i64 3, .int .i64 1] rfl
    rw [HSZw14.out] at h
    exact h
  have hsz : (w14.alloc (.cells #[.int .i64 3, .int .i64 1] 3)).heap.size = w13.heap.size + 1 + 1 := by rw [← HSZw14.out]; simp
  generalize w14.alloc (.cells #[.int .i64 3, .int .i64 1] 3) = w15 at hB hsz ⊢
  replace hH := hB; have HSZw15 := Lib.hid hsz; clear hB hsz
  refine (fuseLabels_any HR.out (F := [3, 1]) HTa.out (by decide) (fun f hf => HPa.out.mem_iff.2 (by simp at hf ⊢; omega)) (by decide) 9 (by rw [HFx.out]; exact ⟨by decide, by decide⟩) (by decide) _ _ _ (hH.tens (k := 9) rfl) (hH.ints (k := 13) rfl)).mono ?_; rintro ew16 w16 ⟨vc, rfl, oc, hw16⟩
  rw [HFx.out] at oc
  obtain ⟨xp1, xn1, xc1, xp2, xn2, xc2, xp3, xn3, xc3, rfl⟩ := oc.shape
  replace hH : Held w w16 [aB (w1.heap.size) 24 [.int .i64 k, .int .i64 p, .int .i64 n], aI (.slice (some ⟨w1.heap.size + 1, 0, none⟩) 3 3) [3, 1, 4], aI (.slice (some ⟨w1.heap.size + 1 + 1, 0, none⟩) 3 3) [2, 3, 2], aT (.agg #[.slice cp1 cn1 cc1, .slice cp2 cn2 cc2, .slice cp3 cn3 cc3]) [3, 1, 4] ([3, 1, 4].map dm9) (flat (List.replicate (size (axs dm9 [3, 1, 4])) (rig HR.out).zero)), aB (w5.heap.size) 31 [.slice cp1 cn1 cc1, .slice cp2 cn2 cc2, .slice cp3 cn3 cc3], aI (.slice (some ⟨w5.heap.size + 1, 0, none⟩) 3 3) [1, 5, 3], aI (.slice (some ⟨w5.heap.size + 1 + 1, 0, none⟩) 3 3) [3, 2, 2], aT (.agg #[.slice dp1 dn1 dc1, .slice dp2 dn2 dc2, .slice dp3 dn3 dc3]) [1, 5, 3] ([1, 5, 3].map dm9) (flat (List.replicate (size (axs dm9 [1, 5, 3])) (rig HR.out).zero)), aB (w9.heap.size) 31 [.slice dp1 dn1 dc1, .slice dp2 dn2 dc2, .slice dp3 dn3 dc3], aT (.agg #[.slice ap1 an1 ac1, .slice ap2 an2 ac2, .slice ap3 an3 ac3]) Ma (Ma.map dm9) (flat xa), aB (w11.heap.size) 31 [.slice ap1 an1 ac1, .slice ap2 an2 ac2, .slice ap3 an3 ac3], aT (.agg #[.slice bp1 bn1 bc1, .slice bp2 bn2 bc2, .slice bp3 bn3 bc3]) Mb (Mb.map dm9) (flat xb), aB (w13.heap.size) 31 [.slice bp1 bn1 bc1, .slice bp2 bn2 bc2, .slice bp3 bn3 bc3], aI (.slice (some ⟨w13.heap.size + 1, 0, none⟩) 2 2) [3, 1], aT (.agg #[.slice xp1 xn1 xc1, .slice xp2 xn2 xc2, .slice xp3 xn3 xc3]) [4, 9] ([4, 9].map dm9) (flat (permXs HR.out dm9 Ma [4, 3, 1] xa))] := (hH.mores 1).addT 14 hw16 oc (Nat.le_refl _)
  clear hw16
  have q0_0 := (hH.blk (k := 0) rfl).cell (j := 0) rfl
  have q0_1 := (hH.blk (k := 0) rfl).cell (j := 1) rfl
  have q0_2 := (hH.blk (k := 0) rfl).cell (j := 2) rfl
  have l0_ := (hH.blk (k := 0) rfl).lt
  have q4_0 := (hH.blk (k := 4) rfl).cell (j := 0) rfl
  have q4_1 := (hH.blk (k := 4) rfl).cell (j := 1) rfl
  have q4_2 := (hH.blk (k := 4) rfl).cell (j := 2) rfl
  have l4_ := (hH.blk (k := 4) rfl).lt
  have q8_0 := (hH.blk (k := 8) rfl).cell (j := 0) rfl
  have q8_1 := (hH.blk (k := 8) rfl).cell (j := 1) rfl
  have q8_2 := (hH.blk (k := 8) rfl).cell (j := 2) rfl
  have l8_ := (hH.blk (k := 8) rfl).lt
  have q10_0 := (hH.blk (k := 10) rfl).cell (j := 0) rfl
  have q10_1 := (hH.blk (k := 10) rfl).cell (j := 1) rfl
  have q10_2 := (hH.blk (k := 10) rfl).cell (j := 2) rfl
  have l10_ := (hH.blk (k := 10) rfl).lt
  have q12_0 := (hH.blk (k := 12) rfl).cell (j := 0) rfl
  have q12_1 := (hH.blk (k := 12) rfl).cell (j := 1) rfl
  have q12_2 := (hH.blk (k := 12) rfl).cell (j := 2) rfl
  have l12_ := (hH.blk (k := 12) rfl).lt
  go_wp2_with fail
  clear q0_0 q0_1 q0_2 l0_ q4_0 q4_1 q4_2 l4_ q8_0 q8_1 q8_2 l8_ q10_0 q10_1 q10_2 l10_ q12_0 q12_1 q12_2 l12_
  have hB : Held w (w16.alloc (.cells #[.slice xp1 xn1 xc1, .slice xp2 xn2 xc2, .slice xp3 xn3 xc3] 31)) [aB (w1.heap.size) 24 [.int .i64 k, .int .i64 p, .int .i64 n], aI (.slice (some ⟨w1.heap.size + 1, 0, none⟩) 3 3) [3, 1, 4], aI (.slice (some ⟨w1.heap.size + 1 + 1, 0, none⟩) 3 3) [2, 3, 2], aT (.agg #[.slice cp1 cn1 cc1, .slice cp2 cn2 cc2, .slice cp3 cn3 cc3]) [3, 1, 4] ([3, 1, 4].map dm9) (flat (List.replicate (size (axs dm9 [3, 1, 4])) (rig HR.out).zero)), aB (w5.heap.size) 31 [.slice cp1 cn1 cc1, .slice cp2 cn2 cc2, .slice cp3 cn3 cc3], aI (.slice (some ⟨w5.heap.size + 1, 0, none⟩) 3 3) [1, 5, 3], aI (.slice (some ⟨w5.heap.size + 1 + 1, 0, none⟩) 3 3) [3, 2, 2], aT (.agg #[.slice dp1 dn1 dc1, .slice dp2 dn2 dc2, .slice dp3 dn3 dc3]) [1, 5, 3] ([1, 5, 3].map dm9) (flat (List.replicate (size (axs dm9 [1, 5, 3])) (rig HR.out).zero)), aB (w9.heap.size) 31 [.slice dp1 dn1 dc1, .slice dp2 dn2 dc2, .slice dp3 dn3 dc3], aT (.agg #[.slice ap1 an1 ac1, .slice ap2 an2 ac2, .slice ap3 an3 ac3]) Ma (Ma.map dm9) (flat xa), aB (w11.heap.size) 31 [.slice ap1 an1 ac1, .slice ap2 an2 ac2, .slice ap3 an3 ac3], aT (.agg #[.slice bp1 bn1 bc1, .slice bp2 bn2 bc2, .slice bp3 bn3 bc3]) Mb (Mb.map dm9) (flat xb), aB (w13.heap.size) 31 [.slice bp1 bn1 bc1, .slice bp2 bn2 bc2, .slice bp3 bn3 bc3], aI (.slice (some ⟨w13.heap.size + 1, 0, none⟩) 2 2) [3, 1], aT (.agg #[.slice xp1 xn1 xc1, .slice xp2 xn2 xc2, .slice xp3 xn3 xc3]) [4, 9] ([4, 9].map dm9) (flat (permXs HR.out dm9 Ma [4, 3, 1] xa)), aB (w16.heap.size) 31 [.slice xp1 xn1 xc1, .slice xp2 xn2 xc2, .slice xp3 xn3 xc3]] := by
    have h := (hH.mores 1).addB 15 #[.slice xp1 xn1 xc1, .slice xp2 xn2 xc2, .slice xp3 xn3 xc3] 31
    exact h
  have hsz : (w16.alloc (.cells #[.slice xp1 xn1 xc1, .slice xp2 xn2 xc2, .slice xp3 xn3 xc3] 31)).heap.size = w16.heap.size + 1 := by simp
  generalize w16.alloc (.cells #[.slice xp1 xn1 xc1, .slice xp2 xn2 xc2, .slice xp3 xn3 xc3] 31) = w17 at hB hsz ⊢
  replace hH := hB; have HSZw17 := Lib.hid hsz; clear hB hsz
  have q0_0 := (hH.blk (k := 0) rfl).cell (j := 0) rfl
  have q0_1 := (hH.blk (k := 0) rfl).cell (j := 1) rfl
  have q0_2 := (hH.blk (k := 0) rfl).cell (j := 2) rfl
  have l0_ := (hH.blk (k := 0) rfl).lt
  have q4_0 := (hH.blk (k := 4) rfl).cell (j := 0) rfl
  have q4_1 := (hH.blk (k := 4) rfl).cell (j := 1) rfl
  have q4_2 := (hH.blk (k := 4) rfl).cell (j := 2) rfl
  have l4_ := (hH.blk (k := 4) rfl).lt
  have q8_0 := (hH.blk (k := 8) rfl).cell (j := 0) rfl
  have q8_1 := (hH.blk (k := 8) rfl).cell (j := 1) rfl
  have q8_2 := (hH.blk (k := 8) rfl).cell (j := 2) rfl
  have l8_ := (hH.blk (k := 8) rfl).lt
  have q10_0 := (hH.blk (k := 10) rfl).cell (j := 0) rfl
  have q10_1 := (hH.blk (k := 10) rfl).cell (j := 1) rfl
  have q10_2 := (hH.blk (k := 10) rfl).cell (j := 2) rfl
  have l10_ := (hH.blk (k := 10) rfl).lt
  have q12_0 := (hH.blk (k := 12) rfl).cell (j := 0) rfl
  have q12_1 := (hH.blk (k := 12) rfl).cell (j := 1) rfl
  have q12_2 := (hH.blk (k := 12) rfl).cell (j := 2) rfl
  have l12_ := (hH.blk (k := 12) rfl).lt
  have q15_0 := (hH.blk (k := 15) rfl).cell (j := 0) rfl
  have q15_1 := (hH.blk (k := 15) rfl).cell (j := 1) rfl
  have q15_2 := (hH.blk (k := 15) rfl).cell (j := 2) rfl
  have l15_ := (hH.blk (k := 15) rfl).lt
  go_wp2_with fail
  clear q0_0 q0_1 q0_2 l0_ q4_0 q4_1 q4_2 l4_ q8_0 q8_1 q8_2 l8_ q10_0 q10_1 q10_2 l10_ q12_0 q12_1 q12_2 l12_ q15_0 q15_1 q15_2 l15_
  have HFy := Lib.hid (rest153 HPb.out)
  have hB : Held w (w17.alloc (.cells #[.int .i64 3, .int .i64 1] 3)) [aB (w1.heap.size) 24 [.int .i64 k, .int .i64 p, .int .i64 n], aI (.slice (some ⟨w1.heap.size + 1, 0, none⟩) 3 3) [3, 1, 4], aI (.slice (some ⟨w1.heap.size + 1 + 1, 0, none⟩) 3 3) [2, 3, 2], aT (.agg #[.slice cp1 cn1 cc1, .slice cp2 cn2 cc2, .slice cp3 cn3 cc3]) [3, 1, 4] ([3, 1, 4].map dm9) (flat (List.replicate (size (axs dm9 [3, 1, 4])) (rig HR.out).zero)), aB (w5.heap.size) 31 [.slice cp1 cn1 cc1, .slice cp2 cn2 cc2, .slice cp3 cn3 cc3], aI (.slice (some ⟨w5.heap.size + 1, 0, none⟩) 3 3) [1, 5, 3], aI (.slice (some ⟨w5.heap.size + 1 + 1, 0, none⟩) 3 3) [3, 2, 2], aT (.agg #[.slice dp1 dn1 dc1, .slice dp2 dn2 dc2, .slice dp3 dn3 dc3]) [1, 5, 3] ([1, 5, 3].map dm9) (flat (List.replicate (size (axs dm9 [1, 5, 3])) (rig HR.out).zero)), aB (w9.heap.size) 31 [.slice dp1 dn1 dc1, .slice dp2 dn2 dc2, .slice dp3 dn3 dc3], aT (.agg #[.slice ap1 an1 ac1, .slice ap2 an2 ac2, .slice ap3 an3 ac3]) Ma (Ma.map dm9) (flat xa), aB (w11.heap.size) 31 [.slice ap1 an1 ac1, .slice ap2 an2 ac2, .slice ap3 an3 ac3], aT (.agg #[.slice bp1 bn1 bc1, .slice bp2 bn2 bc2, .slice bp3 bn3 bc3]) Mb (Mb.map dm9) (flat xb), aB (w13.heap.size) 31 [.slice bp1 bn1 bc1, .slice bp2 bn2 bc2, .slice bp3 bn3 bc3], aI (.slice (some ⟨w13.heap.size + 1, 0, none⟩) 2 2) [3, 1], aT (.agg #[.slice xp1 xn1 xc1, .slice xp2 xn2 xc2, .slice xp3 xn3 xc3]) [4, 9] ([4, 9].map dm9) (flat (permXs HR.out dm9 Ma [4, 3, 1] xa)), aB (w16.heap.size) 31 [.slice xp1 xn1 xc1, .slice xp2 xn2 xc2, .slice xp3 xn3 xc3], aI (.slice (some ⟨w16.heap.size + 1, 0, none⟩) 2 2) [3, 1]] := by
    have h := (hH.mores 1).built 16 [3, 1] 2 rfl (by simp [maxLen]) #[.int .i64 3, .int .i64 1] rfl
    rw [HSZw17.out] at h
    exact h
  have hsz : (w17.alloc (.cells #[.int .i64 3, .int .i64 1] 3)).heap.size = w16.heap.size + 1 + 1 := by rw [← HSZw17.out]; simp
  generalize w17.alloc (.cells #[.int .i64 3, .int .i64 1] 3) = w18 at hB hsz ⊢
  replace hH := hB; have HSZw18 := Lib.hid hsz; clear hB hsz
  refine (fuseLabels_any HR.out (F := [3, 1]) HTb.out (by decide) (fun f hf => HPb.out.mem_iff.2 (by simp at hf ⊢; omega)) (by decide) 9 (by rw [HFy.out]; exact ⟨by decide, by decide⟩) (by decide) _ _ _ (hH.tens (k := 11) rfl) (hH.ints (k := 16) rfl)).mono ?_; rintro ew19 w19 ⟨vc, rfl, oc, hw19⟩
  rw [HFy.out] at oc
  obtain ⟨yp1, yn1, yc1, yp2, yn2, yc2, yp3, yn3, yc3, rfl⟩ := oc.shape
  replace hH : Held w w19 [aB (w1.heap.size) 24 [.int .i64 k, .int .i64 p, .int .i64 n], aI (.slice (some ⟨w1.heap.size + 1, 0, none⟩) 3 3) [3, 1, 4], aI (.slice (some ⟨w1.heap.size + 1 + 1, 0, none⟩) 3 3) [2, 3, 2], aT (.agg #[.slice cp1 cn1 cc1, .slice cp2 cn2 cc2, .slice cp3 cn3 cc3]) [3, 1, 4] ([3, 1, 4].map dm9) (flat (List.replicate (size (axs dm9 [3, 1, 4])) (rig HR.out).zero)), aB (w5.heap.size) 31 [.slice cp1 cn1 cc1, .slice cp2 cn2 cc2, .slice cp3 cn3 cc3], aI (.slice (some ⟨w5.heap.size + 1, 0, none⟩) 3 3) [1, 5, 3], aI (.slice (some ⟨w5.heap.size + 1 + 1, 0, none⟩) 3 3) [3, 2, 2], aT (.agg #[.slice dp1 dn1 dc1, .slice dp2 dn2 dc2, .slice dp3 dn3 dc3]) [1, 5, 3] ([1, 5, 3].map dm9) (flat (List.replicate (size (axs dm9 [1, 5, 3])) (rig HR.out).zero)), aB (w9.heap.size) 31 [.slice dp1 dn1 dc1, .slice dp2 dn2 dc2, .slice dp3 dn3 dc3], aT (.agg #[.slice ap1 an1 ac1, .slice ap2 an2 ac2, .slice ap3 an3 ac3]) Ma (Ma.map dm9) (flat xa), aB (w11.heap.size) 31 [.slice ap1 an1 ac1, .slice ap2 an2 ac2, .slice ap3 an3 ac3], aT (.agg #[.slice bp1 bn1 bc1, .slice bp2 bn2 bc2, .slice bp3 bn3 bc3]) Mb (Mb.map dm9) (flat xb), aB (w13.heap.size) 31 [.slice bp1 bn1 bc1, .slice bp2 bn2 bc2, .slice bp3 bn3 bc3], aI (.slice (some ⟨w13.heap.size + 1, 0, none⟩) 2 2) [3, 1], aT (.agg #[.slice xp1 xn1 xc1, .slice xp2 xn2 xc2, .slice xp3 xn3 xc3]) [4, 9] ([4, 9].map dm9) (flat (permXs HR.out dm9 Ma [4, 3, 1] xa)), aB (w16.heap.size) 31 [.slice xp1 xn1 xc1, .slice xp2 xn2 xc2, .slice xp3 xn3 xc3], aI (.slice (some ⟨w16.heap.size + 1, 0, none⟩) 2 2) [3, 1], aT (.agg #[.slice yp1 yn1 yc1, .slice yp2 yn2 yc2, .slice yp3 yn3 yc3]) [5, 9] ([5, 9].map dm9) (flat (permXs HR.out dm9 Mb [5, 3, 1] xb))] := (hH.mores 1).addT 17 hw19 oc (Nat.le_refl _)
  clear hw19
  have q0_0 := (hH.blk (k := 0) rfl).cell (j := 0) rfl
  have q0_1 := (hH.blk (k := 0) rfl).cell (j := 1) rfl
  have q0_2 := (hH.blk (k := 0) rfl).cell (j := 2) rfl
  have l0_ := (hH.blk (k := 0) rfl).lt
  have q4_0 := (hH.blk (k := 4) rfl).cell (j := 0) rfl
  have q4_1 := (hH.blk (k := 4) rfl).cell (j := 1) rfl
  have q4_2 := (hH.blk (k := 4) rfl).cell (j := 2) rfl
  have l4_ := (hH.blk (k := 4) rfl).lt
  have q8_0 := (hH.blk (k := 8) rfl).cell (j := 0) rfl
  have q8_1 := (hH.blk (k := 8) rfl).cell (j := 1) rfl
  have q8_2 := (hH.blk (k := 8) rfl).cell (j := 2) rfl
  have l8_ := (hH.blk (k := 8) rfl).lt
  have q10_0 := (hH.blk (k := 10) rfl).cell (j := 0) rfl
  have q10_1 := (hH.blk (k := 10) rfl).cell (j := 1) rfl
  have q10_2 := (hH.blk (k := 10) rfl).cell (j := 2) rfl
  have l10_ := (hH.blk (k := 10) rfl).lt
  have q12_0 := (hH.blk (k := 12) rfl).cell (j := 0) rfl
  have q12_1 := (hH.blk (k := 12) rfl).cell (j := 1) rfl
  have q12_2 := (hH.blk (k := 12) rfl).cell (j := 2) rfl
  have l12_ := (hH.blk (k := 12) rfl).lt
  have q15_0 := (hH.blk (k := 15) rfl).cell (j := 0) rfl
  have q15_1 := (hH.blk (k := 15) rfl).cell (j := 1) rfl
  have q15_2 := (hH.blk (k := 15) rfl).cell (j := 2) rfl
  have l15_ := (hH.blk (k := 15) rfl).lt
  go_wp2_with fail
  clear q0_0 q0_1 q0_2 l0_ q4_0 q4_1 q4_2 l4_ q8_0 q8_1 q8_2 l8_ q10_0 q10_1 q10_2 l10_ q12_0 q12_1 q12_2 l12_ q15_0 q15_1 q15_2 l15_
  have hB : Held w (w19.alloc (.cells #[.slice yp1 yn1 yc1, .slice yp2 yn2 yc2, .slice yp3 yn3 yc3] 31)) [aB (w1.heap.size) 24 [.int .i64 k, .int .i64 p, .int .i64 n], aI (.slice (some ⟨w1.heap.size + 1, 0, none⟩) 3 3) [3, 1, 4], aI (.slice (some ⟨w1.heap.size + 1 + 1, 0, none⟩) 3 3) [2, 3, 2], aT (.agg #[.slice cp1 cn1 cc1, .slice cp2 cn2 cc2, .slice cp3 cn3 cc3]) [3, 1, 4] ([3, 1, 4].map dm9) (flat (List.replicate (size (axs dm9 [3, 1, 4])) (rig HR.out).zero)), aB (w5.heap.size) 31 [.slice cp1 cn1 cc1, .slice cp2 cn2 cc2, .slice cp3 cn3 cc3], aI (.slice (some ⟨w5.heap.size + 1, 0, none⟩) 3 3) [1, 5, 3], aI (.slice (some ⟨w5.heap.size + 1 + 1, 0, none⟩) 3 3) [3, 2, 2], aT (.agg #[.slice dp1 dn1 dc1, .slice dp2 dn2 dc2, .slice dp3 dn3 dc3]) [1, 5, 3] ([1, 5, 3].map dm9) (flat (List.replicate (size (axs dm9 [1, 5, 3])) (rig HR.out).zero)), aB (w9.heap.size) 31 [.slice dp1 dn1 dc1, .slice dp2 dn2 dc2, .slice dp3 dn3 dc3], aT (.agg #[.slice ap1 an1 ac1, .slice ap2 an2 ac2, .slice ap3 an3 ac3]) Ma (Ma.map dm9) (flat xa), aB (w11.heap.size) 31 [.slice ap1 an1 ac1, .slice ap2 an2 ac2, .slice ap3 an3 ac3], aT (.agg #[.slice bp1 bn1 bc1, .slice bp2 bn2 bc2, .slice bp3 bn3 bc3]) Mb (Mb.map dm9) (flat xb), aB (w13.heap.size) 31 [.slice bp1 bn1 bc1, .slice bp2 bn2 bc2, .slice bp3 bn3 bc3], aI (.slice (some ⟨w13.heap.size + 1, 0, none⟩) 2 2) [3, 1], aT (.agg #[.slice xp1 xn1 xc1, .slice xp2 xn2 xc2, .slice xp3 xn3 xc3]) [4, 9] ([4, 9].map dm9) (flat (permXs HR.out dm9 Ma [4, 3, 1] xa)), aB (w16.heap.size) 31 [.slice xp1 xn1 xc1, .slice xp2 xn2 xc2, .slice xp3 xn3 xc3], aI (.slice (some ⟨w16.heap.size + 1, 0, none⟩) 2 2) [3, 1], aT (.agg #[.slice yp1 yn1 yc1, .slice yp2 yn2 yc2, .slice yp3 yn3 yc3]) [5, 9] ([5, 9].map dm9) (flat (permXs HR.out dm9 Mb [5, 3, 1] xb)), aB (w19.heap.size) 31 [.slice yp1 yn1 yc1, .slice yp2 yn2 yc2, .slice yp3 yn3 yc3]] := by
    have h := (hH.mores 1).addB 18 #[.slice yp1 yn1 yc1, .slice yp2 yn2 yc2, .slice yp3 yn3 yc3] 31
    exact h
  have hsz : (w19.alloc (.cells #[.slice yp1 yn1 yc1, .slice yp2 yn2 yc2, .slice yp3 yn3 yc3] 31)).heap.size = w19.heap.size + 1 := by simp
  generalize w19.alloc (.cells #[.slice yp1 yn1 yc1, .slice yp2 yn2 yc2, .slice yp3 yn3 yc3] 31) = w20 at hB hsz ⊢
  replace hH := hB; have HSZw20 := Lib.hid hsz; clear hB hsz
  have q0_0 := (hH.blk (k := 0) rfl).cell (j := 0) rfl
  have q0_1 := (hH.blk (k := 0) rfl).cell (j := 1) rfl
  have q0_2 := (hH.blk (k := 0) rfl).cell (j := 2) rfl
  have l0_ := (hH.blk (k := 0) rfl).lt
  have q4_0 := (hH.blk (k := 4) rfl).cell (j := 0) rfl
  have q4_1 := (hH.blk (k := 4) rfl).cell (j := 1) rfl
  have q4_2 := (hH.blk (k := 4) rfl).cell (j := 2) rfl
  have l4_ := (hH.blk (k := 4) rfl).lt
  have q8_0 := (hH.blk (k := 8) rfl).cell (j := 0) rfl
  have q8_1 := (hH.blk (k := 8) rfl).cell (j := 1) rfl
  have q8_2 := (hH.blk (k := 8) rfl).cell (j := 2) rfl
  have l8_ := (hH.blk (k := 8) rfl).lt
  have q10_0 := (hH.blk (k := 10) rfl).cell (j := 0) rfl
  have q10_1 := (hH.blk (k := 10) rfl).cell (j := 1) rfl
  have q10_2 := (hH.blk (k := 10) rfl).cell (j := 2) rfl
  have l10_ := (hH.blk (k := 10) rfl).lt
  have q12_0 := (hH.blk (k := 12) rfl).cell (j := 0) rfl
  have q12_1 := (hH.blk (k := 12) rfl).cell (j := 1) rfl
  have q12_2 := (hH.blk (k := 12) rfl).cell (j := 2) rfl
  have l12_ := (hH.blk (k := 12) rfl).lt
  have q15_0 := (hH.blk (k := 15) rfl).cell (j := 0) rfl
  have q15_1 := (hH.blk (k := 15) rfl).cell (j := 1) rfl
  have q15_2 := (hH.blk (k := 15) rfl).cell (j := 2) rfl
  have l15_ := (hH.blk (k := 15) rfl).lt
  have q18_0 := (hH.blk (k := 18) rfl).cell (j := 0) rfl
  have q18_1 := (hH.blk (k := 18) rfl).cell (j := 1) rfl
  have q18_2 := (hH.blk (k := 18) rfl).cell (j := 2) rfl
  have l18_ := (hH.blk (k := 18) rfl).lt
  go_wp2_with fail
  clear q0_0 q0_1 q0_2 l0_ q4_0 q4_1 q4_2 l4_ q8_0 q8_1 q8_2 l8_ q10_0 q10_1 q10_2 l10_ q12_0 q12_1 q12_2 l12_ q15_0 q15_1 q15_2 l15_ q18_0 q18_1 q18_2 l18_
  have HTx : Hid (IsT k p n dm9 U9 [4, 9] (permXs HR.out dm9 Ma [4, 3, 1] xa)) := Lib.hid (fused_isT (F := [3, 1]) (R := [4]) (perm_isT HR.out HTa.out (by exact HPa.out.trans (by decide))) ⟨by decide, by decide⟩ (by decide))
  have HTy : Hid (IsT k p n dm9 U9 [5, 9] (permXs HR.out dm9 Mb [5, 3, 1] xb)) := Lib.hid (fused_isT (F := [3, 1]) (R := [5]) (perm_isT HR.out HTb.out (by exact HPb.out.trans (by decide))) ⟨by decide, by decide⟩ (by decide))
  have hzz : (permXs HR.out dm9 [4, 9] [4, 9] (permXs HR.out dm9 Ma [4, 3, 1] xa)) = (permXs HR.out dm9 Ma [4, 3, 1] xa) := permXs_selfT HR.out HTx.out
  have HZZ := Lib.hid hzz; clear hzz
  have hB : Held w (w20.alloc (.cells #[.int .i64 3, .int .i64 1] 3)) [aB (w1.heap.size) 24 [.int .i64 k, .int .i64 p, .int .i64 n], aI (.slice (some ⟨w1.heap.size + 1, 0, none⟩) 3 3) [3, 1, 4], aI (.slice (some ⟨w1.heap.size + 1 + 1, 0, none⟩) 3 3) [2, 3, 2], aT (.agg #[.slice cp1 cn1 cc1, .slice cp2 cn2 cc2, .slice cp3 cn3 cc3]) [3, 1, 4] ([3, 1, 4].map dm9) (flat (List.replicate (size (axs dm9 [3, 1, 4])) (rig HR.out).zero)), aB (w5.heap.size) 31 [.slice cp1 cn1 cc1, .slice cp2 cn2 cc2, .slice cp3 cn3 cc3], aI (.slice (some ⟨w5.heap.size + 1, 0, none⟩) 3 3) [1, 5, 3], aI (.slice (some ⟨w5.heap.size + 1 + 1, 0, none⟩) 3 3) [3, 2, 2], aT (.agg #[.slice dp1 dn1 dc1, .slice dp2 dn2 dc2, .slice dp3 dn3 dc3]) [1, 5, 3] ([1, 5, 3].map dm9) (flat (List.replicate (size (axs dm9 [1, 5, 3])) (rig HR.out).zero)), aB (w9.heap.size) 31 [.slice dp1 dn1 dc1, .slice dp2 dn2 dc2, .slice dp3 dn3 dc3], aT (.agg #[.slice ap1 an1 ac1, .slice ap2 an2 ac2, .slice ap3 an3 ac3]) Ma (Ma.map dm9) (flat xa), aB (w11.heap.size) 31 [.slice ap1 an1 ac1, .slice ap2 an2 ac2, .slice ap3 an3 ac3], aT (.agg #[.slice bp1 bn1 bc1, .slice bp2 bn2 bc2, .slice bp3 bn3 bc3]) Mb (Mb.map dm9) (flat xb), aB (w13.heap.size) 31 [.slice bp1 bn1 bc1, .slice bp2 bn2 bc2, .slice bp3 bn3 bc3], aI (.slice (some ⟨w13.heap.size + 1, 0, none⟩) 2 2) [3, 1], aT (.agg #[.slice xp1 xn1 xc1, .slice xp2 xn2 xc2, .slice xp3 xn3 xc3]) [4, 9] ([4, 9].map dm9) (flat (permXs HR.out dm9 Ma [4, 3, 1] xa)), aB (w16.heap.size) 31 [.slice xp1 xn1 xc1, .slice xp2 xn2 xc2, .slice xp3 xn3 xc3], aI (.slice (some ⟨w16.heap.size + 1, 0, none⟩) 2 2) [3, 1], aT (.agg #[.slice yp1 yn1 yc1, .slice yp2 yn2 yc2, .slice yp3 yn3 yc3]) [5, 9] ([5, 9].map dm9) (flat (permXs HR.out dm9 Mb [5, 3, 1] xb)), aB (w19.heap.size) 31 [.slice yp1 yn1 yc1, .slice yp2 yn2 yc2, .slice yp3 yn3 yc3], aI (.slice (some ⟨w19.heap.size + 1, 0, none⟩) 2 2) [3, 1]] := by
    have h := (hH.mores 1).built 19 [3, 1] 2 rfl (by simp [maxLen]) #[.int .i64 3, .int .i64 1] rfl
    rw [HSZw20.out] at h
    exact h
  have hsz : (w20.alloc (.cells #[.int .i64 3, .int .i64 1] 3)).heap.size = w19.heap.size + 1 + 1 := by rw [← HSZw20.out]; simp
  generalize w20.alloc (.cells #[.int .i64 3, .int .i64 1] 3) = w21 at hB hsz ⊢
  replace hH := hB; have HSZw21 := Lib.hid hsz; clear hB hsz
  have hB : Held w (w21.alloc (.cells #[.int .i64 2, .int .i64 3] 3)) [aB (w1.heap.size) 24 [.int .i64 k, .int .i64 p, .int .i64 n], aI (.slice (some ⟨w1.heap.size + 1, 0, none⟩) 3 3) [3, 1, 4], aI (.slice (some ⟨w1.heap.size + 1 + 1, 0, none⟩) 3 3) [2, 3, 2], aT (.agg #[.slice cp1 cn1 cc1, .slice cp2 cn2 cc2, .slice cp3 cn3 cc3]) [3, 1, 4] ([3, 1, 4].map dm9) (flat (List.replicate (size (axs dm9 [3, 1, 4])) (rig HR.out).zero)), aB (w5.heap.size) 31 [.slice cp1 cn1 cc1, .slice cp2 cn2 cc2, .slice cp3 cn3 cc3], aI (.slice (some ⟨w5.heap.size + 1, 0, none⟩) 3 3) [1, 5, 3], aI (.slice (some ⟨w5.heap.size + 1 + 1, 0, none⟩) 3 3) [3, 2, 2], aT (.agg #[.slice dp1 dn1 dc1, .slice dp2 dn2 dc2, .slice dp3 dn3 dc3]) [1, 5, 3] ([1, 5, 3].map dm9) (flat (List.replicate (size (axs dm9 [1, 5, 3])) (rig HR.out).zero)), aB (w9.heap.size) 31 [.slice dp1 dn1 dc1, .slice dp2 dn2 dc2, .slice dp3 dn3 dc3], aT (.agg #[.slice ap1 an1 ac1, .slice ap2 an2 ac2, .slice ap3 an3 ac3]) Ma (Ma.map dm9) (flat xa), aB (w11.heap.size) 31 [.slice ap1 an1 ac1, .slice ap2 an2 ac2, .slice ap3 an3 ac3], aT (.agg #[.slice bp1 bn1 bc1, .slice bp2 bn2 bc2, .slice bp3 bn3 bc3]) Mb (Mb.map dm9) (flat xb), aB (w13.heap.size) 31 [.slice bp1 bn1 bc1, .slice bp2 bn2 bc2, .slice bp3 bn3 bc3], aI (.slice (some ⟨w13.heap.size + 1, 0, none⟩) 2 2) [3, 1], aT (.agg #[.slice xp1 xn1 xc1, .slice xp2 xn2 xc2, .slice xp3 xn3 xc3]) [4, 9] ([4, 9].map dm9) (flat (permXs HR.out dm9 Ma [4, 3, 1] xa)), aB (w16.heap.size) 31 [.slice xp1 xn1 xc1, .slice xp2 xn2 xc2, .slice xp3 xn3 xc3], aI (.slice (some ⟨w16.heap.size + 1, 0, none⟩) 2 2) [3, 1], aT (.agg #[.slice yp1 yn1 yc1, .slice yp2 yn2 yc2, .slice yp3 yn3 yc3]) [5, 9] ([5, 9].map dm9) (flat (permXs HR.out dm9 Mb [5, 3, 1] xb)), aB (w19.heap.size) 31 [.slice yp1 yn1 yc1, .slice yp2 yn2 yc2, .slice yp3 yn3 yc3], aI (.slice (some ⟨w19.heap.size + 1, 0, none⟩) 2 2) [3, 1], aI (.slice (some ⟨w19.heap.size + 1 + 1, 0, none⟩) 2 2) [2, 3]] := by
    have h := (hH.mores 1).built 20 [2, 3] 2 rfl (by simp [maxLen]) #[.int .i64 2, .int .i64 3] rfl
    rw [HSZw21.out] at h
    exact h
  have hsz : (w21.alloc (.cells #[.int .i64 2, .int .i64 3] 3)).heap.size = w19.heap.size + 1 + 1 + 1 := by rw [← HSZw21.out]; simp
  generalize w21.alloc (.cells #[.int .i64 2, .int .i64 3] 3) = w22 at hB hsz ⊢
  replace hH := hB; have HSZw22 := Lib.hid hsz; clear hB hsz
  refine (splitLabel_any HR.out (F := [3, 1]) HTx.out 9 (by decide) (by decide) (by rw [show cutL [4, 9] 9 ++ [3, 1] = [4, 3, 1] by decide]; exact ⟨by decide, by decide⟩) (by decide) _ _ _ _ (hH.tens (k := 14) rfl) (hH.ints (k := 19) rfl) (by rw [show [3, 1].map dm9 = [2, 3] by decide]; exact (hH.ints (k := 20) rfl))).mono ?_; rintro ew23 w23 ⟨vc, rfl, oc, hw23⟩
  rw [show cutL [4, 9] 9 ++ [3, 1] = [4, 3, 1] by decide, show cutL [4, 9] 9 ++ [9] = [4, 9] by decide, HZZ.out] at oc
  obtain ⟨zp1, zn1, zc1, zp2, zn2, zc2, zp3, zn3, zc3, rfl⟩ := oc.shape
  replace hH : Held w w23 [aB (w1.heap.size) 24 [.int .i64 k, .int .i64 p, .int .i64 n], aI (.slice (some ⟨w1.heap.size + 1, 0, none⟩) 3 3) [3, 1, 4], aI (.slice (some ⟨w1.heap.size + 1 + 1, 0, none⟩) 3 3) [2, 3, 2], aT (.agg #[.slice cp1 cn1 cc1, .slice cp2 cn2 cc2, .slice cp3 cn3 cc3]) [3, 1, 4] ([3, 1, 4].map dm9) (flat (List.replicate (size (axs dm9 [3, 1, 4])) (rig HR.out).zero)), aB (w5.heap.size) 31 [.slice cp1 cn1 cc1, .slice cp2 cn2 cc2, .slice cp3 cn3 cc3], aI (.slice (some ⟨w5.heap.size + 1, 0, none⟩) 3 3) [1, 5, 3], aI (.slice (some ⟨w5.heap.size + 1 + 1, 0, none⟩) 3 3) [3, 2, 2], aT (.agg #[.slice dp1 dn1 dc1, .slice dp2 dn2 dc2, .slice dp3 dn3 dc3]) [1, 5, 3] ([1, 5, 3].map dm9) (flat (List.replicate (size (axs dm9 [1, 5, 3])) (rig HR.out).zero)), aB (w9.heap.size) 31 [.slice dp1 dn1 dc1, .slice dp2 dn2 dc2, .slice dp3 dn3 dc3], aT (.agg #[.slice ap1 an1 ac1, .slice ap2 an2 ac2, .slice ap3 an3 ac3]) Ma (Ma.map dm9) (flat xa), aB (w11.heap.size) 31 [.slice ap1 an1 ac1, .slice ap2 an2 ac2, .slice ap3 an3 ac3], aT (.agg #[.slice bp1 bn1 bc1, .slice bp2 bn2 bc2, .slice bp3 bn3 bc3]) Mb (Mb.map dm9) (flat xb), aB (w13.heap.size) 31 [.slice bp1 bn1 bc1, .slice bp2 bn2 bc2, .slice bp3 bn3 bc3], aI (.slice (some ⟨w13.heap.size + 1, 0, none⟩) 2 2) [3, 1], aT (.agg #[.slice xp1 xn1 xc1, .slice xp2 xn2 xc2, .slice xp3 xn3 xc3]) [4, 9] ([4, 9].map dm9) (flat (permXs HR.out dm9 Ma [4, 3, 1] xa)), aB (w16.heap.size) 31 [.slice xp1 xn1 xc1, .slice xp2 xn2 xc2, .slice xp3 xn3 xc3], aI (.slice (some ⟨w16.heap.size + 1, 0, none⟩) 2 2) [3, 1], aT (.agg #[.slice yp1 yn1 yc1, .slice yp2 yn2 yc2, .slice yp3 yn3 yc3]) [5, 9] ([5, 9].map dm9) (flat (permXs HR.out dm9 Mb [5, 3, 1] xb)), aB (w19.heap.size) 31 [.slice yp1 yn1 yc1, .slice yp2 yn2 yc2, .slice yp3 yn3 yc3], aI (.slice (some ⟨w19.heap.size + 1, 0, none⟩) 2 2) [3, 1], aI (.slice (some ⟨w19.heap.size + 1 + 1, 0, none⟩) 2 2) [2, 3], aT (.agg #[.slice zp1 zn1 zc1, .slice zp2 zn2 zc2, .slice zp3 zn3 zc3]) [4, 3, 1] ([4, 3, 1].map dm9) (flat (permXs HR.out dm9 Ma [4, 3, 1] xa))] := (hH.mores 1).addT 21 hw23 oc (Nat.le_refl _)
  clear hw23
  have q0_0 := (hH.blk (k := 0) rfl).cell (j := 0) rfl
  have q0_1 := (hH.blk (k := 0) rfl).cell (j := 1) rfl
  have q0_2 := (hH.blk (k := 0) rfl).cell (j := 2) rfl
  have l0_ := (hH.blk (k := 0) rfl).lt
  have q4_0 := (hH.blk (k := 4) rfl).cell (j := 0) rfl
  have q4_1 := (hH.blk (k := 4) rfl).cell (j := 1) rfl
  have q4_2 := (hH.blk (k := 4) rfl).cell (j := 2) rfl
  have l4_ := (hH.blk (k := 4) rfl).lt
  have q8_0 := (hH.blk (k := 8) rfl).cell (j := 0) rfl
  have q8_1 := (hH.blk (k := 8) rfl).cell (j := 1) rfl
  have q8_2 := (hH.blk (k := 8) rfl).cell (j := 2) rfl
  have l8_ := (hH.blk (k := 8) rfl).lt
  have q10_0 := (hH.blk (k := 10) rfl).cell (j := 0) rfl
  have q10_1 := (hH.blk (k := 10) rfl).cell (j := 1) rfl
  have q10_2 := (hH.blk (k := 10) rfl).cell (j := 2) rfl
  have l10_ := (hH.blk (k := 10) rfl).lt
  have q12_0 := (hH.blk (k := 12) rfl).cell (j := 0) rfl
  have q12_1 := (hH.blk (k := 12) rfl).cell (j := 1) rfl
  have q12_2 := (hH.blk (k := 12) rfl).cell (j := 2) rfl
  have l12_ := (hH.blk (k := 12) rfl).lt
  have q15_0 := (hH.blk (k := 15) rfl).cell (j := 0) rfl
  have q15_1 := (hH.blk (k := 15) rfl).cell (j := 1) rfl
  have q15_2 := (hH.blk (k := 15) rfl).cell (j := 2) rfl
  have l15_ := (hH.blk (k := 15) rfl).lt
  have q18_0 := (hH.blk (k := 18) rfl).cell (j := 0) rfl
  have q18_1 := (hH.blk (k := 18) rfl).cell (j := 1) rfl
  have q18_2 := (hH.blk (k := 18) rfl).cell (j := 2) rfl
  have l18_ := (hH.blk (k := 18) rfl).lt
  go_wp2_with fail
  clear q0_0 q0_1 q0_2 l0_ q4_0 q4_1 q4_2 l4_ q8_0 q8_1 q8_2 l8_ q10_0 q10_1 q10_2 l10_ q12_0 q12_1 q12_2 l12_ q15_0 q15_1 q15_2 l15_ q18_0 q18_1 q18_2 l18_
  have hB : Held w (w23.alloc (.cells #[.slice zp1 zn1 zc1, .slice zp2 zn2 zc2, .slice zp3 zn3 zc3] 31)) [aB (w1.heap.size) 24 [.int .i64 k, .int .i64 p, .int .i64 n], aI (.slice (some ⟨w1.heap.size + 1, 0, none⟩) 3 3) [3, 1, 4], aI (.slice (some ⟨w1.heap.size + 1 + 1, 0, none⟩) 3 3) [2, 3, 2], aT (.agg #[.slice cp1 cn1 cc1, .slice cp2 cn2 cc2, .slice cp3 cn3 cc3]) [3, 1, 4] ([3, 1, 4].map dm9) (flat (List.replicate (size (axs dm9 [3, 1, 4])) (rig HR.out).zero)), aB (w5.heap.size) 31 [.slice cp1 cn1 cc1, .slice cp2 cn2 cc2, .slice cp3 cn3 cc3], aI (.slice (some ⟨w5.heap.size + 1, 0, none⟩) 3 3) [1, 5, 3], aI (.slice (some ⟨w5.heap.size + 1 + 1, 0, none⟩) 3 3) [3, 2, 2], aT (.agg #[.slice dp1 dn1 dc1, .slice dp2 dn2 dc2, .slice dp3 dn3 dc3]) [1, 5, 3] ([1, 5, 3].map dm9) (flat (List.replicate (size (axs dm9 [1, 5, 3])) (rig HR.out).zero)), aB (w9.heap.size) 31 [.slice dp1 dn1 dc1, .slice dp2 dn2 dc2, .slice dp3 dn3 dc3], aT (.agg #[.slice ap1 an1 ac1, .slice ap2 an2 ac2, .slice ap3 an3 ac3]) Ma (Ma.map dm9) (flat xa), aB (w11.heap.size) 31 [.slice ap1 an1 ac1, .slice ap2 an2 ac2, .slice ap3 an3 ac3], aT (.agg #[.slice bp1 bn1 bc1, .slice bp2 bn2 bc2, .slice bp3 bn3 bc3]) Mb (Mb.map dm9) (flat xb), aB (w13.heap.size) 31 [.slice bp1 bn1 bc1, .slice bp2 bn2 bc2, .slice bp3 bn3 bc3], aI (.slice (some ⟨w13.heap.size + 1, 0, none⟩) 2 2) [3, 1], aT (.agg #[.slice xp1 xn1 xc1, .slice xp2 xn2 xc2, .slice xp3 xn3 xc3]) [4, 9] ([4, 9].map dm9) (flat (permXs HR.out dm9 Ma [4, 3, 1] xa)), aB (w16.heap.size) 31 [.slice xp1 xn1 xc1, .slice xp2 xn2 xc2, .slice xp3 xn3 xc3], aI (.slice (some ⟨w16.heap.size + 1, 0, none⟩) 2 2) [3, 1], aT (.agg #[.slice yp1 yn1 yc1, .slice yp2 yn2 yc2, .slice yp3 yn3 yc3]) [5, 9] ([5, 9].map dm9) (flat (permXs HR.out dm9 Mb [5, 3, 1] xb)), aB (w19.heap.size) 31 [.slice yp1 yn1 yc1, .slice yp2 yn2 yc2, .slice yp3 yn3 yc3], aI (.slice (some ⟨w19.heap.size + 1, 0, none⟩) 2 2) [3, 1], aI (.slice (some ⟨w19.heap.size + 1 + 1, 0, none⟩) 2 2) [2, 3], aT (.agg #[.slice zp1 zn1 zc1, .slice zp2 zn2 zc2, .slice zp3 zn3 zc3]) [4, 3, 1] ([4, 3, 1].map dm9) (flat (permXs HR.out dm9 Ma [4, 3, 1] xa)), aB (w23.heap.size) 31 [.slice zp1 zn1 zc1, .slice zp2 zn2 zc2, .slice zp3 zn3 zc3]] := by
    have h := (hH.mores 1).addB 22 #[.slice zp1 zn1 zc1, .slice zp2 zn2 zc2, .slice zp3 zn3 zc3] 31
    exact h
  have hsz : (w23.alloc (.cells #[.slice zp1 zn1 zc1, .slice zp2 zn2 zc2, .slice zp3 zn3 zc3] 31)).heap.size = w23.heap.size + 1 := by simp
  generalize w23.alloc (.cells #[.slice zp1 zn1 zc1, .slice zp2 zn2 zc2, .slice zp3 zn3 zc3] 31) = w24 at hB hsz ⊢
  replace hH := hB; have HSZw24 := Lib.hid hsz; clear hB hsz
  have q0_0 := (hH.blk (k := 0) rfl).cell (j := 0) rfl
  have q0_1 := (hH.blk (k := 0) rfl).cell (j := 1) rfl
  have q0_2 := (hH.blk (k := 0) rfl).cell (j := 2) rfl
  have l0_ := (hH.blk (k := 0) rfl).lt
  have q4_0 := (hH.blk (k := 4) rfl).cell (j := 0) rfl
  have q4_1 := (hH.blk (k := 4) rfl).cell (j := 1) rfl
  have q4_2 := (hH.blk (k := 4) rfl).cell (j := 2) rfl
  have l4_ := (hH.blk (k := 4) rfl).lt
  have q8_0 := (hH.blk (k := 8) rfl).cell (j := 0) rfl
  have q8_1 := (hH.blk (k := 8) rfl).cell (j := 1) rfl
  have q8_2 := (hH.blk (k := 8) rfl).cell (j := 2) rfl
  have l8_ := (hH.blk (k := 8) rfl).lt
  have q10_0 := (hH.blk (k := 10) rfl).cell (j := 0) rfl
  have q10_1 := (hH.blk (k := 10) rfl).cell (j := 1) rfl
  have q10_2 := (hH.blk (k := 10) rfl).cell (j := 2) rfl
  have l10_ := (hH.blk (k := 10) rfl).lt
  have q12_0 := (hH.blk (k := 12) rfl).cell (j := 0) rfl
  have q12_1 := (hH.blk (k := 12) rfl).cell (j := 1) rfl
  have q12_2 := (hH.blk (k := 12) rfl).cell (j := 2) rfl
  have l12_ := (hH.blk (k := 12) rfl).lt
  have q15_0 := (hH.blk (k := 15) rfl).cell (j := 0) rfl
  have q15_1 := (hH.blk (k := 15) rfl).cell (j := 1) rfl
  have q15_2 := (hH.blk (k := 15) rfl).cell (j := 2) rfl
  have l15_ := (hH.blk (k := 15) rfl).lt
  have q18_0 := (hH.blk (k := 18) rfl).cell (j := 0) rfl
  have q18_1 := (hH.blk (k := 18) rfl).cell (j := 1) rfl
  have q18_2 := (hH.blk (k := 18) rfl).cell (j := 2) rfl
  have l18_ := (hH.blk (k := 18) rfl).lt
  have q22_0 := (hH.blk (k := 22) rfl).cell (j := 0) rfl
  have q22_1 := (hH.blk (k := 22) rfl).cell (j := 1) rfl
  have q22_2 := (hH.blk (k := 22) rfl).cell (j := 2) rfl
  have l22_ := (hH.blk (k := 22) rfl).lt
  go_wp2_with fail
  clear q0_0 q0_1 q0_2 l0_ q4_0 q4_1 q4_2 l4_ q8_0 q8_1 q8_2 l8_ q10_0 q10_1 q10_2 l10_ q12_0 q12_1 q12_2 l12_ q15_0 q15_1 q15_2 l15_ q18_0 q18_1 q18_2 l18_ q22_0 q22_1 q22_2 l22_
  have hB : Held w (w24.alloc (.cells #[.int .i64 4, .int .i64 5] 3)) [aB (w1.heap.size) 24 [.int .i64 k, .int .i64 p, .int .i64 n], aI (.slice (some ⟨w1.heap.size + 1, 0, none⟩) 3 3) [3, 1, 4], aI (.slice (some ⟨w1.heap.size + 1 + 1, 0, none⟩) 3 3) [2, 3, 2], aT (.agg #[.slice cp1 cn1 cc1, .slice cp2 cn2 cc2, .slice cp3 cn3 cc3]) [3, 1, 4] ([3, 1, 4].map dm9) (flat (List.replicate (size (axs dm9 [3, 1, 4])) (rig HR.out).zero)), aB (w5.heap.size) 31 [.slice cp1 cn1 cc1, .slice cp2 cn2 cc2, .slice cp3 cn3 cc3], aI (.slice (some ⟨w5.heap.size + 1, 0, none⟩) 3 3) [1, 5, 3], aI (.slice (some ⟨w5.heap.size + 1 + 1, 0, none⟩) 3 3) [3, 2, 2], aT (.agg #[.slice dp1 dn1 dc1, .slice dp2 dn2 dc2, .slice dp3 dn3 dc3]) [1, 5, 3] ([1, 5, 3].map dm9) (flat (List.replicate (size (axs dm9 [1, 5, 3])) (rig HR.out).zero)), aB (w9.heap.size) 31 [.slice dp1 dn1 dc1, .slice dp2 dn2 dc2, .slice dp3 dn3 dc3], aT (.agg #[.slice ap1 an1 ac1, .slice ap2 an2 ac2, .slice ap3 an3 ac3]) Ma (Ma.map dm9) (flat xa), aB (w11.heap.size) 31 [.slice ap1 an1 ac1, .slice ap2 an2 ac2, .slice ap3 an3 ac3], aT (.agg #[.slice bp1 bn1 bc1, .slice bp2 bn2 bc2, .slice bp3 bn3 bc3]) Mb (Mb.map dm9) (flat xb), aB (w13.heap.size) 31 [.slice bp1 bn1 bc1, .slice bp2 bn2 bc2, .slice bp3 bn3 bc3], aI (.slice (some ⟨w13.heap.size + 1, 0, none⟩) 2 2) [3, 1], aT (.agg #[.slice xp1 xn1 xc1, .slice xp2 xn2 xc2, .slice xp3 xn3 xc3]) [4, 9] ([4, 9].map dm9) (flat (permXs HR.out dm9 Ma [4, 3, 1] xa)), aB (w16.heap.size) 31 [.slice xp1 xn1 xc1, .slice xp2 xn2 xc2, .slice xp3 xn3 xc3], aI (.slice (some ⟨w16.heap.size + 1, 0, none⟩) 2 2) [3, 1], aT (.agg #[.slice yp1 yn1 yc1, .slice yp2 yn2 yc2, .slice yp3 yn3 yc3]) [5, 9] ([5, 9].map dm9) (flat (permXs HR.out dm9 Mb [5, 3, 1] xb)), aB (w19.heap.size) 31 [.slice yp1 yn1 yc1, .slice yp2 yn2 yc2, .slice yp3 yn3 yc3], aI (.slice (some ⟨w19.heap.size + 1, 0, none⟩) 2 2) [3, 1], aI (.slice (some ⟨w19.heap.size + 1 + 1, 0, none⟩) 2 2) [2, 3], aT (.agg #[.slice zp1 zn1 zc1, .slice zp2 zn2 zc2, .slice zp3 zn3 zc3]) [4, 3, 1] ([4, 3, 1].map dm9) (flat (permXs HR.out dm9 Ma [4, 3, 1] xa)), aB (w23.heap.size) 31 [.slice zp1 zn1 zc1, .slice zp2 zn2 zc2, .slice zp3 zn3 zc3], aI (.slice (some ⟨w23.heap.size + 1, 0, none⟩) 2 2) [4, 5]] := by
    have h := (hH.mores 1).built 23 [4, 5] 2 rfl (by simp [maxLen]) #[.int .i64 4, .int .i64 5] rfl
    rw [HSZw24.out] at h
    exact h
  have hsz : (w24.alloc (.cells #[.int .i64 4, .int .i64 5] 3)).heap.size = w23.heap.size + 1 + 1 := by rw [← HSZw24.out]; simp
  generalize w24.alloc (.cells #[.int .i64 4, .int .i64 5] 3) = w25 at hB hsz ⊢
  replace hH := hB; have HSZw25 := Lib.hid hsz; clear hB hsz
  refine (contractPair_any HR.out HTa.out HTb.out [4, 5] _ _ _ _ (hH.tens (k := 9) rfl) (hH.tens (k := 11) rfl) (hH.ints (k := 23) rfl)).mono ?_; rintro ew26 w26 ⟨vc, rfl, oc, hw26⟩
  rw [HL.out.1] at oc
  obtain ⟨up1, un1, uc1, up2, un2, uc2, up3, un3, uc3, rfl⟩ := oc.shape
  replace hH : Held w w26 [aB (w1.heap.size) 24 [.int .i64 k, .int .i64 p, .int .i64 n], aI (.slice (some ⟨w1.heap.size + 1, 0, none⟩) 3 3) [3, 1, 4], aI (.slice (some ⟨w1.heap.size + 1 + 1, 0, none⟩) 3 3) [2, 3, 2], aT (.agg #[.slice cp1 cn1 cc1, .slice cp2 cn2 cc2, .slice cp3 cn3 cc3]) [3, 1, 4] ([3, 1, 4].map dm9) (flat (List.replicate (size (axs dm9 [3, 1, 4])) (rig HR.out).zero)), aB (w5.heap.size) 31 [.slice cp1 cn1 cc1, .slice cp2 cn2 cc2, .slice cp3 cn3 cc3], aI (.slice (some ⟨w5.heap.size + 1, 0, none⟩) 3 3) [1, 5, 3], aI (.slice (some ⟨w5.heap.size + 1 + 1, 0, none⟩) 3 3) [3, 2, 2], aT (.agg #[.slice dp1 dn1 dc1, .slice dp2 dn2 dc2, .slice dp3 dn3 dc3]) [1, 5, 3] ([1, 5, 3].map dm9) (flat (List.replicate (size (axs dm9 [1, 5, 3])) (rig HR.out).zero)), aB (w9.heap.size) 31 [.slice dp1 dn1 dc1, .slice dp2 dn2 dc2, .slice dp3 dn3 dc3], aT (.agg #[.slice ap1 an1 ac1, .slice ap2 an2 ac2, .slice ap3 an3 ac3]) Ma (Ma.map dm9) (flat xa), aB (w11.heap.size) 31 [.slice ap1 an1 ac1, .slice ap2 an2 ac2, .slice ap3 an3 ac3], aT (.agg #[.slice bp1 bn1 bc1, .slice bp2 bn2 bc2, .slice bp3 bn3 bc3]) Mb (Mb.map dm9) (flat xb), aB (w13.heap.size) 31 [.slice bp1 bn1 bc1, .slice bp2 bn2 bc2, .slice bp3 bn3 bc3], aI (.slice (some ⟨w13.heap.size + 1, 0, none⟩) 2 2) [3, 1], aT (.agg #[.slice xp1 xn1 xc1, .slice xp2 xn2 xc2, .slice xp3 xn3 xc3]) [4, 9] ([4, 9].map dm9) (flat (permXs HR.out dm9 Ma [4, 3, 1] xa)), aB (w16.heap.size) 31 [.slice xp1 xn1 xc1, .slice xp2 xn2 xc2, .slice xp3 xn3 xc3], aI (.slice (some ⟨w16.heap.size + 1, 0, none⟩) 2 2) [3, 1], aT (.agg #[.slice yp1 yn1 yc1, .slice yp2 yn2 yc2, .slice yp3 yn3 yc3]) [5, 9] ([5, 9].map dm9) (flat (permXs HR.out dm9 Mb [5, 3, 1] xb)), aB (w19.heap.size) 31 [.slice yp1 yn1 yc1, .slice yp2 yn2 yc2, .slice yp3 yn3 yc3], aI (.slice (some ⟨w19.heap.size + 1, 0, none⟩) 2 2) [3, 1], aI (.slice (some ⟨w19.heap.size + 1 + 1, 0, none⟩) 2 2) [2, 3], aT (.agg #[.slice zp1 zn1 zc1, .slice zp2 zn2 zc2, .slice zp3 zn3 zc3]) [4, 3, 1] ([4, 3, 1].map dm9) (flat (permXs HR.out dm9 Ma [4, 3, 1] xa)), aB (w23.heap.size) 31 [.slice zp1 zn1 zc1, .slice zp2 zn2 zc2, .slice zp3 zn3 zc3], aI (.slice (some ⟨w23.heap.size + 1, 0, none⟩) 2 2) [4, 5], aT (.agg #[.slice up1 un1 uc1, .slice up2 un2 uc2, .slice up3 un3 uc3]) [4, 5] ([4, 5].map dm9) (flat (contrXs HR.out dm9 Ma Mb [4, 5] xa xb))] := (hH.mores 1).addT 24 hw26 oc (Nat.le_refl _)
  clear hw26
  have q0_0 := (hH.blk (k := 0) rfl).cell (j := 0) rfl
  have q0_1 := (hH.blk (k := 0) rfl).cell (j := 1) rfl
  have q0_2 := (hH.blk (k := 0) rfl).cell (j := 2) rfl
  have l0_ := (hH.blk (k := 0) rfl).lt
  have q4_0 := (hH.blk (k := 4) rfl).cell (j := 0) rfl
  have q4_1 := (hH.blk (k := 4) rfl).cell (j := 1) rfl
  have q4_2 := (hH.blk (k := 4) rfl).cell (j := 2) rfl
  have l4_ := (hH.blk (k := 4) rfl).lt
  have q8_0 := (hH.blk (k := 8) rfl).cell (j := 0) rfl
  have q8_1 := (hH.blk (k := 8) rfl).cell (j := 1) rfl
  have q8_2 := (hH.blk (k := 8) rfl).cell (j := 2) rfl
  have l8_ := (hH.blk (k := 8) rfl).lt
  have q10_0 := (hH.blk (k := 10) rfl).cell (j := 0) rfl
  have q10_1 := (hH.blk (k := 10) rfl).cell (j := 1) rfl
  have q10_2 := (hH.blk (k := 10) rfl).cell (j := 2) rfl
  have l10_ := (hH.blk (k := 10) rfl).lt
  have q12_0 := (hH.blk (k := 12) rfl).cell (j := 0) rfl
  have q12_1 := (hH.blk (k := 12) rfl).cell (j := 1) rfl
  have q12_2 := (hH.blk (k := 12) rfl).cell (j := 2) rfl
  have l12_ := (hH.blk (k := 12) rfl).lt
  have q15_0 := (hH.blk (k := 15) rfl).cell (j := 0) rfl
  have q15_1 := (hH.blk (k := 15) rfl).cell (j := 1) rfl
  have q15_2 := (hH.blk (k := 15) rfl).cell (j := 2) rfl
  have l15_ := (hH.blk (k := 15) rfl).lt
  have q18_0 := (hH.blk (k := 18) rfl).cell (j := 0) rfl
  have q18_1 := (hH.blk (k := 18) rfl).cell (j := 1) rfl
  have q18_2 := (hH.blk (k := 18) rfl).cell (j := 2) rfl
  have l18_ := (hH.blk (k := 18) rfl).lt
  have q22_0 := (hH.blk (k := 22) rfl).cell (j := 0) rfl
  have q22_1 := (hH.blk (k := 22) rfl).cell (j := 1) rfl
  have q22_2 := (hH.blk (k := 22) rfl).cell (j := 2) rfl
  have l22_ := (hH.blk (k := 22) rfl).lt
  go_wp2_with fail
  clear q0_0 q0_1 q0_2 l0_ q4_0 q4_1 q4_2 l4_ q8_0 q8_1 q8_2 l8_ q10_0 q10_1 q10_2 l10_ q12_0 q12_1 q12_2 l12_ q15_0 q15_1 q15_2 l15_ q18_0 q18_1 q18_2 l18_ q22_0 q22_1 q22_2 l22_
  have hB : Held w (w26.alloc (.cells #[.slice up1 un1 uc1, .slice up2 un2 uc2, .slice up3 un3 uc3] 31)) [aB (w1.heap.size) 24 [.int .i64 k, .int .i64 p, .int .i64 n], aI (.slice (some ⟨w1.heap.size + 1, 0, none⟩) 3 3) [3, 1, 4], aI (.slice (some ⟨w1.heap.size + 1 + 1, 0, none⟩) 3 3) [2, 3, 2], aT (.agg #[.slice cp1 cn1 cc1, .slice cp2 cn2 cc2, .slice cp3 cn3 cc3]) [3, 1, 4] ([3, 1, 4].map dm9) (flat (List.replicate (size (axs dm9 [3, 1, 4])) (rig HR.out).zero)), aB (w5.heap.size) 31 [.slice cp1 cn1 cc1, .slice cp2 cn2 cc2, .slice cp3 cn3 cc3], aI (.slice (some ⟨w5.heap.size + 1, 0, none⟩) 3 3) [1, 5, 3], aI (.slice (some ⟨w5.heap.size + 1 + 1, 0, none⟩) 3 3) [3, 2, 2], aT (.agg #[.slice dp1 dn1 dc1, .slice dp2 dn2 dc2, .slice dp3 dn3 dc3]) [1, 5, 3] ([1, 5, 3].map dm9) (flat (List.replicate (size (axs dm9 [1, 5, 3])) (rig HR.out).zero)), aB (w9.heap.size) 31 [.slice dp1 dn1 dc1, .slice dp2 dn2 dc2, .slice dp3 dn3 dc3], aT (.agg #[.slice ap1 an1 ac1, .slice ap2 an2 ac2, .slice ap3 an3 ac3]) Ma (Ma.map dm9) (flat xa), aB (w11.heap.size) 31 [.slice ap1 an1 ac1, .slice ap2 an2 ac2, .slice ap3 an3 ac3], aT (.agg #[.slice bp1 bn1 bc1, .slice bp2 bn2 bc2, .slice bp3 bn3 bc3]) Mb (Mb.map dm9) (flat xb), aB (w13.heap.size) 31 [.slice bp1 bn1 bc1, .slice bp2 bn2 bc2, .slice bp3 bn3 bc3], aI (.slice (some ⟨w13.heap.size + 1, 0, none⟩) 2 2) [3, 1], aT (.agg #[.slice xp1 xn1 xc1, .slice xp2 xn2 xc2, .slice xp3 xn3 xc3]) [4, 9] ([4, 9].map dm9) (flat (permXs HR.out dm9 Ma [4, 3, 1] xa)), aB (w16.heap.size) 31 [.slice xp1 xn1 xc1, .slice xp2 xn2 xc2, .slice xp3 xn3 xc3], aI (.slice (some ⟨w16.heap.size + 1, 0, none⟩) 2 2) [3, 1], aT (.agg #[.slice yp1 yn1 yc1, .slice yp2 yn2 yc2, .slice yp3 yn3 yc3]) [5, 9] ([5, 9].map dm9) (flat (permXs HR.out dm9 Mb [5, 3, 1] xb)), aB (w19.heap.size) 31 [.slice yp1 yn1 yc1, .slice yp2 yn2 yc2, .slice yp3 yn3 yc3], aI (.slice (some ⟨w19.heap.size + 1, 0, none⟩) 2 2) [3, 1], aI (.slice (some ⟨w19.heap.size + 1 + 1, 0, none⟩) 2 2) [2, 3], aT (.agg #[.slice zp1 zn1 zc1, .slice zp2 zn2 zc2, .slice zp3 zn3 zc3]) [4, 3, 1] ([4, 3, 1].map dm9) (flat (permXs HR.out dm9 Ma [4, 3, 1] xa)), aB (w23.heap.size) 31 [.slice zp1 zn1 zc1, .slice zp2 zn2 zc2, .slice zp3 zn3 zc3], aI (.slice (some ⟨w23.heap.size + 1, 0, none⟩) 2 2) [4, 5], aT (.agg #[.slice up1 un1 uc1, .slice up2 un2 uc2, .slice up3 un3 uc3]) [4, 5] ([4, 5].map dm9) (flat (contrXs HR.out dm9 Ma Mb [4, 5] xa xb)), aB (w26.heap.size) 31 [.slice up1 un1 uc1, .slice up2 un2 uc2, .slice up3 un3 uc3]] := by
    have h := (hH.mores 1).addB 25 #[.slice up1 un1 uc1, .slice up2 un2 uc2, .slice up3 un3 uc3] 31
    exact h
  have hsz : (w26.alloc (.cells #[.slice up1 un1 uc1, .slice up2 un2 uc2, .slice up3 un3 uc3] 31)).heap.size = w26.heap.size + 1 := by simp
  generalize w26.alloc (.cells #[.slice up1 un1 uc1, .slice up2 un2 uc2, .slice up3 un3 uc3] 31) = w27 at hB hsz ⊢
  replace hH := hB; have HSZw27 := Lib.hid hsz; clear hB hsz
  have q0_0 := (hH.blk (k := 0) rfl).cell (j := 0) rfl
  have q0_1 := (hH.blk (k := 0) rfl).cell (j := 1) rfl
  have q0_2 := (hH.blk (k := 0) rfl).cell (j := 2) rfl
  have l0_ := (hH.blk (k := 0) rfl).lt
  have q4_0 := (hH.blk (k := 4) rfl).cell (j := 0) rfl
  have q4_1 := (hH.blk (k := 4) rfl).cell (j := 1) rfl
  have q4_2 := (hH.blk (k := 4) rfl).cell (j := 2) rfl
  have l4_ := (hH.blk (k := 4) rfl).lt
  have q8_0 := (hH.blk (k := 8) rfl).cell (j := 0) rfl
  have q8_1 := (hH.blk (k := 8) rfl).cell (j := 1) rfl
  have q8_2 := (hH.blk (k := 8) rfl).cell (j := 2) rfl
  have l8_ := (hH.blk (k := 8) rfl).lt
  have q10_0 := (hH.blk (k := 10) rfl).cell (j := 0) rfl
  have q10_1 := (hH.blk (k := 10) rfl).cell (j := 1) rfl
  have q10_2 := (hH.blk (k := 10) rfl).cell (j := 2) rfl
  have l10_ := (hH.blk (k := 10) rfl).lt
  have q12_0 := (hH.blk (k := 12) rfl).cell (j := 0) rfl
  have q12_1 := (hH.blk (k := 12) rfl).cell (j := 1) rfl
  have q12_2 := (hH.blk (k := 12) rfl).cell (j := 2) rfl
  have l12_ := (hH.blk (k := 12) rfl).lt
  have q15_0 := (hH.blk (k := 15) rfl).cell (j := 0) rfl
  have q15_1 := (hH.blk (k := 15) rfl).cell (j := 1) rfl
  have q15_2 := (hH.blk (k := 15) rfl).cell (j := 2) rfl
  have l15_ := (hH.blk (k := 15) rfl).lt
  have q18_0 := (hH.blk (k := 18) rfl).cell (j := 0) rfl
  have q18_1 := (hH.blk (k := 18) rfl).cell (j := 1) rfl
  have q18_2 := (hH.blk (k := 18) rfl).cell (j := 2) rfl
  have l18_ := (hH.blk (k := 18) rfl).lt
  have q22_0 := (hH.blk (k := 22) rfl).cell (j := 0) rfl
  have q22_1 := (hH.blk (k := 22) rfl).cell (j := 1) rfl
  have q22_2 := (hH.blk (k := 22) rfl).cell (j := 2) rfl
  have l22_ := (hH.blk (k := 22) rfl).lt
  have q25_0 := (hH.blk (k := 25) rfl).cell (j := 0) rfl
  have q25_1 := (hH.blk (k := 25) rfl).cell (j := 1) rfl
  have q25_2 := (hH.blk (k := 25) rfl).cell (j := 2) rfl
  have l25_ := (hH.blk (k := 25) rfl).lt
  go_wp2_with fail
  clear q0_0 q0_1 q0_2 l0_ q4_0 q4_1 q4_2 l4_ q8_0 q8_1 q8_2 l8_ q10_0 q10_1 q10_2 l10_ q12_0 q12_1 q12_2 l12_ q15_0 q15_1 q15_2 l15_ q18_0 q18_1 q18_2 l18_ q22_0 q22_1 q22_2 l22_ q25_0 q25_1 q25_2 l25_
  have hB : Held w (w27.alloc (.cells #[.int .i64 4, .int .i64 5] 3)) [aB (w1.heap.size) 24 [.int .i64 k, .int .i64 p, .int .i64 n], aI (.slice (some ⟨w1.heap.size + 1, 0, none⟩) 3 3) [3, 1, 4], aI (.slice (some ⟨w1.heap.size + 1 + 1, 0, none⟩) 3 3) [2, 3, 2], aT (.agg #[.slice cp1 cn1 cc1, .slice cp2 cn2 cc2, .slice cp3 cn3 cc3]) [3, 1, 4] ([3, 1, 4].map dm9) (flat (List.replicate (size (axs dm9 [3, 1, 4])) (rig HR.out).zero)), aB (w5.heap.size) 31 [.slice cp1 cn1 cc1, .slice cp2 cn2 cc2, .slice cp3 cn3 cc3], aI (.slice (some ⟨w5.heap.size + 1, 0, none⟩) 3 3) [1, 5, 3], aI (.slice (some ⟨w5.heap.size + 1 + 1, 0, none⟩) 3 3) [3, 2, 2], aT (.agg #[.slice dp1 dn1 dc1, .slice dp2 dn2 dc2, .slice dp3 dn3 dc3]) [1, 5, 3] ([1, 5, 3].map dm9) (flat (List.replicate (size (axs dm9 [1, 5, 3])) (rig HR.out).zero)), aB (w9.heap.size) 31 [.slice dp1 dn1 dc1, .slice dp2 dn2 dc2, .slice dp3 dn3 dc3], aT (.agg #[.slice ap1 an1 ac1, .slice ap2 an2 ac2, .slice ap3 an3 ac3]) Ma (Ma.map dm9) (flat xa), aB (w11.heap.size) 31 [.slice ap1 an1 ac1, .slice ap2 an2 ac2, .slice ap3 an3 ac3], aT (.agg #[.slice bp1 bn1 bc1, .slice bp2 bn2 bc2, .slice bp3 bn3 bc3]) Mb (Mb.map dm9) (flat xb), aB (w13.heap.size) 31 [.slice bp1 bn1 bc1, .slice bp2 bn2 bc2, .slice bp3 bn3 bc3], aI (.slice (some ⟨w13.heap.size + 1, 0, none⟩) 2 2) [3, 1], aT (.agg #[.slice xp1 xn1 xc1, .slice xp2 xn2 xc2, .slice xp3 xn3 xc3]) [4, 9] ([4, 9].map dm9) (flat (permXs HR.out dm9 Ma [4, 3, 1] xa)), aB (w16.heap.size) 31 [.slice xp1 xn1 xc1, .slice xp2 xn2 xc2, .slice xp3 xn3 xc3], aI (.slice (some ⟨w16.heap.size + 1, 0, none⟩) 2 2) [3, 1], aT (.agg #[.slice yp1 yn1 yc1, .slice yp2 yn2 yc2, .slice yp3 yn3 yc3]) [5, 9] ([5, 9].map dm9) (flat (permXs HR.out dm9 Mb [5, 3, 1] xb)), aB (w19.heap.size) 31 [.slice yp1 yn1 yc1, .slice yp2 yn2 yc2, .slice yp3 yn3 yc3], aI (.slice (some ⟨w19.heap.size + 1, 0, none⟩) 2 2) [3, 1], aI (.slice (some ⟨w19.heap.size + 1 + 1, 0, none⟩) 2 2) [2, 3], aT (.agg #[.slice zp1 zn1 zc1, .slice zp2 zn2 zc2, .slice zp3 zn3 zc3]) [4, 3, 1] ([4, 3, 1].map dm9) (flat (permXs HR.out dm9 Ma [4, 3, 1] xa)), aB (w23.heap.size) 31 [.slice zp1 zn1 zc1, .slice zp2 zn2 zc2, .slice zp3 zn3 zc3], aI (.slice (some ⟨w23.heap.size + 1, 0, none⟩) 2 2) [4, 5], aT (.agg #[.slice up1 un1 uc1, .slice up2 un2 uc2, .slice up3 un3 uc3]) [4, 5] ([4, 5].map dm9) (flat (contrXs HR.out dm9 Ma Mb [4, 5] xa xb)), aB (w26.heap.size) 31 [.slice up1 un1 uc1, .slice up2 un2 uc2, .slice up3 un3 uc3], aI (.slice (some ⟨w26.heap.size + 1, 0, none⟩) 2 2) [4, 5]] := by
    have h := (hH.mores 1).built 26 [4, 5] 2 rfl (by simp [maxLen]) #[.int .i64 4, .int .i64 5] rfl
    rw [HSZw27.out] at h
    exact h
  have hsz : (w27.alloc (.cells #[.int .i64 4, .int .i64 5] 3)).heap.size = w26.heap.size + 1 + 1 := by rw [← HSZw27.out]; simp
  generalize w27.alloc (.cells #[.int .i64 4, .int .i64 5] 3) = w28 at hB hsz ⊢
  replace hH := hB; have HSZw28 := Lib.hid hsz; clear hB hsz
  refine (contractPair_any HR.out HTx.out HTy.out [4, 5] _ _ _ _ (hH.tens (k := 14) rfl) (hH.tens (k := 17) rfl) (hH.ints (k := 26) rfl)).mono ?_; rintro ew29 w29 ⟨vc, rfl, oc, hw29⟩
  rw [HL.out.2.1] at oc
  obtain ⟨vp1, vn1, vc1, vp2, vn2, vc2, vp3, vn3, vc3, rfl⟩ := oc.shape
  replace hH : Held w w29 [aB (w1.heap.size) 24 [.int .i64 k, .int .i64 p, .int .i64 n], aI (.slice (some ⟨w1.heap.size + 1, 0, none⟩) 3 3) [3, 1, 4], aI (.slice (some ⟨w1.heap.size + 1 + 1, 0, none⟩) 3 3) [2, 3, 2], aT (.agg #[.slice cp1 cn1 cc1, .slice cp2 cn2 cc2, .slice cp3 cn3 cc3]) [3, 1, 4] ([3, 1, 4].map dm9) (flat (List.replicate (size (axs dm9 [3, 1, 4])) (rig HR.out).zero)), aB (w5.heap.size) 31 [.slice cp1 cn1 cc1, .slice cp2 cn2 cc2, .slice cp3 cn3 cc3], aI (.slice (some ⟨w5.heap.size + 1, 0, none⟩) 3 3) [1, 5, 3], aI (.slice (some ⟨w5.heap.size + 1 + 1, 0, none⟩) 3 3) [3, 2, 2], aT (.agg #[.slice dp1 dn1 dc1, .slice dp2 dn2 dc2, .slice dp3 dn3 dc3]) [1, 5, 3] ([1, 5, 3].map dm9) (flat (List.replicate (size (axs dm9 [1, 5, 3])) (rig HR.out).zero)), aB (w9.heap.size) 31 [.slice dp1 dn1 dc1, .slice dp2 dn2 dc2, .slice dp3 dn3 dc3], aT (.agg #[.slice ap1 an1 ac1, .slice ap2 an2 ac2, .slice ap3 an3 ac3]) Ma (Ma.map dm9) (flat xa), aB (w11.heap.size) 31 [.slice ap1 an1 ac1, .slice ap2 an2 ac2, .slice ap3 an3 ac3], aT (.agg #[.slice bp1 bn1 bc1, .slice bp2 bn2 bc2, .slice bp3 bn3 bc3]) Mb (Mb.map dm9) (flat xb), aB (w13.heap.size) 31 [.slice bp1 bn1 bc1, .slice bp2 bn2 bc2, .slice bp3 bn3 bc3], aI (.slice (some ⟨w13.heap.size + 1, 0, none⟩) 2 2) [3, 1], aT (.agg #[.slice xp1 xn1 xc1, .slice xp2 xn2 xc2, .slice xp3 xn3 xc3]) [4, 9] ([4, 9].map dm9) (flat (permXs HR.out dm9 Ma [4, 3, 1] xa)), aB (w16.heap.size) 31 [.slice xp1 xn1 xc1, .slice xp2 xn2 xc2, .slice xp3 xn3 xc3], aI (.slice (some ⟨w16.heap.size + 1, 0, none⟩) 2 2) [3, 1], aT (.agg #[.slice yp1 yn1 yc1, .slice yp2 yn2 yc2, .slice yp3 yn3 yc3]) [5, 9] ([5, 9].map dm9) (flat (permXs HR.out dm9 Mb [5, 3, 1] xb)), aB (w19.heap.size) 31 [.slice yp1 yn1 yc1, .slice yp2 yn2 yc2, .slice yp3 yn3 yc3], aI (.slice (some ⟨w19.heap.size + 1, 0, none⟩) 2 2) [3, 1], aI (.slice (some ⟨w19.heap.size + 1 + 1, 0, none⟩) 2 2) [2, 3], aT (.agg #[.slice zp1 zn1 zc1, .slice zp2 zn2 zc2, .slice zp3 zn3 zc3]) [4, 3, 1] ([4, 3, 1].map dm9) (flat (permXs HR.out dm9 Ma [4, 3, 1] xa)), aB (w23.heap.size) 31 [.slice zp1 zn1 zc1, .slice zp2 zn2 zc2, .slice zp3 zn3 zc3], aI (.slice (some ⟨w23.heap.size + 1, 0, none⟩) 2 2) [4, 5], aT (.agg #[.slice up1 un1 uc1, .slice up2 un2 uc2, .slice up3 un3 uc3]) [4, 5] ([4, 5].map dm9) (flat (contrXs HR.out dm9 Ma Mb [4, 5] xa xb)), aB (w26.heap.size) 31 [.slice up1 un1 uc1, .slice up2 un2 uc2, .slice up3 un3 uc3], aI (.slice (some ⟨w26.heap.size + 1, 0, none⟩) 2 2) [4, 5], aT (.agg #[.slice vp1 vn1 vc1, .slice vp2 vn2 vc2, .slice vp3 vn3 vc3]) [4, 5] ([4, 5].map dm9) (flat (contrXs HR.out dm9 [4, 9] [5, 9] [4, 5] (permXs HR.out dm9 Ma [4, 3, 1] xa) (permXs HR.out dm9 Mb [5, 3, 1] xb)))] := (hH.mores 1).addT 27 hw29 oc (Nat.le_refl _)
  clear hw29
  have q0_0 := (hH.blk (k := 0) rfl).cell (j := 0) rfl
  have q0_1 := (hH.blk (k := 0) rfl).cell (j := 1) rfl
  have q0_2 := (hH.blk (k := 0) rfl).cell (j := 2) rfl
  have l0_ := (hH.blk (k := 0) rfl).lt
  have q4_0 := (hH.blk (k := 4) rfl).cell (j := 0) rfl
  have q4_1 := (hH.blk (k := 4) rfl).cell (j := 1) rfl
  have q4_2 := (hH.blk (k := 4) rfl).cell (j := 2) rfl
  have l4_ := (hH.blk (k := 4) rfl).lt
  have q8_0 := (hH.blk (k := 8) rfl).cell (j := 0) rfl
  have q8_1 := (hH.blk (k := 8) rfl).cell (j := 1) rfl
  have q8_2 := (hH.blk (k := 8) rfl).cell (j := 2) rfl
  have l8_ := (hH.blk (k := 8) rfl).lt
  have q10_0 := (hH.blk (k := 10) rfl).cell (j := 0) rfl
  have q10_1 := (hH.blk (k := 10) rfl).cell (j := 1) rfl
  have q10_2 := (hH.blk (k := 10) rfl).cell (j := 2) rfl
  have l10_ := (hH.blk (k := 10) rfl).lt
  have q12_0 := (hH.blk (k := 12) rfl).cell (j := 0) rfl
  have q12_1 := (hH.blk (k := 12) rfl).cell (j := 1) rfl
  have q12_2 := (hH.blk (k := 12) rfl).cell (j := 2) rfl
  have l12_ := (hH.blk (k := 12) rfl).lt
  have q15_0 := (hH.blk (k := 15) rfl).cell (j := 0) rfl
  have q15_1 := (hH.blk (k := 15) rfl).cell (j := 1) rfl
  have q15_2 := (hH.blk (k := 15) rfl).cell (j := 2) rfl
  have l15_ := (hH.blk (k := 15) rfl).lt
  have q18_0 := (hH.blk (k := 18) rfl).cell (j := 0) rfl
  have q18_1 := (hH.blk (k := 18) rfl).cell (j := 1) rfl
  have q18_2 := (hH.blk (k := 18) rfl).cell (j := 2) rfl
  have l18_ := (hH.blk (k := 18) rfl).lt
  have q22_0 := (hH.blk (k := 22) rfl).cell (j := 0) rfl
  have q22_1 := (hH.blk (k := 22) rfl).cell (j := 1) rfl
  have q22_2 := (hH.blk (k := 22) rfl).cell (j := 2) rfl
  have l22_ := (hH.blk (k := 22) rfl).lt
  have q25_0 := (hH.blk (k := 25) rfl).cell (j := 0) rfl
  have q25_1 := (hH.blk (k := 25) rfl).cell (j := 1) rfl
  have q25_2 := (hH.blk (k := 25) rfl).cell (j := 2) rfl
  have l25_ := (hH.blk (k := 25) rfl).lt
  go_wp2_with fail
  clear q0_0 q0_1 q0_2 l0_ q4_0 q4_1 q4_2 l4_ q8_0 q8_1 q8_2 l8_ q10_0 q10_1 q10_2 l10_ q12_0 q12_1 q12_2 l12_ q15_0 q15_1 q15_2 l15_ q18_0 q18_1 q18_2 l18_ q22_0 q22_1 q22_2 l22_ q25_0 q25_1 q25_2 l25_
  have hB : Held w (w29.alloc (.cells #[.slice vp1 vn1 vc1, .slice vp2 vn2 vc2, .slice vp3 vn3 vc3] 31)) [aB (w1.heap.size) 24 [.int .i64 k, .int .i64 p, .int .i64 n], aI (.slice (some ⟨w1.heap.size + 1, 0, none⟩) 3 3) [3, 1, 4], aI (.slice (some ⟨w1.heap.size + 1 + 1, 0, none⟩) 3 3) [2, 3, 2], aT (.agg #[.slice cp1 cn1 cc1, .slice cp2 cn2 cc2, .slice cp3 cn3 cc3]) [3, 1, 4] ([3, 1, 4].map dm9) (flat (List.replicate (size (axs dm9 [3, 1, 4])) (rig HR.out).zero)), aB (w5.heap.size) 31 [.slice cp1 cn1 cc1, .slice cp2 cn2 cc2, .slice cp3 cn3 cc3], aI (.slice (some ⟨w5.heap.size + 1, 0, none⟩) 3 3) [1, 5, 3], aI (.slice (some ⟨w5.heap.size + 1 + 1, 0, none⟩) 3 3) [3, 2, 2], aT (.agg #[.slice dp1 dn1 dc1, .slice dp2 dn2 dc2, .slice dp3 dn3 dc3]) [1, 5, 3] ([1, 5, 3].map dm9) (flat (List.replicate (size (axs dm9 [1, 5, 3])) (rig HR.out).zero)), aB (w9.heap.size) 31 [.slice dp1 dn1 dc1, .slice dp2 dn2 dc2, .slice dp3 dn3 dc3], aT (.agg #[.slice ap1 an1 ac1, .slice ap2 an2 ac2, .slice ap3 an3 ac3]) Ma (Ma.map dm9) (flat xa), aB (w11.heap.size) 31 [.slice ap1 an1 ac1, .slice ap2 an2 ac2, .slice ap3 an3 ac3], aT (.agg #[.slice bp1 bn1 bc1, .slice bp2 bn2 bc2, .slice bp3 bn3 bc3]) Mb (Mb.map dm9) (flat xb), aB (w13.heap.size) 31 [.slice bp1 bn1 bc1, .slice bp2 bn2 bc2, .slice bp3 bn3 bc3], aI (.slice (some ⟨w13.heap.size + 1, 0, none⟩) 2 2) [3, 1], aT (.agg #[.slice xp1 xn1 xc1, .slice xp2 xn2 xc2, .slice xp3 xn3 xc3]) [4, 9] ([4, 9].map dm9) (flat (permXs HR.out dm9 Ma [4, 3, 1] xa)), aB (w16.heap.size) 31 [.slice xp1 xn1 xc1, .slice xp2 xn2 xc2, .slice xp3 xn3 xc3], aI (.slice (some ⟨w16.heap.size + 1, 0, none⟩) 2 2) [3, 1], aT (.agg #[.slice yp1 yn1 yc1, .slice yp2 yn2 yc2, .slice yp3 yn3 yc3]) [5, 9] ([5, 9].map dm9) (flat (permXs HR.out dm9 Mb [5, 3, 1] xb)), aB (w19.heap.size) 31 [.slice yp1 yn1 yc1, .slice yp2 yn2 yc2, .slice yp3 yn3 yc3], aI (.slice (some ⟨w19.heap.size + 1, 0, none⟩) 2 2) [3, 1], aI (.slice (some ⟨w19.heap.size + 1 + 1, 0, none⟩) 2 2) [2, 3], aT (.agg #[.slice zp1 zn1 zc1, .slice zp2 zn2 zc2, .slice zp3 zn3 zc3]) [4, 3, 1] ([4, 3, 1].map dm9) (flat (permXs HR.out dm9 Ma [4, 3, 1] xa)), aB (w23.heap.size) 31 [.slice zp1 zn1 zc1, .slice zp2 zn2 zc2, .slice zp3 zn3 zc3], aI (.slice (some ⟨w23.heap.size + 1, 0, none⟩) 2 2) [4, 5], aT (.agg #[.slice up1 un1 uc1, .slice up2 un2 uc2, .slice up3 un3 uc3]) [4, 5] ([4, 5].map dm9) (flat (contrXs HR.out dm9 Ma Mb [4, 5] xa xb)), aB (w26.heap.size) 31 [.slice up1 un1 uc1, .slice up2 un2 uc2, .slice up3 un3 uc3], aI (.slice (some ⟨w26.heap.size + 1, 0, none⟩) 2 2) [4, 5], aT (.agg #[.slice vp1 vn1 vc1, .slice vp2 vn2 vc2, .slice vp3 vn3 vc3]) [4, 5] ([4, 5].map dm9) (flat (contrXs HR.out dm9 [4, 9] [5, 9] [4, 5] (permXs HR.out dm9 Ma [4, 3, 1] xa) (permXs HR.out dm9 Mb [5, 3, 1] xb))), aB (w29.heap.size) 31 [.slice vp1 vn1 vc1, .slice vp2 vn2 vc2, .slice vp3 vn3 vc3]] := by
    have h := (hH.mores 1).addB 28 #[.slice vp1 vn1 vc1, .slice vp2 vn2 vc2, .slice vp3 vn3 vc3] 31
    exact h
  have hsz : (w29.alloc (.cells #[.slice vp1 vn1 vc1, .slice vp2 vn2 vc2, .slice vp3 vn3 vc3] 31)).heap.size = w29.heap.size + 1 := by simp
  generalize w29.alloc (.cells #[.slice vp1 vn1 vc1, .slice vp2 vn2 vc2, .slice vp3 vn3 vc3] 31) = w30 at hB hsz ⊢
  replace hH := hB; have HSZw30 := Lib.hid hsz; clear hB hsz
  have q0_0 := (hH.blk (k := 0) rfl).cell (j := 0) rfl
  have q0_1 := (hH.blk (k := 0) rfl).cell (j := 1) rfl
  have q0_2 := (hH.blk (k := 0) rfl).cell (j := 2) rfl
  have l0_ := (hH.blk (k := 0) rfl).lt
  have q4_0 := (hH.blk (k := 4) rfl).cell (j := 0) rfl
  have q4_1 := (hH.blk (k := 4) rfl).cell (j := 1) rfl
  have q4_2 := (hH.blk (k := 4) rfl).cell (j := 2) rfl
  have l4_ := (hH.blk (k := 4) rfl).lt
  have q8_0 := (hH.blk (k := 8) rfl).cell (j := 0) rfl
  have q8_1 := (hH.blk (k := 8) rfl).cell (j := 1) rfl
  have q8_2 := (hH.blk (k := 8) rfl).cell (j := 2) rfl
  have l8_ := (hH.blk (k := 8) rfl).lt
  have q10_0 := (hH.blk (k := 10) rfl).cell (j := 0) rfl
  have q10_1 := (hH.blk (k := 10) rfl).cell (j := 1) rfl
  have q10_2 := (hH.blk (k := 10) rfl).cell (j := 2) rfl
  have l10_ := (hH.blk (k := 10) rfl).lt
  have q12_0 := (hH.blk (k := 12) rfl).cell (j := 0) rfl
  have q12_1 := (hH.blk (k := 12) rfl).cell (j := 1) rfl
  have q12_2 := (hH.blk (k := 12) rfl).cell (j := 2) rfl
  have l12_ := (hH.blk (k := 12) rfl).lt
  have q15_0 := (hH.blk (k := 15) rfl).cell (j := 0) rfl
  have q15_1 := (hH.blk (k := 15) rfl).cell (j := 1) rfl
  have q15_2 := (hH.blk (k := 15) rfl).cell (j := 2) rfl
  have l15_ := (hH.blk (k := 15) rfl).lt
  have q18_0 := (hH.blk (k := 18) rfl).cell (j := 0) rfl
  have q18_1 := (hH.blk (k := 18) rfl).cell (j := 1) rfl
  have q18_2 := (hH.blk (k := 18) rfl).cell (j := 2) rfl
  have l18_ := (hH.blk (k := 18) rfl).lt
  have q22_0 := (hH.blk (k := 22) rfl).cell (j := 0) rfl
  have q22_1 := (hH.blk (k := 22) rfl).cell (j := 1) rfl
  have q22_2 := (hH.blk (k := 22) rfl).cell (j := 2) rfl
  have l22_ := (hH.blk (k := 22) rfl).lt
  have q25_0 := (hH.blk (k := 25) rfl).cell (j := 0) rfl
  have q25_1 := (hH.blk (k := 25) rfl).cell (j := 1) rfl
  have q25_2 := (hH.blk (k := 25) rfl).cell (j := 2) rfl
  have l25_ := (hH.blk (k := 25) rfl).lt
  have q28_0 := (hH.blk (k := 28) rfl).cell (j := 0) rfl
  have q28_1 := (hH.blk (k := 28) rfl).cell (j := 1) rfl
  have q28_2 := (hH.blk (k := 28) rfl).cell (j := 2) rfl
  have l28_ := (hH.blk (k := 28) rfl).lt
  go_wp2_with fail
  clear q0_0 q0_1 q0_2 l0_ q4_0 q4_1 q4_2 l4_ q8_0 q8_1 q8_2 l8_ q10_0 q10_1 q10_2 l10_ q12_0 q12_1 q12_2 l12_ q15_0 q15_1 q15_2 l15_ q18_0 q18_1 q18_2 l18_ q22_0 q22_1 q22_2 l22_ q25_0 q25_1 q25_2 l25_ q28_0 q28_1 q28_2 l28_
  have HTz : Hid (IsT k p n dm9 U9 [4, 3, 1] (permXs HR.out dm9 Ma [4, 3, 1] xa)) := Lib.hid (perm_isT HR.out HTa.out (by exact HPa.out.trans (by decide)))
  refine (sameTensor_yes HR.out HTz.out HTa.out HL.out.2.2.2.1 HL.out.2.2.2.2 _ _ _ (hH.tens (k := 21) rfl) (hH.tens (k := 9) rfl)).mono ?_; rintro ew31 w31 ⟨rfl, hw31⟩
  replace hH : Held w w31 [aB (w1.heap.size) 24 [.int .i64 k, .int .i64 p, .int .i64 n], aI (.slice (some ⟨w1.heap.size + 1, 0, none⟩) 3 3) [3, 1, 4], aI (.slice (some ⟨w1.heap.size + 1 + 1, 0, none⟩) 3 3) [2, 3, 2], aT (.agg #[.slice cp1 cn1 cc1, .slice cp2 cn2 cc2, .slice cp3 cn3 cc3]) [3, 1, 4] ([3, 1, 4].map dm9) (flat (List.replicate (size (axs dm9 [3, 1, 4])) (rig HR.out).zero)), aB (w5.heap.size) 31 [.slice cp1 cn1 cc1, .slice cp2 cn2 cc2, .slice cp3 cn3 cc3], aI (.slice (some ⟨w5.heap.size + 1, 0, none⟩) 3 3) [1, 5, 3], aI (.slice (some ⟨w5.heap.size + 1 + 1, 0, none⟩) 3 3) [3, 2, 2], aT (.agg #[.slice dp1 dn1 dc1, .slice dp2 dn2 dc2, .slice dp3 dn3 dc3]) [1, 5, 3] ([1, 5, 3].map dm9) (flat (List.replicate (size (axs dm9 [1, 5, 3])) (rig HR.out).zero)), aB (w9.heap.size) 31 [.slice dp1 dn1 dc1, .slice dp2 dn2 dc2, .slice dp3 dn3 dc3], aT (.agg #[.slice ap1 an1 ac1, .slice ap2 an2 ac2, .slice ap3 an3 ac3]) Ma (Ma.map dm9) (flat xa), aB (w11.heap.size) 31 [.slice ap1 an1 ac1, .slice ap2 an2 ac2, .slice ap3 an3 ac3], aT (.agg #[.slice bp1 bn1 bc1, .slice bp2 bn2 bc2, .slice bp3 bn3 bc3]) Mb (Mb.map dm9) (flat xb), aB (w13.heap.size) 31 [.slice bp1 bn1 bc1, .slice bp2 bn2 bc2, .slice bp3 bn3 bc3], aI (.slice (some ⟨w13.heap.size + 1, 0, none⟩) 2 2) [3, 1], aT (.agg #[.slice xp1 xn1 xc1, .slice xp2 xn2 xc2, .slice xp3 xn3 xc3]) [4, 9] ([4, 9].map dm9) (flat (permXs HR.out dm9 Ma [4, 3, 1] xa)), aB (w16.heap.size) 31 [.slice xp1 xn1 xc1, .slice xp2 xn2 xc2, .slice xp3 xn3 xc3], aI (.slice (some ⟨w16.heap.size + 1, 0, none⟩) 2 2) [3, 1], aT (.agg #[.slice yp1 yn1 yc1, .slice yp2 yn2 yc2, .slice yp3 yn3 yc3]) [5, 9] ([5, 9].map dm9) (flat (permXs HR.out dm9 Mb [5, 3, 1] xb)), aB (w19.heap.size) 31 [.slice yp1 yn1 yc1, .slice yp2 yn2 yc2, .slice yp3 yn3 yc3], aI (.slice (some ⟨w19.heap.size + 1, 0, none⟩) 2 2) [3, 1], aI (.slice (some ⟨w19.heap.size + 1 + 1, 0, none⟩) 2 2) [2, 3], aT (.agg #[.slice zp1 zn1 zc1, .slice zp2 zn2 zc2, .slice zp3 zn3 zc3]) [4, 3, 1] ([4, 3, 1].map dm9) (flat (permXs HR.out dm9 Ma [4, 3, 1] xa)), aB (w23.heap.size) 31 [.slice zp1 zn1 zc1, .slice zp2 zn2 zc2, .slice zp3 zn3 zc3], aI (.slice (some ⟨w23.heap.size + 1, 0, none⟩) 2 2) [4, 5], aT (.agg #[.slice up1 un1 uc1, .slice up2 un2 uc2, .slice up3 un3 uc3]) [4, 5] ([4, 5].map dm9) (flat (contrXs HR.out dm9 Ma Mb [4, 5] xa xb)), aB (w26.heap.size) 31 [.slice up1 un1 uc1, .slice up2 un2 uc2, .slice up3 un3 uc3], aI (.slice (some ⟨w26.heap.size + 1, 0, none⟩) 2 2) [4, 5], aT (.agg #[.slice vp1 vn1 vc1, .slice vp2 vn2 vc2, .slice vp3 vn3 vc3]) [4, 5] ([4, 5].map dm9) (flat (contrXs HR.out dm9 [4, 9] [5, 9] [4, 5] (permXs HR.out dm9 Ma [4, 3, 1] xa) (permXs HR.out dm9 Mb [5, 3, 1] xb))), aB (w29.heap.size) 31 [.slice vp1 vn1 vc1, .slice vp2 vn2 vc2, .slice vp3 vn3 vc3]] := hH.grow hw31
  clear hw31
  have q0_0 := (hH.blk (k := 0) rfl).cell (j := 0) rfl
  have q0_1 := (hH.blk (k := 0) rfl).cell (j := 1) rfl
  have q0_2 := (hH.blk (k := 0) rfl).cell (j := 2) rfl
  have l0_ := (hH.blk (k := 0) rfl).lt
  have q4_0 := (hH.blk (k := 4) rfl).cell (j := 0) rfl
  have q4_1 := (hH.blk (k := 4) rfl).cell (j := 1) rfl
  have q4_2 := (hH.blk (k := 4) rfl).cell (j := 2) rfl
  have l4_ := (hH.blk (k := 4) rfl).lt
  have q8_0 := (hH.blk (k := 8) rfl).cell (j := 0) rfl
  have q8_1 := (hH.blk (k := 8) rfl).cell (j := 1) rfl
  have q8_2 := (hH.blk (k := 8) rfl).cell (j := 2) rfl
  have l8_ := (hH.blk (k := 8) rfl).lt
  have q10_0 := (hH.blk (k := 10) rfl).cell (j := 0) rfl
  have q10_1 := (hH.blk (k := 10) rfl).cell (j := 1) rfl
  have q10_2 := (hH.blk (k := 10) rfl).cell (j := 2) rfl
  have l10_ := (hH.blk (k := 10) rfl).lt
  have q12_0 := (hH.blk (k := 12) rfl).cell (j := 0) rfl
  have q12_1 := (hH.blk (k := 12) rfl).cell (j := 1) rfl
  have q12_2 := (hH.blk (k := 12) rfl).cell (j := 2) rfl
  have l12_ := (hH.blk (k := 12) rfl).lt
  have q15_0 := (hH.blk (k := 15) rfl).cell (j := 0) rfl
  have q15_1 := (hH.blk (k := 15) rfl).cell (j := 1) rfl
  have q15_2 := (hH.blk (k := 15) rfl).cell (j := 2) rfl
  have l15_ := (hH.blk (k := 15) rfl).lt
  have q18_0 := (hH.blk (k := 18) rfl).cell (j := 0) rfl
  have q18_1 := (hH.blk (k := 18) rfl).cell (j := 1) rfl
  have q18_2 := (hH.blk (k := 18) rfl).cell (j := 2) rfl
  have l18_ := (hH.blk (k := 18) rfl).lt
  have q22_0 := (hH.blk (k := 22) rfl).cell (j := 0) rfl
  have q22_1 := (hH.blk (k := 22) rfl).cell (j := 1) rfl
  have q22_2 := (hH.blk (k := 22) rfl).cell (j := 2) rfl
  have l22_ := (hH.blk (k := 22) rfl).lt
  have q25_0 := (hH.blk (k := 25) rfl).cell (j := 0) rfl
  have q25_1 := (hH.blk (k := 25) rfl).cell (j := 1) rfl
  have q25_2 := (hH.blk (k := 25) rfl).cell (j := 2) rfl
  have l25_ := (hH.blk (k := 25) rfl).lt
  have q28_0 := (hH.blk (k := 28) rfl).cell (j := 0) rfl
  have q28_1 := (hH.blk (k := 28) rfl).cell (j := 1) rfl
  have q28_2 := (hH.blk (k := 28) rfl).cell (j := 2) rfl
  have l28_ := (hH.blk (k := 28) rfl).lt
  go_wp2_with fail
  clear q0_0 q0_1 q0_2 l0_ q4_0 q4_1 q4_2 l4_ q8_0 q8_1 q8_2 l8_ q10_0 q10_1 q10_2 l10_ q12_0 q12_1 q12_2 l12_ q15_0 q15_1 q15_2 l15_ q18_0 q18_1 q18_2 l18_ q22_0 q22_1 q22_2 l22_ q25_0 q25_1 q25_2 l25_ q28_0 q28_1 q28_2 l28_
  refine (same_same _ _ _ _ _ _ _ _ _ (hH.tens (k := 24) rfl) (hH.tens (k := 27) rfl) rfl rfl (by rw [HL.out.2.2.1])).mono ?_; rintro ew32 w32 ⟨rfl, hw32⟩
  replace hH : Held w w32 [aB (w1.heap.size) 24 [.int .i64 k, .int .i64 p, .int .i64 n], aI (.slice (some ⟨w1.heap.size + 1, 0, none⟩) 3 3) [3, 1, 4], aI (.slice (some ⟨w1.heap.size + 1 + 1, 0, none⟩) 3 3) [2, 3, 2], aT (.agg #[.slice cp1 cn1 cc1, .slice cp2 cn2 cc2, .slice cp3 cn3 cc3]) [3, 1, 4] ([3, 1, 4].map dm9) (flat (List.replicate (size (axs dm9 [3, 1, 4])) (rig HR.out).zero)), aB (w5.heap.size) 31 [.slice cp1 cn1 cc1, .slice cp2 cn2 cc2, .slice cp3 cn3 cc3], aI (.slice (some ⟨w5.heap.size + 1, 0, none⟩) 3 3) [1, 5, 3], aI (.slice (some ⟨w5.heap.size + 1 + 1, 0, none⟩) 3 3) [3, 2, 2], aT (.agg #[.slice dp1 dn1 dc1, .slice dp2 dn2 dc2, .slice dp3 dn3 dc3]) [1, 5, 3] ([1, 5, 3].map dm9) (flat (List.replicate (size (axs dm9 [1, 5, 3])) (rig HR.out).zero)), aB (w9.heap.size) 31 [.slice dp1 dn1 dc1, .slice dp2 dn2 dc2, .slice dp3 dn3 dc3], aT (.agg #[.slice ap1 an1 ac1, .slice ap2 an2 ac2, .slice ap3 an3 ac3]) Ma (Ma.map dm9) (flat xa), aB (w11.heap.size) 31 [.slice ap1 an1 ac1, .slice ap2 an2 ac2, .slice ap3 an3 ac3], aT (.agg #[.slice bp1 bn1 bc1, .slice bp2 bn2 bc2, .slice bp3 bn3 bc3]) Mb (Mb.map dm9) (flat xb), aB (w13.heap.size) 31 [.slice bp1 bn1 bc1, .slice bp2 bn2 bc2, .slice bp3 bn3 bc3], aI (.slice (some ⟨w13.heap.size + 1, 0, none⟩) 2 2) [3, 1], aT (.agg #[.slice xp1 xn1 xc1, .slice xp2 xn2 xc2, .slice xp3 xn3 xc3]) [4, 9] ([4, 9].map dm9) (flat (permXs HR.out dm9 Ma [4, 3, 1] xa)), aB (w16.heap.size) 31 [.slice xp1 xn1 xc1, .slice xp2 xn2 xc2, .slice xp3 xn3 xc3], aI (.slice (some ⟨w16.heap.size + 1, 0, none⟩) 2 2) [3, 1], aT (.agg #[.slice yp1 yn1 yc1, .slice yp2 yn2 yc2, .slice yp3 yn3 yc3]) [5, 9] ([5, 9].map dm9) (flat (permXs HR.out dm9 Mb [5, 3, 1] xb)), aB (w19.heap.size) 31 [.slice yp1 yn1 yc1, .slice yp2 yn2 yc2, .slice yp3 yn3 yc3], aI (.slice (some ⟨w19.heap.size + 1, 0, none⟩) 2 2) [3, 1], aI (.slice (some ⟨w19.heap.size + 1 + 1, 0, none⟩) 2 2) [2, 3], aT (.agg #[.slice zp1 zn1 zc1, .slice zp2 zn2 zc2, .slice zp3 zn3 zc3]) [4, 3, 1] ([4, 3, 1].map dm9) (flat (permXs HR.out dm9 Ma [4, 3, 1] xa)), aB (w23.heap.size) 31 [.slice zp1 zn1 zc1, .slice zp2 zn2 zc2, .slice zp3 zn3 zc3], aI (.slice (some ⟨w23.heap.size + 1, 0, none⟩) 2 2) [4, 5], aT (.agg #[.slice up1 un1 uc1, .slice up2 un2 uc2, .slice up3 un3 uc3]) [4, 5] ([4, 5].map dm9) (flat (contrXs HR.out dm9 Ma Mb [4, 5] xa xb)), aB (w26.heap.size) 31 [.slice up1 un1 uc1, .slice up2 un2 uc2, .slice up3 un3 uc3], aI (.slice (some ⟨w26.heap.size + 1, 0, none⟩) 2 2) [4, 5], aT (.agg #[.slice vp1 vn1 vc1, .slice vp2 vn2 vc2, .slice vp3 vn3 vc3]) [4, 5] ([4, 5].map dm9) (flat (contrXs HR.out dm9 [4, 9] [5, 9] [4, 5] (permXs HR.out dm9 Ma [4, 3, 1] xa) (permXs HR.out dm9 Mb [5, 3, 1] xb))), aB (w29.heap.size) 31 [.slice vp1 vn1 vc1, .slice vp2 vn2 vc2, .slice vp3 vn3 vc3]] := hH.grow hw32
  clear hw32
  have q0_0 := (hH.blk (k := 0) rfl).cell (j := 0) rfl
  have q0_1 := (hH.blk (k := 0) rfl).cell (j := 1) rfl
  have q0_2 := (hH.blk (k := 0) rfl).cell (j := 2) rfl
  have l0_ := (hH.blk (k := 0) rfl).lt
  have q4_0 := (hH.blk (k := 4) rfl).cell (j := 0) rfl
  have q4_1 := (hH.blk (k := 4) rfl).cell (j := 1) rfl
  have q4_2 := (hH.blk (k := 4) rfl).cell (j := 2) rfl
  have l4_ := (hH.blk (k := 4) rfl).lt
  have q8_0 := (hH.blk (k := 8) rfl).cell (j := 0) rfl
  have q8_1 := (hH.blk (k := 8) rfl).cell (j := 1) rfl
  have q8_2 := (hH.blk (k := 8) rfl).cell (j := 2) rfl
  have l8_ := (hH.blk (k := 8) rfl).lt
  have q10_0 := (hH.blk (k := 10) rfl).cell (j := 0) rfl
  have q10_1 := (hH.blk (k := 10) rfl).cell (j := 1) rfl
  have q10_2 := (hH.blk (k := 10) rfl).cell (j := 2) rfl
  have l10_ := (hH.blk (k := 10) rfl).lt
  have q12_0 := (hH.blk (k := 12) rfl).cell (j := 0) rfl
  have q12_1 := (hH.blk (k := 12) rfl).cell (j := 1) rfl
  have q12_2 := (hH.blk (k := 12) rfl).cell (j := 2) rfl
  have l12_ := (hH.blk (k := 12) rfl).lt
  have q15_0 := (hH.blk (k := 15) rfl).cell (j := 0) rfl
  have q15_1 := (hH.blk (k := 15) rfl).cell (j := 1) rfl
  have q15_2 := (hH.blk (k := 15) rfl).cell (j := 2) rfl
  have l15_ := (hH.blk (k := 15) rfl).lt
  have q18_0 := (hH.blk (k := 18) rfl).cell (j := 0) rfl
  have q18_1 := (hH.blk (k := 18) rfl).cell (j := 1) rfl
  have q18_2 := (hH.blk (k := 18) rfl).cell (j := 2) rfl
  have l18_ := (hH.blk (k := 18) rfl).lt
  have q22_0 := (hH.blk (k := 22) rfl).cell (j := 0) rfl
  have q22_1 := (hH.blk (k := 22) rfl).cell (j := 1) rfl
  have q22_2 := (hH.blk (k := 22) rfl).cell (j := 2) rfl
  have l22_ := (hH.blk (k := 22) rfl).lt
  have q25_0 := (hH.blk (k := 25) rfl).cell (j := 0) rfl
  have q25_1 := (hH.blk (k := 25) rfl).cell (j := 1) rfl
  have q25_2 := (hH.blk (k := 25) rfl).cell (j := 2) rfl
  have l25_ := (hH.blk (k := 25) rfl).lt
  have q28_0 := (hH.blk (k := 28) rfl).cell (j := 0) rfl
  have q28_1 := (hH.blk (k := 28) rfl).cell (j := 1) rfl
  have q28_2 := (hH.blk (k := 28) rfl).cell (j := 2) rfl
  have l28_ := (hH.blk (k := 28) rfl).lt
  go_wp2_with fail
  clear q0_0 q0_1 q0_2 l0_ q4_0 q4_1 q4_2 l4_ q8_0 q8_1 q8_2 l8_ q10_0 q10_1 q10_2 l10_ q12_0 q12_1 q12_2 l12_ q15_0 q15_1 q15_2 l15_ q18_0 q18_1 q18_2 l18_ q22_0 q22_1 q22_2 l22_ q25_0 q25_1 q25_2 l25_ q28_0 q28_1 q28_2 l28_
  refine (tensorSize_impl _ _ _ _ _ (hH.tens (k := 14) rfl)).mono ?_; rintro ew33 w33 ⟨rfl, hw33⟩
  rw [show tsize [4, 9] ([4, 9].map dm9) = 12 by decide]
  replace hH : Held w w33 [aB (w1.heap.size) 24 [.int .i64 k, .int .i64 p, .int .i64 n], aI (.slice (some ⟨w1.heap.size + 1, 0, none⟩) 3 3) [3, 1, 4], aI (.slice (some ⟨w1.heap.size + 1 + 1, 0, none⟩) 3 3) [2, 3, 2], aT (.agg #[.slice cp1 cn1 cc1, .slice cp2 cn2 cc2, .slice cp3 cn3 cc3]) [3, 1, 4] ([3, 1, 4].map dm9) (flat (List.replicate (size (axs dm9 [3, 1, 4])) (rig HR.out).zero)), aB (w5.heap.size) 31 [.slice cp1 cn1 cc1, .slice cp2 cn2 cc2, .slice cp3 cn3 cc3], aI (.slice (some ⟨w5.heap.size + 1, 0, none⟩) 3 3) [1, 5, 3], aI (.slice (some ⟨w5.heap.size + 1 + 1, 0, none⟩) 3 3) [3, 2, 2], aT (.agg #[.slice dp1 dn1 dc1, .slice dp2 dn2 dc2, .slice dp3 dn3 dc3]) [1, 5, 3] ([1, 5, 3].map dm9) (flat (List.replicate (size (axs dm9 [1, 5, 3])) (rig HR.out).zero)), aB (w9.heap.size) 31 [.slice dp1 dn1 dc1, .slice dp2 dn2 dc2, .slice dp3 dn3 dc3], aT (.agg #[.slice ap1 an1 ac1, .slice ap2 an2 ac2, .slice ap3 an3 ac3]) Ma (Ma.map dm9) (flat xa), aB (w11.heap.size) 31 [.slice ap1 an1 ac1, .slice ap2 an2 ac2, .slice ap3 an3 ac3], aT (.agg #[.slice bp1 bn1 bc1, .slice bp2 bn2 bc2, .slice bp3 bn3 bc3]) Mb (Mb.map dm9) (flat xb), aB (w13.heap.size) 31 [.slice bp1 bn1 bc1, .slice bp2 bn2 bc2, .slice bp3 bn3 bc3], aI (.slice (some ⟨w13.heap.size + 1, 0, none⟩) 2 2) [3, 1], aT (.agg #[.slice xp1 xn1 xc1, .slice xp2 xn2 xc2, .slice xp3 xn3 xc3]) [4, 9] ([4, 9].map dm9) (flat (permXs HR.out dm9 Ma [4, 3, 1] xa)), aB (w16.heap.size) 31 [.slice xp1 xn1 xc1, .slice xp2 xn2 xc2, .slice xp3 xn3 xc3], aI (.slice (some ⟨w16.heap.size + 1, 0, none⟩) 2 2) [3, 1], aT (.agg #[.slice yp1 yn1 yc1, .slice yp2 yn2 yc2, .slice yp3 yn3 yc3]) [5, 9] ([5, 9].map dm9) (flat (permXs HR.out dm9 Mb [5, 3, 1] xb)), aB (w19.heap.size) 31 [.slice yp1 yn1 yc1, .slice yp2 yn2 yc2, .slice yp3 yn3 yc3], aI (.slice (some ⟨w19.heap.size + 1, 0, none⟩) 2 2) [3, 1], aI (.slice (some ⟨w19.heap.size + 1 + 1, 0, none⟩) 2 2) [2, 3], aT (.agg #[.slice zp1 zn1 zc1, .slice zp2 zn2 zc2, .slice zp3 zn3 zc3]) [4, 3, 1] ([4, 3, 1].map dm9) (flat (permXs HR.out dm9 Ma [4, 3, 1] xa)), aB (w23.heap.size) 31 [.slice zp1 zn1 zc1, .slice zp2 zn2 zc2, .slice zp3 zn3 zc3], aI (.slice (some ⟨w23.heap.size + 1, 0, none⟩) 2 2) [4, 5], aT (.agg #[.slice up1 un1 uc1, .slice up2 un2 uc2, .slice up3 un3 uc3]) [4, 5] ([4, 5].map dm9) (flat (contrXs HR.out dm9 Ma Mb [4, 5] xa xb)), aB (w26.heap.size) 31 [.slice up1 un1 uc1, .slice up2 un2 uc2, .slice up3 un3 uc3], aI (.slice (some ⟨w26.heap.size + 1, 0, none⟩) 2 2) [4, 5], aT (.agg #[.slice vp1 vn1 vc1, .slice vp2 vn2 vc2, .slice vp3 vn3 vc3]) [4, 5] ([4, 5].map dm9) (flat (contrXs HR.out dm9 [4, 9] [5, 9] [4, 5] (permXs HR.out dm9 Ma [4, 3, 1] xa) (permXs HR.out dm9 Mb [5, 3, 1] xb))), aB (w29.heap.size) 31 [.slice vp1 vn1 vc1, .slice vp2 vn2 vc2, .slice vp3 vn3 vc3]] := hH.grow hw33
  clear hw33
  have hE := hH.ext; clear hH
  go_wp2
  go_ret
  exact ⟨rfl, hE⟩
end Go.Proofs.Ytabeciopggofkaa
