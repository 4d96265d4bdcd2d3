/- AbsorbTensors of the program. -/
import Derived.Test.YtpegckmagiaggaaGAbsW
set_option linter.unusedSimpArgs false
set_option linter.unusedVariables false
namespace Go.Proofs.Ytpegckmagiaggaa
open Go.RowKit
set_option maxRecDepth 100000 in
set_option maxHeartbeats 8000000 in
theorem absorbTensors_any {k p n : Int} (hr : ringOk k p n = true) {dm : Int → Int} {U : List Int} {ts : List (NT k p n)} {op : List Int} (hN : IsN k p n dm U ts op) (tv ov : Value) (w : World) (hT : TensS w tv (ts.map (tenOf dm))) (hO : IntS w ov op) :
 Calls Try.prog 61 #[.agg #[.int .i64 k, .int .i64 p, .int .i64 n, tv, ov]] w fun e w' => ∃ tv' ov' cs us, e = .returned (.agg #[.int .i64 k, .int .i64 p, .int .i64 n, tv', ov']) ∧
  Held w w' [aTs tv' cs (us.map (tenOf dm)), aI ov' op] ∧ AbsT hr dm U ts op us ∧ NoPair us := by
 have hT0 := hT
 have hO0 := hO
 obtain ⟨m, hm⟩ : ∃ m, ts.length = m := ⟨_, rfl⟩
 obtain ⟨aV, cV, rfl, hcT1, hcT2⟩ := hT.val
 obtain ⟨aO, cO, rfl, hcO1, hcO2⟩ := hO.val
 rw [List.length_map, hm] at hT hT0 hcT1
 rw [List.length_map, hm]
 have hm12 : m ≤ 12 := by rw [← hm]; exact hN.len
 have hop12 : op.length ≤ 12 := hN.rank
 have HM := Lib.hid hm; have HR := Lib.hid hr; have HN := Lib.hid hN; have HD3 := Lib.hid hN.dims3; clear hm  hN
 have hTl : Hid ((ts.map (tenOf dm)).length = m) := Lib.hid (by rw [List.length_map]; exact HM.out)
 go_enter Try.func61, Try.ntmps61
 go_upto_region 1 with fail
 have hH : Held w w [] := Held.new (Ext.refl w) 0
 have hB : Held w (w.alloc (.cells #[.int .i64 k, .int .i64 p, .int .i64 n, .slice aV m cV, .slice aO op.length cO] 29)) [aB (w.heap.size) 29 [.int .i64 k, .int .i64 p, .int .i64 n, .slice aV m cV, .slice aO op.length cO]] := by
  have h := (hH.mores 1).addB 0 #[.int .i64 k, .int .i64 p, .int .i64 n, .slice aV m cV, .slice aO op.length cO] 29
  exact h
 have hsz : (w.alloc (.cells #[.int .i64 k, .int .i64 p, .int .i64 n, .slice aV m cV, .slice aO op.length cO] 29)).heap.size = w.heap.size + 1 := by simp
 generalize w.alloc (.cells #[.int .i64 k, .int .i64 p, .int .i64 n, .slice aV m cV, .slice aO op.length cO] 29) = wn1 at hB hsz ⊢
 replace hH := hB; have HSZwn1 := Lib.hid hsz; clear hB hsz
 have hB : Held w (wn1.alloc (.cells #[.int .i64 0, .int .i64 0, .int .i64 0, .slice none 0 0, .slice none 0 0] 29)) [aB (w.heap.size) 29 [.int .i64 k, .int .i64 p, .int .i64 n, .slice aV m cV, .slice aO op.length cO], aB (w.heap.size + 1) 29 [.int .i64 0, .int .i64 0, .int .i64 0, .slice none 0 0, .slice none 0 0]] := by
  have h := (hH.mores 1).addB 1 #[.int .i64 0, .int .i64 0, .int .i64 0, .slice none 0 0, .slice none 0 0] 29
  rw [HSZwn1.out] at h
  exact h
 have hsz : (wn1.alloc (.cells #[.int .i64 0, .int .i64 0, .int .i64 0, .slice none 0 0, .slice none 0 0] 29)).heap.size = w.heap.size + 1 + 1 := by rw [← HSZwn1.out]; simp
 generalize wn1.alloc (.cells #[.int .i64 0, .int .i64 0, .int .i64 0, .slice none 0 0, .slice none 0 0] 29) = wn2 at hB hsz ⊢
 replace hH := hB; have HSZwn2 := Lib.hid hsz; clear hB hsz
 obtain ⟨wz, rfl⟩ : ∃ q, q = wn2 := ⟨wn2, rfl⟩
 obtain ⟨q0_0, q0_1, q0_2, q0_3, q0_4, l0_⟩ := hH.c5 0 rfl; obtain ⟨q1_0, q1_1, q1_2, q1_3, q1_4, l1_⟩ := hH.c5 1 rfl
 go_wp2_with fail
 clear q0_0 q0_1 q0_2 q0_3 q0_4 l0_ q1_0 q1_1 q1_2 q1_3 q1_4 l1_
 refine (networkOk_any HR.out HN.out _ _ _ (hT0.ext hH.ext) (hO0.ext hH.ext)).mono ?_; rintro ewn3 wn3 ⟨rfl, hwn3⟩
 replace hH : Held w wn3 [aB (w.heap.size) 29 [.int .i64 k, .int .i64 p, .int .i64 n, .slice aV m cV, .slice aO op.length cO], aB (w.heap.size + 1) 29 [.int .i64 0, .int .i64 0, .int .i64 0, .slice none 0 0, .slice none 0 0]] := hH.grow hwn3
 clear hwn3
 obtain ⟨q0_0, q0_1, q0_2, q0_3, q0_4, l0_⟩ := hH.c5 0 rfl; obtain ⟨q1_0, q1_1, q1_2, q1_3, q1_4, l1_⟩ := hH.c5 1 rfl
 go_wp2_with fail
 clear q0_0 q0_1 q0_2 q0_3 q0_4 l0_ q1_0 q1_1 q1_2 q1_3 q1_4 l1_
 refine (copyNetwork_any HR.out HN.out _ _ _ (hT0.ext hH.ext) (hO0.ext hH.ext)).mono ?_; rintro ewn4 wn4 ⟨tvC, ovC, csC, rfl, hJ⟩
 obtain ⟨aTC, cTC, hvbC, _, _⟩ := (hJ.tensS (k := 0) rfl).val
 generalize hmTC : (List.map _ _).length = mTC at hvbC
 subst hvbC
 clear hmTC
 obtain ⟨aOC, cOC, rfl⟩ := (hJ.own (k := 1) rfl).shape1 op.length rfl
 replace hH : Held w wn4 [aB (w.heap.size) 29 [.int .i64 k, .int .i64 p, .int .i64 n, .slice aV m cV, .slice aO op.length cO], aB (w.heap.size + 1) 29 [.int .i64 0, .int .i64 0, .int .i64 0, .slice none 0 0, .slice none 0 0], aTs (.slice aTC mTC cTC) csC (ts.map (tenOf dm)), aI (.slice aOC op.length cOC) op] := hH.join hJ (fun q hq => by cases hq)
 clear hJ
 obtain ⟨q0_0, q0_1, q0_2, q0_3, q0_4, l0_⟩ := hH.c5 0 rfl; obtain ⟨q1_0, q1_1, q1_2, q1_3, q1_4, l1_⟩ := hH.c5 1 rfl
 go_upto_region 4 with fail
 clear q0_0 q0_1 q0_2 q0_3 q0_4 l0_ q1_0 q1_1 q1_2 q1_3 q1_4 l1_
 have hB : Held w (wn4.alloc (.cells #[.int .i64 k, .int .i64 p, .int .i64 n, .slice aTC mTC cTC, .slice aOC op.length cOC] 29)) [aB (w.heap.size) 29 [.int .i64 k, .int .i64 p, .int .i64 n, .slice aV m cV, .slice aO op.length cO], aB (w.heap.size + 1) 29 [.int .i64 0, .int .i64 0, .int .i64 0, .slice none 0 0, .slice none 0 0], aTs (.slice aTC mTC cTC) csC (ts.map (tenOf dm)), aI (.slice aOC op.length cOC) op, aB (wn4.heap.size) 29 [.int .i64 k, .int .i64 p, .int .i64 n, .slice aTC mTC cTC, .slice aOC op.length cOC]] := by
  have h := (hH.mores 1).addB 4 #[.int .i64 k, .int .i64 p, .int .i64 n, .slice aTC mTC cTC, .slice aOC op.length cOC] 29
  exact h
 have hsz : (wn4.alloc (.cells #[.int .i64 k, .int .i64 p, .int .i64 n, .slice aTC mTC cTC, .slice aOC op.length cOC] 29)).heap.size = wn4.heap.size + 1 := by simp
 generalize wn4.alloc (.cells #[.int .i64 k, .int .i64 p, .int .i64 n, .slice aTC mTC cTC, .slice aOC op.length cOC] 29) = wn5 at hB hsz ⊢
 replace hH := hB; have HSZwn5 := Lib.hid hsz; clear hB hsz
 obtain ⟨wy, rfl⟩ : ∃ q, q = wn5 := ⟨wn5, rfl⟩
 obtain ⟨q0_0, q0_1, q0_2, q0_3, q0_4, l0_⟩ := hH.c5 0 rfl; obtain ⟨q1_0, q1_1, q1_2, q1_3, q1_4, l1_⟩ := hH.c5 1 rfl; obtain ⟨q4_0, q4_1, q4_2, q4_3, q4_4, l4_⟩ := hH.c5 4 rfl
 go_wp2_with fail
 clear q0_0 q0_1 q0_2 q0_3 q0_4 l0_ q1_0 q1_1 q1_2 q1_3 q1_4 l1_ q4_0 q4_1 q4_2 q4_3 q4_4 l4_
 go_loopg [] 13 (fun gg wr => ∃ (us : List (NT k p n)) (aK : Option Addr) (mK cK : Nat) (aP : Option Addr) (cP : Nat) (cs : List (Value × Value × Value)), Hid (us.length ≤ gg) ∧ Hid (AbsT HR.out dm U ts op us) ∧ Held w wr [aB (w.heap.size) 29 [.int .i64 k, .int .i64 p, .int .i64 n, .slice aV m cV, .slice aO op.length cO], aB (w.heap.size + 1) 29 [.int .i64 0, .int .i64 0, .int .i64 0, .slice none 0 0, .slice none 0 0], aTs (.slice aK mK cK) cs (us.map (tenOf dm)), aI (.slice aP op.length cP) op, aB wn4.heap.size 29 [.int .i64 k, .int .i64 p, .int .i64 n, (.slice aK mK cK), (.slice aP op.length cP)]])
 case atStart => exact ⟨ts, _, _, _, _, _, _, Lib.hid (by rw [HM.out]; omega), Lib.hid (AbsT.refl HR.out HN.out), hH⟩
 case round =>
  clear hH
  obtain ⟨us, aK, mK, cK, aP, cP, cs, hgg, HA, hH⟩ := hrel
  obtain ⟨wq, rfl⟩ : ∃ q, q = wr := ⟨wr, rfl⟩
  obtain ⟨q0_0, q0_1, q0_2, q0_3, q0_4, l0_⟩ := hH.c5 0 rfl; obtain ⟨q1_0, q1_1, q1_2, q1_3, q1_4, l1_⟩ := hH.c5 1 rfl; obtain ⟨q4_0, q4_1, q4_2, q4_3, q4_4, l4_⟩ := hH.c5 4 rfl
  go_wp2_with fail
  clear q0_0 q0_1 q0_2 q0_3 q0_4 l0_ q1_0 q1_1 q1_2 q1_3 q1_4 l1_ q4_0 q4_1 q4_2 q4_3 q4_4 l4_
  refine (absorbOne_any HR.out HA.out.isN _ _ _ (hH.tensS (k := 2) rfl) (hH.ints (k := 3) rfl)).mono ?_; rintro e1 w1 ⟨hAO⟩
  rcases hAO with ⟨rfl, hNP, h1⟩ | ⟨i, j, vt2, vo2, cs2, hij, hj, hnn, rfl, hJ⟩
  ·
   have HNP := Lib.hid hNP; clear hNP
   replace hH : Held w w1 [aB (w.heap.size) 29 [.int .i64 k, .int .i64 p, .int .i64 n, .slice aV m cV, .slice aO op.length cO], aB (w.heap.size + 1) 29 [.int .i64 0, .int .i64 0, .int .i64 0, .slice none 0 0, .slice none 0 0], aTs (.slice aK mK cK) cs (us.map (tenOf dm)), aI (.slice aP op.length cP) op, aB wn4.heap.size 29 [.int .i64 k, .int .i64 p, .int .i64 n, (.slice aK mK cK), (.slice aP op.length cP)]] := hH.grow h1
   clear h1
   obtain ⟨q0_0, q0_1, q0_2, q0_3, q0_4, l0_⟩ := hH.c5 0 rfl; obtain ⟨q1_0, q1_1, q1_2, q1_3, q1_4, l1_⟩ := hH.c5 1 rfl; obtain ⟨q4_0, q4_1, q4_2, q4_3, q4_4, l4_⟩ := hH.c5 4 rfl
   go_upto_region 5 with fail
   clear q0_0 q0_1 q0_2 q0_3 q0_4 l0_ q1_0 q1_1 q1_2 q1_3 q1_4 l1_ q4_0 q4_1 q4_2 q4_3 q4_4 l4_
   have hB : Held w (w1.alloc (.cells #[.int .i64 0, .int .i64 0, .int .i64 0, .slice none 0 0, .slice none 0 0] 29)) [aB (w.heap.size) 29 [.int .i64 k, .int .i64 p, .int .i64 n, .slice aV m cV, .slice aO op.length cO], aB (w.heap.size + 1) 29 [.int .i64 0, .int .i64 0, .int .i64 0, .slice none 0 0, .slice none 0 0], aTs (.slice aK mK cK) cs (us.map (tenOf dm)), aI (.slice aP op.length cP) op, aB wn4.heap.size 29 [.int .i64 k, .int .i64 p, .int .i64 n, (.slice aK mK cK), (.slice aP op.length cP)], aB (w1.heap.size) 29 [.int .i64 0, .int .i64 0, .int .i64 0, .slice none 0 0, .slice none 0 0]] := by
    have h := (hH.mores 1).addB 5 #[.int .i64 0, .int .i64 0, .int .i64 0, .slice none 0 0, .slice none 0 0] 29
    exact h
   have hsz : (w1.alloc (.cells #[.int .i64 0, .int .i64 0, .int .i64 0, .slice none 0 0, .slice none 0 0] 29)).heap.size = w1.heap.size + 1 := by simp
   generalize w1.alloc (.cells #[.int .i64 0, .int .i64 0, .int .i64 0, .slice none 0 0, .slice none 0 0] 29) = wn6 at hB hsz ⊢
   replace hH := hB; have HSZwn6 := Lib.hid hsz; clear hB hsz
   obtain ⟨wx, rfl⟩ : ∃ q, q = wn6 := ⟨wn6, rfl⟩
   obtain ⟨q0_0, q0_1, q0_2, q0_3, q0_4, l0_⟩ := hH.c5 0 rfl; obtain ⟨q1_0, q1_1, q1_2, q1_3, q1_4, l1_⟩ := hH.c5 1 rfl; have f1_0 := hH.fr 1 0 rfl; have f1_1 := hH.fr 1 1 rfl; have f1_2 := hH.fr 1 2 rfl; have f1_3 := hH.fr 1 3 rfl; have f1_4 := hH.fr 1 4 rfl; obtain ⟨q4_0, q4_1, q4_2, q4_3, q4_4, l4_⟩ := hH.c5 4 rfl; obtain ⟨q5_0, q5_1, q5_2, q5_3, q5_4, l5_⟩ := hH.c5 5 rfl
   go_wp2_with fail
   refine bodyPost_ret (v := .agg #[.int .i64 k, .int .i64 p, .int .i64 n, .slice aK mK cK, .slice aP op.length cP]) (by simp [results, Try.results61, go_sem, *]) rfl ?_
   exact ⟨_, _, cs, us, rfl, ((hH.setB5 (k := 1) rfl (.int .i64 k) (.int .i64 p) (.int .i64 n) (.slice aK mK cK) (.slice aP op.length cP)).sub (.cons _ (.cons _ (.cons_cons _ (.cons_cons _ (.cons _ (.cons _ .slnil))))))), HA.out, HNP.out⟩
  ·
   obtain ⟨hA2, hl2⟩ := HA.out.step HR.out hij hj hnn
   obtain ⟨us2, hus2⟩ : ∃ q, mrgL HR.out dm us op i j = q := ⟨_, rfl⟩
   rw [hus2] at hA2 hl2 hJ
   have HA2 := Lib.hid hA2; have HL2 : Hid (us2.length < us.length) := Lib.hid hl2; clear hA2 hl2 hus2 hij hj hnn
   obtain ⟨aT2, cT2, hvb2, _, _⟩ := (hJ.tensS (k := 0) rfl).val
   generalize hmT2 : (List.map _ _).length = mT2 at hvb2
   subst hvb2
   clear hmT2
   obtain ⟨aO2, cO2, rfl⟩ := (hJ.own (k := 1) rfl).shape1 op.length rfl
   replace hH : Held w w1 [aB (w.heap.size) 29 [.int .i64 k, .int .i64 p, .int .i64 n, .slice aV m cV, .slice aO op.length cO], aB (w.heap.size + 1) 29 [.int .i64 0, .int .i64 0, .int .i64 0, .slice none 0 0, .slice none 0 0], aTs (.slice aK mK cK) cs (us.map (tenOf dm)), aI (.slice aP op.length cP) op, aB wn4.heap.size 29 [.int .i64 k, .int .i64 p, .int .i64 n, (.slice aK mK cK), (.slice aP op.length cP)], aTs (.slice aT2 mT2 cT2) cs2 (us2.map (tenOf dm)), aI (.slice aO2 op.length cO2) op] := hH.join hJ (fun q hq => by cases hq)
   clear hJ
   obtain ⟨q0_0, q0_1, q0_2, q0_3, q0_4, l0_⟩ := hH.c5 0 rfl; obtain ⟨q1_0, q1_1, q1_2, q1_3, q1_4, l1_⟩ := hH.c5 1 rfl; obtain ⟨q4_0, q4_1, q4_2, q4_3, q4_4, l4_⟩ := hH.c5 4 rfl
   go_upto_region 5 with fail
   clear q0_0 q0_1 q0_2 q0_3 q0_4 l0_ q1_0 q1_1 q1_2 q1_3 q1_4 l1_ q4_0 q4_1 q4_2 q4_3 q4_4 l4_
   have hB : Held w (w1.alloc (.cells #[.int .i64 k, .int .i64 p, .int .i64 n, .slice aT2 mT2 cT2, .slice aO2 op.length cO2] 29)) [aB (w.heap.size) 29 [.int .i64 k, .int .i64 p, .int .i64 n, .slice aV m cV, .slice aO op.length cO], aB (w.heap.size + 1) 29 [.int .i64 0, .int .i64 0, .int .i64 0, .slice none 0 0, .slice none 0 0], aTs (.slice aK mK cK) cs (us.map (tenOf dm)), aI (.slice aP op.length cP) op, aB wn4.heap.size 29 [.int .i64 k, .int .i64 p, .int .i64 n, (.slice aK mK cK), (.slice aP op.length cP)], aTs (.slice aT2 mT2 cT2) cs2 (us2.map (tenOf dm)), aI (.slice aO2 op.length cO2) op, aB (w1.heap.size) 29 [.int .i64 k, .int .i64 p, .int .i64 n, .slice aT2 mT2 cT2, .slice aO2 op.length cO2]] := by
    have h := (hH.mores 1).addB 7 #[.int .i64 k, .int .i64 p, .int .i64 n, .slice aT2 mT2 cT2, .slice aO2 op.length cO2] 29
    exact h
   have hsz : (w1.alloc (.cells #[.int .i64 k, .int .i64 p, .int .i64 n, .slice aT2 mT2 cT2, .slice aO2 op.length cO2] 29)).heap.size = w1.heap.size + 1 := by simp
   generalize w1.alloc (.cells #[.int .i64 k, .int .i64 p, .int .i64 n, .slice aT2 mT2 cT2, .slice aO2 op.length cO2] 29) = wn7 at hB hsz ⊢
   replace hH := hB; have HSZwn7 := Lib.hid hsz; clear hB hsz
   obtain ⟨wx, rfl⟩ : ∃ q, q = wn7 := ⟨wn7, rfl⟩
   obtain ⟨q0_0, q0_1, q0_2, q0_3, q0_4, l0_⟩ := hH.c5 0 rfl; obtain ⟨q1_0, q1_1, q1_2, q1_3, q1_4, l1_⟩ := hH.c5 1 rfl; obtain ⟨q4_0, q4_1, q4_2, q4_3, q4_4, l4_⟩ := hH.c5 4 rfl; have f4_0 := hH.fr 4 0 rfl; have f4_1 := hH.fr 4 1 rfl; have f4_2 := hH.fr 4 2 rfl; have f4_3 := hH.fr 4 3 rfl; have f4_4 := hH.fr 4 4 rfl; obtain ⟨q7_0, q7_1, q7_2, q7_3, q7_4, l7_⟩ := hH.c5 7 rfl
   go_wp2_with fail
   have hHs := hH.setB5 (k := 4) rfl (.int .i64 k) (.int .i64 p) (.int .i64 n) (.slice aT2 mT2 cT2) (.slice aO2 op.length cO2)
   go_roundg (gk - 1)
   case measure => have h1 := hgg.out; have h2 := HL2.out; omega
   case rel => exact ⟨us2, _, _, _, _, _, cs2, Lib.hid (by have h1 := hgg.out; have h2 := HL2.out; omega), HA2, ((hHs.moveTo 2 5 rfl (by decide)).moveTo 3 6 rfl (by decide)).sub (.cons_cons _ (.cons_cons _ (.cons_cons _ (.cons_cons _ (.cons_cons _ (.cons _ (.cons _ (.cons _ .slnil))))))))⟩
end Go.Proofs.Ytpegckmagiaggaa
