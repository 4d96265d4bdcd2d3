/- The laws' worth and gives. -/
import Derived.Test.YtpegckmagiaggaaGNetSX
set_option linter.unusedSimpArgs false
set_option linter.unusedVariables false
namespace Go.Proofs.Ytpegckmagiaggaa
open Go.RowKit
set_option maxRecDepth 100000 in
set_option maxHeartbeats 4000000 in
theorem worth_any {k p n : Int} (hr : ringOk k p n = true) {dm : Int → Int} {U : List Int} {ts : List (NT k p n)} {op : List Int} (hN : IsN k p n dm U ts op) (tv ov : Value) (w : World) (hT : TensS w tv (ts.map (tenOf dm))) (hO : IntS w ov op) :
 Calls Try.prog 37 #[.agg #[.int .i64 k, .int .i64 p, .int .i64 n, tv, ov]] w fun e w' => ∃ u, e = .returned u ∧ OwnT w' w.heap.size u op (op.map dm) (flat (netXs hr dm ts op)) ∧ Ext w w' := by
 have hT0 := hT
 have hO0 := hO
 obtain ⟨m, hm⟩ : ∃ m, ts.length = m := ⟨_, rfl⟩
 obtain ⟨aV, cV, rfl, hcT1, hcT2⟩ := hT.val
 obtain ⟨aO, cO, rfl, hcO1, hcO2⟩ := hO.val
 rw [List.length_map, hm] at hT hT0 hcT1
 rw [List.length_map, hm]
 have hm12 : m ≤ 12 := by rw [← hm]; exact hN.len
 have hop12 : op.length ≤ 12 := hN.rank
 have HM := Lib.hid hm; have HR := Lib.hid hr; have HN := Lib.hid hN; have HD3 := Lib.hid hN.dims3; clear hm  hN
 have hTl : Hid ((ts.map (tenOf dm)).length = m) := Lib.hid (by rw [List.length_map]; exact HM.out)
 obtain ⟨RX, hRX⟩ : ∃ q, flat (netXs hr dm ts op) = q := ⟨_, rfl⟩
 rw [hRX]
 have HRX := Lib.hid hRX; clear hRX
 go_enter Try.func37, Try.ntmps37
 go_upto_region 1 with fail
 have hH : Held w w [] := Held.new (Ext.refl w) 0
 have hB : Held w (w.alloc (.cells #[.int .i64 k, .int .i64 p, .int .i64 n, .slice aV m cV, .slice aO op.length cO] 29)) [aB (w.heap.size) 29 [.int .i64 k, .int .i64 p, .int .i64 n, .slice aV m cV, .slice aO op.length cO]] := by
  have h := (hH.mores 1).addB 0 #[.int .i64 k, .int .i64 p, .int .i64 n, .slice aV m cV, .slice aO op.length cO] 29
  exact h
 have hsz : (w.alloc (.cells #[.int .i64 k, .int .i64 p, .int .i64 n, .slice aV m cV, .slice aO op.length cO] 29)).heap.size = w.heap.size + 1 := by simp
 generalize w.alloc (.cells #[.int .i64 k, .int .i64 p, .int .i64 n, .slice aV m cV, .slice aO op.length cO] 29) = wn1 at hB hsz ⊢
 replace hH := hB; have HSZwn1 := Lib.hid hsz; clear hB hsz
 have hB : Held w (wn1.alloc (.cells #[.slice none 0 0, .slice none 0 0, .slice none 0 0] 32)) [aB (w.heap.size) 29 [.int .i64 k, .int .i64 p, .int .i64 n, .slice aV m cV, .slice aO op.length cO], aB (w.heap.size + 1) 32 [.slice none 0 0, .slice none 0 0, .slice none 0 0]] := by
  have h := (hH.mores 1).addB 1 #[.slice none 0 0, .slice none 0 0, .slice none 0 0] 32
  rw [HSZwn1.out] at h
  exact h
 have hsz : (wn1.alloc (.cells #[.slice none 0 0, .slice none 0 0, .slice none 0 0] 32)).heap.size = w.heap.size + 1 + 1 := by rw [← HSZwn1.out]; simp
 generalize wn1.alloc (.cells #[.slice none 0 0, .slice none 0 0, .slice none 0 0] 32) = wn2 at hB hsz ⊢
 replace hH := hB; have HSZwn2 := Lib.hid hsz; clear hB hsz
 obtain ⟨q0_0, q0_1, q0_2, q0_3, q0_4, l0_⟩ := hH.c5 0 rfl; obtain ⟨q1_0, q1_1, q1_2, l1_⟩ := hH.c3 1 rfl
 go_wp2_with fail
 clear q0_0 q0_1 q0_2 q0_3 q0_4 l0_ q1_0 q1_1 q1_2 l1_
 refine (networkValue_spec HR.out HN.out _ _ _ (hT0.ext hH.ext) (hO0.ext hH.ext)).mono ?_; rintro ewn3 wn3 ⟨u, rfl, ou, hwn3⟩
 rw [show flat (netXs HR.out dm ts op) = RX from HRX.out] at ou
 obtain ⟨p1, n1, d1, p2, n2, d2, p3, n3, d3, rfl⟩ := ou.shape
 replace hH : Held w wn3 [aB (w.heap.size) 29 [.int .i64 k, .int .i64 p, .int .i64 n, .slice aV m cV, .slice aO op.length cO], aB (w.heap.size + 1) 32 [.slice none 0 0, .slice none 0 0, .slice none 0 0], aT (.agg #[.slice p1 n1 d1, .slice p2 n2 d2, .slice p3 n3 d3]) op (op.map dm) RX] := (hH.mores 1).addT 2 hwn3 ou (Nat.le_refl _)
 clear hwn3
 obtain ⟨q0_0, q0_1, q0_2, q0_3, q0_4, l0_⟩ := hH.c5 0 rfl; obtain ⟨q1_0, q1_1, q1_2, l1_⟩ := hH.c3 1 rfl
 go_upto_region 2 with fail
 clear q0_0 q0_1 q0_2 q0_3 q0_4 l0_ q1_0 q1_1 q1_2 l1_
 have hB : Held w (wn3.alloc (.cells #[.slice p1 n1 d1, .slice p2 n2 d2, .slice p3 n3 d3] 32)) [aB (w.heap.size) 29 [.int .i64 k, .int .i64 p, .int .i64 n, .slice aV m cV, .slice aO op.length cO], aB (w.heap.size + 1) 32 [.slice none 0 0, .slice none 0 0, .slice none 0 0], aT (.agg #[.slice p1 n1 d1, .slice p2 n2 d2, .slice p3 n3 d3]) op (op.map dm) RX, aB (wn3.heap.size) 32 [.slice p1 n1 d1, .slice p2 n2 d2, .slice p3 n3 d3]] := by
  have h := (hH.mores 1).addB 3 #[.slice p1 n1 d1, .slice p2 n2 d2, .slice p3 n3 d3] 32
  exact h
 have hsz : (wn3.alloc (.cells #[.slice p1 n1 d1, .slice p2 n2 d2, .slice p3 n3 d3] 32)).heap.size = wn3.heap.size + 1 := by simp
 generalize wn3.alloc (.cells #[.slice p1 n1 d1, .slice p2 n2 d2, .slice p3 n3 d3] 32) = wn4 at hB hsz ⊢
 replace hH := hB; have HSZwn4 := Lib.hid hsz; clear hB hsz
 obtain ⟨q0_0, q0_1, q0_2, q0_3, q0_4, l0_⟩ := hH.c5 0 rfl; obtain ⟨q1_0, q1_1, q1_2, l1_⟩ := hH.c3 1 rfl; have f1_0 := hH.fr 1 0 rfl; have f1_1 := hH.fr 1 1 rfl; have f1_2 := hH.fr 1 2 rfl; obtain ⟨q3_0, q3_1, q3_2, l3_⟩ := hH.c3 3 rfl
 go_wp2_with fail
 refine bodyPost_ret (v := .agg #[.slice p1 n1 d1, .slice p2 n2 d2, .slice p3 n3 d3]) (by simp [results, Try.results37, go_sem, *]) rfl ?_
 have hHR := hH.setB3' (k := 1) rfl (.slice p1 n1 d1) (.slice p2 n2 d2) (.slice p3 n3 d3)
 exact ⟨_, rfl, hHR.ownT (k := 2) rfl, hHR.ext⟩
set_option maxRecDepth 100000 in
set_option maxHeartbeats 4000000 in
theorem gives_any {k p n : Int} (hr : ringOk k p n = true) {dm : Int → Int} {U : List Int} {ts : List (NT k p n)} {op : List Int} (hN : IsN k p n dm U ts op) (tv ov : Value) (w : World) (hT : TensS w tv (ts.map (tenOf dm))) (hO : IntS w ov op) (va : Value) (Y : List Int) (ha : TenS w va op (op.map dm) Y) (hY : Y = flat (netXs hr dm ts op)) :
 Calls Try.prog 49 #[.agg #[.int .i64 k, .int .i64 p, .int .i64 n, tv, ov], va] w fun e w' => e = .returned (.bool true) ∧ Ext w w' := by
 have hT0 := hT
 have hO0 := hO
 obtain ⟨m, hm⟩ : ∃ m, ts.length = m := ⟨_, rfl⟩
 obtain ⟨aV, cV, rfl, hcT1, hcT2⟩ := hT.val
 obtain ⟨aO, cO, rfl, hcO1, hcO2⟩ := hO.val
 rw [List.length_map, hm] at hT hT0 hcT1
 rw [List.length_map, hm]
 have hm12 : m ≤ 12 := by rw [← hm]; exact hN.len
 have hop12 : op.length ≤ 12 := hN.rank
 have HM := Lib.hid hm; have HR := Lib.hid hr; have HN := Lib.hid hN; have HD3 := Lib.hid hN.dims3; clear hm  hN
 have hTl : Hid ((ts.map (tenOf dm)).length = m) := Lib.hid (by rw [List.length_map]; exact HM.out)
 subst hY
 obtain ⟨RX, hRX⟩ : ∃ q, flat (netXs hr dm ts op) = q := ⟨_, rfl⟩
 rw [hRX] at ha
 have HRX := Lib.hid hRX; clear hRX
 have ha0 := ha
 obtain ⟨ap1, an1, ac1, ap2, an2, ac2, ap3, an3, ac3, rfl⟩ := ha.shape
 go_enter Try.func49, Try.ntmps49
 go_upto_region 1 with fail
 have hH : Held w w [] := Held.new (Ext.refl w) 0
 have hB : Held w (w.alloc (.cells #[.int .i64 k, .int .i64 p, .int .i64 n, .slice aV m cV, .slice aO op.length cO] 29)) [aB (w.heap.size) 29 [.int .i64 k, .int .i64 p, .int .i64 n, .slice aV m cV, .slice aO op.length cO]] := by
  have h := (hH.mores 1).addB 0 #[.int .i64 k, .int .i64 p, .int .i64 n, .slice aV m cV, .slice aO op.length cO] 29
  exact h
 have hsz : (w.alloc (.cells #[.int .i64 k, .int .i64 p, .int .i64 n, .slice aV m cV, .slice aO op.length cO] 29)).heap.size = w.heap.size + 1 := by simp
 generalize w.alloc (.cells #[.int .i64 k, .int .i64 p, .int .i64 n, .slice aV m cV, .slice aO op.length cO] 29) = wn1 at hB hsz ⊢
 replace hH := hB; have HSZwn1 := Lib.hid hsz; clear hB hsz
 have hB : Held w (wn1.alloc (.cells #[.slice ap1 an1 ac1, .slice ap2 an2 ac2, .slice ap3 an3 ac3] 32)) [aB (w.heap.size) 29 [.int .i64 k, .int .i64 p, .int .i64 n, .slice aV m cV, .slice aO op.length cO], aB (w.heap.size + 1) 32 [.slice ap1 an1 ac1, .slice ap2 an2 ac2, .slice ap3 an3 ac3]] := by
  have h := (hH.mores 1).addB 1 #[.slice ap1 an1 ac1, .slice ap2 an2 ac2, .slice ap3 an3 ac3] 32
  rw [HSZwn1.out] at h
  exact h
 have hsz : (wn1.alloc (.cells #[.slice ap1 an1 ac1, .slice ap2 an2 ac2, .slice ap3 an3 ac3] 32)).heap.size = w.heap.size + 1 + 1 := by rw [← HSZwn1.out]; simp
 generalize wn1.alloc (.cells #[.slice ap1 an1 ac1, .slice ap2 an2 ac2, .slice ap3 an3 ac3] 32) = wn2 at hB hsz ⊢
 replace hH := hB; have HSZwn2 := Lib.hid hsz; clear hB hsz
 obtain ⟨q0_0, q0_1, q0_2, q0_3, q0_4, l0_⟩ := hH.c5 0 rfl; obtain ⟨q1_0, q1_1, q1_2, l1_⟩ := hH.c3 1 rfl
 go_wp2_with fail
 clear q0_0 q0_1 q0_2 q0_3 q0_4 l0_ q1_0 q1_1 q1_2 l1_
 refine (networkValue_spec HR.out HN.out _ _ _ (hT0.ext hH.ext) (hO0.ext hH.ext)).mono ?_; rintro ewn3 wn3 ⟨u, rfl, ou, hwn3⟩
 rw [show flat (netXs HR.out dm ts op) = RX from HRX.out] at ou
 obtain ⟨p1, n1, d1, p2, n2, d2, p3, n3, d3, rfl⟩ := ou.shape
 replace hH : Held w wn3 [aB (w.heap.size) 29 [.int .i64 k, .int .i64 p, .int .i64 n, .slice aV m cV, .slice aO op.length cO], aB (w.heap.size + 1) 32 [.slice ap1 an1 ac1, .slice ap2 an2 ac2, .slice ap3 an3 ac3], aT (.agg #[.slice p1 n1 d1, .slice p2 n2 d2, .slice p3 n3 d3]) op (op.map dm) RX] := (hH.mores 1).addT 2 hwn3 ou (Nat.le_refl _)
 clear hwn3
 obtain ⟨q0_0, q0_1, q0_2, q0_3, q0_4, l0_⟩ := hH.c5 0 rfl; obtain ⟨q1_0, q1_1, q1_2, l1_⟩ := hH.c3 1 rfl
 go_upto_region 2 with fail
 clear q0_0 q0_1 q0_2 q0_3 q0_4 l0_ q1_0 q1_1 q1_2 l1_
 have hB : Held w (wn3.alloc (.cells #[.slice p1 n1 d1, .slice p2 n2 d2, .slice p3 n3 d3] 32)) [aB (w.heap.size) 29 [.int .i64 k, .int .i64 p, .int .i64 n, .slice aV m cV, .slice aO op.length cO], aB (w.heap.size + 1) 32 [.slice ap1 an1 ac1, .slice ap2 an2 ac2, .slice ap3 an3 ac3], aT (.agg #[.slice p1 n1 d1, .slice p2 n2 d2, .slice p3 n3 d3]) op (op.map dm) RX, aB (wn3.heap.size) 32 [.slice p1 n1 d1, .slice p2 n2 d2, .slice p3 n3 d3]] := by
  have h := (hH.mores 1).addB 3 #[.slice p1 n1 d1, .slice p2 n2 d2, .slice p3 n3 d3] 32
  exact h
 have hsz : (wn3.alloc (.cells #[.slice p1 n1 d1, .slice p2 n2 d2, .slice p3 n3 d3] 32)).heap.size = wn3.heap.size + 1 := by simp
 generalize wn3.alloc (.cells #[.slice p1 n1 d1, .slice p2 n2 d2, .slice p3 n3 d3] 32) = wn4 at hB hsz ⊢
 replace hH := hB; have HSZwn4 := Lib.hid hsz; clear hB hsz
 obtain ⟨q0_0, q0_1, q0_2, q0_3, q0_4, l0_⟩ := hH.c5 0 rfl; obtain ⟨q1_0, q1_1, q1_2, l1_⟩ := hH.c3 1 rfl; obtain ⟨q3_0, q3_1, q3_2, l3_⟩ := hH.c3 3 rfl
 go_wp2_with fail
 clear q0_0 q0_1 q0_2 q0_3 q0_4 l0_ q1_0 q1_1 q1_2 l1_ q3_0 q3_1 q3_2 l3_
 refine (same_same _ _ _ _ _ _ _ _ _ (hH.tens (k := 2) rfl) (ha0.ext hH.ext) rfl rfl rfl).mono ?_; rintro ewn5 wn5 ⟨rfl, hwn5⟩
 replace hH : Held w wn5 [aB (w.heap.size) 29 [.int .i64 k, .int .i64 p, .int .i64 n, .slice aV m cV, .slice aO op.length cO], aB (w.heap.size + 1) 32 [.slice ap1 an1 ac1, .slice ap2 an2 ac2, .slice ap3 an3 ac3], aT (.agg #[.slice p1 n1 d1, .slice p2 n2 d2, .slice p3 n3 d3]) op (op.map dm) RX, aB (wn3.heap.size) 32 [.slice p1 n1 d1, .slice p2 n2 d2, .slice p3 n3 d3]] := hH.grow hwn5
 clear hwn5
 have HE := Lib.hid hH.ext; clear hH
 go_wp2
 go_ret
 exact ⟨rfl, HE.out⟩
end Go.Proofs.Ytpegckmagiaggaa
