/- MapNetwork of the program. -/
import Derived.Test.YtpegckmagiaggaaCBase
import Derived.Test.YtpegckmagiaggaaCNetW
import Derived.Test.YtpegckmagiaggaaCAxesW
import Derived.Test.YtpegckmagiaggaaCG10
import Derived.Test.YtpegckmagiaggaaCTenW
import Derived.Test.YtpegckmagiaggaaCG5
import Derived.Test.YtpegckmagiaggaaCG13
import Derived.Test.YtpegckmagiaggaaCMapW
namespace Go.Proofs.Ytpegckmagiaggaa
open Go.RowKit
set_option linter.unusedSimpArgs false
set_option linter.unusedVariables false
theorem HeldX.swap {ex : Option Nat} {a w : World} {A B : Asn} (h : HeldX ex a w [A, B]) : HeldX ex a w [B, A] := h.perm (List.Perm.swap _ _ _)
section
variable {k p n tk tp tn hk ha : Int} (H : Keeps k p n tk tp tn hk ha) (hh : homOk k p n tk tp tn hk ha = true)
theorem mapN_take {ts : List (NT k p n)} {j : Nat} {L : List Int} {xs : List (El k p n)} (h : ts[j]? = some (L, xs)) : mapN H (ts.take (j + 1)) = mapN H (ts.take j) ++ [(L, xs.map (homEl H))] := by
  unfold mapN; rw [List.take_add_one, h, List.map_append]; rfl
include hh
set_option maxRecDepth 100000 in
set_option maxHeartbeats 8000000 in
theorem mapNetwork_any (hr : ringOk k p n = true) {dm : Int → Int} {U : List Int} {ts : List (NT k p n)} {op : List Int} (hN : IsN k p n dm U ts op) (tv ov : Value) (w : World) (hT : TensS w tv (ts.map (tenOf dm))) (hO : IntS w ov op) :
    Calls Try.prog 35 #[.agg #[.int .i64 k, .int .i64 p, .int .i64 n, tv, ov], ringV tk tp tn, homV hk ha] w fun e w' => ∃ tv' ov' cs, e = .returned (.tuple #[.agg #[.int .i64 tk, .int .i64 tp, .int .i64 tn, tv', ov'], .bool true]) ∧
      Held w w' [aTs tv' cs ((mapN H ts).map (tenOf dm)), aI ov' op] := by
  have hT0 := hT
  have hO0 := hO
  obtain ⟨m, hm⟩ : ∃ m, ts.length = m := ⟨_, rfl⟩
  obtain ⟨aV, cV, rfl, hcT1, hcT2⟩ := hT.val
  obtain ⟨aO, cO, rfl, hcO1, hcO2⟩ := hO.val
  rw [List.length_map, hm] at hT hT0 hcT1
  rw [List.length_map, hm]
  have hm12 : m ≤ 12 := by rw [← hm]; exact hN.len
  have hop12 : op.length ≤ 12 := hN.rank
  have HM := Lib.hid hm; have HR := Lib.hid hr; have HN := Lib.hid hN; have HD3 := Lib.hid hN.dims3; clear hm hr hN
  have hTl : Hid ((ts.map (tenOf dm)).length = m) := Lib.hid (by rw [List.length_map]; exact HM.out)
  have HH := Lib.hid hh; clear hh
  obtain ⟨MN, hMN⟩ : ∃ q, mapN H ts = q := ⟨_, rfl⟩
  rw [hMN]
  have HMN := Lib.hid hMN; clear hMN
  go_enter Try.func35, Try.ntmps35
  go_upto_region 1 with fail
  have hH : Held w w [] := Held.new (Ext.refl w) 0
  have hB : Held w (w.alloc (.cells #[.int .i64 k, .int .i64 p, .int .i64 n, .slice aV m cV, .slice aO op.length cO] 29)) [aB (w.heap.size) 29 [.int .i64 k, .int .i64 p, .int .i64 n, .slice aV m cV, .slice aO op.length cO]] := by
    have h := (hH.mores 1).addB 0 #[.int .i64 k, .int .i64 p, .int .i64 n, .slice aV m cV, .slice aO op.length cO] 29
    exact h
  have hsz : (w.alloc (.cells #[.int .i64 k, .int .i64 p, .int .i64 n, .slice aV m cV, .slice aO op.length cO] 29)).heap.size = w.heap.size + 1 := by simp
  generalize w.alloc (.cells #[.int .i64 k, .int .i64 p, .int .i64 n, .slice aV m cV, .slice aO op.length cO] 29) = wn1 at hB hsz ⊢
  replace hH := hB; have HSZwn1 := Lib.hid hsz; clear hB hsz
  have hB : Held w (wn1.alloc (.cells #[.int .i64 tk, .int .i64 tp, .int .i64 tn] 24)) [aB (w.heap.size) 29 [.int .i64 k, .int .i64 p, .int .i64 n, .slice aV m cV, .slice aO op.length cO], aB (w.heap.size + 1) 24 [.int .i64 tk, .int .i64 tp, .int .i64 tn]] := by
    have h := (hH.mores 1).addB 1 #[.int .i64 tk, .int .i64 tp, .int .i64 tn] 24
    rw [HSZwn1.out] at h
    exact h
  have hsz : (wn1.alloc (.cells #[.int .i64 tk, .int .i64 tp, .int .i64 tn] 24)).heap.size = w.heap.size + 1 + 1 := by rw [← HSZwn1.out]; simp
  generalize wn1.alloc (.cells #[.int .i64 tk, .int .i64 tp, .int .i64 tn] 24) = wn2 at hB hsz ⊢
  replace hH := hB; have HSZwn2 := Lib.hid hsz; clear hB hsz
  have hB : Held w (wn2.alloc (.cells #[.int .i64 hk, .int .i64 ha] 56)) [aB (w.heap.size) 29 [.int .i64 k, .int .i64 p, .int .i64 n, .slice aV m cV, .slice aO op.length cO], aB (w.heap.size + 1) 24 [.int .i64 tk, .int .i64 tp, .int .i64 tn], aB (w.heap.size + 1 + 1) 56 [.int .i64 hk, .int .i64 ha]] := by
    have h := (hH.mores 1).addB 2 #[.int .i64 hk, .int .i64 ha] 56
    rw [HSZwn2.out] at h
    exact h
  have hsz : (wn2.alloc (.cells #[.int .i64 hk, .int .i64 ha] 56)).heap.size = w.heap.size + 1 + 1 + 1 := by rw [← HSZwn2.out]; simp
  generalize wn2.alloc (.cells #[.int .i64 hk, .int .i64 ha] 56) = wn3 at hB hsz ⊢
  replace hH := hB; have HSZwn3 := Lib.hid hsz; clear hB hsz
  have hB : Held w (wn3.alloc (.cells #[.int .i64 0, .int .i64 0, .int .i64 0, .slice none 0 0, .slice none 0 0] 29)) [aB (w.heap.size) 29 [.int .i64 k, .int .i64 p, .int .i64 n, .slice aV m cV, .slice aO op.length cO], aB (w.heap.size + 1) 24 [.int .i64 tk, .int .i64 tp, .int .i64 tn], aB (w.heap.size + 1 + 1) 56 [.int .i64 hk, .int .i64 ha], aB (w.heap.size + 1 + 1 + 1) 29 [.int .i64 0, .int .i64 0, .int .i64 0, .slice none 0 0, .slice none 0 0]] := by
    have h := (hH.mores 1).addB 3 #[.int .i64 0, .int .i64 0, .int .i64 0, .slice none 0 0, .slice none 0 0] 29
    rw [HSZwn3.out] at h
    exact h
  have hsz : (wn3.alloc (.cells #[.int .i64 0, .int .i64 0, .int .i64 0, .slice none 0 0, .slice none 0 0] 29)).heap.size = w.heap.size + 1 + 1 + 1 + 1 := by rw [← HSZwn3.out]; simp
  generalize wn3.alloc (.cells #[.int .i64 0, .int .i64 0, .int .i64 0, .slice none 0 0, .slice none 0 0] 29) = wn4 at hB hsz ⊢
  replace hH := hB; have HSZwn4 := Lib.hid hsz; clear hB hsz
  have q0_0 := (hH.blk (k := 0) rfl).cell (j := 0) rfl
  have q0_1 := (hH.blk (k := 0) rfl).cell (j := 1) rfl
  have q0_2 := (hH.blk (k := 0) rfl).cell (j := 2) rfl
  have q0_3 := (hH.blk (k := 0) rfl).cell (j := 3) rfl
  have q0_4 := (hH.blk (k := 0) rfl).cell (j := 4) rfl
  have l0_ := (hH.blk (k := 0) rfl).lt
  have q1_0 := (hH.blk (k := 1) rfl).cell (j := 0) rfl
  have q1_1 := (hH.blk (k := 1) rfl).cell (j := 1) rfl
  have q1_2 := (hH.blk (k := 1) rfl).cell (j := 2) rfl
  have l1_ := (hH.blk (k := 1) rfl).lt
  have q2_0 := (hH.blk (k := 2) rfl).cell (j := 0) rfl
  have q2_1 := (hH.blk (k := 2) rfl).cell (j := 1) rfl
  have l2_ := (hH.blk (k := 2) rfl).lt
  have q3_0 := (hH.blk (k := 3) rfl).cell (j := 0) rfl
  have q3_1 := (hH.blk (k := 3) rfl).cell (j := 1) rfl
  have q3_2 := (hH.blk (k := 3) rfl).cell (j := 2) rfl
  have q3_3 := (hH.blk (k := 3) rfl).cell (j := 3) rfl
  have q3_4 := (hH.blk (k := 3) rfl).cell (j := 4) rfl
  have l3_ := (hH.blk (k := 3) rfl).lt
  go_wp2_with fail
  clear q0_0 q0_1 q0_2 q0_3 q0_4 l0_ q1_0 q1_1 q1_2 l1_ q2_0 q2_1 l2_ q3_0 q3_1 q3_2 q3_3 q3_4 l3_
  refine (networkOk_any HR.out HN.out _ _ _ (hT0.ext hH.ext) (hO0.ext hH.ext)).mono ?_; rintro ewn5 wn5 ⟨rfl, hwn5⟩
  replace hH : Held w wn5 [aB (w.heap.size) 29 [.int .i64 k, .int .i64 p, .int .i64 n, .slice aV m cV, .slice aO op.length cO], aB (w.heap.size + 1) 24 [.int .i64 tk, .int .i64 tp, .int .i64 tn], aB (w.heap.size + 1 + 1) 56 [.int .i64 hk, .int .i64 ha], aB (w.heap.size + 1 + 1 + 1) 29 [.int .i64 0, .int .i64 0, .int .i64 0, .slice none 0 0, .slice none 0 0]] := hH.grow hwn5
  clear hwn5
  have q0_0 := (hH.blk (k := 0) rfl).cell (j := 0) rfl
  have q0_1 := (hH.blk (k := 0) rfl).cell (j := 1) rfl
  have q0_2 := (hH.blk (k := 0) rfl).cell (j := 2) rfl
  have q0_3 := (hH.blk (k := 0) rfl).cell (j := 3) rfl
  have q0_4 := (hH.blk (k := 0) rfl).cell (j := 4) rfl
  have l0_ := (hH.blk (k := 0) rfl).lt
  have q1_0 := (hH.blk (k := 1) rfl).cell (j := 0) rfl
  have q1_1 := (hH.blk (k := 1) rfl).cell (j := 1) rfl
  have q1_2 := (hH.blk (k := 1) rfl).cell (j := 2) rfl
  have l1_ := (hH.blk (k := 1) rfl).lt
  have q2_0 := (hH.blk (k := 2) rfl).cell (j := 0) rfl
  have q2_1 := (hH.blk (k := 2) rfl).cell (j := 1) rfl
  have l2_ := (hH.blk (k := 2) rfl).lt
  have q3_0 := (hH.blk (k := 3) rfl).cell (j := 0) rfl
  have q3_1 := (hH.blk (k := 3) rfl).cell (j := 1) rfl
  have q3_2 := (hH.blk (k := 3) rfl).cell (j := 2) rfl
  have q3_3 := (hH.blk (k := 3) rfl).cell (j := 3) rfl
  have q3_4 := (hH.blk (k := 3) rfl).cell (j := 4) rfl
  have l3_ := (hH.blk (k := 3) rfl).lt
  go_wp2_with fail
  clear q0_0 q0_1 q0_2 q0_3 q0_4 l0_ q1_0 q1_1 q1_2 l1_ q2_0 q2_1 l2_ q3_0 q3_1 q3_2 q3_3 q3_4 l3_
  refine (homOk_impl k p n tk tp tn hk ha _).mono ?_; rintro ewn6 wn6 ⟨rfl, hwn6⟩
  rw [HH.out]
  replace hH : Held w wn6 [aB (w.heap.size) 29 [.int .i64 k, .int .i64 p, .int .i64 n, .slice aV m cV, .slice aO op.length cO], aB (w.heap.size + 1) 24 [.int .i64 tk, .int .i64 tp, .int .i64 tn], aB (w.heap.size + 1 + 1) 56 [.int .i64 hk, .int .i64 ha], aB (w.heap.size + 1 + 1 + 1) 29 [.int .i64 0, .int .i64 0, .int .i64 0, .slice none 0 0, .slice none 0 0]] := hH.grow hwn6
  clear hwn6
  have q0_0 := (hH.blk (k := 0) rfl).cell (j := 0) rfl
  have q0_1 := (hH.blk (k := 0) rfl).cell (j := 1) rfl
  have q0_2 := (hH.blk (k := 0) rfl).cell (j := 2) rfl
  have q0_3 := (hH.blk (k := 0) rfl).cell (j := 3) rfl
  have q0_4 := (hH.blk (k := 0) rfl).cell (j := 4) rfl
  have l0_ := (hH.blk (k := 0) rfl).lt
  have q1_0 := (hH.blk (k := 1) rfl).cell (j := 0) rfl
  have q1_1 := (hH.blk (k := 1) rfl).cell (j := 1) rfl
  have q1_2 := (hH.blk (k := 1) rfl).cell (j := 2) rfl
  have l1_ := (hH.blk (k := 1) rfl).lt
  have q2_0 := (hH.blk (k := 2) rfl).cell (j := 0) rfl
  have q2_1 := (hH.blk (k := 2) rfl).cell (j := 1) rfl
  have l2_ := (hH.blk (k := 2) rfl).lt
  have q3_0 := (hH.blk (k := 3) rfl).cell (j := 0) rfl
  have q3_1 := (hH.blk (k := 3) rfl).cell (j := 1) rfl
  have q3_2 := (hH.blk (k := 3) rfl).cell (j := 2) rfl
  have q3_3 := (hH.blk (k := 3) rfl).cell (j := 3) rfl
  have q3_4 := (hH.blk (k := 3) rfl).cell (j := 4) rfl
  have l3_ := (hH.blk (k := 3) rfl).lt
  go_upto_region 3 with fail
  clear q0_0 q0_1 q0_2 q0_3 q0_4 l0_ q1_0 q1_1 q1_2 l1_ q2_0 q2_1 l2_ q3_0 q3_1 q3_2 q3_3 q3_4 l3_
  replace hH := hH.mores 2
  replace hH : Held w wn6 [aB (w.heap.size) 29 [.int .i64 k, .int .i64 p, .int .i64 n, .slice aV m cV, .slice aO op.length cO], aB (w.heap.size + 1) 24 [.int .i64 tk, .int .i64 tp, .int .i64 tn], aB (w.heap.size + 1 + 1) 56 [.int .i64 hk, .int .i64 ha], aB (w.heap.size + 1 + 1 + 1) 29 [.int .i64 0, .int .i64 0, .int .i64 0, .slice none 0 0, .slice none 0 0], emp, emp] := hH
  refine wp_region_steps ?Fa (fun b t wx => Held w wx [aB (w.heap.size) 29 [.int .i64 k, .int .i64 p, .int .i64 n, .slice aV m cV, .slice aO op.length cO], aB (w.heap.size + 1) 24 [.int .i64 tk, .int .i64 tp, .int .i64 tn], aB (w.heap.size + 1 + 1) 56 [.int .i64 hk, .int .i64 ha], aB (w.heap.size + 1 + 1 + 1) 29 [.int .i64 0, .int .i64 0, .int .i64 0, .slice none 0 0, .slice none 0 0], (bif b 3 then aI (t 3) op else emp), (bif b 6 then aB (blkOf (t 5)) 29 (partsN (t 4)) else (bif b 5 then aB (blkOf (t 5)) 29 [.int .i64 0, .int .i64 0, .int .i64 0, .slice none 0 0, .slice none 0 0] else emp))] ∧ (b 0 = true → t 0 = .agg #[.int .i64 tk, .int .i64 tp, .int .i64 tn]) ∧ (b 1 = true → t 1 = .pointer (some ⟨w.heap.size, 4, none⟩)) ∧ (b 2 = true → t 2 = .slice aO op.length cO) ∧ (b 3 = true → ∃ x c, t 3 = .slice x op.length c) ∧ (b 4 = true → t 4 = .agg #[.int .i64 tk, .int .i64 tp, .int .i64 tn, .slice none 0 0, t 3]) ∧ (b 5 = true → ∃ q, t 5 = .pointer (some ⟨q, 0, none⟩))) ?hFa (by kernel_rfl) (by kernel_rfl) ?hJa ?hSa ?hEa
  (case hFa => intro t; simp only [putAll, Act.put, List.setIfInBounds_toArray, List.set_cons_zero, List.set_cons_succ, Nat.reduceAdd, Nat.zero_add]; exact rfl)
  case hJa => exact ⟨hH.grow ((Ext.refl _).drew), fun h => absurd h Bool.false_ne_true, fun h => absurd h Bool.false_ne_true, fun h => absurd h Bool.false_ne_true, fun h => absurd h Bool.false_ne_true, fun h => absurd h Bool.false_ne_true, fun h => absurd h Bool.false_ne_true⟩
  case hSa =>
    as_aux_lemma =>
      refine AllSteps.cons (j := 1) rfl (fun b t wx hJ hb hd hcl Kc hK => ?_) ?_
      · obtain ⟨hH, v0, v1, v2, v3, v4, v5⟩ := hJ
        have q1_0 := (hH.blk (k := 1) rfl).cell (j := 0) rfl
        have q1_1 := (hH.blk (k := 1) rfl).cell (j := 1) rfl
        have q1_2 := (hH.blk (k := 1) rfl).cell (j := 2) rfl
        go_simp
        refine hK.out _ ?_ _ ?_ ?_; rotate_left 2
        · rfl
        exact ⟨hH, fun _ => rfl, v1, v2, v3, v4, v5⟩
      refine AllSteps.cons (j := 2) rfl (fun b t wx hJ hb hd hcl Kc hK => ?_) ?_
      · obtain ⟨hH, v0, v1, v2, v3, v4, v5⟩ := hJ
        go_simp
        refine hK.out _ ?_ _ ?_ ?_; rotate_left 2
        · rfl
        exact ⟨hH, v0, fun _ => rfl, v2, v3, v4, v5⟩
      refine AllSteps.cons (j := 3) rfl (fun b t wx hJ hb hd hcl Kc hK => ?_) ?_
      · obtain ⟨hH, v0, v1, v2, v3, v4, v5⟩ := hJ
        have d1 : b 1 = true := hd.out 1 (by kernel_rfl)
        have r1 := v1 d1
        have q0_4 := (hH.blk (k := 0) rfl).cell (j := 4) rfl
        go_simp
        refine hK.out _ ?_ _ ?_ ?_; rotate_left 2
        · (try simp only [r1]); rfl
        exact ⟨hH, v0, v1, fun _ => rfl, v3, v4, v5⟩
      refine AllSteps.cons (j := 4) rfl (fun b t wx hJ hb hd hcl Kc hK => ?_) ?_
      · obtain ⟨hH, v0, v1, v2, v3, v4, v5⟩ := hJ
        have d2 : b 2 = true := hd.out 2 (by kernel_rfl)
        have n4 : b 4 = false := Bool.eq_false_iff.2 fun h => absurd (hcl.out 4 3 (by kernel_rfl) (h)) (by rw [hb]; exact Bool.false_ne_true)
        have r2 := v2 d2
        have hN := hH; (try simp only [hb, d2, n4, cond_true, cond_false] at hN)
        go_simp
        go_at_call 100
        refine (copyInts_any _ op _ (hO.ext hH.ext) (by omega)).mono ?_; rintro e3 w3 ⟨v4, rfl, o4, h4⟩
        obtain ⟨x4, c4, rfl, _, _⟩ := o4.ints.val
        (try go_simp)
        refine hK.out _ ?_ _ ?_ ?_; rotate_left 2
        · (try simp only [r2]); rfl
        exact ⟨by have hX := hN.addI 4 h4 o4 (Nat.le_refl _); (try simp only [List.set_cons_zero, List.set_cons_succ] at hX); simpa only [updB, updV, blkOf_mk, tup0_mk, partsOf3, partsN_mk, Nat.reduceBEq, cond_true, cond_false, hb, d2, n4, r2] using hX, v0, v1, v2, fun _ => ⟨_, _, rfl⟩, fun h => absurd (show b 4 = true from h) (by rw [n4]; exact Bool.false_ne_true), v5⟩
      refine AllSteps.cons (j := 5) rfl (fun b t wx hJ hb hd hcl Kc hK => ?_) ?_
      · obtain ⟨hH, v0, v1, v2, v3, v4, v5⟩ := hJ
        have d0 : b 0 = true := hd.out 0 (by kernel_rfl)
        have d3 : b 3 = true := hd.out 3 (by kernel_rfl)
        have n6 : b 6 = false := Bool.eq_false_iff.2 fun h => absurd (hcl.out 6 4 (by kernel_rfl) (h)) (by rw [hb]; exact Bool.false_ne_true)
        have r0 := v0 d0
        have r3 := v3 d3
        obtain ⟨x_3, c_3, r3⟩ := r3
        have hN := hH; (try simp only [hb, d0, d3, n6, cond_true, cond_false] at hN)
        have e3 := r3 -- d3
        go_simp
        refine hK.out _ ?_ _ ?_ ?_; rotate_left 2
        · (try simp only [r0, r3]); rfl
        exact ⟨by have hX := hN; (try simp only [List.set_cons_zero, List.set_cons_succ] at hX); simpa only [updB, updV, blkOf_mk, tup0_mk, partsOf3, partsN_mk, Nat.reduceBEq, cond_true, cond_false, hb, d0, d3, n6, r0, r3] using hX, v0, v1, v2, v3, fun _ => (by show Value.agg _ = Value.agg #[_, _, _, _, t 3]; rw [r3]), v5⟩
      refine AllSteps.cons (j := 6) rfl (fun b t wx hJ hb hd hcl Kc hK => ?_) ?_
      · obtain ⟨hH, v0, v1, v2, v3, v4, v5⟩ := hJ
        have n6 : b 6 = false := Bool.eq_false_iff.2 fun h => absurd (hcl.out 6 5 (by kernel_rfl) (h)) (by rw [hb]; exact Bool.false_ne_true)
        have hN := hH; (try simp only [hb, n6, cond_true, cond_false] at hN)
        go_simp
        refine hK.out _ ?_ _ ?_ ?_; rotate_left 2
        · rfl
        exact ⟨by have hX := hN.addB 5 #[.int .i64 0, .int .i64 0, .int .i64 0, .slice none 0 0, .slice none 0 0] 29; (try simp only [List.set_cons_zero, List.set_cons_succ] at hX); simpa only [updB, updV, blkOf_mk, tup0_mk, partsOf3, partsN_mk, Nat.reduceBEq, cond_true, cond_false, hb, n6] using hX, v0, v1, v2, v3, v4, fun _ => ⟨_, rfl⟩⟩
      refine AllSteps.cons (j := 7) rfl (fun b t wx hJ hb hd hcl Kc hK => ?_) ?_
      · obtain ⟨hH, v0, v1, v2, v3, v4, v5⟩ := hJ
        have d0 : b 0 = true := hd.out 0 (by kernel_rfl)
        have d1 : b 1 = true := hd.out 1 (by kernel_rfl)
        have d2 : b 2 = true := hd.out 2 (by kernel_rfl)
        have d3 : b 3 = true := hd.out 3 (by kernel_rfl)
        have d4 : b 4 = true := hd.out 4 (by kernel_rfl)
        have d5 : b 5 = true := hd.out 5 (by kernel_rfl)
        have r0 := v0 d0
        have r1 := v1 d1
        have r2 := v2 d2
        have r3 := v3 d3
        have r4 := v4 d4
        have r5 := v5 d5
        obtain ⟨x_3, c_3, r3⟩ := r3
        obtain ⟨q_5, r5⟩ := r5
        have hN := hH; (try simp only [hb, d0, d1, d2, d3, d4, d5, cond_true, cond_false] at hN)
        rw [r3] at r4 -- d3 d4
        simp only [r5, r4, blkOf_mk, tup0_mk, partsN_mk] at hN
        have B := hN.blk (k := 5) rfl
        have f0 := B.free 0; have z0 := B.cell (j := 0) rfl
        have f1 := B.free 1; have z1 := B.cell (j := 1) rfl
        have f2 := B.free 2; have z2 := B.cell (j := 2) rfl
        have f3 := B.free 3; have z3 := B.cell (j := 3) rfl
        have f4 := B.free 4; have z4 := B.cell (j := 4) rfl
        have lB := B.lt; have hmk0 := @tup0_mk
        go_simp
        refine hK.out _ undef _ ?_ ?_; rotate_left 1
        · (try simp only [r0, r1, r2, r3, r4, r5]); rfl
        exact ⟨by have hX := hN.setB5 (k := 5) rfl (.int .i64 tk) (.int .i64 tp) (.int .i64 tn) (.slice none 0 0) (.slice x_3 op.length c_3); (try simp only [List.set_cons_zero, List.set_cons_succ] at hX); simpa only [updB, updV, blkOf_mk, tup0_mk, partsOf3, partsN_mk, Nat.reduceBEq, cond_true, cond_false, hb, d0, d1, d2, d3, d4, d5, r0, r1, r2, r3, r4, r5] using hX, v0, v1, v2, v3, v4, v5⟩
      exact AllSteps.nil
  case hEa =>
    intro b t wa hJ hall
    obtain ⟨hHa, v0, v1, v2, v3, v4, v5⟩ := hJ
    have a0 : b 0 = true := hall 0 (by decide)
    have a1 : b 1 = true := hall 1 (by decide)
    have a2 : b 2 = true := hall 2 (by decide)
    have a3 : b 3 = true := hall 3 (by decide)
    have a4 : b 4 = true := hall 4 (by decide)
    have a5 : b 5 = true := hall 5 (by decide)
    have a6 : b 6 = true := hall 6 (by decide)
    (try simp only [a0, a1, a2, a3, a4, a5, a6, cond_true] at hHa)
    replace v0 := v0 a0
    replace v1 := v1 a1
    replace v2 := v2 a2
    replace v3 := v3 a3
    replace v4 := v4 a4
    replace v5 := v5 a5
    clear hall a0 a1 a2 a3 a4 a5 a6
    generalize t 5 = x5 at hHa v5 ⊢
    generalize t 4 = x4 at hHa v4 ⊢
    generalize t 3 = x3 at hHa v3 v4 ⊢
    generalize t 2 = x2 at hHa v2 ⊢
    generalize t 1 = x1 at hHa v1 ⊢
    generalize t 0 = x0 at hHa v0 ⊢
    subst v0
    subst v1
    subst v2
    obtain ⟨xa3, ca3, rfl⟩ := v3
    subst v4
    obtain ⟨qa5, rfl⟩ := v5
    simp only [blkOf_mk, tup0_mk, partsOf3, partsN_mk] at hHa
    clear b
    replace hH := hHa; clear hHa
    replace hH : Held w wa [aB (w.heap.size) 29 [.int .i64 k, .int .i64 p, .int .i64 n, .slice aV m cV, .slice aO op.length cO], aB (w.heap.size + 1) 24 [.int .i64 tk, .int .i64 tp, .int .i64 tn], aB (w.heap.size + 1 + 1) 56 [.int .i64 hk, .int .i64 ha], aB (w.heap.size + 1 + 1 + 1) 29 [.int .i64 0, .int .i64 0, .int .i64 0, .slice none 0 0, .slice none 0 0], aI (.slice xa3 op.length ca3) op, aB qa5 29 [.int .i64 tk, .int .i64 tp, .int .i64 tn, .slice none 0 0, .slice xa3 op.length ca3]] := hH
    replace hH := hH.nilTs
    replace hH : Held w wa [aB (w.heap.size) 29 [.int .i64 k, .int .i64 p, .int .i64 n, .slice aV m cV, .slice aO op.length cO], aB (w.heap.size + 1) 24 [.int .i64 tk, .int .i64 tp, .int .i64 tn], aB (w.heap.size + 1 + 1) 56 [.int .i64 hk, .int .i64 ha], aB (w.heap.size + 1 + 1 + 1) 29 [.int .i64 0, .int .i64 0, .int .i64 0, .slice none 0 0, .slice none 0 0], aI (.slice xa3 op.length ca3) op, aB qa5 29 [.int .i64 tk, .int .i64 tp, .int .i64 tn, .slice none 0 0, .slice xa3 op.length ca3], aTs (.slice none 0 0) [] []] := hH
    have q0_0 := (hH.blk (k := 0) rfl).cell (j := 0) rfl
    have q0_1 := (hH.blk (k := 0) rfl).cell (j := 1) rfl
    have q0_2 := (hH.blk (k := 0) rfl).cell (j := 2) rfl
    have q0_3 := (hH.blk (k := 0) rfl).cell (j := 3) rfl
    have q0_4 := (hH.blk (k := 0) rfl).cell (j := 4) rfl
    have l0_ := (hH.blk (k := 0) rfl).lt
    have q1_0 := (hH.blk (k := 1) rfl).cell (j := 0) rfl
    have q1_1 := (hH.blk (k := 1) rfl).cell (j := 1) rfl
    have q1_2 := (hH.blk (k := 1) rfl).cell (j := 2) rfl
    have l1_ := (hH.blk (k := 1) rfl).lt
    have q2_0 := (hH.blk (k := 2) rfl).cell (j := 0) rfl
    have q2_1 := (hH.blk (k := 2) rfl).cell (j := 1) rfl
    have l2_ := (hH.blk (k := 2) rfl).lt
    have q3_0 := (hH.blk (k := 3) rfl).cell (j := 0) rfl
    have q3_1 := (hH.blk (k := 3) rfl).cell (j := 1) rfl
    have q3_2 := (hH.blk (k := 3) rfl).cell (j := 2) rfl
    have q3_3 := (hH.blk (k := 3) rfl).cell (j := 3) rfl
    have q3_4 := (hH.blk (k := 3) rfl).cell (j := 4) rfl
    have l3_ := (hH.blk (k := 3) rfl).lt
    have q5_0 := (hH.blk (k := 5) rfl).cell (j := 0) rfl
    have q5_1 := (hH.blk (k := 5) rfl).cell (j := 1) rfl
    have q5_2 := (hH.blk (k := 5) rfl).cell (j := 2) rfl
    have q5_3 := (hH.blk (k := 5) rfl).cell (j := 3) rfl
    have q5_4 := (hH.blk (k := 5) rfl).cell (j := 4) rfl
    have l5_ := (hH.blk (k := 5) rfl).lt
    go_wp2_with fail
    clear q0_0 q0_1 q0_2 q0_3 q0_4 l0_ q1_0 q1_1 q1_2 l1_ q2_0 q2_1 l2_ q3_0 q3_1 q3_2 q3_3 q3_4 l3_ q5_0 q5_1 q5_2 q5_3 q5_4 l5_
    obtain ⟨wa, rfl⟩ : ∃ q, q = wa := ⟨wa, rfl⟩
    go_loopw [33] (fun i wr => ∃ (j : Nat) (tv : Value) (cs : List (Value × Value × Value)), j ≤ m ∧ i = .int .i64 (j : Int) ∧ Held w wr [aB (w.heap.size) 29 [.int .i64 k, .int .i64 p, .int .i64 n, .slice aV m cV, .slice aO op.length cO], aB (w.heap.size + 1) 24 [.int .i64 tk, .int .i64 tp, .int .i64 tn], aB (w.heap.size + 1 + 1) 56 [.int .i64 hk, .int .i64 ha], aB (w.heap.size + 1 + 1 + 1) 29 [.int .i64 0, .int .i64 0, .int .i64 0, .slice none 0 0, .slice none 0 0], aI (.slice xa3 op.length ca3) op, aB qa5 29 [.int .i64 tk, .int .i64 tp, .int .i64 tn, tv, .slice xa3 op.length ca3], aTs (tv) cs ((mapN H (ts.take j)).map (tenOf dm))]) (fun i wr => m - (RowKit.intOf i).toNat)
    case atStart => exact ⟨0, _, _, Nat.zero_le _, rfl, hH⟩
    case round =>
      clear hH
      obtain ⟨j, tv, cs, hj, rfl, hH⟩ := hrel
      obtain ⟨QS, hQS⟩ : ∃ q, (mapN H (ts.take j)).map (tenOf dm) = q := ⟨_, rfl⟩
      rw [hQS] at hH
      have hql : QS.length = j := by rw [← hQS, List.length_map]; unfold mapN; rw [List.length_map, List.length_take, HM.out]; omega
      have HQL := Lib.hid hql; have HQS := Lib.hid hQS; clear hql hQS
      obtain ⟨aS, cS, rfl, _, _⟩ := (hH.tensS (k := 6) rfl).val
      rw [HQL.out] at hH
      obtain ⟨wq, rfl⟩ : ∃ q, q = wr := ⟨wr, rfl⟩
      by_cases hlt : j < m
      · skip
        obtain ⟨bT, oT, u1, u2, u3, t3, hV, hu0, hu1, hu2, ht3, hTu⟩ := hT.get (i := j) (by rw [hTl.out]; exact hlt)
        subst hV
        obtain ⟨t, htj, rfl⟩ : ∃ t, ts[j]? = some t ∧ tenOf dm t = t3 := by rw [List.getElem?_map] at ht3; exact Option.map_eq_some_iff.1 ht3
        have HTJ := Lib.hid htj; have HTI := Lib.hid (HN.out.ten t (List.mem_of_getElem? htj)); clear ht3 htj
        obtain ⟨tl, xs⟩ := t
        obtain ⟨e1, m1, f1, e2, m2, f2, e3, m3, f3, hvv⟩ := hTu.shape
        simp at hvv
        obtain ⟨rfl, rfl, rfl⟩ := hvv
        rw [Nat.mul_comm 3 j] at hu0 hu1 hu2
        obtain ⟨_, _, _, hvv, hTL, hTD, hTX⟩ := hTu.val
        simp at hvv
        obtain ⟨rfl, rfl, rfl⟩ := hvv
        simp only [tenOf] at hTu hTL hTD hTX HTI
        obtain ⟨_, _, hvv, _, _⟩ := hTL.val
        simp at hvv
        obtain ⟨rfl, rfl, rfl⟩ := hvv
        obtain ⟨_, _, hvv, _, _⟩ := hTD.val
        simp at hvv
        obtain ⟨rfl, rfl, rfl⟩ := hvv
        have HMS := Lib.hid (show (mapN H (ts.take (j + 1))).map (tenOf dm) = QS ++ [(tl, tl.map dm, flat (xs.map (homEl H)))] by rw [mapN_take H HTJ.out, List.map_append, HQS.out]; rfl)
        have q0_0 := (hH.blk (k := 0) rfl).cell (j := 0) rfl
        have q0_1 := (hH.blk (k := 0) rfl).cell (j := 1) rfl
        have q0_2 := (hH.blk (k := 0) rfl).cell (j := 2) rfl
        have q0_3 := (hH.blk (k := 0) rfl).cell (j := 3) rfl
        have q0_4 := (hH.blk (k := 0) rfl).cell (j := 4) rfl
        have l0_ := (hH.blk (k := 0) rfl).lt
        have q1_0 := (hH.blk (k := 1) rfl).cell (j := 0) rfl
        have q1_1 := (hH.blk (k := 1) rfl).cell (j := 1) rfl
        have q1_2 := (hH.blk (k := 1) rfl).cell (j := 2) rfl
        have l1_ := (hH.blk (k := 1) rfl).lt
        have q2_0 := (hH.blk (k := 2) rfl).cell (j := 0) rfl
        have q2_1 := (hH.blk (k := 2) rfl).cell (j := 1) rfl
        have l2_ := (hH.blk (k := 2) rfl).lt
        have q3_0 := (hH.blk (k := 3) rfl).cell (j := 0) rfl
        have q3_1 := (hH.blk (k := 3) rfl).cell (j := 1) rfl
        have q3_2 := (hH.blk (k := 3) rfl).cell (j := 2) rfl
        have q3_3 := (hH.blk (k := 3) rfl).cell (j := 3) rfl
        have q3_4 := (hH.blk (k := 3) rfl).cell (j := 4) rfl
        have l3_ := (hH.blk (k := 3) rfl).lt
        have q5_0 := (hH.blk (k := 5) rfl).cell (j := 0) rfl
        have q5_1 := (hH.blk (k := 5) rfl).cell (j := 1) rfl
        have q5_2 := (hH.blk (k := 5) rfl).cell (j := 2) rfl
        have q5_3 := (hH.blk (k := 5) rfl).cell (j := 3) rfl
        have q5_4 := (hH.blk (k := 5) rfl).cell (j := 4) rfl
        have l5_ := (hH.blk (k := 5) rfl).lt
        have c_hu0 := hH.ext.cell hu0
        have c_hu1 := hH.ext.cell hu1
        have c_hu2 := hH.ext.cell hu2
        go_upto_region 7 with fail
        clear q0_0 q0_1 q0_2 q0_3 q0_4 l0_ q1_0 q1_1 q1_2 l1_ q2_0 q2_1 l2_ q3_0 q3_1 q3_2 q3_3 q3_4 l3_ q5_0 q5_1 q5_2 q5_3 q5_4 l5_ c_hu0 c_hu1 c_hu2
        have hB : Held w (wq.alloc (.cells #[.slice e1 tl.length f1, .slice e2 tl.length f2, .slice e3 m3 f3] 32)) [aB (w.heap.size) 29 [.int .i64 k, .int .i64 p, .int .i64 n, .slice (some ⟨bT, oT, none⟩) m cV, .slice aO op.length cO], aB (w.heap.size + 1) 24 [.int .i64 tk, .int .i64 tp, .int .i64 tn], aB (w.heap.size + 1 + 1) 56 [.int .i64 hk, .int .i64 ha], aB (w.heap.size + 1 + 1 + 1) 29 [.int .i64 0, .int .i64 0, .int .i64 0, .slice none 0 0, .slice none 0 0], aI (.slice xa3 op.length ca3) op, aB qa5 29 [.int .i64 tk, .int .i64 tp, .int .i64 tn, .slice aS j cS, .slice xa3 op.length ca3], aTs (.slice aS j cS) cs QS, aB (wq.heap.size) 32 [.slice e1 tl.length f1, .slice e2 tl.length f2, .slice e3 m3 f3]] := by
          have h := (hH.mores 1).addB 7 #[.slice e1 tl.length f1, .slice e2 tl.length f2, .slice e3 m3 f3] 32
          exact h
        have hsz : (wq.alloc (.cells #[.slice e1 tl.length f1, .slice e2 tl.length f2, .slice e3 m3 f3] 32)).heap.size = wq.heap.size + 1 := by simp
        generalize wq.alloc (.cells #[.slice e1 tl.length f1, .slice e2 tl.length f2, .slice e3 m3 f3] 32) = wn7 at hB hsz ⊢
        replace hH := hB; have HSZwn7 := Lib.hid hsz; clear hB hsz
        have q0_0 := (hH.blk (k := 0) rfl).cell (j := 0) rfl
        have q0_1 := (hH.blk (k := 0) rfl).cell (j := 1) rfl
        have q0_2 := (hH.blk (k := 0) rfl).cell (j := 2) rfl
        have q0_3 := (hH.blk (k := 0) rfl).cell (j := 3) rfl
        have q0_4 := (hH.blk (k := 0) rfl).cell (j := 4) rfl
        have l0_ := (hH.blk (k := 0) rfl).lt
        have q1_0 := (hH.blk (k := 1) rfl).cell (j := 0) rfl
        have q1_1 := (hH.blk (k := 1) rfl).cell (j := 1) rfl
        have q1_2 := (hH.blk (k := 1) rfl).cell (j := 2) rfl
        have l1_ := (hH.blk (k := 1) rfl).lt
        have q2_0 := (hH.blk (k := 2) rfl).cell (j := 0) rfl
        have q2_1 := (hH.blk (k := 2) rfl).cell (j := 1) rfl
        have l2_ := (hH.blk (k := 2) rfl).lt
        have q3_0 := (hH.blk (k := 3) rfl).cell (j := 0) rfl
        have q3_1 := (hH.blk (k := 3) rfl).cell (j := 1) rfl
        have q3_2 := (hH.blk (k := 3) rfl).cell (j := 2) rfl
        have q3_3 := (hH.blk (k := 3) rfl).cell (j := 3) rfl
        have q3_4 := (hH.blk (k := 3) rfl).cell (j := 4) rfl
        have l3_ := (hH.blk (k := 3) rfl).lt
        have q5_0 := (hH.blk (k := 5) rfl).cell (j := 0) rfl
        have q5_1 := (hH.blk (k := 5) rfl).cell (j := 1) rfl
        have q5_2 := (hH.blk (k := 5) rfl).cell (j := 2) rfl
        have q5_3 := (hH.blk (k := 5) rfl).cell (j := 3) rfl
        have q5_4 := (hH.blk (k := 5) rfl).cell (j := 4) rfl
        have l5_ := (hH.blk (k := 5) rfl).lt
        have q7_0 := (hH.blk (k := 7) rfl).cell (j := 0) rfl
        have q7_1 := (hH.blk (k := 7) rfl).cell (j := 1) rfl
        have q7_2 := (hH.blk (k := 7) rfl).cell (j := 2) rfl
        have l7_ := (hH.blk (k := 7) rfl).lt
        have c_hu0 := hH.ext.cell hu0
        have c_hu1 := hH.ext.cell hu1
        have c_hu2 := hH.ext.cell hu2
        go_wp2_with fail
        clear q0_0 q0_1 q0_2 q0_3 q0_4 l0_ q1_0 q1_1 q1_2 l1_ q2_0 q2_1 l2_ q3_0 q3_1 q3_2 q3_3 q3_4 l3_ q5_0 q5_1 q5_2 q5_3 q5_4 l5_ q7_0 q7_1 q7_2 l7_ c_hu0 c_hu1 c_hu2
        refine (mapTensor_any H HH.out HTI.out _ _ (hTu.ext hH.ext)).mono ?_; rintro ewn8 wn8 ⟨u, rfl, ou, hwn8⟩
        obtain ⟨p1, n1, d1, p2, n2, d2, p3, n3, d3, rfl⟩ := ou.shape
        replace hH : Held w wn8 [aB (w.heap.size) 29 [.int .i64 k, .int .i64 p, .int .i64 n, .slice (some ⟨bT, oT, none⟩) m cV, .slice aO op.length cO], aB (w.heap.size + 1) 24 [.int .i64 tk, .int .i64 tp, .int .i64 tn], aB (w.heap.size + 1 + 1) 56 [.int .i64 hk, .int .i64 ha], aB (w.heap.size + 1 + 1 + 1) 29 [.int .i64 0, .int .i64 0, .int .i64 0, .slice none 0 0, .slice none 0 0], aI (.slice xa3 op.length ca3) op, aB qa5 29 [.int .i64 tk, .int .i64 tp, .int .i64 tn, .slice aS j cS, .slice xa3 op.length ca3], aTs (.slice aS j cS) cs QS, aB (wq.heap.size) 32 [.slice e1 tl.length f1, .slice e2 tl.length f2, .slice e3 m3 f3], aT (.agg #[.slice p1 n1 d1, .slice p2 n2 d2, .slice p3 n3 d3]) tl (tl.map dm) (flat (xs.map (homEl H)))] := (hH.mores 1).addT 8 hwn8 ou (Nat.le_refl _)
        clear hwn8
        have q0_0 := (hH.blk (k := 0) rfl).cell (j := 0) rfl
        have q0_1 := (hH.blk (k := 0) rfl).cell (j := 1) rfl
        have q0_2 := (hH.blk (k := 0) rfl).cell (j := 2) rfl
        have q0_3 := (hH.blk (k := 0) rfl).cell (j := 3) rfl
        have q0_4 := (hH.blk (k := 0) rfl).cell (j := 4) rfl
        have l0_ := (hH.blk (k := 0) rfl).lt
        have q1_0 := (hH.blk (k := 1) rfl).cell (j := 0) rfl
        have q1_1 := (hH.blk (k := 1) rfl).cell (j := 1) rfl
        have q1_2 := (hH.blk (k := 1) rfl).cell (j := 2) rfl
        have l1_ := (hH.blk (k := 1) rfl).lt
        have q2_0 := (hH.blk (k := 2) rfl).cell (j := 0) rfl
        have q2_1 := (hH.blk (k := 2) rfl).cell (j := 1) rfl
        have l2_ := (hH.blk (k := 2) rfl).lt
        have q3_0 := (hH.blk (k := 3) rfl).cell (j := 0) rfl
        have q3_1 := (hH.blk (k := 3) rfl).cell (j := 1) rfl
        have q3_2 := (hH.blk (k := 3) rfl).cell (j := 2) rfl
        have q3_3 := (hH.blk (k := 3) rfl).cell (j := 3) rfl
        have q3_4 := (hH.blk (k := 3) rfl).cell (j := 4) rfl
        have l3_ := (hH.blk (k := 3) rfl).lt
        have q5_0 := (hH.blk (k := 5) rfl).cell (j := 0) rfl
        have q5_1 := (hH.blk (k := 5) rfl).cell (j := 1) rfl
        have q5_2 := (hH.blk (k := 5) rfl).cell (j := 2) rfl
        have q5_3 := (hH.blk (k := 5) rfl).cell (j := 3) rfl
        have q5_4 := (hH.blk (k := 5) rfl).cell (j := 4) rfl
        have l5_ := (hH.blk (k := 5) rfl).lt
        have q7_0 := (hH.blk (k := 7) rfl).cell (j := 0) rfl
        have q7_1 := (hH.blk (k := 7) rfl).cell (j := 1) rfl
        have q7_2 := (hH.blk (k := 7) rfl).cell (j := 2) rfl
        have l7_ := (hH.blk (k := 7) rfl).lt
        have c_hu0 := hH.ext.cell hu0
        have c_hu1 := hH.ext.cell hu1
        have c_hu2 := hH.ext.cell hu2
        go_upto_region 8 with fail
        clear q0_0 q0_1 q0_2 q0_3 q0_4 l0_ q1_0 q1_1 q1_2 l1_ q2_0 q2_1 l2_ q3_0 q3_1 q3_2 q3_3 q3_4 l3_ q5_0 q5_1 q5_2 q5_3 q5_4 l5_ q7_0 q7_1 q7_2 l7_ c_hu0 c_hu1 c_hu2
        have hB : Held w (wn8.alloc (.cells #[.slice p1 n1 d1, .slice p2 n2 d2, .slice p3 n3 d3] 32)) [aB (w.heap.size) 29 [.int .i64 k, .int .i64 p, .int .i64 n, .slice (some ⟨bT, oT, none⟩) m cV, .slice aO op.length cO], aB (w.heap.size + 1) 24 [.int .i64 tk, .int .i64 tp, .int .i64 tn], aB (w.heap.size + 1 + 1) 56 [.int .i64 hk, .int .i64 ha], aB (w.heap.size + 1 + 1 + 1) 29 [.int .i64 0, .int .i64 0, .int .i64 0, .slice none 0 0, .slice none 0 0], aI (.slice xa3 op.length ca3) op, aB qa5 29 [.int .i64 tk, .int .i64 tp, .int .i64 tn, .slice aS j cS, .slice xa3 op.length ca3], aTs (.slice aS j cS) cs QS, aB (wq.heap.size) 32 [.slice e1 tl.length f1, .slice e2 tl.length f2, .slice e3 m3 f3], aT (.agg #[.slice p1 n1 d1, .slice p2 n2 d2, .slice p3 n3 d3]) tl (tl.map dm) (flat (xs.map (homEl H))), aB (wn8.heap.size) 32 [.slice p1 n1 d1, .slice p2 n2 d2, .slice p3 n3 d3]] := by
          have h := (hH.mores 1).addB 9 #[.slice p1 n1 d1, .slice p2 n2 d2, .slice p3 n3 d3] 32
          exact h
        have hsz : (wn8.alloc (.cells #[.slice p1 n1 d1, .slice p2 n2 d2, .slice p3 n3 d3] 32)).heap.size = wn8.heap.size + 1 := by simp
        generalize wn8.alloc (.cells #[.slice p1 n1 d1, .slice p2 n2 d2, .slice p3 n3 d3] 32) = wn9 at hB hsz ⊢
        replace hH := hB; have HSZwn9 := Lib.hid hsz; clear hB hsz
        have q0_0 := (hH.blk (k := 0) rfl).cell (j := 0) rfl
        have q0_1 := (hH.blk (k := 0) rfl).cell (j := 1) rfl
        have q0_2 := (hH.blk (k := 0) rfl).cell (j := 2) rfl
        have q0_3 := (hH.blk (k := 0) rfl).cell (j := 3) rfl
        have q0_4 := (hH.blk (k := 0) rfl).cell (j := 4) rfl
        have l0_ := (hH.blk (k := 0) rfl).lt
        have q1_0 := (hH.blk (k := 1) rfl).cell (j := 0) rfl
        have q1_1 := (hH.blk (k := 1) rfl).cell (j := 1) rfl
        have q1_2 := (hH.blk (k := 1) rfl).cell (j := 2) rfl
        have l1_ := (hH.blk (k := 1) rfl).lt
        have q2_0 := (hH.blk (k := 2) rfl).cell (j := 0) rfl
        have q2_1 := (hH.blk (k := 2) rfl).cell (j := 1) rfl
        have l2_ := (hH.blk (k := 2) rfl).lt
        have q3_0 := (hH.blk (k := 3) rfl).cell (j := 0) rfl
        have q3_1 := (hH.blk (k := 3) rfl).cell (j := 1) rfl
        have q3_2 := (hH.blk (k := 3) rfl).cell (j := 2) rfl
        have q3_3 := (hH.blk (k := 3) rfl).cell (j := 3) rfl
        have q3_4 := (hH.blk (k := 3) rfl).cell (j := 4) rfl
        have l3_ := (hH.blk (k := 3) rfl).lt
        have q5_0 := (hH.blk (k := 5) rfl).cell (j := 0) rfl
        have f5_0 := (hH.blk (k := 5) rfl).free 0
        have q5_1 := (hH.blk (k := 5) rfl).cell (j := 1) rfl
        have f5_1 := (hH.blk (k := 5) rfl).free 1
        have q5_2 := (hH.blk (k := 5) rfl).cell (j := 2) rfl
        have f5_2 := (hH.blk (k := 5) rfl).free 2
        have q5_3 := (hH.blk (k := 5) rfl).cell (j := 3) rfl
        have f5_3 := (hH.blk (k := 5) rfl).free 3
        have q5_4 := (hH.blk (k := 5) rfl).cell (j := 4) rfl
        have f5_4 := (hH.blk (k := 5) rfl).free 4
        have l5_ := (hH.blk (k := 5) rfl).lt
        have q7_0 := (hH.blk (k := 7) rfl).cell (j := 0) rfl
        have q7_1 := (hH.blk (k := 7) rfl).cell (j := 1) rfl
        have q7_2 := (hH.blk (k := 7) rfl).cell (j := 2) rfl
        have l7_ := (hH.blk (k := 7) rfl).lt
        have q9_0 := (hH.blk (k := 9) rfl).cell (j := 0) rfl
        have q9_1 := (hH.blk (k := 9) rfl).cell (j := 1) rfl
        have q9_2 := (hH.blk (k := 9) rfl).cell (j := 2) rfl
        have l9_ := (hH.blk (k := 9) rfl).lt
        have c_hu0 := hH.ext.cell hu0
        have c_hu1 := hH.ext.cell hu1
        have c_hu2 := hH.ext.cell hu2
        go_wp2_with (at_builtin; refine wpList_app _ rfl _ _ 26 rfl _ _ rfl rfl _ (run_pushT2 _ (hH.grow ((Ext.refl _).alloc _)) (k1 := 6) (k2 := 8) rfl rfl (by decide) (row_one3 _ _ _ _ _) (by rw [HQL.out]; omega)) ?_; rintro vp wp ⟨hHp, gp⟩; obtain ⟨ap, cp, hvp, _, _⟩ := (hHp.tensS (k := 6) rfl).val; rw [List.length_append, List.length_singleton, HQL.out] at hvp; subst hvp; have yB := hHp.blk (k := 5) rfl; have yl := yB.lt; have y3 := yB.cell (j := 3) rfl; have y3f := yB.free 3; clear yB)
        have hHq := hHp.setB (k := 5) rfl 3 (.slice ap (j + 1) cp)
        go_roundw
        case rel => exact ⟨j + 1, _, _, by omega, by go_num, by rw [HMS.out]; exact hHq.sub (.cons_cons _ (.cons_cons _ (.cons_cons _ (.cons_cons _ (.cons_cons _ (.cons_cons _ (.cons_cons _ (.cons _ (.cons _ (.cons _ .slnil))))))))))⟩
        case measure => simp [RowKit.intOf]; omega
      · skip
        have hje : j = m := by omega
        subst hje
        have HQF : Hid (MN.map (tenOf dm) = QS) := Lib.hid (by rw [← HQS.out, List.take_of_length_le (by rw [HM.out]; exact Nat.le_refl _), HMN.out])
        have q0_0 := (hH.blk (k := 0) rfl).cell (j := 0) rfl
        have q0_1 := (hH.blk (k := 0) rfl).cell (j := 1) rfl
        have q0_2 := (hH.blk (k := 0) rfl).cell (j := 2) rfl
        have q0_3 := (hH.blk (k := 0) rfl).cell (j := 3) rfl
        have q0_4 := (hH.blk (k := 0) rfl).cell (j := 4) rfl
        have l0_ := (hH.blk (k := 0) rfl).lt
        have q1_0 := (hH.blk (k := 1) rfl).cell (j := 0) rfl
        have q1_1 := (hH.blk (k := 1) rfl).cell (j := 1) rfl
        have q1_2 := (hH.blk (k := 1) rfl).cell (j := 2) rfl
        have l1_ := (hH.blk (k := 1) rfl).lt
        have q2_0 := (hH.blk (k := 2) rfl).cell (j := 0) rfl
        have q2_1 := (hH.blk (k := 2) rfl).cell (j := 1) rfl
        have l2_ := (hH.blk (k := 2) rfl).lt
        have q3_0 := (hH.blk (k := 3) rfl).cell (j := 0) rfl
        have f3_0 := (hH.blk (k := 3) rfl).free 0
        have q3_1 := (hH.blk (k := 3) rfl).cell (j := 1) rfl
        have f3_1 := (hH.blk (k := 3) rfl).free 1
        have q3_2 := (hH.blk (k := 3) rfl).cell (j := 2) rfl
        have f3_2 := (hH.blk (k := 3) rfl).free 2
        have q3_3 := (hH.blk (k := 3) rfl).cell (j := 3) rfl
        have f3_3 := (hH.blk (k := 3) rfl).free 3
        have q3_4 := (hH.blk (k := 3) rfl).cell (j := 4) rfl
        have f3_4 := (hH.blk (k := 3) rfl).free 4
        have l3_ := (hH.blk (k := 3) rfl).lt
        have q5_0 := (hH.blk (k := 5) rfl).cell (j := 0) rfl
        have q5_1 := (hH.blk (k := 5) rfl).cell (j := 1) rfl
        have q5_2 := (hH.blk (k := 5) rfl).cell (j := 2) rfl
        have q5_3 := (hH.blk (k := 5) rfl).cell (j := 3) rfl
        have q5_4 := (hH.blk (k := 5) rfl).cell (j := 4) rfl
        have l5_ := (hH.blk (k := 5) rfl).lt
        go_wp2_with fail
        refine bodyPost_ret (v := .tuple #[.agg #[.int .i64 tk, .int .i64 tp, .int .i64 tn, .slice aS j cS, .slice xa3 op.length ca3], .bool true]) (by simp [results, Try.results35, go_sem, *]) rfl ?_
        rw [HQF.out]
        exact ⟨_, _, cs, rfl, ((hH.setB5 (k := 3) rfl (.int .i64 tk) (.int .i64 tp) (.int .i64 tn) (.slice aS j cS) (.slice xa3 op.length ca3)).sub (.cons _ (.cons _ (.cons _ (.cons _ (.cons_cons _ (.cons _ (.cons_cons _ .slnil)))))))).swap⟩
end
end Go.Proofs.Ytpegckmagiaggaa
