/- joinAll of the program. -/
import Derived.Test.YtpegckmagiaggaaKG17
import Derived.Test.YtpegckmagiaggaaKElimO
set_option linter.unusedSimpArgs false
set_option linter.unusedVariables false
namespace Go.Proofs.Ytpegckmagiaggaa
open Go.RowKit
theorem TenS.valL {w : World} {x y z : Value} {L D X : List Int} (h : TenS w (.agg #[x, y, z]) L D X) : IntS w x L := by
  obtain ⟨_, _, _, hvv, h1, _, _⟩ := h.val
  simp at hvv
  obtain ⟨rfl, rfl, rfl⟩ := hvv
  exact h1
structure AllT {k p n : Int} (dm : Int → Int) (U : List Int) (ts : List (NT k p n)) : Prop where
  ten : ∀ t ∈ ts, IsT k p n dm U t.1 t.2
  uni : Uni dm U
  len : ts.length ≤ 13
theorem joinA_take {k p n : Int} (hr : ringOk k p n = true) (dm : Int → Int) : ∀ (ts : List (NT k p n)) (j : Nat) (t : NT k p n), 1 ≤ j → ts[j]? = some t → joinA hr dm (ts.take (j + 1)) = joinT hr dm (joinA hr dm (ts.take j)) t
  | [], j, t, _, h => by simp at h
  | b :: l, 0, t, h, _ => by omega
  | b :: l, j + 1, t, _, h => by
    rw [List.take_succ_cons, List.take_succ_cons, List.take_add_one]
    rw [List.getElem?_cons_succ] at h
    rw [h]
    exact joinA_snoc hr dm b _ t
set_option maxRecDepth 100000 in
set_option maxHeartbeats 4000000 in
theorem joinAll_any {k p n : Int} (hr : ringOk k p n = true) {dm : Int → Int} {U : List Int} {ts : List (NT k p n)} (hN : AllT dm U ts) (h0 : 0 < ts.length) (tv : Value) (w : World) (hT : TensS w tv (ts.map (tenOf dm))) :
 Calls Try.prog 156 #[ringV k p n, tv] w fun e w' => ∃ u, e = .returned (.tuple #[u, .bool true]) ∧ TenS w' u (joinA hr dm ts).1 ((joinA hr dm ts).1.map dm) (flat (joinA hr dm ts).2) ∧ Ext w w' := by
 obtain ⟨m, hm⟩ : ∃ m, ts.length = m := ⟨_, rfl⟩
 obtain ⟨aV, cV, rfl, hcT1, hcT2⟩ := hT.val
 rw [List.length_map, hm] at hT hcT1
 rw [List.length_map, hm]
 have hm13 : m ≤ 13 := by rw [← hm]; exact hN.len
 have hm0 : 0 < m := by rw [← hm]; exact h0
 obtain ⟨RA, hRA⟩ : ∃ q, joinA hr dm ts = q := ⟨_, rfl⟩
 rw [hRA]
 have HM := Lib.hid hm; have HR := Lib.hid hr; have HN := Lib.hid hN; have HRA : Hid (joinA HR.out dm ts = RA) := Lib.hid hRA; clear hm hRA hr hN h0
 have hTl : Hid ((ts.map (tenOf dm)).length = m) := Lib.hid (by rw [List.length_map]; exact HM.out)
 obtain ⟨JT, hJT⟩ : ∃ f : Nat → NT k p n, (fun j => joinA HR.out dm (ts.take j)) = f := ⟨_, rfl⟩
 have HJ1 : Hid (∀ t, ts[0]? = some t → JT 1 = t) := Lib.hid fun t ht => by
  rw [← hJT]
  show joinA HR.out dm (ts.take 1) = t
  rcases ts with _ | ⟨b, l⟩
  · simp at ht
  · simp at ht; subst ht; rfl
 have HJS : Hid (∀ j t, 1 ≤ j → ts[j]? = some t → JT (j + 1) = joinT HR.out dm (JT j) t) := Lib.hid fun j t h1 ht => by rw [← hJT]; exact joinA_take HR.out dm ts j t h1 ht
 have HJI : Hid (∀ j, 1 ≤ j → IsT k p n dm U (JT j).1 (JT j).2) := Lib.hid fun j hj => by
  rw [← hJT]
  show IsT k p n dm U (joinA HR.out dm (ts.take j)).1 (joinA HR.out dm (ts.take j)).2
  have hne : ts.take j ≠ [] := fun e => by have := congrArg List.length e; rw [List.length_take, HM.out] at this; simp at this; omega
  obtain ⟨b, l, e⟩ : ∃ b l, ts.take j = b :: l := List.exists_cons_of_ne_nil hne
  rw [e]
  exact (joinA_ok HR.out HN.out.uni fun t ht => HN.out.ten t (List.mem_of_mem_take (e ▸ ht : t ∈ ts.take j))).1
 have HJE : Hid (JT m = RA) := Lib.hid (by rw [← HRA.out, ← hJT]; show joinA HR.out dm (ts.take m) = _; rw [List.take_of_length_le (by rw [HM.out]; exact Nat.le_refl _)])
 clear hJT
 go_enter Try.func156, Try.ntmps156
 go_upto_region 1 with fail
 have hH : Held w w [] := Held.new (Ext.refl w) 0
 have hB : Held w (w.alloc (.cells #[.int .i64 k, .int .i64 p, .int .i64 n] 24)) [aB (w.heap.size) 24 [.int .i64 k, .int .i64 p, .int .i64 n]] := by
  have h := (hH.mores 1).addB 0 #[.int .i64 k, .int .i64 p, .int .i64 n] 24
  exact h
 have hsz : (w.alloc (.cells #[.int .i64 k, .int .i64 p, .int .i64 n] 24)).heap.size = w.heap.size + 1 := by simp
 generalize w.alloc (.cells #[.int .i64 k, .int .i64 p, .int .i64 n] 24) = wn1 at hB hsz ⊢
 replace hH := hB; have HSZwn1 := Lib.hid hsz; clear hB hsz
 have hB : Held w (wn1.alloc (.cells #[.slice none 0 0, .slice none 0 0, .slice none 0 0] 32)) [aB (w.heap.size) 24 [.int .i64 k, .int .i64 p, .int .i64 n], aB (w.heap.size + 1) 32 [.slice none 0 0, .slice none 0 0, .slice none 0 0]] := by
  have h := (hH.mores 1).addB 1 #[.slice none 0 0, .slice none 0 0, .slice none 0 0] 32
  rw [HSZwn1.out] at h
  exact h
 have hsz : (wn1.alloc (.cells #[.slice none 0 0, .slice none 0 0, .slice none 0 0] 32)).heap.size = w.heap.size + 1 + 1 := by rw [← HSZwn1.out]; simp
 generalize wn1.alloc (.cells #[.slice none 0 0, .slice none 0 0, .slice none 0 0] 32) = wn2 at hB hsz ⊢
 replace hH := hB; have HSZwn2 := Lib.hid hsz; clear hB hsz
 obtain ⟨wz0, rfl⟩ : ∃ q, q = wn2 := ⟨wn2, rfl⟩
 obtain ⟨bT, oT, u1, u2, u3, t3, hV, hu00, hu10, hu20, ht3, hTu0⟩ := hT.get (i := 0) (by rw [hTl.out]; exact hm0)
 subst hV
 obtain ⟨t, htj, rfl⟩ : ∃ t, ts[0]? = some t ∧ tenOf dm t = t3 := by rw [List.getElem?_map] at ht3; exact Option.map_eq_some_iff.1 ht3
 have HTJ0 := Lib.hid htj; have HTI0 := Lib.hid (HN.out.ten t (List.mem_of_getElem? htj)); clear ht3 htj
 obtain ⟨tl0, xs0⟩ := t
 obtain ⟨e10, m1, f10, e20, m2, f20, e30, m30, f30, hvv⟩ := hTu0.shape
 simp at hvv
 obtain ⟨rfl, rfl, rfl⟩ := hvv
 rw [Nat.mul_comm 3 0] at hu00 hu10 hu20
 obtain ⟨_, _, _, hvv, hTL0, hTD0, hTX0⟩ := hTu0.val
 simp at hvv
 obtain ⟨rfl, rfl, rfl⟩ := hvv
 simp only [tenOf] at hTu0 hTL0 hTD0 hTX0 HTI0
 obtain ⟨_, _, hvv, _, _⟩ := hTL0.val
 simp at hvv
 obtain ⟨rfl, rfl, rfl⟩ := hvv
 obtain ⟨_, _, hvv, _, _⟩ := hTD0.val
 simp at hvv
 obtain ⟨rfl, rfl, rfl⟩ := hvv
 have HT0 := Lib.hid (HJ1.out _ HTJ0.out)
 have c0_0 := hH.ext.cell hu00; have c0_1 := hH.ext.cell hu10; have c0_2 := hH.ext.cell hu20; simp only [Nat.mul_zero, Nat.zero_mul, Nat.add_zero] at c0_0 c0_1 c0_2
 have q0_0 := hH.cl 0 0 rfl rfl; have q0_1 := hH.cl 0 1 rfl rfl; have q0_2 := hH.cl 0 2 rfl rfl; have l0_ := hH.bl 0 rfl; have q1_0 := hH.cl 1 0 rfl rfl; have q1_1 := hH.cl 1 1 rfl rfl; have q1_2 := hH.cl 1 2 rfl rfl; have l1_ := hH.bl 1 rfl
 go_upto_region 2 with fail
 clear q0_0 q0_1 q0_2 l0_ q1_0 q1_1 q1_2 l1_
 clear c0_0 c0_1 c0_2
 have hB : Held w (wz0.alloc (.cells #[.slice e10 tl0.length f10, .slice e20 tl0.length f20, .slice e30 m30 f30] 32)) [aB (w.heap.size) 24 [.int .i64 k, .int .i64 p, .int .i64 n], aB (w.heap.size + 1) 32 [.slice none 0 0, .slice none 0 0, .slice none 0 0], aB (wz0.heap.size) 32 [.slice e10 tl0.length f10, .slice e20 tl0.length f20, .slice e30 m30 f30]] := by
  have h := (hH.mores 1).addB 2 #[.slice e10 tl0.length f10, .slice e20 tl0.length f20, .slice e30 m30 f30] 32
  exact h
 have hsz : (wz0.alloc (.cells #[.slice e10 tl0.length f10, .slice e20 tl0.length f20, .slice e30 m30 f30] 32)).heap.size = wz0.heap.size + 1 := by simp
 generalize wz0.alloc (.cells #[.slice e10 tl0.length f10, .slice e20 tl0.length f20, .slice e30 m30 f30] 32) = wn3 at hB hsz ⊢
 replace hH := hB; have HSZwn3 := Lib.hid hsz; clear hB hsz
 have q0_0 := hH.cl 0 0 rfl rfl; have q0_1 := hH.cl 0 1 rfl rfl; have q0_2 := hH.cl 0 2 rfl rfl; have l0_ := hH.bl 0 rfl; have q1_0 := hH.cl 1 0 rfl rfl; have q1_1 := hH.cl 1 1 rfl rfl; have q1_2 := hH.cl 1 2 rfl rfl; have l1_ := hH.bl 1 rfl; have q2_0 := hH.cl 2 0 rfl rfl; have q2_1 := hH.cl 2 1 rfl rfl; have q2_2 := hH.cl 2 2 rfl rfl; have l2_ := hH.bl 2 rfl
 go_wp2_with fail
 · clear q0_0 q0_1 q0_2 l0_ q1_0 q1_1 q1_2 l1_ q2_0 q2_1 q2_2 l2_
   replace hH := hH.mores 1
   replace hH : Held w wn3 [aB (w.heap.size) 24 [.int .i64 k, .int .i64 p, .int .i64 n], aB (w.heap.size + 1) 32 [.slice none 0 0, .slice none 0 0, .slice none 0 0], aB (wz0.heap.size) 32 [.slice e10 tl0.length f10, .slice e20 tl0.length f20, .slice e30 m30 f30], emp] := hH
   go_loopw [17] (fun i wr => ∃ (j : Nat) (s1 s2 s3 : Value) (A : Asn), j + 1 ≤ m ∧ i = .int .i64 (j : Int) ∧ Hid (∀ w', Ext w w' → A.holds w' → TenS w' (.agg #[s1, s2, s3]) (JT (j + 1)).1 ((JT (j + 1)).1.map dm) (flat (JT (j + 1)).2)) ∧ Held w wr [aB (w.heap.size) 24 [.int .i64 k, .int .i64 p, .int .i64 n], aB (w.heap.size + 1) 32 [.slice none 0 0, .slice none 0 0, .slice none 0 0], aB (wz0.heap.size) 32 [s1, s2, s3], A]) (fun i wr => m - (RowKit.intOf i).toNat)
   case atStart => exact ⟨0, _, _, _, emp, by omega, rfl, Lib.hid fun w' e _ => by rw [Nat.zero_add, HT0.out]; exact hTu0.ext e, hH⟩
   case round =>
    clear hH
    obtain ⟨j, s1, s2, s3, A, hj, rfl, HA, hH⟩ := hrel
    obtain ⟨wq, rfl⟩ : ∃ q, q = wr := ⟨wr, rfl⟩
    have HI0 := Lib.hid (HJI.out (j + 1) (by omega))
    obtain ⟨⟨JL, JX⟩, hJJ⟩ : ∃ q, JT (j + 1) = q := ⟨_, rfl⟩
    have HJJ := Lib.hid hJJ
    rw [hJJ] at HI0 HA
    simp only at HI0 HA
    have hjl12 : JL.length ≤ 12 := HI0.out.ax.rank
    have hAT := HA.out _ hH.ext (hH.get (k := 3) rfl)
    obtain ⟨s1x, s1y, s1z, s2x, s2y, s2z, s3x, s3y, s3z, hss⟩ := hAT.shape
    simp at hss
    obtain ⟨rfl, rfl, rfl⟩ := hss
    clear hJJ hAT
    replace hH : Held w wq [aB (w.heap.size) 24 [.int .i64 k, .int .i64 p, .int .i64 n], aB (w.heap.size + 1) 32 [.slice none 0 0, .slice none 0 0, .slice none 0 0], aB (wz0.heap.size) 32 [.slice s1x s1y s1z, .slice s2x s2y s2z, .slice s3x s3y s3z], A] := hH
    by_cases hlt : j + 1 < m
    ·
     exfalso; omega
    ·
     have hje : m = j + 1 := by omega
     subst hje
     have HE2 : Hid (RA = (JL, JX)) := Lib.hid (by rw [← HJE.out, HJJ.out])
     have q0_0 := hH.cl 0 0 rfl rfl; have q0_1 := hH.cl 0 1 rfl rfl; have q0_2 := hH.cl 0 2 rfl rfl; have l0_ := hH.bl 0 rfl; have q1_0 := hH.cl 1 0 rfl rfl; have f1_0 := hH.fr 1 0 rfl; have q1_1 := hH.cl 1 1 rfl rfl; have f1_1 := hH.fr 1 1 rfl; have q1_2 := hH.cl 1 2 rfl rfl; have f1_2 := hH.fr 1 2 rfl; have l1_ := hH.bl 1 rfl; have q2_0 := hH.cl 2 0 rfl rfl; have q2_1 := hH.cl 2 1 rfl rfl; have q2_2 := hH.cl 2 2 rfl rfl; have l2_ := hH.bl 2 rfl
     go_wp2_with fail
     have hX := hH.setB3' (k := 1) rfl (.slice s1x s1y s1z) (.slice s2x s2y s2z) (.slice s3x s3y s3z)
     refine bodyPost_ret (v := .tuple #[.agg #[.slice s1x s1y s1z, .slice s2x s2y s2z, .slice s3x s3y s3z], .bool true]) (by simp [results, Try.results156, go_sem, *]) rfl ?_
     exact ⟨_, rfl, by rw [HE2.out]; exact HA.out _ hX.ext (hX.get (k := 3) rfl), hX.ext⟩
 · clear q0_0 q0_1 q0_2 l0_ q1_0 q1_1 q1_2 l1_ q2_0 q2_1 q2_2 l2_
   replace hH := hH.mores 1
   replace hH : Held w wn3 [aB (w.heap.size) 24 [.int .i64 k, .int .i64 p, .int .i64 n], aB (w.heap.size + 1) 32 [.slice none 0 0, .slice none 0 0, .slice none 0 0], aB (wz0.heap.size) 32 [.slice e10 tl0.length f10, .slice e20 tl0.length f20, .slice e30 m30 f30], emp] := hH
   go_loopw [17] (fun i wr => ∃ (j : Nat) (s1 s2 s3 : Value) (A : Asn), j + 1 ≤ m ∧ i = .int .i64 (j : Int) ∧ Hid (∀ w', Ext w w' → A.holds w' → TenS w' (.agg #[s1, s2, s3]) (JT (j + 1)).1 ((JT (j + 1)).1.map dm) (flat (JT (j + 1)).2)) ∧ Held w wr [aB (w.heap.size) 24 [.int .i64 k, .int .i64 p, .int .i64 n], aB (w.heap.size + 1) 32 [.slice none 0 0, .slice none 0 0, .slice none 0 0], aB (wz0.heap.size) 32 [s1, s2, s3], A]) (fun i wr => m - (RowKit.intOf i).toNat)
   case atStart => exact ⟨0, _, _, _, emp, by omega, rfl, Lib.hid fun w' e _ => by rw [Nat.zero_add, HT0.out]; exact hTu0.ext e, hH⟩
   case round =>
    clear hH
    obtain ⟨j, s1, s2, s3, A, hj, rfl, HA, hH⟩ := hrel
    obtain ⟨wq, rfl⟩ : ∃ q, q = wr := ⟨wr, rfl⟩
    have HI0 := Lib.hid (HJI.out (j + 1) (by omega))
    obtain ⟨⟨JL, JX⟩, hJJ⟩ : ∃ q, JT (j + 1) = q := ⟨_, rfl⟩
    have HJJ := Lib.hid hJJ
    rw [hJJ] at HI0 HA
    simp only at HI0 HA
    have hjl12 : JL.length ≤ 12 := HI0.out.ax.rank
    have hAT := HA.out _ hH.ext (hH.get (k := 3) rfl)
    obtain ⟨s1x, s1y, s1z, s2x, s2y, s2z, s3x, s3y, s3z, hss⟩ := hAT.shape
    simp at hss
    obtain ⟨rfl, rfl, rfl⟩ := hss
    clear hJJ hAT
    replace hH : Held w wq [aB (w.heap.size) 24 [.int .i64 k, .int .i64 p, .int .i64 n], aB (w.heap.size + 1) 32 [.slice none 0 0, .slice none 0 0, .slice none 0 0], aB (wz0.heap.size) 32 [.slice s1x s1y s1z, .slice s2x s2y s2z, .slice s3x s3y s3z], A] := hH
    by_cases hlt : j + 1 < m
    ·
     obtain ⟨_, _, u1, u2, u3, t3, hV, hu0, hu1, hu2, ht3, hTu⟩ := hT.get (i := (j + 1)) (by rw [hTl.out]; exact hlt)
     cases hV
     obtain ⟨t, htj, rfl⟩ : ∃ t, ts[(j + 1)]? = some t ∧ tenOf dm t = t3 := by rw [List.getElem?_map] at ht3; exact Option.map_eq_some_iff.1 ht3
     have HTJ := Lib.hid htj; have HTI := Lib.hid (HN.out.ten t (List.mem_of_getElem? htj)); clear ht3 htj
     obtain ⟨tl, xs⟩ := t
     obtain ⟨e1, m1, f1, e2, m2, f2, e3, m3, f3, hvv⟩ := hTu.shape
     simp at hvv
     obtain ⟨rfl, rfl, rfl⟩ := hvv
     rw [Nat.mul_comm 3 (j + 1)] at hu0 hu1 hu2
     obtain ⟨_, _, _, hvv, hTL, hTD, hTX⟩ := hTu.val
     simp at hvv
     obtain ⟨rfl, rfl, rfl⟩ := hvv
     simp only [tenOf] at hTu hTL hTD hTX HTI
     obtain ⟨_, _, hvv, _, _⟩ := hTL.val
     simp at hvv
     obtain ⟨rfl, rfl, rfl⟩ := hvv
     obtain ⟨_, _, hvv, _, _⟩ := hTD.val
     simp at hvv
     obtain ⟨rfl, rfl, rfl⟩ := hvv
     rw [show oT + (j + 1) * 3 = oT + 3 + j * 3 by omega] at hu0 hu1 hu2
     have htl12 : tl.length ≤ 12 := HTI.out.ax.rank
     have HJS1 := Lib.hid (HJS.out (j + 1) _ (by omega) HTJ.out)
     rw [HJJ.out] at HJS1
     have HKA : Hid (keepL (joinL JL tl) (joinL JL tl) = joinL JL tl) := Lib.hid (keepL_all fun x hx => hx)
     obtain ⟨KJ, hKJ⟩ : ∃ q, joinL JL tl = q := ⟨_, rfl⟩
     rw [hKJ] at HKA
     have HKJ := Lib.hid hKJ
     obtain ⟨⟨NL, NX⟩, hNN⟩ : ∃ q, JT (j + 1 + 1) = q := ⟨_, rfl⟩
     have HNN : Hid (KJ = NL ∧ contrXs HR.out dm JL tl KJ JX xs = NX) := Lib.hid (by
      have h := HJS1.out
      rw [hNN] at h
      unfold joinT at h
      simp only [Prod.mk.injEq, hKJ] at h
      exact ⟨h.1.symm, h.2.symm⟩)
     have HNJ := Lib.hid hNN; clear hNN hKJ
     have hlt2 : j < m - 1 := by omega
     have q0_0 := hH.cl 0 0 rfl rfl; have q0_1 := hH.cl 0 1 rfl rfl; have q0_2 := hH.cl 0 2 rfl rfl; have l0_ := hH.bl 0 rfl; have q1_0 := hH.cl 1 0 rfl rfl; have q1_1 := hH.cl 1 1 rfl rfl; have q1_2 := hH.cl 1 2 rfl rfl; have l1_ := hH.bl 1 rfl; have q2_0 := hH.cl 2 0 rfl rfl; have q2_1 := hH.cl 2 1 rfl rfl; have q2_2 := hH.cl 2 2 rfl rfl; have l2_ := hH.bl 2 rfl; have c_hu0 := hH.ext.cell hu0; have c_hu1 := hH.ext.cell hu1; have c_hu2 := hH.ext.cell hu2
     go_upto_region 5 with fail
     clear q0_0 q0_1 q0_2 l0_ q1_0 q1_1 q1_2 l1_ q2_0 q2_1 q2_2 l2_ c_hu0 c_hu1 c_hu2
     have hB : Held w (wq.alloc (.cells #[.slice e1 tl.length f1, .slice e2 tl.length f2, .slice e3 m3 f3] 32)) [aB (w.heap.size) 24 [.int .i64 k, .int .i64 p, .int .i64 n], aB (w.heap.size + 1) 32 [.slice none 0 0, .slice none 0 0, .slice none 0 0], aB (wz0.heap.size) 32 [.slice s1x s1y s1z, .slice s2x s2y s2z, .slice s3x s3y s3z], A, aB (wq.heap.size) 32 [.slice e1 tl.length f1, .slice e2 tl.length f2, .slice e3 m3 f3]] := by
      have h := (hH.mores 1).addB 4 #[.slice e1 tl.length f1, .slice e2 tl.length f2, .slice e3 m3 f3] 32
      exact h
     have hsz : (wq.alloc (.cells #[.slice e1 tl.length f1, .slice e2 tl.length f2, .slice e3 m3 f3] 32)).heap.size = wq.heap.size + 1 := by simp
     generalize wq.alloc (.cells #[.slice e1 tl.length f1, .slice e2 tl.length f2, .slice e3 m3 f3] 32) = wn4 at hB hsz ⊢
     replace hH := hB; have HSZwn4 := Lib.hid hsz; clear hB hsz
     obtain ⟨wz, rfl⟩ : ∃ q, q = wn4 := ⟨wn4, rfl⟩
     replace hH := hH.mores 3
     replace hH : Held w wz [aB (w.heap.size) 24 [.int .i64 k, .int .i64 p, .int .i64 n], aB (w.heap.size + 1) 32 [.slice none 0 0, .slice none 0 0, .slice none 0 0], aB (wz0.heap.size) 32 [.slice s1x s1y s1z, .slice s2x s2y s2z, .slice s3x s3y s3z], A, aB (wq.heap.size) 32 [.slice e1 tl.length f1, .slice e2 tl.length f2, .slice e3 m3 f3], emp, emp, emp] := hH
     refine wp_region_steps ?Fb (fun b t wx => Held w wx [aB (w.heap.size) 24 [.int .i64 k, .int .i64 p, .int .i64 n], aB (w.heap.size + 1) 32 [.slice none 0 0, .slice none 0 0, .slice none 0 0], aB (wz0.heap.size) 32 [.slice s1x s1y s1z, .slice s2x s2y s2z, .slice s3x s3y s3z], A, aB (wq.heap.size) 32 [.slice e1 tl.length f1, .slice e2 tl.length f2, .slice e3 m3 f3], (bif b 7 then aI (t 7) KJ else emp), (bif b 8 then aT (tup0 (t 8)) NL (NL.map dm) (flat NX) else emp), (bif b 13 then aB (blkOf (t 12)) 32 (partsOf (t 10)) else (bif b 12 then aB (blkOf (t 12)) 32 [.slice none 0 0, .slice none 0 0, .slice none 0 0] else emp))] ∧ (b 0 = true → t 0 = .agg #[.int .i64 k, .int .i64 p, .int .i64 n]) ∧ (b 1 = true → t 1 = .agg #[.slice s1x s1y s1z, .slice s2x s2y s2z, .slice s3x s3y s3z]) ∧ (b 2 = true → t 2 = .agg #[.slice e1 tl.length f1, .slice e2 tl.length f2, .slice e3 m3 f3]) ∧ (b 3 = true → t 3 = .pointer (some ⟨wz0.heap.size, 0, none⟩)) ∧ (b 4 = true → t 4 = .slice s1x s1y s1z) ∧ (b 5 = true → t 5 = .pointer (some ⟨wq.heap.size, 0, none⟩)) ∧ (b 6 = true → t 6 = .slice e1 tl.length f1) ∧ (b 7 = true → ∃ x c, t 7 = .slice x KJ.length c) ∧ (b 8 = true → ∃ p1 n1 c1 p2 n2 c2 p3 n3 c3, t 8 = .tuple #[.agg #[.slice p1 n1 c1, .slice p2 n2 c2, .slice p3 n3 c3], .bool true]) ∧ (b 9 = true → t 9 = t 8) ∧ (b 10 = true → t 10 = tup0 (t 8)) ∧ (b 11 = true → t 11 = .bool true) ∧ (b 12 = true → ∃ q, t 12 = .pointer (some ⟨q, 0, none⟩)) ∧ (b 14 = true → t 14 = .bool true)) ?hFb (by kernel_rfl) (by kernel_rfl) ?hJb ?hSb ?hEb
     (case hFb => intro t; simp only [putAll, Act.put, List.setIfInBounds_toArray, List.set_cons_zero, List.set_cons_succ, Nat.reduceAdd, Nat.zero_add]; exact rfl)
     case hJb => exact ⟨hH.grow ((Ext.refl _).drew), fun h => absurd h Bool.false_ne_true, fun h => absurd h Bool.false_ne_true, fun h => absurd h Bool.false_ne_true, fun h => absurd h Bool.false_ne_true, fun h => absurd h Bool.false_ne_true, fun h => absurd h Bool.false_ne_true, fun h => absurd h Bool.false_ne_true, fun h => absurd h Bool.false_ne_true, fun h => absurd h Bool.false_ne_true, fun h => absurd h Bool.false_ne_true, fun h => absurd h Bool.false_ne_true, fun h => absurd h Bool.false_ne_true, fun h => absurd h Bool.false_ne_true, fun h => absurd h Bool.false_ne_true⟩
     case hSb => as_aux_lemma =>
       refine AllSteps.cons (j := 1) rfl (fun b t wx hJ hb hd hcl Kc hK => ?_) ?_
       · obtain ⟨hH, v0, v1, v2, v3, v4, v5, v6, v7, v8, v9, v10, v11, v12, v14⟩ := hJ
         have c_hu0 := hH.ext.cell hu0; have c_hu1 := hH.ext.cell hu1; have c_hu2 := hH.ext.cell hu2; have q0_0 := hH.cl 0 0 rfl rfl; have q0_1 := hH.cl 0 1 rfl rfl; have q0_2 := hH.cl 0 2 rfl rfl
         go_simp
         refine hK.out _ ?_ _ ?_ ?_; rotate_left 2
         · rfl
         exact ⟨hH, fun _ => rfl, v1, v2, v3, v4, v5, v6, v7, v8, v9, v10, v11, v12, v14⟩
       refine AllSteps.cons (j := 2) rfl (fun b t wx hJ hb hd hcl Kc hK => ?_) ?_
       · obtain ⟨hH, v0, v1, v2, v3, v4, v5, v6, v7, v8, v9, v10, v11, v12, v14⟩ := hJ
         have c_hu0 := hH.ext.cell hu0; have c_hu1 := hH.ext.cell hu1; have c_hu2 := hH.ext.cell hu2; have q2_0 := hH.cl 2 0 rfl rfl; have q2_1 := hH.cl 2 1 rfl rfl; have q2_2 := hH.cl 2 2 rfl rfl
         go_simp
         refine hK.out _ ?_ _ ?_ ?_; rotate_left 2
         · rfl
         exact ⟨hH, v0, fun _ => rfl, v2, v3, v4, v5, v6, v7, v8, v9, v10, v11, v12, v14⟩
       refine AllSteps.cons (j := 3) rfl (fun b t wx hJ hb hd hcl Kc hK => ?_) ?_
       · obtain ⟨hH, v0, v1, v2, v3, v4, v5, v6, v7, v8, v9, v10, v11, v12, v14⟩ := hJ
         have c_hu0 := hH.ext.cell hu0; have c_hu1 := hH.ext.cell hu1; have c_hu2 := hH.ext.cell hu2; have q4_0 := hH.cl 4 0 rfl rfl; have q4_1 := hH.cl 4 1 rfl rfl; have q4_2 := hH.cl 4 2 rfl rfl
         go_simp
         refine hK.out _ ?_ _ ?_ ?_; rotate_left 2
         · rfl
         exact ⟨hH, v0, v1, fun _ => rfl, v3, v4, v5, v6, v7, v8, v9, v10, v11, v12, v14⟩
       refine AllSteps.cons (j := 4) rfl (fun b t wx hJ hb hd hcl Kc hK => ?_) ?_
       · obtain ⟨hH, v0, v1, v2, v3, v4, v5, v6, v7, v8, v9, v10, v11, v12, v14⟩ := hJ
         have c_hu0 := hH.ext.cell hu0; have c_hu1 := hH.ext.cell hu1; have c_hu2 := hH.ext.cell hu2
         go_simp
         refine hK.out _ ?_ _ ?_ ?_; rotate_left 2
         · rfl
         exact ⟨hH, v0, v1, v2, fun _ => rfl, v4, v5, v6, v7, v8, v9, v10, v11, v12, v14⟩
       refine AllSteps.cons (j := 5) rfl (fun b t wx hJ hb hd hcl Kc hK => ?_) ?_
       · obtain ⟨hH, v0, v1, v2, v3, v4, v5, v6, v7, v8, v9, v10, v11, v12, v14⟩ := hJ
         have d3 := hd.out 3 (by kernel_rfl); have r3 := v3 d3; have c_hu0 := hH.ext.cell hu0; have c_hu1 := hH.ext.cell hu1; have c_hu2 := hH.ext.cell hu2; have q2_0 := hH.cl 2 0 rfl rfl
         go_simp
         refine hK.out _ ?_ _ ?_ ?_; rotate_left 2
         · (try simp only [r3]); rfl
         exact ⟨hH, v0, v1, v2, v3, fun _ => rfl, v5, v6, v7, v8, v9, v10, v11, v12, v14⟩
       refine AllSteps.cons (j := 6) rfl (fun b t wx hJ hb hd hcl Kc hK => ?_) ?_
       · obtain ⟨hH, v0, v1, v2, v3, v4, v5, v6, v7, v8, v9, v10, v11, v12, v14⟩ := hJ
         have c_hu0 := hH.ext.cell hu0; have c_hu1 := hH.ext.cell hu1; have c_hu2 := hH.ext.cell hu2
         go_simp
         refine hK.out _ ?_ _ ?_ ?_; rotate_left 2
         · rfl
         exact ⟨hH, v0, v1, v2, v3, v4, fun _ => rfl, v6, v7, v8, v9, v10, v11, v12, v14⟩
       refine AllSteps.cons (j := 7) rfl (fun b t wx hJ hb hd hcl Kc hK => ?_) ?_
       · obtain ⟨hH, v0, v1, v2, v3, v4, v5, v6, v7, v8, v9, v10, v11, v12, v14⟩ := hJ
         have d5 := hd.out 5 (by kernel_rfl); have r5 := v5 d5; have c_hu0 := hH.ext.cell hu0; have c_hu1 := hH.ext.cell hu1; have c_hu2 := hH.ext.cell hu2; have q4_0 := hH.cl 4 0 rfl rfl
         go_simp
         refine hK.out _ ?_ _ ?_ ?_; rotate_left 2
         · (try simp only [r5]); rfl
         exact ⟨hH, v0, v1, v2, v3, v4, v5, fun _ => rfl, v7, v8, v9, v10, v11, v12, v14⟩
       refine AllSteps.cons (j := 8) rfl (fun b t wx hJ hb hd hcl Kc hK => ?_) ?_
       · obtain ⟨hH, v0, v1, v2, v3, v4, v5, v6, v7, v8, v9, v10, v11, v12, v14⟩ := hJ
         have d4 := hd.out 4 (by kernel_rfl); have d6 := hd.out 6 (by kernel_rfl); have r4 := v4 d4; have r6 := v6 d6
         have hN := hH; (try simp only [hb, d4, d6, cond_true, cond_false] at hN)
         go_simp
         go_at_call 138
         refine (joinLabels_any _ _ JL tl _ (HA.out _ hH.ext (hH.get (k := 3) rfl)).valL (hTL.ext hH.ext) (by omega) (by omega)).mono ?_; rintro e7 w7 ⟨v7, rfl, o7, h7⟩
         rw [HKJ.out] at o7
         obtain ⟨x7, c7, rfl⟩ := o7.shape1 KJ.length rfl
         (try go_simp)
         refine hK.out _ ?_ _ ?_ ?_; rotate_left 2
         · (try simp only [r4, r6]); rfl
         exact ⟨by have hX := hN.addI 5 h7 o7 (Nat.le_refl _); simpa only [List.set_cons_zero, List.set_cons_succ, updB, updV, blkOf_mk, tup0_mk, partsOf3, Nat.reduceBEq, cond_true, cond_false, hb, d4, d6, r4, r6] using hX, v0, v1, v2, v3, v4, v5, v6, fun _ => ⟨_, _, rfl⟩, v8, v9, v10, v11, v12, v14⟩
       refine AllSteps.cons (j := 9) rfl (fun b t wx hJ hb hd hcl Kc hK => ?_) ?_
       · obtain ⟨hH, v0, v1, v2, v3, v4, v5, v6, v7, v8, v9, v10, v11, v12, v14⟩ := hJ
         have d0 := hd.out 0 (by kernel_rfl); have d1 := hd.out 1 (by kernel_rfl); have d2 := hd.out 2 (by kernel_rfl); have d7 := hd.out 7 (by kernel_rfl)
         have n9 : b 9 = false := Bool.eq_false_iff.2 fun h => absurd (hcl.out 9 8 (by kernel_rfl) (h)) (by rw [hb]; exact Bool.false_ne_true)
         have n10 : b 10 = false := Bool.eq_false_iff.2 fun h => absurd (hcl.out 9 8 (by kernel_rfl) (hcl.out 10 9 (by kernel_rfl) (h))) (by rw [hb]; exact Bool.false_ne_true)
         have r0 := v0 d0; have r1 := v1 d1; have r2 := v2 d2; have r7 := v7 d7
         obtain ⟨x_7, c_7, r7⟩ := r7
         have hN := hH; (try simp only [hb, d0, d1, d2, d7, n9, n10, cond_true, cond_false] at hN)
         go_simp
         go_at_call 47
         refine (contractPair_any HR.out HI0.out HTI.out KJ _ _ _ _ (HA.out _ hH.ext (hH.get (k := 3) rfl)) (hTu.ext hH.ext) (by have h := hN.ints (k := 5) rfl; rw [r7] at h; exact h)).mono ?_; rintro e8 w8 ⟨vc, rfl, oc, hc⟩
         rw [HKJ.out, HKA.out, HNN.out.2, HNN.out.1] at oc
         obtain ⟨pa1, na1, ca1, pa2, na2, ca2, pa3, na3, ca3, rfl⟩ := oc.shape
         (try go_simp)
         refine hK.out _ ?_ _ ?_ ?_; rotate_left 2
         · (try simp only [r0, r1, r2, r7]); rfl
         exact ⟨by have hX := hN.addT 6 hc oc (Nat.le_refl _); simpa only [List.set_cons_zero, List.set_cons_succ, updB, updV, blkOf_mk, tup0_mk, partsOf3, Nat.reduceBEq, cond_true, cond_false, hb, d0, d1, d2, d7, n9, n10, r0, r1, r2, r7] using hX, v0, v1, v2, v3, v4, v5, v6, v7, fun _ => ⟨_, _, _, _, _, _, _, _, _, rfl⟩, fun h => absurd (show b 9 = true from h) (by rw [n9]; exact Bool.false_ne_true), fun h => absurd (show b 10 = true from h) (by rw [n10]; exact Bool.false_ne_true), v11, v12, v14⟩
       refine AllSteps.cons (j := 10) rfl (fun b t wx hJ hb hd hcl Kc hK => ?_) ?_
       · obtain ⟨hH, v0, v1, v2, v3, v4, v5, v6, v7, v8, v9, v10, v11, v12, v14⟩ := hJ
         have d8 := hd.out 8 (by kernel_rfl); have r8 := v8 d8
         obtain ⟨p1_8, n1_8, c1_8, p2_8, n2_8, c2_8, p3_8, n3_8, c3_8, r8⟩ := r8
         have c_hu0 := hH.ext.cell hu0; have c_hu1 := hH.ext.cell hu1; have c_hu2 := hH.ext.cell hu2
         go_simp
         refine hK.out _ ?_ _ ?_ ?_; rotate_left 2
         · (try simp only [r8]); rfl
         exact ⟨hH, v0, v1, v2, v3, v4, v5, v6, v7, v8, fun _ => (by first | rfl | exact r8.symm), v10, v11, v12, v14⟩
       refine AllSteps.cons (j := 11) rfl (fun b t wx hJ hb hd hcl Kc hK => ?_) ?_
       · obtain ⟨hH, v0, v1, v2, v3, v4, v5, v6, v7, v8, v9, v10, v11, v12, v14⟩ := hJ
         have d8 := hcl.out 9 8 (by kernel_rfl) (hd.out 9 (by kernel_rfl)); have d9 := hd.out 9 (by kernel_rfl)
         have n13 : b 13 = false := Bool.eq_false_iff.2 fun h => absurd (hcl.out 13 10 (by kernel_rfl) (h)) (by rw [hb]; exact Bool.false_ne_true)
         have r8 := v8 d8; have r9 := v9 d9
         obtain ⟨p1_8, n1_8, c1_8, p2_8, n2_8, c2_8, p3_8, n3_8, c3_8, r8⟩ := r8
         have hN := hH; (try simp only [hb, d8, d9, n13, cond_true, cond_false] at hN)
         have e8 := r8 -- d8
         go_simp
         refine hK.out _ ?_ _ ?_ ?_; rotate_left 2
         · (try simp only [r8, r9]); rfl
         exact ⟨by have hX := hN; simpa only [List.set_cons_zero, List.set_cons_succ, updB, updV, blkOf_mk, tup0_mk, partsOf3, Nat.reduceBEq, cond_true, cond_false, hb, d8, d9, n13, r8, r9] using hX, v0, v1, v2, v3, v4, v5, v6, v7, v8, v9, fun _ => (by show _ = tup0 (t 8); rw [r8]; rfl), v11, v12, v14⟩
       refine AllSteps.cons (j := 12) rfl (fun b t wx hJ hb hd hcl Kc hK => ?_) ?_
       · obtain ⟨hH, v0, v1, v2, v3, v4, v5, v6, v7, v8, v9, v10, v11, v12, v14⟩ := hJ
         have d8 := hcl.out 9 8 (by kernel_rfl) (hd.out 9 (by kernel_rfl)); have d9 := hd.out 9 (by kernel_rfl); have r8 := v8 d8; have r9 := v9 d9
         obtain ⟨p1_8, n1_8, c1_8, p2_8, n2_8, c2_8, p3_8, n3_8, c3_8, r8⟩ := r8
         have e8 := r8 -- d8
         go_simp
         refine hK.out _ ?_ _ ?_ ?_; rotate_left 2
         · (try simp only [r8, r9]); rfl
         exact ⟨hH, v0, v1, v2, v3, v4, v5, v6, v7, v8, v9, v10, fun _ => rfl, v12, v14⟩
       refine AllSteps.cons (j := 13) rfl (fun b t wx hJ hb hd hcl Kc hK => ?_) ?_
       · obtain ⟨hH, v0, v1, v2, v3, v4, v5, v6, v7, v8, v9, v10, v11, v12, v14⟩ := hJ
         have n13 : b 13 = false := Bool.eq_false_iff.2 fun h => absurd (hcl.out 13 12 (by kernel_rfl) (h)) (by rw [hb]; exact Bool.false_ne_true)
         have hN := hH; (try simp only [hb, n13, cond_true, cond_false] at hN)
         go_simp
         refine hK.out _ ?_ _ ?_ ?_; rotate_left 2
         · rfl
         exact ⟨by have hX := hN.addB 7 #[.slice none 0 0, .slice none 0 0, .slice none 0 0] 32; simpa only [List.set_cons_zero, List.set_cons_succ, updB, updV, blkOf_mk, tup0_mk, partsOf3, Nat.reduceBEq, cond_true, cond_false, hb, n13] using hX, v0, v1, v2, v3, v4, v5, v6, v7, v8, v9, v10, v11, fun _ => ⟨_, rfl⟩, v14⟩
       refine AllSteps.cons (j := 14) rfl (fun b t wx hJ hb hd hcl Kc hK => ?_) ?_
       · obtain ⟨hH, v0, v1, v2, v3, v4, v5, v6, v7, v8, v9, v10, v11, v12, v14⟩ := hJ
         have d0 := hd.out 0 (by kernel_rfl); have d1 := hd.out 1 (by kernel_rfl); have d2 := hd.out 2 (by kernel_rfl); have d3 := hd.out 3 (by kernel_rfl); have d4 := hd.out 4 (by kernel_rfl); have d5 := hd.out 5 (by kernel_rfl); have d6 := hd.out 6 (by kernel_rfl); have d7 := hd.out 7 (by kernel_rfl); have d8 := hd.out 8 (by kernel_rfl); have d9 := hd.out 9 (by kernel_rfl); have d10 := hd.out 10 (by kernel_rfl); have d12 := hd.out 12 (by kernel_rfl); have r0 := v0 d0; have r1 := v1 d1; have r2 := v2 d2; have r3 := v3 d3; have r4 := v4 d4; have r5 := v5 d5; have r6 := v6 d6; have r7 := v7 d7; have r8 := v8 d8; have r9 := v9 d9; have r10 := v10 d10; have r12 := v12 d12
         obtain ⟨x_7, c_7, r7⟩ := r7
         obtain ⟨p1_8, n1_8, c1_8, p2_8, n2_8, c2_8, p3_8, n3_8, c3_8, r8⟩ := r8
         obtain ⟨q_12, r12⟩ := r12
         have hN := hH; (try simp only [hb, d0, d1, d2, d3, d4, d5, d6, d7, d8, d9, d10, d12, cond_true, cond_false] at hN)
         rw [r8, tup0_mk] at r10 -- d8
         simp only [r12, r10, blkOf_mk, tup0_mk, partsOf3] at hN
         have B := hN.blk (k := 7) rfl
         have f0 := B.free 0; have z0 := B.cell (j := 0) rfl
         have f1 := B.free 1; have z1 := B.cell (j := 1) rfl
         have f2 := B.free 2; have z2 := B.cell (j := 2) rfl
         have lB := B.lt; have hmk0 := @tup0_mk
         go_simp
         refine hK.out _ undef _ ?_ ?_; rotate_left 1
         · (try simp only [r0, r1, r2, r3, r4, r5, r6, r7, r8, r9, r10, r12]); rfl
         exact ⟨by have hX := hN.setB3' (k := 7) rfl (.slice p1_8 n1_8 c1_8) (.slice p2_8 n2_8 c2_8) (.slice p3_8 n3_8 c3_8); simpa only [List.set_cons_zero, List.set_cons_succ, updB, updV, blkOf_mk, tup0_mk, partsOf3, Nat.reduceBEq, cond_true, cond_false, hb, d0, d1, d2, d3, d4, d5, d6, d7, d8, d9, d10, d12, r0, r1, r2, r3, r4, r5, r6, r7, r8, r9, r10, r12] using hX, v0, v1, v2, v3, v4, v5, v6, v7, v8, v9, v10, v11, v12, v14⟩
       refine AllSteps.cons (j := 15) rfl (fun b t wx hJ hb hd hcl Kc hK => ?_) ?_
       · obtain ⟨hH, v0, v1, v2, v3, v4, v5, v6, v7, v8, v9, v10, v11, v12, v14⟩ := hJ
         have d0 := hd.out 0 (by kernel_rfl); have d1 := hd.out 1 (by kernel_rfl); have d2 := hd.out 2 (by kernel_rfl); have d3 := hd.out 3 (by kernel_rfl); have d4 := hd.out 4 (by kernel_rfl); have d5 := hd.out 5 (by kernel_rfl); have d6 := hd.out 6 (by kernel_rfl); have d7 := hd.out 7 (by kernel_rfl); have d8 := hd.out 8 (by kernel_rfl); have d9 := hd.out 9 (by kernel_rfl); have d10 := hd.out 10 (by kernel_rfl); have d11 := hd.out 11 (by kernel_rfl); have d12 := hd.out 12 (by kernel_rfl); have d13 := hd.out 13 (by kernel_rfl); have r0 := v0 d0; have r1 := v1 d1; have r2 := v2 d2; have r3 := v3 d3; have r4 := v4 d4; have r5 := v5 d5; have r6 := v6 d6; have r7 := v7 d7; have r8 := v8 d8; have r9 := v9 d9; have r10 := v10 d10; have r11 := v11 d11; have r12 := v12 d12
         obtain ⟨x_7, c_7, r7⟩ := r7
         obtain ⟨p1_8, n1_8, c1_8, p2_8, n2_8, c2_8, p3_8, n3_8, c3_8, r8⟩ := r8
         obtain ⟨q_12, r12⟩ := r12
         have c_hu0 := hH.ext.cell hu0; have c_hu1 := hH.ext.cell hu1; have c_hu2 := hH.ext.cell hu2
         go_simp
         refine hK.out _ ?_ _ ?_ ?_; rotate_left 2
         · (try simp only [r0, r1, r2, r3, r4, r5, r6, r7, r8, r9, r10, r11, r12]); rfl
         exact ⟨hH, v0, v1, v2, v3, v4, v5, v6, v7, v8, v9, v10, v11, v12, fun _ => rfl⟩
       exact AllSteps.nil
     case hEb =>
      intro b t wb hJ hall
      obtain ⟨hHb, v0, v1, v2, v3, v4, v5, v6, v7, v8, v9, v10, v11, v12, v14⟩ := hJ
      have a0 := hall 0 (by decide); have a1 := hall 1 (by decide); have a2 := hall 2 (by decide); have a3 := hall 3 (by decide); have a4 := hall 4 (by decide); have a5 := hall 5 (by decide); have a6 := hall 6 (by decide); have a7 := hall 7 (by decide); have a8 := hall 8 (by decide); have a9 := hall 9 (by decide); have a10 := hall 10 (by decide); have a11 := hall 11 (by decide); have a12 := hall 12 (by decide); have a13 := hall 13 (by decide); have a14 := hall 14 (by decide)
      (try simp only [a0, a1, a2, a3, a4, a5, a6, a7, a8, a9, a10, a11, a12, a13, a14, cond_true] at hHb)
      replace v0 := v0 a0; replace v1 := v1 a1; replace v2 := v2 a2; replace v3 := v3 a3; replace v4 := v4 a4; replace v5 := v5 a5; replace v6 := v6 a6; replace v7 := v7 a7; replace v8 := v8 a8; replace v9 := v9 a9; replace v10 := v10 a10; replace v11 := v11 a11; replace v12 := v12 a12; replace v14 := v14 a14
      clear hall a0 a1 a2 a3 a4 a5 a6 a7 a8 a9 a10 a11 a12 a13 a14
      generalize t 14 = x14 at hHb v14 ⊢; generalize t 12 = x12 at hHb v12 ⊢; generalize t 11 = x11 at hHb v11 ⊢; generalize t 10 = x10 at hHb v10 ⊢; generalize t 9 = x9 at hHb v9 ⊢; generalize t 8 = x8 at hHb v8 v9 v10 ⊢; generalize t 7 = x7 at hHb v7 ⊢; generalize t 6 = x6 at hHb v6 ⊢; generalize t 5 = x5 at hHb v5 ⊢; generalize t 4 = x4 at hHb v4 ⊢; generalize t 3 = x3 at hHb v3 ⊢; generalize t 2 = x2 at hHb v2 ⊢; generalize t 1 = x1 at hHb v1 ⊢; generalize t 0 = x0 at hHb v0 ⊢; subst v0; subst v1; subst v2; subst v3; subst v4; subst v5; subst v6
      obtain ⟨xb7, cb7, rfl⟩ := v7
      obtain ⟨p1b8, n1b8, c1b8, p2b8, n2b8, c2b8, p3b8, n3b8, c3b8, rfl⟩ := v8
      subst v9; subst v10; subst v11
      obtain ⟨qb12, rfl⟩ := v12
      subst v14
      simp only [blkOf_mk, tup0_mk, partsOf3] at hHb
      clear b
      replace hH := hHb; clear hHb
      replace hH : Held w wb [aB (w.heap.size) 24 [.int .i64 k, .int .i64 p, .int .i64 n], aB (w.heap.size + 1) 32 [.slice none 0 0, .slice none 0 0, .slice none 0 0], aB (wz0.heap.size) 32 [.slice s1x s1y s1z, .slice s2x s2y s2z, .slice s3x s3y s3z], A, aB (wq.heap.size) 32 [.slice e1 tl.length f1, .slice e2 tl.length f2, .slice e3 m3 f3], aI (.slice xb7 KJ.length cb7) KJ, aT (.agg #[.slice p1b8 n1b8 c1b8, .slice p2b8 n2b8 c2b8, .slice p3b8 n3b8 c3b8]) NL (NL.map dm) (flat NX), aB qb12 32 [.slice p1b8 n1b8 c1b8, .slice p2b8 n2b8 c2b8, .slice p3b8 n3b8 c3b8]] := hH
      have q0_0 := hH.cl 0 0 rfl rfl; have q0_1 := hH.cl 0 1 rfl rfl; have q0_2 := hH.cl 0 2 rfl rfl; have l0_ := hH.bl 0 rfl; have q1_0 := hH.cl 1 0 rfl rfl; have q1_1 := hH.cl 1 1 rfl rfl; have q1_2 := hH.cl 1 2 rfl rfl; have l1_ := hH.bl 1 rfl; have q2_0 := hH.cl 2 0 rfl rfl; have f2_0 := hH.fr 2 0 rfl; have q2_1 := hH.cl 2 1 rfl rfl; have f2_1 := hH.fr 2 1 rfl; have q2_2 := hH.cl 2 2 rfl rfl; have f2_2 := hH.fr 2 2 rfl; have l2_ := hH.bl 2 rfl; have q4_0 := hH.cl 4 0 rfl rfl; have q4_1 := hH.cl 4 1 rfl rfl; have q4_2 := hH.cl 4 2 rfl rfl; have l4_ := hH.bl 4 rfl; have q7_0 := hH.cl 7 0 rfl rfl; have q7_1 := hH.cl 7 1 rfl rfl; have q7_2 := hH.cl 7 2 rfl rfl; have l7_ := hH.bl 7 rfl; have c_hu0 := hH.ext.cell hu0; have c_hu1 := hH.ext.cell hu1; have c_hu2 := hH.ext.cell hu2
      go_wp2_with fail
      have hHs := hH.setB3' (k := 2) rfl (.slice p1b8 n1b8 c1b8) (.slice p2b8 n2b8 c2b8) (.slice p3b8 n3b8 c3b8)
      go_roundw
      case rel => exact ⟨j + 1, _, _, _, _, by omega, by go_num, Lib.hid (fun w' _ h => by rw [HNJ.out]; exact OwnT.tens h), (hHs.moveTo 3 6 rfl (by decide)).sub (.cons_cons _ (.cons_cons _ (.cons_cons _ (.cons_cons _ (.cons _ (.cons _ (.cons _ (.cons _ .slnil))))))))⟩
      case measure => simp [RowKit.intOf]; omega
    ·
     have hje : m = j + 1 := by omega
     subst hje
     have HE2 : Hid (RA = (JL, JX)) := Lib.hid (by rw [← HJE.out, HJJ.out])
     have q0_0 := hH.cl 0 0 rfl rfl; have q0_1 := hH.cl 0 1 rfl rfl; have q0_2 := hH.cl 0 2 rfl rfl; have l0_ := hH.bl 0 rfl; have q1_0 := hH.cl 1 0 rfl rfl; have f1_0 := hH.fr 1 0 rfl; have q1_1 := hH.cl 1 1 rfl rfl; have f1_1 := hH.fr 1 1 rfl; have q1_2 := hH.cl 1 2 rfl rfl; have f1_2 := hH.fr 1 2 rfl; have l1_ := hH.bl 1 rfl; have q2_0 := hH.cl 2 0 rfl rfl; have q2_1 := hH.cl 2 1 rfl rfl; have q2_2 := hH.cl 2 2 rfl rfl; have l2_ := hH.bl 2 rfl
     go_wp2_with fail
     have hX := hH.setB3' (k := 1) rfl (.slice s1x s1y s1z) (.slice s2x s2y s2z) (.slice s3x s3y s3z)
     refine bodyPost_ret (v := .tuple #[.agg #[.slice s1x s1y s1z, .slice s2x s2y s2z, .slice s3x s3y s3z], .bool true]) (by simp [results, Try.results156, go_sem, *]) rfl ?_
     exact ⟨_, rfl, by rw [HE2.out]; exact HA.out _ hX.ext (hX.get (k := 3) rfl), hX.ext⟩
end Go.Proofs.Ytpegckmagiaggaa
