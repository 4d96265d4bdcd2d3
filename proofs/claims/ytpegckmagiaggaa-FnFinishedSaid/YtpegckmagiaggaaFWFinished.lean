/- The law 'FnFinished', walked. -/
import Derived.Test.YtpegckmagiaggaaFBase
import Derived.Test.YtpegckmagiaggaaFContractW
import Derived.Test.YtpegckmagiaggaaFWorthW
import Derived.Test.YtpegckmagiaggaaFG5
import Derived.Test.YtpegckmagiaggaaFDrawE
set_option linter.unusedSimpArgs false
set_option linter.unusedVariables false
namespace Go.Proofs.Ytpegckmagiaggaa
open Go.RowKit
theorem own_data {w : World} {B : Nat} {v : Value} {l : List Int} (h : OwnI w B v l) : OwnT w B (.agg #[.slice none 0 0, .slice none 0 0, v]) [] [] l :=
  ⟨_, _, _, rfl, OwnI.nil _ _, OwnI.nil _ _, h, fun b hb => by simp [Value.ownBlock] at hb, fun b hb => by simp [Value.ownBlock] at hb⟩
theorem HeldX.dataT {ex : Option Nat} {a w : World} {L : List Asn} {k : Nat} {v : Value} {l : List Int} (h : HeldX ex a w L) (hk : L[k]? = some (aI v l)) : HeldX ex a w (L.set k (aT (.agg #[.slice none 0 0, .slice none 0 0, v]) [] [] l)) :=
  h.alter hk (own_data (h.get hk)) fun b hb => by simpa [aT, aI, fpV, Value.ownBlock] using hb
set_option maxRecDepth 100000 in
set_option maxHeartbeats 8000000 in
theorem walkFnFinished (v : Value) (l : List Int) (w : World) (hl : ByteS w v l) (hall : ∀ x ∈ l, 0 ≤ x ∧ x ≤ 255) :
    Calls Try.prog 11 #[v] w fun e w' => e = .returned (.bool true) ∧ Ext w w' := by
  obtain ⟨ca, cap, rfl, hc1, hc2⟩ := hl.val
  by_cases big : 1048576 < l.length
  · go_enter Try.func11, Try.ntmps11
    go_wp2
    go_ret
    exact ⟨rfl, (by repeat' (first | (with_reducible exact Ext.refl _) | (with_reducible assumption) | (with_reducible apply Ext.alloc) | (with_reducible apply Ext.drew) | (with_reducible apply Ext.drewN) | (refine Ext.setAt ?_ (by omega) _ _) | (refine Ext.trans ?_ (by assumption))))⟩
  have hC : Code w (.slice ca l.length cap) l := ⟨hl, hall, by omega⟩
  clear hall hl
  have hH : Held w w [] := Held.new (Ext.refl w) 0
  go_enter Try.func11, Try.ntmps11
  go_wp2_with fail
  refine (makeRing_any _ l 0 _ (hC.ext hH.ext) (by omega)).mono ?_; rintro ewn1 wn1 ⟨k, p, n, rfl, hd, hwn1⟩
  have HR := Lib.hid (drawn_ok hd); clear hd
  replace hH : Held w wn1 [] := hH.grow hwn1
  clear hwn1
  go_wp2_with fail
  have hB : Held w (wn1.alloc (.cells #[.int .i64 k, .int .i64 p, .int .i64 n] 24)) [aB (wn1.heap.size) 24 [.int .i64 k, .int .i64 p, .int .i64 n]] := by
    have h := (hH.mores 1).addB 0 #[.int .i64 k, .int .i64 p, .int .i64 n] 24
    exact h
  have hsz : (wn1.alloc (.cells #[.int .i64 k, .int .i64 p, .int .i64 n] 24)).heap.size = wn1.heap.size + 1 := by simp
  generalize wn1.alloc (.cells #[.int .i64 k, .int .i64 p, .int .i64 n] 24) = wn2 at hB hsz ⊢
  replace hH := hB; have HSZwn2 := Lib.hid hsz; clear hB hsz
  have q0_0 := hH.cl 0 0 rfl rfl; have q0_1 := hH.cl 0 1 rfl rfl; have q0_2 := hH.cl 0 2 rfl rfl; have l0_ := hH.bl 0 rfl
  go_wp2_with fail
  clear q0_0 q0_1 q0_2 l0_
  refine (makeNetwork_any _ l 10 k p n 4 HR.out (by omega) (by omega) _ (hC.ext hH.ext) (by omega)).mono ?_; rintro ewN wN ⟨tv, ov, cs, ts, op, rfl, hJ, hN, hmost⟩
  have E0 : Ext w wN := hH.ext.trans hJ.ext
  have hT : TensS wN tv (ts.map (tenOf dimOf)) := hJ.tensS (k := 0) rfl
  have hO : IntS wN ov op := hJ.ints (k := 1) rfl
  have kr_0 := ((hH.grow hJ.ext).blk (k := 0) rfl).cell (j := 0) rfl
  have kr_1 := ((hH.grow hJ.ext).blk (k := 0) rfl).cell (j := 1) rfl
  have kr_2 := ((hH.grow hJ.ext).blk (k := 0) rfl).cell (j := 2) rfl
  have kr_l := ((hH.grow hJ.ext).blk (k := 0) rfl).lt
  have hCN := hC.ext E0
  obtain ⟨m, hm⟩ : ∃ m, ts.length = m := ⟨_, rfl⟩
  obtain ⟨aV, cV, rfl, hcT1, hcT2⟩ := hT.val
  obtain ⟨aO, cO, rfl, hcO1, hcO2⟩ := hO.val
  have hT0 : TensS wN (.slice aV m cV) (ts.map (tenOf dimOf)) := by rw [List.length_map, hm] at hT; exact hT
  rw [List.length_map, hm] at hT hcT1
  rw [List.length_map, hm]
  have hm12 : m ≤ 4 := by rw [← hm]; omega
  have hop12 : op.length ≤ 12 := hN.rank
  have HM := Lib.hid hm; have HN := Lib.hid hN; have HD3 := Lib.hid hN.dims3; clear hm hN hmost hJ hC
  have hTl : Hid ((ts.map (tenOf dimOf)).length = m) := Lib.hid (by rw [List.length_map]; exact HM.out)
  clear hH
  have hC := hCN; clear hCN
  have hH : Held wN wN [] := Held.new (Ext.refl _) 0
  have c_kr_0 := hH.ext.cell kr_0; have c_kr_1 := hH.ext.cell kr_1; have c_kr_2 := hH.ext.cell kr_2
  have c_kr_l := Nat.lt_of_lt_of_le kr_l hH.ext.size
  go_wp2_with fail
  clear c_kr_0 c_kr_1 c_kr_2 c_kr_l
  have hB : Held wN (wN.alloc (.cells #[.int .i64 k, .int .i64 p, .int .i64 n, .slice aV m cV, .slice aO op.length cO] 29)) [aB (wN.heap.size) 29 [.int .i64 k, .int .i64 p, .int .i64 n, .slice aV m cV, .slice aO op.length cO]] := by
    have h := (hH.mores 1).addB 0 #[.int .i64 k, .int .i64 p, .int .i64 n, .slice aV m cV, .slice aO op.length cO] 29
    exact h
  have hsz : (wN.alloc (.cells #[.int .i64 k, .int .i64 p, .int .i64 n, .slice aV m cV, .slice aO op.length cO] 29)).heap.size = wN.heap.size + 1 := by simp
  generalize wN.alloc (.cells #[.int .i64 k, .int .i64 p, .int .i64 n, .slice aV m cV, .slice aO op.length cO] 29) = wn3 at hB hsz ⊢
  replace hH := hB; have HSZwn3 := Lib.hid hsz; clear hB hsz
  have UU := Lib.hid HN.out.uni
  have SO := Lib.hid HN.out.sub
  obtain ⟨RX, hRX⟩ : ∃ q, netXs HR.out dimOf ts op = q := ⟨_, rfl⟩
  have HFIN := Lib.hid (fin_all HR.out HN.out)
  rw [hRX] at HFIN
  have HRX := Lib.hid hRX
  have HTK : Hid (∀ j, ∀ t ∈ ts.take j, IsT k p n dimOf U6 t.1 t.2) := Lib.hid fun j t ht => HN.out.ten t (List.mem_of_mem_take ht)
  clear hRX
  have hmm4 : m ≤ 4 := by omega
  obtain ⟨JT, hJT⟩ : ∃ f : Nat → NT k p n, (fun j => joinAllT HR.out dimOf (ts.take j)) = f := ⟨_, rfl⟩
  have HJ0 : Hid (JT 0 = ([], [(rig HR.out).one])) := Lib.hid (by rw [← hJT]; rfl)
  have HJS : Hid (∀ j t, ts[j]? = some t → JT (j + 1) = joinT HR.out dimOf (JT j) t) := Lib.hid fun j t ht => by
    rw [← hJT]
    show joinAllT HR.out dimOf (ts.take (j + 1)) = _
    rw [List.take_add_one, ht]
    exact joinAllT_snoc HR.out dimOf _ t
  have HJI : Hid (∀ j, IsT k p n dimOf U6 (JT j).1 (JT j).2) := Lib.hid fun j => by rw [← hJT]; exact (joinAllT_ok HR.out UU.out _ (HTK.out j)).1
  have HJE : Hid (JT m = joinAllT HR.out dimOf ts) := Lib.hid (by rw [← hJT]; show joinAllT HR.out dimOf (ts.take m) = _; rw [List.take_of_length_le (by rw [HM.out]; exact Nat.le_refl _)])
  clear hJT
  have q0_0 := hH.cl 0 0 rfl rfl; have q0_1 := hH.cl 0 1 rfl rfl; have q0_2 := hH.cl 0 2 rfl rfl; have q0_3 := hH.cl 0 3 rfl rfl; have q0_4 := hH.cl 0 4 rfl rfl; have l0_ := hH.bl 0 rfl; have c_kr_0 := hH.ext.cell kr_0; have c_kr_1 := hH.ext.cell kr_1; have c_kr_2 := hH.ext.cell kr_2
  have c_kr_l := Nat.lt_of_lt_of_le kr_l hH.ext.size
  go_wp2_with fail
  clear q0_0 q0_1 q0_2 q0_3 q0_4 l0_ c_kr_0 c_kr_1 c_kr_2 c_kr_l
  refine (oneOf_impl k p n _).mono ?_; rintro ewn4 wn4 ⟨v1, rfl, o1, hwn4⟩
  rw [oneOf_yes HR.out] at o1
  obtain ⟨q1, q2, rfl, _, _⟩ := o1.ints.val
  obtain ⟨qW, hqW⟩ : ∃ q, (oneL k p n).length = q := ⟨_, rfl⟩
  rw [hqW] at o1 ⊢
  clear hqW
  replace hH : Held wN wn4 [aB (wN.heap.size) 29 [.int .i64 k, .int .i64 p, .int .i64 n, .slice aV m cV, .slice aO op.length cO], aI (.slice q1 qW q2) (oneL k p n)] := (hH.mores 1).addI 1 hwn4 o1 (Nat.le_refl _)
  clear hwn4
  replace hH : Held wN wn4 [aB (wN.heap.size) 29 [.int .i64 k, .int .i64 p, .int .i64 n, .slice aV m cV, .slice aO op.length cO], aT (.agg #[.slice none 0 0, .slice none 0 0, .slice q1 qW q2]) [] [] (oneL k p n)] := hH.dataT (k := 1) rfl
  have q0_0 := hH.cl 0 0 rfl rfl; have q0_1 := hH.cl 0 1 rfl rfl; have q0_2 := hH.cl 0 2 rfl rfl; have q0_3 := hH.cl 0 3 rfl rfl; have q0_4 := hH.cl 0 4 rfl rfl; have l0_ := hH.bl 0 rfl; have c_kr_0 := hH.ext.cell kr_0; have c_kr_1 := hH.ext.cell kr_1; have c_kr_2 := hH.ext.cell kr_2
  have c_kr_l := Nat.lt_of_lt_of_le kr_l hH.ext.size
  go_upto_region 6 with fail
  clear q0_0 q0_1 q0_2 q0_3 q0_4 l0_ c_kr_0 c_kr_1 c_kr_2 c_kr_l
  have hB : Held wN (wn4.alloc (.cells #[.slice none 0 0, .slice none 0 0, .slice q1 qW q2] 32)) [aB (wN.heap.size) 29 [.int .i64 k, .int .i64 p, .int .i64 n, .slice aV m cV, .slice aO op.length cO], aT (.agg #[.slice none 0 0, .slice none 0 0, .slice q1 qW q2]) [] [] (oneL k p n), aB (wn4.heap.size) 32 [.slice none 0 0, .slice none 0 0, .slice q1 qW q2]] := by
    have h := (hH.mores 1).addB 2 #[.slice none 0 0, .slice none 0 0, .slice q1 qW q2] 32
    exact h
  have hsz : (wn4.alloc (.cells #[.slice none 0 0, .slice none 0 0, .slice q1 qW q2] 32)).heap.size = wn4.heap.size + 1 := by simp
  generalize wn4.alloc (.cells #[.slice none 0 0, .slice none 0 0, .slice q1 qW q2] 32) = wn5 at hB hsz ⊢
  replace hH := hB; have HSZwn5 := Lib.hid hsz; clear hB hsz
  have q0_0 := hH.cl 0 0 rfl rfl; have q0_1 := hH.cl 0 1 rfl rfl; have q0_2 := hH.cl 0 2 rfl rfl; have q0_3 := hH.cl 0 3 rfl rfl; have q0_4 := hH.cl 0 4 rfl rfl; have l0_ := hH.bl 0 rfl; have q2_0 := hH.cl 2 0 rfl rfl; have q2_1 := hH.cl 2 1 rfl rfl; have q2_2 := hH.cl 2 2 rfl rfl; have l2_ := hH.bl 2 rfl; have c_kr_0 := hH.ext.cell kr_0; have c_kr_1 := hH.ext.cell kr_1; have c_kr_2 := hH.ext.cell kr_2
  have c_kr_l := Nat.lt_of_lt_of_le kr_l hH.ext.size
  go_wp2_with fail
  clear q0_0 q0_1 q0_2 q0_3 q0_4 l0_ q2_0 q2_1 q2_2 l2_ c_kr_0 c_kr_1 c_kr_2 c_kr_l
  go_loopw [28] (fun i wr => ∃ (j : Nat) (s1 s2 s3 : Value), j ≤ m ∧ i = .int .i64 (j : Int) ∧ Held wN wr [aB (wN.heap.size) 29 [.int .i64 k, .int .i64 p, .int .i64 n, .slice aV m cV, .slice aO op.length cO], aT (.agg #[s1, s2, s3]) (JT j).1 ((JT j).1.map dimOf) (flat (JT j).2), aB (wn4.heap.size) 32 [s1, s2, s3]]) (fun i wr => m - (RowKit.intOf i).toNat)
  case atStart => exact ⟨0, _, _, _, Nat.zero_le _, rfl, by rw [HJ0.out]; show Held wN _ [_, aT _ [] [] (flat [(rig HR.out).one]), _]; rw [flat_one]; exact hH⟩
  case round =>
   clear hH
   obtain ⟨j, s1, s2, s3, hj, rfl, hH⟩ := hrel
   obtain ⟨wq, rfl⟩ : ∃ q, q = wr := ⟨wr, rfl⟩
   have HI0 := Lib.hid (HJI.out j)
   obtain ⟨⟨JL, JX⟩, hJJ⟩ : ∃ q, JT j = q := ⟨_, rfl⟩
   have HJJ := Lib.hid hJJ
   rw [hJJ] at hH HI0
   simp only at hH HI0
   have hjl12 : JL.length ≤ 12 := HI0.out.ax.rank
   obtain ⟨s1x, s1y, s1z, s2x, s2y, s2z, s3x, s3y, s3z, hss⟩ := (hH.tens (k := 1) rfl).shape
   simp at hss
   obtain ⟨rfl, rfl, rfl⟩ := hss
   clear hJJ
   replace hH : Held wN wq [aB (wN.heap.size) 29 [.int .i64 k, .int .i64 p, .int .i64 n, .slice aV m cV, .slice aO op.length cO], aT (.agg #[.slice s1x s1y s1z, .slice s2x s2y s2z, .slice s3x s3y s3z]) JL (JL.map dimOf) (flat JX), aB (wn4.heap.size) 32 [.slice s1x s1y s1z, .slice s2x s2y s2z, .slice s3x s3y s3z]] := hH
   by_cases hlt : j < m
   · skip
     obtain ⟨bT, oT, u1, u2, u3, t3, hV, hu0, hu1, hu2, ht3, hTu⟩ := hT.get (i := j) (by rw [hTl.out]; exact hlt)
     subst hV
     obtain ⟨t, htj, rfl⟩ : ∃ t, ts[j]? = some t ∧ tenOf dimOf t = t3 := by rw [List.getElem?_map] at ht3; exact Option.map_eq_some_iff.1 ht3
     have HTJ := Lib.hid htj; have HTI := Lib.hid (HN.out.ten t (List.mem_of_getElem? htj)); clear ht3 htj
     obtain ⟨tl, xs⟩ := t
     obtain ⟨e1, m1, f1, e2, m2, f2, e3, m3, f3, hvv⟩ := hTu.shape
     simp at hvv
     obtain ⟨rfl, rfl, rfl⟩ := hvv
     rw [Nat.mul_comm 3 j] at hu0 hu1 hu2
     obtain ⟨_, _, _, hvv, hTL, hTD, hTX⟩ := hTu.val
     simp at hvv
     obtain ⟨rfl, rfl, rfl⟩ := hvv
     simp only [tenOf] at hTu hTL hTD hTX HTI
     obtain ⟨_, _, hvv, _, _⟩ := hTL.val
     simp at hvv
     obtain ⟨rfl, rfl, rfl⟩ := hvv
     obtain ⟨_, _, hvv, _, _⟩ := hTD.val
     simp at hvv
     obtain ⟨rfl, rfl, rfl⟩ := hvv
     have htl12 : tl.length ≤ 12 := HTI.out.ax.rank
     have HJS1 := Lib.hid (HJS.out j _ HTJ.out)
     rw [HJJ.out] at HJS1
     have HKA : Hid (keepL (joinL JL tl) (JL ++ tl) = joinL JL tl ∧ contrXs HR.out dimOf JL tl (JL ++ tl) JX xs = contrXs HR.out dimOf JL tl (joinL JL tl) JX xs) := Lib.hid (by
       have h : ∀ x ∈ joinL JL tl, x ∈ JL ++ tl := fun x hx => List.mem_append.2 (mem_joinL.1 hx)
       exact ⟨keepL_all h, contrXs_all HR.out dimOf h JX xs⟩)
     obtain ⟨KJ, hKJ⟩ : ∃ q, JL ++ tl = q := ⟨_, rfl⟩
     rw [hKJ] at HKA
     have HKJ := Lib.hid hKJ; clear hKJ
     obtain ⟨⟨NL, NX⟩, hNN⟩ : ∃ q, JT (j + 1) = q := ⟨_, rfl⟩
     have HNN : Hid (joinL JL tl = NL ∧ contrXs HR.out dimOf JL tl (joinL JL tl) JX xs = NX) := Lib.hid (by
       have h := HJS1.out
       rw [hNN] at h
       unfold joinT at h
       simp only [Prod.mk.injEq] at h
       exact ⟨h.1.symm, h.2.symm⟩)
     have HNJ := Lib.hid hNN; clear hNN
     have q0_0 := hH.cl 0 0 rfl rfl; have q0_1 := hH.cl 0 1 rfl rfl; have q0_2 := hH.cl 0 2 rfl rfl; have q0_3 := hH.cl 0 3 rfl rfl; have q0_4 := hH.cl 0 4 rfl rfl; have l0_ := hH.bl 0 rfl; have q2_0 := hH.cl 2 0 rfl rfl; have q2_1 := hH.cl 2 1 rfl rfl; have q2_2 := hH.cl 2 2 rfl rfl; have l2_ := hH.bl 2 rfl; have c_kr_0 := hH.ext.cell kr_0; have c_kr_1 := hH.ext.cell kr_1; have c_kr_2 := hH.ext.cell kr_2; have c_hu0 := hH.ext.cell hu0; have c_hu1 := hH.ext.cell hu1; have c_hu2 := hH.ext.cell hu2
     have c_kr_l := Nat.lt_of_lt_of_le kr_l hH.ext.size
     go_upto_region 9 with fail
     clear q0_0 q0_1 q0_2 q0_3 q0_4 l0_ q2_0 q2_1 q2_2 l2_ c_kr_0 c_kr_1 c_kr_2 c_hu0 c_hu1 c_hu2 c_kr_l
     have hB : Held wN (wq.alloc (.cells #[.slice e1 tl.length f1, .slice e2 tl.length f2, .slice e3 m3 f3] 32)) [aB (wN.heap.size) 29 [.int .i64 k, .int .i64 p, .int .i64 n, .slice (some ⟨bT, oT, none⟩) m cV, .slice aO op.length cO], aT (.agg #[.slice s1x s1y s1z, .slice s2x s2y s2z, .slice s3x s3y s3z]) JL (JL.map dimOf) (flat JX), aB (wn4.heap.size) 32 [.slice s1x s1y s1z, .slice s2x s2y s2z, .slice s3x s3y s3z], aB (wq.heap.size) 32 [.slice e1 tl.length f1, .slice e2 tl.length f2, .slice e3 m3 f3]] := by
       have h := (hH.mores 1).addB 3 #[.slice e1 tl.length f1, .slice e2 tl.length f2, .slice e3 m3 f3] 32
       exact h
     have hsz : (wq.alloc (.cells #[.slice e1 tl.length f1, .slice e2 tl.length f2, .slice e3 m3 f3] 32)).heap.size = wq.heap.size + 1 := by simp
     generalize wq.alloc (.cells #[.slice e1 tl.length f1, .slice e2 tl.length f2, .slice e3 m3 f3] 32) = wn6 at hB hsz ⊢
     replace hH := hB; have HSZwn6 := Lib.hid hsz; clear hB hsz
     obtain ⟨wz, rfl⟩ : ∃ q, q = wn6 := ⟨wn6, rfl⟩
     replace hH := hH.mores 3
     replace hH : Held wN wz [aB (wN.heap.size) 29 [.int .i64 k, .int .i64 p, .int .i64 n, .slice (some ⟨bT, oT, none⟩) m cV, .slice aO op.length cO], aT (.agg #[.slice s1x s1y s1z, .slice s2x s2y s2z, .slice s3x s3y s3z]) JL (JL.map dimOf) (flat JX), aB (wn4.heap.size) 32 [.slice s1x s1y s1z, .slice s2x s2y s2z, .slice s3x s3y s3z], aB (wq.heap.size) 32 [.slice e1 tl.length f1, .slice e2 tl.length f2, .slice e3 m3 f3], emp, emp, emp] := hH
     refine wp_region_steps ?Fb (fun b t wx => Held wN wx [aB (wN.heap.size) 29 [.int .i64 k, .int .i64 p, .int .i64 n, .slice (some ⟨bT, oT, none⟩) m cV, .slice aO op.length cO], aT (.agg #[.slice s1x s1y s1z, .slice s2x s2y s2z, .slice s3x s3y s3z]) JL (JL.map dimOf) (flat JX), aB (wn4.heap.size) 32 [.slice s1x s1y s1z, .slice s2x s2y s2z, .slice s3x s3y s3z], aB (wq.heap.size) 32 [.slice e1 tl.length f1, .slice e2 tl.length f2, .slice e3 m3 f3], (bif b 7 then aI (t 7) KJ else emp), (bif b 8 then aT (tup0 (t 8)) NL (NL.map dimOf) (flat NX) else emp), (bif b 13 then aB (blkOf (t 12)) 32 (partsOf (t 10)) else (bif b 12 then aB (blkOf (t 12)) 32 [.slice none 0 0, .slice none 0 0, .slice none 0 0] else emp))] ∧ (b 0 = true → t 0 = .agg #[.int .i64 k, .int .i64 p, .int .i64 n]) ∧ (b 1 = true → t 1 = .agg #[.slice s1x s1y s1z, .slice s2x s2y s2z, .slice s3x s3y s3z]) ∧ (b 2 = true → t 2 = .agg #[.slice e1 tl.length f1, .slice e2 tl.length f2, .slice e3 m3 f3]) ∧ (b 3 = true → t 3 = .pointer (some ⟨wn4.heap.size, 0, none⟩)) ∧ (b 4 = true → t 4 = .slice s1x s1y s1z) ∧ (b 5 = true → t 5 = .pointer (some ⟨wq.heap.size, 0, none⟩)) ∧ (b 6 = true → t 6 = .slice e1 tl.length f1) ∧ (b 7 = true → ∃ x c, t 7 = .slice x KJ.length c) ∧ (b 8 = true → ∃ p1 n1 c1 p2 n2 c2 p3 n3 c3, t 8 = .tuple #[.agg #[.slice p1 n1 c1, .slice p2 n2 c2, .slice p3 n3 c3], .bool true]) ∧ (b 9 = true → t 9 = t 8) ∧ (b 10 = true → t 10 = tup0 (t 8)) ∧ (b 11 = true → t 11 = .bool true) ∧ (b 12 = true → ∃ q, t 12 = .pointer (some ⟨q, 0, none⟩)) ∧ (b 14 = true → t 14 = .bool true)) ?hFb (by kernel_rfl) (by kernel_rfl) ?hJb ?hSb ?hEb
     (case hFb => intro t; simp only [putAll, Act.put, List.setIfInBounds_toArray, List.set_cons_zero, List.set_cons_succ, Nat.reduceAdd, Nat.zero_add]; exact rfl)
     case hJb => exact ⟨hH.grow ((Ext.refl _).drew), fun h => absurd h Bool.false_ne_true, fun h => absurd h Bool.false_ne_true, fun h => absurd h Bool.false_ne_true, fun h => absurd h Bool.false_ne_true, fun h => absurd h Bool.false_ne_true, fun h => absurd h Bool.false_ne_true, fun h => absurd h Bool.false_ne_true, fun h => absurd h Bool.false_ne_true, fun h => absurd h Bool.false_ne_true, fun h => absurd h Bool.false_ne_true, fun h => absurd h Bool.false_ne_true, fun h => absurd h Bool.false_ne_true, fun h => absurd h Bool.false_ne_true, fun h => absurd h Bool.false_ne_true⟩
     case hSb => as_aux_lemma =>
      refine AllSteps.cons (j := 1) rfl (fun b t wx hJ hb hd hcl Kc hK => ?_) ?_
      · obtain ⟨hH, v0, v1, v2, v3, v4, v5, v6, v7, v8, v9, v10, v11, v12, v14⟩ := hJ
        have c_kr_0 := hH.ext.cell kr_0; have c_kr_1 := hH.ext.cell kr_1; have c_kr_2 := hH.ext.cell kr_2; have c_hu0 := hH.ext.cell hu0; have c_hu1 := hH.ext.cell hu1; have c_hu2 := hH.ext.cell hu2
        go_simp
        refine hK.out _ ?_ _ ?_ ?_; rotate_left 2
        · rfl
        exact ⟨hH, fun _ => rfl, v1, v2, v3, v4, v5, v6, v7, v8, v9, v10, v11, v12, v14⟩
      refine AllSteps.cons (j := 2) rfl (fun b t wx hJ hb hd hcl Kc hK => ?_) ?_
      · obtain ⟨hH, v0, v1, v2, v3, v4, v5, v6, v7, v8, v9, v10, v11, v12, v14⟩ := hJ
        have c_kr_0 := hH.ext.cell kr_0; have c_kr_1 := hH.ext.cell kr_1; have c_kr_2 := hH.ext.cell kr_2; have c_hu0 := hH.ext.cell hu0; have c_hu1 := hH.ext.cell hu1; have c_hu2 := hH.ext.cell hu2; have q2_0 := hH.cl 2 0 rfl rfl; have q2_1 := hH.cl 2 1 rfl rfl; have q2_2 := hH.cl 2 2 rfl rfl
        go_simp
        refine hK.out _ ?_ _ ?_ ?_; rotate_left 2
        · rfl
        exact ⟨hH, v0, fun _ => rfl, v2, v3, v4, v5, v6, v7, v8, v9, v10, v11, v12, v14⟩
      refine AllSteps.cons (j := 3) rfl (fun b t wx hJ hb hd hcl Kc hK => ?_) ?_
      · obtain ⟨hH, v0, v1, v2, v3, v4, v5, v6, v7, v8, v9, v10, v11, v12, v14⟩ := hJ
        have c_kr_0 := hH.ext.cell kr_0; have c_kr_1 := hH.ext.cell kr_1; have c_kr_2 := hH.ext.cell kr_2; have c_hu0 := hH.ext.cell hu0; have c_hu1 := hH.ext.cell hu1; have c_hu2 := hH.ext.cell hu2; have q3_0 := hH.cl 3 0 rfl rfl; have q3_1 := hH.cl 3 1 rfl rfl; have q3_2 := hH.cl 3 2 rfl rfl
        go_simp
        refine hK.out _ ?_ _ ?_ ?_; rotate_left 2
        · rfl
        exact ⟨hH, v0, v1, fun _ => rfl, v3, v4, v5, v6, v7, v8, v9, v10, v11, v12, v14⟩
      refine AllSteps.cons (j := 4) rfl (fun b t wx hJ hb hd hcl Kc hK => ?_) ?_
      · obtain ⟨hH, v0, v1, v2, v3, v4, v5, v6, v7, v8, v9, v10, v11, v12, v14⟩ := hJ
        have c_kr_0 := hH.ext.cell kr_0; have c_kr_1 := hH.ext.cell kr_1; have c_kr_2 := hH.ext.cell kr_2; have c_hu0 := hH.ext.cell hu0; have c_hu1 := hH.ext.cell hu1; have c_hu2 := hH.ext.cell hu2
        go_simp
        refine hK.out _ ?_ _ ?_ ?_; rotate_left 2
        · rfl
        exact ⟨hH, v0, v1, v2, fun _ => rfl, v4, v5, v6, v7, v8, v9, v10, v11, v12, v14⟩
      refine AllSteps.cons (j := 5) rfl (fun b t wx hJ hb hd hcl Kc hK => ?_) ?_
      · obtain ⟨hH, v0, v1, v2, v3, v4, v5, v6, v7, v8, v9, v10, v11, v12, v14⟩ := hJ
        have d3 := hd.out 3 (by kernel_rfl); have r3 := v3 d3; have c_kr_0 := hH.ext.cell kr_0; have c_kr_1 := hH.ext.cell kr_1; have c_kr_2 := hH.ext.cell kr_2; have c_hu0 := hH.ext.cell hu0; have c_hu1 := hH.ext.cell hu1; have c_hu2 := hH.ext.cell hu2; have q2_0 := hH.cl 2 0 rfl rfl
        go_simp
        refine hK.out _ ?_ _ ?_ ?_; rotate_left 2
        · (try simp only [r3]); rfl
        exact ⟨hH, v0, v1, v2, v3, fun _ => rfl, v5, v6, v7, v8, v9, v10, v11, v12, v14⟩
      refine AllSteps.cons (j := 6) rfl (fun b t wx hJ hb hd hcl Kc hK => ?_) ?_
      · obtain ⟨hH, v0, v1, v2, v3, v4, v5, v6, v7, v8, v9, v10, v11, v12, v14⟩ := hJ
        have c_kr_0 := hH.ext.cell kr_0; have c_kr_1 := hH.ext.cell kr_1; have c_kr_2 := hH.ext.cell kr_2; have c_hu0 := hH.ext.cell hu0; have c_hu1 := hH.ext.cell hu1; have c_hu2 := hH.ext.cell hu2
        go_simp
        refine hK.out _ ?_ _ ?_ ?_; rotate_left 2
        · rfl
        exact ⟨hH, v0, v1, v2, v3, v4, fun _ => rfl, v6, v7, v8, v9, v10, v11, v12, v14⟩
      refine AllSteps.cons (j := 7) rfl (fun b t wx hJ hb hd hcl Kc hK => ?_) ?_
      · obtain ⟨hH, v0, v1, v2, v3, v4, v5, v6, v7, v8, v9, v10, v11, v12, v14⟩ := hJ
        have d5 := hd.out 5 (by kernel_rfl); have r5 := v5 d5; have c_kr_0 := hH.ext.cell kr_0; have c_kr_1 := hH.ext.cell kr_1; have c_kr_2 := hH.ext.cell kr_2; have c_hu0 := hH.ext.cell hu0; have c_hu1 := hH.ext.cell hu1; have c_hu2 := hH.ext.cell hu2; have q3_0 := hH.cl 3 0 rfl rfl
        go_simp
        refine hK.out _ ?_ _ ?_ ?_; rotate_left 2
        · (try simp only [r5]); rfl
        exact ⟨hH, v0, v1, v2, v3, v4, v5, fun _ => rfl, v7, v8, v9, v10, v11, v12, v14⟩
      refine AllSteps.cons (j := 8) rfl (fun b t wx hJ hb hd hcl Kc hK => ?_) ?_
      · obtain ⟨hH, v0, v1, v2, v3, v4, v5, v6, v7, v8, v9, v10, v11, v12, v14⟩ := hJ
        have d4 := hd.out 4 (by kernel_rfl); have d6 := hd.out 6 (by kernel_rfl); have r4 := v4 d4; have r6 := v6 d6
        have hN := hH; (try simp only [hb, d4, d6, cond_true, cond_false] at hN)
        go_simp
        go_at_call 65
        refine (lawsJoin_any _ _ JL tl _ (hH.parts (k := 1) rfl).1.ints (hTL.ext hH.ext) (by omega) (by omega)).mono ?_; rintro e7 w7 ⟨v7, rfl, o7, h7⟩
        rw [HKJ.out] at o7
        obtain ⟨x7, c7, rfl⟩ := o7.shape1 KJ.length rfl
        (try go_simp)
        refine hK.out _ ?_ _ ?_ ?_; rotate_left 2
        · (try simp only [r4, r6]); rfl
        exact ⟨by have hX := hN.addI 4 h7 o7 (Nat.le_refl _); simpa only [List.set_cons_zero, List.set_cons_succ, updB, updV, blkOf_mk, tup0_mk, partsOf3, Nat.reduceBEq, cond_true, cond_false, hb, d4, d6, r4, r6] using hX, v0, v1, v2, v3, v4, v5, v6, fun _ => ⟨_, _, rfl⟩, v8, v9, v10, v11, v12, v14⟩
      refine AllSteps.cons (j := 9) rfl (fun b t wx hJ hb hd hcl Kc hK => ?_) ?_
      · obtain ⟨hH, v0, v1, v2, v3, v4, v5, v6, v7, v8, v9, v10, v11, v12, v14⟩ := hJ
        have d0 := hd.out 0 (by kernel_rfl); have d1 := hd.out 1 (by kernel_rfl); have d2 := hd.out 2 (by kernel_rfl); have d7 := hd.out 7 (by kernel_rfl)
        have n9 : b 9 = false := Bool.eq_false_iff.2 fun h => absurd (hcl.out 9 8 (by kernel_rfl) (h)) (by rw [hb]; exact Bool.false_ne_true)
        have n10 : b 10 = false := Bool.eq_false_iff.2 fun h => absurd (hcl.out 9 8 (by kernel_rfl) (hcl.out 10 9 (by kernel_rfl) (h))) (by rw [hb]; exact Bool.false_ne_true)
        have r0 := v0 d0; have r1 := v1 d1; have r2 := v2 d2; have r7 := v7 d7
        obtain ⟨x_7, c_7, r7⟩ := r7
        have hN := hH; (try simp only [hb, d0, d1, d2, d7, n9, n10, cond_true, cond_false] at hN)
        go_simp
        go_at_call 47
        refine (contractPair_any HR.out HI0.out HTI.out KJ _ _ _ _ (hH.tens (k := 1) rfl) (hTu.ext hH.ext) (by have h := hN.ints (k := 4) rfl; rw [r7] at h; exact h)).mono ?_; rintro e8 w8 ⟨vc, rfl, oc, hc⟩
        rw [HKA.out.1, HKA.out.2, HNN.out.2, HNN.out.1] at oc
        obtain ⟨pa1, na1, ca1, pa2, na2, ca2, pa3, na3, ca3, rfl⟩ := oc.shape
        (try go_simp)
        refine hK.out _ ?_ _ ?_ ?_; rotate_left 2
        · (try simp only [r0, r1, r2, r7]); rfl
        exact ⟨by have hX := hN.addT 5 hc oc (Nat.le_refl _); simpa only [List.set_cons_zero, List.set_cons_succ, updB, updV, blkOf_mk, tup0_mk, partsOf3, Nat.reduceBEq, cond_true, cond_false, hb, d0, d1, d2, d7, n9, n10, r0, r1, r2, r7] using hX, v0, v1, v2, v3, v4, v5, v6, v7, fun _ => ⟨_, _, _, _, _, _, _, _, _, rfl⟩, fun h => absurd (show b 9 = true from h) (by rw [n9]; exact Bool.false_ne_true), fun h => absurd (show b 10 = true from h) (by rw [n10]; exact Bool.false_ne_true), v11, v12, v14⟩
      refine AllSteps.cons (j := 10) rfl (fun b t wx hJ hb hd hcl Kc hK => ?_) ?_
      · obtain ⟨hH, v0, v1, v2, v3, v4, v5, v6, v7, v8, v9, v10, v11, v12, v14⟩ := hJ
        have d8 := hd.out 8 (by kernel_rfl); have r8 := v8 d8
        obtain ⟨p1_8, n1_8, c1_8, p2_8, n2_8, c2_8, p3_8, n3_8, c3_8, r8⟩ := r8
        have c_kr_0 := hH.ext.cell kr_0; have c_kr_1 := hH.ext.cell kr_1; have c_kr_2 := hH.ext.cell kr_2; have c_hu0 := hH.ext.cell hu0; have c_hu1 := hH.ext.cell hu1; have c_hu2 := hH.ext.cell hu2
        go_simp
        refine hK.out _ ?_ _ ?_ ?_; rotate_left 2
        · (try simp only [r8]); rfl
        exact ⟨hH, v0, v1, v2, v3, v4, v5, v6, v7, v8, fun _ => (by first | rfl | exact r8.symm), v10, v11, v12, v14⟩
      refine AllSteps.cons (j := 11) rfl (fun b t wx hJ hb hd hcl Kc hK => ?_) ?_
      · obtain ⟨hH, v0, v1, v2, v3, v4, v5, v6, v7, v8, v9, v10, v11, v12, v14⟩ := hJ
        have d8 := hcl.out 9 8 (by kernel_rfl) (hd.out 9 (by kernel_rfl)); have d9 := hd.out 9 (by kernel_rfl)
        have n13 : b 13 = false := Bool.eq_false_iff.2 fun h => absurd (hcl.out 13 10 (by kernel_rfl) (h)) (by rw [hb]; exact Bool.false_ne_true)
        have r8 := v8 d8; have r9 := v9 d9
        obtain ⟨p1_8, n1_8, c1_8, p2_8, n2_8, c2_8, p3_8, n3_8, c3_8, r8⟩ := r8
        have hN := hH; (try simp only [hb, d8, d9, n13, cond_true, cond_false] at hN)
        have e8 := r8 -- d8
        go_simp
        refine hK.out _ ?_ _ ?_ ?_; rotate_left 2
        · (try simp only [r8, r9]); rfl
        exact ⟨by have hX := hN; simpa only [List.set_cons_zero, List.set_cons_succ, updB, updV, blkOf_mk, tup0_mk, partsOf3, Nat.reduceBEq, cond_true, cond_false, hb, d8, d9, n13, r8, r9] using hX, v0, v1, v2, v3, v4, v5, v6, v7, v8, v9, fun _ => (by show _ = tup0 (t 8); rw [r8]; rfl), v11, v12, v14⟩
      refine AllSteps.cons (j := 12) rfl (fun b t wx hJ hb hd hcl Kc hK => ?_) ?_
      · obtain ⟨hH, v0, v1, v2, v3, v4, v5, v6, v7, v8, v9, v10, v11, v12, v14⟩ := hJ
        have d8 := hcl.out 9 8 (by kernel_rfl) (hd.out 9 (by kernel_rfl)); have d9 := hd.out 9 (by kernel_rfl); have r8 := v8 d8; have r9 := v9 d9
        obtain ⟨p1_8, n1_8, c1_8, p2_8, n2_8, c2_8, p3_8, n3_8, c3_8, r8⟩ := r8
        have e8 := r8 -- d8
        go_simp
        refine hK.out _ ?_ _ ?_ ?_; rotate_left 2
        · (try simp only [r8, r9]); rfl
        exact ⟨hH, v0, v1, v2, v3, v4, v5, v6, v7, v8, v9, v10, fun _ => rfl, v12, v14⟩
      refine AllSteps.cons (j := 13) rfl (fun b t wx hJ hb hd hcl Kc hK => ?_) ?_
      · obtain ⟨hH, v0, v1, v2, v3, v4, v5, v6, v7, v8, v9, v10, v11, v12, v14⟩ := hJ
        have n13 : b 13 = false := Bool.eq_false_iff.2 fun h => absurd (hcl.out 13 12 (by kernel_rfl) (h)) (by rw [hb]; exact Bool.false_ne_true)
        have hN := hH; (try simp only [hb, n13, cond_true, cond_false] at hN)
        go_simp
        refine hK.out _ ?_ _ ?_ ?_; rotate_left 2
        · rfl
        exact ⟨by have hX := hN.addB 6 #[.slice none 0 0, .slice none 0 0, .slice none 0 0] 32; simpa only [List.set_cons_zero, List.set_cons_succ, updB, updV, blkOf_mk, tup0_mk, partsOf3, Nat.reduceBEq, cond_true, cond_false, hb, n13] using hX, v0, v1, v2, v3, v4, v5, v6, v7, v8, v9, v10, v11, fun _ => ⟨_, rfl⟩, v14⟩
      refine AllSteps.cons (j := 14) rfl (fun b t wx hJ hb hd hcl Kc hK => ?_) ?_
      · obtain ⟨hH, v0, v1, v2, v3, v4, v5, v6, v7, v8, v9, v10, v11, v12, v14⟩ := hJ
        have d0 := hd.out 0 (by kernel_rfl); have d1 := hd.out 1 (by kernel_rfl); have d2 := hd.out 2 (by kernel_rfl); have d3 := hd.out 3 (by kernel_rfl); have d4 := hd.out 4 (by kernel_rfl); have d5 := hd.out 5 (by kernel_rfl); have d6 := hd.out 6 (by kernel_rfl); have d7 := hd.out 7 (by kernel_rfl); have d8 := hd.out 8 (by kernel_rfl); have d9 := hd.out 9 (by kernel_rfl); have d10 := hd.out 10 (by kernel_rfl); have d12 := hd.out 12 (by kernel_rfl); have r0 := v0 d0; have r1 := v1 d1; have r2 := v2 d2; have r3 := v3 d3; have r4 := v4 d4; have r5 := v5 d5; have r6 := v6 d6; have r7 := v7 d7; have r8 := v8 d8; have r9 := v9 d9; have r10 := v10 d10; have r12 := v12 d12
        obtain ⟨x_7, c_7, r7⟩ := r7
        obtain ⟨p1_8, n1_8, c1_8, p2_8, n2_8, c2_8, p3_8, n3_8, c3_8, r8⟩ := r8
        obtain ⟨q_12, r12⟩ := r12
        have hN := hH; (try simp only [hb, d0, d1, d2, d3, d4, d5, d6, d7, d8, d9, d10, d12, cond_true, cond_false] at hN)
        rw [r8, tup0_mk] at r10 -- d8
        simp only [r12, r10, blkOf_mk, tup0_mk, partsOf3] at hN
        have B := hN.blk (k := 6) rfl
        have f0 := B.free 0; have z0 := B.cell (j := 0) rfl
        have f1 := B.free 1; have z1 := B.cell (j := 1) rfl
        have f2 := B.free 2; have z2 := B.cell (j := 2) rfl
        have lB := B.lt; have hmk0 := @tup0_mk
        go_simp
        refine hK.out _ undef _ ?_ ?_; rotate_left 1
        · (try simp only [r0, r1, r2, r3, r4, r5, r6, r7, r8, r9, r10, r12]); rfl
        exact ⟨by have hX := hN.setB3' (k := 6) rfl (.slice p1_8 n1_8 c1_8) (.slice p2_8 n2_8 c2_8) (.slice p3_8 n3_8 c3_8); simpa only [List.set_cons_zero, List.set_cons_succ, updB, updV, blkOf_mk, tup0_mk, partsOf3, Nat.reduceBEq, cond_true, cond_false, hb, d0, d1, d2, d3, d4, d5, d6, d7, d8, d9, d10, d12, r0, r1, r2, r3, r4, r5, r6, r7, r8, r9, r10, r12] using hX, v0, v1, v2, v3, v4, v5, v6, v7, v8, v9, v10, v11, v12, v14⟩
      refine AllSteps.cons (j := 15) rfl (fun b t wx hJ hb hd hcl Kc hK => ?_) ?_
      · obtain ⟨hH, v0, v1, v2, v3, v4, v5, v6, v7, v8, v9, v10, v11, v12, v14⟩ := hJ
        have d0 := hd.out 0 (by kernel_rfl); have d1 := hd.out 1 (by kernel_rfl); have d2 := hd.out 2 (by kernel_rfl); have d3 := hd.out 3 (by kernel_rfl); have d4 := hd.out 4 (by kernel_rfl); have d5 := hd.out 5 (by kernel_rfl); have d6 := hd.out 6 (by kernel_rfl); have d7 := hd.out 7 (by kernel_rfl); have d8 := hd.out 8 (by kernel_rfl); have d9 := hd.out 9 (by kernel_rfl); have d10 := hd.out 10 (by kernel_rfl); have d11 := hd.out 11 (by kernel_rfl); have d12 := hd.out 12 (by kernel_rfl); have d13 := hd.out 13 (by kernel_rfl); have r0 := v0 d0; have r1 := v1 d1; have r2 := v2 d2; have r3 := v3 d3; have r4 := v4 d4; have r5 := v5 d5; have r6 := v6 d6; have r7 := v7 d7; have r8 := v8 d8; have r9 := v9 d9; have r10 := v10 d10; have r11 := v11 d11; have r12 := v12 d12
        obtain ⟨x_7, c_7, r7⟩ := r7
        obtain ⟨p1_8, n1_8, c1_8, p2_8, n2_8, c2_8, p3_8, n3_8, c3_8, r8⟩ := r8
        obtain ⟨q_12, r12⟩ := r12
        have c_kr_0 := hH.ext.cell kr_0; have c_kr_1 := hH.ext.cell kr_1; have c_kr_2 := hH.ext.cell kr_2; have c_hu0 := hH.ext.cell hu0; have c_hu1 := hH.ext.cell hu1; have c_hu2 := hH.ext.cell hu2
        go_simp
        refine hK.out _ ?_ _ ?_ ?_; rotate_left 2
        · (try simp only [r0, r1, r2, r3, r4, r5, r6, r7, r8, r9, r10, r11, r12]); rfl
        exact ⟨hH, v0, v1, v2, v3, v4, v5, v6, v7, v8, v9, v10, v11, v12, fun _ => rfl⟩
      exact AllSteps.nil
     case hEb =>
      intro b t wb hJ hall
      obtain ⟨hHb, v0, v1, v2, v3, v4, v5, v6, v7, v8, v9, v10, v11, v12, v14⟩ := hJ
      have a0 := hall 0 (by decide); have a1 := hall 1 (by decide); have a2 := hall 2 (by decide); have a3 := hall 3 (by decide); have a4 := hall 4 (by decide); have a5 := hall 5 (by decide); have a6 := hall 6 (by decide); have a7 := hall 7 (by decide); have a8 := hall 8 (by decide); have a9 := hall 9 (by decide); have a10 := hall 10 (by decide); have a11 := hall 11 (by decide); have a12 := hall 12 (by decide); have a13 := hall 13 (by decide); have a14 := hall 14 (by decide)
      (try simp only [a0, a1, a2, a3, a4, a5, a6, a7, a8, a9, a10, a11, a12, a13, a14, cond_true] at hHb)
      replace v0 := v0 a0; replace v1 := v1 a1; replace v2 := v2 a2; replace v3 := v3 a3; replace v4 := v4 a4; replace v5 := v5 a5; replace v6 := v6 a6; replace v7 := v7 a7; replace v8 := v8 a8; replace v9 := v9 a9; replace v10 := v10 a10; replace v11 := v11 a11; replace v12 := v12 a12; replace v14 := v14 a14
      clear hall a0 a1 a2 a3 a4 a5 a6 a7 a8 a9 a10 a11 a12 a13 a14
      generalize t 14 = x14 at hHb v14 ⊢; generalize t 12 = x12 at hHb v12 ⊢; generalize t 11 = x11 at hHb v11 ⊢; generalize t 10 = x10 at hHb v10 ⊢; generalize t 9 = x9 at hHb v9 ⊢; generalize t 8 = x8 at hHb v8 v9 v10 ⊢; generalize t 7 = x7 at hHb v7 ⊢; generalize t 6 = x6 at hHb v6 ⊢; generalize t 5 = x5 at hHb v5 ⊢; generalize t 4 = x4 at hHb v4 ⊢; generalize t 3 = x3 at hHb v3 ⊢; generalize t 2 = x2 at hHb v2 ⊢; generalize t 1 = x1 at hHb v1 ⊢; generalize t 0 = x0 at hHb v0 ⊢; subst v0; subst v1; subst v2; subst v3; subst v4; subst v5; subst v6
      obtain ⟨xb7, cb7, rfl⟩ := v7
      obtain ⟨p1b8, n1b8, c1b8, p2b8, n2b8, c2b8, p3b8, n3b8, c3b8, rfl⟩ := v8
      subst v9; subst v10; subst v11
      obtain ⟨qb12, rfl⟩ := v12
      subst v14
      simp only [blkOf_mk, tup0_mk, partsOf3] at hHb
      clear b
      replace hH := hHb; clear hHb
      replace hH : Held wN wb [aB (wN.heap.size) 29 [.int .i64 k, .int .i64 p, .int .i64 n, .slice (some ⟨bT, oT, none⟩) m cV, .slice aO op.length cO], aT (.agg #[.slice s1x s1y s1z, .slice s2x s2y s2z, .slice s3x s3y s3z]) JL (JL.map dimOf) (flat JX), aB (wn4.heap.size) 32 [.slice s1x s1y s1z, .slice s2x s2y s2z, .slice s3x s3y s3z], aB (wq.heap.size) 32 [.slice e1 tl.length f1, .slice e2 tl.length f2, .slice e3 m3 f3], aI (.slice xb7 KJ.length cb7) KJ, aT (.agg #[.slice p1b8 n1b8 c1b8, .slice p2b8 n2b8 c2b8, .slice p3b8 n3b8 c3b8]) NL (NL.map dimOf) (flat NX), aB qb12 32 [.slice p1b8 n1b8 c1b8, .slice p2b8 n2b8 c2b8, .slice p3b8 n3b8 c3b8]] := hH
      have q0_0 := hH.cl 0 0 rfl rfl; have q0_1 := hH.cl 0 1 rfl rfl; have q0_2 := hH.cl 0 2 rfl rfl; have q0_3 := hH.cl 0 3 rfl rfl; have q0_4 := hH.cl 0 4 rfl rfl; have l0_ := hH.bl 0 rfl; have q2_0 := hH.cl 2 0 rfl rfl; have f2_0 := hH.fr 2 0 rfl; have q2_1 := hH.cl 2 1 rfl rfl; have f2_1 := hH.fr 2 1 rfl; have q2_2 := hH.cl 2 2 rfl rfl; have f2_2 := hH.fr 2 2 rfl; have l2_ := hH.bl 2 rfl; have q3_0 := hH.cl 3 0 rfl rfl; have q3_1 := hH.cl 3 1 rfl rfl; have q3_2 := hH.cl 3 2 rfl rfl; have l3_ := hH.bl 3 rfl; have q6_0 := hH.cl 6 0 rfl rfl; have q6_1 := hH.cl 6 1 rfl rfl; have q6_2 := hH.cl 6 2 rfl rfl; have l6_ := hH.bl 6 rfl; have c_kr_0 := hH.ext.cell kr_0; have c_kr_1 := hH.ext.cell kr_1; have c_kr_2 := hH.ext.cell kr_2; have c_hu0 := hH.ext.cell hu0; have c_hu1 := hH.ext.cell hu1; have c_hu2 := hH.ext.cell hu2
      have c_kr_l := Nat.lt_of_lt_of_le kr_l hH.ext.size
      go_wp2_with fail
      have hHs := hH.setB3' (k := 2) rfl (.slice p1b8 n1b8 c1b8) (.slice p2b8 n2b8 c2b8) (.slice p3b8 n3b8 c3b8)
      go_roundw
      case rel => exact ⟨j + 1, _, _, _, by omega, by go_num, by rw [HNJ.out]; exact (hHs.moveTo 1 5 rfl (by decide)).sub (.cons_cons _ (.cons_cons _ (.cons_cons _ (.cons _ (.cons _ (.cons _ (.cons _ .slnil)))))))⟩
      case measure => simp [RowKit.intOf]; omega
   · skip
     have hje : m = j := by omega
     subst hje
     have HFX : Hid (finXs HR.out dimOf JL op JX = RX) := Lib.hid (by have h := HFIN.out; rw [← HJE.out, HJJ.out] at h; exact h)
     have HSUB : Hid (∀ x ∈ op, x ∈ JL) := Lib.hid fun x hx => by
       have h := joinAllT_lab HR.out UU.out HN.out.ten (HN.out.occ x hx)
       rw [← HJE.out, HJJ.out] at h; exact h
     have q0_0 := hH.cl 0 0 rfl rfl; have q0_1 := hH.cl 0 1 rfl rfl; have q0_2 := hH.cl 0 2 rfl rfl; have q0_3 := hH.cl 0 3 rfl rfl; have q0_4 := hH.cl 0 4 rfl rfl; have l0_ := hH.bl 0 rfl; have q2_0 := hH.cl 2 0 rfl rfl; have q2_1 := hH.cl 2 1 rfl rfl; have q2_2 := hH.cl 2 2 rfl rfl; have l2_ := hH.bl 2 rfl; have c_kr_0 := hH.ext.cell kr_0; have c_kr_1 := hH.ext.cell kr_1; have c_kr_2 := hH.ext.cell kr_2
     have c_kr_l := Nat.lt_of_lt_of_le kr_l hH.ext.size
     go_wp2_with fail
     clear q0_0 q0_1 q0_2 q0_3 q0_4 l0_ q2_0 q2_1 q2_2 l2_ c_kr_0 c_kr_1 c_kr_2 c_kr_l
     refine (finishTensor_any HR.out HN.out _ _ _ (hT0.ext hH.ext) (hO.ext hH.ext) HI0.out HSUB.out _ (hH.tens (k := 1) rfl)).mono ?_; rintro ewn7 wn7 ⟨vc, rfl, oc, hwn7⟩
     rw [HFX.out] at oc
     obtain ⟨ap1, an1, ac1, ap2, an2, ac2, ap3, an3, ac3, rfl⟩ := oc.shape
     replace hH : Held wN wn7 [aB (wN.heap.size) 29 [.int .i64 k, .int .i64 p, .int .i64 n, .slice aV m cV, .slice aO op.length cO], aT (.agg #[.slice s1x s1y s1z, .slice s2x s2y s2z, .slice s3x s3y s3z]) JL (JL.map dimOf) (flat JX), aB (wn4.heap.size) 32 [.slice s1x s1y s1z, .slice s2x s2y s2z, .slice s3x s3y s3z], aT (.agg #[.slice ap1 an1 ac1, .slice ap2 an2 ac2, .slice ap3 an3 ac3]) op (op.map dimOf) (flat RX)] := (hH.mores 1).addT 3 hwn7 oc (Nat.le_refl _)
     clear hwn7
     have q0_0 := hH.cl 0 0 rfl rfl; have q0_1 := hH.cl 0 1 rfl rfl; have q0_2 := hH.cl 0 2 rfl rfl; have q0_3 := hH.cl 0 3 rfl rfl; have q0_4 := hH.cl 0 4 rfl rfl; have l0_ := hH.bl 0 rfl; have q2_0 := hH.cl 2 0 rfl rfl; have q2_1 := hH.cl 2 1 rfl rfl; have q2_2 := hH.cl 2 2 rfl rfl; have l2_ := hH.bl 2 rfl; have c_kr_0 := hH.ext.cell kr_0; have c_kr_1 := hH.ext.cell kr_1; have c_kr_2 := hH.ext.cell kr_2
     have c_kr_l := Nat.lt_of_lt_of_le kr_l hH.ext.size
     go_wp2_with fail
     clear q0_0 q0_1 q0_2 q0_3 q0_4 l0_ q2_0 q2_1 q2_2 l2_ c_kr_0 c_kr_1 c_kr_2 c_kr_l
     have hB : Held wN (wn7.alloc (.cells #[.slice ap1 an1 ac1, .slice ap2 an2 ac2, .slice ap3 an3 ac3] 32)) [aB (wN.heap.size) 29 [.int .i64 k, .int .i64 p, .int .i64 n, .slice aV m cV, .slice aO op.length cO], aT (.agg #[.slice s1x s1y s1z, .slice s2x s2y s2z, .slice s3x s3y s3z]) JL (JL.map dimOf) (flat JX), aB (wn4.heap.size) 32 [.slice s1x s1y s1z, .slice s2x s2y s2z, .slice s3x s3y s3z], aT (.agg #[.slice ap1 an1 ac1, .slice ap2 an2 ac2, .slice ap3 an3 ac3]) op (op.map dimOf) (flat RX), aB (wn7.heap.size) 32 [.slice ap1 an1 ac1, .slice ap2 an2 ac2, .slice ap3 an3 ac3]] := by
       have h := (hH.mores 1).addB 4 #[.slice ap1 an1 ac1, .slice ap2 an2 ac2, .slice ap3 an3 ac3] 32
       exact h
     have hsz : (wn7.alloc (.cells #[.slice ap1 an1 ac1, .slice ap2 an2 ac2, .slice ap3 an3 ac3] 32)).heap.size = wn7.heap.size + 1 := by simp
     generalize wn7.alloc (.cells #[.slice ap1 an1 ac1, .slice ap2 an2 ac2, .slice ap3 an3 ac3] 32) = wn8 at hB hsz ⊢
     replace hH := hB; have HSZwn8 := Lib.hid hsz; clear hB hsz
     obtain ⟨wy, rfl⟩ : ∃ q, q = wn8 := ⟨wn8, rfl⟩
     have HPO := Lib.hid (plain_ok (m := ts.length) (by rw [HM.out]; omega))
     have HPN := Lib.hid (plainT_len ts.length (ts.length - 1))
     obtain ⟨PO, hPO⟩ : ∃ q, plainT ts.length (ts.length - 1) = q := ⟨_, rfl⟩
     rw [hPO] at HPO HPN
     have HPE := Lib.hid hPO; clear hPO
     replace hH := hH.mores 3
     replace hH : Held wN wy [aB (wN.heap.size) 29 [.int .i64 k, .int .i64 p, .int .i64 n, .slice aV m cV, .slice aO op.length cO], aT (.agg #[.slice s1x s1y s1z, .slice s2x s2y s2z, .slice s3x s3y s3z]) JL (JL.map dimOf) (flat JX), aB (wn4.heap.size) 32 [.slice s1x s1y s1z, .slice s2x s2y s2z, .slice s3x s3y s3z], aT (.agg #[.slice ap1 an1 ac1, .slice ap2 an2 ac2, .slice ap3 an3 ac3]) op (op.map dimOf) (flat RX), aB (wn7.heap.size) 32 [.slice ap1 an1 ac1, .slice ap2 an2 ac2, .slice ap3 an3 ac3], emp, emp, emp] := hH
     refine wp_region_steps ?Fd (fun b t wx => Held wN wx [aB (wN.heap.size) 29 [.int .i64 k, .int .i64 p, .int .i64 n, .slice aV m cV, .slice aO op.length cO], aT (.agg #[.slice s1x s1y s1z, .slice s2x s2y s2z, .slice s3x s3y s3z]) JL (JL.map dimOf) (flat JX), aB (wn4.heap.size) 32 [.slice s1x s1y s1z, .slice s2x s2y s2z, .slice s3x s3y s3z], aT (.agg #[.slice ap1 an1 ac1, .slice ap2 an2 ac2, .slice ap3 an3 ac3]) op (op.map dimOf) (flat RX), aB (wn7.heap.size) 32 [.slice ap1 an1 ac1, .slice ap2 an2 ac2, .slice ap3 an3 ac3], (bif b 2 then aSt (t 2) PO else emp), (bif b 3 then aT (tup0 (t 3)) op (op.map dimOf) (flat RX) else emp), (bif b 8 then aB (blkOf (t 7)) 32 (partsOf (t 5)) else (bif b 7 then aB (blkOf (t 7)) 32 [.slice none 0 0, .slice none 0 0, .slice none 0 0] else emp))] ∧ (b 0 = true → t 0 = .agg #[.int .i64 k, .int .i64 p, .int .i64 n, .slice aV m cV, .slice aO op.length cO]) ∧ (b 1 = true → t 1 = .agg #[.int .i64 k, .int .i64 p, .int .i64 n, .slice aV m cV, .slice aO op.length cO]) ∧ (b 2 = true → ∃ x c, t 2 = .slice x PO.length c) ∧ (b 3 = true → ∃ p1 n1 c1 p2 n2 c2 p3 n3 c3, t 3 = .tuple #[.agg #[.slice p1 n1 c1, .slice p2 n2 c2, .slice p3 n3 c3], .bool true]) ∧ (b 4 = true → t 4 = t 3) ∧ (b 5 = true → t 5 = tup0 (t 3)) ∧ (b 6 = true → t 6 = .bool true) ∧ (b 7 = true → ∃ q, t 7 = .pointer (some ⟨q, 0, none⟩)) ∧ (b 9 = true → t 9 = .bool true)) ?hFd (by kernel_rfl) (by kernel_rfl) ?hJd ?hSd ?hEd
     (case hFd => intro t; simp only [putAll, Act.put, List.setIfInBounds_toArray, List.set_cons_zero, List.set_cons_succ, Nat.reduceAdd, Nat.zero_add]; exact rfl)
     case hJd => exact ⟨hH.grow ((Ext.refl _).drew), fun h => absurd h Bool.false_ne_true, fun h => absurd h Bool.false_ne_true, fun h => absurd h Bool.false_ne_true, fun h => absurd h Bool.false_ne_true, fun h => absurd h Bool.false_ne_true, fun h => absurd h Bool.false_ne_true, fun h => absurd h Bool.false_ne_true, fun h => absurd h Bool.false_ne_true, fun h => absurd h Bool.false_ne_true⟩
     case hSd => as_aux_lemma =>
      refine AllSteps.cons (j := 1) rfl (fun b t wx hJ hb hd hcl Kc hK => ?_) ?_
      · obtain ⟨hH, v0, v1, v2, v3, v4, v5, v6, v7, v9⟩ := hJ
        have q0_0 := hH.cl 0 0 rfl rfl; have q0_1 := hH.cl 0 1 rfl rfl; have q0_2 := hH.cl 0 2 rfl rfl; have q0_3 := hH.cl 0 3 rfl rfl; have q0_4 := hH.cl 0 4 rfl rfl
        go_simp
        refine hK.out _ ?_ _ ?_ ?_; rotate_left 2
        · rfl
        exact ⟨hH, fun _ => rfl, v1, v2, v3, v4, v5, v6, v7, v9⟩
      refine AllSteps.cons (j := 2) rfl (fun b t wx hJ hb hd hcl Kc hK => ?_) ?_
      · obtain ⟨hH, v0, v1, v2, v3, v4, v5, v6, v7, v9⟩ := hJ
        have q0_0 := hH.cl 0 0 rfl rfl; have q0_1 := hH.cl 0 1 rfl rfl; have q0_2 := hH.cl 0 2 rfl rfl; have q0_3 := hH.cl 0 3 rfl rfl; have q0_4 := hH.cl 0 4 rfl rfl
        go_simp
        refine hK.out _ ?_ _ ?_ ?_; rotate_left 2
        · rfl
        exact ⟨hH, v0, fun _ => rfl, v2, v3, v4, v5, v6, v7, v9⟩
      refine AllSteps.cons (j := 3) rfl (fun b t wx hJ hb hd hcl Kc hK => ?_) ?_
      · obtain ⟨hH, v0, v1, v2, v3, v4, v5, v6, v7, v9⟩ := hJ
        have d1 := hd.out 1 (by kernel_rfl); have r1 := v1 d1
        have hN := hH; (try simp only [hb, d1, cond_true, cond_false] at hN)
        go_simp
        go_at_call 68
        refine (plainOrder_own HR.out HN.out _ _ _ (hT0.ext hH.ext) (hO.ext hH.ext)).mono ?_; rintro e2 w2 ⟨v2, rfl, hJ⟩
        rw [HPE.out] at hJ
        obtain ⟨x2, c2, rfl, _, _⟩ := (hJ.steps (k := 0) rfl).val
        (try go_simp)
        refine hK.out _ ?_ _ ?_ ?_; rotate_left 2
        · (try simp only [r1]); rfl
        exact ⟨by have hX := hN.add 5 hJ.ext (hJ.get (k := 0) rfl) (fun b hb => (hJ.fpr (k := 0) rfl b hb).1); simpa only [List.set_cons_zero, List.set_cons_succ, updB, updV, blkOf_mk, tup0_mk, partsOf3, Nat.reduceBEq, cond_true, cond_false, hb, d1, r1] using hX, v0, v1, fun _ => ⟨_, _, rfl⟩, v3, v4, v5, v6, v7, v9⟩
      refine AllSteps.cons (j := 4) rfl (fun b t wx hJ hb hd hcl Kc hK => ?_) ?_
      · obtain ⟨hH, v0, v1, v2, v3, v4, v5, v6, v7, v9⟩ := hJ
        have d0 := hd.out 0 (by kernel_rfl); have d2 := hd.out 2 (by kernel_rfl)
        have n4 : b 4 = false := Bool.eq_false_iff.2 fun h => absurd (hcl.out 4 3 (by kernel_rfl) (h)) (by rw [hb]; exact Bool.false_ne_true)
        have n5 : b 5 = false := Bool.eq_false_iff.2 fun h => absurd (hcl.out 4 3 (by kernel_rfl) (hcl.out 5 4 (by kernel_rfl) (h))) (by rw [hb]; exact Bool.false_ne_true)
        have r0 := v0 d0; have r2 := v2 d2
        obtain ⟨x_2, c_2, r2⟩ := r2
        have hN := hH; (try simp only [hb, d0, d2, n4, n5, cond_true, cond_false] at hN)
        go_simp
        go_at_call 67
        refine (contract_net_any HR.out HN.out _ _ _ (hT0.ext hH.ext) (hO.ext hH.ext) HPO.out HPN.out _ (by have h := hN.steps (k := 5) rfl; rw [r2] at h; exact h)).mono ?_; rintro e3 w3 ⟨vc, rfl, oc, hc⟩
        rw [HRX.out] at oc
        obtain ⟨pa1, na1, ca1, pa2, na2, ca2, pa3, na3, ca3, rfl⟩ := oc.shape
        (try go_simp)
        refine hK.out _ ?_ _ ?_ ?_; rotate_left 2
        · (try simp only [r0, r2]); rfl
        exact ⟨by have hX := hN.addT 6 hc oc (Nat.le_refl _); simpa only [List.set_cons_zero, List.set_cons_succ, updB, updV, blkOf_mk, tup0_mk, partsOf3, Nat.reduceBEq, cond_true, cond_false, hb, d0, d2, n4, n5, r0, r2] using hX, v0, v1, v2, fun _ => ⟨_, _, _, _, _, _, _, _, _, rfl⟩, fun h => absurd (show b 4 = true from h) (by rw [n4]; exact Bool.false_ne_true), fun h => absurd (show b 5 = true from h) (by rw [n5]; exact Bool.false_ne_true), v6, v7, v9⟩
      refine AllSteps.cons (j := 5) rfl (fun b t wx hJ hb hd hcl Kc hK => ?_) ?_
      · obtain ⟨hH, v0, v1, v2, v3, v4, v5, v6, v7, v9⟩ := hJ
        have d3 := hd.out 3 (by kernel_rfl); have r3 := v3 d3
        obtain ⟨p1_3, n1_3, c1_3, p2_3, n2_3, c2_3, p3_3, n3_3, c3_3, r3⟩ := r3
        go_simp
        refine hK.out _ ?_ _ ?_ ?_; rotate_left 2
        · (try simp only [r3]); rfl
        exact ⟨hH, v0, v1, v2, v3, fun _ => (by first | rfl | exact r3.symm), v5, v6, v7, v9⟩
      refine AllSteps.cons (j := 6) rfl (fun b t wx hJ hb hd hcl Kc hK => ?_) ?_
      · obtain ⟨hH, v0, v1, v2, v3, v4, v5, v6, v7, v9⟩ := hJ
        have d3 := hcl.out 4 3 (by kernel_rfl) (hd.out 4 (by kernel_rfl)); have d4 := hd.out 4 (by kernel_rfl)
        have n8 : b 8 = false := Bool.eq_false_iff.2 fun h => absurd (hcl.out 8 5 (by kernel_rfl) (h)) (by rw [hb]; exact Bool.false_ne_true)
        have r3 := v3 d3; have r4 := v4 d4
        obtain ⟨p1_3, n1_3, c1_3, p2_3, n2_3, c2_3, p3_3, n3_3, c3_3, r3⟩ := r3
        have hN := hH; (try simp only [hb, d3, d4, n8, cond_true, cond_false] at hN)
        have e3 := r3 -- d3
        go_simp
        refine hK.out _ ?_ _ ?_ ?_; rotate_left 2
        · (try simp only [r3, r4]); rfl
        exact ⟨by have hX := hN; simpa only [List.set_cons_zero, List.set_cons_succ, updB, updV, blkOf_mk, tup0_mk, partsOf3, Nat.reduceBEq, cond_true, cond_false, hb, d3, d4, n8, r3, r4] using hX, v0, v1, v2, v3, v4, fun _ => (by show _ = tup0 (t 3); rw [r3]; rfl), v6, v7, v9⟩
      refine AllSteps.cons (j := 7) rfl (fun b t wx hJ hb hd hcl Kc hK => ?_) ?_
      · obtain ⟨hH, v0, v1, v2, v3, v4, v5, v6, v7, v9⟩ := hJ
        have d3 := hcl.out 4 3 (by kernel_rfl) (hd.out 4 (by kernel_rfl)); have d4 := hd.out 4 (by kernel_rfl); have r3 := v3 d3; have r4 := v4 d4
        obtain ⟨p1_3, n1_3, c1_3, p2_3, n2_3, c2_3, p3_3, n3_3, c3_3, r3⟩ := r3
        have e3 := r3 -- d3
        go_simp
        refine hK.out _ ?_ _ ?_ ?_; rotate_left 2
        · (try simp only [r3, r4]); rfl
        exact ⟨hH, v0, v1, v2, v3, v4, v5, fun _ => rfl, v7, v9⟩
      refine AllSteps.cons (j := 8) rfl (fun b t wx hJ hb hd hcl Kc hK => ?_) ?_
      · obtain ⟨hH, v0, v1, v2, v3, v4, v5, v6, v7, v9⟩ := hJ
        have n8 : b 8 = false := Bool.eq_false_iff.2 fun h => absurd (hcl.out 8 7 (by kernel_rfl) (h)) (by rw [hb]; exact Bool.false_ne_true)
        have hN := hH; (try simp only [hb, n8, cond_true, cond_false] at hN)
        go_simp
        refine hK.out _ ?_ _ ?_ ?_; rotate_left 2
        · rfl
        exact ⟨by have hX := hN.addB 7 #[.slice none 0 0, .slice none 0 0, .slice none 0 0] 32; simpa only [List.set_cons_zero, List.set_cons_succ, updB, updV, blkOf_mk, tup0_mk, partsOf3, Nat.reduceBEq, cond_true, cond_false, hb, n8] using hX, v0, v1, v2, v3, v4, v5, v6, fun _ => ⟨_, rfl⟩, v9⟩
      refine AllSteps.cons (j := 9) rfl (fun b t wx hJ hb hd hcl Kc hK => ?_) ?_
      · obtain ⟨hH, v0, v1, v2, v3, v4, v5, v6, v7, v9⟩ := hJ
        have d0 := hd.out 0 (by kernel_rfl); have d1 := hd.out 1 (by kernel_rfl); have d2 := hd.out 2 (by kernel_rfl); have d3 := hd.out 3 (by kernel_rfl); have d4 := hd.out 4 (by kernel_rfl); have d5 := hd.out 5 (by kernel_rfl); have d7 := hd.out 7 (by kernel_rfl); have r0 := v0 d0; have r1 := v1 d1; have r2 := v2 d2; have r3 := v3 d3; have r4 := v4 d4; have r5 := v5 d5; have r7 := v7 d7
        obtain ⟨x_2, c_2, r2⟩ := r2
        obtain ⟨p1_3, n1_3, c1_3, p2_3, n2_3, c2_3, p3_3, n3_3, c3_3, r3⟩ := r3
        obtain ⟨q_7, r7⟩ := r7
        have hN := hH; (try simp only [hb, d0, d1, d2, d3, d4, d5, d7, cond_true, cond_false] at hN)
        rw [r3, tup0_mk] at r5 -- d3
        simp only [r7, r5, blkOf_mk, tup0_mk, partsOf3] at hN
        have B := hN.blk (k := 7) rfl
        have f0 := B.free 0; have z0 := B.cell (j := 0) rfl
        have f1 := B.free 1; have z1 := B.cell (j := 1) rfl
        have f2 := B.free 2; have z2 := B.cell (j := 2) rfl
        have lB := B.lt; have hmk0 := @tup0_mk
        go_simp
        refine hK.out _ undef _ ?_ ?_; rotate_left 1
        · (try simp only [r0, r1, r2, r3, r4, r5, r7]); rfl
        exact ⟨by have hX := hN.setB3' (k := 7) rfl (.slice p1_3 n1_3 c1_3) (.slice p2_3 n2_3 c2_3) (.slice p3_3 n3_3 c3_3); simpa only [List.set_cons_zero, List.set_cons_succ, updB, updV, blkOf_mk, tup0_mk, partsOf3, Nat.reduceBEq, cond_true, cond_false, hb, d0, d1, d2, d3, d4, d5, d7, r0, r1, r2, r3, r4, r5, r7] using hX, v0, v1, v2, v3, v4, v5, v6, v7, v9⟩
      refine AllSteps.cons (j := 10) rfl (fun b t wx hJ hb hd hcl Kc hK => ?_) ?_
      · obtain ⟨hH, v0, v1, v2, v3, v4, v5, v6, v7, v9⟩ := hJ
        have d0 := hd.out 0 (by kernel_rfl); have d1 := hd.out 1 (by kernel_rfl); have d2 := hd.out 2 (by kernel_rfl); have d3 := hd.out 3 (by kernel_rfl); have d4 := hd.out 4 (by kernel_rfl); have d5 := hd.out 5 (by kernel_rfl); have d6 := hd.out 6 (by kernel_rfl); have d7 := hd.out 7 (by kernel_rfl); have d8 := hd.out 8 (by kernel_rfl); have r0 := v0 d0; have r1 := v1 d1; have r2 := v2 d2; have r3 := v3 d3; have r4 := v4 d4; have r5 := v5 d5; have r6 := v6 d6; have r7 := v7 d7
        obtain ⟨x_2, c_2, r2⟩ := r2
        obtain ⟨p1_3, n1_3, c1_3, p2_3, n2_3, c2_3, p3_3, n3_3, c3_3, r3⟩ := r3
        obtain ⟨q_7, r7⟩ := r7
        go_simp
        refine hK.out _ ?_ _ ?_ ?_; rotate_left 2
        · (try simp only [r0, r1, r2, r3, r4, r5, r6, r7]); rfl
        exact ⟨hH, v0, v1, v2, v3, v4, v5, v6, v7, fun _ => rfl⟩
      exact AllSteps.nil
     case hEd =>
       intro b t wd hJ hall
       obtain ⟨hHd, v0, v1, v2, v3, v4, v5, v6, v7, v9⟩ := hJ
       have a0 := hall 0 (by decide); have a1 := hall 1 (by decide); have a2 := hall 2 (by decide); have a3 := hall 3 (by decide); have a4 := hall 4 (by decide); have a5 := hall 5 (by decide); have a6 := hall 6 (by decide); have a7 := hall 7 (by decide); have a8 := hall 8 (by decide); have a9 := hall 9 (by decide)
       (try simp only [a0, a1, a2, a3, a4, a5, a6, a7, a8, a9, cond_true] at hHd)
       replace v0 := v0 a0; replace v1 := v1 a1; replace v2 := v2 a2; replace v3 := v3 a3; replace v4 := v4 a4; replace v5 := v5 a5; replace v6 := v6 a6; replace v7 := v7 a7; replace v9 := v9 a9
       clear hall a0 a1 a2 a3 a4 a5 a6 a7 a8 a9
       generalize t 9 = x9 at hHd v9 ⊢; generalize t 7 = x7 at hHd v7 ⊢; generalize t 6 = x6 at hHd v6 ⊢; generalize t 5 = x5 at hHd v5 ⊢; generalize t 4 = x4 at hHd v4 ⊢; generalize t 3 = x3 at hHd v3 v4 v5 ⊢; generalize t 2 = x2 at hHd v2 ⊢; generalize t 1 = x1 at hHd v1 ⊢; generalize t 0 = x0 at hHd v0 ⊢; subst v0; subst v1
       obtain ⟨xd2, cd2, rfl⟩ := v2
       obtain ⟨p1d3, n1d3, c1d3, p2d3, n2d3, c2d3, p3d3, n3d3, c3d3, rfl⟩ := v3
       subst v4; subst v5; subst v6
       obtain ⟨qd7, rfl⟩ := v7
       subst v9
       simp only [blkOf_mk, tup0_mk, partsOf3] at hHd
       clear b
       replace hH := hHd; clear hHd
       replace hH : Held wN wd [aB (wN.heap.size) 29 [.int .i64 k, .int .i64 p, .int .i64 n, .slice aV m cV, .slice aO op.length cO], aT (.agg #[.slice s1x s1y s1z, .slice s2x s2y s2z, .slice s3x s3y s3z]) JL (JL.map dimOf) (flat JX), aB (wn4.heap.size) 32 [.slice s1x s1y s1z, .slice s2x s2y s2z, .slice s3x s3y s3z], aT (.agg #[.slice ap1 an1 ac1, .slice ap2 an2 ac2, .slice ap3 an3 ac3]) op (op.map dimOf) (flat RX), aB (wn7.heap.size) 32 [.slice ap1 an1 ac1, .slice ap2 an2 ac2, .slice ap3 an3 ac3], aSt (.slice xd2 PO.length cd2) PO, aT (.agg #[.slice p1d3 n1d3 c1d3, .slice p2d3 n2d3 c2d3, .slice p3d3 n3d3 c3d3]) op (op.map dimOf) (flat RX), aB qd7 32 [.slice p1d3 n1d3 c1d3, .slice p2d3 n2d3 c2d3, .slice p3d3 n3d3 c3d3]] := hH
       obtain ⟨wx1, rfl⟩ : ∃ q, q = wd := ⟨wd, rfl⟩
       go_upto_region 16 with fail
       replace hH := hH.mores 1
       replace hH : Held wN wx1 [aB (wN.heap.size) 29 [.int .i64 k, .int .i64 p, .int .i64 n, .slice aV m cV, .slice aO op.length cO], aT (.agg #[.slice s1x s1y s1z, .slice s2x s2y s2z, .slice s3x s3y s3z]) JL (JL.map dimOf) (flat JX), aB (wn4.heap.size) 32 [.slice s1x s1y s1z, .slice s2x s2y s2z, .slice s3x s3y s3z], aT (.agg #[.slice ap1 an1 ac1, .slice ap2 an2 ac2, .slice ap3 an3 ac3]) op (op.map dimOf) (flat RX), aB (wn7.heap.size) 32 [.slice ap1 an1 ac1, .slice ap2 an2 ac2, .slice ap3 an3 ac3], aSt (.slice xd2 PO.length cd2) PO, aT (.agg #[.slice p1d3 n1d3 c1d3, .slice p2d3 n2d3 c2d3, .slice p3d3 n3d3 c3d3]) op (op.map dimOf) (flat RX), aB qd7 32 [.slice p1d3 n1d3 c1d3, .slice p2d3 n2d3 c2d3, .slice p3d3 n3d3 c3d3], emp] := hH
       refine wp_region_steps ?Fe (fun b t wx => Held wN wx [aB (wN.heap.size) 29 [.int .i64 k, .int .i64 p, .int .i64 n, .slice aV m cV, .slice aO op.length cO], aT (.agg #[.slice s1x s1y s1z, .slice s2x s2y s2z, .slice s3x s3y s3z]) JL (JL.map dimOf) (flat JX), aB (wn4.heap.size) 32 [.slice s1x s1y s1z, .slice s2x s2y s2z, .slice s3x s3y s3z], aT (.agg #[.slice ap1 an1 ac1, .slice ap2 an2 ac2, .slice ap3 an3 ac3]) op (op.map dimOf) (flat RX), aB (wn7.heap.size) 32 [.slice ap1 an1 ac1, .slice ap2 an2 ac2, .slice ap3 an3 ac3], aSt (.slice xd2 PO.length cd2) PO, aT (.agg #[.slice p1d3 n1d3 c1d3, .slice p2d3 n2d3 c2d3, .slice p3d3 n3d3 c3d3]) op (op.map dimOf) (flat RX), aB qd7 32 [.slice p1d3 n1d3 c1d3, .slice p2d3 n2d3 c2d3, .slice p3d3 n3d3 c3d3], (bif b 12 then aT (t 12) op (op.map dimOf) (flat RX) else emp)] ∧ (b 0 = true → t 0 = .bool true) ∧ (b 1 = true → t 1 = .bool true) ∧ (b 2 = true → t 2 = .bool true) ∧ (b 3 = true → t 3 = .bool true) ∧ (b 4 = true → t 4 = .bool true) ∧ (b 5 = true → t 5 = .agg #[.slice ap1 an1 ac1, .slice ap2 an2 ac2, .slice ap3 an3 ac3]) ∧ (b 6 = true → t 6 = .agg #[.slice p1d3 n1d3 c1d3, .slice p2d3 n2d3 c2d3, .slice p3d3 n3d3 c3d3]) ∧ (b 7 = true → t 7 = .bool true) ∧ (b 8 = true → t 8 = .bool true) ∧ (b 9 = true → t 9 = .bool true) ∧ (b 10 = true → t 10 = .agg #[.slice ap1 an1 ac1, .slice ap2 an2 ac2, .slice ap3 an3 ac3]) ∧ (b 11 = true → t 11 = .agg #[.int .i64 k, .int .i64 p, .int .i64 n, .slice aV m cV, .slice aO op.length cO]) ∧ (b 12 = true → ∃ p1 n1 c1 p2 n2 c2 p3 n3 c3, t 12 = .agg #[.slice p1 n1 c1, .slice p2 n2 c2, .slice p3 n3 c3]) ∧ (b 13 = true → t 13 = .bool true) ∧ (b 14 = true → t 14 = .bool true) ∧ (b 15 = true → t 15 = t 14)) ?hFe (by kernel_rfl) (by kernel_rfl) ?hJe ?hSe ?hEe
       (case hFe => intro t; simp only [putAll, Act.put, List.setIfInBounds_toArray, List.set_cons_zero, List.set_cons_succ, Nat.reduceAdd, Nat.zero_add]; exact rfl)
       case hJe => exact ⟨hH.grow ((Ext.refl _).drew), fun h => absurd h Bool.false_ne_true, fun h => absurd h Bool.false_ne_true, fun h => absurd h Bool.false_ne_true, fun h => absurd h Bool.false_ne_true, fun h => absurd h Bool.false_ne_true, fun h => absurd h Bool.false_ne_true, fun h => absurd h Bool.false_ne_true, fun h => absurd h Bool.false_ne_true, fun h => absurd h Bool.false_ne_true, fun h => absurd h Bool.false_ne_true, fun h => absurd h Bool.false_ne_true, fun h => absurd h Bool.false_ne_true, fun h => absurd h Bool.false_ne_true, fun h => absurd h Bool.false_ne_true, fun h => absurd h Bool.false_ne_true, fun h => absurd h Bool.false_ne_true⟩
       case hSe => as_aux_lemma =>
        refine AllSteps.cons (j := 1) rfl (fun b t wx hJ hb hd hcl Kc hK => ?_) ?_
        · obtain ⟨hH, v0, v1, v2, v3, v4, v5, v6, v7, v8, v9, v10, v11, v12, v13, v14, v15⟩ := hJ
          go_simp
          refine hK.out _ ?_ _ ?_ ?_; rotate_left 2
          · rfl
          exact ⟨hH, fun _ => rfl, v1, v2, v3, v4, v5, v6, v7, v8, v9, v10, v11, v12, v13, v14, v15⟩
        refine AllSteps.cons (j := 2) rfl (fun b t wx hJ hb hd hcl Kc hK => ?_) ?_
        · obtain ⟨hH, v0, v1, v2, v3, v4, v5, v6, v7, v8, v9, v10, v11, v12, v13, v14, v15⟩ := hJ
          have d0 := hd.out 0 (by kernel_rfl); have r0 := v0 d0
          go_simp
          refine hK.out _ ?_ _ ?_ ?_; rotate_left 2
          · (try simp only [r0]); rfl
          exact ⟨hH, v0, fun _ => rfl, v2, v3, v4, v5, v6, v7, v8, v9, v10, v11, v12, v13, v14, v15⟩
        refine AllSteps.cons (j := 3) rfl (fun b t wx hJ hb hd hcl Kc hK => ?_) ?_
        · obtain ⟨hH, v0, v1, v2, v3, v4, v5, v6, v7, v8, v9, v10, v11, v12, v13, v14, v15⟩ := hJ
          have d1 := hd.out 1 (by kernel_rfl); have r1 := v1 d1
          go_simp
          refine hK.out _ ?_ _ ?_ ?_; rotate_left 2
          · (try simp only [r1]); rfl
          exact ⟨hH, v0, v1, fun _ => rfl, v3, v4, v5, v6, v7, v8, v9, v10, v11, v12, v13, v14, v15⟩
        refine AllSteps.cons (j := 4) rfl (fun b t wx hJ hb hd hcl Kc hK => ?_) ?_
        · obtain ⟨hH, v0, v1, v2, v3, v4, v5, v6, v7, v8, v9, v10, v11, v12, v13, v14, v15⟩ := hJ
          have d1 := hd.out 1 (by kernel_rfl); have d2 := hd.out 2 (by kernel_rfl); have r1 := v1 d1; have r2 := v2 d2
          go_simp
          refine hK.out _ ?_ _ ?_ ?_; rotate_left 2
          · (try simp only [r1, r2]); rfl
          exact ⟨hH, v0, v1, v2, fun _ => rfl, v4, v5, v6, v7, v8, v9, v10, v11, v12, v13, v14, v15⟩
        refine AllSteps.cons (j := 5) rfl (fun b t wx hJ hb hd hcl Kc hK => ?_) ?_
        · obtain ⟨hH, v0, v1, v2, v3, v4, v5, v6, v7, v8, v9, v10, v11, v12, v13, v14, v15⟩ := hJ
          have d1 := hd.out 1 (by kernel_rfl); have d3 := hd.out 3 (by kernel_rfl); have r1 := v1 d1; have r3 := v3 d3
          go_simp
          refine hK.out _ ?_ _ ?_ ?_; rotate_left 2
          · (try simp only [r1, r3]); rfl
          exact ⟨hH, v0, v1, v2, v3, fun _ => rfl, v5, v6, v7, v8, v9, v10, v11, v12, v13, v14, v15⟩
        refine AllSteps.cons (j := 6) rfl (fun b t wx hJ hb hd hcl Kc hK => ?_) ?_
        · obtain ⟨hH, v0, v1, v2, v3, v4, v5, v6, v7, v8, v9, v10, v11, v12, v13, v14, v15⟩ := hJ
          have d4 := hd.out 4 (by kernel_rfl); have r4 := v4 d4; have q4_0 := hH.cl 4 0 rfl rfl; have q4_1 := hH.cl 4 1 rfl rfl; have q4_2 := hH.cl 4 2 rfl rfl
          go_simp
          refine hK.out _ ?_ _ ?_ ?_; rotate_left 2
          · (try simp only [r4]); rfl
          exact ⟨hH, v0, v1, v2, v3, v4, fun _ => rfl, v6, v7, v8, v9, v10, v11, v12, v13, v14, v15⟩
        refine AllSteps.cons (j := 7) rfl (fun b t wx hJ hb hd hcl Kc hK => ?_) ?_
        · obtain ⟨hH, v0, v1, v2, v3, v4, v5, v6, v7, v8, v9, v10, v11, v12, v13, v14, v15⟩ := hJ
          have d4 := hd.out 4 (by kernel_rfl); have r4 := v4 d4; have q7_0 := hH.cl 7 0 rfl rfl; have q7_1 := hH.cl 7 1 rfl rfl; have q7_2 := hH.cl 7 2 rfl rfl
          go_simp
          refine hK.out _ ?_ _ ?_ ?_; rotate_left 2
          · (try simp only [r4]); rfl
          exact ⟨hH, v0, v1, v2, v3, v4, v5, fun _ => rfl, v7, v8, v9, v10, v11, v12, v13, v14, v15⟩
        refine AllSteps.cons (j := 8) rfl (fun b t wx hJ hb hd hcl Kc hK => ?_) ?_
        · obtain ⟨hH, v0, v1, v2, v3, v4, v5, v6, v7, v8, v9, v10, v11, v12, v13, v14, v15⟩ := hJ
          have d4 := hd.out 4 (by kernel_rfl); have d5 := hd.out 5 (by kernel_rfl); have d6 := hd.out 6 (by kernel_rfl); have r4 := v4 d4; have r5 := v5 d5; have r6 := v6 d6
          go_simp
          go_at_call 38
          refine (same_same _ _ _ _ _ _ _ _ _ (hH.tens (k := 3) rfl) (hH.tens (k := 6) rfl) rfl rfl rfl).mono ?_; rintro e7 w7 ⟨rfl, h7⟩
          (try go_simp)
          refine hK.out _ ?_ _ ?_ ?_; rotate_left 2
          · (try simp only [r4, r5, r6]); rfl
          exact ⟨by have hX := hH.grow h7; simpa only [List.set_cons_zero, List.set_cons_succ, updB, updV, blkOf_mk, tup0_mk, partsOf3, Nat.reduceBEq, cond_true, cond_false, hb, d4, d5, d6, r4, r5, r6] using hX, v0, v1, v2, v3, v4, v5, v6, fun _ => rfl, v8, v9, v10, v11, v12, v13, v14, v15⟩
        refine AllSteps.cons (j := 9) rfl (fun b t wx hJ hb hd hcl Kc hK => ?_) ?_
        · obtain ⟨hH, v0, v1, v2, v3, v4, v5, v6, v7, v8, v9, v10, v11, v12, v13, v14, v15⟩ := hJ
          have d4 := hd.out 4 (by kernel_rfl); have d7 := hd.out 7 (by kernel_rfl); have r4 := v4 d4; have r7 := v7 d7
          go_simp
          refine hK.out _ ?_ _ ?_ ?_; rotate_left 2
          · (try simp only [r4, r7]); rfl
          exact ⟨hH, v0, v1, v2, v3, v4, v5, v6, v7, fun _ => rfl, v9, v10, v11, v12, v13, v14, v15⟩
        refine AllSteps.cons (j := 10) rfl (fun b t wx hJ hb hd hcl Kc hK => ?_) ?_
        · obtain ⟨hH, v0, v1, v2, v3, v4, v5, v6, v7, v8, v9, v10, v11, v12, v13, v14, v15⟩ := hJ
          have d7 := hd.out 7 (by kernel_rfl); have d8 := hd.out 8 (by kernel_rfl); have r7 := v7 d7; have r8 := v8 d8
          go_simp
          refine hK.out _ ?_ _ ?_ ?_; rotate_left 2
          · (try simp only [r7, r8]); rfl
          exact ⟨hH, v0, v1, v2, v3, v4, v5, v6, v7, v8, fun _ => rfl, v10, v11, v12, v13, v14, v15⟩
        refine AllSteps.cons (j := 11) rfl (fun b t wx hJ hb hd hcl Kc hK => ?_) ?_
        · obtain ⟨hH, v0, v1, v2, v3, v4, v5, v6, v7, v8, v9, v10, v11, v12, v13, v14, v15⟩ := hJ
          have d9 := hd.out 9 (by kernel_rfl); have r9 := v9 d9; have q4_0 := hH.cl 4 0 rfl rfl; have q4_1 := hH.cl 4 1 rfl rfl; have q4_2 := hH.cl 4 2 rfl rfl
          go_simp
          refine hK.out _ ?_ _ ?_ ?_; rotate_left 2
          · (try simp only [r9]); rfl
          exact ⟨hH, v0, v1, v2, v3, v4, v5, v6, v7, v8, v9, fun _ => rfl, v11, v12, v13, v14, v15⟩
        refine AllSteps.cons (j := 12) rfl (fun b t wx hJ hb hd hcl Kc hK => ?_) ?_
        · obtain ⟨hH, v0, v1, v2, v3, v4, v5, v6, v7, v8, v9, v10, v11, v12, v13, v14, v15⟩ := hJ
          have d9 := hd.out 9 (by kernel_rfl); have r9 := v9 d9; have q0_0 := hH.cl 0 0 rfl rfl; have q0_1 := hH.cl 0 1 rfl rfl; have q0_2 := hH.cl 0 2 rfl rfl; have q0_3 := hH.cl 0 3 rfl rfl; have q0_4 := hH.cl 0 4 rfl rfl
          go_simp
          refine hK.out _ ?_ _ ?_ ?_; rotate_left 2
          · (try simp only [r9]); rfl
          exact ⟨hH, v0, v1, v2, v3, v4, v5, v6, v7, v8, v9, v10, fun _ => rfl, v12, v13, v14, v15⟩
        refine AllSteps.cons (j := 13) rfl (fun b t wx hJ hb hd hcl Kc hK => ?_) ?_
        · obtain ⟨hH, v0, v1, v2, v3, v4, v5, v6, v7, v8, v9, v10, v11, v12, v13, v14, v15⟩ := hJ
          have d9 := hd.out 9 (by kernel_rfl); have d11 := hd.out 11 (by kernel_rfl); have r9 := v9 d9; have r11 := v11 d11
          have hN := hH; (try simp only [hb, d9, d11, cond_true, cond_false] at hN)
          go_simp
          go_at_call 37
          refine (worth_any HR.out HN.out _ _ _ (hT0.ext hH.ext) (hO.ext hH.ext)).mono ?_; rintro e12 w12 ⟨u12, rfl, o12, h12⟩
          rw [HRX.out] at o12
          obtain ⟨pa1, na1, ca1, pa2, na2, ca2, pa3, na3, ca3, rfl⟩ := o12.shape
          (try go_simp)
          refine hK.out _ ?_ _ ?_ ?_; rotate_left 2
          · (try simp only [r9, r11]); rfl
          exact ⟨by have hX := hN.addT 8 h12 o12 (Nat.le_refl _); simpa only [List.set_cons_zero, List.set_cons_succ, updB, updV, blkOf_mk, tup0_mk, partsOf3, Nat.reduceBEq, cond_true, cond_false, hb, d9, d11, r9, r11] using hX, v0, v1, v2, v3, v4, v5, v6, v7, v8, v9, v10, v11, fun _ => ⟨_, _, _, _, _, _, _, _, _, rfl⟩, v13, v14, v15⟩
        refine AllSteps.cons (j := 14) rfl (fun b t wx hJ hb hd hcl Kc hK => ?_) ?_
        · obtain ⟨hH, v0, v1, v2, v3, v4, v5, v6, v7, v8, v9, v10, v11, v12, v13, v14, v15⟩ := hJ
          have d9 := hd.out 9 (by kernel_rfl); have d10 := hd.out 10 (by kernel_rfl); have d12 := hd.out 12 (by kernel_rfl); have r9 := v9 d9; have r10 := v10 d10; have r12 := v12 d12
          obtain ⟨p1_12, n1_12, c1_12, p2_12, n2_12, c2_12, p3_12, n3_12, c3_12, r12⟩ := r12
          have hN := hH; (try simp only [hb, d9, d10, d12, cond_true, cond_false] at hN)
          go_simp
          go_at_call 38
          refine (same_same _ _ _ _ _ _ _ _ _ (hH.tens (k := 3) rfl) (by have h := hN.tens (k := 8) rfl; rw [r12] at h; exact h) rfl rfl rfl).mono ?_; rintro e13 w13 ⟨rfl, h13⟩
          (try go_simp)
          refine hK.out _ ?_ _ ?_ ?_; rotate_left 2
          · (try simp only [r9, r10, r12]); rfl
          exact ⟨by have hX := hH.grow h13; simpa only [List.set_cons_zero, List.set_cons_succ, updB, updV, blkOf_mk, tup0_mk, partsOf3, Nat.reduceBEq, cond_true, cond_false, hb, d9, d10, d12, r9, r10, r12] using hX, v0, v1, v2, v3, v4, v5, v6, v7, v8, v9, v10, v11, v12, fun _ => rfl, v14, v15⟩
        refine AllSteps.cons (j := 15) rfl (fun b t wx hJ hb hd hcl Kc hK => ?_) ?_
        · obtain ⟨hH, v0, v1, v2, v3, v4, v5, v6, v7, v8, v9, v10, v11, v12, v13, v14, v15⟩ := hJ
          have d9 := hd.out 9 (by kernel_rfl); have d13 := hd.out 13 (by kernel_rfl)
          have n15 : b 15 = false := Bool.eq_false_iff.2 fun h => absurd (hcl.out 15 14 (by kernel_rfl) (h)) (by rw [hb]; exact Bool.false_ne_true)
          have r9 := v9 d9; have r13 := v13 d13
          go_simp
          refine hK.out _ ?_ _ ?_ ?_; rotate_left 2
          · (try simp only [r9, r13]); rfl
          exact ⟨hH, v0, v1, v2, v3, v4, v5, v6, v7, v8, v9, v10, v11, v12, v13, fun _ => rfl, fun h => absurd (show b 15 = true from h) (by rw [n15]; exact Bool.false_ne_true)⟩
        refine AllSteps.cons (j := 16) rfl (fun b t wx hJ hb hd hcl Kc hK => ?_) ?_
        · obtain ⟨hH, v0, v1, v2, v3, v4, v5, v6, v7, v8, v9, v10, v11, v12, v13, v14, v15⟩ := hJ
          have d0 := hd.out 0 (by kernel_rfl); have d1 := hd.out 1 (by kernel_rfl); have d2 := hd.out 2 (by kernel_rfl); have d3 := hd.out 3 (by kernel_rfl); have d4 := hd.out 4 (by kernel_rfl); have d5 := hd.out 5 (by kernel_rfl); have d6 := hd.out 6 (by kernel_rfl); have d7 := hd.out 7 (by kernel_rfl); have d8 := hd.out 8 (by kernel_rfl); have d9 := hd.out 9 (by kernel_rfl); have d10 := hd.out 10 (by kernel_rfl); have d11 := hd.out 11 (by kernel_rfl); have d12 := hd.out 12 (by kernel_rfl); have d13 := hd.out 13 (by kernel_rfl); have d14 := hd.out 14 (by kernel_rfl); have r0 := v0 d0; have r1 := v1 d1; have r2 := v2 d2; have r3 := v3 d3; have r4 := v4 d4; have r5 := v5 d5; have r6 := v6 d6; have r7 := v7 d7; have r8 := v8 d8; have r9 := v9 d9; have r10 := v10 d10; have r11 := v11 d11; have r12 := v12 d12; have r13 := v13 d13; have r14 := v14 d14
          obtain ⟨p1_12, n1_12, c1_12, p2_12, n2_12, c2_12, p3_12, n3_12, c3_12, r12⟩ := r12
          go_simp
          refine hK.out _ ?_ _ ?_ ?_; rotate_left 2
          · (try simp only [r0, r1, r2, r3, r4, r5, r6, r7, r8, r9, r10, r11, r12, r13, r14]); rfl
          exact ⟨hH, v0, v1, v2, v3, v4, v5, v6, v7, v8, v9, v10, v11, v12, v13, v14, fun _ => (by first | rfl | exact r14.symm)⟩
        exact AllSteps.nil
       case hEe =>
        intro b t we hJ hall
        obtain ⟨hHe, v0, v1, v2, v3, v4, v5, v6, v7, v8, v9, v10, v11, v12, v13, v14, v15⟩ := hJ
        have a0 := hall 0 (by decide); have a1 := hall 1 (by decide); have a2 := hall 2 (by decide); have a3 := hall 3 (by decide); have a4 := hall 4 (by decide); have a5 := hall 5 (by decide); have a6 := hall 6 (by decide); have a7 := hall 7 (by decide); have a8 := hall 8 (by decide); have a9 := hall 9 (by decide); have a10 := hall 10 (by decide); have a11 := hall 11 (by decide); have a12 := hall 12 (by decide); have a13 := hall 13 (by decide); have a14 := hall 14 (by decide); have a15 := hall 15 (by decide)
        (try simp only [a0, a1, a2, a3, a4, a5, a6, a7, a8, a9, a10, a11, a12, a13, a14, a15, cond_true] at hHe)
        replace v0 := v0 a0; replace v1 := v1 a1; replace v2 := v2 a2; replace v3 := v3 a3; replace v4 := v4 a4; replace v5 := v5 a5; replace v6 := v6 a6; replace v7 := v7 a7; replace v8 := v8 a8; replace v9 := v9 a9; replace v10 := v10 a10; replace v11 := v11 a11; replace v12 := v12 a12; replace v13 := v13 a13; replace v14 := v14 a14; replace v15 := v15 a15
        clear hall a0 a1 a2 a3 a4 a5 a6 a7 a8 a9 a10 a11 a12 a13 a14 a15
        generalize t 15 = x15 at hHe v15 ⊢; generalize t 14 = x14 at hHe v14 v15 ⊢; generalize t 13 = x13 at hHe v13 ⊢; generalize t 12 = x12 at hHe v12 ⊢; generalize t 11 = x11 at hHe v11 ⊢; generalize t 10 = x10 at hHe v10 ⊢; generalize t 9 = x9 at hHe v9 ⊢; generalize t 8 = x8 at hHe v8 ⊢; generalize t 7 = x7 at hHe v7 ⊢; generalize t 6 = x6 at hHe v6 ⊢; generalize t 5 = x5 at hHe v5 ⊢; generalize t 4 = x4 at hHe v4 ⊢; generalize t 3 = x3 at hHe v3 ⊢; generalize t 2 = x2 at hHe v2 ⊢; generalize t 1 = x1 at hHe v1 ⊢; generalize t 0 = x0 at hHe v0 ⊢; subst v0; subst v1; subst v2; subst v3; subst v4; subst v5; subst v6; subst v7; subst v8; subst v9; subst v10; subst v11
        obtain ⟨p1e12, n1e12, c1e12, p2e12, n2e12, c2e12, p3e12, n3e12, c3e12, rfl⟩ := v12
        subst v13; subst v14; subst v15
        clear b
        replace hH := hHe; clear hHe
        replace hH : Held wN we [aB (wN.heap.size) 29 [.int .i64 k, .int .i64 p, .int .i64 n, .slice aV m cV, .slice aO op.length cO], aT (.agg #[.slice s1x s1y s1z, .slice s2x s2y s2z, .slice s3x s3y s3z]) JL (JL.map dimOf) (flat JX), aB (wn4.heap.size) 32 [.slice s1x s1y s1z, .slice s2x s2y s2z, .slice s3x s3y s3z], aT (.agg #[.slice ap1 an1 ac1, .slice ap2 an2 ac2, .slice ap3 an3 ac3]) op (op.map dimOf) (flat RX), aB (wn7.heap.size) 32 [.slice ap1 an1 ac1, .slice ap2 an2 ac2, .slice ap3 an3 ac3], aSt (.slice xd2 PO.length cd2) PO, aT (.agg #[.slice p1d3 n1d3 c1d3, .slice p2d3 n2d3 c2d3, .slice p3d3 n3d3 c3d3]) op (op.map dimOf) (flat RX), aB qd7 32 [.slice p1d3 n1d3 c1d3, .slice p2d3 n2d3 c2d3, .slice p3d3 n3d3 c3d3], aT (.agg #[.slice p1e12 n1e12 c1e12, .slice p2e12 n2e12 c2e12, .slice p3e12 n3e12 c3e12]) op (op.map dimOf) (flat RX)] := hH
        have HE := Lib.hid (E0.trans hH.ext); clear hH
        go_wp2
        go_ret
        exact ⟨rfl, HE.out⟩
end Go.Proofs.Ytpegckmagiaggaa
