/- l12Dims and NetworkOk of the reference, of valid tensors over a valid ring and any open labels. -/
import Derived.Test.YtlgjddgajdjllaaGreatDoorQG8
import Derived.Test.YtlgjddgajdjllaaGreatDoorQNetSW
set_option linter.unusedSimpArgs false
set_option linter.unusedVariables false
namespace Go.Proofs.YtlgjddgajdjllaaGreatDoor
open Go.RowKit
theorem dimF_if {T : List Ten3} (x : Int) : (if hasL (occ3 T) x = true then dimF T x else 0) = dimF T x := by
  by_cases h : hasL (occ3 T) x = true
  · rw [if_pos h]
  · rw [if_neg h, dimF_no fun e => h ((hasL_iff _ _).2 e)]
theorem Dims3.sub {dm : Int → Int} {T A : List Ten3} (h : Dims3 dm T) (hs : ∀ t ∈ A, t ∈ T) : Dims3 dm A := ⟨fun t ht => h.dims t (hs t ht), fun t ht => h.labs t (hs t ht), fun t ht => h.rank t (hs t ht)⟩
theorem tsize_ge (L D : List Int) : decide (0 ≤ tsize L D) = !(tsize L D == -1) := by
  by_cases h : tsize L D = -1
  · rw [h]; rfl
  · have ha := tsize_iff.1 h
    have h2 : 1 ≤ tsize L D := by rw [ha.tsize]; exact ha.pos
    rw [decide_eq_true (by omega), beq_eq_false_iff_ne.2 h]; rfl
theorem axs3_ofS {k p n : Int} (hr : ringOk k p n = true) {T : List Ten3} (h : ∀ t ∈ T, tensOk k p n t.1 t.2.1 t.2.2 = true) : Axs3 T := ⟨fun t ht => ((tensOk_iff hr).1 (h t ht)).ax⟩
set_option maxRecDepth 100000 in
set_option maxHeartbeats 4000000 in
theorem l12Dims_gen {T : List Ten3} (hd : Dims3 (dimF T) T) (hm : T.length ≤ 1000) {L : List Int} (hlen : L.length ≤ 1000000000) (v lv : Value) (w : World) (hv : TensS w v T) (hlv : IntS w lv L) :
 Calls Tryz.prog 98 #[v, lv] w fun e w' => ∃ u, e = .returned u ∧ OwnI w' w.heap.size u (L.map (dimF T)) ∧ Ext w w' := by
 obtain ⟨dm, hdm⟩ : ∃ f, dimF T = f := ⟨_, rfl⟩
 have HIF : Hid (∀ x, (if hasL (occ3 T) x = true then dm x else 0) = dm x) := Lib.hid fun x => by rw [← hdm]; exact dimF_if x
 rw [hdm] at hd ⊢
 clear hdm
 have hv0 := hv
 obtain ⟨aV, cV, rfl, hcV1, hcV2⟩ := hv.val
 obtain ⟨aL, cL, rfl, hcL1, hcL2⟩ := hlv.val
 have HD := Lib.hid hd; have HV := Lib.hid hv0; clear hd hv0 hv
 go_enter Tryz.func98, Tryz.ntmps98
 go_wp2_with fail
 have hH : Held w _ [aI _ []] := (Held.new (Ext.refl w) 1).built 0 [] 0 rfl (by simp [maxLen]) #[] rfl
 go_loopw [5, 11] (fun vs i wr => ∃ j : Nat, j ≤ L.length ∧ i = .int .i64 (j : Int) ∧ Held w wr [aI vs ((L.take j).map dm)]) (fun vs i wr => L.length - (RowKit.intOf i).toNat)
 case atStart => exact ⟨0, Nat.zero_le _, rfl, hH⟩
 case round =>
  clear hH
  rename_i vs
  obtain ⟨j, hj, rfl, hH⟩ := hrel
  obtain ⟨S, hS⟩ : ∃ q, (L.take j).map dm = q := ⟨_, rfl⟩
  rw [hS] at hH
  have hSl : S.length ≤ 1000000000 := by rw [← hS, List.length_map, List.length_take]; omega
  have HS := Lib.hid hS; clear hS
  obtain ⟨aS, cS, hvs, _, _⟩ := (hH.ints (k := 0) rfl).val
  subst hvs
  by_cases hlt : j < L.length
  ·
   obtain ⟨bL, oL, x, rfl, hcx, hx, _⟩ := hlv.get hlt
   have hcx2 := hH.ext.cell hcx
   have HS2 := Lib.hid (show (L.take (j + 1)).map dm = S ++ [dm x] by rw [take_snoc' hx, List.map_append, HS.out]; rfl)
   clear hx hcx
   go_wp2_with fail
   refine (l12Dim_any HD.out (by omega) x _ _ (HV.out.ext hH.ext)).mono ?_; rintro e1 w1 ⟨rfl, h1⟩
   rw [HIF.out]
   replace hH : Held w w1 [aI (.slice aS S.length cS) S] := hH.grow h1
   clear h1 hcx2
   go_wp2_with (at_builtin; refine wpList_app _ rfl _ _ 27 rfl _ _ rfl rfl _ (run_push _ _ w.heap.size _ S (dm x) (hH.own (k := 0) rfl) (by omega) (by have := hH.size; omega)) ?_; rintro v2 w2 ⟨o2, g2, n2⟩)
   go_roundw
   case rel => exact ⟨j + 1, by omega, by go_num, by have h := hH.pushed (k := 0) rfl o2 g2 n2; rw [← HS2.out] at h; exact h⟩
   case measure => simp [RowKit.intOf]; omega
  ·
   have hje : j = L.length := by omega
   subst hje
   have hT := HS.out; rw [List.take_length] at hT
   have HO := Lib.hid (hH.own (k := 0) rfl); have HE := Lib.hid hH.ext; clear hH
   have HT := Lib.hid hT; clear hT
   go_wp2
   go_ret
   exact ⟨_, rfl, by rw [HT.out]; exact HO.out, HE.out⟩
set_option maxRecDepth 100000 in
set_option maxHeartbeats 4000000 in
theorem networkOk_badS {k p n : Int} (hr : ringOk k p n = true) {T : List Ten3} (hK : ∀ t ∈ T, tensOk k p n t.1 t.2.1 t.2.2 = true) (hm12 : T.length ≤ 12) {O : List Int} (hO9 : O.length ≤ 1000000000) {j0 q0 : Nat} {t0 : Ten3} {x0 d0 : Int} (hb : BadAt T j0 q0 t0 x0 d0) (tv ov : Value) (w : World) (hT : TensS w tv T) (hO : IntS w ov O) :
 Calls Tryz.prog 75 #[.agg #[.int .i64 k, .int .i64 p, .int .i64 n, tv, ov]] w fun e w' => e = .returned (.bool false) ∧ Ext w w' := by
 have hT0 := hT
 have hO0 := hO
 obtain ⟨m, hm⟩ : ∃ m, T.length = m := ⟨_, rfl⟩
 obtain ⟨aV, cV, rfl, hcT1, hcT2⟩ := hT.val
 obtain ⟨aO, cO, rfl, hcO1, hcO2⟩ := hO.val
 rw [hm] at hT hT0 hcT1 hm12
 rw [hm]
 have HM := Lib.hid hm; have HR := Lib.hid hr; have HK := Lib.hid hK; have HX := Lib.hid (axs3_ofS hr hK); clear hm hr hK
 have HB := Lib.hid hb
 have hj0 : j0 < m := by have := (List.getElem?_eq_some_iff.1 hb.ten).1; rw [HM.out] at this; exact this
 have HDB : Hid (∀ j, j ≤ j0 → Dims3 (dimF T) (T.take j)) := Lib.hid fun j hj => hb.bef.sub fun t ht => by
  obtain ⟨i, hi⟩ := List.getElem?_of_mem ht
  rw [List.getElem?_take] at hi
  split at hi
  · exact List.mem_of_getElem? (i := i) (by rw [List.getElem?_take, if_pos (by omega)]; exact hi)
  · cases hi
 clear hb
 obtain ⟨dm, hdm⟩ : ∃ f, dimF T = f := ⟨_, rfl⟩
 have HBD : Hid (∀ x, x ∈ occ3 T → 1 ≤ dm x) := Lib.hid fun x hx => by rw [← hdm]; exact (dimF_bounds HX.out hx).1
 rw [hdm] at HDB
 have HDM := Lib.hid hdm; clear hdm
 have hb12 : ¬ (12 : Int) < (m : Int) := by omega
 go_enter Tryz.func75, Tryz.ntmps75
 go_upto_region 1 with fail
 have hH : Held w w [] := Held.new (Ext.refl w) 0
 have hB : Held w (w.alloc (.cells #[.int .i64 k, .int .i64 p, .int .i64 n, .slice aV m cV, .slice aO O.length cO] 29)) [aB (w.heap.size) 29 [.int .i64 k, .int .i64 p, .int .i64 n, .slice aV m cV, .slice aO O.length cO]] := by
  have h := (hH.mores 1).addB 0 #[.int .i64 k, .int .i64 p, .int .i64 n, .slice aV m cV, .slice aO O.length cO] 29
  exact h
 have hsz : (w.alloc (.cells #[.int .i64 k, .int .i64 p, .int .i64 n, .slice aV m cV, .slice aO O.length cO] 29)).heap.size = w.heap.size + 1 := by simp
 generalize w.alloc (.cells #[.int .i64 k, .int .i64 p, .int .i64 n, .slice aV m cV, .slice aO O.length cO] 29) = wn1 at hB hsz ⊢
 replace hH := hB; have HSZwn1 := Lib.hid hsz; clear hB hsz
 obtain ⟨wz, rfl⟩ : ∃ q, q = wn1 := ⟨wn1, rfl⟩
 obtain ⟨q0_0, q0_1, q0_2, q0_3, q0_4, l0_⟩ := hH.c5 0 rfl
 go_wp2_with fail
 clear q0_0 q0_1 q0_2 q0_3 q0_4 l0_
 refine (ringOk_spec k p n _).mono ?_; rintro ewn2 wn2 ⟨rfl, hwn2⟩
 rw [HR.out]
 replace hH : Held w wn2 [aB (w.heap.size) 29 [.int .i64 k, .int .i64 p, .int .i64 n, .slice aV m cV, .slice aO O.length cO]] := hH.grow hwn2
 clear hwn2
 obtain ⟨q0_0, q0_1, q0_2, q0_3, q0_4, l0_⟩ := hH.c5 0 rfl
 go_wp2_with fail
 clear q0_0 q0_1 q0_2 q0_3 q0_4 l0_
 clear hb12
 go_loopw [21] (fun i wr => ∃ j : Nat, j ≤ j0 ∧ i = .int .i64 (j : Int) ∧ Held w wr [aB (w.heap.size) 29 [.int .i64 k, .int .i64 p, .int .i64 n, .slice aV m cV, .slice aO O.length cO]]) (fun i wr => m - (RowKit.intOf i).toNat)
 case atStart => exact ⟨0, Nat.zero_le _, rfl, hH⟩
 case round =>
  clear hH
  obtain ⟨j, hj, rfl, hH⟩ := hrel
  obtain ⟨wq, rfl⟩ : ∃ q, q = wr := ⟨wr, rfl⟩
  have hlt : j < m := by omega
  obtain ⟨bT, oT, u1, u2, u3, t3, hV, hu0, hu1, hu2, ht3, hTu⟩ := hT.get (i := j) (by rw [HM.out]; exact hlt)
  subst hV
  have HTK := Lib.hid (HK.out t3 (List.mem_of_getElem? ht3)); have HAX := Lib.hid (HX.out.ax t3 (List.mem_of_getElem? ht3))
  have HTM := Lib.hid (List.mem_of_getElem? ht3)
  have HT3 := Lib.hid ht3; clear ht3
  obtain ⟨tl, td, tx⟩ := t3
  obtain ⟨e1, m1, f1, e2, m2, f2, e3, m3, f3, hvv⟩ := hTu.shape
  simp at hvv
  obtain ⟨rfl, rfl, rfl⟩ := hvv
  obtain ⟨_, _, _, hvv, hTL, hTD, hTX⟩ := hTu.val
  simp at hvv
  obtain ⟨rfl, rfl, rfl⟩ := hvv
  obtain ⟨_, _, hvv, _, _⟩ := hTL.val
  simp at hvv
  obtain ⟨rfl, rfl, rfl⟩ := hvv
  obtain ⟨_, _, hvv, _, _⟩ := hTD.val
  simp at hvv
  obtain ⟨rfl, rfl, rfl⟩ := hvv
  have HDL : Hid (td.length = tl.length) := Lib.hid HAX.out.len.symm
  rw [HDL.out] at hu1 hTD hTu
  rw [Nat.mul_comm 3 j] at hu0 hu1 hu2
  simp only at hTu
  have HQ0 : Hid (∃ Q : Nat, Q ≤ tl.length ∧ (∀ i, i < Q → td[i]? = (tl[i]?).map dm) ∧ ((j < j0 ∧ Q = tl.length) ∨ (j = j0 ∧ Q = q0 ∧ t0 = (tl, td, tx)))) := Lib.hid (by
   rcases Nat.lt_or_ge j j0 with h | h
   · refine ⟨tl.length, Nat.le_refl _, fun i _ => ?_, .inl ⟨h, rfl⟩⟩
     have h2 := HB.out.bef.dims (tl, td, tx) (List.mem_iff_getElem?.2 ⟨j, by rw [List.getElem?_take, if_pos h]; exact HT3.out⟩)
     simp only at h2
     rw [h2, List.getElem?_map, HDM.out]
   · have hj2 : j = j0 := by omega
     have h3 := HB.out.ten; rw [← hj2, HT3.out] at h3
     have h4 := Option.some.inj h3
     have hlab := HB.out.lab; have hrow := HB.out.row; rw [← h4] at hlab hrow
     rw [HDM.out] at hrow
     have := (List.getElem?_eq_some_iff.1 hlab).1
     exact ⟨q0, by simp only at this; omega, hrow, .inr ⟨hj2, rfl, h4.symm⟩⟩)
  obtain ⟨Q, hQL, hQr, hQe⟩ := HQ0.out
  have HQR := Lib.hid hQr; have HQE := Lib.hid hQe; clear hQr hQe HQ0
  obtain ⟨q0_0, q0_1, q0_2, q0_3, q0_4, l0_⟩ := hH.c5 0 rfl; have c_hu0 := hH.ext.cell hu0; have c_hu1 := hH.ext.cell hu1; have c_hu2 := hH.ext.cell hu2
  go_upto_region 6 with fail
  clear q0_0 q0_1 q0_2 q0_3 q0_4 l0_ c_hu0 c_hu1 c_hu2
  have hB : Held w (wq.alloc (.cells #[.slice e1 tl.length f1, .slice e2 tl.length f2, .slice e3 m3 f3] 52)) [aB (w.heap.size) 29 [.int .i64 k, .int .i64 p, .int .i64 n, .slice (some ⟨bT, oT, none⟩) m cV, .slice aO O.length cO], aB (wq.heap.size) 52 [.slice e1 tl.length f1, .slice e2 tl.length f2, .slice e3 m3 f3]] := by
   have h := (hH.mores 1).addB 1 #[.slice e1 tl.length f1, .slice e2 tl.length f2, .slice e3 m3 f3] 52
   exact h
  have hsz : (wq.alloc (.cells #[.slice e1 tl.length f1, .slice e2 tl.length f2, .slice e3 m3 f3] 52)).heap.size = wq.heap.size + 1 := by simp
  generalize wq.alloc (.cells #[.slice e1 tl.length f1, .slice e2 tl.length f2, .slice e3 m3 f3] 52) = wn3 at hB hsz ⊢
  replace hH := hB; have HSZwn3 := Lib.hid hsz; clear hB hsz
  obtain ⟨q0_0, q0_1, q0_2, q0_3, q0_4, l0_⟩ := hH.c5 0 rfl; obtain ⟨q1_0, q1_1, q1_2, l1_⟩ := hH.c3 1 rfl; have c_hu0 := hH.ext.cell hu0; have c_hu1 := hH.ext.cell hu1; have c_hu2 := hH.ext.cell hu2
  go_wp2_with fail
  clear q0_0 q0_1 q0_2 q0_3 q0_4 l0_ q1_0 q1_1 q1_2 l1_ c_hu0 c_hu1 c_hu2
  refine (tensorOk_spec k p n _ tl td tx _ (hTu.ext hH.ext)).mono ?_; rintro ewn4 wn4 ⟨rfl, hwn4⟩
  rw [HTK.out]
  replace hH : Held w wn4 [aB (w.heap.size) 29 [.int .i64 k, .int .i64 p, .int .i64 n, .slice (some ⟨bT, oT, none⟩) m cV, .slice aO O.length cO], aB (wq.heap.size) 52 [.slice e1 tl.length f1, .slice e2 tl.length f2, .slice e3 m3 f3]] := hH.grow hwn4
  clear hwn4
  obtain ⟨q0_0, q0_1, q0_2, q0_3, q0_4, l0_⟩ := hH.c5 0 rfl; obtain ⟨q1_0, q1_1, q1_2, l1_⟩ := hH.c3 1 rfl; have c_hu0 := hH.ext.cell hu0; have c_hu1 := hH.ext.cell hu1; have c_hu2 := hH.ext.cell hu2
  go_wp2_with fail
  clear q0_0 q0_1 q0_2 q0_3 q0_4 l0_ q1_0 q1_1 q1_2 l1_ c_hu0 c_hu1 c_hu2
  go_loopw [34] (fun i wr => ∃ q : Nat, q ≤ Q ∧ i = .int .i64 (q : Int) ∧ Held w wr [aB (w.heap.size) 29 [.int .i64 k, .int .i64 p, .int .i64 n, .slice (some ⟨bT, oT, none⟩) m cV, .slice aO O.length cO], aB (wq.heap.size) 52 [.slice e1 tl.length f1, .slice e2 tl.length f2, .slice e3 m3 f3]]) (fun i wr => tl.length - (RowKit.intOf i).toNat)
  case atStart => exact ⟨0, Nat.zero_le _, rfl, hH⟩
  case round =>
   clear hH
   obtain ⟨q, hq, rfl, hH⟩ := hrel
   obtain ⟨wt, rfl⟩ : ∃ q, q = wr := ⟨wr, rfl⟩
   by_cases hlt2 : q < Q
   ·
    have hlq : q < tl.length := by omega
    obtain ⟨bE, oE, x, rfl, hce, hx, _⟩ := hTL.get hlq
    obtain ⟨bD, oD, y, rfl, hcd, hy, _⟩ := hTD.get (i := q) (by rw [HDL.out]; exact hlq)
    obtain rfl : y = dm x := by have h := HQR.out q hlt2; rw [hx, hy] at h; exact Option.some.inj h
    have hdx : 1 ≤ dm x := HBD.out x (List.mem_flatMap.2 ⟨_, HTM.out, List.mem_of_getElem? hx⟩)
    clear hx hy
    have hjc : (j : Int) ≤ (cV : Int) := by omega
    have hj0i : (0 : Int) ≤ (j : Int) := by omega
    have HTK2 := Lib.hid (hT.takeS (j := j) (by rw [HM.out]; omega))
    obtain ⟨q0_0, q0_1, q0_2, q0_3, q0_4, l0_⟩ := hH.c5 0 rfl; obtain ⟨q1_0, q1_1, q1_2, l1_⟩ := hH.c3 1 rfl; have c_hu0 := hH.ext.cell hu0; have c_hu1 := hH.ext.cell hu1; have c_hu2 := hH.ext.cell hu2; have c_hce := hH.ext.cell hce; have c_hcd := hH.ext.cell hcd
    go_wp2_with fail
    clear q0_0 q0_1 q0_2 q0_3 q0_4 l0_ q1_0 q1_1 q1_2 l1_ c_hu0 c_hu1 c_hu2 c_hce c_hcd
    refine (l12Dim_any (HDB.out j (by omega)) (by rw [List.length_take, HM.out]; omega) x _ _ (HTK2.out.ext hH.ext)).mono ?_; rintro ewn5 wn5 ⟨rfl, hwn5⟩
    replace hH : Held w wn5 [aB (w.heap.size) 29 [.int .i64 k, .int .i64 p, .int .i64 n, .slice (some ⟨bT, oT, none⟩) m cV, .slice aO O.length cO], aB (wq.heap.size) 52 [.slice (some ⟨bE, oE, none⟩) tl.length f1, .slice (some ⟨bD, oD, none⟩) tl.length f2, .slice e3 m3 f3]] := hH.grow hwn5
    clear hwn5
    by_cases hox : hasL (occ3 (T.take j)) x = true
    · rw [if_pos hox]
      clear hox
      obtain ⟨q0_0, q0_1, q0_2, q0_3, q0_4, l0_⟩ := hH.c5 0 rfl; obtain ⟨q1_0, q1_1, q1_2, l1_⟩ := hH.c3 1 rfl; have c_hu0 := hH.ext.cell hu0; have c_hu1 := hH.ext.cell hu1; have c_hu2 := hH.ext.cell hu2; have c_hce := hH.ext.cell hce; have c_hcd := hH.ext.cell hcd
      go_wp2_with fail
      go_roundw
      case rel => exact ⟨q + 1, by omega, by go_num, hH⟩
      case measure => simp [RowKit.intOf]; omega
    · rw [if_neg hox]
      clear hox
      obtain ⟨q0_0, q0_1, q0_2, q0_3, q0_4, l0_⟩ := hH.c5 0 rfl; obtain ⟨q1_0, q1_1, q1_2, l1_⟩ := hH.c3 1 rfl; have c_hu0 := hH.ext.cell hu0; have c_hu1 := hH.ext.cell hu1; have c_hu2 := hH.ext.cell hu2; have c_hce := hH.ext.cell hce; have c_hcd := hH.ext.cell hcd
      go_wp2_with fail
      go_roundw
      case rel => exact ⟨q + 1, by omega, by go_num, hH⟩
      case measure => simp [RowKit.intOf]; omega
   ·
    have hqe : q = Q := by omega
    subst hqe
    rcases HQE.out with ⟨hjj, hqL⟩ | ⟨hjj, hqL, htt⟩
    · subst hqL
      have hnl : ¬ tl.length < tl.length := Nat.lt_irrefl _
      go_wp2_with fail
      go_roundw
      case rel => exact ⟨j + 1, by omega, by go_num, hH.sub (.cons_cons _ (.cons _ .slnil))⟩
      case measure => simp [RowKit.intOf]; omega
    · subst hjj hqL
      have hlab := HB.out.lab; have hdim := HB.out.dim; have hne := HB.out.ne; have hold := HB.out.old
      rw [htt] at hlab hdim; rw [HDM.out] at hne
      simp only at hlab hdim
      have hlq : q < tl.length := (List.getElem?_eq_some_iff.1 hlab).1
      obtain ⟨bE, oE, x, rfl, hce, hx, _⟩ := hTL.get hlq
      obtain ⟨bD, oD, y, rfl, hcd, hy, _⟩ := hTD.get (i := q) (by rw [HDL.out]; exact hlq)
      obtain rfl : x0 = x := by rw [hlab] at hx; exact Option.some.inj hx
      obtain rfl : d0 = y := by rw [hdim] at hy; exact Option.some.inj hy
      have hdx : 1 ≤ dm x0 := HBD.out x0 (List.mem_flatMap.2 ⟨_, HTM.out, List.mem_of_getElem? hx⟩)
      have HHA := Lib.hid ((hasL_iff _ _).2 hold)
      have hd0 : (0 : Int) < dm x0 := by omega
      have hdd : (dm x0 == d0) = false := by rw [beq_eq_false_iff_ne]; exact hne
      have hbn : (dm x0 != d0) = true := by rw [bne_iff_ne]; exact hne
      have hdi : ¬ dm x0 = d0 := hne
      clear hx hy hlab hdim hne hold htt
      have hjc : (j : Int) ≤ (cV : Int) := by omega
      have hj0i : (0 : Int) ≤ (j : Int) := by omega
      have HTK2 := Lib.hid (hT.takeS (j := j) (by rw [HM.out]; omega))
      obtain ⟨q0_0, q0_1, q0_2, q0_3, q0_4, l0_⟩ := hH.c5 0 rfl; obtain ⟨q1_0, q1_1, q1_2, l1_⟩ := hH.c3 1 rfl; have c_hu0 := hH.ext.cell hu0; have c_hu1 := hH.ext.cell hu1; have c_hu2 := hH.ext.cell hu2; have c_hce := hH.ext.cell hce; have c_hcd := hH.ext.cell hcd
      go_wp2_with fail
      clear q0_0 q0_1 q0_2 q0_3 q0_4 l0_ q1_0 q1_1 q1_2 l1_ c_hu0 c_hu1 c_hu2 c_hce c_hcd
      refine (l12Dim_any (HDB.out j (by omega)) (by rw [List.length_take, HM.out]; omega) x0 _ _ (HTK2.out.ext hH.ext)).mono ?_; rintro ewn6 wn6 ⟨rfl, hwn6⟩
      rw [if_pos HHA.out]
      replace hH : Held w wn6 [aB (w.heap.size) 29 [.int .i64 k, .int .i64 p, .int .i64 n, .slice (some ⟨bT, oT, none⟩) m cV, .slice aO O.length cO], aB (wq.heap.size) 52 [.slice (some ⟨bE, oE, none⟩) tl.length f1, .slice (some ⟨bD, oD, none⟩) tl.length f2, .slice e3 m3 f3]] := hH.grow hwn6
      clear hwn6
      obtain ⟨q0_0, q0_1, q0_2, q0_3, q0_4, l0_⟩ := hH.c5 0 rfl; obtain ⟨q1_0, q1_1, q1_2, l1_⟩ := hH.c3 1 rfl; have c_hu0 := hH.ext.cell hu0; have c_hu1 := hH.ext.cell hu1; have c_hu2 := hH.ext.cell hu2; have c_hce := hH.ext.cell hce; have c_hcd := hH.ext.cell hcd
      have HE := Lib.hid hH.ext
      go_wp2
      all_goals go_ret
      all_goals exact ⟨rfl, HE.out⟩
set_option maxRecDepth 100000 in
set_option maxHeartbeats 4000000 in
theorem networkOk_goodS {k p n : Int} (hr : ringOk k p n = true) {T : List Ten3} (hK : ∀ t ∈ T, tensOk k p n t.1 t.2.1 t.2.2 = true) (hm12 : T.length ≤ 12) {O : List Int} (hO9 : O.length ≤ 1000000000) (hc : consB T = true) (tv ov : Value) (w : World) (hT : TensS w tv T) (hO : IntS w ov O) :
 Calls Tryz.prog 75 #[.agg #[.int .i64 k, .int .i64 p, .int .i64 n, tv, ov]] w fun e w' => e = .returned (.bool (openB T O)) ∧ Ext w w' := by
 have hT0 := hT
 have hO0 := hO
 obtain ⟨m, hm⟩ : ∃ m, T.length = m := ⟨_, rfl⟩
 obtain ⟨aV, cV, rfl, hcT1, hcT2⟩ := hT.val
 obtain ⟨aO, cO, rfl, hcO1, hcO2⟩ := hO.val
 rw [hm] at hT hT0 hcT1 hm12
 rw [hm]
 have HM := Lib.hid hm; have HR := Lib.hid hr; have HK := Lib.hid hK; have HX := Lib.hid (axs3_ofS hr hK); clear hm hr hK
 have HDT := Lib.hid (cons_dims3 HX.out hc)
 have HDB : Hid (∀ j, j ≤ m → Dims3 (dimF T) (T.take j)) := Lib.hid fun j hj => HDT.out.sub fun t ht => List.mem_of_mem_take ht
 obtain ⟨SZ, hSZ⟩ : ∃ q, tsize O (O.map (dimF T)) = q := ⟨_, rfl⟩
 have HSB : Hid (openB T O = decide (0 ≤ SZ)) := Lib.hid (by rw [← hSZ, tsize_ge]; rfl)
 rw [HSB.out]
 have HSZ := Lib.hid hSZ; clear hSZ hc
 obtain ⟨dm, hdm⟩ : ∃ f, dimF T = f := ⟨_, rfl⟩
 have HBD : Hid (∀ x, x ∈ occ3 T → 1 ≤ dm x) := Lib.hid fun x hx => by rw [← hdm]; exact (dimF_bounds HX.out hx).1
 rw [hdm] at HDB HSZ
 have HDM := Lib.hid hdm; clear hdm
 have hb12 : ¬ (12 : Int) < (m : Int) := by omega
 go_enter Tryz.func75, Tryz.ntmps75
 go_upto_region 1 with fail
 have hH : Held w w [] := Held.new (Ext.refl w) 0
 have hB : Held w (w.alloc (.cells #[.int .i64 k, .int .i64 p, .int .i64 n, .slice aV m cV, .slice aO O.length cO] 29)) [aB (w.heap.size) 29 [.int .i64 k, .int .i64 p, .int .i64 n, .slice aV m cV, .slice aO O.length cO]] := by
  have h := (hH.mores 1).addB 0 #[.int .i64 k, .int .i64 p, .int .i64 n, .slice aV m cV, .slice aO O.length cO] 29
  exact h
 have hsz : (w.alloc (.cells #[.int .i64 k, .int .i64 p, .int .i64 n, .slice aV m cV, .slice aO O.length cO] 29)).heap.size = w.heap.size + 1 := by simp
 generalize w.alloc (.cells #[.int .i64 k, .int .i64 p, .int .i64 n, .slice aV m cV, .slice aO O.length cO] 29) = wn1 at hB hsz ⊢
 replace hH := hB; have HSZwn1 := Lib.hid hsz; clear hB hsz
 obtain ⟨wz, rfl⟩ : ∃ q, q = wn1 := ⟨wn1, rfl⟩
 obtain ⟨q0_0, q0_1, q0_2, q0_3, q0_4, l0_⟩ := hH.c5 0 rfl
 go_wp2_with fail
 clear q0_0 q0_1 q0_2 q0_3 q0_4 l0_
 refine (ringOk_spec k p n _).mono ?_; rintro ewn2 wn2 ⟨rfl, hwn2⟩
 rw [HR.out]
 replace hH : Held w wn2 [aB (w.heap.size) 29 [.int .i64 k, .int .i64 p, .int .i64 n, .slice aV m cV, .slice aO O.length cO]] := hH.grow hwn2
 clear hwn2
 obtain ⟨q0_0, q0_1, q0_2, q0_3, q0_4, l0_⟩ := hH.c5 0 rfl
 go_wp2_with fail
 clear q0_0 q0_1 q0_2 q0_3 q0_4 l0_
 clear hb12
 go_loopw [21] (fun i wr => ∃ j : Nat, j ≤ m ∧ i = .int .i64 (j : Int) ∧ Held w wr [aB (w.heap.size) 29 [.int .i64 k, .int .i64 p, .int .i64 n, .slice aV m cV, .slice aO O.length cO]]) (fun i wr => m - (RowKit.intOf i).toNat)
 case atStart => exact ⟨0, Nat.zero_le _, rfl, hH⟩
 case round =>
  clear hH
  obtain ⟨j, hj, rfl, hH⟩ := hrel
  obtain ⟨wq, rfl⟩ : ∃ q, q = wr := ⟨wr, rfl⟩
  by_cases hlt : j < m
  ·
   obtain ⟨bT, oT, u1, u2, u3, t3, hV, hu0, hu1, hu2, ht3, hTu⟩ := hT.get (i := j) (by rw [HM.out]; exact hlt)
   subst hV
   have HTK := Lib.hid (HK.out t3 (List.mem_of_getElem? ht3)); have HAX := Lib.hid (HX.out.ax t3 (List.mem_of_getElem? ht3))
   have HTM := Lib.hid (List.mem_of_getElem? ht3)
   have HT3 := Lib.hid ht3; clear ht3
   obtain ⟨tl, td, tx⟩ := t3
   obtain ⟨e1, m1, f1, e2, m2, f2, e3, m3, f3, hvv⟩ := hTu.shape
   simp at hvv
   obtain ⟨rfl, rfl, rfl⟩ := hvv
   obtain ⟨_, _, _, hvv, hTL, hTD, hTX⟩ := hTu.val
   simp at hvv
   obtain ⟨rfl, rfl, rfl⟩ := hvv
   obtain ⟨_, _, hvv, _, _⟩ := hTL.val
   simp at hvv
   obtain ⟨rfl, rfl, rfl⟩ := hvv
   obtain ⟨_, _, hvv, _, _⟩ := hTD.val
   simp at hvv
   obtain ⟨rfl, rfl, rfl⟩ := hvv
   have HDL : Hid (td.length = tl.length) := Lib.hid HAX.out.len.symm
   rw [HDL.out] at hu1 hTD hTu
   rw [Nat.mul_comm 3 j] at hu0 hu1 hu2
   simp only at hTu
   have HQR : Hid (∀ i : Nat, td[i]? = (tl[i]?).map dm) := Lib.hid (fun i => by have h2 := HDT.out.dims (tl, td, tx) HTM.out; simp only at h2; rw [h2, List.getElem?_map, HDM.out])
   obtain ⟨q0_0, q0_1, q0_2, q0_3, q0_4, l0_⟩ := hH.c5 0 rfl; have c_hu0 := hH.ext.cell hu0; have c_hu1 := hH.ext.cell hu1; have c_hu2 := hH.ext.cell hu2
   go_upto_region 6 with fail
   clear q0_0 q0_1 q0_2 q0_3 q0_4 l0_ c_hu0 c_hu1 c_hu2
   have hB : Held w (wq.alloc (.cells #[.slice e1 tl.length f1, .slice e2 tl.length f2, .slice e3 m3 f3] 52)) [aB (w.heap.size) 29 [.int .i64 k, .int .i64 p, .int .i64 n, .slice (some ⟨bT, oT, none⟩) m cV, .slice aO O.length cO], aB (wq.heap.size) 52 [.slice e1 tl.length f1, .slice e2 tl.length f2, .slice e3 m3 f3]] := by
    have h := (hH.mores 1).addB 1 #[.slice e1 tl.length f1, .slice e2 tl.length f2, .slice e3 m3 f3] 52
    exact h
   have hsz : (wq.alloc (.cells #[.slice e1 tl.length f1, .slice e2 tl.length f2, .slice e3 m3 f3] 52)).heap.size = wq.heap.size + 1 := by simp
   generalize wq.alloc (.cells #[.slice e1 tl.length f1, .slice e2 tl.length f2, .slice e3 m3 f3] 52) = wn3 at hB hsz ⊢
   replace hH := hB; have HSZwn3 := Lib.hid hsz; clear hB hsz
   obtain ⟨q0_0, q0_1, q0_2, q0_3, q0_4, l0_⟩ := hH.c5 0 rfl; obtain ⟨q1_0, q1_1, q1_2, l1_⟩ := hH.c3 1 rfl; have c_hu0 := hH.ext.cell hu0; have c_hu1 := hH.ext.cell hu1; have c_hu2 := hH.ext.cell hu2
   go_wp2_with fail
   clear q0_0 q0_1 q0_2 q0_3 q0_4 l0_ q1_0 q1_1 q1_2 l1_ c_hu0 c_hu1 c_hu2
   refine (tensorOk_spec k p n _ tl td tx _ (hTu.ext hH.ext)).mono ?_; rintro ewn4 wn4 ⟨rfl, hwn4⟩
   rw [HTK.out]
   replace hH : Held w wn4 [aB (w.heap.size) 29 [.int .i64 k, .int .i64 p, .int .i64 n, .slice (some ⟨bT, oT, none⟩) m cV, .slice aO O.length cO], aB (wq.heap.size) 52 [.slice e1 tl.length f1, .slice e2 tl.length f2, .slice e3 m3 f3]] := hH.grow hwn4
   clear hwn4
   obtain ⟨q0_0, q0_1, q0_2, q0_3, q0_4, l0_⟩ := hH.c5 0 rfl; obtain ⟨q1_0, q1_1, q1_2, l1_⟩ := hH.c3 1 rfl; have c_hu0 := hH.ext.cell hu0; have c_hu1 := hH.ext.cell hu1; have c_hu2 := hH.ext.cell hu2
   go_wp2_with fail
   clear q0_0 q0_1 q0_2 q0_3 q0_4 l0_ q1_0 q1_1 q1_2 l1_ c_hu0 c_hu1 c_hu2
   go_loopw [34] (fun i wr => ∃ q : Nat, q ≤ tl.length ∧ i = .int .i64 (q : Int) ∧ Held w wr [aB (w.heap.size) 29 [.int .i64 k, .int .i64 p, .int .i64 n, .slice (some ⟨bT, oT, none⟩) m cV, .slice aO O.length cO], aB (wq.heap.size) 52 [.slice e1 tl.length f1, .slice e2 tl.length f2, .slice e3 m3 f3]]) (fun i wr => tl.length - (RowKit.intOf i).toNat)
   case atStart => exact ⟨0, Nat.zero_le _, rfl, hH⟩
   case round =>
    clear hH
    obtain ⟨q, hq, rfl, hH⟩ := hrel
    obtain ⟨wt, rfl⟩ : ∃ q, q = wr := ⟨wr, rfl⟩
    by_cases hlt2 : q < tl.length
    ·
     have hlq := hlt2
     obtain ⟨bE, oE, x, rfl, hce, hx, _⟩ := hTL.get hlq
     obtain ⟨bD, oD, y, rfl, hcd, hy, _⟩ := hTD.get (i := q) (by rw [HDL.out]; exact hlq)
     obtain rfl : y = dm x := by have h := HQR.out q; rw [hx, hy] at h; exact Option.some.inj h
     have hdx : 1 ≤ dm x := HBD.out x (List.mem_flatMap.2 ⟨_, HTM.out, List.mem_of_getElem? hx⟩)
     clear hx hy
     have hjc : (j : Int) ≤ (cV : Int) := by omega
     have hj0i : (0 : Int) ≤ (j : Int) := by omega
     have HTK2 := Lib.hid (hT.takeS (j := j) (by rw [HM.out]; omega))
     obtain ⟨q0_0, q0_1, q0_2, q0_3, q0_4, l0_⟩ := hH.c5 0 rfl; obtain ⟨q1_0, q1_1, q1_2, l1_⟩ := hH.c3 1 rfl; have c_hu0 := hH.ext.cell hu0; have c_hu1 := hH.ext.cell hu1; have c_hu2 := hH.ext.cell hu2; have c_hce := hH.ext.cell hce; have c_hcd := hH.ext.cell hcd
     go_wp2_with fail
     clear q0_0 q0_1 q0_2 q0_3 q0_4 l0_ q1_0 q1_1 q1_2 l1_ c_hu0 c_hu1 c_hu2 c_hce c_hcd
     refine (l12Dim_any (HDB.out j (by omega)) (by rw [List.length_take, HM.out]; omega) x _ _ (HTK2.out.ext hH.ext)).mono ?_; rintro ewn5 wn5 ⟨rfl, hwn5⟩
     replace hH : Held w wn5 [aB (w.heap.size) 29 [.int .i64 k, .int .i64 p, .int .i64 n, .slice (some ⟨bT, oT, none⟩) m cV, .slice aO O.length cO], aB (wq.heap.size) 52 [.slice (some ⟨bE, oE, none⟩) tl.length f1, .slice (some ⟨bD, oD, none⟩) tl.length f2, .slice e3 m3 f3]] := hH.grow hwn5
     clear hwn5
     by_cases hox : hasL (occ3 (T.take j)) x = true
     · rw [if_pos hox]
       clear hox
       obtain ⟨q0_0, q0_1, q0_2, q0_3, q0_4, l0_⟩ := hH.c5 0 rfl; obtain ⟨q1_0, q1_1, q1_2, l1_⟩ := hH.c3 1 rfl; have c_hu0 := hH.ext.cell hu0; have c_hu1 := hH.ext.cell hu1; have c_hu2 := hH.ext.cell hu2; have c_hce := hH.ext.cell hce; have c_hcd := hH.ext.cell hcd
       go_wp2_with fail
       go_roundw
       case rel => exact ⟨q + 1, by omega, by go_num, hH⟩
       case measure => simp [RowKit.intOf]; omega
     · rw [if_neg hox]
       clear hox
       obtain ⟨q0_0, q0_1, q0_2, q0_3, q0_4, l0_⟩ := hH.c5 0 rfl; obtain ⟨q1_0, q1_1, q1_2, l1_⟩ := hH.c3 1 rfl; have c_hu0 := hH.ext.cell hu0; have c_hu1 := hH.ext.cell hu1; have c_hu2 := hH.ext.cell hu2; have c_hce := hH.ext.cell hce; have c_hcd := hH.ext.cell hcd
       go_wp2_with fail
       go_roundw
       case rel => exact ⟨q + 1, by omega, by go_num, hH⟩
       case measure => simp [RowKit.intOf]; omega
    ·
     go_wp2_with fail
     go_roundw
     case rel => exact ⟨j + 1, by omega, by go_num, hH.sub (.cons_cons _ (.cons _ .slnil))⟩
     case measure => simp [RowKit.intOf]; omega
  ·
   have hje : j = m := by omega
   subst hje
   obtain ⟨m, hmj⟩ : ∃ q, q = j := ⟨j, rfl⟩
   subst hmj
   clear hlt hj
   obtain ⟨wa, rfl⟩ : ∃ q, q = wq := ⟨wq, rfl⟩
   obtain ⟨q0_0, q0_1, q0_2, q0_3, q0_4, l0_⟩ := hH.c5 0 rfl
   go_upto_region 16 with fail
   clear q0_0 q0_1 q0_2 q0_3 q0_4 l0_
   replace hH := hH.mores 1
   replace hH : Held w wa [aB (w.heap.size) 29 [.int .i64 k, .int .i64 p, .int .i64 n, .slice aV m cV, .slice aO O.length cO], emp] := hH
   refine wp_region_steps ?Fa (fun b t wx => Held w wx [aB (w.heap.size) 29 [.int .i64 k, .int .i64 p, .int .i64 n, .slice aV m cV, .slice aO O.length cO], (bif b 6 then aI (t 6) (O.map dm) else emp)] ∧ (b 0 = true → t 0 = .pointer (some ⟨w.heap.size, 4, none⟩)) ∧ (b 1 = true → t 1 = .slice aO O.length cO) ∧ (b 2 = true → t 2 = .pointer (some ⟨w.heap.size, 3, none⟩)) ∧ (b 3 = true → t 3 = .slice aV m cV) ∧ (b 4 = true → t 4 = .pointer (some ⟨w.heap.size, 4, none⟩)) ∧ (b 5 = true → t 5 = .slice aO O.length cO) ∧ (b 6 = true → ∃ x c, t 6 = .slice x O.length c) ∧ (b 7 = true → t 7 = .agg #[.slice aO O.length cO, t 6, .slice none 0 0]) ∧ (b 8 = true → t 8 = .int .i64 SZ) ∧ (b 9 = true → t 9 = .bool (decide (0 ≤ SZ))) ∧ (b 10 = true → t 10 = .bool (decide (0 ≤ SZ)))) ?hFa (by kernel_rfl) (by kernel_rfl) ?hJa ?hSa ?hEa
   (case hFa => intro t; simp only [putAll, Act.put, List.setIfInBounds_toArray, List.set_cons_zero, List.set_cons_succ, Nat.reduceAdd, Nat.zero_add]; exact rfl)
   case hJa => exact ⟨hH.grow ((Ext.refl _).drew), nof, nof, nof, nof, nof, nof, nof, nof, nof, nof, nof⟩
   case hSa => as_aux_lemma =>
     refine AllSteps.cons (j := 1) rfl (fun b t wx hJ hb hd hcl Kc hK => ?_) ?_
     · obtain ⟨hH, v0, v1, v2, v3, v4, v5, v6, v7, v8, v9, v10⟩ := hJ
       go_simp
       refine hK.out _ ?_ _ ?_ ?_; rotate_left 2
       · rfl
       exact ⟨hH, fun _ => rfl, v1, v2, v3, v4, v5, v6, v7, v8, v9, v10⟩
     refine AllSteps.cons (j := 2) rfl (fun b t wx hJ hb hd hcl Kc hK => ?_) ?_
     · obtain ⟨hH, v0, v1, v2, v3, v4, v5, v6, v7, v8, v9, v10⟩ := hJ
       have d0 := hd.out 0 (by kernel_rfl); have r0 := v0 d0; have q0_4 := hH.cl 0 4 rfl rfl
       go_simp
       refine hK.out _ ?_ _ ?_ ?_; rotate_left 2
       · (try simp only [r0]); rfl
       exact ⟨hH, v0, fun _ => rfl, v2, v3, v4, v5, v6, v7, v8, v9, v10⟩
     refine AllSteps.cons (j := 3) rfl (fun b t wx hJ hb hd hcl Kc hK => ?_) ?_
     · obtain ⟨hH, v0, v1, v2, v3, v4, v5, v6, v7, v8, v9, v10⟩ := hJ
       go_simp
       refine hK.out _ ?_ _ ?_ ?_; rotate_left 2
       · rfl
       exact ⟨hH, v0, v1, fun _ => rfl, v3, v4, v5, v6, v7, v8, v9, v10⟩
     refine AllSteps.cons (j := 4) rfl (fun b t wx hJ hb hd hcl Kc hK => ?_) ?_
     · obtain ⟨hH, v0, v1, v2, v3, v4, v5, v6, v7, v8, v9, v10⟩ := hJ
       have d2 := hd.out 2 (by kernel_rfl); have r2 := v2 d2; have q0_3 := hH.cl 0 3 rfl rfl
       go_simp
       refine hK.out _ ?_ _ ?_ ?_; rotate_left 2
       · (try simp only [r2]); rfl
       exact ⟨hH, v0, v1, v2, fun _ => rfl, v4, v5, v6, v7, v8, v9, v10⟩
     refine AllSteps.cons (j := 5) rfl (fun b t wx hJ hb hd hcl Kc hK => ?_) ?_
     · obtain ⟨hH, v0, v1, v2, v3, v4, v5, v6, v7, v8, v9, v10⟩ := hJ
       go_simp
       refine hK.out _ ?_ _ ?_ ?_; rotate_left 2
       · rfl
       exact ⟨hH, v0, v1, v2, v3, fun _ => rfl, v5, v6, v7, v8, v9, v10⟩
     refine AllSteps.cons (j := 6) rfl (fun b t wx hJ hb hd hcl Kc hK => ?_) ?_
     · obtain ⟨hH, v0, v1, v2, v3, v4, v5, v6, v7, v8, v9, v10⟩ := hJ
       have d4 := hd.out 4 (by kernel_rfl); have r4 := v4 d4; have q0_4 := hH.cl 0 4 rfl rfl
       go_simp
       refine hK.out _ ?_ _ ?_ ?_; rotate_left 2
       · (try simp only [r4]); rfl
       exact ⟨hH, v0, v1, v2, v3, v4, fun _ => rfl, v6, v7, v8, v9, v10⟩
     refine AllSteps.cons (j := 7) rfl (fun b t wx hJ hb hd hcl Kc hK => ?_) ?_
     · obtain ⟨hH, v0, v1, v2, v3, v4, v5, v6, v7, v8, v9, v10⟩ := hJ
       have d3 := hd.out 3 (by kernel_rfl); have d5 := hd.out 5 (by kernel_rfl)
       have n7 : b 7 = false := Bool.eq_false_iff.2 fun h => absurd (hcl.out 7 6 (by kernel_rfl) (h)) (by rw [hb]; exact Bool.false_ne_true)
       have r3 := v3 d3; have r5 := v5 d5
       have hN := hH; (try simp only [hb, d3, d5, n7, cond_true, cond_false] at hN)
       go_simp
       go_at_call 98
       refine (l12Dims_gen HDT.out (by rw [HM.out]; omega) hO9 _ _ _ (hT0.ext hH.ext) (hO0.ext hH.ext)).mono ?_; rintro e6 w6 ⟨v6, rfl, o6, h6⟩
       rw [HDM.out] at o6
       obtain ⟨x6, c6, rfl⟩ := o6.shape1 O.length (by rw [List.length_map])
       (try go_simp)
       refine hK.out _ ?_ _ ?_ ?_; rotate_left 2
       · (try simp only [r3, r5]); rfl
       exact ⟨by have hX := hN.addI 1 h6 o6 (Nat.le_refl _); simpa only [List.set_cons_zero, List.set_cons_succ, updB, updV, blkOf_mk, tup0_mk, partsOf3, Nat.reduceBEq, cond_true, cond_false, hb, d3, d5, n7, r3, r5] using hX, v0, v1, v2, v3, v4, v5, fun _ => ⟨_, _, rfl⟩, fun h => absurd (show b 7 = true from h) (by rw [n7]; exact Bool.false_ne_true), v8, v9, v10⟩
     refine AllSteps.cons (j := 8) rfl (fun b t wx hJ hb hd hcl Kc hK => ?_) ?_
     · obtain ⟨hH, v0, v1, v2, v3, v4, v5, v6, v7, v8, v9, v10⟩ := hJ
       have d1 := hd.out 1 (by kernel_rfl); have d6 := hd.out 6 (by kernel_rfl); have r1 := v1 d1; have r6 := v6 d6
       obtain ⟨x_6, c_6, r6⟩ := r6
       go_simp
       refine hK.out _ ?_ _ ?_ ?_; rotate_left 2
       · (try simp only [r1, r6]); rfl
       exact ⟨hH, v0, v1, v2, v3, v4, v5, v6, fun _ => (by show Value.agg _ = Value.agg #[_, t 6, _]; rw [r6]), v8, v9, v10⟩
     refine AllSteps.cons (j := 9) rfl (fun b t wx hJ hb hd hcl Kc hK => ?_) ?_
     · obtain ⟨hH, v0, v1, v2, v3, v4, v5, v6, v7, v8, v9, v10⟩ := hJ
       have d6 := hd.out 6 (by kernel_rfl); have d7 := hd.out 7 (by kernel_rfl); have r6 := v6 d6; have r7 := v7 d7
       obtain ⟨x_6, c_6, r6⟩ := r6
       have hN := hH; (try simp only [hb, d6, d7, cond_true, cond_false] at hN)
       rw [r6] at hN -- d6
       rw [r6] at r7 -- d6 d7
       have hN6 := hN.ints (k := 1) rfl
       go_simp
       go_at_call 97
       refine (tensorSize_spec _ O (O.map dm) [] _ ⟨_, _, _, rfl, hO0.ext hH.ext, hN6, IntS.nil _⟩).mono ?_; rintro e8 w8 ⟨rfl, h8⟩
       rw [HSZ.out]
       (try go_simp)
       refine hK.out _ ?_ _ ?_ ?_; rotate_left 2
       · (try simp only [r6, r7]); rfl
       exact ⟨by have hX := hN.grow h8; simpa only [List.set_cons_zero, List.set_cons_succ, updB, updV, blkOf_mk, tup0_mk, partsOf3, Nat.reduceBEq, cond_true, cond_false, hb, d6, d7, r6, r7] using hX, v0, v1, v2, v3, v4, v5, v6, v7, fun _ => rfl, v9, v10⟩
     refine AllSteps.cons (j := 10) rfl (fun b t wx hJ hb hd hcl Kc hK => ?_) ?_
     · obtain ⟨hH, v0, v1, v2, v3, v4, v5, v6, v7, v8, v9, v10⟩ := hJ
       have d8 := hd.out 8 (by kernel_rfl); have r8 := v8 d8
       go_simp
       refine hK.out _ ?_ _ ?_ ?_; rotate_left 2
       · (try simp only [r8]); rfl
       exact ⟨hH, v0, v1, v2, v3, v4, v5, v6, v7, v8, fun _ => rfl, v10⟩
     refine AllSteps.cons (j := 11) rfl (fun b t wx hJ hb hd hcl Kc hK => ?_) ?_
     · obtain ⟨hH, v0, v1, v2, v3, v4, v5, v6, v7, v8, v9, v10⟩ := hJ
       have d0 := hd.out 0 (by kernel_rfl); have d1 := hd.out 1 (by kernel_rfl); have d2 := hd.out 2 (by kernel_rfl); have d3 := hd.out 3 (by kernel_rfl); have d4 := hd.out 4 (by kernel_rfl); have d5 := hd.out 5 (by kernel_rfl); have d6 := hd.out 6 (by kernel_rfl); have d7 := hd.out 7 (by kernel_rfl); have d8 := hd.out 8 (by kernel_rfl); have d9 := hd.out 9 (by kernel_rfl); have r0 := v0 d0; have r1 := v1 d1; have r2 := v2 d2; have r3 := v3 d3; have r4 := v4 d4; have r5 := v5 d5; have r6 := v6 d6; have r7 := v7 d7; have r8 := v8 d8; have r9 := v9 d9
       obtain ⟨x_6, c_6, r6⟩ := r6
       go_simp
       refine hK.out _ ?_ _ ?_ ?_; rotate_left 2
       · (try simp only [r0, r1, r2, r3, r4, r5, r6, r7, r8, r9]); rfl
       exact ⟨hH, v0, v1, v2, v3, v4, v5, v6, v7, v8, v9, fun _ => rfl⟩
     exact AllSteps.nil
   case hEa =>
    intro b t wa hJ hall
    obtain ⟨hHa, v0, v1, v2, v3, v4, v5, v6, v7, v8, v9, v10⟩ := hJ
    have a0 := hall 0 (by decide); have a1 := hall 1 (by decide); have a2 := hall 2 (by decide); have a3 := hall 3 (by decide); have a4 := hall 4 (by decide); have a5 := hall 5 (by decide); have a6 := hall 6 (by decide); have a7 := hall 7 (by decide); have a8 := hall 8 (by decide); have a9 := hall 9 (by decide); have a10 := hall 10 (by decide)
    (try simp only [a0, a1, a2, a3, a4, a5, a6, a7, a8, a9, a10, cond_true] at hHa)
    replace v0 := v0 a0; replace v1 := v1 a1; replace v2 := v2 a2; replace v3 := v3 a3; replace v4 := v4 a4; replace v5 := v5 a5; replace v6 := v6 a6; replace v7 := v7 a7; replace v8 := v8 a8; replace v9 := v9 a9; replace v10 := v10 a10
    clear hall a0 a1 a2 a3 a4 a5 a6 a7 a8 a9 a10
    generalize t 10 = x10 at hHa v10 ⊢; generalize t 9 = x9 at hHa v9 ⊢; generalize t 8 = x8 at hHa v8 ⊢; generalize t 7 = x7 at hHa v7 ⊢; generalize t 6 = x6 at hHa v6 v7 ⊢; generalize t 5 = x5 at hHa v5 ⊢; generalize t 4 = x4 at hHa v4 ⊢; generalize t 3 = x3 at hHa v3 ⊢; generalize t 2 = x2 at hHa v2 ⊢; generalize t 1 = x1 at hHa v1 ⊢; generalize t 0 = x0 at hHa v0 ⊢; subst v0; subst v1; subst v2; subst v3; subst v4; subst v5
    obtain ⟨xa6, ca6, rfl⟩ := v6
    subst v7; subst v8; subst v9; subst v10
    clear b
    replace hH := hHa; clear hHa
    replace hH : Held w wa [aB (w.heap.size) 29 [.int .i64 k, .int .i64 p, .int .i64 n, .slice aV m cV, .slice aO O.length cO], aI (.slice xa6 O.length ca6) (O.map dm)] := hH
    have HE := Lib.hid hH.ext; clear hH
    go_wp2
    all_goals go_ret
    all_goals exact ⟨rfl, HE.out⟩
theorem networkOk_genS {k p n : Int} (hr : ringOk k p n = true) {T : List Ten3} (hK : ∀ t ∈ T, tensOk k p n t.1 t.2.1 t.2.2 = true) (hm12 : T.length ≤ 12) {O : List Int} (hO9 : O.length ≤ 1000000000) (tv ov : Value) (w : World) (hT : TensS w tv T) (hO : IntS w ov O) :
    Calls Tryz.prog 75 #[.agg #[.int .i64 k, .int .i64 p, .int .i64 n, tv, ov]] w fun e w' => e = .returned (.bool (netB T O)) ∧ Ext w w' := by
  cases hc : consB T with
  | false =>
    obtain ⟨j, q, t, x, d, hb⟩ := bad_of (axs3_ofS hr hK) hc
    have h := networkOk_badS hr hK hm12 hO9 hb tv ov w hT hO
    unfold netB
    rw [hc, Bool.false_and]
    exact h
  | true =>
    have h := networkOk_goodS hr hK hm12 hO9 hc tv ov w hT hO
    unfold netB
    rw [hc, Bool.true_and]
    exact h
end Go.Proofs.YtlgjddgajdjllaaGreatDoor
