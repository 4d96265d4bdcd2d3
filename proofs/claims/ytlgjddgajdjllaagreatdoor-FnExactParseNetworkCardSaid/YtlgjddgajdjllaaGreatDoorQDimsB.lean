/- dimsOf of the program, where a label has two dimensions. -/
import Derived.Test.YtlgjddgajdjllaaGreatDoorQG8
set_option linter.unusedSimpArgs false
set_option linter.unusedVariables false
namespace Go.Proofs.YtlgjddgajdjllaaGreatDoor
open Go.RowKit
set_option maxRecDepth 100000 in
set_option maxHeartbeats 4000000 in
theorem dimsOf_bad {T : List Ten3} {j0 q0 : Nat} {t0 : Ten3} {x0 d0 : Int} (hb : BadAt T j0 q0 t0 x0 d0) (hT : Axs3 T) (hm : T.length ≤ 1000) (v : Value) (w : World) (hv : TensS w v T) :
 Calls Tryz.prog 30 #[v] w fun e w' => ∃ A : List Int, e = .returned (.tuple #[.agg (arrV A), .bool false]) ∧ A.length = 100 ∧ Ext w w' := by
 obtain ⟨m, hml⟩ : ∃ m, T.length = m := ⟨_, rfl⟩
 obtain ⟨aV, cV, rfl, hcV1, hcV2⟩ := hv.val
 rw [hml] at hcV1 hv hm ⊢
 have HML := Lib.hid hml; clear hml
 have HB := Lib.hid hb; have HX := Lib.hid hT
 have hj0 : j0 < m := by have := (List.getElem?_eq_some_iff.1 hb.ten).1; rw [HML.out] at this; exact this
 obtain ⟨dm, hdm⟩ : ∃ f, dimF T = f := ⟨_, rfl⟩
 clear hb hT
 go_enter Tryz.func30, Tryz.ntmps30
 go_wp2_with (first | (refine wpList_alloc_arr rfl rfl ?_))
 have hH : Held w ((w.alloc (.cells (arrV (List.replicate 100 0)) 62)).alloc (.cells (arrV (List.replicate 100 0)) 62)) [aB (w.heap.size) 62 (ints (List.replicate 100 0)), aB (w.heap.size + 1) 62 (ints (arrL dm (occ3 (T.take 0))))] := by
  have h := ((Held.new (Ext.refl w) 2).addB 0 (arrV (List.replicate 100 0)) 62).addB 1 (arrV (List.replicate 100 0)) 62
  have e : (w.alloc (.cells (arrV (List.replicate 100 0)) 62)).heap.size = w.heap.size + 1 := by simp
  rw [arrV_list, e] at h
  rw [List.take_zero, show occ3 ([] : List Ten3) = [] from rfl, arrL_zero]
  exact h
 go_loopw [11] (fun i wr => ∃ j : Nat, j ≤ j0 ∧ i = .int .i64 (j : Int) ∧ Held w wr [aB (w.heap.size) 62 (ints (List.replicate 100 0)), aB (w.heap.size + 1) 62 (ints (arrL dm (occ3 (T.take j))))]) (fun i wr => m - (RowKit.intOf i).toNat)
 case atStart => exact ⟨0, Nat.zero_le _, rfl, hH⟩
 case round =>
  clear hH
  obtain ⟨j, hj, rfl, hH⟩ := hrel
  have hlt : j < m := by omega
  obtain ⟨bV, oV, u1, u2, u3, t1, hV, hu0, hu1, hu2, ht1, hTu⟩ := hv.get (i := j) (by rw [HML.out]; exact hlt)
  subst hV
  obtain ⟨L1, D1, X1⟩ := t1
  obtain ⟨e1, m1, f1, e2, m2, f2, e3, m3, f3, hvv⟩ := hTu.shape
  simp at hvv
  obtain ⟨rfl, rfl, rfl⟩ := hvv
  rw [Nat.mul_comm 3 j] at hu0 hu1 hu2
  have htm := List.mem_of_getElem? ht1
  obtain ⟨_, _, _, hvv, hTL, hTD, hTX⟩ := hTu.val
  simp at hvv
  obtain ⟨rfl, rfl, rfl⟩ := hvv
  obtain ⟨_, _, hvv, _, _⟩ := hTL.val
  simp at hvv
  obtain ⟨rfl, rfl, rfl⟩ := hvv
  obtain ⟨_, _, hvv, _, _⟩ := hTD.val
  simp at hvv
  obtain ⟨rfl, rfl, rfl⟩ := hvv
  have HAX := Lib.hid (HX.out.ax _ htm)
  have HDL : Hid (D1.length = L1.length) := Lib.hid HAX.out.len.symm
  rw [HDL.out] at hu1 hTD hTu
  have HLB : Hid (∀ x ∈ L1, (0 ≤ x ∧ x ≤ 99) ∧ 1 ≤ dimF T x ∧ dimF T x ≤ 8) := Lib.hid (fun x hx => ⟨HAX.out.labs x hx, dimF_bounds HX.out (List.mem_flatMap.2 ⟨_, htm, hx⟩)⟩)
  have HRK : L1.length ≤ 12 := HAX.out.rank
  have HQ0 : Hid (∃ Q : Nat, Q ≤ L1.length ∧ (∀ i, i < Q → D1[i]? = (L1[i]?).map (dimF T)) ∧ ((j < j0 ∧ Q = L1.length) ∨ (j = j0 ∧ Q = q0 ∧ t0 = (L1, D1, X1)))) := Lib.hid (by
   rcases Nat.lt_or_ge j j0 with h | h
   · refine ⟨L1.length, Nat.le_refl _, fun i _ => ?_, .inl ⟨h, rfl⟩⟩
     have h2 := HB.out.bef.dims (L1, D1, X1) (List.mem_iff_getElem?.2 ⟨j, by rw [List.getElem?_take, if_pos h]; exact ht1⟩)
     simp only at h2
     rw [h2, List.getElem?_map]
   · have hj2 : j = j0 := by omega
     have h3 := HB.out.ten; rw [← hj2, ht1] at h3
     have h4 := Option.some.inj h3
     have hlab := HB.out.lab; have hrow := HB.out.row; rw [← h4] at hlab hrow
     have := (List.getElem?_eq_some_iff.1 hlab).1
     exact ⟨q0, by simp only at this; omega, hrow, .inr ⟨hj2, rfl, h4.symm⟩⟩)
  obtain ⟨Q, hQL, hQr, hQe⟩ := HQ0.out
  have HQR := Lib.hid hQr; have HQE := Lib.hid hQe; clear hQr hQe HQ0
  have HT1 := Lib.hid ht1; clear htm ht1
  rw [hdm] at HQR HLB
  obtain ⟨S, hS⟩ : ∃ q, occ3 (T.take j) = q := ⟨_, rfl⟩
  rw [hS] at hH
  have HS := Lib.hid (show occ3 (T.take (j + 1)) = S ++ L1 by rw [occ3_snoc HT1.out, hS]); have HS0 := Lib.hid hS; clear hS
  obtain ⟨wj, rfl⟩ : ∃ q, q = wr := ⟨wr, rfl⟩
  have c_hu0 := hH.ext.cell hu0; have c_hu1 := hH.ext.cell hu1; have c_hu2 := hH.ext.cell hu2
  go_wp2_with fail
  clear c_hu0 c_hu1 c_hu2
  have hB : Held w (wj.alloc (.cells #[.slice e1 L1.length f1, .slice e2 L1.length f2, .slice e3 m3 f3] 52)) [aB (w.heap.size) 62 (ints (List.replicate 100 0)), aB (w.heap.size + 1) 62 (ints (arrL dm S)), aB (wj.heap.size) 52 [.slice e1 L1.length f1, .slice e2 L1.length f2, .slice e3 m3 f3]] := by
   have h := (hH.mores 1).addB 2 #[.slice e1 L1.length f1, .slice e2 L1.length f2, .slice e3 m3 f3] 52
   exact h
  have hsz : (wj.alloc (.cells #[.slice e1 L1.length f1, .slice e2 L1.length f2, .slice e3 m3 f3] 52)).heap.size = wj.heap.size + 1 := by simp
  generalize wj.alloc (.cells #[.slice e1 L1.length f1, .slice e2 L1.length f2, .slice e3 m3 f3] 52) = wn1 at hB hsz ⊢
  replace hH := hB; have HSZwn1 := Lib.hid hsz; clear hB hsz
  obtain ⟨tb, htb⟩ : ∃ q, wj.heap.size = q := ⟨_, rfl⟩
  rw [htb] at hH ⊢
  clear htb
  go_loopw [18] (fun i wr => ∃ q : Nat, q ≤ Q ∧ i = .int .i64 (q : Int) ∧ Held w wr [aB (w.heap.size) 62 (ints (List.replicate 100 0)), aB (w.heap.size + 1) 62 (ints (arrL dm (S ++ L1.take q))), aB tb 52 [.slice e1 L1.length f1, .slice e2 L1.length f2, .slice e3 m3 f3]]) (fun i wr => L1.length - (RowKit.intOf i).toNat)
  case atStart => exact ⟨0, Nat.zero_le _, rfl, by rw [List.take_zero, List.append_nil]; exact hH⟩
  case round =>
   clear hH
   obtain ⟨q, hq, rfl, hH⟩ := hrel
   by_cases hlQ : q < Q
   ·
    have hlq : q < L1.length := by omega
    obtain ⟨bL, oL, x, rfl, hcL, hx, _⟩ := hTL.get hlq
    obtain ⟨bD, oD, y, rfl, hcD, hy, _⟩ := hTD.get (i := q) (by rw [HDL.out]; exact hlq)
    obtain rfl : y = dm x := by have h := HQR.out q hlQ; rw [hx, hy] at h; exact Option.some.inj h
    obtain ⟨⟨hx0, hx1⟩, hdx, hdy⟩ := HLB.out x (List.mem_of_getElem? hx)
    obtain ⟨c, rfl⟩ : ∃ c : Nat, x = (c : Int) := ⟨x.toNat, by omega⟩
    have hc : c < 100 := by omega
    have HQ := Lib.hid (show S ++ L1.take (q + 1) = S ++ L1.take q ++ [(c : Int)] by rw [take_snoc' hx, List.append_assoc])
    obtain ⟨P, hP⟩ : ∃ P, S ++ L1.take q = P := ⟨_, rfl⟩
    rw [hP] at hH HQ
    clear hP hx hy
    have hcA := (hH.blk (k := 1) rfl).cell (j := c) (u := .int .i64 (if hasL P (c : Int) = true then dm c else 0)) (by rw [ints_get, arrL_get dm P hc]; rfl)
    have hfA := (hH.blk (k := 1) rfl).free c; have hlA := hH.bl 1 rfl
    have hcL0 : (0 : Int) ≤ (c : Int) := Int.natCast_nonneg c
    have hcL1 : (c : Int) < 100 := by omega
    have hH2 : ∀ nq, Held w ((wr.drewN nq).setCell ⟨w.heap.size + 1, c, none⟩ (.int .i64 (dm c))) [aB (w.heap.size) 62 (ints (List.replicate 100 0)), aB (w.heap.size + 1) 62 (ints (arrL dm (P ++ [(c : Int)]))), aB tb 52 [.slice (some ⟨bL, oL, none⟩) L1.length f1, .slice (some ⟨bD, oD, none⟩) L1.length f2, .slice e3 m3 f3]] := fun nq => by
     have h := (hH.grow ((Ext.refl _).drewN nq)).setB (k := 1) rfl c (.int .i64 (dm c))
     rw [ints_set, arrL_set dm P hc] at h
     exact h
    by_cases hh : hasL P (c : Int) = true
    · rw [if_pos hh] at hcA
      have hdn : ¬ dm c = 0 := by omega
      obtain ⟨q2_0, q2_1, q2_2, l2_⟩ := hH.c3 2 rfl; have c_hu0 := hH.ext.cell hu0; have c_hu1 := hH.ext.cell hu1; have c_hu2 := hH.ext.cell hu2; have c_hcL := hH.ext.cell hcL; have c_hcD := hH.ext.cell hcD
      clear hh
      go_wp2_with (go_quiet (fail))
      go_roundw
      case rel => exact ⟨q + 1, by omega, by go_num, by rw [HQ.out]; exact hH2 _⟩
      case measure => simp [RowKit.intOf]; omega
    · rw [if_neg hh] at hcA
      obtain ⟨q2_0, q2_1, q2_2, l2_⟩ := hH.c3 2 rfl; have c_hu0 := hH.ext.cell hu0; have c_hu1 := hH.ext.cell hu1; have c_hu2 := hH.ext.cell hu2; have c_hcL := hH.ext.cell hcL; have c_hcD := hH.ext.cell hcD
      clear hh
      go_wp2_with (go_quiet (fail))
      go_roundw
      case rel => exact ⟨q + 1, by omega, by go_num, by rw [HQ.out]; exact hH2 _⟩
      case measure => simp [RowKit.intOf]; omega
   ·
    have hqe : q = Q := by omega
    subst hqe
    rcases HQE.out with ⟨hjj, hqL⟩ | ⟨hjj, hqL, htt⟩
    · subst hqL
      have hne : ¬ L1.length < L1.length := Nat.lt_irrefl _
      rw [List.take_length, ← HS.out] at hH
      go_wp2_with fail
      go_roundw
      case rel => exact ⟨j + 1, by omega, by go_num, hH.sub (.cons_cons _ (.cons_cons _ (.cons _ .slnil)))⟩
      case measure => simp [RowKit.intOf]; omega
    · subst hjj hqL
      have hlab := HB.out.lab; have hdim := HB.out.dim; have hne := HB.out.ne; have hold := HB.out.old
      rw [htt] at hlab hdim; rw [hdm] at hne
      simp only at hlab hdim
      have hlq : q < L1.length := (List.getElem?_eq_some_iff.1 hlab).1
      obtain ⟨bL, oL, x, rfl, hcL, hx, _⟩ := hTL.get hlq
      obtain ⟨bD, oD, y, rfl, hcD, hy, _⟩ := hTD.get (i := q) (by rw [HDL.out]; exact hlq)
      obtain rfl : x0 = x := by rw [hlab] at hx; exact Option.some.inj hx
      obtain rfl : d0 = y := by rw [hdim] at hy; exact Option.some.inj hy
      obtain ⟨⟨hx0, hx1⟩, hdx, hdy⟩ := HLB.out x0 (List.mem_of_getElem? hx)
      obtain ⟨c, rfl⟩ : ∃ c : Nat, x0 = (c : Int) := ⟨x0.toNat, by omega⟩
      have hc : c < 100 := by omega
      have hhas : hasL (S ++ L1.take q) (c : Int) = true := (hasL_iff _ _).2 (List.mem_append_left _ (by rw [← HS0.out]; exact hold))
      have HDM : Hid (dm c ≠ d0) := Lib.hid hne
      have hdn : ¬ dm c = 0 := by omega
      have hdd : (dm c == d0) = false := by rw [beq_eq_false_iff_ne]; exact hne
      have hdi : ¬ dm c = d0 := hne
      have hbn : (dm c != d0) = true := by rw [bne_iff_ne]; exact hne
      have hbz : (dm c != 0) = true := by rw [bne_iff_ne]; exact hdn
      obtain ⟨P, hP⟩ : ∃ P, S ++ L1.take q = P := ⟨_, rfl⟩
      rw [hP] at hH hhas
      clear hP hx hy hlab hdim hne hold htt
      have hcA := (hH.blk (k := 1) rfl).cell (j := c) (u := .int .i64 (dm c)) (by rw [ints_get, arrL_get dm P hc, if_pos hhas]; rfl)
      have hfA := (hH.blk (k := 1) rfl).free c; have hlA := hH.bl 1 rfl
      have hcL0 : (0 : Int) ≤ (c : Int) := Int.natCast_nonneg c
      have hcL1 : (c : Int) < 100 := by omega
      obtain ⟨q2_0, q2_1, q2_2, l2_⟩ := hH.c3 2 rfl; have c_hu0 := hH.ext.cell hu0; have c_hu1 := hH.ext.cell hu1; have c_hu2 := hH.ext.cell hu2; have c_hcL := hH.ext.cell hcL; have c_hcD := hH.ext.cell hcD
      clear hhas
      have hB0 := hH.blk (k := 0) rfl; have hB1 := hH.blk (k := 1) rfl; have HE := Lib.hid hH.ext; have hb0 := hB0.lt; have hb1 := hB1.lt
      go_wp2_with (first | (refine wpList_load_arr rfl _ rfl rfl (hB1.ext ((Ext.refl _).drewN _)) (arrL_length _ _) ?_) | (refine wpList_store_arr rfl _ _ rfl rfl rfl (hB0.ext ((Ext.refl _).drewN _)) (arrL_length _ _) (List.length_replicate ..) ?_; rintro w3 g3 B3 s3) | (go_quiet (fail)))
      refine bodyPost_ret (results_arr rfl rfl rfl B3 (arrL_length _ _)) rfl ?_
      exact ⟨_, rfl, arrL_length _ _, (HE.out.trans ((Ext.refl _).drewN _)).only g3 fun k hk => by cases hk; exact Nat.le_refl _⟩
end Go.Proofs.YtlgjddgajdjllaaGreatDoor
