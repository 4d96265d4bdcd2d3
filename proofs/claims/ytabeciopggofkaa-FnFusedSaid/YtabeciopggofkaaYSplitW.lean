/- SplitLabel of the program. -/
import Derived.Test.YtabeciopggofkaaYBase
import Derived.Test.YtabeciopggofkaaYG15
import Derived.Test.YtabeciopggofkaaYSortT
import Derived.Test.YtabeciopggofkaaYContrW
import Derived.Test.YtabeciopggofkaaYG10
import Derived.Test.YtabeciopggofkaaYG5
namespace Go.Proofs.Ytabeciopggofkaa
open Go.RowKit
set_option linter.unusedSimpArgs false
set_option linter.unusedVariables false
section
variable {k p n : Int} (hr : ringOk k p n = true)
set_option maxRecDepth 100000 in
set_option maxHeartbeats 8000000 in
theorem splitLabel_any {dm : Int → Int} {U L F : List Int} {xs : List (El k p n)} (ht : IsT k p n dm U L xs) (c : Int) (hcL : c ∈ L) (hF0 : 0 < F.length) (hs : Sub U (cutL L c ++ F)) (hdi : dm c = prodL (F.map dm)) (va vF vD : Value) (w : World) (ha : TenS w va L (L.map dm) (flat xs)) (hF : IntS w vF F) (hD : IntS w vD (F.map dm)) :
    Calls Try.prog 43 #[ringV k p n, va, .int .i64 c, vF, vD] w fun e w' => ∃ u, e = .returned (.tuple #[u, .bool true]) ∧ OwnT w' w.heap.size u (cutL L c ++ F) ((cutL L c ++ F).map dm) (flat (permXs hr dm L (cutL L c ++ [c]) xs)) ∧ Ext w w' := by
  have ha0 := ha
  obtain ⟨ap1, an1, ac1, ap2, an2, ac2, ap3, an3, ac3, rfl⟩ := ha.shape
  obtain ⟨_, _, _, hvv, haL, haD, haX⟩ := ha.val
  simp at hvv
  obtain ⟨rfl, rfl, rfl⟩ := hvv
  obtain ⟨_, _, hvv, _, _⟩ := haL.val
  simp at hvv
  obtain ⟨rfl, rfl, rfl⟩ := hvv
  obtain ⟨_, _, hvv, _, _⟩ := haD.val
  simp at hvv
  obtain ⟨rfl, rfl, rfl⟩ := hvv
  obtain ⟨_, _, hvv, _, _⟩ := haX.val
  simp at hvv
  obtain ⟨rfl, rfl, rfl⟩ := hvv
  obtain ⟨aF, cF, rfl, hcF, _⟩ := hF.val
  obtain ⟨aD, cD, rfl, hcD, _⟩ := hD.val
  rw [List.length_map] at hcD
  have HT := Lib.hid ht; clear ht
  have HYA := Lib.hid (HT.out.yes hr)
  have HR := Lib.hid hr
  have hrk : L.length ≤ 12 := HT.out.ax.rank
  obtain ⟨ic, hfc, hic, hLc, hDc⟩ := map_get_find (dm := dm) hcL
  have HFC := Lib.hid hfc
  obtain ⟨bC, oC, dC, hzz, hcc, hdc, _⟩ := haD.get (i := ic) (by simpa using hic)
  cases hzz
  obtain rfl : dC = dm c := by rw [hDc] at hdc; exact (Option.some.inj hdc).symm
  have hcU : c ∈ U := HT.out.sub.sub c hcL
  have hperm : L.Perm (cutL L c ++ [c]) := by
    have h1 : (cutL L c ++ [c]).Nodup := List.nodup_append.2 ⟨by unfold cutL; exact HT.out.sub.nodup.filter _, by simp, fun a ha b hb e => by simp at hb; subst hb; subst e; exact not_mem_cutL L _ ha⟩
    rw [List.perm_ext_iff_of_nodup HT.out.sub.nodup h1]
    intro y
    rw [List.mem_append, mem_cutL, List.mem_singleton]
    constructor
    · intro hy; by_cases e : y = c; exact .inr e; exact .inl ⟨hy, e⟩
    · rintro (⟨h, _⟩ | rfl); exact h; exact hcL
  obtain ⟨RR, hRR⟩ : ∃ RR, cutL L c = RR := ⟨_, rfl⟩
  rw [hRR] at hperm hs ⊢
  have hlen : L.length = RR.length + 1 := by have := hperm.length_eq; rwa [List.length_append] at this
  obtain ⟨JJ, hJJ⟩ : ∃ JJ, RR ++ [c] = JJ := ⟨_, rfl⟩
  rw [hJJ] at hperm ⊢
  have HP := Lib.hid hperm
  have HJJ := Lib.hid hJJ
  have hJl : JJ.length = RR.length + 1 := by rw [← hJJ, List.length_append]; rfl
  have hRl : RR.length ≤ 12 := by omega
  have hJ12 : JJ.length ≤ 12 := by omega
  have hRJ : RR.length < JJ.length := by omega
  clear hlen hJl
  have HTJ := Lib.hid (perm_isT hr HT.out HP.out)
  obtain ⟨ys, hys⟩ : ∃ ys, permXs hr dm L JJ xs = ys := ⟨_, rfl⟩
  rw [hys] at HTJ ⊢
  have HYS := Lib.hid hys
  obtain ⟨LN, hLN⟩ : ∃ LN, RR ++ F = LN := ⟨_, rfl⟩
  have HLN := Lib.hid hLN
  have sF : Sub U F := ⟨(List.nodup_append.1 hs.nodup).2.1, fun l hl => hs.sub l (List.mem_append_right _ hl)⟩
  have hF12 : F.length ≤ 12 := (HT.out.uni.ax sF).rank
  have HTS : Hid (tsize F (F.map dm) = dm c) := Lib.hid (by rw [(HT.out.uni.ax sF).tsize, hdi])
  have HFT : Hid (IsT k p n dm U LN ys) := Lib.hid (by have h := HTJ.out; rw [← hJJ] at h; rw [← hLN]; exact split_isT h hs hdi)
  rw [hLN]
  obtain ⟨DN, hDN⟩ : ∃ DN, RR.map dm ++ F.map dm = DN := ⟨_, rfl⟩
  have HDN := Lib.hid hDN
  have HLD : Hid (LN.map dm = DN) := Lib.hid (by rw [← hLN, ← hDN, List.map_append])
  have HYF : Hid (tensOk k p n LN DN (flat ys) = true) := Lib.hid (by rw [← HLD.out]; exact HFT.out.yes hr)
  obtain ⟨N3, hN3⟩ : ∃ N3, (flat ys).length = N3 := ⟨_, rfl⟩
  have HN3 := Lib.hid hN3
  have HRR := Lib.hid hRR
  have hne0 : ((F.length : Int) == 0) = false := by rw [beq_eq_false_iff_ne]; omega
  rw [HLD.out]
  clear hRR hperm hJJ hys hLN hDN hN3 hs hdi hfc hLc hDc hdc hcL
  generalize hW1 : (((w.alloc (.cells #[.int .i64 k, .int .i64 p, .int .i64 n] 24)).alloc (.cells #[.slice ap1 L.length ac1, .slice (some ⟨bC, oC, none⟩) L.length ac2, .slice ap3 (flat xs).length ac3] 31)).alloc (.cells #[.slice none 0 0, .slice none 0 0, .slice none 0 0] 31)) = w1
  have h1 : Ext w w1 := by rw [← hW1]; exact (by repeat' (first | (with_reducible exact Ext.refl _) | (with_reducible assumption) | (with_reducible apply Ext.alloc) | (with_reducible apply Ext.drew) | (with_reducible apply Ext.drewN) | (refine Ext.setAt ?_ (by omega) _ _) | (refine Ext.trans ?_ (by assumption))))
  have Br : Blk w1 (w.heap.size) 24 [.int .i64 k, .int .i64 p, .int .i64 n] := by rw [← hW1]; exact (((Blk.newB (c := #[_, _, _]) (by simp)).alloc _).alloc _)
  have Ba : Blk w1 (w.heap.size + 1) 31 [.slice ap1 L.length ac1, .slice (some ⟨bC, oC, none⟩) L.length ac2, .slice ap3 (flat xs).length ac3] := by rw [← hW1]; exact ((Blk.newB (c := #[_, _, _]) (by simp)).alloc _)
  have Bz : Blk w1 (w.heap.size + 2) 31 [.slice none 0 0, .slice none 0 0, .slice none 0 0] := by rw [← hW1]; exact (Blk.newB (c := #[_, _, _]) (by simp))
  have HS1 : Hid (w1.heap.size = w.heap.size + 3) := Lib.hid (by rw [← hW1]; simp)
  have HW := Lib.hid hW1; clear hW1
  go_enter Try.func43, Try.ntmps43
  go_wp2_with fail
  rw [HW.out]
  have Kr := Br
  have Ka := Ba
  have Kz := Bz
  have kr_0 := Kr.cell (j := 0) rfl
  have kr_1 := Kr.cell (j := 1) rfl
  have kr_2 := Kr.cell (j := 2) rfl
  have ka_0 := Ka.cell (j := 0) rfl
  have ka_1 := Ka.cell (j := 1) rfl
  have ka_2 := Ka.cell (j := 2) rfl
  have Br1 := Br
  clear Br
  have ir0_1 := Br1.cell (j := 0) rfl
  have ir1_1 := Br1.cell (j := 1) rfl
  have ir2_1 := Br1.cell (j := 2) rfl
  have lr_1 := Br1.lt
  have Ba1 := Ba
  clear Ba
  have ia0_1 := Ba1.cell (j := 0) rfl
  have ia1_1 := Ba1.cell (j := 1) rfl
  have ia2_1 := Ba1.cell (j := 2) rfl
  have la_1 := Ba1.lt
  have Bz1 := Bz
  clear Bz
  have iz0_1 := Bz1.cell (j := 0) rfl
  have iz1_1 := Bz1.cell (j := 1) rfl
  have iz2_1 := Bz1.cell (j := 2) rfl
  have lz_1 := Bz1.lt
  go_wp2_with fail
  refine (tensorOk_impl k p n _ L _ _ _ (ha0.ext h1)).mono ?_; rintro e2 w2 ⟨rfl, h2⟩
  rw [HYA.out]
  clear ir0_1 ir1_1 ir2_1 lr_1 ia0_1 ia1_1 ia2_1 la_1 iz0_1 iz1_1 iz2_1 lz_1
  have Br2 := (Br1.ext h2)
  clear Br1
  have ir0_2 := Br2.cell (j := 0) rfl
  have ir1_2 := Br2.cell (j := 1) rfl
  have ir2_2 := Br2.cell (j := 2) rfl
  have lr_2 := Br2.lt
  have Ba2 := (Ba1.ext h2)
  clear Ba1
  have ia0_2 := Ba2.cell (j := 0) rfl
  have ia1_2 := Ba2.cell (j := 1) rfl
  have ia2_2 := Ba2.cell (j := 2) rfl
  have la_2 := Ba2.lt
  have Bz2 := (Bz1.ext h2)
  clear Bz1
  have iz0_2 := Bz2.cell (j := 0) rfl
  have iz1_2 := Bz2.cell (j := 1) rfl
  have iz2_2 := Bz2.cell (j := 2) rfl
  have lz_2 := Bz2.lt
  go_wp2_with fail
  refine (axisOf_any _ L _ _ c _ (ha0.ext (h1.trans h2))).mono ?_; rintro e3 w3 ⟨rfl, h3⟩
  rw [HFC.out]
  clear ir0_2 ir1_2 ir2_2 lr_2 ia0_2 ia1_2 ia2_2 la_2 iz0_2 iz1_2 iz2_2 lz_2
  have Br3 := (Br2.ext h3)
  clear Br2
  have ir0_3 := Br3.cell (j := 0) rfl
  have ir1_3 := Br3.cell (j := 1) rfl
  have ir2_3 := Br3.cell (j := 2) rfl
  have lr_3 := Br3.lt
  have Ba3 := (Ba2.ext h3)
  clear Ba2
  have ia0_3 := Ba3.cell (j := 0) rfl
  have ia1_3 := Ba3.cell (j := 1) rfl
  have ia2_3 := Ba3.cell (j := 2) rfl
  have la_3 := Ba3.lt
  have Bz3 := (Bz2.ext h3)
  clear Bz2
  have iz0_3 := Bz3.cell (j := 0) rfl
  have iz1_3 := Bz3.cell (j := 1) rfl
  have iz2_3 := Bz3.cell (j := 2) rfl
  have lz_3 := Bz3.lt
  clear ir0_3 ir1_3 ir2_3 lr_3 ia0_3 ia1_3 ia2_3 la_3 iz0_3 iz1_3 iz2_3 lz_3
  have E13 : Ext w1 w3 := h2.trans h3
  have Br3 := Kr.ext E13
  have ir0_3 := Br3.cell (j := 0) rfl
  have ir1_3 := Br3.cell (j := 1) rfl
  have ir2_3 := Br3.cell (j := 2) rfl
  have lr_3 := Br3.lt
  have Ba3 := Ka.ext E13
  have ia0_3 := Ba3.cell (j := 0) rfl
  have ia1_3 := Ba3.cell (j := 1) rfl
  have ia2_3 := Ba3.cell (j := 2) rfl
  have la_3 := Ba3.lt
  have Bz3 := Kz.ext E13
  have lz_3 := Bz3.lt
  have hcc3 := (h1.trans E13).cell hcc
  have D0 : Ext w3 w3.drew := (Ext.refl _).drew
  have hT3 : TenS w3.drew (.agg #[.slice aF F.length cF, .slice aD F.length cD, .slice none 0 0]) F (F.map dm) [] := ⟨_, _, _, rfl, (hF.ext (h1.trans E13)).ext D0, by have h := (hD.ext (h1.trans E13)).ext D0; rwa [List.length_map] at h, IntS.nil _⟩
  go_upto_region 3 with fail
  go_region_held3 (fun w' => w'.cell? ⟨w.heap.size + 1, 0, none⟩ = some (.slice ap1 L.length ac1) ∧ w'.cell? ⟨w.heap.size + 1, 1, none⟩ = some (.slice (some ⟨bC, oC, none⟩) L.length ac2) ∧ w'.cell? ⟨w.heap.size + 1, 2, none⟩ = some (.slice ap3 (flat xs).length ac3) ∧ w'.cell? ⟨bC, oC + ic, none⟩ = some (.int .i64 (dm c)))
    (refine ⟨?_, ?_, ?_, ?_⟩ <;> first | (with_reducible assumption) | exact ((Ext.refl _).drew).cell (by with_reducible assumption) | exact grown_cell (grown_setCell (grown_refl _ _) _ _) (by with_reducible assumption) (by with_reducible assumption))
    (first | (go_at_call 20; (with_reducible refine (tensorSize_impl _ F (F.map dm) [] w3.drew hT3).mono ?_); rintro e4 w4 ⟨rfl, h4⟩; rw [HTS.out]; have E34 : Ext w3 w4 := D0.trans h4; have x4_0 := E34.cell ia0_3; have x4_1 := E34.cell ia1_3; have x4_2 := E34.cell ia2_3; have x4z := E34.cell hcc3) | (go_at_call 82; (with_reducible refine (axisOf_any _ L _ _ c w4 (ha0.ext ((h1.trans E13).trans E34))).mono ?_); rintro e5 w5 ⟨rfl, h5⟩; rw [HFC.out]; have E35 : Ext w3 w5 := E34.trans h5; have x5_0 := E35.cell ia0_3; have x5_1 := E35.cell ia1_3; have x5_2 := E35.cell ia2_3; have x5z := E35.cell hcc3))
  clear ir0_3 ir1_3 ir2_3 ia0_3 ia1_3 ia2_3 lr_3 la_3 lz_3 Br3 Ba3 Bz3
  clear x4_0 x4_1 x4_2 x4z x5_0 x5_1 x5_2 x5z hcc3
  have E15 : Ext w1 w5 := E13.trans E35
  have Br5 := Kr.ext E15
  have ir0_5 := Br5.cell (j := 0) rfl
  have ir1_5 := Br5.cell (j := 1) rfl
  have ir2_5 := Br5.cell (j := 2) rfl
  have lr_5 := Br5.lt
  have Ba5 := Ka.ext E15
  have ia0_5 := Ba5.cell (j := 0) rfl
  have ia1_5 := Ba5.cell (j := 1) rfl
  have ia2_5 := Ba5.cell (j := 2) rfl
  have la_5 := Ba5.lt
  have Bz5 := Kz.ext E15
  have lz_5 := Bz5.lt
  go_wp2_with fail
  refine (withoutInt_any _ L c _ (haL.ext (h1.trans E15)) (by omega)).mono ?_; rintro e6 wb ⟨v6, rfl, hO, h6⟩
  rw [HRR.out] at hO
  obtain ⟨aQ, cQ, rfl, _, _⟩ := hO.ints.val
  clear ir0_5 ir1_5 ir2_5 ia0_5 ia1_5 ia2_5 lr_5 la_5 lz_5 Br5 Ba5 Bz5
  have hE2 : Ext w1 wb := E15.trans h6
  have hO := hO.mono (B' := w1.heap.size) E15.size
  have hs := hE2.size
  have NRS : Hid (∀ q, (Value.slice aQ RR.length cQ).ownBlock = some q → w1.heap.size ≤ q ∧ q < wb.heap.size) := Lib.hid fun q hq => hO.block_lt hq
  have hS1 := HS1.out
  have hHb : Held w1 wb [aI (.slice aQ RR.length cQ) RR, emp, emp, emp, emp] := Held.one hE2 hO 4
  clear hO
  go_upto_region 6 with fail
  refine wp_region_steps ?Fp (fun b t wx => Held w1 wx [aI (.slice aQ RR.length cQ) RR, (bif b 6 then aI (t 6) JJ else (bif b 3 then aI (t 3) RR else emp)), (bif b 7 then aT (t 7) JJ (JJ.map dm) (flat ys) else emp), (bif b 9 then aB (blkOf (t 8)) 31 (partsOf (t 7)) else (bif b 8 then aB (blkOf (t 8)) 31 [.slice none 0 0, .slice none 0 0, .slice none 0 0] else emp)), (bif b 5 then aI (t 5) [c] else emp)] ∧ (b 0 = true → t 0 = .agg #[.int .i64 k, .int .i64 p, .int .i64 n]) ∧ (b 1 = true → t 1 = .agg #[.slice ap1 L.length ac1, .slice (some ⟨bC, oC, none⟩) L.length ac2, .slice ap3 (flat xs).length ac3]) ∧ (b 2 = true → t 2 = .slice aQ RR.length cQ) ∧ (b 3 = true → ∃ x c, t 3 = .slice x RR.length c) ∧ (b 4 = true → t 4 = .int .i64 c) ∧ (b 5 = true → ∃ x c, t 5 = .slice x 1 c) ∧ (b 6 = true → ∃ x c, t 6 = .slice x JJ.length c) ∧ (b 7 = true → ∃ p1 c1 p2 c2 p3 c3, t 7 = .agg #[.slice p1 JJ.length c1, .slice p2 JJ.length c2, .slice p3 N3 c3]) ∧ (b 8 = true → ∃ q, t 8 = .pointer (some ⟨q, 0, none⟩))) ?hFp (by kernel_rfl) (by kernel_rfl) ?hJp ?hSp ?hEp
  (case hFp => intro t; simp only [putAll, Act.put, List.setIfInBounds_toArray, List.set_cons_zero, List.set_cons_succ, Nat.reduceAdd, Nat.zero_add]; exact rfl)
  case hJp => exact ⟨hHb.grow ((Ext.refl _).drew), fun h => absurd h Bool.false_ne_true, fun h => absurd h Bool.false_ne_true, fun h => absurd h Bool.false_ne_true, fun h => absurd h Bool.false_ne_true, fun h => absurd h Bool.false_ne_true, fun h => absurd h Bool.false_ne_true, fun h => absurd h Bool.false_ne_true, fun h => absurd h Bool.false_ne_true, fun h => absurd h Bool.false_ne_true⟩
  case hSp =>
    as_aux_lemma =>
      refine AllSteps.cons (j := 1) rfl (fun b t wx hJ hb hd hcl Kc hK => ?_) ?_
      · obtain ⟨hH, v0, v1, v2, v3, v4, v5, v6, v7, v8⟩ := hJ
        have c_kr_0 := hH.ext.cell kr_0
        have c_kr_1 := hH.ext.cell kr_1
        have c_kr_2 := hH.ext.cell kr_2
        have c_ka_0 := hH.ext.cell ka_0
        have c_ka_1 := hH.ext.cell ka_1
        have c_ka_2 := hH.ext.cell ka_2
        go_simp
        refine hK.out _ ?_ _ ?_ ?_; rotate_left 2
        · rfl
        exact ⟨hH, fun _ => rfl, v1, v2, v3, v4, v5, v6, v7, v8⟩
      refine AllSteps.cons (j := 2) rfl (fun b t wx hJ hb hd hcl Kc hK => ?_) ?_
      · obtain ⟨hH, v0, v1, v2, v3, v4, v5, v6, v7, v8⟩ := hJ
        have c_kr_0 := hH.ext.cell kr_0
        have c_kr_1 := hH.ext.cell kr_1
        have c_kr_2 := hH.ext.cell kr_2
        have c_ka_0 := hH.ext.cell ka_0
        have c_ka_1 := hH.ext.cell ka_1
        have c_ka_2 := hH.ext.cell ka_2
        go_simp
        refine hK.out _ ?_ _ ?_ ?_; rotate_left 2
        · rfl
        exact ⟨hH, v0, fun _ => rfl, v2, v3, v4, v5, v6, v7, v8⟩
      refine AllSteps.cons (j := 3) rfl (fun b t wx hJ hb hd hcl Kc hK => ?_) ?_
      · obtain ⟨hH, v0, v1, v2, v3, v4, v5, v6, v7, v8⟩ := hJ
        have c_kr_0 := hH.ext.cell kr_0
        have c_kr_1 := hH.ext.cell kr_1
        have c_kr_2 := hH.ext.cell kr_2
        have c_ka_0 := hH.ext.cell ka_0
        have c_ka_1 := hH.ext.cell ka_1
        have c_ka_2 := hH.ext.cell ka_2
        go_simp
        refine hK.out _ ?_ _ ?_ ?_; rotate_left 2
        · rfl
        exact ⟨hH, v0, v1, fun _ => rfl, v3, v4, v5, v6, v7, v8⟩
      refine AllSteps.cons (j := 4) rfl (fun b t wx hJ hb hd hcl Kc hK => ?_) ?_
      · obtain ⟨hH, v0, v1, v2, v3, v4, v5, v6, v7, v8⟩ := hJ
        have d2 : b 2 = true := hd.out 2 (by kernel_rfl)
        have n6 : b 6 = false := Bool.eq_false_iff.2 fun h => absurd (hcl.out 6 3 (by kernel_rfl) (h)) (by rw [hb]; exact Bool.false_ne_true)
        have r2 := v2 d2
        have hN := hH; simp only [hb, d2, n6, cond_true, cond_false] at hN
        go_simp
        go_at_call 62
        refine (copyInts_any _ RR _ (hH.ints (k := 0) rfl) (by omega)).mono ?_; rintro e3 w3 ⟨v3', rfl, o3, h3⟩
        obtain ⟨x3, c3, rfl, _, _⟩ := o3.ints.val
        (try go_simp)
        refine hK.out _ ?_ _ ?_ ?_; rotate_left 2
        · (try simp only [r2]); rfl
        exact ⟨by have hX := hN.addI 1 h3 o3 (Nat.le_refl _); (try simp only [List.set_cons_zero, List.set_cons_succ] at hX); simpa only [updB, updV, blkOf, partsOf, Nat.reduceBEq, cond_true, cond_false, hb, d2, n6, r2] using hX, v0, v1, v2, fun _ => ⟨_, _, rfl⟩, v4, v5, v6, v7, v8⟩
      refine AllSteps.cons (j := 5) rfl (fun b t wx hJ hb hd hcl Kc hK => ?_) ?_
      · obtain ⟨hH, v0, v1, v2, v3, v4, v5, v6, v7, v8⟩ := hJ
        have c_kr_0 := hH.ext.cell kr_0
        have c_kr_1 := hH.ext.cell kr_1
        have c_kr_2 := hH.ext.cell kr_2
        have c_ka_0 := hH.ext.cell ka_0
        have c_ka_1 := hH.ext.cell ka_1
        have c_ka_2 := hH.ext.cell ka_2
        go_simp
        refine hK.out _ ?_ _ ?_ ?_; rotate_left 2
        · rfl
        exact ⟨hH, v0, v1, v2, v3, fun _ => rfl, v5, v6, v7, v8⟩
      refine AllSteps.cons (j := 6) rfl (fun b t wx hJ hb hd hcl Kc hK => ?_) ?_
      · obtain ⟨hH, v0, v1, v2, v3, v4, v5, v6, v7, v8⟩ := hJ
        have d4 : b 4 = true := hd.out 4 (by kernel_rfl)
        have r4 := v4 d4
        have hN := hH; simp only [hb, d4, cond_true, cond_false] at hN
        go_simp
        refine hK.out _ ?_ _ ?_ ?_; rotate_left 2
        · (try simp only [r4]); rfl
        exact ⟨by have hX := hN.built 4 [c] 1 rfl (by simp [maxLen]) #[.int .i64 c] rfl; (try simp only [List.set_cons_zero, List.set_cons_succ] at hX); simpa only [updB, updV, blkOf, partsOf, Nat.reduceBEq, cond_true, cond_false, hb, d4, r4] using hX, v0, v1, v2, v3, v4, fun _ => ⟨_, _, rfl⟩, v6, v7, v8⟩
      refine AllSteps.cons (j := 7) rfl (fun b t wx hJ hb hd hcl Kc hK => ?_) ?_
      · obtain ⟨hH, v0, v1, v2, v3, v4, v5, v6, v7, v8⟩ := hJ
        have d3 : b 3 = true := hd.out 3 (by kernel_rfl)
        have d5 : b 5 = true := hd.out 5 (by kernel_rfl)
        have r3 := v3 d3
        have r5 := v5 d5
        obtain ⟨x_3, c_3, r3⟩ := r3
        obtain ⟨x_5, c_5, r5⟩ := r5
        have hN := hH; simp only [hb, d3, d5, cond_true, cond_false] at hN
        refine step_app wx rfl _ _ 29 rfl (t 3) (t 5) (by first | rfl | (go_simp; done)) (by first | rfl | (go_simp; done)) _ (run_pushes _ wx 0 _ _ RR [c] (hN.own (k := 1) rfl).zero (hN.ints (k := 4) rfl) (by first | (simp; omega) | omega) (Nat.zero_le _)) ?_; rintro va wa ⟨oa, ga, na⟩; rw [HJJ.out] at oa
        obtain ⟨aa, ca, hva, _, _⟩ := oa.ints.val; subst hva
        refine hK.out _ ?_ _ ?_ ?_; rotate_left 2
        · (try simp only [r3, r5]); rfl
        exact ⟨by have hX := hN.pushed (k := 1) rfl oa ga na; (try simp only [List.set_cons_zero, List.set_cons_succ] at hX); simpa only [updB, updV, blkOf, partsOf, Nat.reduceBEq, cond_true, cond_false, hb, d3, d5, r3, r5] using hX, v0, v1, v2, v3, v4, v5, fun _ => ⟨_, _, rfl⟩, v7, v8⟩
      refine AllSteps.cons (j := 8) rfl (fun b t wx hJ hb hd hcl Kc hK => ?_) ?_
      · obtain ⟨hH, v0, v1, v2, v3, v4, v5, v6, v7, v8⟩ := hJ
        have d0 : b 0 = true := hd.out 0 (by kernel_rfl)
        have d1 : b 1 = true := hd.out 1 (by kernel_rfl)
        have d3 : b 3 = true := hcl.out 6 3 (by kernel_rfl) (hd.out 6 (by kernel_rfl))
        have d6 : b 6 = true := hd.out 6 (by kernel_rfl)
        have n9 : b 9 = false := Bool.eq_false_iff.2 fun h => absurd (hcl.out 9 7 (by kernel_rfl) (h)) (by rw [hb]; exact Bool.false_ne_true)
        have r0 := v0 d0
        have r1 := v1 d1
        have r3 := v3 d3
        have r6 := v6 d6
        obtain ⟨x_3, c_3, r3⟩ := r3
        obtain ⟨x_6, c_6, r6⟩ := r6
        have hN := hH; simp only [hb, d0, d1, d3, d6, n9, cond_true, cond_false] at hN
        go_simp
        go_at_call 69
        refine (rawPermute_any HR.out HT.out HP.out _ _ _ (ha0.ext (h1.trans hH.ext)) (by have h := hN.ints (k := 1) rfl; rw [r6] at h; exact h)).mono ?_; rintro e7 w7 ⟨vp, rfl, op, h6⟩
        rw [HYS.out] at op; obtain ⟨pp1, pc1, pp2, pc2, pp3, pc3, rfl⟩ := op.shapeN rfl (List.length_map _) HN3.out
        (try go_simp)
        refine hK.out _ ?_ _ ?_ ?_; rotate_left 2
        · (try simp only [r0, r1, r3, r6]); rfl
        exact ⟨by have hX := hN.addT 2 h6 op (Nat.le_refl _); (try simp only [List.set_cons_zero, List.set_cons_succ] at hX); simpa only [updB, updV, blkOf, partsOf, Nat.reduceBEq, cond_true, cond_false, hb, d0, d1, d3, d6, n9, r0, r1, r3, r6] using hX, v0, v1, v2, v3, v4, v5, v6, fun _ => ⟨_, _, _, _, _, _, rfl⟩, v8⟩
      refine AllSteps.cons (j := 9) rfl (fun b t wx hJ hb hd hcl Kc hK => ?_) ?_
      · obtain ⟨hH, v0, v1, v2, v3, v4, v5, v6, v7, v8⟩ := hJ
        have n9 : b 9 = false := Bool.eq_false_iff.2 fun h => absurd (hcl.out 9 8 (by kernel_rfl) (h)) (by rw [hb]; exact Bool.false_ne_true)
        have hN := hH; simp only [hb, n9, cond_true, cond_false] at hN
        go_simp
        refine hK.out _ ?_ _ ?_ ?_; rotate_left 2
        · rfl
        exact ⟨by have hX := hN.addB 3 #[.slice none 0 0, .slice none 0 0, .slice none 0 0] 31; (try simp only [List.set_cons_zero, List.set_cons_succ] at hX); simpa only [updB, updV, blkOf, partsOf, Nat.reduceBEq, cond_true, cond_false, hb, n9] using hX, v0, v1, v2, v3, v4, v5, v6, v7, fun _ => ⟨_, rfl⟩⟩
      refine AllSteps.cons (j := 10) rfl (fun b t wx hJ hb hd hcl Kc hK => ?_) ?_
      · obtain ⟨hH, v0, v1, v2, v3, v4, v5, v6, v7, v8⟩ := hJ
        have d0 : b 0 = true := hd.out 0 (by kernel_rfl)
        have d1 : b 1 = true := hd.out 1 (by kernel_rfl)
        have d2 : b 2 = true := hd.out 2 (by kernel_rfl)
        have d3 : b 3 = true := hd.out 3 (by kernel_rfl)
        have d4 : b 4 = true := hd.out 4 (by kernel_rfl)
        have d5 : b 5 = true := hd.out 5 (by kernel_rfl)
        have d6 : b 6 = true := hd.out 6 (by kernel_rfl)
        have d7 : b 7 = true := hd.out 7 (by kernel_rfl)
        have d8 : b 8 = true := hd.out 8 (by kernel_rfl)
        have r0 := v0 d0
        have r1 := v1 d1
        have r2 := v2 d2
        have r3 := v3 d3
        have r4 := v4 d4
        have r5 := v5 d5
        have r6 := v6 d6
        have r7 := v7 d7
        have r8 := v8 d8
        obtain ⟨x_3, c_3, r3⟩ := r3
        obtain ⟨x_5, c_5, r5⟩ := r5
        obtain ⟨x_6, c_6, r6⟩ := r6
        obtain ⟨p1_7, c1_7, p2_7, c2_7, p3_7, c3_7, r7⟩ := r7
        obtain ⟨q_8, r8⟩ := r8
        have hN := hH; simp only [hb, d0, d1, d2, d3, d4, d5, d6, d7, d8, cond_true, cond_false] at hN
        simp only [r8, r7, blkOf, partsOf] at hN
        have B := hN.blk (k := 3) rfl
        have f0 := B.free 0; have z0 := B.cell (j := 0) rfl
        have f1 := B.free 1; have z1 := B.cell (j := 1) rfl
        have f2 := B.free 2; have z2 := B.cell (j := 2) rfl
        have lB := B.lt
        go_simp
        refine hK.out _ undef _ ?_ ?_; rotate_left 1
        · (try simp only [r0, r1, r2, r3, r4, r5, r6, r7, r8]); rfl
        exact ⟨by have hX := hN.setB3' (k := 3) rfl (.slice p1_7 JJ.length c1_7) (.slice p2_7 JJ.length c2_7) (.slice p3_7 N3 c3_7); (try simp only [List.set_cons_zero, List.set_cons_succ] at hX); simpa only [updB, updV, blkOf, partsOf, Nat.reduceBEq, cond_true, cond_false, hb, d0, d1, d2, d3, d4, d5, d6, d7, d8, r0, r1, r2, r3, r4, r5, r6, r7, r8] using hX, v0, v1, v2, v3, v4, v5, v6, v7, v8⟩
      exact AllSteps.nil
  case hEp =>
    intro b t wp hJ hall
    obtain ⟨hHp, v0, v1, v2, v3, v4, v5, v6, v7, v8⟩ := hJ
    have a0 : b 0 = true := hall 0 (by decide)
    have a1 : b 1 = true := hall 1 (by decide)
    have a2 : b 2 = true := hall 2 (by decide)
    have a3 : b 3 = true := hall 3 (by decide)
    have a4 : b 4 = true := hall 4 (by decide)
    have a5 : b 5 = true := hall 5 (by decide)
    have a6 : b 6 = true := hall 6 (by decide)
    have a7 : b 7 = true := hall 7 (by decide)
    have a8 : b 8 = true := hall 8 (by decide)
    have a9 : b 9 = true := hall 9 (by decide)
    simp only [a0, a1, a2, a3, a4, a5, a6, a7, a8, a9, cond_true] at hHp
    replace v0 := v0 a0
    replace v1 := v1 a1
    replace v2 := v2 a2
    replace v3 := v3 a3
    replace v4 := v4 a4
    replace v5 := v5 a5
    replace v6 := v6 a6
    replace v7 := v7 a7
    replace v8 := v8 a8
    clear hall a0 a1 a2 a3 a4 a5 a6 a7 a8 a9
    generalize t 8 = x8 at hHp v8 ⊢
    generalize t 7 = x7 at hHp v7 ⊢
    generalize t 6 = x6 at hHp v6 ⊢
    generalize t 5 = x5 at hHp v5 ⊢
    generalize t 4 = x4 at hHp v4 ⊢
    generalize t 3 = x3 at hHp v3 ⊢
    generalize t 2 = x2 at hHp v2 ⊢
    generalize t 1 = x1 at hHp v1 ⊢
    generalize t 0 = x0 at hHp v0 ⊢
    subst v0
    subst v1
    subst v2
    obtain ⟨xp3, cp3, rfl⟩ := v3
    subst v4
    obtain ⟨xp5, cp5, rfl⟩ := v5
    obtain ⟨xp6, cp6, rfl⟩ := v6
    obtain ⟨p1p7, c1p7, p2p7, c2p7, p3p7, c3p7, rfl⟩ := v7
    obtain ⟨qp8, rfl⟩ := v8
    simp only [blkOf, partsOf] at hHp
    clear b
    have hHo : Held w1 wp [aI (.slice p1p7 JJ.length c1p7) JJ, aI (.slice p2p7 JJ.length c2p7) (JJ.map dm), aI (.slice p3p7 N3 c3p7) (flat ys), aI (.slice aQ RR.length cQ) RR, aI (.slice xp6 JJ.length cp6) JJ, emp, aB qp8 31 [.slice p1p7 JJ.length c1p7, .slice p2p7 JJ.length c2p7, .slice p3p7 N3 c3p7], aI (.slice xp5 1 cp5) [c], emp, emp] := (hHp.open3 (k := 2) rfl).mores 2
    clear hHp hHb
    obtain ⟨bq, pc2', hbq, hv2, hcap, _⟩ := (hHo.own (k := 1) rfl).open (by rw [List.length_map]; omega)
    rw [List.length_map] at hv2 hcap
    cases hv2
    have HTK : Hid ((JJ.map dm).take RR.length = RR.map dm) := Lib.hid (by rw [← HJJ.out, List.map_append, List.take_append_of_le_length (by simp)]; exact List.take_of_length_le (by simp))
    have hRJ2 : RR.length ≤ JJ.length := by omega
    have hRc : RR.length ≤ c2p7 := by omega
    have hRc2 : RR.length < c2p7 := by omega
    have hRne : ¬ c2p7 = RR.length := by omega
    go_upto_region 8 with fail
    refine wp_region_steps ?Ff (fun b t wx => Held w1 wx [aI (.slice p1p7 JJ.length c1p7) JJ, aI (.slice (some ⟨bq, 0, none⟩) JJ.length c2p7) (JJ.map dm), aI (.slice p3p7 N3 c3p7) (flat ys), (bif b 2 then aI (t 2) LN else aI (.slice aQ RR.length cQ) RR), aI (.slice xp6 JJ.length cp6) JJ, emp, aB qp8 31 [.slice p1p7 JJ.length c1p7, .slice (some ⟨bq, 0, none⟩) JJ.length c2p7, .slice p3p7 N3 c3p7], aI (.slice xp5 1 cp5) [c], (bif b 9 then aI (t 9) DN else (bif b 7 then aI (t 7) (RR.map dm) else emp)), (bif b 14 then aB (blkOf (t 13)) 31 (partsOf (t 12)) else (bif b 13 then aB (blkOf (t 13)) 31 [.slice none 0 0, .slice none 0 0, .slice none 0 0] else emp))] ∧ (b 0 = true → t 0 = .slice aQ RR.length cQ) ∧ (b 1 = true → t 1 = .slice aF F.length cF) ∧ (b 2 = true → ∃ x c, t 2 = .slice x LN.length c) ∧ (b 3 = true → t 3 = .pointer (some ⟨qp8, 1, none⟩)) ∧ (b 4 = true → t 4 = .slice (some ⟨bq, 0, none⟩) JJ.length c2p7) ∧ (b 5 = true → t 5 = .int .i64 RR.length) ∧ (b 6 = true → t 6 = .slice (some ⟨bq, 0, none⟩) RR.length c2p7) ∧ (b 7 = true → ∃ x c, t 7 = .slice x RR.length c) ∧ (b 8 = true → t 8 = .slice aD F.length cD) ∧ (b 9 = true → ∃ x c, t 9 = .slice x DN.length c) ∧ (b 10 = true → t 10 = .pointer (some ⟨qp8, 2, none⟩)) ∧ (b 11 = true → t 11 = .slice p3p7 N3 c3p7) ∧ (b 12 = true → t 12 = .agg #[t 2, t 9, .slice p3p7 N3 c3p7]) ∧ (b 13 = true → ∃ q, t 13 = .pointer (some ⟨q, 0, none⟩))) ?hFf (by kernel_rfl) (by kernel_rfl) ?hJf ?hSf ?hEf
    (case hFf => intro t; simp only [putAll, Act.put, List.setIfInBounds_toArray, List.set_cons_zero, List.set_cons_succ, Nat.reduceAdd, Nat.zero_add]; exact rfl)
    case hJf => exact ⟨hHo.grow ((Ext.refl _).drew), fun h => absurd h Bool.false_ne_true, fun h => absurd h Bool.false_ne_true, fun h => absurd h Bool.false_ne_true, fun h => absurd h Bool.false_ne_true, fun h => absurd h Bool.false_ne_true, fun h => absurd h Bool.false_ne_true, fun h => absurd h Bool.false_ne_true, fun h => absurd h Bool.false_ne_true, fun h => absurd h Bool.false_ne_true, fun h => absurd h Bool.false_ne_true, fun h => absurd h Bool.false_ne_true, fun h => absurd h Bool.false_ne_true, fun h => absurd h Bool.false_ne_true, fun h => absurd h Bool.false_ne_true⟩
    case hSf =>
      as_aux_lemma =>
        refine AllSteps.cons (j := 1) rfl (fun b t wx hJ hb hd hcl Kc hK => ?_) ?_
        · obtain ⟨hH, v0, v1, v2, v3, v4, v5, v6, v7, v8, v9, v10, v11, v12, v13⟩ := hJ
          have P1 := (hH.blk (k := 6) rfl).cell (j := 1) rfl
          have P2 := (hH.blk (k := 6) rfl).cell (j := 2) rfl
          go_simp
          refine hK.out _ ?_ _ ?_ ?_; rotate_left 2
          · rfl
          exact ⟨hH, fun _ => rfl, v1, v2, v3, v4, v5, v6, v7, v8, v9, v10, v11, v12, v13⟩
        refine AllSteps.cons (j := 2) rfl (fun b t wx hJ hb hd hcl Kc hK => ?_) ?_
        · obtain ⟨hH, v0, v1, v2, v3, v4, v5, v6, v7, v8, v9, v10, v11, v12, v13⟩ := hJ
          have P1 := (hH.blk (k := 6) rfl).cell (j := 1) rfl
          have P2 := (hH.blk (k := 6) rfl).cell (j := 2) rfl
          go_simp
          refine hK.out _ ?_ _ ?_ ?_; rotate_left 2
          · rfl
          exact ⟨hH, v0, fun _ => rfl, v2, v3, v4, v5, v6, v7, v8, v9, v10, v11, v12, v13⟩
        refine AllSteps.cons (j := 3) rfl (fun b t wx hJ hb hd hcl Kc hK => ?_) ?_
        · obtain ⟨hH, v0, v1, v2, v3, v4, v5, v6, v7, v8, v9, v10, v11, v12, v13⟩ := hJ
          have d0 : b 0 = true := hd.out 0 (by kernel_rfl)
          have d1 : b 1 = true := hd.out 1 (by kernel_rfl)
          have n12 : b 12 = false := Bool.eq_false_iff.2 fun h => absurd (hcl.out 12 2 (by kernel_rfl) (h)) (by rw [hb]; exact Bool.false_ne_true)
          have r0 := v0 d0
          have r1 := v1 d1
          have hN := hH; simp only [hb, d0, d1, n12, cond_true, cond_false] at hN
          have P1 := (hH.blk (k := 6) rfl).cell (j := 1) rfl
          have P2 := (hH.blk (k := 6) rfl).cell (j := 2) rfl
          refine step_app wx rfl _ _ 29 rfl (.slice aQ RR.length cQ) (.slice aF F.length cF) (by first | rfl | (go_simp; done)) (by first | rfl | (go_simp; done)) _ (run_pushes _ wx 0 _ _ RR F (hN.own (k := 3) rfl).zero (hF.ext (h1.trans hH.ext)) (by first | (simp; omega) | omega) (Nat.zero_le _)) ?_; rintro va wa ⟨oa, ga, na⟩; rw [HLN.out] at oa
          obtain ⟨aa, ca, hva, _, _⟩ := oa.ints.val; subst hva
          refine hK.out _ ?_ _ ?_ ?_; rotate_left 2
          · (try simp only [r0, r1]); rfl
          exact ⟨by have hX := hN.pushed (k := 3) rfl oa ga na; (try simp only [List.set_cons_zero, List.set_cons_succ] at hX); simpa only [updB, updV, blkOf, partsOf, Nat.reduceBEq, cond_true, cond_false, hb, d0, d1, n12, r0, r1] using hX, v0, v1, fun _ => ⟨_, _, rfl⟩, v3, v4, v5, v6, v7, v8, v9, v10, v11, fun h => absurd (show b 12 = true from h) (by rw [n12]; exact Bool.false_ne_true), v13⟩
        refine AllSteps.cons (j := 4) rfl (fun b t wx hJ hb hd hcl Kc hK => ?_) ?_
        · obtain ⟨hH, v0, v1, v2, v3, v4, v5, v6, v7, v8, v9, v10, v11, v12, v13⟩ := hJ
          have P1 := (hH.blk (k := 6) rfl).cell (j := 1) rfl
          have P2 := (hH.blk (k := 6) rfl).cell (j := 2) rfl
          go_simp
          refine hK.out _ ?_ _ ?_ ?_; rotate_left 2
          · rfl
          exact ⟨hH, v0, v1, v2, fun _ => rfl, v4, v5, v6, v7, v8, v9, v10, v11, v12, v13⟩
        refine AllSteps.cons (j := 5) rfl (fun b t wx hJ hb hd hcl Kc hK => ?_) ?_
        · obtain ⟨hH, v0, v1, v2, v3, v4, v5, v6, v7, v8, v9, v10, v11, v12, v13⟩ := hJ
          have d3 : b 3 = true := hd.out 3 (by kernel_rfl)
          have r3 := v3 d3
          have P1 := (hH.blk (k := 6) rfl).cell (j := 1) rfl
          have P2 := (hH.blk (k := 6) rfl).cell (j := 2) rfl
          go_simp
          refine hK.out _ ?_ _ ?_ ?_; rotate_left 2
          · (try simp only [r3]); rfl
          exact ⟨hH, v0, v1, v2, v3, fun _ => rfl, v5, v6, v7, v8, v9, v10, v11, v12, v13⟩
        refine AllSteps.cons (j := 6) rfl (fun b t wx hJ hb hd hcl Kc hK => ?_) ?_
        · obtain ⟨hH, v0, v1, v2, v3, v4, v5, v6, v7, v8, v9, v10, v11, v12, v13⟩ := hJ
          have P1 := (hH.blk (k := 6) rfl).cell (j := 1) rfl
          have P2 := (hH.blk (k := 6) rfl).cell (j := 2) rfl
          go_simp
          refine hK.out _ ?_ _ ?_ ?_; rotate_left 2
          · rfl
          exact ⟨hH, v0, v1, v2, v3, v4, fun _ => rfl, v6, v7, v8, v9, v10, v11, v12, v13⟩
        refine AllSteps.cons (j := 7) rfl (fun b t wx hJ hb hd hcl Kc hK => ?_) ?_
        · obtain ⟨hH, v0, v1, v2, v3, v4, v5, v6, v7, v8, v9, v10, v11, v12, v13⟩ := hJ
          have d4 : b 4 = true := hd.out 4 (by kernel_rfl)
          have d5 : b 5 = true := hd.out 5 (by kernel_rfl)
          have r4 := v4 d4
          have r5 := v5 d5
          have P1 := (hH.blk (k := 6) rfl).cell (j := 1) rfl
          have P2 := (hH.blk (k := 6) rfl).cell (j := 2) rfl
          go_simp
          refine hK.out _ ?_ _ ?_ ?_; rotate_left 2
          · (try simp only [r4, r5]); rfl
          exact ⟨hH, v0, v1, v2, v3, v4, v5, fun _ => rfl, v7, v8, v9, v10, v11, v12, v13⟩
        refine AllSteps.cons (j := 8) rfl (fun b t wx hJ hb hd hcl Kc hK => ?_) ?_
        · obtain ⟨hH, v0, v1, v2, v3, v4, v5, v6, v7, v8, v9, v10, v11, v12, v13⟩ := hJ
          have d2 : b 2 = true := hd.out 2 (by kernel_rfl)
          have d6 : b 6 = true := hd.out 6 (by kernel_rfl)
          have n9 : b 9 = false := Bool.eq_false_iff.2 fun h => absurd (hcl.out 9 7 (by kernel_rfl) (h)) (by rw [hb]; exact Bool.false_ne_true)
          have r2 := v2 d2
          have r6 := v6 d6
          obtain ⟨x_2, c_2, r2⟩ := r2
          have hN := hH; simp only [hb, d2, d6, n9, cond_true, cond_false] at hN
          have P1 := (hH.blk (k := 6) rfl).cell (j := 1) rfl
          have P2 := (hH.blk (k := 6) rfl).cell (j := 2) rfl
          go_simp
          go_at_call 62
          refine (copyInts_any _ (RR.map dm) _ (by have h : IntS wx _ _ := (hH.ints (k := 1) rfl).takeS (j := RR.length) (by simp; omega); rw [HTK.out] at h; exact h) (by simp; omega)).mono ?_; rintro e7 w7 ⟨vd, rfl, dc, h8⟩
          obtain ⟨da1, da2, rfl⟩ : ∃ a c, vd = .slice a RR.length c := (by obtain ⟨a, c, rfl, _, _⟩ := dc.ints.val; exact ⟨a, c, by simp⟩)
          (try go_simp)
          refine hK.out _ ?_ _ ?_ ?_; rotate_left 2
          · (try simp only [r2, r6]); rfl
          exact ⟨by have hX := hN.addI 8 h8 dc (Nat.le_refl _); (try simp only [List.set_cons_zero, List.set_cons_succ] at hX); simpa only [updB, updV, blkOf, partsOf, Nat.reduceBEq, cond_true, cond_false, hb, d2, d6, n9, r2, r6] using hX, v0, v1, v2, v3, v4, v5, v6, fun _ => ⟨_, _, rfl⟩, v8, v9, v10, v11, v12, v13⟩
        refine AllSteps.cons (j := 9) rfl (fun b t wx hJ hb hd hcl Kc hK => ?_) ?_
        · obtain ⟨hH, v0, v1, v2, v3, v4, v5, v6, v7, v8, v9, v10, v11, v12, v13⟩ := hJ
          have P1 := (hH.blk (k := 6) rfl).cell (j := 1) rfl
          have P2 := (hH.blk (k := 6) rfl).cell (j := 2) rfl
          go_simp
          refine hK.out _ ?_ _ ?_ ?_; rotate_left 2
          · rfl
          exact ⟨hH, v0, v1, v2, v3, v4, v5, v6, v7, fun _ => rfl, v9, v10, v11, v12, v13⟩
        refine AllSteps.cons (j := 10) rfl (fun b t wx hJ hb hd hcl Kc hK => ?_) ?_
        · obtain ⟨hH, v0, v1, v2, v3, v4, v5, v6, v7, v8, v9, v10, v11, v12, v13⟩ := hJ
          have d7 : b 7 = true := hd.out 7 (by kernel_rfl)
          have d8 : b 8 = true := hd.out 8 (by kernel_rfl)
          have n12 : b 12 = false := Bool.eq_false_iff.2 fun h => absurd (hcl.out 12 9 (by kernel_rfl) (h)) (by rw [hb]; exact Bool.false_ne_true)
          have r7 := v7 d7
          have r8 := v8 d8
          obtain ⟨x_7, c_7, r7⟩ := r7
          have hN := hH; simp only [hb, d7, d8, n12, cond_true, cond_false] at hN
          have P1 := (hH.blk (k := 6) rfl).cell (j := 1) rfl
          have P2 := (hH.blk (k := 6) rfl).cell (j := 2) rfl
          refine step_app wx rfl _ _ 29 rfl (t 7) (.slice aD F.length cD) (by first | rfl | (go_simp; done)) (by first | rfl | (go_simp; done)) _ (run_pushes _ wx 0 _ _ (RR.map dm) (F.map dm) (hN.own (k := 8) rfl).zero (by have h := hD.ext (h1.trans hH.ext); rwa [List.length_map] at h) (by first | (simp; omega) | omega) (Nat.zero_le _)) ?_; rintro va wa ⟨oa, ga, na⟩; rw [HDN.out] at oa
          obtain ⟨aa, ca, hva, _, _⟩ := oa.ints.val; subst hva
          refine hK.out _ ?_ _ ?_ ?_; rotate_left 2
          · (try simp only [r7, r8]); rfl
          exact ⟨by have hX := hN.pushed (k := 8) rfl oa ga na; (try simp only [List.set_cons_zero, List.set_cons_succ] at hX); simpa only [updB, updV, blkOf, partsOf, Nat.reduceBEq, cond_true, cond_false, hb, d7, d8, n12, r7, r8] using hX, v0, v1, v2, v3, v4, v5, v6, v7, v8, fun _ => ⟨_, _, rfl⟩, v10, v11, fun h => absurd (show b 12 = true from h) (by rw [n12]; exact Bool.false_ne_true), v13⟩
        refine AllSteps.cons (j := 11) rfl (fun b t wx hJ hb hd hcl Kc hK => ?_) ?_
        · obtain ⟨hH, v0, v1, v2, v3, v4, v5, v6, v7, v8, v9, v10, v11, v12, v13⟩ := hJ
          have P1 := (hH.blk (k := 6) rfl).cell (j := 1) rfl
          have P2 := (hH.blk (k := 6) rfl).cell (j := 2) rfl
          go_simp
          refine hK.out _ ?_ _ ?_ ?_; rotate_left 2
          · rfl
          exact ⟨hH, v0, v1, v2, v3, v4, v5, v6, v7, v8, v9, fun _ => rfl, v11, v12, v13⟩
        refine AllSteps.cons (j := 12) rfl (fun b t wx hJ hb hd hcl Kc hK => ?_) ?_
        · obtain ⟨hH, v0, v1, v2, v3, v4, v5, v6, v7, v8, v9, v10, v11, v12, v13⟩ := hJ
          have d10 : b 10 = true := hd.out 10 (by kernel_rfl)
          have r10 := v10 d10
          have P1 := (hH.blk (k := 6) rfl).cell (j := 1) rfl
          have P2 := (hH.blk (k := 6) rfl).cell (j := 2) rfl
          go_simp
          refine hK.out _ ?_ _ ?_ ?_; rotate_left 2
          · (try simp only [r10]); rfl
          exact ⟨hH, v0, v1, v2, v3, v4, v5, v6, v7, v8, v9, v10, fun _ => rfl, v12, v13⟩
        refine AllSteps.cons (j := 13) rfl (fun b t wx hJ hb hd hcl Kc hK => ?_) ?_
        · obtain ⟨hH, v0, v1, v2, v3, v4, v5, v6, v7, v8, v9, v10, v11, v12, v13⟩ := hJ
          have d2 : b 2 = true := hd.out 2 (by kernel_rfl)
          have d9 : b 9 = true := hd.out 9 (by kernel_rfl)
          have d11 : b 11 = true := hd.out 11 (by kernel_rfl)
          have n14 : b 14 = false := Bool.eq_false_iff.2 fun h => absurd (hcl.out 14 12 (by kernel_rfl) (h)) (by rw [hb]; exact Bool.false_ne_true)
          have r2 := v2 d2
          have r9 := v9 d9
          have r11 := v11 d11
          obtain ⟨x_2, c_2, r2⟩ := r2
          obtain ⟨x_9, c_9, r9⟩ := r9
          have hN := hH; simp only [hb, d2, d9, d11, n14, cond_true, cond_false] at hN
          have P1 := (hH.blk (k := 6) rfl).cell (j := 1) rfl
          have P2 := (hH.blk (k := 6) rfl).cell (j := 2) rfl
          go_simp
          refine hK.out _ ?_ _ ?_ ?_; rotate_left 2
          · (try simp only [r2, r9, r11]); rfl
          exact ⟨by have hX := hN; (try simp only [List.set_cons_zero, List.set_cons_succ] at hX); simpa only [updB, updV, blkOf, partsOf, Nat.reduceBEq, cond_true, cond_false, hb, d2, d9, d11, n14, r2, r9, r11] using hX, v0, v1, v2, v3, v4, v5, v6, v7, v8, v9, v10, v11, fun _ => (by show Value.agg _ = Value.agg #[t 2, t 9, _]; rw [r2, r9]), v13⟩
        refine AllSteps.cons (j := 14) rfl (fun b t wx hJ hb hd hcl Kc hK => ?_) ?_
        · obtain ⟨hH, v0, v1, v2, v3, v4, v5, v6, v7, v8, v9, v10, v11, v12, v13⟩ := hJ
          have n14 : b 14 = false := Bool.eq_false_iff.2 fun h => absurd (hcl.out 14 13 (by kernel_rfl) (h)) (by rw [hb]; exact Bool.false_ne_true)
          have hN := hH; simp only [hb, n14, cond_true, cond_false] at hN
          have P1 := (hH.blk (k := 6) rfl).cell (j := 1) rfl
          have P2 := (hH.blk (k := 6) rfl).cell (j := 2) rfl
          go_simp
          refine hK.out _ ?_ _ ?_ ?_; rotate_left 2
          · rfl
          exact ⟨by have hX := hN.addB 9 #[.slice none 0 0, .slice none 0 0, .slice none 0 0] 31; (try simp only [List.set_cons_zero, List.set_cons_succ] at hX); simpa only [updB, updV, blkOf, partsOf, Nat.reduceBEq, cond_true, cond_false, hb, n14] using hX, v0, v1, v2, v3, v4, v5, v6, v7, v8, v9, v10, v11, v12, fun _ => ⟨_, rfl⟩⟩
        refine AllSteps.cons (j := 15) rfl (fun b t wx hJ hb hd hcl Kc hK => ?_) ?_
        · obtain ⟨hH, v0, v1, v2, v3, v4, v5, v6, v7, v8, v9, v10, v11, v12, v13⟩ := hJ
          have d0 : b 0 = true := hd.out 0 (by kernel_rfl)
          have d1 : b 1 = true := hd.out 1 (by kernel_rfl)
          have d2 : b 2 = true := hd.out 2 (by kernel_rfl)
          have d3 : b 3 = true := hd.out 3 (by kernel_rfl)
          have d4 : b 4 = true := hd.out 4 (by kernel_rfl)
          have d5 : b 5 = true := hd.out 5 (by kernel_rfl)
          have d6 : b 6 = true := hd.out 6 (by kernel_rfl)
          have d7 : b 7 = true := hd.out 7 (by kernel_rfl)
          have d8 : b 8 = true := hd.out 8 (by kernel_rfl)
          have d9 : b 9 = true := hd.out 9 (by kernel_rfl)
          have d10 : b 10 = true := hd.out 10 (by kernel_rfl)
          have d11 : b 11 = true := hd.out 11 (by kernel_rfl)
          have d12 : b 12 = true := hd.out 12 (by kernel_rfl)
          have d13 : b 13 = true := hd.out 13 (by kernel_rfl)
          have r0 := v0 d0
          have r1 := v1 d1
          have r2 := v2 d2
          have r3 := v3 d3
          have r4 := v4 d4
          have r5 := v5 d5
          have r6 := v6 d6
          have r7 := v7 d7
          have r8 := v8 d8
          have r9 := v9 d9
          have r10 := v10 d10
          have r11 := v11 d11
          have r12 := v12 d12
          have r13 := v13 d13
          obtain ⟨x_2, c_2, r2⟩ := r2
          obtain ⟨x_7, c_7, r7⟩ := r7
          obtain ⟨x_9, c_9, r9⟩ := r9
          obtain ⟨q_13, r13⟩ := r13
          have hN := hH; simp only [hb, d0, d1, d2, d3, d4, d5, d6, d7, d8, d9, d10, d11, d12, d13, cond_true, cond_false] at hN
          have P1 := (hH.blk (k := 6) rfl).cell (j := 1) rfl
          have P2 := (hH.blk (k := 6) rfl).cell (j := 2) rfl
          rw [r2, r9] at r12 -- d2 d9
          simp only [r13, r12, blkOf, partsOf] at hN
          have B := hN.blk (k := 9) rfl
          have f0 := B.free 0; have z0 := B.cell (j := 0) rfl
          have f1 := B.free 1; have z1 := B.cell (j := 1) rfl
          have f2 := B.free 2; have z2 := B.cell (j := 2) rfl
          have lB := B.lt
          go_simp
          refine hK.out _ undef _ ?_ ?_; rotate_left 1
          · (try simp only [r0, r1, r2, r3, r4, r5, r6, r7, r8, r9, r10, r11, r12, r13]); rfl
          exact ⟨by have hX := hN.setB3' (k := 9) rfl (.slice x_2 LN.length c_2) (.slice x_9 DN.length c_9) (.slice p3p7 N3 c3p7); (try simp only [List.set_cons_zero, List.set_cons_succ] at hX); simpa only [updB, updV, blkOf, partsOf, Nat.reduceBEq, cond_true, cond_false, hb, d0, d1, d2, d3, d4, d5, d6, d7, d8, d9, d10, d11, d12, d13, r0, r1, r2, r3, r4, r5, r6, r7, r8, r9, r10, r11, r12, r13] using hX, v0, v1, v2, v3, v4, v5, v6, v7, v8, v9, v10, v11, v12, v13⟩
        exact AllSteps.nil
    case hEf =>
      intro b t wf hJ hall
      obtain ⟨hHf, v0, v1, v2, v3, v4, v5, v6, v7, v8, v9, v10, v11, v12, v13⟩ := hJ
      have a0 : b 0 = true := hall 0 (by decide)
      have a1 : b 1 = true := hall 1 (by decide)
      have a2 : b 2 = true := hall 2 (by decide)
      have a3 : b 3 = true := hall 3 (by decide)
      have a4 : b 4 = true := hall 4 (by decide)
      have a5 : b 5 = true := hall 5 (by decide)
      have a6 : b 6 = true := hall 6 (by decide)
      have a7 : b 7 = true := hall 7 (by decide)
      have a8 : b 8 = true := hall 8 (by decide)
      have a9 : b 9 = true := hall 9 (by decide)
      have a10 : b 10 = true := hall 10 (by decide)
      have a11 : b 11 = true := hall 11 (by decide)
      have a12 : b 12 = true := hall 12 (by decide)
      have a13 : b 13 = true := hall 13 (by decide)
      have a14 : b 14 = true := hall 14 (by decide)
      simp only [a0, a1, a2, a3, a4, a5, a6, a7, a8, a9, a10, a11, a12, a13, a14, cond_true] at hHf
      replace v0 := v0 a0
      replace v1 := v1 a1
      replace v2 := v2 a2
      replace v3 := v3 a3
      replace v4 := v4 a4
      replace v5 := v5 a5
      replace v6 := v6 a6
      replace v7 := v7 a7
      replace v8 := v8 a8
      replace v9 := v9 a9
      replace v10 := v10 a10
      replace v11 := v11 a11
      replace v12 := v12 a12
      replace v13 := v13 a13
      clear hall a0 a1 a2 a3 a4 a5 a6 a7 a8 a9 a10 a11 a12 a13 a14
      generalize t 13 = x13 at hHf v13 ⊢
      generalize t 12 = x12 at hHf v12 ⊢
      generalize t 11 = x11 at hHf v11 ⊢
      generalize t 10 = x10 at hHf v10 ⊢
      generalize t 9 = x9 at hHf v9 v12 ⊢
      generalize t 8 = x8 at hHf v8 ⊢
      generalize t 7 = x7 at hHf v7 ⊢
      generalize t 6 = x6 at hHf v6 ⊢
      generalize t 5 = x5 at hHf v5 ⊢
      generalize t 4 = x4 at hHf v4 ⊢
      generalize t 3 = x3 at hHf v3 ⊢
      generalize t 2 = x2 at hHf v2 v12 ⊢
      generalize t 1 = x1 at hHf v1 ⊢
      generalize t 0 = x0 at hHf v0 ⊢
      subst v0
      subst v1
      obtain ⟨xf2, cf2, rfl⟩ := v2
      subst v3
      subst v4
      subst v5
      subst v6
      obtain ⟨xf7, cf7, rfl⟩ := v7
      subst v8
      obtain ⟨xf9, cf9, rfl⟩ := v9
      subst v10
      subst v11
      subst v12
      obtain ⟨qf13, rfl⟩ := v13
      simp only [blkOf, partsOf] at hHf
      clear b
      have hl0 := hHf.own (k := 3) rfl; have hl1 := hHf.own (k := 8) rfl; have hl2 := hHf.own (k := 2) rfl; have hT0 := hHf.close3 (i := 3) (j := 8) (m := 2) rfl rfl rfl (by decide) (by decide) (by decide)
      have E1d := hHf.ext; have Bf := hHf.blk (k := 9) rfl; clear hHf hHo
      have BrE := Kr.ext E1d
      have ir0_E := BrE.cell (j := 0) rfl
      have ir1_E := BrE.cell (j := 1) rfl
      have ir2_E := BrE.cell (j := 2) rfl
      have lr_E := BrE.lt
      have BaE := Ka.ext E1d
      have ia0_E := BaE.cell (j := 0) rfl
      have ia1_E := BaE.cell (j := 1) rfl
      have ia2_E := BaE.cell (j := 2) rfl
      have la_E := BaE.lt
      have BzE := Kz.ext E1d
      have lz_E := BzE.lt
      have if0_E := Bf.cell (j := 0) rfl
      have if1_E := Bf.cell (j := 1) rfl
      have if2_E := Bf.cell (j := 2) rfl
      have lf_E := Bf.lt
      go_wp2_with fail
      refine (tensorOk_impl k p n _ LN DN (flat ys) _ ⟨_, _, _, rfl, hl0.ints, hl1.ints, hl2.ints⟩).mono ?_; rintro e9 w9 ⟨rfl, h9⟩; rw [HYF.out]
      have E9 := E1d.trans h9
      have Bz9 := Kz.ext E9
      have Bf9 := Bf.ext h9
      have f0 := Bz9.free 0
      have z0 := Bz9.cell (j := 0) rfl
      have y0 := Bf9.cell (j := 0) rfl
      have f1 := Bz9.free 1
      have z1 := Bz9.cell (j := 1) rfl
      have y1 := Bf9.cell (j := 1) rfl
      have f2 := Bz9.free 2
      have z2 := Bz9.cell (j := 2) rfl
      have y2 := Bf9.cell (j := 2) rfl
      have lz9 := Bz9.lt
      have lf9 := Bf9.lt
      have HT0 := Lib.hid hT0; clear hl0 hl1 hl2 hT0
      have hlt3 : w.heap.size + 1 + 1 < w1.heap.size := by omega
      go_upto_region 11 with fail
      repeat go_step
      refine bodyPost_ret (v := .tuple #[.agg #[.slice xf2 LN.length cf2, .slice xf9 DN.length cf9, .slice p3p7 N3 c3p7], .bool true]) (by simp [results, Try.results43, go_sem, *]) rfl ?_
      exact ⟨_, rfl, ((((HT0.out.ext h9).setBelow hlt3 _).setBelow hlt3 _).setBelow hlt3 _).mono (by omega), (((h1.trans E9).setAt (by omega) _ _).setAt (by omega) _ _).setAt (by omega) _ _⟩
end
end Go.Proofs.Ytabeciopggofkaa
