/- FuseLabels of the program. -/
import Derived.Test.YtabeciopggofkaaYBase
import Derived.Test.YtabeciopggofkaaYG15
import Derived.Test.YtabeciopggofkaaYSortT
import Derived.Test.YtabeciopggofkaaYContrW
import Derived.Test.YtabeciopggofkaaYG5
namespace Go.Proofs.Ytabeciopggofkaa
open Go.RowKit
set_option linter.unusedSimpArgs false
set_option linter.unusedVariables false
theorem productOf_ext (v : Value) (D : List Int) (w : World) (hl : IntS w v D) (hd : ∀ d ∈ D, 1 ≤ d ∧ d ≤ 8) (hp : prodL D ≤ 4096) : Calls Try.prog 50 #[v] w fun e w' => e = .returned (.int .i64 (prodL D)) ∧ Ext w w' :=
  (productOf_any v D w hl hd hp).mono fun _ _ ⟨he, hn⟩ => ⟨he, hn ▸ Ext.refl w⟩
section
variable {k p n : Int} (hr : ringOk k p n = true)
set_option maxRecDepth 100000 in
set_option maxHeartbeats 8000000 in
theorem fuseLabels_any {dm : Int → Int} {U L F : List Int} {xs : List (El k p n)} (ht : IsT k p n dm U L xs) (hFn : F.Nodup) (hFL : ∀ f ∈ F, f ∈ L) (hF0 : 0 < F.length) (into : Int) (hs : Sub U (restL L F ++ [into])) (hdi : dm into = prodL (F.map dm)) (va vF : Value) (w : World) (ha : TenS w va L (L.map dm) (flat xs)) (hF : IntS w vF F) :
    Calls Try.prog 42 #[ringV k p n, va, vF, .int .i64 into] w fun e w' => ∃ u, e = .returned (.tuple #[u, .bool true]) ∧ OwnT w' w.heap.size u (restL L F ++ [into]) ((restL L F ++ [into]).map dm) (flat (permXs hr dm L (restL L F ++ F) xs)) ∧ Ext w w' := by
  have ha0 := ha
  obtain ⟨ap1, an1, ac1, ap2, an2, ac2, ap3, an3, ac3, rfl⟩ := ha.shape
  obtain ⟨_, _, _, hvv, haL, haD, haX⟩ := ha.val
  simp at hvv
  obtain ⟨rfl, rfl, rfl⟩ := hvv
  obtain ⟨_, _, hvv, _, _⟩ := haL.val
  simp at hvv
  obtain ⟨rfl, rfl, rfl⟩ := hvv
  obtain ⟨_, _, hvv, _, _⟩ := haD.val
  simp at hvv
  obtain ⟨rfl, rfl, rfl⟩ := hvv
  obtain ⟨_, _, hvv, _, _⟩ := haX.val
  simp at hvv
  obtain ⟨rfl, rfl, rfl⟩ := hvv
  obtain ⟨aF, cF, rfl, hcF, _⟩ := hF.val
  have HT := Lib.hid ht; clear ht
  have HYA := Lib.hid (HT.out.yes hr)
  have HR := Lib.hid hr
  have hrk : L.length ≤ 12 := HT.out.ax.rank
  obtain ⟨RR, hRR⟩ : ∃ RR, restL L F = RR := ⟨_, rfl⟩
  have hperm := restL_perm HT.out.sub.nodup hFn hFL
  rw [hRR] at hperm hs ⊢
  have hlen : L.length = RR.length + F.length := by have := hperm.length_eq; rwa [List.length_append] at this
  obtain ⟨JJ, hJJ⟩ : ∃ JJ, RR ++ F = JJ := ⟨_, rfl⟩
  rw [hJJ] at hperm ⊢
  have HP := Lib.hid hperm
  have HJJ := Lib.hid hJJ
  have hJl : JJ.length = RR.length + F.length := by rw [← hJJ, List.length_append]
  have hFl : F.length ≤ L.length := by omega
  have hRl : RR.length ≤ 12 := by omega
  have hJ12 : JJ.length ≤ 12 := by omega
  have hRJ : RR.length < JJ.length := by omega
  have HJL := Lib.hid hJl
  clear hlen hJl
  have HTJ := Lib.hid (perm_isT hr HT.out HP.out)
  obtain ⟨ys, hys⟩ : ∃ ys, permXs hr dm L JJ xs = ys := ⟨_, rfl⟩
  rw [hys] at HTJ ⊢
  have HYS := Lib.hid hys
  obtain ⟨LN, hLN⟩ : ∃ LN, RR ++ [into] = LN := ⟨_, rfl⟩
  rw [hLN] at hs ⊢
  have HLN := Lib.hid hLN
  have HFT : Hid (IsT k p n dm U LN ys) := Lib.hid (by have h := HTJ.out; rw [← hJJ] at h; rw [← hLN] at hs ⊢; exact fused_isT h hs hdi)
  obtain ⟨PF, hPF⟩ : ∃ PF, prodL (F.map dm) = PF := ⟨_, rfl⟩
  have HPF := Lib.hid hPF
  rw [hPF] at hdi
  obtain ⟨DN, hDN⟩ : ∃ DN, RR.map dm ++ [PF] = DN := ⟨_, rfl⟩
  have HDN := Lib.hid hDN
  have HLD : Hid (LN.map dm = DN) := Lib.hid (by rw [← hLN, ← hDN, List.map_append, List.map_cons, List.map_nil, hdi])
  have HYF : Hid (tensOk k p n LN DN (flat ys) = true) := Lib.hid (by rw [← HLD.out]; exact HFT.out.yes hr)
  obtain ⟨N3, hN3⟩ : ∃ N3, (flat ys).length = N3 := ⟨_, rfl⟩
  have HN3 := Lib.hid hN3
  have HFD : Hid ((∀ d ∈ F.map dm, 1 ≤ d ∧ d ≤ 8) ∧ prodL (F.map dm) ≤ 4096) := Lib.hid (by have sF : Sub U F := ⟨hFn, fun l hl => HT.out.sub.sub l (hFL l hl)⟩; exact ⟨(HT.out.uni.ax sF).dims, (HT.out.uni.ax sF).size⟩)
  have HRR := Lib.hid hRR; have HFn := Lib.hid hFn; have HFL := Lib.hid hFL
  have hne0 : ((F.length : Int) == 0) = false := by rw [beq_eq_false_iff_ne]; omega
  rw [HLD.out]
  have hgtF : decide (L.length < F.length) = false := by rw [decide_eq_false_iff_not]; omega
  clear hRR hperm hJJ hys hLN hPF hDN hN3 hs hdi hFn hFL
  generalize hW1 : (((w.alloc (.cells #[.int .i64 k, .int .i64 p, .int .i64 n] 24)).alloc (.cells #[.slice ap1 L.length ac1, .slice ap2 L.length ac2, .slice ap3 (flat xs).length ac3] 31)).alloc (.cells #[.slice none 0 0, .slice none 0 0, .slice none 0 0] 31)) = w1
  have h1 : Ext w w1 := by rw [← hW1]; exact (by repeat' (first | (with_reducible exact Ext.refl _) | (with_reducible assumption) | (with_reducible apply Ext.alloc) | (with_reducible apply Ext.drew) | (with_reducible apply Ext.drewN) | (refine Ext.setAt ?_ (by omega) _ _) | (refine Ext.trans ?_ (by assumption))))
  have Br : Blk w1 (w.heap.size) 24 [.int .i64 k, .int .i64 p, .int .i64 n] := by rw [← hW1]; exact (((Blk.newB (c := #[_, _, _]) (by simp)).alloc _).alloc _)
  have Ba : Blk w1 (w.heap.size + 1) 31 [.slice ap1 L.length ac1, .slice ap2 L.length ac2, .slice ap3 (flat xs).length ac3] := by rw [← hW1]; exact ((Blk.newB (c := #[_, _, _]) (by simp)).alloc _)
  have Bz : Blk w1 (w.heap.size + 2) 31 [.slice none 0 0, .slice none 0 0, .slice none 0 0] := by rw [← hW1]; exact (Blk.newB (c := #[_, _, _]) (by simp))
  have HS1 : Hid (w1.heap.size = w.heap.size + 3) := Lib.hid (by rw [← hW1]; simp)
  have HW := Lib.hid hW1; clear hW1
  go_enter Try.func42, Try.ntmps42
  go_wp2_with fail
  rw [HW.out]
  have Kr := Br
  have Ka := Ba
  have Kz := Bz
  have kr_0 := Kr.cell (j := 0) rfl
  have kr_1 := Kr.cell (j := 1) rfl
  have kr_2 := Kr.cell (j := 2) rfl
  have ka_0 := Ka.cell (j := 0) rfl
  have ka_1 := Ka.cell (j := 1) rfl
  have ka_2 := Ka.cell (j := 2) rfl
  have Br1 := Br
  clear Br
  have ir0_1 := Br1.cell (j := 0) rfl
  have ir1_1 := Br1.cell (j := 1) rfl
  have ir2_1 := Br1.cell (j := 2) rfl
  have lr_1 := Br1.lt
  have Ba1 := Ba
  clear Ba
  have ia0_1 := Ba1.cell (j := 0) rfl
  have ia1_1 := Ba1.cell (j := 1) rfl
  have ia2_1 := Ba1.cell (j := 2) rfl
  have la_1 := Ba1.lt
  have Bz1 := Bz
  clear Bz
  have iz0_1 := Bz1.cell (j := 0) rfl
  have iz1_1 := Bz1.cell (j := 1) rfl
  have iz2_1 := Bz1.cell (j := 2) rfl
  have lz_1 := Bz1.lt
  go_wp2_with fail
  refine (tensorOk_impl k p n _ L _ _ _ (ha0.ext h1)).mono ?_; rintro e2 w2 ⟨rfl, h2⟩
  rw [HYA.out]
  clear ir0_1 ir1_1 ir2_1 lr_1 ia0_1 ia1_1 ia2_1 la_1 iz0_1 iz1_1 iz2_1 lz_1
  have Br2 := (Br1.ext h2)
  clear Br1
  have ir0_2 := Br2.cell (j := 0) rfl
  have ir1_2 := Br2.cell (j := 1) rfl
  have ir2_2 := Br2.cell (j := 2) rfl
  have lr_2 := Br2.lt
  have Ba2 := (Ba1.ext h2)
  clear Ba1
  have ia0_2 := Ba2.cell (j := 0) rfl
  have ia1_2 := Ba2.cell (j := 1) rfl
  have ia2_2 := Ba2.cell (j := 2) rfl
  have la_2 := Ba2.lt
  have Bz2 := (Bz1.ext h2)
  clear Bz1
  have iz0_2 := Bz2.cell (j := 0) rfl
  have iz1_2 := Bz2.cell (j := 1) rfl
  have iz2_2 := Bz2.cell (j := 2) rfl
  have lz_2 := Bz2.lt
  go_wp2_with fail
  clear ir0_2 ir1_2 ir2_2 lr_2 ia0_2 ia1_2 ia2_2 la_2 iz0_2 iz1_2 iz2_2 lz_2
  go_loopw [38] (fun i wr => ∃ j : Nat, j ≤ F.length ∧ i = .int .i64 j ∧ Ext w1 wr) (fun i wr => F.length - (RowKit.intOf i).toNat)
  case atStart => exact ⟨0, Nat.zero_le _, rfl, h2⟩
  case round =>
    obtain ⟨j, hj, rfl, hE⟩ := hrel
    have BrL := Kr.ext hE
    have ir0_L := BrL.cell (j := 0) rfl
    have ir1_L := BrL.cell (j := 1) rfl
    have ir2_L := BrL.cell (j := 2) rfl
    have lr_L := BrL.lt
    have BaL := Ka.ext hE
    have ia0_L := BaL.cell (j := 0) rfl
    have ia1_L := BaL.cell (j := 1) rfl
    have ia2_L := BaL.cell (j := 2) rfl
    have la_L := BaL.lt
    have BzL := Kz.ext hE
    have lz_L := BzL.lt
    by_cases hlt : j < F.length
    · skip
      obtain ⟨bf, ff, f, hff, hcf, hf, hdf⟩ := (hF.ext (h1.trans hE)).get hlt
      cases hff
      obtain ⟨q0, hq0, _⟩ := map_get_find (dm := dm) (HFL.out f (List.mem_of_getElem? hf))
      have HQ := Lib.hid hq0; clear hq0
      have hno : hasL (F.take j) f = false := hasL_no (fun h => by have hn := HFn.out; rw [← List.take_append_drop j F, hdf, List.nodup_append] at hn; exact hn.2.2 f h f (by simp) rfl)
      have HNO := Lib.hid hno; clear hno hf hdf
      have htk := ((hF.ext (h1.trans hE)).takeS (j := j) (by omega))
      go_wp2_with fail
      refine (axisOf_any _ L _ _ f _ (ha0.ext (h1.trans hE))).mono ?_; rintro e5 w5 ⟨rfl, h5⟩; rw [HQ.out]
      go_wp2_with fail
      refine (hasInt_any _ (F.take j) f _ (htk.ext h5)).mono ?_; rintro e6 w6 ⟨rfl, rfl⟩; rw [HNO.out]
      go_wp2_with fail
      go_roundw
      case rel => exact ⟨j + 1, by omega, by go_num, hE.trans h5⟩
      case measure => simp [RowKit.intOf]; omega
    · skip
      have hje : j = F.length := by omega
      subst hje
      go_wp2_with fail
      go_loopw [12, 59] (fun q i wr => ∃ j : Nat, j ≤ L.length ∧ i = .int .i64 j ∧ OwnI wr w1.heap.size q (restL (L.take j) F) ∧ Ext w1 wr) (fun q i wr => L.length - (RowKit.intOf i).toNat)
      case atStart => exact ⟨0, Nat.zero_le _, rfl, by rw [List.take_zero]; exact OwnI.nil _ _, hE⟩
      case round =>
        clear ir0_L ir1_L ir2_L ia0_L ia1_L ia2_L lr_L la_L lz_L BrL BaL BzL
        obtain ⟨j, hj, rfl, hO, hE2⟩ := hrel
        have hs2 := hE2.size
        obtain ⟨Q, hQ⟩ : ∃ Q, restL (L.take j) F = Q := ⟨_, rfl⟩
        rw [hQ] at hO
        have hQl : Q.length ≤ 12 := by rw [← hQ]; have := restL_len (L.take j) F; rw [List.length_take] at this; omega
        have HQ := Lib.hid hQ; clear hQ
        obtain ⟨aQ, cQ, rfl, hcQ1, hcQ2⟩ := hO.ints.val
        by_cases hlt : j < L.length
        · skip
          obtain ⟨b2, off2, x, hxx, hcx, hx, _⟩ := (haL.ext (h1.trans hE2)).get hlt
          cases hxx
          have HX := Lib.hid hx; clear hx
          cases hh : hasL F x
          · skip
            have HH := Lib.hid hh
            go_wp2_with fail
            refine (hasInt_any _ F x _ (hF.ext (h1.trans hE2))).mono ?_; rintro e2 w2' ⟨rfl, rfl⟩
            rw [HH.out]
            clear hh
            go_wp2_with (at_builtin; refine wpList_app _ rfl _ _ 29 rfl _ _ rfl rfl _ (run_push _ wr w1.heap.size _ _ x hO (by omega) hs2) ?_; rintro v3 w3 ⟨o3, g3, _⟩)
            go_roundw
            case rel => exact ⟨j + 1, by omega, by go_num, by rw [take_snoc' HX.out, restL_snoc_no HH.out, HQ.out]; exact o3, hE2.mark hO g3⟩
            case measure => simp [RowKit.intOf]; omega
          · skip
            have HH := Lib.hid hh
            go_wp2_with fail
            refine (hasInt_any _ F x _ (hF.ext (h1.trans hE2))).mono ?_; rintro e2 w2' ⟨rfl, rfl⟩
            rw [HH.out]
            clear hh
            go_wp2_with fail
            go_roundw
            case rel => exact ⟨j + 1, by omega, by go_num, by rw [take_snoc' HX.out, restL_snoc_yes HH.out, HQ.out]; exact hO, hE2⟩
            case measure => simp [RowKit.intOf]; omega
        · skip
          have hje : j = L.length := by omega
          subst hje
          have hQ := HQ.out; rw [List.take_length, HRR.out] at hQ
          subst hQ
          obtain ⟨wb, rfl⟩ : ∃ q, q = wr := ⟨wr, rfl⟩
          have hs := hE2.size
          have hS1 := HS1.out
          have hHb : Held w1 wb [aI (.slice aQ RR.length cQ) RR, emp, emp, emp] := Held.one hE2 hO 3
          go_upto_region 16 with fail
          refine wp_region_steps ?Fp (fun b t wx => Held w1 wx [aI (.slice aQ RR.length cQ) RR, (bif b 5 then aI (t 5) JJ else (bif b 3 then aI (t 3) RR else emp)), (bif b 6 then aT (t 6) JJ (JJ.map dm) (flat ys) else emp), (bif b 8 then aB (blkOf (t 7)) 31 (partsOf (t 6)) else (bif b 7 then aB (blkOf (t 7)) 31 [.slice none 0 0, .slice none 0 0, .slice none 0 0] else emp))] ∧ (b 0 = true → t 0 = .agg #[.int .i64 k, .int .i64 p, .int .i64 n]) ∧ (b 1 = true → t 1 = .agg #[.slice ap1 L.length ac1, .slice ap2 L.length ac2, .slice ap3 (flat xs).length ac3]) ∧ (b 2 = true → t 2 = .slice aQ RR.length cQ) ∧ (b 3 = true → ∃ x c, t 3 = .slice x RR.length c) ∧ (b 4 = true → t 4 = .slice aF F.length cF) ∧ (b 5 = true → ∃ x c, t 5 = .slice x JJ.length c) ∧ (b 6 = true → ∃ p1 c1 p2 c2 p3 c3, t 6 = .agg #[.slice p1 JJ.length c1, .slice p2 JJ.length c2, .slice p3 N3 c3]) ∧ (b 7 = true → ∃ q, t 7 = .pointer (some ⟨q, 0, none⟩))) ?hFp (by kernel_rfl) (by kernel_rfl) ?hJp ?hSp ?hEp
          (case hFp => intro t; simp only [putAll, Act.put, List.setIfInBounds_toArray, List.set_cons_zero, List.set_cons_succ, Nat.reduceAdd, Nat.zero_add]; exact rfl)
          case hJp => exact ⟨hHb.grow ((Ext.refl _).drew), fun h => absurd h Bool.false_ne_true, fun h => absurd h Bool.false_ne_true, fun h => absurd h Bool.false_ne_true, fun h => absurd h Bool.false_ne_true, fun h => absurd h Bool.false_ne_true, fun h => absurd h Bool.false_ne_true, fun h => absurd h Bool.false_ne_true, fun h => absurd h Bool.false_ne_true⟩
          case hSp =>
            as_aux_lemma =>
              refine AllSteps.cons (j := 1) rfl (fun b t wx hJ hb hd hcl Kc hK => ?_) ?_
              · obtain ⟨hH, v0, v1, v2, v3, v4, v5, v6, v7⟩ := hJ
                have c_kr_0 := hH.ext.cell kr_0
                have c_kr_1 := hH.ext.cell kr_1
                have c_kr_2 := hH.ext.cell kr_2
                have c_ka_0 := hH.ext.cell ka_0
                have c_ka_1 := hH.ext.cell ka_1
                have c_ka_2 := hH.ext.cell ka_2
                go_simp
                refine hK.out _ ?_ _ ?_ ?_; rotate_left 2
                · rfl
                exact ⟨hH, fun _ => rfl, v1, v2, v3, v4, v5, v6, v7⟩
              refine AllSteps.cons (j := 2) rfl (fun b t wx hJ hb hd hcl Kc hK => ?_) ?_
              · obtain ⟨hH, v0, v1, v2, v3, v4, v5, v6, v7⟩ := hJ
                have c_kr_0 := hH.ext.cell kr_0
                have c_kr_1 := hH.ext.cell kr_1
                have c_kr_2 := hH.ext.cell kr_2
                have c_ka_0 := hH.ext.cell ka_0
                have c_ka_1 := hH.ext.cell ka_1
                have c_ka_2 := hH.ext.cell ka_2
                go_simp
                refine hK.out _ ?_ _ ?_ ?_; rotate_left 2
                · rfl
                exact ⟨hH, v0, fun _ => rfl, v2, v3, v4, v5, v6, v7⟩
              refine AllSteps.cons (j := 3) rfl (fun b t wx hJ hb hd hcl Kc hK => ?_) ?_
              · obtain ⟨hH, v0, v1, v2, v3, v4, v5, v6, v7⟩ := hJ
                have c_kr_0 := hH.ext.cell kr_0
                have c_kr_1 := hH.ext.cell kr_1
                have c_kr_2 := hH.ext.cell kr_2
                have c_ka_0 := hH.ext.cell ka_0
                have c_ka_1 := hH.ext.cell ka_1
                have c_ka_2 := hH.ext.cell ka_2
                go_simp
                refine hK.out _ ?_ _ ?_ ?_; rotate_left 2
                · rfl
                exact ⟨hH, v0, v1, fun _ => rfl, v3, v4, v5, v6, v7⟩
              refine AllSteps.cons (j := 4) rfl (fun b t wx hJ hb hd hcl Kc hK => ?_) ?_
              · obtain ⟨hH, v0, v1, v2, v3, v4, v5, v6, v7⟩ := hJ
                have d2 : b 2 = true := hd.out 2 (by kernel_rfl)
                have n5 : b 5 = false := Bool.eq_false_iff.2 fun h => absurd (hcl.out 5 3 (by kernel_rfl) (h)) (by rw [hb]; exact Bool.false_ne_true)
                have r2 := v2 d2
                have hN := hH; simp only [hb, d2, n5, cond_true, cond_false] at hN
                go_simp
                go_at_call 62
                refine (copyInts_any _ RR _ (hH.ints (k := 0) rfl) (by omega)).mono ?_; rintro e3 w3 ⟨v3', rfl, o3, h3⟩
                obtain ⟨x3, c3, rfl, _, _⟩ := o3.ints.val
                (try go_simp)
                refine hK.out _ ?_ _ ?_ ?_; rotate_left 2
                · (try simp only [r2]); rfl
                exact ⟨by have hX := hN.addI 1 h3 o3 (Nat.le_refl _); (try simp only [List.set_cons_zero, List.set_cons_succ] at hX); simpa only [updB, updV, blkOf, partsOf, Nat.reduceBEq, cond_true, cond_false, hb, d2, n5, r2] using hX, v0, v1, v2, fun _ => ⟨_, _, rfl⟩, v4, v5, v6, v7⟩
              refine AllSteps.cons (j := 5) rfl (fun b t wx hJ hb hd hcl Kc hK => ?_) ?_
              · obtain ⟨hH, v0, v1, v2, v3, v4, v5, v6, v7⟩ := hJ
                have c_kr_0 := hH.ext.cell kr_0
                have c_kr_1 := hH.ext.cell kr_1
                have c_kr_2 := hH.ext.cell kr_2
                have c_ka_0 := hH.ext.cell ka_0
                have c_ka_1 := hH.ext.cell ka_1
                have c_ka_2 := hH.ext.cell ka_2
                go_simp
                refine hK.out _ ?_ _ ?_ ?_; rotate_left 2
                · rfl
                exact ⟨hH, v0, v1, v2, v3, fun _ => rfl, v5, v6, v7⟩
              refine AllSteps.cons (j := 6) rfl (fun b t wx hJ hb hd hcl Kc hK => ?_) ?_
              · obtain ⟨hH, v0, v1, v2, v3, v4, v5, v6, v7⟩ := hJ
                have d3 : b 3 = true := hd.out 3 (by kernel_rfl)
                have d4 : b 4 = true := hd.out 4 (by kernel_rfl)
                have r3 := v3 d3
                have r4 := v4 d4
                obtain ⟨x_3, c_3, r3⟩ := r3
                have hN := hH; simp only [hb, d3, d4, cond_true, cond_false] at hN
                refine step_app wx rfl _ _ 29 rfl (t 3) (.slice aF F.length cF) (by first | rfl | (go_simp; done)) (by first | rfl | (go_simp; done)) _ (run_pushes _ wx 0 _ _ RR F (hN.own (k := 1) rfl).zero (hF.ext (h1.trans hH.ext)) (by first | (simp; omega) | omega) (Nat.zero_le _)) ?_; rintro va wa ⟨oa, ga, na⟩; rw [HJJ.out] at oa
                obtain ⟨aa, ca, hva, _, _⟩ := oa.ints.val; subst hva
                refine hK.out _ ?_ _ ?_ ?_; rotate_left 2
                · (try simp only [r3, r4]); rfl
                exact ⟨by have hX := hN.pushed (k := 1) rfl oa ga na; (try simp only [List.set_cons_zero, List.set_cons_succ] at hX); simpa only [updB, updV, blkOf, partsOf, Nat.reduceBEq, cond_true, cond_false, hb, d3, d4, r3, r4] using hX, v0, v1, v2, v3, v4, fun _ => ⟨_, _, rfl⟩, v6, v7⟩
              refine AllSteps.cons (j := 7) rfl (fun b t wx hJ hb hd hcl Kc hK => ?_) ?_
              · obtain ⟨hH, v0, v1, v2, v3, v4, v5, v6, v7⟩ := hJ
                have d0 : b 0 = true := hd.out 0 (by kernel_rfl)
                have d1 : b 1 = true := hd.out 1 (by kernel_rfl)
                have d3 : b 3 = true := hcl.out 5 3 (by kernel_rfl) (hd.out 5 (by kernel_rfl))
                have d5 : b 5 = true := hd.out 5 (by kernel_rfl)
                have n8 : b 8 = false := Bool.eq_false_iff.2 fun h => absurd (hcl.out 8 6 (by kernel_rfl) (h)) (by rw [hb]; exact Bool.false_ne_true)
                have r0 := v0 d0
                have r1 := v1 d1
                have r3 := v3 d3
                have r5 := v5 d5
                obtain ⟨x_3, c_3, r3⟩ := r3
                obtain ⟨x_5, c_5, r5⟩ := r5
                have hN := hH; simp only [hb, d0, d1, d3, d5, n8, cond_true, cond_false] at hN
                go_simp
                go_at_call 69
                refine (rawPermute_any HR.out HT.out HP.out _ _ _ (ha0.ext (h1.trans hH.ext)) (by have h := hN.ints (k := 1) rfl; rw [r5] at h; exact h)).mono ?_; rintro e6 w6 ⟨vp, rfl, op, h6⟩
                rw [HYS.out] at op; obtain ⟨pp1, pc1, pp2, pc2, pp3, pc3, rfl⟩ := op.shapeN rfl (List.length_map _) HN3.out
                (try go_simp)
                refine hK.out _ ?_ _ ?_ ?_; rotate_left 2
                · (try simp only [r0, r1, r3, r5]); rfl
                exact ⟨by have hX := hN.addT 2 h6 op (Nat.le_refl _); (try simp only [List.set_cons_zero, List.set_cons_succ] at hX); simpa only [updB, updV, blkOf, partsOf, Nat.reduceBEq, cond_true, cond_false, hb, d0, d1, d3, d5, n8, r0, r1, r3, r5] using hX, v0, v1, v2, v3, v4, v5, fun _ => ⟨_, _, _, _, _, _, rfl⟩, v7⟩
              refine AllSteps.cons (j := 8) rfl (fun b t wx hJ hb hd hcl Kc hK => ?_) ?_
              · obtain ⟨hH, v0, v1, v2, v3, v4, v5, v6, v7⟩ := hJ
                have n8 : b 8 = false := Bool.eq_false_iff.2 fun h => absurd (hcl.out 8 7 (by kernel_rfl) (h)) (by rw [hb]; exact Bool.false_ne_true)
                have hN := hH; simp only [hb, n8, cond_true, cond_false] at hN
                go_simp
                refine hK.out _ ?_ _ ?_ ?_; rotate_left 2
                · rfl
                exact ⟨by have hX := hN.addB 3 #[.slice none 0 0, .slice none 0 0, .slice none 0 0] 31; (try simp only [List.set_cons_zero, List.set_cons_succ] at hX); simpa only [updB, updV, blkOf, partsOf, Nat.reduceBEq, cond_true, cond_false, hb, n8] using hX, v0, v1, v2, v3, v4, v5, v6, fun _ => ⟨_, rfl⟩⟩
              refine AllSteps.cons (j := 9) rfl (fun b t wx hJ hb hd hcl Kc hK => ?_) ?_
              · obtain ⟨hH, v0, v1, v2, v3, v4, v5, v6, v7⟩ := hJ
                have d0 : b 0 = true := hd.out 0 (by kernel_rfl)
                have d1 : b 1 = true := hd.out 1 (by kernel_rfl)
                have d2 : b 2 = true := hd.out 2 (by kernel_rfl)
                have d3 : b 3 = true := hd.out 3 (by kernel_rfl)
                have d4 : b 4 = true := hd.out 4 (by kernel_rfl)
                have d5 : b 5 = true := hd.out 5 (by kernel_rfl)
                have d6 : b 6 = true := hd.out 6 (by kernel_rfl)
                have d7 : b 7 = true := hd.out 7 (by kernel_rfl)
                have r0 := v0 d0
                have r1 := v1 d1
                have r2 := v2 d2
                have r3 := v3 d3
                have r4 := v4 d4
                have r5 := v5 d5
                have r6 := v6 d6
                have r7 := v7 d7
                obtain ⟨x_3, c_3, r3⟩ := r3
                obtain ⟨x_5, c_5, r5⟩ := r5
                obtain ⟨p1_6, c1_6, p2_6, c2_6, p3_6, c3_6, r6⟩ := r6
                obtain ⟨q_7, r7⟩ := r7
                have hN := hH; simp only [hb, d0, d1, d2, d3, d4, d5, d6, d7, cond_true, cond_false] at hN
                simp only [r7, r6, blkOf, partsOf] at hN
                have B := hN.blk (k := 3) rfl
                have f0 := B.free 0; have z0 := B.cell (j := 0) rfl
                have f1 := B.free 1; have z1 := B.cell (j := 1) rfl
                have f2 := B.free 2; have z2 := B.cell (j := 2) rfl
                have lB := B.lt
                go_simp
                refine hK.out _ undef _ ?_ ?_; rotate_left 1
                · (try simp only [r0, r1, r2, r3, r4, r5, r6, r7]); rfl
                exact ⟨by have hX := hN.setB3' (k := 3) rfl (.slice p1_6 JJ.length c1_6) (.slice p2_6 JJ.length c2_6) (.slice p3_6 N3 c3_6); (try simp only [List.set_cons_zero, List.set_cons_succ] at hX); simpa only [updB, updV, blkOf, partsOf, Nat.reduceBEq, cond_true, cond_false, hb, d0, d1, d2, d3, d4, d5, d6, d7, r0, r1, r2, r3, r4, r5, r6, r7] using hX, v0, v1, v2, v3, v4, v5, v6, v7⟩
              exact AllSteps.nil
          case hEp =>
            intro b t wp hJ hall
            obtain ⟨hHp, v0, v1, v2, v3, v4, v5, v6, v7⟩ := hJ
            have a0 : b 0 = true := hall 0 (by decide)
            have a1 : b 1 = true := hall 1 (by decide)
            have a2 : b 2 = true := hall 2 (by decide)
            have a3 : b 3 = true := hall 3 (by decide)
            have a4 : b 4 = true := hall 4 (by decide)
            have a5 : b 5 = true := hall 5 (by decide)
            have a6 : b 6 = true := hall 6 (by decide)
            have a7 : b 7 = true := hall 7 (by decide)
            have a8 : b 8 = true := hall 8 (by decide)
            simp only [a0, a1, a2, a3, a4, a5, a6, a7, a8, cond_true] at hHp
            replace v0 := v0 a0
            replace v1 := v1 a1
            replace v2 := v2 a2
            replace v3 := v3 a3
            replace v4 := v4 a4
            replace v5 := v5 a5
            replace v6 := v6 a6
            replace v7 := v7 a7
            clear hall a0 a1 a2 a3 a4 a5 a6 a7 a8
            generalize t 7 = x7 at hHp v7 ⊢
            generalize t 6 = x6 at hHp v6 ⊢
            generalize t 5 = x5 at hHp v5 ⊢
            generalize t 4 = x4 at hHp v4 ⊢
            generalize t 3 = x3 at hHp v3 ⊢
            generalize t 2 = x2 at hHp v2 ⊢
            generalize t 1 = x1 at hHp v1 ⊢
            generalize t 0 = x0 at hHp v0 ⊢
            subst v0
            subst v1
            subst v2
            obtain ⟨xp3, cp3, rfl⟩ := v3
            subst v4
            obtain ⟨xp5, cp5, rfl⟩ := v5
            obtain ⟨p1p6, c1p6, p2p6, c2p6, p3p6, c3p6, rfl⟩ := v6
            obtain ⟨qp7, rfl⟩ := v7
            simp only [blkOf, partsOf] at hHp
            clear b
            have hHo : Held w1 wp [aI (.slice p1p6 JJ.length c1p6) JJ, aI (.slice p2p6 JJ.length c2p6) (JJ.map dm), aI (.slice p3p6 N3 c3p6) (flat ys), aI (.slice aQ RR.length cQ) RR, aI (.slice xp5 JJ.length cp5) JJ, emp, aB qp7 31 [.slice p1p6 JJ.length c1p6, .slice p2p6 JJ.length c2p6, .slice p3p6 N3 c3p6], emp, emp, emp, emp] := (hHp.open3 (k := 2) rfl).mores 4
            clear hHp hHb hO
            obtain ⟨bq, pc2', hbq, hv2, hcap, _⟩ := (hHo.own (k := 1) rfl).open (by rw [List.length_map]; omega)
            rw [List.length_map] at hv2 hcap
            cases hv2
            have HTK : Hid ((JJ.map dm).take RR.length = RR.map dm) := Lib.hid (by rw [← HJJ.out, List.map_append, List.take_append_of_le_length (by simp)]; exact List.take_of_length_le (by simp))
            have HDR : Hid (getL (JJ.map dm) RR.length (JJ.length - RR.length) = F.map dm) := Lib.hid (by rw [← HJJ.out, List.map_append, List.length_append]; unfold getL; rw [List.drop_append_of_le_length (by simp), List.drop_of_length_le (by simp), List.nil_append]; exact List.take_of_length_le (by simp))
            have hRJ2 : RR.length ≤ JJ.length := by omega
            have hRc : RR.length ≤ c2p6 := by omega
            have hRc2 : RR.length < c2p6 := by omega
            have hRne : ¬ c2p6 = RR.length := by omega
            go_upto_region 18 with fail
            refine wp_region_steps ?Ff (fun b t wx => Held w1 wx [aI (.slice p1p6 JJ.length c1p6) JJ, aI (.slice (some ⟨bq, 0, none⟩) JJ.length c2p6) (JJ.map dm), aI (.slice p3p6 N3 c3p6) (flat ys), (bif b 3 then aI (t 3) LN else aI (.slice aQ RR.length cQ) RR), aI (.slice xp5 JJ.length cp5) JJ, emp, aB qp7 31 [.slice p1p6 JJ.length c1p6, .slice (some ⟨bq, 0, none⟩) JJ.length c2p6, .slice p3p6 N3 c3p6], (bif b 2 then aI (t 2) [into] else emp), (bif b 15 then aI (t 15) DN else (bif b 8 then aI (t 8) (RR.map dm) else emp)), (bif b 14 then aI (t 14) [PF] else emp), (bif b 20 then aB (blkOf (t 19)) 31 (partsOf (t 18)) else (bif b 19 then aB (blkOf (t 19)) 31 [.slice none 0 0, .slice none 0 0, .slice none 0 0] else emp))] ∧ (b 0 = true → t 0 = .slice aQ RR.length cQ) ∧ (b 1 = true → t 1 = .int .i64 into) ∧ (b 2 = true → ∃ x c, t 2 = .slice x 1 c) ∧ (b 3 = true → ∃ x c, t 3 = .slice x LN.length c) ∧ (b 4 = true → t 4 = .pointer (some ⟨qp7, 1, none⟩)) ∧ (b 5 = true → t 5 = .slice (some ⟨bq, 0, none⟩) JJ.length c2p6) ∧ (b 6 = true → t 6 = .int .i64 RR.length) ∧ (b 7 = true → t 7 = .slice (some ⟨bq, 0, none⟩) RR.length c2p6) ∧ (b 8 = true → ∃ x c, t 8 = .slice x RR.length c) ∧ (b 9 = true → t 9 = .pointer (some ⟨qp7, 1, none⟩)) ∧ (b 10 = true → t 10 = .slice (some ⟨bq, 0, none⟩) JJ.length c2p6) ∧ (b 11 = true → t 11 = .int .i64 RR.length) ∧ (b 12 = true → t 12 = .slice (some ⟨bq, RR.length, none⟩) (JJ.length - RR.length) (c2p6 - RR.length)) ∧ (b 13 = true → t 13 = .int .i64 PF) ∧ (b 14 = true → ∃ x c, t 14 = .slice x 1 c) ∧ (b 15 = true → ∃ x c, t 15 = .slice x DN.length c) ∧ (b 16 = true → t 16 = .pointer (some ⟨qp7, 2, none⟩)) ∧ (b 17 = true → t 17 = .slice p3p6 N3 c3p6) ∧ (b 18 = true → t 18 = .agg #[t 3, t 15, .slice p3p6 N3 c3p6]) ∧ (b 19 = true → ∃ q, t 19 = .pointer (some ⟨q, 0, none⟩))) ?hFf (by kernel_rfl) (by kernel_rfl) ?hJf ?hSf ?hEf
            (case hFf => intro t; simp only [putAll, Act.put, List.setIfInBounds_toArray, List.set_cons_zero, List.set_cons_succ, Nat.reduceAdd, Nat.zero_add]; exact rfl)
            case hJf => exact ⟨hHo.grow ((Ext.refl _).drew), fun h => absurd h Bool.false_ne_true, fun h => absurd h Bool.false_ne_true, fun h => absurd h Bool.false_ne_true, fun h => absurd h Bool.false_ne_true, fun h => absurd h Bool.false_ne_true, fun h => absurd h Bool.false_ne_true, fun h => absurd h Bool.false_ne_true, fun h => absurd h Bool.false_ne_true, fun h => absurd h Bool.false_ne_true, fun h => absurd h Bool.false_ne_true, fun h => absurd h Bool.false_ne_true, fun h => absurd h Bool.false_ne_true, fun h => absurd h Bool.false_ne_true, fun h => absurd h Bool.false_ne_true, fun h => absurd h Bool.false_ne_true, fun h => absurd h Bool.false_ne_true, fun h => absurd h Bool.false_ne_true, fun h => absurd h Bool.false_ne_true, fun h => absurd h Bool.false_ne_true, fun h => absurd h Bool.false_ne_true⟩
            case hSf =>
              as_aux_lemma =>
                refine AllSteps.cons (j := 1) rfl (fun b t wx hJ hb hd hcl Kc hK => ?_) ?_
                · obtain ⟨hH, v0, v1, v2, v3, v4, v5, v6, v7, v8, v9, v10, v11, v12, v13, v14, v15, v16, v17, v18, v19⟩ := hJ
                  have P1 := (hH.blk (k := 6) rfl).cell (j := 1) rfl
                  have P2 := (hH.blk (k := 6) rfl).cell (j := 2) rfl
                  go_simp
                  refine hK.out _ ?_ _ ?_ ?_; rotate_left 2
                  · rfl
                  exact ⟨hH, fun _ => rfl, v1, v2, v3, v4, v5, v6, v7, v8, v9, v10, v11, v12, v13, v14, v15, v16, v17, v18, v19⟩
                refine AllSteps.cons (j := 2) rfl (fun b t wx hJ hb hd hcl Kc hK => ?_) ?_
                · obtain ⟨hH, v0, v1, v2, v3, v4, v5, v6, v7, v8, v9, v10, v11, v12, v13, v14, v15, v16, v17, v18, v19⟩ := hJ
                  have P1 := (hH.blk (k := 6) rfl).cell (j := 1) rfl
                  have P2 := (hH.blk (k := 6) rfl).cell (j := 2) rfl
                  go_simp
                  refine hK.out _ ?_ _ ?_ ?_; rotate_left 2
                  · rfl
                  exact ⟨hH, v0, fun _ => rfl, v2, v3, v4, v5, v6, v7, v8, v9, v10, v11, v12, v13, v14, v15, v16, v17, v18, v19⟩
                refine AllSteps.cons (j := 3) rfl (fun b t wx hJ hb hd hcl Kc hK => ?_) ?_
                · obtain ⟨hH, v0, v1, v2, v3, v4, v5, v6, v7, v8, v9, v10, v11, v12, v13, v14, v15, v16, v17, v18, v19⟩ := hJ
                  have d1 : b 1 = true := hd.out 1 (by kernel_rfl)
                  have r1 := v1 d1
                  have hN := hH; simp only [hb, d1, cond_true, cond_false] at hN
                  have P1 := (hH.blk (k := 6) rfl).cell (j := 1) rfl
                  have P2 := (hH.blk (k := 6) rfl).cell (j := 2) rfl
                  go_simp
                  refine hK.out _ ?_ _ ?_ ?_; rotate_left 2
                  · (try simp only [r1]); rfl
                  exact ⟨by have hX := hN.built 7 [into] 1 rfl (by simp [maxLen]) #[.int .i64 into] rfl; (try simp only [List.set_cons_zero, List.set_cons_succ] at hX); simpa only [updB, updV, blkOf, partsOf, Nat.reduceBEq, cond_true, cond_false, hb, d1, r1] using hX, v0, v1, fun _ => ⟨_, _, rfl⟩, v3, v4, v5, v6, v7, v8, v9, v10, v11, v12, v13, v14, v15, v16, v17, v18, v19⟩
                refine AllSteps.cons (j := 4) rfl (fun b t wx hJ hb hd hcl Kc hK => ?_) ?_
                · obtain ⟨hH, v0, v1, v2, v3, v4, v5, v6, v7, v8, v9, v10, v11, v12, v13, v14, v15, v16, v17, v18, v19⟩ := hJ
                  have d0 : b 0 = true := hd.out 0 (by kernel_rfl)
                  have d2 : b 2 = true := hd.out 2 (by kernel_rfl)
                  have n18 : b 18 = false := Bool.eq_false_iff.2 fun h => absurd (hcl.out 18 3 (by kernel_rfl) (h)) (by rw [hb]; exact Bool.false_ne_true)
                  have r0 := v0 d0
                  have r2 := v2 d2
                  obtain ⟨x_2, c_2, r2⟩ := r2
                  have hN := hH; simp only [hb, d0, d2, n18, cond_true, cond_false] at hN
                  have P1 := (hH.blk (k := 6) rfl).cell (j := 1) rfl
                  have P2 := (hH.blk (k := 6) rfl).cell (j := 2) rfl
                  refine step_app wx rfl _ _ 29 rfl (.slice aQ RR.length cQ) (t 2) (by first | rfl | (go_simp; done)) (by first | rfl | (go_simp; done)) _ (run_pushes _ wx 0 _ _ RR [into] (hN.own (k := 3) rfl).zero (hN.ints (k := 7) rfl) (by first | (simp; omega) | omega) (Nat.zero_le _)) ?_; rintro va wa ⟨oa, ga, na⟩; rw [HLN.out] at oa
                  obtain ⟨aa, ca, hva, _, _⟩ := oa.ints.val; subst hva
                  refine hK.out _ ?_ _ ?_ ?_; rotate_left 2
                  · (try simp only [r0, r2]); rfl
                  exact ⟨by have hX := hN.pushed (k := 3) rfl oa ga na; (try simp only [List.set_cons_zero, List.set_cons_succ] at hX); simpa only [updB, updV, blkOf, partsOf, Nat.reduceBEq, cond_true, cond_false, hb, d0, d2, n18, r0, r2] using hX, v0, v1, v2, fun _ => ⟨_, _, rfl⟩, v4, v5, v6, v7, v8, v9, v10, v11, v12, v13, v14, v15, v16, v17, fun h => absurd (show b 18 = true from h) (by rw [n18]; exact Bool.false_ne_true), v19⟩
                refine AllSteps.cons (j := 5) rfl (fun b t wx hJ hb hd hcl Kc hK => ?_) ?_
                · obtain ⟨hH, v0, v1, v2, v3, v4, v5, v6, v7, v8, v9, v10, v11, v12, v13, v14, v15, v16, v17, v18, v19⟩ := hJ
                  have P1 := (hH.blk (k := 6) rfl).cell (j := 1) rfl
                  have P2 := (hH.blk (k := 6) rfl).cell (j := 2) rfl
                  go_simp
                  refine hK.out _ ?_ _ ?_ ?_; rotate_left 2
                  · rfl
                  exact ⟨hH, v0, v1, v2, v3, fun _ => rfl, v5, v6, v7, v8, v9, v10, v11, v12, v13, v14, v15, v16, v17, v18, v19⟩
                refine AllSteps.cons (j := 6) rfl (fun b t wx hJ hb hd hcl Kc hK => ?_) ?_
                · obtain ⟨hH, v0, v1, v2, v3, v4, v5, v6, v7, v8, v9, v10, v11, v12, v13, v14, v15, v16, v17, v18, v19⟩ := hJ
                  have d4 : b 4 = true := hd.out 4 (by kernel_rfl)
                  have r4 := v4 d4
                  have P1 := (hH.blk (k := 6) rfl).cell (j := 1) rfl
                  have P2 := (hH.blk (k := 6) rfl).cell (j := 2) rfl
                  go_simp
                  refine hK.out _ ?_ _ ?_ ?_; rotate_left 2
                  · (try simp only [r4]); rfl
                  exact ⟨hH, v0, v1, v2, v3, v4, fun _ => rfl, v6, v7, v8, v9, v10, v11, v12, v13, v14, v15, v16, v17, v18, v19⟩
                refine AllSteps.cons (j := 7) rfl (fun b t wx hJ hb hd hcl Kc hK => ?_) ?_
                · obtain ⟨hH, v0, v1, v2, v3, v4, v5, v6, v7, v8, v9, v10, v11, v12, v13, v14, v15, v16, v17, v18, v19⟩ := hJ
                  have P1 := (hH.blk (k := 6) rfl).cell (j := 1) rfl
                  have P2 := (hH.blk (k := 6) rfl).cell (j := 2) rfl
                  go_simp
                  refine hK.out _ ?_ _ ?_ ?_; rotate_left 2
                  · rfl
                  exact ⟨hH, v0, v1, v2, v3, v4, v5, fun _ => rfl, v7, v8, v9, v10, v11, v12, v13, v14, v15, v16, v17, v18, v19⟩
                refine AllSteps.cons (j := 8) rfl (fun b t wx hJ hb hd hcl Kc hK => ?_) ?_
                · obtain ⟨hH, v0, v1, v2, v3, v4, v5, v6, v7, v8, v9, v10, v11, v12, v13, v14, v15, v16, v17, v18, v19⟩ := hJ
                  have d5 : b 5 = true := hd.out 5 (by kernel_rfl)
                  have d6 : b 6 = true := hd.out 6 (by kernel_rfl)
                  have r5 := v5 d5
                  have r6 := v6 d6
                  have P1 := (hH.blk (k := 6) rfl).cell (j := 1) rfl
                  have P2 := (hH.blk (k := 6) rfl).cell (j := 2) rfl
                  go_simp
                  refine hK.out _ ?_ _ ?_ ?_; rotate_left 2
                  · (try simp only [r5, r6]); rfl
                  exact ⟨hH, v0, v1, v2, v3, v4, v5, v6, fun _ => rfl, v8, v9, v10, v11, v12, v13, v14, v15, v16, v17, v18, v19⟩
                refine AllSteps.cons (j := 9) rfl (fun b t wx hJ hb hd hcl Kc hK => ?_) ?_
                · obtain ⟨hH, v0, v1, v2, v3, v4, v5, v6, v7, v8, v9, v10, v11, v12, v13, v14, v15, v16, v17, v18, v19⟩ := hJ
                  have d3 : b 3 = true := hd.out 3 (by kernel_rfl)
                  have d7 : b 7 = true := hd.out 7 (by kernel_rfl)
                  have n15 : b 15 = false := Bool.eq_false_iff.2 fun h => absurd (hcl.out 15 8 (by kernel_rfl) (h)) (by rw [hb]; exact Bool.false_ne_true)
                  have r3 := v3 d3
                  have r7 := v7 d7
                  obtain ⟨x_3, c_3, r3⟩ := r3
                  have hN := hH; simp only [hb, d3, d7, n15, cond_true, cond_false] at hN
                  have P1 := (hH.blk (k := 6) rfl).cell (j := 1) rfl
                  have P2 := (hH.blk (k := 6) rfl).cell (j := 2) rfl
                  go_simp
                  go_at_call 62
                  refine (copyInts_any _ (RR.map dm) _ (by have h : IntS wx _ _ := (hH.ints (k := 1) rfl).takeS (j := RR.length) (by simp; omega); rw [HTK.out] at h; exact h) (by simp; omega)).mono ?_; rintro e8 w8 ⟨vd, rfl, dc, h8⟩
                  obtain ⟨da1, da2, rfl⟩ : ∃ a c, vd = .slice a RR.length c := (by obtain ⟨a, c, rfl, _, _⟩ := dc.ints.val; exact ⟨a, c, by simp⟩)
                  (try go_simp)
                  refine hK.out _ ?_ _ ?_ ?_; rotate_left 2
                  · (try simp only [r3, r7]); rfl
                  exact ⟨by have hX := hN.addI 8 h8 dc (Nat.le_refl _); (try simp only [List.set_cons_zero, List.set_cons_succ] at hX); simpa only [updB, updV, blkOf, partsOf, Nat.reduceBEq, cond_true, cond_false, hb, d3, d7, n15, r3, r7] using hX, v0, v1, v2, v3, v4, v5, v6, v7, fun _ => ⟨_, _, rfl⟩, v9, v10, v11, v12, v13, v14, v15, v16, v17, v18, v19⟩
                refine AllSteps.cons (j := 10) rfl (fun b t wx hJ hb hd hcl Kc hK => ?_) ?_
                · obtain ⟨hH, v0, v1, v2, v3, v4, v5, v6, v7, v8, v9, v10, v11, v12, v13, v14, v15, v16, v17, v18, v19⟩ := hJ
                  have P1 := (hH.blk (k := 6) rfl).cell (j := 1) rfl
                  have P2 := (hH.blk (k := 6) rfl).cell (j := 2) rfl
                  go_simp
                  refine hK.out _ ?_ _ ?_ ?_; rotate_left 2
                  · rfl
                  exact ⟨hH, v0, v1, v2, v3, v4, v5, v6, v7, v8, fun _ => rfl, v10, v11, v12, v13, v14, v15, v16, v17, v18, v19⟩
                refine AllSteps.cons (j := 11) rfl (fun b t wx hJ hb hd hcl Kc hK => ?_) ?_
                · obtain ⟨hH, v0, v1, v2, v3, v4, v5, v6, v7, v8, v9, v10, v11, v12, v13, v14, v15, v16, v17, v18, v19⟩ := hJ
                  have d9 : b 9 = true := hd.out 9 (by kernel_rfl)
                  have r9 := v9 d9
                  have P1 := (hH.blk (k := 6) rfl).cell (j := 1) rfl
                  have P2 := (hH.blk (k := 6) rfl).cell (j := 2) rfl
                  go_simp
                  refine hK.out _ ?_ _ ?_ ?_; rotate_left 2
                  · (try simp only [r9]); rfl
                  exact ⟨hH, v0, v1, v2, v3, v4, v5, v6, v7, v8, v9, fun _ => rfl, v11, v12, v13, v14, v15, v16, v17, v18, v19⟩
                refine AllSteps.cons (j := 12) rfl (fun b t wx hJ hb hd hcl Kc hK => ?_) ?_
                · obtain ⟨hH, v0, v1, v2, v3, v4, v5, v6, v7, v8, v9, v10, v11, v12, v13, v14, v15, v16, v17, v18, v19⟩ := hJ
                  have P1 := (hH.blk (k := 6) rfl).cell (j := 1) rfl
                  have P2 := (hH.blk (k := 6) rfl).cell (j := 2) rfl
                  go_simp
                  refine hK.out _ ?_ _ ?_ ?_; rotate_left 2
                  · rfl
                  exact ⟨hH, v0, v1, v2, v3, v4, v5, v6, v7, v8, v9, v10, fun _ => rfl, v12, v13, v14, v15, v16, v17, v18, v19⟩
                refine AllSteps.cons (j := 13) rfl (fun b t wx hJ hb hd hcl Kc hK => ?_) ?_
                · obtain ⟨hH, v0, v1, v2, v3, v4, v5, v6, v7, v8, v9, v10, v11, v12, v13, v14, v15, v16, v17, v18, v19⟩ := hJ
                  have d10 : b 10 = true := hd.out 10 (by kernel_rfl)
                  have d11 : b 11 = true := hd.out 11 (by kernel_rfl)
                  have r10 := v10 d10
                  have r11 := v11 d11
                  have P1 := (hH.blk (k := 6) rfl).cell (j := 1) rfl
                  have P2 := (hH.blk (k := 6) rfl).cell (j := 2) rfl
                  go_simp
                  refine hK.out _ ?_ _ ?_ ?_; rotate_left 2
                  · (try simp only [r10, r11]); rfl
                  exact ⟨hH, v0, v1, v2, v3, v4, v5, v6, v7, v8, v9, v10, v11, fun _ => rfl, v13, v14, v15, v16, v17, v18, v19⟩
                refine AllSteps.cons (j := 14) rfl (fun b t wx hJ hb hd hcl Kc hK => ?_) ?_
                · obtain ⟨hH, v0, v1, v2, v3, v4, v5, v6, v7, v8, v9, v10, v11, v12, v13, v14, v15, v16, v17, v18, v19⟩ := hJ
                  have d8 : b 8 = true := hd.out 8 (by kernel_rfl)
                  have d12 : b 12 = true := hd.out 12 (by kernel_rfl)
                  have r8 := v8 d8
                  have r12 := v12 d12
                  obtain ⟨x_8, c_8, r8⟩ := r8
                  have P1 := (hH.blk (k := 6) rfl).cell (j := 1) rfl
                  have P2 := (hH.blk (k := 6) rfl).cell (j := 2) rfl
                  go_simp
                  go_at_call 50
                  refine (productOf_any _ (F.map dm) _ (by have h : IntS wx _ _ := IntS.part (hH.ints (k := 1) rfl) (o := RR.length) (W := JJ.length - RR.length) (by omega) (by simp; omega); rw [Nat.zero_add, HDR.out] at h; exact h) HFD.out.1 HFD.out.2).mono ?_; rintro e13 w13 ⟨rfl, rfl⟩
                  rw [HPF.out]
                  (try go_simp)
                  refine hK.out _ ?_ _ ?_ ?_; rotate_left 2
                  · (try simp only [r8, r12]); rfl
                  exact ⟨hH, v0, v1, v2, v3, v4, v5, v6, v7, v8, v9, v10, v11, v12, fun _ => rfl, v14, v15, v16, v17, v18, v19⟩
                refine AllSteps.cons (j := 15) rfl (fun b t wx hJ hb hd hcl Kc hK => ?_) ?_
                · obtain ⟨hH, v0, v1, v2, v3, v4, v5, v6, v7, v8, v9, v10, v11, v12, v13, v14, v15, v16, v17, v18, v19⟩ := hJ
                  have d13 : b 13 = true := hd.out 13 (by kernel_rfl)
                  have r13 := v13 d13
                  have hN := hH; simp only [hb, d13, cond_true, cond_false] at hN
                  have P1 := (hH.blk (k := 6) rfl).cell (j := 1) rfl
                  have P2 := (hH.blk (k := 6) rfl).cell (j := 2) rfl
                  go_simp
                  refine hK.out _ ?_ _ ?_ ?_; rotate_left 2
                  · (try simp only [r13]); rfl
                  exact ⟨by have hX := hN.built 9 [PF] 1 rfl (by simp [maxLen]) #[.int .i64 PF] rfl; (try simp only [List.set_cons_zero, List.set_cons_succ] at hX); simpa only [updB, updV, blkOf, partsOf, Nat.reduceBEq, cond_true, cond_false, hb, d13, r13] using hX, v0, v1, v2, v3, v4, v5, v6, v7, v8, v9, v10, v11, v12, v13, fun _ => ⟨_, _, rfl⟩, v15, v16, v17, v18, v19⟩
                refine AllSteps.cons (j := 16) rfl (fun b t wx hJ hb hd hcl Kc hK => ?_) ?_
                · obtain ⟨hH, v0, v1, v2, v3, v4, v5, v6, v7, v8, v9, v10, v11, v12, v13, v14, v15, v16, v17, v18, v19⟩ := hJ
                  have d8 : b 8 = true := hd.out 8 (by kernel_rfl)
                  have d13 : b 13 = true := hd.out 13 (by kernel_rfl)
                  have d14 : b 14 = true := hd.out 14 (by kernel_rfl)
                  have n18 : b 18 = false := Bool.eq_false_iff.2 fun h => absurd (hcl.out 18 15 (by kernel_rfl) (h)) (by rw [hb]; exact Bool.false_ne_true)
                  have r8 := v8 d8
                  have r13 := v13 d13
                  have r14 := v14 d14
                  obtain ⟨x_8, c_8, r8⟩ := r8
                  obtain ⟨x_14, c_14, r14⟩ := r14
                  have hN := hH; simp only [hb, d8, d13, d14, n18, cond_true, cond_false] at hN
                  have P1 := (hH.blk (k := 6) rfl).cell (j := 1) rfl
                  have P2 := (hH.blk (k := 6) rfl).cell (j := 2) rfl
                  refine step_app wx rfl _ _ 29 rfl (t 8) (t 14) (by first | rfl | (go_simp; done)) (by first | rfl | (go_simp; done)) _ (run_pushes _ wx 0 _ _ (RR.map dm) [PF] (hN.own (k := 8) rfl).zero (hN.ints (k := 9) rfl) (by first | (simp; omega) | omega) (Nat.zero_le _)) ?_; rintro va wa ⟨oa, ga, na⟩; rw [HDN.out] at oa
                  obtain ⟨aa, ca, hva, _, _⟩ := oa.ints.val; subst hva
                  refine hK.out _ ?_ _ ?_ ?_; rotate_left 2
                  · (try simp only [r8, r13, r14]); rfl
                  exact ⟨by have hX := hN.pushed (k := 8) rfl oa ga na; (try simp only [List.set_cons_zero, List.set_cons_succ] at hX); simpa only [updB, updV, blkOf, partsOf, Nat.reduceBEq, cond_true, cond_false, hb, d8, d13, d14, n18, r8, r13, r14] using hX, v0, v1, v2, v3, v4, v5, v6, v7, v8, v9, v10, v11, v12, v13, v14, fun _ => ⟨_, _, rfl⟩, v16, v17, fun h => absurd (show b 18 = true from h) (by rw [n18]; exact Bool.false_ne_true), v19⟩
                refine AllSteps.cons (j := 17) rfl (fun b t wx hJ hb hd hcl Kc hK => ?_) ?_
                · obtain ⟨hH, v0, v1, v2, v3, v4, v5, v6, v7, v8, v9, v10, v11, v12, v13, v14, v15, v16, v17, v18, v19⟩ := hJ
                  have P1 := (hH.blk (k := 6) rfl).cell (j := 1) rfl
                  have P2 := (hH.blk (k := 6) rfl).cell (j := 2) rfl
                  go_simp
                  refine hK.out _ ?_ _ ?_ ?_; rotate_left 2
                  · rfl
                  exact ⟨hH, v0, v1, v2, v3, v4, v5, v6, v7, v8, v9, v10, v11, v12, v13, v14, v15, fun _ => rfl, v17, v18, v19⟩
                refine AllSteps.cons (j := 18) rfl (fun b t wx hJ hb hd hcl Kc hK => ?_) ?_
                · obtain ⟨hH, v0, v1, v2, v3, v4, v5, v6, v7, v8, v9, v10, v11, v12, v13, v14, v15, v16, v17, v18, v19⟩ := hJ
                  have d16 : b 16 = true := hd.out 16 (by kernel_rfl)
                  have r16 := v16 d16
                  have P1 := (hH.blk (k := 6) rfl).cell (j := 1) rfl
                  have P2 := (hH.blk (k := 6) rfl).cell (j := 2) rfl
                  go_simp
                  refine hK.out _ ?_ _ ?_ ?_; rotate_left 2
                  · (try simp only [r16]); rfl
                  exact ⟨hH, v0, v1, v2, v3, v4, v5, v6, v7, v8, v9, v10, v11, v12, v13, v14, v15, v16, fun _ => rfl, v18, v19⟩
                refine AllSteps.cons (j := 19) rfl (fun b t wx hJ hb hd hcl Kc hK => ?_) ?_
                · obtain ⟨hH, v0, v1, v2, v3, v4, v5, v6, v7, v8, v9, v10, v11, v12, v13, v14, v15, v16, v17, v18, v19⟩ := hJ
                  have d3 : b 3 = true := hd.out 3 (by kernel_rfl)
                  have d15 : b 15 = true := hd.out 15 (by kernel_rfl)
                  have d17 : b 17 = true := hd.out 17 (by kernel_rfl)
                  have n20 : b 20 = false := Bool.eq_false_iff.2 fun h => absurd (hcl.out 20 18 (by kernel_rfl) (h)) (by rw [hb]; exact Bool.false_ne_true)
                  have r3 := v3 d3
                  have r15 := v15 d15
                  have r17 := v17 d17
                  obtain ⟨x_3, c_3, r3⟩ := r3
                  obtain ⟨x_15, c_15, r15⟩ := r15
                  have hN := hH; simp only [hb, d3, d15, d17, n20, cond_true, cond_false] at hN
                  have P1 := (hH.blk (k := 6) rfl).cell (j := 1) rfl
                  have P2 := (hH.blk (k := 6) rfl).cell (j := 2) rfl
                  go_simp
                  refine hK.out _ ?_ _ ?_ ?_; rotate_left 2
                  · (try simp only [r3, r15, r17]); rfl
                  exact ⟨by have hX := hN; (try simp only [List.set_cons_zero, List.set_cons_succ] at hX); simpa only [updB, updV, blkOf, partsOf, Nat.reduceBEq, cond_true, cond_false, hb, d3, d15, d17, n20, r3, r15, r17] using hX, v0, v1, v2, v3, v4, v5, v6, v7, v8, v9, v10, v11, v12, v13, v14, v15, v16, v17, fun _ => (by show Value.agg _ = Value.agg #[t 3, t 15, _]; rw [r3, r15]), v19⟩
                refine AllSteps.cons (j := 20) rfl (fun b t wx hJ hb hd hcl Kc hK => ?_) ?_
                · obtain ⟨hH, v0, v1, v2, v3, v4, v5, v6, v7, v8, v9, v10, v11, v12, v13, v14, v15, v16, v17, v18, v19⟩ := hJ
                  have n20 : b 20 = false := Bool.eq_false_iff.2 fun h => absurd (hcl.out 20 19 (by kernel_rfl) (h)) (by rw [hb]; exact Bool.false_ne_true)
                  have hN := hH; simp only [hb, n20, cond_true, cond_false] at hN
                  have P1 := (hH.blk (k := 6) rfl).cell (j := 1) rfl
                  have P2 := (hH.blk (k := 6) rfl).cell (j := 2) rfl
                  go_simp
                  refine hK.out _ ?_ _ ?_ ?_; rotate_left 2
                  · rfl
                  exact ⟨by have hX := hN.addB 10 #[.slice none 0 0, .slice none 0 0, .slice none 0 0] 31; (try simp only [List.set_cons_zero, List.set_cons_succ] at hX); simpa only [updB, updV, blkOf, partsOf, Nat.reduceBEq, cond_true, cond_false, hb, n20] using hX, v0, v1, v2, v3, v4, v5, v6, v7, v8, v9, v10, v11, v12, v13, v14, v15, v16, v17, v18, fun _ => ⟨_, rfl⟩⟩
                refine AllSteps.cons (j := 21) rfl (fun b t wx hJ hb hd hcl Kc hK => ?_) ?_
                · obtain ⟨hH, v0, v1, v2, v3, v4, v5, v6, v7, v8, v9, v10, v11, v12, v13, v14, v15, v16, v17, v18, v19⟩ := hJ
                  have d0 : b 0 = true := hd.out 0 (by kernel_rfl)
                  have d1 : b 1 = true := hd.out 1 (by kernel_rfl)
                  have d2 : b 2 = true := hd.out 2 (by kernel_rfl)
                  have d3 : b 3 = true := hd.out 3 (by kernel_rfl)
                  have d4 : b 4 = true := hd.out 4 (by kernel_rfl)
                  have d5 : b 5 = true := hd.out 5 (by kernel_rfl)
                  have d6 : b 6 = true := hd.out 6 (by kernel_rfl)
                  have d7 : b 7 = true := hd.out 7 (by kernel_rfl)
                  have d8 : b 8 = true := hd.out 8 (by kernel_rfl)
                  have d9 : b 9 = true := hd.out 9 (by kernel_rfl)
                  have d10 : b 10 = true := hd.out 10 (by kernel_rfl)
                  have d11 : b 11 = true := hd.out 11 (by kernel_rfl)
                  have d12 : b 12 = true := hd.out 12 (by kernel_rfl)
                  have d13 : b 13 = true := hd.out 13 (by kernel_rfl)
                  have d14 : b 14 = true := hd.out 14 (by kernel_rfl)
                  have d15 : b 15 = true := hd.out 15 (by kernel_rfl)
                  have d16 : b 16 = true := hd.out 16 (by kernel_rfl)
                  have d17 : b 17 = true := hd.out 17 (by kernel_rfl)
                  have d18 : b 18 = true := hd.out 18 (by kernel_rfl)
                  have d19 : b 19 = true := hd.out 19 (by kernel_rfl)
                  have r0 := v0 d0
                  have r1 := v1 d1
                  have r2 := v2 d2
                  have r3 := v3 d3
                  have r4 := v4 d4
                  have r5 := v5 d5
                  have r6 := v6 d6
                  have r7 := v7 d7
                  have r8 := v8 d8
                  have r9 := v9 d9
                  have r10 := v10 d10
                  have r11 := v11 d11
                  have r12 := v12 d12
                  have r13 := v13 d13
                  have r14 := v14 d14
                  have r15 := v15 d15
                  have r16 := v16 d16
                  have r17 := v17 d17
                  have r18 := v18 d18
                  have r19 := v19 d19
                  obtain ⟨x_2, c_2, r2⟩ := r2
                  obtain ⟨x_3, c_3, r3⟩ := r3
                  obtain ⟨x_8, c_8, r8⟩ := r8
                  obtain ⟨x_14, c_14, r14⟩ := r14
                  obtain ⟨x_15, c_15, r15⟩ := r15
                  obtain ⟨q_19, r19⟩ := r19
                  have hN := hH; simp only [hb, d0, d1, d2, d3, d4, d5, d6, d7, d8, d9, d10, d11, d12, d13, d14, d15, d16, d17, d18, d19, cond_true, cond_false] at hN
                  have P1 := (hH.blk (k := 6) rfl).cell (j := 1) rfl
                  have P2 := (hH.blk (k := 6) rfl).cell (j := 2) rfl
                  rw [r3, r15] at r18 -- d3 d15
                  simp only [r19, r18, blkOf, partsOf] at hN
                  have B := hN.blk (k := 10) rfl
                  have f0 := B.free 0; have z0 := B.cell (j := 0) rfl
                  have f1 := B.free 1; have z1 := B.cell (j := 1) rfl
                  have f2 := B.free 2; have z2 := B.cell (j := 2) rfl
                  have lB := B.lt
                  go_simp
                  refine hK.out _ undef _ ?_ ?_; rotate_left 1
                  · (try simp only [r0, r1, r2, r3, r4, r5, r6, r7, r8, r9, r10, r11, r12, r13, r14, r15, r16, r17, r18, r19]); rfl
                  exact ⟨by have hX := hN.setB3' (k := 10) rfl (.slice x_3 LN.length c_3) (.slice x_15 DN.length c_15) (.slice p3p6 N3 c3p6); (try simp only [List.set_cons_zero, List.set_cons_succ] at hX); simpa only [updB, updV, blkOf, partsOf, Nat.reduceBEq, cond_true, cond_false, hb, d0, d1, d2, d3, d4, d5, d6, d7, d8, d9, d10, d11, d12, d13, d14, d15, d16, d17, d18, d19, r0, r1, r2, r3, r4, r5, r6, r7, r8, r9, r10, r11, r12, r13, r14, r15, r16, r17, r18, r19] using hX, v0, v1, v2, v3, v4, v5, v6, v7, v8, v9, v10, v11, v12, v13, v14, v15, v16, v17, v18, v19⟩
                exact AllSteps.nil
            case hEf =>
              intro b t wf hJ hall
              obtain ⟨hHf, v0, v1, v2, v3, v4, v5, v6, v7, v8, v9, v10, v11, v12, v13, v14, v15, v16, v17, v18, v19⟩ := hJ
              have a0 : b 0 = true := hall 0 (by decide)
              have a1 : b 1 = true := hall 1 (by decide)
              have a2 : b 2 = true := hall 2 (by decide)
              have a3 : b 3 = true := hall 3 (by decide)
              have a4 : b 4 = true := hall 4 (by decide)
              have a5 : b 5 = true := hall 5 (by decide)
              have a6 : b 6 = true := hall 6 (by decide)
              have a7 : b 7 = true := hall 7 (by decide)
              have a8 : b 8 = true := hall 8 (by decide)
              have a9 : b 9 = true := hall 9 (by decide)
              have a10 : b 10 = true := hall 10 (by decide)
              have a11 : b 11 = true := hall 11 (by decide)
              have a12 : b 12 = true := hall 12 (by decide)
              have a13 : b 13 = true := hall 13 (by decide)
              have a14 : b 14 = true := hall 14 (by decide)
              have a15 : b 15 = true := hall 15 (by decide)
              have a16 : b 16 = true := hall 16 (by decide)
              have a17 : b 17 = true := hall 17 (by decide)
              have a18 : b 18 = true := hall 18 (by decide)
              have a19 : b 19 = true := hall 19 (by decide)
              have a20 : b 20 = true := hall 20 (by decide)
              simp only [a0, a1, a2, a3, a4, a5, a6, a7, a8, a9, a10, a11, a12, a13, a14, a15, a16, a17, a18, a19, a20, cond_true] at hHf
              replace v0 := v0 a0
              replace v1 := v1 a1
              replace v2 := v2 a2
              replace v3 := v3 a3
              replace v4 := v4 a4
              replace v5 := v5 a5
              replace v6 := v6 a6
              replace v7 := v7 a7
              replace v8 := v8 a8
              replace v9 := v9 a9
              replace v10 := v10 a10
              replace v11 := v11 a11
              replace v12 := v12 a12
              replace v13 := v13 a13
              replace v14 := v14 a14
              replace v15 := v15 a15
              replace v16 := v16 a16
              replace v17 := v17 a17
              replace v18 := v18 a18
              replace v19 := v19 a19
              clear hall a0 a1 a2 a3 a4 a5 a6 a7 a8 a9 a10 a11 a12 a13 a14 a15 a16 a17 a18 a19 a20
              generalize t 19 = x19 at hHf v19 ⊢
              generalize t 18 = x18 at hHf v18 ⊢
              generalize t 17 = x17 at hHf v17 ⊢
              generalize t 16 = x16 at hHf v16 ⊢
              generalize t 15 = x15 at hHf v15 v18 ⊢
              generalize t 14 = x14 at hHf v14 ⊢
              generalize t 13 = x13 at hHf v13 ⊢
              generalize t 12 = x12 at hHf v12 ⊢
              generalize t 11 = x11 at hHf v11 ⊢
              generalize t 10 = x10 at hHf v10 ⊢
              generalize t 9 = x9 at hHf v9 ⊢
              generalize t 8 = x8 at hHf v8 ⊢
              generalize t 7 = x7 at hHf v7 ⊢
              generalize t 6 = x6 at hHf v6 ⊢
              generalize t 5 = x5 at hHf v5 ⊢
              generalize t 4 = x4 at hHf v4 ⊢
              generalize t 3 = x3 at hHf v3 v18 ⊢
              generalize t 2 = x2 at hHf v2 ⊢
              generalize t 1 = x1 at hHf v1 ⊢
              generalize t 0 = x0 at hHf v0 ⊢
              subst v0
              subst v1
              obtain ⟨xf2, cf2, rfl⟩ := v2
              obtain ⟨xf3, cf3, rfl⟩ := v3
              subst v4
              subst v5
              subst v6
              subst v7
              obtain ⟨xf8, cf8, rfl⟩ := v8
              subst v9
              subst v10
              subst v11
              subst v12
              subst v13
              obtain ⟨xf14, cf14, rfl⟩ := v14
              obtain ⟨xf15, cf15, rfl⟩ := v15
              subst v16
              subst v17
              subst v18
              obtain ⟨qf19, rfl⟩ := v19
              simp only [blkOf, partsOf] at hHf
              clear b
              have hl0 := hHf.own (k := 3) rfl; have hl1 := hHf.own (k := 8) rfl; have hl2 := hHf.own (k := 2) rfl; have hT0 := hHf.close3 (i := 3) (j := 8) (m := 2) rfl rfl rfl (by decide) (by decide) (by decide)
              have E1d := hHf.ext; have Bf := hHf.blk (k := 10) rfl; clear hHf hHo
              have BrE := Kr.ext E1d
              have ir0_E := BrE.cell (j := 0) rfl
              have ir1_E := BrE.cell (j := 1) rfl
              have ir2_E := BrE.cell (j := 2) rfl
              have lr_E := BrE.lt
              have BaE := Ka.ext E1d
              have ia0_E := BaE.cell (j := 0) rfl
              have ia1_E := BaE.cell (j := 1) rfl
              have ia2_E := BaE.cell (j := 2) rfl
              have la_E := BaE.lt
              have BzE := Kz.ext E1d
              have lz_E := BzE.lt
              have if0_E := Bf.cell (j := 0) rfl
              have if1_E := Bf.cell (j := 1) rfl
              have if2_E := Bf.cell (j := 2) rfl
              have lf_E := Bf.lt
              go_wp2_with fail
              refine (tensorOk_impl k p n _ LN DN (flat ys) _ ⟨_, _, _, rfl, hl0.ints, hl1.ints, hl2.ints⟩).mono ?_; rintro e9 w9 ⟨rfl, h9⟩; rw [HYF.out]
              have E9 := E1d.trans h9
              have Bz9 := Kz.ext E9
              have Bf9 := Bf.ext h9
              have f0 := Bz9.free 0
              have z0 := Bz9.cell (j := 0) rfl
              have y0 := Bf9.cell (j := 0) rfl
              have f1 := Bz9.free 1
              have z1 := Bz9.cell (j := 1) rfl
              have y1 := Bf9.cell (j := 1) rfl
              have f2 := Bz9.free 2
              have z2 := Bz9.cell (j := 2) rfl
              have y2 := Bf9.cell (j := 2) rfl
              have lz9 := Bz9.lt
              have lf9 := Bf9.lt
              have HT0 := Lib.hid hT0; clear hl0 hl1 hl2 hT0
              have hlt3 : w.heap.size + 1 + 1 < w1.heap.size := by omega
              go_upto_region 21 with fail
              repeat go_step
              refine bodyPost_ret (v := .tuple #[.agg #[.slice xf3 LN.length cf3, .slice xf15 DN.length cf15, .slice p3p6 N3 c3p6], .bool true]) (by simp [results, Try.results42, go_sem, *]) rfl ?_
              exact ⟨_, rfl, ((((HT0.out.ext h9).setBelow hlt3 _).setBelow hlt3 _).setBelow hlt3 _).mono (by omega), (((h1.trans E9).setAt (by omega) _ _).setAt (by omega) _ _).setAt (by omega) _ _⟩
end
end Go.Proofs.Ytabeciopggofkaa
