/- l05Get, l05Index, l06Permute of the reference (a tensor with the axes in some order), MakeLike. -/
import Derived.Test.YtabeciopggofkaaYBase
import Derived.Test.YtabeciopggofkaaYPermW
import Derived.Test.YtabeciopggofkaaYShuf
import Derived.Test.YtabeciopggofkaaYTenW
namespace Go.Proofs.Ytabeciopggofkaa
open Go.RowKit
set_option linter.unusedSimpArgs false
set_option linter.unusedVariables false

set_option maxHeartbeats 1000000 in
theorem l05Get_own (k p n i : Int) (o W : Nat) (hW : ringWidth k n = (W : Int)) (a1 a2 : Option Addr) (m1 c1 m2 c2 bd off cd : Nat) (X : List Int) (w : World) (hX : IntS w (.slice (some ⟨bd, off, none⟩) X.length cd) X) (ho : i * (W : Int) = o) (hi : 0 ≤ i) (hw : RingWide k n) (hfit : o + W ≤ X.length) (hcd : X.length ≤ cd) (hlen : X.length ≤ 1048576) :
    Calls Try.prog 105 #[ringV k p n, .agg #[.slice a1 m1 c1, .slice a2 m2 c2, .slice (some ⟨bd, off, none⟩) X.length cd], .int .i64 i] w fun e w' =>
      ∃ v, e = .returned v ∧ OwnI w' w.heap.size v (getL X o W) ∧ Ext w w' := by
  have hw0 := hw.lo
  have hw1 := hw.hi
  rw [hW] at hw0 hw1
  have hpart := hX.part (o := o) (W := W) (by omega) hfit
  have hib : i * 1 ≤ i * (W : Int) := Int.mul_le_mul_of_nonneg_left (by omega) hi
  have e1 : IntKind.i64.wrap (i * (W : Int)) = (o : Int) := by rw [IntKind.wrap_i64, ho]; omega
  have e3 : IntKind.i64.wrap ((o : Int) + W) = ((o + W : Nat) : Int) := by rw [IntKind.wrap_i64]; omega
  have e4 : o + W - o = W := by omega
  have e5 : o < cd := by omega
  have hgl : (getL X o W).length = W := getL_length hfit
  have HGL := Lib.hid hgl
  have HW := Lib.hid hW; clear hW hw ho hgl
  go_enter Try.func105, Try.ntmps105
  go_wp2_with fail
  refine (l02Width_any _ _ _ _).mono ?_; rintro e1 w1 ⟨rfl, h1⟩; rw [HW.out]; have s1 := h1.size; (try simp at s1); have t1_0 : w.heap.size < w1.heap.size := (by omega); have c1_0 := fun o => h1.cells (w.heap.size) o (by first | (simp; done) | (simp; omega) | omega); have t1_1 : w.heap.size + 1 < w1.heap.size := (by omega); have c1_1 := fun o => h1.cells (w.heap.size + 1) o (by first | (simp; done) | (simp; omega) | omega); have f1_0 := fun o => h1.frozens (w.heap.size) o (by first | (simp; done) | (simp; omega) | omega); have f1_1 := fun o => h1.frozens (w.heap.size + 1) o (by first | (simp; done) | (simp; omega) | omega)
  have E1 : Ext w w1 := (by repeat' (first | (with_reducible exact Ext.refl _) | (with_reducible assumption) | (with_reducible apply Ext.alloc) | (with_reducible apply Ext.drew) | (with_reducible apply Ext.drewN) | (refine Ext.setAt ?_ (by omega) _ _) | (refine Ext.trans ?_ (by assumption))))
  have hp1 := (hpart.ext E1).ext (show Ext w1 (w1.alloc (.cells #[] 3)) from (by repeat' (first | (with_reducible exact Ext.refl _) | (with_reducible assumption) | (with_reducible apply Ext.alloc) | (with_reducible apply Ext.drew) | (with_reducible apply Ext.drewN) | (refine Ext.setAt ?_ (by omega) _ _) | (refine Ext.trans ?_ (by assumption)))))
  have hs1 := E1.size
  go_wp2_with (at_builtin; (try rw [e4]); refine wpList_app _ rfl _ _ 29 rfl _ _ rfl rfl _ (run_app_ints _ (w1.alloc (.cells #[] 3)) w.heap.size (.slice (some ⟨w1.heap.size, 0, none⟩) 0 0) (.slice (some ⟨bd, off + o, none⟩) W (cd - o)) [] (getL X o W) (OwnI.empty hs1 rfl) hp1 (by rw [HGL.out]; simp; omega) (by simp; omega)) ?_; rintro v4 w4 ⟨o4, g4, _⟩)
  go_ret
  exact ⟨_, rfl, o4, Ext.only (E1.alloc _) g4 (fun q hq => by simp [Value.ownBlock] at hq; omega)⟩
set_option maxHeartbeats 1000000 in
theorem l05Index_any (vD : Value) (D : List Int) (n : Int) (w : World) (hD : IntS w vD D) (hd : ∀ d ∈ D, 1 ≤ d ∧ d ≤ 8) (hl : D.length ≤ 12) (h0 : 0 ≤ n) (h1 : n ≤ 1048576) : Calls Try.prog 104 #[vD, .int .i64 n] w fun e w' =>
    ∃ v, e = .returned v ∧ OwnI w' w.heap.size v (idxL D n) ∧ Ext w w' := by
  obtain ⟨a, cap, rfl, hc1, hc2⟩ := hD.val
  have hmk := mkInts D.length (by omega)
  have HD := Lib.hid hd; clear hd
  go_enter Try.func104, Try.ntmps104
  go_wp2_with fail
  go_loopw [1, 6] (fun q i wr => ∃ (j : Nat) (c : Int), j ≤ D.length ∧ i = .int .i64 ((j : Int) - 1) ∧ q = .int .i64 c ∧ 0 ≤ c ∧ c ≤ 1048576 ∧ n / prodL (D.drop j) = c ∧ Blk wr w.heap.size 3 (ints (List.replicate j 0 ++ idxL (D.drop j) n)) ∧ Ext w wr) (fun q i wr => (RowKit.intOf i + 1).toNat)
  case atStart =>
    refine ⟨D.length, n, Nat.le_refl _, rfl, rfl, h0, h1, by rw [drop_len]; simp [prodL], ?_, (by repeat' (first | (with_reducible exact Ext.refl _) | (with_reducible assumption) | (with_reducible apply Ext.alloc) | (with_reducible apply Ext.drew) | (with_reducible apply Ext.drewN) | (refine Ext.setAt ?_ (by omega) _ _) | (refine Ext.trans ?_ (by assumption))))⟩
    rw [drop_len, idxL, List.append_nil]
    exact blk_made w _ _ rfl
  case round =>
    obtain ⟨j, c, hj, rfl, rfl, hc0, hc3, hcc, hB, hE⟩ := hrel
    have HC := Lib.hid hcc; clear hcc
    rcases Nat.eq_zero_or_pos j with rfl | hjp
    · go_wp2
      go_ret
      rw [List.drop_zero, List.replicate_zero, List.nil_append] at hB
      exact ⟨_, rfl, OwnI.mk' (by rw [idxL_length]) (Nat.le_refl _) hB (by unfold maxLen; omega), hE⟩
    · obtain ⟨j, rfl⟩ : ∃ i, j = i + 1 := ⟨j - 1, by omega⟩
      obtain ⟨b, off, d, rfl, hcell0, hy, hdr⟩ := hD.get (i := j) (by omega)
      have hbl := World.block_lt_of_cell? w _ hcell0
      have hcell := hE.cell hcell0
      have hbne : b ≠ w.heap.size := by simp at hbl; omega
      clear hcell0
      obtain ⟨d0, d1⟩ := HD.out d (List.mem_of_getElem? hy)
      have hP := prodL_pos (D := D.drop (j + 1)) fun x hx => HD.out x (List.mem_of_mem_drop hx)
      have hs1 := idxL_step (n := n) hdr
      have hs2 := div_step (n := n) (by omega) hdr
      rw [HC.out] at hs1 hs2
      have ho := hB.cell (j := j) (u := .int .i64 0) (by rw [ints_get, List.getElem?_append_left (by simp), rep_get _ (by omega)]; rfl)
      have hfz := hB.free j
      have r0 := Int.emod_nonneg c (show d ≠ 0 by omega)
      have r1 := Int.emod_lt_of_pos c (show 0 < d by omega)
      have q0 := Int.ediv_nonneg hc0 (show 0 ≤ d by omega)
      have q1 : c / d ≤ c := Int.ediv_le_self _ hc0
      have H1 := Lib.hid hs1; have H2 := Lib.hid hs2
      have e1 : (((j + 1 : Nat) : Int) - 1) = (j : Int) := by omega
      rw [e1]
      have hjl : j < D.length := by omega
      have hjc : j < cap := by omega
      clear hs1 hs2 hy hdr e1 hP
      go_wp2
      go_roundw
      case rel =>
        refine ⟨j, c / d, by omega, rfl, rfl, q0, by omega, H2.out, ?_, hE.setCell (Nat.le_refl _) _⟩
        rw [H1.out, ← zeros_set, ← ints_set]
        exact Blk.set hB _ _
      case measure => simp [RowKit.intOf] <;> omega
/-! ### l06Permute -/
theorem idxOk_get : ∀ {D I : List Int}, idxOk D I = true → ∀ {j : Nat} {x d : Int}, I[j]? = some x → D[j]? = some d → 0 ≤ x ∧ x < d
  | [], _, _, j, x, d, _, hd => by simp at hd
  | _ :: _, [], _, j, x, d, hx, _ => by simp at hx
  | d :: D, i :: I, h, j, x, d', hx, hd => by
    obtain ⟨h1, h2, h3⟩ := idxOk_cons h
    cases j with
    | zero => simp at hx hd; subst hx hd; exact ⟨h1, h2⟩
    | succ j => simp at hx hd; exact idxOk_get h3 hx hd
theorem idxOk_set : ∀ {D I : List Int}, idxOk D I = true → ∀ {j : Nat} {x d : Int}, 0 ≤ x → D[j]? = some d → x < d → idxOk D (I.set j x) = true
  | [], [], _, j, x, d, _, hd, _ => by simp at hd
  | [], _ :: _, h, j, x, d, _, _, _ => by simp [idxOk] at h
  | _ :: _, [], h, j, x, d, _, _, _ => by simp [idxOk] at h
  | d :: D, i :: I, h, j, x, d', h0, hd, hx => by
    obtain ⟨h1, h2, h3⟩ := idxOk_cons h
    cases j with
    | zero => simp at hd; subst hd; simp [idxOk, h0, hx, h3]
    | succ j => simp at hd; simp [idxOk, h1, h2, idxOk_set h3 h0 hd hx]
theorem take_snoc'' {l : List Int} {j : Nat} {x : Int} (h : l[j]? = some x) : l.take (j + 1) = l.take j ++ [x] := by
  obtain ⟨hj, rfl⟩ := List.getElem?_eq_some_iff.1 h
  exact List.take_succ_eq_append_getElem hj
theorem idxOk_zeros : ∀ {D : List Int}, (∀ d ∈ D, 1 ≤ d ∧ d ≤ 8) → idxOk D (List.replicate D.length 0) = true
  | [], _ => rfl
  | d :: D, h => by
    have := h d (by simp)
    simp [List.replicate_succ, idxOk, idxOk_zeros fun x hx => h x (List.mem_cons_of_mem _ hx)]
    omega
section permute
variable {k p n : Int} (hr : ringOk k p n = true)
include hr
set_option maxRecDepth 100000 in
set_option maxHeartbeats 8000000 in
theorem l06Permute_some {dm : Int → Int} {U L M : List Int} {xs : List (El k p n)} (ht : IsT k p n dm U L xs) (hM : L.Perm M) (va vM : Value) (w : World) (ha : TenS w va L (L.map dm) (flat xs)) (hMs : IntS w vM M) :
    Calls Try.prog 75 #[ringV k p n, va, vM] w fun e w' => ∃ (u : Value) (ys : List (El k p n)), e = .returned u ∧ OwnT w' w.heap.size u M (M.map dm) (flat ys) ∧ IsT k p n dm U M ys ∧ Ext w w' := by

  have ha0 := ha
  obtain ⟨ap1, an1, ac1, ap2, an2, ac2, ap3, an3, ac3, rfl⟩ := ha.shape
  obtain ⟨_, _, _, hvv, haL, haD, haX⟩ := ha.val
  simp at hvv
  obtain ⟨rfl, rfl, rfl⟩ := hvv
  obtain ⟨_, _, hvv, _, _⟩ := haL.val
  simp at hvv
  obtain ⟨rfl, rfl, rfl⟩ := hvv
  obtain ⟨_, _, hvv, _, _⟩ := haD.val
  simp at hvv
  obtain ⟨rfl, rfl, rfl⟩ := hvv
  obtain ⟨_, _, hvv, _, _⟩ := haX.val
  simp at hvv
  obtain ⟨rfl, rfl, rfl⟩ := hvv
  obtain ⟨aM, cM, rfl, _, _⟩ := hMs.val
  obtain ⟨P, W, hP, hW, hP1, hP2, hW1', hW6, hXl⟩ := (ht.ok hr).nat hr
  have hPW1 : 1 ≤ P * W := Nat.mul_le_mul hP1 hW1'
  have hPW : P * W ≤ 4096 * 6 := Nat.mul_le_mul hP2 hW6
  obtain ⟨bA, oA, cA, hXX, hcA, _, hbA⟩ := haX.open (by omega)
  cases hXX
  have hX9 : (flat xs).length ≤ 1048576 := by omega
  have HT := Lib.hid ht; clear ht
  have HP := Lib.hid hM; clear hM
  have HWW := Lib.hid hW
  have HR := Lib.hid hr
  have sM : Hid (Sub U M) := Lib.hid (HT.out.sub.perm HP.out)
  have hml : M.length ≤ 12 := (HT.out.uni.ax sM.out).rank
  have AXM := Lib.hid (HT.out.uni.ax sM.out)
  have HLM : Hid (L.length = M.length) := Lib.hid HP.out.length_eq
  have hpp : prodL (M.map dm) = (P : Int) := by rw [← hP]; exact (prodL_perm (HP.out.map dm)).symm
  have HCG : Hid (capGo 4096 1 (M.map dm) = (P : Int)) := Lib.hid (by rw [tsize_cap (L := M) (by rw [AXM.out.tsize, hpp]; omega), hpp])
  have HSZ0 : Hid (xs.length = P) := Lib.hid (by have h1 := flat_length HWW.out xs; rw [hXl] at h1; exact (Nat.eq_of_mul_eq_mul_right (by omega) h1).symm)
  have HSM : Hid (size (axs dm M) = P) := Lib.hid (by have := HT.out.uni.size sM.out; rw [hpp] at this; omega)
  have hHP := Lib.hid hP; have HXL := Lib.hid hXl
  have hw := ringOk_wide hr
  have hmk := mkInts M.length (by omega)
  clear hP hXl hW hpp hPW1 hP1
  generalize hW1 : (((w.alloc (.cells #[.int .i64 k, .int .i64 p, .int .i64 n] 24)).alloc (.cells #[.slice ap1 L.length ac1, .slice ap2 L.length ac2, .slice (some ⟨bA, oA, none⟩) (flat xs).length ac3] 31)).alloc (.cells #[.slice none 0 0, .slice none 0 0, .slice none 0 0] 31)) = w1
  have h1 : Ext w w1 := by rw [← hW1]; exact (by repeat' (first | (with_reducible exact Ext.refl _) | (with_reducible assumption) | (with_reducible apply Ext.alloc) | (with_reducible apply Ext.drew) | (with_reducible apply Ext.drewN) | (refine Ext.setAt ?_ (by omega) _ _) | (refine Ext.trans ?_ (by assumption))))
  have Br : Blk w1 (w.heap.size) 24 [.int .i64 k, .int .i64 p, .int .i64 n] := by rw [← hW1]; exact (((Blk.newB (c := #[_, _, _]) (by simp)).alloc _).alloc _)
  have Ba : Blk w1 (w.heap.size + 1) 31 [.slice ap1 L.length ac1, .slice ap2 L.length ac2, .slice (some ⟨bA, oA, none⟩) (flat xs).length ac3] := by rw [← hW1]; exact ((Blk.newB (c := #[_, _, _]) (by simp)).alloc _)
  have Bz : Blk w1 (w.heap.size + 2) 31 [.slice none 0 0, .slice none 0 0, .slice none 0 0] := by rw [← hW1]; exact (Blk.newB (c := #[_, _, _]) (by simp))
  have HS1 : Hid (w1.heap.size = w.heap.size + 3) := Lib.hid (by rw [← hW1]; simp)
  have HW := Lib.hid hW1; clear hW1
  go_enter Try.func75, Try.ntmps75
  go_wp2_with fail
  rw [HW.out]
  go_loopw [7, 8, 21] (fun d q i wr => ∃ j : Nat, j ≤ M.length ∧ i = .int .i64 j ∧ OwnI wr w1.heap.size d ((M.take j).map dm) ∧ OwnI wr w1.heap.size q ((M.take j).map (findL L)) ∧ (∀ k, d.ownBlock = some k → q.ownBlock ≠ some k) ∧ Ext w1 wr) (fun d q i wr => M.length - (RowKit.intOf i).toNat)
  case atStart => exact ⟨0, Nat.zero_le _, rfl, (OwnI.empty (w := w1) (by have := HS1.out; omega) (by have := HS1.out; omega)).ext ((Ext.refl _).alloc _), OwnI.empty (by have := HS1.out; omega) (by have := HS1.out; simp; omega), fun k hk => by simp [Value.ownBlock] at hk ⊢; omega, ((Ext.refl _).alloc _).alloc _⟩
  case round =>
    obtain ⟨j, hj, rfl, hD, hQ, hdq, hE⟩ := hrel
    have hs := hE.size
    have E0 : Ext w wr := h1.trans hE
    have Ga := Ba.ext hE
    have ia_0 := Ga.cell (j := 0) rfl
    have ia_1 := Ga.cell (j := 1) rfl
    have ia_2 := Ga.cell (j := 2) rfl
    have lga := Ga.lt
    obtain ⟨A, hA⟩ : ∃ A, (M.take j).map dm = A := ⟨_, rfl⟩
    obtain ⟨Q, hQe⟩ : ∃ Q, (M.take j).map (findL L) = Q := ⟨_, rfl⟩
    rw [hA] at hD
    rw [hQe] at hQ
    have hAl : A.length ≤ 12 := by rw [← hA, List.length_map, List.length_take]; omega
    have hQl : Q.length ≤ 12 := by rw [← hQe, List.length_map, List.length_take]; omega
    have HA := Lib.hid hA; have HQ := Lib.hid hQe; clear hA hQe
    obtain ⟨ad, cd, rfl, hd1, _⟩ := hD.ints.val
    obtain ⟨aq, cq, rfl, hq1, _⟩ := hQ.ints.val
    have HDQ := Lib.hid hdq; clear hdq
    by_cases hlt : j < M.length
    · obtain ⟨bm, om, m, hxx, hcm, hm, _⟩ := (hMs.ext E0).get hlt
      cases hxx
      obtain ⟨i, hf, hi, hLi, hDi⟩ := map_get_find (dm := dm) (HP.out.mem_iff.2 (List.mem_of_getElem? hm))
      obtain ⟨bD, oD, z, hzz, hcz, hz, _⟩ := haD.get (i := i) (by simpa using hi)
      cases hzz
      obtain rfl : z = dm m := by rw [hDi] at hz; exact (Option.some.inj hz).symm
      have HF := Lib.hid hf; have HM := Lib.hid hm
      have hi9 : i < 12 := by have := HT.out.ax.rank; omega
      clear hf hm hLi hDi hz
      have hczr := E0.cell hcz
      go_wp2_with fail
      refine (l05Find_any _ L m _ (haL.ext E0)).mono ?_; rintro e2 w2 ⟨rfl, rfl⟩; rw [HF.out]
      go_wp2_with (at_builtin; first | (with_reducible refine wpList_app _ rfl _ _ 29 rfl _ _ rfl rfl _ (run_push _ wr w1.heap.size _ _ (i : Int) hQ (by omega) hs) ?_; rintro v3 w3 ⟨o3, g3, n3⟩; have E3 : Ext w1 w3 := hE.mark hQ g3; have hs3 := E3.size; have G3 := Ba.ext E3; have ja_0 := G3.cell (j := 0) rfl; have ja_1 := G3.cell (j := 1) rfl; have ja_2 := G3.cell (j := 2) rfl; have lja := G3.lt; have hcz3 := (h1.trans E3).cell hcz; have hD3 := hD.only g3 (fun k hk => HDQ.out k hk)) | (with_reducible refine wpList_app _ rfl _ _ 29 rfl _ _ rfl rfl _ (run_push _ w3 w1.heap.size _ _ (dm m) hD3 (by omega) hs3) ?_; rintro v4 w4 ⟨o4, g4, n4⟩))
      have hQ4 := o3.only g4 (fun k hk e => by rcases n3 k hk with h | h; exact HDQ.out k e h; have := (hD.block_lt e).2; omega)
      have hdis : ∀ k, v4.ownBlock = some k → v3.ownBlock ≠ some k := fun k hk e => by
        have := (o3.block_lt e).2
        rcases n4 k hk with h | h
        · rcases n3 k e with h3 | h3
          · exact HDQ.out k h h3
          · have := (hD.block_lt h).2; omega
        · omega
      go_roundw
      case rel => exact ⟨j + 1, by omega, by go_num, by rw [take_snoc'' HM.out, List.map_append, HA.out]; exact o4, by rw [take_snoc'' HM.out, List.map_append, HQ.out]; rw [show List.map (findL L) [m] = [(i : Int)] by rw [List.map_cons, HF.out]; rfl]; exact hQ4, hdis, E3.mark hD3 g4⟩
      case measure => simp [RowKit.intOf]; omega
    · have : j = M.length := by omega
      subst this
      have hAe := HA.out; have hQe := HQ.out
      rw [List.take_length] at hAe hQe
      subst hAe hQe
      have HOD := Lib.hid hD; have HOQ := Lib.hid hQ
      rw [List.length_map] at hd1 hq1
      obtain ⟨SD, hSD⟩ : ∃ v : Value, v = .slice ad M.length cd := ⟨_, rfl⟩
      simp only [List.length_map] at hD hQ HOD HOQ HDQ ⊢
      have NDb : Hid (∀ q, (Value.slice ad M.length cd).ownBlock = some q → q < wr.heap.size) := Lib.hid fun q hq => (hD.block_lt hq).2
      have NQb : Hid (∀ q, (Value.slice aq M.length cq).ownBlock = some q → q < wr.heap.size) := Lib.hid fun q hq => (hQ.block_lt hq).2
      clear hD hQ hSD SD hAl hQl
      go_wp2_with fail
      refine (l05Ints_any _ M _ (hMs.ext E0) (by omega)).mono ?_; rintro e2 w2 ⟨v2, rfl, o2, h2⟩
      obtain ⟨am, cm, rfl, _, _⟩ := o2.ints.val
      have hs2 := h2.size
      go_wp2_with fail
      generalize hW3 : (w2.alloc (.cells #[.slice am M.length cm, .slice ad M.length cd, .slice none 0 0] 31)).alloc (.cells (madeCells #[.int .i64 0] M.length) 3) = w3
      have h3 : Ext w2 w3 := by rw [← hW3]; exact (by repeat' (first | (with_reducible exact Ext.refl _) | (with_reducible assumption) | (with_reducible apply Ext.alloc) | (with_reducible apply Ext.drew) | (with_reducible apply Ext.drewN) | (refine Ext.setAt ?_ (by omega) _ _) | (refine Ext.trans ?_ (by assumption))))
      have Bo : Blk w3 w2.heap.size 31 [.slice am M.length cm, .slice ad M.length cd, .slice none 0 0] := by rw [← hW3]; exact (Blk.new w2 #[_, _, _] 31).alloc _
      have oI : OwnI w3 w1.heap.size (.slice (some ⟨w2.heap.size + 1, 0, none⟩) M.length M.length) (List.replicate M.length 0) := by rw [← hW3]; exact OwnI.zeros _ _ _ _ (by simp) (by omega) (by omega)
      have HS3 : Hid (w3.heap.size = w2.heap.size + 2) := Lib.hid (by rw [← hW3]; simp)
      clear hW3
      have E23 : Ext wr w3 := h2.trans h3
      have E13 : Ext w1 w3 := hE.trans E23
      have oM3 := (o2.mono hs).ext h3
      have oD3 := HOD.out.ext E23
      have oQ3 := HOQ.out.ext E23
      have NMb : Hid (∀ q, (Value.slice am M.length cm).ownBlock = some q → wr.heap.size ≤ q ∧ q < w2.heap.size) := Lib.hid fun q hq => o2.block_lt hq
      have HSR : Hid (wr.heap.size ≤ w2.heap.size) := Lib.hid hs2
      have HS1R : Hid (w1.heap.size ≤ wr.heap.size) := Lib.hid hs
      clear HOD HOQ o2 hs hs2 ia_0 ia_1 ia_2 lga
      go_loopw [14] (fun i wr => ∃ (j : Nat) (I : List Int) (v3 : Value) (ys : List (El k p n)), j ≤ P ∧ i = .int .i64 j ∧ Hid (idxOk (L.map dm) I = true) ∧ Hid (ys.length = j) ∧ Blk wr w2.heap.size 31 [.slice am M.length cm, .slice ad M.length cd, v3] ∧ OwnI wr w1.heap.size (.slice am M.length cm) M ∧ OwnI wr w1.heap.size (.slice ad M.length cd) (M.map dm) ∧ OwnI wr w1.heap.size (.slice aq M.length cq) (M.map (findL L)) ∧ OwnI wr w1.heap.size (.slice (some ⟨w2.heap.size + 1, 0, none⟩) M.length M.length) I ∧ OwnI wr w3.heap.size v3 (flat ys) ∧ Ext w1 wr ∧ w3.heap.size ≤ wr.heap.size) (fun i wr => P - (RowKit.intOf i).toNat)
      case atStart => exact ⟨0, _, _, [], Nat.zero_le _, rfl, Lib.hid (by have := idxOk_zeros HT.out.ax.dims; rwa [List.length_map, HLM.out] at this), Lib.hid rfl, Bo, oM3, oD3, oQ3, oI, OwnI.nil _ _, E13, Nat.le_refl _⟩
      case round =>
        obtain ⟨j, I, v3, ys, hj, rfl, hI, hys, BP6, o16, o26, o36, oI6, oY6, hE6, hs6⟩ := hrel
        clear oM3 oD3 oQ3 oI
        have E06 : Ext w wr := h1.trans hE6
        have Gr := Br.ext hE6
        have Ga := Ba.ext hE6
        have Gz := Bz.ext hE6
        have ir_0 := Gr.cell (j := 0) rfl
        have ir_1 := Gr.cell (j := 1) rfl
        have ir_2 := Gr.cell (j := 2) rfl
        have ia_0 := Ga.cell (j := 0) rfl
        have ia_1 := Ga.cell (j := 1) rfl
        have ia_2 := Ga.cell (j := 2) rfl
        have lgr := Gr.lt
        have lga := Ga.lt
        have lgz := Gz.lt
        go_wp2_with fail
        refine (l05Product_any _ (M.map dm) 4096 _ o26.ints AXM.out.dims (by omega) (by omega)).mono ?_; rintro e5 w5' ⟨rfl, rfl⟩; rw [HCG.out]
        by_cases hlt : j < P
        · skip
          go_wp2_with fail
          refine (l05Index_any _ (M.map dm) j _ o26.ints AXM.out.dims (by simp; omega) (by omega) (by omega)).mono ?_; rintro e5 w5 ⟨v5, rfl, o5, h5⟩
          obtain ⟨J, hJ⟩ : ∃ J, idxL (M.map dm) (j : Int) = J := ⟨_, rfl⟩
          have HJ : Hid (idxOk (M.map dm) J = true) := Lib.hid (by rw [← hJ]; exact idxL_ok AXM.out.dims)
          have HJl : Hid (J.length = M.length) := Lib.hid (by rw [← hJ, idxL_length, List.length_map])
          rw [hJ] at o5
          clear hJ
          obtain ⟨a5, c5, rfl⟩ : ∃ a c, v5 = .slice a M.length c := by obtain ⟨a, c, rfl, _, _⟩ := o5.ints.val; exact ⟨a, c, by rw [HJl.out]⟩
          have hs5 := h5.size
          have o50 := o5.mono hs6
          go_wp2_with fail
          go_loopw [59] (fun i wr => ∃ (t : Nat) (I : List Int), t ≤ M.length ∧ i = .int .i64 t ∧ Hid (idxOk (L.map dm) I = true) ∧ Blk wr w2.heap.size 31 [.slice am M.length cm, .slice ad M.length cd, v3] ∧ OwnI wr w1.heap.size (.slice am M.length cm) M ∧ OwnI wr w1.heap.size (.slice ad M.length cd) (M.map dm) ∧ OwnI wr w1.heap.size (.slice aq M.length cq) (M.map (findL L)) ∧ OwnI wr w1.heap.size (.slice (some ⟨w2.heap.size + 1, 0, none⟩) M.length M.length) I ∧ OwnI wr w3.heap.size v3 (flat ys) ∧ Ext w1 wr ∧ w3.heap.size ≤ wr.heap.size ∧ OwnI wr w3.heap.size (.slice a5 M.length c5) J) (fun i wr => M.length - (RowKit.intOf i).toNat)
          case atStart => exact ⟨0, I, Nat.zero_le _, rfl, hI, BP6.ext h5, o16.ext h5, o26.ext h5, o36.ext h5, oI6.ext h5, oY6.ext h5, hE6.trans h5, by omega, o50⟩
          case round =>
            clear ir_0 ir_1 ir_2 ia_0 ia_1 ia_2
            obtain ⟨t, I, ht, rfl, hI7, BP7, o17, o27, o37, oI7, oY7, hE7, hs7, o57⟩ := hrel
            clear o16 o26 o36 oI6 oY6 o50 o5
            have hIl : I.length = M.length := by have := idxOk_len hI7.out; rw [List.length_map] at this; have := HLM.out; omega
            have hlI := (oI7.block_lt (k := w2.heap.size + 1) rfl).2
            by_cases hlt2 : t < M.length
            · skip
              obtain ⟨bx, ox, x, hxx, hcx, hx, _⟩ := o57.ints.get (i := t) (by rw [HJl.out]; exact hlt2)
              cases hxx
              obtain ⟨bq, oq, z, hzz, hcz, hz, _⟩ := o37.ints.get (i := t) (by simpa using hlt2)
              cases hzz
              obtain ⟨m, hm⟩ : ∃ m, M[t]? = some m := ⟨_, List.getElem?_eq_getElem hlt2⟩
              obtain ⟨q, hf, hq, hLq, hDq⟩ := map_get_find (dm := dm) (HP.out.mem_iff.2 (List.mem_of_getElem? hm))
              obtain rfl : z = (q : Int) := by rw [List.getElem?_map, hm] at hz; rw [← hf]; exact (Option.some.inj hz).symm
              obtain ⟨x0, x1⟩ := idxOk_get HJ.out hx (show (M.map dm)[t]? = some (dm m) by rw [List.getElem?_map, hm]; rfl)
              have hqM : q < M.length := by have := HLM.out; omega
              obtain ⟨u, hu⟩ : ∃ u, I[q]? = some u := ⟨_, List.getElem?_eq_getElem (by omega)⟩
              obtain ⟨hcu, hfu⟩ := oI7.cell hu
              have hset := oI7.set q (by omega) x
              have HI8 : Hid (idxOk (L.map dm) (I.set q x) = true) := Lib.hid (idxOk_set hI7.out x0 hDq x1)
              have HS := Lib.hid hset
              clear hset hu hDq hLq hf hm hz hx hIl x0 x1
              have hs3l : w2.heap.size + 1 < w3.heap.size := by have := HS3.out; omega
              have hs1l : w1.heap.size ≤ w2.heap.size + 1 := by have := HSR.out; have := HS1R.out; omega
              go_wp2_with fail
              go_roundw
              case rel => exact ⟨t + 1, _, by omega, by go_num, HI8, BP7.other (p := ⟨w2.heap.size + 1, q, none⟩) (by simp) _, o17.setOther (fun k hk => by have := NMb.out k hk; simp; omega) _, o27.setOther (fun k hk => by have := NDb.out k hk; have := HSR.out; simp; omega) _, o37.setOther (fun k hk => by have := NQb.out k hk; have := HSR.out; simp; omega) _, HS.out, oY7.setOther (fun k hk => by have := (oY7.block_lt hk).1; simp; omega) _, hE7.setAt hs1l _ _, by simp; omega, o57.setOther (fun k hk => by have := (o57.block_lt hk).1; simp; omega) _⟩
              case measure => simp [RowKit.intOf]; omega
            · skip
              have : t = M.length := by omega
              subst this
              have E07 : Ext w wr := h1.trans hE7
              have Mr := Br.ext hE7
              have Ma := Ba.ext hE7
              have Mz := Bz.ext hE7
              have ir_0 := Mr.cell (j := 0) rfl
              have ir_1 := Mr.cell (j := 1) rfl
              have ir_2 := Mr.cell (j := 2) rfl
              have ia_0 := Ma.cell (j := 0) rfl
              have ia_1 := Ma.cell (j := 1) rfl
              have ia_2 := Ma.cell (j := 2) rfl
              have lmr := Mr.lt
              have lma := Ma.lt
              have lmz := Mz.lt
              have q2 := BP7.cell (j := 2) rfl
              have lq := BP7.lt
              obtain ⟨Y, hY⟩ : ∃ Y, flat ys = Y := ⟨_, rfl⟩
              rw [hY] at oY7
              obtain ⟨av, cv, rfl, _, _⟩ := oY7.ints.val
              have hYl : Y.length ≤ 4096 * 6 := by rw [← hY, flat_length HWW.out, hys.out]; exact Nat.mul_le_mul (by omega) hW6
              obtain ⟨f0, f1, f2⟩ := off_fit (W := W) hHP.out hI7.out HT.out.ax.dims
              obtain ⟨q, hq⟩ : ∃ q : Nat, offL (L.map dm) I = (q : Int) := ⟨(offL (L.map dm) I).toNat, by omega⟩
              rw [hq] at f1 f2
              have eq1 : ((q : Int)).toNat = q := by omega
              rw [eq1] at f1 f2
              have hqP : q < P := by have h := (offL_bounds hI7.out HT.out.ax.dims).2; rw [hq, hHP.out] at h; omega
              obtain ⟨xe, hxe⟩ : ∃ xe, xs[q]? = some xe := ⟨_, List.getElem?_eq_getElem (by rw [HSZ0.out]; exact hqP)⟩
              have hxx : getL (flat xs) (q * W) W = xe.1 := flat_get HWW.out hxe
              have HFL : Hid (flat (ys ++ [xe]) = Y ++ xe.1) := Lib.hid (by rw [flat_snoc, hY])
              have hxl : xe.1.length = W := El.len HWW.out xe
              obtain ⟨x, hx⟩ : ∃ x, xe.1 = x := ⟨_, rfl⟩
              rw [hx] at hxx hxl HFL
              have HXX := Lib.hid hxx; have HXL2 := Lib.hid hxl; have HQ1 := Lib.hid hq; have HQW := Lib.hid f2; have HQ2 : Hid (q * W + W ≤ (flat xs).length) := Lib.hid (by rw [HXL.out]; exact f1)
              have hqn : (0 : Int) ≤ (q : Int) := by omega
              clear hY hxx hxl hx hxe f0 f1 f2 hq eq1 hIl
              have hs3l : w2.heap.size + 1 < w3.heap.size := by have := HS3.out; omega
              have hs13 : w1.heap.size ≤ w3.heap.size := by have := HSR.out; have := HS1R.out; omega
              have hnb0 : w.heap.size ≠ w2.heap.size := by have := HSR.out; have := HS1R.out; have := HS1.out; omega
              have hnb1 : w.heap.size + 1 ≠ w2.heap.size := by have := HSR.out; have := HS1R.out; have := HS1.out; omega
              have ND : Hid (∀ q, (Value.slice av Y.length cv).ownBlock = some q → w3.heap.size ≤ q ∧ q < wr.heap.size) := Lib.hid fun q hq => oY7.block_lt hq
              have D0 : Ext wr wr.drew := (Ext.refl _).drew
              have hsD := (haD.ext E07).ext D0
              have hsI := oI7.ints.ext D0
              have hsX := (haX.ext E07).ext D0
              have kr_0 := Br.cell (j := 0) rfl
              have kr_1 := Br.cell (j := 1) rfl
              have kr_2 := Br.cell (j := 2) rfl
              have ka_0 := Ba.cell (j := 0) rfl
              have ka_1 := Ba.cell (j := 1) rfl
              have ka_2 := Ba.cell (j := 2) rfl
              have oD := oY7
              have hE6 := hE7
              go_upto_region 20 with fail
              refine wp_region_held_drew (S := fun w' => w'.cell? ⟨w.heap.size, 0, none⟩ = some (.int .i64 k) ∧ w'.cell? ⟨w.heap.size, 1, none⟩ = some (.int .i64 p) ∧ w'.cell? ⟨w.heap.size, 2, none⟩ = some (.int .i64 n) ∧ w'.cell? ⟨w.heap.size + 1, 0, none⟩ = some (.slice ap1 L.length ac1) ∧ w'.cell? ⟨w.heap.size + 1, 1, none⟩ = some (.slice ap2 L.length ac2) ∧ w'.cell? ⟨w.heap.size + 1, 2, none⟩ = some (.slice (some ⟨bA, oA, none⟩) (flat xs).length ac3)) (by kernel_rfl) ?_ (fun hHeld => ?_)
              · (refine ⟨?_, ?_, ?_, ?_, ?_, ?_⟩ <;> first | (with_reducible assumption) | exact ((Ext.refl _).drew).cell (by with_reducible assumption) | exact grown_cell (grown_setCell (grown_refl _ _) _ _) (by with_reducible assumption) (by with_reducible assumption))
              refine wpAnyH_take (i := 0) (v := ?_) rfl (by kernel_rfl) (by kernel_rfl) (by kernel_rfl) (fun _ _ _ h => h) (Or.inl ⟨by rfl, ?_⟩) (by assumption) ?_
              rotate_left
              · intro w hSw; (try dsimp only at hSw); go_simp; (try with_reducible rfl)
              (try go_simp)
              refine wpAnyH_take (i := 2) (v := ?_) rfl (by kernel_rfl) (by kernel_rfl) (by kernel_rfl) (fun _ _ _ h => h) (Or.inl ⟨by rfl, ?_⟩) (by assumption) ?_
              rotate_left
              · intro w hSw; (try dsimp only at hSw); go_simp; (try with_reducible rfl)
              (try go_simp)
              refine wpAnyH_take (i := 3) (v := ?_) rfl (by kernel_rfl) (by kernel_rfl) (by kernel_rfl) (fun _ _ _ h => h) (Or.inl ⟨by rfl, ?_⟩) (by assumption) ?_
              rotate_left
              · intro w hSw; (try dsimp only at hSw); go_simp; (try with_reducible rfl)
              (try go_simp)
              refine wpAnyH_take (i := 4) (v := ?_) rfl (by kernel_rfl) (by kernel_rfl) (by kernel_rfl) (fun _ _ _ h => h) (Or.inl ⟨by rfl, ?_⟩) (by assumption) ?_
              rotate_left
              · intro w hSw; (try dsimp only at hSw); go_simp; (try with_reducible rfl)
              (try go_simp)
              refine wpAnyH_take (i := 5) (v := ?_) rfl (by kernel_rfl) (by kernel_rfl) (by kernel_rfl) (fun _ _ _ h => h) (Or.inl ⟨by rfl, ?_⟩) (by assumption) ?_
              rotate_left
              · intro w hSw; (try dsimp only at hSw); go_simp; (try with_reducible rfl)
              (try go_simp)
              refine wpAnyH_take (i := 6) (v := ?_) rfl (by kernel_rfl) (by kernel_rfl) (by kernel_rfl) (fun _ _ _ h => h) (Or.inl ⟨by rfl, ?_⟩) (by assumption) ?_
              rotate_left
              · intro w hSw; (try dsimp only at hSw); go_simp; (try with_reducible rfl)
              (try go_simp)
              refine wpAnyH_ready (rs := [1, 7]) (by kernel_rfl) (by simp) ?_
              refine AllReadyH.cons rfl (fun Kc hKc => ?_) ?_
              · skip
                go_simp
                refine hKc.out _ _ ?_ (fun hHeld => ?_) <;> clear hKc Kc
                · (refine ⟨?_, ?_, ?_, ?_, ?_, ?_⟩ <;> first | (with_reducible assumption) | exact ((Ext.refl _).drew).cell (by with_reducible assumption) | exact grown_cell (grown_setCell (grown_refl _ _) _ _) (by with_reducible assumption) (by with_reducible assumption))
                refine wpAnyH_ready (rs := [7]) (by kernel_rfl) (by simp) ?_
                refine AllReadyH.cons rfl (fun Kc hKc => ?_) AllReadyH.nil
                go_simp; go_at_call 106
                (with_reducible refine (l05Offset_any _ _ (L.map dm) I wr.drew hsD hsI hI7.out HT.out.ax.dims HT.out.ax.size).mono ?_); rintro e7 w7 ⟨rfl, rfl⟩; rw [HQ1.out]
                (try go_simp)
                refine hKc.out _ _ ?_ (fun hHeld => ?_) <;> clear hKc Kc
                · (refine ⟨?_, ?_, ?_, ?_, ?_, ?_⟩ <;> first | (with_reducible assumption) | exact ((Ext.refl _).drew).cell (by with_reducible assumption) | exact grown_cell (grown_setCell (grown_refl _ _) _ _) (by with_reducible assumption) (by with_reducible assumption))
                refine wpAnyH_ready (rs := [8]) (by kernel_rfl) (by simp) ?_
                refine AllReadyH.cons rfl (fun Kc hKc => ?_) AllReadyH.nil
                go_simp; go_at_call 105
                (with_reducible refine (l05Get_own k p n q (q * W) W HWW.out _ _ _ _ _ _ bA oA ac3 (flat xs) wr.drew hsX HQW.out hqn hw HQ2.out hcA hX9).mono ?_); rintro e8 w8 ⟨v8, rfl, o8, h8⟩; rw [HXX.out] at o8; obtain ⟨a8, c8, rfl, _, _⟩ := o8.ints.val; have hpart := o8.ints; have E8 : Ext wr w8 := D0.trans h8; have q8 := E8.cell q2; have r8r_0 := E8.cell ir_0; have r8r_1 := E8.cell ir_1; have r8r_2 := E8.cell ir_2; have r8a_0 := E8.cell ia_0; have r8a_1 := E8.cell ia_1; have r8a_2 := E8.cell ia_2
                (try go_simp)
                refine hKc.out _ _ ?_ (fun hHeld => ?_) <;> clear hKc Kc
                · (refine ⟨?_, ?_, ?_, ?_, ?_, ?_⟩ <;> first | (with_reducible assumption) | exact ((Ext.refl _).drew).cell (by with_reducible assumption) | exact grown_cell (grown_setCell (grown_refl _ _) _ _) (by with_reducible assumption) (by with_reducible assumption))
                refine wpAnyH_ready (rs := [9]) (by kernel_rfl) (by simp) ?_
                refine AllReadyH.cons rfl (fun Kc hKc => ?_) AllReadyH.nil
                refine step_app w8 rfl _ _ 29 rfl (.slice av Y.length cv) (.slice a8 x.length c8) rfl rfl _ (run_app_ints _ w8 w3.heap.size _ _ Y x (oD.ext E8) hpart (by rw [HXL2.out]; omega) (by have := E8.size; omega)) ?_; rintro v9 w9 ⟨o9, g9, _⟩; obtain ⟨a9, c9, hv9, _, _⟩ := o9.ints.val; subst hv9; have BP9 := (BP7.ext E8).block (g9.block _ (by have := E8.size; have := BP7.lt; omega) (fun e => by have := ND.out _ e.symm; omega)); have z9 := BP9.free 2; have q9 := BP9.cell (j := 2) rfl; have u9 := BP9.lt; have E9 : Ext w1 w9 := (hE6.trans E8).only g9 (fun z hz => by have := ND.out z hz; omega); have r9r_0 := E9.cell kr_0; have r9r_1 := E9.cell kr_1; have r9r_2 := E9.cell kr_2; have r9a_0 := E9.cell ka_0; have r9a_1 := E9.cell ka_1; have r9a_2 := E9.cell ka_2
                refine hKc.out _ _ ?_ (fun hHeld => ?_) <;> clear hKc Kc
                · (refine ⟨?_, ?_, ?_, ?_, ?_, ?_⟩ <;> first | (with_reducible assumption) | exact ((Ext.refl _).drew).cell (by with_reducible assumption) | exact grown_cell (grown_setCell (grown_refl _ _) _ _) (by with_reducible assumption) (by with_reducible assumption))
                refine wpAnyH_take (i := 10) (v := ?_) rfl (by kernel_rfl) (by kernel_rfl) (by kernel_rfl) (fun _ _ _ h => h) (Or.inl ⟨by rfl, ?_⟩) (by assumption) ?_
                rotate_left
                · intro w hSw; (try dsimp only at hSw); go_simp; (try with_reducible rfl)
                (try go_simp)
                refine wpAnyH_ready (rs := [11]) (by kernel_rfl) (by simp) ?_
                refine AllReadyH.cons rfl (fun Kc hKc => ?_) AllReadyH.nil
                go_simp
                refine hKc.out _ _ ?_ (fun hHeld => ?_) <;> clear hKc Kc
                · (refine ⟨?_, ?_, ?_, ?_, ?_, ?_⟩ <;> first | (with_reducible assumption) | exact ((Ext.refl _).drew).cell (by with_reducible assumption) | exact grown_cell (grown_setCell (grown_refl _ _) _ _) (by with_reducible assumption) (by with_reducible assumption))
                refine wpAnyH_done (by kernel_rfl) ?_ _
                rw [List.length_append] at o9
                obtain ⟨v9, hvv9⟩ : ∃ v : Value, .slice a9 (Y.length + x.length) c9 = v := ⟨_, rfl⟩
                rw [hvv9] at o9 ⊢
                have nb : ∀ (v : Value) (l : List Int), OwnI wr w1.heap.size v l → (∀ q, v.ownBlock = some q → q < w3.heap.size ∧ q ≠ w2.heap.size) → OwnI (w9.setCell ⟨w2.heap.size, 2, none⟩ v9) w1.heap.size v l := fun v l h hq =>
                  ((h.ext E8).only g9 (fun z hz e => by have := ND.out z e; have := hq z hz; omega)).setOther (fun z hz => by have := hq z hz; first | omega | (simp; omega)) _
                have o1c := nb _ _ o17 (fun z hz => by have := NMb.out z hz; omega)
                have o2c := nb _ _ o27 (fun z hz => by have := NDb.out z hz; have := HSR.out; omega)
                have o3c := nb _ _ o37 (fun z hz => by have := NQb.out z hz; have := HSR.out; omega)
                have oIc := nb _ _ oI7 (fun z hz => by simp [Value.ownBlock] at hz; omega)
                have BPc := BP9.set 2 v9
                have oDc := o9.setBelow (p := ⟨w2.heap.size, 2, none⟩) (by first | omega | (simp; omega)) v9
                have Ec : Ext w1 (w9.setCell ⟨w2.heap.size, 2, none⟩ v9) := ((hE6.trans E8).only g9 (fun z hz => by have := ND.out z hz; omega)).setAt (by have := HSR.out; have := HS1R.out; omega) _ _
                have hszc : w3.heap.size ≤ (w9.setCell ⟨w2.heap.size, 2, none⟩ v9).heap.size := by have := g9.size; have := E8.size; simp; omega
                obtain ⟨wx, hwx⟩ : ∃ wx, w9.setCell ⟨w2.heap.size, 2, none⟩ v9 = wx := ⟨_, rfl⟩
                rw [hwx] at o1c o2c o3c oIc BPc oDc Ec hszc ⊢
                clear nb hwx g9 o9 BP9 o17 o27 o37 oI7 BP7 oY7 oD o57 q2 ir_0 ir_1 ir_2 ia_0 ia_1 ia_2
                go_wp2_with fail
                go_roundw
                case rel => exact ⟨j + 1, I, v9, ys ++ [xe], by omega, by go_num, hI7, Lib.hid (by rw [List.length_append, hys.out]; rfl), BPc, o1c, o2c, o3c, oIc, by rw [HFL.out]; exact oDc, Ec, hszc⟩
                case measure => simp [RowKit.intOf]; omega
              refine AllReadyH.cons rfl (fun Kc hKc => ?_) AllReadyH.nil
              go_simp; go_at_call 106
              (with_reducible refine (l05Offset_any _ _ (L.map dm) I wr.drew hsD hsI hI7.out HT.out.ax.dims HT.out.ax.size).mono ?_); rintro e7 w7 ⟨rfl, rfl⟩; rw [HQ1.out]
              (try go_simp)
              refine hKc.out _ _ ?_ (fun hHeld => ?_) <;> clear hKc Kc
              · (refine ⟨?_, ?_, ?_, ?_, ?_, ?_⟩ <;> first | (with_reducible assumption) | exact ((Ext.refl _).drew).cell (by with_reducible assumption) | exact grown_cell (grown_setCell (grown_refl _ _) _ _) (by with_reducible assumption) (by with_reducible assumption))
              refine wpAnyH_ready (rs := [1, 8]) (by kernel_rfl) (by simp) ?_
              refine AllReadyH.cons rfl (fun Kc hKc => ?_) ?_
              · skip
                go_simp
                refine hKc.out _ _ ?_ (fun hHeld => ?_) <;> clear hKc Kc
                · (refine ⟨?_, ?_, ?_, ?_, ?_, ?_⟩ <;> first | (with_reducible assumption) | exact ((Ext.refl _).drew).cell (by with_reducible assumption) | exact grown_cell (grown_setCell (grown_refl _ _) _ _) (by with_reducible assumption) (by with_reducible assumption))
                refine wpAnyH_ready (rs := [8]) (by kernel_rfl) (by simp) ?_
                refine AllReadyH.cons rfl (fun Kc hKc => ?_) AllReadyH.nil
                go_simp; go_at_call 105
                (with_reducible refine (l05Get_own k p n q (q * W) W HWW.out _ _ _ _ _ _ bA oA ac3 (flat xs) wr.drew hsX HQW.out hqn hw HQ2.out hcA hX9).mono ?_); rintro e8 w8 ⟨v8, rfl, o8, h8⟩; rw [HXX.out] at o8; obtain ⟨a8, c8, rfl, _, _⟩ := o8.ints.val; have hpart := o8.ints; have E8 : Ext wr w8 := D0.trans h8; have q8 := E8.cell q2; have r8r_0 := E8.cell ir_0; have r8r_1 := E8.cell ir_1; have r8r_2 := E8.cell ir_2; have r8a_0 := E8.cell ia_0; have r8a_1 := E8.cell ia_1; have r8a_2 := E8.cell ia_2
                (try go_simp)
                refine hKc.out _ _ ?_ (fun hHeld => ?_) <;> clear hKc Kc
                · (refine ⟨?_, ?_, ?_, ?_, ?_, ?_⟩ <;> first | (with_reducible assumption) | exact ((Ext.refl _).drew).cell (by with_reducible assumption) | exact grown_cell (grown_setCell (grown_refl _ _) _ _) (by with_reducible assumption) (by with_reducible assumption))
                refine wpAnyH_ready (rs := [9]) (by kernel_rfl) (by simp) ?_
                refine AllReadyH.cons rfl (fun Kc hKc => ?_) AllReadyH.nil
                refine step_app w8 rfl _ _ 29 rfl (.slice av Y.length cv) (.slice a8 x.length c8) rfl rfl _ (run_app_ints _ w8 w3.heap.size _ _ Y x (oD.ext E8) hpart (by rw [HXL2.out]; omega) (by have := E8.size; omega)) ?_; rintro v9 w9 ⟨o9, g9, _⟩; obtain ⟨a9, c9, hv9, _, _⟩ := o9.ints.val; subst hv9; have BP9 := (BP7.ext E8).block (g9.block _ (by have := E8.size; have := BP7.lt; omega) (fun e => by have := ND.out _ e.symm; omega)); have z9 := BP9.free 2; have q9 := BP9.cell (j := 2) rfl; have u9 := BP9.lt; have E9 : Ext w1 w9 := (hE6.trans E8).only g9 (fun z hz => by have := ND.out z hz; omega); have r9r_0 := E9.cell kr_0; have r9r_1 := E9.cell kr_1; have r9r_2 := E9.cell kr_2; have r9a_0 := E9.cell ka_0; have r9a_1 := E9.cell ka_1; have r9a_2 := E9.cell ka_2
                refine hKc.out _ _ ?_ (fun hHeld => ?_) <;> clear hKc Kc
                · (refine ⟨?_, ?_, ?_, ?_, ?_, ?_⟩ <;> first | (with_reducible assumption) | exact ((Ext.refl _).drew).cell (by with_reducible assumption) | exact grown_cell (grown_setCell (grown_refl _ _) _ _) (by with_reducible assumption) (by with_reducible assumption))
                refine wpAnyH_take (i := 10) (v := ?_) rfl (by kernel_rfl) (by kernel_rfl) (by kernel_rfl) (fun _ _ _ h => h) (Or.inl ⟨by rfl, ?_⟩) (by assumption) ?_
                rotate_left
                · intro w hSw; (try dsimp only at hSw); go_simp; (try with_reducible rfl)
                (try go_simp)
                refine wpAnyH_ready (rs := [11]) (by kernel_rfl) (by simp) ?_
                refine AllReadyH.cons rfl (fun Kc hKc => ?_) AllReadyH.nil
                go_simp
                refine hKc.out _ _ ?_ (fun hHeld => ?_) <;> clear hKc Kc
                · (refine ⟨?_, ?_, ?_, ?_, ?_, ?_⟩ <;> first | (with_reducible assumption) | exact ((Ext.refl _).drew).cell (by with_reducible assumption) | exact grown_cell (grown_setCell (grown_refl _ _) _ _) (by with_reducible assumption) (by with_reducible assumption))
                refine wpAnyH_done (by kernel_rfl) ?_ _
                rw [List.length_append] at o9
                obtain ⟨v9, hvv9⟩ : ∃ v : Value, .slice a9 (Y.length + x.length) c9 = v := ⟨_, rfl⟩
                rw [hvv9] at o9 ⊢
                have nb : ∀ (v : Value) (l : List Int), OwnI wr w1.heap.size v l → (∀ q, v.ownBlock = some q → q < w3.heap.size ∧ q ≠ w2.heap.size) → OwnI (w9.setCell ⟨w2.heap.size, 2, none⟩ v9) w1.heap.size v l := fun v l h hq =>
                  ((h.ext E8).only g9 (fun z hz e => by have := ND.out z e; have := hq z hz; omega)).setOther (fun z hz => by have := hq z hz; first | omega | (simp; omega)) _
                have o1c := nb _ _ o17 (fun z hz => by have := NMb.out z hz; omega)
                have o2c := nb _ _ o27 (fun z hz => by have := NDb.out z hz; have := HSR.out; omega)
                have o3c := nb _ _ o37 (fun z hz => by have := NQb.out z hz; have := HSR.out; omega)
                have oIc := nb _ _ oI7 (fun z hz => by simp [Value.ownBlock] at hz; omega)
                have BPc := BP9.set 2 v9
                have oDc := o9.setBelow (p := ⟨w2.heap.size, 2, none⟩) (by first | omega | (simp; omega)) v9
                have Ec : Ext w1 (w9.setCell ⟨w2.heap.size, 2, none⟩ v9) := ((hE6.trans E8).only g9 (fun z hz => by have := ND.out z hz; omega)).setAt (by have := HSR.out; have := HS1R.out; omega) _ _
                have hszc : w3.heap.size ≤ (w9.setCell ⟨w2.heap.size, 2, none⟩ v9).heap.size := by have := g9.size; have := E8.size; simp; omega
                obtain ⟨wx, hwx⟩ : ∃ wx, w9.setCell ⟨w2.heap.size, 2, none⟩ v9 = wx := ⟨_, rfl⟩
                rw [hwx] at o1c o2c o3c oIc BPc oDc Ec hszc ⊢
                clear nb hwx g9 o9 BP9 o17 o27 o37 oI7 BP7 oY7 oD o57 q2 ir_0 ir_1 ir_2 ia_0 ia_1 ia_2
                go_wp2_with fail
                go_roundw
                case rel => exact ⟨j + 1, I, v9, ys ++ [xe], by omega, by go_num, hI7, Lib.hid (by rw [List.length_append, hys.out]; rfl), BPc, o1c, o2c, o3c, oIc, by rw [HFL.out]; exact oDc, Ec, hszc⟩
                case measure => simp [RowKit.intOf]; omega
              refine AllReadyH.cons rfl (fun Kc hKc => ?_) AllReadyH.nil
              go_simp; go_at_call 105
              (with_reducible refine (l05Get_own k p n q (q * W) W HWW.out _ _ _ _ _ _ bA oA ac3 (flat xs) wr.drew hsX HQW.out hqn hw HQ2.out hcA hX9).mono ?_); rintro e8 w8 ⟨v8, rfl, o8, h8⟩; rw [HXX.out] at o8; obtain ⟨a8, c8, rfl, _, _⟩ := o8.ints.val; have hpart := o8.ints; have E8 : Ext wr w8 := D0.trans h8; have q8 := E8.cell q2; have r8r_0 := E8.cell ir_0; have r8r_1 := E8.cell ir_1; have r8r_2 := E8.cell ir_2; have r8a_0 := E8.cell ia_0; have r8a_1 := E8.cell ia_1; have r8a_2 := E8.cell ia_2
              (try go_simp)
              refine hKc.out _ _ ?_ (fun hHeld => ?_) <;> clear hKc Kc
              · (refine ⟨?_, ?_, ?_, ?_, ?_, ?_⟩ <;> first | (with_reducible assumption) | exact ((Ext.refl _).drew).cell (by with_reducible assumption) | exact grown_cell (grown_setCell (grown_refl _ _) _ _) (by with_reducible assumption) (by with_reducible assumption))
              refine wpAnyH_ready (rs := [1]) (by kernel_rfl) (by simp) ?_
              refine AllReadyH.cons rfl (fun Kc hKc => ?_) AllReadyH.nil
              go_simp
              refine hKc.out _ _ ?_ (fun hHeld => ?_) <;> clear hKc Kc
              · (refine ⟨?_, ?_, ?_, ?_, ?_, ?_⟩ <;> first | (with_reducible assumption) | exact ((Ext.refl _).drew).cell (by with_reducible assumption) | exact grown_cell (grown_setCell (grown_refl _ _) _ _) (by with_reducible assumption) (by with_reducible assumption))
              refine wpAnyH_ready (rs := [9]) (by kernel_rfl) (by simp) ?_
              refine AllReadyH.cons rfl (fun Kc hKc => ?_) AllReadyH.nil
              refine step_app w8 rfl _ _ 29 rfl (.slice av Y.length cv) (.slice a8 x.length c8) rfl rfl _ (run_app_ints _ w8 w3.heap.size _ _ Y x (oD.ext E8) hpart (by rw [HXL2.out]; omega) (by have := E8.size; omega)) ?_; rintro v9 w9 ⟨o9, g9, _⟩; obtain ⟨a9, c9, hv9, _, _⟩ := o9.ints.val; subst hv9; have BP9 := (BP7.ext E8).block (g9.block _ (by have := E8.size; have := BP7.lt; omega) (fun e => by have := ND.out _ e.symm; omega)); have z9 := BP9.free 2; have q9 := BP9.cell (j := 2) rfl; have u9 := BP9.lt; have E9 : Ext w1 w9 := (hE6.trans E8).only g9 (fun z hz => by have := ND.out z hz; omega); have r9r_0 := E9.cell kr_0; have r9r_1 := E9.cell kr_1; have r9r_2 := E9.cell kr_2; have r9a_0 := E9.cell ka_0; have r9a_1 := E9.cell ka_1; have r9a_2 := E9.cell ka_2
              refine hKc.out _ _ ?_ (fun hHeld => ?_) <;> clear hKc Kc
              · (refine ⟨?_, ?_, ?_, ?_, ?_, ?_⟩ <;> first | (with_reducible assumption) | exact ((Ext.refl _).drew).cell (by with_reducible assumption) | exact grown_cell (grown_setCell (grown_refl _ _) _ _) (by with_reducible assumption) (by with_reducible assumption))
              refine wpAnyH_take (i := 10) (v := ?_) rfl (by kernel_rfl) (by kernel_rfl) (by kernel_rfl) (fun _ _ _ h => h) (Or.inl ⟨by rfl, ?_⟩) (by assumption) ?_
              rotate_left
              · intro w hSw; (try dsimp only at hSw); go_simp; (try with_reducible rfl)
              (try go_simp)
              refine wpAnyH_ready (rs := [11]) (by kernel_rfl) (by simp) ?_
              refine AllReadyH.cons rfl (fun Kc hKc => ?_) AllReadyH.nil
              go_simp
              refine hKc.out _ _ ?_ (fun hHeld => ?_) <;> clear hKc Kc
              · (refine ⟨?_, ?_, ?_, ?_, ?_, ?_⟩ <;> first | (with_reducible assumption) | exact ((Ext.refl _).drew).cell (by with_reducible assumption) | exact grown_cell (grown_setCell (grown_refl _ _) _ _) (by with_reducible assumption) (by with_reducible assumption))
              refine wpAnyH_done (by kernel_rfl) ?_ _
              rw [List.length_append] at o9
              obtain ⟨v9, hvv9⟩ : ∃ v : Value, .slice a9 (Y.length + x.length) c9 = v := ⟨_, rfl⟩
              rw [hvv9] at o9 ⊢
              have nb : ∀ (v : Value) (l : List Int), OwnI wr w1.heap.size v l → (∀ q, v.ownBlock = some q → q < w3.heap.size ∧ q ≠ w2.heap.size) → OwnI (w9.setCell ⟨w2.heap.size, 2, none⟩ v9) w1.heap.size v l := fun v l h hq =>
                ((h.ext E8).only g9 (fun z hz e => by have := ND.out z e; have := hq z hz; omega)).setOther (fun z hz => by have := hq z hz; first | omega | (simp; omega)) _
              have o1c := nb _ _ o17 (fun z hz => by have := NMb.out z hz; omega)
              have o2c := nb _ _ o27 (fun z hz => by have := NDb.out z hz; have := HSR.out; omega)
              have o3c := nb _ _ o37 (fun z hz => by have := NQb.out z hz; have := HSR.out; omega)
              have oIc := nb _ _ oI7 (fun z hz => by simp [Value.ownBlock] at hz; omega)
              have BPc := BP9.set 2 v9
              have oDc := o9.setBelow (p := ⟨w2.heap.size, 2, none⟩) (by first | omega | (simp; omega)) v9
              have Ec : Ext w1 (w9.setCell ⟨w2.heap.size, 2, none⟩ v9) := ((hE6.trans E8).only g9 (fun z hz => by have := ND.out z hz; omega)).setAt (by have := HSR.out; have := HS1R.out; omega) _ _
              have hszc : w3.heap.size ≤ (w9.setCell ⟨w2.heap.size, 2, none⟩ v9).heap.size := by have := g9.size; have := E8.size; simp; omega
              obtain ⟨wx, hwx⟩ : ∃ wx, w9.setCell ⟨w2.heap.size, 2, none⟩ v9 = wx := ⟨_, rfl⟩
              rw [hwx] at o1c o2c o3c oIc BPc oDc Ec hszc ⊢
              clear nb hwx g9 o9 BP9 o17 o27 o37 oI7 BP7 oY7 oD o57 q2 ir_0 ir_1 ir_2 ia_0 ia_1 ia_2
              go_wp2_with fail
              go_roundw
              case rel => exact ⟨j + 1, I, v9, ys ++ [xe], by omega, by go_num, hI7, Lib.hid (by rw [List.length_append, hys.out]; rfl), BPc, o1c, o2c, o3c, oIc, by rw [HFL.out]; exact oDc, Ec, hszc⟩
              case measure => simp [RowKit.intOf]; omega
        · skip
          have : j = P := by omega
          subst this
          obtain ⟨av, cv, rfl, _, _⟩ := oY6.ints.val
          have ND : Hid (∀ q, (Value.slice av (flat ys).length cv).ownBlock = some q → w3.heap.size ≤ q) := Lib.hid fun q hq => (oY6.block_lt hq).1
          have f0 := Gz.free 0
          have f1 := Gz.free 1
          have f2 := Gz.free 2
          have z0 := Gz.cell (j := 0) rfl
          have z1 := Gz.cell (j := 1) rfl
          have z2 := Gz.cell (j := 2) rfl
          have y0 := BP6.cell (j := 0) rfl
          have y1 := BP6.cell (j := 1) rfl
          have y2 := BP6.cell (j := 2) rfl
          have ly := BP6.lt
          have hlt3 : w.heap.size + 1 + 1 < w1.heap.size := by have := HS1.out; omega
          have hzc : w.heap.size + 1 + 1 ≠ w2.heap.size := by have := HSR.out; have := HS1R.out; omega
          have hzc2 : w2.heap.size ≠ w.heap.size + 1 + 1 := hzc.symm
          have hlt4 : w.heap.size + 1 + 1 < w3.heap.size := by have := HSR.out; have := HS1R.out; have := HS3.out; omega
          have HO1 := Lib.hid o16; have HO2 := Lib.hid o26; have HOY := Lib.hid oY6; clear o16 o26 oY6 o36 oI6
          go_upto_region 21 with fail
          repeat go_step
          refine bodyPost_ret (v := .agg #[.slice am M.length cm, .slice ad M.length cd, .slice av (flat ys).length cv]) (by simp [results, Try.results75, go_sem, *]) rfl ?_
          refine ⟨_, ys, rfl, ⟨_, _, _, rfl, ?_, ?_, ?_, fun z hz => ⟨fun e => ?_, fun e => ?_⟩, fun z hz e => ?_⟩, ⟨HT.out.uni, sM.out, by rw [hys.out, HSM.out]⟩, (((h1.trans hE6).setAt (by omega) _ _).setAt (by omega) _ _).setAt (by omega) _ _⟩
          · exact (((HO1.out.setBelow hlt3 _).setBelow hlt3 _).setBelow hlt3 _).mono (by omega)
          · exact (((HO2.out.setBelow hlt3 _).setBelow hlt3 _).setBelow hlt3 _).mono (by omega)
          · exact (((HOY.out.setBelow hlt4 _).setBelow hlt4 _).setBelow hlt4 _).mono (by omega)
          · have := NMb.out z hz; have := NDb.out z e; omega
          · have := NMb.out z hz; have := ND.out z e; have := HS3.out; omega
          · have := NDb.out z hz; have := ND.out z e; have := HS3.out; have := HSR.out; omega
end permute
end Go.Proofs.Ytabeciopggofkaa
