/- Drawn lists of labels: l08Some, MakeSome; JoinSize of the program. -/
import Derived.Test.YtabeciopggofkaaPBase
import Derived.Test.YtabeciopggofkaaPJoinA
import Derived.Test.YtabeciopggofkaaPDrawT
import Derived.Test.YtabeciopggofkaaPPermP
namespace Go.Proofs.Ytabeciopggofkaa
open Go.RowKit
set_option linter.unusedSimpArgs false
set_option linter.unusedVariables false

set_option maxHeartbeats 1000000 in
theorem l08Some_any (b : Nat) {l : List Int} (m : Int) (hm : 0 ≤ m ∧ m ≤ 100) (w : World) (hc : Cur w b l) : Calls Try.prog 47 #[.pointer (some ⟨b, 0, none⟩), .int .i64 m] w fun e w' =>
    ∃ u K, e = .returned u ∧ OwnI w' w.heap.size u K ∧ (K.length : Int) ≤ m ∧ Cur w' b l ∧ w.grownBy w' (some b) := by
  have hbl := hc.lt
  obtain ⟨m0, m1⟩ := hm
  go_enter Try.func47, Try.ntmps47
  go_wp2_with fail
  go_loopw [5, 6] (fun q i wr => ∃ (x : Int) (K : List Int), i = .int .i64 x ∧ 0 ≤ x ∧ x ≤ m ∧ (K.length : Int) ≤ x ∧ OwnI wr w.heap.size q K ∧ Cur wr b l ∧ w.grownBy wr (some b)) (fun q i wr => (m - RowKit.intOf i).toNat)
  case atStart => exact ⟨0, [], rfl, by omega, by omega, by simp, OwnI.empty (Nat.le_refl _) rfl, hc.ext (by repeat' (first | (with_reducible exact Ext.refl _) | (with_reducible assumption) | (with_reducible apply Ext.alloc) | (with_reducible apply Ext.drew) | (with_reducible apply Ext.drewN) | (refine Ext.setAt ?_ (by omega) _ _) | (refine Ext.trans ?_ (by assumption)))), grown_ext (grown_refl w (some b)) (by repeat' (first | (with_reducible exact Ext.refl _) | (with_reducible assumption) | (with_reducible apply Ext.alloc) | (with_reducible apply Ext.drew) | (with_reducible apply Ext.drewN) | (refine Ext.setAt ?_ (by omega) _ _) | (refine Ext.trans ?_ (by assumption))))⟩
  case round =>
    obtain ⟨x, K, rfl, x0, x1, hK, hO, hC, hG⟩ := hrel
    obtain ⟨aq, cq, rfl, _, _⟩ := hO.ints.val
    by_cases hlt : x < m
    · go_wp2_with fail
      refine (l01Once_any b 2 _ hC (by omega)).mono ?_; rintro e2 w2 ⟨y, rfl, c2, g2⟩
      have hO2 := hO.onlyB g2 hbl
      have G2 := grownBy_trans hG g2
      have s2 := G2.size
      have hKl : K.length + 1 ≤ 1099511627776 := by omega
      have ND : Hid (∀ z, (Value.slice aq K.length cq).ownBlock = some z → w.heap.size ≤ z) := Lib.hid fun z hz => (hO2.block_lt hz).1
      cases y
      · go_wp2
        go_roundw
        case rel => exact ⟨x + 1, K, by go_num, by omega, by omega, by omega, hO2, c2, G2⟩
        case measure => simp [RowKit.intOf]; omega
      · go_wp2_with (at_builtin; refine wpList_app _ rfl _ _ 29 rfl _ _ rfl rfl _ (run_push _ w2 w.heap.size _ _ x hO2 hKl s2) ?_; rintro v3 w3 ⟨o3, g3, _⟩)
        go_roundw
        case rel => exact ⟨x + 1, K ++ [x], by go_num, by omega, by omega, by simp; omega, o3, c2.onlyV g3 (fun q hq => by have := ND.out q hq; omega), grown_more G2 g3 (fun q hq => ND.out q hq)⟩
        case measure => simp [RowKit.intOf]; omega
    · go_wp2
      go_ret
      exact ⟨_, rfl, K, hO, by omega, hC, hG⟩
theorem makeSome_any (v : Value) (l : List Int) (c m : Int) (w : World) (hl : Code w v l) (hn : 0 ≤ c ∧ c ≤ 1000000) (hm : 0 ≤ m ∧ m ≤ 100) : Calls Try.prog 13 #[v, .int .i64 c, .int .i64 m] w fun e w' =>
    ∃ u K, e = .returned u ∧ OwnI w' w.heap.size u K ∧ (K.length : Int) ≤ m ∧ Ext w w' := by
  obtain ⟨a, cap, rfl, hc1, hc2⟩ := hl.bytes.val
  go_enter Try.func13, Try.ntmps13
  go_wp2_with fail
  refine (l45At_any _ l _ _ (hl.ext (by repeat' (first | (with_reducible exact Ext.refl _) | (with_reducible assumption) | (with_reducible apply Ext.alloc) | (with_reducible apply Ext.drew) | (with_reducible apply Ext.drewN) | (refine Ext.setAt ?_ (by omega) _ _) | (refine Ext.trans ?_ (by assumption))))) hn).mono ?_; rintro e1 w1 ⟨b, rfl, hb, c1, h1⟩
  go_wp2_with fail
  refine (l08Some_any b m hm _ c1).mono ?_; rintro e2 w2 ⟨u, K, rfl, o2, hK, c2, g2⟩
  go_wp2
  go_ret
  exact ⟨_, K, rfl, o2.mono h1.size, hK, h1.only g2 (fun k hk => by injection hk with hk; omega)⟩

set_option maxRecDepth 100000 in
set_option maxHeartbeats 2000000 in
theorem joinSize_any {dm : Int → Int} {U a b X Y : List Int} (u : Uni dm U) (sa : Sub U a) (sb : Sub U b) (va vb : Value) (w : World) (ha : TenS w va a (a.map dm) X) (hb : TenS w vb b (b.map dm) Y) :
    Calls Try.prog 19 #[va, vb] w fun e w' => e = .returned (.int .i64 (prodL ((joinL a b).map dm))) ∧ Ext w w' := by
  have axa := u.ax sa
  have axb := u.ax sb
  have axj := u.ax (sa.join sb)
  have hla := axa.rank
  have hlb := axb.rank
  obtain ⟨pa, hpa⟩ : ∃ pa, prodL (a.map dm) = pa := ⟨_, rfl⟩
  obtain ⟨pb, hpb⟩ : ∃ pb, prodL (b.map dm) = pb := ⟨_, rfl⟩
  obtain ⟨pj, hpj⟩ : ∃ pj, prodL ((joinL a b).map dm) = pj := ⟨_, rfl⟩
  have hpa1 : 1 ≤ pa := by rw [← hpa]; exact axa.pos
  have hpb1 : 1 ≤ pb := by rw [← hpb]; exact axb.pos
  have hpj1 : pj ≤ 4096 := by rw [← hpj]; exact axj.size
  have hna : (pa == -1) = false := by rw [beq_eq_false_iff_ne]; omega
  have hnb : (pb == -1) = false := by rw [beq_eq_false_iff_ne]; omega
  have HA : Hid (tsize a (a.map dm) = pa) := Lib.hid (by rw [axa.tsize, hpa])
  have HB : Hid (tsize b (b.map dm) = pb) := Lib.hid (by rw [axb.tsize, hpb])
  have HJ := Lib.hid hpj
  have AXJ := Lib.hid axj
  rw [hpj]
  clear hpa hpb hpj axa axb axj
  have ha0 := ha
  obtain ⟨ap1, an1, ac1, ap2, an2, ac2, ap3, an3, ac3, rfl⟩ := ha.shape
  obtain ⟨_, _, _, hvv, haL, haD, haX⟩ := ha.val
  simp at hvv
  obtain ⟨rfl, rfl, rfl⟩ := hvv
  have hb0 := hb
  obtain ⟨bp1, bn1, bc1, bp2, bn2, bc2, bp3, bn3, bc3, rfl⟩ := hb.shape
  obtain ⟨_, _, _, hvv, hbL, hbD, hbX⟩ := hb.val
  simp at hvv
  obtain ⟨rfl, rfl, rfl⟩ := hvv
  generalize hW1 : ((w.alloc (.cells #[.slice ap1 an1 ac1, .slice ap2 an2 ac2, .slice ap3 an3 ac3] 31)).alloc (.cells #[.slice bp1 bn1 bc1, .slice bp2 bn2 bc2, .slice bp3 bn3 bc3] 31)) = w1
  have h1 : Ext w w1 := by rw [← hW1]; exact (by repeat' (first | (with_reducible exact Ext.refl _) | (with_reducible assumption) | (with_reducible apply Ext.alloc) | (with_reducible apply Ext.drew) | (with_reducible apply Ext.drewN) | (refine Ext.setAt ?_ (by omega) _ _) | (refine Ext.trans ?_ (by assumption))))
  have Ba : Blk w1 (w.heap.size) 31 [.slice ap1 an1 ac1, .slice ap2 an2 ac2, .slice ap3 an3 ac3] := by rw [← hW1]; exact ((Blk.newB (c := #[_, _, _]) (by simp)).alloc _)
  have Bb : Blk w1 (w.heap.size + 1) 31 [.slice bp1 bn1 bc1, .slice bp2 bn2 bc2, .slice bp3 bn3 bc3] := by rw [← hW1]; exact (Blk.newB (c := #[_, _, _]) (by simp))
  have HS1 : Hid (w1.heap.size = w.heap.size + 2) := Lib.hid (by rw [← hW1]; simp)
  have HW := Lib.hid hW1; clear hW1
  go_enter Try.func19, Try.ntmps19
  go_wp2_with fail
  rw [HW.out]
  have ia_0 := Ba.cell (j := 0) rfl
  have ia_1 := Ba.cell (j := 1) rfl
  have ia_2 := Ba.cell (j := 2) rfl
  have ib_0 := Bb.cell (j := 0) rfl
  have ib_1 := Bb.cell (j := 1) rfl
  have ib_2 := Bb.cell (j := 2) rfl
  go_wp2_with fail
  refine (tensorSize_impl _ a _ _ _ (ha0.ext h1)).mono ?_; rintro e2 w2 ⟨rfl, h2⟩; rw [HA.out]
  have B2a := Ba.ext h2
  have B2b := Bb.ext h2
  have j2a_0 := B2a.cell (j := 0) rfl
  have j2a_1 := B2a.cell (j := 1) rfl
  have j2a_2 := B2a.cell (j := 2) rfl
  have j2b_0 := B2b.cell (j := 0) rfl
  have j2b_1 := B2b.cell (j := 1) rfl
  have j2b_2 := B2b.cell (j := 2) rfl
  have l2a := B2a.lt
  have l2b := B2b.lt
  clear ia_0 ia_1 ia_2 ib_0 ib_1 ib_2
  go_wp2_with fail
  refine (tensorSize_impl _ b _ _ _ (hb0.ext (h1.trans h2))).mono ?_; rintro e3 w3 ⟨rfl, h3⟩; rw [HB.out]
  have B3a := B2a.ext h3
  have B3b := B2b.ext h3
  have j3a_0 := B3a.cell (j := 0) rfl
  have j3a_1 := B3a.cell (j := 1) rfl
  have j3a_2 := B3a.cell (j := 2) rfl
  have j3b_0 := B3b.cell (j := 0) rfl
  have j3b_1 := B3b.cell (j := 1) rfl
  have j3b_2 := B3b.cell (j := 2) rfl
  have l3a := B3a.lt
  have l3b := B3b.lt
  clear j2a_0 j2a_1 j2a_2 j2b_0 j2b_1 j2b_2
  have E3 : Ext w w3 := h1.trans (h2.trans h3)
  go_wp2_with fail
  refine (joinAxes_any a b _ _ _ _ _ (ha0.ext E3) (hb0.ext E3) hla hlb).mono ?_; rintro e4 w4 ⟨v4, u4, rfl, oJ, oD, _, h4⟩
  obtain ⟨aJ, cJ, rfl, _, _⟩ := oJ.ints.val
  obtain ⟨aD, cD, rfl, _, _⟩ := oD.ints.val
  rw [List.length_map] at oD
  go_wp2_with fail
  refine (productOf_any _ ((joinL a b).map dm) _ oD.ints AXJ.out.dims AXJ.out.size).mono ?_; rintro e5 w5 ⟨rfl, rfl⟩; rw [HJ.out]
  have hle : pj ≤ 65537 := by omega
  go_wp2
  go_ret
  exact ⟨ret_int (by omega), E3.trans h4⟩

end Go.Proofs.Ytabeciopggofkaa
