/- Drawn lists of labels: l08Some, MakeSome; JoinSize of the program. -/
import Derived.Test.YtabeciopggofkaaVBase
import Derived.Test.YtabeciopggofkaaVJoinA
import Derived.Test.YtabeciopggofkaaVDrawT
import Derived.Test.YtabeciopggofkaaVPermP
namespace Go.Proofs.Ytabeciopggofkaa
open Go.RowKit
set_option linter.unusedSimpArgs false
set_option linter.unusedVariables false

set_option maxHeartbeats 1000000 in
theorem l08Some_any (b : Nat) {l : List Int} (m : Int) (hm : 0 ≤ m ∧ m ≤ 100) (w : World) (hc : Cur w b l) : Calls Try.prog 47 #[.pointer (some ⟨b, 0, none⟩), .int .i64 m] w fun e w' =>
    ∃ u K, e = .returned u ∧ OwnI w' w.heap.size u K ∧ (K.length : Int) ≤ m ∧ Cur w' b l ∧ w.grownBy w' (some b) := by
  have hbl := hc.lt
  obtain ⟨m0, m1⟩ := hm
  go_enter Try.func47, Try.ntmps47
  go_wp2_with fail
  go_loopw [5, 6] (fun q i wr => ∃ (x : Int) (K : List Int), i = .int .i64 x ∧ 0 ≤ x ∧ x ≤ m ∧ (K.length : Int) ≤ x ∧ OwnI wr w.heap.size q K ∧ Cur wr b l ∧ w.grownBy wr (some b)) (fun q i wr => (m - RowKit.intOf i).toNat)
  case atStart => exact ⟨0, [], rfl, by omega, by omega, by simp, OwnI.empty (Nat.le_refl _) rfl, hc.ext (by repeat' (first | (with_reducible exact Ext.refl _) | (with_reducible assumption) | (with_reducible apply Ext.alloc) | (with_reducible apply Ext.drew) | (with_reducible apply Ext.drewN) | (refine Ext.setAt ?_ (by omega) _ _) | (refine Ext.trans ?_ (by assumption)))), grown_ext (grown_refl w (some b)) (by repeat' (first | (with_reducible exact Ext.refl _) | (with_reducible assumption) | (with_reducible apply Ext.alloc) | (with_reducible apply Ext.drew) | (with_reducible apply Ext.drewN) | (refine Ext.setAt ?_ (by omega) _ _) | (refine Ext.trans ?_ (by assumption))))⟩
  case round =>
    obtain ⟨x, K, rfl, x0, x1, hK, hO, hC, hG⟩ := hrel
    obtain ⟨aq, cq, rfl, _, _⟩ := hO.ints.val
    by_cases hlt : x < m
    · go_wp2_with fail
      refine (l01Once_any b 2 _ hC (by omega)).mono ?_; rintro e2 w2 ⟨y, rfl, c2, g2⟩
      have hO2 := hO.onlyB g2 hbl
      have G2 := grownBy_trans hG g2
      have s2 := G2.size
      have hKl : K.length + 1 ≤ 1099511627776 := by omega
      have ND : Hid (∀ z, (Value.slice aq K.length cq).ownBlock = some z → w.heap.size ≤ z) := Lib.hid fun z hz => (hO2.block_lt hz).1
      cases y
      · go_wp2
        go_roundw
        case rel => exact ⟨x + 1, K, by go_num, by omega, by omega, by omega, hO2, c2, G2⟩
        case measure => simp [RowKit.intOf]; omega
      · go_wp2_with (at_builtin; refine wpList_app _ rfl _ _ 29 rfl _ _ rfl rfl _ (run_push _ w2 w.heap.size _ _ x hO2 hKl s2) ?_; rintro v3 w3 ⟨o3, g3, _⟩)
        go_roundw
        case rel => exact ⟨x + 1, K ++ [x], by go_num, by omega, by omega, by simp; omega, o3, c2.onlyV g3 (fun q hq => by have := ND.out q hq; omega), grown_more G2 g3 (fun q hq => ND.out q hq)⟩
        case measure => simp [RowKit.intOf]; omega
    · go_wp2
      go_ret
      exact ⟨_, rfl, K, hO, by omega, hC, hG⟩
theorem makeSome_any (v : Value) (l : List Int) (c m : Int) (w : World) (hl : Code w v l) (hn : 0 ≤ c ∧ c ≤ 1000000) (hm : 0 ≤ m ∧ m ≤ 100) : Calls Try.prog 13 #[v, .int .i64 c, .int .i64 m] w fun e w' =>
    ∃ u K, e = .returned u ∧ OwnI w' w.heap.size u K ∧ (K.length : Int) ≤ m ∧ Ext w w' := by
  obtain ⟨a, cap, rfl, hc1, hc2⟩ := hl.bytes.val
  go_enter Try.func13, Try.ntmps13
  go_wp2_with fail
  refine (l45At_any _ l _ _ (hl.ext (by repeat' (first | (with_reducible exact Ext.refl _) | (with_reducible assumption) | (with_reducible apply Ext.alloc) | (with_reducible apply Ext.drew) | (with_reducible apply Ext.drewN) | (refine Ext.setAt ?_ (by omega) _ _) | (refine Ext.trans ?_ (by assumption))))) hn).mono ?_; rintro e1 w1 ⟨b, rfl, hb, c1, h1⟩
  go_wp2_with fail
  refine (l08Some_any b m hm _ c1).mono ?_; rintro e2 w2 ⟨u, K, rfl, o2, hK, c2, g2⟩
  go_wp2
  go_ret
  exact ⟨_, K, rfl, o2.mono h1.size, hK, h1.only g2 (fun k hk => by injection hk with hk; omega)⟩

end Go.Proofs.Ytabeciopggofkaa
