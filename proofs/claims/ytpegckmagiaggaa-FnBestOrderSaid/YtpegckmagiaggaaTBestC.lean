/- bestSteps, BestOrder, BestCost, CostBound of the program. -/
import Derived.Test.YtpegckmagiaggaaTBestW
import Derived.Test.YtpegckmagiaggaaTGreedP
set_option linter.unusedSimpArgs false
set_option linter.unusedVariables false
namespace Go.Proofs.Ytpegckmagiaggaa
open Go.RowKit
structure FirstOk (F : List Int) (M : Nat) : Prop where
  len : F.length = M
  low : M ≤ 32
  ok : ∀ s, 1 ≤ s → s < M → (tabL F s = 0 ∧ Sing s) ∨ (tabL F s ≠ 0 ∧ ∃ x : Nat, tabL F s = (x : Int) ∧ x < s ∧ CutOf x s)
theorem FirstOk.of {val : Nat → Nat → Int} {M : Nat} {C F : List Int} {a0 : Nat} (hT : TabT val M C F M a0) (hM : M ≤ 32) : FirstOk F M := ⟨hT.lenF, hM, fun s h1 hs => by
  by_cases hF : tabL F s = 0
  · exact .inl ⟨hF, tab_sing hT hM h1 hs hF⟩
  · obtain ⟨x, a, b, c, _⟩ := (hT.done hM h1 hs).some hF
    exact .inr ⟨hF, x, a, b, c⟩⟩
theorem bestG_len {F : List Int} {M : Nat} (hF : FirstOk F M) (m : Nat) : ∀ (f s q : Nat), 1 ≤ s → s < M → s ≤ f → (bestG F m f s q).1.length + 1 ≤ s
  | 0, s, q, h1, _, h => by omega
  | f + 1, s, q, h1, hs, h => by
    have hl := hF.low
    rcases hF.ok s h1 hs with ⟨h0, _⟩ | ⟨h0, x, hx, hxs, hc⟩
    · rw [bestG, if_pos h0]; exact h1
    · obtain ⟨x1, _, y2, y1, hsum, _, _⟩ := xor_lt32 (by omega) hxs hc
      have e : (tabL F s).toNat = x := by rw [hx]; simp
      have hA := bestG_len hF m f x q x1 (by omega) (by omega)
      have hB := bestG_len hF m f (s ^^^ x) (q + (bestG F m f x q).1.length) y1 (by omega) (by omega)
      rw [bestG, if_neg h0, e]
      simp only [List.length_append, List.length_singleton]
      omega
set_option maxRecDepth 100000 in
set_option maxHeartbeats 4000000 in
theorem bestSteps_any {F : List Int} {M : Nat} (hF : FirstOk F M) (m : Nat) (hm : m ≤ 12) (fb cF b : Nat) (A0 : World) : ∀ (f s : Nat) (w : World) (v : Value) (os : List (Int × Int)), 1 ≤ s → s < M → s ≤ f → os.length + s ≤ 100 → Held A0 w [aB b 72 [v], aSt v os, aI (.slice (some ⟨fb, 0, none⟩) M cF) F] →
 Calls Try.prog 147 #[.int .i64 (m : Int), .slice (some ⟨fb, 0, none⟩) M cF, .int .i64 (s : Int), .pointer (some ⟨b, 0, none⟩)] w fun e w' => e = .returned (.int .i64 (bestG F m f s os.length).2) ∧ ∃ v', Held A0 w' [aB b 72 [v'], aSt v' (os ++ (bestG F m f s os.length).1), aI (.slice (some ⟨fb, 0, none⟩) M cF) F]
 | 0, s, w, v, os, h1, _, hf, _, _ => by omega
 | f + 1, s, w, v, os, h1, hs, hf, hq, hH => by
  have HFI := Lib.hid hF
  have hM32 := hF.low
  have HFL := Lib.hid hF.len
  have hgl := bestG_len hF m (f + 1) s os.length h1 hs hf
  have HC := Lib.hid (tabL_get (C := F) (s := s) (by rw [hF.len]; exact hs))
  have IH := bestSteps_any hF m hm fb cF b A0 f
  rcases hF.ok s h1 hs with ⟨h0, hS⟩ | ⟨h0, x, hx, hxs, hc⟩
  · have HR : Hid (bestG F m (f + 1) s os.length = ([], (s.log2 : Int))) := Lib.hid (by rw [bestG, if_pos h0])
    rw [h0] at HC
    have HSB : Hid (∀ i, s.testBit i = true ↔ i = s.log2) := Lib.hid fun i => sing_bit hS
    obtain ⟨LG, hLG⟩ : ∃ q, s.log2 = q := ⟨_, rfl⟩
    rw [hLG] at HR HSB
    have hlg : LG ≤ 5 := by
     have h2 : s = 2 ^ s.log2 := hS
     rw [hLG] at h2
     apply Classical.byContradiction
     intro hn
     have : 2 ^ 6 ≤ 2 ^ LG := Nat.pow_le_pow_right (by decide) (by omega)
     omega
    obtain ⟨cz, fz⟩ := (hH.own (k := 2) rfl).cell HC.out
    have HO := Lib.hid hH
    clear hH IH hF h0 hS hLG hgl
    go_enter Try.func147, Try.ntmps147
    go_wp2_with fail
    go_loop [9] (fun vk => ∃ k : Nat, vk = .int .i64 (k : Int) ∧ k ≤ LG) (fun vk => LG - (RowKit.intOf vk).toNat)
    case atStart => exact ⟨0, rfl, Nat.zero_le _⟩
    case round =>
     obtain ⟨k, rfl, hk⟩ := hrel
     have hbit := bit_and1 s k (by omega)
     by_cases hlt : k < LG
     · have hb : ¬ (s.testBit k = true) := fun h => by have := (HSB.out k).1 h; omega
       rw [if_neg hb] at hbit
       clear hb
       go_wp2_with fail
       go_round
       case rel => exact ⟨k + 1, by first | rfl | go_num, by omega⟩
       case measure => simp [RowKit.intOf]; omega
     · have hke : k = LG := by omega
       subst hke
       rw [if_pos ((HSB.out k).2 rfl)] at hbit
       go_wp2
       go_ret
       exact ⟨by rw [HR.out]; rfl, v, by rw [HR.out, List.append_nil]; exact HO.out⟩
  · obtain ⟨x1, _, y2, y1, hsum, _, _⟩ := xor_lt32 (by omega) hxs hc
    have hcut := bits_cut32 ⟨s, by omega⟩ ⟨x, by omega⟩ hc.1
    simp only at hcut
    have hxn : (tabL F s).toNat = x := by rw [hx]; simp
    obtain ⟨y, hy⟩ : ∃ y, s ^^^ x = y := ⟨_, rfl⟩
    rw [hy] at hcut y2 y1 hsum
    have hAl := bestG_len hF m f x os.length x1 (by omega) (by omega)
    obtain ⟨A, hA⟩ : ∃ A, bestG F m f x os.length = A := ⟨_, rfl⟩
    rw [hA] at hAl
    have hBl := bestG_len hF m f y (os.length + A.1.length) y1 (by omega) (by omega)
    obtain ⟨B, hB⟩ : ∃ B, bestG F m f y (os.length + A.1.length) = B := ⟨_, rfl⟩
    rw [hB] at hBl
    have HR : Hid (bestG F m (f + 1) s os.length = (A.1 ++ B.1 ++ [(min A.2 B.2, max A.2 B.2)], (m : Int) + os.length + A.1.length + B.1.length)) := Lib.hid (by rw [bestG, if_neg h0, hxn, hy, hA, hB])
    rw [hx] at HC h0
    have hx0 : ¬ ((x : Int) = 0) := h0
    have hx0b : ((x : Int) == 0) = false := by simpa using hx0
    have HA := Lib.hid hA; have HB := Lib.hid hB
    obtain ⟨A1, A2⟩ := A
    obtain ⟨B1, B2⟩ := B
    simp only at hAl hBl
    obtain ⟨na, hna⟩ : ∃ q, A1.length = q := ⟨_, rfl⟩
    obtain ⟨nb, hnb⟩ : ∃ q, B1.length = q := ⟨_, rfl⟩
    have HNA := Lib.hid hna; have HNB := Lib.hid hnb
    rw [hna] at hAl; rw [hnb] at hBl
    obtain ⟨cz, fz⟩ := (hH.own (k := 2) rfl).cell HC.out
    have HIH := Lib.hid IH
    have HOS : Hid (os.length + s ≤ 100) := Lib.hid hq
    have hsum2 : na + nb + os.length ≤ 99 := by omega
    have hq2 : os.length + x ≤ 100 := by omega
    have hq3 : os.length + na + y ≤ 100 := by omega
    clear hF hc hxn hy hA hB hna hnb hgl h0 hx hsum IH
    go_enter Try.func147, Try.ntmps147
    go_wp2_with fail
    clear cz fz
    refine (HIH.out x w v os x1 (by omega) (by omega) hq2 hH).mono ?_; rintro e1 w1 ⟨rfl, v1, hH1⟩
    rw [HA.out] at hH1 ⊢
    simp only at hH1 ⊢
    clear hH
    have hl1 : (os ++ A1).length = os.length + na := by rw [List.length_append, HNA.out]
    have HL1 := Lib.hid hl1; clear hl1
    obtain ⟨cz, fz⟩ := (hH1.own (k := 2) rfl).cell HC.out
    go_wp2_with fail
    clear cz fz
    refine (HIH.out y w1 v1 (os ++ A1) y1 (by omega) (by omega) (by rw [HL1.out]; exact hq3) hH1).mono ?_; rintro e2 w2 ⟨rfl, v2, hH2⟩
    have hB2 := HB.out
    simp only [HNA.out] at hB2
    rw [HL1.out, hB2] at hH2 ⊢
    simp only at hH2 ⊢
    clear hH1 hB2
    have hl2 : ((os ++ A1) ++ B1).length = os.length + na + nb := by rw [List.length_append, HL1.out, HNB.out]
    have HL2 := Lib.hid hl2; clear hl2
    obtain ⟨a2, c2, hv2, _, _⟩ := (hH2.steps (k := 1) rfl).val
    rw [HL2.out] at hv2
    subst hv2
    have zB := hH2.blk (k := 0) rfl
    have z0 := zB.cell (j := 0) rfl
    have z0f := zB.free 0
    have zl := zB.lt
    clear zB
    have HR2 : Hid (bestG F m (f + 1) s os.length = (A1 ++ B1 ++ [(min A2 B2, max A2 B2)], (m : Int) + os.length + na + nb)) := Lib.hid (by rw [HR.out, HNA.out, HNB.out])
    clear HR
    obtain ⟨mn, hmn⟩ : ∃ q, min A2 B2 = q := ⟨_, rfl⟩
    obtain ⟨mx, hmx⟩ : ∃ q, max A2 B2 = q := ⟨_, rfl⟩
    rw [hmn, hmx] at HR2
    by_cases hab : A2 < B2
    · have h1a : mn = A2 := by omega
      have h1b : mx = B2 := by omega
      have hba : ¬ B2 < A2 := by omega
      subst h1a h1b
      clear hmn hmx
      go_wp2_with (at_builtin; refine wpList_app _ rfl _ _ 72 rfl _ _ rfl rfl _ (run_pushSt3 _ (hH2.grow ((Ext.refl _).alloc _)) (k := 1) rfl (row_one2 _ _ _ _) (by rw [HL2.out]; omega)) ?_; rintro vp wp ⟨hHp, gp, sp, np⟩; obtain ⟨ap, cp, hvp, _, _⟩ := sp.val; rw [List.length_append, List.length_singleton, HL2.out] at hvp; subst hvp; have yB := hHp.blk (k := 0) rfl; have yl := yB.lt; have y0 := yB.cell (j := 0) rfl; have y0f := yB.free 0; clear yB)
      have HHq := Lib.hid (hHp.setB (k := 0) rfl 0 (.slice ap (os.length + na + nb + 1) cp))
      clear hHp gp sp np hH2
      go_ret
      exact ⟨by rw [HR2.out]; exact congrArg (fun z => Ending.returned (Value.int .i64 z)) (by push_cast; omega), _, by rw [HR2.out]; simp only [List.append_assoc]; have h := HHq.out; simp only [List.append_assoc] at h; exact h⟩
    · have h1a : mn = B2 := by omega
      have h1b : mx = A2 := by omega
      subst h1a h1b
      by_cases hba : mn < mx
      · clear hmn hmx
        go_wp2_with (at_builtin; refine wpList_app _ rfl _ _ 72 rfl _ _ rfl rfl _ (run_pushSt3 _ (hH2.grow ((Ext.refl _).alloc _)) (k := 1) rfl (row_one2 _ _ _ _) (by rw [HL2.out]; omega)) ?_; rintro vp wp ⟨hHp, gp, sp, np⟩; obtain ⟨ap, cp, hvp, _, _⟩ := sp.val; rw [List.length_append, List.length_singleton, HL2.out] at hvp; subst hvp; have yB := hHp.blk (k := 0) rfl; have yl := yB.lt; have y0 := yB.cell (j := 0) rfl; have y0f := yB.free 0; clear yB)
        have HHq := Lib.hid (hHp.setB (k := 0) rfl 0 (.slice ap (os.length + na + nb + 1) cp))
        clear hHp gp sp np hH2
        go_ret
        exact ⟨by rw [HR2.out]; exact congrArg (fun z => Ending.returned (Value.int .i64 z)) (by push_cast; omega), _, by rw [HR2.out]; simp only [List.append_assoc]; have h := HHq.out; simp only [List.append_assoc] at h; exact h⟩
      · have heq : mx = mn := by omega
        subst heq
        clear hmn hmx
        go_wp2_with (at_builtin; refine wpList_app _ rfl _ _ 72 rfl _ _ rfl rfl _ (run_pushSt3 _ (hH2.grow ((Ext.refl _).alloc _)) (k := 1) rfl (row_one2 _ _ _ _) (by rw [HL2.out]; omega)) ?_; rintro vp wp ⟨hHp, gp, sp, np⟩; obtain ⟨ap, cp, hvp, _, _⟩ := sp.val; rw [List.length_append, List.length_singleton, HL2.out] at hvp; subst hvp; have yB := hHp.blk (k := 0) rfl; have yl := yB.lt; have y0 := yB.cell (j := 0) rfl; have y0f := yB.free 0; clear yB)
        have HHq := Lib.hid (hHp.setB (k := 0) rfl 0 (.slice ap (os.length + na + nb + 1) cp))
        clear hHp gp sp np hH2
        go_ret
        exact ⟨by rw [HR2.out]; exact congrArg (fun z => Ending.returned (Value.int .i64 z)) (by push_cast; omega), _, by rw [HR2.out]; simp only [List.append_assoc]; have h := HHq.out; simp only [List.append_assoc] at h; exact h⟩
end Go.Proofs.Ytpegckmagiaggaa
