/- The law 'FnIntegers', walked. -/
import Derived.Test.YtpimpahmhipifaaDoorNumW
import Derived.Test.YtpimpahmhipifaaDoorParsesW
import Derived.Test.YtpimpahmhipifaaDoorFmtInts
namespace Go.Proofs.YtpimpahmhipifaaDoor
open Go.RowKit
set_option linter.unusedSimpArgs false
set_option linter.unusedVariables false
open Go.Lib

theorem fmt3 (c : UInt8) (a b d : Int) : fmtL c [a, b, d] = itoa a ++ c :: (itoa b ++ c :: itoa d) := by
  simp [fmtL, join, List.intercalate, List.intersperse]
theorem words3 (a b d : Int) : wordsL (32 :: 32 :: (fmtL 32 [a, b, d] ++ [32])) = [a, b, d].map itoa := by
  have hs := fun v => itoa_clean (c := 32) (by decide) (by decide) v
  rw [words_gap, words_gap, fmt3]
  rw [List.append_assoc, List.cons_append, words_at (hs a) (itoa_ne a), List.append_assoc, List.cons_append, words_at (hs b) (itoa_ne b), words_at (hs d) (itoa_ne d), words_nil]
  rfl
theorem lines3 (a b d : Int) : linesL (fmtL 10 [a, b, d]) = [a, b, d].map itoa := by
  have hs := fun v => itoa_clean (c := 10) (by decide) (by decide) v
  rw [fmt3, lines_at (hs a), lines_at (hs b), lines_end (hs d) (itoa_ne d)]
  rfl
theorem fmt3_len {c : UInt8} {a b d : Int} (ha : isI64 a) (hb : isI64 b) (hd : isI64 d) : (fmtL c [a, b, d]).length ≤ 62 := by
  have h1 := itoa_len ha; have h2 := itoa_len hb; have h3 := itoa_len hd
  rw [fmt3]
  simp
  omega
theorem tdiv7 {n : Int} (h : isI64 n) : isI64 (Int.tdiv n 7) := by
  obtain ⟨h0, h1⟩ := h
  by_cases c : 0 ≤ n
  · rw [Int.tdiv_eq_ediv_of_nonneg c]; unfold isI64; omega
  · obtain ⟨m, rfl⟩ : ∃ m, n = -m := ⟨-n, by omega⟩
    rw [Int.neg_tdiv, Int.tdiv_eq_ediv_of_nonneg (by omega)]; unfold isI64; omega
theorem mul16 {a b : Int} (ha : 0 ≤ a ∧ a ≤ 65535) (hb : 0 ≤ b ∧ b ≤ 65535) : 0 ≤ a * b ∧ a * b ≤ 4294836225 := by
  have h1 := Int.mul_nonneg ha.1 hb.1
  have h2 := Int.mul_le_mul ha.2 hb.2 hb.1 (by omega : (0 : Int) ≤ 65535)
  omega
set_option maxHeartbeats 4000000 in
theorem walkFnIntegers (v : Value) (l : List Int) (w : World) (hT : AllV w) (hl : ByteS w v l) (hall : ∀ x ∈ l, 0 ≤ x ∧ x ≤ 255) :
    Calls Tryd.prog 11 #[v] w fun e w' => e = .returned (.bool true) ∧ Ext w w' := by
  obtain ⟨a, cap, rfl, hc1, hc2⟩ := hl.val
  by_cases big : 1048576 < l.length
  · go_enter Tryd.func11, Tryd.ntmps11
    go_wp2
    go_ret
    exact ⟨rfl, (by repeat' (first | (with_reducible exact Ext.refl _) | (with_reducible assumption) | (with_reducible apply Ext.alloc) | (with_reducible apply Ext.drew) | (with_reducible apply Ext.drewN) | (refine Ext.setAt ?_ (by omega) _ _) | (refine Ext.trans ?_ (by assumption))))⟩
  have hC : ∀ w', Ext w w' → Code w' (.slice a l.length cap) l := fun w' e => ⟨hl.ext e, hall, by omega⟩
  have HC := Lib.hid hC; clear hall hC
  go_enter Tryd.func11, Tryd.ntmps11
  go_wp2_with fail
  refine (makeNum_any _ l 0 _ (HC.out _ (by repeat' (first | (with_reducible exact Ext.refl _) | (with_reducible assumption) | (with_reducible apply Ext.alloc) | (with_reducible apply Ext.drew) | (with_reducible apply Ext.drewN) | (refine Ext.setAt ?_ (by omega) _ _) | (refine Ext.trans ?_ (by assumption))))) (by omega)).mono ?_; rintro e1 w1 ⟨x, rfl, hx, h1⟩
  go_wp2_with fail
  refine (makeNum_any _ l 2 _ (HC.out _ (by repeat' (first | (with_reducible exact Ext.refl _) | (with_reducible assumption) | (with_reducible apply Ext.alloc) | (with_reducible apply Ext.drew) | (with_reducible apply Ext.drewN) | (refine Ext.setAt ?_ (by omega) _ _) | (refine Ext.trans ?_ (by assumption))))) (by omega)).mono ?_; rintro e2 w2 ⟨y, rfl, hy, h2⟩
  obtain ⟨m0, m1⟩ := mul16 hx hy
  go_wp2_with fail
  refine (makeNum_any _ l 4 _ (HC.out _ (by repeat' (first | (with_reducible exact Ext.refl _) | (with_reducible assumption) | (with_reducible apply Ext.alloc) | (with_reducible apply Ext.drew) | (with_reducible apply Ext.drewN) | (refine Ext.setAt ?_ (by omega) _ _) | (refine Ext.trans ?_ (by assumption))))) (by omega)).mono ?_; rintro e3 w3 ⟨z, rfl, hz, h3⟩
  obtain ⟨n, hn⟩ : ∃ n, x * y - z = n := ⟨_, rfl⟩
  have n0 : -65535 ≤ n := by omega
  have n1 : n ≤ 4294836225 := by omega
  obtain ⟨d, hd⟩ : ∃ d, Int.tdiv n 7 = d := ⟨_, rfl⟩
  have i0 : isI64 n := ⟨by omega, by omega⟩
  have i1 : isI64 (-n) := ⟨by omega, by omega⟩
  have i2 : isI64 d := hd ▸ tdiv7 i0
  have d0 := i2.1; have d1 := i2.2
  have i3 : ∀ v ∈ [n, -n, d], isI64 v := by intro v hv; simp at hv; rcases hv with rfl | rfl | rfl <;> assumption
  have hq := parseI_itoa i0
  have hlen := fmt3_len (c := 32) i0 i1 i2
  have hlen2 := fmt3_len (c := 10) i0 i1 i2
  have hint := intsBy_join (c := 32) (by decide) (by decide) i3
  have hint : intsBy 32 (fmtL 32 [n, -n, d]) = some [n, -n, d] := hint
  obtain ⟨s1, hs1⟩ : ∃ s, mkS (itoa n) = s := ⟨_, rfl⟩
  obtain ⟨s2, hs2⟩ : ∃ s, mkS (fmtL 32 [n, -n, d]) = s := ⟨_, rfl⟩
  have s1d : s1.data.toList = itoa n := by rw [← hs1, mkS_list]
  have s2d : s2.data.toList = fmtL 32 [n, -n, d] := by rw [← hs2, mkS_list]
  have s1s : s1.size ≤ 20 := by rw [← hs1, mkS_size]; exact (itoa_len i0).2
  have s2s : s2.size ≤ 62 := by rw [← hs2, mkS_size]; exact hlen
  have p1 : ∀ w, AllV w → Calls Tryd.prog 33 #[.string s1] w fun e w' => e = .returned (.tuple #[.int .i64 n, .bool true]) ∧ Ext w w' := fun w h => by
    have := parseInt_impl s1 (by omega) w h.errs
    rw [s1d, (pib_some' hq).1, (pib_some' hq).2] at this
    exact this
  have p2 : ∀ w, AllV w → Calls Tryd.prog 35 #[.string s2] w fun e w' => ParR w w' e [n, -n, d] true := fun w h => by
    have := parseInts_impl s2 w (by omega) h
    rw [s2d, piv_some hint, pib_some hint] at this
    exact this
  have f1 : ∀ w, AllV w → Calls Tryd.prog 15 #[.int .i64 n] w fun e w' => e = .returned (.string s1) ∧ Ext w w' := fun w h => hs1 ▸ formatInt_impl n i0 w h.errs.tab
  have f2 : ∀ v w, AllV w → IntS w v [n, -n, d] → Calls Tryd.prog 28 #[v] w fun e w' => e = .returned (.string s2) ∧ Ext w w' := fun v w h hv => hs2 ▸ formatInts_impl v _ w hv i3 (by simp) h.errs.tab
  have hw : wordsL ((⟨#[32, 32]⟩ ++ s2 ++ ⟨#[32]⟩ : ByteArray)).data.toList = [n, -n, d].map itoa := by
    rw [append_bytes, append_bytes, s2d]
    exact words3 n (-n) d
  have p3 : ∀ w, AllV w → Calls Tryd.prog 22 #[.string (⟨#[32, 32]⟩ ++ s2 ++ ⟨#[32]⟩)] w fun e w' => ∃ v, e = .returned v ∧ OwnStr w' w.heap.size v (texts [n, -n, d]) ∧ Ext w w' := fun w h => by
    have e1 : (⟨#[32, 32]⟩ ++ s2 ++ ⟨#[32]⟩ : ByteArray).size = 2 + s2.size + 1 := by
      rw [ByteArray.size_append, ByteArray.size_append]; rfl
    have := words_impl (⟨#[32, 32]⟩ ++ s2 ++ ⟨#[32]⟩) w (by omega) h.maxl
    rw [hw] at this
    exact this
  have hsz := texts_size i3
  have hj : ∀ c : UInt8, (⟨(Lib.join ((texts [n, -n, d]).map (·.data.toList)) [c]).toArray⟩ : ByteArray) = mkS (fmtL c [n, -n, d]) := fun c => fmt_str c _
  have hl3 : (texts [n, -n, d]).length = 3 := rfl
  have j1 : ∀ v w, StrS w v (texts [n, -n, d]) → Calls Tryd.prog 40 #[v, .string ⟨#[32]⟩] w fun e w' => e = .returned (.string s2) ∧ Ext w w' := fun v w hv => by
    have := join_impl v (texts [n, -n, d]) ⟨#[32]⟩ w hv (by rw [hl3]; simp at hsz; omega) (by decide)
    rw [show (⟨#[32]⟩ : ByteArray).data.toList = [32] from rfl, hj 32, hs2] at this
    exact this
  obtain ⟨s3, hs3⟩ : ∃ s, mkS (fmtL 10 [n, -n, d]) = s := ⟨_, rfl⟩
  have s3d : s3.data.toList = fmtL 10 [n, -n, d] := by rw [← hs3, mkS_list]
  have s3s : s3.size ≤ 62 := by rw [← hs3, mkS_size]; exact hlen2
  have j2 : ∀ v w, StrS w v (texts [n, -n, d]) → Calls Tryd.prog 40 #[v, .string ⟨#[10]⟩] w fun e w' => e = .returned (.string s3) ∧ Ext w w' := fun v w hv => by
    have := join_impl v (texts [n, -n, d]) ⟨#[10]⟩ w hv (by rw [hl3]; simp at hsz; omega) (by decide)
    rw [show (⟨#[10]⟩ : ByteArray).data.toList = [10] from rfl, hj 10, hs3] at this
    exact this
  have p4 : ∀ w, AllV w → Calls Tryd.prog 17 #[.string s3] w fun e w' => ∃ a cap, e = .returned (.slice a 3 cap) ∧ Ext w w' := fun w h => by
    have := lines_impl s3 w (by omega) h.maxl
    rw [s3d, lines3] at this
    refine this.mono ?_
    rintro e w' ⟨v, rfl, o, h⟩
    obtain ⟨a, cap, rfl, _, _⟩ := o.strs.val
    exact ⟨a, cap, rfl, h⟩
  have P1 := Lib.hid p1; have P2 := Lib.hid p2; have P3 := Lib.hid p3; have P4 := Lib.hid p4
  have F1 := Lib.hid f1; have F2 := Lib.hid f2; have J1 := Lib.hid j1; have J2 := Lib.hid j2
  have T3 : AllV w3 := hT.ext (by repeat' (first | (with_reducible exact Ext.refl _) | (with_reducible assumption) | (with_reducible apply Ext.alloc) | (with_reducible apply Ext.drew) | (with_reducible apply Ext.drewN) | (refine Ext.setAt ?_ (by omega) _ _) | (refine Ext.trans ?_ (by assumption))))
  clear p1 p2 p3 p4 f1 f2 j1 j2 hw hsz hj hl3 hint hlen hlen2 hq i0 i1 i2 i3 hs1 hs2 hs3 s1d s2d s3d s3s s1s HC hl hT
  obtain ⟨hz0, hz1⟩ := hz
  clear hx hy
  go_wp2_with fail
  clear hn m0 m1 hz0 hz1
  have o3 : OwnI (w3.alloc (.cells #[.int .i64 n, .int .i64 (-n), .int .i64 d] 3)) w3.heap.size (.slice (some ⟨w3.heap.size, 0, none⟩) 3 3) [n, -n, d] := OwnI.mk' rfl (Nat.le_refl _) (Blk.new w3 #[.int .i64 n, .int .i64 (-n), .int .i64 d] 3) (by unfold maxLen; omega)
  refine (F1.out _ (T3.ext (by repeat' (first | (with_reducible exact Ext.refl _) | (with_reducible assumption) | (with_reducible apply Ext.alloc) | (with_reducible apply Ext.drew) | (with_reducible apply Ext.drewN) | (refine Ext.setAt ?_ (by omega) _ _) | (refine Ext.trans ?_ (by assumption)))))).mono ?_; rintro e4 w4 ⟨rfl, h4⟩
  go_wp2_with fail
  refine (P1.out _ (T3.ext (by repeat' (first | (with_reducible exact Ext.refl _) | (with_reducible assumption) | (with_reducible apply Ext.alloc) | (with_reducible apply Ext.drew) | (with_reducible apply Ext.drewN) | (refine Ext.setAt ?_ (by omega) _ _) | (refine Ext.trans ?_ (by assumption)))))).mono ?_; rintro e5 w5 ⟨rfl, h5⟩
  go_wp2_with fail
  refine (F2.out _ _ (T3.ext (by repeat' (first | (with_reducible exact Ext.refl _) | (with_reducible assumption) | (with_reducible apply Ext.alloc) | (with_reducible apply Ext.drew) | (with_reducible apply Ext.drewN) | (refine Ext.setAt ?_ (by omega) _ _) | (refine Ext.trans ?_ (by assumption))))) (o3.ints.ext (by repeat' (first | (with_reducible exact Ext.refl _) | (with_reducible assumption) | (with_reducible apply Ext.alloc) | (with_reducible apply Ext.drew) | (with_reducible apply Ext.drewN) | (refine Ext.setAt ?_ (by omega) _ _) | (refine Ext.trans ?_ (by assumption)))))).mono ?_; rintro e6 w6 ⟨rfl, h6⟩
  go_wp2_with fail
  refine (P2.out _ (T3.ext (by repeat' (first | (with_reducible exact Ext.refl _) | (with_reducible assumption) | (with_reducible apply Ext.alloc) | (with_reducible apply Ext.drew) | (with_reducible apply Ext.drewN) | (refine Ext.setAt ?_ (by omega) _ _) | (refine Ext.trans ?_ (by assumption)))))).mono ?_; rintro e7 w7 ⟨v7, rfl, o7, h7⟩
  go_wp2_with fail
  refine (F2.out _ _ (T3.ext (by repeat' (first | (with_reducible exact Ext.refl _) | (with_reducible assumption) | (with_reducible apply Ext.alloc) | (with_reducible apply Ext.drew) | (with_reducible apply Ext.drewN) | (refine Ext.setAt ?_ (by omega) _ _) | (refine Ext.trans ?_ (by assumption))))) (o3.ints.ext (by repeat' (first | (with_reducible exact Ext.refl _) | (with_reducible assumption) | (with_reducible apply Ext.alloc) | (with_reducible apply Ext.drew) | (with_reducible apply Ext.drewN) | (refine Ext.setAt ?_ (by omega) _ _) | (refine Ext.trans ?_ (by assumption)))))).mono ?_; rintro e8 w8 ⟨rfl, h8⟩
  go_wp2_with fail
  refine (P3.out _ (T3.ext (by repeat' (first | (with_reducible exact Ext.refl _) | (with_reducible assumption) | (with_reducible apply Ext.alloc) | (with_reducible apply Ext.drew) | (with_reducible apply Ext.drewN) | (refine Ext.setAt ?_ (by omega) _ _) | (refine Ext.trans ?_ (by assumption)))))).mono ?_; rintro e9 w9 ⟨v9, rfl, o9, h9⟩
  obtain ⟨a9, c9, hv9, hz1, hz2⟩ := o9.strs.val
  subst hv9
  rw [show (texts [n, -n, d]).length = 3 from rfl] at hz1 o9 ⊢
  go_wp2_with fail
  refine (ints_same _ _ [n, -n, d] [n, -n, d] _ (o7.ints.ext (by repeat' (first | (with_reducible exact Ext.refl _) | (with_reducible assumption) | (with_reducible apply Ext.alloc) | (with_reducible apply Ext.drew) | (with_reducible apply Ext.drewN) | (refine Ext.setAt ?_ (by omega) _ _) | (refine Ext.trans ?_ (by assumption))))) (o3.ints.ext (by repeat' (first | (with_reducible exact Ext.refl _) | (with_reducible assumption) | (with_reducible apply Ext.alloc) | (with_reducible apply Ext.drew) | (with_reducible apply Ext.drewN) | (refine Ext.setAt ?_ (by omega) _ _) | (refine Ext.trans ?_ (by assumption))))) rfl).mono ?_; rintro e10 w10 ⟨rfl, rfl⟩
  go_wp2_with fail
  refine (J1.out _ _ (o9.strs.ext (by repeat' (first | (with_reducible exact Ext.refl _) | (with_reducible assumption) | (with_reducible apply Ext.alloc) | (with_reducible apply Ext.drew) | (with_reducible apply Ext.drewN) | (refine Ext.setAt ?_ (by omega) _ _) | (refine Ext.trans ?_ (by assumption)))))).mono ?_; rintro e11 w11 ⟨rfl, h11⟩
  go_wp2_with fail
  refine (F2.out _ _ (T3.ext (by repeat' (first | (with_reducible exact Ext.refl _) | (with_reducible assumption) | (with_reducible apply Ext.alloc) | (with_reducible apply Ext.drew) | (with_reducible apply Ext.drewN) | (refine Ext.setAt ?_ (by omega) _ _) | (refine Ext.trans ?_ (by assumption))))) (o3.ints.ext (by repeat' (first | (with_reducible exact Ext.refl _) | (with_reducible assumption) | (with_reducible apply Ext.alloc) | (with_reducible apply Ext.drew) | (with_reducible apply Ext.drewN) | (refine Ext.setAt ?_ (by omega) _ _) | (refine Ext.trans ?_ (by assumption)))))).mono ?_; rintro e12 w12 ⟨rfl, h12⟩
  go_wp2_with fail
  refine (J2.out _ _ (o9.strs.ext (by repeat' (first | (with_reducible exact Ext.refl _) | (with_reducible assumption) | (with_reducible apply Ext.alloc) | (with_reducible apply Ext.drew) | (with_reducible apply Ext.drewN) | (refine Ext.setAt ?_ (by omega) _ _) | (refine Ext.trans ?_ (by assumption)))))).mono ?_; rintro e13 w13 ⟨rfl, h13⟩
  go_wp2_with fail
  refine (P4.out _ (T3.ext (by repeat' (first | (with_reducible exact Ext.refl _) | (with_reducible assumption) | (with_reducible apply Ext.alloc) | (with_reducible apply Ext.drew) | (with_reducible apply Ext.drewN) | (refine Ext.setAt ?_ (by omega) _ _) | (refine Ext.trans ?_ (by assumption)))))).mono ?_; rintro e14 w14 ⟨a14, c14, rfl, h14⟩
  go_wp2
  go_ret
  exact ⟨rfl, (by repeat' (first | (with_reducible exact Ext.refl _) | (with_reducible assumption) | (with_reducible apply Ext.alloc) | (with_reducible apply Ext.drew) | (with_reducible apply Ext.drewN) | (refine Ext.setAt ?_ (by omega) _ _) | (refine Ext.trans ?_ (by assumption))))⟩
end Go.Proofs.YtpimpahmhipifaaDoor
