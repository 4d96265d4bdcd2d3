/- The dimensions and the labels of tensors: l12Dim, l12Labels. -/
import Derived.Test.YtlgjddgajdjllaaGreatDoorQDimsW
set_option linter.unusedSimpArgs false
set_option linter.unusedVariables false
namespace Go.Proofs.YtlgjddgajdjllaaGreatDoor
open Go.RowKit
set_option maxRecDepth 100000 in
set_option maxHeartbeats 4000000 in
theorem l12Dim_any {dm : Int → Int} {T : List Ten3} (hd : Dims3 dm T) (hm : T.length ≤ 1000) (x : Int) (v : Value) (w : World) (hv : TensS w v T) :
 Calls Tryz.prog 81 #[v, .int .i64 x] w fun e w' => e = .returned (.int .i64 (if hasL (occ3 T) x = true then dm x else 0)) ∧ Ext w w' := by
 obtain ⟨m, hml⟩ : ∃ m, T.length = m := ⟨_, rfl⟩
 obtain ⟨aV, cV, rfl, hcV1, hcV2⟩ := hv.val
 rw [hml] at hcV1 hv hm
 rw [hml]
 have HML := Lib.hid hml; clear hml
 have HD := Lib.hid hd; clear hd
 obtain ⟨RS, hRS⟩ : ∃ q, (if hasL (occ3 T) x = true then dm x else 0) = q := ⟨_, rfl⟩
 rw [hRS]
 have HRS := Lib.hid hRS; clear hRS
 go_enter Tryz.func81, Tryz.ntmps81
 go_wp2_with fail
 go_loopw [10] (fun i wr => ∃ j : Nat, j ≤ m ∧ i = .int .i64 (j : Int) ∧ Hid (x ∉ occ3 (T.take j)) ∧ Held w wr []) (fun i wr => m - (RowKit.intOf i).toNat)
 case atStart => exact ⟨0, Nat.zero_le _, rfl, Lib.hid (by rw [List.take_zero]; exact fun h => by cases h), Held.new (Ext.refl w) 0⟩
 case round =>
  obtain ⟨j, hj, rfl, HN, hH⟩ := hrel
  by_cases hlt : j < m
  ·
   obtain ⟨bV, oV, u1, u2, u3, t1, hV, hu0, hu1, hu2, ht1, hTu⟩ := hv.get (i := j) (by rw [HML.out]; exact hlt)
   subst hV
   obtain ⟨L1, D1, X1⟩ := t1
   obtain ⟨e1, m1, f1, e2, m2, f2, e3, m3, f3, hvv⟩ := hTu.shape
   simp at hvv
   obtain ⟨rfl, rfl, rfl⟩ := hvv
   rw [Nat.mul_comm 3 j] at hu0 hu1 hu2
   have htm := List.mem_of_getElem? ht1
   obtain rfl : D1 = L1.map dm := HD.out.dims _ htm
   obtain ⟨_, _, _, hvv, hTL, hTD, hTX⟩ := hTu.val
   simp at hvv
   obtain ⟨rfl, rfl, rfl⟩ := hvv
   obtain ⟨_, _, hvv, _, _⟩ := hTL.val
   simp at hvv
   obtain ⟨rfl, rfl, rfl⟩ := hvv
   obtain ⟨_, _, hvv, _, _⟩ := hTD.val
   simp at hvv
   obtain ⟨rfl, rfl, rfl⟩ := hvv
   have HLB := Lib.hid (HD.out.labs _ htm); have HRK := HD.out.rank _ htm
   have HT1 := Lib.hid ht1; clear htm ht1
   simp only at HRK
   have c_hu0 := hH.ext.cell hu0; have c_hu1 := hH.ext.cell hu1; have c_hu2 := hH.ext.cell hu2
   go_wp2_with fail
   clear c_hu0 c_hu1 c_hu2
   have hB : Held w (wr.alloc (.cells #[.slice e1 L1.length f1, .slice e2 L1.length f2, .slice e3 m3 f3] 52)) [aB (wr.heap.size) 52 [.slice e1 L1.length f1, .slice e2 L1.length f2, .slice e3 m3 f3]] := by
    have h := (hH.mores 1).addB 0 #[.slice e1 L1.length f1, .slice e2 L1.length f2, .slice e3 m3 f3] 52
    exact h
   have hsz : (wr.alloc (.cells #[.slice e1 L1.length f1, .slice e2 L1.length f2, .slice e3 m3 f3] 52)).heap.size = wr.heap.size + 1 := by simp
   generalize wr.alloc (.cells #[.slice e1 L1.length f1, .slice e2 L1.length f2, .slice e3 m3 f3] 52) = wn1 at hB hsz ⊢
   replace hH := hB; have HSZwn1 := Lib.hid hsz; clear hB hsz
   refine (l05Find_any _ L1 x _ (hTL.ext hH.ext)).mono ?_; rintro e1' w1' ⟨rfl, rfl⟩
   by_cases hx : x ∈ L1
   ·
    obtain ⟨K, hK, hKl, hK1, hK2⟩ := map_get_find (dm := dm) hx
    rw [hK]
    obtain ⟨bD, oD, y, rfl, hcD, hy, _⟩ := (hTD.ext hH.ext).get (i := K) (by simpa using hKl)
    obtain rfl : y = dm x := by rw [hK2] at hy; exact (Option.some.inj hy).symm
    have hKi : (0 : Int) ≤ (K : Int) := Int.natCast_nonneg K
    have hKL : (K : Int) < (L1.length : Int) := by omega
    have hin : x ∈ occ3 T := List.mem_flatMap.2 ⟨_, List.mem_of_getElem? HT1.out, hx⟩
    have HX := Lib.hid (show dm x = RS by rw [← HRS.out, if_pos ((hasL_iff _ _).2 hin)])
    have HE := Lib.hid hH.ext; clear hy hK1 hK2 hK hin hx
    obtain ⟨q0_0, q0_1, q0_2, l0_⟩ := hH.c3 0 rfl; have c_hu0 := hH.ext.cell hu0; have c_hu1 := hH.ext.cell hu1; have c_hu2 := hH.ext.cell hu2
    clear hH
    go_wp2
    go_ret
    exact ⟨by rw [← HX.out]; rfl, HE.out⟩
   ·
    rw [show findL L1 x = -1 from findL_neg (hasL_not.2 hx)]
    have HN2 : Hid (x ∉ occ3 (T.take (j + 1))) := Lib.hid (by rw [occ3_snoc HT1.out]; exact fun h => (List.mem_append.1 h).elim HN.out hx)
    clear hx
    go_wp2_with fail
    go_roundw
    case rel => exact ⟨j + 1, by omega, by go_num, HN2, hH.sub (List.nil_sublist _)⟩
    case measure => simp [RowKit.intOf]; omega
  ·
   have hje : j = m := by omega
   subst hje
   have hT := HN.out; rw [List.take_of_length_le (by rw [HML.out]; exact Nat.le_refl _)] at hT
   have HX := Lib.hid (show (0 : Int) = RS by rw [← HRS.out, if_neg fun h => hT ((hasL_iff _ _).1 h)])
   have HE := Lib.hid hH.ext; clear hH hT
   go_wp2
   go_ret
   exact ⟨by rw [← HX.out]; rfl, HE.out⟩
end Go.Proofs.YtlgjddgajdjllaaGreatDoor
