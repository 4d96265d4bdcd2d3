/- FormatNetwork of the program and of the reference, of valid tensors over a valid ring. -/
import Derived.Test.YtlgjddgajdjllaaGreatDoorQNetB
import Derived.Test.YtlgjddgajdjllaaGreatDoorQNetSB
import Derived.Test.YtlgjddgajdjllaaGreatDoorQTenTxS
set_option linter.unusedSimpArgs false
set_option linter.unusedVariables false
namespace Go.Proofs.YtlgjddgajdjllaaGreatDoor
open Go.RowKit
open Go.Lib
def fnAll (k p n : Int) (O : List Int) (T : List Ten3) : List UInt8 := if netB T O = true then fmtNetB k p n O T else []
def fnH (k p n : Int) (O : List Int) : List UInt8 := fmtRing k p n ++ 10 :: openL O
def fnT (k p n : Int) (O : List Int) (T : List Ten3) : List UInt8 := fnH k p n O ++ 10 :: T.flatMap fun t => fmtTen k p n t.1 t.2.1 t.2.2 ++ [10]
theorem fnH_nil (k p n : Int) : fnH k p n [] = fmtRing k p n ++ [10, 111, 112, 101, 110] := rfl
theorem fnH_step {k p n : Int} {O : List Int} {j : Nat} {x : Int} (h : O[j]? = some x) : fnH k p n (O.take (j + 1)) = fnH k p n (O.take j) ++ 32 :: itoa x := by
  unfold fnH openL
  rw [List.take_add_one, h]
  simp
theorem fnT_nil (k p n : Int) (O : List Int) : fnT k p n O [] = fnH k p n O ++ [10] := rfl
theorem fnT_step {k p n : Int} {O : List Int} {T : List Ten3} {j : Nat} {t : Ten3} (h : T[j]? = some t) : fnT k p n O (T.take (j + 1)) = fnT k p n O (T.take j) ++ (fmtTen k p n t.1 t.2.1 t.2.2 ++ [10]) := by
  unfold fnT
  rw [List.take_add_one, h]
  simp
theorem fnT_all (k p n : Int) (O : List Int) (T : List Ten3) : fnT k p n O T = fmtNetB k p n O T := by
  unfold fnT fnH fmtNetB netLines
  simp [List.flatMap_map]
theorem joinN_len : ∀ T : List (List UInt8), (join T [32]).length ≤ (T.map (·.length + 1)).sum
  | [] => by simp [join]
  | [a] => by simp [join]
  | a :: b :: l => by
    have ih := joinN_len (b :: l)
    have e : join (a :: b :: l) [32] = a ++ [32] ++ join (b :: l) [32] := by simp [join]
    rw [e]
    simp only [List.length_append, List.length_cons, List.length_nil, List.map_cons, List.sum_cons] at ih ⊢
    omega
theorem sumN_le {T : List (List UInt8)} {c : Nat} : (∀ t ∈ T, t.length ≤ c) → (T.map (·.length + 1)).sum ≤ T.length * (c + 1) := by
  induction T with
  | nil => intro _; simp
  | cons a T ih =>
    intro h
    have h1 := h a (by simp)
    have h2 := ih fun t ht => h t (by simp [ht])
    rw [List.map_cons, List.sum_cons, List.length_cons, Nat.add_mul]
    omega
theorem fmtTenN_len {k p n : Int} {L D X : List Int} (h : tensOk k p n L D X = true) : (fmtTen k p n L D X).length ≤ 521843 := by
  have hr := tensOk_ring h
  obtain ⟨h1, h2⟩ := toks_len hr ((tensOk_iff hr).1 h)
  rw [fmtTen_yes h]
  have a := joinN_len (tenToks (ringWidth k n).toNat (prodL D).toNat L D X)
  have b := sumN_le h2
  have c : (tenToks (ringWidth k n).toNat (prodL D).toNat L D X).length * (126 + 1) ≤ 4109 * 127 := Nat.mul_le_mul_right _ h1
  omega
theorem numN_len {p : Int} (h : isI64 p) : (numT p).length ≤ 21 := by
  have := (itoa_len h).2
  unfold numT
  split <;> simp <;> omega
theorem fmtRingN_len {k p n : Int} (h : ringOk k p n = true) : (fmtRing k p n).length ≤ 47 := by
  obtain ⟨⟨p0, p1⟩, n0, n1⟩ := ringOk_small h
  have h1 := numN_len (p := p) (by unfold isI64; omega)
  have h2 := numN_len (p := n) (by unfold isI64; omega)
  have h3 := nameL_len k
  rw [fmtRing_yes h]
  simp only [List.length_append]
  omega
theorem labsN_len : ∀ {O : List Int}, (∀ v ∈ O, isI64 v) → (O.flatMap fun l => 32 :: itoa l).length ≤ O.length * 21
  | [], _ => by simp
  | a :: O, h => by
    have ih := labsN_len (O := O) fun v hv => h v (List.mem_cons_of_mem _ hv)
    have := (itoa_len (h a (by simp))).2
    rw [List.flatMap_cons, List.length_append, List.length_cons, List.length_cons, Nat.add_mul]
    omega
theorem fnH_len {k p n : Int} {O : List Int} (hr : ringOk k p n = true) (ho : ∀ v ∈ O, isI64 v) (hl : O.length ≤ 12) (j : Nat) : (fnH k p n (O.take j)).length ≤ 400 := by
  have h1 := fmtRingN_len hr
  have h2 := labsN_len (O := O.take j) fun v hv => ho v (List.mem_of_mem_take hv)
  have h3 : (O.take j).length ≤ 12 := by rw [List.length_take]; omega
  have h4 : (O.take j).length * 21 ≤ 12 * 21 := Nat.mul_le_mul_right _ h3
  have e : openT.length = 4 := rfl
  unfold fnH openL
  rw [List.length_append, List.length_cons, List.length_append, e]
  omega
theorem tensN_len {k p n : Int} : ∀ {T : List Ten3}, (∀ t ∈ T, tensOk k p n t.1 t.2.1 t.2.2 = true) → (T.flatMap fun t => fmtTen k p n t.1 t.2.1 t.2.2 ++ [10]).length ≤ T.length * 521844
  | [], _ => by simp
  | a :: T, h => by
    have ih := tensN_len (T := T) fun v hv => h v (List.mem_cons_of_mem _ hv)
    have := fmtTenN_len (h a (by simp))
    simp only [List.flatMap_cons, List.length_append, List.length_cons, List.length_nil, Nat.add_mul]
    omega
theorem fnT_len {k p n : Int} {O : List Int} {T : List Ten3} (hr : ringOk k p n = true) (ho : ∀ v ∈ O, isI64 v) (hl : O.length ≤ 12) (ht : ∀ t ∈ T, tensOk k p n t.1 t.2.1 t.2.2 = true) (hm : T.length ≤ 12) (j : Nat) : (fnT k p n O (T.take j)).length ≤ 6262529 := by
  have h1 := fnH_len hr ho hl O.length
  rw [List.take_length] at h1
  have h2 := tensN_len (T := T.take j) fun v hv => ht v (List.mem_of_mem_take hv)
  have h3 : (T.take j).length ≤ 12 := by rw [List.length_take]; omega
  have h4 : (T.take j).length * 521844 ≤ 12 * 521844 := Nat.mul_le_mul_right _ h3
  unfold fnT
  rw [List.length_append, List.length_cons]
  omega
theorem bsize {z : ByteArray} {l : List UInt8} (h : z.data.toList = l) : z.size = l.length := by rw [← h]; exact (slen z).symm
set_option maxRecDepth 100000 in
set_option maxHeartbeats 4000000 in
theorem formatNetwork_impl {k p n : Int} (hr : ringOk k p n = true) {T : List Ten3} (hK : ∀ t ∈ T, tensOk k p n t.1 t.2.1 t.2.2 = true) (hm12 : T.length ≤ 12) {O : List Int} (hO9 : O.length ≤ 1000000000) (tv ov : Value) (w : World) (hT : TensS w tv T) (hO : IntS w ov O) (hTab : Tab w) :
 Calls Tryz.prog 8 #[.agg #[.int .i64 k, .int .i64 p, .int .i64 n, tv, ov]] w fun e w' => e = .returned (.string (mkS (fnAll k p n O T))) ∧ Ext w w' := by
 have hT0 := hT
 have hO0 := hO
 obtain ⟨m, hm⟩ : ∃ m, T.length = m := ⟨_, rfl⟩
 obtain ⟨aV, cV, rfl, hcT1, hcT2⟩ := hT.val
 obtain ⟨aO, cO, rfl, hcO1, hcO2⟩ := hO.val
 have HM12 := Lib.hid hm12
 rw [hm] at hT hT0 hcT1 hm12
 rw [hm]
 have HM := Lib.hid hm; have HR := Lib.hid hr; have HK := Lib.hid hK; clear hm hr hK
 obtain ⟨RES, hRES⟩ : ∃ q, mkS (fnAll k p n O T) = q := ⟨_, rfl⟩
 rw [hRES]
 have HRES := Lib.hid hRES; clear hRES
 go_enter Tryz.func8, Tryz.ntmps8
 go_upto_region 1 with fail
 have hH : Held w w [] := Held.new (Ext.refl w) 0
 have hB : Held w (w.alloc (.cells #[.int .i64 k, .int .i64 p, .int .i64 n, .slice aV m cV, .slice aO O.length cO] 29)) [aB (w.heap.size) 29 [.int .i64 k, .int .i64 p, .int .i64 n, .slice aV m cV, .slice aO O.length cO]] := by
  have h := (hH.mores 1).addB 0 #[.int .i64 k, .int .i64 p, .int .i64 n, .slice aV m cV, .slice aO O.length cO] 29
  exact h
 have hsz : (w.alloc (.cells #[.int .i64 k, .int .i64 p, .int .i64 n, .slice aV m cV, .slice aO O.length cO] 29)).heap.size = w.heap.size + 1 := by simp
 generalize w.alloc (.cells #[.int .i64 k, .int .i64 p, .int .i64 n, .slice aV m cV, .slice aO O.length cO] 29) = wn1 at hB hsz ⊢
 replace hH := hB; have HSZwn1 := Lib.hid hsz; clear hB hsz
 obtain ⟨wz, rfl⟩ : ∃ q, q = wn1 := ⟨wn1, rfl⟩
 obtain ⟨q0_0, q0_1, q0_2, q0_3, q0_4, l0_⟩ := hH.c5 0 rfl
 go_wp2_with fail
 clear q0_0 q0_1 q0_2 q0_3 q0_4 l0_
 refine (networkOk_gen HR.out HK.out HM12.out _ _ _ (hT0.ext hH.ext) (hO0.ext hH.ext)).mono ?_; rintro ewn2 wn2 ⟨rfl, hwn2⟩
 replace hH : Held w wn2 [aB (w.heap.size) 29 [.int .i64 k, .int .i64 p, .int .i64 n, .slice aV m cV, .slice aO O.length cO]] := hH.grow hwn2
 clear hwn2
 cases hnb : netB T O
 ·
  have HRF : Hid (([] : List UInt8) = RES.data.toList) := Lib.hid (by rw [← HRES.out, mkS_list, fnAll, hnb]; rfl)
  clear hnb
  obtain ⟨q0_0, q0_1, q0_2, q0_3, q0_4, l0_⟩ := hH.c5 0 rfl
  have HE := Lib.hid hH.ext
  go_wp2
  all_goals go_ret
  all_goals exact ⟨ret_str HRF.out, HE.out⟩
 ·
  have HRF : Hid (fnT k p n O T = RES.data.toList) := Lib.hid (by rw [← HRES.out, mkS_list, fnAll, hnb, fnT_all]; rfl)
  have HO64 := Lib.hid (netB_i64 hnb)
  have hol := (netB_open hnb).2
  have HLH := Lib.hid (fnH_len HR.out HO64.out hol)
  have HLT := Lib.hid (fnT_len HR.out HO64.out hol HK.out HM12.out)
  clear hnb
  obtain ⟨z0, hz0⟩ : ∃ z, mkS (fmtRing k p n) = z := ⟨_, rfl⟩
  have HZ0 : Hid (z0.data.toList = fmtRing k p n) := Lib.hid (by rw [← hz0, mkS_list])
  have hs0 : z0.size ≤ 47 := by rw [bsize HZ0.out]; exact fmtRingN_len HR.out
  have HZE := Lib.hid hz0; clear hz0
  have hns0 : ¬ 9223372036854775807 < z0.size + 5 := by omega
  have hns0a : ¬ 9223372036854775807 < z0.size + 1 := by omega
  have hns0b : ¬ 9223372036854775807 < z0.size + 1 + 4 := by omega
  obtain ⟨q0_0, q0_1, q0_2, q0_3, q0_4, l0_⟩ := hH.c5 0 rfl
  go_wp2_with fail
  clear q0_0 q0_1 q0_2 q0_3 q0_4 l0_
  refine (formatRing_impl k p n _ (hTab.ext hH.ext)).mono ?_; rintro ewn3 wn3 ⟨rfl, hwn3⟩
  rw [HZE.out]
  replace hH : Held w wn3 [aB (w.heap.size) 29 [.int .i64 k, .int .i64 p, .int .i64 n, .slice aV m cV, .slice aO O.length cO]] := hH.grow hwn3
  clear hwn3
  obtain ⟨q0_0, q0_1, q0_2, q0_3, q0_4, l0_⟩ := hH.c5 0 rfl
  go_wp2_with fail
  clear q0_0 q0_1 q0_2 q0_3 q0_4 l0_
  go_loopw [3, 18] (fun q i wr => ∃ (j : Nat) (z : ByteArray), j ≤ O.length ∧ i = .int .i64 (j : Int) ∧ q = .string z ∧ Hid (z.data.toList = fnH k p n (O.take j)) ∧ Held w wr [aB (w.heap.size) 29 [.int .i64 k, .int .i64 p, .int .i64 n, .slice aV m cV, .slice aO O.length cO]]) (fun q i wr => O.length - (RowKit.intOf i).toNat)
  case atStart => exact ⟨0, _, Nat.zero_le _, rfl, rfl, Lib.hid (by simp only [append_bytes, HZ0.out, List.take_zero, fnH_nil, List.append_assoc]; try rfl), hH⟩
  case round =>
   clear hH hns0 hns0a hns0b
   obtain ⟨j, z, hj, rfl, rfl, HZ, hH⟩ := hrel
   obtain ⟨wq, rfl⟩ : ∃ q, q = wr := ⟨wr, rfl⟩
   have hzs : z.size ≤ 400 := by rw [bsize HZ.out]; exact HLH.out j
   by_cases hlt : j < O.length
   ·
    obtain ⟨bO, oO, x, rfl, hcO, hx, _⟩ := hO.get hlt
    have HX64 := Lib.hid (HO64.out x (List.mem_of_getElem? hx))
    obtain ⟨y, hy⟩ : ∃ y, mkS (itoa x) = y := ⟨_, rfl⟩
    have HY : Hid (y.data.toList = itoa x) := Lib.hid (by rw [← hy, mkS_list])
    have hys : y.size ≤ 20 := by rw [bsize HY.out]; exact (itoa_len HX64.out).2
    have HYE := Lib.hid hy
    have HSTEP : Hid (fnH k p n (O.take (j + 1)) = fnH k p n (O.take j) ++ 32 :: itoa x) := Lib.hid (fnH_step hx)
    clear hx hy
    have hns1 : ¬ 9223372036854775807 < 1 + y.size := by omega
    have hns2 : ¬ 9223372036854775807 < z.size + (1 + y.size) := by omega
    have hns3 : ¬ 9223372036854775807 < z.size + 1 := by omega
    have hns4 : ¬ 9223372036854775807 < z.size + 1 + y.size := by omega
    obtain ⟨q0_0, q0_1, q0_2, q0_3, q0_4, l0_⟩ := hH.c5 0 rfl; have c_hcO := hH.ext.cell hcO
    go_wp2_with fail
    clear q0_0 q0_1 q0_2 q0_3 q0_4 l0_ c_hcO
    refine (formatInt_impl x HX64.out _ (hTab.ext hH.ext)).mono ?_; rintro ewn4 wn4 ⟨rfl, hwn4⟩
    rw [HYE.out]
    replace hH : Held w wn4 [aB (w.heap.size) 29 [.int .i64 k, .int .i64 p, .int .i64 n, .slice aV m cV, .slice (some ⟨bO, oO, none⟩) O.length cO]] := hH.grow hwn4
    clear hwn4
    go_wp2_with fail
    go_roundw
    case rel => exact ⟨j + 1, _, by omega, by go_num, rfl, Lib.hid (by simp only [append_bytes, HZ.out, HY.out, HSTEP.out, List.append_assoc]; rfl), hH⟩
    case measure => simp [RowKit.intOf]; omega
   ·
    have hje : j = O.length := by omega
    have HZ1 : Hid (z.data.toList = fnH k p n O) := Lib.hid (by rw [HZ.out, hje, List.take_length])
    subst hje
    clear HZ hlt hj
    have hns5 : ¬ 9223372036854775807 < z.size + 1 := by omega
    obtain ⟨q0_0, q0_1, q0_2, q0_3, q0_4, l0_⟩ := hH.c5 0 rfl
    go_wp2_with fail
    clear q0_0 q0_1 q0_2 q0_3 q0_4 l0_
    go_loopw [3, 33] (fun q i wr => ∃ (j : Nat) (z : ByteArray), j ≤ m ∧ i = .int .i64 (j : Int) ∧ q = .string z ∧ Hid (z.data.toList = fnT k p n O (T.take j)) ∧ Held w wr [aB (w.heap.size) 29 [.int .i64 k, .int .i64 p, .int .i64 n, .slice aV m cV, .slice aO O.length cO]]) (fun q i wr => m - (RowKit.intOf i).toNat)
    case atStart => exact ⟨0, _, Nat.zero_le _, rfl, rfl, Lib.hid (by simp only [append_bytes, HZ1.out, List.take_zero, fnT_nil]; try rfl), hH⟩
    case round =>
     clear hH hns5 hzs HZ1
     obtain ⟨j, z, hj, rfl, rfl, HZ, hH⟩ := hrel
     obtain ⟨wt, rfl⟩ : ∃ q, q = wr := ⟨wr, rfl⟩
     have hzs : z.size ≤ 6262529 := by rw [bsize HZ.out]; exact HLT.out j
     by_cases hlt : j < m
     ·
      obtain ⟨bT, oT, u1, u2, u3, t3, hV, hu0, hu1, hu2, ht3, hTu⟩ := hT.get (i := j) (by rw [HM.out]; exact hlt)
      subst hV
      have HTK := Lib.hid (HK.out t3 (List.mem_of_getElem? ht3))
      have HSTEP : Hid (fnT k p n O (T.take (j + 1)) = fnT k p n O (T.take j) ++ (fmtTen k p n t3.1 t3.2.1 t3.2.2 ++ [10])) := Lib.hid (fnT_step ht3)
      clear ht3
      obtain ⟨tl, td, tx⟩ := t3
      obtain ⟨e1, m1, f1, e2, m2, f2, e3, m3, f3, hvv⟩ := hTu.shape
      simp at hvv
      obtain ⟨rfl, rfl, rfl⟩ := hvv
      rw [Nat.mul_comm 3 j] at hu0 hu1 hu2
      simp only at hTu HSTEP HTK
      obtain ⟨y, hy⟩ : ∃ y, mkS (fmtTen k p n tl td tx) = y := ⟨_, rfl⟩
      have HY : Hid (y.data.toList = fmtTen k p n tl td tx) := Lib.hid (by rw [← hy, mkS_list])
      have hys : y.size ≤ 521843 := by rw [bsize HY.out]; exact fmtTenN_len HTK.out
      have HYE := Lib.hid hy; clear hy
      have hns1 : ¬ 9223372036854775807 < y.size + 1 := by omega
      have hns2 : ¬ 9223372036854775807 < z.size + (y.size + 1) := by omega
      have hns3 : ¬ 9223372036854775807 < z.size + y.size := by omega
      have hns4 : ¬ 9223372036854775807 < z.size + y.size + 1 := by omega
      obtain ⟨q0_0, q0_1, q0_2, q0_3, q0_4, l0_⟩ := hH.c5 0 rfl; have c_hu0 := hH.ext.cell hu0; have c_hu1 := hH.ext.cell hu1; have c_hu2 := hH.ext.cell hu2
      go_upto_region 13 with fail
      clear q0_0 q0_1 q0_2 q0_3 q0_4 l0_ c_hu0 c_hu1 c_hu2
      have hB : Held w (wt.alloc (.cells #[.slice e1 m1 f1, .slice e2 m2 f2, .slice e3 m3 f3] 52)) [aB (w.heap.size) 29 [.int .i64 k, .int .i64 p, .int .i64 n, .slice (some ⟨bT, oT, none⟩) m cV, .slice aO O.length cO], aB (wt.heap.size) 52 [.slice e1 m1 f1, .slice e2 m2 f2, .slice e3 m3 f3]] := by
       have h := (hH.mores 1).addB 1 #[.slice e1 m1 f1, .slice e2 m2 f2, .slice e3 m3 f3] 52
       exact h
      have hsz : (wt.alloc (.cells #[.slice e1 m1 f1, .slice e2 m2 f2, .slice e3 m3 f3] 52)).heap.size = wt.heap.size + 1 := by simp
      generalize wt.alloc (.cells #[.slice e1 m1 f1, .slice e2 m2 f2, .slice e3 m3 f3] 52) = wn5 at hB hsz ⊢
      replace hH := hB; have HSZwn5 := Lib.hid hsz; clear hB hsz
      obtain ⟨q0_0, q0_1, q0_2, q0_3, q0_4, l0_⟩ := hH.c5 0 rfl; obtain ⟨q1_0, q1_1, q1_2, l1_⟩ := hH.c3 1 rfl; have c_hu0 := hH.ext.cell hu0; have c_hu1 := hH.ext.cell hu1; have c_hu2 := hH.ext.cell hu2
      go_wp2_with fail
      clear q0_0 q0_1 q0_2 q0_3 q0_4 l0_ q1_0 q1_1 q1_2 l1_ c_hu0 c_hu1 c_hu2
      refine (formatTensor_impl k p n _ tl td tx _ (hTu.ext hH.ext) (hTab.ext hH.ext)).mono ?_; rintro ewn6 wn6 ⟨rfl, hwn6⟩
      rw [HYE.out]
      replace hH : Held w wn6 [aB (w.heap.size) 29 [.int .i64 k, .int .i64 p, .int .i64 n, .slice (some ⟨bT, oT, none⟩) m cV, .slice aO O.length cO], aB (wt.heap.size) 52 [.slice e1 m1 f1, .slice e2 m2 f2, .slice e3 m3 f3]] := hH.grow hwn6
      clear hwn6
      go_wp2_with fail
      go_roundw
      case rel => exact ⟨j + 1, _, by omega, by go_num, rfl, Lib.hid (by simp only [append_bytes, HZ.out, HY.out, HSTEP.out, List.append_assoc]), hH.sub (.cons_cons _ (.cons _ .slnil))⟩
      case measure => simp [RowKit.intOf]; omega
     ·
      have hje : j = m := by omega
      have HZ1 : Hid (z.data.toList = RES.data.toList) := Lib.hid (by rw [HZ.out, hje, ← HM.out, List.take_length, HRF.out])
      have HE := Lib.hid hH.ext
      subst hje
      go_wp2
      all_goals go_ret
      all_goals exact ⟨ret_str HZ1.out, HE.out⟩
set_option maxRecDepth 100000 in
set_option maxHeartbeats 4000000 in
theorem formatNetwork_spec {k p n : Int} (hr : ringOk k p n = true) {T : List Ten3} (hK : ∀ t ∈ T, tensOk k p n t.1 t.2.1 t.2.2 = true) (hm12 : T.length ≤ 12) {O : List Int} (hO9 : O.length ≤ 1000000000) (tv ov : Value) (w : World) (hT : TensS w tv T) (hO : IntS w ov O) :
 Calls Tryz.prog 38 #[.agg #[.int .i64 k, .int .i64 p, .int .i64 n, tv, ov]] w fun e w' => e = .returned (.string (mkS (fnAll k p n O T))) ∧ Ext w w' := by
 have hT0 := hT
 have hO0 := hO
 obtain ⟨m, hm⟩ : ∃ m, T.length = m := ⟨_, rfl⟩
 obtain ⟨aV, cV, rfl, hcT1, hcT2⟩ := hT.val
 obtain ⟨aO, cO, rfl, hcO1, hcO2⟩ := hO.val
 have HM12 := Lib.hid hm12
 rw [hm] at hT hT0 hcT1 hm12
 rw [hm]
 have HM := Lib.hid hm; have HR := Lib.hid hr; have HK := Lib.hid hK; clear hm hr hK
 obtain ⟨RES, hRES⟩ : ∃ q, mkS (fnAll k p n O T) = q := ⟨_, rfl⟩
 rw [hRES]
 have HRES := Lib.hid hRES; clear hRES
 go_enter Tryz.func38, Tryz.ntmps38
 go_upto_region 1 with fail
 have hH : Held w w [] := Held.new (Ext.refl w) 0
 have hB : Held w (w.alloc (.cells #[.int .i64 k, .int .i64 p, .int .i64 n, .slice aV m cV, .slice aO O.length cO] 29)) [aB (w.heap.size) 29 [.int .i64 k, .int .i64 p, .int .i64 n, .slice aV m cV, .slice aO O.length cO]] := by
  have h := (hH.mores 1).addB 0 #[.int .i64 k, .int .i64 p, .int .i64 n, .slice aV m cV, .slice aO O.length cO] 29
  exact h
 have hsz : (w.alloc (.cells #[.int .i64 k, .int .i64 p, .int .i64 n, .slice aV m cV, .slice aO O.length cO] 29)).heap.size = w.heap.size + 1 := by simp
 generalize w.alloc (.cells #[.int .i64 k, .int .i64 p, .int .i64 n, .slice aV m cV, .slice aO O.length cO] 29) = wn1 at hB hsz ⊢
 replace hH := hB; have HSZwn1 := Lib.hid hsz; clear hB hsz
 obtain ⟨wz, rfl⟩ : ∃ q, q = wn1 := ⟨wn1, rfl⟩
 obtain ⟨q0_0, q0_1, q0_2, q0_3, q0_4, l0_⟩ := hH.c5 0 rfl
 go_wp2_with fail
 clear q0_0 q0_1 q0_2 q0_3 q0_4 l0_
 refine (networkOk_genS HR.out HK.out HM12.out hO9 _ _ _ (hT0.ext hH.ext) (hO0.ext hH.ext)).mono ?_; rintro ewn2 wn2 ⟨rfl, hwn2⟩
 replace hH : Held w wn2 [aB (w.heap.size) 29 [.int .i64 k, .int .i64 p, .int .i64 n, .slice aV m cV, .slice aO O.length cO]] := hH.grow hwn2
 clear hwn2
 cases hnb : netB T O
 ·
  have HRF : Hid (([] : List UInt8) = RES.data.toList) := Lib.hid (by rw [← HRES.out, mkS_list, fnAll, hnb]; rfl)
  clear hnb
  obtain ⟨q0_0, q0_1, q0_2, q0_3, q0_4, l0_⟩ := hH.c5 0 rfl
  have HE := Lib.hid hH.ext
  go_wp2
  all_goals go_ret
  all_goals exact ⟨ret_str HRF.out, HE.out⟩
 ·
  have HRF : Hid (fnT k p n O T = RES.data.toList) := Lib.hid (by rw [← HRES.out, mkS_list, fnAll, hnb, fnT_all]; rfl)
  have HO64 := Lib.hid (netB_i64 hnb)
  have hol := (netB_open hnb).2
  have HLH := Lib.hid (fnH_len HR.out HO64.out hol)
  have HLT := Lib.hid (fnT_len HR.out HO64.out hol HK.out HM12.out)
  clear hnb
  obtain ⟨z0, hz0⟩ : ∃ z, mkS (fmtRing k p n) = z := ⟨_, rfl⟩
  have HZ0 : Hid (z0.data.toList = fmtRing k p n) := Lib.hid (by rw [← hz0, mkS_list])
  have hs0 : z0.size ≤ 47 := by rw [bsize HZ0.out]; exact fmtRingN_len HR.out
  have HZE := Lib.hid hz0; clear hz0
  have hns0 : ¬ 9223372036854775807 < z0.size + 5 := by omega
  have hns0a : ¬ 9223372036854775807 < z0.size + 1 := by omega
  have hns0b : ¬ 9223372036854775807 < z0.size + 1 + 4 := by omega
  obtain ⟨q0_0, q0_1, q0_2, q0_3, q0_4, l0_⟩ := hH.c5 0 rfl
  go_wp2_with fail
  clear q0_0 q0_1 q0_2 q0_3 q0_4 l0_
  refine (formatRing_spec k p n _).mono ?_; rintro ewn3 wn3 ⟨rfl, hwn3⟩
  rw [HZE.out]
  replace hH : Held w wn3 [aB (w.heap.size) 29 [.int .i64 k, .int .i64 p, .int .i64 n, .slice aV m cV, .slice aO O.length cO]] := hH.grow hwn3
  clear hwn3
  obtain ⟨q0_0, q0_1, q0_2, q0_3, q0_4, l0_⟩ := hH.c5 0 rfl
  go_wp2_with fail
  clear q0_0 q0_1 q0_2 q0_3 q0_4 l0_
  go_loopw [3, 19] (fun q i wr => ∃ (j : Nat) (z : ByteArray), j ≤ O.length ∧ i = .int .i64 (j : Int) ∧ q = .string z ∧ Hid (z.data.toList = fnH k p n (O.take j)) ∧ Held w wr [aB (w.heap.size) 29 [.int .i64 k, .int .i64 p, .int .i64 n, .slice aV m cV, .slice aO O.length cO]]) (fun q i wr => O.length - (RowKit.intOf i).toNat)
  case atStart => exact ⟨0, _, Nat.zero_le _, rfl, rfl, Lib.hid (by simp only [append_bytes, HZ0.out, List.take_zero, fnH_nil, List.append_assoc]; try rfl), hH⟩
  case round =>
   clear hH hns0 hns0a hns0b
   obtain ⟨j, z, hj, rfl, rfl, HZ, hH⟩ := hrel
   obtain ⟨wq, rfl⟩ : ∃ q, q = wr := ⟨wr, rfl⟩
   have hzs : z.size ≤ 400 := by rw [bsize HZ.out]; exact HLH.out j
   by_cases hlt : j < O.length
   ·
    obtain ⟨bO, oO, x, rfl, hcO, hx, _⟩ := hO.get hlt
    have HX64 := Lib.hid (HO64.out x (List.mem_of_getElem? hx))
    obtain ⟨y, hy⟩ : ∃ y, mkS (itoa x) = y := ⟨_, rfl⟩
    have HY : Hid (y.data.toList = itoa x) := Lib.hid (by rw [← hy, mkS_list])
    have hys : y.size ≤ 20 := by rw [bsize HY.out]; exact (itoa_len HX64.out).2
    have HYE := Lib.hid hy
    have HSTEP : Hid (fnH k p n (O.take (j + 1)) = fnH k p n (O.take j) ++ 32 :: itoa x) := Lib.hid (fnH_step hx)
    clear hx hy
    have hns1 : ¬ 9223372036854775807 < 1 + y.size := by omega
    have hns2 : ¬ 9223372036854775807 < z.size + (1 + y.size) := by omega
    have hns3 : ¬ 9223372036854775807 < z.size + 1 := by omega
    have hns4 : ¬ 9223372036854775807 < z.size + 1 + y.size := by omega
    obtain ⟨q0_0, q0_1, q0_2, q0_3, q0_4, l0_⟩ := hH.c5 0 rfl; have c_hcO := hH.ext.cell hcO
    go_wp2_with fail
    clear q0_0 q0_1 q0_2 q0_3 q0_4 l0_ c_hcO
    refine (formatInt_spec x HX64.out _).mono ?_; rintro ewn4 wn4 ⟨rfl, hwn4⟩
    rw [HYE.out]
    replace hH : Held w wn4 [aB (w.heap.size) 29 [.int .i64 k, .int .i64 p, .int .i64 n, .slice aV m cV, .slice (some ⟨bO, oO, none⟩) O.length cO]] := hH.grow hwn4
    clear hwn4
    go_wp2_with fail
    go_roundw
    case rel => exact ⟨j + 1, _, by omega, by go_num, rfl, Lib.hid (by simp only [append_bytes, HZ.out, HY.out, HSTEP.out, List.append_assoc]; rfl), hH⟩
    case measure => simp [RowKit.intOf]; omega
   ·
    have hje : j = O.length := by omega
    have HZ1 : Hid (z.data.toList = fnH k p n O) := Lib.hid (by rw [HZ.out, hje, List.take_length])
    subst hje
    clear HZ hlt hj
    have hns5 : ¬ 9223372036854775807 < z.size + 1 := by omega
    obtain ⟨q0_0, q0_1, q0_2, q0_3, q0_4, l0_⟩ := hH.c5 0 rfl
    go_wp2_with fail
    clear q0_0 q0_1 q0_2 q0_3 q0_4 l0_
    go_loopw [3, 34] (fun q i wr => ∃ (j : Nat) (z : ByteArray), j ≤ m ∧ i = .int .i64 (j : Int) ∧ q = .string z ∧ Hid (z.data.toList = fnT k p n O (T.take j)) ∧ Held w wr [aB (w.heap.size) 29 [.int .i64 k, .int .i64 p, .int .i64 n, .slice aV m cV, .slice aO O.length cO]]) (fun q i wr => m - (RowKit.intOf i).toNat)
    case atStart => exact ⟨0, _, Nat.zero_le _, rfl, rfl, Lib.hid (by simp only [append_bytes, HZ1.out, List.take_zero, fnT_nil]; try rfl), hH⟩
    case round =>
     clear hH hns5 hzs HZ1
     obtain ⟨j, z, hj, rfl, rfl, HZ, hH⟩ := hrel
     obtain ⟨wt, rfl⟩ : ∃ q, q = wr := ⟨wr, rfl⟩
     have hzs : z.size ≤ 6262529 := by rw [bsize HZ.out]; exact HLT.out j
     by_cases hlt : j < m
     ·
      obtain ⟨bT, oT, u1, u2, u3, t3, hV, hu0, hu1, hu2, ht3, hTu⟩ := hT.get (i := j) (by rw [HM.out]; exact hlt)
      subst hV
      have HTK := Lib.hid (HK.out t3 (List.mem_of_getElem? ht3))
      have HSTEP : Hid (fnT k p n O (T.take (j + 1)) = fnT k p n O (T.take j) ++ (fmtTen k p n t3.1 t3.2.1 t3.2.2 ++ [10])) := Lib.hid (fnT_step ht3)
      clear ht3
      obtain ⟨tl, td, tx⟩ := t3
      obtain ⟨e1, m1, f1, e2, m2, f2, e3, m3, f3, hvv⟩ := hTu.shape
      simp at hvv
      obtain ⟨rfl, rfl, rfl⟩ := hvv
      rw [Nat.mul_comm 3 j] at hu0 hu1 hu2
      simp only at hTu HSTEP HTK
      obtain ⟨y, hy⟩ : ∃ y, mkS (fmtTen k p n tl td tx) = y := ⟨_, rfl⟩
      have HY : Hid (y.data.toList = fmtTen k p n tl td tx) := Lib.hid (by rw [← hy, mkS_list])
      have hys : y.size ≤ 521843 := by rw [bsize HY.out]; exact fmtTenN_len HTK.out
      have HYE := Lib.hid hy; clear hy
      have hns1 : ¬ 9223372036854775807 < y.size + 1 := by omega
      have hns2 : ¬ 9223372036854775807 < z.size + (y.size + 1) := by omega
      have hns3 : ¬ 9223372036854775807 < z.size + y.size := by omega
      have hns4 : ¬ 9223372036854775807 < z.size + y.size + 1 := by omega
      obtain ⟨q0_0, q0_1, q0_2, q0_3, q0_4, l0_⟩ := hH.c5 0 rfl; have c_hu0 := hH.ext.cell hu0; have c_hu1 := hH.ext.cell hu1; have c_hu2 := hH.ext.cell hu2
      go_upto_region 13 with fail
      clear q0_0 q0_1 q0_2 q0_3 q0_4 l0_ c_hu0 c_hu1 c_hu2
      have hB : Held w (wt.alloc (.cells #[.slice e1 m1 f1, .slice e2 m2 f2, .slice e3 m3 f3] 52)) [aB (w.heap.size) 29 [.int .i64 k, .int .i64 p, .int .i64 n, .slice (some ⟨bT, oT, none⟩) m cV, .slice aO O.length cO], aB (wt.heap.size) 52 [.slice e1 m1 f1, .slice e2 m2 f2, .slice e3 m3 f3]] := by
       have h := (hH.mores 1).addB 1 #[.slice e1 m1 f1, .slice e2 m2 f2, .slice e3 m3 f3] 52
       exact h
      have hsz : (wt.alloc (.cells #[.slice e1 m1 f1, .slice e2 m2 f2, .slice e3 m3 f3] 52)).heap.size = wt.heap.size + 1 := by simp
      generalize wt.alloc (.cells #[.slice e1 m1 f1, .slice e2 m2 f2, .slice e3 m3 f3] 52) = wn5 at hB hsz ⊢
      replace hH := hB; have HSZwn5 := Lib.hid hsz; clear hB hsz
      obtain ⟨q0_0, q0_1, q0_2, q0_3, q0_4, l0_⟩ := hH.c5 0 rfl; obtain ⟨q1_0, q1_1, q1_2, l1_⟩ := hH.c3 1 rfl; have c_hu0 := hH.ext.cell hu0; have c_hu1 := hH.ext.cell hu1; have c_hu2 := hH.ext.cell hu2
      go_wp2_with fail
      clear q0_0 q0_1 q0_2 q0_3 q0_4 l0_ q1_0 q1_1 q1_2 l1_ c_hu0 c_hu1 c_hu2
      refine (formatTensor_spec k p n _ tl td tx _ (hTu.ext hH.ext)).mono ?_; rintro ewn6 wn6 ⟨rfl, hwn6⟩
      rw [HYE.out]
      replace hH : Held w wn6 [aB (w.heap.size) 29 [.int .i64 k, .int .i64 p, .int .i64 n, .slice (some ⟨bT, oT, none⟩) m cV, .slice aO O.length cO], aB (wt.heap.size) 52 [.slice e1 m1 f1, .slice e2 m2 f2, .slice e3 m3 f3]] := hH.grow hwn6
      clear hwn6
      go_wp2_with fail
      go_roundw
      case rel => exact ⟨j + 1, _, by omega, by go_num, rfl, Lib.hid (by simp only [append_bytes, HZ.out, HY.out, HSTEP.out, List.append_assoc]), hH.sub (.cons_cons _ (.cons _ .slnil))⟩
      case measure => simp [RowKit.intOf]; omega
     ·
      have hje : j = m := by omega
      have HZ1 : Hid (z.data.toList = RES.data.toList) := Lib.hid (by rw [HZ.out, hje, ← HM.out, List.take_length, HRF.out])
      have HE := Lib.hid hH.ext
      subst hje
      go_wp2
      all_goals go_ret
      all_goals exact ⟨ret_str HZ1.out, HE.out⟩
end Go.Proofs.YtlgjddgajdjllaaGreatDoor
