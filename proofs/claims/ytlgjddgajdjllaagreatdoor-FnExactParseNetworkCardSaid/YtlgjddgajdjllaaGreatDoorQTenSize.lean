/- TensorSize of the program and of the reference. -/
import Derived.Test.YtlgjddgajdjllaaGreatDoorQHomA
set_option linter.unusedSimpArgs false
set_option linter.unusedVariables false
namespace Go.Proofs.YtlgjddgajdjllaaGreatDoor
open Go.RowKit
def hasL (l : List Int) (x : Int) : Bool := l.any (fun y => x == y)
theorem hasL_cons (y : Int) (l : List Int) (x : Int) : hasL (y :: l) x = ((x == y) || hasL l x) := rfl
def findGo (x : Int) (i : Int) : List Int → Int
  | [] => -1
  | y :: t => if y = x then i else findGo x (i + 1) t
def findL (l : List Int) (x : Int) : Int := findGo x 0 l
theorem findGo_has (x : Int) : ∀ (l : List Int) (i : Int), 0 ≤ i → (hasL l x = true → i ≤ findGo x i l ∧ findGo x i l < i + l.length) ∧ (hasL l x = false → findGo x i l = -1)
  | [], i, hi => ⟨fun h => by simp [hasL] at h, fun _ => rfl⟩
  | y :: t, i, hi => by
    have ih := findGo_has x t (i + 1) (by omega)
    rw [hasL_cons, findGo]
    by_cases e : y = x
    · subst e
      rw [if_pos rfl]
      exact ⟨fun _ => by simp; omega, fun h => by simp at h⟩
    · have e2 : (x == y) = false := by rw [beq_eq_false_iff_ne]; exact fun h => e h.symm
      rw [if_neg e, e2, Bool.false_or, List.length_cons]
      exact ⟨fun h => by have := ih.1 h; omega, ih.2⟩
theorem findL_neg {l : List Int} {x : Int} (h : hasL l x = false) : findL l x = -1 := (findGo_has x l 0 (by omega)).2 h
theorem findL_pos {l : List Int} {x : Int} (h : hasL l x = true) : 0 ≤ findL l x ∧ findL l x < l.length := by
  have := (findGo_has x l 0 (by omega)).1 h
  unfold findL; omega
def tsGo (pre : List Int) (s : Int) : List Int → List Int → Int
  | l :: L, d :: D => if l < 0 ∨ 99 < l ∨ hasL pre l = true then -1 else if d < 1 ∨ 8 < d ∨ 4096 < s * d then -1 else tsGo (pre ++ [l]) (s * d) L D
  | _, _ => s
def tsize (L D : List Int) : Int := if 12 < L.length ∨ L.length ≠ D.length then -1 else tsGo [] 1 L D
theorem tsGo_bad1 {pre : List Int} {s l d : Int} {L D : List Int} (h : l < 0 ∨ 99 < l ∨ hasL pre l = true) : tsGo pre s (l :: L) (d :: D) = -1 := by rw [tsGo, if_pos h]
theorem tsGo_bad2 {pre : List Int} {s l d : Int} {L D : List Int} (h : d < 1 ∨ 8 < d ∨ 4096 < s * d) : tsGo pre s (l :: L) (d :: D) = -1 := by
  rw [tsGo]
  by_cases c : l < 0 ∨ 99 < l ∨ hasL pre l = true
  · rw [if_pos c]
  · rw [if_neg c, if_pos h]
theorem tsGo_good {pre : List Int} {s l d : Int} {L D : List Int} (h : ¬ (l < 0 ∨ 99 < l ∨ hasL pre l = true)) (h2 : ¬ (d < 1 ∨ 8 < d ∨ 4096 < s * d)) : tsGo pre s (l :: L) (d :: D) = tsGo (pre ++ [l]) (s * d) L D := by rw [tsGo, if_neg h, if_neg h2]
def axesGo (pre : List Int) : List Int → List Int → Bool
  | l :: L, d :: D => decide (0 ≤ l) && decide (l ≤ 99) && (decide (1 ≤ d) && decide (d ≤ 8)) && !hasL pre l && axesGo (pre ++ [l]) L D
  | _, _ => true
def axesOk (L D : List Int) : Bool := !decide (12 < L.length ∨ L.length ≠ D.length) && axesGo [] L D
theorem axesGo_dims : ∀ {L D pre : List Int}, L.length = D.length → axesGo pre L D = true → ∀ d ∈ D, 1 ≤ d ∧ d ≤ 8
  | [], [], _, _, _ => by simp
  | l :: L, d :: D, pre, hl, h => by
    simp [axesGo] at h
    intro x hx
    rcases List.mem_cons.1 hx with rfl | hx
    · exact ⟨h.1.1.2.1, h.1.1.2.2⟩
    · exact axesGo_dims (by simpa using hl) h.2 x hx
theorem axesOk_dims {L D : List Int} (h : axesOk L D = true) : L.length = D.length ∧ L.length ≤ 12 ∧ ∀ d ∈ D, 1 ≤ d ∧ d ≤ 8 := by
  simp [axesOk] at h
  exact ⟨h.1.2, h.1.1, axesGo_dims h.1.2 h.2⟩
def capGo (lim : Int) : Int → List Int → Int
  | n, [] => n
  | n, d :: D => capGo lim (min (n * d) (lim + 1)) D
theorem capGo_top {lim : Int} (hl : 0 ≤ lim) : ∀ {D : List Int}, (∀ d ∈ D, 1 ≤ d ∧ d ≤ 8) → capGo lim (lim + 1) D = lim + 1
  | [], _ => rfl
  | d :: D, h => by
    have hd := h d (by simp)
    have : (lim + 1) * 1 ≤ (lim + 1) * d := Int.mul_le_mul_of_nonneg_left hd.1 (by omega)
    rw [capGo, Int.min_eq_right (by omega)]
    exact capGo_top hl fun x hx => h x (by simp [hx])
theorem tsGo_axes : ∀ {L D pre : List Int} {s : Int}, L.length = D.length → 1 ≤ s → s ≤ 4096 →
    tsGo pre s L D = if axesGo pre L D = true then (if 4096 < capGo 4096 s D then -1 else capGo 4096 s D) else -1
  | [], [], pre, s, _, h1, h2 => by
    have : ¬ 4096 < s := by omega
    simp [tsGo, axesGo, capGo, this]
  | l :: L, d :: D, pre, s, hl, h1, h2 => by
    by_cases b1 : l < 0 ∨ 99 < l ∨ hasL pre l = true
    · have : axesGo pre (l :: L) (d :: D) = false := by
        simp only [axesGo]
        rcases b1 with b | b | b
        · have : decide (0 ≤ l) = false := by simp; omega
          simp [this]
        · have : decide (l ≤ 99) = false := by simp; omega
          simp [this]
        · simp [b]
      rw [tsGo_bad1 b1, this]; rfl
    by_cases b2 : d < 1 ∨ 8 < d
    · have : axesGo pre (l :: L) (d :: D) = false := by
        simp only [axesGo]
        rcases b2 with b | b
        · have : decide (1 ≤ d) = false := by simp; omega
          simp [this]
        · have : decide (d ≤ 8) = false := by simp; omega
          simp [this]
      rw [tsGo_bad2 (by omega), this]; rfl
    have e : axesGo pre (l :: L) (d :: D) = axesGo (pre ++ [l]) L D := by
      have p1 : decide (0 ≤ l) = true := by simp; omega
      have p2 : decide (l ≤ 99) = true := by simp; omega
      have p3 : decide (1 ≤ d) = true := by simp; omega
      have p4 : decide (d ≤ 8) = true := by simp; omega
      have p5 : hasL pre l = false := by cases hh : hasL pre l; rfl; exact absurd (.inr (.inr hh)) b1
      simp only [axesGo, p1, p2, p3, p4, p5, Bool.and_self, Bool.not_false, Bool.true_and]
    rw [e]
    by_cases b3 : 4096 < s * d
    · rw [tsGo_bad2 (.inr (.inr b3)), capGo, Int.min_eq_right (by omega)]
      cases ha : axesGo (pre ++ [l]) L D
      · rfl
      · rw [capGo_top (by omega) (axesGo_dims (by simpa using hl) ha)]; rfl
    · have : s * 1 ≤ s * d := Int.mul_le_mul_of_nonneg_left (by omega) (by omega)
      rw [tsGo_good b1 (by omega), tsGo_axes (by simpa using hl) (by omega) (by omega), capGo, Int.min_eq_left (by omega)]
theorem tsize_axes (L D : List Int) : tsize L D = if axesOk L D = true then (if 4096 < capGo 4096 1 D then -1 else capGo 4096 1 D) else -1 := by
  unfold tsize axesOk
  by_cases h : 12 < L.length ∨ L.length ≠ D.length
  · rw [if_pos h]; simp [h]
  · have hl : L.length = D.length := by omega
    rw [if_neg h, tsGo_axes hl (by omega) (by omega)]
    have : decide (12 < L.length ∨ L.length ≠ D.length) = false := by simpa using h
    rw [this]; simp
theorem hasInt_any (v : Value) (l : List Int) (x : Int) (w : World) (hl : IntS w v l) : Calls Tryz.prog 67 #[v, .int .i64 x] w fun e w' =>
 e = .returned (.bool (hasL l x)) ∧ w = w' := by
 obtain ⟨a, cap, rfl, hc1, hc2⟩ := hl.val
 go_enter Tryz.func67, Tryz.ntmps67
 go_wp2
 go_loop [9] (fun i => ∃ j : Nat, j ≤ l.length ∧ i = .int .i64 j ∧ hasL (l.drop j) x = hasL l x) (fun i => l.length - (RowKit.intOf i).toNat)
 case atStart => exact ⟨0, Nat.zero_le _, rfl, rfl⟩
 case round =>
  obtain ⟨j, hj, rfl, hq⟩ := hrel
  by_cases hlt : j < l.length
  · obtain ⟨b, off, y, rfl, hcell, _, hd⟩ := hl.get hlt
    rw [hd, hasL_cons] at hq
    have HQ := Lib.hid hq; clear hq hd
    by_cases e : x = y
    · subst e
      go_wp2
      go_ret
      exact ⟨ret_bool (by rw [← HQ.out]; simp), rfl⟩
    · have e2 : (x == y) = false := by rw [beq_eq_false_iff_ne]; exact e
      go_wp2
      go_round
      case rel => exact ⟨j + 1, by omega, by go_num, by rw [← HQ.out, e2]; rfl⟩
      case measure => simp [RowKit.intOf]; omega
  · have : j = l.length := by omega
    subst this
    have HQ := Lib.hid hq; clear hq
    go_wp2
    go_ret
    exact ⟨ret_bool (by rw [← HQ.out, drop_len]; rfl), rfl⟩
theorem l05Find_any (v : Value) (l : List Int) (x : Int) (w : World) (hl : IntS w v l) : Calls Tryz.prog 99 #[v, .int .i64 x] w fun e w' =>
 e = .returned (.int .i64 (findL l x)) ∧ w = w' := by
 obtain ⟨a, cap, rfl, hc1, hc2⟩ := hl.val
 go_enter Tryz.func99, Tryz.ntmps99
 go_wp2
 go_loop [9] (fun i => ∃ j : Nat, j ≤ l.length ∧ i = .int .i64 j ∧ findGo x j (l.drop j) = findL l x) (fun i => l.length - (RowKit.intOf i).toNat)
 case atStart => exact ⟨0, Nat.zero_le _, rfl, rfl⟩
 case round =>
  obtain ⟨j, hj, rfl, hq⟩ := hrel
  by_cases hlt : j < l.length
  · obtain ⟨b, off, y, rfl, hcell, _, hd⟩ := hl.get hlt
    rw [hd, findGo] at hq
    have HQ := Lib.hid hq; clear hq hd
    by_cases e : y = x
    · subst e
      go_wp2
      go_ret
      exact ⟨ret_int (by rw [← HQ.out]; simp), rfl⟩
    · have e2 : (y == x) = false := by rw [beq_eq_false_iff_ne]; exact e
      go_wp2
      go_round
      case rel => exact ⟨j + 1, by omega, by go_num, by rw [← HQ.out, if_neg e]; rfl⟩
      case measure => simp [RowKit.intOf]; omega
  · have : j = l.length := by omega
    subst this
    have HQ := Lib.hid hq; clear hq
    go_wp2
    go_ret
    exact ⟨ret_int (by rw [← HQ.out, drop_len]; rfl), rfl⟩
theorem l05Product_any (v : Value) (D : List Int) (lim : Int) (w : World) (hl : IntS w v D) (hd : ∀ d ∈ D, 1 ≤ d ∧ d ≤ 8) (h0 : 0 ≤ lim) (h1 : lim ≤ 1048576) : Calls Tryz.prog 93 #[v, .int .i64 lim] w fun e w' =>
 e = .returned (.int .i64 (capGo lim 1 D)) ∧ w = w' := by
 obtain ⟨a, cap, rfl, hc1, hc2⟩ := hl.val
 have HD := Lib.hid hd; clear hd
 go_enter Tryz.func93, Tryz.ntmps93
 go_wp2
 go_loop [5, 10] (fun q i => ∃ (j : Nat) (n : Int), j ≤ D.length ∧ i = .int .i64 j ∧ q = .int .i64 n ∧ 1 ≤ n ∧ n ≤ 1048577 ∧ capGo lim n (D.drop j) = capGo lim 1 D) (fun _ i => D.length - (RowKit.intOf i).toNat)
 case atStart => exact ⟨0, 1, Nat.zero_le _, rfl, rfl, by omega, by omega, rfl⟩
 case round =>
  obtain ⟨j, n, hj, rfl, rfl, hn0, hn1, hq⟩ := hrel
  by_cases hlt : j < D.length
  · obtain ⟨b, off, y, rfl, hcell, hy, hd⟩ := hl.get hlt
    obtain ⟨y0, y1⟩ := HD.out y (List.mem_of_getElem? hy)
    rw [hd, capGo] at hq
    have HQ := Lib.hid hq; clear hq hd hy
    have p0 : n * 1 ≤ n * y := Int.mul_le_mul_of_nonneg_left y0 (by omega)
    have p1 : n * y ≤ n * 8 := Int.mul_le_mul_of_nonneg_left y1 (by omega)
    go_wp2
    all_goals
     go_round
     case rel => exact ⟨j + 1, _, by omega, by go_num, rfl, by omega, by omega, by rw [← HQ.out] <;> (first | (congr 1; done) | (congr 1; omega))⟩
     case measure => simp [RowKit.intOf]; omega
  · have : j = D.length := by omega
    subst this
    have HQ := Lib.hid hq; clear hq
    go_wp2
    go_ret
    exact ⟨ret_int (by rw [← HQ.out, drop_len]; rfl), rfl⟩
set_option maxHeartbeats 1000000 in
theorem tensorSize_impl (v : Value) (L D X : List Int) (w : World) (hv : TenS w v L D X) : Calls Tryz.prog 31 #[v] w fun e w' =>
 e = .returned (.int .i64 (tsize L D)) ∧ Ext w w' := by
 obtain ⟨a, b, c, rfl, h1, h2, h3⟩ := hv.val
 obtain ⟨a1, n1, rfl, hc1, hd1⟩ := h1.val
 obtain ⟨a2, n2, rfl, hc2, hd2⟩ := h2.val
 obtain ⟨a3, n3, rfl, hc3, hd3⟩ := h3.val
 by_cases z1 : 12 < L.length
 · have HT : Hid (tsize L D = -1) := Lib.hid (by simp [tsize, z1])
   go_enter Tryz.func31, Tryz.ntmps31
   go_wp2
   go_ret
   exact ⟨ret_int HT.out.symm, (by repeat' (first | (with_reducible first | exact Ext.refl _ | assumption | apply Ext.alloc | apply Ext.drew | apply Ext.drewN) | (refine Ext.setAt ?_ (by omega) _ _) | (refine Ext.trans ?_ (by assumption))))⟩
 by_cases z2 : ¬ L.length = D.length
 · have HT : Hid (tsize L D = -1) := Lib.hid (by simp [tsize, z2])
   have hne : ((L.length : Int) == (D.length : Int)) = false := by rw [beq_eq_false_iff_ne]; omega
   have hne2 : ((L.length : Int) != (D.length : Int)) = true := by rw [bne_iff_ne]; omega
   go_enter Tryz.func31, Tryz.ntmps31
   go_wp2
   go_ret
   exact ⟨ret_int HT.out.symm, (by repeat' (first | (with_reducible first | exact Ext.refl _ | assumption | apply Ext.alloc | apply Ext.drew | apply Ext.drewN) | (refine Ext.setAt ?_ (by omega) _ _) | (refine Ext.trans ?_ (by assumption))))⟩
 have z2 := Decidable.not_not.1 z2
 have HT : Hid (tsize L D = tsGo [] 1 L D) := Lib.hid (by unfold tsize; rw [if_neg (by omega)])
 have HZ := Lib.hid z2
 have hl12 : L.length ≤ 12 := by omega
 have hll : ((L.length : Int) != (D.length : Int)) = false := by rw [bne_eq_false_iff_eq]; omega
 clear z2
 go_enter Tryz.func31, Tryz.ntmps31
 go_wp2
 go_loop [3, 23] (fun q i => ∃ (j : Nat) (s : Int), j ≤ L.length ∧ i = .int .i64 j ∧ q = .int .i64 s ∧ 1 ≤ s ∧ s ≤ 4096 ∧ tsGo (L.take j) s (L.drop j) (D.drop j) = tsGo [] 1 L D) (fun _ i => L.length - (RowKit.intOf i).toNat)
 case atStart => exact ⟨0, 1, Nat.zero_le _, rfl, rfl, by omega, by omega, rfl⟩
 case round =>
  obtain ⟨j, s, hj, rfl, rfl, hs0, hs1, hq⟩ := hrel
  by_cases hlt : j < L.length
  · have hlt2 : j < D.length := by have := HZ.out; omega
    obtain ⟨b1, f1, l, rfl, hx1, _, e1⟩ := h1.get hlt
    obtain ⟨b2, f2, d, rfl, hx2, _, e2⟩ := h2.get hlt2
    have htk := h1.take (k := j) (by omega)
    have htake : L.take (j + 1) = L.take j ++ [l] := by
     have := List.drop_eq_getElem_cons hlt
     rw [e1] at this
     injection this with p1 p2
     rw [List.take_succ_eq_append_getElem hlt, ← p1]
    rw [e1, e2] at hq
    have HQ := Lib.hid hq
    have HTK := Lib.hid htake
    clear hq e1 e2 htake
    have l1 := World.block_lt_of_cell? w _ hx1
    have l2 := World.block_lt_of_cell? w _ hx2
    have hjc : j ≤ n1 := by omega
    by_cases b1 : l < 0
    · rw [tsGo_bad1 (.inl b1)] at HQ
      go_wp2
      go_ret
      exact ⟨ret_int (by rw [HT.out, ← HQ.out]), (by repeat' (first | (with_reducible first | exact Ext.refl _ | assumption | apply Ext.alloc | apply Ext.drew | apply Ext.drewN) | (refine Ext.setAt ?_ (by omega) _ _) | (refine Ext.trans ?_ (by assumption))))⟩
    by_cases b2 : 99 < l
    · rw [tsGo_bad1 (.inr (.inl b2))] at HQ
      go_wp2
      go_ret
      exact ⟨ret_int (by rw [HT.out, ← HQ.out]), (by repeat' (first | (with_reducible first | exact Ext.refl _ | assumption | apply Ext.alloc | apply Ext.drew | apply Ext.drewN) | (refine Ext.setAt ?_ (by omega) _ _) | (refine Ext.trans ?_ (by assumption))))⟩
    by_cases b3 : hasL (L.take j) l = true
    · rw [tsGo_bad1 (.inr (.inr b3))] at HQ
      go_wp2_with (go_at_call 67; refine (hasInt_any _ (L.take j) l _ (htk.ext (by repeat' (first | (with_reducible first | exact Ext.refl _ | assumption | apply Ext.alloc | apply Ext.drew | apply Ext.drewN) | (refine Ext.setAt ?_ (by omega) _ _) | (refine Ext.trans ?_ (by assumption)))))).mono ?_; rintro e w' ⟨rfl, rfl⟩)
      go_ret
      exact ⟨ret_int (by rw [HT.out, ← HQ.out]), (by repeat' (first | (with_reducible first | exact Ext.refl _ | assumption | apply Ext.alloc | apply Ext.drew | apply Ext.drewN) | (refine Ext.setAt ?_ (by omega) _ _) | (refine Ext.trans ?_ (by assumption))))⟩
    have b3 : hasL (L.take j) l = false := by simpa using b3
    by_cases c1 : d < 1
    · rw [tsGo_bad2 (.inl c1)] at HQ
      go_wp2_with (go_at_call 67; refine (hasInt_any _ (L.take j) l _ (htk.ext (by repeat' (first | (with_reducible first | exact Ext.refl _ | assumption | apply Ext.alloc | apply Ext.drew | apply Ext.drewN) | (refine Ext.setAt ?_ (by omega) _ _) | (refine Ext.trans ?_ (by assumption)))))).mono ?_; rintro e w' ⟨rfl, rfl⟩)
      go_ret
      exact ⟨ret_int (by rw [HT.out, ← HQ.out]), (by repeat' (first | (with_reducible first | exact Ext.refl _ | assumption | apply Ext.alloc | apply Ext.drew | apply Ext.drewN) | (refine Ext.setAt ?_ (by omega) _ _) | (refine Ext.trans ?_ (by assumption))))⟩
    by_cases c2 : 8 < d
    · rw [tsGo_bad2 (.inr (.inl c2))] at HQ
      go_wp2_with (go_at_call 67; refine (hasInt_any _ (L.take j) l _ (htk.ext (by repeat' (first | (with_reducible first | exact Ext.refl _ | assumption | apply Ext.alloc | apply Ext.drew | apply Ext.drewN) | (refine Ext.setAt ?_ (by omega) _ _) | (refine Ext.trans ?_ (by assumption)))))).mono ?_; rintro e w' ⟨rfl, rfl⟩)
      go_ret
      exact ⟨ret_int (by rw [HT.out, ← HQ.out]), (by repeat' (first | (with_reducible first | exact Ext.refl _ | assumption | apply Ext.alloc | apply Ext.drew | apply Ext.drewN) | (refine Ext.setAt ?_ (by omega) _ _) | (refine Ext.trans ?_ (by assumption))))⟩
    have p0 : s * 1 ≤ s * d := Int.mul_le_mul_of_nonneg_left (by omega) (by omega)
    have p1 : s * d ≤ s * 8 := Int.mul_le_mul_of_nonneg_left (by omega) (by omega)
    by_cases c3 : 4096 < s * d
    · rw [tsGo_bad2 (.inr (.inr c3))] at HQ
      go_wp2_with (go_at_call 67; refine (hasInt_any _ (L.take j) l _ (htk.ext (by repeat' (first | (with_reducible first | exact Ext.refl _ | assumption | apply Ext.alloc | apply Ext.drew | apply Ext.drewN) | (refine Ext.setAt ?_ (by omega) _ _) | (refine Ext.trans ?_ (by assumption)))))).mono ?_; rintro e w' ⟨rfl, rfl⟩)
      go_ret
      exact ⟨ret_int (by rw [HT.out, ← HQ.out]), (by repeat' (first | (with_reducible first | exact Ext.refl _ | assumption | apply Ext.alloc | apply Ext.drew | apply Ext.drewN) | (refine Ext.setAt ?_ (by omega) _ _) | (refine Ext.trans ?_ (by assumption))))⟩
    · rw [tsGo_good (by rintro (h | h | h) <;> first | omega | (rw [b3] at h; cases h)) (by omega)] at HQ
      go_wp2_with (go_at_call 67; refine (hasInt_any _ (L.take j) l _ (htk.ext (by repeat' (first | (with_reducible first | exact Ext.refl _ | assumption | apply Ext.alloc | apply Ext.drew | apply Ext.drewN) | (refine Ext.setAt ?_ (by omega) _ _) | (refine Ext.trans ?_ (by assumption)))))).mono ?_; rintro e w' ⟨rfl, rfl⟩)
      go_round
      case rel => exact ⟨j + 1, s * d, by omega, by go_num, rfl, by omega, by omega, by rw [HTK.out]; exact HQ.out⟩
      case measure => simp [RowKit.intOf]; omega
  · have : j = L.length := by omega
    subst this
    have HQ := Lib.hid hq; clear hq
    go_wp2
    go_ret
    exact ⟨ret_int (by rw [HT.out, ← HQ.out, drop_len, tsGo]; simp), (by repeat' (first | (with_reducible first | exact Ext.refl _ | assumption | apply Ext.alloc | apply Ext.drew | apply Ext.drewN) | (refine Ext.setAt ?_ (by omega) _ _) | (refine Ext.trans ?_ (by assumption))))⟩
set_option maxHeartbeats 1000000 in
theorem l05Axes_any (v u : Value) (L D : List Int) (w : World) (h1 : IntS w v L) (h2 : IntS w u D) : Calls Tryz.prog 116 #[v, u] w fun e w' =>
 e = .returned (.bool (axesOk L D)) ∧ w = w' := by
 obtain ⟨a1, n1, rfl, hc1, hd1⟩ := h1.val
 obtain ⟨a2, n2, rfl, hc2, hd2⟩ := h2.val
 by_cases z1 : 12 < L.length
 · have HT : Hid (axesOk L D = false) := Lib.hid (by simp [axesOk, z1])
   go_enter Tryz.func116, Tryz.ntmps116
   go_wp2
   go_ret
   exact ⟨ret_bool HT.out.symm, rfl⟩
 by_cases z2 : ¬ L.length = D.length
 · have HT : Hid (axesOk L D = false) := Lib.hid (by simp [axesOk, z2])
   have hne : ((L.length : Int) == (D.length : Int)) = false := by rw [beq_eq_false_iff_ne]; omega
   have hne2 : ((L.length : Int) != (D.length : Int)) = true := by rw [bne_iff_ne]; omega
   go_enter Tryz.func116, Tryz.ntmps116
   go_wp2
   go_ret
   exact ⟨ret_bool HT.out.symm, rfl⟩
 have z2 := Decidable.not_not.1 z2
 have HT : Hid (axesOk L D = axesGo [] L D) := Lib.hid (by unfold axesOk; rw [show decide (12 < L.length ∨ L.length ≠ D.length) = false by simp; omega]; simp)
 have HZ := Lib.hid z2
 have hl12 : L.length ≤ 12 := by omega
 have hll : ((L.length : Int) != (D.length : Int)) = false := by rw [bne_eq_false_iff_eq]; omega
 clear z2
 go_enter Tryz.func116, Tryz.ntmps116
 go_wp2
 go_loop [19] (fun i => ∃ j : Nat, j ≤ L.length ∧ i = .int .i64 j ∧ axesGo (L.take j) (L.drop j) (D.drop j) = axesGo [] L D) (fun i => L.length - (RowKit.intOf i).toNat)
 case atStart => exact ⟨0, Nat.zero_le _, rfl, rfl⟩
 case round =>
  obtain ⟨j, hj, rfl, hq⟩ := hrel
  by_cases hlt : j < L.length
  · have hlt2 : j < D.length := by have := HZ.out; omega
    obtain ⟨b1, f1, l, rfl, hx1, _, e1⟩ := h1.get hlt
    obtain ⟨b2, f2, d, rfl, hx2, _, e2⟩ := h2.get hlt2
    have htk := h1.take (k := j) (by omega)
    have htake : L.take (j + 1) = L.take j ++ [l] := by
     have := List.drop_eq_getElem_cons hlt
     rw [e1] at this
     injection this with p1 p2
     rw [List.take_succ_eq_append_getElem hlt, ← p1]
    rw [e1, e2, axesGo] at hq
    have HQ := Lib.hid hq
    have HTK := Lib.hid htake
    clear hq e1 e2 htake
    have hjc : j ≤ n1 := by omega
    cases b1 : (decide (0 ≤ l) && decide (l ≤ 99))
    · go_wp2_with (go_at_call 70; refine (in_any _ _ _ _).mono ?_; rintro e w' ⟨rfl, rfl⟩; (try rw [b1]))
      go_ret
      exact ⟨ret_bool (by rw [HT.out, ← HQ.out, b1]; rfl), rfl⟩
    cases b2 : (decide (1 ≤ d) && decide (d ≤ 8))
    · go_wp2_with (go_at_call 70; refine (in_any _ _ _ _).mono ?_; rintro e w' ⟨rfl, rfl⟩; (first | rw [b1] | rw [b2]))
      go_ret
      exact ⟨ret_bool (by rw [HT.out, ← HQ.out, b1, b2]; rfl), rfl⟩
    cases b3 : hasL (L.take j) l
    · have hf := findL_neg b3
      have HF := Lib.hid hf; clear hf
      go_wp2_with (first | (go_at_call 70; refine (in_any _ _ _ _).mono ?_; rintro e w' ⟨rfl, rfl⟩; (first | rw [b1] | rw [b2])) | (go_at_call 99; refine (l05Find_any _ (L.take j) l _ htk).mono ?_; rintro e w' ⟨rfl, rfl⟩; rw [HF.out]))
      go_round
      case rel => exact ⟨j + 1, by omega, by go_num, by rw [HTK.out, ← HQ.out, b1, b2, b3]; rfl⟩
      case measure => simp [RowKit.intOf]; omega
    · obtain ⟨f0, f1⟩ := findL_pos b3
      go_wp2_with (first | (go_at_call 70; refine (in_any _ _ _ _).mono ?_; rintro e w' ⟨rfl, rfl⟩; (first | rw [b1] | rw [b2])) | (go_at_call 99; refine (l05Find_any _ (L.take j) l _ htk).mono ?_; rintro e w' ⟨rfl, rfl⟩))
      go_ret
      exact ⟨ret_bool (by rw [HT.out, ← HQ.out, b3]; simp), rfl⟩
  · have : j = L.length := by omega
    subst this
    have HQ := Lib.hid hq; clear hq
    go_wp2
    go_ret
    exact ⟨ret_bool (by rw [HT.out, ← HQ.out, drop_len, axesGo]; simp), rfl⟩
set_option maxRecDepth 100000 in
theorem tensorSize_spec (v : Value) (L D X : List Int) (w : World) (hv : TenS w v L D X) : Calls Tryz.prog 97 #[v] w fun e w' =>
 e = .returned (.int .i64 (tsize L D)) ∧ Ext w w' := by
 obtain ⟨a, b, c, rfl, h1, h2, h3⟩ := hv.val
 obtain ⟨a1, n1, rfl, hc1, hd1⟩ := h1.val
 obtain ⟨a2, n2, rfl, hc2, hd2⟩ := h2.val
 obtain ⟨a3, n3, rfl, hc3, hd3⟩ := h3.val
 rw [tsize_axes]
 cases ha : axesOk L D
 · go_enter Tryz.func97, Tryz.ntmps97
   go_wp2_with (go_at_call 116; refine (l05Axes_any _ _ L D _ (h1.ext (by repeat' (first | (with_reducible first | exact Ext.refl _ | assumption | apply Ext.alloc | apply Ext.drew | apply Ext.drewN) | (refine Ext.setAt ?_ (by omega) _ _) | (refine Ext.trans ?_ (by assumption))))) (h2.ext (by repeat' (first | (with_reducible first | exact Ext.refl _ | assumption | apply Ext.alloc | apply Ext.drew | apply Ext.drewN) | (refine Ext.setAt ?_ (by omega) _ _) | (refine Ext.trans ?_ (by assumption)))))).mono ?_; rintro e w' ⟨rfl, rfl⟩; rw [ha])
   go_ret
   exact ⟨ret_int rfl, (by repeat' (first | (with_reducible first | exact Ext.refl _ | assumption | apply Ext.alloc | apply Ext.drew | apply Ext.drewN) | (refine Ext.setAt ?_ (by omega) _ _) | (refine Ext.trans ?_ (by assumption))))⟩
 · have hd := (axesOk_dims ha).2.2
   have HD := Lib.hid hd; clear hd
   have hc : 4096 < capGo 4096 1 D ∨ ¬ 4096 < capGo 4096 1 D := by omega
   generalize hg : capGo 4096 1 D = c at hc ⊢
   have HG := Lib.hid hg; clear hg
   rcases hc with hb | hb
   all_goals
    go_enter Tryz.func97, Tryz.ntmps97
    go_wp2_with fail
    refine (l05Axes_any _ _ L D _ (h1.ext (by repeat' (first | (with_reducible first | exact Ext.refl _ | assumption | apply Ext.alloc | apply Ext.drew | apply Ext.drewN) | (refine Ext.setAt ?_ (by omega) _ _) | (refine Ext.trans ?_ (by assumption))))) (h2.ext (by repeat' (first | (with_reducible first | exact Ext.refl _ | assumption | apply Ext.alloc | apply Ext.drew | apply Ext.drewN) | (refine Ext.setAt ?_ (by omega) _ _) | (refine Ext.trans ?_ (by assumption)))))).mono ?_; rintro e w' ⟨rfl, rfl⟩; rw [ha]
    go_wp2_with fail
    refine (l05Product_any _ D 4096 _ (h2.ext (by repeat' (first | (with_reducible first | exact Ext.refl _ | assumption | apply Ext.alloc | apply Ext.drew | apply Ext.drewN) | (refine Ext.setAt ?_ (by omega) _ _) | (refine Ext.trans ?_ (by assumption))))) HD.out (by omega) (by omega)).mono ?_; rintro e w' ⟨rfl, rfl⟩; rw [HG.out]
    go_wp2
    go_ret
    exact ⟨ret_int (by simp [hb]), (by repeat' (first | (with_reducible first | exact Ext.refl _ | assumption | apply Ext.alloc | apply Ext.drew | apply Ext.drewN) | (refine Ext.setAt ?_ (by omega) _ _) | (refine Ext.trans ?_ (by assumption))))⟩
end Go.Proofs.YtlgjddgajdjllaaGreatDoor
