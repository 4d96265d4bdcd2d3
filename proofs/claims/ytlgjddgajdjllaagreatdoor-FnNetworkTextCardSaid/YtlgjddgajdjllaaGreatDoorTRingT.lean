/- Rings as text. -/
import Derived.Test.YtlgjddgajdjllaaGreatDoorTItoaW
set_option linter.unusedSimpArgs false
set_option linter.unusedVariables false
namespace Go.Proofs.YtlgjddgajdjllaaGreatDoor
open Go.RowKit
open Go.Lib
def nameL (k : Int) : List UInt8 :=
  if k = 1 then [98, 111, 111, 108] else if k = 2 then [109, 111, 100] else if k = 3 then [99, 97, 112] else if k = 4 then [109, 105, 110]
  else if k = 5 then [119, 105, 100, 101] else if k = 6 then [115, 101, 116] else if k = 7 then [112, 111, 108, 121] else if k = 8 then [111, 109, 101, 103, 97] else []
def numT (p : Int) : List UInt8 := if p = 0 then [] else 32 :: itoa p
def fmtRing (k p n : Int) : List UInt8 := if ringOk k p n = true then nameL k ++ numT p ++ numT n else []
theorem fmtRing_no {k p n : Int} (h : ringOk k p n = false) : fmtRing k p n = [] := by simp [fmtRing, h]
theorem fmtRing_yes {k p n : Int} (h : ringOk k p n = true) : fmtRing k p n = nameL k ++ numT p ++ numT n := by simp [fmtRing, h]
theorem numT_zero : numT 0 = [] := rfl
theorem numT_some {p : Int} (h : ¬ p = 0) : numT p = 32 :: itoa p := by simp [numT, h]
theorem ringOk_kind {k p n : Int} (h : ringOk k p n = true) : 1 ≤ k ∧ k ≤ 8 := by
  rcases kinds k with rfl | rfl | rfl | rfl | rfl | rfl | rfl | rfl | ⟨e1, e2, e3, e4, e5, e6, e7, e8⟩
  any_goals omega
  simp [ringOk, e1, e2, e3, e4, e5, e6, e7, e8] at h
theorem ringOk_small {k p n : Int} (h : ringOk k p n = true) : (0 ≤ p ∧ p ≤ 1000003) ∧ (0 ≤ n ∧ n ≤ 20) := by
  rcases kinds k with rfl | rfl | rfl | rfl | rfl | rfl | rfl | rfl | ⟨e1, e2, e3, e4, e5, e6, e7, e8⟩
  · simp [ringOk] at h; omega
  · simp [ringOk] at h; have := isPrime_ge h.1; have := isPrime_le h.1; omega
  · simp [ringOk] at h; omega
  · simp [ringOk] at h; omega
  · simp [ringOk] at h; omega
  · simp [ringOk] at h; omega
  · simp [ringOk] at h; have := isPrime_ge h.1.1; have := isPrime_le h.1.1; omega
  · simp [ringOk] at h; have := isPrime_ge h.1.1; have := isPrime_le h.1.1; omega
  · simp [ringOk, e1, e2, e3, e4, e5, e6, e7, e8] at h
theorem nameL_len (k : Int) : (nameL k).length ≤ 5 := by
  rcases kinds k with rfl | rfl | rfl | rfl | rfl | rfl | rfl | rfl | ⟨e1, e2, e3, e4, e5, e6, e7, e8⟩
  any_goals decide
  simp [nameL, e1, e2, e3, e4, e5, e6, e7, e8]
set_option maxHeartbeats 2000000 in
theorem ringName_any (k : Int) (w : World) : Calls Tryz.prog 55 #[.int .i64 k] w fun e w' => e = .returned (.string (mkS (nameL k))) ∧ w = w' := by
 rcases kinds k with rfl | rfl | rfl | rfl | rfl | rfl | rfl | rfl | ⟨e1, e2, e3, e4, e5, e6, e7, e8⟩
 any_goals
  go_enter Tryz.func55, Tryz.ntmps55
  go_wp2
  go_ret
  exact ⟨rfl, rfl⟩
 have hk : nameL k = [] := by simp [nameL, e1, e2, e3, e4, e5, e6, e7, e8]
 have b1 : (k == 1) = false := by rw [beq_eq_false_iff_ne]; exact e1
 have b2 : (k == 2) = false := by rw [beq_eq_false_iff_ne]; exact e2
 have b3 : (k == 3) = false := by rw [beq_eq_false_iff_ne]; exact e3
 have b4 : (k == 4) = false := by rw [beq_eq_false_iff_ne]; exact e4
 have b5 : (k == 5) = false := by rw [beq_eq_false_iff_ne]; exact e5
 have b6 : (k == 6) = false := by rw [beq_eq_false_iff_ne]; exact e6
 have b7 : (k == 7) = false := by rw [beq_eq_false_iff_ne]; exact e7
 have b8 : (k == 8) = false := by rw [beq_eq_false_iff_ne]; exact e8
 have HK := Lib.hid hk
 clear hk e1 e2 e3 e4 e5 e6 e7 e8
 go_enter Tryz.func55, Tryz.ntmps55
 go_wp2
 go_ret
 exact ⟨ret_str (by rw [mkS_list, HK.out]), rfl⟩
set_option maxRecDepth 100000 in
set_option maxHeartbeats 2000000 in
theorem formatRing_impl (k p n : Int) (w : World) (hT : Tab w) : Calls Tryz.prog 23 #[ringV k p n] w fun e w' => e = .returned (.string (mkS (fmtRing k p n))) ∧ Ext w w' := by
 cases hr : ringOk k p n
 · have HZ := Lib.hid (fmtRing_no hr)
   go_enter Tryz.func23, Tryz.ntmps23
   go_wp2_with fail
   refine (ringOk_impl _ _ _ _).mono ?_; rintro e1 w1 ⟨rfl, h1⟩; rw [hr]
   go_wp2
   go_ret
   exact ⟨ret_str (by rw [mkS_list, HZ.out]), (by repeat' (first | (with_reducible first | exact Ext.refl _ | assumption | apply Ext.alloc | apply Ext.drew | apply Ext.drewN) | (refine Ext.setAt ?_ (by omega) _ _) | (refine Ext.trans ?_ (by assumption))))⟩
 obtain ⟨⟨p0, p1⟩, n0, n1⟩ := ringOk_small hr
 have I1 : Hid (isI64 p) := Lib.hid ⟨by omega, by omega⟩
 have I2 : Hid (isI64 n) := Lib.hid ⟨by omega, by omega⟩
 have RES := Lib.hid (fmtRing_yes hr)
 have HR := Lib.hid hr
 obtain ⟨z, hz⟩ : ∃ z, mkS (nameL k) = z := ⟨_, rfl⟩
 have HZ : Hid (z.data.toList = nameL k) := Lib.hid (by rw [← hz, mkS_list])
 have hzs : z.size ≤ 5 := by rw [← hz, mkS_size]; exact nameL_len k
 obtain ⟨y, hy⟩ : ∃ y, mkS (itoa p) = y := ⟨_, rfl⟩
 have HY : Hid (y.data.toList = itoa p) := Lib.hid (by rw [← hy, mkS_list])
 have hys : y.size ≤ 20 := by rw [← hy, mkS_size]; exact (itoa_len I1.out).2
 obtain ⟨x, hx⟩ : ∃ x, mkS (itoa n) = x := ⟨_, rfl⟩
 have HX : Hid (x.data.toList = itoa n) := Lib.hid (by rw [← hx, mkS_list])
 have hxs : x.size ≤ 20 := by rw [← hx, mkS_size]; exact (itoa_len I2.out).2
 have HN0 := Lib.hid hz; have HP0 := Lib.hid hy; have HQ0 := Lib.hid hx
 clear hz hy hx hr
 by_cases hp : p = 0
 · have bp : (p != 0) = false := by rw [bne_eq_false_iff_eq]; exact hp
   have HPz : Hid (numT p = []) := Lib.hid (by rw [hp]; rfl)
   clear hp
   by_cases hn : n = 0
   · have bn : (n != 0) = false := by rw [bne_eq_false_iff_eq]; exact hn
     have HNz : Hid (numT n = []) := Lib.hid (by rw [hn]; rfl)
     clear hn
     go_enter Tryz.func23, Tryz.ntmps23
     go_wp2_with fail
     refine (ringOk_impl _ _ _ _).mono ?_; rintro e1 w1 ⟨rfl, h1⟩; rw [HR.out]; have s1 := h1.size; (try simp at s1); have t1_0 : w.heap.size < w1.heap.size := (by omega); have c1_0 := fun o => h1.cells (w.heap.size) o (by first | (simp; done) | (simp; omega) | omega)
     go_wp2_with fail
     refine (ringName_any k _).mono ?_; rintro e2 u2 ⟨rfl, rfl⟩; rw [HN0.out]
     go_wp2
     go_ret
     refine ⟨ret_str ?_, (by repeat' (first | (with_reducible first | exact Ext.refl _ | assumption | apply Ext.alloc | apply Ext.drew | apply Ext.drewN) | (refine Ext.setAt ?_ (by omega) _ _) | (refine Ext.trans ?_ (by assumption))))⟩
     simp only [append_bytes, mkS_list]
     rw [RES.out, HPz.out, HNz.out]
     simp only [HZ.out, List.append_assoc, List.append_nil, List.cons_append, List.nil_append]
   · have bn : (n != 0) = true := by rw [bne_iff_ne]; exact hn
     have HNn := Lib.hid hn
     clear hn
     go_enter Tryz.func23, Tryz.ntmps23
     go_wp2_with fail
     refine (ringOk_impl _ _ _ _).mono ?_; rintro e1 w1 ⟨rfl, h1⟩; rw [HR.out]; have s1 := h1.size; (try simp at s1); have t1_0 : w.heap.size < w1.heap.size := (by omega); have c1_0 := fun o => h1.cells (w.heap.size) o (by first | (simp; done) | (simp; omega) | omega)
     go_wp2_with fail
     refine (ringName_any k _).mono ?_; rintro e2 u2 ⟨rfl, rfl⟩; rw [HN0.out]
     go_wp2_with fail
     refine (formatInt_impl n I2.out _ (hT.ext (by repeat' (first | (with_reducible first | exact Ext.refl _ | assumption | apply Ext.alloc | apply Ext.drew | apply Ext.drewN) | (refine Ext.setAt ?_ (by omega) _ _) | (refine Ext.trans ?_ (by assumption)))))).mono ?_; rintro e4 w4 ⟨rfl, h4⟩; rw [HQ0.out]
     go_wp2
     go_ret
     refine ⟨ret_str ?_, (by repeat' (first | (with_reducible first | exact Ext.refl _ | assumption | apply Ext.alloc | apply Ext.drew | apply Ext.drewN) | (refine Ext.setAt ?_ (by omega) _ _) | (refine Ext.trans ?_ (by assumption))))⟩
     simp only [append_bytes, mkS_list]
     rw [RES.out, HPz.out, numT_some HNn.out]
     simp only [HZ.out, HX.out, List.append_assoc, List.append_nil, List.cons_append, List.nil_append]
 · have bp : (p != 0) = true := by rw [bne_iff_ne]; exact hp
   have HPn := Lib.hid hp
   clear hp
   by_cases hn : n = 0
   · have bn : (n != 0) = false := by rw [bne_eq_false_iff_eq]; exact hn
     have HNz : Hid (numT n = []) := Lib.hid (by rw [hn]; rfl)
     clear hn
     go_enter Tryz.func23, Tryz.ntmps23
     go_wp2_with fail
     refine (ringOk_impl _ _ _ _).mono ?_; rintro e1 w1 ⟨rfl, h1⟩; rw [HR.out]; have s1 := h1.size; (try simp at s1); have t1_0 : w.heap.size < w1.heap.size := (by omega); have c1_0 := fun o => h1.cells (w.heap.size) o (by first | (simp; done) | (simp; omega) | omega)
     go_wp2_with fail
     refine (ringName_any k _).mono ?_; rintro e2 u2 ⟨rfl, rfl⟩; rw [HN0.out]
     go_wp2_with fail
     refine (formatInt_impl p I1.out _ (hT.ext (by repeat' (first | (with_reducible first | exact Ext.refl _ | assumption | apply Ext.alloc | apply Ext.drew | apply Ext.drewN) | (refine Ext.setAt ?_ (by omega) _ _) | (refine Ext.trans ?_ (by assumption)))))).mono ?_; rintro e3 w3 ⟨rfl, h3⟩; have s3 := h3.size; (try simp at s3); have t3_0 : w.heap.size < w3.heap.size := (by omega); have c3_0 := fun o => h3.cells (w.heap.size) o (by first | (simp; done) | (simp; omega) | omega); rw [HP0.out]
     go_wp2
     go_ret
     refine ⟨ret_str ?_, (by repeat' (first | (with_reducible first | exact Ext.refl _ | assumption | apply Ext.alloc | apply Ext.drew | apply Ext.drewN) | (refine Ext.setAt ?_ (by omega) _ _) | (refine Ext.trans ?_ (by assumption))))⟩
     simp only [append_bytes, mkS_list]
     rw [RES.out, numT_some HPn.out, HNz.out]
     simp only [HZ.out, HY.out, List.append_assoc, List.append_nil, List.cons_append, List.nil_append]
   · have bn : (n != 0) = true := by rw [bne_iff_ne]; exact hn
     have HNn := Lib.hid hn
     clear hn
     go_enter Tryz.func23, Tryz.ntmps23
     go_wp2_with fail
     refine (ringOk_impl _ _ _ _).mono ?_; rintro e1 w1 ⟨rfl, h1⟩; rw [HR.out]; have s1 := h1.size; (try simp at s1); have t1_0 : w.heap.size < w1.heap.size := (by omega); have c1_0 := fun o => h1.cells (w.heap.size) o (by first | (simp; done) | (simp; omega) | omega)
     go_wp2_with fail
     refine (ringName_any k _).mono ?_; rintro e2 u2 ⟨rfl, rfl⟩; rw [HN0.out]
     go_wp2_with fail
     refine (formatInt_impl p I1.out _ (hT.ext (by repeat' (first | (with_reducible first | exact Ext.refl _ | assumption | apply Ext.alloc | apply Ext.drew | apply Ext.drewN) | (refine Ext.setAt ?_ (by omega) _ _) | (refine Ext.trans ?_ (by assumption)))))).mono ?_; rintro e3 w3 ⟨rfl, h3⟩; have s3 := h3.size; (try simp at s3); have t3_0 : w.heap.size < w3.heap.size := (by omega); have c3_0 := fun o => h3.cells (w.heap.size) o (by first | (simp; done) | (simp; omega) | omega); rw [HP0.out]
     go_wp2_with fail
     refine (formatInt_impl n I2.out _ (hT.ext (by repeat' (first | (with_reducible first | exact Ext.refl _ | assumption | apply Ext.alloc | apply Ext.drew | apply Ext.drewN) | (refine Ext.setAt ?_ (by omega) _ _) | (refine Ext.trans ?_ (by assumption)))))).mono ?_; rintro e4 w4 ⟨rfl, h4⟩; rw [HQ0.out]
     go_wp2
     go_ret
     refine ⟨ret_str ?_, (by repeat' (first | (with_reducible first | exact Ext.refl _ | assumption | apply Ext.alloc | apply Ext.drew | apply Ext.drewN) | (refine Ext.setAt ?_ (by omega) _ _) | (refine Ext.trans ?_ (by assumption))))⟩
     simp only [append_bytes, mkS_list]
     rw [RES.out, numT_some HPn.out, numT_some HNn.out]
     simp only [HZ.out, HY.out, HX.out, List.append_assoc, List.append_nil, List.cons_append, List.nil_append]
end Go.Proofs.YtlgjddgajdjllaaGreatDoor
