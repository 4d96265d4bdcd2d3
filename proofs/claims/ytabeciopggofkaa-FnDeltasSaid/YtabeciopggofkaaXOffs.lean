/- Offsets of indices. -/
import Derived.Test.YtabeciopggofkaaXBase
import Derived.Test.YtabeciopggofkaaXFillT
namespace Go.Proofs.Ytabeciopggofkaa
open Go.RowKit
set_option linter.unusedSimpArgs false
set_option linter.unusedVariables false

/-- The offset of an index, from n on. -/
def offGo (n : Int) : List Int → List Int → Int
  | d :: D, i :: I => offGo (n * d + i) D I
  | _, _ => n
def offL (D I : List Int) : Int := offGo 0 D I
/-- The index fits. -/
def idxOk : List Int → List Int → Bool
  | d :: D, i :: I => (decide (0 ≤ i) && decide (i < d)) && idxOk D I
  | [], [] => true
  | _, _ => false
theorem idxOk_len : ∀ {D I : List Int}, idxOk D I = true → D.length = I.length
  | [], [], _ => rfl
  | d :: D, i :: I, h => by
    simp [idxOk] at h
    simp [idxOk_len h.2]
  | [], i :: I, h => by simp [idxOk] at h
  | d :: D, [], h => by simp [idxOk] at h
theorem idxOk_cons {d i : Int} {D I : List Int} (h : idxOk (d :: D) (i :: I) = true) : 0 ≤ i ∧ i < d ∧ idxOk D I = true := by
  simp [idxOk] at h; exact ⟨h.1.1, h.1.2, h.2⟩
theorem off_step {n d i P : Int} (hn : 0 ≤ n) (hi : 0 ≤ i) (hd : i < d) (hP : 1 ≤ P) : 0 ≤ n * d + i ∧ (n * d + i + 1) * P ≤ (n + 1) * (d * P) ∧ n * (d * P) ≤ (n * d + i) * P := by
  have h0 : 0 ≤ n * d := Int.mul_nonneg hn (by omega)
  refine ⟨by omega, ?_, ?_⟩
  · have e : (n + 1) * (d * P) = (n * d + d) * P := by rw [← Int.mul_assoc, Int.add_mul, Int.one_mul]
    rw [e]
    exact Int.mul_le_mul_of_nonneg_right (by omega) (by omega)
  · rw [← Int.mul_assoc]
    exact Int.mul_le_mul_of_nonneg_right (by omega) (by omega)
theorem offGo_bounds : ∀ {D I : List Int} {n : Int}, idxOk D I = true → (∀ d ∈ D, 1 ≤ d ∧ d ≤ 8) → 0 ≤ n → n * prodL D ≤ offGo n D I ∧ offGo n D I + 1 ≤ (n + 1) * prodL D
  | [], [], n, _, _, h0 => by simp [offGo, prodL]
  | d :: D, i :: I, n, h, hd, h0 => by
    obtain ⟨h1, h2, h3⟩ := idxOk_cons h
    have hD : ∀ d ∈ D, 1 ≤ d ∧ d ≤ 8 := fun x hx => hd x (by simp [hx])
    obtain ⟨s0, s1, s2⟩ := off_step h0 h1 h2 (prodL_pos hD)
    obtain ⟨k1, k2⟩ := offGo_bounds h3 hD s0
    rw [offGo, prodL_cons]
    omega
  | [], i :: I, n, h, _, _ => by simp [idxOk] at h
  | d :: D, [], n, h, _, _ => by simp [idxOk] at h
theorem offL_bounds {D I : List Int} (h : idxOk D I = true) (hd : ∀ d ∈ D, 1 ≤ d ∧ d ≤ 8) : 0 ≤ offL D I ∧ offL D I < prodL D := by
  have := offGo_bounds (n := 0) h hd (Int.le_refl 0)
  unfold offL
  omega

theorem offsetIn_any (vD vI : Value) (D I : List Int) (w : World) (hl : IntS w vD D) (hi : IntS w vI I) (hok : idxOk D I = true) (hd : ∀ d ∈ D, 1 ≤ d ∧ d ≤ 8) (hp : prodL D ≤ 4096) : Calls Try.prog 80 #[vD, vI] w fun e w' =>
    e = .returned (.int .i64 (offL D I)) ∧ w = w' := by
  obtain ⟨a, cap, rfl, hc1, hc2⟩ := hl.val
  obtain ⟨a2, cap2, rfl, hc3, hc4⟩ := hi.val
  have hlen := idxOk_len hok
  have HD := Lib.hid hd
  have HP := Lib.hid hp
  have HK := Lib.hid hok
  clear hd hp hok
  have HL := Lib.hid hlen
  go_enter Try.func80, Try.ntmps80
  clear hlen
  go_wp2
  go_loop [5, 10] (fun q i => ∃ (j : Nat) (n : Int), j ≤ I.length ∧ i = .int .i64 j ∧ q = .int .i64 n ∧ 0 ≤ n ∧ (n + 1) * prodL (D.drop j) ≤ 4096 ∧ idxOk (D.drop j) (I.drop j) = true ∧ offGo n (D.drop j) (I.drop j) = offL D I) (fun _ i => I.length - (RowKit.intOf i).toNat)
  case atStart => exact ⟨0, 0, Nat.zero_le _, rfl, rfl, by omega, by rw [List.drop_zero, Int.zero_add, Int.one_mul]; exact HP.out, HK.out, rfl⟩
  case round =>
    obtain ⟨j, n, hj, rfl, rfl, hn0, hq, hok, hoff⟩ := hrel
    have HO := Lib.hid hoff; clear hoff
    have HQ := Lib.hid hq; clear hq
    have HI := Lib.hid hok; clear hok
    by_cases hlt : j < I.length
    · obtain ⟨b, off, y, rfl, hcell, hy, hdr⟩ := hi.get hlt
      obtain ⟨b2, off2, z, rfl, hcell2, hz, hdr2⟩ := hl.get (i := j) (by have := HL.out; omega)
      have hh := HI.out
      rw [hdr, hdr2] at hh
      obtain ⟨h1, h2, h3⟩ := idxOk_cons hh
      obtain ⟨y0, y1⟩ := HD.out z (List.mem_of_getElem? hz)
      have p1 := prodL_pos (D := D.drop (j + 1)) fun x hx => HD.out x (List.mem_of_mem_drop hx)
      obtain ⟨s0, s1, s2⟩ := off_step hn0 h1 h2 p1
      have hq := HQ.out
      rw [hdr2, prodL_cons] at hq
      have ho := HO.out
      rw [hdr, hdr2, offGo] at ho
      have p2 : (n * z + y + 1) * 1 ≤ (n * z + y + 1) * prodL (D.drop (j + 1)) := Int.mul_le_mul_of_nonneg_left p1 (by omega)
      have p3 : n * z + y ≤ 4096 := by omega
      have p4 : 0 ≤ n * z := Int.mul_nonneg hn0 (by omega)
      have p5 : (n * z + y + 1) * prodL (D.drop (j + 1)) ≤ 4096 := by omega
      have H5 := Lib.hid p5; have H3 := Lib.hid h3; have H6 := Lib.hid ho
      clear hh hq ho hdr hdr2 s1 s2 p1 p2 hy hz p5 h3
      have hjl : j < D.length := by have := HL.out; omega
      go_wp2
      go_round
      case rel => exact ⟨j + 1, _, by omega, by go_num, rfl, by omega, H5.out, H3.out, H6.out⟩
      case measure => simp [RowKit.intOf]; omega
    · have : j = I.length := by omega
      subst this
      go_wp2
      go_ret
      exact ⟨ret_int (by rw [← HO.out, drop_len, show D.drop I.length = [] by rw [← HL.out]; exact drop_len _]; rfl), rfl⟩
end Go.Proofs.Ytabeciopggofkaa
