/- cappedProduct, openAxes, NetworkValue of the program. -/
import Derived.Test.YtpegckmagiaggaaTNetW
import Derived.Test.YtpegckmagiaggaaTContrW
set_option linter.unusedSimpArgs false
set_option linter.unusedVariables false
namespace Go.Proofs.Ytpegckmagiaggaa
open Go.RowKit
theorem prodL_take_step {D : List Int} {j : Nat} {d : Int} (h : D[j]? = some d) : prodL (D.take (j + 1)) = prodL (D.take j) * d := by
  rw [take_snoc' h, prodL_append]
  simp [prodL]
theorem prodL_take_le {D : List Int} (hd : ∀ d ∈ D, 1 ≤ d ∧ d ≤ 8) (j : Nat) : 1 ≤ prodL (D.take j) ∧ prodL (D.take j) ≤ prodL D := by
  have h1 := prodL_pos (D := D.take j) fun x hx => hd x (List.mem_of_mem_take hx)
  have h2 := prodL_pos (D := D.drop j) fun x hx => hd x (List.mem_of_mem_drop hx)
  have h3 : prodL (D.take j) * prodL (D.drop j) = prodL D := by rw [← prodL_append, List.take_append_drop]
  have h4 : prodL (D.take j) * 1 ≤ prodL (D.take j) * prodL (D.drop j) := Int.mul_le_mul_of_nonneg_left h2 (by omega)
  omega
set_option maxHeartbeats 2000000 in
theorem cappedProduct_any (v : Value) (D : List Int) (c : Int) (w : World) (hD : IntS w v D) (hd : ∀ d ∈ D, 1 ≤ d ∧ d ≤ 8) (hp : prodL D ≤ 4096) (hc : 4096 ≤ c) (hc2 : c ≤ 1099511627776) : Calls Try.prog 105 #[v, .int .i64 c] w fun e w' =>
 e = .returned (.int .i64 (prodL D)) ∧ Ext w w' := by
 obtain ⟨aD, cD, rfl, hcD1, hcD2⟩ := hD.val
 obtain ⟨P, hP⟩ : ∃ P, prodL D = P := ⟨_, rfl⟩
 rw [hP] at hp ⊢
 have HP := Lib.hid hP; have HDD := Lib.hid hd; clear hP hd
 go_enter Try.func105, Try.ntmps105
 go_wp2_with fail
 go_loopw [5, 10] (fun q i wr => ∃ (j : Nat) (z : Int), j ≤ D.length ∧ i = .int .i64 (j : Int) ∧ q = .int .i64 z ∧ 1 ≤ z ∧ z ≤ P ∧ Hid (prodL (D.take j) = z) ∧ Ext w wr) (fun q i wr => D.length - (RowKit.intOf i).toNat)
 case atStart => exact ⟨0, 1, Nat.zero_le _, rfl, rfl, by omega, by have := (prodL_take_le HDD.out 0).2; rw [HP.out, List.take_zero] at this; exact this, Lib.hid rfl, Ext.refl w⟩
 case round =>
  obtain ⟨j, z, hj, rfl, rfl, hz0, hz1, HZ, hE⟩ := hrel
  by_cases hlt : j < D.length
  · obtain ⟨bD, oD, d, rfl, hc0, hx, _⟩ := hD.get hlt
    have hcd := hE.cell hc0
    have hst := prodL_take_step hx
    rw [HZ.out] at hst
    have hle := (prodL_take_le HDD.out (j + 1))
    rw [HP.out, hst] at hle
    have HST := Lib.hid hst
    obtain ⟨z2, hz2⟩ : ∃ z2, z * d = z2 := ⟨_, rfl⟩
    rw [hz2] at hle HST
    have hwr : IntKind.i64.wrap z2 = z2 := by rw [IntKind.wrap_i64]; omega
    have hmin : min z2 c = z2 := Int.min_eq_left (by omega)
    have hn1 : z2 ≤ c := by omega
    have hn2 : ¬ c < z2 := by omega
    obtain ⟨hle1, hle2⟩ := hle
    clear hst hx hc0
    go_wp2_with fail
    go_roundw
    case rel => exact ⟨j + 1, z2, by omega, by go_num, by first | rfl | go_num, hle1, hle2, HST, hE⟩
    case measure => simp [RowKit.intOf]; omega
  · have hje : j = D.length := by omega
    subst hje
    have h := HZ.out
    rw [List.take_length, HP.out] at h
    have HE := Lib.hid h; clear h
    go_wp2
    go_ret
    exact ⟨by rw [HE.out]; rfl, hE⟩
end Go.Proofs.Ytpegckmagiaggaa
