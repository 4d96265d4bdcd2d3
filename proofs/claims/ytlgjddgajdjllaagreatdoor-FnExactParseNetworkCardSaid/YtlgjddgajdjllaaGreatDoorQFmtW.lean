/- FormatInt of the reference. -/
import Derived.Test.YtlgjddgajdjllaaGreatDoorQBase
set_option linter.unusedSimpArgs false
set_option linter.unusedVariables false
namespace Go.Proofs.YtlgjddgajdjllaaGreatDoor
open Go.RowKit
open Go.Lib
def mkS (l : List UInt8) : ByteArray := ⟨l.toArray⟩
theorem mkS_list (l : List UInt8) : (mkS l).data.toList = l := by simp [mkS]
theorem mkS_size (l : List UInt8) : (mkS l).size = l.length := by simp [mkS, ByteArray.size]
theorem mkS_of (s : ByteArray) : mkS s.data.toList = s := str_eq (by simp [mkS])
theorem ret_str {a b : ByteArray} (h : a.data.toList = b.data.toList) : Ending.returned (.string a) = .returned (.string b) := by rw [str_eq h]
theorem run_byte1 (c : Int) (h0 : 0 ≤ c) (h1 : c ≤ 255) (w : World) (b o : Nat) (hc : w.cell? ⟨b, o, none⟩ = some (.int .u8 c)) :
    (convert 22 9 (.slice (some ⟨b, o, none⟩) 1 1)).run Tryz.prog w = .ok (.string (mkS [UInt8.ofNat c.toNat])) w := by
  have h := run_convert_bytes_back (P := Tryz.prog) w 22 9 5 ⟨b, o, none⟩ 1 [UInt8.ofNat c.toNat] Tryz.underlying22 Tryz.underlying5 Tryz.underlying9 (fun j hj => by
    have hj0 : j = 0 := by simpa using hj
    subst hj0
    have e : ((⟨b, o, none⟩ : Addr).add 0) = ⟨b, o, none⟩ := by simp [Addr.add]
    rw [e, hc]
    simp
    omega)
  exact h
theorem run_byte1_at (c : Int) (d : UInt8) (hd : (d.toNat : Int) = c) (W : World) (T : TypeId) : ∃ z : ByteArray, z.data.toList = [d] ∧ z.size ≤ 1 ∧ (convert 22 9 (.slice (some ⟨W.heap.size, 0, none⟩) 1 1)).run Tryz.prog (W.alloc (.cells #[.int .u8 c] T)) = .ok (.string z) (W.alloc (.cells #[.int .u8 c] T)) := by
  have h := d.toNat_lt
  refine ⟨mkS [d], by simp [mkS], by rw [mkS_size]; exact Nat.le_refl _, ?_⟩
  have := run_byte1 c (by omega) (by omega) (W.alloc (.cells #[.int .u8 c] T)) W.heap.size 0 (by simp)
  have e : c.toNat = d.toNat := by omega
  rw [e, show UInt8.ofNat d.toNat = d by simp] at this
  exact this
theorem run_byte1_all (c : Int) (d : UInt8) (hd : (d.toNat : Int) = c) : ∃ z : ByteArray, z.data.toList = [d] ∧ z.size ≤ 1 ∧ ∀ (W : World) (b : Nat), W.cell? ⟨b, 0, none⟩ = some (.int .u8 c) → (convert 22 9 (.slice (some ⟨b, 0, none⟩) 1 1)).run Tryz.prog W = .ok (.string z) W := by
  have h := d.toNat_lt
  refine ⟨mkS [d], by simp [mkS], by rw [mkS_size]; exact Nat.le_refl _, fun W b hW => ?_⟩
  have := run_byte1 c (by omega) (by omega) W b 0 hW
  have e : c.toNat = d.toNat := by omega
  rw [e, show UInt8.ofNat d.toNat = d by simp] at this
  exact this
theorem u8n {n : Nat} (h : n < 256) : (UInt8.ofNat n).toNat = n := by
  simp; omega
theorem dec_one {m : Nat} (h : m ≤ 9) : decDigits m = [UInt8.ofNat (48 + m)] := decDigits_one (by omega)
theorem dec_more {m : Nat} (h : 9 < m) : decDigits m = decDigits (m / 10) ++ [UInt8.ofNat (48 + m % 10)] := by
  rw [decDigits, dif_neg (by omega)]
set_option maxRecDepth 100000 in
set_option maxHeartbeats 1000000 in
theorem formatInt_pos (u : Nat) (hu : u ≤ 9223372036854775807) (w : World) : Calls Tryz.prog 71 #[.int .i64 (u : Int)] w fun e w' => e = .returned (.string (mkS (decDigits u))) ∧ Ext w w' := by
 have hd := (dec_len (u := u) (by omega)).2
 have HD := Lib.hid hd; clear hd
 go_enter Tryz.func71, Tryz.ntmps71
 go_wp2
 go_loopw [0, 3] (fun q s wr => ∃ (m : Nat) (t : ByteArray), q = .int .i64 (m : Int) ∧ s = .string t ∧ m ≤ 9223372036854775807 ∧ t.size ≤ 19 ∧ decDigits u = decDigits m ++ t.data.toList ∧ Ext w wr) (fun q s wr => (RowKit.intOf q).toNat)
 case atStart => exact ⟨u, ⟨#[]⟩, rfl, rfl, hu, Nat.zero_le _, (List.append_nil _).symm, Ext.refl _⟩
 case round =>
  obtain ⟨m, t, rfl, rfl, hm, ht, hdd, hE⟩ := hrel
  have HDD := Lib.hid hdd; clear hdd
  by_cases h9 : 9 < m
  · obtain ⟨z, hz, hz1, hc⟩ := run_byte1_at (48 + (m : Int) % 10) (UInt8.ofNat (48 + m % 10)) (by rw [u8n (by omega)]; omega) wr 5
    have h9' : (9 : Int) < (m : Int) := by omega
    have hdm := dec_more h9
    have HDM := Lib.hid hdm; have HZ := Lib.hid hz
    clear hdm hz
    have hlen : (z ++ t).size ≤ 19 := by
     have := HD.out
     rw [HDD.out, HDM.out] at this
     simp only [List.length_append, List.length_cons, List.length_nil] at this
     have e : (z ++ t).size = (z ++ t).data.toList.length := Array.length_toList.symm
     rw [e, append_bytes, HZ.out]
     have := (dec_len (u := m / 10) (by omega)).1
     simp at *
     omega
    go_wp2
    go_roundw
    case rel => exact ⟨m / 10, z ++ t, by go_num, rfl, by omega, hlen, by rw [HDD.out, HDM.out, append_bytes, HZ.out]; simp, hE.trans ((Ext.refl _).alloc _)⟩
    case measure => simp [RowKit.intOf]; omega
  · have h9' : ¬ (9 : Int) < (m : Int) := by omega
    obtain ⟨z, hz, hz1, hc⟩ := run_byte1_at (48 + (m : Int)) (UInt8.ofNat (48 + m)) (by rw [u8n (by omega)]; omega) wr 5
    have HZ := Lib.hid hz
    clear hz
    go_wp2
    go_ret
    exact ⟨ret_str (by rw [append_bytes, HZ.out, mkS_list, HDD.out, dec_one (by omega)]), hE.trans ((Ext.refl _).alloc _)⟩
set_option maxRecDepth 100000 in
set_option maxHeartbeats 1000000 in
theorem formatInt_neg : ∀ (u : Nat), 1 ≤ u → u ≤ 9223372036854775808 → ∀ (w : World), Calls Tryz.prog 71 #[.int .i64 (-(u : Int))] w fun e w' => e = .returned (.string (mkS (45 :: decDigits u))) ∧ Ext w w' := by
 intro u
 induction u using Nat.strongRecOn with
 | _ u ih =>
  intro h1 h2 w
  obtain ⟨n, hn⟩ : ∃ n : Int, -(u : Int) = n := ⟨_, rfl⟩
  have hq : Int.tdiv n 10 = -((u / 10 : Nat) : Int) := by rw [← hn, Int.neg_tdiv, Int.tdiv_eq_ediv_of_nonneg (by omega)]; omega
  have hr : Int.tmod n 10 = -((u % 10 : Nat) : Int) := by rw [← hn, Int.neg_tmod, Int.tmod_eq_emod_of_nonneg (by omega)]; omega
  rw [hn]
  have hn0 : n < 0 := by omega
  have hn1 : -9223372036854775808 ≤ n := by omega
  obtain ⟨q, hqq⟩ : ∃ q : Int, -((u / 10 : Nat) : Int) = q := ⟨_, rfl⟩
  obtain ⟨r, hrr⟩ : ∃ r : Int, -((u % 10 : Nat) : Int) = r := ⟨_, rfl⟩
  rw [hqq] at hq
  rw [hrr] at hr
  have q0 : q ≤ 0 := by omega
  have q1 : -922337203685477581 ≤ q := by omega
  have r0 : r ≤ 0 := by omega
  have r1 : -9 ≤ r := by omega
  by_cases h9 : u ≤ 9
  · have hq0 : (q == 0) = true := by rw [beq_iff_eq]; omega
    obtain ⟨z, hz, hz1, hc⟩ := run_byte1_at (48 - n) (UInt8.ofNat (48 + u)) (by rw [u8n (by omega)]; omega) w 5
    have hn9 : -9 ≤ n := by omega
    have HZ := Lib.hid hz; have HU := Lib.hid (dec_one h9); have HN := Lib.hid hn; have HQ := Lib.hid hqq; have HR := Lib.hid hrr
    clear hz hn hqq hrr ih
    go_enter Tryz.func71, Tryz.ntmps71
    go_wp2
    go_ret
    exact ⟨ret_str (by rw [append_bytes, HZ.out, mkS_list, HU.out]; rfl), (Ext.refl _).alloc _⟩
  · have hq0 : (q == 0) = false := by rw [beq_eq_false_iff_ne]; omega
    have hih : ∀ w : World, Calls Tryz.prog 71 #[.int .i64 q] w fun e w' => ∃ y : ByteArray, e = .returned (.string y) ∧ y.data.toList = 45 :: decDigits (u / 10) ∧ y.size ≤ 20 ∧ Ext w w' := fun w => by
     have := ih (u / 10) (by omega) (by omega) (by omega) w
     rw [hqq] at this
     refine this.mono fun e w' ⟨he, hw⟩ => ⟨_, he, mkS_list _, ?_, hw⟩
     have := (dec_len (u := u / 10) (by omega)).2
     rw [mkS_size, List.length_cons]; omega
    have HZ := Lib.hid (dec_more (by omega : 9 < u))
    obtain ⟨z, hz, hz1, hc⟩ := run_byte1_all (48 - r) (UInt8.ofNat (48 + u % 10)) (by rw [u8n (by omega)]; omega)
    have q1' : IntKind.i64.wrap q = q := by rw [IntKind.wrap_i64]; omega
    have q2' : IntKind.i64.wrap (48 - r) = 48 - r := by rw [IntKind.wrap_i64]; omega
    have q3' : IntKind.u8.wrap (48 - r) = 48 - r := by rw [IntKind.wrap_u8]; omega
    have HN := Lib.hid hn; have HQ := Lib.hid hqq; have HR := Lib.hid hrr; have HIH := Lib.hid hih; have HZZ := Lib.hid hz
    clear hn hqq hrr ih hih hz
    go_enter Tryz.func71, Tryz.ntmps71
    go_wp2_with fail
    go_region_law (first | (go_simp; go_at_call 71; (with_reducible refine (HIH.out _).mono ?_); rintro e1 w1 ⟨y, rfl, hy, hy1, h1⟩; have HY := Lib.hid hy; clear hy; have h1c := h1.cells; have hns : ¬ 9223372036854775807 < y.size + z.size := (by omega); have E1 : Ext w w1 := (by repeat' (first | (with_reducible first | exact Ext.refl _ | assumption | apply Ext.alloc | apply Ext.drew | apply Ext.drewN) | (refine Ext.setAt ?_ (by omega) _ _) | (refine Ext.trans ?_ (by assumption))))))
    all_goals
     go_wp2
     go_ret
     exact ⟨ret_str (by rw [append_bytes, HY.out, HZZ.out, mkS_list, HZ.out]; rfl), (by repeat' (first | (with_reducible first | exact Ext.refl _ | assumption | apply Ext.alloc | apply Ext.drew | apply Ext.drewN) | (refine Ext.setAt ?_ (by omega) _ _) | (refine Ext.trans ?_ (by assumption))))⟩
theorem formatInt_spec (n : Int) (h : isI64 n) (w : World) : Calls Tryz.prog 71 #[.int .i64 n] w fun e w' => e = .returned (.string (mkS (itoa n))) ∧ Ext w w' := by
  obtain ⟨h0, h1⟩ := h
  by_cases c : n < 0
  · have := formatInt_neg n.natAbs (by omega) (by omega) w
    rw [show -(n.natAbs : Int) = n by omega] at this
    rw [itoa_neg c]; exact this
  · have := formatInt_pos n.toNat (by omega) w
    rw [show (n.toNat : Int) = n by omega] at this
    rw [itoa_nonneg (by omega)]; exact this
end Go.Proofs.YtlgjddgajdjllaaGreatDoor
