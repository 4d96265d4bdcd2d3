/- The laws' marks on slices of strings. -/
import Derived.Test.YtpimpahmhipifaaDoorStrsP
import Derived.Test.YtpimpahmhipifaaDoorFmtW
namespace Go.Proofs.YtpimpahmhipifaaDoor
open Go.RowKit
set_option linter.unusedSimpArgs false
set_option linter.unusedVariables false
open Go.Lib

/-- The mark of a number. -/
def markL (k : Nat) : List UInt8 := 109 :: decDigits k
theorem markL_len {k : Nat} (h : k ≤ 9223372036854775807) : (markL k).length ≤ 20 := by
  have := (dec_len (u := k) (by omega)).2
  rw [markL, List.length_cons]; omega
set_option maxRecDepth 100000 in
set_option maxHeartbeats 1000000 in
theorem markText_any (u : Nat) (hu : u ≤ 9223372036854775807) (w : World) : Calls Tryd.prog 48 #[.int .i64 (u : Int)] w fun e w' => e = .returned (.string (mkS (markL u))) ∧ Ext w w' := by
  by_cases h0 : u = 0
  · subst h0
    go_enter Tryd.func48, Tryd.ntmps48
    go_wp2
    go_ret
    exact ⟨ret_str (by rw [mkS_list, markL, dec_one (by omega)]; rfl), Ext.refl _⟩
  have hd := (dec_len (u := u) (by omega)).2
  have HD := Lib.hid hd; clear hd
  have h0' : ¬ (u : Int) ≤ 0 := by omega
  go_enter Tryd.func48, Tryd.ntmps48
  go_wp2
  go_loopw [0, 3] (fun q s wr => ∃ (m : Nat) (t : ByteArray), q = .int .i64 (m : Int) ∧ s = .string t ∧ m ≤ 9223372036854775807 ∧ t.size ≤ 19 ∧ ((0 < m ∧ decDigits u = decDigits m ++ t.data.toList) ∨ (m = 0 ∧ decDigits u = t.data.toList)) ∧ Ext w wr) (fun q s wr => (intOf q).toNat)
  case atStart => exact ⟨u, ⟨#[]⟩, rfl, rfl, hu, Nat.zero_le _, .inl ⟨by omega, (List.append_nil _).symm⟩, Ext.refl _⟩
  case round =>
    obtain ⟨m, t, rfl, rfl, hm, ht, hdd, hE⟩ := hrel
    by_cases h9 : 0 < m
    · have hdd : decDigits u = decDigits m ++ t.data.toList := by rcases hdd with ⟨_, h⟩ | ⟨h, _⟩; exact h; omega
      obtain ⟨z, hz, hz1, hc⟩ := run_byte1_at (48 + (m : Int) % 10) (UInt8.ofNat (48 + m % 10)) (by rw [u8n (by omega)]; omega) wr 5
      have h9' : (0 : Int) < (m : Int) := by omega
      have hdm : (9 < m ∧ decDigits m = decDigits (m / 10) ++ [UInt8.ofNat (48 + m % 10)]) ∨ (m ≤ 9 ∧ decDigits m = [UInt8.ofNat (48 + m % 10)]) := by
        by_cases c : 9 < m
        · exact .inl ⟨c, dec_more c⟩
        · refine .inr ⟨by omega, ?_⟩
          rw [dec_one (by omega), Nat.mod_eq_of_lt (by omega)]
      have HDD := Lib.hid hdd; have HDM := Lib.hid hdm; have HZ := Lib.hid hz
      clear hdm hz hdd
      have hlen : (z ++ t).size ≤ 19 := by
        have := HD.out
        have e : (z ++ t).size = (z ++ t).data.toList.length := Array.length_toList.symm
        rw [e, append_bytes, HZ.out]
        rw [HDD.out] at this
        rcases HDM.out with ⟨_, h⟩ | ⟨_, h⟩
        · rw [h] at this
          simp only [List.length_append, List.length_cons, List.length_nil] at this ⊢
          omega
        · rw [h] at this
          simp only [List.length_append, List.length_cons, List.length_nil] at this ⊢
          omega
      go_wp2
      go_roundw
      case rel =>
        refine ⟨m / 10, z ++ t, by go_num, rfl, by omega, hlen, ?_, hE.trans ((Ext.refl _).alloc _)⟩
        rcases HDM.out with ⟨c, h⟩ | ⟨c, h⟩
        · exact .inl ⟨by omega, by rw [HDD.out, h, append_bytes, HZ.out]; simp⟩
        · exact .inr ⟨by omega, by rw [HDD.out, h, append_bytes, HZ.out]⟩
      case measure => simp [intOf]; omega
    · have hdd : decDigits u = t.data.toList := by rcases hdd with ⟨h, _⟩ | ⟨_, h⟩; omega; exact h
      have h9' : ¬ (0 : Int) < (m : Int) := by omega
      have HDD := Lib.hid hdd; clear hdd
      go_wp2
      go_ret
      exact ⟨ret_str (by rw [append_bytes, mkS_list, markL, HDD.out]; rfl), hE⟩

/-- The marks k, k + 1, .. -/
def marksT (k : Nat) : Nat → List ByteArray
  | 0 => []
  | n + 1 => mkS (markL k) :: marksT (k + 1) n
theorem marksT_length (k n : Nat) : (marksT k n).length = n := by
  induction n generalizing k with
  | zero => rfl
  | succ n ih => simp [marksT, ih]
theorem marksT_get (k n j : Nat) (h : j < n) : (marksT k n)[j]? = some (mkS (markL (k + j))) := by
  induction n generalizing k j with
  | zero => omega
  | succ n ih =>
    cases j with
    | zero => simp [marksT]
    | succ j =>
      simp only [marksT, List.getElem?_cons_succ]
      rw [ih (k + 1) j (by omega)]
      congr 3; omega
set_option maxHeartbeats 1000000 in
theorem markStringS_any (B : Nat) (v : Value) (l : List ByteArray) (k : Nat) (w : World) (hl : OwnStr w B v l) (h1 : k + l.length ≤ 4611686018427387904) : Calls Tryd.prog 19 #[v, .int .i64 (k : Int)] w fun e w' =>
    e = .returned (.int .i64 ((k : Int) + l.length)) ∧ OwnStr w' B v (marksT k l.length) ∧ w.grownBy w' v.ownBlock := by
  rcases hl.own with ⟨rfl, rfl⟩ | ⟨b, rest, hb, rfl, hB, hcap⟩
  · go_enter Tryd.func19, Tryd.ntmps19
    go_wp2
    go_loop [1, 5] (fun q i => q = .int .i64 (k : Int) ∧ i = .int .i64 0) (fun q i => 0)
    case atStart => exact ⟨rfl, rfl⟩
    case round =>
      obtain ⟨rfl, rfl⟩ := hrel
      go_wp2
      go_ret
      exact ⟨ret_int (by simp), OwnStr.nil _ _, grown_refl _ _⟩
  · go_enter Tryd.func19, Tryd.ntmps19
    go_wp2
    go_loopw [1, 5] (fun q i wr => ∃ j : Nat, ∃ xs : List Value, j ≤ l.length ∧ q = .int .i64 ((k + j : Nat) : Int) ∧ i = .int .i64 j ∧ xs.length = l.length + rest.length ∧ xs.take j = (strs (marksT k l.length)).take j ∧ xs.drop l.length = rest ∧ Blk wr b 9 xs ∧ w.grownBy wr (some b)) (fun _ i _ => l.length - (intOf i).toNat)
    case atStart => exact ⟨0, strs l ++ rest, Nat.zero_le _, by simp, rfl, by simp [strs], by simp, by rw [← strs_length l]; simp, hB, grown_refl _ _⟩
    case round =>
      obtain ⟨j, xs, hj, rfl, rfl, hxl, hx1, hx2, hX, hE⟩ := hrel
      have HL := Lib.hid hxl; clear hxl
      have HX1 := Lib.hid hx1; clear hx1
      have HX2 := Lib.hid hx2; clear hx2
      have hbE := hE.size
      by_cases hlt : j < l.length
      · go_wp2_with fail
        refine (markText_any (k + j) (by omega) _).mono ?_; rintro e1 w1 ⟨rfl, h1⟩
        have hX := hX.ext h1
        have hjx : j < xs.length := by have := HL.out; omega
        have ho := hX.cell (j := j) (List.getElem?_eq_getElem hjx)
        generalize xs[j] = u at ho
        have hf := hX.free j
        obtain ⟨z, hz⟩ : ∃ z, mkS (markL (k + j)) = z := ⟨_, rfl⟩
        rw [hz]
        have HZ := Lib.hid hz
        clear hjx hz
        go_wp2
        go_roundw
        case rel =>
          refine ⟨j + 1, xs.set j (.string z), by omega, by go_num, by go_num, by simpa using HL.out, ?_, ?_, hX.set _ _, grown_setCell ?_ _ _⟩
          · exact upd_take HX1.out (by have := HL.out; omega) (by rw [strs_get, marksT_get k l.length j hlt, HZ.out]; rfl)
          · rw [List.drop_set_of_lt hlt]; exact HX2.out
          · exact grownBy_trans hE ⟨h1.below.os, h1.below.tape, h1.below.output, h1.size, fun i hi _ => h1.below.block i hi⟩
        case measure => simp [intOf]; omega
      · have : j = l.length := by omega
        subst this
        go_wp2
        go_ret
        refine ⟨ret_int (by go_num), ⟨.inr ⟨b, rest, hb, by rw [marksT_length], ?_, by rw [marksT_length]; exact hcap⟩⟩, hE⟩
        have e := List.take_append_drop l.length xs
        rw [HX1.out, HX2.out, List.take_of_length_le (by rw [strs_length, marksT_length]; exact Nat.le_refl _)] at e
        rw [e]; exact hX

set_option maxHeartbeats 1000000 in
theorem heldStringS_any (v : Value) (n k : Nat) (w : World) (hl : StrS w v (marksT k n)) (h1 : k + n ≤ 4611686018427387904) : Calls Tryd.prog 20 #[v, .int .i64 (k : Int)] w fun e w' =>
    e = .returned (.int .i64 ((k : Int) + n)) ∧ Ext w w' := by
  obtain ⟨a, cap, rfl, hc1, hc2⟩ := hl.val
  rw [marksT_length] at *
  go_enter Tryd.func20, Tryd.ntmps20
  go_wp2
  go_loopw [1, 5] (fun q i wr => ∃ j : Nat, j ≤ n ∧ q = .int .i64 ((k + j : Nat) : Int) ∧ i = .int .i64 j ∧ Ext w wr) (fun _ i _ => n - (intOf i).toNat)
  case atStart => exact ⟨0, Nat.zero_le _, by simp, rfl, (by repeat' (first | (with_reducible exact Ext.refl _) | (with_reducible assumption) | (with_reducible apply Ext.alloc) | (with_reducible apply Ext.drew) | (with_reducible apply Ext.drewN) | (refine Ext.setAt ?_ (by omega) _ _) | (refine Ext.trans ?_ (by assumption))))⟩
  case round =>
    obtain ⟨j, hj, rfl, rfl, hE⟩ := hrel
    by_cases hlt : j < n
    · obtain ⟨b, off, x, rfl, hcell, hx, _⟩ := (hl.ext hE).get (i := j) (by rw [marksT_length]; exact hlt)
      rw [marksT_get k n j hlt] at hx
      have hx := Option.some.inj hx
      have hm : ∀ w : World, Calls Tryd.prog 48 #[.int .i64 ((k : Int) + (j : Int))] w fun e w' => e = .returned (.string x) ∧ Ext w w' := fun w => by
        have := markText_any (k + j) (by omega) w
        rw [hx] at this
        rwa [show ((k : Int) + (j : Int)) = ((k + j : Nat) : Int) by omega]
      have HM := Lib.hid hm
      clear hx hm
      have hbl := World.block_lt_of_cell? wr _ hcell
      go_wp2_with fail
      go_region_law (first | (go_simp; go_at_call 48; (with_reducible refine (HM.out _).mono ?_); rintro e1 w1 ⟨rfl, h1⟩; have E1 : Ext wr w1 := (by repeat' (first | (with_reducible exact Ext.refl _) | (with_reducible assumption) | (with_reducible apply Ext.alloc) | (with_reducible apply Ext.drew) | (with_reducible apply Ext.drewN) | (refine Ext.setAt ?_ (by omega) _ _) | (refine Ext.trans ?_ (by assumption)))); have j0 := E1.cell hcell))
      all_goals
        go_wp2
        go_roundw
        case rel => exact ⟨j + 1, by omega, by go_num, by go_num, hE.trans (by repeat' (first | (with_reducible exact Ext.refl _) | (with_reducible assumption) | (with_reducible apply Ext.alloc) | (with_reducible apply Ext.drew) | (with_reducible apply Ext.drewN) | (refine Ext.setAt ?_ (by omega) _ _) | (refine Ext.trans ?_ (by assumption))))⟩
        case measure => simp [intOf]; omega
    · have : j = n := by omega
      subst this
      go_wp2
      go_ret
      exact ⟨ret_int (by go_num), hE⟩
end Go.Proofs.YtpimpahmhipifaaDoor
