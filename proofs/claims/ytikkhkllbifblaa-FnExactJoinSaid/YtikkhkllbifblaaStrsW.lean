/- The laws' helpers on slices of strings, walked. -/
import Derived.Test.YtikkhkllbifblaaStrs
import Derived.Test.YtikkhkllbifblaaRows2
namespace Go.Proofs.Ytikkhkllbifblaa
open Go.RowKit
set_option linter.unusedSimpArgs false
set_option linter.unusedVariables false

set_option maxHeartbeats 400000 in
theorem szStringS_any (v : Value) (l : List ByteArray) (left : Int) (w : World) (hl : StrS w v l) (hs : ∀ s ∈ l, s.size ≤ maxLen) (h1 : left ≤ 1048576) (h0 : 0 ≤ left) : Calls Try.prog 29 #[v, .int .i64 left] w fun e w' =>
    ∃ r, e = .returned (.int .i64 r) ∧ Left left r (l.length + sizeStr l) ∧ w = w' := by
  obtain ⟨a, cap, rfl, hc1, hc2⟩ := hl.val
  have HS := Lib.hid hs; clear hs
  by_cases h : left - l.length < 0
  · go_enter Try.func29, Try.ntmps29
    go_wp2
    go_ret
    exact ⟨_, rfl, ⟨.inl rfl⟩, rfl⟩
  · go_enter Try.func29, Try.ntmps29
    go_wp2
    go_loop [1, 5] (fun q i => ∃ j : Nat, ∃ r : Int, j ≤ l.length ∧ i = .int .i64 j ∧ q = .int .i64 r ∧ 0 ≤ r ∧ r ≤ 1048576 ∧ r + l.length + sizeStr l = left + sizeStr (l.drop j)) (fun q i => l.length - (intOf i).toNat)
    case atStart => exact ⟨0, left - l.length, Nat.zero_le _, rfl, rfl, by omega, by omega, by simp⟩
    case round =>
      obtain ⟨j, r, hj, rfl, rfl, hr0, hr1, hr⟩ := hrel
      by_cases hlt : j < l.length
      · obtain ⟨b, off, s, rfl, hcell, hsj, hd⟩ := hl.get hlt
        rw [hd, sizeStr_cons] at hr
        have HR := Lib.hid hr; clear hr hd
        have hsz : s.size ≤ 9223372036854775807 := HS.out s (List.mem_of_getElem? hsj)
        clear hsj
        by_cases hq : r - s.size < 0
        · go_wp2
          go_ret
          exact ⟨_, rfl, ⟨.inl rfl⟩, rfl⟩
        · go_wp2
          go_round
          case rel => exact ⟨j + 1, r - s.size, by omega, by go_num, rfl, by omega, by omega, by have := HR.out; omega⟩
          case measure => simp [intOf]; omega
      · have : j = l.length := by omega
        subst this
        go_wp2
        go_ret
        exact ⟨r, rfl, ⟨.inr ⟨hr0, by simp [sizeStr] at hr ⊢; omega⟩⟩, rfl⟩

theorem Try.infoStr : (Try.prog.info? 9).map (fun i => (i.zero, i.size, i.bytes)) = some (some (.string ByteArray.empty), 1, 16) := by kernel_rfl
/-- 'make([]string, n)' -/
theorem mkStrs (n : Nat) (h : n ≤ 1099511627776) (w : World) : (Instr.makeSlice 42 (.int .i64 (n : Int)) (.int .i64 (n : Int))).run Try.prog w =
    .ok (.slice (some ⟨w.heap.size, 0, none⟩) n n) (w.alloc (.cells (madeCells #[.string ByteArray.empty] n) 9)) :=
  run_make_row' (P := Try.prog) 42 9 (.string ByteArray.empty) 16 Try.underlying42 Try.infoStr rfl .i64 .i64 n (by omega) (by omega) w
theorem madeStrs_toList (n : Nat) : (madeCells #[.string ByteArray.empty] n).toList = List.replicate n (.string ByteArray.empty) := by
  apply List.ext_getElem?
  intro i
  by_cases h : i < n
  · simp [madeCells, h, Nat.mod_one]
  · simp [madeCells, h]

set_option maxHeartbeats 400000 in
theorem toStringS_any (v : Value) (l : List ByteArray) (w : World) (hl : StrS w v l) (hlen : l.length ≤ 1048576) : Calls Try.prog 31 #[v] w fun e w' =>
    ∃ v', e = .returned v' ∧ OwnStr w' w.heap.size v' l ∧ Ext w w' := by
  obtain ⟨a, cap, rfl, hc1, hc2⟩ := hl.val
  have hmk := mkStrs l.length (by omega)
  go_enter Try.func31, Try.ntmps31
  go_wp2
  go_loopw [4] (fun i wr => ∃ j : Nat, ∃ xs : List Value, j ≤ l.length ∧ i = .int .i64 j ∧ xs.length = l.length ∧ xs.take j = (strs l).take j ∧ Blk wr w.heap.size 9 xs ∧ Ext w wr) (fun i _ => l.length - (intOf i).toNat)
  case atStart => exact ⟨0, List.replicate l.length (.string ByteArray.empty), Nat.zero_le _, rfl, by simp, by simp, by have := Blk.new w (madeCells #[.string ByteArray.empty] l.length) 9; rwa [madeStrs_toList] at this, (by repeat' (first | (with_reducible exact Ext.refl _) | (with_reducible assumption) | (with_reducible apply Ext.alloc) | (with_reducible apply Ext.drew) | (with_reducible apply Ext.drewN) | (refine Ext.setAt ?_ (by omega) _ _) | (refine Ext.trans ?_ (by assumption))))⟩
  case round =>
    obtain ⟨j, xs, hj, rfl, hxl, hx, hB, hE⟩ := hrel
    have HX := Lib.hid hx; clear hx
    have HL := Lib.hid hxl; clear hxl
    by_cases hlt : j < l.length
    · obtain ⟨b, off, s, rfl, hcell, hs, _⟩ := (hl.ext hE).get hlt
      have HS := Lib.hid hs; clear hs
      have hjx : j < xs.length := by have := HL.out; omega
      have ho := hB.cell (j := j) (List.getElem?_eq_getElem hjx)
      generalize xs[j] = y at ho
      have hf := hB.free j
      clear hjx
      go_wp2
      go_roundw
      case rel => exact ⟨j + 1, _, by omega, by go_num, by rw [List.length_set]; exact HL.out, upd_take HX.out (by have := HL.out; omega) (by rw [strs_get, HS.out]; rfl), hB.set j _, hE.setAt (Nat.le_refl _) _ _⟩
      case measure => simp [intOf]; omega
    · have : j = l.length := by omega
      subst this
      go_wp2
      go_ret
      have hx2 : xs = strs l := by
        have := HX.out
        rwa [List.take_of_length_le (by have := HL.out; omega), List.take_of_length_le (by rw [strs_length]; omega)] at this
      exact ⟨_, rfl, ⟨.inr ⟨_, [], Nat.le_refl _, by simp, by simpa [hx2] using hB, (by rw [List.length_nil, Nat.add_zero]; exact Nat.le_trans hc1 hc2)⟩⟩, hE⟩

/-- Two lists of strings are equal. -/
def eqStrs : List ByteArray → List ByteArray → Bool
  | [], [] => true
  | a :: l, b :: m => (a.data.toList == b.data.toList) && eqStrs l m
  | _, _ => false
theorem eqStrs_same (l : List ByteArray) : eqStrs l l = true := by
  induction l with
  | nil => rfl
  | cons a l ih => simp [eqStrs, ih]
set_option maxHeartbeats 400000 in
theorem eqStringS_same (v u : Value) (l : List ByteArray) (w : World) (hl : StrS w v l) (hm : StrS w u l) : Calls Try.prog 33 #[v, u] w fun e w' =>
    e = .returned (.bool true) ∧ Ext w w' := by
  obtain ⟨a, cap, rfl, hc1, hc2⟩ := hl.val
  obtain ⟨a2, cap2, rfl, hc3, hc4⟩ := hm.val
  go_enter Try.func33, Try.ntmps33
  go_wp2
  go_loopw [5] (fun i wr => ∃ j : Nat, j ≤ l.length ∧ i = .int .i64 j ∧ Ext w wr) (fun i _ => l.length - (intOf i).toNat)
  case atStart => exact ⟨0, Nat.zero_le _, rfl, (by repeat' (first | (with_reducible exact Ext.refl _) | (with_reducible assumption) | (with_reducible apply Ext.alloc) | (with_reducible apply Ext.drew) | (with_reducible apply Ext.drewN) | (refine Ext.setAt ?_ (by omega) _ _) | (refine Ext.trans ?_ (by assumption))))⟩
  case round =>
    obtain ⟨j, hj, rfl, hE⟩ := hrel
    by_cases hlt : j < l.length
    · obtain ⟨b, off, x, rfl, hcell, hx, _⟩ := (hl.ext hE).get hlt
      obtain ⟨b2, off2, y, rfl, hcell2, hy, _⟩ := (hm.ext hE).get hlt
      rw [hx] at hy
      obtain rfl := Option.some.inj hy
      clear hy hx
      go_wp2
      go_quiet (fail)
      go_wp2
      go_goals
      go_roundw
      case rel => exact ⟨j + 1, by omega, by go_num, (by repeat' (first | (with_reducible exact Ext.refl _) | (with_reducible assumption) | (with_reducible apply Ext.alloc) | (with_reducible apply Ext.drew) | (with_reducible apply Ext.drewN) | (refine Ext.setAt ?_ (by omega) _ _) | (refine Ext.trans ?_ (by assumption))))⟩
      case measure => simp [intOf]; omega
    · have : j = l.length := by omega
      subst this
      go_wp2
      go_ret
      exact ⟨rfl, (by repeat' (first | (with_reducible exact Ext.refl _) | (with_reducible assumption) | (with_reducible apply Ext.alloc) | (with_reducible apply Ext.drew) | (with_reducible apply Ext.drewN) | (refine Ext.setAt ?_ (by omega) _ _) | (refine Ext.trans ?_ (by assumption))))⟩
end Go.Proofs.Ytikkhkllbifblaa
