/- The laws' own helpers on slices of integers: toIntS, eqIntS, markIntS, heldIntS. -/
import Derived.Test.YtpimpahmhipifaaDoorOwn
import Derived.Test.YtpimpahmhipifaaDoorProg
import Derived.Deep.OwnRows
import Derived.Deep.QuietTactic
import Derived.BigQuiet
namespace Go.Proofs.YtpimpahmhipifaaDoor
open Go.RowKit
set_option linter.unusedSimpArgs false
set_option linter.unusedVariables false

theorem Tryd.infoInt : (Tryd.prog.info? 3).map (fun i => (i.zero, i.size, i.bytes)) = some (some (.int .i64 0), 1, 8) := by kernel_rfl
/-- 'make([]int, n)' -/
theorem mkInts (n : Nat) (h : n ≤ 35184372088832) (w : World) : (Instr.makeSlice 35 (.int .i64 (n : Int)) (.int .i64 (n : Int))).run Tryd.prog w =
    .ok (.slice (some ⟨w.heap.size, 0, none⟩) n n) (w.alloc (.cells (madeCells #[.int .i64 0] n) 3)) :=
  run_make_row' (P := Tryd.prog) 35 3 (.int .i64 0) 8 Tryd.underlying35 Tryd.infoInt rfl .i64 .i64 n (by omega) (by omega) w

/-- The list as it stands after j elements of src have been copied over zeroes. -/
def copied (src : List Int) (j : Nat) : List Int := src.take j ++ List.replicate (src.length - j) 0
theorem copied_zero (src : List Int) : copied src 0 = List.replicate src.length 0 := by simp [copied]
theorem copied_all (src : List Int) : copied src src.length = src := by simp [copied]
theorem copied_length (src : List Int) (j : Nat) (h : j ≤ src.length) : (copied src j).length = src.length := by simp [copied]; omega
theorem copied_set {src : List Int} {j : Nat} {x : Int} (h : src[j]? = some x) : (copied src j).set j x = copied src (j + 1) := by
  obtain ⟨hlt, rfl⟩ := List.getElem?_eq_some_iff.1 h
  have e : src.length - j = (src.length - (j + 1)) + 1 := by omega
  have e2 : (src.take j).length = j := by rw [List.length_take]; omega
  unfold copied
  rw [e, List.replicate_succ, List.set_append_right _ _ (by omega), e2, Nat.sub_self, List.set_cons_zero, List.take_succ_eq_append_getElem hlt, List.append_assoc]
  rfl
theorem ints_set (l : List Int) (j : Nat) (x : Int) : (ints l).set j (.int .i64 x) = ints (l.set j x) := by simp [ints, List.map_set]

set_option maxHeartbeats 400000 in
theorem toIntS_any (v : Value) (l : List Int) (w : World) (hl : IntS w v l) (hlen : l.length ≤ 1048576) : Calls Tryd.prog 27 #[v] w fun e w' =>
    ∃ v', e = .returned v' ∧ OwnI w' w.heap.size v' l ∧ Ext w w' := by
  obtain ⟨a, cap, rfl, hc1, hc2⟩ := hl.val
  have hmk := mkInts l.length (by omega)
  go_enter Tryd.func27, Tryd.ntmps27
  go_wp2
  go_loopw [4] (fun i wr => ∃ j : Nat, j ≤ l.length ∧ i = .int .i64 j ∧ Blk wr w.heap.size 3 (ints (copied l j)) ∧ Ext w wr) (fun i _ => l.length - (intOf i).toNat)
  case atStart => exact ⟨0, Nat.zero_le _, rfl, by have := Blk.new w (madeCells #[.int .i64 0] l.length) 3; rwa [made_zero, ← copied_zero] at this, (by repeat' (first | (with_reducible exact Ext.refl _) | (with_reducible assumption) | (with_reducible apply Ext.alloc) | (with_reducible apply Ext.drew) | (with_reducible apply Ext.drewN) | (refine Ext.setAt ?_ (by omega) _ _) | (refine Ext.trans ?_ (by assumption))))⟩
  case round =>
    obtain ⟨j, hj, rfl, hB, hE⟩ := hrel
    by_cases hlt : j < l.length
    · obtain ⟨b, off, x, rfl, hcell, hx, _⟩ := (hl.ext hE).get hlt
      obtain ⟨y, hy⟩ : ∃ y, (copied l j)[j]? = some y := by
        rw [← copied_length l j hj] at hlt
        exact ⟨_, List.getElem?_eq_getElem hlt⟩
      have ho := hB.cell (j := j) (u := .int .i64 y) (by rw [ints_get, hy]; rfl)
      have hf := hB.free j
      have HX := Lib.hid hx; clear hx hy
      go_wp2
      · go_roundw
        case rel => exact ⟨j + 1, by omega, by go_num, by rw [← copied_set HX.out, ← ints_set]; exact Blk.set hB _ _, hE.setCell (Nat.le_refl _) _⟩
        case measure => simp [intOf]; omega
    · have : j = l.length := by omega
      subst this
      go_wp2
      go_ret
      rw [copied_all] at hB
      exact ⟨_, rfl, OwnI.of (Nat.le_refl _) hB (Nat.le_trans hc1 hc2), hE⟩

theorem drop_len {α : Type} (l : List α) : l.drop l.length = [] := by simp
set_option maxHeartbeats 400000 in
theorem eqIntS_quiet (v u : Value) (l m : List Int) (w : World) (hl : IntS w v l) (hm : IntS w u m) : Calls Tryd.prog 29 #[v, u] w fun e w' =>
    e = .returned (.bool (l == m)) ∧ ∃ n, w' = w.drewN n := by
  obtain ⟨a, cap, rfl, hc1, hc2⟩ := hl.val
  obtain ⟨a2, cap2, rfl, hc3, hc4⟩ := hm.val
  by_cases hne : l.length = m.length
  · have HN := Lib.hid hne; clear hne
    have hne2 : ((l.length : Int) == (m.length : Int)) = true := by rw [beq_iff_eq]; have := HN.out; omega
    go_enter Tryd.func29, Tryd.ntmps29
    go_wp2
    go_loopw [5] (fun i wr => ∃ j : Nat, j ≤ l.length ∧ i = .int .i64 j ∧ (l.drop j == m.drop j) = (l == m) ∧ ∃ n, wr = w.drewN n) (fun i _ => l.length - (intOf i).toNat)
    case atStart => exact ⟨0, Nat.zero_le _, rfl, rfl, 0, rfl⟩
    case round =>
      obtain ⟨j, hj, rfl, hq, nq, rfl⟩ := hrel
      have HQ := Lib.hid hq; clear hq
      by_cases hlt : j < l.length
      · obtain ⟨b, off, x, rfl, hcell, _, hx⟩ := hl.get hlt
        obtain ⟨b2, off2, y, rfl, hcell2, _, hy⟩ := hm.get (i := j) (by have := HN.out; omega)
        have HX := Lib.hid hx; clear hx
        have HY := Lib.hid hy; clear hy
        have hlt2 : j < m.length := by have := HN.out; omega
        by_cases hxy : x = y
        · subst hxy
          go_wp2
          go_quiet (fail)
          go_wp2
          go_roundw
          case rel => exact ⟨j + 1, by omega, by go_num, by rw [← HQ.out, HX.out, HY.out]; simp, _, rfl⟩
          case measure => simp [intOf]; omega
        · go_wp2
          go_quiet (fail)
          go_wp2
          go_ret
          exact ⟨ret_bool (by rw [← HQ.out, HX.out, HY.out]; simp [hxy]), _, World.drewN_drewN _ _ _⟩
      · have : j = l.length := by omega
        subst this
        go_wp2
        go_ret
        exact ⟨ret_bool (by rw [← HQ.out, drop_len, HN.out, drop_len]; rfl), _, rfl⟩
  · have hne2 : ((l.length : Int) == (m.length : Int)) = false := by rw [beq_eq_false_iff_ne]; omega
    have hne3 : ((l.length : Int) != (m.length : Int)) = true := by rw [bne_iff_ne]; omega
    have hf : (l == m) = false := by
      rw [beq_eq_false_iff_ne]
      intro e; exact hne (by rw [e])
    have HF := Lib.hid hf; clear hf
    go_enter Tryd.func29, Tryd.ntmps29
    go_wp2
    go_ret
    exact ⟨ret_bool HF.out.symm, 0, rfl⟩

theorem eqIntS_any (v u : Value) (l m : List Int) (w : World) (hl : IntS w v l) (hm : IntS w u m) : Calls Tryd.prog 29 #[v, u] w fun e w' =>
    e = .returned (.bool (l == m)) ∧ Ext w w' :=
  (eqIntS_quiet v u l m w hl hm).mono fun _ _ ⟨he, n, hn⟩ => ⟨he, hn ▸ (Ext.refl w).drewN n⟩

/-- k, k + 1, .., n of them. -/
def marks (k : Int) : Nat → List Int
  | 0 => []
  | n + 1 => k :: marks (k + 1) n
theorem marks_length (k : Int) (n : Nat) : (marks k n).length = n := by
  induction n generalizing k with
  | zero => rfl
  | succ n ih => simp [marks, ih]
theorem marks_get (k : Int) (n j : Nat) (h : j < n) : (marks k n)[j]? = some (k + j) := by
  induction n generalizing k j with
  | zero => omega
  | succ n ih =>
    cases j with
    | zero => simp [marks]
    | succ j =>
      simp only [marks, List.getElem?_cons_succ]
      rw [ih (k + 1) j (by omega)]
      congr 1; omega
theorem marks_drop (k : Int) (n j : Nat) (h : j < n) : (marks k n).drop j = (k + j) :: (marks k n).drop (j + 1) := by
  have hl : j < (marks k n).length := by rw [marks_length]; exact h
  rw [List.drop_eq_getElem_cons hl]
  have := marks_get k n j h
  rw [List.getElem?_eq_getElem hl] at this
  rw [Option.some.inj this]

theorem upd_take {α : Type} {xs ys : List α} {j : Nat} {a : α} (h : xs.take j = ys.take j) (hj : j < xs.length) (hy : ys[j]? = some a) : (xs.set j a).take (j + 1) = ys.take (j + 1) := by
  obtain ⟨hlt, rfl⟩ := List.getElem?_eq_some_iff.1 hy
  rw [List.take_succ_eq_append_getElem hlt, ← h, List.take_succ_eq_append_getElem (by simpa using hj)]
  simp [List.take_set]
  rw [List.set_eq_of_length_le (by rw [List.length_take]; omega)]
set_option maxHeartbeats 400000 in
theorem markIntS_any (B : Nat) (v : Value) (l : List Int) (k : Int) (w : World) (hl : OwnI w B v l) (h0 : 0 ≤ k) (h1 : k + l.length ≤ 4611686018427387904) : Calls Tryd.prog 36 #[v, .int .i64 k] w fun e w' =>
    e = .returned (.int .i64 (k + l.length)) ∧ OwnI w' B v (marks k l.length) ∧ w.grownBy w' v.ownBlock := by
  rcases hl.own with ⟨rfl, rfl⟩ | ⟨b, rest, hb, rfl, hB, hcap⟩
  · go_enter Tryd.func36, Tryd.ntmps36
    go_wp2
    go_loop [1, 5] (fun q i => q = .int .i64 k ∧ i = .int .i64 0) (fun q i => 0)
    case atStart => exact ⟨rfl, rfl⟩
    case round =>
      obtain ⟨rfl, rfl⟩ := hrel
      go_wp2
      go_ret
      exact ⟨ret_int (by simp), OwnI.nil _ _, grown_refl _ _⟩
  · go_enter Tryd.func36, Tryd.ntmps36
    go_wp2
    go_loopw [1, 5] (fun q i wr => ∃ j : Nat, ∃ xs : List Value, j ≤ l.length ∧ q = .int .i64 (k + j) ∧ i = .int .i64 j ∧ xs.length = l.length + rest.length ∧ xs.take j = (ints (marks k l.length)).take j ∧ xs.drop l.length = rest ∧ Blk wr b 3 xs ∧ w.grownBy wr (some b)) (fun _ i _ => l.length - (intOf i).toNat)
    case atStart => exact ⟨0, ints l ++ rest, Nat.zero_le _, by simp, rfl, by simp [ints], by simp, by rw [← ints_length l]; simp, hB, grown_refl _ _⟩
    case round =>
      obtain ⟨j, xs, hj, rfl, rfl, hxl, hx1, hx2, hX, hE⟩ := hrel
      have HL := Lib.hid hxl; clear hxl
      have HX1 := Lib.hid hx1; clear hx1
      have HX2 := Lib.hid hx2; clear hx2
      by_cases hlt : j < l.length
      · have hjx : j < xs.length := by have := HL.out; omega
        have ho := hX.cell (j := j) (List.getElem?_eq_getElem hjx)
        generalize xs[j] = u at ho
        have hf := hX.free j
        clear hjx
        go_wp2
        go_roundw
        case rel =>
          refine ⟨j + 1, xs.set j (.int .i64 (k + j)), by omega, by go_num, by go_num, by simpa using HL.out, ?_, ?_, hX.set _ _, grown_setCell hE _ _⟩
          · exact upd_take HX1.out (by have := HL.out; omega) (by rw [ints_get, marks_get k l.length j hlt]; rfl)
          · rw [List.drop_set_of_lt hlt]; exact HX2.out
        case measure => simp [intOf]; omega
      · have : j = l.length := by omega
        subst this
        go_wp2
        go_ret
        refine ⟨ret_int rfl, ⟨.inr ⟨b, rest, hb, by rw [marks_length], ?_, by rw [marks_length]; exact hcap⟩⟩, hE⟩
        have e := List.take_append_drop l.length xs
        rw [HX1.out, HX2.out, List.take_of_length_le (by rw [ints_length, marks_length]; exact Nat.le_refl _)] at e
        rw [e]; exact hX

set_option maxHeartbeats 400000 in
theorem heldIntS_any (v : Value) (n : Nat) (k : Int) (w : World) (hl : IntS w v (marks k n)) (h0 : 0 ≤ k) (h1 : k + n ≤ 4611686018427387904) : Calls Tryd.prog 37 #[v, .int .i64 k] w fun e w' =>
    e = .returned (.int .i64 (k + n)) ∧ Ext w w' := by
  obtain ⟨a, cap, rfl, hc1, hc2⟩ := hl.val
  rw [marks_length] at *
  go_enter Tryd.func37, Tryd.ntmps37
  go_wp2
  go_loopw [1, 5] (fun q i wr => ∃ j : Nat, j ≤ n ∧ q = .int .i64 (k + j) ∧ i = .int .i64 j ∧ Ext w wr) (fun _ i _ => n - (intOf i).toNat)
  case atStart => exact ⟨0, Nat.zero_le _, by simp, rfl, (by repeat' (first | (with_reducible exact Ext.refl _) | (with_reducible assumption) | (with_reducible apply Ext.alloc) | (with_reducible apply Ext.drew) | (with_reducible apply Ext.drewN) | (refine Ext.setAt ?_ (by omega) _ _) | (refine Ext.trans ?_ (by assumption))))⟩
  case round =>
    obtain ⟨j, hj, rfl, rfl, hE⟩ := hrel
    by_cases hlt : j < n
    · obtain ⟨b, off, x, rfl, hcell, hx, _⟩ := (hl.ext hE).get (i := j) (by rw [marks_length]; exact hlt)
      rw [marks_get k n j hlt] at hx
      obtain rfl := Option.some.inj hx
      clear hx
      go_wp2
      go_roundw
      case rel => exact ⟨j + 1, by omega, by go_num, by go_num, hE⟩
      case measure => simp [intOf]; omega
    · have : j = n := by omega
      subst this
      go_wp2
      go_ret
      exact ⟨ret_int rfl, hE⟩

end Go.Proofs.YtpimpahmhipifaaDoor
