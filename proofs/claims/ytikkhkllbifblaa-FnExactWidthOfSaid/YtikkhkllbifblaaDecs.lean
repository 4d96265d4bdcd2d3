/- Decompositions: eqIntSS, szDecomposition, toDecomposition, eqDecomposition, WidthOf; the law's walk. -/
import Derived.Test.YtikkhkllbifblaaRows2
namespace Go.Proofs.Ytikkhkllbifblaa
open Go.RowKit
set_option linter.unusedSimpArgs false
set_option linter.unusedVariables false

theorem RowsS.len {w : World} {v : Value} {ll : List (List Int)} (h : RowsS w v ll) : True := trivial
set_option maxHeartbeats 800000 in
theorem eqIntSS_any (v u : Value) (ll mm : List (List Int)) (w : World) (hl : RowsS w v ll) (hm : RowsS w u mm) : Calls Try.prog 55 #[v, u] w fun e w' =>
    e = .returned (.bool (ll == mm)) ∧ Ext w w' := by
  obtain ⟨a, cap, rfl, hc1, hc2⟩ := hl.val
  obtain ⟨a2, cap2, rfl, hc3, hc4⟩ := hm.val
  by_cases hne : ll.length = mm.length
  · have HN := Lib.hid hne; clear hne
    have hne2 : ((ll.length : Int) == (mm.length : Int)) = true := by rw [beq_iff_eq]; have := HN.out; omega
    go_enter Try.func55, Try.ntmps55
    go_wp2
    go_loopw [5] (fun i wr => ∃ j : Nat, j ≤ ll.length ∧ i = .int .i64 j ∧ (ll.drop j == mm.drop j) = (ll == mm) ∧ Ext w wr) (fun i _ => ll.length - (intOf i).toNat)
    case atStart => exact ⟨0, Nat.zero_le _, rfl, rfl, (by repeat' (first | (with_reducible exact Ext.refl _) | (with_reducible assumption) | (with_reducible apply Ext.alloc) | (with_reducible apply Ext.drew) | (with_reducible apply Ext.drewN) | (refine Ext.setAt ?_ (by omega) _ _) | (refine Ext.trans ?_ (by assumption))))⟩
    case round =>
      obtain ⟨j, hj, rfl, hq, hE⟩ := hrel
      have HQ := Lib.hid hq; clear hq
      by_cases hlt : j < ll.length
      · obtain ⟨b, off, x, l, rfl, hcell, hx, _, hxd⟩ := (hl.ext hE).get hlt
        obtain ⟨b2, off2, y, m, rfl, hcell2, hy, _, hyd⟩ := (hm.ext hE).get (i := j) (by have := HN.out; omega)
        have HX := Lib.hid hxd; clear hxd
        have HY := Lib.hid hyd; clear hyd
        have hlt2 : j < mm.length := by have := HN.out; omega
        have hlm : (ll == mm) = ((l == m) && (ll.drop (j + 1) == mm.drop (j + 1))) := by rw [← HQ.out, HX.out, HY.out]; rfl
        have HLM := Lib.hid hlm; clear hlm
        cases hxy : (l == m)
        · go_wp2
          go_quiet ((go_at_call 36; exact Calls.quiet_of ((eqIntS_quiet _ _ l m _ (hx.ext ((Ext.refl _).drewN _)) (hy.ext ((Ext.refl _).drewN _))))))
          go_wp2
          go_ret
          exact ⟨ret_bool (by rw [HLM.out, hxy]; rfl), (by repeat' (first | (with_reducible exact Ext.refl _) | (with_reducible assumption) | (with_reducible apply Ext.alloc) | (with_reducible apply Ext.drew) | (with_reducible apply Ext.drewN) | (refine Ext.setAt ?_ (by omega) _ _) | (refine Ext.trans ?_ (by assumption))))⟩
        · go_wp2
          go_quiet ((go_at_call 36; exact Calls.quiet_of ((eqIntS_quiet _ _ l m _ (hx.ext ((Ext.refl _).drewN _)) (hy.ext ((Ext.refl _).drewN _))))))
          go_wp2
          go_roundw
          case rel => exact ⟨j + 1, by omega, by go_num, by rw [HLM.out, hxy]; rfl, (by repeat' (first | (with_reducible exact Ext.refl _) | (with_reducible assumption) | (with_reducible apply Ext.alloc) | (with_reducible apply Ext.drew) | (with_reducible apply Ext.drewN) | (refine Ext.setAt ?_ (by omega) _ _) | (refine Ext.trans ?_ (by assumption))))⟩
          case measure => simp [intOf]; omega
      · have : j = ll.length := by omega
        subst this
        go_wp2
        go_ret
        exact ⟨ret_bool (by rw [← HQ.out, drop_len, HN.out, drop_len]; rfl), (by repeat' (first | (with_reducible exact Ext.refl _) | (with_reducible assumption) | (with_reducible apply Ext.alloc) | (with_reducible apply Ext.drew) | (with_reducible apply Ext.drewN) | (refine Ext.setAt ?_ (by omega) _ _) | (refine Ext.trans ?_ (by assumption))))⟩
  · have hne2 : ((ll.length : Int) == (mm.length : Int)) = false := by rw [beq_eq_false_iff_ne]; omega
    have hne3 : ((ll.length : Int) != (mm.length : Int)) = true := by rw [bne_iff_ne]; omega
    have hf : (ll == mm) = false := by
      rw [beq_eq_false_iff_ne]
      intro e; exact hne (by rw [e])
    have HF := Lib.hid hf; clear hf
    go_enter Try.func55, Try.ntmps55
    go_wp2
    go_ret
    exact ⟨ret_bool HF.out.symm, (by repeat' (first | (with_reducible exact Ext.refl _) | (with_reducible assumption) | (with_reducible apply Ext.alloc) | (with_reducible apply Ext.drew) | (with_reducible apply Ext.drewN) | (refine Ext.setAt ?_ (by omega) _ _) | (refine Ext.trans ?_ (by assumption))))⟩

theorem szDecomposition_any (x y : Value) (ll : List (List Int)) (l : List Int) (left : Int) (w : World) (hx : RowsS w x ll) (hy : IntS w y l) (h1 : left ≤ 1048576) (h0 : 0 ≤ left) :
    Calls Try.prog 24 #[.agg #[x, y], .int .i64 left] w fun e w' =>
    ∃ r, e = .returned (.int .i64 r) ∧ Left left r (ll.length + sizeSS ll + l.length) ∧ Ext w w' := by
  obtain ⟨a, cap, rfl, hc1, hc2⟩ := hx.val
  obtain ⟨a2, cap2, rfl, hc3, hc4⟩ := hy.val
  go_enter Try.func24, Try.ntmps24
  go_wp2_with fail
  refine (szIntSS_any _ ll left _ (hx.ext (by repeat' (first | (with_reducible exact Ext.refl _) | (with_reducible assumption) | (with_reducible apply Ext.alloc) | (with_reducible apply Ext.drew) | (with_reducible apply Ext.drewN) | (refine Ext.setAt ?_ (by omega) _ _) | (refine Ext.trans ?_ (by assumption))))) h1 h0).mono ?_
  rintro e w1 ⟨r, rfl, hr, rfl⟩
  rcases hr.out with rfl | ⟨hr0, rfl⟩
  · go_wp2
    go_ret
    exact ⟨_, rfl, ⟨.inl rfl⟩, (by repeat' (first | (with_reducible exact Ext.refl _) | (with_reducible assumption) | (with_reducible apply Ext.alloc) | (with_reducible apply Ext.drew) | (with_reducible apply Ext.drewN) | (refine Ext.setAt ?_ (by omega) _ _) | (refine Ext.trans ?_ (by assumption))))⟩
  · go_wp2_with fail
    refine (szIntS_any _ l _ _ (hy.ext (by repeat' (first | (with_reducible exact Ext.refl _) | (with_reducible assumption) | (with_reducible apply Ext.alloc) | (with_reducible apply Ext.drew) | (with_reducible apply Ext.drewN) | (refine Ext.setAt ?_ (by omega) _ _) | (refine Ext.trans ?_ (by assumption))))) (by omega) hr0).mono ?_
    rintro e w2 ⟨r, rfl, hr, rfl⟩
    rcases hr.out with rfl | ⟨hr1, rfl⟩
    · go_wp2
      go_ret
      exact ⟨_, rfl, ⟨.inl rfl⟩, (by repeat' (first | (with_reducible exact Ext.refl _) | (with_reducible assumption) | (with_reducible apply Ext.alloc) | (with_reducible apply Ext.drew) | (with_reducible apply Ext.drewN) | (refine Ext.setAt ?_ (by omega) _ _) | (refine Ext.trans ?_ (by assumption))))⟩
    · go_wp2
      go_ret
      exact ⟨_, rfl, ⟨.inr ⟨hr1, by omega⟩⟩, (by repeat' (first | (with_reducible exact Ext.refl _) | (with_reducible assumption) | (with_reducible apply Ext.alloc) | (with_reducible apply Ext.drew) | (with_reducible apply Ext.drewN) | (refine Ext.setAt ?_ (by omega) _ _) | (refine Ext.trans ?_ (by assumption))))⟩

set_option maxHeartbeats 800000 in
theorem toDecomposition_any (x y : Value) (ll : List (List Int)) (l : List Int) (w : World) (hx : RowsS w x ll) (hy : IntS w y l) (h1 : ll.length ≤ 1048576) (h2 : ∀ l ∈ ll, l.length ≤ 1048576) (h3 : l.length ≤ 1048576) :
    Calls Try.prog 26 #[.agg #[x, y]] w fun e w' =>
    ∃ x' y', e = .returned (.agg #[x', y']) ∧ OwnRows w' w.heap.size x' ll ∧ OwnI w' w.heap.size y' l ∧ Ext w w' := by
  obtain ⟨a, cap, rfl, hc1, hc2⟩ := hx.val
  obtain ⟨a2, cap2, rfl, hc3, hc4⟩ := hy.val
  have HH := Lib.hid h2; clear h2
  go_enter Try.func26, Try.ntmps26
  go_wp2_with fail
  refine (toIntSS_any _ ll _ (hx.ext (by repeat' (first | (with_reducible exact Ext.refl _) | (with_reducible assumption) | (with_reducible apply Ext.alloc) | (with_reducible apply Ext.drew) | (with_reducible apply Ext.drewN) | (refine Ext.setAt ?_ (by omega) _ _) | (refine Ext.trans ?_ (by assumption))))) h1 HH.out).mono ?_
  rintro e w1 ⟨v1, rfl, o1, h1⟩
  obtain ⟨a1, cap1, rfl, hd1, hd2⟩ := o1.rows.val
  have s1 := h1.size; (try simp at s1); have t1_0 : w.heap.size < w1.heap.size := (by omega); have c1_0 := fun o => h1.cells (w.heap.size) o (by first | (simp; done) | (simp; omega) | omega); have t1_1 : w.heap.size + 1 < w1.heap.size := (by omega); have c1_1 := fun o => h1.cells (w.heap.size + 1) o (by first | (simp; done) | (simp; omega) | omega); have t1_2 : w.heap.size + 2 < w1.heap.size := (by omega); have c1_2 := fun o => h1.cells (w.heap.size + 2) o (by first | (simp; done) | (simp; omega) | omega); have f1_0 := fun o => h1.frozens (w.heap.size) o (by first | (simp; done) | (simp; omega) | omega); have f1_1 := fun o => h1.frozens (w.heap.size + 1) o (by first | (simp; done) | (simp; omega) | omega); have f1_2 := fun o => h1.frozens (w.heap.size + 2) o (by first | (simp; done) | (simp; omega) | omega)
  go_wp2_with fail
  refine (toIntS_any _ l _ (hy.ext (by repeat' (first | (with_reducible exact Ext.refl _) | (with_reducible assumption) | (with_reducible apply Ext.alloc) | (with_reducible apply Ext.drew) | (with_reducible apply Ext.drewN) | (refine Ext.setAt ?_ (by omega) _ _) | (refine Ext.trans ?_ (by assumption))))) h3).mono ?_
  rintro e w2 ⟨v2, rfl, o2, h2⟩
  obtain ⟨a3, cap3, rfl, hd3, hd4⟩ := o2.ints.val
  have s2 := h2.size; (try simp at s2); have t2_0 : w.heap.size < w2.heap.size := (by omega); have c2_0 := fun o => h2.cells (w.heap.size) o (by first | (simp; done) | (simp; omega) | omega); have t2_1 : w.heap.size + 1 < w2.heap.size := (by omega); have c2_1 := fun o => h2.cells (w.heap.size + 1) o (by first | (simp; done) | (simp; omega) | omega); have t2_2 : w.heap.size + 2 < w2.heap.size := (by omega); have c2_2 := fun o => h2.cells (w.heap.size + 2) o (by first | (simp; done) | (simp; omega) | omega); have f2_0 := fun o => h2.frozens (w.heap.size) o (by first | (simp; done) | (simp; omega) | omega); have f2_1 := fun o => h2.frozens (w.heap.size + 1) o (by first | (simp; done) | (simp; omega) | omega); have f2_2 := fun o => h2.frozens (w.heap.size + 2) o (by first | (simp; done) | (simp; omega) | omega)
  go_wp2_with fail
  refine bodyPost_ret (v := .agg #[.slice a1 ll.length cap1, .slice a3 l.length cap3]) (by simp [results, Try.results26, go_sem, *]) rfl ?_
  refine ⟨_, _, rfl, ?_, ?_, (by repeat' (first | (with_reducible exact Ext.refl _) | (with_reducible assumption) | (with_reducible apply Ext.alloc) | (with_reducible apply Ext.drew) | (with_reducible apply Ext.drewN) | (refine Ext.setAt ?_ (by omega) _ _) | (refine Ext.trans ?_ (by assumption))))⟩
  · refine OwnRows.mono (((((o1.setBelow (by first | (simp [World.setCell]; done) | (simp [World.setCell]; omega) | omega) _).ext h2).setBelow (by first | (simp [World.setCell]; done) | (simp [World.setCell]; omega) | omega) _).setBelow (by first | (simp [World.setCell]; done) | (simp [World.setCell]; omega) | omega) _).setBelow (by first | (simp [World.setCell]; done) | (simp [World.setCell]; omega) | omega) _) (by first | (simp [World.setCell]; done) | (simp [World.setCell]; omega) | omega)
  · refine OwnI.mono (((o2.setBelow (by first | (simp [World.setCell]; done) | (simp [World.setCell]; omega) | omega) _).setBelow (by first | (simp [World.setCell]; done) | (simp [World.setCell]; omega) | omega) _).setBelow (by first | (simp [World.setCell]; done) | (simp [World.setCell]; omega) | omega) _) (by first | (simp [World.setCell]; done) | (simp [World.setCell]; omega) | omega)

theorem eqDecomposition_any (x y x2 y2 : Value) (ll mm : List (List Int)) (l m : List Int) (w : World) (hx : RowsS w x ll) (hy : IntS w y l) (hx2 : RowsS w x2 mm) (hy2 : IntS w y2 m) (h1 : (ll == mm) = true) (h2 : (l == m) = true) :
    Calls Try.prog 28 #[.agg #[x, y], .agg #[x2, y2]] w fun e w' =>
    e = .returned (.bool true) ∧ Ext w w' := by
  obtain ⟨a, cap, rfl, hc1, hc2⟩ := hx.val
  obtain ⟨a2, cap2, rfl, hc3, hc4⟩ := hy.val
  obtain ⟨a3, cap3, rfl, hc5, hc6⟩ := hx2.val
  obtain ⟨a4, cap4, rfl, hc7, hc8⟩ := hy2.val
  go_enter Try.func28, Try.ntmps28
  go_wp2_with fail
  refine (eqIntSS_any _ _ ll mm _ (hx.ext (by repeat' (first | (with_reducible exact Ext.refl _) | (with_reducible assumption) | (with_reducible apply Ext.alloc) | (with_reducible apply Ext.drew) | (with_reducible apply Ext.drewN) | (refine Ext.setAt ?_ (by omega) _ _) | (refine Ext.trans ?_ (by assumption))))) (hx2.ext (by repeat' (first | (with_reducible exact Ext.refl _) | (with_reducible assumption) | (with_reducible apply Ext.alloc) | (with_reducible apply Ext.drew) | (with_reducible apply Ext.drewN) | (refine Ext.setAt ?_ (by omega) _ _) | (refine Ext.trans ?_ (by assumption)))))).mono ?_; rintro e1 w1 ⟨rfl, h1⟩; have s1 := h1.size; (try simp at s1); have t1_0 : w.heap.size < w1.heap.size := (by omega); have c1_0 := fun o => h1.cells (w.heap.size) o (by first | (simp; done) | (simp; omega) | omega); have t1_1 : w.heap.size + 1 < w1.heap.size := (by omega); have c1_1 := fun o => h1.cells (w.heap.size + 1) o (by first | (simp; done) | (simp; omega) | omega); go_wp2_with fail
  refine (eqIntS_any _ _ l m _ (hy.ext (by repeat' (first | (with_reducible exact Ext.refl _) | (with_reducible assumption) | (with_reducible apply Ext.alloc) | (with_reducible apply Ext.drew) | (with_reducible apply Ext.drewN) | (refine Ext.setAt ?_ (by omega) _ _) | (refine Ext.trans ?_ (by assumption))))) (hy2.ext (by repeat' (first | (with_reducible exact Ext.refl _) | (with_reducible assumption) | (with_reducible apply Ext.alloc) | (with_reducible apply Ext.drew) | (with_reducible apply Ext.drewN) | (refine Ext.setAt ?_ (by omega) _ _) | (refine Ext.trans ?_ (by assumption)))))).mono ?_; rintro e2 w2 ⟨rfl, h2⟩; have s2 := h2.size; (try simp at s2); have t2_0 : w.heap.size < w2.heap.size := (by omega); have c2_0 := fun o => h2.cells (w.heap.size) o (by first | (simp; done) | (simp; omega) | omega); have t2_1 : w.heap.size + 1 < w2.heap.size := (by omega); have c2_1 := fun o => h2.cells (w.heap.size + 1) o (by first | (simp; done) | (simp; omega) | omega); go_wp2_with fail
  go_ret
  exact ⟨rfl, (by repeat' (first | (with_reducible exact Ext.refl _) | (with_reducible assumption) | (with_reducible apply Ext.alloc) | (with_reducible apply Ext.drew) | (with_reducible apply Ext.drewN) | (refine Ext.setAt ?_ (by omega) _ _) | (refine Ext.trans ?_ (by assumption))))⟩

/-- The greatest length. -/
def widest (w : Int) : List (List Int) → Int
  | [] => w
  | l :: ll => widest (max w l.length) ll
set_option maxHeartbeats 400000 in
theorem widthOf_spec (x y : Value) (ll : List (List Int)) (w : World) (hx : RowsS w x ll) (hy : ∃ a n c, y = .slice a n c) : Calls Try.prog 25 #[.agg #[x, y]] w fun e w' =>
    e = .returned (.int .i64 (widest 0 ll)) ∧ Ext w w' := by
  obtain ⟨a, cap, rfl, hc1, hc2⟩ := hx.val
  obtain ⟨a2, n2, cap2, rfl⟩ := hy
  go_enter Try.func25, Try.ntmps25
  go_wp2
  go_loop [3, 9] (fun q i => ∃ j : Nat, ∃ m : Int, j ≤ ll.length ∧ i = .int .i64 j ∧ q = .int .i64 m ∧ widest m (ll.drop j) = widest 0 ll) (fun q i => ll.length - (intOf i).toNat)
  case atStart => exact ⟨0, 0, Nat.zero_le _, rfl, rfl, rfl⟩
  case round =>
    obtain ⟨j, m, hj, rfl, rfl, hm⟩ := hrel
    have HM := Lib.hid hm; clear hm
    by_cases hlt : j < ll.length
    · obtain ⟨b, off, u, l, rfl, hcell, hu, _, hd⟩ := hx.get hlt
      obtain ⟨a3, cap3, rfl, hc5, hc6⟩ := hu.val
      have HD := Lib.hid hd; clear hd
      have ho := World.block_lt_of_cell? w _ hcell
      go_wp2
      all_goals
        go_round
        case rel => exact ⟨j + 1, _, by omega, by go_num, rfl, by rw [← HM.out, HD.out, widest]; congr 1; omega⟩
        case measure => simp [intOf]; omega
    · have : j = ll.length := by omega
      subst this
      go_wp2
      go_ret
      exact ⟨ret_int (by rw [← HM.out, drop_len]; rfl), (by repeat' (first | (with_reducible exact Ext.refl _) | (with_reducible assumption) | (with_reducible apply Ext.alloc) | (with_reducible apply Ext.drew) | (with_reducible apply Ext.drewN) | (refine Ext.setAt ?_ (by omega) _ _) | (refine Ext.trans ?_ (by assumption))))⟩
set_option maxHeartbeats 400000 in
theorem widthOf_impl (x y : Value) (ll : List (List Int)) (w : World) (hx : RowsS w x ll) (hy : ∃ a n c, y = .slice a n c) : Calls Try.prog 27 #[.agg #[x, y]] w fun e w' =>
    e = .returned (.int .i64 (widest 0 ll)) ∧ Ext w w' := by
  obtain ⟨a, cap, rfl, hc1, hc2⟩ := hx.val
  obtain ⟨a2, n2, cap2, rfl⟩ := hy
  go_enter Try.func27, Try.ntmps27
  go_wp2
  go_loop [3, 9] (fun q i => ∃ j : Nat, ∃ m : Int, j ≤ ll.length ∧ i = .int .i64 j ∧ q = .int .i64 m ∧ widest m (ll.drop j) = widest 0 ll) (fun q i => ll.length - (intOf i).toNat)
  case atStart => exact ⟨0, 0, Nat.zero_le _, rfl, rfl, rfl⟩
  case round =>
    obtain ⟨j, m, hj, rfl, rfl, hm⟩ := hrel
    have HM := Lib.hid hm; clear hm
    by_cases hlt : j < ll.length
    · obtain ⟨b, off, u, l, rfl, hcell, hu, _, hd⟩ := hx.get hlt
      obtain ⟨a3, cap3, rfl, hc5, hc6⟩ := hu.val
      have HD := Lib.hid hd; clear hd
      have ho := World.block_lt_of_cell? w _ hcell
      go_wp2
      all_goals
        go_round
        case rel => exact ⟨j + 1, _, by omega, by go_num, rfl, by rw [← HM.out, HD.out, widest]; congr 1; omega⟩
        case measure => simp [intOf]; omega
    · have : j = ll.length := by omega
      subst this
      go_wp2
      go_ret
      exact ⟨ret_int (by rw [← HM.out, drop_len]; rfl), (by repeat' (first | (with_reducible exact Ext.refl _) | (with_reducible assumption) | (with_reducible apply Ext.alloc) | (with_reducible apply Ext.drew) | (with_reducible apply Ext.drewN) | (refine Ext.setAt ?_ (by omega) _ _) | (refine Ext.trans ?_ (by assumption))))⟩

theorem mem_size {ll : List (List Int)} {l : List Int} (h : l ∈ ll) : l.length ≤ sizeSS ll := by
  induction ll with
  | nil => simp at h
  | cons x xs ih =>
    rw [sizeSS_cons]
    rcases List.mem_cons.1 h with rfl | h
    · omega
    · have := ih h; omega
theorem widest_bounds (ll : List (List Int)) (m : Int) (h : ∀ l ∈ ll, (l.length : Int) ≤ 1048576) (h0 : 0 ≤ m) (h1 : m ≤ 1048576) : 0 ≤ widest m ll ∧ widest m ll ≤ 1048576 := by
  induction ll generalizing m with
  | nil => exact ⟨h0, h1⟩
  | cons x xs ih =>
    have := h x (by simp)
    exact ih _ (fun l hl => h l (by simp [hl])) (by omega) (by omega)

set_option maxHeartbeats 800000 in
theorem walkFnExactWidthOf (x y : Value) (ll : List (List Int)) (l : List Int) (w : World) (hx : RowsS w x ll) (hy : IntS w y l) :
    Calls Try.prog 8 #[.agg #[x, y]] w fun e w' => e = .returned (.bool true) ∧ Ext w w' := by
  obtain ⟨a, cap, rfl, hc1, hc2⟩ := hx.val
  obtain ⟨a2, cap2, rfl, hc3, hc4⟩ := hy.val
  have r1 : (ll == ll) = true := by simp
  have r2 : (l == l) = true := by simp
  go_enter Try.func8, Try.ntmps8
  go_wp2_with fail
  refine (szDecomposition_any _ _ ll l _ _ (hx.ext (by repeat' (first | (with_reducible exact Ext.refl _) | (with_reducible assumption) | (with_reducible apply Ext.alloc) | (with_reducible apply Ext.drew) | (with_reducible apply Ext.drewN) | (refine Ext.setAt ?_ (by omega) _ _) | (refine Ext.trans ?_ (by assumption))))) (hy.ext (by repeat' (first | (with_reducible exact Ext.refl _) | (with_reducible assumption) | (with_reducible apply Ext.alloc) | (with_reducible apply Ext.drew) | (with_reducible apply Ext.drewN) | (refine Ext.setAt ?_ (by omega) _ _) | (refine Ext.trans ?_ (by assumption))))) (by omega) (by omega)).mono ?_
  rintro e1 w1 ⟨r, rfl, hr, h1⟩
  have s1 := h1.size; (try simp at s1); have t1_0 : w.heap.size < w1.heap.size := (by omega); have c1_0 := fun o => h1.cells (w.heap.size) o (by first | (simp; done) | (simp; omega) | omega); have f1_0 := fun o => h1.frozens (w.heap.size) o (by first | (simp; done) | (simp; omega) | omega)
  rcases hr.out with rfl | ⟨hr0, rfl⟩
  · go_wp2
    go_ret
    exact ⟨rfl, (by repeat' (first | (with_reducible exact Ext.refl _) | (with_reducible assumption) | (with_reducible apply Ext.alloc) | (with_reducible apply Ext.drew) | (with_reducible apply Ext.drewN) | (refine Ext.setAt ?_ (by omega) _ _) | (refine Ext.trans ?_ (by assumption))))⟩
  · have g1 : ll.length ≤ 1048576 := by omega
    have g2 : ∀ l ∈ ll, l.length ≤ 1048576 := fun l hl => by have := mem_size hl; omega
    have g3 : l.length ≤ 1048576 := by omega
    have G2 := Lib.hid g2; clear g2
    clear hr
    go_wp2_with fail
    refine (toDecomposition_any _ _ ll l _ (hx.ext (by repeat' (first | (with_reducible exact Ext.refl _) | (with_reducible assumption) | (with_reducible apply Ext.alloc) | (with_reducible apply Ext.drew) | (with_reducible apply Ext.drewN) | (refine Ext.setAt ?_ (by omega) _ _) | (refine Ext.trans ?_ (by assumption))))) (hy.ext (by repeat' (first | (with_reducible exact Ext.refl _) | (with_reducible assumption) | (with_reducible apply Ext.alloc) | (with_reducible apply Ext.drew) | (with_reducible apply Ext.drewN) | (refine Ext.setAt ?_ (by omega) _ _) | (refine Ext.trans ?_ (by assumption))))) g1 G2.out g3).mono ?_; rintro e2 w2 ⟨x2, y2, rfl, o2, p2, h2⟩; have s2 := h2.size; (try simp at s2); have t2_0 : w.heap.size < w2.heap.size := (by omega); have c2_0 := fun o => h2.cells (w.heap.size) o (by first | (simp; done) | (simp; omega) | omega); have f2_0 := fun o => h2.frozens (w.heap.size) o (by first | (simp; done) | (simp; omega) | omega)
    obtain ⟨a3, cap3, rfl, hd1, hd2⟩ := o2.rows.val
    obtain ⟨a4, cap4, rfl, hd3, hd4⟩ := p2.ints.val
    go_wp2_with fail
    refine (widthOf_spec _ _ ll _ o2.rows ⟨_, _, _, rfl⟩).mono ?_; rintro e3 w3 ⟨rfl, h3⟩; have s3 := h3.size; (try simp at s3); have t3_0 : w.heap.size < w3.heap.size := (by omega); have c3_0 := fun o => h3.cells (w.heap.size) o (by first | (simp; done) | (simp; omega) | omega); have f3_0 := fun o => h3.frozens (w.heap.size) o (by first | (simp; done) | (simp; omega) | omega)
    go_wp2_with fail
    refine (toDecomposition_any _ _ ll l _ (hx.ext (by repeat' (first | (with_reducible exact Ext.refl _) | (with_reducible assumption) | (with_reducible apply Ext.alloc) | (with_reducible apply Ext.drew) | (with_reducible apply Ext.drewN) | (refine Ext.setAt ?_ (by omega) _ _) | (refine Ext.trans ?_ (by assumption))))) (hy.ext (by repeat' (first | (with_reducible exact Ext.refl _) | (with_reducible assumption) | (with_reducible apply Ext.alloc) | (with_reducible apply Ext.drew) | (with_reducible apply Ext.drewN) | (refine Ext.setAt ?_ (by omega) _ _) | (refine Ext.trans ?_ (by assumption))))) g1 G2.out g3).mono ?_; rintro e4 w4 ⟨x4, y4, rfl, o4, p4, h4⟩; have s4 := h4.size; (try simp at s4); have t4_0 : w.heap.size < w4.heap.size := (by omega); have c4_0 := fun o => h4.cells (w.heap.size) o (by first | (simp; done) | (simp; omega) | omega); have f4_0 := fun o => h4.frozens (w.heap.size) o (by first | (simp; done) | (simp; omega) | omega)
    obtain ⟨a5, cap5, rfl, hd5, hd6⟩ := o4.rows.val
    obtain ⟨a6, cap6, rfl, hd7, hd8⟩ := p4.ints.val
    go_wp2_with fail
    refine (widthOf_impl _ _ ll _ (o4.rows.ext (by repeat' (first | (with_reducible exact Ext.refl _) | (with_reducible assumption) | (with_reducible apply Ext.alloc) | (with_reducible apply Ext.drew) | (with_reducible apply Ext.drewN) | (refine Ext.setAt ?_ (by omega) _ _) | (refine Ext.trans ?_ (by assumption))))) ⟨_, _, _, rfl⟩).mono ?_; rintro e5 w5 ⟨rfl, h5⟩; have s5 := h5.size; (try simp at s5); have t5_0 : w.heap.size < w5.heap.size := (by omega); have c5_0 := fun o => h5.cells (w.heap.size) o (by first | (simp; done) | (simp; omega) | omega); have f5_0 := fun o => h5.frozens (w.heap.size) o (by first | (simp; done) | (simp; omega) | omega)
    go_wp2_with fail
    have d5 := fun o => h5.cells w4.heap.size o (by simp)
    have i0 : w5.cell? ⟨w4.heap.size, 0, none⟩ = some (.slice a5 ll.length cap5) := by simp [go_sem, d5]
    have i1 : w5.cell? ⟨w4.heap.size, 1, none⟩ = some (.slice a6 l.length cap6) := by simp [go_sem, d5]
    have i2 : w5.cell? ⟨w.heap.size, 0, none⟩ = some (.slice a ll.length cap) := by simp [go_sem, *]
    have i3 : w5.cell? ⟨w.heap.size, 1, none⟩ = some (.slice a2 l.length cap2) := by simp [go_sem, *]
    have q4 := o4.rows.ext (show Ext w4 w5 from (by repeat' (first | (with_reducible exact Ext.refl _) | (with_reducible assumption) | (with_reducible apply Ext.alloc) | (with_reducible apply Ext.drew) | (with_reducible apply Ext.drewN) | (refine Ext.setAt ?_ (by omega) _ _) | (refine Ext.trans ?_ (by assumption)))))
    have s4 := p4.ints.ext (show Ext w4 w5 from (by repeat' (first | (with_reducible exact Ext.refl _) | (with_reducible assumption) | (with_reducible apply Ext.alloc) | (with_reducible apply Ext.drew) | (with_reducible apply Ext.drewN) | (refine Ext.setAt ?_ (by omega) _ _) | (refine Ext.trans ?_ (by assumption)))))
    have qx := hx.ext (show Ext w w5 from (by repeat' (first | (with_reducible exact Ext.refl _) | (with_reducible assumption) | (with_reducible apply Ext.alloc) | (with_reducible apply Ext.drew) | (with_reducible apply Ext.drewN) | (refine Ext.setAt ?_ (by omega) _ _) | (refine Ext.trans ?_ (by assumption)))))
    have qy := hy.ext (show Ext w w5 from (by repeat' (first | (with_reducible exact Ext.refl _) | (with_reducible assumption) | (with_reducible apply Ext.alloc) | (with_reducible apply Ext.drew) | (with_reducible apply Ext.drewN) | (refine Ext.setAt ?_ (by omega) _ _) | (refine Ext.trans ?_ (by assumption)))))
    have E5 : Ext w w5 := (by repeat' (first | (with_reducible exact Ext.refl _) | (with_reducible assumption) | (with_reducible apply Ext.alloc) | (with_reducible apply Ext.drew) | (with_reducible apply Ext.drewN) | (refine Ext.setAt ?_ (by omega) _ _) | (refine Ext.trans ?_ (by assumption))))
    clear d5 c5_0 c4_0 c3_0 c2_0 c1_0 f5_0 f4_0 f3_0 f2_0 f1_0 h5 h4 h3 h2 h1
    go_region_held3 (fun w' => w'.cell? ⟨w4.heap.size, 0, none⟩ = some (.slice a5 ll.length cap5) ∧ w'.cell? ⟨w4.heap.size, 1, none⟩ = some (.slice a6 l.length cap6) ∧
        w'.cell? ⟨w.heap.size, 0, none⟩ = some (.slice a ll.length cap) ∧ w'.cell? ⟨w.heap.size, 1, none⟩ = some (.slice a2 l.length cap2) ∧ Ext w5 w')
      (refine ⟨?_, ?_, ?_, ?_, ?_⟩ <;> first | assumption | exact (Ext.refl _).drew | (simp [*]; done))
      (first | (go_at_call 26; refine (toDecomposition_any _ _ ll l _ (qx.ext (by repeat' (first | (with_reducible exact Ext.refl _) | (with_reducible assumption) | (with_reducible apply Ext.alloc) | (with_reducible apply Ext.drew) | (with_reducible apply Ext.drewN) | (refine Ext.setAt ?_ (by omega) _ _) | (refine Ext.trans ?_ (by assumption))))) (qy.ext (by repeat' (first | (with_reducible exact Ext.refl _) | (with_reducible assumption) | (with_reducible apply Ext.alloc) | (with_reducible apply Ext.drew) | (with_reducible apply Ext.drewN) | (refine Ext.setAt ?_ (by omega) _ _) | (refine Ext.trans ?_ (by assumption))))) g1 G2.out g3).mono ?_; rintro e6 w6 ⟨x6, y6, rfl, o6, p6, h6⟩; have E6 : Ext w5 w6 := (by repeat' (first | (with_reducible exact Ext.refl _) | (with_reducible assumption) | (with_reducible apply Ext.alloc) | (with_reducible apply Ext.drew) | (with_reducible apply Ext.drewN) | (refine Ext.setAt ?_ (by omega) _ _) | (refine Ext.trans ?_ (by assumption)))); have j0 := E6.cell i0; have j1 := E6.cell i1; have j2 := E6.cell i2; have j3 := E6.cell i3) | (go_at_call 28; refine (eqDecomposition_any _ _ _ _ ll ll l l _ (q4.ext E6) (s4.ext E6) o6.rows p6.ints r1 r2).mono ?_; rintro e7 w7 ⟨rfl, h7⟩; have E7 : Ext w5 w7 := (by repeat' (first | (with_reducible exact Ext.refl _) | (with_reducible assumption) | (with_reducible apply Ext.alloc) | (with_reducible apply Ext.drew) | (with_reducible apply Ext.drewN) | (refine Ext.setAt ?_ (by omega) _ _) | (refine Ext.trans ?_ (by assumption)))); have k0 := E7.cell i0; have k1 := E7.cell i1; have k2 := E7.cell i2; have k3 := E7.cell i3))
    go_wp2
    go_ret
    exact ⟨rfl, (by repeat' (first | (with_reducible exact Ext.refl _) | (with_reducible assumption) | (with_reducible apply Ext.alloc) | (with_reducible apply Ext.drew) | (with_reducible apply Ext.drewN) | (refine Ext.setAt ?_ (by omega) _ _) | (refine Ext.trans ?_ (by assumption))))⟩

end Go.Proofs.Ytikkhkllbifblaa
