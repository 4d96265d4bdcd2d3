/- Slices of slices of integers: the laws' helpers szIntS, szIntSS, toIntSS, eqIntSS. -/
import Derived.Test.YtlmidcclcnehnaaSlices
import Derived.Test.YtlmidcclcnehnaaBoxes
import Derived.Test.YtlmidcclcnehnaaData
import Derived.Deep.RegionHeld3
namespace Go.Proofs.Ytlmidcclcnehnaa
open Go.RowKit
set_option linter.unusedSimpArgs false
set_option linter.unusedVariables false

theorem RowsS.val {w : World} {v : Value} {ll : List (List Int)} (h : RowsS w v ll) : ∃ a cap, v = .slice a ll.length cap ∧ ll.length ≤ cap ∧ cap ≤ 9223372036854775807 := by
  obtain ⟨vs, _, hr, _⟩ := h.rows
  obtain ⟨a, cap, hv, h1, h2, _⟩ := hr.val
  exact ⟨a, cap, hv, h1, h2⟩
theorem RowsS.get {w : World} {a : Option Addr} {n cap : Nat} {ll : List (List Int)} (h : RowsS w (.slice a n cap) ll) {i : Nat} (hi : i < ll.length) :
    ∃ b off u l, a = some ⟨b, off, none⟩ ∧ w.cell? ⟨b, off + i, none⟩ = some u ∧ IntS w u l ∧ ll[i]? = some l ∧ ll.drop i = l :: ll.drop (i + 1) := by
  obtain ⟨vs, hl, hr, hs⟩ := h.rows
  obtain ⟨a', cap', hv, _, _, h3⟩ := hr.val
  cases hv
  obtain ⟨b, off, ha, hc⟩ := h3 (by omega)
  have hi' : i < vs.length := by omega
  refine ⟨b, off, vs[i], ll[i], ha, hc i _ (List.getElem?_eq_getElem hi'), hs i _ _ (List.getElem?_eq_getElem hi') (List.getElem?_eq_getElem hi), List.getElem?_eq_getElem hi, List.drop_eq_getElem_cons hi⟩
theorem OwnI.setBelow {w : World} {B : Nat} {v : Value} {l : List Int} (h : OwnI w B v l) {p : Addr} (hp : p.block < B) (u : Value) : OwnI (w.setCell p u) B v l := by
  rcases h.own with h | ⟨b, rest, h1, h2, h3, h4⟩
  · exact ⟨.inl h⟩
  · exact ⟨.inr ⟨b, rest, h1, h2, h3.other (by omega) _, h4⟩⟩

/-- v is a slice of slices of integers of the call's own (all blocks from B on, each of its own), that reads as ll. -/
structure OwnRows (w : World) (B : Nat) (v : Value) (ll : List (List Int)) : Prop where
  own : (v = .slice none 0 0 ∧ ll = []) ∨ ∃ b vs rest, B ≤ b ∧ v = .slice (some ⟨b, 0, none⟩) ll.length (ll.length + rest.length) ∧ vs.length = ll.length ∧ Blk w b 24 (vs ++ rest) ∧ ll.length + rest.length ≤ maxLen ∧
    (∀ (i : Nat) (u : Value) (l : List Int), vs[i]? = some u → ll[i]? = some l → OwnI w B u l ∧ u.ownBlock ≠ some b) ∧
    (∀ (i j : Nat) (u u' : Value) (k : Nat), i < j → vs[i]? = some u → vs[j]? = some u' → u.ownBlock = some k → u'.ownBlock ≠ some k)
theorem OwnRows.ext {w w' : World} {B : Nat} {v : Value} {ll : List (List Int)} (h : OwnRows w B v ll) (e : Ext w w') : OwnRows w' B v ll := by
  rcases h.own with h | ⟨b, vs, rest, h1, h2, h3, h4, h5, h6, h7⟩
  · exact ⟨.inl h⟩
  · exact ⟨.inr ⟨b, vs, rest, h1, h2, h3, h4.ext e, h5, fun i u l a c => ⟨(h6 i u l a c).1.ext e, (h6 i u l a c).2⟩, h7⟩⟩
theorem OwnRows.mono {w : World} {B B' : Nat} {v : Value} {ll : List (List Int)} (h : OwnRows w B v ll) (hB : B' ≤ B) : OwnRows w B' v ll := by
  rcases h.own with h | ⟨b, vs, rest, h1, h2, h3, h4, h5, h6, h7⟩
  · exact ⟨.inl h⟩
  · exact ⟨.inr ⟨b, vs, rest, Nat.le_trans hB h1, h2, h3, h4, h5, fun i u l a c => ⟨(h6 i u l a c).1.mono hB, (h6 i u l a c).2⟩, h7⟩⟩
theorem OwnRows.setBelow {w : World} {B : Nat} {v : Value} {ll : List (List Int)} (h : OwnRows w B v ll) {p : Addr} (hp : p.block < B) (x : Value) : OwnRows (w.setCell p x) B v ll := by
  rcases h.own with h | ⟨b, vs, rest, h1, h2, h3, h4, h5, h6, h7⟩
  · exact ⟨.inl h⟩
  · exact ⟨.inr ⟨b, vs, rest, h1, h2, h3, h4.other (by omega) _, h5, fun i u l a c => ⟨(h6 i u l a c).1.setBelow hp x, (h6 i u l a c).2⟩, h7⟩⟩
theorem OwnRows.rows {w : World} {B : Nat} {v : Value} {ll : List (List Int)} (h : OwnRows w B v ll) : RowsS w v ll := by
  rcases h.own with ⟨rfl, rfl⟩ | ⟨b, vs, rest, h1, rfl, h3, h4, h5, h6, h7⟩
  · exact ⟨[], rfl, ⟨rfl, none, 0, rfl, Nat.le_refl _, Nat.zero_le _, by simp⟩, by simp⟩
  · refine ⟨vs, h3, ⟨by rw [h3]; simp, some ⟨b, 0, none⟩, _, rfl, by omega, h5, fun _ => ⟨b, 0, rfl, fun j u hj => ?_⟩⟩, fun i u l a c => (h6 i u l a c).1.ints⟩
    have : (vs ++ rest)[j]? = some u := by
      rw [List.getElem?_append_left (List.getElem?_eq_some_iff.1 hj).1, hj]
    simpa using h4.cell this
/-- How much is left of 'left' behind n values; negative: too many. -/
structure Left (left r : Int) (n : Nat) : Prop where
  out : r = -1 ∨ (0 ≤ r ∧ r = left - n)
theorem szIntS_any (v : Value) (l : List Int) (left : Int) (w : World) (hl : IntS w v l) (h1 : left ≤ 1048576) (h0 : 0 ≤ left) : Calls Try.prog 79 #[v, .int .i64 left] w fun e w' =>
    ∃ r, e = .returned (.int .i64 r) ∧ Left left r l.length ∧ w = w' := by
  obtain ⟨a, cap, rfl, hc1, hc2⟩ := hl.val
  by_cases h : left - l.length < 0
  · go_enter Try.func79, Try.ntmps79
    go_wp2
    go_ret
    exact ⟨_, rfl, ⟨.inl rfl⟩, rfl⟩
  · go_enter Try.func79, Try.ntmps79
    go_wp2
    go_ret
    exact ⟨_, rfl, ⟨.inr ⟨by omega, rfl⟩⟩, rfl⟩

/-- The values of a list of lists. -/
def sizeSS (ll : List (List Int)) : Nat := (ll.map List.length).sum
theorem sizeSS_cons (l : List Int) (ll : List (List Int)) : sizeSS (l :: ll) = l.length + sizeSS ll := by simp [sizeSS]
set_option maxHeartbeats 400000 in
theorem szIntSS_any (v : Value) (ll : List (List Int)) (left : Int) (w : World) (hl : RowsS w v ll) (h1 : left ≤ 1048576) (h0 : 0 ≤ left) : Calls Try.prog 33 #[v, .int .i64 left] w fun e w' =>
    ∃ r, e = .returned (.int .i64 r) ∧ Left left r (ll.length + sizeSS ll) ∧ w = w' := by
  obtain ⟨a, cap, rfl, hc1, hc2⟩ := hl.val
  by_cases h : left - ll.length < 0
  · go_enter Try.func33, Try.ntmps33
    go_wp2
    go_ret
    exact ⟨_, rfl, ⟨.inl rfl⟩, rfl⟩
  · go_enter Try.func33, Try.ntmps33
    go_wp2
    go_loop [1, 5] (fun q i => ∃ j : Nat, ∃ r : Int, j ≤ ll.length ∧ i = .int .i64 j ∧ q = .int .i64 r ∧ 0 ≤ r ∧ r ≤ 1048576 ∧ r + ll.length + sizeSS ll = left + sizeSS (ll.drop j)) (fun q i => ll.length - (intOf i).toNat)
    case atStart => exact ⟨0, left - ll.length, Nat.zero_le _, rfl, rfl, by omega, by omega, by simp⟩
    case round =>
      obtain ⟨j, r, hj, rfl, rfl, hr0, hr1, hr⟩ := hrel
      by_cases hlt : j < ll.length
      · obtain ⟨b, off, u, l, rfl, hcell, hu, _, hd⟩ := hl.get hlt
        rw [hd, sizeSS_cons] at hr
        have HR := Lib.hid hr; clear hr hd
        go_wp2_with (go_at_call 79; refine (szIntS_any _ l r _ hu hr1 hr0).mono ?_; rintro e w' ⟨q, rfl, hq, rfl⟩)
        · go_ret
          exact ⟨_, rfl, ⟨.inl rfl⟩, rfl⟩
        · rcases hq.out with rfl | ⟨hq0, rfl⟩
          · omega
          · go_round
            case rel => exact ⟨j + 1, r - l.length, by omega, by go_num, rfl, hq0, by omega, by have := HR.out; omega⟩
            case measure => simp [intOf]; omega
      · have : j = ll.length := by omega
        subst this
        go_wp2
        go_ret
        exact ⟨r, rfl, ⟨.inr ⟨hr0, by simp [sizeSS] at hr ⊢; omega⟩⟩, rfl⟩

theorem Try.infoInts : (Try.prog.info? 24).map (fun i => (i.zero, i.size, i.bytes)) = some (some (.slice none 0 0), 1, 24) := by kernel_rfl
/-- 'make([][]int, n)' -/
theorem mkRows (n : Nat) (h : n ≤ 1099511627776) (w : World) : (Instr.makeSlice 42 (.int .i64 (n : Int)) (.int .i64 (n : Int))).run Try.prog w =
    .ok (.slice (some ⟨w.heap.size, 0, none⟩) n n) (w.alloc (.cells (madeCells #[.slice none 0 0] n) 24)) :=
  run_make_row' (P := Try.prog) 42 24 (.slice none 0 0) 24 Try.underlying42 Try.infoInts rfl .i64 .i64 n (by omega) (by omega) w
theorem madeRows_toList (n : Nat) : (madeCells #[.slice none 0 0] n).toList = List.replicate n (.slice none 0 0) := by
  apply List.ext_getElem?
  intro i
  by_cases h : i < n
  · simp [madeCells, h, Nat.mod_one]
  · simp [madeCells, h]

set_option maxHeartbeats 800000 in
theorem toIntSS_any (v : Value) (ll : List (List Int)) (w : World) (hl : RowsS w v ll) (hlen : ll.length ≤ 1048576) (hlens : ∀ l ∈ ll, l.length ≤ 1048576) : Calls Try.prog 35 #[v] w fun e w' =>
    ∃ v', e = .returned v' ∧ OwnRows w' w.heap.size v' ll ∧ Ext w w' := by
  obtain ⟨a, cap, rfl, hc1, hc2⟩ := hl.val
  have hmk := mkRows ll.length (by omega)
  have HL := Lib.hid hlens; clear hlens
  go_enter Try.func35, Try.ntmps35
  go_wp2
  go_loopw [4] (fun i wr => ∃ j : Nat, ∃ vs : List Value, j ≤ ll.length ∧ i = .int .i64 j ∧ vs.length = ll.length ∧ Blk wr w.heap.size 24 vs ∧
      (∀ (i : Nat) (u : Value) (l : List Int), i < j → vs[i]? = some u → ll[i]? = some l → OwnI wr (w.heap.size + 1) u l) ∧ (∀ (i i' : Nat) (u u' : Value) (k : Nat), i < i' → i' < j → vs[i]? = some u → vs[i']? = some u' → u.ownBlock = some k → u'.ownBlock ≠ some k) ∧ Ext w wr ∧ w.heap.size + 1 ≤ wr.heap.size) (fun i _ => ll.length - (intOf i).toNat)
  case atStart => exact ⟨0, List.replicate ll.length (.slice none 0 0), Nat.zero_le _, rfl, by simp, by have := Blk.new w (madeCells #[.slice none 0 0] ll.length) 24; rwa [madeRows_toList] at this, fun i u l h => by omega, fun i i' u u' k h h' => by omega, (by repeat' (first | (with_reducible exact Ext.refl _) | (with_reducible assumption) | (with_reducible apply Ext.alloc) | (with_reducible apply Ext.drew) | (with_reducible apply Ext.drewN) | (refine Ext.setAt ?_ (by omega) _ _) | (refine Ext.trans ?_ (by assumption)))), by simp⟩
  case round =>
    obtain ⟨j, vs, hj, rfl, hvl, hB, hown, hdis, hE, hsz⟩ := hrel
    have HD := Lib.hid hdis; clear hdis
    have HO := Lib.hid hown; clear hown
    have HV := Lib.hid hvl; clear hvl
    by_cases hlt : j < ll.length
    · obtain ⟨b, off, u, l, rfl, hcell, hu, hlj, _⟩ := (hl.ext hE).get hlt
      have hll : l.length ≤ 1048576 := HL.out l (List.mem_of_getElem? hlj)
      have HLJ := Lib.hid hlj; clear hlj
      go_wp2_with fail
      refine (toIntS_any u l _ hu hll).mono ?_
      rintro e1 w1 ⟨v1, rfl, o1, h1⟩
      have hB1 := hB.ext h1
      have hjv : j < vs.length := by have := HV.out; omega
      have ho := hB1.cell (j := j) (List.getElem?_eq_getElem hjv)
      generalize vs[j] = y at ho
      have hf := hB1.free j
      obtain ⟨a1, cap1, rfl, hd1, hd2⟩ := o1.ints.val
      clear hjv
      go_wp2
      go_roundw
      case rel =>
        refine ⟨j + 1, _, by omega, by go_num, ?_, hB1.set j _, ?_, ?_, (hE.trans h1).setAt (Nat.le_refl _) _ _, ?_⟩
        · rw [List.length_set]; exact HV.out
        · intro i u' l' hi hu' hl'
          by_cases hij : i = j
          · subst hij
            rw [List.getElem?_set_self (by have := HV.out; omega)] at hu'
            rw [HLJ.out] at hl'
            obtain rfl := Option.some.inj hu'
            obtain rfl := Option.some.inj hl'
            exact (o1.mono hsz).setBelow (by simp) _
          · rw [List.getElem?_set_ne (fun e => hij e.symm)] at hu'
            exact ((HO.out i u' l' (by omega) hu' hl').ext h1).setBelow (by simp) _
        · intro i i' u1 u2 k hii hi' hu1 hu2 hk1
          by_cases hij : i' = j
          · subst hij
            rw [List.getElem?_set_self (by have := HV.out; omega)] at hu2
            rw [List.getElem?_set_ne (by omega)] at hu1
            obtain rfl := Option.some.inj hu2
            have hl1 : i < ll.length := by omega
            have b1 := ((HO.out i u1 _ hii hu1 (List.getElem?_eq_getElem hl1))).block_lt hk1
            intro hk2
            have b2 := o1.block_lt hk2
            omega
          · rw [List.getElem?_set_ne (by omega)] at hu1 hu2
            exact HD.out i i' u1 u2 k hii (by omega) hu1 hu2 hk1
        · have := h1.size; simp [World.setCell]; omega
      case measure => simp [intOf]; omega
    · have : j = ll.length := by omega
      subst this
      go_wp2
      go_ret
      refine ⟨_, rfl, ⟨.inr ⟨w.heap.size, vs, [], Nat.le_refl _, by simp, HV.out, by simpa using hB, (by rw [List.length_nil, Nat.add_zero]; exact Nat.le_trans hc1 hc2), fun i u l hi hj => ?_, fun i i' u u' k h1 h2 h3 h4 => ?_⟩⟩, hE⟩
      · have hi' := (List.getElem?_eq_some_iff.1 hj).1
        have := HO.out i u l hi' hi hj
        refine ⟨this.mono (by omega), fun hk => ?_⟩
        have := this.block_lt hk
        omega
      · have hi' := (List.getElem?_eq_some_iff.1 h3).1
        exact HD.out i i' u u' k h1 (by have := HV.out; omega) h2 h3 h4
end Go.Proofs.Ytlmidcclcnehnaa
