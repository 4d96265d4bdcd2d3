/- Cursors over drawn bytes. -/
import Derived.Test.YtpimpahmhipifaaDoorSlices
import Derived.Test.YtpimpahmhipifaaDoorData
import Derived.Test.YtpimpahmhipifaaDoorTurn
import Derived.Test.YtpimpahmhipifaaDoorSplice
import Derived.RegionTactic
import Derived.ChangeAlike
import Derived.Laws.BitsLemmas
namespace Go.Proofs.YtpimpahmhipifaaDoor
open Go.RowKit
set_option linter.unusedSimpArgs false
set_option linter.unusedVariables false

theorem and255 (n : Int) : bits .and .i64 n 255 = n % 256 := by
  have h : (BitVec.ofInt 64 255).toNat = 2 ^ 8 - 1 := by decide
  have key : (BitVec.ofInt 64 n &&& BitVec.ofInt 64 255).toNat = (n % ((2 ^ 64 : Nat) : Int)).toNat % 2 ^ 8 := by
    rw [BitVec.toNat_and, BitVec.toNat_ofInt, h, Nat.and_two_pow_sub_one_eq_mod]
  show IntKind.i64.wrap ((BitVec.ofInt 64 n &&& BitVec.ofInt 64 255).toNat : Nat) = n % 256
  rw [key, IntKind.wrap_i64]
  omega
theorem and30 (n : Int) : bits .and .i64 n 1073741823 = n % 1073741824 := by
  have h : (BitVec.ofInt 64 1073741823).toNat = 2 ^ 30 - 1 := by decide
  have key : (BitVec.ofInt 64 n &&& BitVec.ofInt 64 1073741823).toNat = (n % ((2 ^ 64 : Nat) : Int)).toNat % 2 ^ 30 := by
    rw [BitVec.toNat_and, BitVec.toNat_ofInt, h, Nat.and_two_pow_sub_one_eq_mod]
  show IntKind.i64.wrap ((BitVec.ofInt 64 n &&& BitVec.ofInt 64 1073741823).toNat : Nat) = n % 1073741824
  rw [key, IntKind.wrap_i64]
  omega
theorem ByteS.val {w : World} {v : Value} {l : List Int} (h : ByteS w v l) : ∃ a cap, v = .slice a l.length cap ∧ l.length ≤ cap ∧ cap ≤ 9223372036854775807 := by
  obtain ⟨a, cap, hv, h1, h2, _⟩ := h.row.val
  exact ⟨a, cap, hv, h1, h2⟩
theorem ByteS.get {w : World} {a : Option Addr} {n cap : Nat} {l : List Int} (h : ByteS w (.slice a n cap) l) {i : Nat} (hi : i < l.length) :
    ∃ b off x, a = some ⟨b, off, none⟩ ∧ w.cell? ⟨b, off + i, none⟩ = some (.int .u8 x) ∧ l[i]? = some x := by
  obtain ⟨a', cap', hv, _, _, h3⟩ := h.row.val
  cases hv
  obtain ⟨b, off, ha, hc⟩ := h3 (by simp; omega)
  exact ⟨b, off, l[i], ha, hc i _ (by simp [hi]), List.getElem?_eq_getElem hi⟩
theorem ByteS.only {w w' : World} {v : Value} {l : List Int} {b : Nat} (h : ByteS w v l) (e : w.grownBy w' (some b)) (hne : 0 < l.length → v.ownBlock ≠ some b) : ByteS w' v l := by
  obtain ⟨hl, a, cap, hv, h1, h2, h3⟩ := h.row
  refine ⟨hl, a, cap, hv, h1, h2, fun hp => ?_⟩
  obtain ⟨b', off, ha, hc⟩ := h3 hp
  refine ⟨b', off, ha, fun j u hj => e.cell (hc j u hj) ?_⟩
  subst hv; subst ha
  simpa [Value.ownBlock] using hne (by simpa using hp)
theorem IntS.only {w w' : World} {v : Value} {l : List Int} {b : Nat} (h : IntS w v l) (e : w.grownBy w' (some b)) (hne : v.ownBlock ≠ some b) : IntS w' v l := by
  obtain ⟨hl, a, cap, hv, h1, h2, h3⟩ := h.row
  refine ⟨hl, a, cap, hv, h1, h2, fun hp => ?_⟩
  obtain ⟨b', off, ha, hc⟩ := h3 hp
  refine ⟨b', off, ha, fun j u hj => e.cell (hc j u hj) ?_⟩
  subst hv; subst ha
  simpa [Value.ownBlock] using hne

/-- Bytes as they are drawn from. -/
structure Code (w : World) (v : Value) (l : List Int) : Prop where
  bytes : ByteS w v l
  all : ∀ x ∈ l, 0 ≤ x ∧ x ≤ 255
  len : l.length ≤ 1048576
/-- Block b is a cursor. -/
structure Cur (w : World) (b : Nat) (l : List Int) : Prop where
  has : ∃ v i h, Blk w b 73 [v, .int .i64 i, .int .i64 h] ∧ Code w v l ∧ 0 ≤ i ∧ i ≤ (l.length : Int) ∧ -9223372036854775808 ≤ h ∧ h ≤ 9223372036854775807 ∧ (0 < l.length → ∀ k, v.ownBlock = some k → k < b)
theorem Cur.lt {w : World} {b : Nat} {l : List Int} (h : Cur w b l) : b < w.heap.size := by
  obtain ⟨v, i, h, hb, _⟩ := h.has
  exact hb.lt
theorem Cur.ext {w w' : World} {b : Nat} {l : List Int} (h : Cur w b l) (e : Ext w w') : Cur w' b l := by
  obtain ⟨v, i, h, hb, hc, r⟩ := h.has
  exact ⟨v, i, h, hb.ext e, ⟨⟨hc.bytes.row.ext e⟩, hc.all, hc.len⟩, r⟩

theorem ByteS.setAbove {w : World} {v : Value} {l : List Int} (h : ByteS w v l) {q o : Nat} (u : Value) (hq : 0 < l.length → v.ownBlock ≠ some q) : ByteS (w.setCell ⟨q, o, none⟩ u) v l := by
  have g : w.grownBy (w.setCell ⟨q, o, none⟩ u) (some q) := grown_setCell (grown_refl _ _) _ _
  exact h.only g hq
theorem Cur.setOther {w : World} {b : Nat} {l : List Int} (h : Cur w b l) {q o : Nat} (hq : b < q) (u : Value) : Cur (w.setCell ⟨q, o, none⟩ u) b l := by
  obtain ⟨v, i, h, hb, hc, i0, i1, r0, r1, hlow⟩ := h.has
  exact ⟨v, i, h, hb.other (by simp; omega) u, ⟨hc.bytes.setAbove u (fun h e => by have := hlow h q e; omega), hc.all, hc.len⟩, i0, i1, r0, r1, hlow⟩
theorem wrap_range (x : Int) : -9223372036854775808 ≤ wrap64 x ∧ wrap64 x ≤ 9223372036854775807 := by
  unfold wrap64; omega

set_option maxRecDepth 100000 in
set_option maxHeartbeats 1000000 in
theorem l01Byte_any (b : Nat) {l : List Int} (w : World) (hc : Cur w b l) : Calls Tryd.prog 61 #[.pointer (some ⟨b, 0, none⟩)] w fun e w' =>
    ∃ x : Int, e = .returned (.int .i64 x) ∧ (0 ≤ x ∧ x ≤ 255) ∧ Cur w' b l ∧ w.grownBy w' (some b) := by
  obtain ⟨v, i, h, hb, hl, hi0, hi1, hh0, hh1, hlow⟩ := hc.has
  have hne : 0 < l.length → v.ownBlock ≠ some b := fun h e => by have := hlow h b e; omega
  have HLOW := Lib.hid hlow; clear hlow
  obtain ⟨a, cap, rfl, hc1, hc2⟩ := hl.bytes.val
  have hln := hl.len
  have f0 := hb.free 0
  have f1 := hb.free 1
  have f2 := hb.free 2
  have q0 := hb.cell (j := 0) rfl
  have q1 := hb.cell (j := 1) rfl
  have q2 := hb.cell (j := 2) rfl
  have hlt := hb.lt
  go_enter Tryd.func61, Tryd.ntmps61
  go_wp2
  obtain ⟨h2, e2⟩ : ∃ h2, wrap64 (wrap64 (h * 6364136223846793005) + 1442695040888963407) = h2 := ⟨_, rfl⟩
  have hr := wrap_range (wrap64 (h * 6364136223846793005) + 1442695040888963407)
  rw [e2] at hr
  simp only [e2]
  clear e2
  obtain ⟨w1, hw1⟩ : ∃ w1, w.setCell ⟨b, 2, none⟩ (.int .i64 h2) = w1 := ⟨_, rfl⟩
  simp only [hw1]
  have hb1 : Blk w1 b 73 [.slice a l.length cap, .int .i64 i, .int .i64 h2] := by rw [← hw1]; exact hb.set 2 _
  have G1 : w.grownBy w1 (some b) := by rw [← hw1]; exact grown_setCell (grown_refl _ _) _ _
  clear hw1
  have q0' := hb1.cell (j := 0) rfl
  have q1' := hb1.cell (j := 1) rfl
  have q2' := hb1.cell (j := 2) rfl
  have f1' := hb1.free 1
  have hlt1 := hb1.lt
  have hbd := and255 (bits .xor .i64 (h2 / 8589934592) (h2 / 35184372088832))
  have hbr : 0 ≤ bits .xor .i64 (h2 / 8589934592) (h2 / 35184372088832) % 256 ∧ bits .xor .i64 (h2 / 8589934592) (h2 / 35184372088832) % 256 ≤ 255 := by omega
  rw [← hbd] at hbr
  clear hbd
  obtain ⟨m, rfl⟩ : ∃ m : Nat, i = (m : Int) := ⟨i.toNat, by omega⟩
  have bq := hl.bytes
  by_cases hm : m < l.length
  · obtain ⟨bb, off, y, rfl, hcell, hy⟩ := hl.bytes.get hm
    have hyr := hl.all y (List.mem_of_getElem? hy)
    clear hy
    have hnb : bb ≠ b := by simpa [Value.ownBlock] using hne (by omega)
    have hcell1 : w1.cell? ⟨bb, off + m, none⟩ = some (.int .u8 y) := grown_cell G1 hnb hcell
    have hlt2 := World.block_lt_of_cell? w1 _ hcell1
    obtain ⟨y0, y1⟩ := hyr
    go_quiet (fail)
    generalize bits .and .i64 (bits .xor .i64 (h2 / 8589934592) (h2 / 35184372088832)) 255 = x0 at hbr ⊢
    obtain ⟨x00, x01⟩ := hbr
    have hbd2 := and255 (x0 + y)
    have hbr2 : 0 ≤ (x0 + y) % 256 ∧ (x0 + y) % 256 ≤ 255 := by omega
    rw [← hbd2] at hbr2
    clear hbd2
    go_wp2
    go_quiet (fail)
    go_wp2
    go_quiet (fail)
    generalize bits .and .i64 (x0 + y) 255 = x1 at hbr2 ⊢
    go_wp2
    go_ret
    refine ⟨x1, rfl, hbr2, ⟨_, (m : Int) + 1, h2, (hb1.ext (show Ext w1 _ from (by repeat' (first | (with_reducible exact Ext.refl _) | (with_reducible assumption) | (with_reducible apply Ext.alloc) | (with_reducible apply Ext.drew) | (with_reducible apply Ext.drewN) | (refine Ext.setAt ?_ (by omega) _ _) | (refine Ext.trans ?_ (by assumption)))))).set 1 (.int .i64 ((m : Int) + 1)), ?_, by omega, by omega, hr.1, hr.2, HLOW.out⟩, ?_⟩
    · exact ⟨bq.only (show w.grownBy _ (some b) from (by repeat' (first | (with_reducible exact grown_refl _ _) | (with_reducible assumption) | (with_reducible apply grown_alloc) | (with_reducible apply grown_drew) | (with_reducible apply grown_drewN) | (with_reducible refine grown_setCell ?_ _ _) | (refine grownBy_trans ?_ (by assumption))))) hne, hl.all, hl.len⟩
    · exact (by repeat' (first | (with_reducible exact grown_refl _ _) | (with_reducible assumption) | (with_reducible apply grown_alloc) | (with_reducible apply grown_drew) | (with_reducible apply grown_drewN) | (with_reducible refine grown_setCell ?_ _ _) | (refine grownBy_trans ?_ (by assumption))))
  · go_quiet (fail)
    generalize bits .and .i64 (bits .xor .i64 (h2 / 8589934592) (h2 / 35184372088832)) 255 = x0 at hbr ⊢
    go_wp2
    go_quiet (fail)
    go_wp2
    go_ret
    refine ⟨x0, rfl, hbr, ⟨_, (m : Int), h2, hb1.ext (show Ext w1 _ from (by repeat' (first | (with_reducible exact Ext.refl _) | (with_reducible assumption) | (with_reducible apply Ext.alloc) | (with_reducible apply Ext.drew) | (with_reducible apply Ext.drewN) | (refine Ext.setAt ?_ (by omega) _ _) | (refine Ext.trans ?_ (by assumption))))), ?_, by omega, by omega, hr.1, hr.2, HLOW.out⟩, ?_⟩
    · exact ⟨bq.only (show w.grownBy _ (some b) from (by repeat' (first | (with_reducible exact grown_refl _ _) | (with_reducible assumption) | (with_reducible apply grown_alloc) | (with_reducible apply grown_drew) | (with_reducible apply grown_drewN) | (with_reducible refine grown_setCell ?_ _ _) | (refine grownBy_trans ?_ (by assumption))))) hne, hl.all, hl.len⟩
    · exact (by repeat' (first | (with_reducible exact grown_refl _ _) | (with_reducible assumption) | (with_reducible apply grown_alloc) | (with_reducible apply grown_drew) | (with_reducible apply grown_drewN) | (with_reducible refine grown_setCell ?_ _ _) | (refine grownBy_trans ?_ (by assumption))))

set_option maxRecDepth 100000 in
set_option maxHeartbeats 1000000 in
theorem l01New_any (v : Value) (l : List Int) (w : World) (hl : Code w v l) : Calls Tryd.prog 72 #[v] w fun e w' =>
    ∃ b, e = .returned (.pointer (some ⟨b, 0, none⟩)) ∧ w.heap.size ≤ b ∧ Cur w' b l ∧ Ext w w' := by
  obtain ⟨a, cap, rfl, hc1, hc2⟩ := hl.bytes.val
  have hln := hl.len
  have bq := hl.bytes
  have HA := Lib.hid hl.all
  go_enter Tryd.func72, Tryd.ntmps72
  go_wp2
  go_loop [3, 4] (fun q i => ∃ (j : Nat) (h : Int), j ≤ l.length ∧ i = .int .i64 j ∧ q = .int .i64 h ∧ 0 ≤ h ∧ h ≤ 1073741823) (fun q i => l.length - (intOf i).toNat)
  case atStart => exact ⟨0, _, Nat.zero_le _, rfl, rfl, by omega, by omega⟩
  case round =>
    obtain ⟨j, h, hj, rfl, rfl, hh0, hh1⟩ := hrel
    have hend : ∀ w', Ext w w' → ∃ b, (Ending.returned (.pointer (some ⟨w'.heap.size, 0, none⟩)) : Ending) = .returned (.pointer (some ⟨b, 0, none⟩)) ∧ w.heap.size ≤ b ∧ Cur (w'.alloc (.cells #[.slice a l.length cap, .int .i64 0, .int .i64 h] 73)) b l ∧ Ext w (w'.alloc (.cells #[.slice a l.length cap, .int .i64 0, .int .i64 h] 73)) := by
      intro w' e
      refine ⟨_, rfl, e.size, ⟨_, 0, h, Blk.new w' #[_, _, _] 73, ⟨⟨(bq.row.ext e).ext (by repeat' (first | (with_reducible exact Ext.refl _) | (with_reducible assumption) | (with_reducible apply Ext.alloc) | (with_reducible apply Ext.drew) | (with_reducible apply Ext.drewN) | (refine Ext.setAt ?_ (by omega) _ _) | (refine Ext.trans ?_ (by assumption))))⟩, HA.out, hln⟩, by omega, by omega, by omega, by omega, ?_⟩, (by repeat' (first | (with_reducible exact Ext.refl _) | (with_reducible assumption) | (with_reducible apply Ext.alloc) | (with_reducible apply Ext.drew) | (with_reducible apply Ext.drewN) | (refine Ext.setAt ?_ (by omega) _ _) | (refine Ext.trans ?_ (by assumption))))⟩
      intro h0 k hb
      obtain ⟨b2, off, y, rfl, hcell, _⟩ := bq.get h0
      have hbl : b2 < w.heap.size := World.block_lt_of_cell? w _ hcell
      have := e.size
      have hb2 : b2 = k := by simpa [Value.ownBlock] using hb
      omega
    have HEND := Lib.hid hend; clear hend
    by_cases hlt : j < l.length
    · by_cases h4 : j < 4000
      · obtain ⟨b, off, y, rfl, hcell, hy⟩ := bq.get hlt
        obtain ⟨y0, y1⟩ := HA.out y (List.mem_of_getElem? hy)
        clear hy
        have hbd := and30 (h * 131 + y + 7)
        have hbr : 0 ≤ (h * 131 + y + 7) % 1073741824 ∧ (h * 131 + y + 7) % 1073741824 ≤ 1073741823 := by omega
        rw [← hbd] at hbr
        clear hbd
        go_wp2
        generalize bits .and .i64 (h * 131 + y + 7) 1073741823 = h' at hbr ⊢
        go_round
        case rel => exact ⟨j + 1, _, by omega, by go_num, rfl, hbr.1, hbr.2⟩
        case measure => simp [intOf]; omega
      · go_wp2
        go_ret
        exact HEND.out _ (by repeat' (first | (with_reducible exact Ext.refl _) | (with_reducible assumption) | (with_reducible apply Ext.alloc) | (with_reducible apply Ext.drew) | (with_reducible apply Ext.drewN) | (refine Ext.setAt ?_ (by omega) _ _) | (refine Ext.trans ?_ (by assumption))))
    · have : j = l.length := by omega
      subst this
      go_wp2
      go_ret
      exact HEND.out _ (by repeat' (first | (with_reducible exact Ext.refl _) | (with_reducible assumption) | (with_reducible apply Ext.alloc) | (with_reducible apply Ext.drew) | (with_reducible apply Ext.drewN) | (refine Ext.setAt ?_ (by omega) _ _) | (refine Ext.trans ?_ (by assumption))))

set_option maxRecDepth 100000 in
theorem l45At_any (v : Value) (l : List Int) (n : Int) (w : World) (hl : Code w v l) (hn : 0 ≤ n ∧ n ≤ 1000000) : Calls Tryd.prog 60 #[v, .int .i64 n] w fun e w' =>
    ∃ b, e = .returned (.pointer (some ⟨b, 0, none⟩)) ∧ w.heap.size ≤ b ∧ Cur w' b l ∧ Ext w w' := by
  obtain ⟨a, cap, rfl, hc1, hc2⟩ := hl.bytes.val
  obtain ⟨hn0, hn1⟩ := hn
  have hln := hl.len
  go_enter Tryd.func60, Tryd.ntmps60
  go_wp2_with fail
  refine (l01New_any _ l _ hl).mono ?_; rintro e1 w1 ⟨b, rfl, hb, c1, h1⟩
  obtain ⟨v2, i2, h2, hB, hC, i0, i1, r0, r1, hlow⟩ := c1.has
  have hne : 0 < l.length → v2.ownBlock ≠ some b := fun h e => by have := hlow h b e; omega
  have HLOW := Lib.hid hlow; clear hlow
  have f1 := hB.free 1
  have f2 := hB.free 2
  have q2 := hB.cell (j := 2) rfl
  have q1 := hB.cell (j := 1) rfl
  have hlt := hB.lt
  have hbd : ∀ z, -9223372036854775808 ≤ bits .and .i64 z 1073741823 ∧ bits .and .i64 z 1073741823 ≤ 9223372036854775807 := fun z => by rw [and30]; omega
  have HBD := Lib.hid hbd; clear hbd
  go_wp2
  all_goals
    go_ret
    refine ⟨b, rfl, hb, ⟨_, _, _, (hB.set 1 _).set 2 _, ⟨hC.bytes.only (show w1.grownBy _ (some b) from (by repeat' (first | (with_reducible exact grown_refl _ _) | (with_reducible assumption) | (with_reducible apply grown_alloc) | (with_reducible apply grown_drew) | (with_reducible apply grown_drewN) | (with_reducible refine grown_setCell ?_ _ _) | (refine grownBy_trans ?_ (by assumption))))) hne, hC.all, hC.len⟩, by omega, by omega, (HBD.out _).1, (HBD.out _).2, HLOW.out⟩, ?_⟩
    exact (h1.setAt hb _ _).setAt hb _ _
end Go.Proofs.YtpimpahmhipifaaDoor
