/- Worlds in which only the blocks of a range have turned; slices of slices: compared and marked. -/
import Derived.Test.YtlmidcclcnehnaaRows2
import Derived.Test.YtlmidcclcnehnaaDecs
import Derived.Test.YtlmidcclcnehnaaSlices
namespace Go.Proofs.Ytlmidcclcnehnaa
open Go.RowKit
set_option linter.unusedSimpArgs false
set_option linter.unusedVariables false

/-- w' is w with at most new blocks, and with the blocks from lo on and below hi turned. -/
structure Turn (lo hi : Nat) (w w' : World) : Prop where
  os : w'.os = w.os
  tape : w'.tape = w.tape
  output : w'.output = w.output
  size : w.heap.size ≤ w'.heap.size
  block : ∀ k, k < w.heap.size → (k < lo ∨ hi ≤ k) → w'.heap[k]? = w.heap[k]?
theorem Turn.refl (lo hi : Nat) (w : World) : Turn lo hi w w := ⟨rfl, rfl, rfl, Nat.le_refl _, fun _ _ _ => rfl⟩
theorem Turn.trans {lo hi : Nat} {a b c : World} (h : Turn lo hi a b) (k : Turn lo hi b c) : Turn lo hi a c :=
  ⟨k.os.trans h.os, k.tape.trans h.tape, k.output.trans h.output, Nat.le_trans h.size k.size, fun i hi ho => (k.block i (Nat.lt_of_lt_of_le hi h.size) ho).trans (h.block i hi ho)⟩
theorem Turn.wide {lo hi lo' hi' : Nat} {a b : World} (h : Turn lo hi a b) (h1 : lo' ≤ lo) (h2 : hi ≤ hi') : Turn lo' hi' a b :=
  ⟨h.os, h.tape, h.output, h.size, fun k hk ho => h.block k hk (by omega)⟩
theorem Turn.grown {lo hi : Nat} {w w' : World} {b : Option Nat} (h : w.grownBy w' b) (hb : ∀ k, b = some k → lo ≤ k ∧ k < hi) : Turn lo hi w w' :=
  ⟨h.os, h.tape, h.output, h.size, fun k hk ho => h.block k hk (fun e => by have := hb k e.symm; omega)⟩
theorem Turn.ext {lo hi : Nat} {w w' : World} (h : Ext w w') : Turn lo hi w w' :=
  ⟨h.below.os, h.below.tape, h.below.output, h.size, fun k hk _ => h.below.block k hk⟩
theorem Ext.turn {lo hi : Nat} {w0 w w' : World} (h : Ext w0 w) (t : Turn lo hi w w') (hl : w0.heap.size ≤ lo) : Ext w0 w' :=
  ⟨{ h.below with
      os := t.os.trans h.below.os, tape := t.tape.trans h.below.tape, output := t.output.trans h.below.output, size := Nat.le_trans h.below.size t.size
      block := fun k hk => (t.block k (Nat.lt_of_lt_of_le hk h.size) (by omega)).trans (h.below.block k hk) }⟩
theorem OwnI.turn {lo hi B : Nat} {w w' : World} {v : Value} {l : List Int} (h : OwnI w B v l) (t : Turn lo hi w w') (hd : hi ≤ B ∨ ∀ k, v.ownBlock = some k → k < lo) : OwnI w' B v l := by
  rcases h.own with h | ⟨b, rest, h1, rfl, h3, h4⟩
  · exact ⟨.inl h⟩
  · exact ⟨.inr ⟨b, rest, h1, rfl, h3.block (t.block b h3.lt (by
      rcases hd with hd | hd
      · exact .inr (Nat.le_trans hd h1)
      · exact .inl (hd b rfl))), h4⟩⟩

/-- The rows' lengths, together. -/
theorem sizeSS_drop {ll : List (List Int)} {j : Nat} {l : List Int} (h : ll.drop j = l :: ll.drop (j + 1)) : sizeSS (ll.drop j) = l.length + sizeSS (ll.drop (j + 1)) := by rw [h, sizeSS_cons]
theorem sizeSS_le (ll : List (List Int)) (j : Nat) : sizeSS (ll.drop j) ≤ sizeSS ll := by
  induction ll generalizing j with
  | nil => simp
  | cons l t ih =>
    cases j with
    | zero => simp
    | succ j => rw [List.drop_succ_cons, sizeSS_cons]; exact Nat.le_trans (ih j) (by omega)
set_option maxHeartbeats 400000 in
/-- All rows are marked: only the rows' own blocks turn. -/
theorem markIntSS_any (B : Nat) (v : Value) (ll : List (List Int)) (k : Int) (w0 w : World) (hl : OwnRows w0 B v ll) (hx : Ext w0 w) (h0 : 0 ≤ k) (h1 : k + sizeSS ll ≤ 4611686018427387904) : Calls Try.prog 38 #[v, .int .i64 k] w fun e w' =>
    e = .returned (.int .i64 (k + sizeSS ll)) ∧ Turn B w0.heap.size w w' := by
  rcases hl.own with ⟨rfl, rfl⟩ | ⟨b, vs, rest, hb, rfl, hvl, hB0, hcap, hown0, hdis⟩
  · go_enter Try.func38, Try.ntmps38
    go_wp2
    go_loop [1, 5] (fun q i => q = .int .i64 k ∧ i = .int .i64 0) (fun q i => 0)
    case atStart => exact ⟨rfl, rfl⟩
    case round =>
      obtain ⟨rfl, rfl⟩ := hrel
      go_wp2
      go_ret
      exact ⟨ret_int (by simp [sizeSS]), Turn.ext (by repeat' (first | (with_reducible exact Ext.refl _) | (with_reducible assumption) | (with_reducible apply Ext.alloc) | (with_reducible apply Ext.drew) | (with_reducible apply Ext.drewN) | (refine Ext.setAt ?_ (by omega) _ _) | (refine Ext.trans ?_ (by assumption))))⟩
  · have hbl : ∀ (i : Nat) (u : Value) (m : Nat), vs[i]? = some u → u.ownBlock = some m → B ≤ m ∧ m < w0.heap.size := by
      intro i u m hu hm
      have hi := (List.getElem?_eq_some_iff.1 hu).1
      exact (hown0 i u ll[i] hu (List.getElem?_eq_getElem (by omega))).1.block_lt hm
    have hB := hB0.ext hx
    have hown : ∀ (i : Nat) (u : Value) (l : List Int), vs[i]? = some u → ll[i]? = some l → OwnI w B u l ∧ u.ownBlock ≠ some b := fun i u l h1 h2 => ⟨(hown0 i u l h1 h2).1.ext hx, (hown0 i u l h1 h2).2⟩
    clear hown0
    have hmax : ll.length + rest.length ≤ 9223372036854775807 := hcap
    have HBL := Lib.hid hbl; clear hbl
    have HD := Lib.hid hdis; clear hdis
    have HO := Lib.hid hown; clear hown
    have HV := Lib.hid hvl; clear hvl
    go_enter Try.func38, Try.ntmps38
    go_wp2
    go_loopw [1, 5] (fun q i wr => ∃ j : Nat, j ≤ ll.length ∧ i = .int .i64 j ∧ (∃ r : Int, q = .int .i64 r ∧ 0 ≤ r ∧ r + sizeSS (ll.drop j) = k + sizeSS ll) ∧ Blk wr b 24 (vs ++ rest) ∧ Turn B w0.heap.size w wr ∧
        (∀ (i : Nat) (u : Value) (l : List Int), j ≤ i → vs[i]? = some u → ll[i]? = some l → OwnI wr B u l)) (fun q i wr => ll.length - (intOf i).toNat)
    case atStart => exact ⟨0, Nat.zero_le _, rfl, ⟨k, rfl, h0, by simp⟩, hB, Turn.refl _ _ _, fun i u l _ h1 h2 => (HO.out i u l h1 h2).1⟩
    case round =>
      obtain ⟨j, hj, rfl, ⟨r, rfl, hr0, hr⟩, hBr, hT, hrows⟩ := hrel
      have HRW := Lib.hid hrows; clear hrows
      by_cases hlt : j < ll.length
      · have hjv : j < vs.length := by have := HV.out; omega
        obtain ⟨u, hu⟩ : ∃ u, vs[j]? = some u := ⟨_, List.getElem?_eq_getElem hjv⟩
        obtain ⟨l, hlj⟩ : ∃ l, ll[j]? = some l := ⟨_, List.getElem?_eq_getElem hlt⟩
        have hcell := hBr.cell (j := j) (u := u) (by rw [List.getElem?_append_left hjv]; exact hu)
        have hd := sizeSS_drop (List.drop_eq_getElem_cons hlt)
        have hll : ll[j] = l := by rw [List.getElem?_eq_getElem hlt] at hlj; injection hlj
        rw [hll] at hd
        have hle := sizeSS_le ll j
        have HU := Lib.hid hu; clear hu
        have HL := Lib.hid hlj; clear hlj
        have ho := HRW.out j u l (Nat.le_refl _) HU.out HL.out
        clear hjv hll
        go_wp2_with fail
        refine (markIntS_any B u l r _ ho hr0 (by omega)).mono ?_
        rintro e1 w1 ⟨rfl, o1, g1⟩
        have hT1 : Turn B w0.heap.size w w1 := hT.trans (Turn.grown g1 (fun m hm => HBL.out j u m HU.out hm))
        have hB1 : Blk w1 b 24 (vs ++ rest) := hBr.block (g1.block b hBr.lt (fun e => (HO.out j u l HU.out HL.out).2 e.symm))
        have hrows1 : ∀ (i : Nat) (u : Value) (l : List Int), j + 1 ≤ i → vs[i]? = some u → ll[i]? = some l → OwnI w1 B u l := fun i u' l' hi hu' hl' =>
          (HRW.out i u' l' (by omega) hu' hl').only g1 (fun m hm e => HD.out j i u u' m (by omega) HU.out hu' e hm)
        have HRW1 := Lib.hid hrows1; clear hrows1
        go_wp2
        go_roundw
        case rel => exact ⟨j + 1, by omega, by go_num, ⟨_, rfl, by omega, by omega⟩, hB1, hT1, HRW1.out⟩
        case measure => simp [intOf]; omega
      · have : j = ll.length := by omega
        subst this
        have hz : sizeSS (ll.drop ll.length) = 0 := by simp [sizeSS]
        rw [hz] at hr
        have HZ := Lib.hid (show r = k + sizeSS ll by omega)
        clear hz hr
        go_wp2
        go_ret
        exact ⟨ret_int HZ.out, hT⟩
end Go.Proofs.Ytlmidcclcnehnaa
