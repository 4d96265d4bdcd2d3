/- Orders that are made from two places of the live tensors, plain. No program in sight but append. -/
import Derived.Test.YtpegckmagiaggaaTBestQ
import Derived.Test.YtpegckmagiaggaaTOrdM
set_option linter.unusedSimpArgs false
set_option linter.unusedVariables false
namespace Go.Proofs.Ytpegckmagiaggaa
open Go.RowKit
theorem dropGo_sorted {l : List Int} (h : l.Pairwise (· < ·)) (i j : Nat) : ∀ m, (dropGo l i j m).Pairwise (· < ·)
  | 0 => List.Pairwise.nil
  | m + 1 => by
    by_cases e : m = i ∨ m = j
    · rw [dropGo_no e]; exact dropGo_sorted h i j m
    · rcases hx : l[m]? with _ | x
      · have e2 : dropGo l i j (m + 1) = dropGo l i j m := by
          unfold dropGo
          rw [List.range_succ, List.filterMap_append]
          simp [e, hx]
        rw [e2]; exact dropGo_sorted h i j m
      · rw [dropGo_yes e hx, List.pairwise_append]
        refine ⟨dropGo_sorted h i j m, List.pairwise_singleton _ _, fun a ha b hb => ?_⟩
        simp at hb; subst hb
        obtain ⟨q, hq, _, hqa⟩ := mem_dropGo.1 ha
        obtain ⟨h1, rfl⟩ := List.getElem?_eq_some_iff.1 hqa
        obtain ⟨h2, rfl⟩ := List.getElem?_eq_some_iff.1 hx
        exact List.pairwise_iff_getElem.1 h q m h1 h2 hq
theorem drop2_sorted {l : List Int} (h : l.Pairwise (· < ·)) (i j : Nat) {nx : Int} (hn : ∀ c ∈ l, c < nx) : (drop2 l i j ++ [nx]).Pairwise (· < ·) := by
  rw [List.pairwise_append]
  refine ⟨dropGo_sorted h i j _, List.pairwise_singleton _ _, fun a ha b hb => ?_⟩
  simp at hb; subst hb
  obtain ⟨q, _, hq⟩ := mem_drop2.1 ha
  exact hn a (List.mem_of_getElem? hq)
theorem sorted_lt {l : List Int} (h : l.Pairwise (· < ·)) {p q : Nat} {a b : Int} (hp : l[p]? = some a) (hq : l[q]? = some b) (hpq : p < q) : a < b := by
  obtain ⟨h1, rfl⟩ := List.getElem?_eq_some_iff.1 hp
  obtain ⟨h2, rfl⟩ := List.getElem?_eq_some_iff.1 hq
  exact List.pairwise_iff_getElem.1 h p q h1 h2 hpq
theorem numL_sorted (m : Nat) : (numL m).Pairwise (· < ·) := List.pairwise_map.2 (List.pairwise_lt_range.imp fun h => by omega)
theorem tri_step {d q : Int} (h : 2 * q < d * (d - 1)) (h2 : d - 1 ≤ q) : 2 * (q - (d - 1)) < (d - 1) * (d - 1 - 1) := by
  have e : (d - 1) * (d - 1 - 1) = d * (d - 1) - 2 * (d - 1) := by
    simp only [Int.sub_mul, Int.mul_sub, Int.one_mul, Int.mul_one]; omega
  rw [e]; omega
theorem tri_pos {d q : Int} (h0 : 0 ≤ q) (h1 : 1 ≤ d) (h : 2 * q < d * (d - 1)) : 2 ≤ d := by
  apply Classical.byContradiction
  intro hd
  have : d = 1 := by omega
  subst this
  simp at h; omega
theorem tri_half (m : Int) (hm : 2 ≤ m) (hm2 : m ≤ 12) : 1 ≤ m * (m - 1) / 2 ∧ m * (m - 1) = 2 * (m * (m - 1) / 2) ∧ m * (m - 1) ≤ 132 := by
  have : m = 2 ∨ m = 3 ∨ m = 4 ∨ m = 5 ∨ m = 6 ∨ m = 7 ∨ m = 8 ∨ m = 9 ∨ m = 10 ∨ m = 11 ∨ m = 12 := by omega
  rcases this with rfl | rfl | rfl | rfl | rfl | rfl | rfl | rfl | rfl | rfl | rfl <;> decide
section
variable {k p n : Int} {hr : ringOk k p n = true} {dm : Int → Int} {U op : List Int} {ts : List (NT k p n)} {os : List (Int × Int)} {ns : List Int} {tj : List (NT k p n)} {ms : List Nat}
structure MakG (hr : ringOk k p n = true) (dm : Int → Int) (U op : List Int) (ts : List (NT k p n)) (os : List (Int × Int)) (ns : List Int) (tj : List (NT k p n)) : Prop where
  liv : ∃ ms, LiveM hr dm U op ts os ns tj ms
  srt : ns.Pairwise (· < ·)
theorem MakG.start (hN : IsN k p n dm U ts op) : MakG hr dm U op ts [] (numL ts.length) ts := ⟨⟨_, LiveM.start hN⟩, numL_sorted _⟩
theorem MakG.ats (h : MakG hr dm U op ts os ns tj) : AtStep hr dm U op (numL ts.length) (ts.length : Int) ts os os.length ns tj := by
  obtain ⟨_, h⟩ := h.liv; exact h.ats
theorem MakG.ok (h : MakG hr dm U op ts os ns tj) : okO (numL ts.length) (ts.length : Int) os := by
  obtain ⟨_, h⟩ := h.liv; exact h.ok
theorem MakG.step (hN : IsN k p n dm U ts op) (h : MakG hr dm U op ts os ns tj) {i j : Nat} {a b : Int} (hij : i < j) (hi : ns[i]? = some a) (hj : ns[j]? = some b) :
    MakG hr dm U op ts (os ++ [(a, b)]) (drop2 ns i j ++ [(ts.length : Int) + os.length]) (stepN hr dm op tj i j) := by
  obtain ⟨ms, hL⟩ := h.liv
  have hab := sorted_lt h.srt hi hj hij
  have hil : i < ms.length := by rw [hL.len, ← hL.ats.len]; exact (List.getElem?_eq_some_iff.1 hi).1
  have hjl : j < ms.length := by rw [hL.len, ← hL.ats.len]; exact (List.getElem?_eq_some_iff.1 hj).1
  have hS := (hL.step hN hi hj hab (List.getElem?_eq_getElem hil) (List.getElem?_eq_getElem hjl)).1
  obtain ⟨i', e1, e1'⟩ := find_nat (List.mem_of_getElem? hi)
  obtain ⟨j', e2, e2'⟩ := find_nat (List.mem_of_getElem? hj)
  obtain rfl := nodup_idx hL.nod e1' hi
  obtain rfl := nodup_idx hL.nod e2' hj
  have e : tenStep hr dm op ns tj (a, b) = stepN hr dm op tj i' j' := by unfold tenStep; rw [e1, e2]; rfl
  rw [e] at hS
  exact ⟨⟨_, hS⟩, drop2_sorted h.srt _ _ fun c hc => (hL.lt c hc).2⟩
theorem MakG.done (h : MakG hr dm U op ts os ns tj) (h1 : tj.length ≤ 1) : os.length = ts.length - 1 := by
  obtain ⟨ms, hL⟩ := h.liv
  have hl := hL.ats.left
  by_cases e : ts.length = 0
  · omega
  · obtain ⟨s, hs, _⟩ := hL.cover 0 (by omega)
    have := List.length_pos_of_mem hs
    have := hL.len
    omega
end
section
variable {ex : Option Nat} {a w w' : World} {L : List Asn} {k : Nat}
theorem run_pushSt3 (ty : TypeId) {v src : Value} {os : List (Int × Int)} {x y : Int} (h : HeldX ex a w L) (h1 : L[k]? = some (aSt v os)) (hr : Row w 2 src 1 [.int .i64 x, .int .i64 y]) (hb : os.length + 1 ≤ 1099511627) :
    ∃ v' w', (Builtin.append_ #[72, 72] ty #[v, src]).run Try.prog w = .ok v' w' ∧ HeldX ex a w' (L.set k (aSt v' (os ++ [(x, y)]))) ∧ w.grownBy w' v.ownBlock ∧ StepsS w' v' (os ++ [(x, y)]) ∧ (∀ q, v'.ownBlock = some q → v.ownBlock = some q ∨ w.heap.size ≤ q) := by
  have ho : w.ownsRow 0 138 2 v os.length (os.flatMap cellsP) := h.get h1
  obtain ⟨i, hi, hzz⟩ := Option.map_eq_some_iff.1 Try.infoStep
  simp only [Prod.mk.injEq] at hzz
  obtain ⟨hz, hsz, hby⟩ := hzz
  obtain ⟨v', w', e1, e2, e3, e4⟩ := run_app (P := Try.prog) w 0 72 ty 138 i _ 2 16 Try.underlying72 hi hz hsz hby rfl (by omega) v _ _ ho src 1 _ hr (by intro u hu; simp at hu; rcases hu with rfl | rfl <;> rfl) (by unfold maxLen; omega) (by omega) (Nat.zero_le _)
  have hX : HeldX ex a w' (L.set k (aR 138 2 v' (os.length + 1) (os.flatMap cellsP ++ [.int .i64 x, .int .i64 y]))) := h.turn h1 e3 (fun b hb => by simp [aSt, aR, hb]) e2 fun c hc => by
    rcases e4 with e4 | e4
    · left; have hc' : c ∈ v'.ownBlock.toList := hc; rw [e4] at hc'; exact hc'
    · right; have hc' : c ∈ v'.ownBlock.toList := hc; rw [e4] at hc'; simp at hc'; omega
  have e : aR 138 2 v' (os.length + 1) (os.flatMap cellsP ++ [.int .i64 x, .int .i64 y]) = aSt v' (os ++ [(x, y)]) := by
    unfold aSt
    rw [List.flatMap_append, List.length_append]; rfl
  rw [e] at hX
  have hlt : k < L.length := (List.getElem?_eq_some_iff.1 h1).1
  refine ⟨v', w', e1, hX, e3, hX.steps (k := k) (List.getElem?_set_self hlt), fun q hq => ?_⟩
  rcases e4 with e4 | e4
  · left; rw [← e4]; exact hq
  · right; rw [e4] at hq; cases hq; exact Nat.le_refl _
end
end Go.Proofs.Ytpegckmagiaggaa
