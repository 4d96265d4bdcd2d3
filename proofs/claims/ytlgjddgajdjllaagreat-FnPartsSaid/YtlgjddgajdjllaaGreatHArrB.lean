/- Arrays of a hundred truths in memory: the labels that occur; markLabels of the program. -/
import Derived.Test.YtlgjddgajdjllaaGreatHAxesW
set_option linter.unusedSimpArgs false
set_option linter.unusedVariables false
namespace Go.Proofs.YtlgjddgajdjllaaGreat
open Go.RowKit
def bls (l : List Bool) : List Value := l.map .bool
theorem bls_get (l : List Bool) (i : Nat) : (bls l)[i]? = (l[i]?).map .bool := by simp [bls]
theorem bls_set (A : List Bool) (j : Nat) (x : Bool) : (bls A).set j (.bool x) = bls (A.set j x) := by simp [bls, List.map_set]
def setA (S : List Int) : List Bool := all100.map fun x => hasL S x
theorem setA_length (S : List Int) : (setA S).length = 100 := by simp [setA, all100]
theorem setA_get (S : List Int) {j : Nat} (h : j < 100) : (setA S)[j]? = some (hasL S (j : Int)) := by
  unfold setA
  rw [List.getElem?_map, all100_get h]; rfl
theorem setA_set (S : List Int) {j : Nat} (h : j < 100) : (setA S).set j true = setA (S ++ [(j : Int)]) := by
  apply List.ext_getElem?
  intro i
  by_cases hi : i < 100
  · rw [setA_get _ hi]
    by_cases e : j = i
    · subst e
      rw [List.getElem?_set_self (by rw [setA_length]; exact h), (hasL_iff _ _).2 (by simp)]
    · rw [List.getElem?_set_ne e, setA_get _ hi]
      have : hasL (S ++ [(j : Int)]) (i : Int) = hasL S (i : Int) := by
        rw [Bool.eq_iff_iff, hasL_iff, hasL_iff]
        simp; omega
      rw [this]
  · rw [List.getElem?_eq_none (by rw [List.length_set, setA_length]; omega), List.getElem?_eq_none (by rw [setA_length]; omega)]
theorem setA_nil : setA [] = List.replicate 100 false := by
  unfold setA
  have : (fun x : Int => hasL [] x) = fun _ => false := by funext x; simp [hasL]
  rw [this, List.map_const', all100, List.length_map, List.length_range]
theorem Tryz.infoArrB : (Tryz.prog.info? 56).map (fun i => i.zero) = some (some (.agg (Array.replicate 100 (.bool false)))) := by kernel_rfl
def arrF : Array Value := (bls (List.replicate 100 false)).toArray
theorem arrF_list : arrF.toList = bls (setA []) := by rw [setA_nil]; simp [arrF]
theorem arrF_eq : arrF = Array.replicate 100 (.bool false) := by
  apply Array.ext'
  simp [arrF, bls]
section
variable {ops : Array Oper} {rest : List Oper} {o : Oper} {a : Act} {w : World} {Q : Exit → Act → World → Prop}
theorem run_alloc_arrB (w : World) : (Instr.alloc 56 true (.tuple #[])).run Tryz.prog w = .ok (.pointer (some ⟨w.heap.size, 0, none⟩)) (w.alloc (.cells arrF 56)) := by
  obtain ⟨i, hi, hz⟩ := Option.map_eq_some_iff.1 Tryz.infoArrB
  rw [arrF_eq]
  simp [Instr.alloc, zeroValue, typeInfo, hi, hz, newVar, newRow, Value.cells, Sem.run_bind]
theorem wpList_alloc_arrB (hg : o.guard = none) (ho : o.op = .alloc 56) (h : wpList Tryz.prog ops Q rest (a.put o.dst (.pointer (some ⟨w.heap.size, 0, none⟩))) (w.alloc (.cells arrF 56))) : wpList Tryz.prog ops Q (o :: rest) a w := by
  refine wpList_plain hg fun K hK => ?_
  unfold Oper.wp execOp
  simp only [ho, Sem.run_bind, run_alloc_arrB, Sem.run_pure, Result.andThen_ok]
  exact hK _ _ h
end
theorem HeldX.addF {ex : Option Nat} {a w : World} {L : List Asn} (h : HeldX ex a w L) (k : Nat) : HeldX ex a (w.alloc (.cells arrF 56)) (L.set k (aB w.heap.size 56 (bls (setA [])))) := by
  have h2 := h.addB k arrF 56
  rwa [arrF_list] at h2
theorem IntS.notB {w : World} {b off n cap q : Nat} {l : List Int} {T : TypeId} {A : List Bool} (h : IntS w (.slice (some ⟨b, off, none⟩) n cap) l) (hl : 0 < l.length) (B : Blk w q T (bls A)) : b ≠ q := by
  rintro rfl
  obtain ⟨b', off', x, hb, hc, _, _⟩ := h.get (i := 0) hl
  cases hb
  have h2 : w.cell? ⟨b, off + 0, none⟩ = (bls A)[off + 0]? := by simp [World.cell?, B.row]
  rw [h2, bls_get] at hc
  cases hA : A[off + 0]? with
  | none => rw [hA] at hc; simp at hc
  | some z => rw [hA] at hc; simp at hc
set_option maxRecDepth 100000 in
set_option maxHeartbeats 2000000 in
theorem markLabels_any (q : Nat) (S L : List Int) (v : Value) (w : World) (B : Blk w q 56 (bls (setA S))) (hL : IntS w v L) (hr : ∀ x ∈ L, 0 ≤ x ∧ x ≤ 99) (hlen : L.length ≤ 1000) : Calls Tryz.prog 24 #[.pointer (some ⟨q, 0, none⟩), v] w fun e w' =>
 e = .returned (.tuple #[]) ∧ Blk w' q 56 (bls (setA (S ++ L))) ∧ w.grownBy w' (some q) := by
 obtain ⟨aL, cL, rfl, hcL1, hcL2⟩ := hL.val
 go_enter Tryz.func24, Tryz.ntmps24
 go_wp2_with fail
 go_loopw [8] (fun i wr => ∃ j : Nat, j ≤ L.length ∧ i = .int .i64 (j : Int) ∧ Blk wr q 56 (bls (setA (S ++ L.take j))) ∧ w.grownBy wr (some q)) (fun i wr => L.length - (RowKit.intOf i).toNat)
 case atStart => exact ⟨0, Nat.zero_le _, rfl, by rw [List.take_zero, List.append_nil]; exact B, grown_refl _ _⟩
 obtain ⟨j, hj, rfl, hB, hG⟩ := hrel
 by_cases hlt : j < L.length
 · obtain ⟨bL, oL, x, rfl, hc0, hx, _⟩ := hL.get hlt
   have hne := hL.notB (by omega) B
   obtain ⟨hx0, hx1⟩ := hr x (List.mem_of_getElem? hx)
   obtain ⟨c, rfl⟩ : ∃ c : Nat, x = (c : Int) := ⟨x.toNat, by omega⟩
   have hcL := grown_cell hG (by simpa using hne) hc0
   have hc : c < 100 := by omega
   have HQ := Lib.hid (show S ++ L.take (j + 1) = S ++ L.take j ++ [(c : Int)] by rw [take_snoc' hx, List.append_assoc])
   obtain ⟨P, hP⟩ : ∃ P, S ++ L.take j = P := ⟨_, rfl⟩
   rw [hP] at hB HQ
   have hcA := hB.cell (j := c) (u := .bool (hasL P (c : Int))) (by rw [bls_get, setA_get P hc]; rfl)
   have hfA := hB.free c
   have hlA := hB.lt
   have hc0' : (0 : Int) ≤ (c : Int) := Int.natCast_nonneg c
   have hc1' : (c : Int) < 100 := by omega
   have hB2 := hB.set c (.bool true)
   rw [bls_set, setA_set P hc] at hB2
   have hG2 := grown_setCell hG c (.bool true)
   clear hP hx hc0
   go_wp2_with fail
   go_roundw
   case rel => exact ⟨j + 1, by omega, by go_num, by rw [HQ.out]; exact hB2, hG2⟩
   case measure => simp [RowKit.intOf]; omega
 have hje : j = L.length := by omega
 subst hje
 rw [List.take_length] at hB
 go_wp2
 go_end0
 exact ⟨rfl, hB, hG⟩
end Go.Proofs.YtlgjddgajdjllaaGreat
