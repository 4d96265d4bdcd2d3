/- Buckets of tensors, plain, and how a row of picked tensors becomes the new own slice. No program in sight. -/
import Derived.Test.YtpegckmagiaggaaKJoinAll
set_option linter.unusedSimpArgs false
set_option linter.unusedVariables false
namespace Go.Proofs.Ytpegckmagiaggaa
open Go.RowKit
section
variable {k p n : Int} {ts : List (NT k p n)} {x : Int}
theorem bucketT_yes {i : Nat} {t : NT k p n} (ht : ts[i]? = some t) (h : hasL t.1 x = true) : bucketT (ts.take (i + 1)) x = bucketT (ts.take i) x ++ [t] ∧ leftT (ts.take (i + 1)) x = leftT (ts.take i) x := by
  unfold bucketT leftT
  rw [List.take_add_one, ht, List.filter_append, List.filter_append]
  simp [h]
theorem bucketT_no {i : Nat} {t : NT k p n} (ht : ts[i]? = some t) (h : hasL t.1 x = false) : bucketT (ts.take (i + 1)) x = bucketT (ts.take i) x ∧ leftT (ts.take (i + 1)) x = leftT (ts.take i) x ++ [t] := by
  unfold bucketT leftT
  rw [List.take_add_one, ht, List.filter_append, List.filter_append]
  simp [h]
theorem bucketT_pos (h : x ∈ occ ts) : 0 < (bucketT ts x).length := by
  obtain ⟨t, ht, hx⟩ := mem_occ.1 h
  exact List.length_pos_of_mem (List.mem_filter.2 ⟨ht, (hasL_iff _ _).2 hx⟩)
end
def aAnd (A B : Asn) : Asn := ⟨A.fp ++ B.fp, fun w => A.holds w ∧ B.holds w, fun w w' e h => ⟨A.loc w w' (fun b hb => e b (List.mem_append_left _ hb)) h.1, B.loc w w' (fun b hb => e b (List.mem_append_right _ hb)) h.2⟩, fun w h b hb => (List.mem_append.1 hb).elim (A.lt w h.1 b) (B.lt w h.2 b)⟩
theorem RowT.wider {w : World} {CS CS' cs : List (Value × Value × Value)} {ts : List Ten3} (h : RowT w CS cs ts) (e : ∀ c ∈ CS, c ∈ CS') : RowT w CS' cs ts := ⟨h.len, h.elem, fun c hc => e c (h.mem c hc)⟩
section
variable {ex : Option Nat} {a w w' : World} {L : List Asn} {k1 k2 k3 : Nat}
theorem HeldX.regrowT {v v2 x y z : Value} {CS cs : List (Value × Value × Value)} {TS ts : List Ten3} {L0 D0 X0 : List Int} {n : Nat} (h : HeldX ex a w L) (h1 : L[k1]? = some (aTs v CS TS)) (h2 : L[k2]? = some (aR 32 3 v2 (n + 1) (cs.flatMap cells3 ++ [x, y, z]))) (h3 : L[k3]? = some (aT (.agg #[x, y, z]) L0 D0 X0)) (h12 : k1 ≠ k2) (h13 : k1 ≠ k3) (h23 : k2 ≠ k3) (hn : ts.length = n) (hR : RowT w CS cs ts) :
    HeldX ex a w (((L.set k3 emp).set k2 emp).set k1 (aTs v2 (cs ++ [(x, y, z)]) (ts ++ [(L0, D0, X0)]))) := by
  subst hn
  obtain ⟨o1, o2, o3⟩ := h.parts h3
  have m1 := h.merge (w' := w) (ob := none) (A := aAnd (aR 32 3 v2 (ts.length + 1) (cs.flatMap cells3 ++ [x, y, z])) (aT (.agg #[x, y, z]) L0 D0 X0)) h2 h3 h23 ((Ext.refl w).gr none) (fun b hb => by cases hb) ⟨h.get h2, h.get h3⟩ (fun b hb => by
    rcases List.mem_append.1 hb with hb | hb
    · exact .inl hb
    · exact .inr (.inl hb))
  have g2 : ((L.set k3 emp).set k2 (aAnd (aR 32 3 v2 (ts.length + 1) (cs.flatMap cells3 ++ [x, y, z])) (aT (.agg #[x, y, z]) L0 D0 X0)))[k2]? = some (aAnd (aR 32 3 v2 (ts.length + 1) (cs.flatMap cells3 ++ [x, y, z])) (aT (.agg #[x, y, z]) L0 D0 X0)) := List.getElem?_set_self (by rw [List.length_set]; exact (List.getElem?_eq_some_iff.1 h2).1)
  have g1 : ((L.set k3 emp).set k2 (aAnd (aR 32 3 v2 (ts.length + 1) (cs.flatMap cells3 ++ [x, y, z])) (aT (.agg #[x, y, z]) L0 D0 X0)))[k1]? = some (aTs v CS TS) := by rw [List.getElem?_set_ne (Ne.symm h12), List.getElem?_set_ne (Ne.symm h13)]; exact h1
  have hR2 : RowT w (CS ++ [(x, y, z)]) (cs ++ [(x, y, z)]) (ts ++ [(L0, D0, X0)]) := (hR.wider fun c hc => List.mem_append_left _ hc).snoc ⟨o1.zero, o2.zero, o3.zero⟩ (by simp)
  have m2 := m1.merge (w' := w) (ob := none) (A := aTs v2 (cs ++ [(x, y, z)]) (ts ++ [(L0, D0, X0)])) g1 g2 h12 ((Ext.refl w).gr none) (fun b hb => by cases hb) ⟨hR2.len, by
      have h4 := h.get h2
      rw [List.length_append, List.length_singleton, List.flatMap_append]
      exact h4, hR2.elem⟩ (fun b hb => by
    rcases List.mem_append.1 hb with hb | hb
    · exact .inr (.inl (List.mem_append_left _ hb))
    · obtain ⟨c, hc, hb⟩ := List.mem_flatMap.1 hb
      rcases List.mem_append.1 hc with hc | hc
      · exact .inl (List.mem_append_right _ (List.mem_flatMap.2 ⟨c, hR.mem c hc, hb⟩))
      · simp at hc; subst hc
        refine .inr (.inl (List.mem_append_right _ ?_))
        show b ∈ fpV (.agg #[x, y, z])
        rw [fpV_agg]
        rcases mem_fpC.1 hb with e | e | e
        · exact List.mem_flatMap.2 ⟨x, by simp, by simp at e; simp [e]⟩
        · exact List.mem_flatMap.2 ⟨y, by simp, by simp at e; simp [e]⟩
        · exact List.mem_flatMap.2 ⟨z, by simp, by simp at e; simp [e]⟩)
  rw [set_set_same] at m2
  exact m2
theorem HeldX.builtTs {x y z : Value} {L0 D0 X0 : List Int} (h : HeldX ex a w L) (h1 : L[k1]? = some (aT (.agg #[x, y, z]) L0 D0 X0)) : HeldX ex a (w.alloc (.cells #[x, y, z] 32)) (L.set k1 (aTs (.slice (some ⟨w.heap.size, 0, none⟩) 1 1) [(x, y, z)] [(L0, D0, X0)])) := by
  have E := (Ext.refl w).alloc (.cells #[x, y, z] 32)
  obtain ⟨o1, o2, o3⟩ := h.parts h1
  refine h.turn (ob := none) h1 (E.gr none) (fun b hb => by cases hb) ⟨rfl, ?_, fun i c t hc ht => ?_⟩ fun b hb => ?_
  · exact World.ownsRow_lit w #[x, y, z] 1 (Nat.zero_le _) (by unfold maxLen; omega) rfl
  · rcases i with _ | i
    · simp at hc ht; subst hc ht
      exact ⟨o1.zero.ext E, o2.zero.ext E, o3.zero.ext E⟩
    · simp at hc
  · rcases List.mem_append.1 hb with hb | hb
    · simp [Value.ownBlock] at hb; subst hb; exact .inr (Nat.le_refl _)
    · left
      obtain ⟨c, hc, hb⟩ := List.mem_flatMap.1 hb
      simp at hc; subst hc
      show b ∈ fpV (.agg #[x, y, z])
      rw [fpV_agg]
      rcases mem_fpC.1 hb with e | e | e
      · exact List.mem_flatMap.2 ⟨x, by simp, by simp at e; simp [e]⟩
      · exact List.mem_flatMap.2 ⟨y, by simp, by simp at e; simp [e]⟩
      · exact List.mem_flatMap.2 ⟨z, by simp, by simp at e; simp [e]⟩
end
theorem IntS.notBlk {w : World} {v : Value} {l : List Int} {q : Nat} {T : TypeId} {xs : List Value} (h : IntS w v l) (hB : Blk w q T xs) (hx : ∀ u ∈ xs, ∀ i : Int, u ≠ .int .i64 i) : 0 < l.length → v.ownBlock ≠ some q := by
  intro hp e
  obtain ⟨a, cap, rfl, _, _, h3⟩ := h.row.val
  obtain ⟨b, off, rfl, hc⟩ := h3 (by rw [ints_length]; exact hp)
  have hb : b = q := by simpa [Value.ownBlock] using e
  subst hb
  obtain ⟨i, hi⟩ : ∃ i : Int, (ints l)[0]? = some (.int .i64 i) := by
    rcases l with _ | ⟨i, l⟩
    · simp at hp
    · exact ⟨i, rfl⟩
  have h4 := hc 0 _ hi
  rw [Nat.add_zero] at h4
  simp only [World.cell?, hB.row] at h4
  simp at h4
  exact hx _ (List.mem_of_getElem? h4) i rfl
theorem TenS.keepB {w w' : World} {v : Value} {L D X : List Int} {q : Nat} {T : TypeId} {xs : List Value} (h : TenS w v L D X) (hB : Blk w q T xs) (hx : ∀ u ∈ xs, ∀ i : Int, u ≠ .int .i64 i) (g : w.grownBy w' (some q)) : TenS w' v L D X := by
  obtain ⟨a, b, c, rfl, h1, h2, h3⟩ := h.val
  exact ⟨a, b, c, rfl, h1.keep g (h1.notBlk hB hx), h2.keep g (h2.notBlk hB hx), h3.keep g (h3.notBlk hB hx)⟩
end Go.Proofs.Ytpegckmagiaggaa
