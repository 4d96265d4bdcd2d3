/- Own tensors whose labels turn in place; own tensors appended to own tensors. No program in sight. -/
import Derived.Test.YtpegckmagiaggaaKCopyN
set_option linter.unusedSimpArgs false
set_option linter.unusedVariables false
namespace Go.Proofs.Ytpegckmagiaggaa
open Go.RowKit
section
variable {ex : Option Nat} {a w w' : World} {L : List Asn} {k k1 k2 : Nat}
theorem run_pushTs (ty : TypeId) {v src : Value} {cs cs2 : List (Value × Value × Value)} {ts ts2 : List Ten3} (h : HeldX ex a w L) (h1 : L[k1]? = some (aTs v cs ts)) (h2 : L[k2]? = some (aTs src cs2 ts2)) (hne : k1 ≠ k2) (hb : ts.length + ts2.length ≤ 1099511627) :
    ∃ v' w', (Builtin.append_ #[26, 26] ty #[v, src]).run Try.prog w = .ok v' w' ∧ HeldX ex a w' ((L.set k2 emp).set k1 (aTs v' (cs ++ cs2) (ts ++ ts2))) ∧ w.grownBy w' v.ownBlock := by
  have ho : OwnTs w v cs ts := h.get h1
  have hx : OwnTs w src cs2 ts2 := h.get h2
  obtain ⟨i, hi, hzz⟩ := Option.map_eq_some_iff.1 Try.infoTensor
  simp only [Prod.mk.injEq] at hzz
  obtain ⟨hz, hsz, hby⟩ := hzz
  have one : ∀ u ∈ cs2.flatMap cells3, u.oneCell' = true := fun u hu => by
    obtain ⟨c, hc, hu⟩ := List.mem_flatMap.1 hu
    obtain ⟨q, hq⟩ := List.getElem?_of_mem hc
    have hlt : q < ts2.length := by rw [← hx.len]; exact (List.getElem?_eq_some_iff.1 hq).1
    obtain ⟨g1, g2, g3⟩ := hx.elem q c ts2[q] hq (List.getElem?_eq_getElem hlt)
    obtain ⟨_, _, e1, _⟩ := g1.ints.val
    obtain ⟨_, _, e2, _⟩ := g2.ints.val
    obtain ⟨_, _, e3, _⟩ := g3.ints.val
    simp [cells3] at hu
    rcases hu with rfl | rfl | rfl
    · rw [e1]; rfl
    · rw [e2]; rfl
    · rw [e3]; rfl
  obtain ⟨v', w', e1, e2, e3, e4⟩ := run_app (P := Try.prog) w 0 26 ty 32 i _ 3 72 Try.underlying26 hi hz hsz hby rfl (by omega) v _ _ ho.row src ts2.length _ (ownsRow_row hx.row) one (by unfold maxLen; omega) (by omega) (Nat.zero_le _)
  refine ⟨v', w', e1, h.merge h1 h2 hne e3 (fun b hb => by simp [aTs, hb]) ?_ fun c hc => ?_, e3⟩
  · have far : ∀ {u : Value} {l : List Int}, OwnI w 0 u l → OwnI w' 0 u l := fun {u l} o =>
      o.near fun c hc => by
        refine e3.block c (o.block_lt hc).2 fun e => ?_
        exact ints_not_tens ho.row e.symm o hc rfl
    refine ⟨by simp [ho.len, hx.len], ?_, fun j c t hc ht => ?_⟩
    · rw [List.length_append, List.flatMap_append]
      exact ownsRow_any e2
    · have hl := ho.len
      rcases Nat.lt_or_ge j ts.length with hj | hj
      · rw [List.getElem?_append_left (by omega)] at hc
        rw [List.getElem?_append_left hj] at ht
        obtain ⟨f1, f2, f3⟩ := ho.elem j c t hc ht
        exact ⟨far f1, far f2, far f3⟩
      · rw [List.getElem?_append_right (by omega)] at hc
        rw [List.getElem?_append_right hj] at ht
        rw [show j - cs.length = j - ts.length by omega] at hc
        obtain ⟨f1, f2, f3⟩ := hx.elem _ c t hc ht
        exact ⟨far f1, far f2, far f3⟩
  · rcases List.mem_append.1 hc with hc | hc
    · rcases e4 with e4 | e4
      · exact .inl (List.mem_append_left _ (by rw [← e4]; exact hc))
      · rw [e4] at hc; simp at hc; exact .inr (.inr (by omega))
    · obtain ⟨d, hd, hc⟩ := List.mem_flatMap.1 hc
      rcases List.mem_append.1 hd with hd | hd
      · exact .inl (List.mem_append_right _ (List.mem_flatMap.2 ⟨d, hd, hc⟩))
      · exact .inr (.inl (List.mem_append_right _ (List.mem_flatMap.2 ⟨d, hd, hc⟩)))
end
theorem OwnTs.at {w : World} {a : Option Addr} {n cap : Nat} {cs : List (Value × Value × Value)} {ts : List Ten3} (h : OwnTs w (.slice a n cap) cs ts) {i : Nat} {t : Ten3} (ht : ts[i]? = some t) :
    ∃ b x y z, a = some ⟨b, 0, none⟩ ∧ cs[i]? = some (x, y, z) ∧ w.cell? ⟨b, i * 3, none⟩ = some x ∧ w.cell? ⟨b, i * 3 + 1, none⟩ = some y ∧ w.cell? ⟨b, i * 3 + 2, none⟩ = some z ∧ OwnI w 0 x t.1 ∧ OwnI w 0 y t.2.1 ∧ OwnI w 0 z t.2.2 := by
  have hi : i < ts.length := (List.getElem?_eq_some_iff.1 ht).1
  rcases h.row.2 with ⟨h0, h1⟩ | ⟨g, cap', cur, hv, _⟩
  · omega
  · cases hv
    obtain ⟨x, y, z, h1, h2, h3, h4, h5, h6, h7, _⟩ := h.get ht
    exact ⟨g, x, y, z, rfl, h1, h2, h3, h4, h5, h6, h7⟩
end Go.Proofs.Ytpegckmagiaggaa
