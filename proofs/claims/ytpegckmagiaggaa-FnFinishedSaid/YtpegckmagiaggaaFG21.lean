/- Texts of one kind, merged by program. -/
import Derived.Test.YtpegckmagiaggaaFBase
import Derived.Test.YtpegckmagiaggaaFOrdZ
import Derived.Test.YtpegckmagiaggaaFG5
import Derived.Test.YtpegckmagiaggaaFG17
/- Slices of tensors as they are read, away from a block that will turn. No program in sight. -/
set_option linter.unusedSimpArgs false
set_option linter.unusedVariables false
namespace Go.Proofs.Ytpegckmagiaggaa
open Go.RowKit
theorem cells3_len' (cs : List (Value × Value × Value)) : (cs.flatMap cells3).length = cs.length * 3 := by
  induction cs with
  | nil => rfl
  | cons x l ih => rw [List.flatMap_cons, List.length_append, ih, List.length_cons]; simp [cells3]; omega
structure TensR (w : World) (z : Nat) (v : Value) (cs : List (Value × Value × Value)) (ts : List (List Int × List Int × List Int)) : Prop where
  len : cs.length = ts.length
  row : Row w 3 v ts.length (cs.flatMap cells3)
  elem : ∀ (i : Nat) (c : Value × Value × Value) (t : List Int × List Int × List Int), cs[i]? = some c → ts[i]? = some t → IntS w c.1 t.1 ∧ IntS w c.2.1 t.2.1 ∧ IntS w c.2.2 t.2.2
  off : 0 < ts.length → v.ownBlock ≠ some z
  offs : ∀ (i : Nat) (c : Value × Value × Value) (t : List Int × List Int × List Int), cs[i]? = some c → ts[i]? = some t → (0 < t.1.length → c.1.ownBlock ≠ some z) ∧ (0 < t.2.1.length → c.2.1.ownBlock ≠ some z) ∧ (0 < t.2.2.length → c.2.2.ownBlock ≠ some z)
section
variable {w w' : World} {z s : Nat} {v v' : Value} {cs : List (Value × Value × Value)} {ts : List (List Int × List Int × List Int)}
theorem TensR.toS (h : TensR w z v cs ts) : TensS w v ts := ⟨cs, h.len, h.row, h.elem⟩
theorem TensR.ext (h : TensR w z v cs ts) (e : Ext w w') : TensR w' z v cs ts :=
  ⟨h.len, h.row.ext e, fun i c t hc ht => ⟨(h.elem i c t hc ht).1.ext e, (h.elem i c t hc ht).2.1.ext e, (h.elem i c t hc ht).2.2.ext e⟩, h.off, h.offs⟩
theorem TensR.keep (h : TensR w z v cs ts) (g : w.grownBy w' (some z)) : TensR w' z v cs ts :=
  ⟨h.len, h.row.keep g (fun hp => h.off (by rw [cells3_len', h.len] at hp; omega)), fun i c t hc ht => ⟨(h.elem i c t hc ht).1.keep g (h.offs i c t hc ht).1, (h.elem i c t hc ht).2.1.keep g (h.offs i c t hc ht).2.1, (h.elem i c t hc ht).2.2.keep g (h.offs i c t hc ht).2.2⟩, h.off, h.offs⟩
theorem TensR.at (h : TensR w' z v cs ts) (h2 : TensR w s v cs ts) : TensR w' s v cs ts := ⟨h.len, h.row, h.elem, h2.off, h2.offs⟩
theorem TensR.new (h1 : cs.length = ts.length) (h2 : Row w 3 v ts.length (cs.flatMap cells3)) (h3 : ∀ (i : Nat) (c : Value × Value × Value) (t : List Int × List Int × List Int), cs[i]? = some c → ts[i]? = some t → IntS w c.1 t.1 ∧ IntS w c.2.1 t.2.1 ∧ IntS w c.2.2 t.2.2) (hz : w.heap.size ≤ z) : TensR w z v cs ts := by
  have lt : ∀ {v : Value} {l : List Int}, IntS w v l → 0 < l.length → v.ownBlock ≠ some z := fun h hp e => by
    have := row_block_lt h.row (by rwa [ints_length]) e; omega
  refine ⟨h1, h2, h3, fun hp e => ?_, fun i c t hc ht => ⟨lt (h3 i c t hc ht).1, lt (h3 i c t hc ht).2.1, lt (h3 i c t hc ht).2.2⟩⟩
  have := row_block_lt h2 (by rw [cells3_len', h1]; omega) e; omega
theorem TensR.step (h : TensR w z v cs ts) (i j : Nat) {c0 : Value × Value × Value} {t0 : List Int × List Int × List Int} {m : Nat} (hm : m = (drop2 cs i j).length + 1) (e : Ext w w') (hr : Row w' 3 v' m ((drop2 cs i j).flatMap cells3 ++ cells3 c0)) (hv : v'.ownBlock ≠ some z) (h0 : IntS w' c0.1 t0.1 ∧ IntS w' c0.2.1 t0.2.1 ∧ IntS w' c0.2.2 t0.2.2) (hz : c0.1.ownBlock ≠ some z ∧ c0.2.1.ownBlock ≠ some z ∧ c0.2.2.ownBlock ≠ some z) :
    TensR w' z v' (drop2 cs i j ++ [c0]) (drop2 ts i j ++ [t0]) := by
  have hl := drop2_len2 h.len i j
  have hm2 : (drop2 ts i j ++ [t0]).length = m := by rw [List.length_append, List.length_singleton]; omega
  refine ⟨by simp [hl], ?_, fun q c t hc ht => ?_, fun _ => hv, fun q c t hc ht => ?_⟩
  · rw [hm2, List.flatMap_append, List.flatMap_singleton]; exact hr
  · rcases drop2_two h.len i j hc ht with ⟨q', a, b⟩ | ⟨rfl, rfl⟩
    · exact ⟨(h.elem q' c t a b).1.ext e, (h.elem q' c t a b).2.1.ext e, (h.elem q' c t a b).2.2.ext e⟩
    · exact h0
  · rcases drop2_two h.len i j hc ht with ⟨q', a, b⟩ | ⟨rfl, rfl⟩
    · exact h.offs q' c t a b
    · exact ⟨fun _ => hz.1, fun _ => hz.2.1, fun _ => hz.2.2⟩
theorem TensR.get {a : Option Addr} {n cap : Nat} (h : TensR w z (.slice a n cap) cs ts) {i : Nat} (hi : i < ts.length) :
    ∃ b off c t, a = some ⟨b, off, none⟩ ∧ cs[i]? = some c ∧ ts[i]? = some t ∧ w.cell? ⟨b, off + i * 3, none⟩ = some c.1 ∧ w.cell? ⟨b, off + i * 3 + 1, none⟩ = some c.2.1 ∧ w.cell? ⟨b, off + i * 3 + 2, none⟩ = some c.2.2 ∧ IntS w c.1 t.1 ∧ IntS w c.2.1 t.2.1 ∧ IntS w c.2.2 t.2.2 := by
  obtain ⟨a', cap', hv, _, _, h3⟩ := h.row.val
  cases hv
  have hci : i < cs.length := by rw [h.len]; exact hi
  obtain ⟨b, o, ha, hc⟩ := h3 (by rw [cells3_len']; omega)
  have e1 := List.getElem?_eq_getElem hci
  have e2 := List.getElem?_eq_getElem hi
  have key : ∀ (cs : List (Value × Value × Value)) (i : Nat) (c : Value × Value × Value), cs[i]? = some c → (cs.flatMap cells3)[i * 3]? = some c.1 ∧ (cs.flatMap cells3)[i * 3 + 1]? = some c.2.1 ∧ (cs.flatMap cells3)[i * 3 + 2]? = some c.2.2 := by
    intro cs
    induction cs with
    | nil => intro i c h; simp at h
    | cons x l ih =>
      intro i c h
      cases i with
      | zero => simp at h; subst h; exact ⟨rfl, rfl, rfl⟩
      | succ i =>
        have h2 := ih i c (by simpa using h)
        have q1 : (i + 1) * 3 = i * 3 + 1 + 1 + 1 := by omega
        rw [List.flatMap_cons, q1]
        exact h2
  obtain ⟨g1, g2, g3⟩ := key _ _ _ e1
  exact ⟨b, o, _, _, ha, e1, e2, hc _ _ g1, by rw [Nat.add_assoc]; exact hc _ _ g2, by rw [Nat.add_assoc]; exact hc _ _ g3, h.elem i _ _ e1 e2⟩
end
end Go.Proofs.Ytpegckmagiaggaa

/- Own tensors read away from a block; rows of tensors' cells. No program in sight. -/
namespace Go.Proofs.Ytpegckmagiaggaa
open Go.RowKit
theorem OwnTs.tensR {w : World} {z : Nat} {v : Value} {cs : List (Value × Value × Value)} {ts : List Ten3} (h : OwnTs w v cs ts) (hz : z ∉ (aTs v cs ts).fp) : TensR w z v cs ts := by
  have hm : ∀ {c : Value × Value × Value} {b : Nat}, c ∈ cs → b ∈ fpC c → b ≠ z := fun {c b} hc hb e => hz (by subst e; exact List.mem_append_right _ (List.mem_flatMap.2 ⟨c, hc, hb⟩))
  refine ⟨h.len, ownsRow_row h.row, fun i c t hc ht => ⟨(h.elem i c t hc ht).1.ints, (h.elem i c t hc ht).2.1.ints, (h.elem i c t hc ht).2.2.ints⟩, fun _ e => hz (List.mem_append_left _ (by simp [e])), fun i c t hc ht => ?_⟩
  have hcm := List.mem_of_getElem? hc
  exact ⟨fun _ e => hm hcm (mem_fpC.2 (.inl e)) rfl, fun _ e => hm hcm (mem_fpC.2 (.inr (.inl e))) rfl, fun _ e => hm hcm (mem_fpC.2 (.inr (.inr e))) rfl⟩
section
variable {ex : Option Nat} {a w w' : World} {L : List Asn} {k : Nat}
theorem run_pushR3 (ty : TypeId) {v src x y z : Value} {n : Nat} {xs : List Value} (h : HeldX ex a w L) (h1 : L[k]? = some (aR 32 3 v n xs)) (hr : Row w 3 src 1 [x, y, z]) (hx : x.oneCell' = true) (hy : y.oneCell' = true) (hz' : z.oneCell' = true) (hb : n + 1 ≤ 1099511627) :
    ∃ v' w', (Builtin.append_ #[26, 26] ty #[v, src]).run Try.prog w = .ok v' w' ∧ HeldX ex a w' (L.set k (aR 32 3 v' (n + 1) (xs ++ [x, y, z]))) ∧ w.grownBy w' v.ownBlock ∧ Row w' 3 v' (n + 1) (xs ++ [x, y, z]) := by
  have ho : w.ownsRow 0 32 3 v n xs := h.get h1
  obtain ⟨i, hi, hzz⟩ := Option.map_eq_some_iff.1 Try.infoTensor
  simp only [Prod.mk.injEq] at hzz
  obtain ⟨hz, hsz, hby⟩ := hzz
  obtain ⟨v', w', e1, e2, e3, e4⟩ := run_app (P := Try.prog) w 0 26 ty 32 i _ 3 72 Try.underlying26 hi hz hsz hby rfl (by omega) v _ _ ho src 1 _ hr (by intro u hu; simp at hu; rcases hu with rfl | rfl | rfl; exact hx; exact hy; exact hz') (by unfold maxLen; omega) (by omega) (Nat.zero_le _)
  refine ⟨v', w', e1, h.turn h1 e3 (fun b hb => by simp [aR, hb]) e2 fun c hc => ?_, e3, ownsRow_row e2⟩
  rcases e4 with e4 | e4
  · left; have hc' : c ∈ v'.ownBlock.toList := hc; rw [e4] at hc'; exact hc'
  · right; have hc' : c ∈ v'.ownBlock.toList := hc; rw [e4] at hc'; simp at hc'; omega
end
section
variable {k p n : Int} (hr : ringOk k p n = true) {dm : Int → Int} {U op : List Int}
theorem tenStep_ten {ns : List Int} {tj : List (NT k p n)} {s : Int × Int} {i j : Nat} (hi : findL ns s.1 = (i : Int)) (hj : findL ns s.2 = (j : Int)) {La Lb : List Int} {xa xb : List (El k p n)} (ha : tj[i]? = some (La, xa)) (hb : tj[j]? = some (Lb, xb)) :
    (tenStep hr dm op ns tj s).map (tenOf dm) = drop2 (tj.map (tenOf dm)) i j ++ [(keepL (joinL La Lb) (resL op (tj.map (·.1)) i j), (keepL (joinL La Lb) (resL op (tj.map (·.1)) i j)).map dm, flat (contrXs hr dm La Lb (resL op (tj.map (·.1)) i j) xa xb))] := by
  unfold tenStep
  rw [hi, hj]
  show (stepN hr dm op tj i j).map (tenOf dm) = _
  rw [stepN_eq hr ha hb, List.map_append, drop2_map]
  rfl
end
end Go.Proofs.Ytpegckmagiaggaa
