/- Texts of one kind, merged by program. -/
import Derived.Test.YtpegckmagiaggaaKCopyN
import Derived.Test.YtpegckmagiaggaaKNetVX
/- Live tensors of an order: numbers and labels, of the call's own and as they are read. No program in sight. -/
set_option linter.unusedSimpArgs false
set_option linter.unusedVariables false
namespace Go.Proofs.Ytpegckmagiaggaa
open Go.RowKit
def cells2 (c : Int × Value) : List Value := [.int .i64 c.1, c.2]
theorem cells2_len (cs : List (Int × Value)) : (cs.flatMap cells2).length = cs.length * 2 := by
  induction cs with
  | nil => rfl
  | cons x l ih => rw [List.flatMap_cons, List.length_append, ih, List.length_cons]; simp [cells2]; omega
theorem cells2_get {cs : List (Int × Value)} {i : Nat} {c : Int × Value} (h : cs[i]? = some c) : (cs.flatMap cells2)[2 * i]? = some (.int .i64 c.1) ∧ (cs.flatMap cells2)[2 * i + 1]? = some c.2 := by
  induction cs generalizing i with
  | nil => simp at h
  | cons x l ih =>
    cases i with
    | zero => simp at h; subst h; exact ⟨rfl, rfl⟩
    | succ i =>
      have h2 := ih (i := i) (by simpa using h)
      have e1 : 2 * (i + 1) = 2 * i + 1 + 1 := by omega
      rw [List.flatMap_cons, e1]
      exact h2
structure OwnLv (w : World) (v : Value) (cs : List (Int × Value)) (ls : List (List Int)) : Prop where
  len : cs.length = ls.length
  row : w.ownsRow 0 140 2 v ls.length (cs.flatMap cells2)
  elem : ∀ (i : Nat) (c : Int × Value) (l : List Int), cs[i]? = some c → ls[i]? = some l → OwnI w 0 c.2 l
theorem OwnLv.nil (w : World) : OwnLv w (.slice none 0 0) [] [] := ⟨rfl, ⟨rfl, .inl ⟨rfl, rfl⟩⟩, fun i c t h => by simp at h⟩
structure LiveR (w : World) (s : Nat) (v : Value) (cs : List (Int × Value)) (ls : List (List Int)) : Prop where
  len : cs.length = ls.length
  row : Row w 2 v ls.length (cs.flatMap cells2)
  elem : ∀ (i : Nat) (c : Int × Value) (l : List Int), cs[i]? = some c → ls[i]? = some l → IntS w c.2 l
  off : 0 < ls.length → v.ownBlock ≠ some s
  offs : ∀ (i : Nat) (c : Int × Value) (l : List Int), cs[i]? = some c → ls[i]? = some l → 0 < l.length → c.2.ownBlock ≠ some s
theorem Row.keep {w w' : World} {s size n : Nat} {v : Value} {xs : List Value} (h : Row w size v n xs) (g : w.grownBy w' (some s)) (hs : 0 < xs.length → v.ownBlock ≠ some s) : Row w' size v n xs := by
  obtain ⟨hl, a, cap, hv, h1, h2, h3⟩ := h
  refine ⟨hl, a, cap, hv, h1, h2, fun hp => ?_⟩
  obtain ⟨b, off, ha, hc⟩ := h3 hp
  refine ⟨b, off, ha, fun j u hj => ?_⟩
  have c1 := hc j u hj
  have hb : b ≠ s := by
    rintro rfl
    subst hv ha
    exact hs hp rfl
  have hlt := World.block_lt_of_cell? _ _ c1
  rw [← c1]
  have := g.block b hlt (fun e => hb (Option.some.inj e))
  simp only [World.cell?]
  rw [this]
theorem IntS.keep {w w' : World} {s : Nat} {v : Value} {l : List Int} (h : IntS w v l) (g : w.grownBy w' (some s)) (hs : 0 < l.length → v.ownBlock ≠ some s) : IntS w' v l := ⟨h.row.keep g fun hp => hs (by rwa [ints_length] at hp)⟩
theorem LiveR.get {w : World} {s : Nat} {a : Option Addr} {n cap : Nat} {cs : List (Int × Value)} {ls : List (List Int)} (h : LiveR w s (.slice a n cap) cs ls) {i : Nat} (hi : i < ls.length) :
    ∃ b o c l, a = some ⟨b, o, none⟩ ∧ cs[i]? = some c ∧ ls[i]? = some l ∧ w.cell? ⟨b, o + 2 * i, none⟩ = some (.int .i64 c.1) ∧ w.cell? ⟨b, o + (2 * i + 1), none⟩ = some c.2 ∧ IntS w c.2 l := by
  obtain ⟨a', cap', hv, _, _, h3⟩ := h.row.val
  cases hv
  have hci : i < cs.length := by rw [h.len]; exact hi
  obtain ⟨b, o, ha, hc⟩ := h3 (by rw [cells2_len]; omega)
  have e1 := List.getElem?_eq_getElem hci
  have e2 := List.getElem?_eq_getElem hi
  obtain ⟨g1, g2⟩ := cells2_get e1
  exact ⟨b, o, _, _, ha, e1, e2, hc _ _ g1, hc _ _ g2, h.elem i _ _ e1 e2⟩
theorem LiveR.val {w : World} {s : Nat} {v : Value} {cs : List (Int × Value)} {ls : List (List Int)} (h : LiveR w s v cs ls) : ∃ a cap, v = .slice a ls.length cap ∧ ls.length ≤ cap ∧ cap ≤ 9223372036854775807 := by
  obtain ⟨a, cap, hv, h1, h2, _⟩ := h.row.val
  exact ⟨a, cap, hv, h1, h2⟩
def aR (T : TypeId) (sz : Nat) (v : Value) (n : Nat) (xs : List Value) : Asn :=
  ⟨v.ownBlock.toList, fun w => w.ownsRow 0 T sz v n xs, fun w w' e h => ownsRow_near h fun b hb => e b (by simp [hb]), fun w h b hb => (ownsRow_lt h (by simpa using hb)).2⟩
section
variable {ex : Option Nat} {a w w' : World} {L : List Asn} {k : Nat}
theorem HeldX.nilR (h : HeldX ex a w L) (T : TypeId) (sz : Nat) : HeldX ex a w (L ++ [aR T sz (.slice none 0 0) 0 []]) := by
  have h2 := h.more
  have h3 := h2.alter (k := L.length) (A0 := emp) (A := aR T sz (.slice none 0 0) 0 []) (by simp) ⟨by simp, .inl ⟨rfl, rfl⟩⟩ (fun b hb => by simp [aR, Value.ownBlock] at hb)
  rwa [List.set_append_right _ _ (Nat.le_refl _), Nat.sub_self, List.set_cons_zero] at h3
end
theorem LiveR.at {w w' : World} {s z : Nat} {v : Value} {cs : List (Int × Value)} {ls : List (List Int)} (h : LiveR w' z v cs ls) (h2 : LiveR w s v cs ls) : LiveR w' s v cs ls := ⟨h.len, h.row, h.elem, h2.off, h2.offs⟩
structure RowL (w : World) (vs : List Value) (ll : List (List Int)) : Prop where
  len : vs.length = ll.length
  elem : ∀ (i : Nat) (u : Value) (l : List Int), vs[i]? = some u → ll[i]? = some l → IntS w u l
theorem RowL.nil (w : World) : RowL w [] [] := ⟨rfl, fun i u l h => by simp at h⟩
theorem RowsS.of {w : World} {v : Value} {vs : List Value} {ll : List (List Int)} (h : RowL w vs ll) (hr : Row w 1 v ll.length vs) : RowsS w v ll := ⟨vs, h.len, hr, h.elem⟩
section
variable {ex : Option Nat} {a w w' : World} {L : List Asn} {k : Nat}
theorem run_pushR1 (ty : TypeId) {v src x : Value} {n : Nat} {xs : List Value} (h : HeldX ex a w L) (h1 : L[k]? = some (aR 27 1 v n xs)) (hr : Row w 1 src 1 [x]) (hx : x.oneCell' = true) (hb : n + 1 ≤ 1099511627) :
    ∃ v' w', (Builtin.append_ #[33, 33] ty #[v, src]).run Try.prog w = .ok v' w' ∧ HeldX ex a w' (L.set k (aR 27 1 v' (n + 1) (xs ++ [x]))) ∧ w.grownBy w' v.ownBlock ∧ Row w' 1 v' (n + 1) (xs ++ [x]) := by
  have ho : w.ownsRow 0 27 1 v n xs := h.get h1
  obtain ⟨i, hi, hzz⟩ := Option.map_eq_some_iff.1 Try.infoInts
  simp only [Prod.mk.injEq] at hzz
  obtain ⟨hz, hsz, hby⟩ := hzz
  obtain ⟨v', w', e1, e2, e3, e4⟩ := run_app (P := Try.prog) w 0 33 ty 27 i _ 1 24 Try.underlying33 hi hz hsz hby rfl (by omega) v _ _ ho src 1 _ hr (by intro u hu; simp at hu; subst hu; exact hx) (by unfold maxLen; omega) (by omega) (Nat.zero_le _)
  refine ⟨v', w', e1, h.turn h1 e3 (fun b hb => by simp [aR, hb]) e2 fun c hc => ?_, e3, ownsRow_row e2⟩
  rcases e4 with e4 | e4
  · left; have hc' : c ∈ v'.ownBlock.toList := hc; rw [e4] at hc'; exact hc'
  · right; have hc' : c ∈ v'.ownBlock.toList := hc; rw [e4] at hc'; simp at hc'; omega
end
theorem cells3_len' (cs : List (Value × Value × Value)) : (cs.flatMap cells3).length = cs.length * 3 := by
  induction cs with
  | nil => rfl
  | cons x l ih => rw [List.flatMap_cons, List.length_append, ih, List.length_cons]; simp [cells3]; omega
structure TensR (w : World) (z : Nat) (v : Value) (cs : List (Value × Value × Value)) (ts : List (List Int × List Int × List Int)) : Prop where
  len : cs.length = ts.length
  row : Row w 3 v ts.length (cs.flatMap cells3)
  elem : ∀ (i : Nat) (c : Value × Value × Value) (t : List Int × List Int × List Int), cs[i]? = some c → ts[i]? = some t → IntS w c.1 t.1 ∧ IntS w c.2.1 t.2.1 ∧ IntS w c.2.2 t.2.2
  off : 0 < ts.length → v.ownBlock ≠ some z
  offs : ∀ (i : Nat) (c : Value × Value × Value) (t : List Int × List Int × List Int), cs[i]? = some c → ts[i]? = some t → (0 < t.1.length → c.1.ownBlock ≠ some z) ∧ (0 < t.2.1.length → c.2.1.ownBlock ≠ some z) ∧ (0 < t.2.2.length → c.2.2.ownBlock ≠ some z)
section
variable {w w' : World} {z s : Nat} {v v' : Value} {cs : List (Value × Value × Value)} {ts : List (List Int × List Int × List Int)}
theorem TensR.at (h : TensR w' z v cs ts) (h2 : TensR w s v cs ts) : TensR w' s v cs ts := ⟨h.len, h.row, h.elem, h2.off, h2.offs⟩
theorem TensR.get {a : Option Addr} {n cap : Nat} (h : TensR w z (.slice a n cap) cs ts) {i : Nat} (hi : i < ts.length) :
    ∃ b off c t, a = some ⟨b, off, none⟩ ∧ cs[i]? = some c ∧ ts[i]? = some t ∧ w.cell? ⟨b, off + i * 3, none⟩ = some c.1 ∧ w.cell? ⟨b, off + i * 3 + 1, none⟩ = some c.2.1 ∧ w.cell? ⟨b, off + i * 3 + 2, none⟩ = some c.2.2 ∧ IntS w c.1 t.1 ∧ IntS w c.2.1 t.2.1 ∧ IntS w c.2.2 t.2.2 := by
  obtain ⟨a', cap', hv, _, _, h3⟩ := h.row.val
  cases hv
  have hci : i < cs.length := by rw [h.len]; exact hi
  obtain ⟨b, o, ha, hc⟩ := h3 (by rw [cells3_len']; omega)
  have e1 := List.getElem?_eq_getElem hci
  have e2 := List.getElem?_eq_getElem hi
  have key : ∀ (cs : List (Value × Value × Value)) (i : Nat) (c : Value × Value × Value), cs[i]? = some c → (cs.flatMap cells3)[i * 3]? = some c.1 ∧ (cs.flatMap cells3)[i * 3 + 1]? = some c.2.1 ∧ (cs.flatMap cells3)[i * 3 + 2]? = some c.2.2 := by
    intro cs
    induction cs with
    | nil => intro i c h; simp at h
    | cons x l ih =>
      intro i c h
      cases i with
      | zero => simp at h; subst h; exact ⟨rfl, rfl, rfl⟩
      | succ i =>
        have h2 := ih i c (by simpa using h)
        have q1 : (i + 1) * 3 = i * 3 + 1 + 1 + 1 := by omega
        rw [List.flatMap_cons, q1]
        exact h2
  obtain ⟨g1, g2, g3⟩ := key _ _ _ e1
  exact ⟨b, o, _, _, ha, e1, e2, hc _ _ g1, by rw [Nat.add_assoc]; exact hc _ _ g2, by rw [Nat.add_assoc]; exact hc _ _ g3, h.elem i _ _ e1 e2⟩
end
end Go.Proofs.Ytpegckmagiaggaa
