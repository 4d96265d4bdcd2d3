/- Slices of strings of the call's own: appended to. -/
import Derived.Test.YtodooalhbcoihaaDoorStrsW
import Derived.Test.YtodooalhbcoihaaDoorApp
namespace Go.Proofs.YtodooalhbcoihaaDoor
open Go.RowKit
set_option linter.unusedSimpArgs false
set_option linter.unusedVariables false

theorem OwnStr.nil (w : World) (B : Nat) : OwnStr w B (.slice none 0 0) [] := ⟨.inl ⟨rfl, rfl⟩⟩
theorem OwnStr.owns {w : World} {B : Nat} {v : Value} {l : List ByteArray} (h : OwnStr w B v l) : w.ownsRow B 9 1 v l.length (Proofs.YtodooalhbcoihaaDoor.strs l) := by
  refine ⟨by simp [Proofs.YtodooalhbcoihaaDoor.strs], ?_⟩
  rcases h.own with ⟨rfl, rfl⟩ | ⟨b, rest, h1, rfl, h3, h4⟩
  · exact .inl ⟨rfl, rfl⟩
  · refine .inr ⟨b, _, _, rfl, h1, h3.row, by omega, h4, by simp [Proofs.YtodooalhbcoihaaDoor.strs], ?_⟩
    simp [Proofs.YtodooalhbcoihaaDoor.strs]
theorem OwnStr.of_owns {w : World} {B n : Nat} {v : Value} {l : List ByteArray} (h : w.ownsRow B 9 1 v n (Proofs.YtodooalhbcoihaaDoor.strs l)) : OwnStr w B v l := by
  obtain ⟨hl, h⟩ := h
  simp [Proofs.YtodooalhbcoihaaDoor.strs] at hl
  subst hl
  rcases h with ⟨rfl, h0⟩ | ⟨g, cap, cur, rfl, hb, hg, hn, hm, hs, ht⟩
  · exact ⟨.inl ⟨rfl, List.eq_nil_of_length_eq_zero h0⟩⟩
  · have e : cur.toList = Proofs.YtodooalhbcoihaaDoor.strs l ++ cur.toList.drop l.length := by
      rw [Nat.mul_one] at ht
      rw [← ht, List.take_append_drop]
    have hr : (cur.toList.drop l.length).length = cap - l.length := by simp [hs]
    refine ⟨.inr ⟨g, cur.toList.drop l.length, hb, by rw [hr]; congr 1; omega, ⟨by rw [← e]; simpa using hg⟩, by rw [hr]; omega⟩⟩
theorem OwnStr.block_lt {w : World} {B : Nat} {v : Value} {l : List ByteArray} (h : OwnStr w B v l) {k : Nat} (hk : v.ownBlock = some k) : B ≤ k ∧ k < w.heap.size := by
  rcases h.own with ⟨rfl, _⟩ | ⟨b, rest, h1, rfl, h3, _⟩
  · simp [Value.ownBlock] at hk
  · simp [Value.ownBlock] at hk; subst hk; exact ⟨h1, h3.lt⟩
theorem strs_append (l m : List ByteArray) : strs (l ++ m) = strs l ++ strs m := by simp [strs]
theorem StrS.one (w : World) (x : ByteArray) : StrS (w.alloc (.cells #[.string x] 9)) (.slice (some ⟨w.heap.size, 0, none⟩) 1 1) [x] := by
  refine ⟨⟨rfl, some ⟨w.heap.size, 0, none⟩, 1, rfl, Nat.le_refl _, by unfold maxLen; omega, fun _ => ⟨_, 0, rfl, fun j u hj => ?_⟩⟩⟩
  match j, hj with
  | 0, hj => simp [strs] at hj; subst hj; simp
  | j + 1, hj => simp [strs] at hj
/-- 'append(v, x)' of strings, what is left told of the world before. -/
theorem run_pushS (ty : TypeId) (w : World) (B : Nat) (v : Value) (xs : List ByteArray) (y : ByteArray) (hv : OwnStr w B v xs) (hb : xs.length + 1 ≤ 1099511627776) (hB : B ≤ w.heap.size) :
    ∃ v' w', (Builtin.append_ #[28, 28] ty #[v, .slice (some ⟨w.heap.size, 0, none⟩) 1 1]).run Tryd.prog (w.alloc (.cells #[.string y] 9)) = .ok v' w' ∧
      (OwnStr w' B v' (xs ++ [y]) ∧ w.grownBy w' v.ownBlock ∧ (∀ q, v'.ownBlock = some q → v.ownBlock = some q ∨ w.heap.size ≤ q)) := by
  obtain ⟨i, hi, hzz⟩ := Option.map_eq_some_iff.1 Tryd.infoStr
  simp only [Prod.mk.injEq] at hzz
  obtain ⟨hz, hsz, hby⟩ := hzz
  obtain ⟨v', w', h1, h2, h3, h4⟩ := run_app (P := Tryd.prog) (w.alloc (.cells #[.string y] 9)) B 28 ty 9 i (.string ByteArray.empty) 1 16 Tryd.underlying28 hi hz hsz hby rfl (by omega) v _ _ (hv.ext ((Ext.refl _).alloc _)).owns
    (.slice (some ⟨w.heap.size, 0, none⟩) 1 1) 1 (strs [y]) (StrS.one w y).row (by intro u hu; simp [strs] at hu; subst hu; rfl) (by unfold maxLen; omega) (by omega) (by simp; omega)
  refine ⟨v', w', h1, OwnStr.of_owns (by rw [strs_append]; exact h2), grownBy_trans (grown_alloc (grown_refl _ _) _) h3, fun q hq => ?_⟩
  rcases h4 with h4 | h4
  · exact .inl (h4 ▸ hq)
  · rw [h4] at hq; injection hq with hq; right; simp at hq; omega
theorem OwnStr.empty {w : World} {B b : Nat} (hb : B ≤ b) (hs : b = w.heap.size) : OwnStr (w.alloc (.cells #[] 9)) B (.slice (some ⟨b, 0, none⟩) 0 0) [] := by
  subst hs
  exact ⟨.inr ⟨_, [], hb, by simp [Proofs.YtodooalhbcoihaaDoor.strs], by simpa [Proofs.YtodooalhbcoihaaDoor.strs] using Blk.new w #[] 9, by simp⟩⟩
end Go.Proofs.YtodooalhbcoihaaDoor
