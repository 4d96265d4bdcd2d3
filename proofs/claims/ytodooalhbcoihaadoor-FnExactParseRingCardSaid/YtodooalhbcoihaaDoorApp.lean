/- append: onto a row of the call's own, from whatever source. The laws of the library, in the words of Mem and Own. -/
import Derived.Test.YtodooalhbcoihaaDoorSplice
import Derived.Test.YtodooalhbcoihaaDoorSlices
import Derived.Maps.AppendAt
import Derived.OwnWalk
namespace Go.Proofs.YtodooalhbcoihaaDoor
open Go.RowKit
set_option linter.unusedSimpArgs false
set_option linter.unusedVariables false

section
variable {P : Program} (w : World)
theorem run_app (base : Nat) (t ty e : TypeId) (i : TypeInfo) (z : Value) (size bytes : Nat) (ht : P.underlying t = some (.slice e)) (hi : P.info? e = some i) (hz : i.zero = some z)
    (hsize : i.size = size) (hby : i.bytes = bytes) (hzs : z.cells.size = size) (hsz : 0 < size)
    (v : Value) (n : Nat) (xs : List Value) (hown : w.ownsRow base e size v n xs)
    (src : Value) (m : Nat) (news : List Value) (hr : Row w size src m news) (h1 : ∀ u ∈ news, u.oneCell' = true)
    (h63 : n + m ≤ maxLen) (hbytes : (n + m) * bytes ≤ 140737488355328) (hbase : base ≤ w.heap.size) :
    ∃ v' w', (Builtin.append_ #[t, t] ty #[v, src]).run P w = .ok v' w' ∧ w'.ownsRow base e size v' (n + m) (xs ++ news) ∧ w.grownBy w' v.ownBlock ∧
      (v'.ownBlock = v.ownBlock ∨ v'.ownBlock = some w.heap.size) := by
  obtain ⟨a, c, rfl, hmc, _, hcell⟩ := hr.val
  by_cases hm : m = 0
  · subst hm
    have hn : news = [] := List.eq_nil_of_length_eq_zero (by simpa using hr.len)
    subst hn
    cases a with
    | none =>
      refine ⟨v, w, ?_, by simpa using hown, grown_refl w _, .inl rfl⟩
      rcases hown.2 with ⟨rfl, rfl⟩ | ⟨g, cap, cur, rfl, _, _, hnc, _⟩
      · simp [Builtin.append_, run_underlying ht, sizeOf, typeInfo, hi, Builtin.lenOf, Builtin.firstCells]
      · simp [Builtin.append_, run_underlying ht, sizeOf, typeInfo, hi, Builtin.lenOf, Builtin.firstCells, hnc, storeCells]
    | some ad =>
      obtain ⟨v', w', hrun, h2, h3, _, h5⟩ := run_append_own_at (P := P) w base t ty e i z size bytes ht hi hz hsize hby hzs hsz v n xs hown ad 0 c [] (by simp) (by simp) h1 h63 hbytes hbase
      exact ⟨v', w', hrun, h2, h3, h5⟩
  · have hpos : 0 < news.length := by rw [hr.len]; exact Nat.mul_pos (by omega) hsz
    obtain ⟨b, off, rfl, hc⟩ := hcell hpos
    have hcells : ∀ j u, news[j]? = some u → w.cell? ((⟨b, off, none⟩ : Addr).add j) = some u := by
      intro j u hu
      have := hc j u hu
      have ea : (⟨b, off, none⟩ : Addr).add j = ⟨b, off + j, none⟩ := by unfold Addr.add; split <;> simp_all
      rw [ea]; exact this
    obtain ⟨v', w', hrun, h2, h3, _, h5⟩ := run_append_own_at (P := P) w base t ty e i z size bytes ht hi hz hsize hby hzs hsz v n xs hown ⟨b, off, none⟩ m c news hr.len hcells h1 h63 hbytes hbase
    exact ⟨v', w', hrun, h2, h3, h5⟩
/-- An append, its run known: behind it what the run leaves is known. -/
theorem wpList_app {ops : Array Oper} {rest : List Oper} {o : Oper} {a : Act} {Q : Exit → Act → World → Prop} (hgd : o.guard = none) (s x : Operand) (t : TypeId)
    (ho : o.op = .call { callee := .builtin .append, args := #[s, x], argTypes := #[t, t] }) (v src : Value) (hs : a.eval s = v) (hx : a.eval x = src) (R : Value → World → Prop)
    (hrun : ∃ v' w', (Builtin.append_ #[t, t] o.type #[v, src]).run P w = .ok v' w' ∧ R v' w')
    (h : ∀ v' w', R v' w' → wpList P ops Q rest (a.put o.dst v') w') : wpList P ops Q (o :: rest) a w := by
  obtain ⟨v', w', hr, hR⟩ := hrun
  refine wpList_plain hgd fun K hK => ?_
  unfold Oper.wp execOp
  simp only [ho, resolve, invoke, builtin, Sem.run_bind, Sem.run_pure, Result.andThen_ok, List.map_toArray, List.map_cons, List.map_nil, hs, hx, hr]
  exact hK _ _ (h v' w' hR)
end

theorem OwnI.owns {w : World} {B : Nat} {v : Value} {l : List Int} (h : OwnI w B v l) : w.ownsRow B 3 1 v l.length (Proofs.YtodooalhbcoihaaDoor.ints l) := by
  refine ⟨by simp [Proofs.YtodooalhbcoihaaDoor.ints], ?_⟩
  rcases h.own with ⟨rfl, rfl⟩ | ⟨b, rest, h1, rfl, h3, h4⟩
  · exact .inl ⟨rfl, rfl⟩
  · refine .inr ⟨b, _, _, rfl, h1, h3.row, by omega, h4, by simp [Proofs.YtodooalhbcoihaaDoor.ints], ?_⟩
    simp [Proofs.YtodooalhbcoihaaDoor.ints]
theorem OwnI.of_owns {w : World} {B n : Nat} {v : Value} {l : List Int} (h : w.ownsRow B 3 1 v n (Proofs.YtodooalhbcoihaaDoor.ints l)) : OwnI w B v l := by
  obtain ⟨hl, h⟩ := h
  simp [Proofs.YtodooalhbcoihaaDoor.ints] at hl
  subst hl
  rcases h with ⟨rfl, h0⟩ | ⟨g, cap, cur, rfl, hb, hg, hn, hm, hs, ht⟩
  · exact ⟨.inl ⟨rfl, List.eq_nil_of_length_eq_zero h0⟩⟩
  · have e : cur.toList = Proofs.YtodooalhbcoihaaDoor.ints l ++ cur.toList.drop l.length := by
      rw [Nat.mul_one] at ht
      rw [← ht, List.take_append_drop]
    have hr : (cur.toList.drop l.length).length = cap - l.length := by simp [hs]
    refine ⟨.inr ⟨g, cur.toList.drop l.length, hb, by rw [hr]; congr 1; omega, ⟨by rw [← e]; simpa using hg⟩, by rw [hr]; omega⟩⟩
/-- 'append(v, src...)' of ints: v of the call's own, src from wherever. -/
theorem run_app_ints (ty : TypeId) (w : World) (B : Nat) (v src : Value) (xs ys : List Int) (hv : OwnI w B v xs) (hs : IntS w src ys) (hb : xs.length + ys.length ≤ 1099511627776) (hB : B ≤ w.heap.size) :
    ∃ v' w', (Builtin.append_ #[30, 30] ty #[v, src]).run Tryd.prog w = .ok v' w' ∧ (OwnI w' B v' (xs ++ ys) ∧ w.grownBy w' v.ownBlock ∧ (v'.ownBlock = v.ownBlock ∨ v'.ownBlock = some w.heap.size)) := by
  obtain ⟨i, hi, hzz⟩ := Option.map_eq_some_iff.1 Tryd.infoInt
  simp only [Prod.mk.injEq] at hzz
  obtain ⟨hz, hsz, hby⟩ := hzz
  obtain ⟨v', w', h1, h2, h3, h4⟩ := run_app (P := Tryd.prog) w B 30 ty 3 i (.int .i64 0) 1 8 Tryd.underlying30 hi hz hsz hby rfl (by omega) v _ _ hv.owns src ys.length (ints ys) hs.row
    (by intro u hu; simp [ints] at hu; obtain ⟨x, _, rfl⟩ := hu; rfl) (by unfold maxLen; omega) (by omega) hB
  exact ⟨v', w', h1, OwnI.of_owns (by rw [ints_append]; exact h2), h3, h4⟩
/-- The one new cell of 'append(l, x)'. -/
theorem IntS.one (w : World) (x : Int) : IntS (w.alloc (.cells #[.int .i64 x] 3)) (.slice (some ⟨w.heap.size, 0, none⟩) 1 1) [x] := by
  refine ⟨⟨rfl, some ⟨w.heap.size, 0, none⟩, 1, rfl, Nat.le_refl _, by unfold maxLen; omega, fun _ => ⟨_, 0, rfl, fun j u hj => ?_⟩⟩⟩
  match j, hj with
  | 0, hj => simp [ints] at hj; subst hj; simp
  | j + 1, hj => simp [ints] at hj

end Go.Proofs.YtodooalhbcoihaaDoor
