/- The part of Data with an element; copy. -/
import Derived.Test.YtabeciopggofkaaXBase
import Derived.Test.YtabeciopggofkaaXPutT
namespace Go.Proofs.Ytabeciopggofkaa
open Go.RowKit
set_option linter.unusedSimpArgs false
set_option linter.unusedVariables false

theorem rawElem_any (k p n i : Int) (o W : Nat) (hW : ringWidth k n = (W : Int)) (a1 a2 : Option Addr) (m1 c1 m2 c2 bd nd cd : Nat) (w : World) (ho : i * (W : Int) = o) (hi : 0 ≤ i) (hw : RingWide k n) (hfit : o + W ≤ nd) (hcd : nd ≤ cd) (hlen : nd ≤ 1048576) :
    Calls Try.prog 57 #[ringV k p n, .agg #[.slice a1 m1 c1, .slice a2 m2 c2, .slice (some ⟨bd, 0, none⟩) nd cd], .int .i64 i] w fun e w' =>
      e = .returned (.slice (some ⟨bd, o, none⟩) W (cd - o)) ∧ Ext w w' := by
  have hw0 := hw.lo
  have hw1 := hw.hi
  rw [hW] at hw0 hw1
  have h1o : (i + 1) * (W : Int) = (o : Int) + W := by rw [Int.add_mul, Int.one_mul, ho]
  have hib : i * 1 ≤ i * (W : Int) := Int.mul_le_mul_of_nonneg_left (by omega) hi
  have e1 : IntKind.i64.wrap (i * (W : Int)) = (o : Int) := by rw [IntKind.wrap_i64, ho]; omega
  have e2 : IntKind.i64.wrap (i + 1) = i + 1 := by rw [IntKind.wrap_i64]; omega
  have e3 : IntKind.i64.wrap ((i + 1) * (W : Int)) = ((o + W : Nat) : Int) := by rw [IntKind.wrap_i64, h1o]; omega
  have e4 : o + W - o = W := by omega
  have e5 : o < cd := by omega
  have HW := Lib.hid hW; clear hW hw ho h1o
  go_enter Try.func57, Try.ntmps57
  go_wp2_with fail
  refine (rawWidth_any _ _ _ _).mono ?_; rintro e1 w1 ⟨rfl, h1⟩; rw [HW.out]; have s1 := h1.size; (try simp at s1); have t1_0 : w.heap.size < w1.heap.size := (by omega); have c1_0 := fun o => h1.cells (w.heap.size) o (by first | (simp; done) | (simp; omega) | omega); have t1_1 : w.heap.size + 1 < w1.heap.size := (by omega); have c1_1 := fun o => h1.cells (w.heap.size + 1) o (by first | (simp; done) | (simp; omega) | omega); have f1_0 := fun o => h1.frozens (w.heap.size) o (by first | (simp; done) | (simp; omega) | omega); have f1_1 := fun o => h1.frozens (w.heap.size + 1) o (by first | (simp; done) | (simp; omega) | omega)
  go_wp2
  go_ret
  exact ⟨by show Ending.returned (.slice (some ⟨bd, o, none⟩) (o + W - o) (cd - o)) = _; rw [e4], (by repeat' (first | (with_reducible exact Ext.refl _) | (with_reducible assumption) | (with_reducible apply Ext.alloc) | (with_reducible apply Ext.drew) | (with_reducible apply Ext.drewN) | (refine Ext.setAt ?_ (by omega) _ _) | (refine Ext.trans ?_ (by assumption))))⟩

theorem ints_one (x : List Int) : ∀ v ∈ ints x, v.oneCell' = true := by
  intro v hv
  obtain ⟨y, _, rfl⟩ := List.mem_map.1 hv
  rfl
theorem grown_setRow (w : World) (b : Nat) (c : Array Value) : w.grownBy (w.setRow b c) (some b) :=
  ⟨rfl, rfl, rfl, by simp, fun k _ hk => setRow_other w b k c (fun e => hk (by rw [e]))⟩
theorem run_copy_part (ty : TypeId) {w : World} {B bd cd o W dc : Nat} {v : Value} {X x : List Int} (hX : OwnI w B (.slice (some ⟨bd, 0, none⟩) X.length cd) X) (hv : IntS w v x) (hW : x.length = W) (hW1 : 1 ≤ W) (hfit : o + W ≤ X.length) :
    ∃ w', (Builtin.copy_ #[29, 29] ty #[.slice (some ⟨bd, o, none⟩) W dc, v]).run Try.prog w = .ok (goInt W) w' ∧ OwnI w' B (.slice (some ⟨bd, 0, none⟩) X.length cd) (putL X o x) ∧ w.grownBy w' (some bd) := by
  subst hW
  rcases hX.own with ⟨h0, _⟩ | ⟨b, rest, h1, h2, h3, h4⟩
  · cases h0
  cases h2
  obtain ⟨hl, a, cap, rfl, hc1, hc2, hc⟩ := hv.row
  obtain ⟨sb, so, rfl, hcell⟩ := hc (by rw [ints_length]; omega)
  have hsz : (Try.prog.info? 3).map (·.size) = some 1 := by
    obtain ⟨i, hi, hz⟩ := Option.map_eq_some_iff.1 Try.infoInt
    simp only [Prod.mk.injEq] at hz
    rw [hi]; simp [hz.2.1]
  have hr := run_copy_row Try.prog w 29 29 ty 3 bd o x.length dc ⟨sb, so, none⟩ x.length cap (ints X ++ rest).toArray 3 (ints x) Try.underlying29 hsz h3.row
    (by rw [ints_length]; exact (Nat.min_self _).symm) (fun j u hj => by have := hcell j u hj; unfold Addr.add; split <;> simp_all) (by simp [ints_length]; omega) (ints_one x)
  rw [ints_length] at hr
  have e1 : (ints X ++ rest).take o = ints (X.take o) := by rw [List.take_append_of_le_length (by rw [ints_length]; omega)]; simp [Proofs.Ytabeciopggofkaa.ints]
  have e2 : (ints X ++ rest).drop (o + x.length) = ints (X.drop (o + x.length)) ++ rest := by rw [List.drop_append_of_le_length (by rw [ints_length]; omega)]; simp [Proofs.Ytabeciopggofkaa.ints]
  have e3 : (ints X ++ rest).take o ++ ints x ++ (ints X ++ rest).drop (o + x.length) = ints (putL X o x) ++ rest := by
    rw [e1, e2]; unfold putL; simp [Proofs.Ytabeciopggofkaa.ints]
  rw [List.toList_toArray, e3] at hr
  have hb := setRow_heap w bd _ (ints (putL X o x) ++ rest).toArray _ _ h3.row
  have hg := grown_setRow w bd (ints (putL X o x) ++ rest).toArray
  generalize w.setRow bd (ints (putL X o x) ++ rest).toArray = w' at hr hb hg
  refine ⟨w', hr, ⟨.inr ⟨bd, rest, h1, ?_, ⟨hb⟩, ?_⟩⟩, hg⟩
  · rw [putL_length (by omega)]
  · rw [putL_length (by omega)]; exact h4
/-- A copy at a step of a region that draws its order, its run known. -/
theorem step_copy {P : Program} (w : World) {ops : Array Oper} {o : Oper} {a : Act} {K : Act → World → Prop} {Q : Exit → Act → World → Prop} {E : Prop} (hgd : o.guard = none) (s x : Operand) (t : TypeId)
    (ho : o.op = .call { callee := .builtin .copy, args := #[s, x], argTypes := #[t, t] }) (v src : Value) (hs : a.eval s = v) (hx : a.eval x = src) (R : Value → World → Prop)
    (hrun : ∃ v' w', (Builtin.copy_ #[t, t] o.type #[v, src]).run P w = .ok v' w' ∧ R v' w')
    (h : ∀ v' w', R v' w' → K (a.put o.dst v') w') : if Region.wanted o (yielded ops a.tmps) = true then Oper.wp P o a w K Q else E := by
  have hw : Region.wanted o (yielded ops a.tmps) = true := by simp [Region.wanted, hgd]
  rw [if_pos hw]
  obtain ⟨v', w', hr, hR⟩ := hrun
  unfold Oper.wp execOp
  simp only [ho, resolve, invoke, builtin, Sem.run_bind, Sem.run_pure, Result.andThen_ok, List.map_toArray, List.map_cons, List.map_nil, hs, hx, hr]
  exact h v' w' hR
theorem l05Put_len (k p n i : Int) (o nd : Nat) (a1 a2 : Option Addr) (m1 c1 m2 c2 bd cd B : Nat) (vx : Value) (X x : List Int) (w : World) (hnd : X.length = nd) (hX : OwnI w B (.slice (some ⟨bd, 0, none⟩) nd cd) X) (hx : IntS w vx x)
    (hne : ∀ q, vx.ownBlock = some q → q ≠ bd) (ho : i * ringWidth k n = o) (hi : 0 ≤ i) (hw : RingWide k n) (hfit : o + x.length ≤ nd) (hlen : nd ≤ 1048576) :
    Calls Try.prog 102 #[ringV k p n, .agg #[.slice a1 m1 c1, .slice a2 m2 c2, .slice (some ⟨bd, 0, none⟩) nd cd], .int .i64 i, vx] w fun e w' =>
      e = .returned (.tuple #[]) ∧ OwnI w' B (.slice (some ⟨bd, 0, none⟩) nd cd) (putL X o x) ∧ w.grownBy w' (some bd) := by
  subst hnd
  exact l05Put_any k p n i o a1 a2 m1 c1 m2 c2 bd cd B vx X x w hX hx hne ho hi hw hfit hlen
theorem run_copy_len (ty : TypeId) {w : World} {B bd cd o W dc nd : Nat} {v : Value} {X x : List Int} (hnd : X.length = nd) (hX : OwnI w B (.slice (some ⟨bd, 0, none⟩) nd cd) X) (hv : IntS w v x) (hW : x.length = W) (hW1 : 1 ≤ W) (hfit : o + W ≤ nd) :
    ∃ v' w', (Builtin.copy_ #[29, 29] ty #[.slice (some ⟨bd, o, none⟩) W dc, v]).run Try.prog w = .ok v' w' ∧ (OwnI w' B (.slice (some ⟨bd, 0, none⟩) nd cd) (putL X o x) ∧ w.grownBy w' (some bd)) := by
  subst hnd
  obtain ⟨w', h1, h2, h3⟩ := run_copy_part ty (dc := dc) hX hv hW hW1 hfit
  exact ⟨_, w', h1, h2, h3⟩
theorem rep_get {m j : Nat} (d : Int) (h : j < m) : (List.replicate m d)[j]? = some d := by simp [h]
end Go.Proofs.Ytabeciopggofkaa
