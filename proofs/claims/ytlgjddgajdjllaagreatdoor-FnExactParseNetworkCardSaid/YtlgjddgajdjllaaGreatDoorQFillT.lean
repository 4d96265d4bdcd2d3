/- ZeroTensor of the program and of the reference. -/
import Derived.Test.YtlgjddgajdjllaaGreatDoorQTenSize
set_option linter.unusedSimpArgs false
set_option linter.unusedVariables false
namespace Go.Proofs.YtlgjddgajdjllaaGreatDoor
open Go.RowKit
theorem step_app {P : Program} (w : World) {ops : Array Oper} {o : Oper} {a : Act} {K : Act → World → Prop} {Q : Exit → Act → World → Prop} {E : Prop} (hgd : o.guard = none) (s x : Operand) (t : TypeId)
    (ho : o.op = .call { callee := .builtin .append, args := #[s, x], argTypes := #[t, t] }) (v src : Value) (hs : a.eval s = v) (hx : a.eval x = src) (R : Value → World → Prop)
    (hrun : ∃ v' w', (Builtin.append_ #[t, t] o.type #[v, src]).run P w = .ok v' w' ∧ R v' w')
    (h : ∀ v' w', R v' w' → K (a.put o.dst v') w') : if Region.wanted o (yielded ops a.tmps) = true then Oper.wp P o a w K Q else E := by
  have hw : Region.wanted o (yielded ops a.tmps) = true := by simp [Region.wanted, hgd]
  rw [if_pos hw]
  obtain ⟨v', w', hr, hR⟩ := hrun
  unfold Oper.wp execOp
  simp only [ho, resolve, invoke, builtin, Sem.run_bind, Sem.run_pure, Result.andThen_ok, List.map_toArray, List.map_cons, List.map_nil, hs, hx, hr]
  exact h v' w' hR
theorem OwnI.setOther {w : World} {B : Nat} {v : Value} {l : List Int} (h : OwnI w B v l) {p : Addr} (hp : ∀ k, v.ownBlock = some k → p.block ≠ k) (u : Value) : OwnI (w.setCell p u) B v l := by
  rcases h.own with h | ⟨b, rest, h1, rfl, h3, h4⟩
  · exact ⟨.inl h⟩
  · exact ⟨.inr ⟨b, rest, h1, rfl, h3.other (hp b rfl) u, h4⟩⟩
def prodL (D : List Int) : Int := D.foldr (· * ·) 1
theorem prodL_cons (d : Int) (D : List Int) : prodL (d :: D) = d * prodL D := rfl
theorem prodL_pos : ∀ {D : List Int}, (∀ d ∈ D, 1 ≤ d ∧ d ≤ 8) → 1 ≤ prodL D
  | [], _ => Int.le_refl 1
  | d :: D, h => by
    have h1 := prodL_pos (D := D) fun x hx => h x (by simp [hx])
    have h2 := (h d (by simp)).1
    rw [prodL_cons]
    have : 1 * 1 ≤ d * prodL D := Int.mul_le_mul h2 h1 (by omega) (by omega)
    omega
theorem tsGo_prod : ∀ {L D pre : List Int} {s : Int}, L.length = D.length → 1 ≤ s → s ≤ 4096 → tsGo pre s L D ≠ -1 → tsGo pre s L D = s * prodL D ∧ s * prodL D ≤ 4096 ∧ (∀ d ∈ D, 1 ≤ d ∧ d ≤ 8) ∧ (∀ l ∈ L, 0 ≤ l ∧ l ≤ 99)
  | [], [], pre, s, _, h1, h2, _ => by simp [tsGo, prodL]; omega
  | l :: L, d :: D, pre, s, hl, h1, h2, hne => by
    by_cases b1 : l < 0 ∨ 99 < l ∨ hasL pre l = true
    · exact absurd (tsGo_bad1 b1) hne
    by_cases b2 : d < 1 ∨ 8 < d ∨ 4096 < s * d
    · exact absurd (tsGo_bad2 b2) hne
    · rw [tsGo_good b1 b2] at hne ⊢
      have hsd : s * 1 ≤ s * d := Int.mul_le_mul_of_nonneg_left (by omega) (by omega)
      obtain ⟨e1, e2, e3, e4⟩ := tsGo_prod (by simpa using hl) (by omega) (by omega) hne
      rw [prodL_cons, ← Int.mul_assoc]
      refine ⟨e1, e2, fun x hx => ?_, fun x hx => ?_⟩
      · rcases List.mem_cons.1 hx with rfl | hx
        · omega
        · exact e3 x hx
      · rcases List.mem_cons.1 hx with rfl | hx
        · omega
        · exact e4 x hx
theorem tsize_prod {L D : List Int} (h : tsize L D ≠ -1) : tsize L D = prodL D ∧ prodL D ≤ 4096 ∧ 1 ≤ prodL D ∧ L.length = D.length ∧ L.length ≤ 12 ∧ (∀ d ∈ D, 1 ≤ d ∧ d ≤ 8) ∧ (∀ l ∈ L, 0 ≤ l ∧ l ≤ 99) := by
  unfold tsize at h ⊢
  by_cases c : 12 < L.length ∨ L.length ≠ D.length
  · rw [if_pos c] at h; exact absurd rfl h
  · rw [if_neg c] at h ⊢
    obtain ⟨e1, e2, e3, e4⟩ := tsGo_prod (by omega) (by omega) (by omega) h
    rw [Int.one_mul] at e1 e2
    exact ⟨e1, e2, prodL_pos e3, by omega, by omega, e3, e4⟩
theorem tsize_cap {L D : List Int} (h : tsize L D ≠ -1) : capGo 4096 1 D = prodL D := by
  have h1 := (tsize_prod h).1
  rw [tsize_axes] at h h1
  split at h
  · rename_i ha
    rw [if_pos ha] at h1
    split at h
    · exact absurd rfl h
    · rename_i hc; rw [if_neg hc] at h1; exact h1
  · exact absurd rfl h
theorem productOf_any (v : Value) (D : List Int) (w : World) (hl : IntS w v D) (hd : ∀ d ∈ D, 1 ≤ d ∧ d ≤ 8) (hp : prodL D ≤ 4096) : Calls Tryz.prog 60 #[v] w fun e w' =>
 e = .returned (.int .i64 (prodL D)) ∧ w = w' := by
 obtain ⟨a, cap, rfl, hc1, hc2⟩ := hl.val
 have HD := Lib.hid hd
 have HP := Lib.hid hp
 clear hd hp
 go_enter Tryz.func60, Tryz.ntmps60
 go_wp2
 go_loop [3, 8] (fun q i => ∃ (j : Nat) (n : Int), j ≤ D.length ∧ i = .int .i64 j ∧ q = .int .i64 n ∧ 1 ≤ n ∧ n * prodL (D.drop j) = prodL D) (fun _ i => D.length - (RowKit.intOf i).toNat)
 case atStart => exact ⟨0, 1, Nat.zero_le _, rfl, rfl, by omega, by rw [Int.one_mul]; rfl⟩
 case round =>
  obtain ⟨j, n, hj, rfl, rfl, hn0, hq⟩ := hrel
  by_cases hlt : j < D.length
  · obtain ⟨b, off, y, rfl, hcell, hy, hd⟩ := hl.get hlt
    obtain ⟨y0, y1⟩ := HD.out y (List.mem_of_getElem? hy)
    rw [hd, prodL_cons, ← Int.mul_assoc] at hq
    have p0 : n * 1 ≤ n * y := Int.mul_le_mul_of_nonneg_left y0 (by omega)
    have p1 := prodL_pos (D := D.drop (j + 1)) fun x hx => HD.out x (List.mem_of_mem_drop hx)
    have p2 : n * y * 1 ≤ n * y * prodL (D.drop (j + 1)) := Int.mul_le_mul_of_nonneg_left p1 (by omega)
    have p3 : n * y ≤ 4096 := by have := HP.out; omega
    have HQ := Lib.hid hq; clear hq hd hy p1 p2
    go_wp2
    go_round
    case rel => exact ⟨j + 1, _, by omega, by go_num, rfl, by omega, HQ.out⟩
    case measure => simp [RowKit.intOf]; omega
  · have : j = D.length := by omega
    subst this
    have HQ := Lib.hid hq; clear hq
    go_wp2
    go_ret
    exact ⟨ret_int (by rw [← HQ.out, drop_len]; simp [prodL]), rfl⟩
end Go.Proofs.YtlgjddgajdjllaaGreatDoor
