/- ZeroTensor of the program and of the reference. -/
import Derived.Test.YtlgjddgajdjllaaGreatDoorTTenSize
import Derived.Test.YtlgjddgajdjllaaGreatDoorTScalT
set_option linter.unusedSimpArgs false
set_option linter.unusedVariables false
namespace Go.Proofs.YtlgjddgajdjllaaGreatDoor
open Go.RowKit
theorem step_app {P : Program} (w : World) {ops : Array Oper} {o : Oper} {a : Act} {K : Act → World → Prop} {Q : Exit → Act → World → Prop} {E : Prop} (hgd : o.guard = none) (s x : Operand) (t : TypeId)
    (ho : o.op = .call { callee := .builtin .append, args := #[s, x], argTypes := #[t, t] }) (v src : Value) (hs : a.eval s = v) (hx : a.eval x = src) (R : Value → World → Prop)
    (hrun : ∃ v' w', (Builtin.append_ #[t, t] o.type #[v, src]).run P w = .ok v' w' ∧ R v' w')
    (h : ∀ v' w', R v' w' → K (a.put o.dst v') w') : if Region.wanted o (yielded ops a.tmps) = true then Oper.wp P o a w K Q else E := by
  have hw : Region.wanted o (yielded ops a.tmps) = true := by simp [Region.wanted, hgd]
  rw [if_pos hw]
  obtain ⟨v', w', hr, hR⟩ := hrun
  unfold Oper.wp execOp
  simp only [ho, resolve, invoke, builtin, Sem.run_bind, Sem.run_pure, Result.andThen_ok, List.map_toArray, List.map_cons, List.map_nil, hs, hx, hr]
  exact h v' w' hR
theorem OwnI.setOther {w : World} {B : Nat} {v : Value} {l : List Int} (h : OwnI w B v l) {p : Addr} (hp : ∀ k, v.ownBlock = some k → p.block ≠ k) (u : Value) : OwnI (w.setCell p u) B v l := by
  rcases h.own with h | ⟨b, rest, h1, rfl, h3, h4⟩
  · exact ⟨.inl h⟩
  · exact ⟨.inr ⟨b, rest, h1, rfl, h3.other (hp b rfl) u, h4⟩⟩
theorem OwnT.setBelow {w : World} {B : Nat} {v : Value} {L D X : List Int} (h : OwnT w B v L D X) {p : Addr} (hp : p.block < B) (u : Value) : OwnT (w.setCell p u) B v L D X := by
  obtain ⟨a, b, c, rfl, h1, h2, h3, h4⟩ := h.val
  exact ⟨_, _, _, rfl, h1.setBelow hp u, h2.setBelow hp u, h3.setBelow hp u, h4⟩
def prodL (D : List Int) : Int := D.foldr (· * ·) 1
theorem prodL_cons (d : Int) (D : List Int) : prodL (d :: D) = d * prodL D := rfl
theorem prodL_pos : ∀ {D : List Int}, (∀ d ∈ D, 1 ≤ d ∧ d ≤ 8) → 1 ≤ prodL D
  | [], _ => Int.le_refl 1
  | d :: D, h => by
    have h1 := prodL_pos (D := D) fun x hx => h x (by simp [hx])
    have h2 := (h d (by simp)).1
    rw [prodL_cons]
    have : 1 * 1 ≤ d * prodL D := Int.mul_le_mul h2 h1 (by omega) (by omega)
    omega
theorem tsGo_prod : ∀ {L D pre : List Int} {s : Int}, L.length = D.length → 1 ≤ s → s ≤ 4096 → tsGo pre s L D ≠ -1 → tsGo pre s L D = s * prodL D ∧ s * prodL D ≤ 4096 ∧ (∀ d ∈ D, 1 ≤ d ∧ d ≤ 8) ∧ (∀ l ∈ L, 0 ≤ l ∧ l ≤ 99)
  | [], [], pre, s, _, h1, h2, _ => by simp [tsGo, prodL]; omega
  | l :: L, d :: D, pre, s, hl, h1, h2, hne => by
    by_cases b1 : l < 0 ∨ 99 < l ∨ hasL pre l = true
    · exact absurd (tsGo_bad1 b1) hne
    by_cases b2 : d < 1 ∨ 8 < d ∨ 4096 < s * d
    · exact absurd (tsGo_bad2 b2) hne
    · rw [tsGo_good b1 b2] at hne ⊢
      have hsd : s * 1 ≤ s * d := Int.mul_le_mul_of_nonneg_left (by omega) (by omega)
      obtain ⟨e1, e2, e3, e4⟩ := tsGo_prod (by simpa using hl) (by omega) (by omega) hne
      rw [prodL_cons, ← Int.mul_assoc]
      refine ⟨e1, e2, fun x hx => ?_, fun x hx => ?_⟩
      · rcases List.mem_cons.1 hx with rfl | hx
        · omega
        · exact e3 x hx
      · rcases List.mem_cons.1 hx with rfl | hx
        · omega
        · exact e4 x hx
theorem tsize_prod {L D : List Int} (h : tsize L D ≠ -1) : tsize L D = prodL D ∧ prodL D ≤ 4096 ∧ 1 ≤ prodL D ∧ L.length = D.length ∧ L.length ≤ 12 ∧ (∀ d ∈ D, 1 ≤ d ∧ d ≤ 8) ∧ (∀ l ∈ L, 0 ≤ l ∧ l ≤ 99) := by
  unfold tsize at h ⊢
  by_cases c : 12 < L.length ∨ L.length ≠ D.length
  · rw [if_pos c] at h; exact absurd rfl h
  · rw [if_neg c] at h ⊢
    obtain ⟨e1, e2, e3, e4⟩ := tsGo_prod (by omega) (by omega) (by omega) h
    rw [Int.one_mul] at e1 e2
    exact ⟨e1, e2, prodL_pos e3, by omega, by omega, e3, e4⟩
theorem tsize_cap {L D : List Int} (h : tsize L D ≠ -1) : capGo 4096 1 D = prodL D := by
  have h1 := (tsize_prod h).1
  rw [tsize_axes] at h h1
  split at h
  · rename_i ha
    rw [if_pos ha] at h1
    split at h
    · exact absurd rfl h
    · rename_i hc; rw [if_neg hc] at h1; exact h1
  · exact absurd rfl h
def rep (m : Nat) (x : List Int) : List Int := (List.replicate m x).flatten
theorem rep_succ (m : Nat) (x : List Int) : rep (m + 1) x = rep m x ++ x := by
  unfold rep
  rw [List.replicate_succ', List.flatten_append]; simp
theorem rep_length (m : Nat) (x : List Int) : (rep m x).length = m * x.length := by
  induction m with
  | zero => simp [rep]
  | succ m ih => rw [rep_succ, List.length_append, ih, Nat.succ_mul]
theorem productOf_any (v : Value) (D : List Int) (w : World) (hl : IntS w v D) (hd : ∀ d ∈ D, 1 ≤ d ∧ d ≤ 8) (hp : prodL D ≤ 4096) : Calls Tryz.prog 60 #[v] w fun e w' =>
 e = .returned (.int .i64 (prodL D)) ∧ w = w' := by
 obtain ⟨a, cap, rfl, hc1, hc2⟩ := hl.val
 have HD := Lib.hid hd
 have HP := Lib.hid hp
 clear hd hp
 go_enter Tryz.func60, Tryz.ntmps60
 go_wp2
 go_loop [3, 8] (fun q i => ∃ (j : Nat) (n : Int), j ≤ D.length ∧ i = .int .i64 j ∧ q = .int .i64 n ∧ 1 ≤ n ∧ n * prodL (D.drop j) = prodL D) (fun _ i => D.length - (RowKit.intOf i).toNat)
 case atStart => exact ⟨0, 1, Nat.zero_le _, rfl, rfl, by omega, by rw [Int.one_mul]; rfl⟩
 case round =>
  obtain ⟨j, n, hj, rfl, rfl, hn0, hq⟩ := hrel
  by_cases hlt : j < D.length
  · obtain ⟨b, off, y, rfl, hcell, hy, hd⟩ := hl.get hlt
    obtain ⟨y0, y1⟩ := HD.out y (List.mem_of_getElem? hy)
    rw [hd, prodL_cons, ← Int.mul_assoc] at hq
    have p0 : n * 1 ≤ n * y := Int.mul_le_mul_of_nonneg_left y0 (by omega)
    have p1 := prodL_pos (D := D.drop (j + 1)) fun x hx => HD.out x (List.mem_of_mem_drop hx)
    have p2 : n * y * 1 ≤ n * y * prodL (D.drop (j + 1)) := Int.mul_le_mul_of_nonneg_left p1 (by omega)
    have p3 : n * y ≤ 4096 := by have := HP.out; omega
    have HQ := Lib.hid hq; clear hq hd hy p1 p2
    go_wp2
    go_round
    case rel => exact ⟨j + 1, _, by omega, by go_num, rfl, by omega, HQ.out⟩
    case measure => simp [RowKit.intOf]; omega
  · have : j = D.length := by omega
    subst this
    have HQ := Lib.hid hq; clear hq
    go_wp2
    go_ret
    exact ⟨ret_int (by rw [← HQ.out, drop_len]; simp [prodL]), rfl⟩
set_option maxRecDepth 100000 in
set_option maxHeartbeats 1000000 in
theorem l05Zero_any (k p n : Int) (hw : RingWide k n) (vL vD : Value) (L D : List Int) (w : World) (hL : IntS w vL L) (hD : IntS w vD D) (hl : L.length ≤ 12) (hdl : D.length ≤ 12) (hd : ∀ d ∈ D, 1 ≤ d ∧ d ≤ 8) (hp : prodL D ≤ 4096) (hc : capGo 4096 1 D = prodL D) :
 Calls Tryz.prog 100 #[ringV k p n, vL, vD] w fun e w' => ∃ v, e = .returned v ∧ OwnT w' w.heap.size v L D (rep (prodL D).toNat (zeroL k p n)) ∧ Ext w w' := by
 obtain ⟨aL, cL, rfl, hcL, hdL⟩ := hL.val
 obtain ⟨aD, cD, rfl, hcD, hdD⟩ := hD.val
 obtain ⟨m, hm⟩ : ∃ m : Nat, prodL D = m := ⟨(prodL D).toNat, by have := prodL_pos hd; omega⟩
 have hm1 : m ≤ 4096 := by omega
 have hme : (prodL D).toNat = m := by omega
 rw [hme]
 have hzl : (zeroL k p n).length ≤ 6 := by rw [zeroL_length]; have := hw.hi; omega
 obtain ⟨z, hz⟩ : ∃ z, zeroL k p n = z := ⟨_, rfl⟩
 rw [hz] at hzl ⊢
 have HZ := Lib.hid hz; clear hz
 have hmx : m * z.length ≤ 4096 * 6 := Nat.mul_le_mul hm1 hzl
 have HM : Hid (capGo 4096 1 D = (m : Int)) := Lib.hid (by rw [hc, hm])
 clear hc hm hme
 have HD := Lib.hid hd; clear hd
 have HX := Lib.hid hmx; clear hmx
 go_enter Tryz.func100, Tryz.ntmps100
 go_wp2_with fail
 refine (l05Ints_any _ L _ (hL.ext (by repeat' (first | (with_reducible first | exact Ext.refl _ | assumption | apply Ext.alloc | apply Ext.drew | apply Ext.drewN) | (refine Ext.setAt ?_ (by omega) _ _) | (refine Ext.trans ?_ (by assumption))))) (by omega)).mono ?_; rintro e1 w1 ⟨v1, rfl, o1, h1⟩; have s1 := h1.size; (try simp at s1); have t1_0 : w.heap.size < w1.heap.size := (by omega); have c1_0 := fun o => h1.cells (w.heap.size) o (by first | (simp; done) | (simp; omega) | omega); have t1_1 : w.heap.size + 1 < w1.heap.size := (by omega); have c1_1 := fun o => h1.cells (w.heap.size + 1) o (by first | (simp; done) | (simp; omega) | omega); have f1_0 := fun o => h1.frozens (w.heap.size) o (by first | (simp; done) | (simp; omega) | omega); have f1_1 := fun o => h1.frozens (w.heap.size + 1) o (by first | (simp; done) | (simp; omega) | omega)
 obtain ⟨a1, n1, rfl, hq1, hr1⟩ := o1.ints.val
 go_wp2_with fail
 refine (l05Ints_any _ D _ (hD.ext (by repeat' (first | (with_reducible first | exact Ext.refl _ | assumption | apply Ext.alloc | apply Ext.drew | apply Ext.drewN) | (refine Ext.setAt ?_ (by omega) _ _) | (refine Ext.trans ?_ (by assumption))))) (by omega)).mono ?_; rintro e2 w2 ⟨v2, rfl, o2, h2⟩; have s2 := h2.size; (try simp at s2); have t2_0 : w.heap.size < w2.heap.size := (by omega); have c2_0 := fun o => h2.cells (w.heap.size) o (by first | (simp; done) | (simp; omega) | omega); have t2_1 : w.heap.size + 1 < w2.heap.size := (by omega); have c2_1 := fun o => h2.cells (w.heap.size + 1) o (by first | (simp; done) | (simp; omega) | omega); have f2_0 := fun o => h2.frozens (w.heap.size) o (by first | (simp; done) | (simp; omega) | omega); have f2_1 := fun o => h2.frozens (w.heap.size + 1) o (by first | (simp; done) | (simp; omega) | omega)
 obtain ⟨a2, n2, rfl, hq2, hr2⟩ := o2.ints.val
 go_wp2_with fail
 refine (l05Product_any _ D 4096 _ (hD.ext (by repeat' (first | (with_reducible first | exact Ext.refl _ | assumption | apply Ext.alloc | apply Ext.drew | apply Ext.drewN) | (refine Ext.setAt ?_ (by omega) _ _) | (refine Ext.trans ?_ (by assumption))))) HD.out (by omega) (by omega)).mono ?_; rintro e3 w3 ⟨rfl, rfl⟩; rw [HM.out]
 go_wp2_with fail
 have B1 : Hid (∀ k, (Value.slice a1 L.length n1).ownBlock = some k → w.heap.size + 1 < k ∧ k < w2.heap.size) := Lib.hid fun k hk => by have := o1.block_lt hk; simp at this; omega
 have B2 : Hid (∀ k, (Value.slice a2 D.length n2).ownBlock = some k → w1.heap.size ≤ k ∧ k < w2.heap.size) := Lib.hid fun k hk => o2.block_lt hk
 have B3 : Hid (∀ k, (Value.slice a1 L.length n1).ownBlock = some k → k < w1.heap.size) := Lib.hid fun k hk => (o1.block_lt hk).2
 have BR : Blk w2 (w.heap.size + 1) 52 [.slice none 0 0, .slice none 0 0, .slice none 0 0] := Blk.ext (w := (w.alloc (.cells #[.int .i64 k, .int .i64 p, .int .i64 n] 24)).alloc (.cells #[.slice none 0 0, .slice none 0 0, .slice none 0 0] 52)) (by simpa using Blk.new (w.alloc (.cells #[.int .i64 k, .int .i64 p, .int .i64 n] 24)) #[.slice none 0 0, .slice none 0 0, .slice none 0 0] 52) (by repeat' (first | (with_reducible first | exact Ext.refl _ | assumption | apply Ext.alloc | apply Ext.drew | apply Ext.drewN) | (refine Ext.setAt ?_ (by omega) _ _) | (refine Ext.trans ?_ (by assumption))))
 have BK : Blk w2 w.heap.size 24 [.int .i64 k, .int .i64 p, .int .i64 n] := Blk.ext (Blk.new w #[.int .i64 k, .int .i64 p, .int .i64 n] 24) (by repeat' (first | (with_reducible first | exact Ext.refl _ | assumption | apply Ext.alloc | apply Ext.drew | apply Ext.drewN) | (refine Ext.setAt ?_ (by omega) _ _) | (refine Ext.trans ?_ (by assumption))))
 go_loopw [8] (fun i wr => ∃ (j : Nat) (i' : Int) (vd : Value), j ≤ m ∧ i' = (m : Int) - j ∧ i = .int .i64 i' ∧ Blk wr w2.heap.size 52 [.slice a1 L.length n1, .slice a2 D.length n2, vd] ∧ OwnI wr w.heap.size (.slice a1 L.length n1) L ∧ OwnI wr w.heap.size (.slice a2 D.length n2) D ∧
  OwnI wr (w2.heap.size + 1) vd (rep j z) ∧ Ext w wr ∧ w2.heap.size + 1 ≤ wr.heap.size ∧ Blk wr (w.heap.size + 1) 52 [.slice none 0 0, .slice none 0 0, .slice none 0 0] ∧ Blk wr w.heap.size 24 [.int .i64 k, .int .i64 p, .int .i64 n]) (fun i wr => (RowKit.intOf i).toNat)
 case atStart => exact ⟨0, _, _, Nat.zero_le _, by omega, rfl, (Blk.new w2 #[_, _, _] 52).ext (by repeat' (first | (with_reducible first | exact Ext.refl _ | assumption | apply Ext.alloc | apply Ext.drew | apply Ext.drewN) | (refine Ext.setAt ?_ (by omega) _ _) | (refine Ext.trans ?_ (by assumption)))), (o1.mono (by first | (simp [World.setCell]; done) | (simp [World.setCell]; omega) | omega)).ext (by repeat' (first | (with_reducible first | exact Ext.refl _ | assumption | apply Ext.alloc | apply Ext.drew | apply Ext.drewN) | (refine Ext.setAt ?_ (by omega) _ _) | (refine Ext.trans ?_ (by assumption)))), (o2.mono (by first | (simp [World.setCell]; done) | (simp [World.setCell]; omega) | omega)).ext (by repeat' (first | (with_reducible first | exact Ext.refl _ | assumption | apply Ext.alloc | apply Ext.drew | apply Ext.drewN) | (refine Ext.setAt ?_ (by omega) _ _) | (refine Ext.trans ?_ (by assumption)))), OwnI.nil _ _, (by repeat' (first | (with_reducible first | exact Ext.refl _ | assumption | apply Ext.alloc | apply Ext.drew | apply Ext.drewN) | (refine Ext.setAt ?_ (by omega) _ _) | (refine Ext.trans ?_ (by assumption)))), by simp, BR.ext (by repeat' (first | (with_reducible first | exact Ext.refl _ | assumption | apply Ext.alloc | apply Ext.drew | apply Ext.drewN) | (refine Ext.setAt ?_ (by omega) _ _) | (refine Ext.trans ?_ (by assumption)))), BK.ext (by repeat' (first | (with_reducible first | exact Ext.refl _ | assumption | apply Ext.alloc | apply Ext.drew | apply Ext.drewN) | (refine Ext.setAt ?_ (by omega) _ _) | (refine Ext.trans ?_ (by assumption))))⟩
 case round =>
  obtain ⟨j, i', vd, hj, hi', rfl, hT, hA, hB, hV, hE, hS, hR, hK⟩ := hrel
  have q2 := hT.cell (j := 2) rfl
  obtain ⟨ad, cd, rfl, hcd1, hcd2⟩ := hV.ints.val
  have hTl := hT.lt
  by_cases hlt : j < m
  · have hpos : 0 < i' := by omega
    have hpos2 : i' ≤ 4096 := by omega
    have HI := Lib.hid hi'; clear hi'
    have hbd : (rep j z).length + z.length ≤ 1099511627776 := by
     rw [rep_length]
     have : (j + 1) * z.length ≤ m * z.length := Nat.mul_le_mul_right _ (by omega)
     rw [Nat.succ_mul] at this
     have := HX.out
     omega
    have hne : ∀ k, (Value.slice ad (rep j z).length cd).ownBlock = some k → w2.heap.size < k ∧ k < wr.heap.size := fun k hk => by have := hV.block_lt hk; omega
    have HNE := Lib.hid hne; clear hne
    have hrs := rep_succ j z
    have HRS := Lib.hid hrs; clear hrs
    have i0 := hK.cell (j := 0) rfl
    have i1 := hK.cell (j := 1) rfl
    have i2 := hK.cell (j := 2) rfl
    have hKl := hK.lt
    go_wp2_with fail
    go_region_law (first | (go_simp; go_at_call 117; refine (l02Zero_any _ _ _ hw _).mono ?_; rintro e5 w5 ⟨v5, rfl, o5, h5⟩; rw [HZ.out] at o5; have E5 : Ext wr w5 := (by repeat' (first | (with_reducible first | exact Ext.refl _ | assumption | apply Ext.alloc | apply Ext.drew | apply Ext.drewN) | (refine Ext.setAt ?_ (by omega) _ _) | (refine Ext.trans ?_ (by assumption)))); have j0 := E5.cell i0; have j1 := E5.cell i1; have j2 := E5.cell i2; have k2 := E5.cell q2; have s5 := E5.size) | (refine step_app _ (by rfl) _ _ 27 (by rfl) _ _ (by rfl) (by rfl) _ (run_app_ints _ _ (w2.heap.size + 1) _ _ (rep j z) z (hV.ext E5) o5.ints hbd (by omega)) ?_; rintro v6 w6 ⟨o6, g6, _⟩; obtain ⟨a6, c6, hv6, hz1, hz2⟩ := o6.ints.val; rw [List.length_append] at hv6; subst hv6; have hT6 := (hT.ext E5).block (g6.block _ (by omega) (fun e => by have := HNE.out _ e.symm; omega)); have z6 := hT6.free 2; have q6 := hT6.cell (j := 2) rfl; have u6 := hT6.lt))
    all_goals
     go_wp2
     go_roundw
     case rel =>
      have g5 : w5.grownBy w6 (Value.slice ad (rep j z).length cd).ownBlock := g6
      have hE6 : Ext w w6 := (hE.trans E5).only g5 (fun k hk => by have := HNE.out k hk; omega)
      have hA6 := (hA.ext E5).only g5 (fun k hk e => by have := HNE.out k e; have := B1.out k hk; omega)
      have hB6 := (hB.ext E5).only g5 (fun k hk e => by have := HNE.out k e; have := B2.out k hk; omega)
      have hR6 := (hR.ext E5).block (g5.block _ (by have := hR.lt; omega) (fun e => by have := HNE.out _ e.symm; omega))
      have hK6 := (hK.ext E5).block (g5.block _ (by omega) (fun e => by have := HNE.out _ e.symm; omega))
      exact ⟨j + 1, i' - 1, _, by omega, by have := HI.out; omega, rfl, hT6.set 2 _, hA6.setOther (fun k hk => by have := B1.out k hk; first | omega | (simp; omega)) _, hB6.setOther (fun k hk => by have := B2.out k hk; first | omega | (simp; omega)) _,
       by rw [HRS.out]; exact o6.setBelow (p := ⟨w2.heap.size, 2, none⟩) (Nat.lt_succ_self _) _, hE6.setAt (by omega) _ _, by first | omega | (simp; omega), hR6.other (by first | omega | (simp; omega)) _, hK6.other (by first | omega | (simp; omega)) _⟩
     case measure => simp [RowKit.intOf]; omega
  · have : j = m := by omega
    subst this
    have q0 := hT.cell (j := 0) rfl
    have q1 := hT.cell (j := 1) rfl
    have f0 := hR.free 0
    have f1 := hR.free 1
    have f2 := hR.free 2
    have r0 := hR.cell (j := 0) rfl
    have r1 := hR.cell (j := 1) rfl
    have r2 := hR.cell (j := 2) rfl
    have hRl := hR.lt
    obtain rfl : i' = 0 := by omega
    clear hi'
    go_wp2
    refine bodyPost_ret (v := .agg #[.slice a1 L.length n1, .slice a2 D.length n2, .slice ad (rep j z).length cd]) (by simp [results, Tryz.results100, go_sem, *]) rfl ?_
    refine ⟨_, rfl, ⟨_, _, _, rfl, ?_, ?_, ?_, fun k hk => ⟨fun e => ?_, fun e => ?_⟩, fun k hk e => ?_⟩, (by repeat' (first | (with_reducible first | exact Ext.refl _ | assumption | apply Ext.alloc | apply Ext.drew | apply Ext.drewN) | (refine Ext.setAt ?_ (by omega) _ _) | (refine Ext.trans ?_ (by assumption))))⟩
    · exact ((hA.setOther (fun k hk => by have := B1.out k hk; first | omega | (simp; omega)) _).setOther (fun k hk => by have := B1.out k hk; first | omega | (simp; omega)) _).setOther (fun k hk => by have := B1.out k hk; first | omega | (simp; omega)) _
    · exact ((hB.setOther (fun k hk => by have := B2.out k hk; first | omega | (simp; omega)) _).setOther (fun k hk => by have := B2.out k hk; first | omega | (simp; omega)) _).setOther (fun k hk => by have := B2.out k hk; first | omega | (simp; omega)) _
    · exact (((hV.setBelow (by first | (simp [World.setCell]; done) | (simp [World.setCell]; omega) | omega) _).setBelow (by first | (simp [World.setCell]; done) | (simp [World.setCell]; omega) | omega) _).setBelow (by first | (simp [World.setCell]; done) | (simp [World.setCell]; omega) | omega) _).mono (by omega)
    · have := B3.out k hk; have := B2.out k e; omega
    · have := B1.out k hk; have := hV.block_lt e; omega
    · have := B2.out k hk; have := hV.block_lt e; omega
end Go.Proofs.YtlgjddgajdjllaaGreatDoor
