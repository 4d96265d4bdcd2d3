/- Texts of one kind, merged by program. -/
import Derived.Test.YtlgjddgajdjllaaGreatHNetSW
import Derived.Test.YtlgjddgajdjllaaGreatHOrdZ
import Derived.Test.YtlgjddgajdjllaaGreatHPartsW
/- Orders of contraction, plain: the tensors after the first steps of a valid order. No program in sight. -/
set_option linter.unusedSimpArgs false
set_option linter.unusedVariables false
set_option maxRecDepth 100000
set_option maxHeartbeats 4000000
namespace Go.Proofs.YtlgjddgajdjllaaGreat
open Go.RowKit
theorem numStep_len {ns : List Int} {nx : Int} {s : Int × Int} {i j : Nat} (hi : findL ns s.1 = (i : Int)) (hj : findL ns s.2 = (j : Int)) (hij : i ≠ j) (hil : i < ns.length) (hjl : j < ns.length) : (numStep ns nx s).length + 1 = ns.length := by
  unfold numStep
  rw [hi, hj, List.length_append, List.length_singleton]
  have := drop2_len (l := ns) hij hil hjl
  simp only [Int.toNat_natCast]
  omega
theorem okO_idx {ns : List Int} {nx : Int} {s : Int × Int} {r : List (Int × Int)} (h : okO ns nx (s :: r)) : ∃ i j : Nat, findL ns s.1 = (i : Int) ∧ findL ns s.2 = (j : Int) ∧ i ≠ j ∧ i < ns.length ∧ j < ns.length ∧ ns[i]? = some s.1 ∧ ns[j]? = some s.2 := by
  obtain ⟨h1, h2, h3, _⟩ := h
  obtain ⟨i, hi, hi2⟩ := find_nat h1
  obtain ⟨j, hj, hj2⟩ := find_nat h2
  refine ⟨i, j, hi, hj, ?_, (List.getElem?_eq_some_iff.1 hi2).1, (List.getElem?_eq_some_iff.1 hj2).1, hi2, hj2⟩
  rintro rfl
  rw [hi2] at hj2
  have := Option.some.inj hj2
  omega
section
variable {k p n : Int} (hr : ringOk k p n = true)
variable {dm : Int → Int} {U : List Int} {op : List Int}
def tenStep (dm : Int → Int) (op : List Int) (ns : List Int) (ts : List (NT k p n)) (s : Int × Int) : List (NT k p n) := stepN hr dm op ts (findL ns s.1).toNat (findL ns s.2).toNat
def runN (dm : Int → Int) (op : List Int) : List Int → Int → List (NT k p n) → List (Int × Int) → List Int × List (NT k p n)
  | ns, _, ts, [] => (ns, ts)
  | ns, nx, ts, s :: r => runN dm op (numStep ns nx s) (nx + 1) (tenStep hr dm op ns ts s) r
theorem runN_snoc (dm : Int → Int) (op : List Int) : ∀ (r : List (Int × Int)) (ns : List Int) (nx : Int) (ts : List (NT k p n)) (s : Int × Int),
    runN hr dm op ns nx ts (r ++ [s]) = (numStep (runN hr dm op ns nx ts r).1 (nx + r.length) s, tenStep hr dm op (runN hr dm op ns nx ts r).1 (runN hr dm op ns nx ts r).2 s)
  | [], ns, nx, ts, s => by simp [runN]
  | t :: r, ns, nx, ts, s => by
    rw [List.cons_append, runN, runN_snoc dm op r, runN, List.length_cons]
    congr 2
    push_cast; omega
theorem okN_drop : ∀ {r : List (Int × Int)} {ns : List Int} {nx : Int} (dm : Int → Int) (op : List Int) (ts : List (NT k p n)), okO ns nx r → ∀ j, okO (runN hr dm op ns nx ts (r.take j)).1 (nx + j) (r.drop j)
  | r, ns, nx, dm, op, ts, h, 0 => by simpa [runN] using h
  | [], ns, nx, dm, op, ts, h, j + 1 => by simp [okO]
  | s :: r, ns, nx, dm, op, ts, h, j + 1 => by
    rw [List.take_succ_cons, runN, List.drop_succ_cons]
    have := okN_drop dm op (tenStep hr dm op ns ts s) h.2.2.2 j
    have e : nx + 1 + (j : Int) = nx + ((j + 1 : Nat) : Int) := by push_cast; omega
    rw [e] at this; exact this
theorem tenStep_lab (ns : List Int) (ts : List (NT k p n)) (s : Int × Int) : (tenStep hr dm op ns ts s).map (·.1) = labStep op ns (ts.map (·.1)) s := by
  unfold tenStep labStep; rw [stepN_lab]
theorem runN_isN : ∀ {r : List (Int × Int)} {ns : List Int} {nx : Int} {ts : List (NT k p n)}, okO ns nx r → ns.length = ts.length → IsN k p n dm U ts op →
    IsN k p n dm U (runN hr dm op ns nx ts r).2 op ∧ (runN hr dm op ns nx ts r).1.length = (runN hr dm op ns nx ts r).2.length ∧ (runN hr dm op ns nx ts r).2.length + r.length = ts.length ∧ netXs hr dm (runN hr dm op ns nx ts r).2 op = netXs hr dm ts op
  | [], ns, nx, ts, h, hl, hN => ⟨hN, hl, by simp [runN], rfl⟩
  | s :: r, ns, nx, ts, h, hl, hN => by
    obtain ⟨i, j, hi, hj, hij, hil, hjl, _, _⟩ := okO_idx h
    have e : tenStep hr dm op ns ts s = stepN hr dm op ts i j := by unfold tenStep; rw [hi, hj]; rfl
    rw [hl] at hil hjl
    have hN2 := stepN_isN hr hN hij hil hjl
    have hv := stepN_val hr hN hij hil hjl
    have hll : (stepN hr dm op ts i j).length + 1 = ts.length := by
      unfold stepN
      rw [List.length_append, List.length_singleton]
      have := drop2_len (l := ts) hij hil hjl
      omega
    have hnl := numStep_len (nx := nx) hi hj hij (by omega) (by omega)
    rw [runN, e]
    obtain ⟨a1, a2, a3, a4⟩ := runN_isN (r := r) (ns := numStep ns nx s) (nx := nx + 1) (ts := stepN hr dm op ts i j) h.2.2.2 (by omega) hN2
    exact ⟨a1, a2, by rw [List.length_cons]; omega, a4.trans hv⟩
theorem okO_take : ∀ {r : List (Int × Int)} {ns : List Int} {nx : Int}, okO ns nx r → ∀ j, okO ns nx (r.take j)
  | r, ns, nx, h, 0 => by simp [okO]
  | [], ns, nx, h, j + 1 => by simp [okO]
  | s :: r, ns, nx, h, j + 1 => by
    rw [List.take_succ_cons]
    exact ⟨h.1, h.2.1, h.2.2.1, okO_take h.2.2.2 j⟩
end
structure AtStep {k p n : Int} (hr : ringOk k p n = true) (dm : Int → Int) (U op : List Int) (ns0 : List Int) (nx0 : Int) (ts : List (NT k p n)) (os : List (Int × Int)) (j : Nat) (ns : List Int) (tj : List (NT k p n)) : Prop where
  eqN : (runN hr dm op ns0 nx0 ts (os.take j)).1 = ns
  eqT : (runN hr dm op ns0 nx0 ts (os.take j)).2 = tj
  isN : IsN k p n dm U tj op
  len : ns.length = tj.length
  left : tj.length + j = ts.length
  val : netXs hr dm tj op = netXs hr dm ts op
section
variable {k p n : Int} {hr : ringOk k p n = true} {dm : Int → Int} {U op ns0 : List Int} {nx0 : Int} {ts : List (NT k p n)} {os : List (Int × Int)}
theorem AtStep.mk' (h : okO ns0 nx0 os) (hl : ns0.length = ts.length) (hN : IsN k p n dm U ts op) (j : Nat) (hj : j ≤ os.length) : AtStep hr dm U op ns0 nx0 ts os j (runN hr dm op ns0 nx0 ts (os.take j)).1 (runN hr dm op ns0 nx0 ts (os.take j)).2 := by
  obtain ⟨a1, a2, a3, a4⟩ := runN_isN hr (okO_take h j) hl hN
  rw [List.length_take, Nat.min_eq_left hj] at a3
  exact ⟨rfl, rfl, a1, a2, a3, a4⟩
theorem AtStep.ok {j : Nat} {ns : List Int} {tj : List (NT k p n)} (h : AtStep hr dm U op ns0 nx0 ts os j ns tj) (ho : okO ns0 nx0 os) : okO ns (nx0 + j) (os.drop j) := by
  have := okN_drop hr dm op ts ho j
  rw [h.eqN] at this; exact this
theorem AtStep.next {j : Nat} {ns : List Int} {tj : List (NT k p n)} (h : AtStep hr dm U op ns0 nx0 ts os j ns tj) (ho : okO ns0 nx0 os) (hl : ns0.length = ts.length) (hN : IsN k p n dm U ts op) {s : Int × Int} (hs : os[j]? = some s) :
    AtStep hr dm U op ns0 nx0 ts os (j + 1) (numStep ns (nx0 + j) s) (tenStep hr dm op ns tj s) ∧ (s.1 ∈ ns ∧ s.2 ∈ ns ∧ s.1 < s.2) := by
  have hj := (List.getElem?_eq_some_iff.1 hs).1
  have h2 := AtStep.mk' (hr := hr) ho hl hN (j + 1) hj
  have e : os.take (j + 1) = os.take j ++ [s] := by rw [List.take_add_one, hs]; rfl
  have hl2 : (os.take j).length = j := by rw [List.length_take]; omega
  have e2 := runN_snoc hr dm op (os.take j) ns0 nx0 ts s
  rw [← e, h.eqN, h.eqT, hl2] at e2
  rw [e2] at h2
  have h3 := h.ok ho
  obtain ⟨hj', hse⟩ := List.getElem?_eq_some_iff.1 hs
  rw [List.drop_eq_getElem_cons hj, hse] at h3
  exact ⟨h2, h3.1, h3.2.1, h3.2.2.1⟩
theorem AtStep.rank {j : Nat} {ns : List Int} {tj : List (NT k p n)} (h : AtStep hr dm U op ns0 nx0 ts os j ns tj) : ∀ l ∈ tj.map (·.1), l.length ≤ 12 := by
  intro l hl
  obtain ⟨t, ht, rfl⟩ := List.mem_map.1 hl
  exact (h.isN.ten t ht).ax.rank
end
def cellsP (c : Int × Int) : List Value := [.int .i64 c.1, .int .i64 c.2]
theorem cellsP_len (cs : List (Int × Int)) : (cs.flatMap cellsP).length = cs.length * 2 := by
  induction cs with
  | nil => rfl
  | cons x l ih => rw [List.flatMap_cons, List.length_append, ih, List.length_cons]; simp [cellsP]; omega
theorem cellsP_get {cs : List (Int × Int)} {i : Nat} {c : Int × Int} (h : cs[i]? = some c) : (cs.flatMap cellsP)[2 * i]? = some (.int .i64 c.1) ∧ (cs.flatMap cellsP)[2 * i + 1]? = some (.int .i64 c.2) := by
  induction cs generalizing i with
  | nil => simp at h
  | cons x l ih =>
    cases i with
    | zero => simp at h; subst h; exact ⟨rfl, rfl⟩
    | succ i =>
      have h2 := ih (i := i) (by simpa using h)
      have e1 : 2 * (i + 1) = 2 * i + 1 + 1 := by omega
      rw [List.flatMap_cons, e1]
      exact h2
structure StepsS (w : World) (v : Value) (os : List (Int × Int)) : Prop where
  row : Row w 2 v os.length (os.flatMap cellsP)
theorem StepsS.ext {w w' : World} {v : Value} {os : List (Int × Int)} (h : StepsS w v os) (e : Ext w w') : StepsS w' v os := ⟨h.row.ext e⟩
theorem StepsS.val {w : World} {v : Value} {os : List (Int × Int)} (h : StepsS w v os) : ∃ a cap, v = .slice a os.length cap ∧ os.length ≤ cap ∧ cap ≤ 9223372036854775807 := by
  obtain ⟨a, cap, hv, h1, h2, _⟩ := h.row.val
  exact ⟨a, cap, hv, h1, h2⟩
theorem StepsS.get {w : World} {a : Option Addr} {n cap : Nat} {os : List (Int × Int)} (h : StepsS w (.slice a n cap) os) {i : Nat} (hi : i < os.length) :
    ∃ b o x y, a = some ⟨b, o, none⟩ ∧ os[i]? = some (x, y) ∧ w.cell? ⟨b, o + i * 2, none⟩ = some (.int .i64 x) ∧ w.cell? ⟨b, o + i * 2 + 1, none⟩ = some (.int .i64 y) := by
  obtain ⟨a', cap', hv, _, _, h3⟩ := h.row.val
  cases hv
  obtain ⟨b, o, ha, hc⟩ := h3 (by rw [cellsP_len]; omega)
  have e1 := List.getElem?_eq_getElem hi
  obtain ⟨g1, g2⟩ := cellsP_get e1
  have c1 := hc _ _ g1
  have c2 := hc _ _ g2
  rw [Nat.mul_comm] at c1
  rw [Nat.mul_comm, ← Nat.add_assoc] at c2
  exact ⟨b, o, _, _, ha, e1, c1, c2⟩
theorem follow_any {s : Nat} {A op : List Int} {cs : List (Int × Value)} {ls : List (List Int)} {nx : Int} (hal : A.length = 100) (w : World) (hS : OrdS w s A op cs ls nx) (hlen : ls.length ≤ 1000) (hrk : ∀ l ∈ ls, l.length ≤ 500) (hnx0 : 0 ≤ nx) (hnx1 : nx ≤ 2000) (ea eb : Int) (ha : ea ∈ cs.map (·.1)) (hb : eb ∈ cs.map (·.1)) (hab : ea < eb) :
 Calls Tryz.prog 100 #[.pointer (some ⟨s, 0, none⟩), .agg #[.int .i64 ea, .int .i64 eb]] w fun e w' => ∃ cs', e = .returned (.bool true) ∧ w.grownBy w' (some s) ∧ OrdS w' s A op cs' (labStep op (cs.map (·.1)) ls (ea, eb)) (nx + 1) ∧ cs'.map (·.1) = numStep (cs.map (·.1)) nx (ea, eb) := by
 have HPL := Lib.hid (fun (wx : World) (hS : OrdS wx s A op cs ls nx) (x : Int) => place_any hal wx hS hlen x)
 obtain ⟨i, hi, hi2⟩ := find_nat ha
 obtain ⟨j, hj, hj2⟩ := find_nat hb
 have hcl : cs.length = ls.length := by obtain ⟨_, _, _, _, _, hL⟩ := hS.has; exact hL.len
 have hil : i < ls.length := by have := (List.getElem?_eq_some_iff.1 hi2).1; rw [List.length_map] at this; omega
 have hjl : j < ls.length := by have := (List.getElem?_eq_some_iff.1 hj2).1; rw [List.length_map] at this; omega
 have HCT := Lib.hid (fun (wx : World) (hS : OrdS wx s A op cs ls nx) => contract_any hal wx hS hlen hrk i j hil hjl hnx0 hnx1)
 have HOS := Lib.hid hS
 have HI := Lib.hid hi; have HJ := Lib.hid hj
 have hab1 : ¬ eb ≤ ea := by omega
 have hi0 : ¬ ((i : Int) < 0) := by omega
 have hj0 : ¬ ((j : Int) < 0) := by omega
 clear hS hrk hi hj hi2 hj2 hcl ha hb hal
 have hH : Held w w [] := Held.new (Ext.refl w) 0
 go_enter Tryz.func100, Tryz.ntmps100
 go_upto_region 1 with fail
 obtain ⟨hB, hsz⟩ := hH.laid #[.int .i64 ea, .int .i64 eb] 66
 generalize w.alloc (.cells #[.int .i64 ea, .int .i64 eb] 66) = wn1 at hB hsz ⊢
 replace hH : Held w wn1 [aB (w.heap.size) 66 [.int .i64 ea, .int .i64 eb]] := hB
 have HSZwn1 := Lib.hid (show wn1.heap.size = w.heap.size + 1 by rw [hsz]); clear hB hsz
 obtain ⟨wz, rfl⟩ : ∃ q, q = wn1 := ⟨wn1, rfl⟩
 refine wp_region_steps ?Fa (fun b t wx => Held w wx [aB (w.heap.size) 66 [.int .i64 ea, .int .i64 eb]] ∧ (b 0 = true → t 0 = .pointer (some ⟨s, 0, none⟩)) ∧ (b 1 = true → t 1 = .pointer (some ⟨w.heap.size, 0, none⟩)) ∧ (b 2 = true → t 2 = .int .i64 ea) ∧ (b 3 = true → t 3 = .int .i64 (i : Int)) ∧ (b 4 = true → t 4 = .pointer (some ⟨s, 0, none⟩)) ∧ (b 5 = true → t 5 = .pointer (some ⟨w.heap.size, 1, none⟩)) ∧ (b 6 = true → t 6 = .int .i64 eb) ∧ (b 7 = true → t 7 = .int .i64 (j : Int)) ∧ (b 8 = true → t 8 = t 3) ∧ (b 9 = true → t 9 = t 7)) ?hFa (by kernel_rfl) (by kernel_rfl) ?hJa ?hSa ?hEa
 (case hFa => intro t; simp only [putAll, Act.put, List.setIfInBounds_toArray, List.set_cons_zero, List.set_cons_succ, Nat.reduceAdd, Nat.zero_add]; exact rfl)
 case hJa => exact ⟨hH.grow ((Ext.refl _).drew), nof, nof, nof, nof, nof, nof, nof, nof, nof, nof⟩
 case hSa => as_aux_lemma =>
  refine st 1 rfl (fun b t wx hJ hb hd hcl Kc hK => ?_) ?_
  · obtain ⟨hH, hV⟩ := hJ
    go_simp
    apply sk hK
    · rfl
    exact ⟨hH, rp (fun _ => rfl) hV⟩
  refine st 2 rfl (fun b t wx hJ hb hd hcl Kc hK => ?_) ?_
  · obtain ⟨hH, hV⟩ := hJ
    go_simp
    apply sk hK
    · rfl
    exact ⟨hH, jA (rp (fun _ => rfl)) hV⟩
  refine st 3 rfl (fun b t wx hJ hb hd hcl Kc hK => ?_) ?_
  · obtain ⟨hH, hV⟩ := hJ
    have d1 := so hd 1; have r1 := hV.2.1 d1; have q0_0 := hH.cl 0 0 rfl rfl
    go_simp
    apply sk hK
    · (try simp only [r1]); rfl
    exact ⟨hH, jB (rp (fun _ => rfl)) hV⟩
  refine st 4 rfl (fun b t wx hJ hb hd hcl Kc hK => ?_) ?_
  · obtain ⟨hH, v0, v1, v2, v3, v4, v5, v6, v7, v8, v9⟩ := hJ
    have d0 := so hd 0; have d2 := so hd 2
    have n8 : b 8 = false := nf hb fun h => sc hcl 8 3 (h)
    have r0 := v0 d0; have r2 := v2 d2
    go_simp
    go_at_call 77
    refine (HPL.out _ (HOS.out.ext hH.ext) ea).mono ?_; rintro e3 w3 ⟨rfl, h3⟩
    rw [HI.out]
    (try go_simp)
    apply sk hK
    · (try simp only [r0, r2]); rfl
    exact ⟨by have hX := hH.grow h3; simpa only [List.set_cons_zero, List.set_cons_succ, updB, updV, blkOf_mk, tup0_mk, partsOf3, Nat.reduceBEq, cond_true, cond_false, hb, d0, d2, n8, r0, r2] using hX, v0, v1, v2, fun _ => rfl, v4, v5, v6, v7, ab n8, v9⟩
  refine st 5 rfl (fun b t wx hJ hb hd hcl Kc hK => ?_) ?_
  · obtain ⟨hH, hV⟩ := hJ
    go_simp
    apply sk hK
    · rfl
    exact ⟨hH, jD (rp (fun _ => rfl)) hV⟩
  refine st 6 rfl (fun b t wx hJ hb hd hcl Kc hK => ?_) ?_
  · obtain ⟨hH, hV⟩ := hJ
    go_simp
    apply sk hK
    · rfl
    exact ⟨hH, jD (jA (rp (fun _ => rfl))) hV⟩
  refine st 7 rfl (fun b t wx hJ hb hd hcl Kc hK => ?_) ?_
  · obtain ⟨hH, hV⟩ := hJ
    have d5 := so hd 5; have r5 := hV.2.2.2.2.2.1 d5; have q0_1 := hH.cl 0 1 rfl rfl
    go_simp
    apply sk hK
    · (try simp only [r5]); rfl
    exact ⟨hH, jD (jB (rp (fun _ => rfl))) hV⟩
  refine st 8 rfl (fun b t wx hJ hb hd hcl Kc hK => ?_) ?_
  · obtain ⟨hH, v0, v1, v2, v3, v4, v5, v6, v7, v8, v9⟩ := hJ
    have d3 := so hd 3; have d4 := so hd 4; have d6 := so hd 6
    have n9 : b 9 = false := nf hb fun h => sc hcl 9 7 (h)
    have r3 := v3 d3; have r4 := v4 d4; have r6 := v6 d6
    go_simp
    go_at_call 77
    refine (HPL.out _ (HOS.out.ext hH.ext) eb).mono ?_; rintro e7 w7 ⟨rfl, h7⟩
    rw [HJ.out]
    (try go_simp)
    apply sk hK
    · (try simp only [r3, r4, r6]); rfl
    exact ⟨by have hX := hH.grow h7; simpa only [List.set_cons_zero, List.set_cons_succ, updB, updV, blkOf_mk, tup0_mk, partsOf3, Nat.reduceBEq, cond_true, cond_false, hb, d3, d4, d6, n9, r3, r4, r6] using hX, v0, v1, v2, v3, v4, v5, v6, fun _ => rfl, v8, ab n9⟩
  refine st 9 rfl (fun b t wx hJ hb hd hcl Kc hK => ?_) ?_
  · obtain ⟨hH, hV⟩ := hJ
    have d0 := so hd 0; have d1 := so hd 1; have d2 := so hd 2; have d3 := so hd 3; have d7 := so hd 7; have r0 := hV.1 d0; have r1 := hV.2.1 d1; have r2 := hV.2.2.1 d2; have r3 := hV.2.2.2.1 d3; have r7 := hV.2.2.2.2.2.2.2.1 d7
    go_simp
    apply sk hK
    · (try simp only [r0, r1, r2, r3, r7]); rfl
    exact ⟨hH, jD (jD (rp (fun _ => (by first | rfl | exact r3.symm)))) hV⟩
  refine st 10 rfl (fun b t wx hJ hb hd hcl Kc hK => ?_) ?_
  · obtain ⟨hH, hV⟩ := hJ
    have d0 := so hd 0; have d1 := so hd 1; have d2 := so hd 2; have d3 := so hd 3; have d4 := so hd 4; have d5 := so hd 5; have d6 := so hd 6; have d7 := so hd 7; have d8 := so hd 8; have r0 := hV.1 d0; have r1 := hV.2.1 d1; have r2 := hV.2.2.1 d2; have r3 := hV.2.2.2.1 d3; have r4 := hV.2.2.2.2.1 d4; have r5 := hV.2.2.2.2.2.1 d5; have r6 := hV.2.2.2.2.2.2.1 d6; have r7 := hV.2.2.2.2.2.2.2.1 d7; have r8 := hV.2.2.2.2.2.2.2.2.1 d8
    go_simp
    apply sk hK
    · (try simp only [r0, r1, r2, r3, r4, r5, r6, r7, r8]); rfl
    exact ⟨hH, jD (jD (jA (fun _ => fun _ => (by first | rfl | exact r7.symm)))) hV⟩
  exact AllSteps.nil
 intro b t wa hJ hall
 obtain ⟨hHa, v0, v1, v2, v3, v4, v5, v6, v7, v8, v9⟩ := hJ
 have a0 := hall 0 (by decide); have a1 := hall 1 (by decide); have a2 := hall 2 (by decide); have a3 := hall 3 (by decide); have a4 := hall 4 (by decide); have a5 := hall 5 (by decide); have a6 := hall 6 (by decide); have a7 := hall 7 (by decide); have a8 := hall 8 (by decide); have a9 := hall 9 (by decide)
 (try simp only [a0, a1, a2, a3, a4, a5, a6, a7, a8, a9, cond_true] at hHa)
 replace v0 := v0 a0; replace v1 := v1 a1; replace v2 := v2 a2; replace v3 := v3 a3; replace v4 := v4 a4; replace v5 := v5 a5; replace v6 := v6 a6; replace v7 := v7 a7; replace v8 := v8 a8; replace v9 := v9 a9
 clear hall a0 a1 a2 a3 a4 a5 a6 a7 a8 a9
 generalize t 9 = x9 at hHa v9 ⊢; generalize t 8 = x8 at hHa v8 ⊢; generalize t 7 = x7 at hHa v7 v9 ⊢; generalize t 6 = x6 at hHa v6 ⊢; generalize t 5 = x5 at hHa v5 ⊢; generalize t 4 = x4 at hHa v4 ⊢; generalize t 3 = x3 at hHa v3 v8 ⊢; generalize t 2 = x2 at hHa v2 ⊢; generalize t 1 = x1 at hHa v1 ⊢; generalize t 0 = x0 at hHa v0 ⊢; subst v0; subst v1; subst v2; subst v3; subst v4; subst v5; subst v6; subst v7; subst v8; subst v9
 clear b
 replace hH := hHa; clear hHa
 replace hH : Held w wa [aB (w.heap.size) 66 [.int .i64 ea, .int .i64 eb]] := hH
 have q0_0 := hH.cl 0 0 rfl rfl; have q0_1 := hH.cl 0 1 rfl rfl; have l0_ := hH.bl 0 rfl
 go_wp2_with fail
 clear q0_0 q0_1 l0_
 refine (HCT.out _ (HOS.out.ext hH.ext)).mono ?_; rintro e5 w5 ⟨na, nb, u, rfl, _, _, g5, hS5⟩
 have HE := Lib.hid hH.ext; clear hH
 go_wp2
 go_ret
 refine ⟨drop2 cs i j ++ [(nx, u)], rfl, grownBy_trans (HE.out.gr (some s)) g5, ?_, ?_⟩
 · unfold labStep; show OrdS _ s A op _ (drop2 ls (findL (cs.map (·.1)) ea).toNat (findL (cs.map (·.1)) eb).toNat ++ [resL op ls (findL (cs.map (·.1)) ea).toNat (findL (cs.map (·.1)) eb).toNat]) _; rw [HI.out, HJ.out]; exact hS5
 unfold numStep; show _ = drop2 (cs.map (·.1)) (findL (cs.map (·.1)) ea).toNat (findL (cs.map (·.1)) eb).toNat ++ [nx]; rw [HI.out, HJ.out, List.map_append, ← drop2_map]; rfl
theorem Tryz.infoStep : (Tryz.prog.info? 66).map (fun i => (i.zero, i.size, i.bytes)) = some (some (.agg #[.int .i64 0, .int .i64 0]), 2, 16) := by kernel_rfl
section
variable {ex : Option Nat} {a w w' : World} {L : List Asn} {k : Nat}
theorem run_pushSt (ty : TypeId) {v src x y : Value} {n : Nat} {xs : List Value} (h : HeldX ex a w L) (h1 : L[k]? = some (aR 66 2 v n xs)) (hr : Row w 2 src 1 [x, y]) (hx : x.oneCell' = true) (hy : y.oneCell' = true) (hb : n + 1 ≤ 1099511627) :
    ∃ v' w', (Builtin.append_ #[41, 41] ty #[v, src]).run Tryz.prog w = .ok v' w' ∧ HeldX ex a w' (L.set k (aR 66 2 v' (n + 1) (xs ++ [x, y]))) ∧ w.grownBy w' v.ownBlock ∧ Row w' 2 v' (n + 1) (xs ++ [x, y]) := by
  have ho : w.ownsRow 0 66 2 v n xs := h.get h1
  obtain ⟨i, hi, hzz⟩ := Option.map_eq_some_iff.1 Tryz.infoStep
  simp only [Prod.mk.injEq] at hzz
  obtain ⟨hz, hsz, hby⟩ := hzz
  obtain ⟨v', w', e1, e2, e3, e4⟩ := run_app (P := Tryz.prog) w 0 41 ty 66 i _ 2 16 Tryz.underlying41 hi hz hsz hby rfl (by omega) v _ _ ho src 1 _ hr (by intro u hu; simp at hu; rcases hu with rfl | rfl; exact hx; exact hy) (by unfold maxLen; omega) (by omega) (Nat.zero_le _)
  refine ⟨v', w', e1, h.turn h1 e3 (fun b hb => by simp [aR, hb]) e2 fun c hc => ?_, e3, ownsRow_row e2⟩
  rcases e4 with e4 | e4
  · left; have hc' : c ∈ v'.ownBlock.toList := hc; rw [e4] at hc'; exact hc'
  · right; have hc' : c ∈ v'.ownBlock.toList := hc; rw [e4] at hc'; simp at hc'; omega
end
def aSt (v : Value) (os : List (Int × Int)) : Asn := aR 66 2 v os.length (os.flatMap cellsP)
theorem HeldX.steps {ex : Option Nat} {a w : World} {L : List Asn} {k : Nat} {v : Value} {os : List (Int × Int)} (h : HeldX ex a w L) (hk : L[k]? = some (aSt v os)) : StepsS w v os := ⟨ownsRow_row (h.get hk)⟩
def plainAt (m q : Nat) : Int × Int := if q = 0 then (0, 1) else ((q : Int) + 1, (m : Int) + q - 1)
def plainT (m q : Nat) : List (Int × Int) := (List.range q).map (plainAt m)
theorem plainT_succ (m q : Nat) : plainT m (q + 1) = plainT m q ++ [plainAt m q] := by simp [plainT, List.range_succ]
theorem plainT_len (m q : Nat) : (plainT m q).length = q := by simp [plainT]
theorem plainC_succ (m q : Nat) : (plainT m (q + 1)).flatMap cellsP = (plainT m q).flatMap cellsP ++ [.int .i64 (plainAt m q).1, .int .i64 (plainAt m q).2] := by rw [plainT_succ, List.flatMap_append]; rfl
theorem plainOrder_own {k p n : Int} (hr : ringOk k p n = true) {dm : Int → Int} {U : List Int} {ts : List (NT k p n)} {op : List Int} (hN : IsN k p n dm U ts op) (tv ov : Value) (w : World) (hT : TensS w tv (ts.map (tenOf dm))) (hO : IntS w ov op) :
 Calls Tryz.prog 12 #[.agg #[.int .i64 k, .int .i64 p, .int .i64 n, tv, ov]] w fun e w' => ∃ v, e = .returned v ∧ Held w w' [aSt v (plainT ts.length (ts.length - 1))] := by
 obtain ⟨m, aV, cV, aO, cO, rfl, rfl, hcT1, hcT2, hcO1, hcO2, hm12, hop12, HM, HD3, hTl⟩ := net_in hN hT hO
 have hT0 := hT; have hO0 := hO; have HR := Lib.hid hr; have HN := Lib.hid hN; clear hr hN; try rw [HM.out]
 have HP0 : Hid (plainT m 0 = []) := Lib.hid rfl
 have HPS := Lib.hid (plainC_succ m)
 have HPA : Hid (∀ q : Nat, plainAt m q = if q = 0 then (0, 1) else ((q : Int) + 1, (m : Int) + q - 1)) := Lib.hid fun q => rfl
 have HPL := Lib.hid (plainT_len m)
 obtain ⟨PT, hPT⟩ : ∃ f, plainT m = f := ⟨_, rfl⟩
 rw [hPT] at HP0 HPS HPL ⊢
 clear hPT
 go_enter Tryz.func12, Tryz.ntmps12
 go_upto_region 1 with fail
 have hH : Held w w [] := Held.new (Ext.refl w) 0
 obtain ⟨hB, hsz⟩ := hH.laid #[.int .i64 k, .int .i64 p, .int .i64 n, .slice aV m cV, .slice aO op.length cO] 29
 generalize w.alloc (.cells #[.int .i64 k, .int .i64 p, .int .i64 n, .slice aV m cV, .slice aO op.length cO] 29) = wn1 at hB hsz ⊢
 replace hH : Held w wn1 [nB w.heap.size k p n aV m cV aO op.length cO] := hB
 have HSZwn1 := Lib.hid (show wn1.heap.size = w.heap.size + 1 by rw [hsz]); clear hB hsz
 obtain ⟨q0_0, q0_1, q0_2, q0_3, q0_4, l0_⟩ := hH.c5 0 rfl
 go_wp2_with fail
 clear q0_0 q0_1 q0_2 q0_3 q0_4 l0_
 refine (networkOk_any HR.out HN.out _ _ _ (hT0.ext hH.ext) (hO0.ext hH.ext)).mono ?_; rintro e0 w0 ⟨rfl, h0⟩
 replace hH := hH.grow h0
 replace hH := hH.nilR 66 2
 replace hH : Held w w0 [nB w.heap.size k p n aV m cV aO op.length cO, aR 66 2 (.slice none 0 0) 0 []] := hH
 obtain ⟨q0_0, q0_1, q0_2, q0_3, q0_4, l0_⟩ := hH.c5 0 rfl
 go_wp2_with fail
 clear q0_0 q0_1 q0_2 q0_3 q0_4 l0_
 go_loopw [3, 5] (fun vl i wr => ∃ (q : Nat) (al : Option Addr) (cl : Nat), q ≤ m - 1 ∧ i = .int .i64 (q : Int) ∧ vl = .slice al q cl ∧ Held w wr [nB w.heap.size k p n aV m cV aO op.length cO, aR 66 2 (.slice al q cl) q ((PT q).flatMap cellsP)]) (fun vl i wr => m - 1 - (RowKit.intOf i).toNat)
 case atStart => exact ⟨0, none, 0, Nat.zero_le _, rfl, rfl, by rw [HP0.out]; exact hH⟩
 clear hH
 obtain ⟨q, al, cl, hq, rfl, rfl, hH⟩ := hrel
 by_cases hlt : (q : Int) < (m : Int) - 1
 ·
  have hps := HPS.out q; rw [HPA.out q] at hps
  by_cases hz : q = 0
  ·
   rw [if_pos hz] at hps
   have HPQ := Lib.hid hps; clear hps
   have hbe : ((q : Int) == 0) = true := by rw [beq_iff_eq]; omega
   have hzi : (q : Int) = 0 := by omega
   clear hz hzi
   obtain ⟨q0_0, q0_1, q0_2, q0_3, q0_4, l0_⟩ := hH.c5 0 rfl
   go_wp2_with (at_builtin; refine wpList_app _ rfl _ _ 41 rfl _ _ rfl rfl _ (run_pushSt _ (hH.grow ((Ext.refl _).alloc _)) (n := q) (k := 1) rfl (row_one2 _ _ _ _) rfl rfl (by omega)) ?_; rintro vp wp ⟨hHp, gp, rp⟩; obtain ⟨ap, cp, rfl, _, _⟩ := rp.val)
   go_roundw
   case rel => exact ⟨q + 1, _, _, by omega, by go_num, rfl, by rw [HPQ.out]; exact hHp⟩
   case measure => simp [RowKit.intOf]; omega
  rw [if_neg hz] at hps
  have HPQ := Lib.hid hps; clear hps
  have hbe : ((q : Int) == 0) = false := by rw [beq_eq_false_iff_ne]; omega
  have hzi : ¬ (q : Int) = 0 := by omega
  obtain ⟨q0_0, q0_1, q0_2, q0_3, q0_4, l0_⟩ := hH.c5 0 rfl
  go_wp2_with (at_builtin; refine wpList_app _ rfl _ _ 41 rfl _ _ rfl rfl _ (run_pushSt _ (hH.grow ((Ext.refl _).alloc _)) (n := q) (k := 1) rfl (row_one2 _ _ _ _) rfl rfl (by omega)) ?_; rintro vp wp ⟨hHp, gp, rp⟩; obtain ⟨ap, cp, rfl, _, _⟩ := rp.val)
  go_roundw
  case rel => exact ⟨q + 1, _, _, by omega, by go_num, rfl, by rw [HPQ.out]; exact hHp⟩
  case measure => simp [RowKit.intOf]; omega
 have hqe : q = m - 1 := by omega
 have HQE := Lib.hid hqe; clear hqe
 have hH2 := hH.sub (L' := [aR 66 2 (.slice al q cl) q ((PT q).flatMap cellsP)]) (.cons _ (.cons_cons _ .slnil))
 have HH2 := Lib.hid hH2; clear hH hH2
 go_wp2
 go_ret
 exact ⟨_, rfl, by unfold aSt; rw [← HQE.out, HPL.out]; exact HH2.out⟩
section
variable {k p n : Int} (hr : ringOk k p n = true)
variable {dm : Int → Int} {U : List Int}
theorem sums_sum {a keep : List Int} {xs : List (El k p n)} (ha : IsT k p n dm U a xs) : Sums1 k p n hr dm (keepL a keep) (sumXs hr dm a keep xs) [(a, xs)] keep := by
  have hocc : ∀ x, x ∈ occ [(a, xs)] ↔ x ∈ a := fun x => by rw [show occ [(a, xs)] = a ++ [] from rfl, List.append_nil]
  refine ⟨fun x => by rw [mem_keepL, hocc], fun τ hf => ?_⟩
  have hp : a.Perm (ascL (occ [(a, xs)])) := by
    refine (List.perm_ext_iff_of_nodup ha.sub.nodup (ascL_nodup _)).2 fun x => ?_
    rw [mem_ascL, hocc]
    exact ⟨fun h => ⟨ha.uni.labs (ha.sub.sub x h), h⟩, fun h => h.2⟩
  rw [show sumXs hr dm a keep xs = tab (axs dm (keepL a keep)) (contrF (rig hr) dm a keep (valT hr dm a xs)) σ0 from rfl, valT_tab hr (contrF_dep (rig hr) (valT_dep hr dm a xs)) hf]
  unfold netG
  rw [contrF_perm (rig hr) ha.sub hp]
  refine sumA_ext (rig hr) _ _ fun υ => ?_
  rw [netF_cons, netF_nil, (rig hr).mul_one]
theorem fin_sums {L op K : List Int} {ys : List (El k p n)} {ts : List (NT k p n)} (hI : IsT k p n dm U L ys) (so : Sub U op) (hs : Sums1 k p n hr dm L ys ts K) (h1 : ∀ x ∈ occ ts, x ∈ U) (hK : ∀ x ∈ occ ts, x ∈ K) (ho : ∀ x ∈ op, x ∈ L) : finXs hr dm L op ys = netXs hr dm ts op := by
  have h := Sums1.trans hr (t2 := []) (sums_sum hr hI (keep := op)) hs (fun x hx => hI.uni.labs (h1 x hx)) (fun x hx hn => absurd (hK x hx) hn) (fun x hx => by simp [occ] at hx)
  rw [List.append_nil] at h
  refine Sums1.done hr hI.uni so h ((List.perm_ext_iff_of_nodup (hI.sub.keep op).nodup so.nodup).2 fun x => ?_)
  rw [mem_keepL]
  exact ⟨fun h => h.2, fun h => ⟨ho x h, h⟩⟩
theorem fin_one {L op : List Int} {ys : List (El k p n)} (hI : IsT k p n dm U L ys) (so : Sub U op) (ho : ∀ x ∈ op, x ∈ L) : finXs hr dm L op ys = netXs hr dm [(L, ys)] op := by
  have e : occ [(L, ys)] = L := by rw [show occ [(L, ys)] = L ++ [] from rfl, List.append_nil]
  exact fin_sums hr hI so (Sums1.one hr (K := L) fun x h => h) (fun x hx => by rw [e] at hx; exact hI.sub.sub x hx) (fun x hx => by rwa [e] at hx) ho
def joinT (dm : Int → Int) (a t : NT k p n) : NT k p n := (joinL a.1 t.1, contrXs hr dm a.1 t.1 (joinL a.1 t.1) a.2 t.2)
theorem joinT_isT {a t : NT k p n} (ha : IsT k p n dm U a.1 a.2) (ht : IsT k p n dm U t.1 t.2) : IsT k p n dm U (joinT hr dm a t).1 (joinT hr dm a t).2 := by
  have h := contr_isT hr ha ht (joinL a.1 t.1)
  rw [keepL_all (fun x hx => hx)] at h
  exact h
theorem join_sums {a t : NT k p n} {ts : List (NT k p n)} (ha : IsT k p n dm U a.1 a.2) (ht : IsT k p n dm U t.1 t.2) (hs : Sums1 k p n hr dm a.1 a.2 ts U) (h1 : ∀ x ∈ occ ts, x ∈ U) : Sums1 k p n hr dm (joinT hr dm a t).1 (joinT hr dm a t).2 (ts ++ [t]) U := by
  have hc := sums_contr hr ha ht (keep := joinL a.1 t.1)
  rw [keepL_all (fun x hx => hx)] at hc
  have hoc : ∀ x ∈ occ [(a.1, a.2), (t.1, t.2)], x ∈ joinL a.1 t.1 := fun x hx => by
    rw [show occ [(a.1, a.2), (t.1, t.2)] = a.1 ++ (t.1 ++ []) from rfl, List.append_nil, List.mem_append] at hx
    rw [mem_joinL]; exact hx
  have hc2 : Sums1 k p n hr dm (joinT hr dm a t).1 (joinT hr dm a t).2 ((a.1, a.2) :: [(t.1, t.2)]) U := Sums1.keep hr hc fun x hx => ⟨fun h => (ha.sub.join ht.sub).sub x h, fun _ => hoc x hx⟩
  refine Sums1.trans hr hc2 hs (fun x hx => ha.uni.labs (h1 x hx)) (fun x hx hn => absurd (h1 x hx) hn) fun x hx => ?_
  rw [show occ [(t.1, t.2)] = t.1 ++ [] from rfl, List.append_nil] at hx
  exact ha.uni.labs (ht.sub.sub x hx)
theorem ascL_nil : ascL [] = [] := by unfold ascL; simp [hasL]
theorem joinAllT_go (u : Uni dm U) : ∀ (ts a : List (NT k p n)), (∀ t ∈ ts, IsT k p n dm U t.1 t.2) → (∀ t ∈ a, IsT k p n dm U t.1 t.2) → ∀ x : NT k p n, IsT k p n dm U x.1 x.2 → Sums1 k p n hr dm x.1 x.2 a U →
    IsT k p n dm U (ts.foldl (joinT hr dm) x).1 (ts.foldl (joinT hr dm) x).2 ∧ Sums1 k p n hr dm (ts.foldl (joinT hr dm) x).1 (ts.foldl (joinT hr dm) x).2 (a ++ ts) U
  | [], a, _, _, x, h1, h2 => by rw [List.append_nil]; exact ⟨h1, h2⟩
  | t :: ts, a, h, ha, x, h1, h2 => by
    have ht := h t (by simp)
    have h3 := joinAllT_go u ts (a ++ [t]) (fun s hs => h s (by simp [hs])) (fun s hs => by
      rcases List.mem_append.1 hs with hs | hs
      · exact ha s hs
      · simp at hs; subst hs; exact ht) (joinT hr dm x t) (joinT_isT hr h1 ht) (join_sums hr h1 ht h2 fun y hy => by
        obtain ⟨s, hs, hy⟩ := mem_occ.1 hy
        exact (ha s hs).sub.sub y hy)
    rw [List.append_assoc] at h3
    exact h3
theorem net_nil (dm : Int → Int) (op : List Int) (h : ∀ x ∈ op, x ∈ occ ([] : List (NT k p n))) : op = [] ∧ netXs hr dm ([] : List (NT k p n)) op = [(rig hr).one] := by
  have e : op = [] := List.eq_nil_iff_forall_not_mem.2 fun x hx => by have := h x hx; simp [occ] at this
  subst e
  refine ⟨rfl, ?_⟩
  unfold netXs netG contrF
  rw [show occ ([] : List (NT k p n)) = [] from rfl, ascL_nil]
  rfl
end
def okB : List Int → Int → List (Int × Int) → Bool
  | _, _, [] => true
  | ns, nx, s :: r => hasL ns s.1 && (hasL ns s.2 && (decide (s.1 < s.2) && okB (numStep ns nx s) (nx + 1) r))
theorem okB_ok : ∀ {r : List (Int × Int)} {ns : List Int} {nx : Int}, okB ns nx r = true → okO ns nx r
  | [], _, _, _ => trivial
  | s :: r, ns, nx, h => by
    unfold okB at h
    rw [Bool.and_eq_true, Bool.and_eq_true, Bool.and_eq_true] at h
    exact ⟨(hasL_iff _ _).1 h.1, (hasL_iff _ _).1 h.2.1, of_decide_eq_true h.2.2.1, okB_ok h.2.2.2⟩
theorem plain_okB : (List.range 13).all (fun m => okB (numL m) (m : Int) (plainT m (m - 1))) = true := by kernel_rfl
theorem plain_ok {m : Nat} (h : m ≤ 12) : okO (numL m) (m : Int) (plainT m (m - 1)) :=
  okB_ok (List.all_eq_true.1 plain_okB m (List.mem_range.2 (by omega)))
section
variable {k p n : Int} (hr : ringOk k p n = true)
variable {dm : Int → Int} {U : List Int} {ts : List (NT k p n)} {op : List Int}
def joinA (dm : Int → Int) : List (NT k p n) → NT k p n
  | [] => ([], [])
  | b :: l => l.foldl (joinT hr dm) b
theorem joinA_snoc (dm : Int → Int) (b : NT k p n) (l : List (NT k p n)) (t : NT k p n) : joinA hr dm (b :: (l ++ [t])) = joinT hr dm (joinA hr dm (b :: l)) t := by
  show (l ++ [t]).foldl (joinT hr dm) b = joinT hr dm (l.foldl (joinT hr dm) b) t; rw [List.foldl_append]; rfl
theorem joinA_ok (u : Uni dm U) {b : NT k p n} {l : List (NT k p n)} (h : ∀ t ∈ b :: l, IsT k p n dm U t.1 t.2) : IsT k p n dm U (joinA hr dm (b :: l)).1 (joinA hr dm (b :: l)).2 ∧ Sums1 k p n hr dm (joinA hr dm (b :: l)).1 (joinA hr dm (b :: l)).2 (b :: l) U := by
  have hb := h b (by simp)
  have h1 := joinAllT_go hr u l [b] (fun t ht => h t (by simp [ht])) (fun t ht => by simp at ht; subst ht; exact hb) b hb (Sums1.one hr (K := U) hb.sub.sub)
  exact h1
end
theorem cls_next (P : List Int) (T M : Nat) : ((List.range T).filter fun q => decide (atL P q < ((M + 1 : Nat) : Int))).Perm (((List.range T).filter fun q => decide (atL P q < (M : Int))) ++ (List.range T).filter fun q => atL P q == (M : Int)) := by
  have h := (List.filter_append_perm (fun q => decide (atL P q < (M : Int))) ((List.range T).filter fun q => decide (atL P q < ((M + 1 : Nat) : Int)))).symm
  rw [List.filter_filter, List.filter_filter] at h
  have e1 : ((List.range T).filter fun q => decide (atL P q < (M : Int)) && decide (atL P q < ((M + 1 : Nat) : Int))) = (List.range T).filter fun q => decide (atL P q < (M : Int)) := by
    apply List.filter_congr
    intro q _
    rw [Bool.eq_iff_iff]
    simp; omega
  have e2 : ((List.range T).filter fun q => (!decide (atL P q < (M : Int))) && decide (atL P q < ((M + 1 : Nat) : Int))) = (List.range T).filter fun q => atL P q == (M : Int) := by
    apply List.filter_congr
    intro q _
    rw [Bool.eq_iff_iff]
    simp; omega
  rw [e1, e2] at h
  exact h
theorem parts_flat (P : List Int) (T : Nat) (hlo : ∀ q, q < T → 0 ≤ atL P q) : ∀ M : Nat, ((partsL P T M).flatten).Perm (((List.range T).filter fun q => decide (atL P q < (M : Int))).map fun q : Nat => (q : Int))
  | 0 => by
    have e : ((List.range T).filter fun q => decide (atL P q < ((0 : Nat) : Int))) = [] := by
      rw [List.filter_eq_nil_iff]
      intro q hq
      have := hlo q (List.mem_range.1 hq)
      simp; omega
    rw [e]; exact List.Perm.refl _
  | M + 1 => by
    have hc : (if (clsL P M T).isEmpty = true then [] else [clsL P M T]).flatten = clsL P M T := by
      split
      · rename_i h
        rw [List.isEmpty_iff.1 h]; rfl
      · simp
    rw [partsL_succ, List.flatten_append, hc]
    refine ((parts_flat P T hlo M).append_right _).trans ?_
    have h2 := ((cls_next P T M).map fun q : Nat => (q : Int)).symm
    rw [List.map_append] at h2
    exact h2
theorem parts_perm (P : List Int) (T : Nat) (hR : ∀ q, q < T → 0 ≤ atL P q ∧ atL P q < (T : Int)) : ((partsL P T T).flatten).Perm (idL T) := by
  have h := parts_flat P T (fun q hq => (hR q hq).1) T
  rw [List.filter_eq_self.2 (fun q hq => by have := (hR q (List.mem_range.1 hq)).2; simpa using this)] at h
  exact h
theorem idL_nodup (T : Nat) : (idL T).Nodup := by
  unfold idL
  exact List.pairwise_map.2 ((List.nodup_range (n := T)).imp fun h e => h (by omega))
theorem mem_idL {T : Nat} {q : Int} : q ∈ idL T ↔ 0 ≤ q ∧ q < (T : Int) := by
  unfold idL
  rw [List.mem_map]
  constructor
  · rintro ⟨a, ha, rfl⟩
    have := List.mem_range.1 ha
    omega
  · rintro ⟨h1, h2⟩
    exact ⟨q.toNat, List.mem_range.2 (by omega), by omega⟩
theorem mem_clsL {P : List Int} {first T : Nat} {q : Int} : q ∈ clsL P first T ↔ ∃ i : Nat, i < T ∧ (i : Int) = q ∧ atL P i = (first : Int) := by
  unfold clsL
  rw [List.mem_map]
  constructor
  · rintro ⟨a, ha, rfl⟩
    obtain ⟨h1, h2⟩ := List.mem_filter.1 ha
    exact ⟨a, List.mem_range.1 h1, rfl, by simpa using h2⟩
  · rintro ⟨i, h1, rfl, h2⟩
    exact ⟨i, List.mem_filter.2 ⟨List.mem_range.2 h1, by simpa using h2⟩, rfl⟩
theorem mem_partsL {P : List Int} {T m : Nat} {l : List Int} : l ∈ partsL P T m ↔ ∃ first, first < m ∧ clsL P first T = l ∧ l ≠ [] := by
  unfold partsL
  rw [List.mem_filterMap]
  constructor
  · rintro ⟨f, h1, h2⟩
    split at h2
    · cases h2
    · rename_i h
      injection h2 with h2
      subst h2
      exact ⟨f, List.mem_range.1 h1, rfl, fun e => h (List.isEmpty_iff.2 e)⟩
  · rintro ⟨f, h1, rfl, h2⟩
    exact ⟨f, List.mem_range.2 h1, by rw [if_neg (fun e => h2 (List.isEmpty_iff.1 e))]⟩
theorem clsL_sorted (P : List Int) (first T : Nat) : (clsL P first T).Pairwise (· < ·) := by
  unfold clsL
  exact List.pairwise_map.2 ((List.pairwise_lt_range.filter _).imp fun h => by omega)
theorem clsL_nodup (P : List Int) (first T : Nat) : (clsL P first T).Nodup := (clsL_sorted P first T).imp fun h => by omega
def neiL (Ls : List (List Int)) (k j : Nat) : List Int := ((List.range j).filter fun i => !(i == k) && shareL (labL Ls i) (labL Ls k)).map fun q : Nat => (q : Int)
theorem neiL_succ (Ls : List (List Int)) (k j : Nat) : neiL Ls k (j + 1) = neiL Ls k j ++ if (!(j == k) && shareL (labL Ls j) (labL Ls k)) = true then [(j : Int)] else [] := by
  unfold neiL
  rw [List.range_succ, List.filter_append, List.map_append]
  congr 1
  cases h : (!(j == k) && shareL (labL Ls j) (labL Ls k)) <;> simp [List.filter_cons, h]
theorem neiL_len (Ls : List (List Int)) (k j : Nat) : (neiL Ls k j).length ≤ j := by
  unfold neiL
  rw [List.length_map]
  exact Nat.le_trans (List.length_filter_le _ _) (by simp)
theorem pairs_in (Ls : List (List Int)) (T : Nat) : ∀ q ∈ pairsL Ls T, q.1 < (idL T).length ∧ q.2 < (idL T).length := fun q hq => by
  obtain ⟨h1, h2, _⟩ := mem_pairsL.1 (show (q.1, q.2) ∈ _ from hq)
  rw [idL_length]; omega
theorem share_class {Ls : List (List Int)} {T : Nat} {P : List Int} (hp : Mrgs (idL T) (pairsL Ls T) P) {i j : Nat} (hi : i < T) (hj : j < T) {x : Int} (h1 : x ∈ labL Ls i) (h2 : x ∈ labL Ls j) : atL P i = atL P j := by
  have pp := hp.pair (pairs_in Ls T)
  rcases Nat.lt_trichotomy i j with h | h | h
  · exact (pp (j, i) (mem_pairsL.2 ⟨hj, h, shareL_iff.2 ⟨x, h2, h1⟩⟩)).symm
  · rw [h]
  · exact pp (i, j) (mem_pairsL.2 ⟨hi, h, shareL_iff.2 ⟨x, h1, h2⟩⟩)
theorem shareL_comm' (a b : List Int) : shareL a b = shareL b a := by
  rw [Bool.eq_iff_iff, shareL_iff, shareL_iff]
  exact ⟨fun ⟨x, h1, h2⟩ => ⟨x, h2, h1⟩, fun ⟨x, h1, h2⟩ => ⟨x, h2, h1⟩⟩
theorem part_nei {Ls : List (List Int)} {T : Nat} {P : List Int} (hp : Mrgs (idL T) (pairsL Ls T) P) {first k : Nat} (hk : (k : Int) ∈ clsL P first T) (hl : 1 < (clsL P first T).length) : neiL Ls k T ≠ [] := by
  intro e
  have hno : ∀ i, i < T → i ≠ k → shareL (labL Ls i) (labL Ls k) = false := fun i hi hne => by
    rw [Bool.eq_false_iff]
    intro hs
    have : (i : Int) ∈ neiL Ls k T := by
      unfold neiL
      exact List.mem_map.2 ⟨i, List.mem_filter.2 ⟨List.mem_range.2 hi, by simp [hne, hs]⟩, rfl⟩
    rw [e] at this
    cases this
  obtain ⟨k', hkT, hkk, hkf⟩ := mem_clsL.1 hk
  have hkk' : k' = k := by omega
  subst hkk'
  have hf := hp.factor (g := fun z => decide (z = k')) (fun x y hx hy hxy => by
    rw [idL_length] at hx hy
    rw [idL_at hx, idL_at hy] at hxy
    have : x = y := by omega
    rw [this]) (fun q hq => by
    obtain ⟨h1, h2, h3⟩ := mem_pairsL.1 (show (q.1, q.2) ∈ _ from hq)
    refine ⟨by rw [idL_length]; omega, by rw [idL_length]; omega, ?_⟩
    have n1 : q.1 ≠ k' := fun e => by
      have := hno q.2 (by omega) (by omega)
      rw [e, shareL_comm'] at h3
      rw [this] at h3; cases h3
    have n2 : q.2 ≠ k' := fun e => by
      have := hno q.1 (by omega) (by omega)
      rw [e] at h3
      rw [this] at h3; cases h3
    simp [n1, n2])
  have hall : ∀ z ∈ clsL P first T, z = (k' : Int) := fun z hz => by
    obtain ⟨i, hi, rfl, hif⟩ := mem_clsL.1 hz
    have := hf i k' (by rw [idL_length]; exact hi) (by rw [idL_length]; exact hkT) (by rw [hif, hkf])
    simp at this
    rw [this]
  have hnd := clsL_nodup P first T
  rcases hc : clsL P first T with _ | ⟨a, _ | ⟨b, r⟩⟩
  · rw [hc] at hl; simp at hl
  · rw [hc] at hl; simp at hl
  · rw [hc] at hall hnd
    have h1 := hall a (by simp)
    have h2 := hall b (by simp)
    rw [h1, h2] at hnd
    simp at hnd
section
variable {k p n : Int} (hr : ringOk k p n = true)
variable {dm : Int → Int} {U : List Int} {ts : List (NT k p n)} {op : List Int}
theorem pickN_append (ts : List (NT k p n)) (a b : List Int) : pickN ts (a ++ b) = pickN ts a ++ pickN ts b := List.filterMap_append
theorem pickN_perm {a b : List Int} (h : a.Perm b) : (pickN ts a).Perm (pickN ts b) := h.filterMap _
theorem pickN_all (ts : List (NT k p n)) : pickN ts (idL ts.length) = ts := by
  unfold pickN idL
  rw [List.filterMap_map]
  have : ∀ m, m ≤ ts.length → (List.range m).filterMap ((fun q : Int => ts[q.toNat]?) ∘ fun i : Nat => (i : Int)) = ts.take m := by
    intro m
    induction m with
    | zero => intro _; rfl
    | succ m ih =>
      intro h
      rw [List.range_succ, List.filterMap_append, ih (by omega), List.take_add_one]
      have e2 : (List.filterMap ((fun q : Int => ts[q.toNat]?) ∘ fun i : Nat => (i : Int)) [m]) = ts[m]?.toList := by
        rw [List.getElem?_eq_getElem (show m < ts.length by omega)]
        simp [List.getElem?_eq_getElem (show m < ts.length by omega)]
      rw [e2]
  rw [this _ (Nat.le_refl _), List.take_length]
theorem mem_pickN' {l : List Int} {t : NT k p n} : t ∈ pickN ts l ↔ ∃ q ∈ l, ts[q.toNat]? = some t := List.mem_filterMap
theorem mem_restN {l : List Int} {m : Nat} {t : NT k p n} : t ∈ restN ts l m ↔ ∃ i : Nat, i < m ∧ (i : Int) ∉ l ∧ ts[i]? = some t := by
  unfold restN
  rw [List.mem_filterMap]
  constructor
  · rintro ⟨i, h1, h2⟩
    split at h2
    · cases h2
    · rename_i h
      exact ⟨i, List.mem_range.1 h1, fun e => h ((hasL_iff _ _).2 e), h2⟩
  · rintro ⟨i, h1, h2, h3⟩
    exact ⟨i, List.mem_range.2 h1, by rw [if_neg (fun e => h2 ((hasL_iff _ _).1 e))]; exact h3⟩
theorem occ_rest {l : List Int} {q : Int} {t : NT k p n} {x : Int} (h0 : 0 ≤ q) (hm : q < (ts.length : Int)) (hq : q ∉ l) (ht : ts[q.toNat]? = some t) (hx : x ∈ t.1) : x ∈ occ (restN ts l ts.length) :=
  mem_occ.2 ⟨t, mem_restN.2 ⟨q.toNat, by omega, by rw [show ((q.toNat : Nat) : Int) = q by omega]; exact hq, ht⟩, hx⟩
def partO (ts : List (NT k p n)) (op l : List Int) : List Int := subOpen (occ (pickN ts l)) (occ (restN ts l ts.length)) op
def partT (dm : Int → Int) (ts : List (NT k p n)) (op l : List Int) : NT k p n := (partO ts op l, netXs hr dm (pickN ts l) (partO ts op l))
theorem part_isN (h : IsN k p n dm U ts op) {l : List Int} (hl : l.length ≤ ts.length) : IsN k p n dm U (pickN ts l) (partO ts op l) := sub_isN h hl _
theorem partT_isT (h : IsN k p n dm U ts op) {l : List Int} (hl : l.length ≤ ts.length) : IsT k p n dm U (partT hr dm ts op l).1 (partT hr dm ts op l).2 := netXs_isT hr (part_isN h hl)
theorem mem_partO (h : IsN k p n dm U ts op) {l : List Int} {x : Int} : x ∈ partO ts op l ↔ (0 ≤ x ∧ x ≤ 99) ∧ x ∈ occ (pickN ts l) ∧ (x ∈ op ∨ x ∈ occ (restN ts l ts.length)) := mem_subOpen h.opR
theorem parts_sums (h : IsN k p n dm U ts op) {M : List Int} {ys : List (El k p n)} : ∀ (ps : List (List Int)) (ai : List Int), (ai ++ ps.flatten).Nodup → (∀ q ∈ ai ++ ps.flatten, 0 ≤ q ∧ q < (ts.length : Int)) → (∀ l ∈ ps, l.length ≤ ts.length) →
    Sums1 k p n hr dm M ys (pickN ts ai ++ ps.map (partT hr dm ts op)) op → Sums1 k p n hr dm M ys (pickN ts (ai ++ ps.flatten)) op
  | [], ai, _, _, _, hs => by simpa using hs
  | l :: ps, ai, hn, hb, hl, hs => by
    have hN := part_isN h (hl l (by simp))
    have hocc : ∀ {s : List Int} {x : Int}, (∀ q ∈ s, q ∉ l) → (∀ q ∈ s, 0 ≤ q ∧ q < (ts.length : Int)) → x ∈ occ (pickN ts s) → x ∈ occ (restN ts l ts.length) := fun hd hbs hx => by
      obtain ⟨t, ht, hx⟩ := mem_occ.1 hx
      obtain ⟨q, hq, ht⟩ := mem_pickN'.1 ht
      exact occ_rest (hbs q hq).1 (hbs q hq).2 (hd q hq) ht hx
    rw [List.flatten_cons] at hn hb
    have hp : Sums1 k p n hr dm M ys ((partO ts op l, netXs hr dm (pickN ts l) (partO ts op l)) :: (pickN ts ai ++ ps.map (partT hr dm ts op))) op := hs.perm hr List.perm_middle
    have hU : ∀ x ∈ occ (pickN ts l), x ∈ U := fun x hx => h.occU (occ_pick hx)
    have hpm : ∀ {l' : List Int}, l' ∈ ps → ∀ q ∈ l', q ∈ ps.flatten := fun h1 q h2 => List.mem_flatten.2 ⟨_, h1, h2⟩
    have hmap : ∀ x ∈ occ (pickN ts ai ++ ps.map (partT hr dm ts op)), x ∈ occ (pickN ts ai) ∨ ∃ l' ∈ ps, x ∈ partO ts op l' := fun x hx => by
      rw [occ_append, List.mem_append] at hx
      refine hx.imp id fun hx => ?_
      obtain ⟨t, ht, hx⟩ := mem_occ.1 hx
      obtain ⟨l', hl', rfl⟩ := List.mem_map.1 ht
      exact ⟨l', hl', hx⟩
    have ht := Sums1.trans hr hp (sums_net hr hN) (fun x hx => h.uni.labs (hU x hx)) (fun x hx hno => by
      have hno2 : x ∉ op ∧ x ∉ occ (restN ts l ts.length) := ⟨fun e => hno ((mem_partO h).2 ⟨h.uni.labs (hU x hx), hx, .inl e⟩), fun e => hno ((mem_partO h).2 ⟨h.uni.labs (hU x hx), hx, .inr e⟩)⟩
      refine ⟨hno2.1, fun hx2 => hno2.2 ?_⟩
      rcases hmap x hx2 with hx2 | ⟨l', hl', hx2⟩
      · refine hocc (s := ai) (fun q hq hql => ?_) (fun q hq => hb q (List.mem_append_left _ hq)) hx2
        exact (List.nodup_append.1 hn).2.2 q hq q (List.mem_append_left _ hql) rfl
      · refine hocc (s := l') (fun q hq hql => ?_) (fun q hq => hb q (List.mem_append_right _ (List.mem_append_right _ (hpm hl' q hq)))) ((mem_partO h).1 hx2).2.1
        exact (List.nodup_append.1 (List.nodup_append.1 hn).2.1).2.2 q hql q (hpm hl' q hq) rfl) (fun x hx => by
      rcases hmap x hx with hx | ⟨l', hl', hx⟩
      · exact h.uni.labs (h.occU (occ_pick hx))
      · exact ((mem_partO h).1 hx).1)
    have e2 : (pickN ts l ++ (pickN ts ai ++ ps.map (partT hr dm ts op))).Perm (pickN ts (ai ++ l) ++ ps.map (partT hr dm ts op)) := by
      rw [pickN_append, ← List.append_assoc]
      exact List.perm_append_comm.append_right _
    have := parts_sums h ps (ai ++ l) (by rw [List.append_assoc]; exact hn) (by rw [List.append_assoc]; exact hb) (fun l hl2 => hl l (by simp [hl2])) (ht.perm hr e2)
    rwa [List.append_assoc, ← List.flatten_cons] at this
theorem parts_net (h : IsN k p n dm U ts op) {M : List Int} {ys : List (El k p n)} {ps : List (List Int)} (hp : ps.flatten.Perm (idL ts.length)) (hl : ∀ l ∈ ps, l.length ≤ ts.length) (hs : Sums1 k p n hr dm M ys (ps.map (partT hr dm ts op)) op) : Sums1 k p n hr dm M ys ts op := by
  have := parts_sums hr h ps [] (by rw [List.nil_append]; exact hp.nodup_iff.2 (idL_nodup _)) (fun q hq => mem_idL.1 (hp.mem_iff.1 hq)) hl hs
  have h2 := this.perm hr (pickN_perm (ts := ts) hp)
  rwa [pickN_all] at h2
theorem sums_perm (h : IsN k p n dm U ts op) {M : List Int} {ys : List (El k p n)} (hM : M.Nodup) (hs : Sums1 k p n hr dm M ys ts op) : M.Perm op :=
  (List.perm_ext_iff_of_nodup hM h.sub.nodup).2 fun x => by
    rw [hs.lab]
    exact ⟨fun hx => hx.2, fun hx => ⟨h.occ x hx, hx⟩⟩
theorem sums_same (h : IsN k p n dm U ts op) {M : List Int} {ys : List (El k p n)} (hM : Sub U M) (hs : Sums1 k p n hr dm M ys ts op) : sortL M = sortL op ∧ permXs hr dm M (sortL M) ys = permXs hr dm op (sortL op) (netXs hr dm ts op) := by
  have pm := sums_perm hr h hM.nodup hs
  have es := sortL_of_perm pm
  refine ⟨es, ?_⟩
  rw [es]
  have so : Sub U (sortL op) := h.sub.perm (sortL_perm op).symm
  unfold permXs
  refine tab_congr (Uni.nodup so) (h.uni.dims so) fun o => ?_
  have hf := asg_fits' h.uni so o σ0
  rw [hs.val _ (hf.perm (axs_perm ((sortL_perm op).trans pm.symm))), netG_val hr h (hf.perm (axs_perm (sortL_perm op)))]
theorem halves_sums (h : IsN k p n dm U ts op) {l r : List Int} (hp : (l ++ r).Perm (idL ts.length)) (hl : l.length ≤ ts.length) (hr2 : r.length ≤ ts.length) :
    Sums1 k p n hr dm (keepL (joinL (partO ts op l) (partO ts op r)) op) (contrXs hr dm (partO ts op l) (partO ts op r) op (netXs hr dm (pickN ts l) (partO ts op l)) (netXs hr dm (pickN ts r) (partO ts op r))) ts op := by
  refine parts_net hr h (ps := [l, r]) (by simpa using hp) (fun q hq => by simp at hq; rcases hq with rfl | rfl <;> assumption) ?_
  exact sums_contr hr (partT_isT hr h hl) (partT_isT hr h hr2)
theorem class_open (h : IsN k p n dm U ts op) {P : List Int} (hP : Mrgs (idL ts.length) (pairsL (ts.map (·.1)) ts.length) P) {first : Nat} {x : Int} (hx : x ∈ partO ts op (clsL P first ts.length)) : x ∈ op := by
  obtain ⟨_, h1, h2⟩ := (mem_partO h).1 hx
  refine h2.resolve_right fun h3 => ?_
  obtain ⟨t, ht, hxt⟩ := mem_occ.1 h1
  obtain ⟨q, hq, htq⟩ := mem_pickN'.1 ht
  obtain ⟨i, hi, rfl, hif⟩ := mem_clsL.1 hq
  obtain ⟨s, hs, hxs⟩ := mem_occ.1 h3
  obtain ⟨j, hj, hjn, hsj⟩ := mem_restN.1 hs
  rw [show ((i : Int).toNat) = i by omega] at htq
  have hl : ∀ {i : Nat} {t : NT k p n}, ts[i]? = some t → labL (ts.map (·.1)) i = t.1 := fun e => labL_of (by rw [List.getElem?_map, e]; rfl)
  have := share_class hP hi hj (x := x) (by rw [hl htq]; exact hxt) (by rw [hl hsj]; exact hxs)
  exact hjn (mem_clsL.2 ⟨j, hj, rfl, by rw [← this]; exact hif⟩)
theorem parts_join (h : IsN k p n dm U ts op) {P : List Int} (hP : Mrgs (idL ts.length) (pairsL (ts.map (·.1)) ts.length) P) (hR : ∀ q, q < ts.length → 0 ≤ atL P q ∧ atL P q < (ts.length : Int)) (h0 : 0 < ts.length) :
    let RA := joinA hr dm ((partsL P ts.length ts.length).map (partT hr dm ts op))
    IsT k p n dm U RA.1 RA.2 ∧ Sums1 k p n hr dm RA.1 RA.2 ts op := by
  intro RA
  have hperm := parts_perm P ts.length hR
  have hlen : ∀ l ∈ partsL P ts.length ts.length, l.length ≤ ts.length := fun l hl => by
    obtain ⟨f, _, rfl, _⟩ := mem_partsL.1 hl
    exact clsL_len _ _ _
  have hne : partsL P ts.length ts.length ≠ [] := fun e => by
    rw [e] at hperm
    have := hperm.length_eq
    rw [idL_length] at this
    simp at this; omega
  obtain ⟨b, l, e⟩ : ∃ b l, (partsL P ts.length ts.length).map (partT hr dm ts op) = b :: l := List.exists_cons_of_ne_nil (by simpa using hne)
  have hT : ∀ t ∈ b :: l, IsT k p n dm U t.1 t.2 := fun t ht => by
    rw [← e] at ht
    obtain ⟨q, hq, rfl⟩ := List.mem_map.1 ht
    exact partT_isT hr h (hlen q hq)
  have hJ := joinA_ok hr h.uni hT
  rw [← e] at hJ
  refine ⟨hJ.1, parts_net hr h hperm hlen (hJ.2.keep hr fun x hx => ?_)⟩
  obtain ⟨t, ht, hx⟩ := mem_occ.1 hx
  obtain ⟨q, hq, rfl⟩ := List.mem_map.1 ht
  obtain ⟨f, _, rfl, _⟩ := mem_partsL.1 hq
  have ho : x ∈ op := class_open h hP hx
  exact ⟨fun _ => ho, fun _ => h.sub.sub x ho⟩
theorem parts_fin (h : IsN k p n dm U ts op) {P : List Int} (hP : Mrgs (idL ts.length) (pairsL (ts.map (·.1)) ts.length) P) (hR : ∀ q, q < ts.length → 0 ≤ atL P q ∧ atL P q < (ts.length : Int)) (h0 : 0 < ts.length) :
    let RA := joinA hr dm ((partsL P ts.length ts.length).map (partT hr dm ts op))
    IsT k p n dm U RA.1 RA.2 ∧ (∀ x ∈ op, x ∈ RA.1) ∧ finXs hr dm RA.1 op RA.2 = netXs hr dm ts op := by
  intro RA
  obtain ⟨hI, hS⟩ := parts_join hr h hP hR h0
  change IsT k p n dm U RA.1 RA.2 at hI
  change Sums1 k p n hr dm RA.1 RA.2 ts op at hS
  refine ⟨hI, fun x hx => (hS.lab x).2 ⟨h.occ x hx, hx⟩, ?_⟩
  have h2 := Sums1.trans hr (t2 := []) (sums_sum hr hI (keep := op)) hS (fun x hx => h.uni.labs (h.occU hx)) (fun x hx hn => ⟨hn, by simp [occ]⟩) (fun x hx => by simp [occ] at hx)
  rw [List.append_nil] at h2
  exact h2.done hr h.uni h.sub (sums_perm hr h (by unfold keepL; exact hI.sub.nodup.filter _) h2)
end
theorem orderOk_any {k p n : Int} (hr : ringOk k p n = true) {dm : Int → Int} {U : List Int} {ts : List (NT k p n)} {op : List Int} (hN : IsN k p n dm U ts op) (tv ov : Value) (w : World) (hT : TensS w tv (ts.map (tenOf dm))) (hO : IntS w ov op) {os : List (Int × Int)} (hok : okO (numL ts.length) (ts.length : Int) os) (hol : os.length = ts.length - 1) (vo : Value) (hVo : StepsS w vo os) :
 Calls Tryz.prog 74 #[.agg #[.int .i64 k, .int .i64 p, .int .i64 n, tv, ov], vo] w fun e w' => e = .returned (.bool true) ∧ Ext w w' := by
 obtain ⟨m, aV, cV, aO, cO, rfl, rfl, hcT1, hcT2, hcO1, hcO2, hm12, hop12, HM, HD3, hTl⟩ := net_in hN hT hO
 have hT0 := hT; have hO0 := hO; have HR := Lib.hid hr; have HN := Lib.hid hN; clear hN; try rw [HM.out]
 have hm2 := HM
 obtain ⟨aQ, cQ, rfl, hcq1, hcq2⟩ := hVo.val
 have HOK := Lib.hid hok; have HOL := Lib.hid hol
 have hol2 : os.length ≤ m := by rw [← hm2.out]; omega
 clear hok hol
 go_enter Tryz.func74, Tryz.ntmps74
 go_upto_region 1 with fail
 have hH : Held w w [] := Held.new (Ext.refl w) 0
 obtain ⟨hB, hsz⟩ := hH.laid #[.int .i64 k, .int .i64 p, .int .i64 n, .slice aV m cV, .slice aO op.length cO] 29
 generalize w.alloc (.cells #[.int .i64 k, .int .i64 p, .int .i64 n, .slice aV m cV, .slice aO op.length cO] 29) = wn1 at hB hsz ⊢
 replace hH : Held w wn1 [nB w.heap.size k p n aV m cV aO op.length cO] := hB
 have HSZwn1 := Lib.hid (show wn1.heap.size = w.heap.size + 1 by rw [hsz]); clear hB hsz
 rcases Nat.eq_zero_or_pos m with hz | hz
 ·
  have hneg : (m : Int) - 1 < 0 := by omega
  have hcmp : ((os.length : Int) != 0) = false := by have := HM.out; have := HOL.out; rw [bne_eq_false_iff_eq]; omega
  have HOZ : Hid (os.length = 0) := Lib.hid (by have := HM.out; have := HOL.out; omega)
  clear hz
  obtain ⟨q0_0, q0_1, q0_2, q0_3, q0_4, l0_⟩ := hH.c5 0 rfl
  go_wp2_with fail
  clear q0_0 q0_1 q0_2 q0_3 q0_4 l0_
  refine (networkOk_any HR.out HN.out _ _ _ (hT0.ext hH.ext) (hO0.ext hH.ext)).mono ?_; rintro e0 w0 ⟨rfl, h0⟩
  replace hH := hH.grow h0
  obtain ⟨q0_0, q0_1, q0_2, q0_3, q0_4, l0_⟩ := hH.c5 0 rfl
  go_wp2_with fail
  clear q0_0 q0_1 q0_2 q0_3 q0_4 l0_
  refine (startState_any HR.out HN.out _ _ _ (hT0.ext hH.ext) (hO0.ext hH.ext)).mono ?_; rintro e1 w1 ⟨s, cs0, rfl, h1, hsw1, hS0, hc0⟩
  have hE0 := hH.ext.trans h1
  have hsw : w.heap.size ≤ s := Nat.le_trans hH.ext.size hsw1
  have HC0 := Lib.hid hc0
  clear h1 hsw1 hc0
  clear hH
  go_wp2_with fail
  go_loopw [25] (fun i wr => ∃ (j : Nat) (cs : List (Int × Value)) (ns : List Int) (tj : List (NT k p n)), j ≤ os.length ∧ i = .int .i64 (j : Int) ∧ Hid (AtStep hr dm U op (numL ts.length) (ts.length : Int) ts os j ns tj) ∧ Hid (cs.map (·.1) = ns) ∧ OrdS wr s (arrL dm (occ ts)) op cs (tj.map (·.1)) ((ts.length : Int) + j) ∧ Ext w wr) (fun i wr => os.length - (RowKit.intOf i).toNat)
  case atStart => exact ⟨0, cs0, numL ts.length, ts, Nat.zero_le _, rfl, Lib.hid (AtStep.mk' HOK.out (numL_len _) HN.out 0 (Nat.zero_le _)), HC0, by rw [show (ts.length : Int) + ((0 : Nat) : Int) = (ts.length : Int) by simp]; exact hS0, hE0⟩
  clear hE0 hS0 HC0
  obtain ⟨j, cs, ns, tj, hj, rfl, HA, HC, hS, hE⟩ := hrel
  by_cases hlt : j < os.length
  ·
   exact absurd hlt (by rw [HOZ.out]; omega)
  have hje : j = os.length := by omega
  subst hje
  have HE := Lib.hid hE; clear hE hS
  go_wp2
  go_ret
  exact ⟨rfl, HE.out⟩
 have hneg : ¬ ((m : Int) - 1 < 0) := by omega
 have hcmp : ((os.length : Int) != (m : Int) - 1) = false := by have := HM.out; have := HOL.out; rw [bne_eq_false_iff_eq]; omega
 clear hz
 obtain ⟨q0_0, q0_1, q0_2, q0_3, q0_4, l0_⟩ := hH.c5 0 rfl
 go_wp2_with fail
 clear q0_0 q0_1 q0_2 q0_3 q0_4 l0_
 refine (networkOk_any HR.out HN.out _ _ _ (hT0.ext hH.ext) (hO0.ext hH.ext)).mono ?_; rintro e0 w0 ⟨rfl, h0⟩
 replace hH := hH.grow h0
 obtain ⟨q0_0, q0_1, q0_2, q0_3, q0_4, l0_⟩ := hH.c5 0 rfl
 go_wp2_with fail
 clear q0_0 q0_1 q0_2 q0_3 q0_4 l0_
 refine (startState_any HR.out HN.out _ _ _ (hT0.ext hH.ext) (hO0.ext hH.ext)).mono ?_; rintro e1 w1 ⟨s, cs0, rfl, h1, hsw1, hS0, hc0⟩
 have hE0 := hH.ext.trans h1
 have hsw : w.heap.size ≤ s := Nat.le_trans hH.ext.size hsw1
 have HC0 := Lib.hid hc0
 clear h1 hsw1 hc0
 clear hH
 go_wp2_with fail
 go_loopw [25] (fun i wr => ∃ (j : Nat) (cs : List (Int × Value)) (ns : List Int) (tj : List (NT k p n)), j ≤ os.length ∧ i = .int .i64 (j : Int) ∧ Hid (AtStep hr dm U op (numL ts.length) (ts.length : Int) ts os j ns tj) ∧ Hid (cs.map (·.1) = ns) ∧ OrdS wr s (arrL dm (occ ts)) op cs (tj.map (·.1)) ((ts.length : Int) + j) ∧ Ext w wr) (fun i wr => os.length - (RowKit.intOf i).toNat)
 case atStart => exact ⟨0, cs0, numL ts.length, ts, Nat.zero_le _, rfl, Lib.hid (AtStep.mk' HOK.out (numL_len _) HN.out 0 (Nat.zero_le _)), HC0, by rw [show (ts.length : Int) + ((0 : Nat) : Int) = (ts.length : Int) by simp]; exact hS0, hE0⟩
 clear hE0 hS0 HC0
 obtain ⟨j, cs, ns, tj, hj, rfl, HA, HC, hS, hE⟩ := hrel
 by_cases hlt : j < os.length
 ·
  obtain ⟨bS, oS, ea, eb, haq, hos, hs0, hs1⟩ := hVo.get hlt
  subst haq
  replace hs0 := hE.cell hs0; replace hs1 := hE.cell hs1
  obtain ⟨hA2, hma, hmb, hab⟩ := HA.out.next HOK.out (numL_len _) HN.out hos
  simp only at hma hmb hab
  rw [← HC.out] at hma hmb
  have hleft := HA.out.left
  rw [HM.out] at hleft
  have hll : (tj.map (·.1)).length ≤ 1000 := by rw [List.length_map]; omega
  have hrk : ∀ l ∈ tj.map (·.1), l.length ≤ 500 := fun l hl => Nat.le_trans (HA.out.rank l hl) (by omega)
  have hnx0 : (0 : Int) ≤ (ts.length : Int) + j := by omega
  have hnx1 : (ts.length : Int) + j ≤ 2000 := by rw [HM.out]; omega
  have HRK2 := Lib.hid hrk; have HA2 := Lib.hid hA2; have HOS2 := Lib.hid hos; have HMA := Lib.hid hma; have HMB := Lib.hid hmb; have HNX := Lib.hid (And.intro hnx0 hnx1); have HLL2 := Lib.hid hll
  clear hrk hA2 hos hma hmb hnx0 hnx1 hleft hll
  have hH : Held wr wr [] := Held.new (Ext.refl wr) 0
  have c_hs0 := hH.ext.cell hs0; have c_hs1 := hH.ext.cell hs1
  go_upto_region 7 with fail
  clear c_hs0 c_hs1
  obtain ⟨hB, hsz⟩ := hH.laid #[.int .i64 ea, .int .i64 eb] 66
  generalize wr.alloc (.cells #[.int .i64 ea, .int .i64 eb] 66) = wn2 at hB hsz ⊢
  replace hH : Held wr wn2 [aB (wr.heap.size) 66 [.int .i64 ea, .int .i64 eb]] := hB
  have HSZwn2 := Lib.hid (show wn2.heap.size = wr.heap.size + 1 by rw [hsz]); clear hB hsz
  have q0_0 := hH.cl 0 0 rfl rfl; have q0_1 := hH.cl 0 1 rfl rfl; have l0_ := hH.bl 0 rfl; have c_hs0 := hH.ext.cell hs0; have c_hs1 := hH.ext.cell hs1
  go_wp2_with fail
  clear q0_0 q0_1 l0_ c_hs0 c_hs1
  refine (follow_any (arrL_length _ _) _ (hS.ext hH.ext) HLL2.out HRK2.out HNX.out.1 HNX.out.2 ea eb HMA.out HMB.out hab).mono ?_; rintro e5 w5 ⟨cs5, rfl, g5, hS5, hc5⟩
  have hE5 : Ext w w5 := (hE.trans hH.ext).only g5 (fun q hq => by cases hq; exact hsw)
  have HC5 := Lib.hid (show cs5.map (·.1) = numStep ns ((ts.length : Int) + j) (ea, eb) by rw [← HC.out]; exact hc5)
  replace hS5 : OrdS w5 s (arrL dm (occ ts)) op cs5 ((tenStep hr dm op ns tj (ea, eb)).map (·.1)) ((ts.length : Int) + ((j + 1 : Nat) : Int)) := by
   rw [tenStep_lab, ← HC.out, show (ts.length : Int) + ((j + 1 : Nat) : Int) = (ts.length : Int) + j + 1 by push_cast; omega]; exact hS5
  have HS5 := Lib.hid hS5; have HE5 := Lib.hid hE5
  clear hH hS5 hE5 g5 hc5
  go_wp2_with fail
  go_roundw
  case rel => exact ⟨j + 1, cs5, _, _, by omega, by go_num, HA2, HC5, HS5.out, HE5.out⟩
  case measure => simp [RowKit.intOf]; omega
 have hje : j = os.length := by omega
 subst hje
 have HE := Lib.hid hE; clear hE hS
 go_wp2
 go_ret
 exact ⟨rfl, HE.out⟩
theorem cells3_len' (cs : List (Value × Value × Value)) : (cs.flatMap cells3).length = cs.length * 3 := by
  induction cs with
  | nil => rfl
  | cons x l ih => rw [List.flatMap_cons, List.length_append, ih, List.length_cons]; simp [cells3]; omega
structure TensR (w : World) (z : Nat) (v : Value) (cs : List (Value × Value × Value)) (ts : List (List Int × List Int × List Int)) : Prop where
  len : cs.length = ts.length
  row : Row w 3 v ts.length (cs.flatMap cells3)
  elem : ∀ (i : Nat) (c : Value × Value × Value) (t : List Int × List Int × List Int), cs[i]? = some c → ts[i]? = some t → IntS w c.1 t.1 ∧ IntS w c.2.1 t.2.1 ∧ IntS w c.2.2 t.2.2
  off : 0 < ts.length → v.ownBlock ≠ some z
  offs : ∀ (i : Nat) (c : Value × Value × Value) (t : List Int × List Int × List Int), cs[i]? = some c → ts[i]? = some t → (0 < t.1.length → c.1.ownBlock ≠ some z) ∧ (0 < t.2.1.length → c.2.1.ownBlock ≠ some z) ∧ (0 < t.2.2.length → c.2.2.ownBlock ≠ some z)
section
variable {w w' : World} {z s : Nat} {v v' : Value} {cs : List (Value × Value × Value)} {ts : List (List Int × List Int × List Int)}
theorem TensR.toS (h : TensR w z v cs ts) : TensS w v ts := ⟨cs, h.len, h.row, h.elem⟩
theorem TensR.ext (h : TensR w z v cs ts) (e : Ext w w') : TensR w' z v cs ts :=
  ⟨h.len, h.row.ext e, fun i c t hc ht => ⟨(h.elem i c t hc ht).1.ext e, (h.elem i c t hc ht).2.1.ext e, (h.elem i c t hc ht).2.2.ext e⟩, h.off, h.offs⟩
theorem TensR.keep (h : TensR w z v cs ts) (g : w.grownBy w' (some z)) : TensR w' z v cs ts :=
  ⟨h.len, h.row.keep g (fun hp => h.off (by rw [cells3_len', h.len] at hp; omega)), fun i c t hc ht => ⟨(h.elem i c t hc ht).1.keep g (h.offs i c t hc ht).1, (h.elem i c t hc ht).2.1.keep g (h.offs i c t hc ht).2.1, (h.elem i c t hc ht).2.2.keep g (h.offs i c t hc ht).2.2⟩, h.off, h.offs⟩
theorem TensR.at (h : TensR w' z v cs ts) (h2 : TensR w s v cs ts) : TensR w' s v cs ts := ⟨h.len, h.row, h.elem, h2.off, h2.offs⟩
theorem TensR.new (h1 : cs.length = ts.length) (h2 : Row w 3 v ts.length (cs.flatMap cells3)) (h3 : ∀ (i : Nat) (c : Value × Value × Value) (t : List Int × List Int × List Int), cs[i]? = some c → ts[i]? = some t → IntS w c.1 t.1 ∧ IntS w c.2.1 t.2.1 ∧ IntS w c.2.2 t.2.2) (hz : w.heap.size ≤ z) : TensR w z v cs ts := by
  have lt : ∀ {v : Value} {l : List Int}, IntS w v l → 0 < l.length → v.ownBlock ≠ some z := fun h hp e => by
    have := row_block_lt h.row (by rwa [ints_length]) e; omega
  refine ⟨h1, h2, h3, fun hp e => ?_, fun i c t hc ht => ⟨lt (h3 i c t hc ht).1, lt (h3 i c t hc ht).2.1, lt (h3 i c t hc ht).2.2⟩⟩
  have := row_block_lt h2 (by rw [cells3_len', h1]; omega) e; omega
theorem TensR.step (h : TensR w z v cs ts) (i j : Nat) {c0 : Value × Value × Value} {t0 : List Int × List Int × List Int} {m : Nat} (hm : m = (drop2 cs i j).length + 1) (e : Ext w w') (hr : Row w' 3 v' m ((drop2 cs i j).flatMap cells3 ++ cells3 c0)) (hv : v'.ownBlock ≠ some z) (h0 : IntS w' c0.1 t0.1 ∧ IntS w' c0.2.1 t0.2.1 ∧ IntS w' c0.2.2 t0.2.2) (hz : c0.1.ownBlock ≠ some z ∧ c0.2.1.ownBlock ≠ some z ∧ c0.2.2.ownBlock ≠ some z) :
    TensR w' z v' (drop2 cs i j ++ [c0]) (drop2 ts i j ++ [t0]) := by
  have hl := drop2_len2 h.len i j
  have hm2 : (drop2 ts i j ++ [t0]).length = m := by rw [List.length_append, List.length_singleton]; omega
  refine ⟨by simp [hl], ?_, fun q c t hc ht => ?_, fun _ => hv, fun q c t hc ht => ?_⟩
  · rw [hm2, List.flatMap_append, List.flatMap_singleton]; exact hr
  · rcases drop2_two h.len i j hc ht with ⟨q', a, b⟩ | ⟨rfl, rfl⟩
    · exact ⟨(h.elem q' c t a b).1.ext e, (h.elem q' c t a b).2.1.ext e, (h.elem q' c t a b).2.2.ext e⟩
    · exact h0
  · rcases drop2_two h.len i j hc ht with ⟨q', a, b⟩ | ⟨rfl, rfl⟩
    · exact h.offs q' c t a b
    · exact ⟨fun _ => hz.1, fun _ => hz.2.1, fun _ => hz.2.2⟩
theorem TensR.get {a : Option Addr} {n cap : Nat} (h : TensR w z (.slice a n cap) cs ts) {i : Nat} (hi : i < ts.length) :
    ∃ b off c t, a = some ⟨b, off, none⟩ ∧ cs[i]? = some c ∧ ts[i]? = some t ∧ w.cell? ⟨b, off + i * 3, none⟩ = some c.1 ∧ w.cell? ⟨b, off + i * 3 + 1, none⟩ = some c.2.1 ∧ w.cell? ⟨b, off + i * 3 + 2, none⟩ = some c.2.2 ∧ IntS w c.1 t.1 ∧ IntS w c.2.1 t.2.1 ∧ IntS w c.2.2 t.2.2 := by
  obtain ⟨a', cap', hv, _, _, h3⟩ := h.row.val
  cases hv
  have hci : i < cs.length := by rw [h.len]; exact hi
  obtain ⟨b, o, ha, hc⟩ := h3 (by rw [cells3_len']; omega)
  have e1 := List.getElem?_eq_getElem hci
  have e2 := List.getElem?_eq_getElem hi
  have key : ∀ (cs : List (Value × Value × Value)) (i : Nat) (c : Value × Value × Value), cs[i]? = some c → (cs.flatMap cells3)[i * 3]? = some c.1 ∧ (cs.flatMap cells3)[i * 3 + 1]? = some c.2.1 ∧ (cs.flatMap cells3)[i * 3 + 2]? = some c.2.2 := by
    intro cs
    induction cs with
    | nil => intro i c h; simp at h
    | cons x l ih =>
      intro i c h
      cases i with
      | zero => simp at h; subst h; exact ⟨rfl, rfl, rfl⟩
      | succ i =>
        have h2 := ih i c (by simpa using h)
        have q1 : (i + 1) * 3 = i * 3 + 1 + 1 + 1 := by omega
        rw [List.flatMap_cons, q1]
        exact h2
  obtain ⟨g1, g2, g3⟩ := key _ _ _ e1
  exact ⟨b, o, _, _, ha, e1, e2, hc _ _ g1, by rw [Nat.add_assoc]; exact hc _ _ g2, by rw [Nat.add_assoc]; exact hc _ _ g3, h.elem i _ _ e1 e2⟩
end
theorem OwnTs.tensR {w : World} {z : Nat} {v : Value} {cs : List (Value × Value × Value)} {ts : List Ten3} (h : OwnTs w v cs ts) (hz : z ∉ (aTs v cs ts).fp) : TensR w z v cs ts := by
  have hm : ∀ {c : Value × Value × Value} {b : Nat}, c ∈ cs → b ∈ fpC c → b ≠ z := fun {c b} hc hb e => hz (by subst e; exact List.mem_append_right _ (List.mem_flatMap.2 ⟨c, hc, hb⟩))
  refine ⟨h.len, ownsRow_row h.row, fun i c t hc ht => ⟨(h.elem i c t hc ht).1.ints, (h.elem i c t hc ht).2.1.ints, (h.elem i c t hc ht).2.2.ints⟩, fun _ e => hz (List.mem_append_left _ (by simp [e])), fun i c t hc ht => ?_⟩
  have hcm := List.mem_of_getElem? hc
  exact ⟨fun _ e => hm hcm (mem_fpC.2 (.inl e)) rfl, fun _ e => hm hcm (mem_fpC.2 (.inr (.inl e))) rfl, fun _ e => hm hcm (mem_fpC.2 (.inr (.inr e))) rfl⟩
section
variable {ex : Option Nat} {a w w' : World} {L : List Asn} {k : Nat}
theorem run_pushR3 (ty : TypeId) {v src x y z : Value} {n : Nat} {xs : List Value} (h : HeldX ex a w L) (h1 : L[k]? = some (aR 35 3 v n xs)) (hr : Row w 3 src 1 [x, y, z]) (hx : x.oneCell' = true) (hy : y.oneCell' = true) (hz' : z.oneCell' = true) (hb : n + 1 ≤ 1099511627) :
    ∃ v' w', (Builtin.append_ #[26, 26] ty #[v, src]).run Tryz.prog w = .ok v' w' ∧ HeldX ex a w' (L.set k (aR 35 3 v' (n + 1) (xs ++ [x, y, z]))) ∧ w.grownBy w' v.ownBlock ∧ Row w' 3 v' (n + 1) (xs ++ [x, y, z]) := by
  have ho : w.ownsRow 0 35 3 v n xs := h.get h1
  obtain ⟨i, hi, hzz⟩ := Option.map_eq_some_iff.1 Tryz.infoTensor
  simp only [Prod.mk.injEq] at hzz
  obtain ⟨hz, hsz, hby⟩ := hzz
  obtain ⟨v', w', e1, e2, e3, e4⟩ := run_app (P := Tryz.prog) w 0 26 ty 35 i _ 3 72 Tryz.underlying26 hi hz hsz hby rfl (by omega) v _ _ ho src 1 _ hr (by intro u hu; simp at hu; rcases hu with rfl | rfl | rfl; exact hx; exact hy; exact hz') (by unfold maxLen; omega) (by omega) (Nat.zero_le _)
  refine ⟨v', w', e1, h.turn h1 e3 (fun b hb => by simp [aR, hb]) e2 fun c hc => ?_, e3, ownsRow_row e2⟩
  rcases e4 with e4 | e4
  · left; have hc' : c ∈ v'.ownBlock.toList := hc; rw [e4] at hc'; exact hc'
  · right; have hc' : c ∈ v'.ownBlock.toList := hc; rw [e4] at hc'; simp at hc'; omega
end
section
variable {k p n : Int} (hr : ringOk k p n = true) {dm : Int → Int} {U op : List Int}
theorem tenStep_ten {ns : List Int} {tj : List (NT k p n)} {s : Int × Int} {i j : Nat} (hi : findL ns s.1 = (i : Int)) (hj : findL ns s.2 = (j : Int)) {La Lb : List Int} {xa xb : List (El k p n)} (ha : tj[i]? = some (La, xa)) (hb : tj[j]? = some (Lb, xb)) :
    (tenStep hr dm op ns tj s).map (tenOf dm) = drop2 (tj.map (tenOf dm)) i j ++ [(keepL (joinL La Lb) (resL op (tj.map (·.1)) i j), (keepL (joinL La Lb) (resL op (tj.map (·.1)) i j)).map dm, flat (contrXs hr dm La Lb (resL op (tj.map (·.1)) i j) xa xb))] := by
  unfold tenStep
  rw [hi, hj]
  show (stepN hr dm op tj i j).map (tenOf dm) = _
  rw [stepN_eq hr ha hb, List.map_append, drop2_map]
  rfl
end
theorem neighborsOf_any {k p n : Int} (hr : ringOk k p n = true) {dm : Int → Int} {U : List Int} {ts : List (NT k p n)} {op : List Int} (hN : IsN k p n dm U ts op) (tv ov : Value) (w : World) (hT : TensS w tv (ts.map (tenOf dm))) (hO : IntS w ov op) (kk : Nat) (hkk : kk < ts.length) :
 Calls Tryz.prog 15 #[.agg #[.int .i64 k, .int .i64 p, .int .i64 n, tv, ov], .int .i64 (kk : Int)] w fun e w' => ∃ u, e = .returned u ∧ OwnI w' w.heap.size u (neiL (ts.map (·.1)) kk ts.length) ∧ Ext w w' := by
 obtain ⟨m, aV, cV, aO, cO, rfl, rfl, hcT1, hcT2, hcO1, hcO2, hm12, hop12, HM, HD3, hTl⟩ := net_in hN hT hO
 have hT0 := hT; have hO0 := hO; have HR := Lib.hid hr; have HN := Lib.hid hN; clear hN; try rw [HM.out]
 rw [HM.out] at hkk
 have hk0 : ¬ (kk : Int) < 0 := by omega
 have hk1 : ¬ (m : Int) ≤ (kk : Int) := by omega
 have hk1n : ¬ m ≤ kk := by omega
 have hNF : ∃ NF : Nat → List Int, (fun q => neiL (ts.map (·.1)) kk q) = NF := ⟨_, rfl⟩
 obtain ⟨NF, hNF⟩ := hNF
 have HN0 : Hid (NF 0 = []) := Lib.hid (by rw [← hNF]; rfl)
 have HNE : Hid (neiL (ts.map (·.1)) kk m = NF m) := Lib.hid (by rw [← hNF])
 have HNL : Hid (∀ q, (NF q).length ≤ q) := Lib.hid fun q => by rw [← hNF]; exact neiL_len _ _ _
 have HNS : Hid (∀ q, NF (q + 1) = NF q ++ if (!(q == kk) && shareL (labL (ts.map (·.1)) q) (labL (ts.map (·.1)) kk)) = true then [(q : Int)] else []) := Lib.hid fun q => by rw [← hNF]; exact neiL_succ _ _ _
 rw [HNE.out]
 clear hNF
 go_enter Tryz.func15, Tryz.ntmps15
 go_upto_region 1 with fail
 have hH : Held w w [] := Held.new (Ext.refl w) 0
 obtain ⟨hB, hsz⟩ := hH.laid #[.int .i64 k, .int .i64 p, .int .i64 n, .slice aV m cV, .slice aO op.length cO] 29
 generalize w.alloc (.cells #[.int .i64 k, .int .i64 p, .int .i64 n, .slice aV m cV, .slice aO op.length cO] 29) = wn1 at hB hsz ⊢
 replace hH : Held w wn1 [nB w.heap.size k p n aV m cV aO op.length cO] := hB
 have HSZwn1 := Lib.hid (show wn1.heap.size = w.heap.size + 1 by rw [hsz]); clear hB hsz
 obtain ⟨wz, rfl⟩ : ∃ q, q = wn1 := ⟨wn1, rfl⟩
 obtain ⟨bT, oT, tlk, xsk, e1k, f1k, e2k, f2k, e3k, m3k, f3k, hV, HTJk, HTIk, hu0k, hu1k, hu2k, hTuk, hTLk, hTDk, hTXk, _, _, _, _⟩ := hT.ten HN.out.ten (j := kk) (by rw [hTl.out]; exact hkk); subst hV
 obtain ⟨q0_0, q0_1, q0_2, q0_3, q0_4, l0_⟩ := hH.c5 0 rfl
 go_wp2_with fail
 clear q0_0 q0_1 q0_2 q0_3 q0_4 l0_
 refine (networkOk_any HR.out HN.out _ _ _ (hT0.ext hH.ext) (hO0.ext hH.ext)).mono ?_; rintro ewn2 wn2 ⟨rfl, hwn2⟩
 replace hH : Held w wn2 [nB w.heap.size k p n (some ⟨bT, oT, none⟩) m cV aO op.length cO] := hH.grow hwn2
 clear hwn2
 obtain ⟨q0_0, q0_1, q0_2, q0_3, q0_4, l0_⟩ := hH.c5 0 rfl
 go_wp2_with fail
 clear q0_0 q0_1 q0_2 q0_3 q0_4 l0_
 clear hk0 hk1 hk1n
 replace hH : Held w wn2 [nB w.heap.size k p n (some ⟨bT, oT, none⟩) m cV aO op.length cO, aI (.slice none 0 0) []] := hH.nilI
 go_loopw [5, 25] (fun vl i wr => ∃ (j : Nat), j ≤ m ∧ i = .int .i64 (j : Int) ∧ Held w wr [nB w.heap.size k p n (some ⟨bT, oT, none⟩) m cV aO op.length cO, aI vl (NF j)]) (fun vl i wr => m - (RowKit.intOf i).toNat)
 case atStart => exact ⟨0, Nat.zero_le _, rfl, by rw [HN0.out]; exact hH⟩
 clear hH
 rename_i vl
 obtain ⟨j, hj, rfl, hH⟩ := hrel
 obtain ⟨NJ, hNJ⟩ : ∃ q, NF j = q := ⟨_, rfl⟩
 rw [hNJ] at hH
 have hnl : NJ.length ≤ 12 := by rw [← hNJ]; exact Nat.le_trans (HNL.out j) (by omega)
 have HNJ := Lib.hid hNJ; clear hNJ
 obtain ⟨avl, cvl, rfl, _, _⟩ := (hH.ints (k := 1) rfl).val
 obtain ⟨wq, rfl⟩ : ∃ q, q = wr := ⟨wr, rfl⟩
 by_cases hlt : j < m
 ·
  obtain ⟨_, _, tlj, xsj, e1j, f1j, e2j, f2j, e3j, m3j, f3j, hV, HTJj, HTIj, hu0j, hu1j, hu2j, hTuj, hTLj, hTDj, hTXj, _, _, _, _⟩ := hT.ten HN.out.ten (j := j) (by rw [hTl.out]; exact hlt); cases hV
  have HLK : Hid (labL (ts.map (·.1)) j = tlj ∧ labL (ts.map (·.1)) kk = tlk) := Lib.hid ⟨labL_of (by rw [List.getElem?_map, HTJj.out]; rfl), labL_of (by rw [List.getElem?_map, HTJk.out]; rfl)⟩
  obtain ⟨q0_0, q0_1, q0_2, q0_3, q0_4, l0_⟩ := hH.c5 0 rfl; have c_hu0j := hH.ext.cell hu0j; have c_hu1j := hH.ext.cell hu1j; have c_hu2j := hH.ext.cell hu2j
  go_upto_region 7 with fail
  clear q0_0 q0_1 q0_2 q0_3 q0_4 l0_ c_hu0j c_hu1j c_hu2j
  obtain ⟨hB, hsz⟩ := hH.laid #[.slice e1j tlj.length f1j, .slice e2j tlj.length f2j, .slice e3j m3j f3j] 35
  generalize wq.alloc (.cells #[.slice e1j tlj.length f1j, .slice e2j tlj.length f2j, .slice e3j m3j f3j] 35) = wn3 at hB hsz ⊢
  replace hH : Held w wn3 [nB w.heap.size k p n (some ⟨bT, oT, none⟩) m cV aO op.length cO, aI (.slice avl NJ.length cvl) NJ, tB wq.heap.size e1j tlj.length f1j e2j tlj.length f2j e3j m3j f3j] := hB
  have HSZwn3 := Lib.hid (show wn3.heap.size = wq.heap.size + 1 by rw [hsz]); clear hB hsz
  obtain ⟨wy, rfl⟩ : ∃ q, q = wn3 := ⟨wn3, rfl⟩
  by_cases hjk : j = kk
  · subst hjk
    have hbb : ((j : Int) == (j : Int)) = true := by simp
    have HSK : Hid (NF (j + 1) = NJ) := Lib.hid (by rw [HNS.out, HNJ.out]; simp)
    refine wp_region_steps ?Fs (fun b t wx => Held w wx [nB w.heap.size k p n (some ⟨bT, oT, none⟩) m cV aO op.length cO, aI (.slice avl NJ.length cvl) NJ, tB wq.heap.size e1j tlj.length f1j e2j tlj.length f2j e3j m3j f3j] ∧ (b 0 = true → t 0 = .int .i64 (j : Int)) ∧ (b 1 = true → t 1 = .int .i64 (j : Int)) ∧ (b 2 = true → t 2 = .bool false) ∧ (b 3 = true → t 3 = .bool false) ∧ (b 4 = true → t 4 = undef) ∧ (b 5 = true → t 5 = undef) ∧ (b 6 = true → t 6 = undef) ∧ (b 7 = true → t 7 = undef) ∧ (b 8 = true → t 8 = undef) ∧ (b 9 = true → t 9 = undef) ∧ (b 10 = true → t 10 = undef) ∧ (b 11 = true → t 11 = undef) ∧ (b 12 = true → t 12 = undef) ∧ (b 13 = true → t 13 = .bool false)) ?hFs (by kernel_rfl) (by kernel_rfl) ?hJs ?hSs ?hEs
    (case hFs => intro t; simp only [putAll, Act.put, List.setIfInBounds_toArray, List.set_cons_zero, List.set_cons_succ, Nat.reduceAdd, Nat.zero_add]; exact rfl)
    case hJs => exact ⟨hH.grow ((Ext.refl _).drew), nof, nof, nof, nof, nof, nof, nof, nof, nof, nof, nof, nof, nof, nof⟩
    case hSs => as_aux_lemma =>
     refine st 1 rfl (fun b t wx hJ hb hd hcl Kc hK => ?_) ?_
     · obtain ⟨hH, hV⟩ := hJ
       go_simp
       apply sk hK
       · rfl
       exact ⟨hH, rp (fun _ => rfl) hV⟩
     refine st 2 rfl (fun b t wx hJ hb hd hcl Kc hK => ?_) ?_
     · obtain ⟨hH, hV⟩ := hJ
       go_simp
       apply sk hK
       · rfl
       exact ⟨hH, jA (rp (fun _ => rfl)) hV⟩
     refine st 3 rfl (fun b t wx hJ hb hd hcl Kc hK => ?_) ?_
     · obtain ⟨hH, hV⟩ := hJ
       have d0 := so hd 0; have d1 := so hd 1; have r0 := hV.1 d0; have r1 := hV.2.1 d1
       go_simp
       apply sk hK
       · (try simp only [r0, r1]); rfl
       exact ⟨hH, jB (rp (fun _ => rfl)) hV⟩
     refine st 4 rfl (fun b t wx hJ hb hd hcl Kc hK => ?_) ?_
     · obtain ⟨hH, hV⟩ := hJ
       have d2 := so hd 2; have r2 := hV.2.2.1 d2
       go_simp
       apply sk hK
       · (try simp only [r2]); rfl
       exact ⟨hH, jB (jA (rp (fun _ => rfl))) hV⟩
     refine st 5 rfl (fun b t wx hJ hb hd hcl Kc hK => ?_) ?_
     · obtain ⟨hH, hV⟩ := hJ
       have d3 := so hd 3; have r3 := hV.2.2.2.1 d3
       go_simp
       apply sk hK
       · (try simp only [r3]); rfl
       exact ⟨hH, jD (rp (fun _ => rfl)) hV⟩
     refine st 6 rfl (fun b t wx hJ hb hd hcl Kc hK => ?_) ?_
     · obtain ⟨hH, hV⟩ := hJ
       have d3 := so hd 3; have d4 := so hd 4; have r3 := hV.2.2.2.1 d3; have r4 := hV.2.2.2.2.1 d4
       go_simp
       apply sk hK
       · (try simp only [r3, r4]); rfl
       exact ⟨hH, jD (jA (rp (fun _ => rfl))) hV⟩
     refine st 7 rfl (fun b t wx hJ hb hd hcl Kc hK => ?_) ?_
     · obtain ⟨hH, hV⟩ := hJ
       have d3 := so hd 3; have r3 := hV.2.2.2.1 d3
       go_simp
       apply sk hK
       · (try simp only [r3]); rfl
       exact ⟨hH, jD (jB (rp (fun _ => rfl))) hV⟩
     refine st 8 rfl (fun b t wx hJ hb hd hcl Kc hK => ?_) ?_
     · obtain ⟨hH, hV⟩ := hJ
       have d3 := so hd 3; have d6 := so hd 6; have r3 := hV.2.2.2.1 d3; have r6 := hV.2.2.2.2.2.2.1 d6
       go_simp
       apply sk hK
       · (try simp only [r3, r6]); rfl
       exact ⟨hH, jD (jB (jA (rp (fun _ => rfl)))) hV⟩
     refine st 9 rfl (fun b t wx hJ hb hd hcl Kc hK => ?_) ?_
     · obtain ⟨hH, hV⟩ := hJ
       have d3 := so hd 3; have r3 := hV.2.2.2.1 d3
       go_simp
       apply sk hK
       · (try simp only [r3]); rfl
       exact ⟨hH, jD (jD (rp (fun _ => rfl))) hV⟩
     refine st 10 rfl (fun b t wx hJ hb hd hcl Kc hK => ?_) ?_
     · obtain ⟨hH, hV⟩ := hJ
       have d3 := so hd 3; have d7 := so hd 7; have d8 := so hd 8; have r3 := hV.2.2.2.1 d3; have r7 := hV.2.2.2.2.2.2.2.1 d7; have r8 := hV.2.2.2.2.2.2.2.2.1 d8
       go_simp
       apply sk hK
       · (try simp only [r3, r7, r8]); rfl
       exact ⟨hH, jD (jD (jA (rp (fun _ => rfl)))) hV⟩
     refine st 11 rfl (fun b t wx hJ hb hd hcl Kc hK => ?_) ?_
     · obtain ⟨hH, hV⟩ := hJ
       have d3 := so hd 3; have d9 := so hd 9; have r3 := hV.2.2.2.1 d3; have r9 := hV.2.2.2.2.2.2.2.2.2.1 d9
       go_simp
       apply sk hK
       · (try simp only [r3, r9]); rfl
       exact ⟨hH, jD (jD (jB (rp (fun _ => rfl)))) hV⟩
     refine st 12 rfl (fun b t wx hJ hb hd hcl Kc hK => ?_) ?_
     · obtain ⟨hH, hV⟩ := hJ
       have d3 := so hd 3; have d10 := so hd 10; have r3 := hV.2.2.2.1 d3; have r10 := hV.2.2.2.2.2.2.2.2.2.2.1 d10
       go_simp
       apply sk hK
       · (try simp only [r3, r10]); rfl
       exact ⟨hH, jD (jD (jB (jA (rp (fun _ => rfl))))) hV⟩
     refine st 13 rfl (fun b t wx hJ hb hd hcl Kc hK => ?_) ?_
     · obtain ⟨hH, hV⟩ := hJ
       have d3 := so hd 3; have d5 := so hd 5; have d11 := so hd 11; have r3 := hV.2.2.2.1 d3; have r5 := hV.2.2.2.2.2.1 d5; have r11 := hV.2.2.2.2.2.2.2.2.2.2.2.1 d11
       go_simp
       apply sk hK
       · (try simp only [r3, r5, r11]); rfl
       exact ⟨hH, jD (jD (jD (rp (fun _ => rfl)))) hV⟩
     refine st 14 rfl (fun b t wx hJ hb hd hcl Kc hK => ?_) ?_
     · obtain ⟨hH, hV⟩ := hJ
       have d3 := so hd 3; have d12 := so hd 12; have r3 := hV.2.2.2.1 d3; have r12 := hV.2.2.2.2.2.2.2.2.2.2.2.2.1 d12
       go_simp
       apply sk hK
       · (try simp only [r3, r12]); rfl
       exact ⟨hH, jD (jD (jD (jA (fun _ => fun _ => rfl)))) hV⟩
     exact AllSteps.nil
    intro b t ws hJ hall
    obtain ⟨hHs, v0, v1, v2, v3, v4, v5, v6, v7, v8, v9, v10, v11, v12, v13⟩ := hJ
    have a0 := hall 0 (by decide); have a1 := hall 1 (by decide); have a2 := hall 2 (by decide); have a3 := hall 3 (by decide); have a4 := hall 4 (by decide); have a5 := hall 5 (by decide); have a6 := hall 6 (by decide); have a7 := hall 7 (by decide); have a8 := hall 8 (by decide); have a9 := hall 9 (by decide); have a10 := hall 10 (by decide); have a11 := hall 11 (by decide); have a12 := hall 12 (by decide); have a13 := hall 13 (by decide)
    (try simp only [a0, a1, a2, a3, a4, a5, a6, a7, a8, a9, a10, a11, a12, a13, cond_true] at hHs)
    replace v0 := v0 a0; replace v1 := v1 a1; replace v2 := v2 a2; replace v3 := v3 a3; replace v4 := v4 a4; replace v5 := v5 a5; replace v6 := v6 a6; replace v7 := v7 a7; replace v8 := v8 a8; replace v9 := v9 a9; replace v10 := v10 a10; replace v11 := v11 a11; replace v12 := v12 a12; replace v13 := v13 a13
    clear hall a0 a1 a2 a3 a4 a5 a6 a7 a8 a9 a10 a11 a12 a13
    generalize t 13 = x13 at hHs v13 ⊢; generalize t 12 = x12 at hHs v12 ⊢; generalize t 11 = x11 at hHs v11 ⊢; generalize t 10 = x10 at hHs v10 ⊢; generalize t 9 = x9 at hHs v9 ⊢; generalize t 8 = x8 at hHs v8 ⊢; generalize t 7 = x7 at hHs v7 ⊢; generalize t 6 = x6 at hHs v6 ⊢; generalize t 5 = x5 at hHs v5 ⊢; generalize t 4 = x4 at hHs v4 ⊢; generalize t 3 = x3 at hHs v3 ⊢; generalize t 2 = x2 at hHs v2 ⊢; generalize t 1 = x1 at hHs v1 ⊢; generalize t 0 = x0 at hHs v0 ⊢; subst v0; subst v1; subst v2; subst v3; subst v4; subst v5; subst v6; subst v7; subst v8; subst v9; subst v10; subst v11; subst v12; subst v13
    clear b
    replace hH := hHs; clear hHs
    replace hH : Held w ws [nB w.heap.size k p n (some ⟨bT, oT, none⟩) m cV aO op.length cO, aI (.slice avl NJ.length cvl) NJ, tB wq.heap.size e1j tlj.length f1j e2j tlj.length f2j e3j m3j f3j] := hH
    obtain ⟨wx, rfl⟩ : ∃ q, q = ws := ⟨ws, rfl⟩
    obtain ⟨q0_0, q0_1, q0_2, q0_3, q0_4, l0_⟩ := hH.c5 0 rfl; obtain ⟨q2_0, q2_1, q2_2, l2_⟩ := hH.c3 2 rfl
    go_wp2_with fail
    clear q0_0 q0_1 q0_2 q0_3 q0_4 l0_ q2_0 q2_1 q2_2 l2_
    go_roundw
    case rel => exact ⟨j + 1, by omega, by go_num, by rw [HSK.out]; exact hH.sub (.cons_cons _ (.cons_cons _ (.cons _ .slnil)))⟩
    case measure => simp [RowKit.intOf]; omega
  have hbb : ((j : Int) == (kk : Int)) = false := by rw [beq_eq_false_iff_ne]; omega
  have hbi : ¬ (j : Int) = (kk : Int) := by omega
  have hbn : ((j : Int) != (kk : Int)) = true := by rw [bne_iff_ne]; exact hbi
  have HSK : Hid (NF (j + 1) = NJ ++ if shareL tlj tlk = true then [(j : Int)] else []) := Lib.hid (by rw [HNS.out, HNJ.out, HLK.out.1, HLK.out.2]; simp [hjk])
  refine wp_region_steps ?Fe (fun b t wx => Held w wx [nB w.heap.size k p n (some ⟨bT, oT, none⟩) m cV aO op.length cO, aI (.slice avl NJ.length cvl) NJ, tB wq.heap.size e1j tlj.length f1j e2j tlj.length f2j e3j m3j f3j] ∧ (b 0 = true → t 0 = .int .i64 (j : Int)) ∧ (b 1 = true → t 1 = .int .i64 (kk : Int)) ∧ (b 2 = true → t 2 = .bool true) ∧ (b 3 = true → t 3 = .bool true) ∧ (b 4 = true → t 4 = .pointer (some ⟨wq.heap.size, 0, none⟩)) ∧ (b 5 = true → t 5 = .slice e1j tlj.length f1j) ∧ (b 6 = true → t 6 = .pointer (some ⟨w.heap.size, 3, none⟩)) ∧ (b 7 = true → t 7 = .slice (some ⟨bT, oT, none⟩) m cV) ∧ (b 8 = true → t 8 = .int .i64 (kk : Int)) ∧ (b 9 = true → t 9 = .pointer (some ⟨bT, oT + kk * 3, none⟩)) ∧ (b 10 = true → t 10 = .pointer (some ⟨bT, oT + kk * 3, none⟩)) ∧ (b 11 = true → t 11 = .slice e1k tlk.length f1k) ∧ (b 12 = true → t 12 = .bool (shareL tlj tlk)) ∧ (b 13 = true → t 13 = .bool (shareL tlj tlk))) ?hFe (by kernel_rfl) (by kernel_rfl) ?hJe ?hSe ?hEe
  (case hFe => intro t; simp only [putAll, Act.put, List.setIfInBounds_toArray, List.set_cons_zero, List.set_cons_succ, Nat.reduceAdd, Nat.zero_add]; exact rfl)
  case hJe => exact ⟨hH.grow ((Ext.refl _).drew), nof, nof, nof, nof, nof, nof, nof, nof, nof, nof, nof, nof, nof, nof⟩
  case hSe => as_aux_lemma =>
   refine st 1 rfl (fun b t wx hJ hb hd hcl Kc hK => ?_) ?_
   · obtain ⟨hH, hV⟩ := hJ
     have c_hu0k := hH.ext.cell hu0k
     go_simp
     apply sk hK
     · rfl
     exact ⟨hH, rp (fun _ => rfl) hV⟩
   refine st 2 rfl (fun b t wx hJ hb hd hcl Kc hK => ?_) ?_
   · obtain ⟨hH, hV⟩ := hJ
     have c_hu0k := hH.ext.cell hu0k
     go_simp
     apply sk hK
     · rfl
     exact ⟨hH, jA (rp (fun _ => rfl)) hV⟩
   refine st 3 rfl (fun b t wx hJ hb hd hcl Kc hK => ?_) ?_
   · obtain ⟨hH, hV⟩ := hJ
     have d0 := so hd 0; have d1 := so hd 1; have r0 := hV.1 d0; have r1 := hV.2.1 d1; have c_hu0k := hH.ext.cell hu0k
     go_simp
     apply sk hK
     · (try simp only [r0, r1]); rfl
     exact ⟨hH, jB (rp (fun _ => rfl)) hV⟩
   refine st 4 rfl (fun b t wx hJ hb hd hcl Kc hK => ?_) ?_
   · obtain ⟨hH, hV⟩ := hJ
     have d2 := so hd 2; have r2 := hV.2.2.1 d2; have c_hu0k := hH.ext.cell hu0k
     go_simp
     apply sk hK
     · (try simp only [r2]); rfl
     exact ⟨hH, jB (jA (rp (fun _ => rfl))) hV⟩
   refine st 5 rfl (fun b t wx hJ hb hd hcl Kc hK => ?_) ?_
   · obtain ⟨hH, hV⟩ := hJ
     have d3 := so hd 3; have r3 := hV.2.2.2.1 d3; have c_hu0k := hH.ext.cell hu0k
     go_simp
     apply sk hK
     · (try simp only [r3]); rfl
     exact ⟨hH, jD (rp (fun _ => rfl)) hV⟩
   refine st 6 rfl (fun b t wx hJ hb hd hcl Kc hK => ?_) ?_
   · obtain ⟨hH, hV⟩ := hJ
     have d3 := so hd 3; have d4 := so hd 4; have r3 := hV.2.2.2.1 d3; have r4 := hV.2.2.2.2.1 d4; have c_hu0k := hH.ext.cell hu0k; have q2_0 := hH.cl 2 0 rfl rfl
     go_simp
     apply sk hK
     · (try simp only [r3, r4]); rfl
     exact ⟨hH, jD (jA (rp (fun _ => rfl))) hV⟩
   refine st 7 rfl (fun b t wx hJ hb hd hcl Kc hK => ?_) ?_
   · obtain ⟨hH, hV⟩ := hJ
     have d3 := so hd 3; have r3 := hV.2.2.2.1 d3; have c_hu0k := hH.ext.cell hu0k
     go_simp
     apply sk hK
     · (try simp only [r3]); rfl
     exact ⟨hH, jD (jB (rp (fun _ => rfl))) hV⟩
   refine st 8 rfl (fun b t wx hJ hb hd hcl Kc hK => ?_) ?_
   · obtain ⟨hH, hV⟩ := hJ
     have d3 := so hd 3; have d6 := so hd 6; have r3 := hV.2.2.2.1 d3; have r6 := hV.2.2.2.2.2.2.1 d6; have c_hu0k := hH.ext.cell hu0k; have q0_3 := hH.cl 0 3 rfl rfl
     go_simp
     apply sk hK
     · (try simp only [r3, r6]); rfl
     exact ⟨hH, jD (jB (jA (rp (fun _ => rfl)))) hV⟩
   refine st 9 rfl (fun b t wx hJ hb hd hcl Kc hK => ?_) ?_
   · obtain ⟨hH, hV⟩ := hJ
     have d3 := so hd 3; have r3 := hV.2.2.2.1 d3; have c_hu0k := hH.ext.cell hu0k
     go_simp
     apply sk hK
     · (try simp only [r3]); rfl
     exact ⟨hH, jD (jD (rp (fun _ => rfl))) hV⟩
   refine st 10 rfl (fun b t wx hJ hb hd hcl Kc hK => ?_) ?_
   · obtain ⟨hH, hV⟩ := hJ
     have d3 := so hd 3; have d7 := so hd 7; have d8 := so hd 8; have r3 := hV.2.2.2.1 d3; have r7 := hV.2.2.2.2.2.2.2.1 d7; have r8 := hV.2.2.2.2.2.2.2.2.1 d8; have c_hu0k := hH.ext.cell hu0k
     go_simp
     apply sk hK
     · (try simp only [r3, r7, r8]); rfl
     exact ⟨hH, jD (jD (jA (rp (fun _ => rfl)))) hV⟩
   refine st 11 rfl (fun b t wx hJ hb hd hcl Kc hK => ?_) ?_
   · obtain ⟨hH, hV⟩ := hJ
     have d3 := so hd 3; have d9 := so hd 9; have r3 := hV.2.2.2.1 d3; have r9 := hV.2.2.2.2.2.2.2.2.2.1 d9; have c_hu0k := hH.ext.cell hu0k
     go_simp
     apply sk hK
     · (try simp only [r3, r9]); rfl
     exact ⟨hH, jD (jD (jB (rp (fun _ => rfl)))) hV⟩
   refine st 12 rfl (fun b t wx hJ hb hd hcl Kc hK => ?_) ?_
   · obtain ⟨hH, hV⟩ := hJ
     have d3 := so hd 3; have d10 := so hd 10; have r3 := hV.2.2.2.1 d3; have r10 := hV.2.2.2.2.2.2.2.2.2.2.1 d10; have c_hu0k := hH.ext.cell hu0k
     go_simp
     apply sk hK
     · (try simp only [r3, r10]); rfl
     exact ⟨hH, jD (jD (jB (jA (rp (fun _ => rfl))))) hV⟩
   refine st 13 rfl (fun b t wx hJ hb hd hcl Kc hK => ?_) ?_
   · obtain ⟨hH, hV⟩ := hJ
     have d3 := so hd 3; have d5 := so hd 5; have d11 := so hd 11; have r3 := hV.2.2.2.1 d3; have r5 := hV.2.2.2.2.2.1 d5; have r11 := hV.2.2.2.2.2.2.2.2.2.2.2.1 d11
     go_simp
     go_at_call 45
     refine (shareLabel_any _ _ tlj tlk _ (hTLj.ext hH.ext) (hTLk.ext hH.ext)).mono ?_; rintro e12 w12 ⟨rfl, rfl⟩
     (try go_simp)
     apply sk hK
     · (try simp only [r3, r5, r11]); rfl
     exact ⟨by have hX := hH; simpa only [List.set_cons_zero, List.set_cons_succ, updB, updV, blkOf_mk, tup0_mk, partsOf3, Nat.reduceBEq, cond_true, cond_false, hb, d3, d5, d11, r3, r5, r11] using hX, jD (jD (jD (rp (fun _ => rfl)))) hV⟩
   refine st 14 rfl (fun b t wx hJ hb hd hcl Kc hK => ?_) ?_
   · obtain ⟨hH, hV⟩ := hJ
     have d3 := so hd 3; have d12 := so hd 12; have r3 := hV.2.2.2.1 d3; have r12 := hV.2.2.2.2.2.2.2.2.2.2.2.2.1 d12; have c_hu0k := hH.ext.cell hu0k
     go_simp
     apply sk hK
     · (try simp only [r3, r12]); rfl
     exact ⟨hH, jD (jD (jD (jA (fun _ => fun _ => rfl)))) hV⟩
   exact AllSteps.nil
  intro b t we hJ hall
  obtain ⟨hHe, v0, v1, v2, v3, v4, v5, v6, v7, v8, v9, v10, v11, v12, v13⟩ := hJ
  have a0 := hall 0 (by decide); have a1 := hall 1 (by decide); have a2 := hall 2 (by decide); have a3 := hall 3 (by decide); have a4 := hall 4 (by decide); have a5 := hall 5 (by decide); have a6 := hall 6 (by decide); have a7 := hall 7 (by decide); have a8 := hall 8 (by decide); have a9 := hall 9 (by decide); have a10 := hall 10 (by decide); have a11 := hall 11 (by decide); have a12 := hall 12 (by decide); have a13 := hall 13 (by decide)
  (try simp only [a0, a1, a2, a3, a4, a5, a6, a7, a8, a9, a10, a11, a12, a13, cond_true] at hHe)
  replace v0 := v0 a0; replace v1 := v1 a1; replace v2 := v2 a2; replace v3 := v3 a3; replace v4 := v4 a4; replace v5 := v5 a5; replace v6 := v6 a6; replace v7 := v7 a7; replace v8 := v8 a8; replace v9 := v9 a9; replace v10 := v10 a10; replace v11 := v11 a11; replace v12 := v12 a12; replace v13 := v13 a13
  clear hall a0 a1 a2 a3 a4 a5 a6 a7 a8 a9 a10 a11 a12 a13
  generalize t 13 = x13 at hHe v13 ⊢; generalize t 12 = x12 at hHe v12 ⊢; generalize t 11 = x11 at hHe v11 ⊢; generalize t 10 = x10 at hHe v10 ⊢; generalize t 9 = x9 at hHe v9 ⊢; generalize t 8 = x8 at hHe v8 ⊢; generalize t 7 = x7 at hHe v7 ⊢; generalize t 6 = x6 at hHe v6 ⊢; generalize t 5 = x5 at hHe v5 ⊢; generalize t 4 = x4 at hHe v4 ⊢; generalize t 3 = x3 at hHe v3 ⊢; generalize t 2 = x2 at hHe v2 ⊢; generalize t 1 = x1 at hHe v1 ⊢; generalize t 0 = x0 at hHe v0 ⊢; subst v0; subst v1; subst v2; subst v3; subst v4; subst v5; subst v6; subst v7; subst v8; subst v9; subst v10; subst v11; subst v12; subst v13
  clear b
  replace hH := hHe; clear hHe
  replace hH : Held w we [nB w.heap.size k p n (some ⟨bT, oT, none⟩) m cV aO op.length cO, aI (.slice avl NJ.length cvl) NJ, tB wq.heap.size e1j tlj.length f1j e2j tlj.length f2j e3j m3j f3j] := hH
  obtain ⟨wx, rfl⟩ : ∃ q, q = we := ⟨we, rfl⟩
  have hbk := hbb; clear hbb hbi hbn hjk
  cases hs : shareL tlj tlk
  ·
   rw [hs] at HSK; clear hs
   obtain ⟨q0_0, q0_1, q0_2, q0_3, q0_4, l0_⟩ := hH.c5 0 rfl; obtain ⟨q2_0, q2_1, q2_2, l2_⟩ := hH.c3 2 rfl
   go_wp2_with fail
   clear q0_0 q0_1 q0_2 q0_3 q0_4 l0_ q2_0 q2_1 q2_2 l2_
   go_roundw
   case rel => exact ⟨j + 1, by omega, by go_num, by rw [HSK.out]; simpa using hH.sub (.cons_cons _ (.cons_cons _ (.cons _ .slnil)))⟩
   case measure => simp [RowKit.intOf]; omega
  rw [hs] at HSK; clear hs
  obtain ⟨q0_0, q0_1, q0_2, q0_3, q0_4, l0_⟩ := hH.c5 0 rfl; obtain ⟨q2_0, q2_1, q2_2, l2_⟩ := hH.c3 2 rfl
  go_wp2_with (at_builtin; refine wpList_app _ rfl _ _ 27 rfl _ _ rfl rfl _ (run_push _ _ w.heap.size _ NJ (j : Int) (hH.own (k := 1) rfl) (by omega) hH.size) ?_; rintro v6 w6 ⟨o6, g6, n6⟩; have hHp := hH.pushed (k := 1) rfl o6 g6 n6; have yB := hHp.blk (k := 0) rfl; have y3 := yB.cell (j := 3) rfl; have yl := yB.lt; clear yB)
  go_roundw
  case rel => exact ⟨j + 1, by omega, by go_num, by rw [HSK.out]; exact hHp.sub (.cons_cons _ (.cons_cons _ (.cons _ .slnil)))⟩
  case measure => simp [RowKit.intOf]; omega
 have hje : j = m := by omega
 subst hje
 have HFE : Hid (NF j = NJ) := HNJ
 have HO := Lib.hid (hH.own (k := 1) rfl); have HE := Lib.hid hH.ext; clear hH
 go_wp2
 go_ret
 exact ⟨_, rfl, by rw [HFE.out]; exact HO.out, HE.out⟩
end Go.Proofs.YtlgjddgajdjllaaGreat
