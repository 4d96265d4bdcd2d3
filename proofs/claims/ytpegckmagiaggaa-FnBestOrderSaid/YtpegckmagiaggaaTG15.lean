/- Texts of one kind, merged by program. -/
import Derived.Test.YtpegckmagiaggaaTNetSW
import Derived.Test.YtpegckmagiaggaaTOrdW
/- Orders of contraction, plain: the tensors after the first steps of a valid order. No program in sight. -/
set_option linter.unusedSimpArgs false
set_option linter.unusedVariables false
namespace Go.Proofs.Ytpegckmagiaggaa
open Go.RowKit
theorem numStep_len {ns : List Int} {nx : Int} {s : Int × Int} {i j : Nat} (hi : findL ns s.1 = (i : Int)) (hj : findL ns s.2 = (j : Int)) (hij : i ≠ j) (hil : i < ns.length) (hjl : j < ns.length) : (numStep ns nx s).length + 1 = ns.length := by
  unfold numStep
  rw [hi, hj, List.length_append, List.length_singleton]
  have := drop2_len (l := ns) hij hil hjl
  simp only [Int.toNat_natCast]
  omega
theorem okO_idx {ns : List Int} {nx : Int} {s : Int × Int} {r : List (Int × Int)} (h : okO ns nx (s :: r)) : ∃ i j : Nat, findL ns s.1 = (i : Int) ∧ findL ns s.2 = (j : Int) ∧ i ≠ j ∧ i < ns.length ∧ j < ns.length ∧ ns[i]? = some s.1 ∧ ns[j]? = some s.2 := by
  obtain ⟨h1, h2, h3, _⟩ := h
  obtain ⟨i, hi, hi2⟩ := find_nat h1
  obtain ⟨j, hj, hj2⟩ := find_nat h2
  refine ⟨i, j, hi, hj, ?_, (List.getElem?_eq_some_iff.1 hi2).1, (List.getElem?_eq_some_iff.1 hj2).1, hi2, hj2⟩
  rintro rfl
  rw [hi2] at hj2
  have := Option.some.inj hj2
  omega
section
variable {k p n : Int} (hr : ringOk k p n = true)
variable {dm : Int → Int} {U : List Int} {op : List Int}
def tenStep (dm : Int → Int) (op : List Int) (ns : List Int) (ts : List (NT k p n)) (s : Int × Int) : List (NT k p n) := stepN hr dm op ts (findL ns s.1).toNat (findL ns s.2).toNat
def runN (dm : Int → Int) (op : List Int) : List Int → Int → List (NT k p n) → List (Int × Int) → List Int × List (NT k p n)
  | ns, _, ts, [] => (ns, ts)
  | ns, nx, ts, s :: r => runN dm op (numStep ns nx s) (nx + 1) (tenStep hr dm op ns ts s) r
theorem runN_snoc (dm : Int → Int) (op : List Int) : ∀ (r : List (Int × Int)) (ns : List Int) (nx : Int) (ts : List (NT k p n)) (s : Int × Int),
    runN hr dm op ns nx ts (r ++ [s]) = (numStep (runN hr dm op ns nx ts r).1 (nx + r.length) s, tenStep hr dm op (runN hr dm op ns nx ts r).1 (runN hr dm op ns nx ts r).2 s)
  | [], ns, nx, ts, s => by simp [runN]
  | t :: r, ns, nx, ts, s => by
    rw [List.cons_append, runN, runN_snoc dm op r, runN, List.length_cons]
    congr 2
    push_cast; omega
theorem okN_drop : ∀ {r : List (Int × Int)} {ns : List Int} {nx : Int} (dm : Int → Int) (op : List Int) (ts : List (NT k p n)), okO ns nx r → ∀ j, okO (runN hr dm op ns nx ts (r.take j)).1 (nx + j) (r.drop j)
  | r, ns, nx, dm, op, ts, h, 0 => by simpa [runN] using h
  | [], ns, nx, dm, op, ts, h, j + 1 => by simp [okO]
  | s :: r, ns, nx, dm, op, ts, h, j + 1 => by
    rw [List.take_succ_cons, runN, List.drop_succ_cons]
    have := okN_drop dm op (tenStep hr dm op ns ts s) h.2.2.2 j
    have e : nx + 1 + (j : Int) = nx + ((j + 1 : Nat) : Int) := by push_cast; omega
    rw [e] at this; exact this
theorem tenStep_lab (ns : List Int) (ts : List (NT k p n)) (s : Int × Int) : (tenStep hr dm op ns ts s).map (·.1) = labStep op ns (ts.map (·.1)) s := by
  unfold tenStep labStep; rw [stepN_lab]
theorem runN_isN : ∀ {r : List (Int × Int)} {ns : List Int} {nx : Int} {ts : List (NT k p n)}, okO ns nx r → ns.length = ts.length → IsN k p n dm U ts op →
    IsN k p n dm U (runN hr dm op ns nx ts r).2 op ∧ (runN hr dm op ns nx ts r).1.length = (runN hr dm op ns nx ts r).2.length ∧ (runN hr dm op ns nx ts r).2.length + r.length = ts.length ∧ netXs hr dm (runN hr dm op ns nx ts r).2 op = netXs hr dm ts op
  | [], ns, nx, ts, h, hl, hN => ⟨hN, hl, by simp [runN], rfl⟩
  | s :: r, ns, nx, ts, h, hl, hN => by
    obtain ⟨i, j, hi, hj, hij, hil, hjl, _, _⟩ := okO_idx h
    have e : tenStep hr dm op ns ts s = stepN hr dm op ts i j := by unfold tenStep; rw [hi, hj]; rfl
    rw [hl] at hil hjl
    have hN2 := stepN_isN hr hN hij hil hjl
    have hv := stepN_val hr hN hij hil hjl
    have hll : (stepN hr dm op ts i j).length + 1 = ts.length := by
      unfold stepN
      rw [List.length_append, List.length_singleton]
      have := drop2_len (l := ts) hij hil hjl
      omega
    have hnl := numStep_len (nx := nx) hi hj hij (by omega) (by omega)
    rw [runN, e]
    obtain ⟨a1, a2, a3, a4⟩ := runN_isN (r := r) (ns := numStep ns nx s) (nx := nx + 1) (ts := stepN hr dm op ts i j) h.2.2.2 (by omega) hN2
    exact ⟨a1, a2, by rw [List.length_cons]; omega, a4.trans hv⟩
theorem okO_take : ∀ {r : List (Int × Int)} {ns : List Int} {nx : Int}, okO ns nx r → ∀ j, okO ns nx (r.take j)
  | r, ns, nx, h, 0 => by simp [okO]
  | [], ns, nx, h, j + 1 => by simp [okO]
  | s :: r, ns, nx, h, j + 1 => by
    rw [List.take_succ_cons]
    exact ⟨h.1, h.2.1, h.2.2.1, okO_take h.2.2.2 j⟩
end
structure AtStep {k p n : Int} (hr : ringOk k p n = true) (dm : Int → Int) (U op : List Int) (ns0 : List Int) (nx0 : Int) (ts : List (NT k p n)) (os : List (Int × Int)) (j : Nat) (ns : List Int) (tj : List (NT k p n)) : Prop where
  eqN : (runN hr dm op ns0 nx0 ts (os.take j)).1 = ns
  eqT : (runN hr dm op ns0 nx0 ts (os.take j)).2 = tj
  isN : IsN k p n dm U tj op
  len : ns.length = tj.length
  left : tj.length + j = ts.length
  val : netXs hr dm tj op = netXs hr dm ts op
section
variable {k p n : Int} {hr : ringOk k p n = true} {dm : Int → Int} {U op ns0 : List Int} {nx0 : Int} {ts : List (NT k p n)} {os : List (Int × Int)}
theorem AtStep.mk' (h : okO ns0 nx0 os) (hl : ns0.length = ts.length) (hN : IsN k p n dm U ts op) (j : Nat) (hj : j ≤ os.length) : AtStep hr dm U op ns0 nx0 ts os j (runN hr dm op ns0 nx0 ts (os.take j)).1 (runN hr dm op ns0 nx0 ts (os.take j)).2 := by
  obtain ⟨a1, a2, a3, a4⟩ := runN_isN hr (okO_take h j) hl hN
  rw [List.length_take, Nat.min_eq_left hj] at a3
  exact ⟨rfl, rfl, a1, a2, a3, a4⟩
theorem AtStep.ok {j : Nat} {ns : List Int} {tj : List (NT k p n)} (h : AtStep hr dm U op ns0 nx0 ts os j ns tj) (ho : okO ns0 nx0 os) : okO ns (nx0 + j) (os.drop j) := by
  have := okN_drop hr dm op ts ho j
  rw [h.eqN] at this; exact this
theorem AtStep.next {j : Nat} {ns : List Int} {tj : List (NT k p n)} (h : AtStep hr dm U op ns0 nx0 ts os j ns tj) (ho : okO ns0 nx0 os) (hl : ns0.length = ts.length) (hN : IsN k p n dm U ts op) {s : Int × Int} (hs : os[j]? = some s) :
    AtStep hr dm U op ns0 nx0 ts os (j + 1) (numStep ns (nx0 + j) s) (tenStep hr dm op ns tj s) ∧ (s.1 ∈ ns ∧ s.2 ∈ ns ∧ s.1 < s.2) := by
  have hj := (List.getElem?_eq_some_iff.1 hs).1
  have h2 := AtStep.mk' (hr := hr) ho hl hN (j + 1) hj
  have e : os.take (j + 1) = os.take j ++ [s] := by rw [List.take_add_one, hs]; rfl
  have hl2 : (os.take j).length = j := by rw [List.length_take]; omega
  have e2 := runN_snoc hr dm op (os.take j) ns0 nx0 ts s
  rw [← e, h.eqN, h.eqT, hl2] at e2
  rw [e2] at h2
  have h3 := h.ok ho
  obtain ⟨hj', hse⟩ := List.getElem?_eq_some_iff.1 hs
  rw [List.drop_eq_getElem_cons hj, hse] at h3
  exact ⟨h2, h3.1, h3.2.1, h3.2.2.1⟩
theorem AtStep.rank {j : Nat} {ns : List Int} {tj : List (NT k p n)} (h : AtStep hr dm U op ns0 nx0 ts os j ns tj) : ∀ l ∈ tj.map (·.1), l.length ≤ 12 := by
  intro l hl
  obtain ⟨t, ht, rfl⟩ := List.mem_map.1 hl
  exact (h.isN.ten t ht).ax.rank
end
section
variable {k p n : Int} {hr : ringOk k p n = true} {dm : Int → Int} {U op ns0 : List Int} {nx0 : Int} {ts : List (NT k p n)} {os : List (Int × Int)}
def szL (dm : Int → Int) (L : List Int) : Int := prodL (L.map dm)
theorem szL_pos (u : Uni dm U) {L : List Int} (s : Sub U L) : 1 ≤ szL dm L ∧ szL dm L ≤ 4096 := ⟨prodL_pos (u.ax s).dims, (u.ax s).size⟩
def costJ (dm : Int → Int) (ns : List Int) (tj : List (NT k p n)) (s : Int × Int) : Int := szL dm (joinL (labAt (tj.map (·.1)) (findL ns s.1).toNat) (labAt (tj.map (·.1)) (findL ns s.2).toNat))
def lastL (tj : List (NT k p n)) : List Int := labAt (tj.map (·.1)) (tj.length - 1)
def costAt (hr : ringOk k p n = true) (dm : Int → Int) (op ns0 : List Int) (nx0 : Int) (ts : List (NT k p n)) (os : List (Int × Int)) (j : Nat) : Int :=
  match os[j]? with
  | none => 0
  | some s => costJ dm (runN hr dm op ns0 nx0 ts (os.take j)).1 (runN hr dm op ns0 nx0 ts (os.take j)).2 s
def costsT (hr : ringOk k p n = true) (dm : Int → Int) (op ns0 : List Int) (nx0 : Int) (ts : List (NT k p n)) (os : List (Int × Int)) (q : Nat) : List Int := (List.range q).map (costAt hr dm op ns0 nx0 ts os)
theorem costsT_succ (q : Nat) : costsT hr dm op ns0 nx0 ts os (q + 1) = costsT hr dm op ns0 nx0 ts os q ++ [costAt hr dm op ns0 nx0 ts os q] := by simp [costsT, List.range_succ]
theorem costsT_len (q : Nat) : (costsT hr dm op ns0 nx0 ts os q).length = q := by simp [costsT]
theorem AtStep.cost {j : Nat} {ns : List Int} {tj : List (NT k p n)} (h : AtStep hr dm U op ns0 nx0 ts os j ns tj) {s : Int × Int} (hs : os[j]? = some s) : costAt hr dm op ns0 nx0 ts os j = costJ dm ns tj s := by
  unfold costAt
  rw [hs, h.eqN, h.eqT]
theorem AtStep.places {j : Nat} {ns : List Int} {tj : List (NT k p n)} (h : AtStep hr dm U op ns0 nx0 ts os j ns tj) (ho : okO ns0 nx0 os) {s : Int × Int} (hs : os[j]? = some s) :
    ∃ (i q : Nat) (a b : NT k p n), findL ns s.1 = (i : Int) ∧ findL ns s.2 = (q : Int) ∧ i ≠ q ∧ tj[i]? = some a ∧ tj[q]? = some b ∧ tenStep hr dm op ns tj s = drop2 tj i q ++ [(resL op (tj.map (·.1)) i q, contrXs hr dm a.1 b.1 (resL op (tj.map (·.1)) i q) a.2 b.2)] ∧ resL op (tj.map (·.1)) i q = keepL (joinL a.1 b.1) (resL op (tj.map (·.1)) i q) ∧ costJ dm ns tj s = szL dm (joinL a.1 b.1) := by
  have h2 := h.ok ho
  obtain ⟨hj, rfl⟩ := List.getElem?_eq_some_iff.1 hs
  rw [List.drop_eq_getElem_cons hj] at h2
  obtain ⟨i, q, hi, hq, hne, hil, hql, _, _⟩ := okO_idx h2
  rw [h.len] at hil hql
  have ha := List.getElem?_eq_getElem hil
  have hb := List.getElem?_eq_getElem hql
  refine ⟨i, q, _, _, hi, hq, hne, ha, hb, ?_, ?_, ?_⟩
  · unfold tenStep
    rw [hi, hq]
    show stepN hr dm op tj i q = _
    unfold stepN
    rw [labAt_map ha, labAt_map hb, datAt_get ha, datAt_get hb]
  · unfold resL
    rw [labAt_map ha, labAt_map hb, keepL_idem]
  · unfold costJ
    rw [hi, hq]
    show szL dm (joinL (labAt (tj.map (·.1)) i) (labAt (tj.map (·.1)) q)) = _
    rw [labAt_map ha, labAt_map hb]
theorem labAt_last (l : List (NT k p n)) (t : NT k p n) : lastL (l ++ [t]) = t.1 := by
  unfold lastL
  refine labAt_map ?_
  rw [List.length_append, List.length_singleton]; simp
theorem AtStep.cost_ok {j : Nat} {ns : List Int} {tj : List (NT k p n)} (h : AtStep hr dm U op ns0 nx0 ts os j ns tj) (ho : okO ns0 nx0 os) {s : Int × Int} (hs : os[j]? = some s) :
    1 ≤ costJ dm ns tj s ∧ costJ dm ns tj s ≤ 4096 ∧ szL dm (lastL (tenStep hr dm op ns tj s)) ≤ costJ dm ns tj s := by
  obtain ⟨i, q, a, b, _, _, _, ha, hb, e, er, ec⟩ := h.places ho hs
  have u := h.isN.uni
  have sJ := (h.isN.ten a (List.mem_of_getElem? ha)).sub.join (h.isN.ten b (List.mem_of_getElem? hb)).sub
  rw [ec, e, labAt_last]
  refine ⟨(szL_pos u sJ).1, (szL_pos u sJ).2, ?_⟩
  show prodL ((resL op (tj.map (·.1)) i q).map dm) ≤ prodL ((joinL a.1 b.1).map dm)
  rw [er]
  exact prod_keep u sJ _
theorem costs_sum (ho : okO ns0 nx0 os) (hl : ns0.length = ts.length) (hN : IsN k p n dm U ts op) : ∀ q, q ≤ os.length → 0 ≤ (costsT hr dm op ns0 nx0 ts os q).sum ∧ (costsT hr dm op ns0 nx0 ts os q).sum ≤ 4096 * q
  | 0, _ => by simp [costsT]
  | q + 1, hq => by
    obtain ⟨h1, h2⟩ := costs_sum ho hl hN q (by omega)
    have hA := AtStep.mk' (hr := hr) ho hl hN q (by omega)
    have hs : os[q]? = some os[q] := List.getElem?_eq_getElem (by omega)
    have hc := hA.cost_ok ho hs
    rw [← hA.cost hs] at hc
    rw [costsT_succ, List.sum_append, List.sum_singleton]
    push_cast
    omega
def maxT (dm : Int → Int) (a : Int) (l : List (NT k p n)) : Int := l.foldl (fun a t => max a (szL dm t.1)) a
theorem maxT_snoc (a : Int) (l : List (NT k p n)) (t : NT k p n) : maxT dm a (l ++ [t]) = max (maxT dm a l) (szL dm t.1) := by unfold maxT; rw [List.foldl_append]; rfl
theorem maxT_take {a : Int} {l : List (NT k p n)} {q : Nat} {t : NT k p n} (h : l[q]? = some t) : maxT dm a (l.take (q + 1)) = max (maxT dm a (l.take q)) (szL dm t.1) := by
  rw [List.take_add_one, h]; exact maxT_snoc _ _ _
theorem maxT_ge : ∀ (l : List (NT k p n)) (a : Int), a ≤ maxT dm a l ∧ ∀ t ∈ l, szL dm t.1 ≤ maxT dm a l
  | [], a => ⟨Int.le_refl _, fun t h => by cases h⟩
  | x :: l, a => by
    obtain ⟨h1, h2⟩ := maxT_ge l (max a (szL dm x.1))
    have e : maxT dm a (x :: l) = maxT dm (max a (szL dm x.1)) l := rfl
    rw [e]
    refine ⟨by omega, fun t ht => ?_⟩
    rcases List.mem_cons.1 ht with rfl | ht
    · omega
    · exact h2 t ht
theorem maxT_le : ∀ (l : List (NT k p n)) (a b : Int), a ≤ b → (∀ t ∈ l, szL dm t.1 ≤ b) → maxT dm a l ≤ b
  | [], a, b, h, _ => h
  | x :: l, a, b, h, h2 => maxT_le l (max a (szL dm x.1)) b (by have := h2 x (by simp); omega) fun t ht => h2 t (by simp [ht])
theorem stepN_occ {tj : List (NT k p n)} {i j : Nat} (hi : i < tj.length) (hj : j < tj.length) {x : Int} (hx : x ∈ occ (stepN hr dm op tj i j)) : x ∈ occ tj := by
  have ha := List.getElem?_eq_getElem hi
  have hb := List.getElem?_eq_getElem hj
  rw [stepN_eq hr ha hb, occ_snoc, List.mem_append] at hx
  rcases hx with hx | hx
  · obtain ⟨t, ht, hx⟩ := mem_occ.1 hx
    obtain ⟨q, _, hq⟩ := mem_drop2.1 ht
    exact mem_occ.2 ⟨t, List.mem_of_getElem? hq, hx⟩
  · rcases mem_joinL.1 (mem_keepL.1 hx).1 with hx | hx
    · exact mem_occ.2 ⟨_, List.mem_of_getElem? ha, hx⟩
    · exact mem_occ.2 ⟨_, List.mem_of_getElem? hb, hx⟩
theorem runN_occ : ∀ {r : List (Int × Int)} {ns : List Int} {nx : Int} {ts : List (NT k p n)}, okO ns nx r → ns.length = ts.length → ∀ {x : Int}, x ∈ occ (runN hr dm op ns nx ts r).2 → x ∈ occ ts
  | [], _, _, _, _, _, _, hx => hx
  | s :: r, ns, nx, ts, h, hl, x, hx => by
    obtain ⟨i, j, hi, hj, hij, hil, hjl, _, _⟩ := okO_idx h
    have e : tenStep hr dm op ns ts s = stepN hr dm op ts i j := by unfold tenStep; rw [hi, hj]; rfl
    rw [hl] at hil hjl
    rw [runN, e] at hx
    have hll : (stepN hr dm op ts i j).length + 1 = ts.length := by
      unfold stepN
      rw [List.length_append, List.length_singleton]
      have := drop2_len (l := ts) hij hil hjl
      omega
    have hnl := numStep_len (nx := nx) hi hj hij (by omega) (by omega)
    exact stepN_occ hil hjl (runN_occ (r := r) h.2.2.2 (by omega) hx)
theorem AtStep.occ {j : Nat} {ns : List Int} {tj : List (NT k p n)} (h : AtStep hr dm U op ns0 nx0 ts os j ns tj) (ho : okO ns0 nx0 os) (hl : ns0.length = ts.length) {x : Int} (hx : x ∈ Proofs.Ytpegckmagiaggaa.occ tj) : x ∈ Proofs.Ytpegckmagiaggaa.occ ts := by
  rw [← h.eqT] at hx
  exact runN_occ (okO_take ho j) hl hx
theorem AtStep.szOk {j : Nat} {ns : List Int} {tj : List (NT k p n)} (h : AtStep hr dm U op ns0 nx0 ts os j ns tj) (ho : okO ns0 nx0 os) (hl : ns0.length = ts.length) {L : List Int} (hL : ∀ x ∈ L, x ∈ Proofs.Ytpegckmagiaggaa.occ tj) (hn : L.Nodup) :
    (∀ x ∈ L, (0 ≤ x ∧ x ≤ 99) ∧ x ∈ Proofs.Ytpegckmagiaggaa.occ ts) ∧ (∀ d ∈ L.map dm, 1 ≤ d ∧ d ≤ 8) ∧ prodL (L.map dm) ≤ 4096 ∧ L.length ≤ 1000 := by
  have s : Sub U L := ⟨hn, fun x hx => h.isN.occU (hL x hx)⟩
  have a := h.isN.uni.ax s
  exact ⟨fun x hx => ⟨h.isN.uni.labs (s.sub x hx), h.occ ho hl (hL x hx)⟩, a.dims, a.size, by have := a.rank; omega⟩
end
def numsR : List Int → Int → List (Int × Int) → List Int
  | ns, _, [] => ns
  | ns, nx, s :: r => numsR (numStep ns nx s) (nx + 1) r
theorem numsR_snoc : ∀ (r : List (Int × Int)) (ns : List Int) (nx : Int) (s : Int × Int), numsR ns nx (r ++ [s]) = numStep (numsR ns nx r) (nx + r.length) s
  | [], ns, nx, s => by simp [numsR]
  | t :: r, ns, nx, s => by
    rw [List.cons_append, numsR, numsR_snoc r, numsR, List.length_cons]
    congr 1
    push_cast; omega
theorem okO_snoc : ∀ {r : List (Int × Int)} {ns : List Int} {nx : Int} {s : Int × Int}, okO ns nx r → s.1 ∈ numsR ns nx r → s.2 ∈ numsR ns nx r → s.1 < s.2 → okO ns nx (r ++ [s])
  | [], ns, nx, s, _, h1, h2, h3 => ⟨h1, h2, h3, trivial⟩
  | t :: r, ns, nx, s, h, h1, h2, h3 => ⟨h.1, h.2.1, h.2.2.1, okO_snoc h.2.2.2 h1 h2 h3⟩
theorem numStep_perm {ns : List Int} {nx : Int} {a b : Int} {M : List Int} (h : ns.Perm (a :: b :: M)) (hab : a ≠ b) : (numStep ns nx (a, b)).Perm (M ++ [nx]) := by
  have ha : a ∈ ns := h.mem_iff.2 (by simp)
  have hb : b ∈ ns := h.mem_iff.2 (by simp)
  obtain ⟨i, hi, hi2⟩ := find_nat ha
  obtain ⟨j, hj, hj2⟩ := find_nat hb
  have hij : i ≠ j := by
    rintro rfl
    rw [hi2] at hj2; exact hab (Option.some.inj hj2)
  have h2 := two_perm hij hi2 hj2
  have h3 : (drop2 ns i j).Perm M := List.perm_cons .. |>.1 (List.perm_cons .. |>.1 (h2.symm.trans h))
  unfold numStep
  rw [hi, hj]
  exact h3.append_right _
theorem numStep_perm' {ns : List Int} {nx : Int} {x y : Int} {M : List Int} (h : ns.Perm (M ++ [x, y])) (hxy : x ≠ y) : (numStep ns nx (min x y, max x y)).Perm (M ++ [nx]) := by
  have h2 : ns.Perm (x :: y :: M) := h.trans List.perm_append_comm
  rcases Int.lt_or_le x y with hlt | hge
  · rw [Int.min_eq_left (by omega), Int.max_eq_right (by omega)]
    exact numStep_perm h2 hxy
  · rw [Int.min_eq_right (by omega), Int.max_eq_left (by omega)]
    exact numStep_perm (h2.trans (List.Perm.swap _ _ _)) (Ne.symm hxy)
structure Making (m : Nat) (os : List (Int × Int)) (M : List Int) : Prop where
  ok : okO (numL m) (m : Int) os
  perm : (numsR (numL m) (m : Int) os).Perm M
  nodup : M.Nodup
  lt : ∀ x ∈ M, 0 ≤ x ∧ x < (m : Int) + os.length
  len : M.length + os.length = m
theorem Making.start (m : Nat) : Making m [] (numL m) :=
  ⟨trivial, List.Perm.refl _, List.pairwise_map.2 (List.Pairwise.imp (fun h e => h (by exact_mod_cast e)) List.nodup_range), fun x hx => by
    obtain ⟨i, hi, rfl⟩ := List.mem_map.1 hx
    have := List.mem_range.1 hi
    simp; omega, by simp [numL_len]⟩
theorem Making.shuf {m : Nat} {os : List (Int × Int)} {M M' : List Int} (h : Making m os M) (p : M'.Perm M) : Making m os M' :=
  ⟨h.ok, h.perm.trans p.symm, p.nodup_iff.2 h.nodup, fun x hx => h.lt x (p.mem_iff.1 hx), by rw [p.length_eq]; exact h.len⟩
theorem Making.step {m : Nat} {os : List (Int × Int)} {M : List Int} {x y : Int} (h : Making m os (M ++ [x, y])) : Making m (os ++ [(min x y, max x y)]) (M ++ [(m : Int) + os.length]) := by
  have hn := h.nodup
  have hxy : x ≠ y := by
    have := (List.nodup_append.1 hn).2.1
    rw [List.nodup_cons] at this
    simpa using this.1
  have hx : x ∈ numsR (numL m) (m : Int) os := h.perm.mem_iff.2 (by simp)
  have hy : y ∈ numsR (numL m) (m : Int) os := h.perm.mem_iff.2 (by simp)
  refine ⟨okO_snoc h.ok ?_ ?_ ?_, ?_, ?_, fun z hz => ?_, ?_⟩
  · show min x y ∈ _
    rcases Int.min_def x y ▸ (by split <;> simp : (if x ≤ y then x else y) = x ∨ (if x ≤ y then x else y) = y) with e | e <;> rw [e] <;> assumption
  · show max x y ∈ _
    rcases Int.max_def x y ▸ (by split <;> simp : (if x ≤ y then y else x) = x ∨ (if x ≤ y then y else x) = y) with e | e <;> rw [e] <;> assumption
  · show min x y < max x y
    omega
  · rw [numsR_snoc]
    exact numStep_perm' h.perm hxy
  · rw [List.nodup_append]
    refine ⟨(List.nodup_append.1 hn).1, by simp, fun a ha b hb e => ?_⟩
    simp at hb; subst hb; subst e
    have := (h.lt _ (List.mem_append_left _ ha)).2
    omega
  · rw [List.length_append, List.length_singleton]
    rcases List.mem_append.1 hz with hz | hz
    · have := h.lt z (List.mem_append_left _ hz); push_cast; omega
    · simp at hz; subst hz; push_cast; omega
  · have := h.len
    simp at this ⊢; omega
theorem Making.done {m : Nat} {os : List (Int × Int)} {M : List Int} (h : Making m os M) (h1 : M.length ≤ 1) : os.length = m - 1 := by
  have := h.len
  by_cases e : m = 0
  · omega
  · rcases Nat.lt_or_ge M.length 1 with h0 | h0
    · have hM : M = [] := List.length_eq_zero_iff.1 (by omega)
      have hp := h.perm.length_eq
      exfalso
      subst hM
      have hm : os.length = m := by simpa using this
      -- as many steps as tensors: the last step leaves one number
      obtain ⟨r, s, rfl⟩ : ∃ r s, os = r ++ [s] := by
        rcases List.eq_nil_or_concat os with h | ⟨r, s, h⟩
        · subst h; simp at hm; omega
        · exact ⟨r, s, by simpa using h⟩
      rw [numsR_snoc] at hp
      unfold numStep at hp
      simp at hp
    · omega
end Go.Proofs.Ytpegckmagiaggaa
