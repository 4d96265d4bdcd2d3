/- Texts of one kind, merged by program. -/
import Derived.Test.YtpegckmagiaggaaKNetSW
import Derived.Test.YtpegckmagiaggaaKFinW
import Derived.Test.YtpegckmagiaggaaKElimW
/- follow of an order's state; slices of steps. -/
set_option linter.unusedSimpArgs false
set_option linter.unusedVariables false
namespace Go.Proofs.Ytpegckmagiaggaa
open Go.RowKit
def cellsP (c : Int × Int) : List Value := [.int .i64 c.1, .int .i64 c.2]
theorem cellsP_len (cs : List (Int × Int)) : (cs.flatMap cellsP).length = cs.length * 2 := by
  induction cs with
  | nil => rfl
  | cons x l ih => rw [List.flatMap_cons, List.length_append, ih, List.length_cons]; simp [cellsP]; omega
theorem cellsP_get {cs : List (Int × Int)} {i : Nat} {c : Int × Int} (h : cs[i]? = some c) : (cs.flatMap cellsP)[2 * i]? = some (.int .i64 c.1) ∧ (cs.flatMap cellsP)[2 * i + 1]? = some (.int .i64 c.2) := by
  induction cs generalizing i with
  | nil => simp at h
  | cons x l ih =>
    cases i with
    | zero => simp at h; subst h; exact ⟨rfl, rfl⟩
    | succ i =>
      have h2 := ih (i := i) (by simpa using h)
      have e1 : 2 * (i + 1) = 2 * i + 1 + 1 := by omega
      rw [List.flatMap_cons, e1]
      exact h2
structure StepsS (w : World) (v : Value) (os : List (Int × Int)) : Prop where
  row : Row w 2 v os.length (os.flatMap cellsP)
theorem StepsS.val {w : World} {v : Value} {os : List (Int × Int)} (h : StepsS w v os) : ∃ a cap, v = .slice a os.length cap ∧ os.length ≤ cap ∧ cap ≤ 9223372036854775807 := by
  obtain ⟨a, cap, hv, h1, h2, _⟩ := h.row.val
  exact ⟨a, cap, hv, h1, h2⟩
theorem StepsS.get {w : World} {a : Option Addr} {n cap : Nat} {os : List (Int × Int)} (h : StepsS w (.slice a n cap) os) {i : Nat} (hi : i < os.length) :
    ∃ b o x y, a = some ⟨b, o, none⟩ ∧ os[i]? = some (x, y) ∧ w.cell? ⟨b, o + i * 2, none⟩ = some (.int .i64 x) ∧ w.cell? ⟨b, o + i * 2 + 1, none⟩ = some (.int .i64 y) := by
  obtain ⟨a', cap', hv, _, _, h3⟩ := h.row.val
  cases hv
  obtain ⟨b, o, ha, hc⟩ := h3 (by rw [cellsP_len]; omega)
  have e1 := List.getElem?_eq_getElem hi
  obtain ⟨g1, g2⟩ := cellsP_get e1
  have c1 := hc _ _ g1
  have c2 := hc _ _ g2
  rw [Nat.mul_comm] at c1
  rw [Nat.mul_comm, ← Nat.add_assoc] at c2
  exact ⟨b, o, _, _, ha, e1, c1, c2⟩
section
variable {k p n : Int} (hr : ringOk k p n = true)
variable {dm : Int → Int} {U : List Int}
theorem sums_sum {a keep : List Int} {xs : List (El k p n)} (ha : IsT k p n dm U a xs) : Sums1 k p n hr dm (keepL a keep) (sumXs hr dm a keep xs) [(a, xs)] keep := by
  have hocc : ∀ x, x ∈ occ [(a, xs)] ↔ x ∈ a := fun x => by rw [show occ [(a, xs)] = a ++ [] from rfl, List.append_nil]
  refine ⟨fun x => by rw [mem_keepL, hocc], fun τ hf => ?_⟩
  have hp : a.Perm (ascL (occ [(a, xs)])) := by
    refine (List.perm_ext_iff_of_nodup ha.sub.nodup (ascL_nodup _)).2 fun x => ?_
    rw [mem_ascL, hocc]
    exact ⟨fun h => ⟨ha.uni.labs (ha.sub.sub x h), h⟩, fun h => h.2⟩
  rw [show sumXs hr dm a keep xs = tab (axs dm (keepL a keep)) (contrF (rig hr) dm a keep (valT hr dm a xs)) σ0 from rfl, valT_tab hr (contrF_dep (rig hr) (valT_dep hr dm a xs)) hf]
  unfold netG
  rw [contrF_perm (rig hr) ha.sub hp]
  refine sumA_ext (rig hr) _ _ fun υ => ?_
  rw [netF_cons, netF_nil, (rig hr).mul_one]
theorem fin_sums {L op K : List Int} {ys : List (El k p n)} {ts : List (NT k p n)} (hI : IsT k p n dm U L ys) (so : Sub U op) (hs : Sums1 k p n hr dm L ys ts K) (h1 : ∀ x ∈ occ ts, x ∈ U) (hK : ∀ x ∈ occ ts, x ∈ K) (ho : ∀ x ∈ op, x ∈ L) : finXs hr dm L op ys = netXs hr dm ts op := by
  have h := Sums1.trans hr (t2 := []) (sums_sum hr hI (keep := op)) hs (fun x hx => hI.uni.labs (h1 x hx)) (fun x hx hn => absurd (hK x hx) hn) (fun x hx => by simp [occ] at hx)
  rw [List.append_nil] at h
  refine Sums1.done hr hI.uni so h ((List.perm_ext_iff_of_nodup (hI.sub.keep op).nodup so.nodup).2 fun x => ?_)
  rw [mem_keepL]
  exact ⟨fun h => h.2, fun h => ⟨ho x h, h⟩⟩
def joinT (dm : Int → Int) (a t : NT k p n) : NT k p n := (joinL a.1 t.1, contrXs hr dm a.1 t.1 (joinL a.1 t.1) a.2 t.2)
theorem joinT_isT {a t : NT k p n} (ha : IsT k p n dm U a.1 a.2) (ht : IsT k p n dm U t.1 t.2) : IsT k p n dm U (joinT hr dm a t).1 (joinT hr dm a t).2 := by
  have h := contr_isT hr ha ht (joinL a.1 t.1)
  rw [keepL_all (fun x hx => hx)] at h
  exact h
theorem join_sums {a t : NT k p n} {ts : List (NT k p n)} (ha : IsT k p n dm U a.1 a.2) (ht : IsT k p n dm U t.1 t.2) (hs : Sums1 k p n hr dm a.1 a.2 ts U) (h1 : ∀ x ∈ occ ts, x ∈ U) : Sums1 k p n hr dm (joinT hr dm a t).1 (joinT hr dm a t).2 (ts ++ [t]) U := by
  have hc := sums_contr hr ha ht (keep := joinL a.1 t.1)
  rw [keepL_all (fun x hx => hx)] at hc
  have hoc : ∀ x ∈ occ [(a.1, a.2), (t.1, t.2)], x ∈ joinL a.1 t.1 := fun x hx => by
    rw [show occ [(a.1, a.2), (t.1, t.2)] = a.1 ++ (t.1 ++ []) from rfl, List.append_nil, List.mem_append] at hx
    rw [mem_joinL]; exact hx
  have hc2 : Sums1 k p n hr dm (joinT hr dm a t).1 (joinT hr dm a t).2 ((a.1, a.2) :: [(t.1, t.2)]) U := Sums1.keep hr hc fun x hx => ⟨fun h => (ha.sub.join ht.sub).sub x h, fun _ => hoc x hx⟩
  refine Sums1.trans hr hc2 hs (fun x hx => ha.uni.labs (h1 x hx)) (fun x hx hn => absurd (h1 x hx) hn) fun x hx => ?_
  rw [show occ [(t.1, t.2)] = t.1 ++ [] from rfl, List.append_nil] at hx
  exact ha.uni.labs (ht.sub.sub x hx)
theorem ascL_nil : ascL [] = [] := by unfold ascL; simp [hasL]
theorem sums_nil (dm : Int → Int) (U : List Int) : Sums1 k p n hr dm [] [(rig hr).one] [] U := by
  refine ⟨fun x => by simp [occ], fun τ _ => ?_⟩
  unfold netG contrF
  rw [show occ ([] : List (NT k p n)) = [] from rfl, ascL_nil]
  rfl
def joinAllT (dm : Int → Int) (ts : List (NT k p n)) : NT k p n := ts.foldl (joinT hr dm) ([], [(rig hr).one])
theorem joinAllT_go (u : Uni dm U) : ∀ (ts a : List (NT k p n)), (∀ t ∈ ts, IsT k p n dm U t.1 t.2) → (∀ t ∈ a, IsT k p n dm U t.1 t.2) → ∀ x : NT k p n, IsT k p n dm U x.1 x.2 → Sums1 k p n hr dm x.1 x.2 a U →
    IsT k p n dm U (ts.foldl (joinT hr dm) x).1 (ts.foldl (joinT hr dm) x).2 ∧ Sums1 k p n hr dm (ts.foldl (joinT hr dm) x).1 (ts.foldl (joinT hr dm) x).2 (a ++ ts) U
  | [], a, _, _, x, h1, h2 => by rw [List.append_nil]; exact ⟨h1, h2⟩
  | t :: ts, a, h, ha, x, h1, h2 => by
    have ht := h t (by simp)
    have h3 := joinAllT_go u ts (a ++ [t]) (fun s hs => h s (by simp [hs])) (fun s hs => by
      rcases List.mem_append.1 hs with hs | hs
      · exact ha s hs
      · simp at hs; subst hs; exact ht) (joinT hr dm x t) (joinT_isT hr h1 ht) (join_sums hr h1 ht h2 fun y hy => by
        obtain ⟨s, hs, hy⟩ := mem_occ.1 hy
        exact (ha s hs).sub.sub y hy)
    rw [List.append_assoc] at h3
    exact h3
theorem joinAllT_ok (u : Uni dm U) (ts : List (NT k p n)) (h : ∀ t ∈ ts, IsT k p n dm U t.1 t.2) : IsT k p n dm U (joinAllT hr dm ts).1 (joinAllT hr dm ts).2 ∧ Sums1 k p n hr dm (joinAllT hr dm ts).1 (joinAllT hr dm ts).2 ts U :=
  joinAllT_go hr u ts [] h (fun t ht => by cases ht) ([], [(rig hr).one]) (one_isT hr u) (sums_nil hr dm U)
theorem joinAllT_lab (u : Uni dm U) {ts : List (NT k p n)} (h : ∀ t ∈ ts, IsT k p n dm U t.1 t.2) {x : Int} (hx : x ∈ occ ts) : x ∈ (joinAllT hr dm ts).1 := by
  rw [(joinAllT_ok hr u ts h).2.lab]
  obtain ⟨y, hy, hx2⟩ := mem_occ.1 hx
  exact ⟨hx, (h y hy).sub.sub x hx2⟩
theorem fin_all {ts : List (NT k p n)} {op : List Int} (h : IsN k p n dm U ts op) : finXs hr dm (joinAllT hr dm ts).1 op (joinAllT hr dm ts).2 = netXs hr dm ts op := by
  obtain ⟨h1, h2⟩ := joinAllT_ok hr h.uni ts h.ten
  exact fin_sums hr h1 h.sub h2 (fun x hx => h.occU hx) (fun x hx => h.occU hx) fun x hx => joinAllT_lab hr h.uni h.ten (h.occ x hx)
end
section
variable {k p n : Int} (hr : ringOk k p n = true)
variable {dm : Int → Int} {U : List Int} {ts : List (NT k p n)} {op : List Int}
def joinA (dm : Int → Int) : List (NT k p n) → NT k p n
  | [] => ([], [])
  | b :: l => l.foldl (joinT hr dm) b
theorem joinA_snoc (dm : Int → Int) (b : NT k p n) (l : List (NT k p n)) (t : NT k p n) : joinA hr dm (b :: (l ++ [t])) = joinT hr dm (joinA hr dm (b :: l)) t := by
  show (l ++ [t]).foldl (joinT hr dm) b = joinT hr dm (l.foldl (joinT hr dm) b) t; rw [List.foldl_append]; rfl
theorem joinA_ok (u : Uni dm U) {b : NT k p n} {l : List (NT k p n)} (h : ∀ t ∈ b :: l, IsT k p n dm U t.1 t.2) : IsT k p n dm U (joinA hr dm (b :: l)).1 (joinA hr dm (b :: l)).2 ∧ Sums1 k p n hr dm (joinA hr dm (b :: l)).1 (joinA hr dm (b :: l)).2 (b :: l) U := by
  have hb := h b (by simp)
  have h1 := joinAllT_go hr u l [b] (fun t ht => h t (by simp [ht])) (fun t ht => by simp at ht; subst ht; exact hb) b hb (Sums1.one hr (K := U) hb.sub.sub)
  exact h1
def bucketT (ts : List (NT k p n)) (x : Int) : List (NT k p n) := ts.filter fun t => hasL t.1 x
def leftT (ts : List (NT k p n)) (x : Int) : List (NT k p n) := ts.filter fun t => !hasL t.1 x
def sumO (dm : Int → Int) (t : NT k p n) (x : Int) : NT k p n := (keepL t.1 (cutL t.1 x), sumXs hr dm t.1 (cutL t.1 x) t.2)
def elimT (dm : Int → Int) (ts : List (NT k p n)) (x : Int) : List (NT k p n) := leftT ts x ++ [sumO hr dm (joinA hr dm (bucketT ts x)) x]
theorem split_perm (ts : List (NT k p n)) (x : Int) : ts.Perm (bucketT ts x ++ leftT ts x) := (List.filter_append_perm _ ts).symm
theorem keep_cut (l : List Int) (x : Int) : keepL l (cutL l x) = cutL l x := by
  unfold keepL cutL
  apply List.filter_congr
  intro y hy
  rw [Bool.eq_iff_iff, hasL_iff, List.mem_filter]
  exact ⟨fun h => h.2, fun h => ⟨hy, h⟩⟩
theorem mem_cutL' {l : List Int} {x y : Int} : y ∈ cutL l x ↔ y ∈ l ∧ y ≠ x := by
  unfold cutL
  rw [List.mem_filter]
  simp
theorem elim_ok (h : IsN k p n dm U ts op) {x : Int} (hx : x ∈ occ ts) (hxo : x ∉ op) : IsN k p n dm U (elimT hr dm ts x) op ∧ netXs hr dm (elimT hr dm ts x) op = netXs hr dm ts op ∧ (∀ y, y ∈ occ ts → y ≠ x → y ∈ occ (elimT hr dm ts x)) := by
  obtain ⟨t0, ht0, hxt⟩ := mem_occ.1 hx
  have hb0 : t0 ∈ bucketT ts x := List.mem_filter.2 ⟨ht0, (hasL_iff _ _).2 hxt⟩
  obtain ⟨b, l, hbl⟩ : ∃ b l, bucketT ts x = b :: l := by
    rcases hq : bucketT ts x with _ | ⟨b, l⟩
    · rw [hq] at hb0; cases hb0
    · exact ⟨b, l, rfl⟩
  have hbt : ∀ t ∈ b :: l, IsT k p n dm U t.1 t.2 := fun t ht => h.ten t (List.mem_filter.1 (hbl ▸ ht : t ∈ bucketT ts x)).1
  have hlt : ∀ t ∈ leftT ts x, IsT k p n dm U t.1 t.2 := fun t ht => h.ten t (List.mem_filter.1 ht).1
  obtain ⟨hJ, hS⟩ := joinA_ok hr h.uni hbt
  obtain ⟨⟨L, ys⟩, hq⟩ : ∃ q, joinA hr dm (b :: l) = q := ⟨_, rfl⟩
  rw [hq] at hJ hS
  have hp := split_perm ts x
  rw [hbl] at hp
  have hoU : ∀ y ∈ occ (b :: l), y ∈ U := fun y hy => by obtain ⟨t, ht, hy⟩ := mem_occ.1 hy; exact (hbt t ht).sub.sub y hy
  have hLm : ∀ y, y ∈ L ↔ y ∈ occ (b :: l) := fun y => by rw [hS.lab]; exact ⟨fun h => h.1, fun hy => ⟨hy, hoU y hy⟩⟩
  have hlU : ∀ y ∈ occ (leftT ts x), y ∈ U := fun y hy => by obtain ⟨t, ht, hy⟩ := mem_occ.1 hy; exact (hlt t ht).sub.sub y hy
  have hxl : x ∉ occ (leftT ts x) := fun hy => by
    obtain ⟨t, ht, hy⟩ := mem_occ.1 hy
    have := (List.mem_filter.1 ht).2
    rw [(hasL_iff _ _).2 hy] at this; simp at this
  have e : elimT hr dm ts x = leftT ts x ++ [(keepL L (cutL L x), sumXs hr dm L (cutL L x) ys)] := by unfold elimT sumO; rw [hbl, hq]
  have hSO : Sums1 k p n hr dm (keepL L (cutL L x)) (sumXs hr dm L (cutL L x) ys) (b :: l) (cutL L x) := by
    have h1 := Sums1.trans hr (t2 := []) (sums_sum hr hJ (keep := cutL L x)) hS (fun y hy => h.uni.labs (hoU y hy)) (fun y hy hn => absurd (hoU y hy) hn) (fun y hy => by simp [occ] at hy)
    rwa [List.append_nil] at h1
  have hin : ∀ y, y ∈ occ ts → y ≠ x → y ∈ occ (elimT hr dm ts x) := fun y hy hne => by
    rw [e, occ_snoc, List.mem_append]
    obtain ⟨t, ht, hyt⟩ := mem_occ.1 hy
    rcases List.mem_append.1 (hp.mem_iff.1 ht) with hb | hl
    · right
      rw [keep_cut, mem_cutL', hLm]
      exact ⟨mem_occ.2 ⟨t, hb, hyt⟩, hne⟩
    · exact .inl (mem_occ.2 ⟨t, hl, hyt⟩)
  refine ⟨⟨h.uni, fun t ht => ?_, h.sub, fun y hy => hin y (h.occ y hy) fun e => hxo (e ▸ hy), ?_⟩, ?_, hin⟩
  · rw [e] at ht
    rcases List.mem_append.1 ht with ht | ht
    · exact hlt t ht
    · simp at ht; subst ht; exact sum_isT hr hJ _
  · rw [e, List.length_append, List.length_singleton]
    have h1 := hp.length_eq
    rw [List.length_append, List.length_cons] at h1
    have := h.len
    omega
  · have e1 : netXs hr dm ts op = netXs hr dm ((b :: l) ++ leftT ts x) op := by
      unfold netXs
      exact congrArg (fun F => tab (axs dm op) F σ0) (funext fun τ => netG_perm hr hp op τ)
    have e2 : netXs hr dm (elimT hr dm ts x) op = netXs hr dm ((keepL L (cutL L x), sumXs hr dm L (cutL L x) ys) :: leftT ts x) op := by
      rw [e]
      unfold netXs
      exact congrArg (fun F => tab (axs dm op) F σ0) (funext fun τ => netG_perm hr List.perm_append_comm op τ)
    rw [e1, e2]
    refine net_stepXs hr h.uni h.sub hoU hSO (fun y hy hn => ?_) hlU
    have hyx : y = x := Classical.byContradiction fun hne => hn (mem_cutL'.2 ⟨(hLm y).2 hy, hne⟩)
    subst hyx
    exact ⟨hxo, hxl⟩
def elimTs (dm : Int → Int) (ts : List (NT k p n)) (l : List Int) : List (NT k p n) := l.foldl (elimT hr dm) ts
theorem elimTs_snoc (dm : Int → Int) (ts : List (NT k p n)) (l : List Int) (x : Int) : elimTs hr dm ts (l ++ [x]) = elimT hr dm (elimTs hr dm ts l) x := by unfold elimTs; rw [List.foldl_append]; rfl
theorem elimTs_ok (h : IsN k p n dm U ts op) : ∀ (l r : List Int), (l ++ r).Nodup → (∀ x ∈ l ++ r, x ∈ occ ts ∧ x ∉ op) → IsN k p n dm U (elimTs hr dm ts l) op ∧ netXs hr dm (elimTs hr dm ts l) op = netXs hr dm ts op ∧ ∀ x ∈ r, x ∈ occ (elimTs hr dm ts l) := by
  intro l
  generalize hm : l.length = m
  induction m generalizing l with
  | zero =>
    intro r _ hx
    have : l = [] := List.length_eq_zero_iff.1 hm
    subst this
    exact ⟨h, rfl, fun x hxr => (hx x hxr).1⟩
  | succ m ih =>
    intro r hn hx
    obtain ⟨l0, y, rfl⟩ : ∃ l0 y, l = l0 ++ [y] := by
      rcases List.eq_nil_or_concat l with h0 | ⟨a, b, h0⟩
      · subst h0; simp at hm
      · exact ⟨a, b, by simpa using h0⟩
    have e : l0 ++ [y] ++ r = l0 ++ (y :: r) := by simp
    rw [e] at hn hx
    obtain ⟨i1, i2, i3⟩ := ih l0 (by simp at hm; exact hm) (y :: r) hn hx
    have hyo := (hx y (by simp)).2
    obtain ⟨j1, j2, j3⟩ := elim_ok hr i1 (i3 y (by simp)) hyo
    rw [elimTs_snoc]
    refine ⟨j1, j2.trans i2, fun x hxr => j3 x (i3 x (by simp [hxr])) fun exy => ?_⟩
    subst exy
    have := (List.nodup_append.1 hn).2.1
    rw [List.nodup_cons] at this
    exact this.1 hxr
end
section
variable {ex : Option Nat} {a w w' : World} {L : List Asn} {k : Nat}
theorem run_pushR3 (ty : TypeId) {v src x y z : Value} {n : Nat} {xs : List Value} (h : HeldX ex a w L) (h1 : L[k]? = some (aR 32 3 v n xs)) (hr : Row w 3 src 1 [x, y, z]) (hx : x.oneCell' = true) (hy : y.oneCell' = true) (hz' : z.oneCell' = true) (hb : n + 1 ≤ 1099511627) :
    ∃ v' w', (Builtin.append_ #[26, 26] ty #[v, src]).run Try.prog w = .ok v' w' ∧ HeldX ex a w' (L.set k (aR 32 3 v' (n + 1) (xs ++ [x, y, z]))) ∧ w.grownBy w' v.ownBlock ∧ Row w' 3 v' (n + 1) (xs ++ [x, y, z]) := by
  have ho : w.ownsRow 0 32 3 v n xs := h.get h1
  obtain ⟨i, hi, hzz⟩ := Option.map_eq_some_iff.1 Try.infoTensor
  simp only [Prod.mk.injEq] at hzz
  obtain ⟨hz, hsz, hby⟩ := hzz
  obtain ⟨v', w', e1, e2, e3, e4⟩ := run_app (P := Try.prog) w 0 26 ty 32 i _ 3 72 Try.underlying26 hi hz hsz hby rfl (by omega) v _ _ ho src 1 _ hr (by intro u hu; simp at hu; rcases hu with rfl | rfl | rfl; exact hx; exact hy; exact hz') (by unfold maxLen; omega) (by omega) (Nat.zero_le _)
  refine ⟨v', w', e1, h.turn h1 e3 (fun b hb => by simp [aR, hb]) e2 fun c hc => ?_, e3, ownsRow_row e2⟩
  rcases e4 with e4 | e4
  · left; have hc' : c ∈ v'.ownBlock.toList := hc; rw [e4] at hc'; exact hc'
  · right; have hc' : c ∈ v'.ownBlock.toList := hc; rw [e4] at hc'; simp at hc'; omega
end
structure RowT (w : World) (CS cs : List (Value × Value × Value)) (ts : List Ten3) : Prop where
  len : cs.length = ts.length
  elem : ∀ (i : Nat) (c : Value × Value × Value) (t : Ten3), cs[i]? = some c → ts[i]? = some t → OwnI w 0 c.1 t.1 ∧ OwnI w 0 c.2.1 t.2.1 ∧ OwnI w 0 c.2.2 t.2.2
  mem : ∀ c ∈ cs, c ∈ CS
theorem RowT.snoc {w : World} {CS cs : List (Value × Value × Value)} {ts : List Ten3} {c : Value × Value × Value} {t : Ten3} (h : RowT w CS cs ts) (ho : OwnI w 0 c.1 t.1 ∧ OwnI w 0 c.2.1 t.2.1 ∧ OwnI w 0 c.2.2 t.2.2) (hm : c ∈ CS) : RowT w CS (cs ++ [c]) (ts ++ [t]) := by
  have hl := h.len
  refine ⟨by simp [hl], fun i x m hx hy => ?_, fun x hx => ?_⟩
  · rcases Nat.lt_or_ge i ts.length with hi | hi
    · rw [List.getElem?_append_left (by omega)] at hx
      rw [List.getElem?_append_left hi] at hy
      exact h.elem i x m hx hy
    · rw [List.getElem?_append_right (by omega)] at hx
      rw [List.getElem?_append_right hi] at hy
      have e0 : i - ts.length = 0 := by have := (List.getElem?_eq_some_iff.1 hy).1; simp at this; omega
      rw [e0] at hy
      rw [show i - cs.length = 0 by omega] at hx
      simp at hx hy
      subst hx hy
      exact ho
  · rcases List.mem_append.1 hx with hx | hx
    · exact h.mem x hx
    · simp at hx; subst hx; exact hm
theorem RowT.tensS {w : World} {CS cs : List (Value × Value × Value)} {ts : List Ten3} {v : Value} (h : RowT w CS cs ts) (hr : Row w 3 v ts.length (cs.flatMap cells3)) : TensS w v ts :=
  ⟨cs, h.len, hr, fun i c t hc ht => by obtain ⟨h1, h2, h3⟩ := h.elem i c t hc ht; exact ⟨h1.ints, h2.ints, h3.ints⟩⟩
structure Pick {α β : Type} (cs : List α) (ts : List β) (cs' : List α) (ts' : List β) : Prop where
  len : cs'.length = ts'.length
  at_ : ∀ (i : Nat) (c : α) (t : β), cs'[i]? = some c → ts'[i]? = some t → ∃ q : Nat, cs[q]? = some c ∧ ts[q]? = some t
theorem Pick.nil {α β : Type} (cs : List α) (ts : List β) : Pick cs ts [] [] := ⟨rfl, fun i c t h => by simp at h⟩
theorem Pick.snoc {α β : Type} {cs : List α} {ts : List β} {cs' : List α} {ts' : List β} {c : α} {t : β} (h : Pick cs ts cs' ts') {q : Nat} (hc : cs[q]? = some c) (ht : ts[q]? = some t) : Pick cs ts (cs' ++ [c]) (ts' ++ [t]) := by
  have hl := h.len
  refine ⟨by simp [hl], fun i x m hx hy => ?_⟩
  rcases Nat.lt_or_ge i ts'.length with hi | hi
  · rw [List.getElem?_append_left (by omega)] at hx
    rw [List.getElem?_append_left hi] at hy
    exact h.at_ i x m hx hy
  · rw [List.getElem?_append_right (by omega)] at hx
    rw [List.getElem?_append_right hi] at hy
    have e0 : i - ts'.length = 0 := by have := (List.getElem?_eq_some_iff.1 hy).1; simp at this; omega
    rw [e0] at hy
    rw [show i - cs'.length = 0 by omega] at hx
    simp at hx hy
    subst hx hy
    exact ⟨q, hc, ht⟩
theorem Pick.rowT {w : World} {v : Value} {cs cs' : List (Value × Value × Value)} {ts ts' : List Ten3} (p : Pick cs ts cs' ts') (h : OwnTs w v cs ts) : RowT w cs cs' ts' := by
  refine ⟨p.len, fun i c t hc ht => ?_, fun c hc => ?_⟩
  · obtain ⟨q, a, b⟩ := p.at_ i c t hc ht
    exact h.elem q c t a b
  · obtain ⟨i, hi⟩ := List.getElem?_of_mem hc
    have hlt : i < ts'.length := by rw [← p.len]; exact (List.getElem?_eq_some_iff.1 hi).1
    obtain ⟨q, a, _⟩ := p.at_ i c ts'[i] hi (List.getElem?_eq_getElem hlt)
    exact List.mem_of_getElem? a
section
variable {ex : Option Nat} {a w w' : World} {L : List Asn} {k1 k2 : Nat}
theorem HeldX.regrow {v v2 : Value} {CS cs : List (Value × Value × Value)} {TS ts : List Ten3} {n : Nat} (h : HeldX ex a w L) (h1 : L[k1]? = some (aTs v CS TS)) (h2 : L[k2]? = some (aR 32 3 v2 n (cs.flatMap cells3))) (hne : k1 ≠ k2) (hn : n = ts.length) (hR : RowT w CS cs ts) : HeldX ex a w ((L.set k2 emp).set k1 (aTs v2 cs ts)) := by
  subst hn
  refine h.merge h1 h2 hne (ob := none) ((Ext.refl w).gr none) (fun b hb => by cases hb) ⟨hR.len, h.get h2, hR.elem⟩ fun b hb => ?_
  rcases List.mem_append.1 hb with hb | hb
  · exact .inr (.inl hb)
  · obtain ⟨c, hc, hb⟩ := List.mem_flatMap.1 hb
    exact .inl (List.mem_append_right _ (List.mem_flatMap.2 ⟨c, hR.mem c hc, hb⟩))
end
def lenV : Value → Nat
  | .slice _ n _ => n
  | _ => 0
end Go.Proofs.Ytpegckmagiaggaa
