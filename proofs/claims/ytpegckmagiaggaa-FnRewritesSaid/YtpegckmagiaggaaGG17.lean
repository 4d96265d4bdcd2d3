/- Texts of one kind, merged by program. -/
import Derived.Test.YtpegckmagiaggaaGNetSW
import Derived.Test.YtpegckmagiaggaaGCopyN
import Derived.Test.YtpegckmagiaggaaGFinW
/- Orders of contraction, plain: the tensors after the first steps of a valid order. No program in sight. -/
set_option linter.unusedSimpArgs false
set_option linter.unusedVariables false
namespace Go.Proofs.Ytpegckmagiaggaa
open Go.RowKit
section
variable {k p n : Int} (hr : ringOk k p n = true)
variable {dm : Int → Int} {U : List Int} {op : List Int}
def tenStep (dm : Int → Int) (op : List Int) (ns : List Int) (ts : List (NT k p n)) (s : Int × Int) : List (NT k p n) := stepN hr dm op ts (findL ns s.1).toNat (findL ns s.2).toNat
def runN (dm : Int → Int) (op : List Int) : List Int → Int → List (NT k p n) → List (Int × Int) → List Int × List (NT k p n)
  | ns, _, ts, [] => (ns, ts)
  | ns, nx, ts, s :: r => runN dm op (numStep ns nx s) (nx + 1) (tenStep hr dm op ns ts s) r
end
structure AtStep {k p n : Int} (hr : ringOk k p n = true) (dm : Int → Int) (U op : List Int) (ns0 : List Int) (nx0 : Int) (ts : List (NT k p n)) (os : List (Int × Int)) (j : Nat) (ns : List Int) (tj : List (NT k p n)) : Prop where
  eqN : (runN hr dm op ns0 nx0 ts (os.take j)).1 = ns
  eqT : (runN hr dm op ns0 nx0 ts (os.take j)).2 = tj
  isN : IsN k p n dm U tj op
  len : ns.length = tj.length
  left : tj.length + j = ts.length
  val : netXs hr dm tj op = netXs hr dm ts op
section
variable {k p n : Int} {hr : ringOk k p n = true} {dm : Int → Int} {U op ns0 : List Int} {nx0 : Int} {ts : List (NT k p n)} {os : List (Int × Int)}
theorem AtStep.rank {j : Nat} {ns : List Int} {tj : List (NT k p n)} (h : AtStep hr dm U op ns0 nx0 ts os j ns tj) : ∀ l ∈ tj.map (·.1), l.length ≤ 12 := by
  intro l hl
  obtain ⟨t, ht, rfl⟩ := List.mem_map.1 hl
  exact (h.isN.ten t ht).ax.rank
end
def cells2 (c : Int × Value) : List Value := [.int .i64 c.1, c.2]
structure LiveR (w : World) (s : Nat) (v : Value) (cs : List (Int × Value)) (ls : List (List Int)) : Prop where
  len : cs.length = ls.length
  row : Row w 2 v ls.length (cs.flatMap cells2)
  elem : ∀ (i : Nat) (c : Int × Value) (l : List Int), cs[i]? = some c → ls[i]? = some l → IntS w c.2 l
  off : 0 < ls.length → v.ownBlock ≠ some s
  offs : ∀ (i : Nat) (c : Int × Value) (l : List Int), cs[i]? = some c → ls[i]? = some l → 0 < l.length → c.2.ownBlock ≠ some s
theorem LiveR.val {w : World} {s : Nat} {v : Value} {cs : List (Int × Value)} {ls : List (List Int)} (h : LiveR w s v cs ls) : ∃ a cap, v = .slice a ls.length cap ∧ ls.length ≤ cap ∧ cap ≤ 9223372036854775807 := by
  obtain ⟨a, cap, hv, h1, h2, _⟩ := h.row.val
  exact ⟨a, cap, hv, h1, h2⟩
theorem LiveR.at {w w' : World} {s z : Nat} {v : Value} {cs : List (Int × Value)} {ls : List (List Int)} (h : LiveR w' z v cs ls) (h2 : LiveR w s v cs ls) : LiveR w' s v cs ls := ⟨h.len, h.row, h.elem, h2.off, h2.offs⟩
def cellsP (c : Int × Int) : List Value := [.int .i64 c.1, .int .i64 c.2]
structure StepsS (w : World) (v : Value) (os : List (Int × Int)) : Prop where
  row : Row w 2 v os.length (os.flatMap cellsP)
theorem StepsS.val {w : World} {v : Value} {os : List (Int × Int)} (h : StepsS w v os) : ∃ a cap, v = .slice a os.length cap ∧ os.length ≤ cap ∧ cap ≤ 9223372036854775807 := by
  obtain ⟨a, cap, hv, h1, h2, _⟩ := h.row.val
  exact ⟨a, cap, hv, h1, h2⟩
section
variable {k p n : Int} (hr : ringOk k p n = true)
variable {dm : Int → Int} {U : List Int}
theorem sums_sum {a keep : List Int} {xs : List (El k p n)} (ha : IsT k p n dm U a xs) : Sums1 k p n hr dm (keepL a keep) (sumXs hr dm a keep xs) [(a, xs)] keep := by
  have hocc : ∀ x, x ∈ occ [(a, xs)] ↔ x ∈ a := fun x => by rw [show occ [(a, xs)] = a ++ [] from rfl, List.append_nil]
  refine ⟨fun x => by rw [mem_keepL, hocc], fun τ hf => ?_⟩
  have hp : a.Perm (ascL (occ [(a, xs)])) := by
    refine (List.perm_ext_iff_of_nodup ha.sub.nodup (ascL_nodup _)).2 fun x => ?_
    rw [mem_ascL, hocc]
    exact ⟨fun h => ⟨ha.uni.labs (ha.sub.sub x h), h⟩, fun h => h.2⟩
  rw [show sumXs hr dm a keep xs = tab (axs dm (keepL a keep)) (contrF (rig hr) dm a keep (valT hr dm a xs)) σ0 from rfl, valT_tab hr (contrF_dep (rig hr) (valT_dep hr dm a xs)) hf]
  unfold netG
  rw [contrF_perm (rig hr) ha.sub hp]
  refine sumA_ext (rig hr) _ _ fun υ => ?_
  rw [netF_cons, netF_nil, (rig hr).mul_one]
end
section
variable {k p n : Int} (hr : ringOk k p n = true)
variable {dm : Int → Int} {U : List Int} {ts : List (NT k p n)} {op : List Int}
def keepU (dm : Int → Int) (op : List Int) (x : Int) : Bool := decide (1 < dm x) || hasL op x
def dropT (dm : Int → Int) (op : List Int) (t : NT k p n) : NT k p n := (t.1.filter (keepU dm op), t.2)
def dropU (dm : Int → Int) (op : List Int) (ts : List (NT k p n)) : List (NT k p n) := ts.map (dropT dm op)
theorem keepU_no {x : Int} (h : keepU dm op x = false) : ¬ 1 < dm x ∧ x ∉ op := by
  unfold keepU at h
  rw [Bool.or_eq_false_iff] at h
  exact ⟨of_decide_eq_false h.1, hasL_not.1 h.2⟩
theorem off_drop (f : Int → Bool) : ∀ {L : List Int} {σ τ : Int → Int}, (∀ x ∈ L, f x = false → dm x = 1 ∧ σ x = 0) → (∀ x ∈ L, f x = true → σ x = τ x) →
    off (axs dm L) σ = off (axs dm (L.filter f)) τ ∧ size (axs dm L) = size (axs dm (L.filter f))
  | [], _, _, _, _ => ⟨rfl, rfl⟩
  | x :: L, σ, τ, h1, h2 => by
    obtain ⟨a, b⟩ := off_drop f (L := L) (σ := σ) (τ := τ) (fun y hy => h1 y (by simp [hy])) (fun y hy => h2 y (by simp [hy]))
    by_cases e : f x = true
    · rw [List.filter_cons_of_pos e, axs_cons, axs_cons]
      have e2 := h2 x (by simp) e
      refine ⟨?_, ?_⟩
      · show (σ x).toNat * size (axs dm L) + off (axs dm L) σ = (τ x).toNat * size (axs dm (L.filter f)) + off (axs dm (L.filter f)) τ
        rw [a, b, e2]
      · show (dm x).toNat * size (axs dm L) = (dm x).toNat * size (axs dm (L.filter f))
        rw [b]
    · have e' := eq_false_of_ne_true e
      obtain ⟨d1, s0⟩ := h1 x (by simp) e'
      rw [List.filter_cons_of_neg e, axs_cons]
      refine ⟨?_, ?_⟩
      · show (σ x).toNat * size (axs dm L) + off (axs dm L) σ = _
        rw [s0]; simpa using a
      · show (dm x).toNat * size (axs dm L) = _
        rw [d1]; simpa using b
theorem Uni.one (u : Uni dm U) {x : Int} (hx : x ∈ U) (h : ¬ 1 < dm x) : dm x = 1 := by have := (u.dim hx).1; omega
theorem dropT_isT {t : NT k p n} (h : IsT k p n dm U t.1 t.2) (op : List Int) : IsT k p n dm U (dropT dm op t).1 (dropT dm op t).2 :=
  ⟨h.uni, h.sub.filter _, by
    show t.2.length = size (axs dm (t.1.filter (keepU dm op)))
    rw [h.len]
    exact (off_drop (keepU dm op) (σ := fun _ => 0) (τ := fun _ => 0) (fun x hx e => ⟨h.uni.one (h.sub.sub x hx) (keepU_no e).1, rfl⟩) (fun _ _ _ => rfl)).2⟩
theorem mem_occ_drop {x : Int} : x ∈ occ (dropU dm op ts) ↔ x ∈ occ ts ∧ keepU dm op x = true := by
  rw [mem_occ, mem_occ]
  constructor
  · rintro ⟨t, ht, hx⟩
    obtain ⟨s, hs, rfl⟩ := List.mem_map.1 ht
    have := List.mem_filter.1 hx
    exact ⟨⟨s, hs, this.1⟩, this.2⟩
  · rintro ⟨⟨s, hs, hx⟩, e⟩
    exact ⟨dropT dm op s, List.mem_map_of_mem hs, List.mem_filter.2 ⟨hx, e⟩⟩
theorem drop_isN (h : IsN k p n dm U ts op) : IsN k p n dm U (dropU dm op ts) op :=
  ⟨h.uni, fun t ht => by obtain ⟨s, hs, rfl⟩ := List.mem_map.1 ht; exact dropT_isT (h.ten s hs) op, h.sub, fun x hx => mem_occ_drop.2 ⟨h.occ x hx, by unfold keepU; rw [(hasL_iff _ _).2 hx, Bool.or_true]⟩, by unfold dropU; rw [List.length_map]; exact h.len⟩
theorem netF_drop {σ τ : Int → Int} : ∀ {ts : List (NT k p n)}, (∀ t ∈ ts, IsT k p n dm U t.1 t.2) → (∀ x ∈ occ ts, keepU dm op x = false → σ x = 0) → (∀ x ∈ occ ts, keepU dm op x = true → σ x = τ x) → netF hr dm ts σ = netF hr dm (dropU dm op ts) τ
  | [], _, _, _ => rfl
  | t :: ts, hT, h1, h2 => by
    have ht := hT t (by simp)
    have hin : ∀ {x : Int}, x ∈ t.1 → x ∈ occ (t :: ts) := fun hx => mem_occ.2 ⟨t, by simp, hx⟩
    have e1 : valT hr dm t.1 t.2 σ = valT hr dm (dropT dm op t).1 (dropT dm op t).2 τ := by
      unfold valT
      rw [(off_drop (dm := dm) (keepU dm op) (L := t.1) (σ := σ) (τ := τ) (fun x hx e => ⟨ht.uni.one (ht.sub.sub x hx) (keepU_no e).1, h1 x (hin hx) e⟩) (fun x hx e => h2 x (hin hx) e)).1]; rfl
    have e2 := netF_drop (σ := σ) (τ := τ) (ts := ts) (fun s hs => hT s (by simp [hs])) (fun x hx => h1 x (by obtain ⟨s, hs, hx⟩ := mem_occ.1 hx; exact mem_occ.2 ⟨s, by simp [hs], hx⟩)) (fun x hx => h2 x (by obtain ⟨s, hs, hx⟩ := mem_occ.1 hx; exact mem_occ.2 ⟨s, by simp [hs], hx⟩))
    show netF hr dm (t :: ts) σ = netF hr dm (dropT dm op t :: dropU dm op ts) τ
    rw [netF_cons, netF_cons, e1, e2]
theorem sumA_ones (F : (Int → Int) → El k p n) : ∀ {G : List Int}, (∀ x ∈ G, dm x = 1) → G.Nodup → ∀ σ : Int → Int, ∃ τ : Int → Int, sumA (rig hr) (axs dm G) F σ = F τ ∧ (∀ x ∈ G, τ x = 0) ∧ ∀ x, x ∉ G → τ x = σ x
  | [], _, _, σ => ⟨σ, rfl, (fun _ h => (List.not_mem_nil h).elim), (fun _ _ => rfl)⟩
  | y :: G, h, hn, σ => by
    obtain ⟨τ, e, h1, h2⟩ := sumA_ones F (G := G) (fun x hx => h x (by simp [hx])) (List.nodup_cons.1 hn).2 (upd σ y 0)
    refine ⟨τ, ?_, fun x hx => ?_, fun x hx => ?_⟩
    · rw [axs_cons, sumA, h y (by simp), ← e]
      show sumN (rig hr) 1 _ = _
      unfold sumN sumN
      rw [(rig hr).zero_add]; rfl
    · rcases List.mem_cons.1 hx with rfl | hx
      · rw [h2 x (List.nodup_cons.1 hn).1, upd_same]
      · exact h1 x hx
    · simp at hx
      rw [h2 x hx.2, upd_ne _ _ hx.1]
theorem drop_val (h : IsN k p n dm U ts op) : netXs hr dm (dropU dm op ts) op = netXs hr dm ts op := by
  unfold netXs
  refine congrArg (fun F => tab (axs dm op) F σ0) (funext fun σ => ?_)
  unfold netG contrF
  have hp : (goneL (ascL (occ ts)) op).Perm (goneL (ascL (occ (dropU dm op ts))) op ++ (goneL (ascL (occ ts)) op).filter fun x => !keepU dm op x) := by
    refine (List.perm_ext_iff_of_nodup ((ascL_nodup _).filter _) ?_).2 fun x => ?_
    · rw [List.nodup_append]
      refine ⟨(ascL_nodup _).filter _, ((ascL_nodup _).filter _).filter _, fun x hx y hy e => ?_⟩
      subst e
      have a1 := (mem_occ_drop.1 (mem_ascL.1 (mem_goneL.1 hx).1).2).2
      have a2 := (List.mem_filter.1 hy).2
      rw [a1] at a2; simp at a2
    · change x ∈ goneL (ascL (occ ts)) op ↔ x ∈ goneL (ascL (occ (dropU dm op ts))) op ++ (goneL (ascL (occ ts)) op).filter fun x => !keepU dm op x
      rw [List.mem_append, mem_goneL, mem_goneL, List.mem_filter, mem_goneL, mem_ascL, mem_ascL, mem_occ_drop]
      constructor
      · rintro ⟨⟨a1, a2⟩, a3⟩
        by_cases e : keepU dm op x = true
        · exact .inl ⟨⟨a1, a2, e⟩, a3⟩
        · exact .inr ⟨⟨⟨a1, a2⟩, a3⟩, by simp [e]⟩
      · rintro (⟨⟨a1, a2, _⟩, a3⟩ | ⟨⟨⟨a1, a2⟩, a3⟩, _⟩)
        · exact ⟨⟨a1, a2⟩, a3⟩
        · exact ⟨⟨a1, a2⟩, a3⟩
  rw [sumA_perm (rig hr) _ (axs_perm hp) (by rw [labs_axs]; exact (ascL_nodup _).filter _), axs_append, sumA_append]
  refine sumA_ext (rig hr) _ _ fun υ => ?_
  obtain ⟨τ, e, h1, h2⟩ := sumA_ones hr (dm := dm) (netF hr dm ts) (G := (goneL (ascL (occ ts)) op).filter fun x => !keepU dm op x) (fun x hx => by
    have hx2 := List.mem_filter.1 hx
    have hx3 := (mem_ascL.1 (mem_goneL.1 hx2.1).1).2
    exact h.uni.one (h.occU hx3) (keepU_no (by simpa using hx2.2)).1) (((ascL_nodup _).filter _).filter _) υ
  rw [e]
  refine (netF_drop hr h.ten (fun x hx e => h1 x (List.mem_filter.2 ⟨mem_goneL.2 ⟨h.mem_asc.2 hx, (keepU_no e).2⟩, by simp [e]⟩)) (fun x hx e => h2 x fun hm => ?_)).symm
  have := (List.mem_filter.1 hm).2
  rw [e] at this; simp at this
def elsGo (ts : List (NT k p n)) (op : List Int) (i j m : Nat) : List Int := (dropGo ts i j m).foldl (fun acc t => joinL acc t.1) op
def elsL (ts : List (NT k p n)) (op : List Int) (i j : Nat) : List Int := elsGo ts op i j ts.length
theorem foldl_join_mem {x : Int} : ∀ (l : List (NT k p n)) (a : List Int), x ∈ l.foldl (fun acc t => joinL acc t.1) a ↔ x ∈ a ∨ x ∈ occ l
  | [], a => by simp [occ]
  | t :: l, a => by
    rw [List.foldl_cons, foldl_join_mem l, mem_joinL, show occ (t :: l) = t.1 ++ occ l from rfl, List.mem_append, or_assoc]
theorem mem_elsL {i j : Nat} {x : Int} : x ∈ elsL ts op i j ↔ x ∈ op ∨ x ∈ occ (drop2 ts i j) := foldl_join_mem _ _
theorem foldl_join_sub : ∀ (l : List (NT k p n)) (a : List Int), Sub U a → (∀ t ∈ l, IsT k p n dm U t.1 t.2) → Sub U (l.foldl (fun acc t => joinL acc t.1) a)
  | [], _, h, _ => h
  | t :: l, a, h, h2 => foldl_join_sub l _ (h.join (h2 t (by simp)).sub) fun s hs => h2 s (by simp [hs])
theorem els_sub (h : IsN k p n dm U ts op) (i j m : Nat) : Sub U (elsGo ts op i j m) := foldl_join_sub _ _ h.sub fun t ht => by
  obtain ⟨q, _, _, hq⟩ := mem_dropGo.1 ht
  exact h.ten t (List.mem_of_getElem? hq)
def sumT (dm : Int → Int) (ts : List (NT k p n)) (op : List Int) (i : Nat) (t : NT k p n) : NT k p n := (keepL t.1 (elsL ts op i i), sumXs hr dm t.1 (elsL ts op i i) t.2)
def sumG (dm : Int → Int) (ts : List (NT k p n)) (op : List Int) (m : Nat) : List (NT k p n) := (List.range m).filterMap fun q => (ts[q]?).map (sumT hr dm ts op q)
def sumP (dm : Int → Int) (ts : List (NT k p n)) (op : List Int) : List (NT k p n) := sumG hr dm ts op ts.length
theorem sumG_succ {m : Nat} {t : NT k p n} (h : ts[m]? = some t) : sumG hr dm ts op (m + 1) = sumG hr dm ts op m ++ [sumT hr dm ts op m t] := by
  unfold sumG
  rw [List.range_succ, List.filterMap_append]
  simp [h]
theorem sumG_len : ∀ m, m ≤ ts.length → (sumG hr dm ts op m).length = m
  | 0, _ => rfl
  | m + 1, h => by
    rw [sumG_succ hr (List.getElem?_eq_getElem (by omega)), List.length_append, sumG_len m (by omega)]; rfl
theorem sumT_isT (h : IsN k p n dm U ts op) {i : Nat} {t : NT k p n} (ht : ts[i]? = some t) : IsT k p n dm U (sumT hr dm ts op i t).1 (sumT hr dm ts op i t).2 := sum_isT hr (h.ten t (List.mem_of_getElem? ht)) _
theorem sumG_val (h : IsN k p n dm U ts op) : ∀ m, m ≤ ts.length → IsN k p n dm U (sumG hr dm ts op m ++ ts.drop m) op ∧ netXs hr dm (sumG hr dm ts op m ++ ts.drop m) op = netXs hr dm ts op
  | 0, _ => by
    have e : sumG hr dm ts op 0 ++ ts.drop 0 = ts := by simp [sumG]
    rw [e]; exact ⟨h, rfl⟩
  | m + 1, hm => by
    obtain ⟨hI, hV⟩ := sumG_val h m (by omega)
    have hg := List.getElem?_eq_getElem (show m < ts.length by omega)
    obtain ⟨t, ht⟩ : ∃ t, ts[m] = t := ⟨_, rfl⟩
    rw [ht] at hg
    have hd : ts.drop m = t :: ts.drop (m + 1) := by rw [List.drop_eq_getElem_cons (by omega), ht]
    rw [hd] at hI hV
    rw [sumG_succ hr hg, List.append_assoc, List.singleton_append]
    have hT := h.ten t (List.mem_of_getElem? hg)
    -- labels of the tensors before, after
    have hbef : ∀ x ∈ occ (sumG hr dm ts op m), x ∈ occ (drop2 ts m m) := fun x hx => by
      obtain ⟨s, hs, hx⟩ := mem_occ.1 hx
      obtain ⟨q, hq, hs⟩ := List.mem_filterMap.1 hs
      obtain ⟨y, hy, rfl⟩ := Option.map_eq_some_iff.1 hs
      have hq := List.mem_range.1 hq
      exact mem_occ.2 ⟨y, mem_drop2.2 ⟨q, by omega, hy⟩, (mem_keepL.1 hx).1⟩
    have haft : ∀ x ∈ occ (ts.drop (m + 1)), x ∈ occ (drop2 ts m m) := fun x hx => by
      obtain ⟨s, hs, hx⟩ := mem_occ.1 hx
      obtain ⟨q, hq⟩ := List.getElem?_of_mem hs
      rw [List.getElem?_drop] at hq
      exact mem_occ.2 ⟨s, mem_drop2.2 ⟨m + 1 + q, by omega, hq⟩, hx⟩
    have hrest : ∀ x ∈ occ (sumG hr dm ts op m ++ ts.drop (m + 1)), x ∈ occ (drop2 ts m m) := fun x hx => by
      rw [occ_append, List.mem_append] at hx
      exact hx.elim (hbef x) (haft x)
    have p1 : (sumG hr dm ts op m ++ t :: ts.drop (m + 1)).Perm (t :: (sumG hr dm ts op m ++ ts.drop (m + 1))) := List.perm_middle
    have p2 : (sumG hr dm ts op m ++ sumT hr dm ts op m t :: ts.drop (m + 1)).Perm (sumT hr dm ts op m t :: (sumG hr dm ts op m ++ ts.drop (m + 1))) := List.perm_middle
    have hU : ∀ x ∈ occ (sumG hr dm ts op m ++ ts.drop (m + 1)), x ∈ U := fun x hx => by
      obtain ⟨y, hy, hxy⟩ := mem_occ.1 (hrest x hx)
      obtain ⟨q, _, hq⟩ := mem_drop2.1 hy
      exact (h.ten y (List.mem_of_getElem? hq)).sub.sub x hxy
    have ht1 : occ [(t.1, t.2)] = t.1 := by rw [show occ [(t.1, t.2)] = t.1 ++ [] from rfl, List.append_nil]
    refine ⟨⟨h.uni, fun s hs => ?_, h.sub, fun x hx => ?_, ?_⟩, ?_⟩
    · rcases List.mem_cons.1 (p2.mem_iff.1 hs) with rfl | hs
      · exact sumT_isT hr h hg
      · exact hI.ten s (p1.mem_iff.2 (by simp [hs]))
    · have hx1 := hI.occ x hx
      obtain ⟨s, hs, hxs⟩ := mem_occ.1 hx1
      rcases List.mem_cons.1 (p1.mem_iff.1 hs) with rfl | hs
      · exact mem_occ.2 ⟨sumT hr dm ts op m s, p2.mem_iff.2 (by simp), mem_keepL.2 ⟨hxs, mem_elsL.2 (.inl hx)⟩⟩
      · exact mem_occ.2 ⟨s, p2.mem_iff.2 (by simp [hs]), hxs⟩
    · have := hI.len
      rw [p1.length_eq] at this
      rw [p2.length_eq]; simpa using this
    · rw [← hV]
      have e1 : netXs hr dm (sumG hr dm ts op m ++ t :: ts.drop (m + 1)) op = netXs hr dm ([(t.1, t.2)] ++ (sumG hr dm ts op m ++ ts.drop (m + 1))) op := by
        unfold netXs
        exact congrArg (fun F => tab (axs dm op) F σ0) (funext fun τ => netG_perm hr p1 op τ)
      have e2 : netXs hr dm (sumG hr dm ts op m ++ sumT hr dm ts op m t :: ts.drop (m + 1)) op = netXs hr dm ((keepL t.1 (elsL ts op m m), sumXs hr dm t.1 (elsL ts op m m) t.2) :: (sumG hr dm ts op m ++ ts.drop (m + 1))) op := by
        unfold netXs
        exact congrArg (fun F => tab (axs dm op) F σ0) (funext fun τ => netG_perm hr p2 op τ)
      rw [e1, e2]
      refine net_stepXs hr h.uni h.sub (fun x hx => by rw [ht1] at hx; exact hT.sub.sub x hx) (sums_sum hr hT) (fun x hx hn => ?_) hU
      rw [mem_elsL] at hn
      exact ⟨fun e => hn (.inl e), fun e => hn (.inr (hrest x e))⟩
theorem sumP_isN (h : IsN k p n dm U ts op) : IsN k p n dm U (sumP hr dm ts op) op := by
  have := (sumG_val hr h ts.length (Nat.le_refl _)).1
  rwa [List.drop_length, List.append_nil] at this
theorem sumP_val (h : IsN k p n dm U ts op) : netXs hr dm (sumP hr dm ts op) op = netXs hr dm ts op := by
  have := (sumG_val hr h ts.length (Nat.le_refl _)).2
  rwa [List.drop_length, List.append_nil] at this
def mrgT (dm : Int → Int) (ts : List (NT k p n)) (op : List Int) (i j : Nat) : NT k p n :=
  (keepL (joinL (labAt (ts.map (·.1)) i) (labAt (ts.map (·.1)) j)) (elsL ts op i j), contrXs hr dm (labAt (ts.map (·.1)) i) (labAt (ts.map (·.1)) j) (elsL ts op i j) (datAt ts i) (datAt ts j))
def mrgG (dm : Int → Int) (ts : List (NT k p n)) (op : List Int) (i j m : Nat) : List (NT k p n) := (List.range m).filterMap fun q => if q = i then some (mrgT hr dm ts op i j) else if q = j then none else ts[q]?
def mrgL (dm : Int → Int) (ts : List (NT k p n)) (op : List Int) (i j : Nat) : List (NT k p n) := mrgG hr dm ts op i j ts.length
theorem mrgG_at {i j : Nat} : mrgG hr dm ts op i j (i + 1) = mrgG hr dm ts op i j i ++ [mrgT hr dm ts op i j] := by
  unfold mrgG
  rw [List.range_succ, List.filterMap_append]
  simp
theorem mrgG_no {i j : Nat} (h : j ≠ i) : mrgG hr dm ts op i j (j + 1) = mrgG hr dm ts op i j j := by
  unfold mrgG
  rw [List.range_succ, List.filterMap_append]
  simp [h]
theorem mrgG_yes {i j q : Nat} (h1 : q ≠ i) (h2 : q ≠ j) {t : NT k p n} (ht : ts[q]? = some t) : mrgG hr dm ts op i j (q + 1) = mrgG hr dm ts op i j q ++ [t] := by
  unfold mrgG
  rw [List.range_succ, List.filterMap_append]
  simp [h1, h2, ht]
theorem mrgG_perm {i j : Nat} (hij : i ≠ j) : ∀ m, m ≤ ts.length → (mrgG hr dm ts op i j m).Perm ((if i < m then [mrgT hr dm ts op i j] else []) ++ dropGo ts i j m)
  | 0, _ => by simp [mrgG, dropGo]
  | m + 1, hm => by
    have ih := mrgG_perm hij m (by omega)
    by_cases ei : m = i
    · subst ei
      rw [mrgG_at, if_pos (by omega), dropGo_no (.inl rfl)]
      rw [if_neg (by omega), List.nil_append] at ih
      exact (ih.append_right _).trans List.perm_append_comm
    · have e3 : (i < m + 1) = (i < m) := by rw [eq_iff_iff]; omega
      simp only [e3]
      by_cases ej : m = j
      · subst ej
        rw [mrgG_no hr (Ne.symm hij), dropGo_no (.inr rfl)]
        exact ih
      · have ht := List.getElem?_eq_getElem (show m < ts.length by omega)
        rw [mrgG_yes hr ei ej ht, dropGo_yes (by omega) ht, ← List.append_assoc]
        exact ih.append_right _
theorem mrgL_perm {i j : Nat} (hij : i ≠ j) (hi : i < ts.length) : (mrgL hr dm ts op i j).Perm (mrgT hr dm ts op i j :: drop2 ts i j) := by
  have := mrgG_perm hr (dm := dm) (ts := ts) (op := op) hij ts.length (Nat.le_refl _)
  rw [if_pos hi] at this
  exact this
theorem mrgL_len {i j : Nat} (hij : i ≠ j) (hi : i < ts.length) (hj : j < ts.length) : (mrgL hr dm ts op i j).length + 1 = ts.length := by
  have h1 := (mrgL_perm hr (dm := dm) (op := op) hij hi).length_eq
  have h2 := drop2_len hij hi hj
  rw [List.length_cons] at h1
  omega
theorem mrgT_eq {i j : Nat} {a b : NT k p n} (ha : ts[i]? = some a) (hb : ts[j]? = some b) : mrgT hr dm ts op i j = (keepL (joinL a.1 b.1) (elsL ts op i j), contrXs hr dm a.1 b.1 (elsL ts op i j) a.2 b.2) := by
  unfold mrgT
  rw [labAt_map ha, labAt_map hb, datAt_get ha, datAt_get hb]
theorem mrg_ok (h : IsN k p n dm U ts op) {i j : Nat} (hij : i ≠ j) (hi : i < ts.length) (hj : j < ts.length) : IsN k p n dm U (mrgL hr dm ts op i j) op ∧ netXs hr dm (mrgL hr dm ts op i j) op = netXs hr dm ts op := by
  obtain ⟨a, ha⟩ : ∃ a, ts[i]? = some a := ⟨_, List.getElem?_eq_getElem hi⟩
  obtain ⟨b, hb⟩ : ∃ b, ts[j]? = some b := ⟨_, List.getElem?_eq_getElem hj⟩
  have hta := h.ten a (List.mem_of_getElem? ha)
  have htb := h.ten b (List.mem_of_getElem? hb)
  have pm := mrgL_perm hr (dm := dm) (op := op) hij hi
  have hp := two_perm hij ha hb
  rw [mrgT_eq hr ha hb] at pm
  have hoc : ∀ x, x ∈ occ [(a.1, a.2), (b.1, b.2)] → x ∈ a.1 ∨ x ∈ b.1 := fun x hx => by
    rw [show occ [(a.1, a.2), (b.1, b.2)] = a.1 ++ (b.1 ++ []) from rfl, List.append_nil, List.mem_append] at hx; exact hx
  have hdr : ∀ t ∈ drop2 ts i j, IsT k p n dm U t.1 t.2 := fun t ht => by
    obtain ⟨q, _, hq⟩ := mem_drop2.1 ht
    exact h.ten t (List.mem_of_getElem? hq)
  refine ⟨⟨h.uni, fun t ht => ?_, h.sub, fun x hx => ?_, ?_⟩, ?_⟩
  · rcases List.mem_cons.1 (pm.mem_iff.1 ht) with rfl | ht
    · exact contr_isT hr hta htb _
    · exact hdr t ht
  · obtain ⟨t, ht, hxt⟩ := mem_occ.1 (h.occ x hx)
    have hm : ∀ y, y ∈ a.1 ∨ y ∈ b.1 → y ∈ op → y ∈ occ (mrgL hr dm ts op i j) := fun y hy ho => mem_occ.2 ⟨(keepL (joinL a.1 b.1) (elsL ts op i j), contrXs hr dm a.1 b.1 (elsL ts op i j) a.2 b.2), pm.mem_iff.2 (by simp), mem_keepL.2 ⟨mem_joinL.2 hy, mem_elsL.2 (.inl ho)⟩⟩
    rcases List.mem_cons.1 (hp.mem_iff.1 ht) with rfl | ht
    · exact hm x (.inl hxt) hx
    · rcases List.mem_cons.1 ht with rfl | ht
      · exact hm x (.inr hxt) hx
      · exact mem_occ.2 ⟨t, pm.mem_iff.2 (by simp [ht]), hxt⟩
  · have := mrgL_len hr (dm := dm) (op := op) hij hi hj
    have := h.len
    omega
  · have e1 : netXs hr dm ts op = netXs hr dm ([(a.1, a.2), (b.1, b.2)] ++ drop2 ts i j) op := by
      unfold netXs
      exact congrArg (fun F => tab (axs dm op) F σ0) (funext fun τ => netG_perm hr hp op τ)
    have e2 : netXs hr dm (mrgL hr dm ts op i j) op = netXs hr dm ((keepL (joinL a.1 b.1) (elsL ts op i j), contrXs hr dm a.1 b.1 (elsL ts op i j) a.2 b.2) :: drop2 ts i j) op := by
      unfold netXs
      exact congrArg (fun F => tab (axs dm op) F σ0) (funext fun τ => netG_perm hr pm op τ)
    rw [e1, e2]
    refine net_stepXs hr h.uni h.sub (fun x hx => ?_) (sums_contr hr hta htb) (fun x hx hn => ?_) fun x hx => ?_
    · rcases hoc x hx with hx | hx
      · exact hta.sub.sub x hx
      · exact htb.sub.sub x hx
    · rw [mem_elsL] at hn
      exact ⟨fun e => hn (.inl e), fun e => hn (.inr e)⟩
    · obtain ⟨t, ht, hxt⟩ := mem_occ.1 hx
      exact (hdr t ht).sub.sub x hxt
end
section
variable {k p n : Int} (hr : ringOk k p n = true)
variable {dm : Int → Int} {U : List Int} {ts : List (NT k p n)} {op : List Int}
theorem sumXs_all {a keep : List Int} {xs : List (El k p n)} (ha : IsT k p n dm U a xs) (h : ∀ x ∈ a, x ∈ keep) : keepL a keep = a ∧ sumXs hr dm a keep xs = xs := by
  have e := keepL_all h
  refine ⟨e, ?_⟩
  have g : goneL a keep = [] := by
    unfold goneL
    rw [List.filter_eq_nil_iff]
    intro x hx
    rw [(hasL_iff _ _).2 (h x hx)]
    exact Bool.false_ne_true
  have f : contrF (rig hr) dm a keep (valT hr dm a xs) = valT hr dm a xs := by
    funext σ
    unfold contrF
    rw [g]; rfl
  unfold sumXs
  rw [e, f]
  exact tab_valT hr ha.sub.nodup ha.len σ0
theorem filter_len {f : Int → Bool} {l : List Int} (h : (l.filter f).length = l.length) : ∀ x ∈ l, f x = true := by
  have := List.length_filter_eq_length_iff.1 h
  exact this
def labsN (ts : List (NT k p n)) : List (List Int) := ts.map (·.1)
theorem labsN_get {ts us : List (NT k p n)} (h : labsN ts = labsN us) {q : Nat} {t u : NT k p n} (ht : ts[q]? = some t) (hu : us[q]? = some u) : t.1 = u.1 := by
  have h1 : (labsN ts)[q]? = some t.1 := by unfold labsN; rw [List.getElem?_map, ht]; rfl
  have h2 : (labsN us)[q]? = some u.1 := by unfold labsN; rw [List.getElem?_map, hu]; rfl
  rw [h, h2] at h1
  exact (Option.some.inj h1).symm
theorem dropU_get {q : Nat} {t : NT k p n} (h : ts[q]? = some t) : (dropU dm op ts)[q]? = some (dropT dm op t) := by
  unfold dropU; rw [List.getElem?_map, h]; rfl
theorem dropU_len : (dropU dm op ts).length = ts.length := by unfold dropU; rw [List.length_map]
theorem sumP_len : (sumP hr dm ts op).length = ts.length := sumG_len hr _ (Nat.le_refl _)
theorem sumG_get : ∀ (m q : Nat) {t : NT k p n}, q < m → m ≤ ts.length → ts[q]? = some t → (sumG hr dm ts op m)[q]? = some (sumT hr dm ts op q t)
  | 0, q, t, h, _, _ => by omega
  | m + 1, q, t, h, hm, ht => by
    have hl := sumG_len hr (dm := dm) (op := op) m (show m ≤ ts.length by omega)
    have hg := List.getElem?_eq_getElem (show m < ts.length by omega)
    rw [sumG_succ hr hg]
    by_cases e : q = m
    · subst e
      rw [hg] at ht
      rw [List.getElem?_append_right (by omega), hl, Nat.sub_self, ← Option.some.inj ht]; rfl
    · rw [List.getElem?_append_left (by omega)]
      exact sumG_get m q (by omega) (by omega) ht
theorem sumP_get {q : Nat} {t : NT k p n} (h : ts[q]? = some t) : (sumP hr dm ts op)[q]? = some (sumT hr dm ts op q t) := sumG_get hr _ q (List.getElem?_eq_some_iff.1 h).1 (Nat.le_refl _) h
structure Still (dm : Int → Int) (op : List Int) (ts : List (NT k p n)) : Prop where
  unit : ∀ t ∈ ts, ∀ x ∈ t.1, keepU dm op x = true
  priv : ∀ (q : Nat) (t : NT k p n), ts[q]? = some t → ∀ x ∈ t.1, x ∈ elsL ts op q q
theorem Still.drop (h : Still dm op ts) : dropU dm op ts = ts := by
  unfold dropU
  conv => rhs; rw [← List.map_id ts]
  refine List.map_congr_left fun t ht => ?_
  unfold dropT
  rw [List.filter_eq_self.2 (h.unit t ht)]; rfl
theorem Still.sum (hN : IsN k p n dm U ts op) (h : Still dm op ts) : sumP hr dm ts op = ts := by
  refine List.ext_getElem? fun q => ?_
  rcases hq : ts[q]? with _ | t
  · have : ts.length ≤ q := by rw [List.getElem?_eq_none_iff] at hq; exact hq
    exact List.getElem?_eq_none (by rw [sumP_len]; exact this)
  · rw [sumP_get hr hq]
    have := sumXs_all hr (hN.ten t (List.mem_of_getElem? hq)) (h.priv q t hq)
    unfold sumT
    rw [this.1, this.2]
theorem still_of (h : labsN (sumP hr dm (dropU dm op ts) op) = labsN ts) : Still dm op ts := by
  have key : ∀ (q : Nat) (t : NT k p n), ts[q]? = some t → keepL (t.1.filter (keepU dm op)) (elsL (dropU dm op ts) op q q) = t.1 := fun q t ht => by
    have := labsN_get h (sumP_get hr (dropU_get ht)) ht
    exact this
  have hd : ∀ (q : Nat) (t : NT k p n), ts[q]? = some t → (∀ x ∈ t.1, keepU dm op x = true) ∧ ∀ x ∈ t.1, x ∈ elsL (dropU dm op ts) op q q := fun q t ht => by
    have k1 := key q t ht
    have f1 : ∀ x ∈ t.1, x ∈ keepL (t.1.filter (keepU dm op)) (elsL (dropU dm op ts) op q q) := fun x hx => by rw [k1]; exact hx
    exact ⟨fun x hx => (List.mem_filter.1 (mem_keepL.1 (f1 x hx)).1).2, fun x hx => (mem_keepL.1 (f1 x hx)).2⟩
  have hu : ∀ t ∈ ts, ∀ x ∈ t.1, keepU dm op x = true := fun t ht => by
    obtain ⟨q, hq⟩ := List.getElem?_of_mem ht
    exact (hd q t hq).1
  have hdr : dropU dm op ts = ts := by
    unfold dropU
    conv => rhs; rw [← List.map_id ts]
    refine List.map_congr_left fun t ht => ?_
    unfold dropT
    rw [List.filter_eq_self.2 (hu t ht)]; rfl
  exact ⟨hu, fun q t hq x hx => by have := (hd q t hq).2 x hx; rwa [hdr] at this⟩
def rankN (ts : List (NT k p n)) : Nat := (ts.map fun t => t.1.length).sum
theorem rankN_cons (t : NT k p n) (l : List (NT k p n)) : rankN (t :: l) = t.1.length + rankN l := rfl
theorem rank_bound : ∀ (l : List (NT k p n)), (∀ t ∈ l, t.1.length ≤ 12) → rankN l ≤ 12 * l.length
  | [], _ => Nat.le_refl _
  | t :: l, h => by
    have := rank_bound l fun s hs => h s (by simp [hs])
    have := h t (by simp)
    rw [rankN_cons, List.length_cons]; omega
theorem rank_le : ∀ {l us : List (NT k p n)}, l.length = us.length → (∀ (q : Nat) (t u : NT k p n), l[q]? = some t → us[q]? = some u → u.1.length ≤ t.1.length) → rankN us ≤ rankN l ∧ (rankN us = rankN l → ∀ (q : Nat) (t u : NT k p n), l[q]? = some t → us[q]? = some u → u.1.length = t.1.length)
  | [], [], _, _ => ⟨Nat.le_refl _, fun _ q t u h => by simp at h⟩
  | [], _ :: _, h, _ => by simp at h
  | _ :: _, [], h, _ => by simp at h
  | t :: l, u :: us, h, hq => by
    have ih := rank_le (l := l) (us := us) (by simpa using h) fun q a b ha hb => hq (q + 1) a b (by simpa using ha) (by simpa using hb)
    have h0 := hq 0 t u rfl rfl
    rw [rankN_cons, rankN_cons]
    refine ⟨by omega, fun e q a b ha hb => ?_⟩
    rcases q with _ | q
    · simp at ha hb; subst ha hb; omega
    · exact ih.2 (by omega) q a b (by simpa using ha) (by simpa using hb)
theorem labsN_ext {ts us : List (NT k p n)} (hl : ts.length = us.length) (h : ∀ (q : Nat) (t u : NT k p n), ts[q]? = some t → us[q]? = some u → t.1 = u.1) : labsN ts = labsN us := by
  refine List.ext_getElem? fun q => ?_
  unfold labsN
  rw [List.getElem?_map, List.getElem?_map]
  by_cases hq : q < ts.length
  · have h1 := List.getElem?_eq_getElem hq
    have h2 := List.getElem?_eq_getElem (show q < us.length by omega)
    rw [h1, h2]
    exact congrArg some (h q _ _ h1 h2)
  · rw [List.getElem?_eq_none (by omega), List.getElem?_eq_none (by omega)]
theorem rank_step (hN : IsN k p n dm U ts op) : rankN (sumP hr dm (dropU dm op ts) op) < rankN ts ∨ (Still dm op ts ∧ sumP hr dm (dropU dm op ts) op = ts) := by
  have hlen : ts.length = (sumP hr dm (dropU dm op ts) op).length := by rw [sumP_len, dropU_len]
  have hle : ∀ (q : Nat) (t u : NT k p n), ts[q]? = some t → (sumP hr dm (dropU dm op ts) op)[q]? = some u → u.1.length ≤ t.1.length := fun q t u ht hu => by
    rw [sumP_get hr (dropU_get ht)] at hu
    rw [← Option.some.inj hu]
    exact Nat.le_trans (List.length_filter_le _ _) (List.length_filter_le _ _)
  have hR := rank_le hlen hle
  rcases Nat.lt_or_ge (rankN (sumP hr dm (dropU dm op ts) op)) (rankN ts) with h | h
  · exact .inl h
  · right
    have heq := hR.2 (Nat.le_antisymm hR.1 h)
    have hlab : labsN (sumP hr dm (dropU dm op ts) op) = labsN ts := labsN_ext hlen.symm fun q u t hu ht => by
      have e := heq q t u ht hu
      rw [sumP_get hr (dropU_get ht)] at hu
      have hu2 := Option.some.inj hu
      subst hu2
      have e1 : (keepL (t.1.filter (keepU dm op)) (elsL (dropU dm op ts) op q q)).length = t.1.length := e
      have b1 : (keepL (t.1.filter (keepU dm op)) (elsL (dropU dm op ts) op q q)).length ≤ (t.1.filter (keepU dm op)).length := List.length_filter_le _ _
      have b2 : (t.1.filter (keepU dm op)).length ≤ t.1.length := List.length_filter_le _ _
      show keepL (t.1.filter (keepU dm op)) (elsL (dropU dm op ts) op q q) = t.1
      have f2 : t.1.filter (keepU dm op) = t.1 := List.filter_eq_self.2 (filter_len (by omega))
      rw [f2] at e1 ⊢
      exact List.filter_eq_self.2 (filter_len e1)
    have hS := still_of hr hlab
    exact ⟨hS, by rw [hS.drop]; exact hS.sum hr hN⟩
end
section
variable {k p n : Int} (hr : ringOk k p n = true)
variable {dm : Int → Int} {U : List Int} {ts us cs : List (NT k p n)} {op : List Int}
theorem flat_inj {W : Nat} (hW : ringWidth k n = (W : Int)) {xs ys : List (El k p n)} (hl : xs.length = ys.length) (h : flat xs = flat ys) : xs = ys := by
  refine List.ext_getElem hl fun o h1 h2 => ?_
  have a := flat_get hW (List.getElem?_eq_getElem h1)
  have b := flat_get hW (List.getElem?_eq_getElem h2)
  rw [h, b] at a
  exact (Subtype.ext a).symm
include hr in
theorem tenOf_inj {t u : NT k p n} (ht : IsT k p n dm U t.1 t.2) (hu : IsT k p n dm U u.1 u.2) (h : tenOf dm t = tenOf dm u) : t = u := by
  obtain ⟨L, xs⟩ := t
  obtain ⟨M, ys⟩ := u
  unfold tenOf at h
  simp only [Prod.mk.injEq] at h
  obtain ⟨rfl, _, h⟩ := h
  have hw := ringOk_wide hr
  have hW : ringWidth k n = ((ringWidth k n).toNat : Nat) := by have := hw.lo; omega
  have := flat_inj hW (ht.len.trans hu.len.symm) h
  simp only at this
  rw [this]
include hr in
theorem tens_inj : ∀ {ts us : List (NT k p n)}, (∀ t ∈ ts, IsT k p n dm U t.1 t.2) → (∀ t ∈ us, IsT k p n dm U t.1 t.2) → ts.map (tenOf dm) = us.map (tenOf dm) → ts = us
  | [], [], _, _, _ => rfl
  | [], _ :: _, _, _, h => by simp at h
  | _ :: _, [], _, _, h => by simp at h
  | t :: ts, u :: us, h1, h2, h => by
    rw [List.map_cons, List.map_cons, List.cons.injEq] at h
    rw [tenOf_inj hr (h1 t (by simp)) (h2 u (by simp)) h.1, tens_inj (fun s hs => h1 s (by simp [hs])) (fun s hs => h2 s (by simp [hs])) h.2]
def NoPairTo (ts : List (NT k p n)) (i j : Nat) : Prop := ∀ (q r : Nat) (a b : NT k p n), q < r → (q < i ∨ (q = i ∧ r < j)) → ts[q]? = some a → ts[r]? = some b → ¬ (∀ x ∈ a.1, x ∈ b.1) ∧ ¬ (∀ x ∈ b.1, x ∈ a.1)
def NoPair (ts : List (NT k p n)) : Prop := NoPairTo ts ts.length 0
theorem allIn_iff {a b : List Int} : (a.all fun x => hasL b x) = true ↔ ∀ x ∈ a, x ∈ b := by
  rw [List.all_eq_true]
  exact ⟨fun h x hx => (hasL_iff _ _).1 (h x hx), fun h x hx => (hasL_iff _ _).2 (h x hx)⟩
structure AbsT (dm : Int → Int) (U : List Int) (ts : List (NT k p n)) (op : List Int) (us : List (NT k p n)) : Prop where
  isN : IsN k p n dm U us op
  val : netXs hr dm us op = netXs hr dm ts op
  alt : us = ts ∨ (us.length < ts.length ∧ ¬ NoPair ts)
theorem AbsT.refl (h : IsN k p n dm U ts op) : AbsT hr dm U ts op ts := ⟨h, rfl, .inl rfl⟩
theorem AbsT.step (h : AbsT hr dm U ts op us) {i j : Nat} (hij : i < j) (hj : j < us.length) (hn : ¬ NoPair us) : AbsT hr dm U ts op (mrgL hr dm us op i j) ∧ (mrgL hr dm us op i j).length < us.length := by
  have hm := mrg_ok hr h.isN (show i ≠ j by omega) (show i < us.length by omega) hj
  have hl := mrgL_len hr (dm := dm) (ts := us) (op := op) (show i ≠ j by omega) (show i < us.length by omega) hj
  refine ⟨⟨hm.1, hm.2.trans h.val, .inr ?_⟩, by omega⟩
  rcases h.alt with rfl | h2
  · exact ⟨by omega, hn⟩
  · exact ⟨by omega, h2.2⟩
def dropSum (dm : Int → Int) (ts : List (NT k p n)) (op : List Int) : List (NT k p n) := sumP hr dm (dropU dm op ts) op
theorem dropSum_isN (h : IsN k p n dm U ts op) : IsN k p n dm U (dropSum hr dm ts op) op := sumP_isN hr (drop_isN h)
theorem dropSum_val (h : IsN k p n dm U ts op) : netXs hr dm (dropSum hr dm ts op) op = netXs hr dm ts op := (sumP_val hr (drop_isN h)).trans (drop_val hr h)
theorem dropSum_len : (dropSum hr dm ts op).length = ts.length := by unfold dropSum; rw [sumP_len, dropU_len]
def meas (ts : List (NT k p n)) : Nat := 1000 * ts.length + rankN ts
theorem meas_le (h : IsN k p n dm U ts op) : rankN ts ≤ 144 ∧ meas ts ≤ 13000 := by
  have h1 := rank_bound ts fun t ht => (h.ten t ht).ax.rank
  have h2 := h.len
  unfold meas
  omega
structure SimS (dm : Int → Int) (U : List Int) (ts : List (NT k p n)) (op : List Int) (cs : List (NT k p n)) : Prop where
  isN : IsN k p n dm U cs op
  val : netXs hr dm cs op = netXs hr dm ts op
  len : cs.length ≤ ts.length
  fix : Still dm op ts → NoPair ts → cs = ts
theorem SimS.refl (h : IsN k p n dm U ts op) : SimS hr dm U ts op ts := ⟨h, rfl, Nat.le_refl _, fun _ _ => rfl⟩
theorem SimS.next (h : SimS hr dm U ts op cs) (ha : AbsT hr dm U (dropSum hr dm cs op) op us) : SimS hr dm U ts op us := by
  have hl : us.length ≤ cs.length := by
    have := dropSum_len hr (dm := dm) (ts := cs) (op := op)
    rcases ha.alt with e | e
    · rw [e]; omega
    · omega
  refine ⟨ha.isN, ha.val.trans ((dropSum_val hr h.isN).trans h.val), Nat.le_trans hl h.len, fun hs hn => ?_⟩
  have e := h.fix hs hn
  subst e
  have e2 : dropSum hr dm cs op = cs := by
    unfold dropSum
    rw [hs.drop]
    exact hs.sum hr h.isN
  rw [e2] at ha
  exact ha.alt.resolve_right fun h2 => h2.2 hn
theorem SimS.still (h : SimS hr dm U ts op cs) (ha : AbsT hr dm U (dropSum hr dm cs op) op us) (e : cs = us) : Still dm op us := by
  subst e
  rcases ha.alt with e | e
  · exact still_of hr (congrArg labsN e.symm)
  · have := dropSum_len hr (dm := dm) (ts := cs) (op := op)
    omega
theorem SimS.falls (h : SimS hr dm U ts op cs) (ha : AbsT hr dm U (dropSum hr dm cs op) op us) (e : cs ≠ us) : meas us < meas cs := by
  rcases ha.alt with e2 | e2
  · have hl : us.length = cs.length := by rw [e2, dropSum_len]
    rcases rank_step hr h.isN with h3 | h3
    · unfold meas
      rw [hl]
      change rankN (dropSum hr dm cs op) < _ at h3
      rw [← e2] at h3
      omega
    · exact absurd (e2.trans h3.2).symm e
  · have h1 := (meas_le ha.isN).1
    have := dropSum_len hr (dm := dm) (ts := cs) (op := op)
    unfold meas
    omega
end
structure ListsU (dm : Int → Int) (U : List Int) (ls : List (List Int)) : Prop where
  uni : Uni dm U
  nodup : ∀ l ∈ ls, l.Nodup
  sub : ∀ l ∈ ls, ∀ y ∈ l, y ∈ U
section
variable {dm : Int → Int} {U : List Int} {ls : List (List Int)}
theorem ListsU.len (h : ListsU dm U ls) {l : List Int} (hl : l ∈ ls) : l.length ≤ 12 := (h.uni.ax ⟨h.nodup l hl, h.sub l hl⟩).rank
end
theorem OwnLs.at {w : World} {a : Option Addr} {n cap : Nat} {vs : List Value} {ls : List (List Int)} (h : OwnLs w (.slice a n cap) vs ls) {i : Nat} (hi : i < ls.length) :
    ∃ b off u l, a = some ⟨b, off, none⟩ ∧ w.cell? ⟨b, off + i, none⟩ = some u ∧ OwnI w 0 u l ∧ ls[i]? = some l ∧ u ∈ vs := by
  obtain ⟨a', cap', hv, _, _, h3⟩ := (ownsRow_row h.row).val
  cases hv
  have hr := h.row.1
  obtain ⟨b, off, ha, hc⟩ := h3 (by have := h.len; omega)
  have hi' : i < vs.length := by rw [h.len]; exact hi
  exact ⟨b, off, vs[i], ls[i], ha, hc i _ (List.getElem?_eq_getElem hi'), h.elem i _ _ (List.getElem?_eq_getElem hi') (List.getElem?_eq_getElem hi), List.getElem?_eq_getElem hi, List.getElem_mem hi'⟩
structure TensR (w : World) (z : Nat) (v : Value) (cs : List (Value × Value × Value)) (ts : List (List Int × List Int × List Int)) : Prop where
  len : cs.length = ts.length
  row : Row w 3 v ts.length (cs.flatMap cells3)
  elem : ∀ (i : Nat) (c : Value × Value × Value) (t : List Int × List Int × List Int), cs[i]? = some c → ts[i]? = some t → IntS w c.1 t.1 ∧ IntS w c.2.1 t.2.1 ∧ IntS w c.2.2 t.2.2
  off : 0 < ts.length → v.ownBlock ≠ some z
  offs : ∀ (i : Nat) (c : Value × Value × Value) (t : List Int × List Int × List Int), cs[i]? = some c → ts[i]? = some t → (0 < t.1.length → c.1.ownBlock ≠ some z) ∧ (0 < t.2.1.length → c.2.1.ownBlock ≠ some z) ∧ (0 < t.2.2.length → c.2.2.ownBlock ≠ some z)
section
variable {w w' : World} {z s : Nat} {v v' : Value} {cs : List (Value × Value × Value)} {ts : List (List Int × List Int × List Int)}
theorem TensR.at (h : TensR w' z v cs ts) (h2 : TensR w s v cs ts) : TensR w' s v cs ts := ⟨h.len, h.row, h.elem, h2.off, h2.offs⟩
end
def aAnd (A B : Asn) : Asn := ⟨A.fp ++ B.fp, fun w => A.holds w ∧ B.holds w, fun w w' e h => ⟨A.loc w w' (fun b hb => e b (List.mem_append_left _ hb)) h.1, B.loc w w' (fun b hb => e b (List.mem_append_right _ hb)) h.2⟩, fun w h b hb => (List.mem_append.1 hb).elim (A.lt w h.1 b) (B.lt w h.2 b)⟩
set_option maxRecDepth 100000 in
set_option maxHeartbeats 4000000 in
theorem mergeTensors_eq {k p n : Int} (hr : ringOk k p n = true) {dm : Int → Int} {U : List Int} {ts : List (NT k p n)} {op : List Int} (hN : IsN k p n dm U ts op) (tv ov : Value) (w : World) (hT : TensS w tv (ts.map (tenOf dm))) (hO : IntS w ov op) (pi : Nat) (hpi : pi < ts.length) :
 Calls Try.prog 63 #[.agg #[.int .i64 k, .int .i64 p, .int .i64 n, tv, ov], .int .i64 (pi : Int), .int .i64 (pi : Int)] w fun e w' => e = .returned (.tuple #[.agg #[.int .i64 0, .int .i64 0, .int .i64 0, .slice none 0 0, .slice none 0 0], .bool false]) ∧ Ext w w' := by
 have hT0 := hT
 have hO0 := hO
 obtain ⟨m, hm⟩ : ∃ m, ts.length = m := ⟨_, rfl⟩
 obtain ⟨aV, cV, rfl, hcT1, hcT2⟩ := hT.val
 obtain ⟨aO, cO, rfl, hcO1, hcO2⟩ := hO.val
 rw [List.length_map, hm] at hT hT0 hcT1
 rw [List.length_map, hm]
 have hm12 : m ≤ 12 := by rw [← hm]; exact hN.len
 have hop12 : op.length ≤ 12 := hN.rank
 have HM := Lib.hid hm; have HR := Lib.hid hr; have HN := Lib.hid hN; have HD3 := Lib.hid hN.dims3; clear hm  hN
 have hTl : Hid ((ts.map (tenOf dm)).length = m) := Lib.hid (by rw [List.length_map]; exact HM.out)
 rw [HM.out] at hpi
 have hi0 : ¬ (pi : Int) < 0 := by omega
 have hi1 : ¬ (m : Int) ≤ (pi : Int) := by omega
 have hnb : ((pi : Int) == (pi : Int)) = true := by simp
 have hi1n : ¬ m ≤ pi := by omega
 go_enter Try.func63, Try.ntmps63
 go_upto_region 1 with fail
 have hH : Held w w [] := Held.new (Ext.refl w) 0
 have hB : Held w (w.alloc (.cells #[.int .i64 k, .int .i64 p, .int .i64 n, .slice aV m cV, .slice aO op.length cO] 29)) [aB (w.heap.size) 29 [.int .i64 k, .int .i64 p, .int .i64 n, .slice aV m cV, .slice aO op.length cO]] := by
  have h := (hH.mores 1).addB 0 #[.int .i64 k, .int .i64 p, .int .i64 n, .slice aV m cV, .slice aO op.length cO] 29
  exact h
 have hsz : (w.alloc (.cells #[.int .i64 k, .int .i64 p, .int .i64 n, .slice aV m cV, .slice aO op.length cO] 29)).heap.size = w.heap.size + 1 := by simp
 generalize w.alloc (.cells #[.int .i64 k, .int .i64 p, .int .i64 n, .slice aV m cV, .slice aO op.length cO] 29) = wn1 at hB hsz ⊢
 replace hH := hB; have HSZwn1 := Lib.hid hsz; clear hB hsz
 have hB : Held w (wn1.alloc (.cells #[.int .i64 0, .int .i64 0, .int .i64 0, .slice none 0 0, .slice none 0 0] 29)) [aB (w.heap.size) 29 [.int .i64 k, .int .i64 p, .int .i64 n, .slice aV m cV, .slice aO op.length cO], aB (w.heap.size + 1) 29 [.int .i64 0, .int .i64 0, .int .i64 0, .slice none 0 0, .slice none 0 0]] := by
  have h := (hH.mores 1).addB 1 #[.int .i64 0, .int .i64 0, .int .i64 0, .slice none 0 0, .slice none 0 0] 29
  rw [HSZwn1.out] at h
  exact h
 have hsz : (wn1.alloc (.cells #[.int .i64 0, .int .i64 0, .int .i64 0, .slice none 0 0, .slice none 0 0] 29)).heap.size = w.heap.size + 1 + 1 := by rw [← HSZwn1.out]; simp
 generalize wn1.alloc (.cells #[.int .i64 0, .int .i64 0, .int .i64 0, .slice none 0 0, .slice none 0 0] 29) = wn2 at hB hsz ⊢
 replace hH := hB; have HSZwn2 := Lib.hid hsz; clear hB hsz
 obtain ⟨wz, rfl⟩ : ∃ q, q = wn2 := ⟨wn2, rfl⟩
 obtain ⟨q0_0, q0_1, q0_2, q0_3, q0_4, l0_⟩ := hH.c5 0 rfl; obtain ⟨q1_0, q1_1, q1_2, q1_3, q1_4, l1_⟩ := hH.c5 1 rfl
 go_wp2_with fail
 clear q0_0 q0_1 q0_2 q0_3 q0_4 l0_ q1_0 q1_1 q1_2 q1_3 q1_4 l1_
 refine (networkOk_any HR.out HN.out _ _ _ (hT0.ext hH.ext) (hO0.ext hH.ext)).mono ?_; rintro ewn3 wn3 ⟨rfl, hwn3⟩
 replace hH : Held w wn3 [aB (w.heap.size) 29 [.int .i64 k, .int .i64 p, .int .i64 n, .slice aV m cV, .slice aO op.length cO], aB (w.heap.size + 1) 29 [.int .i64 0, .int .i64 0, .int .i64 0, .slice none 0 0, .slice none 0 0]] := hH.grow hwn3
 clear hwn3
 obtain ⟨q0_0, q0_1, q0_2, q0_3, q0_4, l0_⟩ := hH.c5 0 rfl; obtain ⟨q1_0, q1_1, q1_2, q1_3, q1_4, l1_⟩ := hH.c5 1 rfl; have f1_0 := hH.fr 1 0 rfl; have f1_1 := hH.fr 1 1 rfl; have f1_2 := hH.fr 1 2 rfl; have f1_3 := hH.fr 1 3 rfl; have f1_4 := hH.fr 1 4 rfl
 go_wp2_with fail
 refine bodyPost_ret (v := .tuple #[.agg #[.int .i64 0, .int .i64 0, .int .i64 0, .slice none 0 0, .slice none 0 0], .bool false]) (by simp [results, Try.results63, go_sem, *]) rfl ?_
 exact ⟨rfl, (hH.setB5 (k := 1) rfl (.int .i64 0) (.int .i64 0) (.int .i64 0) (.slice none 0 0) (.slice none 0 0)).ext⟩
end Go.Proofs.Ytpegckmagiaggaa
