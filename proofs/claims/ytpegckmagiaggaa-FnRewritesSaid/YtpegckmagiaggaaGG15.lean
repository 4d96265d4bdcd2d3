/- Texts of one kind, merged by program. -/
import Derived.Test.YtpegckmagiaggaaGSumLW
import Derived.Test.YtpegckmagiaggaaGG11
import Derived.Test.YtpegckmagiaggaaGNetW
/- The law of three tensors, plain. No program in sight. -/
set_option linter.unusedSimpArgs false
set_option linter.unusedVariables false
namespace Go.Proofs.Ytpegckmagiaggaa
open Go.RowKit
section
variable {k p n : Int} (hr : ringOk k p n = true)
theorem sum_isT {dm : Int → Int} {U a : List Int} {xs : List (El k p n)} (ha : IsT k p n dm U a xs) (keep : List Int) : IsT k p n dm U (keepL a keep) (sumXs hr dm a keep xs) := IsT.tab ha.uni (ha.sub.keep keep) _
end
section
variable {k p n : Int} (hr : ringOk k p n = true)
variable {dm : Int → Int} {U : List Int} {ts : List (NT k p n)} {op : List Int}
theorem keepL_asc (h : IsN k p n dm U ts op) : (keepL (ascL (occ ts)) op).Perm op := by
  refine (List.perm_ext_iff_of_nodup (by unfold keepL; exact (ascL_nodup _).filter _) h.sub.nodup).2 fun x => ?_
  rw [mem_keepL]
  exact ⟨fun hx => hx.2, fun hx => ⟨h.opAsc hx, hx⟩⟩
theorem asc_split (h : IsN k p n dm U ts op) : (ascL (occ ts)).Perm (op ++ goneL (ascL (occ ts)) op) :=
  (keep_gone _ op).trans (List.Perm.append_right _ (keepL_asc h))
theorem netZ_all (h : IsN k p n dm U ts op) : netZ hr dm ts op (size (axs dm (ascL (occ ts)))) = netXs hr dm ts op := by
  unfold netZ netXs netG contrF
  have hs := scat_tab (rig hr) (netF hr dm ts) (all := axs dm (ascL (occ ts))) (left := axs dm op) (rest := axs dm (goneL (ascL (occ ts)) op)) (by rw [← axs_append]; exact axs_perm (asc_split h)) (by rw [labs_axs]; exact ascL_nodup _) σ0
  rw [tab_range] at hs
  exact hs
theorem netZ_length (o : Nat) : (netZ hr dm ts op o).length = size (axs dm op) := by
  unfold netZ
  exact (scat_length (rig hr) _ _).trans List.length_replicate
theorem netZ_succ (o : Nat) : netZ hr dm ts op (o + 1) = (netZ hr dm ts op o).modify (off (axs dm op) (asg (axs dm (ascL (occ ts))) o σ0)) fun x => (rig hr).add x (netF hr dm ts (asg (axs dm (ascL (occ ts))) o σ0)) := by
  unfold netZ
  rw [List.range_succ, List.map_append, List.map_cons, List.map_nil]
  exact scat_snoc (rig hr) [] _ _ _ _
end
section
variable {k p n : Int} (hr : ringOk k p n = true) {W : Nat} (hW : ringWidth k n = (W : Int))
variable {dm : Int → Int} {U : List Int} {ts : List (NT k p n)} {op : List Int}
theorem asc_fit (h : IsN k p n dm U ts op) (o : Nat) {L : List Int} (hL : ∀ l ∈ L, l ∈ ascL (occ ts)) : Fits (axs dm L) (asg (axs dm (ascL (occ ts))) o σ0) := fun x hx => by
  obtain ⟨l, hl, rfl⟩ := List.mem_map.1 hx
  exact asg_fits' h.uni h.ascSub o σ0 (l, dm l) (List.mem_map_of_mem (hL l hl))
include hW
theorem net_stepZ (h : IsN k p n dm U ts op) (o : Nat) :
    ∃ (q : Nat) (z : List Int), dotL ((ascL (occ ts)).map (stride op (op.map dm))) ((ascL (occ ts)).map (asg (axs dm (ascL (occ ts))) o σ0)) = (q : Int) ∧ q ≤ 4096 ∧ q * W + W ≤ (flat (netZ hr dm ts op o)).length ∧ getL (flat (netZ hr dm ts op o)) (q * W) W = z ∧ rawOk k p n z = true ∧
      flat (netZ hr dm ts op (o + 1)) = putL (flat (netZ hr dm ts op o)) (q * W) (addL k p z (netF hr dm ts (asg (axs dm (ascL (occ ts))) o σ0)).1) := by
  obtain ⟨τ, hτ⟩ : ∃ τ, asg (axs dm (ascL (occ ts))) o σ0 = τ := ⟨_, rfl⟩
  have hC : ∀ l ∈ op, l ∈ ascL (occ ts) := fun l hl => h.opAsc hl
  have hf := asc_fit h o hC
  have hd : ∀ l ∈ op, 1 ≤ dm l := fun l hl => (h.uni.dim (h.sub.sub l hl)).1
  rw [hτ] at hf
  have c1 := dot_off (dm := dm) h.ascSub.nodup h.sub.nodup hC hd (σ := τ) (fun l hl => (hf (l, dm l) (List.mem_map_of_mem hl)).1)
  have c2 := off_lt hf
  have c3 := (h.uni.small h.sub).1
  have c4 := netZ_length hr (dm := dm) (ts := ts) (op := op) o
  have hq : off (axs dm op) τ < (netZ hr dm ts op o).length := by omega
  have hz := List.getElem?_eq_getElem hq
  have hp := flat_put hW hq ((rig hr).add (netZ hr dm ts op o)[off (axs dm op) τ] (netF hr dm ts τ))
  rw [hτ]
  refine ⟨off (axs dm op) τ, _, c1, by omega, ?_, flat_get hW hz, ((netZ hr dm ts op o)[off (axs dm op) τ]).2, ?_⟩
  · rw [flat_length hW, c4]
    have : (off (axs dm op) τ + 1) * W ≤ size (axs dm op) * W := Nat.mul_le_mul_right _ (by omega)
    rw [Nat.add_mul, Nat.one_mul] at this
    exact this
  · refine Eq.trans ?_ hp.symm
    congr 1
    rw [netZ_succ, hτ]
    exact getD_modify hq _
omit hW
theorem netF_take {j : Nat} {L : List Int} {xs : List (El k p n)} (h : ts[j]? = some (L, xs)) (σ : Int → Int) : (netF hr dm (ts.take (j + 1)) σ).1 = mulL k p (netF hr dm (ts.take j) σ).1 (valT hr dm L xs σ).1 := by
  rw [List.take_add_one, h]
  show (netF hr dm (ts.take j ++ [(L, xs)]) σ).1 = _
  rw [netF_snoc]; rfl
end
section
variable {k p n : Int} (hr : ringOk k p n = true)
variable {dm : Int → Int} {U : List Int}
theorem netG_perm {ts us : List (NT k p n)} (h : ts.Perm us) (op : List Int) (σ : Int → Int) : netG hr dm ts op σ = netG hr dm us op σ := by
  unfold netG contrF
  have e : ascL (occ ts) = ascL (occ us) := ascL_congr fun x => by
    rw [mem_occ, mem_occ]
    exact ⟨fun ⟨t, ht, hx⟩ => ⟨t, h.mem_iff.1 ht, hx⟩, fun ⟨t, ht, hx⟩ => ⟨t, h.mem_iff.2 ht, hx⟩⟩
  rw [e]
  exact sumA_ext _ _ σ fun τ => netF_perm hr dm h τ
structure Sums1 (k p n : Int) (hr : ringOk k p n = true) (dm : Int → Int) (M : List Int) (ys : List (El k p n)) (t1 : List (NT k p n)) (K : List Int) : Prop where
  lab : ∀ x, x ∈ M ↔ x ∈ occ t1 ∧ x ∈ K
  val : ∀ τ, Fits (axs dm M) τ → valT hr dm M ys τ = netG hr dm t1 K τ
theorem net_step {M K op : List Int} {ys : List (El k p n)} {t1 t2 : List (NT k p n)} (h1 : ∀ x ∈ occ t1, 0 ≤ x ∧ x ≤ 99) (hs : Sums1 k p n hr dm M ys t1 K)
    (hK : ∀ x ∈ occ t1, x ∉ K → x ∉ op ∧ x ∉ occ t2) (h2 : ∀ x ∈ occ t2, 0 ≤ x ∧ x ≤ 99) {σ : Int → Int} (hf : ∀ x ∈ M, x ∈ op → 0 ≤ σ x ∧ σ x < dm x) :
    netG hr dm ((M, ys) :: t2) op σ = netG hr dm (t1 ++ t2) op σ := by
  have hm : ∀ x, x ∈ occ ((M, ys) :: t2) ↔ x ∈ M ∨ x ∈ occ t2 := fun x => by rw [show occ ((M, ys) :: t2) = M ++ occ t2 from rfl, List.mem_append]
  have ha : ∀ x, x ∈ occ (t1 ++ t2) ↔ x ∈ occ t1 ∨ x ∈ occ t2 := fun x => by rw [occ_append, List.mem_append]
  have hp : (goneL (ascL (occ (t1 ++ t2))) op).Perm (goneL (ascL (occ ((M, ys) :: t2))) op ++ goneL (ascL (occ t1)) K) := by
    refine (List.perm_ext_iff_of_nodup (l₁ := goneL (ascL (occ (t1 ++ t2))) op) ((ascL_nodup _).filter _) ?_).2 fun x => ?_
    · rw [List.nodup_append]
      refine ⟨(ascL_nodup _).filter _, (ascL_nodup _).filter _, fun x hx y hy e => ?_⟩
      subst e
      have a1 := (mem_ascL.1 (mem_goneL.1 hx).1).2
      have a2 := mem_goneL.1 hy
      have a3 := (mem_ascL.1 a2.1).2
      rcases (hm x).1 a1 with b | b
      · exact a2.2 ((hs.lab x).1 b).2
      · exact (hK x a3 a2.2).2 b
    · rw [List.mem_append, mem_goneL, mem_goneL, mem_goneL, mem_ascL, mem_ascL, mem_ascL, hm, ha, hs.lab]
      constructor
      · rintro ⟨⟨a1, a2⟩, a3⟩
        by_cases b : x ∈ occ t2
        · exact .inl ⟨⟨a1, .inr b⟩, a3⟩
        · rcases a2 with a2 | a2
          · by_cases c : x ∈ K
            · exact .inl ⟨⟨a1, .inl ⟨a2, c⟩⟩, a3⟩
            · exact .inr ⟨⟨a1, a2⟩, c⟩
          · exact absurd a2 b
      · rintro (⟨⟨a1, a2⟩, a3⟩ | ⟨⟨a1, a2⟩, a3⟩)
        · rcases a2 with a2 | a2
          · exact ⟨⟨a1, .inl a2.1⟩, a3⟩
          · exact ⟨⟨a1, .inr a2⟩, a3⟩
        · exact ⟨⟨a1, .inl a2⟩, (hK x a2 a3).1⟩
  unfold netG
  unfold contrF
  rw [sumA_perm (rig hr) _ (axs_perm hp) (by rw [labs_axs]; exact (ascL_nodup _).filter _), axs_append, sumA_append]
  refine sumA_congr (rig hr) fun τ hτ hft => ?_
  rw [labs_axs] at hτ
  have hft := hft (by rw [labs_axs]; exact (ascL_nodup _).filter _)
  have hfM : Fits (axs dm M) τ := fun a ha' => by
    obtain ⟨x, hx, rfl⟩ := List.mem_map.1 ha'
    by_cases hxo : x ∈ op
    · rw [hτ x fun h => (mem_goneL.1 h).2 hxo]
      exact hf x hx hxo
    · refine hft (x, dm x) (List.mem_map.2 ⟨x, mem_goneL.2 ⟨mem_ascL.2 ⟨h1 x ((hs.lab x).1 hx).1, (hm x).2 (.inl hx)⟩, hxo⟩, rfl⟩)
  rw [netF_cons, hs.val τ hfM]
  unfold netG contrF
  rw [← sumA_mul (rig hr) (netF hr dm t1) (netF_dep hr dm t2) (fun x hx => ?_)]
  · exact sumA_ext (rig hr) _ _ fun υ => (netF_append hr dm t1 t2 υ).symm
  · rw [labs_axs] at hx
    have := mem_goneL.1 hx
    exact (hK x (mem_ascL.1 this.1).2 this.2).2
theorem net_stepXs {M K op : List Int} {ys : List (El k p n)} {t1 t2 : List (NT k p n)} (u : Uni dm U) (so : Sub U op) (h1 : ∀ x ∈ occ t1, x ∈ U) (hs : Sums1 k p n hr dm M ys t1 K)
    (hK : ∀ x ∈ occ t1, x ∉ K → x ∉ op ∧ x ∉ occ t2) (h2 : ∀ x ∈ occ t2, x ∈ U) : netXs hr dm ((M, ys) :: t2) op = netXs hr dm (t1 ++ t2) op := by
  unfold netXs
  refine tab_congr (Uni.nodup so) (u.dims so) fun o => ?_
  exact net_step hr (fun x hx => u.labs (h1 x hx)) hs hK (fun x hx => u.labs (h2 x hx)) fun x _ hx => asg_fits' u so o σ0 (x, dm x) (List.mem_map.2 ⟨x, hx, rfl⟩)
theorem sums_contr {a b keep : List Int} {xs ys : List (El k p n)} (ha : IsT k p n dm U a xs) (hb : IsT k p n dm U b ys) :
    Sums1 k p n hr dm (keepL (joinL a b) keep) (contrXs hr dm a b keep xs ys) [(a, xs), (b, ys)] keep := by
  have hocc : ∀ x, x ∈ occ [(a, xs), (b, ys)] ↔ x ∈ joinL a b := fun x => by
    rw [mem_joinL, show occ [(a, xs), (b, ys)] = a ++ (b ++ []) from rfl, List.append_nil, List.mem_append]
  refine ⟨fun x => by rw [mem_keepL, hocc], fun τ hf => ?_⟩
  have hp : (joinL a b).Perm (ascL (occ [(a, xs), (b, ys)])) := by
    refine (List.perm_ext_iff_of_nodup (ha.sub.join hb.sub).nodup (ascL_nodup _)).2 fun x => ?_
    rw [mem_ascL, hocc]
    exact ⟨fun h => ⟨ha.uni.labs ((ha.sub.join hb.sub).sub x h), h⟩, fun h => h.2⟩
  rw [show contrXs hr dm a b keep xs ys = tab (axs dm (keepL (joinL a b) keep)) (contrF (rig hr) dm (joinL a b) keep (mulF hr dm a b xs ys)) σ0 from rfl, valT_tab hr (contrF_dep (rig hr) (mulF_dep hr dm a b xs ys)) hf]
  unfold netG
  rw [contrF_perm (rig hr) (ha.sub.join hb.sub) hp]
  refine sumA_ext (rig hr) _ _ fun υ => ?_
  rw [netF_cons, netF_cons, netF_nil, (rig hr).mul_one]; rfl
end
section
variable {R : Type} (S : Rig R)
theorem off_ren {f dm dm2 : Int → Int} (τ : Int → Int) : ∀ {L : List Int}, (∀ l ∈ L, dm2 (f l) = dm l) → off (axs dm2 (L.map f)) τ = off (axs dm L) (τ ∘ f) ∧ size (axs dm2 (L.map f)) = size (axs dm L)
  | [], _ => ⟨rfl, rfl⟩
  | l :: L, h => by
    obtain ⟨h1, h2⟩ := off_ren τ (L := L) fun x hx => h x (by simp [hx])
    rw [List.map_cons, axs_cons, axs_cons, off, off, size, size, h1, h2, h l (by simp)]
    exact ⟨rfl, rfl⟩
end
section
variable {k p n : Int} (hr : ringOk k p n = true)
variable {dm dm2 : Int → Int} {U U2 : List Int} {ts : List (NT k p n)} {op : List Int}
structure Ren (f dm dm2 : Int → Int) (U U2 : List Int) : Prop where
  uni : Uni dm2 U2
  dim : ∀ x ∈ U, dm2 (f x) = dm x
  inj : ∀ x ∈ U, ∀ y ∈ U, f x = f y → x = y
  into : ∀ x ∈ U, f x ∈ U2
theorem nodup_ren {f : Int → Int} : ∀ {L : List Int}, (∀ x ∈ L, ∀ y ∈ L, f x = f y → x = y) → L.Nodup → (L.map f).Nodup
  | [], _, _ => List.nodup_nil
  | l :: L, h, hn => by
    rw [List.nodup_cons] at hn
    rw [List.map_cons, List.nodup_cons]
    refine ⟨fun hm => ?_, nodup_ren (fun x hx y hy => h x (by simp [hx]) y (by simp [hy])) hn.2⟩
    obtain ⟨y, hy, e⟩ := List.mem_map.1 hm
    exact hn.1 (h y (by simp [hy]) l (by simp) e ▸ hy)
theorem Ren.sub {f : Int → Int} (g : Ren f dm dm2 U U2) {L : List Int} (s : Sub U L) : Sub U2 (L.map f) :=
  ⟨nodup_ren (fun x hx y hy e => g.inj x (s.sub x hx) y (s.sub y hy) e) s.nodup, fun l hl => by
    obtain ⟨x, hx, rfl⟩ := List.mem_map.1 hl
    exact g.into x (s.sub x hx)⟩
theorem Ren.size {f : Int → Int} (g : Ren f dm dm2 U U2) {L : List Int} (s : Sub U L) : size (axs dm2 (L.map f)) = Proofs.Ytpegckmagiaggaa.size (axs dm L) := (off_ren σ0 fun x hx => g.dim x (s.sub x hx)).2
end
section
variable {α β : Type}
def dropGo (l : List α) (i j m : Nat) : List α := (List.range m).filterMap fun q => if q = i ∨ q = j then none else l[q]?
def drop2 (l : List α) (i j : Nat) : List α := dropGo l i j l.length
theorem dropGo_no {l : List α} {i j m : Nat} (h : m = i ∨ m = j) : dropGo l i j (m + 1) = dropGo l i j m := by
  unfold dropGo
  rw [List.range_succ, List.filterMap_append]
  simp [h]
theorem dropGo_yes {l : List α} {i j m : Nat} (h : ¬ (m = i ∨ m = j)) {x : α} (hx : l[m]? = some x) : dropGo l i j (m + 1) = dropGo l i j m ++ [x] := by
  unfold dropGo
  rw [List.range_succ, List.filterMap_append]
  simp [h, hx]
theorem mem_dropGo {l : List α} {i j m : Nat} {x : α} : x ∈ dropGo l i j m ↔ ∃ q, q < m ∧ ¬ (q = i ∨ q = j) ∧ l[q]? = some x := by
  unfold dropGo
  rw [List.mem_filterMap]
  constructor
  · rintro ⟨q, hq, h⟩
    by_cases e : q = i ∨ q = j
    · rw [if_pos e] at h; cases h
    · rw [if_neg e] at h; exact ⟨q, List.mem_range.1 hq, e, h⟩
  · rintro ⟨q, hq, e, h⟩
    exact ⟨q, List.mem_range.2 hq, by rw [if_neg e]; exact h⟩
theorem mem_drop2 {l : List α} {i j : Nat} {x : α} : x ∈ drop2 l i j ↔ ∃ q, ¬ (q = i ∨ q = j) ∧ l[q]? = some x := by
  unfold drop2
  rw [mem_dropGo]
  exact ⟨fun ⟨q, _, a, b⟩ => ⟨q, a, b⟩, fun ⟨q, a, b⟩ => ⟨q, (List.getElem?_eq_some_iff.1 b).1, a, b⟩⟩
theorem filter_take_drop {l : List α} {i : Nat} {x : α} (h : l[i]? = some x) : l.Perm (x :: dropGo l i i l.length) := by
  have key : ∀ m, m ≤ l.length → (l.take m).Perm ((if i < m then [x] else []) ++ dropGo l i i m) := by
    intro m
    induction m with
    | zero => intro _; simp [dropGo]
    | succ m ih =>
      intro hm
      obtain ⟨y, hy⟩ : ∃ y, l[m]? = some y := ⟨_, List.getElem?_eq_getElem (by omega)⟩
      rw [List.take_add_one, hy]
      by_cases e : m = i
      · subst e
        rw [h] at hy; cases hy
        rw [dropGo_no (.inl rfl), if_pos (by omega)]
        have := ih (by omega)
        rw [if_neg (by omega), List.nil_append] at this
        exact (List.Perm.append_right _ this).trans List.perm_append_comm
      · rw [dropGo_yes (by omega) hy, ← List.append_assoc]
        have e2 : (i < m + 1) = (i < m) := by rw [eq_iff_iff]; omega
        simp only [e2]
        exact List.Perm.append_right _ (ih (by omega))
  have := key l.length (Nat.le_refl _)
  rw [List.take_length, if_pos (List.getElem?_eq_some_iff.1 h).1] at this
  exact this
theorem two_perm {l : List α} {i j : Nat} (hij : i ≠ j) {x y : α} (hx : l[i]? = some x) (hy : l[j]? = some y) : l.Perm (x :: y :: drop2 l i j) := by
  have key : ∀ m, m ≤ l.length → (l.take m).Perm ((if i < m then [x] else []) ++ ((if j < m then [y] else []) ++ dropGo l i j m)) := by
    intro m
    induction m with
    | zero => intro _; simp [dropGo]
    | succ m ih =>
      intro hm
      obtain ⟨z, hz⟩ : ∃ z, l[m]? = some z := ⟨_, List.getElem?_eq_getElem (by omega)⟩
      rw [List.take_add_one, hz]
      have h0 := ih (by omega)
      by_cases ei : m = i
      · subst ei
        rw [hx] at hz; cases hz
        rw [dropGo_no (.inl rfl), if_pos (by omega)]
        rw [if_neg (by omega), List.nil_append] at h0
        have e2 : (j < m + 1) = (j < m) := by rw [eq_iff_iff]; omega
        simp only [e2]
        exact (List.Perm.append_right _ h0).trans List.perm_append_comm
      · by_cases ej : m = j
        · subst ej
          rw [hy] at hz; cases hz
          rw [dropGo_no (.inr rfl), if_pos (by omega : m < m + 1)]
          rw [if_neg (by omega : ¬ m < m), List.nil_append] at h0
          have e2 : (i < m + 1) = (i < m) := by rw [eq_iff_iff]; omega
          simp only [e2]
          refine (List.Perm.append_right _ h0).trans ?_
          rw [List.append_assoc]
          exact List.Perm.append_left _ List.perm_append_comm
        · rw [dropGo_yes (by omega) hz]
          have e2 : (j < m + 1) = (j < m) := by rw [eq_iff_iff]; omega
          have e3 : (i < m + 1) = (i < m) := by rw [eq_iff_iff]; omega
          simp only [e2, e3]
          have := List.Perm.append_right [z] h0
          simpa [List.append_assoc] using this
  have := key l.length (Nat.le_refl _)
  rw [List.take_length, if_pos (List.getElem?_eq_some_iff.1 hx).1, if_pos (List.getElem?_eq_some_iff.1 hy).1] at this
  exact this
theorem drop2_len {l : List α} {i j : Nat} (hij : i ≠ j) (hi : i < l.length) (hj : j < l.length) : (drop2 l i j).length + 2 = l.length := by
  have := (two_perm hij (List.getElem?_eq_getElem hi) (List.getElem?_eq_getElem hj)).length_eq
  simp at this; omega
end
def resK (op : List Int) (ls : List (List Int)) (i j : Nat) : List Int := op ++ (drop2 ls i j).flatten
def labAt (ls : List (List Int)) (i : Nat) : List Int := ls.getD i []
theorem labAt_get {ls : List (List Int)} {i : Nat} {l : List Int} (h : ls[i]? = some l) : labAt ls i = l := by
  unfold labAt; rw [List.getD_eq_getElem?_getD, h]; rfl
def resL (op : List Int) (ls : List (List Int)) (i j : Nat) : List Int := keepL (joinL (labAt ls i) (labAt ls j)) (resK op ls i j)
section
variable {k p n : Int} (hr : ringOk k p n = true)
variable {dm : Int → Int} {U : List Int} {ts : List (NT k p n)} {op : List Int}
def datAt (ts : List (NT k p n)) (i : Nat) : List (El k p n) := (ts[i]?.map (·.2)).getD []
def stepN (dm : Int → Int) (op : List Int) (ts : List (NT k p n)) (i j : Nat) : List (NT k p n) :=
  drop2 ts i j ++ [(resL op (ts.map (·.1)) i j, contrXs hr dm (labAt (ts.map (·.1)) i) (labAt (ts.map (·.1)) j) (resL op (ts.map (·.1)) i j) (datAt ts i) (datAt ts j))]
theorem labAt_map {i : Nat} {t : NT k p n} (h : ts[i]? = some t) : labAt (ts.map (·.1)) i = t.1 := labAt_get (by rw [List.getElem?_map, h]; rfl)
theorem datAt_get {i : Nat} {t : NT k p n} (h : ts[i]? = some t) : datAt ts i = t.2 := by unfold datAt; rw [h]; rfl
end
def numStep (ns : List Int) (nx : Int) (s : Int × Int) : List Int := drop2 ns (findL ns s.1).toNat (findL ns s.2).toNat ++ [nx]
set_option maxRecDepth 100000 in
set_option maxHeartbeats 4000000 in
theorem equalTensors_any (va vb : Value) (L D X L' D' X' : List Int) (w : World) (ha : TenS w va L D X) (hb : TenS w vb L' D' X') : Calls Try.prog 189 #[va, vb] w fun e w' => e = .returned (.bool ((L == L') && ((D == D') && (X == X')))) ∧ Ext w w' := by
 have ha0 := ha
 obtain ⟨ap1, an1, ac1, ap2, an2, ac2, ap3, an3, ac3, rfl⟩ := ha.shape
 obtain ⟨_, _, _, hvv, haL, haD, haX⟩ := ha.val
 simp at hvv
 obtain ⟨rfl, rfl, rfl⟩ := hvv
 have hb0 := hb
 obtain ⟨bp1, bn1, bc1, bp2, bn2, bc2, bp3, bn3, bc3, rfl⟩ := hb.shape
 obtain ⟨_, _, _, hvv, hbL, hbD, hbX⟩ := hb.val
 simp at hvv
 obtain ⟨rfl, rfl, rfl⟩ := hvv
 go_enter Try.func189, Try.ntmps189
 go_upto_region 1 with fail
 have hH : Held w w [] := Held.new (Ext.refl w) 0
 have hB : Held w (w.alloc (.cells #[.slice ap1 an1 ac1, .slice ap2 an2 ac2, .slice ap3 an3 ac3] 32)) [aB (w.heap.size) 32 [.slice ap1 an1 ac1, .slice ap2 an2 ac2, .slice ap3 an3 ac3]] := by
  have h := (hH.mores 1).addB 0 #[.slice ap1 an1 ac1, .slice ap2 an2 ac2, .slice ap3 an3 ac3] 32
  exact h
 have hsz : (w.alloc (.cells #[.slice ap1 an1 ac1, .slice ap2 an2 ac2, .slice ap3 an3 ac3] 32)).heap.size = w.heap.size + 1 := by simp
 generalize w.alloc (.cells #[.slice ap1 an1 ac1, .slice ap2 an2 ac2, .slice ap3 an3 ac3] 32) = wn1 at hB hsz ⊢
 replace hH := hB; have HSZwn1 := Lib.hid hsz; clear hB hsz
 have hB : Held w (wn1.alloc (.cells #[.slice bp1 bn1 bc1, .slice bp2 bn2 bc2, .slice bp3 bn3 bc3] 32)) [aB (w.heap.size) 32 [.slice ap1 an1 ac1, .slice ap2 an2 ac2, .slice ap3 an3 ac3], aB (w.heap.size + 1) 32 [.slice bp1 bn1 bc1, .slice bp2 bn2 bc2, .slice bp3 bn3 bc3]] := by
  have h := (hH.mores 1).addB 1 #[.slice bp1 bn1 bc1, .slice bp2 bn2 bc2, .slice bp3 bn3 bc3] 32
  rw [HSZwn1.out] at h
  exact h
 have hsz : (wn1.alloc (.cells #[.slice bp1 bn1 bc1, .slice bp2 bn2 bc2, .slice bp3 bn3 bc3] 32)).heap.size = w.heap.size + 1 + 1 := by rw [← HSZwn1.out]; simp
 generalize wn1.alloc (.cells #[.slice bp1 bn1 bc1, .slice bp2 bn2 bc2, .slice bp3 bn3 bc3] 32) = wn2 at hB hsz ⊢
 replace hH := hB; have HSZwn2 := Lib.hid hsz; clear hB hsz
 obtain ⟨wz, rfl⟩ : ∃ q, q = wn2 := ⟨wn2, rfl⟩
 obtain ⟨q0_0, q0_1, q0_2, l0_⟩ := hH.c3 0 rfl; obtain ⟨q1_0, q1_1, q1_2, l1_⟩ := hH.c3 1 rfl
 go_wp2_with fail
 clear q0_0 q0_1 q0_2 l0_ q1_0 q1_1 q1_2 l1_
 refine (equalInts_ext _ _ L L' _ (haL.ext hH.ext) (hbL.ext hH.ext)).mono ?_; rintro ewn3 wn3 ⟨rfl, hwn3⟩
 replace hH : Held w wn3 [aB (w.heap.size) 32 [.slice ap1 an1 ac1, .slice ap2 an2 ac2, .slice ap3 an3 ac3], aB (w.heap.size + 1) 32 [.slice bp1 bn1 bc1, .slice bp2 bn2 bc2, .slice bp3 bn3 bc3]] := hH.grow hwn3
 clear hwn3
 cases h1 : (L == L')
 ·
  have H1 := Lib.hid h1; clear h1
  have HE := Lib.hid hH.ext; clear hH
  go_wp2
  go_ret
  exact ⟨by rw [H1.out]; rfl, HE.out⟩
 ·
  have H1 := Lib.hid h1; clear h1
  obtain ⟨q0_0, q0_1, q0_2, l0_⟩ := hH.c3 0 rfl; obtain ⟨q1_0, q1_1, q1_2, l1_⟩ := hH.c3 1 rfl
  go_wp2_with fail
  clear q0_0 q0_1 q0_2 l0_ q1_0 q1_1 q1_2 l1_
  refine (equalInts_ext _ _ D D' _ (haD.ext hH.ext) (hbD.ext hH.ext)).mono ?_; rintro ewn4 wn4 ⟨rfl, hwn4⟩
  replace hH : Held w wn4 [aB (w.heap.size) 32 [.slice ap1 an1 ac1, .slice ap2 an2 ac2, .slice ap3 an3 ac3], aB (w.heap.size + 1) 32 [.slice bp1 bn1 bc1, .slice bp2 bn2 bc2, .slice bp3 bn3 bc3]] := hH.grow hwn4
  clear hwn4
  cases h2 : (D == D')
  ·
   have H2 := Lib.hid h2; clear h2
   have HE := Lib.hid hH.ext; clear hH
   go_wp2
   go_ret
   exact ⟨by rw [H1.out, H2.out]; rfl, HE.out⟩
  ·
   have H2 := Lib.hid h2; clear h2
   obtain ⟨q0_0, q0_1, q0_2, l0_⟩ := hH.c3 0 rfl; obtain ⟨q1_0, q1_1, q1_2, l1_⟩ := hH.c3 1 rfl
   go_wp2_with fail
   clear q0_0 q0_1 q0_2 l0_ q1_0 q1_1 q1_2 l1_
   refine (equalInts_ext _ _ X X' _ (haX.ext hH.ext) (hbX.ext hH.ext)).mono ?_; rintro ewn5 wn5 ⟨rfl, hwn5⟩
   replace hH : Held w wn5 [aB (w.heap.size) 32 [.slice ap1 an1 ac1, .slice ap2 an2 ac2, .slice ap3 an3 ac3], aB (w.heap.size + 1) 32 [.slice bp1 bn1 bc1, .slice bp2 bn2 bc2, .slice bp3 bn3 bc3]] := hH.grow hwn5
   clear hwn5
   cases h3 : (X == X')
   ·
    have H3 := Lib.hid h3; clear h3
    have HE := Lib.hid hH.ext; clear hH
    go_wp2
    go_ret
    exact ⟨by rw [H1.out, H2.out, H3.out]; rfl, HE.out⟩
   ·
    have H3 := Lib.hid h3; clear h3
    have HE := Lib.hid hH.ext; clear hH
    go_wp2
    go_ret
    exact ⟨by rw [H1.out, H2.out, H3.out]; rfl, HE.out⟩
theorem take_next {α : Type} {A B : List α} {j : Nat} {a b : α} (h : A.take j = B.take j) (ha : A[j]? = some a) (hb : B[j]? = some b) (e : a = b) : A.take (j + 1) = B.take (j + 1) := by
  rw [List.take_add_one, List.take_add_one, ha, hb, h, e]
theorem ten_beq {L D X L' D' X' : List Int} : ((L == L') && ((D == D') && (X == X'))) = true ↔ (L, D, X) = (L', D', X') := by simp
set_option maxRecDepth 100000 in
set_option maxHeartbeats 4000000 in
theorem equalNetworks_any (k p n : Int) (A B : List (List Int × List Int × List Int)) (O : List Int) (tv ov tu ou : Value) (w : World) (hA : TensS w tv A) (hO : IntS w ov O) (hB : TensS w tu B) (hQ : IntS w ou O) :
 Calls Try.prog 142 #[.agg #[.int .i64 k, .int .i64 p, .int .i64 n, tv, ov], .agg #[.int .i64 k, .int .i64 p, .int .i64 n, tu, ou]] w fun e w' => ∃ b, e = .returned (.bool b) ∧ (b = true ↔ A = B) ∧ Ext w w' := by
 have hA0 := hA
 have hB0 := hB
 obtain ⟨m, hm⟩ : ∃ m, A.length = m := ⟨_, rfl⟩
 obtain ⟨m2, hm2⟩ : ∃ m, B.length = m := ⟨_, rfl⟩
 obtain ⟨aV, cV, rfl, hcT1, hcT2⟩ := hA.val
 obtain ⟨aW, cW, rfl, hcW1, hcW2⟩ := hB.val
 obtain ⟨aO, cO, rfl, hcO1, hcO2⟩ := hO.val
 obtain ⟨aQ, cQ, rfl, hcQ1, hcQ2⟩ := hQ.val
 rw [hm] at hA hA0 hcT1
 rw [hm2] at hB hB0 hcW1
 rw [hm, hm2]
 have HM := Lib.hid hm; have HM2 := Lib.hid hm2; clear hm hm2
 have qO : (O == O) = true := by simp
 go_enter Try.func142, Try.ntmps142
 go_upto_region 1 with fail
 have hH : Held w w [] := Held.new (Ext.refl w) 0
 have hB : Held w (w.alloc (.cells #[.int .i64 k, .int .i64 p, .int .i64 n, .slice aV m cV, .slice aO O.length cO] 29)) [aB (w.heap.size) 29 [.int .i64 k, .int .i64 p, .int .i64 n, .slice aV m cV, .slice aO O.length cO]] := by
  have h := (hH.mores 1).addB 0 #[.int .i64 k, .int .i64 p, .int .i64 n, .slice aV m cV, .slice aO O.length cO] 29
  exact h
 have hsz : (w.alloc (.cells #[.int .i64 k, .int .i64 p, .int .i64 n, .slice aV m cV, .slice aO O.length cO] 29)).heap.size = w.heap.size + 1 := by simp
 generalize w.alloc (.cells #[.int .i64 k, .int .i64 p, .int .i64 n, .slice aV m cV, .slice aO O.length cO] 29) = wn1 at hB hsz ⊢
 replace hH := hB; have HSZwn1 := Lib.hid hsz; clear hB hsz
 have hB : Held w (wn1.alloc (.cells #[.int .i64 k, .int .i64 p, .int .i64 n, .slice aW m2 cW, .slice aQ O.length cQ] 29)) [aB (w.heap.size) 29 [.int .i64 k, .int .i64 p, .int .i64 n, .slice aV m cV, .slice aO O.length cO], aB (w.heap.size + 1) 29 [.int .i64 k, .int .i64 p, .int .i64 n, .slice aW m2 cW, .slice aQ O.length cQ]] := by
  have h := (hH.mores 1).addB 1 #[.int .i64 k, .int .i64 p, .int .i64 n, .slice aW m2 cW, .slice aQ O.length cQ] 29
  rw [HSZwn1.out] at h
  exact h
 have hsz : (wn1.alloc (.cells #[.int .i64 k, .int .i64 p, .int .i64 n, .slice aW m2 cW, .slice aQ O.length cQ] 29)).heap.size = w.heap.size + 1 + 1 := by rw [← HSZwn1.out]; simp
 generalize wn1.alloc (.cells #[.int .i64 k, .int .i64 p, .int .i64 n, .slice aW m2 cW, .slice aQ O.length cQ] 29) = wn2 at hB hsz ⊢
 replace hH := hB; have HSZwn2 := Lib.hid hsz; clear hB hsz
 obtain ⟨wz, rfl⟩ : ∃ q, q = wn2 := ⟨wn2, rfl⟩
 by_cases hmm : m = m2
 · subst hmm
   have hbb : ((m : Int) == (m : Int)) = true := by simp
   obtain ⟨q0_0, q0_1, q0_2, q0_3, q0_4, l0_⟩ := hH.c5 0 rfl; obtain ⟨q1_0, q1_1, q1_2, q1_3, q1_4, l1_⟩ := hH.c5 1 rfl
   go_wp2_with fail
   clear q0_0 q0_1 q0_2 q0_3 q0_4 l0_ q1_0 q1_1 q1_2 q1_3 q1_4 l1_
   refine (equalInts_ext _ _ O O _ (hO.ext hH.ext) (hQ.ext hH.ext)).mono ?_; rintro ewn3 wn3 ⟨rfl, hwn3⟩
   rw [qO]
   replace hH : Held w wn3 [aB (w.heap.size) 29 [.int .i64 k, .int .i64 p, .int .i64 n, .slice aV m cV, .slice aO O.length cO], aB (w.heap.size + 1) 29 [.int .i64 k, .int .i64 p, .int .i64 n, .slice aW m cW, .slice aQ O.length cQ]] := hH.grow hwn3
   clear hwn3
   obtain ⟨q0_0, q0_1, q0_2, q0_3, q0_4, l0_⟩ := hH.c5 0 rfl; obtain ⟨q1_0, q1_1, q1_2, q1_3, q1_4, l1_⟩ := hH.c5 1 rfl
   go_wp2_with fail
   clear q0_0 q0_1 q0_2 q0_3 q0_4 l0_ q1_0 q1_1 q1_2 q1_3 q1_4 l1_
   go_loopw [32] (fun i wr => ∃ (j : Nat), j ≤ m ∧ i = .int .i64 (j : Int) ∧ Hid (A.take j = B.take j) ∧ Held w wr [aB (w.heap.size) 29 [.int .i64 k, .int .i64 p, .int .i64 n, .slice aV m cV, .slice aO O.length cO], aB (w.heap.size + 1) 29 [.int .i64 k, .int .i64 p, .int .i64 n, .slice aW m cW, .slice aQ O.length cQ]]) (fun i wr => m - (RowKit.intOf i).toNat)
   case atStart => exact ⟨0, Nat.zero_le _, rfl, Lib.hid rfl, hH⟩
   case round =>
    clear hH
    obtain ⟨j, hj, rfl, HT, hH⟩ := hrel
    obtain ⟨wq, rfl⟩ : ∃ q, q = wr := ⟨wr, rfl⟩
    by_cases hlt : j < m
    ·
     obtain ⟨bTa, oTa, u1, u2, u3, t3a, hV, hu0a, hu1a, hu2a, ht3, hTua⟩ := hA.get (i := j) (by rw [HM.out]; exact hlt)
     subst hV
     have HTJa := Lib.hid ht3; clear ht3
     obtain ⟨tla, tda, txa⟩ := t3a
     obtain ⟨e1a, m1a, f1a, e2a, m2a, f2a, e3a, m3a, f3a, hvv⟩ := hTua.shape
     simp at hvv
     obtain ⟨rfl, rfl, rfl⟩ := hvv
     rw [Nat.mul_comm 3 j] at hu0a hu1a hu2a
     simp only at hTua
     obtain ⟨bTb, oTb, u1, u2, u3, t3b, hV, hu0b, hu1b, hu2b, ht3, hTub⟩ := hB.get (i := j) (by rw [HM2.out]; exact hlt)
     subst hV
     have HTJb := Lib.hid ht3; clear ht3
     obtain ⟨tlb, tdb, txb⟩ := t3b
     obtain ⟨e1b, m1b, f1b, e2b, m2b, f2b, e3b, m3b, f3b, hvv⟩ := hTub.shape
     simp at hvv
     obtain ⟨rfl, rfl, rfl⟩ := hvv
     rw [Nat.mul_comm 3 j] at hu0b hu1b hu2b
     simp only at hTub
     obtain ⟨q0_0, q0_1, q0_2, q0_3, q0_4, l0_⟩ := hH.c5 0 rfl; obtain ⟨q1_0, q1_1, q1_2, q1_3, q1_4, l1_⟩ := hH.c5 1 rfl; have c_hu0a := hH.ext.cell hu0a; have c_hu1a := hH.ext.cell hu1a; have c_hu2a := hH.ext.cell hu2a; have c_hu0b := hH.ext.cell hu0b; have c_hu1b := hH.ext.cell hu1b; have c_hu2b := hH.ext.cell hu2b
     go_upto_region 6 with fail
     clear q0_0 q0_1 q0_2 q0_3 q0_4 l0_ q1_0 q1_1 q1_2 q1_3 q1_4 l1_ c_hu0a c_hu1a c_hu2a c_hu0b c_hu1b c_hu2b
     have hB : Held w (wq.alloc (.cells #[.slice e1a m1a f1a, .slice e2a m2a f2a, .slice e3a m3a f3a] 32)) [aB (w.heap.size) 29 [.int .i64 k, .int .i64 p, .int .i64 n, .slice (some ⟨bTa, oTa, none⟩) m cV, .slice aO O.length cO], aB (w.heap.size + 1) 29 [.int .i64 k, .int .i64 p, .int .i64 n, .slice (some ⟨bTb, oTb, none⟩) m cW, .slice aQ O.length cQ], aB (wq.heap.size) 32 [.slice e1a m1a f1a, .slice e2a m2a f2a, .slice e3a m3a f3a]] := by
      have h := (hH.mores 1).addB 2 #[.slice e1a m1a f1a, .slice e2a m2a f2a, .slice e3a m3a f3a] 32
      exact h
     have hsz : (wq.alloc (.cells #[.slice e1a m1a f1a, .slice e2a m2a f2a, .slice e3a m3a f3a] 32)).heap.size = wq.heap.size + 1 := by simp
     generalize wq.alloc (.cells #[.slice e1a m1a f1a, .slice e2a m2a f2a, .slice e3a m3a f3a] 32) = wn4 at hB hsz ⊢
     replace hH := hB; have HSZwn4 := Lib.hid hsz; clear hB hsz
     obtain ⟨q0_0, q0_1, q0_2, q0_3, q0_4, l0_⟩ := hH.c5 0 rfl; obtain ⟨q1_0, q1_1, q1_2, q1_3, q1_4, l1_⟩ := hH.c5 1 rfl; obtain ⟨q2_0, q2_1, q2_2, l2_⟩ := hH.c3 2 rfl; have c_hu0a := hH.ext.cell hu0a; have c_hu1a := hH.ext.cell hu1a; have c_hu2a := hH.ext.cell hu2a; have c_hu0b := hH.ext.cell hu0b; have c_hu1b := hH.ext.cell hu1b; have c_hu2b := hH.ext.cell hu2b; clear q0_0 q0_1 q0_2 q0_3 q0_4 l0_ q1_0 q1_1 q1_2 q1_3 q1_4 l1_ q2_0 q2_1 q2_2 l2_ c_hu0a c_hu1a c_hu2a c_hu0b c_hu1b c_hu2b
     obtain ⟨wy, rfl⟩ : ∃ q, q = wn4 := ⟨wn4, rfl⟩
     obtain ⟨qb, hqb⟩ : ∃ q, ((tla == tlb) && ((tda == tdb) && (txa == txb))) = q := ⟨_, rfl⟩
     have HQB := Lib.hid hqb; clear hqb
     refine wp_region_steps ?Fs (fun b t wx => Held w wx [aB (w.heap.size) 29 [.int .i64 k, .int .i64 p, .int .i64 n, .slice (some ⟨bTa, oTa, none⟩) m cV, .slice aO O.length cO], aB (w.heap.size + 1) 29 [.int .i64 k, .int .i64 p, .int .i64 n, .slice (some ⟨bTb, oTb, none⟩) m cW, .slice aQ O.length cQ], aB (wq.heap.size) 32 [.slice e1a m1a f1a, .slice e2a m2a f2a, .slice e3a m3a f3a]] ∧ (b 0 = true → t 0 = .agg #[.slice e1a m1a f1a, .slice e2a m2a f2a, .slice e3a m3a f3a]) ∧ (b 1 = true → t 1 = .pointer (some ⟨w.heap.size + 1, 3, none⟩)) ∧ (b 2 = true → t 2 = .slice (some ⟨bTb, oTb, none⟩) m cW) ∧ (b 3 = true → t 3 = .int .i64 (j : Int)) ∧ (b 4 = true → t 4 = .pointer (some ⟨bTb, oTb + j * 3, none⟩)) ∧ (b 5 = true → t 5 = .agg #[.slice e1b m1b f1b, .slice e2b m2b f2b, .slice e3b m3b f3b]) ∧ (b 6 = true → t 6 = .bool qb) ∧ (b 7 = true → t 7 = .bool !qb)) ?hFs (by kernel_rfl) (by kernel_rfl) ?hJs ?hSs ?hEs
     (case hFs => intro t; simp only [putAll, Act.put, List.setIfInBounds_toArray, List.set_cons_zero, List.set_cons_succ, Nat.reduceAdd, Nat.zero_add]; exact rfl)
     case hJs => exact ⟨hH.grow ((Ext.refl _).drew), nof, nof, nof, nof, nof, nof, nof, nof⟩
     case hSs => as_aux_lemma =>
       refine AllSteps.cons (j := 1) rfl (fun b t wx hJ hb hd hcl Kc hK => ?_) ?_
       · obtain ⟨hH, v0, v1, v2, v3, v4, v5, v6, v7⟩ := hJ
         have c_hu0b := hH.ext.cell hu0b; have c_hu1b := hH.ext.cell hu1b; have c_hu2b := hH.ext.cell hu2b; have q2_0 := hH.cl 2 0 rfl rfl; have q2_1 := hH.cl 2 1 rfl rfl; have q2_2 := hH.cl 2 2 rfl rfl
         go_simp
         refine hK.out _ ?_ _ ?_ ?_; rotate_left 2
         · rfl
         exact ⟨hH, fun _ => rfl, v1, v2, v3, v4, v5, v6, v7⟩
       refine AllSteps.cons (j := 2) rfl (fun b t wx hJ hb hd hcl Kc hK => ?_) ?_
       · obtain ⟨hH, v0, v1, v2, v3, v4, v5, v6, v7⟩ := hJ
         have c_hu0b := hH.ext.cell hu0b; have c_hu1b := hH.ext.cell hu1b; have c_hu2b := hH.ext.cell hu2b
         go_simp
         refine hK.out _ ?_ _ ?_ ?_; rotate_left 2
         · rfl
         exact ⟨hH, v0, fun _ => rfl, v2, v3, v4, v5, v6, v7⟩
       refine AllSteps.cons (j := 3) rfl (fun b t wx hJ hb hd hcl Kc hK => ?_) ?_
       · obtain ⟨hH, v0, v1, v2, v3, v4, v5, v6, v7⟩ := hJ
         have d1 := hd.out 1 (by kernel_rfl); have r1 := v1 d1; have c_hu0b := hH.ext.cell hu0b; have c_hu1b := hH.ext.cell hu1b; have c_hu2b := hH.ext.cell hu2b; have q1_3 := hH.cl 1 3 rfl rfl
         go_simp
         refine hK.out _ ?_ _ ?_ ?_; rotate_left 2
         · (try simp only [r1]); rfl
         exact ⟨hH, v0, v1, fun _ => rfl, v3, v4, v5, v6, v7⟩
       refine AllSteps.cons (j := 4) rfl (fun b t wx hJ hb hd hcl Kc hK => ?_) ?_
       · obtain ⟨hH, v0, v1, v2, v3, v4, v5, v6, v7⟩ := hJ
         have c_hu0b := hH.ext.cell hu0b; have c_hu1b := hH.ext.cell hu1b; have c_hu2b := hH.ext.cell hu2b
         go_simp
         refine hK.out _ ?_ _ ?_ ?_; rotate_left 2
         · rfl
         exact ⟨hH, v0, v1, v2, fun _ => rfl, v4, v5, v6, v7⟩
       refine AllSteps.cons (j := 5) rfl (fun b t wx hJ hb hd hcl Kc hK => ?_) ?_
       · obtain ⟨hH, v0, v1, v2, v3, v4, v5, v6, v7⟩ := hJ
         have d2 := hd.out 2 (by kernel_rfl); have d3 := hd.out 3 (by kernel_rfl); have r2 := v2 d2; have r3 := v3 d3; have c_hu0b := hH.ext.cell hu0b; have c_hu1b := hH.ext.cell hu1b; have c_hu2b := hH.ext.cell hu2b
         go_simp
         refine hK.out _ ?_ _ ?_ ?_; rotate_left 2
         · (try simp only [r2, r3]); rfl
         exact ⟨hH, v0, v1, v2, v3, fun _ => rfl, v5, v6, v7⟩
       refine AllSteps.cons (j := 6) rfl (fun b t wx hJ hb hd hcl Kc hK => ?_) ?_
       · obtain ⟨hH, v0, v1, v2, v3, v4, v5, v6, v7⟩ := hJ
         have d4 := hd.out 4 (by kernel_rfl); have r4 := v4 d4; have c_hu0b := hH.ext.cell hu0b; have c_hu1b := hH.ext.cell hu1b; have c_hu2b := hH.ext.cell hu2b
         go_simp
         refine hK.out _ ?_ _ ?_ ?_; rotate_left 2
         · (try simp only [r4]); rfl
         exact ⟨hH, v0, v1, v2, v3, v4, fun _ => rfl, v6, v7⟩
       refine AllSteps.cons (j := 7) rfl (fun b t wx hJ hb hd hcl Kc hK => ?_) ?_
       · obtain ⟨hH, v0, v1, v2, v3, v4, v5, v6, v7⟩ := hJ
         have d0 := hd.out 0 (by kernel_rfl); have d5 := hd.out 5 (by kernel_rfl); have r0 := v0 d0; have r5 := v5 d5
         go_simp
         go_at_call 189
         refine (equalTensors_any _ _ tla tda txa tlb tdb txb _ (hTua.ext hH.ext) (hTub.ext hH.ext)).mono ?_; rintro e6 w6 ⟨rfl, h6⟩
         rw [HQB.out]
         (try go_simp)
         refine hK.out _ ?_ _ ?_ ?_; rotate_left 2
         · (try simp only [r0, r5]); rfl
         exact ⟨by have hX := hH.grow h6; simpa only [List.set_cons_zero, List.set_cons_succ, updB, updV, blkOf_mk, tup0_mk, partsOf3, Nat.reduceBEq, cond_true, cond_false, hb, d0, d5, r0, r5] using hX, v0, v1, v2, v3, v4, v5, fun _ => rfl, v7⟩
       refine AllSteps.cons (j := 8) rfl (fun b t wx hJ hb hd hcl Kc hK => ?_) ?_
       · obtain ⟨hH, v0, v1, v2, v3, v4, v5, v6, v7⟩ := hJ
         have d6 := hd.out 6 (by kernel_rfl); have r6 := v6 d6; have c_hu0b := hH.ext.cell hu0b; have c_hu1b := hH.ext.cell hu1b; have c_hu2b := hH.ext.cell hu2b
         go_simp
         refine hK.out _ ?_ _ ?_ ?_; rotate_left 2
         · (try simp only [r6]); rfl
         exact ⟨hH, v0, v1, v2, v3, v4, v5, v6, fun _ => rfl⟩
       exact AllSteps.nil
     case hEs =>
      intro b t ws hJ hall
      obtain ⟨hHs, v0, v1, v2, v3, v4, v5, v6, v7⟩ := hJ
      have a0 := hall 0 (by decide); have a1 := hall 1 (by decide); have a2 := hall 2 (by decide); have a3 := hall 3 (by decide); have a4 := hall 4 (by decide); have a5 := hall 5 (by decide); have a6 := hall 6 (by decide); have a7 := hall 7 (by decide)
      (try simp only [a0, a1, a2, a3, a4, a5, a6, a7, cond_true] at hHs)
      replace v0 := v0 a0; replace v1 := v1 a1; replace v2 := v2 a2; replace v3 := v3 a3; replace v4 := v4 a4; replace v5 := v5 a5; replace v6 := v6 a6; replace v7 := v7 a7
      clear hall a0 a1 a2 a3 a4 a5 a6 a7
      generalize t 7 = x7 at hHs v7 ⊢; generalize t 6 = x6 at hHs v6 ⊢; generalize t 5 = x5 at hHs v5 ⊢; generalize t 4 = x4 at hHs v4 ⊢; generalize t 3 = x3 at hHs v3 ⊢; generalize t 2 = x2 at hHs v2 ⊢; generalize t 1 = x1 at hHs v1 ⊢; generalize t 0 = x0 at hHs v0 ⊢; subst v0; subst v1; subst v2; subst v3; subst v4; subst v5; subst v6; subst v7
      clear b
      replace hH := hHs; clear hHs
      replace hH : Held w ws [aB (w.heap.size) 29 [.int .i64 k, .int .i64 p, .int .i64 n, .slice (some ⟨bTa, oTa, none⟩) m cV, .slice aO O.length cO], aB (w.heap.size + 1) 29 [.int .i64 k, .int .i64 p, .int .i64 n, .slice (some ⟨bTb, oTb, none⟩) m cW, .slice aQ O.length cQ], aB (wq.heap.size) 32 [.slice e1a m1a f1a, .slice e2a m2a f2a, .slice e3a m3a f3a]] := hH
      obtain ⟨wx, rfl⟩ : ∃ q, q = ws := ⟨ws, rfl⟩
      cases qb
      ·
       have HNE : Hid (A ≠ B) := Lib.hid (fun e => by have h := HTJa.out; rw [e, HTJb.out] at h; have h2 := ten_beq.2 (Option.some.inj h).symm; rw [HQB.out] at h2; cases h2)
       have HE := Lib.hid hH.ext; clear hH
       go_wp2
       go_ret
       exact ⟨false, rfl, ⟨fun h => (by cases h), fun h => absurd h HNE.out⟩, HE.out⟩
      ·
       have HTN : Hid (A.take (j + 1) = B.take (j + 1)) := Lib.hid (take_next HT.out HTJa.out HTJb.out (ten_beq.1 HQB.out))
       obtain ⟨q0_0, q0_1, q0_2, q0_3, q0_4, l0_⟩ := hH.c5 0 rfl; obtain ⟨q1_0, q1_1, q1_2, q1_3, q1_4, l1_⟩ := hH.c5 1 rfl; obtain ⟨q2_0, q2_1, q2_2, l2_⟩ := hH.c3 2 rfl
       go_wp2_with fail
       clear q0_0 q0_1 q0_2 q0_3 q0_4 l0_ q1_0 q1_1 q1_2 q1_3 q1_4 l1_ q2_0 q2_1 q2_2 l2_
       go_roundw
       case rel => exact ⟨j + 1, by omega, by go_num, HTN, hH.sub (.cons_cons _ (.cons_cons _ (.cons _ .slnil)))⟩
       case measure => simp [RowKit.intOf]; omega
    ·
     have hje : j = m := by omega
     subst hje
     have HAB : Hid (A = B) := Lib.hid (by have h := HT.out; rwa [List.take_of_length_le (by rw [HM.out]; exact Nat.le_refl _), List.take_of_length_le (by rw [HM2.out]; exact Nat.le_refl _)] at h)
     have HE := Lib.hid hH.ext; clear hH
     go_wp2
     all_goals go_ret
     all_goals exact ⟨true, rfl, ⟨fun _ => HAB.out, fun _ => rfl⟩, HE.out⟩
 ·
  have HNE : Hid (A ≠ B) := Lib.hid (fun e => hmm (by rw [← HM.out, ← HM2.out, e]))
  have hbb : ((m : Int) == (m2 : Int)) = false := by rw [beq_eq_false_iff_ne]; omega
  have hbi : ¬ (m : Int) = (m2 : Int) := by omega
  obtain ⟨q0_0, q0_1, q0_2, q0_3, q0_4, l0_⟩ := hH.c5 0 rfl; obtain ⟨q1_0, q1_1, q1_2, q1_3, q1_4, l1_⟩ := hH.c5 1 rfl
  have HE := Lib.hid hH.ext; clear hH
  go_wp2
  go_ret
  exact ⟨false, rfl, ⟨fun h => (by cases h), fun h => absurd h HNE.out⟩, HE.out⟩
theorem ints_sameE (v u : Value) (l : List Int) (w : World) (hl : IntS w v l) (hm : IntS w u l) : Calls Try.prog 32 #[v, u] w fun e w' => e = .returned (.bool true) ∧ Ext w w' :=
  (ints_same v u l l w hl hm rfl).mono fun _ _ ⟨he, hn⟩ => ⟨he, hn ▸ Ext.refl w⟩
set_option maxRecDepth 100000 in
set_option maxHeartbeats 4000000 in
theorem nets_same (k p n : Int) (A : List (List Int × List Int × List Int)) (O : List Int) (tv ov tu ou : Value) (w : World) (hA : TensS w tv A) (hO : IntS w ov O) (hB : TensS w tu A) (hQ : IntS w ou O) :
 Calls Try.prog 62 #[.agg #[.int .i64 k, .int .i64 p, .int .i64 n, tv, ov], .agg #[.int .i64 k, .int .i64 p, .int .i64 n, tu, ou]] w fun e w' => e = .returned (.bool true) ∧ Ext w w' := by
 have hA0 := hA
 have hB0 := hB
 obtain ⟨m, hm⟩ : ∃ m, A.length = m := ⟨_, rfl⟩
 obtain ⟨aV, cV, rfl, hcT1, hcT2⟩ := hA.val
 obtain ⟨aW, cW, rfl, hcW1, hcW2⟩ := hB.val
 obtain ⟨aO, cO, rfl, hcO1, hcO2⟩ := hO.val
 obtain ⟨aQ, cQ, rfl, hcQ1, hcQ2⟩ := hQ.val
 rw [hm] at hA hA0 hcT1 hB hB0 hcW1
 rw [hm]
 have HM := Lib.hid hm; clear hm
 go_enter Try.func62, Try.ntmps62
 go_upto_region 1 with fail
 have hH : Held w w [] := Held.new (Ext.refl w) 0
 have hB : Held w (w.alloc (.cells #[.int .i64 k, .int .i64 p, .int .i64 n, .slice aV m cV, .slice aO O.length cO] 29)) [aB (w.heap.size) 29 [.int .i64 k, .int .i64 p, .int .i64 n, .slice aV m cV, .slice aO O.length cO]] := by
  have h := (hH.mores 1).addB 0 #[.int .i64 k, .int .i64 p, .int .i64 n, .slice aV m cV, .slice aO O.length cO] 29
  exact h
 have hsz : (w.alloc (.cells #[.int .i64 k, .int .i64 p, .int .i64 n, .slice aV m cV, .slice aO O.length cO] 29)).heap.size = w.heap.size + 1 := by simp
 generalize w.alloc (.cells #[.int .i64 k, .int .i64 p, .int .i64 n, .slice aV m cV, .slice aO O.length cO] 29) = wn1 at hB hsz ⊢
 replace hH := hB; have HSZwn1 := Lib.hid hsz; clear hB hsz
 have hB : Held w (wn1.alloc (.cells #[.int .i64 k, .int .i64 p, .int .i64 n, .slice aW m cW, .slice aQ O.length cQ] 29)) [aB (w.heap.size) 29 [.int .i64 k, .int .i64 p, .int .i64 n, .slice aV m cV, .slice aO O.length cO], aB (w.heap.size + 1) 29 [.int .i64 k, .int .i64 p, .int .i64 n, .slice aW m cW, .slice aQ O.length cQ]] := by
  have h := (hH.mores 1).addB 1 #[.int .i64 k, .int .i64 p, .int .i64 n, .slice aW m cW, .slice aQ O.length cQ] 29
  rw [HSZwn1.out] at h
  exact h
 have hsz : (wn1.alloc (.cells #[.int .i64 k, .int .i64 p, .int .i64 n, .slice aW m cW, .slice aQ O.length cQ] 29)).heap.size = w.heap.size + 1 + 1 := by rw [← HSZwn1.out]; simp
 generalize wn1.alloc (.cells #[.int .i64 k, .int .i64 p, .int .i64 n, .slice aW m cW, .slice aQ O.length cQ] 29) = wn2 at hB hsz ⊢
 replace hH := hB; have HSZwn2 := Lib.hid hsz; clear hB hsz
 obtain ⟨wz, rfl⟩ : ∃ q, q = wn2 := ⟨wn2, rfl⟩
 obtain ⟨q0_0, q0_1, q0_2, q0_3, q0_4, l0_⟩ := hH.c5 0 rfl; obtain ⟨q1_0, q1_1, q1_2, q1_3, q1_4, l1_⟩ := hH.c5 1 rfl
 go_wp2_with fail
 clear q0_0 q0_1 q0_2 q0_3 q0_4 l0_ q1_0 q1_1 q1_2 q1_3 q1_4 l1_
 go_loopw [10] (fun i wr => ∃ (j : Nat), j ≤ m ∧ i = .int .i64 (j : Int) ∧ Held w wr [aB (w.heap.size) 29 [.int .i64 k, .int .i64 p, .int .i64 n, .slice aV m cV, .slice aO O.length cO], aB (w.heap.size + 1) 29 [.int .i64 k, .int .i64 p, .int .i64 n, .slice aW m cW, .slice aQ O.length cQ]]) (fun i wr => m - (RowKit.intOf i).toNat)
 case atStart => exact ⟨0, Nat.zero_le _, rfl, hH⟩
 case round =>
  clear hH
  obtain ⟨j, hj, rfl, hH⟩ := hrel
  obtain ⟨wq, rfl⟩ : ∃ q, q = wr := ⟨wr, rfl⟩
  by_cases hlt : j < m
  ·
   obtain ⟨bTa, oTa, u1, u2, u3, t3a, hV, hu0a, hu1a, hu2a, ht3, hTua⟩ := hA.get (i := j) (by rw [HM.out]; exact hlt)
   subst hV
   have HTJa := Lib.hid ht3; clear ht3
   obtain ⟨tla, tda, txa⟩ := t3a
   obtain ⟨e1a, m1a, f1a, e2a, m2a, f2a, e3a, m3a, f3a, hvv⟩ := hTua.shape
   simp at hvv
   obtain ⟨rfl, rfl, rfl⟩ := hvv
   rw [Nat.mul_comm 3 j] at hu0a hu1a hu2a
   simp only at hTua
   obtain ⟨bTb, oTb, u1, u2, u3, t3b, hV, hu0b, hu1b, hu2b, ht3, hTub⟩ := hB.get (i := j) (by rw [HM.out]; exact hlt)
   subst hV
   have HTJb := Lib.hid ht3; clear ht3
   obtain ⟨tlb, tdb, txb⟩ := t3b
   obtain ⟨e1b, m1b, f1b, e2b, m2b, f2b, e3b, m3b, f3b, hvv⟩ := hTub.shape
   simp at hvv
   obtain ⟨rfl, rfl, rfl⟩ := hvv
   rw [Nat.mul_comm 3 j] at hu0b hu1b hu2b
   simp only at hTub
   have hee := HTJa.out; rw [HTJb.out] at hee; simp only [Option.some.injEq, Prod.mk.injEq] at hee; obtain ⟨rfl, rfl, rfl⟩ := hee
   obtain ⟨q0_0, q0_1, q0_2, q0_3, q0_4, l0_⟩ := hH.c5 0 rfl; obtain ⟨q1_0, q1_1, q1_2, q1_3, q1_4, l1_⟩ := hH.c5 1 rfl; have c_hu0a := hH.ext.cell hu0a; have c_hu1a := hH.ext.cell hu1a; have c_hu2a := hH.ext.cell hu2a; have c_hu0b := hH.ext.cell hu0b; have c_hu1b := hH.ext.cell hu1b; have c_hu2b := hH.ext.cell hu2b
   go_upto_region 4 with fail
   clear q0_0 q0_1 q0_2 q0_3 q0_4 l0_ q1_0 q1_1 q1_2 q1_3 q1_4 l1_ c_hu0a c_hu1a c_hu2a c_hu0b c_hu1b c_hu2b
   have hB : Held w (wq.alloc (.cells #[.slice e1a m1a f1a, .slice e2a m2a f2a, .slice e3a m3a f3a] 32)) [aB (w.heap.size) 29 [.int .i64 k, .int .i64 p, .int .i64 n, .slice (some ⟨bTa, oTa, none⟩) m cV, .slice aO O.length cO], aB (w.heap.size + 1) 29 [.int .i64 k, .int .i64 p, .int .i64 n, .slice (some ⟨bTb, oTb, none⟩) m cW, .slice aQ O.length cQ], aB (wq.heap.size) 32 [.slice e1a m1a f1a, .slice e2a m2a f2a, .slice e3a m3a f3a]] := by
    have h := (hH.mores 1).addB 2 #[.slice e1a m1a f1a, .slice e2a m2a f2a, .slice e3a m3a f3a] 32
    exact h
   have hsz : (wq.alloc (.cells #[.slice e1a m1a f1a, .slice e2a m2a f2a, .slice e3a m3a f3a] 32)).heap.size = wq.heap.size + 1 := by simp
   generalize wq.alloc (.cells #[.slice e1a m1a f1a, .slice e2a m2a f2a, .slice e3a m3a f3a] 32) = wn3 at hB hsz ⊢
   replace hH := hB; have HSZwn3 := Lib.hid hsz; clear hB hsz
   obtain ⟨wy, rfl⟩ : ∃ q, q = wn3 := ⟨wn3, rfl⟩
   have hnm : ¬ (m : Int) ≤ (j : Int) := by omega
   refine wp_region_steps ?Fs (fun b t wx => Held w wx [aB (w.heap.size) 29 [.int .i64 k, .int .i64 p, .int .i64 n, .slice (some ⟨bTa, oTa, none⟩) m cV, .slice aO O.length cO], aB (w.heap.size + 1) 29 [.int .i64 k, .int .i64 p, .int .i64 n, .slice (some ⟨bTb, oTb, none⟩) m cW, .slice aQ O.length cQ], aB (wq.heap.size) 32 [.slice e1a m1a f1a, .slice e2a m2a f2a, .slice e3a m3a f3a]] ∧ (b 0 = true → t 0 = .int .i64 (j : Int)) ∧ (b 1 = true → t 1 = .pointer (some ⟨w.heap.size + 1, 3, none⟩)) ∧ (b 2 = true → t 2 = .slice (some ⟨bTb, oTb, none⟩) m cW) ∧ (b 3 = true → t 3 = .int .i64 (m : Int)) ∧ (b 4 = true → t 4 = .bool false) ∧ (b 5 = true → t 5 = .bool false) ∧ (b 6 = true → t 6 = .agg #[.slice e1a m1a f1a, .slice e2a m2a f2a, .slice e3a m3a f3a]) ∧ (b 7 = true → t 7 = .pointer (some ⟨w.heap.size + 1, 3, none⟩)) ∧ (b 8 = true → t 8 = .slice (some ⟨bTb, oTb, none⟩) m cW) ∧ (b 9 = true → t 9 = .int .i64 (j : Int)) ∧ (b 10 = true → t 10 = .pointer (some ⟨bTb, oTb + j * 3, none⟩)) ∧ (b 11 = true → t 11 = .agg #[.slice e1b m1b f1b, .slice e2b m2b f2b, .slice e3b m3b f3b]) ∧ (b 12 = true → t 12 = .bool true) ∧ (b 13 = true → t 13 = .bool false) ∧ (b 14 = true → t 14 = .bool false)) ?hFs (by kernel_rfl) (by kernel_rfl) ?hJs ?hSs ?hEs
   (case hFs => intro t; simp only [putAll, Act.put, List.setIfInBounds_toArray, List.set_cons_zero, List.set_cons_succ, Nat.reduceAdd, Nat.zero_add]; exact rfl)
   case hJs => exact ⟨hH.grow ((Ext.refl _).drew), nof, nof, nof, nof, nof, nof, nof, nof, nof, nof, nof, nof, nof, nof, nof⟩
   case hSs => as_aux_lemma =>
     refine AllSteps.cons (j := 1) rfl (fun b t wx hJ hb hd hcl Kc hK => ?_) ?_
     · obtain ⟨hH, v0, v1, v2, v3, v4, v5, v6, v7, v8, v9, v10, v11, v12, v13, v14⟩ := hJ
       have c_hu0b := hH.ext.cell hu0b; have c_hu1b := hH.ext.cell hu1b; have c_hu2b := hH.ext.cell hu2b
       go_simp
       refine hK.out _ ?_ _ ?_ ?_; rotate_left 2
       · rfl
       exact ⟨hH, fun _ => rfl, v1, v2, v3, v4, v5, v6, v7, v8, v9, v10, v11, v12, v13, v14⟩
     refine AllSteps.cons (j := 2) rfl (fun b t wx hJ hb hd hcl Kc hK => ?_) ?_
     · obtain ⟨hH, v0, v1, v2, v3, v4, v5, v6, v7, v8, v9, v10, v11, v12, v13, v14⟩ := hJ
       have c_hu0b := hH.ext.cell hu0b; have c_hu1b := hH.ext.cell hu1b; have c_hu2b := hH.ext.cell hu2b
       go_simp
       refine hK.out _ ?_ _ ?_ ?_; rotate_left 2
       · rfl
       exact ⟨hH, v0, fun _ => rfl, v2, v3, v4, v5, v6, v7, v8, v9, v10, v11, v12, v13, v14⟩
     refine AllSteps.cons (j := 3) rfl (fun b t wx hJ hb hd hcl Kc hK => ?_) ?_
     · obtain ⟨hH, v0, v1, v2, v3, v4, v5, v6, v7, v8, v9, v10, v11, v12, v13, v14⟩ := hJ
       have d1 := hd.out 1 (by kernel_rfl); have r1 := v1 d1; have c_hu0b := hH.ext.cell hu0b; have c_hu1b := hH.ext.cell hu1b; have c_hu2b := hH.ext.cell hu2b; have q1_3 := hH.cl 1 3 rfl rfl
       go_simp
       refine hK.out _ ?_ _ ?_ ?_; rotate_left 2
       · (try simp only [r1]); rfl
       exact ⟨hH, v0, v1, fun _ => rfl, v3, v4, v5, v6, v7, v8, v9, v10, v11, v12, v13, v14⟩
     refine AllSteps.cons (j := 4) rfl (fun b t wx hJ hb hd hcl Kc hK => ?_) ?_
     · obtain ⟨hH, v0, v1, v2, v3, v4, v5, v6, v7, v8, v9, v10, v11, v12, v13, v14⟩ := hJ
       have d2 := hd.out 2 (by kernel_rfl); have r2 := v2 d2; have c_hu0b := hH.ext.cell hu0b; have c_hu1b := hH.ext.cell hu1b; have c_hu2b := hH.ext.cell hu2b
       go_simp
       refine hK.out _ ?_ _ ?_ ?_; rotate_left 2
       · (try simp only [r2]); rfl
       exact ⟨hH, v0, v1, v2, fun _ => rfl, v4, v5, v6, v7, v8, v9, v10, v11, v12, v13, v14⟩
     refine AllSteps.cons (j := 5) rfl (fun b t wx hJ hb hd hcl Kc hK => ?_) ?_
     · obtain ⟨hH, v0, v1, v2, v3, v4, v5, v6, v7, v8, v9, v10, v11, v12, v13, v14⟩ := hJ
       have d0 := hd.out 0 (by kernel_rfl); have d3 := hd.out 3 (by kernel_rfl); have r0 := v0 d0; have r3 := v3 d3; have c_hu0b := hH.ext.cell hu0b; have c_hu1b := hH.ext.cell hu1b; have c_hu2b := hH.ext.cell hu2b
       go_simp
       refine hK.out _ ?_ _ ?_ ?_; rotate_left 2
       · (try simp only [r0, r3]); rfl
       exact ⟨hH, v0, v1, v2, v3, fun _ => rfl, v5, v6, v7, v8, v9, v10, v11, v12, v13, v14⟩
     refine AllSteps.cons (j := 6) rfl (fun b t wx hJ hb hd hcl Kc hK => ?_) ?_
     · obtain ⟨hH, v0, v1, v2, v3, v4, v5, v6, v7, v8, v9, v10, v11, v12, v13, v14⟩ := hJ
       have d4 := hd.out 4 (by kernel_rfl); have r4 := v4 d4; have c_hu0b := hH.ext.cell hu0b; have c_hu1b := hH.ext.cell hu1b; have c_hu2b := hH.ext.cell hu2b
       go_simp
       refine hK.out _ ?_ _ ?_ ?_; rotate_left 2
       · (try simp only [r4]); rfl
       exact ⟨hH, v0, v1, v2, v3, v4, fun _ => rfl, v6, v7, v8, v9, v10, v11, v12, v13, v14⟩
     refine AllSteps.cons (j := 7) rfl (fun b t wx hJ hb hd hcl Kc hK => ?_) ?_
     · obtain ⟨hH, v0, v1, v2, v3, v4, v5, v6, v7, v8, v9, v10, v11, v12, v13, v14⟩ := hJ
       have d5 := hd.out 5 (by kernel_rfl); have r5 := v5 d5; have c_hu0b := hH.ext.cell hu0b; have c_hu1b := hH.ext.cell hu1b; have c_hu2b := hH.ext.cell hu2b; have q2_0 := hH.cl 2 0 rfl rfl; have q2_1 := hH.cl 2 1 rfl rfl; have q2_2 := hH.cl 2 2 rfl rfl
       go_simp
       refine hK.out _ ?_ _ ?_ ?_; rotate_left 2
       · (try simp only [r5]); rfl
       exact ⟨hH, v0, v1, v2, v3, v4, v5, fun _ => rfl, v7, v8, v9, v10, v11, v12, v13, v14⟩
     refine AllSteps.cons (j := 8) rfl (fun b t wx hJ hb hd hcl Kc hK => ?_) ?_
     · obtain ⟨hH, v0, v1, v2, v3, v4, v5, v6, v7, v8, v9, v10, v11, v12, v13, v14⟩ := hJ
       have d5 := hd.out 5 (by kernel_rfl); have r5 := v5 d5; have c_hu0b := hH.ext.cell hu0b; have c_hu1b := hH.ext.cell hu1b; have c_hu2b := hH.ext.cell hu2b
       go_simp
       refine hK.out _ ?_ _ ?_ ?_; rotate_left 2
       · (try simp only [r5]); rfl
       exact ⟨hH, v0, v1, v2, v3, v4, v5, v6, fun _ => rfl, v8, v9, v10, v11, v12, v13, v14⟩
     refine AllSteps.cons (j := 9) rfl (fun b t wx hJ hb hd hcl Kc hK => ?_) ?_
     · obtain ⟨hH, v0, v1, v2, v3, v4, v5, v6, v7, v8, v9, v10, v11, v12, v13, v14⟩ := hJ
       have d5 := hd.out 5 (by kernel_rfl); have d7 := hd.out 7 (by kernel_rfl); have r5 := v5 d5; have r7 := v7 d7; have c_hu0b := hH.ext.cell hu0b; have c_hu1b := hH.ext.cell hu1b; have c_hu2b := hH.ext.cell hu2b; have q1_3 := hH.cl 1 3 rfl rfl
       go_simp
       refine hK.out _ ?_ _ ?_ ?_; rotate_left 2
       · (try simp only [r5, r7]); rfl
       exact ⟨hH, v0, v1, v2, v3, v4, v5, v6, v7, fun _ => rfl, v9, v10, v11, v12, v13, v14⟩
     refine AllSteps.cons (j := 10) rfl (fun b t wx hJ hb hd hcl Kc hK => ?_) ?_
     · obtain ⟨hH, v0, v1, v2, v3, v4, v5, v6, v7, v8, v9, v10, v11, v12, v13, v14⟩ := hJ
       have d5 := hd.out 5 (by kernel_rfl); have r5 := v5 d5; have c_hu0b := hH.ext.cell hu0b; have c_hu1b := hH.ext.cell hu1b; have c_hu2b := hH.ext.cell hu2b
       go_simp
       refine hK.out _ ?_ _ ?_ ?_; rotate_left 2
       · (try simp only [r5]); rfl
       exact ⟨hH, v0, v1, v2, v3, v4, v5, v6, v7, v8, fun _ => rfl, v10, v11, v12, v13, v14⟩
     refine AllSteps.cons (j := 11) rfl (fun b t wx hJ hb hd hcl Kc hK => ?_) ?_
     · obtain ⟨hH, v0, v1, v2, v3, v4, v5, v6, v7, v8, v9, v10, v11, v12, v13, v14⟩ := hJ
       have d5 := hd.out 5 (by kernel_rfl); have d8 := hd.out 8 (by kernel_rfl); have d9 := hd.out 9 (by kernel_rfl); have r5 := v5 d5; have r8 := v8 d8; have r9 := v9 d9; have c_hu0b := hH.ext.cell hu0b; have c_hu1b := hH.ext.cell hu1b; have c_hu2b := hH.ext.cell hu2b
       go_simp
       refine hK.out _ ?_ _ ?_ ?_; rotate_left 2
       · (try simp only [r5, r8, r9]); rfl
       exact ⟨hH, v0, v1, v2, v3, v4, v5, v6, v7, v8, v9, fun _ => rfl, v11, v12, v13, v14⟩
     refine AllSteps.cons (j := 12) rfl (fun b t wx hJ hb hd hcl Kc hK => ?_) ?_
     · obtain ⟨hH, v0, v1, v2, v3, v4, v5, v6, v7, v8, v9, v10, v11, v12, v13, v14⟩ := hJ
       have d5 := hd.out 5 (by kernel_rfl); have d10 := hd.out 10 (by kernel_rfl); have r5 := v5 d5; have r10 := v10 d10; have c_hu0b := hH.ext.cell hu0b; have c_hu1b := hH.ext.cell hu1b; have c_hu2b := hH.ext.cell hu2b
       go_simp
       refine hK.out _ ?_ _ ?_ ?_; rotate_left 2
       · (try simp only [r5, r10]); rfl
       exact ⟨hH, v0, v1, v2, v3, v4, v5, v6, v7, v8, v9, v10, fun _ => rfl, v12, v13, v14⟩
     refine AllSteps.cons (j := 13) rfl (fun b t wx hJ hb hd hcl Kc hK => ?_) ?_
     · obtain ⟨hH, v0, v1, v2, v3, v4, v5, v6, v7, v8, v9, v10, v11, v12, v13, v14⟩ := hJ
       have d5 := hd.out 5 (by kernel_rfl); have d6 := hd.out 6 (by kernel_rfl); have d11 := hd.out 11 (by kernel_rfl); have r5 := v5 d5; have r6 := v6 d6; have r11 := v11 d11
       go_simp
       go_at_call 38
       refine (same_same _ _ _ _ _ _ _ _ _ (hTua.ext hH.ext) (hTub.ext hH.ext) rfl rfl rfl).mono ?_; rintro e12 w12 ⟨rfl, h12⟩
       (try go_simp)
       refine hK.out _ ?_ _ ?_ ?_; rotate_left 2
       · (try simp only [r5, r6, r11]); rfl
       exact ⟨by have hX := hH.grow h12; simpa only [List.set_cons_zero, List.set_cons_succ, updB, updV, blkOf_mk, tup0_mk, partsOf3, Nat.reduceBEq, cond_true, cond_false, hb, d5, d6, d11, r5, r6, r11] using hX, v0, v1, v2, v3, v4, v5, v6, v7, v8, v9, v10, v11, fun _ => rfl, v13, v14⟩
     refine AllSteps.cons (j := 14) rfl (fun b t wx hJ hb hd hcl Kc hK => ?_) ?_
     · obtain ⟨hH, v0, v1, v2, v3, v4, v5, v6, v7, v8, v9, v10, v11, v12, v13, v14⟩ := hJ
       have d5 := hd.out 5 (by kernel_rfl); have d12 := hd.out 12 (by kernel_rfl); have r5 := v5 d5; have r12 := v12 d12; have c_hu0b := hH.ext.cell hu0b; have c_hu1b := hH.ext.cell hu1b; have c_hu2b := hH.ext.cell hu2b
       go_simp
       refine hK.out _ ?_ _ ?_ ?_; rotate_left 2
       · (try simp only [r5, r12]); rfl
       exact ⟨hH, v0, v1, v2, v3, v4, v5, v6, v7, v8, v9, v10, v11, v12, fun _ => rfl, v14⟩
     refine AllSteps.cons (j := 15) rfl (fun b t wx hJ hb hd hcl Kc hK => ?_) ?_
     · obtain ⟨hH, v0, v1, v2, v3, v4, v5, v6, v7, v8, v9, v10, v11, v12, v13, v14⟩ := hJ
       have d5 := hd.out 5 (by kernel_rfl); have d13 := hd.out 13 (by kernel_rfl); have r5 := v5 d5; have r13 := v13 d13; have c_hu0b := hH.ext.cell hu0b; have c_hu1b := hH.ext.cell hu1b; have c_hu2b := hH.ext.cell hu2b
       go_simp
       refine hK.out _ ?_ _ ?_ ?_; rotate_left 2
       · (try simp only [r5, r13]); rfl
       exact ⟨hH, v0, v1, v2, v3, v4, v5, v6, v7, v8, v9, v10, v11, v12, v13, fun _ => rfl⟩
     exact AllSteps.nil
   case hEs =>
    intro b t ws hJ hall
    obtain ⟨hHs, v0, v1, v2, v3, v4, v5, v6, v7, v8, v9, v10, v11, v12, v13, v14⟩ := hJ
    have a0 := hall 0 (by decide); have a1 := hall 1 (by decide); have a2 := hall 2 (by decide); have a3 := hall 3 (by decide); have a4 := hall 4 (by decide); have a5 := hall 5 (by decide); have a6 := hall 6 (by decide); have a7 := hall 7 (by decide); have a8 := hall 8 (by decide); have a9 := hall 9 (by decide); have a10 := hall 10 (by decide); have a11 := hall 11 (by decide); have a12 := hall 12 (by decide); have a13 := hall 13 (by decide); have a14 := hall 14 (by decide)
    (try simp only [a0, a1, a2, a3, a4, a5, a6, a7, a8, a9, a10, a11, a12, a13, a14, cond_true] at hHs)
    replace v0 := v0 a0; replace v1 := v1 a1; replace v2 := v2 a2; replace v3 := v3 a3; replace v4 := v4 a4; replace v5 := v5 a5; replace v6 := v6 a6; replace v7 := v7 a7; replace v8 := v8 a8; replace v9 := v9 a9; replace v10 := v10 a10; replace v11 := v11 a11; replace v12 := v12 a12; replace v13 := v13 a13; replace v14 := v14 a14
    clear hall a0 a1 a2 a3 a4 a5 a6 a7 a8 a9 a10 a11 a12 a13 a14
    generalize t 14 = x14 at hHs v14 ⊢; generalize t 13 = x13 at hHs v13 ⊢; generalize t 12 = x12 at hHs v12 ⊢; generalize t 11 = x11 at hHs v11 ⊢; generalize t 10 = x10 at hHs v10 ⊢; generalize t 9 = x9 at hHs v9 ⊢; generalize t 8 = x8 at hHs v8 ⊢; generalize t 7 = x7 at hHs v7 ⊢; generalize t 6 = x6 at hHs v6 ⊢; generalize t 5 = x5 at hHs v5 ⊢; generalize t 4 = x4 at hHs v4 ⊢; generalize t 3 = x3 at hHs v3 ⊢; generalize t 2 = x2 at hHs v2 ⊢; generalize t 1 = x1 at hHs v1 ⊢; generalize t 0 = x0 at hHs v0 ⊢; subst v0; subst v1; subst v2; subst v3; subst v4; subst v5; subst v6; subst v7; subst v8; subst v9; subst v10; subst v11; subst v12; subst v13; subst v14
    clear b
    replace hH := hHs; clear hHs
    replace hH : Held w ws [aB (w.heap.size) 29 [.int .i64 k, .int .i64 p, .int .i64 n, .slice (some ⟨bTa, oTa, none⟩) m cV, .slice aO O.length cO], aB (w.heap.size + 1) 29 [.int .i64 k, .int .i64 p, .int .i64 n, .slice (some ⟨bTb, oTb, none⟩) m cW, .slice aQ O.length cQ], aB (wq.heap.size) 32 [.slice e1a m1a f1a, .slice e2a m2a f2a, .slice e3a m3a f3a]] := hH
    obtain ⟨wx, rfl⟩ : ∃ q, q = ws := ⟨ws, rfl⟩
    obtain ⟨q0_0, q0_1, q0_2, q0_3, q0_4, l0_⟩ := hH.c5 0 rfl; obtain ⟨q1_0, q1_1, q1_2, q1_3, q1_4, l1_⟩ := hH.c5 1 rfl; obtain ⟨q2_0, q2_1, q2_2, l2_⟩ := hH.c3 2 rfl
    go_wp2_with fail
    clear q0_0 q0_1 q0_2 q0_3 q0_4 l0_ q1_0 q1_1 q1_2 q1_3 q1_4 l1_ q2_0 q2_1 q2_2 l2_
    go_roundw
    case rel => exact ⟨j + 1, by omega, by go_num, hH.sub (.cons_cons _ (.cons_cons _ (.cons _ .slnil)))⟩
    case measure => simp [RowKit.intOf]; omega
  ·
   have hje : j = m := by omega
   subst hje
   obtain ⟨m, hmj⟩ : ∃ q, q = j := ⟨j, rfl⟩
   subst hmj
   have hbb : ((m : Int) == (m : Int)) = true := by simp
   obtain ⟨q0_0, q0_1, q0_2, q0_3, q0_4, l0_⟩ := hH.c5 0 rfl; obtain ⟨q1_0, q1_1, q1_2, q1_3, q1_4, l1_⟩ := hH.c5 1 rfl
   go_wp2_with fail
   clear q0_0 q0_1 q0_2 q0_3 q0_4 l0_ q1_0 q1_1 q1_2 q1_3 q1_4 l1_
   refine (ints_sameE _ _ O _ (hO.ext hH.ext) (hQ.ext hH.ext)).mono ?_; rintro ewn4 wn4 ⟨rfl, hwn4⟩
   replace hH : Held w wn4 [aB (w.heap.size) 29 [.int .i64 k, .int .i64 p, .int .i64 n, .slice aV m cV, .slice aO O.length cO], aB (w.heap.size + 1) 29 [.int .i64 k, .int .i64 p, .int .i64 n, .slice aW m cW, .slice aQ O.length cQ]] := hH.grow hwn4
   clear hwn4
   have HE := Lib.hid hH.ext; clear hH
   go_wp2
   go_ret
   exact ⟨rfl, HE.out⟩
end Go.Proofs.Ytpegckmagiaggaa
