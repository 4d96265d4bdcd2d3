/- Texts of one kind, merged by program. -/
import Derived.Test.YtlgjddgajdjllaaGreatHSumLW
import Derived.Test.YtlgjddgajdjllaaGreatHG11
import Derived.Test.YtlgjddgajdjllaaGreatHG6
/- The law of three tensors, plain. No program in sight. -/
set_option linter.unusedSimpArgs false
set_option linter.unusedVariables false
namespace Go.Proofs.YtlgjddgajdjllaaGreat
open Go.RowKit
section
variable {k p n : Int} (hr : ringOk k p n = true)
theorem sum_isT {dm : Int → Int} {U a : List Int} {xs : List (El k p n)} (ha : IsT k p n dm U a xs) (keep : List Int) : IsT k p n dm U (keepL a keep) (sumXs hr dm a keep xs) := IsT.tab ha.uni (ha.sub.keep keep) _
end
section
variable {k p n : Int} (hr : ringOk k p n = true)
variable {dm : Int → Int} {U : List Int} {ts : List (NT k p n)} {op : List Int}
theorem keepL_asc (h : IsN k p n dm U ts op) : (keepL (ascL (occ ts)) op).Perm op := by
  refine (List.perm_ext_iff_of_nodup (by unfold keepL; exact (ascL_nodup _).filter _) h.sub.nodup).2 fun x => ?_
  rw [mem_keepL]
  exact ⟨fun hx => hx.2, fun hx => ⟨h.opAsc hx, hx⟩⟩
theorem asc_split (h : IsN k p n dm U ts op) : (ascL (occ ts)).Perm (op ++ goneL (ascL (occ ts)) op) :=
  (keep_gone _ op).trans (List.Perm.append_right _ (keepL_asc h))
theorem netZ_all (h : IsN k p n dm U ts op) : netZ hr dm ts op (size (axs dm (ascL (occ ts)))) = netXs hr dm ts op := by
  unfold netZ netXs netG contrF
  have hs := scat_tab (rig hr) (netF hr dm ts) (all := axs dm (ascL (occ ts))) (left := axs dm op) (rest := axs dm (goneL (ascL (occ ts)) op)) (by rw [← axs_append]; exact axs_perm (asc_split h)) (by rw [labs_axs]; exact ascL_nodup _) σ0
  rw [tab_range] at hs
  exact hs
theorem netZ_length (o : Nat) : (netZ hr dm ts op o).length = size (axs dm op) := by
  unfold netZ
  exact (scat_length (rig hr) _ _).trans List.length_replicate
theorem netZ_succ (o : Nat) : netZ hr dm ts op (o + 1) = (netZ hr dm ts op o).modify (off (axs dm op) (asg (axs dm (ascL (occ ts))) o σ0)) fun x => (rig hr).add x (netF hr dm ts (asg (axs dm (ascL (occ ts))) o σ0)) := by
  unfold netZ
  rw [List.range_succ, List.map_append, List.map_cons, List.map_nil]
  exact scat_snoc (rig hr) [] _ _ _ _
end
section
variable {k p n : Int} (hr : ringOk k p n = true) {W : Nat} (hW : ringWidth k n = (W : Int))
variable {dm : Int → Int} {U : List Int} {ts : List (NT k p n)} {op : List Int}
theorem asc_fit (h : IsN k p n dm U ts op) (o : Nat) {L : List Int} (hL : ∀ l ∈ L, l ∈ ascL (occ ts)) : Fits (axs dm L) (asg (axs dm (ascL (occ ts))) o σ0) := fun x hx => by
  obtain ⟨l, hl, rfl⟩ := List.mem_map.1 hx
  exact asg_fits' h.uni h.ascSub o σ0 (l, dm l) (List.mem_map_of_mem (hL l hl))
include hW
theorem net_stepZ (h : IsN k p n dm U ts op) (o : Nat) :
    ∃ (q : Nat) (z : List Int), dotL ((ascL (occ ts)).map (stride op (op.map dm))) ((ascL (occ ts)).map (asg (axs dm (ascL (occ ts))) o σ0)) = (q : Int) ∧ q ≤ 4096 ∧ q * W + W ≤ (flat (netZ hr dm ts op o)).length ∧ getL (flat (netZ hr dm ts op o)) (q * W) W = z ∧ rawOk k p n z = true ∧
      flat (netZ hr dm ts op (o + 1)) = putL (flat (netZ hr dm ts op o)) (q * W) (addL k p z (netF hr dm ts (asg (axs dm (ascL (occ ts))) o σ0)).1) := by
  obtain ⟨τ, hτ⟩ : ∃ τ, asg (axs dm (ascL (occ ts))) o σ0 = τ := ⟨_, rfl⟩
  have hC : ∀ l ∈ op, l ∈ ascL (occ ts) := fun l hl => h.opAsc hl
  have hf := asc_fit h o hC
  have hd : ∀ l ∈ op, 1 ≤ dm l := fun l hl => (h.uni.dim (h.sub.sub l hl)).1
  rw [hτ] at hf
  have c1 := dot_off (dm := dm) h.ascSub.nodup h.sub.nodup hC hd (σ := τ) (fun l hl => (hf (l, dm l) (List.mem_map_of_mem hl)).1)
  have c2 := off_lt hf
  have c3 := (h.uni.small h.sub).1
  have c4 := netZ_length hr (dm := dm) (ts := ts) (op := op) o
  have hq : off (axs dm op) τ < (netZ hr dm ts op o).length := by omega
  have hz := List.getElem?_eq_getElem hq
  have hp := flat_put hW hq ((rig hr).add (netZ hr dm ts op o)[off (axs dm op) τ] (netF hr dm ts τ))
  rw [hτ]
  refine ⟨off (axs dm op) τ, _, c1, by omega, ?_, flat_get hW hz, ((netZ hr dm ts op o)[off (axs dm op) τ]).2, ?_⟩
  · rw [flat_length hW, c4]
    have : (off (axs dm op) τ + 1) * W ≤ size (axs dm op) * W := Nat.mul_le_mul_right _ (by omega)
    rw [Nat.add_mul, Nat.one_mul] at this
    exact this
  · refine Eq.trans ?_ hp.symm
    congr 1
    rw [netZ_succ, hτ]
    exact getD_modify hq _
omit hW
theorem netF_take {j : Nat} {L : List Int} {xs : List (El k p n)} (h : ts[j]? = some (L, xs)) (σ : Int → Int) : (netF hr dm (ts.take (j + 1)) σ).1 = mulL k p (netF hr dm (ts.take j) σ).1 (valT hr dm L xs σ).1 := by
  rw [List.take_add_one, h]
  show (netF hr dm (ts.take j ++ [(L, xs)]) σ).1 = _
  rw [netF_snoc]; rfl
end
section
variable {k p n : Int} (hr : ringOk k p n = true)
variable {dm : Int → Int} {U : List Int}
theorem netG_perm {ts us : List (NT k p n)} (h : ts.Perm us) (op : List Int) (σ : Int → Int) : netG hr dm ts op σ = netG hr dm us op σ := by
  unfold netG contrF
  have e : ascL (occ ts) = ascL (occ us) := ascL_congr fun x => by
    rw [mem_occ, mem_occ]
    exact ⟨fun ⟨t, ht, hx⟩ => ⟨t, h.mem_iff.1 ht, hx⟩, fun ⟨t, ht, hx⟩ => ⟨t, h.mem_iff.2 ht, hx⟩⟩
  rw [e]
  exact sumA_ext _ _ σ fun τ => netF_perm hr dm h τ
structure Sums1 (k p n : Int) (hr : ringOk k p n = true) (dm : Int → Int) (M : List Int) (ys : List (El k p n)) (t1 : List (NT k p n)) (K : List Int) : Prop where
  lab : ∀ x, x ∈ M ↔ x ∈ occ t1 ∧ x ∈ K
  val : ∀ τ, Fits (axs dm M) τ → valT hr dm M ys τ = netG hr dm t1 K τ
theorem net_step {M K op : List Int} {ys : List (El k p n)} {t1 t2 : List (NT k p n)} (h1 : ∀ x ∈ occ t1, 0 ≤ x ∧ x ≤ 99) (hs : Sums1 k p n hr dm M ys t1 K)
    (hK : ∀ x ∈ occ t1, x ∉ K → x ∉ op ∧ x ∉ occ t2) (h2 : ∀ x ∈ occ t2, 0 ≤ x ∧ x ≤ 99) {σ : Int → Int} (hf : ∀ x ∈ M, x ∈ op → 0 ≤ σ x ∧ σ x < dm x) :
    netG hr dm ((M, ys) :: t2) op σ = netG hr dm (t1 ++ t2) op σ := by
  have hm : ∀ x, x ∈ occ ((M, ys) :: t2) ↔ x ∈ M ∨ x ∈ occ t2 := fun x => by rw [show occ ((M, ys) :: t2) = M ++ occ t2 from rfl, List.mem_append]
  have ha : ∀ x, x ∈ occ (t1 ++ t2) ↔ x ∈ occ t1 ∨ x ∈ occ t2 := fun x => by rw [occ_append, List.mem_append]
  have hp : (goneL (ascL (occ (t1 ++ t2))) op).Perm (goneL (ascL (occ ((M, ys) :: t2))) op ++ goneL (ascL (occ t1)) K) := by
    refine (List.perm_ext_iff_of_nodup (l₁ := goneL (ascL (occ (t1 ++ t2))) op) ((ascL_nodup _).filter _) ?_).2 fun x => ?_
    · rw [List.nodup_append]
      refine ⟨(ascL_nodup _).filter _, (ascL_nodup _).filter _, fun x hx y hy e => ?_⟩
      subst e
      have a1 := (mem_ascL.1 (mem_goneL.1 hx).1).2
      have a2 := mem_goneL.1 hy
      have a3 := (mem_ascL.1 a2.1).2
      rcases (hm x).1 a1 with b | b
      · exact a2.2 ((hs.lab x).1 b).2
      · exact (hK x a3 a2.2).2 b
    · rw [List.mem_append, mem_goneL, mem_goneL, mem_goneL, mem_ascL, mem_ascL, mem_ascL, hm, ha, hs.lab]
      constructor
      · rintro ⟨⟨a1, a2⟩, a3⟩
        by_cases b : x ∈ occ t2
        · exact .inl ⟨⟨a1, .inr b⟩, a3⟩
        · rcases a2 with a2 | a2
          · by_cases c : x ∈ K
            · exact .inl ⟨⟨a1, .inl ⟨a2, c⟩⟩, a3⟩
            · exact .inr ⟨⟨a1, a2⟩, c⟩
          · exact absurd a2 b
      · rintro (⟨⟨a1, a2⟩, a3⟩ | ⟨⟨a1, a2⟩, a3⟩)
        · rcases a2 with a2 | a2
          · exact ⟨⟨a1, .inl a2.1⟩, a3⟩
          · exact ⟨⟨a1, .inr a2⟩, a3⟩
        · exact ⟨⟨a1, .inl a2⟩, (hK x a2 a3).1⟩
  unfold netG
  unfold contrF
  rw [sumA_perm (rig hr) _ (axs_perm hp) (by rw [labs_axs]; exact (ascL_nodup _).filter _), axs_append, sumA_append]
  refine sumA_congr (rig hr) fun τ hτ hft => ?_
  rw [labs_axs] at hτ
  have hft := hft (by rw [labs_axs]; exact (ascL_nodup _).filter _)
  have hfM : Fits (axs dm M) τ := fun a ha' => by
    obtain ⟨x, hx, rfl⟩ := List.mem_map.1 ha'
    by_cases hxo : x ∈ op
    · rw [hτ x fun h => (mem_goneL.1 h).2 hxo]
      exact hf x hx hxo
    · refine hft (x, dm x) (List.mem_map.2 ⟨x, mem_goneL.2 ⟨mem_ascL.2 ⟨h1 x ((hs.lab x).1 hx).1, (hm x).2 (.inl hx)⟩, hxo⟩, rfl⟩)
  rw [netF_cons, hs.val τ hfM]
  unfold netG contrF
  rw [← sumA_mul (rig hr) (netF hr dm t1) (netF_dep hr dm t2) (fun x hx => ?_)]
  · exact sumA_ext (rig hr) _ _ fun υ => (netF_append hr dm t1 t2 υ).symm
  · rw [labs_axs] at hx
    have := mem_goneL.1 hx
    exact (hK x (mem_ascL.1 this.1).2 this.2).2
theorem net_stepXs {M K op : List Int} {ys : List (El k p n)} {t1 t2 : List (NT k p n)} (u : Uni dm U) (so : Sub U op) (h1 : ∀ x ∈ occ t1, x ∈ U) (hs : Sums1 k p n hr dm M ys t1 K)
    (hK : ∀ x ∈ occ t1, x ∉ K → x ∉ op ∧ x ∉ occ t2) (h2 : ∀ x ∈ occ t2, x ∈ U) : netXs hr dm ((M, ys) :: t2) op = netXs hr dm (t1 ++ t2) op := by
  unfold netXs
  refine tab_congr (Uni.nodup so) (u.dims so) fun o => ?_
  exact net_step hr (fun x hx => u.labs (h1 x hx)) hs hK (fun x hx => u.labs (h2 x hx)) fun x _ hx => asg_fits' u so o σ0 (x, dm x) (List.mem_map.2 ⟨x, hx, rfl⟩)
theorem sums_contr {a b keep : List Int} {xs ys : List (El k p n)} (ha : IsT k p n dm U a xs) (hb : IsT k p n dm U b ys) :
    Sums1 k p n hr dm (keepL (joinL a b) keep) (contrXs hr dm a b keep xs ys) [(a, xs), (b, ys)] keep := by
  have hocc : ∀ x, x ∈ occ [(a, xs), (b, ys)] ↔ x ∈ joinL a b := fun x => by
    rw [mem_joinL, show occ [(a, xs), (b, ys)] = a ++ (b ++ []) from rfl, List.append_nil, List.mem_append]
  refine ⟨fun x => by rw [mem_keepL, hocc], fun τ hf => ?_⟩
  have hp : (joinL a b).Perm (ascL (occ [(a, xs), (b, ys)])) := by
    refine (List.perm_ext_iff_of_nodup (ha.sub.join hb.sub).nodup (ascL_nodup _)).2 fun x => ?_
    rw [mem_ascL, hocc]
    exact ⟨fun h => ⟨ha.uni.labs ((ha.sub.join hb.sub).sub x h), h⟩, fun h => h.2⟩
  rw [show contrXs hr dm a b keep xs ys = tab (axs dm (keepL (joinL a b) keep)) (contrF (rig hr) dm (joinL a b) keep (mulF hr dm a b xs ys)) σ0 from rfl, valT_tab hr (contrF_dep (rig hr) (mulF_dep hr dm a b xs ys)) hf]
  unfold netG
  rw [contrF_perm (rig hr) (ha.sub.join hb.sub) hp]
  refine sumA_ext (rig hr) _ _ fun υ => ?_
  rw [netF_cons, netF_cons, netF_nil, (rig hr).mul_one]; rfl
theorem Sums1.trans {M M' K K' : List Int} {ys ys' : List (El k p n)} {t1 t2 : List (NT k p n)} (hA : Sums1 k p n hr dm M ys ((M', ys') :: t2) K) (hB : Sums1 k p n hr dm M' ys' t1 K') (h1 : ∀ x ∈ occ t1, 0 ≤ x ∧ x ≤ 99)
    (hK : ∀ x ∈ occ t1, x ∉ K' → x ∉ K ∧ x ∉ occ t2) (h2 : ∀ x ∈ occ t2, 0 ≤ x ∧ x ≤ 99) : Sums1 k p n hr dm M ys (t1 ++ t2) K := by
  have hm : ∀ x, x ∈ occ ((M', ys') :: t2) ↔ x ∈ M' ∨ x ∈ occ t2 := fun x => by rw [show occ ((M', ys') :: t2) = M' ++ occ t2 from rfl, List.mem_append]
  refine ⟨fun x => ?_, fun τ hf => ?_⟩
  · rw [hA.lab, hm, hB.lab, occ_append, List.mem_append]
    constructor
    · rintro ⟨⟨a, _⟩ | a, b⟩
      · exact ⟨.inl a, b⟩
      · exact ⟨.inr a, b⟩
    · rintro ⟨a | a, b⟩
      · exact ⟨.inl ⟨a, Classical.byContradiction fun h => (hK x a h).1 b⟩, b⟩
      · exact ⟨.inr a, b⟩
  · rw [hA.val τ hf]
    refine net_step hr h1 hB hK h2 fun x hx hxo => hf (x, dm x) (List.mem_map.2 ⟨x, ?_, rfl⟩)
    rw [hA.lab, hm]
    exact ⟨.inl hx, hxo⟩
theorem Sums1.perm {M K : List Int} {ys : List (El k p n)} {t1 t2 : List (NT k p n)} (hA : Sums1 k p n hr dm M ys t1 K) (h : t1.Perm t2) : Sums1 k p n hr dm M ys t2 K :=
  ⟨fun x => by
    rw [hA.lab, mem_occ, mem_occ]
    exact ⟨fun ⟨⟨t, ht, hx⟩, hk⟩ => ⟨⟨t, h.mem_iff.1 ht, hx⟩, hk⟩, fun ⟨⟨t, ht, hx⟩, hk⟩ => ⟨⟨t, h.mem_iff.2 ht, hx⟩, hk⟩⟩, fun τ hf => by rw [hA.val τ hf, netG_perm hr h]⟩
theorem Sums1.one {L K : List Int} {xs : List (El k p n)} (h : ∀ x ∈ L, x ∈ K) : Sums1 k p n hr dm L xs [(L, xs)] K := by
  have e : occ [(L, xs)] = L := by rw [show occ [(L, xs)] = L ++ [] from rfl, List.append_nil]
  refine ⟨fun x => by rw [e]; exact ⟨fun hx => ⟨hx, h x hx⟩, fun hx => hx.1⟩, fun τ _ => ?_⟩
  unfold netG
  rw [e, contrF_all (rig hr) (fun x hx => h x (mem_ascL.1 hx).2), netF_cons, netF_nil, (rig hr).mul_one]
theorem Sums1.keep {M K K' : List Int} {ys : List (El k p n)} {t1 : List (NT k p n)} (hA : Sums1 k p n hr dm M ys t1 K) (h : ∀ x ∈ occ t1, (x ∈ K ↔ x ∈ K')) : Sums1 k p n hr dm M ys t1 K' := by
  refine ⟨fun x => ?_, fun τ hf => ?_⟩
  · rw [hA.lab]
    exact ⟨fun ⟨a, b⟩ => ⟨a, (h x a).1 b⟩, fun ⟨a, b⟩ => ⟨a, (h x a).2 b⟩⟩
  · rw [hA.val τ hf]
    unfold netG contrF
    have e : goneL (ascL (occ t1)) K = goneL (ascL (occ t1)) K' := by
      unfold goneL
      apply List.filter_congr
      intro x hx
      have : hasL K x = hasL K' x := by rw [Bool.eq_iff_iff, hasL_iff, hasL_iff]; exact h x (mem_ascL.1 hx).2
      rw [this]
    rw [e]
theorem Sums1.done {M op : List Int} {ys : List (El k p n)} {ts : List (NT k p n)} (u : Uni dm U) (so : Sub U op) (hA : Sums1 k p n hr dm M ys ts op) (hp : M.Perm op) : permXs hr dm M op ys = netXs hr dm ts op := by
  unfold netXs permXs
  refine tab_congr (Uni.nodup so) (u.dims so) fun o => ?_
  refine hA.val _ fun a ha => ?_
  obtain ⟨x, hx, rfl⟩ := List.mem_map.1 ha
  exact asg_fits' u so o σ0 (x, dm x) (List.mem_map.2 ⟨x, hp.mem_iff.1 hx, rfl⟩)
end
section
variable {R : Type} (S : Rig R)
theorem off_ren {f dm dm2 : Int → Int} (τ : Int → Int) : ∀ {L : List Int}, (∀ l ∈ L, dm2 (f l) = dm l) → off (axs dm2 (L.map f)) τ = off (axs dm L) (τ ∘ f) ∧ size (axs dm2 (L.map f)) = size (axs dm L)
  | [], _ => ⟨rfl, rfl⟩
  | l :: L, h => by
    obtain ⟨h1, h2⟩ := off_ren τ (L := L) fun x hx => h x (by simp [hx])
    rw [List.map_cons, axs_cons, axs_cons, off, off, size, size, h1, h2, h l (by simp)]
    exact ⟨rfl, rfl⟩
end
section
variable {k p n : Int} (hr : ringOk k p n = true)
variable {dm dm2 : Int → Int} {U U2 : List Int} {ts : List (NT k p n)} {op : List Int}
structure Ren (f dm dm2 : Int → Int) (U U2 : List Int) : Prop where
  uni : Uni dm2 U2
  dim : ∀ x ∈ U, dm2 (f x) = dm x
  inj : ∀ x ∈ U, ∀ y ∈ U, f x = f y → x = y
  into : ∀ x ∈ U, f x ∈ U2
theorem nodup_ren {f : Int → Int} : ∀ {L : List Int}, (∀ x ∈ L, ∀ y ∈ L, f x = f y → x = y) → L.Nodup → (L.map f).Nodup
  | [], _, _ => List.nodup_nil
  | l :: L, h, hn => by
    rw [List.nodup_cons] at hn
    rw [List.map_cons, List.nodup_cons]
    refine ⟨fun hm => ?_, nodup_ren (fun x hx y hy => h x (by simp [hx]) y (by simp [hy])) hn.2⟩
    obtain ⟨y, hy, e⟩ := List.mem_map.1 hm
    exact hn.1 (h y (by simp [hy]) l (by simp) e ▸ hy)
theorem Ren.sub {f : Int → Int} (g : Ren f dm dm2 U U2) {L : List Int} (s : Sub U L) : Sub U2 (L.map f) :=
  ⟨nodup_ren (fun x hx y hy e => g.inj x (s.sub x hx) y (s.sub y hy) e) s.nodup, fun l hl => by
    obtain ⟨x, hx, rfl⟩ := List.mem_map.1 hl
    exact g.into x (s.sub x hx)⟩
theorem Ren.size {f : Int → Int} (g : Ren f dm dm2 U U2) {L : List Int} (s : Sub U L) : size (axs dm2 (L.map f)) = Proofs.YtlgjddgajdjllaaGreat.size (axs dm L) := (off_ren σ0 fun x hx => g.dim x (s.sub x hx)).2
theorem sums_net (h : IsN k p n dm U ts op) : Sums1 k p n hr dm op (netXs hr dm ts op) ts op :=
  ⟨fun x => ⟨fun hx => ⟨h.occ x hx, hx⟩, fun hx => hx.2⟩, fun τ hf => netG_val hr h hf⟩
end
section
variable {α β : Type}
def dropGo (l : List α) (i j m : Nat) : List α := (List.range m).filterMap fun q => if q = i ∨ q = j then none else l[q]?
def drop2 (l : List α) (i j : Nat) : List α := dropGo l i j l.length
theorem dropGo_no {l : List α} {i j m : Nat} (h : m = i ∨ m = j) : dropGo l i j (m + 1) = dropGo l i j m := by
  unfold dropGo
  rw [List.range_succ, List.filterMap_append]
  simp [h]
theorem dropGo_yes {l : List α} {i j m : Nat} (h : ¬ (m = i ∨ m = j)) {x : α} (hx : l[m]? = some x) : dropGo l i j (m + 1) = dropGo l i j m ++ [x] := by
  unfold dropGo
  rw [List.range_succ, List.filterMap_append]
  simp [h, hx]
theorem dropGo_map (f : α → β) (l : List α) (i j m : Nat) : dropGo (l.map f) i j m = (dropGo l i j m).map f := by
  unfold dropGo
  rw [List.map_filterMap]
  congr 1
  funext q
  split <;> simp
theorem drop2_map (f : α → β) (l : List α) (i j : Nat) : drop2 (l.map f) i j = (drop2 l i j).map f := by
  unfold drop2; rw [List.length_map, dropGo_map]
theorem dropGo_len (l : List α) (i j m : Nat) : (dropGo l i j m).length ≤ m := by
  have := List.length_filterMap_le (fun q => if q = i ∨ q = j then none else l[q]?) (List.range m)
  rw [List.length_range] at this; exact this
theorem mem_dropGo {l : List α} {i j m : Nat} {x : α} : x ∈ dropGo l i j m ↔ ∃ q, q < m ∧ ¬ (q = i ∨ q = j) ∧ l[q]? = some x := by
  unfold dropGo
  rw [List.mem_filterMap]
  constructor
  · rintro ⟨q, hq, h⟩
    by_cases e : q = i ∨ q = j
    · rw [if_pos e] at h; cases h
    · rw [if_neg e] at h; exact ⟨q, List.mem_range.1 hq, e, h⟩
  · rintro ⟨q, hq, e, h⟩
    exact ⟨q, List.mem_range.2 hq, by rw [if_neg e]; exact h⟩
theorem mem_drop2 {l : List α} {i j : Nat} {x : α} : x ∈ drop2 l i j ↔ ∃ q, ¬ (q = i ∨ q = j) ∧ l[q]? = some x := by
  unfold drop2
  rw [mem_dropGo]
  exact ⟨fun ⟨q, _, a, b⟩ => ⟨q, a, b⟩, fun ⟨q, a, b⟩ => ⟨q, (List.getElem?_eq_some_iff.1 b).1, a, b⟩⟩
theorem filter_take_drop {l : List α} {i : Nat} {x : α} (h : l[i]? = some x) : l.Perm (x :: dropGo l i i l.length) := by
  have key : ∀ m, m ≤ l.length → (l.take m).Perm ((if i < m then [x] else []) ++ dropGo l i i m) := by
    intro m
    induction m with
    | zero => intro _; simp [dropGo]
    | succ m ih =>
      intro hm
      obtain ⟨y, hy⟩ : ∃ y, l[m]? = some y := ⟨_, List.getElem?_eq_getElem (by omega)⟩
      rw [List.take_add_one, hy]
      by_cases e : m = i
      · subst e
        rw [h] at hy; cases hy
        rw [dropGo_no (.inl rfl), if_pos (by omega)]
        have := ih (by omega)
        rw [if_neg (by omega), List.nil_append] at this
        exact (List.Perm.append_right _ this).trans List.perm_append_comm
      · rw [dropGo_yes (by omega) hy, ← List.append_assoc]
        have e2 : (i < m + 1) = (i < m) := by rw [eq_iff_iff]; omega
        simp only [e2]
        exact List.Perm.append_right _ (ih (by omega))
  have := key l.length (Nat.le_refl _)
  rw [List.take_length, if_pos (List.getElem?_eq_some_iff.1 h).1] at this
  exact this
theorem two_perm {l : List α} {i j : Nat} (hij : i ≠ j) {x y : α} (hx : l[i]? = some x) (hy : l[j]? = some y) : l.Perm (x :: y :: drop2 l i j) := by
  have key : ∀ m, m ≤ l.length → (l.take m).Perm ((if i < m then [x] else []) ++ ((if j < m then [y] else []) ++ dropGo l i j m)) := by
    intro m
    induction m with
    | zero => intro _; simp [dropGo]
    | succ m ih =>
      intro hm
      obtain ⟨z, hz⟩ : ∃ z, l[m]? = some z := ⟨_, List.getElem?_eq_getElem (by omega)⟩
      rw [List.take_add_one, hz]
      have h0 := ih (by omega)
      by_cases ei : m = i
      · subst ei
        rw [hx] at hz; cases hz
        rw [dropGo_no (.inl rfl), if_pos (by omega)]
        rw [if_neg (by omega), List.nil_append] at h0
        have e2 : (j < m + 1) = (j < m) := by rw [eq_iff_iff]; omega
        simp only [e2]
        exact (List.Perm.append_right _ h0).trans List.perm_append_comm
      · by_cases ej : m = j
        · subst ej
          rw [hy] at hz; cases hz
          rw [dropGo_no (.inr rfl), if_pos (by omega : m < m + 1)]
          rw [if_neg (by omega : ¬ m < m), List.nil_append] at h0
          have e2 : (i < m + 1) = (i < m) := by rw [eq_iff_iff]; omega
          simp only [e2]
          refine (List.Perm.append_right _ h0).trans ?_
          rw [List.append_assoc]
          exact List.Perm.append_left _ List.perm_append_comm
        · rw [dropGo_yes (by omega) hz]
          have e2 : (j < m + 1) = (j < m) := by rw [eq_iff_iff]; omega
          have e3 : (i < m + 1) = (i < m) := by rw [eq_iff_iff]; omega
          simp only [e2, e3]
          have := List.Perm.append_right [z] h0
          simpa [List.append_assoc] using this
  have := key l.length (Nat.le_refl _)
  rw [List.take_length, if_pos (List.getElem?_eq_some_iff.1 hx).1, if_pos (List.getElem?_eq_some_iff.1 hy).1] at this
  exact this
theorem drop2_len {l : List α} {i j : Nat} (hij : i ≠ j) (hi : i < l.length) (hj : j < l.length) : (drop2 l i j).length + 2 = l.length := by
  have := (two_perm hij (List.getElem?_eq_getElem hi) (List.getElem?_eq_getElem hj)).length_eq
  simp at this; omega
end
def resK (op : List Int) (ls : List (List Int)) (i j : Nat) : List Int := op ++ (drop2 ls i j).flatten
def labAt (ls : List (List Int)) (i : Nat) : List Int := ls.getD i []
theorem labAt_get {ls : List (List Int)} {i : Nat} {l : List Int} (h : ls[i]? = some l) : labAt ls i = l := by
  unfold labAt; rw [List.getD_eq_getElem?_getD, h]; rfl
def resL (op : List Int) (ls : List (List Int)) (i j : Nat) : List Int := keepL (joinL (labAt ls i) (labAt ls j)) (resK op ls i j)
theorem keepL_idem (l k : List Int) : keepL l (keepL l k) = keepL l k := by
  unfold keepL
  apply List.filter_congr
  intro x hx
  rw [Bool.eq_iff_iff, hasL_iff, hasL_iff, List.mem_filter, hasL_iff]
  exact ⟨fun h => h.2, fun h => ⟨hx, h⟩⟩
section
variable {k p n : Int} (hr : ringOk k p n = true)
variable {dm : Int → Int} {U : List Int} {ts : List (NT k p n)} {op : List Int}
def datAt (ts : List (NT k p n)) (i : Nat) : List (El k p n) := (ts[i]?.map (·.2)).getD []
def stepN (dm : Int → Int) (op : List Int) (ts : List (NT k p n)) (i j : Nat) : List (NT k p n) :=
  drop2 ts i j ++ [(resL op (ts.map (·.1)) i j, contrXs hr dm (labAt (ts.map (·.1)) i) (labAt (ts.map (·.1)) j) (resL op (ts.map (·.1)) i j) (datAt ts i) (datAt ts j))]
theorem mem_flatten_map {ts : List (NT k p n)} {x : Int} : x ∈ (ts.map (·.1)).flatten ↔ x ∈ occ ts := by
  rw [mem_occ, List.mem_flatten]
  constructor
  · rintro ⟨l, hl, hx⟩
    obtain ⟨t, ht, rfl⟩ := List.mem_map.1 hl
    exact ⟨t, ht, hx⟩
  · rintro ⟨t, ht, hx⟩
    exact ⟨t.1, List.mem_map_of_mem ht, hx⟩
theorem labAt_map {i : Nat} {t : NT k p n} (h : ts[i]? = some t) : labAt (ts.map (·.1)) i = t.1 := labAt_get (by rw [List.getElem?_map, h]; rfl)
theorem datAt_get {i : Nat} {t : NT k p n} (h : ts[i]? = some t) : datAt ts i = t.2 := by unfold datAt; rw [h]; rfl
theorem stepN_eq {i j : Nat} {a b : NT k p n} (ha : ts[i]? = some a) (hb : ts[j]? = some b) :
    stepN hr dm op ts i j = drop2 ts i j ++ [(keepL (joinL a.1 b.1) (resL op (ts.map (·.1)) i j), contrXs hr dm a.1 b.1 (resL op (ts.map (·.1)) i j) a.2 b.2)] := by
  unfold stepN
  rw [labAt_map ha, labAt_map hb, datAt_get ha, datAt_get hb]
  congr 3
  unfold resL
  rw [labAt_map ha, labAt_map hb, keepL_idem]
theorem stepN_lab (i j : Nat) : (stepN hr dm op ts i j).map (·.1) = drop2 (ts.map (·.1)) i j ++ [resL op (ts.map (·.1)) i j] := by
  unfold stepN
  rw [List.map_append, drop2_map]; rfl
theorem mem_resL {i j : Nat} {a b : NT k p n} (ha : ts[i]? = some a) (hb : ts[j]? = some b) {x : Int} : x ∈ resL op (ts.map (·.1)) i j ↔ (x ∈ a.1 ∨ x ∈ b.1) ∧ (x ∈ op ∨ x ∈ occ (drop2 ts i j)) := by
  unfold resL resK
  rw [labAt_map ha, labAt_map hb, mem_keepL, mem_joinL, List.mem_append, drop2_map, mem_flatten_map]
theorem stepN_isN (h : IsN k p n dm U ts op) {i j : Nat} (hij : i ≠ j) (hi : i < ts.length) (hj : j < ts.length) : IsN k p n dm U (stepN hr dm op ts i j) op := by
  obtain ⟨a, ha⟩ : ∃ a, ts[i]? = some a := ⟨_, List.getElem?_eq_getElem hi⟩
  obtain ⟨b, hb⟩ : ∃ b, ts[j]? = some b := ⟨_, List.getElem?_eq_getElem hj⟩
  rw [stepN_eq hr ha hb]
  refine ⟨h.uni, fun t ht => ?_, h.sub, fun x hx => ?_, ?_⟩
  · rcases List.mem_append.1 ht with ht | ht
    · obtain ⟨q, _, hq⟩ := mem_drop2.1 ht
      exact h.ten t (List.mem_of_getElem? hq)
    · simp at ht; subst ht
      exact contr_isT hr (h.ten a (List.mem_of_getElem? ha)) (h.ten b (List.mem_of_getElem? hb)) _
  · rw [occ_append, List.mem_append]
    by_cases hd : x ∈ occ (drop2 ts i j)
    · exact .inl hd
    · right
      have hx1 := h.occ x hx
      rw [mem_occ] at hx1
      obtain ⟨t, ht, hxt⟩ := hx1
      have hp := (two_perm hij ha hb).mem_iff.1 ht
      rw [show occ [(keepL (joinL a.1 b.1) (resL op (ts.map (·.1)) i j), contrXs hr dm a.1 b.1 (resL op (ts.map (·.1)) i j) a.2 b.2)] = keepL (joinL a.1 b.1) (resL op (ts.map (·.1)) i j) ++ [] from rfl, List.append_nil, mem_keepL, mem_joinL, mem_resL ha hb]
      have : x ∈ a.1 ∨ x ∈ b.1 := by
        rcases List.mem_cons.1 hp with rfl | hp
        · exact .inl hxt
        · rcases List.mem_cons.1 hp with rfl | hp
          · exact .inr hxt
          · exact absurd (mem_occ.2 ⟨t, hp, hxt⟩) hd
      exact ⟨this, this, .inl hx⟩
  · have := drop2_len hij hi hj
    have := h.len
    rw [List.length_append, List.length_singleton]; omega
theorem stepN_val (h : IsN k p n dm U ts op) {i j : Nat} (hij : i ≠ j) (hi : i < ts.length) (hj : j < ts.length) : netXs hr dm (stepN hr dm op ts i j) op = netXs hr dm ts op := by
  obtain ⟨a, ha⟩ : ∃ a, ts[i]? = some a := ⟨_, List.getElem?_eq_getElem hi⟩
  obtain ⟨b, hb⟩ : ∃ b, ts[j]? = some b := ⟨_, List.getElem?_eq_getElem hj⟩
  have hta := h.ten a (List.mem_of_getElem? ha)
  have htb := h.ten b (List.mem_of_getElem? hb)
  have hp := two_perm hij ha hb
  have e1 : netXs hr dm ts op = netXs hr dm ([(a.1, a.2), (b.1, b.2)] ++ drop2 ts i j) op := by
    unfold netXs
    exact congrArg (fun F => tab (axs dm op) F σ0) (funext fun τ => netG_perm hr hp op τ)
  have e2 : netXs hr dm (stepN hr dm op ts i j) op = netXs hr dm ((keepL (joinL a.1 b.1) (resL op (ts.map (·.1)) i j), contrXs hr dm a.1 b.1 (resL op (ts.map (·.1)) i j) a.2 b.2) :: drop2 ts i j) op := by
    rw [stepN_eq hr ha hb]
    unfold netXs
    exact congrArg (fun F => tab (axs dm op) F σ0) (funext fun τ => netG_perm hr List.perm_append_comm op τ)
  rw [e1, e2]
  have hoc : ∀ x, x ∈ occ [(a.1, a.2), (b.1, b.2)] → x ∈ a.1 ∨ x ∈ b.1 := fun x hx => by
    rw [show occ [(a.1, a.2), (b.1, b.2)] = a.1 ++ (b.1 ++ []) from rfl, List.append_nil, List.mem_append] at hx; exact hx
  refine net_stepXs hr h.uni h.sub (fun x hx => ?_) (sums_contr hr hta htb) (fun x hx hn => ?_) fun x hx => ?_
  · rcases hoc x hx with hx | hx
    · exact hta.sub.sub x hx
    · exact htb.sub.sub x hx
  · rw [mem_resL ha hb] at hn
    exact ⟨fun e => hn ⟨hoc x hx, .inl e⟩, fun e => hn ⟨hoc x hx, .inr e⟩⟩
  · obtain ⟨t, ht, hxt⟩ := mem_occ.1 hx
    obtain ⟨q, _, hq⟩ := mem_drop2.1 ht
    exact (h.ten t (List.mem_of_getElem? hq)).sub.sub x hxt
end
def numStep (ns : List Int) (nx : Int) (s : Int × Int) : List Int := drop2 ns (findL ns s.1).toNat (findL ns s.2).toNat ++ [nx]
def okO : List Int → Int → List (Int × Int) → Prop
  | _, _, [] => True
  | ns, nx, s :: r => s.1 ∈ ns ∧ s.2 ∈ ns ∧ s.1 < s.2 ∧ okO (numStep ns nx s) (nx + 1) r
def labStep (op : List Int) (ns : List Int) (ls : List (List Int)) (s : Int × Int) : List (List Int) :=
  drop2 ls (findL ns s.1).toNat (findL ns s.2).toNat ++ [resL op ls (findL ns s.1).toNat (findL ns s.2).toNat]
end Go.Proofs.YtlgjddgajdjllaaGreat
