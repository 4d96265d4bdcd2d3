/- Texts of one kind, merged by program. -/
import Derived.Test.YtpegckmagiaggaaKSumLW
import Derived.Test.YtpegckmagiaggaaKG11
import Derived.Test.YtpegckmagiaggaaKNetW
import Derived.Test.YtpegckmagiaggaaKArrB
/- The law of three tensors, plain. No program in sight. -/
set_option linter.unusedSimpArgs false
set_option linter.unusedVariables false
namespace Go.Proofs.Ytpegckmagiaggaa
open Go.RowKit
section
variable {k p n : Int} (hr : ringOk k p n = true)
theorem sum_isT {dm : Int → Int} {U a : List Int} {xs : List (El k p n)} (ha : IsT k p n dm U a xs) (keep : List Int) : IsT k p n dm U (keepL a keep) (sumXs hr dm a keep xs) := IsT.tab ha.uni (ha.sub.keep keep) _
end
section
variable {k p n : Int} (hr : ringOk k p n = true)
variable {dm : Int → Int} {U : List Int} {ts : List (NT k p n)} {op : List Int}
theorem keepL_asc (h : IsN k p n dm U ts op) : (keepL (ascL (occ ts)) op).Perm op := by
  refine (List.perm_ext_iff_of_nodup (by unfold keepL; exact (ascL_nodup _).filter _) h.sub.nodup).2 fun x => ?_
  rw [mem_keepL]
  exact ⟨fun hx => hx.2, fun hx => ⟨h.opAsc hx, hx⟩⟩
theorem asc_split (h : IsN k p n dm U ts op) : (ascL (occ ts)).Perm (op ++ goneL (ascL (occ ts)) op) :=
  (keep_gone _ op).trans (List.Perm.append_right _ (keepL_asc h))
theorem netZ_all (h : IsN k p n dm U ts op) : netZ hr dm ts op (size (axs dm (ascL (occ ts)))) = netXs hr dm ts op := by
  unfold netZ netXs netG contrF
  have hs := scat_tab (rig hr) (netF hr dm ts) (all := axs dm (ascL (occ ts))) (left := axs dm op) (rest := axs dm (goneL (ascL (occ ts)) op)) (by rw [← axs_append]; exact axs_perm (asc_split h)) (by rw [labs_axs]; exact ascL_nodup _) σ0
  rw [tab_range] at hs
  exact hs
theorem netZ_length (o : Nat) : (netZ hr dm ts op o).length = size (axs dm op) := by
  unfold netZ
  exact (scat_length (rig hr) _ _).trans List.length_replicate
theorem netZ_succ (o : Nat) : netZ hr dm ts op (o + 1) = (netZ hr dm ts op o).modify (off (axs dm op) (asg (axs dm (ascL (occ ts))) o σ0)) fun x => (rig hr).add x (netF hr dm ts (asg (axs dm (ascL (occ ts))) o σ0)) := by
  unfold netZ
  rw [List.range_succ, List.map_append, List.map_cons, List.map_nil]
  exact scat_snoc (rig hr) [] _ _ _ _
end
section
variable {k p n : Int} (hr : ringOk k p n = true) {W : Nat} (hW : ringWidth k n = (W : Int))
variable {dm : Int → Int} {U : List Int} {ts : List (NT k p n)} {op : List Int}
theorem asc_fit (h : IsN k p n dm U ts op) (o : Nat) {L : List Int} (hL : ∀ l ∈ L, l ∈ ascL (occ ts)) : Fits (axs dm L) (asg (axs dm (ascL (occ ts))) o σ0) := fun x hx => by
  obtain ⟨l, hl, rfl⟩ := List.mem_map.1 hx
  exact asg_fits' h.uni h.ascSub o σ0 (l, dm l) (List.mem_map_of_mem (hL l hl))
include hW
theorem net_stepZ (h : IsN k p n dm U ts op) (o : Nat) :
    ∃ (q : Nat) (z : List Int), dotL ((ascL (occ ts)).map (stride op (op.map dm))) ((ascL (occ ts)).map (asg (axs dm (ascL (occ ts))) o σ0)) = (q : Int) ∧ q ≤ 4096 ∧ q * W + W ≤ (flat (netZ hr dm ts op o)).length ∧ getL (flat (netZ hr dm ts op o)) (q * W) W = z ∧ rawOk k p n z = true ∧
      flat (netZ hr dm ts op (o + 1)) = putL (flat (netZ hr dm ts op o)) (q * W) (addL k p z (netF hr dm ts (asg (axs dm (ascL (occ ts))) o σ0)).1) := by
  obtain ⟨τ, hτ⟩ : ∃ τ, asg (axs dm (ascL (occ ts))) o σ0 = τ := ⟨_, rfl⟩
  have hC : ∀ l ∈ op, l ∈ ascL (occ ts) := fun l hl => h.opAsc hl
  have hf := asc_fit h o hC
  have hd : ∀ l ∈ op, 1 ≤ dm l := fun l hl => (h.uni.dim (h.sub.sub l hl)).1
  rw [hτ] at hf
  have c1 := dot_off (dm := dm) h.ascSub.nodup h.sub.nodup hC hd (σ := τ) (fun l hl => (hf (l, dm l) (List.mem_map_of_mem hl)).1)
  have c2 := off_lt hf
  have c3 := (h.uni.small h.sub).1
  have c4 := netZ_length hr (dm := dm) (ts := ts) (op := op) o
  have hq : off (axs dm op) τ < (netZ hr dm ts op o).length := by omega
  have hz := List.getElem?_eq_getElem hq
  have hp := flat_put hW hq ((rig hr).add (netZ hr dm ts op o)[off (axs dm op) τ] (netF hr dm ts τ))
  rw [hτ]
  refine ⟨off (axs dm op) τ, _, c1, by omega, ?_, flat_get hW hz, ((netZ hr dm ts op o)[off (axs dm op) τ]).2, ?_⟩
  · rw [flat_length hW, c4]
    have : (off (axs dm op) τ + 1) * W ≤ size (axs dm op) * W := Nat.mul_le_mul_right _ (by omega)
    rw [Nat.add_mul, Nat.one_mul] at this
    exact this
  · refine Eq.trans ?_ hp.symm
    congr 1
    rw [netZ_succ, hτ]
    exact getD_modify hq _
omit hW
theorem netF_take {j : Nat} {L : List Int} {xs : List (El k p n)} (h : ts[j]? = some (L, xs)) (σ : Int → Int) : (netF hr dm (ts.take (j + 1)) σ).1 = mulL k p (netF hr dm (ts.take j) σ).1 (valT hr dm L xs σ).1 := by
  rw [List.take_add_one, h]
  show (netF hr dm (ts.take j ++ [(L, xs)]) σ).1 = _
  rw [netF_snoc]; rfl
end
section
variable {k p n : Int} (hr : ringOk k p n = true)
variable {dm : Int → Int} {U : List Int}
theorem netG_perm {ts us : List (NT k p n)} (h : ts.Perm us) (op : List Int) (σ : Int → Int) : netG hr dm ts op σ = netG hr dm us op σ := by
  unfold netG contrF
  have e : ascL (occ ts) = ascL (occ us) := ascL_congr fun x => by
    rw [mem_occ, mem_occ]
    exact ⟨fun ⟨t, ht, hx⟩ => ⟨t, h.mem_iff.1 ht, hx⟩, fun ⟨t, ht, hx⟩ => ⟨t, h.mem_iff.2 ht, hx⟩⟩
  rw [e]
  exact sumA_ext _ _ σ fun τ => netF_perm hr dm h τ
structure Sums1 (k p n : Int) (hr : ringOk k p n = true) (dm : Int → Int) (M : List Int) (ys : List (El k p n)) (t1 : List (NT k p n)) (K : List Int) : Prop where
  lab : ∀ x, x ∈ M ↔ x ∈ occ t1 ∧ x ∈ K
  val : ∀ τ, Fits (axs dm M) τ → valT hr dm M ys τ = netG hr dm t1 K τ
theorem net_step {M K op : List Int} {ys : List (El k p n)} {t1 t2 : List (NT k p n)} (h1 : ∀ x ∈ occ t1, 0 ≤ x ∧ x ≤ 99) (hs : Sums1 k p n hr dm M ys t1 K)
    (hK : ∀ x ∈ occ t1, x ∉ K → x ∉ op ∧ x ∉ occ t2) (h2 : ∀ x ∈ occ t2, 0 ≤ x ∧ x ≤ 99) {σ : Int → Int} (hf : ∀ x ∈ M, x ∈ op → 0 ≤ σ x ∧ σ x < dm x) :
    netG hr dm ((M, ys) :: t2) op σ = netG hr dm (t1 ++ t2) op σ := by
  have hm : ∀ x, x ∈ occ ((M, ys) :: t2) ↔ x ∈ M ∨ x ∈ occ t2 := fun x => by rw [show occ ((M, ys) :: t2) = M ++ occ t2 from rfl, List.mem_append]
  have ha : ∀ x, x ∈ occ (t1 ++ t2) ↔ x ∈ occ t1 ∨ x ∈ occ t2 := fun x => by rw [occ_append, List.mem_append]
  have hp : (goneL (ascL (occ (t1 ++ t2))) op).Perm (goneL (ascL (occ ((M, ys) :: t2))) op ++ goneL (ascL (occ t1)) K) := by
    refine (List.perm_ext_iff_of_nodup (l₁ := goneL (ascL (occ (t1 ++ t2))) op) ((ascL_nodup _).filter _) ?_).2 fun x => ?_
    · rw [List.nodup_append]
      refine ⟨(ascL_nodup _).filter _, (ascL_nodup _).filter _, fun x hx y hy e => ?_⟩
      subst e
      have a1 := (mem_ascL.1 (mem_goneL.1 hx).1).2
      have a2 := mem_goneL.1 hy
      have a3 := (mem_ascL.1 a2.1).2
      rcases (hm x).1 a1 with b | b
      · exact a2.2 ((hs.lab x).1 b).2
      · exact (hK x a3 a2.2).2 b
    · rw [List.mem_append, mem_goneL, mem_goneL, mem_goneL, mem_ascL, mem_ascL, mem_ascL, hm, ha, hs.lab]
      constructor
      · rintro ⟨⟨a1, a2⟩, a3⟩
        by_cases b : x ∈ occ t2
        · exact .inl ⟨⟨a1, .inr b⟩, a3⟩
        · rcases a2 with a2 | a2
          · by_cases c : x ∈ K
            · exact .inl ⟨⟨a1, .inl ⟨a2, c⟩⟩, a3⟩
            · exact .inr ⟨⟨a1, a2⟩, c⟩
          · exact absurd a2 b
      · rintro (⟨⟨a1, a2⟩, a3⟩ | ⟨⟨a1, a2⟩, a3⟩)
        · rcases a2 with a2 | a2
          · exact ⟨⟨a1, .inl a2.1⟩, a3⟩
          · exact ⟨⟨a1, .inr a2⟩, a3⟩
        · exact ⟨⟨a1, .inl a2⟩, (hK x a2 a3).1⟩
  unfold netG
  unfold contrF
  rw [sumA_perm (rig hr) _ (axs_perm hp) (by rw [labs_axs]; exact (ascL_nodup _).filter _), axs_append, sumA_append]
  refine sumA_congr (rig hr) fun τ hτ hft => ?_
  rw [labs_axs] at hτ
  have hft := hft (by rw [labs_axs]; exact (ascL_nodup _).filter _)
  have hfM : Fits (axs dm M) τ := fun a ha' => by
    obtain ⟨x, hx, rfl⟩ := List.mem_map.1 ha'
    by_cases hxo : x ∈ op
    · rw [hτ x fun h => (mem_goneL.1 h).2 hxo]
      exact hf x hx hxo
    · refine hft (x, dm x) (List.mem_map.2 ⟨x, mem_goneL.2 ⟨mem_ascL.2 ⟨h1 x ((hs.lab x).1 hx).1, (hm x).2 (.inl hx)⟩, hxo⟩, rfl⟩)
  rw [netF_cons, hs.val τ hfM]
  unfold netG contrF
  rw [← sumA_mul (rig hr) (netF hr dm t1) (netF_dep hr dm t2) (fun x hx => ?_)]
  · exact sumA_ext (rig hr) _ _ fun υ => (netF_append hr dm t1 t2 υ).symm
  · rw [labs_axs] at hx
    have := mem_goneL.1 hx
    exact (hK x (mem_ascL.1 this.1).2 this.2).2
theorem net_stepXs {M K op : List Int} {ys : List (El k p n)} {t1 t2 : List (NT k p n)} (u : Uni dm U) (so : Sub U op) (h1 : ∀ x ∈ occ t1, x ∈ U) (hs : Sums1 k p n hr dm M ys t1 K)
    (hK : ∀ x ∈ occ t1, x ∉ K → x ∉ op ∧ x ∉ occ t2) (h2 : ∀ x ∈ occ t2, x ∈ U) : netXs hr dm ((M, ys) :: t2) op = netXs hr dm (t1 ++ t2) op := by
  unfold netXs
  refine tab_congr (Uni.nodup so) (u.dims so) fun o => ?_
  exact net_step hr (fun x hx => u.labs (h1 x hx)) hs hK (fun x hx => u.labs (h2 x hx)) fun x _ hx => asg_fits' u so o σ0 (x, dm x) (List.mem_map.2 ⟨x, hx, rfl⟩)
theorem sums_contr {a b keep : List Int} {xs ys : List (El k p n)} (ha : IsT k p n dm U a xs) (hb : IsT k p n dm U b ys) :
    Sums1 k p n hr dm (keepL (joinL a b) keep) (contrXs hr dm a b keep xs ys) [(a, xs), (b, ys)] keep := by
  have hocc : ∀ x, x ∈ occ [(a, xs), (b, ys)] ↔ x ∈ joinL a b := fun x => by
    rw [mem_joinL, show occ [(a, xs), (b, ys)] = a ++ (b ++ []) from rfl, List.append_nil, List.mem_append]
  refine ⟨fun x => by rw [mem_keepL, hocc], fun τ hf => ?_⟩
  have hp : (joinL a b).Perm (ascL (occ [(a, xs), (b, ys)])) := by
    refine (List.perm_ext_iff_of_nodup (ha.sub.join hb.sub).nodup (ascL_nodup _)).2 fun x => ?_
    rw [mem_ascL, hocc]
    exact ⟨fun h => ⟨ha.uni.labs ((ha.sub.join hb.sub).sub x h), h⟩, fun h => h.2⟩
  rw [show contrXs hr dm a b keep xs ys = tab (axs dm (keepL (joinL a b) keep)) (contrF (rig hr) dm (joinL a b) keep (mulF hr dm a b xs ys)) σ0 from rfl, valT_tab hr (contrF_dep (rig hr) (mulF_dep hr dm a b xs ys)) hf]
  unfold netG
  rw [contrF_perm (rig hr) (ha.sub.join hb.sub) hp]
  refine sumA_ext (rig hr) _ _ fun υ => ?_
  rw [netF_cons, netF_cons, netF_nil, (rig hr).mul_one]; rfl
theorem Sums1.trans {M M' K K' : List Int} {ys ys' : List (El k p n)} {t1 t2 : List (NT k p n)} (hA : Sums1 k p n hr dm M ys ((M', ys') :: t2) K) (hB : Sums1 k p n hr dm M' ys' t1 K') (h1 : ∀ x ∈ occ t1, 0 ≤ x ∧ x ≤ 99)
    (hK : ∀ x ∈ occ t1, x ∉ K' → x ∉ K ∧ x ∉ occ t2) (h2 : ∀ x ∈ occ t2, 0 ≤ x ∧ x ≤ 99) : Sums1 k p n hr dm M ys (t1 ++ t2) K := by
  have hm : ∀ x, x ∈ occ ((M', ys') :: t2) ↔ x ∈ M' ∨ x ∈ occ t2 := fun x => by rw [show occ ((M', ys') :: t2) = M' ++ occ t2 from rfl, List.mem_append]
  refine ⟨fun x => ?_, fun τ hf => ?_⟩
  · rw [hA.lab, hm, hB.lab, occ_append, List.mem_append]
    constructor
    · rintro ⟨⟨a, _⟩ | a, b⟩
      · exact ⟨.inl a, b⟩
      · exact ⟨.inr a, b⟩
    · rintro ⟨a | a, b⟩
      · exact ⟨.inl ⟨a, Classical.byContradiction fun h => (hK x a h).1 b⟩, b⟩
      · exact ⟨.inr a, b⟩
  · rw [hA.val τ hf]
    refine net_step hr h1 hB hK h2 fun x hx hxo => hf (x, dm x) (List.mem_map.2 ⟨x, ?_, rfl⟩)
    rw [hA.lab, hm]
    exact ⟨.inl hx, hxo⟩
theorem Sums1.one {L K : List Int} {xs : List (El k p n)} (h : ∀ x ∈ L, x ∈ K) : Sums1 k p n hr dm L xs [(L, xs)] K := by
  have e : occ [(L, xs)] = L := by rw [show occ [(L, xs)] = L ++ [] from rfl, List.append_nil]
  refine ⟨fun x => by rw [e]; exact ⟨fun hx => ⟨hx, h x hx⟩, fun hx => hx.1⟩, fun τ _ => ?_⟩
  unfold netG
  rw [e, contrF_all (rig hr) (fun x hx => h x (mem_ascL.1 hx).2), netF_cons, netF_nil, (rig hr).mul_one]
theorem Sums1.keep {M K K' : List Int} {ys : List (El k p n)} {t1 : List (NT k p n)} (hA : Sums1 k p n hr dm M ys t1 K) (h : ∀ x ∈ occ t1, (x ∈ K ↔ x ∈ K')) : Sums1 k p n hr dm M ys t1 K' := by
  refine ⟨fun x => ?_, fun τ hf => ?_⟩
  · rw [hA.lab]
    exact ⟨fun ⟨a, b⟩ => ⟨a, (h x a).1 b⟩, fun ⟨a, b⟩ => ⟨a, (h x a).2 b⟩⟩
  · rw [hA.val τ hf]
    unfold netG contrF
    have e : goneL (ascL (occ t1)) K = goneL (ascL (occ t1)) K' := by
      unfold goneL
      apply List.filter_congr
      intro x hx
      have : hasL K x = hasL K' x := by rw [Bool.eq_iff_iff, hasL_iff, hasL_iff]; exact h x (mem_ascL.1 hx).2
      rw [this]
    rw [e]
theorem Sums1.done {M op : List Int} {ys : List (El k p n)} {ts : List (NT k p n)} (u : Uni dm U) (so : Sub U op) (hA : Sums1 k p n hr dm M ys ts op) (hp : M.Perm op) : permXs hr dm M op ys = netXs hr dm ts op := by
  unfold netXs permXs
  refine tab_congr (Uni.nodup so) (u.dims so) fun o => ?_
  refine hA.val _ fun a ha => ?_
  obtain ⟨x, hx, rfl⟩ := List.mem_map.1 ha
  exact asg_fits' u so o σ0 (x, dm x) (List.mem_map.2 ⟨x, hp.mem_iff.1 hx, rfl⟩)
end
section
variable {R : Type} (S : Rig R)
theorem off_ren {f dm dm2 : Int → Int} (τ : Int → Int) : ∀ {L : List Int}, (∀ l ∈ L, dm2 (f l) = dm l) → off (axs dm2 (L.map f)) τ = off (axs dm L) (τ ∘ f) ∧ size (axs dm2 (L.map f)) = size (axs dm L)
  | [], _ => ⟨rfl, rfl⟩
  | l :: L, h => by
    obtain ⟨h1, h2⟩ := off_ren τ (L := L) fun x hx => h x (by simp [hx])
    rw [List.map_cons, axs_cons, axs_cons, off, off, size, size, h1, h2, h l (by simp)]
    exact ⟨rfl, rfl⟩
end
section
variable {k p n : Int} (hr : ringOk k p n = true)
variable {dm dm2 : Int → Int} {U U2 : List Int} {ts : List (NT k p n)} {op : List Int}
structure Ren (f dm dm2 : Int → Int) (U U2 : List Int) : Prop where
  uni : Uni dm2 U2
  dim : ∀ x ∈ U, dm2 (f x) = dm x
  inj : ∀ x ∈ U, ∀ y ∈ U, f x = f y → x = y
  into : ∀ x ∈ U, f x ∈ U2
theorem nodup_ren {f : Int → Int} : ∀ {L : List Int}, (∀ x ∈ L, ∀ y ∈ L, f x = f y → x = y) → L.Nodup → (L.map f).Nodup
  | [], _, _ => List.nodup_nil
  | l :: L, h, hn => by
    rw [List.nodup_cons] at hn
    rw [List.map_cons, List.nodup_cons]
    refine ⟨fun hm => ?_, nodup_ren (fun x hx y hy => h x (by simp [hx]) y (by simp [hy])) hn.2⟩
    obtain ⟨y, hy, e⟩ := List.mem_map.1 hm
    exact hn.1 (h y (by simp [hy]) l (by simp) e ▸ hy)
theorem Ren.sub {f : Int → Int} (g : Ren f dm dm2 U U2) {L : List Int} (s : Sub U L) : Sub U2 (L.map f) :=
  ⟨nodup_ren (fun x hx y hy e => g.inj x (s.sub x hx) y (s.sub y hy) e) s.nodup, fun l hl => by
    obtain ⟨x, hx, rfl⟩ := List.mem_map.1 hl
    exact g.into x (s.sub x hx)⟩
theorem Ren.size {f : Int → Int} (g : Ren f dm dm2 U U2) {L : List Int} (s : Sub U L) : size (axs dm2 (L.map f)) = Proofs.Ytpegckmagiaggaa.size (axs dm L) := (off_ren σ0 fun x hx => g.dim x (s.sub x hx)).2
end
section
variable {k p n : Int}
variable {dm : Int → Int} {U : List Int} {ts : List (NT k p n)} {op : List Int}
theorem IsT.flatLen (hr : ringOk k p n = true) {L : List Int} {xs : List (El k p n)} (h : IsT k p n dm U L xs) : (flat xs).length ≤ 1048576 := by
  obtain ⟨P0, W, hP, hW, hP1, hP2, hW1', hW6, hXl⟩ := (h.ok hr).nat hr
  have h1 := h.small
  rw [flat_length hW, h.len]
  have := Nat.mul_le_mul h1 hW6
  omega
end
end Go.Proofs.Ytpegckmagiaggaa
