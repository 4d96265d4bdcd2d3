/- Texts of one kind, merged by program. -/
import Derived.Test.YtpegckmagiaggaaCBase
import Derived.Test.YtpegckmagiaggaaCNetV
import Derived.Test.YtpegckmagiaggaaCContrW
import Derived.Test.YtpegckmagiaggaaCG5
import Derived.Test.YtpegckmagiaggaaCG10
import Derived.Test.YtpegckmagiaggaaCListW
import Derived.Test.YtpegckmagiaggaaCPermW
import Derived.Test.YtpegckmagiaggaaCG6
import Derived.Test.YtpegckmagiaggaaCIntoO
/- The laws of values of networks, plain: totals, images, slices. No program in sight. -/
namespace Go.Proofs.Ytpegckmagiaggaa
open Go.RowKit
set_option linter.unusedSimpArgs false
set_option linter.unusedVariables false

section
variable {k p n : Int} (hr : ringOk k p n = true)
variable {dm : Int → Int} {U : List Int} {ts : List (NT k p n)} {op : List Int}
theorem keepL_asc (h : IsN k p n dm U ts op) : (keepL (ascL (occ ts)) op).Perm op := by
  refine (List.perm_ext_iff_of_nodup (by unfold keepL; exact (ascL_nodup _).filter _) h.sub.nodup).2 fun x => ?_
  rw [mem_keepL]
  exact ⟨fun hx => hx.2, fun hx => ⟨h.opAsc hx, hx⟩⟩
theorem asc_split (h : IsN k p n dm U ts op) : (ascL (occ ts)).Perm (op ++ goneL (ascL (occ ts)) op) :=
  (keep_gone _ op).trans (List.Perm.append_right _ (keepL_asc h))
/-- The loop over all assignments adds up the value. -/
theorem netZ_all (h : IsN k p n dm U ts op) : netZ hr dm ts op (size (axs dm (ascL (occ ts)))) = netXs hr dm ts op := by
  unfold netZ netXs netG contrF
  have hs := scat_tab (rig hr) (netF hr dm ts) (all := axs dm (ascL (occ ts))) (left := axs dm op) (rest := axs dm (goneL (ascL (occ ts)) op)) (by rw [← axs_append]; exact axs_perm (asc_split h)) (by rw [labs_axs]; exact ascL_nodup _) σ0
  rw [tab_range] at hs
  exact hs
theorem netZ_length (o : Nat) : (netZ hr dm ts op o).length = size (axs dm op) := by
  unfold netZ
  exact (scat_length (rig hr) _ _).trans List.length_replicate
theorem netZ_succ (o : Nat) : netZ hr dm ts op (o + 1) = (netZ hr dm ts op o).modify (off (axs dm op) (asg (axs dm (ascL (occ ts))) o σ0)) fun x => (rig hr).add x (netF hr dm ts (asg (axs dm (ascL (occ ts))) o σ0)) := by
  unfold netZ
  rw [List.range_succ, List.map_append, List.map_cons, List.map_nil]
  exact scat_snoc (rig hr) [] _ _ _ _
end
section
variable {R : Type} (S : Rig R)
end
end Go.Proofs.Ytpegckmagiaggaa

/- A tensor that sums up a part of a network takes the part's place, plain. No program in sight. -/
namespace Go.Proofs.Ytpegckmagiaggaa
open Go.RowKit
set_option linter.unusedSimpArgs false
set_option linter.unusedVariables false

section
variable {k p n : Int} (hr : ringOk k p n = true)
variable {dm : Int → Int} {U : List Int}
theorem netG_perm {ts us : List (NT k p n)} (h : ts.Perm us) (op : List Int) (σ : Int → Int) : netG hr dm ts op σ = netG hr dm us op σ := by
  unfold netG contrF
  have e : ascL (occ ts) = ascL (occ us) := ascL_congr fun x => by
    rw [mem_occ, mem_occ]
    exact ⟨fun ⟨t, ht, hx⟩ => ⟨t, h.mem_iff.1 ht, hx⟩, fun ⟨t, ht, hx⟩ => ⟨t, h.mem_iff.2 ht, hx⟩⟩
  rw [e]
  exact sumA_ext _ _ σ fun τ => netF_perm hr dm h τ
/-- The tensor (M, ys) holds the sum of the part t1 over all its labels L that are not in K. -/
structure Sums1 (k p n : Int) (hr : ringOk k p n = true) (dm : Int → Int) (M : List Int) (ys : List (El k p n)) (t1 : List (NT k p n)) (K : List Int) : Prop where
  lab : ∀ x, x ∈ M ↔ x ∈ occ t1 ∧ x ∈ K
  val : ∀ τ, Fits (axs dm M) τ → valT hr dm M ys τ = netG hr dm t1 K τ
theorem net_step {M K op : List Int} {ys : List (El k p n)} {t1 t2 : List (NT k p n)} (h1 : ∀ x ∈ occ t1, 0 ≤ x ∧ x ≤ 99) (hs : Sums1 k p n hr dm M ys t1 K)
    (hK : ∀ x ∈ occ t1, x ∉ K → x ∉ op ∧ x ∉ occ t2) (h2 : ∀ x ∈ occ t2, 0 ≤ x ∧ x ≤ 99) {σ : Int → Int} (hf : ∀ x ∈ M, x ∈ op → 0 ≤ σ x ∧ σ x < dm x) :
    netG hr dm ((M, ys) :: t2) op σ = netG hr dm (t1 ++ t2) op σ := by
  have hm : ∀ x, x ∈ occ ((M, ys) :: t2) ↔ x ∈ M ∨ x ∈ occ t2 := fun x => by rw [show occ ((M, ys) :: t2) = M ++ occ t2 from rfl, List.mem_append]
  have ha : ∀ x, x ∈ occ (t1 ++ t2) ↔ x ∈ occ t1 ∨ x ∈ occ t2 := fun x => by rw [occ_append, List.mem_append]
  have hp : (goneL (ascL (occ (t1 ++ t2))) op).Perm (goneL (ascL (occ ((M, ys) :: t2))) op ++ goneL (ascL (occ t1)) K) := by
    refine (List.perm_ext_iff_of_nodup (l₁ := goneL (ascL (occ (t1 ++ t2))) op) ((ascL_nodup _).filter _) ?_).2 fun x => ?_
    · rw [List.nodup_append]
      refine ⟨(ascL_nodup _).filter _, (ascL_nodup _).filter _, fun x hx y hy e => ?_⟩
      subst e
      have a1 := (mem_ascL.1 (mem_goneL.1 hx).1).2
      have a2 := mem_goneL.1 hy
      have a3 := (mem_ascL.1 a2.1).2
      rcases (hm x).1 a1 with b | b
      · exact a2.2 ((hs.lab x).1 b).2
      · exact (hK x a3 a2.2).2 b
    · rw [List.mem_append, mem_goneL, mem_goneL, mem_goneL, mem_ascL, mem_ascL, mem_ascL, hm, ha, hs.lab]
      constructor
      · rintro ⟨⟨a1, a2⟩, a3⟩
        by_cases b : x ∈ occ t2
        · exact .inl ⟨⟨a1, .inr b⟩, a3⟩
        · rcases a2 with a2 | a2
          · by_cases c : x ∈ K
            · exact .inl ⟨⟨a1, .inl ⟨a2, c⟩⟩, a3⟩
            · exact .inr ⟨⟨a1, a2⟩, c⟩
          · exact absurd a2 b
      · rintro (⟨⟨a1, a2⟩, a3⟩ | ⟨⟨a1, a2⟩, a3⟩)
        · rcases a2 with a2 | a2
          · exact ⟨⟨a1, .inl a2.1⟩, a3⟩
          · exact ⟨⟨a1, .inr a2⟩, a3⟩
        · exact ⟨⟨a1, .inl a2⟩, (hK x a2 a3).1⟩
  unfold netG
  unfold contrF
  rw [sumA_perm (rig hr) _ (axs_perm hp) (by rw [labs_axs]; exact (ascL_nodup _).filter _), axs_append, sumA_append]
  refine sumA_congr (rig hr) fun τ hτ hft => ?_
  rw [labs_axs] at hτ
  have hft := hft (by rw [labs_axs]; exact (ascL_nodup _).filter _)
  have hfM : Fits (axs dm M) τ := fun a ha' => by
    obtain ⟨x, hx, rfl⟩ := List.mem_map.1 ha'
    by_cases hxo : x ∈ op
    · rw [hτ x fun h => (mem_goneL.1 h).2 hxo]
      exact hf x hx hxo
    · refine hft (x, dm x) (List.mem_map.2 ⟨x, mem_goneL.2 ⟨mem_ascL.2 ⟨h1 x ((hs.lab x).1 hx).1, (hm x).2 (.inl hx)⟩, hxo⟩, rfl⟩)
  rw [netF_cons, hs.val τ hfM]
  unfold netG contrF
  rw [← sumA_mul (rig hr) (netF hr dm t1) (netF_dep hr dm t2) (fun x hx => ?_)]
  · exact sumA_ext (rig hr) _ _ fun υ => (netF_append hr dm t1 t2 υ).symm
  · rw [labs_axs] at hx
    have := mem_goneL.1 hx
    exact (hK x (mem_ascL.1 this.1).2 this.2).2
/-- A sum of sums. -/
theorem Sums1.trans {M M' K K' : List Int} {ys ys' : List (El k p n)} {t1 t2 : List (NT k p n)} (hA : Sums1 k p n hr dm M ys ((M', ys') :: t2) K) (hB : Sums1 k p n hr dm M' ys' t1 K') (h1 : ∀ x ∈ occ t1, 0 ≤ x ∧ x ≤ 99)
    (hK : ∀ x ∈ occ t1, x ∉ K' → x ∉ K ∧ x ∉ occ t2) (h2 : ∀ x ∈ occ t2, 0 ≤ x ∧ x ≤ 99) : Sums1 k p n hr dm M ys (t1 ++ t2) K := by
  have hm : ∀ x, x ∈ occ ((M', ys') :: t2) ↔ x ∈ M' ∨ x ∈ occ t2 := fun x => by rw [show occ ((M', ys') :: t2) = M' ++ occ t2 from rfl, List.mem_append]
  refine ⟨fun x => ?_, fun τ hf => ?_⟩
  · rw [hA.lab, hm, hB.lab, occ_append, List.mem_append]
    constructor
    · rintro ⟨⟨a, _⟩ | a, b⟩
      · exact ⟨.inl a, b⟩
      · exact ⟨.inr a, b⟩
    · rintro ⟨a | a, b⟩
      · exact ⟨.inl ⟨a, Classical.byContradiction fun h => (hK x a h).1 b⟩, b⟩
      · exact ⟨.inr a, b⟩
  · rw [hA.val τ hf]
    refine net_step hr h1 hB hK h2 fun x hx hxo => hf (x, dm x) (List.mem_map.2 ⟨x, ?_, rfl⟩)
    rw [hA.lab, hm]
    exact ⟨.inl hx, hxo⟩
theorem Sums1.perm {M K : List Int} {ys : List (El k p n)} {t1 t2 : List (NT k p n)} (hA : Sums1 k p n hr dm M ys t1 K) (h : t1.Perm t2) : Sums1 k p n hr dm M ys t2 K :=
  ⟨fun x => by
    rw [hA.lab, mem_occ, mem_occ]
    exact ⟨fun ⟨⟨t, ht, hx⟩, hk⟩ => ⟨⟨t, h.mem_iff.1 ht, hx⟩, hk⟩, fun ⟨⟨t, ht, hx⟩, hk⟩ => ⟨⟨t, h.mem_iff.2 ht, hx⟩, hk⟩⟩, fun τ hf => by rw [hA.val τ hf, netG_perm hr h]⟩
/-- All that is kept may be told again. -/
theorem Sums1.keep {M K K' : List Int} {ys : List (El k p n)} {t1 : List (NT k p n)} (hA : Sums1 k p n hr dm M ys t1 K) (h : ∀ x ∈ occ t1, (x ∈ K ↔ x ∈ K')) : Sums1 k p n hr dm M ys t1 K' := by
  refine ⟨fun x => ?_, fun τ hf => ?_⟩
  · rw [hA.lab]
    exact ⟨fun ⟨a, b⟩ => ⟨a, (h x a).1 b⟩, fun ⟨a, b⟩ => ⟨a, (h x a).2 b⟩⟩
  · rw [hA.val τ hf]
    unfold netG contrF
    have e : goneL (ascL (occ t1)) K = goneL (ascL (occ t1)) K' := by
      unfold goneL
      apply List.filter_congr
      intro x hx
      have : hasL K x = hasL K' x := by rw [Bool.eq_iff_iff, hasL_iff, hasL_iff]; exact h x (mem_ascL.1 hx).2
      rw [this]
    rw [e]
/-- The tensor that sums up a whole network, in the order of the open labels, is its value. -/
theorem Sums1.done {M op : List Int} {ys : List (El k p n)} {ts : List (NT k p n)} (u : Uni dm U) (so : Sub U op) (hA : Sums1 k p n hr dm M ys ts op) (hp : M.Perm op) : permXs hr dm M op ys = netXs hr dm ts op := by
  unfold netXs permXs
  refine tab_congr (Uni.nodup so) (u.dims so) fun o => ?_
  refine hA.val _ fun a ha => ?_
  obtain ⟨x, hx, rfl⟩ := List.mem_map.1 ha
  exact asg_fits' u so o σ0 (x, dm x) (List.mem_map.2 ⟨x, hp.mem_iff.1 hx, rfl⟩)
end
end Go.Proofs.Ytpegckmagiaggaa

/- Networks: images, slices, renamed labels, a factor, plain. No program in sight. -/
namespace Go.Proofs.Ytpegckmagiaggaa
open Go.RowKit
set_option linter.unusedSimpArgs false
set_option linter.unusedVariables false

section
variable {k p n : Int} (hr : ringOk k p n = true)
variable {dm : Int → Int} {U : List Int} {ts : List (NT k p n)} {op : List Int}
/-! ### slices -/
/-! ### images -/
end
section
variable {fk fp fn tk tp tn hk ha : Int} (h : Keeps fk fp fn tk tp tn hk ha) (hr : ringOk fk fp fn = true) (hr2 : ringOk tk tp tn = true)
/-- The image of a network's tensors. -/
def mapN (ts : List (NT fk fp fn)) : List (NT tk tp tn) := ts.map fun t => (t.1, t.2.map (homEl h))
theorem occ_mapN (ts : List (NT fk fp fn)) : occ (mapN h ts) = occ ts := by
  unfold mapN occ
  rw [List.flatMap_map]
theorem netF_hom (dm : Int → Int) (σ : Int → Int) : ∀ ts : List (NT fk fp fn), netF hr2 dm (mapN h ts) σ = homEl h (netF hr dm ts σ)
  | [] => (homEl_one h hr hr2).symm
  | t :: ts => by
    have ih := netF_hom dm σ ts
    rw [netF_cons, homEl_mul h hr hr2, ← ih, ← valT_hom h hr hr2]
    exact netF_cons hr2 dm (t.1, t.2.map (homEl h)) (mapN h ts) σ
/-- The law of images: the value of the image is the image of the value. -/
theorem netXs_hom (dm : Int → Int) (ts : List (NT fk fp fn)) (op : List Int) : netXs hr2 dm (mapN h ts) op = (netXs hr dm ts op).map (homEl h) := by
  unfold netXs
  rw [tab_map]
  congr 1
  funext σ
  unfold netG
  rw [occ_mapN, contrF_hom (rig hr) (rig hr2) (homEl_zero h hr hr2) (homEl_add h hr hr2)]
  exact sumA_ext _ _ σ fun τ => netF_hom h hr hr2 dm τ ts
theorem mapN_isN {dm : Int → Int} {U : List Int} {ts : List (NT fk fp fn)} {op : List Int} (hn : IsN fk fp fn dm U ts op) : IsN tk tp tn dm U (mapN h ts) op :=
  ⟨hn.uni, fun t ht => by
    obtain ⟨u, hu, rfl⟩ := List.mem_map.1 ht
    have := hn.ten u hu
    exact ⟨this.uni, this.sub, by rw [List.length_map]; exact this.len⟩, hn.sub, fun x hx => by rw [occ_mapN]; exact hn.occ x hx, by unfold mapN; rw [List.length_map]; exact hn.len⟩
end
end Go.Proofs.Ytpegckmagiaggaa

/- The loop over all assignments of a network, plain. No program in sight. -/
namespace Go.Proofs.Ytpegckmagiaggaa
open Go.RowKit
set_option linter.unusedSimpArgs false
set_option linter.unusedVariables false
section
variable {k p n : Int} (hr : ringOk k p n = true) {W : Nat} (hW : ringWidth k n = (W : Int))
variable {dm : Int → Int} {U : List Int} {ts : List (NT k p n)} {op : List Int}
theorem asc_fit (h : IsN k p n dm U ts op) (o : Nat) {L : List Int} (hL : ∀ l ∈ L, l ∈ ascL (occ ts)) : Fits (axs dm L) (asg (axs dm (ascL (occ ts))) o σ0) := fun x hx => by
  obtain ⟨l, hl, rfl⟩ := List.mem_map.1 hx
  exact asg_fits' h.uni h.ascSub o σ0 (l, dm l) (List.mem_map_of_mem (hL l hl))
include hW
theorem net_read (h : IsN k p n dm U ts op) {L : List Int} {xs : List (El k p n)} (ht : (L, xs) ∈ ts) (o : Nat) :
    ∃ q : Nat, dotL ((ascL (occ ts)).map (stride L (L.map dm))) ((ascL (occ ts)).map (asg (axs dm (ascL (occ ts))) o σ0)) = (q : Int) ∧ q ≤ 4096 ∧ q * W + W ≤ (flat xs).length ∧ getL (flat xs) (q * W) W = (valT hr dm L xs (asg (axs dm (ascL (occ ts))) o σ0)).1 := by
  have hi := h.ten _ ht
  have hs : ∀ l ∈ L, l ∈ ascL (occ ts) := fun l hl => h.mem_asc.2 (mem_occ.2 ⟨_, ht, hl⟩)
  obtain ⟨q, a1, a2, a3, a4⟩ := read_at hr hW hi h.ascSub.nodup hs (asc_fit h o hs)
  exact ⟨q, a1, by have := hi.small; omega, a2, a3⟩
theorem net_stepZ (h : IsN k p n dm U ts op) (o : Nat) :
    ∃ (q : Nat) (z : List Int), dotL ((ascL (occ ts)).map (stride op (op.map dm))) ((ascL (occ ts)).map (asg (axs dm (ascL (occ ts))) o σ0)) = (q : Int) ∧ q ≤ 4096 ∧ q * W + W ≤ (flat (netZ hr dm ts op o)).length ∧ getL (flat (netZ hr dm ts op o)) (q * W) W = z ∧ rawOk k p n z = true ∧
      flat (netZ hr dm ts op (o + 1)) = putL (flat (netZ hr dm ts op o)) (q * W) (addL k p z (netF hr dm ts (asg (axs dm (ascL (occ ts))) o σ0)).1) := by
  obtain ⟨τ, hτ⟩ : ∃ τ, asg (axs dm (ascL (occ ts))) o σ0 = τ := ⟨_, rfl⟩
  have hC : ∀ l ∈ op, l ∈ ascL (occ ts) := fun l hl => h.opAsc hl
  have hf := asc_fit h o hC
  have hd : ∀ l ∈ op, 1 ≤ dm l := fun l hl => (h.uni.dim (h.sub.sub l hl)).1
  rw [hτ] at hf
  have c1 := dot_off (dm := dm) h.ascSub.nodup h.sub.nodup hC hd (σ := τ) (fun l hl => (hf (l, dm l) (List.mem_map_of_mem hl)).1)
  have c2 := off_lt hf
  have c3 := (h.uni.small h.sub).1
  have c4 := netZ_length hr (dm := dm) (ts := ts) (op := op) o
  have hq : off (axs dm op) τ < (netZ hr dm ts op o).length := by omega
  have hz := List.getElem?_eq_getElem hq
  have hp := flat_put hW hq ((rig hr).add (netZ hr dm ts op o)[off (axs dm op) τ] (netF hr dm ts τ))
  rw [hτ]
  refine ⟨off (axs dm op) τ, _, c1, by omega, ?_, flat_get hW hz, ((netZ hr dm ts op o)[off (axs dm op) τ]).2, ?_⟩
  · rw [flat_length hW, c4]
    have : (off (axs dm op) τ + 1) * W ≤ size (axs dm op) * W := Nat.mul_le_mul_right _ (by omega)
    rw [Nat.add_mul, Nat.one_mul] at this
    exact this
  · refine Eq.trans ?_ hp.symm
    congr 1
    rw [netZ_succ, hτ]
    exact getD_modify hq _
omit hW
theorem netF_take {j : Nat} {L : List Int} {xs : List (El k p n)} (h : ts[j]? = some (L, xs)) (σ : Int → Int) : (netF hr dm (ts.take (j + 1)) σ).1 = mulL k p (netF hr dm (ts.take j) σ).1 (valT hr dm L xs σ).1 := by
  rw [List.take_add_one, h]
  show (netF hr dm (ts.take j ++ [(L, xs)]) σ).1 = _
  rw [netF_snoc]; rfl
end
end Go.Proofs.Ytpegckmagiaggaa
