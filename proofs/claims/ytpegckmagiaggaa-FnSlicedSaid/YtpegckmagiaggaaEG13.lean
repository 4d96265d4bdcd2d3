/- Texts of one kind, merged by program. -/
import Derived.Test.YtpegckmagiaggaaEBase
import Derived.Test.YtpegckmagiaggaaEContrW
import Derived.Test.YtpegckmagiaggaaEG10
import Derived.Test.YtpegckmagiaggaaEPermutedP
import Derived.Test.YtpegckmagiaggaaEG11
import Derived.Test.YtpegckmagiaggaaEG5
import Derived.Test.YtpegckmagiaggaaEHomA
import Derived.Test.YtpegckmagiaggaaEAlg
import Derived.Test.YtpegckmagiaggaaEAddsS
import Derived.Test.YtpegckmagiaggaaEClosed
import Derived.Test.YtpegckmagiaggaaEMulsS
import Derived.Test.YtpegckmagiaggaaEMulsI
/- Tensors added, multiplied and scaled element by element, plain. No program in sight. -/
namespace Go.Proofs.Ytpegckmagiaggaa
open Go.RowKit
set_option linter.unusedSimpArgs false
set_option linter.unusedVariables false

/-- A list whose first elements are another one's. -/
def mixX {α : Type} (zs ys : List α) (i : Nat) : List α := zs.take i ++ ys.drop i
theorem mixX_zero {α : Type} (zs ys : List α) : mixX zs ys 0 = ys := by simp [mixX]
theorem mixX_all {α : Type} {zs ys : List α} (h : zs.length = ys.length) : mixX zs ys ys.length = zs := by simp [mixX, ← h]
theorem mixX_length {α : Type} {zs ys : List α} (h : zs.length = ys.length) (i : Nat) : (mixX zs ys i).length = ys.length := by simp [mixX]; omega
theorem mixX_get {α : Type} {zs ys : List α} (h : zs.length = ys.length) {i : Nat} {y : α} (hy : ys[i]? = some y) : (mixX zs ys i)[i]? = some y := by
  obtain ⟨hi, rfl⟩ := List.getElem?_eq_some_iff.1 hy
  unfold mixX
  rw [List.getElem?_append_right (by rw [List.length_take]; omega), List.length_take, Nat.min_eq_left (by omega), Nat.sub_self, List.getElem?_drop, Nat.add_zero]
  exact List.getElem?_eq_getElem hi
theorem mixX_step {α : Type} {zs ys : List α} (h : zs.length = ys.length) {i : Nat} {z : α} (hz : zs[i]? = some z) : (mixX zs ys i).set i z = mixX zs ys (i + 1) := by
  obtain ⟨hi, rfl⟩ := List.getElem?_eq_some_iff.1 hz
  have e : (zs.take i).length = i := by rw [List.length_take]; omega
  unfold mixX
  rw [List.drop_eq_getElem_cons (by omega), List.set_append_right _ _ (by omega), e, Nat.sub_self, List.set_cons_zero, List.take_succ_eq_append_getElem hi, List.append_assoc]; rfl
section
variable {k p n : Int} (hr : ringOk k p n = true)
/-- One round of a loop that changes element after element. -/
theorem flat_mix {W : Nat} (hW : ringWidth k n = (W : Int)) {zs ys : List (El k p n)} (h : zs.length = ys.length) {i : Nat} {y z : El k p n} (hy : ys[i]? = some y) (hz : zs[i]? = some z) :
    i * W + W ≤ (flat (mixX zs ys i)).length ∧ getL (flat (mixX zs ys i)) (i * W) W = y.1 ∧ putL (flat (mixX zs ys i)) (i * W) z.1 = flat (mixX zs ys (i + 1)) := by
  have hi := (List.getElem?_eq_some_iff.1 hy).1
  refine ⟨?_, flat_get hW (mixX_get h hy), ?_⟩
  · rw [flat_length hW, mixX_length h]
    have : (i + 1) * W ≤ ys.length * W := Nat.mul_le_mul_right _ (by omega)
    rw [Nat.add_mul, Nat.one_mul] at this
    exact this
  · rw [flat_put hW (by rw [mixX_length h]; exact hi), mixX_step h hz]
theorem flat_at {W : Nat} (hW : ringWidth k n = (W : Int)) {ys : List (El k p n)} {i : Nat} {y : El k p n} (hy : ys[i]? = some y) : i * W + W ≤ (flat ys).length ∧ getL (flat ys) (i * W) W = y.1 := by
  have hi := (List.getElem?_eq_some_iff.1 hy).1
  refine ⟨?_, flat_get hW hy⟩
  rw [flat_length hW]
  have : (i + 1) * W ≤ ys.length * W := Nat.mul_le_mul_right _ (by omega)
  rw [Nat.add_mul, Nat.one_mul] at this
  exact this
/-- What 'AddTensors' adds up, what 'MultiplyTensors' multiplies: ys is in the order of xs. -/
def addXs (xs ys : List (El k p n)) : List (El k p n) := List.zipWith (rig hr).add ys xs
/-- One round of each loop, told of integers. -/
theorem add_step {W : Nat} (hW : ringWidth k n = (W : Int)) {xs ys : List (El k p n)} (h : xs.length = ys.length) {j : Nat} (hj : j < ys.length) :
    ∃ x y : List Int, j * W + W ≤ (flat ys).length ∧ j * W + W ≤ (flat xs).length ∧ getL (flat xs) (j * W) W = x ∧ getL (flat (mixX (addXs hr xs ys) ys j)) (j * W) W = y ∧ rawOk k p n x = true ∧ rawOk k p n y = true ∧
      putL (flat (mixX (addXs hr xs ys) ys j)) (j * W) (addL k p y x) = flat (mixX (addXs hr xs ys) ys (j + 1)) := by
  obtain ⟨x, hx⟩ : ∃ x, xs[j]? = some x := ⟨_, List.getElem?_eq_getElem (by omega)⟩
  obtain ⟨y, hy⟩ : ∃ y, ys[j]? = some y := ⟨_, List.getElem?_eq_getElem hj⟩
  have hz : (addXs hr xs ys)[j]? = some ((rig hr).add y x) := by unfold addXs; rw [List.getElem?_zipWith, hy, hx]
  have hl : (addXs hr xs ys).length = ys.length := by unfold addXs; rw [List.length_zipWith]; omega
  obtain ⟨_, h2, h3⟩ := flat_mix hW hl hy hz
  exact ⟨x.1, y.1, (flat_at hW hy).1, (flat_at hW hx).1, (flat_at hW hx).2, h2, x.2, y.2, h3⟩
end
end Go.Proofs.Ytpegckmagiaggaa

/- The laws of values of networks, plain: totals, images, slices. No program in sight. -/
namespace Go.Proofs.Ytpegckmagiaggaa
open Go.RowKit
set_option linter.unusedSimpArgs false
set_option linter.unusedVariables false

section
variable {k p n : Int} (hr : ringOk k p n = true)
variable {dm : Int → Int} {U : List Int} {ts : List (NT k p n)} {op : List Int}
theorem keepL_asc (h : IsN k p n dm U ts op) : (keepL (ascL (occ ts)) op).Perm op := by
  refine (List.perm_ext_iff_of_nodup (by unfold keepL; exact (ascL_nodup _).filter _) h.sub.nodup).2 fun x => ?_
  rw [mem_keepL]
  exact ⟨fun hx => hx.2, fun hx => ⟨h.opAsc hx, hx⟩⟩
theorem asc_split (h : IsN k p n dm U ts op) : (ascL (occ ts)).Perm (op ++ goneL (ascL (occ ts)) op) :=
  (keep_gone _ op).trans (List.Perm.append_right _ (keepL_asc h))
/-- The loop over all assignments adds up the value. -/
theorem netZ_all (h : IsN k p n dm U ts op) : netZ hr dm ts op (size (axs dm (ascL (occ ts)))) = netXs hr dm ts op := by
  unfold netZ netXs netG contrF
  have hs := scat_tab (rig hr) (netF hr dm ts) (all := axs dm (ascL (occ ts))) (left := axs dm op) (rest := axs dm (goneL (ascL (occ ts)) op)) (by rw [← axs_append]; exact axs_perm (asc_split h)) (by rw [labs_axs]; exact ascL_nodup _) σ0
  rw [tab_range] at hs
  exact hs
theorem netZ_length (o : Nat) : (netZ hr dm ts op o).length = size (axs dm op) := by
  unfold netZ
  exact (scat_length (rig hr) _ _).trans List.length_replicate
theorem netZ_succ (o : Nat) : netZ hr dm ts op (o + 1) = (netZ hr dm ts op o).modify (off (axs dm op) (asg (axs dm (ascL (occ ts))) o σ0)) fun x => (rig hr).add x (netF hr dm ts (asg (axs dm (ascL (occ ts))) o σ0)) := by
  unfold netZ
  rw [List.range_succ, List.map_append, List.map_cons, List.map_nil]
  exact scat_snoc (rig hr) [] _ _ _ _
end
section
variable {R : Type} (S : Rig R)
/-- A value told ahead, at a label that is not summed over. -/
theorem sumA_upd (F : (Int → Int) → R) {x : Int} (v : Int) : ∀ {ax : List (Int × Int)}, (∀ y ∈ labs ax, y ≠ x) → ∀ σ : Int → Int, sumA S ax (fun τ => F (upd τ x v)) σ = sumA S ax F (upd σ x v)
  | [], _, σ => rfl
  | (l, d) :: r, h, σ => by
    rw [labs_cons] at h
    rw [sumA, sumA]
    refine sumN_congr S fun u _ => ?_
    rw [sumA_upd F v (fun y hy => h y (by simp [hy])), upd_comm _ _ _ (h l (by simp))]
theorem sumA_sumN (F : Nat → (Int → Int) → R) (ax : List (Int × Int)) (σ : Int → Int) : ∀ d : Nat, sumA S ax (fun τ => sumN S d fun j => F j τ) σ = sumN S d fun j => sumA S ax (F j) σ
  | 0 => sumA_zero S ax σ
  | d + 1 => by
    rw [sumN, ← sumA_sumN F ax σ d, ← sumA_add]
    exact sumA_ext S ax σ fun τ => rfl
end
end Go.Proofs.Ytpegckmagiaggaa

/- The loop over all assignments of a network, plain. No program in sight. -/
namespace Go.Proofs.Ytpegckmagiaggaa
open Go.RowKit
set_option linter.unusedSimpArgs false
set_option linter.unusedVariables false
section
variable {k p n : Int} (hr : ringOk k p n = true) {W : Nat} (hW : ringWidth k n = (W : Int))
variable {dm : Int → Int} {U : List Int} {ts : List (NT k p n)} {op : List Int}
theorem asc_fit (h : IsN k p n dm U ts op) (o : Nat) {L : List Int} (hL : ∀ l ∈ L, l ∈ ascL (occ ts)) : Fits (axs dm L) (asg (axs dm (ascL (occ ts))) o σ0) := fun x hx => by
  obtain ⟨l, hl, rfl⟩ := List.mem_map.1 hx
  exact asg_fits' h.uni h.ascSub o σ0 (l, dm l) (List.mem_map_of_mem (hL l hl))
include hW
theorem net_read (h : IsN k p n dm U ts op) {L : List Int} {xs : List (El k p n)} (ht : (L, xs) ∈ ts) (o : Nat) :
    ∃ q : Nat, dotL ((ascL (occ ts)).map (stride L (L.map dm))) ((ascL (occ ts)).map (asg (axs dm (ascL (occ ts))) o σ0)) = (q : Int) ∧ q ≤ 4096 ∧ q * W + W ≤ (flat xs).length ∧ getL (flat xs) (q * W) W = (valT hr dm L xs (asg (axs dm (ascL (occ ts))) o σ0)).1 := by
  have hi := h.ten _ ht
  have hs : ∀ l ∈ L, l ∈ ascL (occ ts) := fun l hl => h.mem_asc.2 (mem_occ.2 ⟨_, ht, hl⟩)
  obtain ⟨q, a1, a2, a3, a4⟩ := read_at hr hW hi h.ascSub.nodup hs (asc_fit h o hs)
  exact ⟨q, a1, by have := hi.small; omega, a2, a3⟩
theorem net_stepZ (h : IsN k p n dm U ts op) (o : Nat) :
    ∃ (q : Nat) (z : List Int), dotL ((ascL (occ ts)).map (stride op (op.map dm))) ((ascL (occ ts)).map (asg (axs dm (ascL (occ ts))) o σ0)) = (q : Int) ∧ q ≤ 4096 ∧ q * W + W ≤ (flat (netZ hr dm ts op o)).length ∧ getL (flat (netZ hr dm ts op o)) (q * W) W = z ∧ rawOk k p n z = true ∧
      flat (netZ hr dm ts op (o + 1)) = putL (flat (netZ hr dm ts op o)) (q * W) (addL k p z (netF hr dm ts (asg (axs dm (ascL (occ ts))) o σ0)).1) := by
  obtain ⟨τ, hτ⟩ : ∃ τ, asg (axs dm (ascL (occ ts))) o σ0 = τ := ⟨_, rfl⟩
  have hC : ∀ l ∈ op, l ∈ ascL (occ ts) := fun l hl => h.opAsc hl
  have hf := asc_fit h o hC
  have hd : ∀ l ∈ op, 1 ≤ dm l := fun l hl => (h.uni.dim (h.sub.sub l hl)).1
  rw [hτ] at hf
  have c1 := dot_off (dm := dm) h.ascSub.nodup h.sub.nodup hC hd (σ := τ) (fun l hl => (hf (l, dm l) (List.mem_map_of_mem hl)).1)
  have c2 := off_lt hf
  have c3 := (h.uni.small h.sub).1
  have c4 := netZ_length hr (dm := dm) (ts := ts) (op := op) o
  have hq : off (axs dm op) τ < (netZ hr dm ts op o).length := by omega
  have hz := List.getElem?_eq_getElem hq
  have hp := flat_put hW hq ((rig hr).add (netZ hr dm ts op o)[off (axs dm op) τ] (netF hr dm ts τ))
  rw [hτ]
  refine ⟨off (axs dm op) τ, _, c1, by omega, ?_, flat_get hW hz, ((netZ hr dm ts op o)[off (axs dm op) τ]).2, ?_⟩
  · rw [flat_length hW, c4]
    have : (off (axs dm op) τ + 1) * W ≤ size (axs dm op) * W := Nat.mul_le_mul_right _ (by omega)
    rw [Nat.add_mul, Nat.one_mul] at this
    exact this
  · refine Eq.trans ?_ hp.symm
    congr 1
    rw [netZ_succ, hτ]
    exact getD_modify hq _
omit hW
theorem netF_take {j : Nat} {L : List Int} {xs : List (El k p n)} (h : ts[j]? = some (L, xs)) (σ : Int → Int) : (netF hr dm (ts.take (j + 1)) σ).1 = mulL k p (netF hr dm (ts.take j) σ).1 (valT hr dm L xs σ).1 := by
  rw [List.take_add_one, h]
  show (netF hr dm (ts.take j ++ [(L, xs)]) σ).1 = _
  rw [netF_snoc]; rfl
end
end Go.Proofs.Ytpegckmagiaggaa

/- A tensor that sums up a part of a network takes the part's place, plain. No program in sight. -/
namespace Go.Proofs.Ytpegckmagiaggaa
open Go.RowKit
set_option linter.unusedSimpArgs false
set_option linter.unusedVariables false

section
variable {k p n : Int} (hr : ringOk k p n = true)
variable {dm : Int → Int} {U : List Int}
theorem netG_perm {ts us : List (NT k p n)} (h : ts.Perm us) (op : List Int) (σ : Int → Int) : netG hr dm ts op σ = netG hr dm us op σ := by
  unfold netG contrF
  have e : ascL (occ ts) = ascL (occ us) := ascL_congr fun x => by
    rw [mem_occ, mem_occ]
    exact ⟨fun ⟨t, ht, hx⟩ => ⟨t, h.mem_iff.1 ht, hx⟩, fun ⟨t, ht, hx⟩ => ⟨t, h.mem_iff.2 ht, hx⟩⟩
  rw [e]
  exact sumA_ext _ _ σ fun τ => netF_perm hr dm h τ
/-- The tensor (M, ys) holds the sum of the part t1 over all its labels L that are not in K. -/
structure Sums1 (k p n : Int) (hr : ringOk k p n = true) (dm : Int → Int) (M : List Int) (ys : List (El k p n)) (t1 : List (NT k p n)) (K : List Int) : Prop where
  lab : ∀ x, x ∈ M ↔ x ∈ occ t1 ∧ x ∈ K
  val : ∀ τ, Fits (axs dm M) τ → valT hr dm M ys τ = netG hr dm t1 K τ
theorem net_step {M K op : List Int} {ys : List (El k p n)} {t1 t2 : List (NT k p n)} (h1 : ∀ x ∈ occ t1, 0 ≤ x ∧ x ≤ 99) (hs : Sums1 k p n hr dm M ys t1 K)
    (hK : ∀ x ∈ occ t1, x ∉ K → x ∉ op ∧ x ∉ occ t2) (h2 : ∀ x ∈ occ t2, 0 ≤ x ∧ x ≤ 99) {σ : Int → Int} (hf : ∀ x ∈ M, x ∈ op → 0 ≤ σ x ∧ σ x < dm x) :
    netG hr dm ((M, ys) :: t2) op σ = netG hr dm (t1 ++ t2) op σ := by
  have hm : ∀ x, x ∈ occ ((M, ys) :: t2) ↔ x ∈ M ∨ x ∈ occ t2 := fun x => by rw [show occ ((M, ys) :: t2) = M ++ occ t2 from rfl, List.mem_append]
  have ha : ∀ x, x ∈ occ (t1 ++ t2) ↔ x ∈ occ t1 ∨ x ∈ occ t2 := fun x => by rw [occ_append, List.mem_append]
  have hp : (goneL (ascL (occ (t1 ++ t2))) op).Perm (goneL (ascL (occ ((M, ys) :: t2))) op ++ goneL (ascL (occ t1)) K) := by
    refine (List.perm_ext_iff_of_nodup (l₁ := goneL (ascL (occ (t1 ++ t2))) op) ((ascL_nodup _).filter _) ?_).2 fun x => ?_
    · rw [List.nodup_append]
      refine ⟨(ascL_nodup _).filter _, (ascL_nodup _).filter _, fun x hx y hy e => ?_⟩
      subst e
      have a1 := (mem_ascL.1 (mem_goneL.1 hx).1).2
      have a2 := mem_goneL.1 hy
      have a3 := (mem_ascL.1 a2.1).2
      rcases (hm x).1 a1 with b | b
      · exact a2.2 ((hs.lab x).1 b).2
      · exact (hK x a3 a2.2).2 b
    · rw [List.mem_append, mem_goneL, mem_goneL, mem_goneL, mem_ascL, mem_ascL, mem_ascL, hm, ha, hs.lab]
      constructor
      · rintro ⟨⟨a1, a2⟩, a3⟩
        by_cases b : x ∈ occ t2
        · exact .inl ⟨⟨a1, .inr b⟩, a3⟩
        · rcases a2 with a2 | a2
          · by_cases c : x ∈ K
            · exact .inl ⟨⟨a1, .inl ⟨a2, c⟩⟩, a3⟩
            · exact .inr ⟨⟨a1, a2⟩, c⟩
          · exact absurd a2 b
      · rintro (⟨⟨a1, a2⟩, a3⟩ | ⟨⟨a1, a2⟩, a3⟩)
        · rcases a2 with a2 | a2
          · exact ⟨⟨a1, .inl a2.1⟩, a3⟩
          · exact ⟨⟨a1, .inr a2⟩, a3⟩
        · exact ⟨⟨a1, .inl a2⟩, (hK x a2 a3).1⟩
  unfold netG
  unfold contrF
  rw [sumA_perm (rig hr) _ (axs_perm hp) (by rw [labs_axs]; exact (ascL_nodup _).filter _), axs_append, sumA_append]
  refine sumA_congr (rig hr) fun τ hτ hft => ?_
  rw [labs_axs] at hτ
  have hft := hft (by rw [labs_axs]; exact (ascL_nodup _).filter _)
  have hfM : Fits (axs dm M) τ := fun a ha' => by
    obtain ⟨x, hx, rfl⟩ := List.mem_map.1 ha'
    by_cases hxo : x ∈ op
    · rw [hτ x fun h => (mem_goneL.1 h).2 hxo]
      exact hf x hx hxo
    · refine hft (x, dm x) (List.mem_map.2 ⟨x, mem_goneL.2 ⟨mem_ascL.2 ⟨h1 x ((hs.lab x).1 hx).1, (hm x).2 (.inl hx)⟩, hxo⟩, rfl⟩)
  rw [netF_cons, hs.val τ hfM]
  unfold netG contrF
  rw [← sumA_mul (rig hr) (netF hr dm t1) (netF_dep hr dm t2) (fun x hx => ?_)]
  · exact sumA_ext (rig hr) _ _ fun υ => (netF_append hr dm t1 t2 υ).symm
  · rw [labs_axs] at hx
    have := mem_goneL.1 hx
    exact (hK x (mem_ascL.1 this.1).2 this.2).2
/-- A sum of sums. -/
theorem Sums1.trans {M M' K K' : List Int} {ys ys' : List (El k p n)} {t1 t2 : List (NT k p n)} (hA : Sums1 k p n hr dm M ys ((M', ys') :: t2) K) (hB : Sums1 k p n hr dm M' ys' t1 K') (h1 : ∀ x ∈ occ t1, 0 ≤ x ∧ x ≤ 99)
    (hK : ∀ x ∈ occ t1, x ∉ K' → x ∉ K ∧ x ∉ occ t2) (h2 : ∀ x ∈ occ t2, 0 ≤ x ∧ x ≤ 99) : Sums1 k p n hr dm M ys (t1 ++ t2) K := by
  have hm : ∀ x, x ∈ occ ((M', ys') :: t2) ↔ x ∈ M' ∨ x ∈ occ t2 := fun x => by rw [show occ ((M', ys') :: t2) = M' ++ occ t2 from rfl, List.mem_append]
  refine ⟨fun x => ?_, fun τ hf => ?_⟩
  · rw [hA.lab, hm, hB.lab, occ_append, List.mem_append]
    constructor
    · rintro ⟨⟨a, _⟩ | a, b⟩
      · exact ⟨.inl a, b⟩
      · exact ⟨.inr a, b⟩
    · rintro ⟨a | a, b⟩
      · exact ⟨.inl ⟨a, Classical.byContradiction fun h => (hK x a h).1 b⟩, b⟩
      · exact ⟨.inr a, b⟩
  · rw [hA.val τ hf]
    refine net_step hr h1 hB hK h2 fun x hx hxo => hf (x, dm x) (List.mem_map.2 ⟨x, ?_, rfl⟩)
    rw [hA.lab, hm]
    exact ⟨.inl hx, hxo⟩
theorem Sums1.perm {M K : List Int} {ys : List (El k p n)} {t1 t2 : List (NT k p n)} (hA : Sums1 k p n hr dm M ys t1 K) (h : t1.Perm t2) : Sums1 k p n hr dm M ys t2 K :=
  ⟨fun x => by
    rw [hA.lab, mem_occ, mem_occ]
    exact ⟨fun ⟨⟨t, ht, hx⟩, hk⟩ => ⟨⟨t, h.mem_iff.1 ht, hx⟩, hk⟩, fun ⟨⟨t, ht, hx⟩, hk⟩ => ⟨⟨t, h.mem_iff.2 ht, hx⟩, hk⟩⟩, fun τ hf => by rw [hA.val τ hf, netG_perm hr h]⟩
/-- A tensor alone. -/
theorem Sums1.one {L K : List Int} {xs : List (El k p n)} (h : ∀ x ∈ L, x ∈ K) : Sums1 k p n hr dm L xs [(L, xs)] K := by
  have e : occ [(L, xs)] = L := by rw [show occ [(L, xs)] = L ++ [] from rfl, List.append_nil]
  refine ⟨fun x => by rw [e]; exact ⟨fun hx => ⟨hx, h x hx⟩, fun hx => hx.1⟩, fun τ _ => ?_⟩
  unfold netG
  rw [e, contrF_all (rig hr) (fun x hx => h x (mem_ascL.1 hx).2), netF_cons, netF_nil, (rig hr).mul_one]
end
end Go.Proofs.Ytpegckmagiaggaa

/- The law of slices, plain: a tensor is the stack of its slices; their sum. No program in sight. -/
namespace Go.Proofs.Ytpegckmagiaggaa
open Go.RowKit
set_option linter.unusedSimpArgs false
set_option linter.unusedVariables false

section
variable {k p n : Int} (hr : ringOk k p n = true)
theorem permXs_selfT {dm : Int → Int} {U L : List Int} {xs : List (El k p n)} (h : IsT k p n dm U L xs) : permXs hr dm L L xs = xs := by
  unfold permXs; exact tab_valT hr h.sub.nodup h.len σ0
end
end Go.Proofs.Ytpegckmagiaggaa

/- Networks: images, slices, renamed labels, a factor, plain. No program in sight. -/
namespace Go.Proofs.Ytpegckmagiaggaa
open Go.RowKit
set_option linter.unusedSimpArgs false
set_option linter.unusedVariables false

section
variable {k p n : Int} (hr : ringOk k p n = true)
variable {dm : Int → Int} {U : List Int} {ts : List (NT k p n)} {op : List Int}
/-! ### slices -/
/-- One tensor, sliced if it has the label. -/
def cutT (dm : Int → Int) (x v : Int) (t : NT k p n) : NT k p n := if hasL t.1 x = true then (cutL t.1 x, cutXs hr dm t.1 x (fun _ => v) t.2) else t
theorem cutT_lab (dm : Int → Int) (x v : Int) (t : NT k p n) : (cutT hr dm x v t).1 = cutL t.1 x := by
  unfold cutT
  split
  · rfl
  · rename_i h
    have h : x ∉ t.1 := fun hx => h ((hasL_iff _ _).2 hx)
    exact (List.filter_eq_self.2 fun y hy => by simp; rintro rfl; exact h hy).symm
theorem occ_cut (dm : Int → Int) (x v : Int) : ∀ ts : List (NT k p n), occ (ts.map (cutT hr dm x v)) = cutL (occ ts) x
  | [] => rfl
  | t :: ts => by
    have e1 : occ ((t :: ts).map (cutT hr dm x v)) = (cutT hr dm x v t).1 ++ occ (ts.map (cutT hr dm x v)) := rfl
    have e2 : occ (t :: ts) = t.1 ++ occ ts := rfl
    rw [e1, occ_cut dm x v ts, cutT_lab, e2]
    exact (List.filter_append ..).symm
theorem cutT_isT (h : IsN k p n dm U ts op) (x v : Int) : ∀ t ∈ ts.map (cutT hr dm x v), IsT k p n dm U t.1 t.2 := fun t ht => by
  obtain ⟨u, hu, rfl⟩ := List.mem_map.1 ht
  unfold cutT
  split
  · exact cutXs_isT hr (h.ten u hu) x _
  · exact h.ten u hu
theorem cut_isN (h : IsN k p n dm U ts op) (x v : Int) : IsN k p n dm U (ts.map (cutT hr dm x v)) (cutL op x) :=
  ⟨h.uni, cutT_isT hr h x v, h.sub.cut x, fun y hy => by rw [occ_cut]; exact mem_cutL.2 ⟨h.occ y (mem_cutL.1 hy).1, (mem_cutL.1 hy).2⟩, by rw [List.length_map]; exact h.len⟩
/-- The weight of a slice's assignment. -/
theorem netF_cut : ∀ {ts : List (NT k p n)} (_ : ∀ t ∈ ts, t.1.Nodup) {x v : Int} {τ : Int → Int} (_ : Fits (axs dm (cutL (occ ts) x)) τ), netF hr dm (ts.map (cutT hr dm x v)) τ = netF hr dm ts (upd τ x v)
  | [], _, x, v, τ, _ => rfl
  | t :: ts, hn, x, v, τ, hf => by
    rw [List.map_cons, netF_cons, netF_cons]
    have e2 : occ (t :: ts) = t.1 ++ occ ts := rfl
    rw [netF_cut (fun u hu => hn u (by simp [hu])) (fun a ha => by
      obtain ⟨y, hy, rfl⟩ := List.mem_map.1 ha
      exact hf (y, dm y) (List.mem_map.2 ⟨y, mem_cutL.2 ⟨by rw [e2]; exact List.mem_append_right _ (mem_cutL.1 hy).1, (mem_cutL.1 hy).2⟩, rfl⟩))]
    congr 1
    unfold cutT
    split
    · rename_i hx
      unfold cutXs
      refine valT_tab hr (F := fun τ => valT hr dm t.1 t.2 (upd τ x v)) ?_ ?_ σ0
      · exact fun σ τ' e => valT_dep hr dm t.1 t.2 _ _ fun l hl => by
          unfold upd
          split
          · rfl
          · rename_i hne
            exact e l (mem_cutL.2 ⟨hl, hne⟩)
      · exact fun a ha => by
          obtain ⟨y, hy, rfl⟩ := List.mem_map.1 ha
          exact hf (y, dm y) (List.mem_map.2 ⟨y, mem_cutL.2 ⟨by rw [e2]; exact List.mem_append_left _ (mem_cutL.1 hy).1, (mem_cutL.1 hy).2⟩, rfl⟩)
    · rename_i hx
      refine valT_dep hr dm t.1 t.2 _ _ fun l hl => ?_
      rw [upd_ne]
      rintro rfl
      exact hx ((hasL_iff _ _).2 hl)
theorem gone_cut_open {x : Int} (hx : x ∈ op) : goneL (ascL (cutL (occ ts) x)) (cutL op x) = goneL (ascL (occ ts)) op := by
  unfold goneL ascL
  rw [List.filter_filter, List.filter_filter]
  apply List.filter_congr
  intro y _
  rw [Bool.eq_iff_iff]
  simp only [Bool.and_eq_true, Bool.not_eq_true', hasL_iff, hasL_not, mem_cutL]
  constructor
  · rintro ⟨h1, h2, h3⟩
    exact ⟨fun h => h1 ⟨h, h3⟩, h2⟩
  · rintro ⟨h1, h2⟩
    exact ⟨fun h => h1 h.1, h2, by rintro rfl; exact h1 hx⟩
theorem fits_inner (h : IsN k p n dm U ts op) {S : List Int} {σ τ : Int → Int} (ho : ∀ y ∈ S, y ∈ op → 0 ≤ σ y ∧ σ y < dm y) (hS : ∀ y ∈ S, y ∈ occ ts) {G : List Int} (hG : ∀ y ∈ S, y ∉ op → y ∈ G) (hGo : ∀ y ∈ G, y ∉ op) (e : ∀ y, y ∉ G → τ y = σ y) (hf : Fits (axs dm G) τ) : Fits (axs dm S) τ := fun a ha => by
  obtain ⟨y, hy, rfl⟩ := List.mem_map.1 ha
  by_cases hyo : y ∈ op
  · rw [e y fun hh => hGo y hh hyo]; exact ho y hy hyo
  · exact hf (y, dm y) (List.mem_map.2 ⟨y, hG y hy hyo, rfl⟩)
/-- A slice at an open label: the slice of the value. -/
theorem net_cut_open (h : IsN k p n dm U ts op) {x v : Int} (hx : x ∈ op) : netXs hr dm (ts.map (cutT hr dm x v)) (cutL op x) = cutXs hr dm op x (fun _ => v) (netXs hr dm ts op) ∨ ¬ (0 ≤ v ∧ v < dm x) := by
  refine Classical.byCases (fun hv : 0 ≤ v ∧ v < dm x => .inl ?_) fun hv => .inr hv
  unfold cutXs
  rw [show netXs hr dm (ts.map (cutT hr dm x v)) (cutL op x) = tab (axs dm (cutL op x)) (netG hr dm (ts.map (cutT hr dm x v)) (cutL op x)) σ0 from rfl]
  refine tab_congr (Uni.nodup (h.sub.cut x)) (h.uni.dims (h.sub.cut x)) fun o => ?_
  obtain ⟨σ, hσ⟩ : ∃ σ, asg (axs dm (cutL op x)) o σ0 = σ := ⟨_, rfl⟩
  have hf : Fits (axs dm (cutL op x)) σ := by rw [← hσ]; exact asg_fits' h.uni (h.sub.cut x) o σ0
  rw [hσ]
  rw [netG_val hr h (τ := upd σ x v) (fun a ha => by
    obtain ⟨y, hy, rfl⟩ := List.mem_map.1 ha
    by_cases e : y = x
    · subst e; rw [upd_same]; exact hv
    · rw [upd_ne _ _ e]; exact hf (y, dm y) (List.mem_map.2 ⟨y, mem_cutL.2 ⟨hy, e⟩, rfl⟩))]
  unfold netG contrF
  rw [occ_cut, gone_cut_open hx]
  have key : ∀ (G : List Int), (∀ y ∈ G, y ≠ x) → G.Nodup → (∀ y ∈ cutL (occ ts) x, y ∉ op → y ∈ G) → (∀ y ∈ G, y ∉ op) → sumA (rig hr) (axs dm G) (netF hr dm (ts.map (cutT hr dm x v))) σ = sumA (rig hr) (axs dm G) (netF hr dm ts) (upd σ x v) := by
    intro G hG hn hGo hGno
    have step : sumA (rig hr) (axs dm G) (netF hr dm (ts.map (cutT hr dm x v))) σ = sumA (rig hr) (axs dm G) (fun τ => netF hr dm ts (upd τ x v)) σ := by
      refine sumA_congr (rig hr) fun τ e hft => ?_
      rw [labs_axs] at e
      refine netF_cut hr (fun t ht => (h.ten t ht).sub.nodup) ?_
      exact fits_inner h (σ := σ) (fun y hy hyo => hf (y, dm y) (List.mem_map.2 ⟨y, mem_cutL.2 ⟨hyo, (mem_cutL.1 hy).2⟩, rfl⟩)) (fun y hy => (mem_cutL.1 hy).1) hGo hGno e (hft (by rw [labs_axs]; exact hn))
    rw [step]
    exact sumA_upd (rig hr) (netF hr dm ts) v (fun a ha => by rw [labs_axs] at ha; exact hG a ha) σ
  refine key _ (fun y hy => ?_) ((ascL_nodup _).filter _) (fun y hy hyo => ?_) (fun y hy => (mem_goneL.1 hy).2)
  · rintro rfl
    exact (mem_goneL.1 hy).2 hx
  · exact mem_goneL.2 ⟨mem_ascL.2 ⟨h.uni.labs (h.occU (mem_cutL.1 hy).1), (mem_cutL.1 hy).1⟩, hyo⟩
/-- The sum of the first slices at a closed label. -/
def sliceAcc (dm : Int → Int) (ts : List (NT k p n)) (op : List Int) (x : Int) (v : Nat) : List (El k p n) :=
  tab (axs dm op) (fun τ => sumN (rig hr) v fun j => netG hr dm (ts.map (cutT hr dm x (j : Nat))) op τ) σ0
theorem sliceAcc_isT (h : IsN k p n dm U ts op) (x : Int) (v : Nat) : IsT k p n dm U op (sliceAcc hr dm ts op x v) := IsT.tab h.uni h.sub _
theorem sliceAcc_zero (dm : Int → Int) (ts : List (NT k p n)) (op : List Int) (x : Int) : sliceAcc hr dm ts op x 0 = List.replicate (size (axs dm op)) (rig hr).zero := by
  unfold sliceAcc
  rw [tab_range]
  show (List.range _).map (fun _ => (rig hr).zero) = _
  rw [List.map_const', List.length_range]
theorem sliceAcc_step (h : IsN k p n dm U ts op) (x : Int) (v : Nat) (hc : IsN k p n dm U (ts.map (cutT hr dm x (v : Nat))) op) :
    addXs hr (sliceAcc hr dm ts op x v) (permXs hr dm op op (netXs hr dm (ts.map (cutT hr dm x (v : Nat))) op)) = sliceAcc hr dm ts op x (v + 1) := by
  rw [permXs_selfT hr (netXs_isT hr hc)]
  unfold addXs sliceAcc netXs
  rw [tab_zip]
  congr 1
  funext τ
  exact (rig hr).add_comm _ _
theorem gone_cut_closed (h : IsN k p n dm U ts op) {x : Int} (hx : x ∉ op) (hxo : x ∈ occ ts) : (goneL (ascL (occ ts)) op).Perm (goneL (ascL (cutL (occ ts) x)) op ++ [x]) := by
  have n1 : (goneL (ascL (occ ts)) op).Nodup := (ascL_nodup _).filter _
  have n2 : (goneL (ascL (cutL (occ ts) x)) op).Nodup := (ascL_nodup _).filter _
  refine (List.perm_ext_iff_of_nodup n1 ?_).2 fun y => ?_
  · rw [List.nodup_append]
    refine ⟨n2, by simp, fun a ha b hb e => ?_⟩
    simp at hb; subst hb; subst e
    exact (mem_cutL.1 (mem_ascL.1 (mem_goneL.1 ha).1).2).2 rfl
  · rw [List.mem_append, mem_goneL, mem_goneL, mem_ascL, mem_ascL, mem_cutL]
    simp only [List.mem_singleton]
    constructor
    · rintro ⟨⟨a, b⟩, c⟩
      by_cases e : y = x
      · exact .inr e
      · exact .inl ⟨⟨a, b, e⟩, c⟩
    · rintro (⟨⟨a, b, _⟩, c⟩ | rfl)
      · exact ⟨⟨a, b⟩, c⟩
      · exact ⟨⟨h.uni.labs (h.occU hxo), hxo⟩, hx⟩
/-- All slices at a closed label add up to the value. -/
theorem sliceAcc_all (h : IsN k p n dm U ts op) {x : Int} (hx : x ∉ op) (hxo : x ∈ occ ts) {d : Nat} (hd : dm x = (d : Int)) : sliceAcc hr dm ts op x d = netXs hr dm ts op := by
  unfold sliceAcc netXs
  refine tab_congr (Uni.nodup h.sub) (h.uni.dims h.sub) fun o => ?_
  obtain ⟨σ, hσ⟩ : ∃ σ, asg (axs dm op) o σ0 = σ := ⟨_, rfl⟩
  have hf : Fits (axs dm op) σ := by rw [← hσ]; exact asg_fits' h.uni h.sub o σ0
  rw [hσ]
  have hp := gone_cut_closed h hx hxo
  unfold netG contrF
  rw [sumA_perm (rig hr) _ (axs_perm hp) (by rw [labs_axs]; exact (ascL_nodup _).filter _), axs_append, sumA_append]
  have e1 : ∀ j, j < d → sumA (rig hr) (axs dm (goneL (ascL (occ (ts.map (cutT hr dm x (j : Nat))))) op)) (netF hr dm (ts.map (cutT hr dm x (j : Nat)))) σ = sumA (rig hr) (axs dm (goneL (ascL (cutL (occ ts) x)) op)) (fun τ => netF hr dm ts (upd τ x (j : Nat))) σ := by
    intro j hj
    rw [occ_cut]
    refine sumA_congr (rig hr) fun τ e hft => ?_
    rw [labs_axs] at e
    refine netF_cut hr (fun t ht => (h.ten t ht).sub.nodup) ?_
    exact fits_inner h (σ := σ) (G := goneL (ascL (cutL (occ ts) x)) op) (fun y hy hyo => hf (y, dm y) (List.mem_map.2 ⟨y, hyo, rfl⟩)) (fun y hy => (mem_cutL.1 hy).1)
      (fun y hy hyo => mem_goneL.2 ⟨mem_ascL.2 ⟨h.uni.labs (h.occU (mem_cutL.1 hy).1), hy⟩, hyo⟩) (fun y hy => (mem_goneL.1 hy).2) e (hft (by rw [labs_axs]; exact (ascL_nodup _).filter _))
  rw [sumN_congr (rig hr) e1, ← sumA_sumN]
  refine sumA_ext (rig hr) _ σ fun τ => ?_
  show _ = sumN (rig hr) (dm x).toNat fun v => netF hr dm ts (upd τ x v)
  rw [hd]; rfl
/-! ### images -/
end
end Go.Proofs.Ytpegckmagiaggaa
