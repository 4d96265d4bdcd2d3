/- Texts of one kind, merged by program. -/
import Derived.Test.YtpegckmagiaggaaDBase
import Derived.Test.YtpegckmagiaggaaDNetV
import Derived.Test.YtpegckmagiaggaaDSumLW
import Derived.Test.YtpegckmagiaggaaDG5
import Derived.Test.YtpegckmagiaggaaDG3
import Derived.Test.YtpegckmagiaggaaDHomA
import Derived.Test.YtpegckmagiaggaaDAddW
import Derived.Test.YtpegckmagiaggaaDG10
import Derived.Test.YtpegckmagiaggaaDListW
import Derived.Test.YtpegckmagiaggaaDPermW
import Derived.Test.YtpegckmagiaggaaDShuf
import Derived.Test.YtpegckmagiaggaaDIntoO
/- The laws of values of networks, plain: totals, images, slices. No program in sight. -/
namespace Go.Proofs.Ytpegckmagiaggaa
open Go.RowKit
set_option linter.unusedSimpArgs false
set_option linter.unusedVariables false

section
variable {k p n : Int} (hr : ringOk k p n = true)
variable {dm : Int → Int} {U : List Int} {ts : List (NT k p n)} {op : List Int}
theorem keepL_asc (h : IsN k p n dm U ts op) : (keepL (ascL (occ ts)) op).Perm op := by
  refine (List.perm_ext_iff_of_nodup (by unfold keepL; exact (ascL_nodup _).filter _) h.sub.nodup).2 fun x => ?_
  rw [mem_keepL]
  exact ⟨fun hx => hx.2, fun hx => ⟨h.opAsc hx, hx⟩⟩
theorem asc_split (h : IsN k p n dm U ts op) : (ascL (occ ts)).Perm (op ++ goneL (ascL (occ ts)) op) :=
  (keep_gone _ op).trans (List.Perm.append_right _ (keepL_asc h))
/-- The loop over all assignments adds up the value. -/
theorem netZ_all (h : IsN k p n dm U ts op) : netZ hr dm ts op (size (axs dm (ascL (occ ts)))) = netXs hr dm ts op := by
  unfold netZ netXs netG contrF
  have hs := scat_tab (rig hr) (netF hr dm ts) (all := axs dm (ascL (occ ts))) (left := axs dm op) (rest := axs dm (goneL (ascL (occ ts)) op)) (by rw [← axs_append]; exact axs_perm (asc_split h)) (by rw [labs_axs]; exact ascL_nodup _) σ0
  rw [tab_range] at hs
  exact hs
theorem netZ_length (o : Nat) : (netZ hr dm ts op o).length = size (axs dm op) := by
  unfold netZ
  exact (scat_length (rig hr) _ _).trans List.length_replicate
theorem netZ_succ (o : Nat) : netZ hr dm ts op (o + 1) = (netZ hr dm ts op o).modify (off (axs dm op) (asg (axs dm (ascL (occ ts))) o σ0)) fun x => (rig hr).add x (netF hr dm ts (asg (axs dm (ascL (occ ts))) o σ0)) := by
  unfold netZ
  rw [List.range_succ, List.map_append, List.map_cons, List.map_nil]
  exact scat_snoc (rig hr) [] _ _ _ _
/-- All weights, added up. -/
theorem net_total (h : IsN k p n dm U ts op) (σ : Int → Int) : sumA (rig hr) (axs dm op) (netG hr dm ts op) σ = sumA (rig hr) (axs dm (ascL (occ ts))) (netF hr dm ts) σ := by
  unfold netG contrF
  rw [← sumA_append, ← axs_append]
  exact (sumA_perm (rig hr) _ (axs_perm (asc_split h)) (by rw [labs_axs]; exact ascL_nodup _) σ).symm
end
section
variable {R : Type} (S : Rig R)
end
end Go.Proofs.Ytpegckmagiaggaa

/- The loop over all assignments of a network, plain. No program in sight. -/
namespace Go.Proofs.Ytpegckmagiaggaa
open Go.RowKit
set_option linter.unusedSimpArgs false
set_option linter.unusedVariables false
section
variable {k p n : Int} (hr : ringOk k p n = true) {W : Nat} (hW : ringWidth k n = (W : Int))
variable {dm : Int → Int} {U : List Int} {ts : List (NT k p n)} {op : List Int}
theorem asc_fit (h : IsN k p n dm U ts op) (o : Nat) {L : List Int} (hL : ∀ l ∈ L, l ∈ ascL (occ ts)) : Fits (axs dm L) (asg (axs dm (ascL (occ ts))) o σ0) := fun x hx => by
  obtain ⟨l, hl, rfl⟩ := List.mem_map.1 hx
  exact asg_fits' h.uni h.ascSub o σ0 (l, dm l) (List.mem_map_of_mem (hL l hl))
include hW
theorem net_read (h : IsN k p n dm U ts op) {L : List Int} {xs : List (El k p n)} (ht : (L, xs) ∈ ts) (o : Nat) :
    ∃ q : Nat, dotL ((ascL (occ ts)).map (stride L (L.map dm))) ((ascL (occ ts)).map (asg (axs dm (ascL (occ ts))) o σ0)) = (q : Int) ∧ q ≤ 4096 ∧ q * W + W ≤ (flat xs).length ∧ getL (flat xs) (q * W) W = (valT hr dm L xs (asg (axs dm (ascL (occ ts))) o σ0)).1 := by
  have hi := h.ten _ ht
  have hs : ∀ l ∈ L, l ∈ ascL (occ ts) := fun l hl => h.mem_asc.2 (mem_occ.2 ⟨_, ht, hl⟩)
  obtain ⟨q, a1, a2, a3, a4⟩ := read_at hr hW hi h.ascSub.nodup hs (asc_fit h o hs)
  exact ⟨q, a1, by have := hi.small; omega, a2, a3⟩
theorem net_stepZ (h : IsN k p n dm U ts op) (o : Nat) :
    ∃ (q : Nat) (z : List Int), dotL ((ascL (occ ts)).map (stride op (op.map dm))) ((ascL (occ ts)).map (asg (axs dm (ascL (occ ts))) o σ0)) = (q : Int) ∧ q ≤ 4096 ∧ q * W + W ≤ (flat (netZ hr dm ts op o)).length ∧ getL (flat (netZ hr dm ts op o)) (q * W) W = z ∧ rawOk k p n z = true ∧
      flat (netZ hr dm ts op (o + 1)) = putL (flat (netZ hr dm ts op o)) (q * W) (addL k p z (netF hr dm ts (asg (axs dm (ascL (occ ts))) o σ0)).1) := by
  obtain ⟨τ, hτ⟩ : ∃ τ, asg (axs dm (ascL (occ ts))) o σ0 = τ := ⟨_, rfl⟩
  have hC : ∀ l ∈ op, l ∈ ascL (occ ts) := fun l hl => h.opAsc hl
  have hf := asc_fit h o hC
  have hd : ∀ l ∈ op, 1 ≤ dm l := fun l hl => (h.uni.dim (h.sub.sub l hl)).1
  rw [hτ] at hf
  have c1 := dot_off (dm := dm) h.ascSub.nodup h.sub.nodup hC hd (σ := τ) (fun l hl => (hf (l, dm l) (List.mem_map_of_mem hl)).1)
  have c2 := off_lt hf
  have c3 := (h.uni.small h.sub).1
  have c4 := netZ_length hr (dm := dm) (ts := ts) (op := op) o
  have hq : off (axs dm op) τ < (netZ hr dm ts op o).length := by omega
  have hz := List.getElem?_eq_getElem hq
  have hp := flat_put hW hq ((rig hr).add (netZ hr dm ts op o)[off (axs dm op) τ] (netF hr dm ts τ))
  rw [hτ]
  refine ⟨off (axs dm op) τ, _, c1, by omega, ?_, flat_get hW hz, ((netZ hr dm ts op o)[off (axs dm op) τ]).2, ?_⟩
  · rw [flat_length hW, c4]
    have : (off (axs dm op) τ + 1) * W ≤ size (axs dm op) * W := Nat.mul_le_mul_right _ (by omega)
    rw [Nat.add_mul, Nat.one_mul] at this
    exact this
  · refine Eq.trans ?_ hp.symm
    congr 1
    rw [netZ_succ, hτ]
    exact getD_modify hq _
omit hW
theorem netF_take {j : Nat} {L : List Int} {xs : List (El k p n)} (h : ts[j]? = some (L, xs)) (σ : Int → Int) : (netF hr dm (ts.take (j + 1)) σ).1 = mulL k p (netF hr dm (ts.take j) σ).1 (valT hr dm L xs σ).1 := by
  rw [List.take_add_one, h]
  show (netF hr dm (ts.take j ++ [(L, xs)]) σ).1 = _
  rw [netF_snoc]; rfl
end
end Go.Proofs.Ytpegckmagiaggaa
