/- Texts of one kind, merged by program. -/
import Derived.Test.YtpegckmagiaggaaJContrW
import Derived.Test.YtpegckmagiaggaaJRelabW
import Derived.Test.YtpegckmagiaggaaJNetM
/- Tensors added, multiplied and scaled element by element, plain. No program in sight. -/
set_option linter.unusedSimpArgs false
set_option linter.unusedVariables false
namespace Go.Proofs.Ytpegckmagiaggaa
open Go.RowKit
def mixX {α : Type} (zs ys : List α) (i : Nat) : List α := zs.take i ++ ys.drop i
theorem mixX_zero {α : Type} (zs ys : List α) : mixX zs ys 0 = ys := by simp [mixX]
theorem mixX_all {α : Type} {zs ys : List α} (h : zs.length = ys.length) : mixX zs ys ys.length = zs := by simp [mixX, ← h]
theorem mixX_length {α : Type} {zs ys : List α} (h : zs.length = ys.length) (i : Nat) : (mixX zs ys i).length = ys.length := by simp [mixX]; omega
theorem mixX_get {α : Type} {zs ys : List α} (h : zs.length = ys.length) {i : Nat} {y : α} (hy : ys[i]? = some y) : (mixX zs ys i)[i]? = some y := by
  obtain ⟨hi, rfl⟩ := List.getElem?_eq_some_iff.1 hy
  unfold mixX
  rw [List.getElem?_append_right (by rw [List.length_take]; omega), List.length_take, Nat.min_eq_left (by omega), Nat.sub_self, List.getElem?_drop, Nat.add_zero]
  exact List.getElem?_eq_getElem hi
theorem mixX_step {α : Type} {zs ys : List α} (h : zs.length = ys.length) {i : Nat} {z : α} (hz : zs[i]? = some z) : (mixX zs ys i).set i z = mixX zs ys (i + 1) := by
  obtain ⟨hi, rfl⟩ := List.getElem?_eq_some_iff.1 hz
  have e : (zs.take i).length = i := by rw [List.length_take]; omega
  unfold mixX
  rw [List.drop_eq_getElem_cons (by omega), List.set_append_right _ _ (by omega), e, Nat.sub_self, List.set_cons_zero, List.take_succ_eq_append_getElem hi, List.append_assoc]; rfl
section
variable {k p n : Int} (hr : ringOk k p n = true)
theorem flat_mix {W : Nat} (hW : ringWidth k n = (W : Int)) {zs ys : List (El k p n)} (h : zs.length = ys.length) {i : Nat} {y z : El k p n} (hy : ys[i]? = some y) (hz : zs[i]? = some z) :
    i * W + W ≤ (flat (mixX zs ys i)).length ∧ getL (flat (mixX zs ys i)) (i * W) W = y.1 ∧ putL (flat (mixX zs ys i)) (i * W) z.1 = flat (mixX zs ys (i + 1)) := by
  have hi := (List.getElem?_eq_some_iff.1 hy).1
  refine ⟨?_, flat_get hW (mixX_get h hy), ?_⟩
  · rw [flat_length hW, mixX_length h]
    have : (i + 1) * W ≤ ys.length * W := Nat.mul_le_mul_right _ (by omega)
    rw [Nat.add_mul, Nat.one_mul] at this
    exact this
  · rw [flat_put hW (by rw [mixX_length h]; exact hi), mixX_step h hz]
theorem flat_at {W : Nat} (hW : ringWidth k n = (W : Int)) {ys : List (El k p n)} {i : Nat} {y : El k p n} (hy : ys[i]? = some y) : i * W + W ≤ (flat ys).length ∧ getL (flat ys) (i * W) W = y.1 := by
  have hi := (List.getElem?_eq_some_iff.1 hy).1
  refine ⟨?_, flat_get hW hy⟩
  rw [flat_length hW]
  have : (i + 1) * W ≤ ys.length * W := Nat.mul_le_mul_right _ (by omega)
  rw [Nat.add_mul, Nat.one_mul] at this
  exact this
def scaleXs (x : El k p n) (xs : List (El k p n)) : List (El k p n) := xs.map ((rig hr).mul x)
theorem scale_step {W : Nat} (hW : ringWidth k n = (W : Int)) (x : El k p n) {ys : List (El k p n)} {j : Nat} (hj : j < ys.length) :
    ∃ y : List Int, j * W + W ≤ (flat ys).length ∧ getL (flat ys) (j * W) W = y ∧ rawOk k p n y = true ∧
      putL (flat (mixX (scaleXs hr x ys) ys j)) (j * W) (mulL k p x.1 y) = flat (mixX (scaleXs hr x ys) ys (j + 1)) := by
  obtain ⟨y, hy⟩ : ∃ y, ys[j]? = some y := ⟨_, List.getElem?_eq_getElem hj⟩
  have hz : (scaleXs hr x ys)[j]? = some ((rig hr).mul x y) := by unfold scaleXs; rw [List.getElem?_map, hy]; rfl
  have hl : (scaleXs hr x ys).length = ys.length := by unfold scaleXs; rw [List.length_map]
  obtain ⟨_, _, h3⟩ := flat_mix hW hl hy hz
  exact ⟨y.1, (flat_at hW hy).1, (flat_at hW hy).2, y.2, h3⟩
end
section
variable {k p n : Int} (hr : ringOk k p n = true)
variable {dm : Int → Int} {U : List Int} {ts : List (NT k p n)} {op : List Int}
theorem keepL_asc (h : IsN k p n dm U ts op) : (keepL (ascL (occ ts)) op).Perm op := by
  refine (List.perm_ext_iff_of_nodup (by unfold keepL; exact (ascL_nodup _).filter _) h.sub.nodup).2 fun x => ?_
  rw [mem_keepL]
  exact ⟨fun hx => hx.2, fun hx => ⟨h.opAsc hx, hx⟩⟩
theorem asc_split (h : IsN k p n dm U ts op) : (ascL (occ ts)).Perm (op ++ goneL (ascL (occ ts)) op) :=
  (keep_gone _ op).trans (List.Perm.append_right _ (keepL_asc h))
theorem netZ_all (h : IsN k p n dm U ts op) : netZ hr dm ts op (size (axs dm (ascL (occ ts)))) = netXs hr dm ts op := by
  unfold netZ netXs netG contrF
  have hs := scat_tab (rig hr) (netF hr dm ts) (all := axs dm (ascL (occ ts))) (left := axs dm op) (rest := axs dm (goneL (ascL (occ ts)) op)) (by rw [← axs_append]; exact axs_perm (asc_split h)) (by rw [labs_axs]; exact ascL_nodup _) σ0
  rw [tab_range] at hs
  exact hs
theorem netZ_length (o : Nat) : (netZ hr dm ts op o).length = size (axs dm op) := by
  unfold netZ
  exact (scat_length (rig hr) _ _).trans List.length_replicate
theorem netZ_succ (o : Nat) : netZ hr dm ts op (o + 1) = (netZ hr dm ts op o).modify (off (axs dm op) (asg (axs dm (ascL (occ ts))) o σ0)) fun x => (rig hr).add x (netF hr dm ts (asg (axs dm (ascL (occ ts))) o σ0)) := by
  unfold netZ
  rw [List.range_succ, List.map_append, List.map_cons, List.map_nil]
  exact scat_snoc (rig hr) [] _ _ _ _
end
section
variable {k p n : Int} (hr : ringOk k p n = true)
variable {dm : Int → Int} {U : List Int}
theorem netG_perm {ts us : List (NT k p n)} (h : ts.Perm us) (op : List Int) (σ : Int → Int) : netG hr dm ts op σ = netG hr dm us op σ := by
  unfold netG contrF
  have e : ascL (occ ts) = ascL (occ us) := ascL_congr fun x => by
    rw [mem_occ, mem_occ]
    exact ⟨fun ⟨t, ht, hx⟩ => ⟨t, h.mem_iff.1 ht, hx⟩, fun ⟨t, ht, hx⟩ => ⟨t, h.mem_iff.2 ht, hx⟩⟩
  rw [e]
  exact sumA_ext _ _ σ fun τ => netF_perm hr dm h τ
structure Sums1 (k p n : Int) (hr : ringOk k p n = true) (dm : Int → Int) (M : List Int) (ys : List (El k p n)) (t1 : List (NT k p n)) (K : List Int) : Prop where
  lab : ∀ x, x ∈ M ↔ x ∈ occ t1 ∧ x ∈ K
  val : ∀ τ, Fits (axs dm M) τ → valT hr dm M ys τ = netG hr dm t1 K τ
theorem net_step {M K op : List Int} {ys : List (El k p n)} {t1 t2 : List (NT k p n)} (h1 : ∀ x ∈ occ t1, 0 ≤ x ∧ x ≤ 99) (hs : Sums1 k p n hr dm M ys t1 K)
    (hK : ∀ x ∈ occ t1, x ∉ K → x ∉ op ∧ x ∉ occ t2) (h2 : ∀ x ∈ occ t2, 0 ≤ x ∧ x ≤ 99) {σ : Int → Int} (hf : ∀ x ∈ M, x ∈ op → 0 ≤ σ x ∧ σ x < dm x) :
    netG hr dm ((M, ys) :: t2) op σ = netG hr dm (t1 ++ t2) op σ := by
  have hm : ∀ x, x ∈ occ ((M, ys) :: t2) ↔ x ∈ M ∨ x ∈ occ t2 := fun x => by rw [show occ ((M, ys) :: t2) = M ++ occ t2 from rfl, List.mem_append]
  have ha : ∀ x, x ∈ occ (t1 ++ t2) ↔ x ∈ occ t1 ∨ x ∈ occ t2 := fun x => by rw [occ_append, List.mem_append]
  have hp : (goneL (ascL (occ (t1 ++ t2))) op).Perm (goneL (ascL (occ ((M, ys) :: t2))) op ++ goneL (ascL (occ t1)) K) := by
    refine (List.perm_ext_iff_of_nodup (l₁ := goneL (ascL (occ (t1 ++ t2))) op) ((ascL_nodup _).filter _) ?_).2 fun x => ?_
    · rw [List.nodup_append]
      refine ⟨(ascL_nodup _).filter _, (ascL_nodup _).filter _, fun x hx y hy e => ?_⟩
      subst e
      have a1 := (mem_ascL.1 (mem_goneL.1 hx).1).2
      have a2 := mem_goneL.1 hy
      have a3 := (mem_ascL.1 a2.1).2
      rcases (hm x).1 a1 with b | b
      · exact a2.2 ((hs.lab x).1 b).2
      · exact (hK x a3 a2.2).2 b
    · rw [List.mem_append, mem_goneL, mem_goneL, mem_goneL, mem_ascL, mem_ascL, mem_ascL, hm, ha, hs.lab]
      constructor
      · rintro ⟨⟨a1, a2⟩, a3⟩
        by_cases b : x ∈ occ t2
        · exact .inl ⟨⟨a1, .inr b⟩, a3⟩
        · rcases a2 with a2 | a2
          · by_cases c : x ∈ K
            · exact .inl ⟨⟨a1, .inl ⟨a2, c⟩⟩, a3⟩
            · exact .inr ⟨⟨a1, a2⟩, c⟩
          · exact absurd a2 b
      · rintro (⟨⟨a1, a2⟩, a3⟩ | ⟨⟨a1, a2⟩, a3⟩)
        · rcases a2 with a2 | a2
          · exact ⟨⟨a1, .inl a2.1⟩, a3⟩
          · exact ⟨⟨a1, .inr a2⟩, a3⟩
        · exact ⟨⟨a1, .inl a2⟩, (hK x a2 a3).1⟩
  unfold netG
  unfold contrF
  rw [sumA_perm (rig hr) _ (axs_perm hp) (by rw [labs_axs]; exact (ascL_nodup _).filter _), axs_append, sumA_append]
  refine sumA_congr (rig hr) fun τ hτ hft => ?_
  rw [labs_axs] at hτ
  have hft := hft (by rw [labs_axs]; exact (ascL_nodup _).filter _)
  have hfM : Fits (axs dm M) τ := fun a ha' => by
    obtain ⟨x, hx, rfl⟩ := List.mem_map.1 ha'
    by_cases hxo : x ∈ op
    · rw [hτ x fun h => (mem_goneL.1 h).2 hxo]
      exact hf x hx hxo
    · refine hft (x, dm x) (List.mem_map.2 ⟨x, mem_goneL.2 ⟨mem_ascL.2 ⟨h1 x ((hs.lab x).1 hx).1, (hm x).2 (.inl hx)⟩, hxo⟩, rfl⟩)
  rw [netF_cons, hs.val τ hfM]
  unfold netG contrF
  rw [← sumA_mul (rig hr) (netF hr dm t1) (netF_dep hr dm t2) (fun x hx => ?_)]
  · exact sumA_ext (rig hr) _ _ fun υ => (netF_append hr dm t1 t2 υ).symm
  · rw [labs_axs] at hx
    have := mem_goneL.1 hx
    exact (hK x (mem_ascL.1 this.1).2 this.2).2
theorem sums_contr {a b keep : List Int} {xs ys : List (El k p n)} (ha : IsT k p n dm U a xs) (hb : IsT k p n dm U b ys) :
    Sums1 k p n hr dm (keepL (joinL a b) keep) (contrXs hr dm a b keep xs ys) [(a, xs), (b, ys)] keep := by
  have hocc : ∀ x, x ∈ occ [(a, xs), (b, ys)] ↔ x ∈ joinL a b := fun x => by
    rw [mem_joinL, show occ [(a, xs), (b, ys)] = a ++ (b ++ []) from rfl, List.append_nil, List.mem_append]
  refine ⟨fun x => by rw [mem_keepL, hocc], fun τ hf => ?_⟩
  have hp : (joinL a b).Perm (ascL (occ [(a, xs), (b, ys)])) := by
    refine (List.perm_ext_iff_of_nodup (ha.sub.join hb.sub).nodup (ascL_nodup _)).2 fun x => ?_
    rw [mem_ascL, hocc]
    exact ⟨fun h => ⟨ha.uni.labs ((ha.sub.join hb.sub).sub x h), h⟩, fun h => h.2⟩
  rw [show contrXs hr dm a b keep xs ys = tab (axs dm (keepL (joinL a b) keep)) (contrF (rig hr) dm (joinL a b) keep (mulF hr dm a b xs ys)) σ0 from rfl, valT_tab hr (contrF_dep (rig hr) (mulF_dep hr dm a b xs ys)) hf]
  unfold netG
  rw [contrF_perm (rig hr) (ha.sub.join hb.sub) hp]
  refine sumA_ext (rig hr) _ _ fun υ => ?_
  rw [netF_cons, netF_cons, netF_nil, (rig hr).mul_one]; rfl
theorem Sums1.trans {M M' K K' : List Int} {ys ys' : List (El k p n)} {t1 t2 : List (NT k p n)} (hA : Sums1 k p n hr dm M ys ((M', ys') :: t2) K) (hB : Sums1 k p n hr dm M' ys' t1 K') (h1 : ∀ x ∈ occ t1, 0 ≤ x ∧ x ≤ 99)
    (hK : ∀ x ∈ occ t1, x ∉ K' → x ∉ K ∧ x ∉ occ t2) (h2 : ∀ x ∈ occ t2, 0 ≤ x ∧ x ≤ 99) : Sums1 k p n hr dm M ys (t1 ++ t2) K := by
  have hm : ∀ x, x ∈ occ ((M', ys') :: t2) ↔ x ∈ M' ∨ x ∈ occ t2 := fun x => by rw [show occ ((M', ys') :: t2) = M' ++ occ t2 from rfl, List.mem_append]
  refine ⟨fun x => ?_, fun τ hf => ?_⟩
  · rw [hA.lab, hm, hB.lab, occ_append, List.mem_append]
    constructor
    · rintro ⟨⟨a, _⟩ | a, b⟩
      · exact ⟨.inl a, b⟩
      · exact ⟨.inr a, b⟩
    · rintro ⟨a | a, b⟩
      · exact ⟨.inl ⟨a, Classical.byContradiction fun h => (hK x a h).1 b⟩, b⟩
      · exact ⟨.inr a, b⟩
  · rw [hA.val τ hf]
    refine net_step hr h1 hB hK h2 fun x hx hxo => hf (x, dm x) (List.mem_map.2 ⟨x, ?_, rfl⟩)
    rw [hA.lab, hm]
    exact ⟨.inl hx, hxo⟩
theorem Sums1.perm {M K : List Int} {ys : List (El k p n)} {t1 t2 : List (NT k p n)} (hA : Sums1 k p n hr dm M ys t1 K) (h : t1.Perm t2) : Sums1 k p n hr dm M ys t2 K :=
  ⟨fun x => by
    rw [hA.lab, mem_occ, mem_occ]
    exact ⟨fun ⟨⟨t, ht, hx⟩, hk⟩ => ⟨⟨t, h.mem_iff.1 ht, hx⟩, hk⟩, fun ⟨⟨t, ht, hx⟩, hk⟩ => ⟨⟨t, h.mem_iff.2 ht, hx⟩, hk⟩⟩, fun τ hf => by rw [hA.val τ hf, netG_perm hr h]⟩
theorem Sums1.done {M op : List Int} {ys : List (El k p n)} {ts : List (NT k p n)} (u : Uni dm U) (so : Sub U op) (hA : Sums1 k p n hr dm M ys ts op) (hp : M.Perm op) : permXs hr dm M op ys = netXs hr dm ts op := by
  unfold netXs permXs
  refine tab_congr (Uni.nodup so) (u.dims so) fun o => ?_
  refine hA.val _ fun a ha => ?_
  obtain ⟨x, hx, rfl⟩ := List.mem_map.1 ha
  exact asg_fits' u so o σ0 (x, dm x) (List.mem_map.2 ⟨x, hp.mem_iff.1 hx, rfl⟩)
end
section
variable {R : Type} (S : Rig R)
theorem off_ren {f dm dm2 : Int → Int} (τ : Int → Int) : ∀ {L : List Int}, (∀ l ∈ L, dm2 (f l) = dm l) → off (axs dm2 (L.map f)) τ = off (axs dm L) (τ ∘ f) ∧ size (axs dm2 (L.map f)) = size (axs dm L)
  | [], _ => ⟨rfl, rfl⟩
  | l :: L, h => by
    obtain ⟨h1, h2⟩ := off_ren τ (L := L) fun x hx => h x (by simp [hx])
    rw [List.map_cons, axs_cons, axs_cons, off, off, size, size, h1, h2, h l (by simp)]
    exact ⟨rfl, rfl⟩
end
section
variable {k p n : Int} (hr : ringOk k p n = true)
variable {dm dm2 : Int → Int} {U U2 : List Int} {ts : List (NT k p n)} {op : List Int}
def renN (f : Int → Int) (ts : List (NT k p n)) : List (NT k p n) := ts.map fun t => (t.1.map f, t.2)
theorem occ_ren (f : Int → Int) (ts : List (NT k p n)) : occ (renN f ts) = (occ ts).map f := by
  unfold renN occ
  rw [List.flatMap_map, List.map_flatMap]
structure Ren (f dm dm2 : Int → Int) (U U2 : List Int) : Prop where
  uni : Uni dm2 U2
  dim : ∀ x ∈ U, dm2 (f x) = dm x
  inj : ∀ x ∈ U, ∀ y ∈ U, f x = f y → x = y
  into : ∀ x ∈ U, f x ∈ U2
theorem nodup_ren {f : Int → Int} : ∀ {L : List Int}, (∀ x ∈ L, ∀ y ∈ L, f x = f y → x = y) → L.Nodup → (L.map f).Nodup
  | [], _, _ => List.nodup_nil
  | l :: L, h, hn => by
    rw [List.nodup_cons] at hn
    rw [List.map_cons, List.nodup_cons]
    refine ⟨fun hm => ?_, nodup_ren (fun x hx y hy => h x (by simp [hx]) y (by simp [hy])) hn.2⟩
    obtain ⟨y, hy, e⟩ := List.mem_map.1 hm
    exact hn.1 (h y (by simp [hy]) l (by simp) e ▸ hy)
theorem Ren.sub {f : Int → Int} (g : Ren f dm dm2 U U2) {L : List Int} (s : Sub U L) : Sub U2 (L.map f) :=
  ⟨nodup_ren (fun x hx y hy e => g.inj x (s.sub x hx) y (s.sub y hy) e) s.nodup, fun l hl => by
    obtain ⟨x, hx, rfl⟩ := List.mem_map.1 hl
    exact g.into x (s.sub x hx)⟩
theorem Ren.size {f : Int → Int} (g : Ren f dm dm2 U U2) {L : List Int} (s : Sub U L) : size (axs dm2 (L.map f)) = Proofs.Ytpegckmagiaggaa.size (axs dm L) := (off_ren σ0 fun x hx => g.dim x (s.sub x hx)).2
theorem ren_isN {f : Int → Int} (g : Ren f dm dm2 U U2) (h : IsN k p n dm U ts op) : IsN k p n dm2 U2 (renN f ts) (op.map f) :=
  ⟨g.uni, fun t ht => by
    obtain ⟨u, hu, rfl⟩ := List.mem_map.1 ht
    have := h.ten u hu
    exact ⟨g.uni, g.sub this.sub, by rw [this.len]; exact (g.size this.sub).symm⟩, g.sub h.sub, fun x hx => by
    obtain ⟨y, hy, rfl⟩ := List.mem_map.1 hx
    rw [occ_ren]
    exact List.mem_map_of_mem (h.occ y hy), by unfold renN; rw [List.length_map]; exact h.len⟩
theorem renN_id (ts : List (NT k p n)) : renN id ts = ts := by
  unfold renN
  simp
theorem IsN.wider (h : IsN k p n dm U ts op) (g : Ren id dm dm2 U U2) : IsN k p n dm2 U2 ts op := by
  have := ren_isN g h
  rwa [renN_id, List.map_id] at this
theorem occ_scale (ts : List (NT k p n)) (x : El k p n) : occ (ts ++ [([], [x])]) = occ ts := by rw [occ_snoc, List.append_nil]
theorem net_scale (h : IsN k p n dm U ts op) (x : El k p n) : netXs hr dm (ts ++ [([], [x])]) op = scaleXs hr x (netXs hr dm ts op) := by
  unfold scaleXs netXs
  rw [tab_map]
  congr 1
  funext σ
  unfold netG
  rw [occ_scale]
  have e : ∀ τ, netF hr dm (ts ++ [([], [x])]) τ = (rig hr).mul (netF hr dm ts τ) x := fun τ => by
    rw [netF_snoc]; rfl
  rw [show netF hr dm (ts ++ [([], [x])]) = fun τ => (rig hr).mul (netF hr dm ts τ) ((fun _ => x) τ) from funext e]
  unfold contrF
  rw [sumA_mul (rig hr) (netF hr dm ts) (G := fun _ => x) (L := []) (fun _ _ _ => rfl) (fun _ _ => by simp), (rig hr).mul_comm]
theorem sums_net (h : IsN k p n dm U ts op) : Sums1 k p n hr dm op (netXs hr dm ts op) ts op :=
  ⟨fun x => ⟨fun hx => ⟨h.occ x hx, hx⟩, fun hx => hx.2⟩, fun τ hf => netG_val hr h hf⟩
theorem sums_two {t1 t2 : List (NT k p n)} {o1 o2 K : List Int} (h1 : IsN k p n dm U t1 o1) (h2 : IsN k p n dm U t2 o2) (hc1 : ∀ x ∈ occ t1, x ∉ o1 → x ∉ K ∧ x ∉ occ t2) (hc2 : ∀ x ∈ occ t2, x ∉ o2 → x ∉ K ∧ x ∉ occ t1) :
    Sums1 k p n hr dm (keepL (joinL o1 o2) K) (contrXs hr dm o1 o2 K (netXs hr dm t1 o1) (netXs hr dm t2 o2)) (t1 ++ t2) K := by
  have s0 := sums_contr hr (keep := K) (netXs_isT hr h1) (netXs_isT hr h2)
  have l1 : ∀ x ∈ occ t1, 0 ≤ x ∧ x ≤ 99 := fun x hx => h1.uni.labs (h1.occU hx)
  have l2 : ∀ x ∈ occ t2, 0 ≤ x ∧ x ≤ 99 := fun x hx => h2.uni.labs (h2.occU hx)
  have eo : occ [(o2, netXs hr dm t2 o2)] = o2 := by rw [show occ [(o2, netXs hr dm t2 o2)] = o2 ++ [] from rfl, List.append_nil]
  have s1 := s0.trans hr (t1 := t1) (t2 := [(o2, netXs hr dm t2 o2)]) (sums_net hr h1) l1 (fun x hx hno => ⟨(hc1 x hx hno).1, fun h => by
    rw [eo] at h
    exact (hc1 x hx hno).2 (h2.occ x h)⟩) (fun x hx => by rw [eo] at hx; exact l2 x (h2.occ x hx))
  have s2 := s1.perm hr (t2 := (o2, netXs hr dm t2 o2) :: t1) (List.perm_append_comm (l₁ := t1) (l₂ := [(o2, netXs hr dm t2 o2)]))
  exact (s2.trans hr (t1 := t2) (t2 := t1) (sums_net hr h2) l2 hc2 l1).perm hr List.perm_append_comm
end
section
variable {k p n : Int} (hr : ringOk k p n = true) {W : Nat} (hW : ringWidth k n = (W : Int))
variable {dm : Int → Int} {U : List Int} {ts : List (NT k p n)} {op : List Int}
theorem asc_fit (h : IsN k p n dm U ts op) (o : Nat) {L : List Int} (hL : ∀ l ∈ L, l ∈ ascL (occ ts)) : Fits (axs dm L) (asg (axs dm (ascL (occ ts))) o σ0) := fun x hx => by
  obtain ⟨l, hl, rfl⟩ := List.mem_map.1 hx
  exact asg_fits' h.uni h.ascSub o σ0 (l, dm l) (List.mem_map_of_mem (hL l hl))
include hW
theorem net_stepZ (h : IsN k p n dm U ts op) (o : Nat) :
    ∃ (q : Nat) (z : List Int), dotL ((ascL (occ ts)).map (stride op (op.map dm))) ((ascL (occ ts)).map (asg (axs dm (ascL (occ ts))) o σ0)) = (q : Int) ∧ q ≤ 4096 ∧ q * W + W ≤ (flat (netZ hr dm ts op o)).length ∧ getL (flat (netZ hr dm ts op o)) (q * W) W = z ∧ rawOk k p n z = true ∧
      flat (netZ hr dm ts op (o + 1)) = putL (flat (netZ hr dm ts op o)) (q * W) (addL k p z (netF hr dm ts (asg (axs dm (ascL (occ ts))) o σ0)).1) := by
  obtain ⟨τ, hτ⟩ : ∃ τ, asg (axs dm (ascL (occ ts))) o σ0 = τ := ⟨_, rfl⟩
  have hC : ∀ l ∈ op, l ∈ ascL (occ ts) := fun l hl => h.opAsc hl
  have hf := asc_fit h o hC
  have hd : ∀ l ∈ op, 1 ≤ dm l := fun l hl => (h.uni.dim (h.sub.sub l hl)).1
  rw [hτ] at hf
  have c1 := dot_off (dm := dm) h.ascSub.nodup h.sub.nodup hC hd (σ := τ) (fun l hl => (hf (l, dm l) (List.mem_map_of_mem hl)).1)
  have c2 := off_lt hf
  have c3 := (h.uni.small h.sub).1
  have c4 := netZ_length hr (dm := dm) (ts := ts) (op := op) o
  have hq : off (axs dm op) τ < (netZ hr dm ts op o).length := by omega
  have hz := List.getElem?_eq_getElem hq
  have hp := flat_put hW hq ((rig hr).add (netZ hr dm ts op o)[off (axs dm op) τ] (netF hr dm ts τ))
  rw [hτ]
  refine ⟨off (axs dm op) τ, _, c1, by omega, ?_, flat_get hW hz, ((netZ hr dm ts op o)[off (axs dm op) τ]).2, ?_⟩
  · rw [flat_length hW, c4]
    have : (off (axs dm op) τ + 1) * W ≤ size (axs dm op) * W := Nat.mul_le_mul_right _ (by omega)
    rw [Nat.add_mul, Nat.one_mul] at this
    exact this
  · refine Eq.trans ?_ hp.symm
    congr 1
    rw [netZ_succ, hτ]
    exact getD_modify hq _
omit hW
theorem netF_take {j : Nat} {L : List Int} {xs : List (El k p n)} (h : ts[j]? = some (L, xs)) (σ : Int → Int) : (netF hr dm (ts.take (j + 1)) σ).1 = mulL k p (netF hr dm (ts.take j) σ).1 (valT hr dm L xs σ).1 := by
  rw [List.take_add_one, h]
  show (netF hr dm (ts.take j ++ [(L, xs)]) σ).1 = _
  rw [netF_snoc]; rfl
end
def U12 : List Int := [0, 1, 2, 3, 4, 5, 20, 21, 22, 23, 24, 25]
def dm12 (x : Int) : Int := if 20 ≤ x then dimOf (x - 20) else dimOf x
theorem dm12_low {x : Int} (h : x ∈ U6) : dm12 x = dimOf x := by
  have : ¬ 20 ≤ x := by simp [U6] at h; omega
  unfold dm12; rw [if_neg this]
theorem dm12_high {x : Int} (h : x ∈ U6) : dm12 (20 + x) = dimOf x := by
  have : 20 ≤ 20 + x := by simp [U6] at h; omega
  unfold dm12; rw [if_pos this]; congr 1; omega
theorem uni12 : Uni dm12 U12 := ⟨by
  refine ⟨by simp [U12], by simp [U12], fun l hl => ?_, by decide, fun d hd => ?_, by decide⟩
  · simp [U12] at hl; omega
  · obtain ⟨x, _, rfl⟩ := List.mem_map.1 hd
    unfold dm12
    split
    · have := dimOf_range (x - 20); omega
    · have := dimOf_range x; omega⟩
theorem low12 {x : Int} (h : x ∈ U6) : x ∈ U12 := by simp [U6] at h; simp [U12]; omega
theorem high12 {x : Int} (h : x ∈ U6) : 20 + x ∈ U12 := by simp [U6] at h; simp [U12]; omega
def awayF (o1 o2 : List Int) (x : Int) : Int := if hasL o1 x = true ∧ hasL o2 x = true then x else 20 + x
theorem renL_aw (g : Int → Int) : ∀ {F : List Int} {x : Int}, x ∈ F → renL F (F.map g) x = g x
  | y :: F, x, h => by
    rw [List.map_cons, renL]
    by_cases e : y = x
    · subst e; simp
    · rcases List.mem_cons.1 h with h | h
      · exact absurd h.symm e
      · simp [e]; exact renL_aw g h
theorem ren_low : Ren id dimOf dm12 U6 U12 := ⟨uni12, fun x hx => dm12_low hx, fun _ _ _ _ e => e, fun x hx => low12 hx⟩
theorem ren_away (o1 o2 : List Int) : Ren (renL U6 (U6.map (awayF o1 o2))) dimOf dm12 U6 U12 := by
  have key : ∀ x ∈ U6, renL U6 (U6.map (awayF o1 o2)) x = awayF o1 o2 x := fun x hx => renL_aw _ hx
  refine ⟨uni12, fun x hx => ?_, fun x hx y hy e => ?_, fun x hx => ?_⟩
  · rw [key x hx]; unfold awayF; split
    · exact dm12_low hx
    · exact dm12_high hx
  · rw [key x hx, key y hy] at e
    unfold awayF at e
    simp [U6] at hx hy
    split at e <;> split at e <;> omega
  · rw [key x hx]; unfold awayF; split
    · exact low12 hx
    · exact high12 hx
section
variable {k p n : Int} (hr : ringOk k p n = true) {ts ms : List (NT k p n)} {op mop : List Int}
theorem tenOf_low (h : IsN k p n dimOf U6 ts op) : ts.map (tenOf dimOf) = ts.map (tenOf dm12) := by
  apply List.map_congr_left
  intro t ht
  unfold tenOf
  simp only [Prod.mk.injEq, true_and, and_true]
  apply List.map_congr_left
  intro x hx
  exact (dm12_low ((h.ten t ht).sub.sub x hx)).symm
theorem away_com (h1 : IsN k p n dimOf U6 ts op) (h2 : IsN k p n dimOf U6 ms mop) : ∀ x ∈ occ ts, x ∈ occ (renN (renL U6 (U6.map (awayF op mop))) ms) → x ∈ op ∧ x ∈ mop.map (renL U6 (U6.map (awayF op mop))) := by
  intro x hx hy
  rw [occ_ren] at hy
  obtain ⟨y, hyo, rfl⟩ := List.mem_map.1 hy
  have hyU := h2.occU hyo
  have hxU := h1.occU hx
  have e := renL_aw (awayF op mop) hyU
  rw [e] at hx hxU ⊢
  have ew : awayF op mop y = if hasL op y = true ∧ hasL mop y = true then y else 20 + y := rfl
  rw [ew] at hx hxU ⊢
  split
  · rename_i c
    have c1 := (hasL_iff _ _).1 c.1
    have c2 := (hasL_iff _ _).1 c.2
    exact ⟨c1, List.mem_map.2 ⟨y, c2, e.trans (if_pos c)⟩⟩
  · rename_i c
    rw [if_neg c] at hxU
    simp [U6] at hxU hyU
    omega
theorem join_isN (h1 : IsN k p n dimOf U6 ts op) (h2 : IsN k p n dimOf U6 ms mop) (hl : ts.length + ms.length ≤ 12) : IsN k p n dm12 U12 (ts ++ renN (renL U6 (U6.map (awayF op mop))) ms) op := by
  have a := h1.wider ren_low
  have b := ren_isN (ren_away op mop) h2
  refine ⟨uni12, fun t ht => ?_, a.sub, fun x hx => ?_, ?_⟩
  · rcases List.mem_append.1 ht with ht | ht
    · exact a.ten t ht
    · exact b.ten t ht
  · rw [occ_append]; exact List.mem_append_left _ (h1.occ x hx)
  · rw [List.length_append]; unfold renN; rw [List.length_map]; exact hl
theorem join_val (h1 : IsN k p n dimOf U6 ts op) (h2 : IsN k p n dimOf U6 ms mop) :
    permXs hr dm12 (keepL (joinL op (mop.map (renL U6 (U6.map (awayF op mop))))) op) op (contrXs hr dm12 op (mop.map (renL U6 (U6.map (awayF op mop)))) op (netXs hr dm12 ts op) (netXs hr dm12 (renN (renL U6 (U6.map (awayF op mop))) ms) (mop.map (renL U6 (U6.map (awayF op mop)))))) = netXs hr dm12 (ts ++ renN (renL U6 (U6.map (awayF op mop))) ms) op := by
  have a := h1.wider ren_low
  have b := ren_isN (ren_away op mop) h2
  have hcom := away_com h1 h2
  have hs := sums_two hr (K := op) a b (fun x hx hn => ⟨hn, fun hy => hn (hcom x hx hy).1⟩) (fun x hx hn => ⟨fun ho => hn (hcom x (h1.occ x ho) hx).2, fun hy => hn (hcom x hy hx).2⟩)
  refine Sums1.done hr uni12 a.sub hs ((List.perm_ext_iff_of_nodup ((a.sub.join b.sub).keep op).nodup a.sub.nodup).2 fun x => ?_)
  rw [mem_keepL, mem_joinL]
  exact ⟨fun h => h.2, fun h => ⟨.inl h, h⟩⟩
end
end Go.Proofs.Ytpegckmagiaggaa
