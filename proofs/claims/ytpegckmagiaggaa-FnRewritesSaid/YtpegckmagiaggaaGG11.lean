/- Texts of one kind, merged by program. -/
import Derived.Test.YtpegckmagiaggaaGPermW
/- equalInts, equalTensors, PermuteTensor of the program. -/
set_option linter.unusedSimpArgs false
set_option linter.unusedVariables false
namespace Go.Proofs.Ytpegckmagiaggaa
open Go.RowKit
theorem equalInts_ext (v u : Value) (l m : List Int) (w : World) (hl : IntS w v l) (hm : IntS w u m) : Calls Try.prog 183 #[v, u] w fun e w' => e = .returned (.bool (l == m)) ∧ Ext w w' :=
  (equalInts_quiet v u l m w hl hm).mono fun _ _ ⟨he, n, hn⟩ => ⟨he, hn ▸ (Ext.refl w).drewN n⟩
section
variable {k p n : Int} (hr : ringOk k p n = true)
def netF (dm : Int → Int) (ts : List (NT k p n)) (σ : Int → Int) : El k p n := ts.foldl (fun a t => (rig hr).mul a (valT hr dm t.1 t.2 σ)) (rig hr).one
theorem foldl_mul {α : Type} (f : α → El k p n) : ∀ (l : List α) (a : El k p n), l.foldl (fun a t => (rig hr).mul a (f t)) a = (rig hr).mul a (l.foldl (fun a t => (rig hr).mul a (f t)) (rig hr).one)
  | [], a => by simp only [List.foldl_nil]; exact ((rig hr).mul_one a).symm
  | x :: l, a => by
    rw [List.foldl_cons, List.foldl_cons, foldl_mul f l, foldl_mul f l ((rig hr).mul (rig hr).one (f x)), (rig hr).one_mul, (rig hr).mul_assoc]
theorem netF_nil (dm : Int → Int) (σ : Int → Int) : netF hr dm [] σ = (rig hr).one := rfl
theorem netF_cons (dm : Int → Int) (t : NT k p n) (ts : List (NT k p n)) (σ : Int → Int) : netF hr dm (t :: ts) σ = (rig hr).mul (valT hr dm t.1 t.2 σ) (netF hr dm ts σ) := by
  unfold netF
  rw [List.foldl_cons, foldl_mul, (rig hr).one_mul]
theorem netF_append (dm : Int → Int) (ts us : List (NT k p n)) (σ : Int → Int) : netF hr dm (ts ++ us) σ = (rig hr).mul (netF hr dm ts σ) (netF hr dm us σ) := by
  unfold netF
  rw [List.foldl_append, foldl_mul]
theorem netF_snoc (dm : Int → Int) (ts : List (NT k p n)) (t : NT k p n) (σ : Int → Int) : netF hr dm (ts ++ [t]) σ = (rig hr).mul (netF hr dm ts σ) (valT hr dm t.1 t.2 σ) := by
  unfold netF
  rw [List.foldl_append]; rfl
theorem netF_perm (dm : Int → Int) {ts us : List (NT k p n)} (h : ts.Perm us) (σ : Int → Int) : netF hr dm ts σ = netF hr dm us σ := by
  induction h with
  | nil => rfl
  | cons x _ ih => rw [netF_cons, netF_cons, ih]
  | swap x y l => rw [netF_cons, netF_cons, netF_cons, netF_cons, (rig hr).mul_swap]
  | trans _ _ h1 h2 => rw [h1, h2]
theorem netF_dep (dm : Int → Int) : ∀ ts : List (NT k p n), Dep (netF hr dm ts) (occ ts)
  | [] => fun _ _ _ => rfl
  | t :: ts => fun σ τ h => by
    rw [netF_cons, netF_cons, valT_dep hr dm t.1 t.2 σ τ fun l hl => h l (by rw [mem_occ]; exact ⟨t, by simp, hl⟩),
      netF_dep dm ts σ τ fun l hl => h l (by obtain ⟨u, hu, hl⟩ := mem_occ.1 hl; rw [mem_occ]; exact ⟨u, by simp [hu], hl⟩)]
def netG (dm : Int → Int) (ts : List (NT k p n)) (op : List Int) : (Int → Int) → El k p n := contrF (rig hr) dm (ascL (occ ts)) op (netF hr dm ts)
def netXs (dm : Int → Int) (ts : List (NT k p n)) (op : List Int) : List (El k p n) := tab (axs dm op) (netG hr dm ts op) σ0
variable {dm : Int → Int} {U : List Int} {ts : List (NT k p n)} {op : List Int}
def netZ (dm : Int → Int) (ts : List (NT k p n)) (op : List Int) (o : Nat) : List (El k p n) :=
  scat (rig hr) (List.replicate (size (axs dm op)) (rig hr).zero) (((List.range o).map fun q => (off (axs dm op) (asg (axs dm (ascL (occ ts))) q σ0), netF hr dm ts (asg (axs dm (ascL (occ ts))) q σ0))))
end
end Go.Proofs.Ytpegckmagiaggaa
