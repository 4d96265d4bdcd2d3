/- Texts of one kind, merged by program. -/
import Derived.Test.YtlgjddgajdjllaaGreatDoorTListW
/- Tables read by strides, plain. No program in sight. -/
set_option linter.unusedSimpArgs false
set_option linter.unusedVariables false
namespace Go.Proofs.YtlgjddgajdjllaaGreatDoor
open Go.RowKit
theorem map_get_find {dm : Int → Int} {L : List Int} {x : Int} (h : x ∈ L) : ∃ j : Nat, findL L x = j ∧ j < L.length ∧ L[j]? = some x ∧ (L.map dm)[j]? = some (dm x) := by
  have gen : ∀ (L : List Int) (i : Nat), x ∈ L → ∃ j : Nat, findGo x i L = ((i + j : Nat) : Int) ∧ j < L.length ∧ L[j]? = some x := by
    intro L
    induction L with
    | nil => intro i h; simp at h
    | cons y t ih =>
      intro i h
      rw [findGo]
      by_cases e : y = x
      · exact ⟨0, by rw [if_pos e]; simp, by simp, by simp [e]⟩
      · rcases List.mem_cons.1 h with h | h
        · exact absurd h.symm e
        obtain ⟨j, h1, h2, h3⟩ := ih (i + 1) h
        refine ⟨j + 1, ?_, by simp; omega, by simpa using h3⟩
        rw [if_neg e]
        have : ((i : Nat) : Int) + 1 = ((i + 1 : Nat) : Int) := by simp
        rw [this, h1]; congr 1; omega
  obtain ⟨j, h1, h2, h3⟩ := gen L 0 h
  exact ⟨j, by unfold findL; simpa using h1, h2, h3, by rw [List.getElem?_map, h3]; rfl⟩
section
variable {k p n : Int} (hr : ringOk k p n = true)
structure IsT (k p n : Int) (dm : Int → Int) (U L : List Int) (xs : List (El k p n)) : Prop where
  uni : Uni dm U
  sub : Sub U L
  len : xs.length = size (axs dm L)
theorem IsT.ax {dm : Int → Int} {U L : List Int} {xs : List (El k p n)} (h : IsT k p n dm U L xs) : AxOk L (L.map dm) := h.uni.ax h.sub
include hr in
theorem IsT.ok {dm : Int → Int} {U L : List Int} {xs : List (El k p n)} (h : IsT k p n dm U L xs) : TOk k p n L (L.map dm) (flat xs) := by
  have hw := ringOk_wide hr
  have hW : ringWidth k n = ((ringWidth k n).toNat : Nat) := by have := hw.lo; omega
  refine ⟨h.ax, ?_, flat_top _⟩
  rw [flat_length hW, h.len, Int.natCast_mul, h.uni.size h.sub, ← hW]
include hr in
theorem IsT.yes {dm : Int → Int} {U L : List Int} {xs : List (El k p n)} (h : IsT k p n dm U L xs) : tensOk k p n L (L.map dm) (flat xs) = true := (tensOk_iff hr).2 (h.ok hr)
end
def U6 : List Int := [0, 1, 2, 3, 4, 5]
theorem uni6 : Uni dimOf U6 := ⟨by
  refine ⟨by simp [U6], by simp [U6], fun l hl => ?_, by decide, fun d hd => ?_, by decide⟩
  · simp [U6] at hl; omega
  · obtain ⟨x, _, rfl⟩ := List.mem_map.1 hd
    have := dimOf_range x; omega⟩
theorem labs_sub {m : Int} {L : List Int} (h : Labs 6 m L) : Sub U6 L := ⟨h.nodup, fun l hl => by have := h.low l hl; simp [U6]; omega⟩
section
variable {k p n : Int} (hr : ringOk k p n = true)
include hr in
theorem drawn_isT {L D X : List Int} (h : DrawnT k p n L D X) : ∃ xs : List (El k p n), X = flat xs ∧ D = L.map dimOf ∧ IsT k p n dimOf U6 L xs := by
  have s := labs_sub h.labs
  have hw := ringOk_wide hr
  have hW : ringWidth k n = ((ringWidth k n).toNat : Nat) := by have := hw.lo; omega
  have hz := uni6.size s
  have hl := h.len
  rw [h.dims, ← hz, hW] at hl
  obtain ⟨xs, h1, h2⟩ := flat_of hW (P := Proofs.YtlgjddgajdjllaaGreatDoor.size (axs dimOf L)) (by exact_mod_cast hl) h.top
  exact ⟨xs, h2.symm, h.dims, uni6, s, h1⟩
end
abbrev NT (k p n : Int) := List Int × List (El k p n)
section
variable {k p n : Int}
def tenOf (dm : Int → Int) (t : NT k p n) : Ten3 := (t.1, t.1.map dm, flat t.2)
def occ (ts : List (NT k p n)) : List Int := ts.flatMap (·.1)
theorem mem_occ {ts : List (NT k p n)} {x : Int} : x ∈ occ ts ↔ ∃ t ∈ ts, x ∈ t.1 := List.mem_flatMap
end
def all100 : List Int := (List.range 100).map fun n : Nat => (n : Int)
theorem mem_all100 {x : Int} : x ∈ all100 ↔ 0 ≤ x ∧ x ≤ 99 := by
  unfold all100
  rw [List.mem_map]
  constructor
  · rintro ⟨m, hm, rfl⟩
    have := List.mem_range.1 hm
    omega
  · rintro ⟨h0, h1⟩
    exact ⟨x.toNat, List.mem_range.2 (by omega), by omega⟩
theorem all100_nodup : all100.Nodup := by
  unfold all100
  exact List.pairwise_map.2 (List.Pairwise.imp (fun h e => h (by exact_mod_cast e)) List.nodup_range)
def ascL (S : List Int) : List Int := all100.filter fun x => hasL S x
theorem mem_ascL {S : List Int} {x : Int} : x ∈ ascL S ↔ (0 ≤ x ∧ x ≤ 99) ∧ x ∈ S := by
  unfold ascL
  rw [List.mem_filter, mem_all100, hasL_iff]
theorem ascL_nodup (S : List Int) : (ascL S).Nodup := all100_nodup.filter _
def arrL (dm : Int → Int) (S : List Int) : List Int := all100.map fun x => if hasL S x = true then dm x else 0
theorem arrL_length (dm : Int → Int) (S : List Int) : (arrL dm S).length = 100 := by simp [arrL, all100]
theorem all100_get {j : Nat} (h : j < 100) : all100[j]? = some (j : Int) := by simp [all100, h]
theorem arrL_get (dm : Int → Int) (S : List Int) {j : Nat} (h : j < 100) : (arrL dm S)[j]? = some (if hasL S (j : Int) = true then dm j else 0) := by
  unfold arrL
  rw [List.getElem?_map, all100_get h]; rfl
theorem arrL_set (dm : Int → Int) (S : List Int) {j : Nat} (h : j < 100) : (arrL dm S).set j (dm j) = arrL dm (S ++ [(j : Int)]) := by
  apply List.ext_getElem?
  intro i
  by_cases hi : i < 100
  · rw [arrL_get _ _ hi]
    by_cases e : j = i
    · subst e
      rw [List.getElem?_set_self (by rw [arrL_length]; exact h), if_pos ((hasL_iff _ _).2 (by simp))]
    · rw [List.getElem?_set_ne e, arrL_get _ _ hi]
      have : hasL (S ++ [(j : Int)]) (i : Int) = hasL S (i : Int) := by
        rw [Bool.eq_iff_iff, hasL_iff, hasL_iff]
        simp; omega
      rw [this]
  · rw [List.getElem?_eq_none (by rw [List.length_set, arrL_length]; omega), List.getElem?_eq_none (by rw [arrL_length]; omega)]
theorem arrL_zero (dm : Int → Int) : arrL dm [] = List.replicate 100 0 := by
  unfold arrL
  have : (fun x : Int => if hasL [] x = true then dm x else 0) = fun _ => 0 := by funext x; simp [hasL]
  rw [this, List.map_const', all100, List.length_map, List.length_range]
section
variable {k p n : Int}
structure IsN (k p n : Int) (dm : Int → Int) (U : List Int) (ts : List (NT k p n)) (op : List Int) : Prop where
  uni : Uni dm U
  ten : ∀ t ∈ ts, IsT k p n dm U t.1 t.2
  sub : Sub U op
  occ : ∀ x ∈ op, x ∈ Proofs.YtlgjddgajdjllaaGreatDoor.occ ts
  len : ts.length ≤ 12
variable {dm : Int → Int} {U : List Int} {ts : List (NT k p n)} {op : List Int}
theorem IsN.occU (h : IsN k p n dm U ts op) {x : Int} (hx : x ∈ Proofs.YtlgjddgajdjllaaGreatDoor.occ ts) : x ∈ U := by
  obtain ⟨t, ht, hxt⟩ := mem_occ.1 hx
  exact (h.ten t ht).sub.sub x hxt
theorem Uni.labs (u : Uni dm U) {x : Int} (hx : x ∈ U) : 0 ≤ x ∧ x ≤ 99 := u.ok.labs x hx
theorem IsN.rank (h : IsN k p n dm U ts op) : op.length ≤ 12 := (h.uni.ax h.sub).rank
end
end Go.Proofs.YtlgjddgajdjllaaGreatDoor
