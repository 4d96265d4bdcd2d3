/- Products of elements: the plain function. -/
import Derived.Test.YtlmidcclcnehnaaSplice
import Derived.Test.YtlmidcclcnehnaaElemW
import Derived.Test.YtlmidcclcnehnaaUnits
import Derived.Test.YtlmidcclcnehnaaAdds
import Derived.Lib.SliceRun
import Derived.WalkKit
namespace Go.Proofs.Ytlmidcclcnehnaa
open Go.RowKit
set_option linter.unusedSimpArgs false
set_option linter.unusedVariables false

theorem Blk.sets : ∀ (xs : List Value) {w : World} {b : Nat} {T : TypeId} {c : List Value} (_ : Blk w b T c) (o : Nat) (_ : o + xs.length ≤ c.length), Blk (w.setCells b o xs) b T (splice c o xs)
  | [], w, b, T, c, h, o, _ => by
    have e : splice c o [] = c := by simp [splice]
    rw [e]; exact h
  | v :: t, w, b, T, c, h, o, ho => by
    have hl : o < c.length := by simp at ho; omega
    have := Blk.sets t (h.set o v) (o + 1) (by simp at ho ⊢; omega)
    have e : splice (c.set o v) (o + 1) t = splice c o (v :: t) := by
      unfold splice
      have h1 : (c.set o v).take (o + 1) = c.take o ++ [v] := by
        rw [List.take_succ_eq_append_getElem (by simpa using hl), List.getElem_set_self, List.take_set_of_le (Nat.le_refl o)]
      have h2 : (c.set o v).drop (o + 1 + t.length) = c.drop (o + (v :: t).length) := by
        rw [List.drop_set_of_lt (by omega), List.length_cons]
        congr 1
        omega
      rw [h1, h2]
      simp
    rw [e] at this
    exact this
theorem grown_sets {w : World} {b : Nat} : ∀ (xs : List Value) {w' : World} (_ : w.grownBy w' (some b)) (o : Nat), w.grownBy (w'.setCells b o xs) (some b)
  | [], _, h, _ => h
  | v :: t, _, h, o => grown_sets t (grown_setCell h _ _) (o + 1)
theorem size_sets (b : Nat) : ∀ (xs : List Value) (w : World) (o : Nat), (w.setCells b o xs).heap.size = w.heap.size
  | [], _, _ => rfl
  | v :: t, w, o => (size_sets b t _ (o + 1)).trans (by simp)
theorem zeroI (w : World) : (zeroValue 3).run Try.prog w = .ok (.int .i64 0) w := by kernel_rfl
theorem ints_replicate (m : Nat) (v : Int) : ints (List.replicate m v) = List.replicate m (.int .i64 v) := by simp [ints]

/-- All coefficients lie below p. -/
def Under (p : Int) (x : List Int) : Prop := ∀ v ∈ x, 0 ≤ v ∧ v < p
theorem under_zeros {p : Int} (m : Nat) (h : 0 < p) : Under p (List.replicate m 0) := by
  intro v hv
  have := (List.mem_replicate.1 hv).2
  omega
/-- One coefficient's product is added. -/
def put1 (om : Bool) (p : Int) (acc : List Int) (k : Nat) (v : Int) : List Int :=
  if k < acc.length then acc.set k ((acc[k]?.getD 0 + v) % p) else if om = true then acc.set (k - 4) ((acc[k - 4]?.getD 0 - v) % p) else acc
def mulRow (om : Bool) (p : Int) (i : Nat) (a : Int) : List Int → Nat → List Int → List Int
  | acc, _, [] => acc
  | acc, j, b :: t => mulRow om p i a (put1 om p acc (i + j) (a * b)) (j + 1) t
def mulRows (om : Bool) (p : Int) (y : List Int) : List Int → Nat → List Int → List Int
  | acc, _, [] => acc
  | acc, i, a :: t => mulRows om p y (mulRow om p i a acc 0 y) (i + 1) t
theorem put1_length (om : Bool) (p : Int) (acc : List Int) (k : Nat) (v : Int) : (put1 om p acc k v).length = acc.length := by
  unfold put1; split
  · simp
  · split <;> simp
theorem put1_in {om : Bool} {p : Int} {acc : List Int} {k : Nat} {v o : Int} (h : k < acc.length) (ho : acc[k]? = some o) : put1 om p acc k v = acc.set k ((o + v) % p) := by simp only [put1, h, ho, if_true, Option.getD_some]
theorem put1_over {p : Int} {acc : List Int} {k : Nat} {v o : Int} (h : ¬ k < acc.length) (ho : acc[k - 4]? = some o) : put1 true p acc k v = acc.set (k - 4) ((o - v) % p) := by simp only [put1, h, ho, if_true, if_false, Option.getD_some]
theorem put1_out {p : Int} {acc : List Int} {k : Nat} {v : Int} (h : ¬ k < acc.length) : put1 false p acc k v = acc := by simp [put1, h]
theorem under_put {p : Int} (om : Bool) {acc : List Int} (h : Under p acc) (k : Nat) (v : Int) (hp : 1 ≤ p) : Under p (put1 om p acc k v) := by
  have hb := fun a : Int => And.intro (Int.emod_nonneg a (show p ≠ 0 by omega)) (Int.emod_lt_of_pos a (show 0 < p by omega))
  unfold put1
  split
  · intro u hu
    rcases List.mem_or_eq_of_mem_set hu with hu | rfl
    · exact h u hu
    · exact hb _
  · split
    · intro u hu
      rcases List.mem_or_eq_of_mem_set hu with hu | rfl
      · exact h u hu
      · exact hb _
    · exact h
theorem mulRow_length (om : Bool) (p : Int) (i : Nat) (a : Int) : ∀ (y acc : List Int) (j : Nat), (mulRow om p i a acc j y).length = acc.length
  | [], _, _ => rfl
  | _ :: t, acc, j => by rw [mulRow, mulRow_length om p i a t, put1_length]
theorem mulRows_length (om : Bool) (p : Int) (y : List Int) : ∀ (x acc : List Int) (i : Nat), (mulRows om p y acc i x).length = acc.length
  | [], _, _ => rfl
  | _ :: t, acc, j => by rw [mulRows, mulRows_length om p y t, mulRow_length]
theorem under_row {om : Bool} {p : Int} {i : Nat} {a : Int} (hp : 1 ≤ p) : ∀ (y : List Int) {acc : List Int} (j : Nat), Under p acc → Under p (mulRow om p i a acc j y)
  | [], _, _, h => h
  | _ :: t, _, j, h => under_row hp t (j + 1) (under_put om h _ _ hp)
theorem under_rows {om : Bool} {p : Int} {y : List Int} (hp : 1 ≤ p) : ∀ (x : List Int) {acc : List Int} (i : Nat), Under p acc → Under p (mulRows om p y acc i x)
  | [], _, _, h => h
  | _ :: t, _, i, h => under_rows hp t (i + 1) (under_row hp y 0 h)
theorem drop_at {x : List Int} {i : Nat} {a : Int} (h : x[i]? = some a) : x.drop i = a :: x.drop (i + 1) := by
  obtain ⟨hlt, rfl⟩ := List.getElem?_eq_some_iff.1 h
  exact List.drop_eq_getElem_cons hlt
theorem prod_bound {a b : Int} (a0 : 0 ≤ a) (b0 : 0 ≤ b) (a1 : a ≤ 1048576) (b1 : b ≤ 1048576) : 0 ≤ a * b ∧ a * b ≤ 1099511627776 :=
  ⟨Int.mul_nonneg a0 b0, Int.le_trans (Int.mul_le_mul a1 b1 b0 (by omega)) (by decide)⟩
theorem mod_bound (a : Int) {p : Int} (hp : 1 ≤ p) : 0 ≤ a % p ∧ a % p < p := ⟨Int.emod_nonneg a (by omega), Int.emod_lt_of_pos a (by omega)⟩
theorem mod_add (o v p : Int) : (o + v % p) % p = (o + v) % p := by simp [Int.add_emod]
theorem mod_sub (o v p : Int) : (o + p - v % p) % p = (o - v) % p := by
  rw [show o + p - v % p = o - v % p + p by omega, Int.add_emod_right, Int.sub_emod, Int.emod_emod, ← Int.sub_emod]
theorem mod_sub2 (o a b p : Int) : (o + (p - a) * b) % p = (o - a * b) % p := by
  rw [show o + (p - a) * b = o - a * b + p * b by rw [Int.sub_mul]; omega, Int.add_mul_emod_self_left]

/-- The product of two integers of elements. -/
def mul1 (k p a b : Int) : Int :=
  if k = 2 then a * b % p else if k = 3 then min (a * b) p else if k = 4 then min (a + b) p else if k = 6 then bits BinOp.and IntKind.i64 a b else min a b
/-- The product of two elements. -/
def mulL (k p : Int) (x y : List Int) : List Int :=
  if k = 7 ∨ k = 8 then mulRows (decide (k = 8)) p y (List.replicate x.length 0) 0 x else List.zipWith (mul1 k p) x y
theorem mulL_length {k p : Int} {x y : List Int} (h : y.length = x.length) : (mulL k p x y).length = x.length := by
  unfold mulL
  split
  · rw [mulRows_length, List.length_replicate]
  · simp [h]
theorem mulL_one {k p : Int} (h7 : ¬ k = 7) (h8 : ¬ k = 8) (a b : Int) : mulL k p [a] [b] = [mul1 k p a b] := by simp [mulL, h7, h8]
theorem rawOk_under {k p n : Int} {x : List Int} (hk : k = 7 ∨ k = 8) (hp : 1 ≤ p) (hx : rawOk k p n x = true) : Under p x := by
  have ht : ringTop k p n = p - 1 := by rcases hk with rfl | rfl <;> simp [ringTop]
  simp [rawOk, ht] at hx
  intro v hv
  have := List.all_eq_true.1 hx.2 v hv
  simp at this
  omega

end Go.Proofs.Ytlmidcclcnehnaa
