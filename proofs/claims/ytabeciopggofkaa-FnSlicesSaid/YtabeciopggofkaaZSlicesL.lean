/- The law of slices: small facts. No program in sight. -/
import Derived.Test.YtabeciopggofkaaZBase
import Derived.Test.YtabeciopggofkaaZStackW
import Derived.Test.YtabeciopggofkaaZFixW
namespace Go.Proofs.Ytabeciopggofkaa
open Go.RowKit
set_option linter.unusedSimpArgs false
set_option linter.unusedVariables false

theorem cutL_at : ∀ {L : List Int} {K : Nat} {x : Int}, L.Nodup → L[K]? = some x → cutL L x = L.take K ++ L.drop (K + 1)
  | [], K, x, _, h => by simp at h
  | l :: L, 0, x, hn, h => by
    simp at h; subst h
    rw [List.nodup_cons] at hn
    unfold cutL
    rw [List.filter_cons, if_neg (by simp), List.take_zero, List.nil_append, List.drop_succ_cons, List.drop_zero, List.filter_eq_self]
    intro y hy
    have : y ≠ l := fun e => hn.1 (e ▸ hy)
    simp [this]
  | l :: L, K + 1, x, hn, h => by
    rw [List.nodup_cons] at hn
    have h' : L[K]? = some x := by simpa using h
    have hne : l ≠ x := fun e => hn.1 (e ▸ List.mem_of_getElem? h')
    have ih := cutL_at hn.2 h'
    unfold cutL at ih ⊢
    rw [List.filter_cons, if_pos (by simp [hne]), ih]
    simp
theorem TensS.congr {w : World} {v : Value} {ts ts' : List Ten3} (h : TensS w v ts) (e : ts = ts') : TensS w v ts' := e ▸ h
/-- What 'l[k:]' reads as, wherever it begins. -/
theorem IntS.rest {w : World} {b n cap K : Nat} {l : List Int} (h : IntS w (.slice (some ⟨b, 0, none⟩) n cap) l) (hK : K ≤ n) :
    IntS w (.slice (if cap = K then some ⟨b, 0, none⟩ else some ⟨b, K, none⟩) (n - K) (cap - K)) (l.drop K) := by
  obtain ⟨hl, a', cap', hv, h1, h2, h3⟩ := h.row
  cases hv
  have hl' : (l.drop K).length = l.length - K := List.length_drop
  refine ⟨⟨by rw [ints_length, Nat.mul_one], _, cap - K, by rw [hl'], by omega, by omega, fun hp => ?_⟩⟩
  rw [ints_length, hl'] at hp
  obtain ⟨b', off, hb, hc⟩ := h3 (by rw [ints_length]; omega)
  cases hb
  rw [if_neg (by omega)]
  refine ⟨b, K, rfl, fun j u hj => ?_⟩
  have := hc (K + j) u (by rw [ints_get] at hj ⊢; rw [List.getElem?_drop] at hj; exact hj)
  rwa [Nat.zero_add] at this
section
variable {k p n : Int} (hr : ringOk k p n = true)
theorem fix_one {dm : Int → Int} {L : List Int} {xs : List (El k p n)} {x v : Int} (hx : x ∈ L) (h77 : (77 : Int) ∉ L) (h0 : 0 ≤ v) (h1 : v < dm x) :
    fixOk dm [x, 77] [v, 5] L ∧ fixT hr dm [x, 77] [v, 5] L xs = (cutL L x, cutXs hr dm L x (fun _ => v) xs) := by
  have e1 : hasL L x = true := (hasL_iff _ _).2 hx
  have e2 : hasL (cutL L x) 77 = false := hasL_not.2 fun h => h77 (mem_cutL.1 h).1
  constructor
  · refine ⟨fun _ => ⟨h0, h1⟩, ?_⟩
    rw [if_pos e1]
    refine ⟨fun h => ?_, trivial⟩
    rw [e2] at h; cases h
  · unfold fixT
    rw [if_pos e1]
    unfold fixT
    rw [if_neg (by rw [e2]; exact Bool.false_ne_true)]
    rfl
/-- The slices, as they are stacked. -/
def slXs (dm : Int → Int) (L : List Int) (x : Int) (xs : List (El k p n)) (v : Nat) : List (List (El k p n)) := (List.range v).map fun v : Nat => cutXs hr dm L x (fun _ => (v : Int)) xs
def slTs (dm : Int → Int) (L : List Int) (x : Int) (xs : List (El k p n)) (v : Nat) : List Ten3 := (slXs hr dm L x xs v).map fun ys => (cutL L x, (cutL L x).map dm, flat ys)
theorem slTs_len (dm : Int → Int) (L : List Int) (x : Int) (xs : List (El k p n)) (v : Nat) : (slTs hr dm L x xs v).length = v := by simp [slTs, slXs]
theorem slXs_len (dm : Int → Int) (L : List Int) (x : Int) (xs : List (El k p n)) (v : Nat) : (slXs hr dm L x xs v).length = v := by simp [slXs]
theorem slTs_snoc (dm : Int → Int) (L : List Int) (x : Int) (xs : List (El k p n)) (v : Nat) : slTs hr dm L x xs v ++ [(cutL L x, (cutL L x).map dm, flat (cutXs hr dm L x (fun _ => (v : Int)) xs))] = slTs hr dm L x xs (v + 1) := by
  simp [slTs, slXs, List.range_succ]
theorem slXs_isT {dm : Int → Int} {U L : List Int} {xs : List (El k p n)} (h : IsT k p n dm U L xs) (x : Int) (v : Nat) : ∀ ys ∈ slXs hr dm L x xs v, IsT k p n dm U (cutL L x) ys := by
  intro ys hy
  obtain ⟨u, _, rfl⟩ := List.mem_map.1 hy
  exact cutXs_isT hr h x _
theorem stack_law {dm : Int → Int} {U L : List Int} {xs : List (El k p n)} (h : IsT k p n dm U L xs) {x : Int} (hx : x ∈ L) {d : Nat} (hd : dm x = (d : Int)) :
    flat (stackXs (slXs hr dm L x xs d) (size (axs dm (cutL L x)))) = flat (permXs hr dm L (cutL L x ++ [x]) xs) := by
  rw [← stack_data hr h hx hd]; rfl
end
end Go.Proofs.Ytabeciopggofkaa
