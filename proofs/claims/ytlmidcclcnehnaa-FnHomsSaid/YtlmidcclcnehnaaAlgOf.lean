/- The semiring laws in the words of the functions' results; the laws' helper 'ints'. -/
import Derived.Test.YtlmidcclcnehnaaAlg
import Derived.Test.YtlmidcclcnehnaaSumW
import Derived.Test.YtlmidcclcnehnaaUnitsW
import Derived.Test.YtlmidcclcnehnaaPowW
import Derived.Test.YtlmidcclcnehnaaCountW
namespace Go.Proofs.Ytlmidcclcnehnaa
open Go.RowKit
set_option linter.unusedSimpArgs false
set_option linter.unusedVariables false

/-- What is known of drawn elements: all that the laws compare. -/
structure ElemLaws (k p n : Int) (x y z : List Int) : Prop where
  okAdd : elemOk k p n (addOf k p n x y) = true
  okMul : elemOk k p n (mulOf k p n x y) = true
  addC : addOf k p n x y = addOf k p n y x
  mulC : mulOf k p n x y = mulOf k p n y x
  dist : mulOf k p n (addOf k p n x y) z = addOf k p n (mulOf k p n x z) (mulOf k p n y z)
  addA : addOf k p n (addOf k p n x y) z = addOf k p n x (addOf k p n y z)
  mulA : mulOf k p n (mulOf k p n x y) z = mulOf k p n x (mulOf k p n y z)
  addZ : addOf k p n x (zeroOf k p n) = x
  mulO : mulOf k p n x (oneOf k p n) = x
  mulZ : mulOf k p n x (zeroOf k p n) = zeroOf k p n
  sum : sumOf k p n [x, y, z] = addOf k p n (addOf k p n x y) z
  width : ringWidthAll k p n = x.length
theorem addOf_raw {k p n : Int} {x y : List Int} (h : ringOk k p n = true) (hx : rawOk k p n x = true) (hy : rawOk k p n y = true) : addOf k p n x y = addL k p x y :=
  addOf_yes (by rw [elemOk_yes h]; exact hx) (by rw [elemOk_yes h]; exact hy)
theorem mulOf_raw {k p n : Int} {x y : List Int} (h : ringOk k p n = true) (hx : rawOk k p n x = true) (hy : rawOk k p n y = true) : mulOf k p n x y = mulL k p x y :=
  mulOf_yes (by rw [elemOk_yes h]; exact hx) (by rw [elemOk_yes h]; exact hy)
theorem elem_laws {k p n : Int} {x y z : List Int} (h : ringOk k p n = true) (hx : rawOk k p n x = true) (hy : rawOk k p n y = true) (hz : rawOk k p n z = true) : ElemLaws k p n x y z := by
  have hxy := rawOk_add h hx hy
  have hyz := rawOk_add h hy hz
  have mxy := rawOk_mul h hx hy
  have mxz := rawOk_mul h hx hz
  have myz := rawOk_mul h hy hz
  have a1 := addOf_raw h hx hy
  have a2 := mulOf_raw h hx hy
  refine ⟨?_, ?_, ?_, ?_, ?_, ?_, ?_, ?_, ?_, ?_, ?_, ?_⟩
  · rw [a1, elemOk_yes h]; exact hxy
  · rw [a2, elemOk_yes h]; exact mxy
  · rw [a1, addOf_raw h hy hx, addL_comm h hx hy]
  · rw [a2, mulOf_raw h hy hx, mulL_comm h hx hy]
  · rw [a1, mulOf_raw h hxy hz, mulOf_raw h hx hz, mulOf_raw h hy hz, addOf_raw h mxz myz, mulL_add h hx hy hz]
  · rw [a1, addOf_raw h hxy hz, addOf_raw h hy hz, addOf_raw h hx hyz, addL_assoc h hx hy hz]
  · rw [a2, mulOf_raw h mxy hz, mulOf_raw h hy hz, mulOf_raw h hx myz, mulL_assoc h hx hy hz]
  · rw [zeroOf_yes h, addOf_raw h hx (rawOk_zero h), addL_zero h hx]
  · rw [oneOf_yes h, mulOf_raw h hx (rawOk_one h), mulL_unit h hx]
  · rw [zeroOf_yes h, mulOf_raw h hx (rawOk_zero h), mulL_zero h hx]
  · rw [a1, addOf_raw h hxy hz]
    unfold sumOf
    rw [if_pos h, sumGo_yes hx, sumGo_yes hy, sumGo_yes hz, sumGo, zero_addL h hx]
  · rw [ringWidthAll_ok h, (rawOk_iff.1 hx).1]

theorem ints_same (v u : Value) (l m : List Int) (w : World) (hl : IntS w v l) (hm : IntS w u m) (e : l = m) : Calls Try.prog 42 #[v, u] w fun e w' =>
    e = .returned (.bool true) ∧ w = w' := by
  subst e
  obtain ⟨a, cap, rfl, hc1, hc2⟩ := hl.val
  obtain ⟨a2, cap2, rfl, hc3, hc4⟩ := hm.val
  go_enter Try.func42, Try.ntmps42
  go_wp2
  go_loop [9] (fun i => ∃ j : Nat, j ≤ l.length ∧ i = .int .i64 j) (fun i => l.length - (intOf i).toNat)
  case atStart => exact ⟨0, Nat.zero_le _, rfl⟩
  case round =>
    obtain ⟨j, hj, rfl⟩ := hrel
    by_cases hlt : j < l.length
    · obtain ⟨b, off, x, rfl, hcell, hx, _⟩ := hl.get hlt
      obtain ⟨b2, off2, y, rfl, hcell2, hy, _⟩ := hm.get hlt
      obtain rfl : x = y := by rw [hx] at hy; injection hy
      clear hx hy
      go_wp2
      go_round
      case rel => exact ⟨j + 1, by omega, by go_num⟩
      case measure => simp [intOf]; omega
    · have : j = l.length := by omega
      subst this
      go_wp2
      go_ret
      exact ⟨rfl, rfl⟩
theorem RowsS.built3 {w : World} {a b c : Value} {x y z : List Int} {T : TypeId} (ha : IntS w a x) (hb : IntS w b y) (hc : IntS w c z) :
    RowsS (w.alloc (.cells #[a, b, c] T)) (.slice (some ⟨w.heap.size, 0, none⟩) 3 3) [x, y, z] := by
  refine ⟨[a, b, c], rfl, ⟨rfl, _, 3, rfl, Nat.le_refl _, by simp [maxLen], fun _ => ⟨_, 0, rfl, fun j u hj => ?_⟩⟩, fun i u l h1 h2 => ?_⟩
  · have h := (Blk.new w #[a, b, c] T).cell (j := j) (u := u) hj
    simpa using h
  · have e : Ext w (w.alloc (.cells #[a, b, c] T)) := (Ext.refl w).alloc _
    match i, h1, h2 with
    | 0, h1, h2 => simp at h1 h2; subst h1; subst h2; exact ha.ext e
    | 1, h1, h2 => simp at h1 h2; subst h1; subst h2; exact hb.ext e
    | 2, h1, h2 => simp at h1 h2; subst h1; subst h2; exact hc.ext e
    | i + 3, h1, h2 => simp at h1
end Go.Proofs.Ytlmidcclcnehnaa
