/- Sums of elements: the plain function, addInto of the program. -/
import Derived.Test.YtlmidcclcnehnaaSplice
import Derived.Test.YtlmidcclcnehnaaElemW
import Derived.Test.YtlmidcclcnehnaaApp
import Derived.Test.YtlmidcclcnehnaaUnits
import Derived.StillTailTactics
import Derived.RegionTactic
import Derived.ChangeAlike
namespace Go.Proofs.Ytlmidcclcnehnaa
open Go.RowKit
set_option linter.unusedSimpArgs false
set_option linter.unusedVariables false

/-- The sum of two integers of elements. -/
def add1 (k p a b : Int) : Int :=
  if k = 1 ∨ k = 5 then max a b else if k = 3 then min (a + b) p else if k = 4 then min a b else if k = 6 then bits BinOp.or IntKind.i64 a b else (a + b) % p
/-- The sum of two elements. -/
def addL (k p : Int) (x y : List Int) : List Int := List.zipWith (add1 k p) x y
/-- The integers of elements are small. -/
def Small (x : List Int) : Prop := ∀ v ∈ x, 0 ≤ v ∧ v ≤ 1048576
theorem top_small {k p n : Int} (h : ringOk k p n = true) : ringTop k p n ≤ 1048576 := by
  rcases kinds k with rfl | rfl | rfl | rfl | rfl | rfl | rfl | rfl | ⟨e1, e2, e3, e4, e5, e6, e7, e8⟩
  all_goals simp [ringOk, *] at h
  all_goals simp [ringTop]
  · have := isPrime_le h.1; omega
  · omega
  · omega
  · omega
  · have := pow_small n.toNat (by omega); omega
  · have := isPrime_le h.1.1; omega
  · have := isPrime_le h.1.1; omega
theorem allTo_small {top : Int} {x : List Int} (h : allTo top x = true) (ht : top ≤ 1048576) : Small x := by
  intro v hv
  have := List.all_eq_true.1 h v hv
  simp at this
  omega
theorem Small.get {x : List Int} (h : Small x) {i : Nat} {v : Int} (hv : x[i]? = some v) : 0 ≤ v ∧ v ≤ 1048576 := h v (List.mem_of_getElem? hv)

set_option maxRecDepth 100000 in
set_option maxHeartbeats 1000000 in
theorem addInto_one (k p n a c2 : Int) (b off cap : Nat) (c : List Value) (vy : Value) (w : World) (hk : k = 1 ∨ k = 3 ∨ k = 4 ∨ k = 5 ∨ k = 6) (hP : Part w b off c [a]) (hy : IntS w vy [c2]) (hne : vy.ownBlock ≠ some b)
    (ha : 0 ≤ a ∧ a ≤ 1048576) (hb : 0 ≤ c2 ∧ c2 ≤ 1048576) :
    Calls Try.prog 67 #[ringV k p n, .slice (some ⟨b, off, none⟩) 1 cap, vy] w fun e w' =>
      e = .returned (.tuple #[]) ∧ Blk w' b 3 (splice c off (ints [add1 k p a c2])) ∧ w.grownBy w' (some b) := by
  obtain ⟨ay, capy, rfl, hc1, hc2⟩ := hy.val
  obtain ⟨b2, off2, y, rfl, hcy, hy0, _⟩ := hy.get (i := 0) (by simp)
  simp at hy0
  subst hy0
  obtain ⟨hcx, hfx⟩ := hP.cell (i := 0) rfl
  rw [Nat.add_zero] at hcx hfx hcy
  have l1 := World.block_lt_of_cell? w _ hcx
  have l2 := World.block_lt_of_cell? w _ hcy
  have hne2 : b2 ≠ b := by simpa [Value.ownBlock] using hne
  obtain ⟨a0, a1⟩ := ha
  obtain ⟨b0, b1⟩ := hb
  obtain ⟨v, hv⟩ : ∃ v, add1 k p a c2 = v := ⟨_, rfl⟩
  simp only [hv]
  have HV := Lib.hid hv; clear hv
  have hset := fun x => hP.set_splice (i := 0) (by simp) x
  have HS := Lib.hid hset; clear hset
  rcases hk with rfl | rfl | rfl | rfl | rfl
  all_goals
    go_enter Try.func67, Try.ntmps67
    go_wp2
    go_region
    go_wp2
  all_goals
    go_end0
    refine ⟨rfl, ?_, (by repeat' (first | (with_reducible exact grown_refl _ _) | (with_reducible assumption) | (with_reducible apply grown_alloc) | (with_reducible apply grown_drew) | (with_reducible apply grown_drewN) | (with_reducible refine grown_setCell ?_ _ _) | (refine grownBy_trans ?_ (by assumption))))⟩
    refine Blk.ext (w := w.setCell ⟨b, off, none⟩ _) ?_ (by repeat' (first | (with_reducible exact Ext.refl _) | (with_reducible assumption) | (with_reducible apply Ext.alloc) | (with_reducible apply Ext.drew) | (with_reducible apply Ext.drewN) | (refine Ext.setAt ?_ (by omega) _ _) | (refine Ext.trans ?_ (by assumption))))
    have hb := hP.blk.set (off + 0) (.int .i64 v)
    rw [HS.out] at hb
    have e : ∀ x y : Int, x = y → Blk (w.setCell ⟨b, off, none⟩ (.int .i64 y)) b 3 (splice c off (ints ([a].set 0 y))) → Blk (w.setCell ⟨b, off, none⟩ (.int .i64 x)) b 3 (splice c off (ints [y])) := fun x y h hh => by subst h; exact hh
    refine e _ _ ?_ hb
    rw [← HV.out]
    simp [add1]
    try (first | omega | (split <;> omega))
theorem addL_length {k p : Int} {x y : List Int} (h : y.length = x.length) : (addL k p x y).length = x.length := by simp [addL, h]
theorem add1_mod {k p a b : Int} (hk : k = 2 ∨ k = 7 ∨ k = 8) : add1 k p a b = (a + b) % p := by
  rcases hk with rfl | rfl | rfl <;> simp [add1]
set_option maxRecDepth 100000 in
set_option maxHeartbeats 1000000 in
theorem addInto_many (k p n : Int) (b off cap : Nat) (c : List Value) (vy : Value) (x y : List Int) (w : World) (hk : k = 2 ∨ k = 7 ∨ k = 8) (hP : Part w b off c x) (hy : IntS w vy y) (hne : vy.ownBlock ≠ some b)
    (hlen : y.length = x.length) (hx : Small x) (hys : Small y) (hp : 1 ≤ p) (hp2 : p ≤ 1048576) (hl64 : x.length ≤ 1048576) :
    Calls Try.prog 67 #[ringV k p n, .slice (some ⟨b, off, none⟩) x.length cap, vy] w fun e w' =>
      e = .returned (.tuple #[]) ∧ Blk w' b 3 (splice c off (ints (addL k p x y))) ∧ w.grownBy w' (some b) := by
  obtain ⟨ay, capy, rfl, hc1, hc2⟩ := hy.val
  have hb := hP.blk.lt
  have hlenF := addL_length (k := k) (p := p) hlen
  have HN := Lib.hid hlen; clear hlen
  have HF := Lib.hid hlenF; clear hlenF
  have HX := Lib.hid hx; clear hx
  have HY := Lib.hid hys; clear hys
  have hP0 : Part (w.alloc (.cells #[.int .i64 k, .int .i64 p, .int .i64 n] 28)) b off c x := hP.ext (by repeat' (first | (with_reducible exact Ext.refl _) | (with_reducible assumption) | (with_reducible apply Ext.alloc) | (with_reducible apply Ext.drew) | (with_reducible apply Ext.drewN) | (refine Ext.setAt ?_ (by omega) _ _) | (refine Ext.trans ?_ (by assumption))))
  have hsp := hP.splice
  have HS := Lib.hid hsp; clear hsp
  have hcl := hP.len
  have HK := Lib.hid hk
  obtain ⟨k1, k3, k4, k5, k6⟩ : (k == 1) = false ∧ (k == 3) = false ∧ (k == 4) = false ∧ (k == 5) = false ∧ (k == 6) = false := by
    rcases hk with rfl | rfl | rfl <;> exact ⟨rfl, rfl, rfl, rfl, rfl⟩
  clear hk
  go_enter Try.func67, Try.ntmps67
  go_wp2
  go_loopw [11] (fun i wr => ∃ j : Nat, j ≤ x.length ∧ i = .int .i64 j ∧ Part wr b off (splice c off (ints (mix (addL k p x y) x j))) (mix (addL k p x y) x j) ∧
      (w.alloc (.cells #[.int .i64 k, .int .i64 p, .int .i64 n] 28)).grownBy wr (some b)) (fun i _ => x.length - (intOf i).toNat)
  case atStart => exact ⟨0, Nat.zero_le _, rfl, by rw [mix_zero, ← HS.out]; exact hP0, grown_refl _ _⟩
  case round =>
    obtain ⟨j, hj, rfl, hPj, hG⟩ := hrel
    have g1 : wr.cell? ⟨w.heap.size, 1, none⟩ = some (.int .i64 p) := grown_cell hG (by omega) (by simp)
    by_cases hlt : j < x.length
    · obtain ⟨a, ha⟩ : ∃ a, x[j]? = some a := ⟨_, List.getElem?_eq_getElem hlt⟩
      obtain ⟨b2, off2, c2, rfl, hcy, hyj, _⟩ := hy.get (i := j) (by have := HN.out; omega)
      have hne2 : b2 ≠ b := by simpa [Value.ownBlock] using hne
      have hlt2 : j < y.length := by have := HN.out; omega
      have hcy' : wr.cell? ⟨b2, off2 + j, none⟩ = some (.int .i64 c2) := grown_cell hG hne2 ((Ext.alloc (Ext.refl w) _).cell hcy)
      have hmx : (mix (addL k p x y) x j)[j]? = some a := by rw [mix_get HF.out hlt, ha]
      obtain ⟨hcx, hfx⟩ := hPj.cell hmx
      obtain ⟨a0, a1⟩ := HX.out.get ha
      obtain ⟨b0, b1⟩ := HY.out.get hyj
      have hf : (addL k p x y)[j]? = some ((a + c2) % p) := by unfold addL; rw [zip_get ha hyj, add1_mod HK.out]
      have hset := hPj.set (i := j) (by rw [mix_length HF.out hj]; exact hlt) ((a + c2) % p)
      have hsets := hPj.set_splice (i := j) (by rw [mix_length HF.out hj]; exact hlt) ((a + c2) % p)
      rw [mix_set HF.out hf] at hset hsets
      rw [hsets, splice_splice (by rw [ints_length, mix_length HF.out hj]; exact hcl) (by rw [ints_length, ints_length, mix_length HF.out hj, mix_length HF.out hlt])] at hset
      have HP := Lib.hid hset
      clear hset hsets hf hmx ha hyj hcy
      have l1 := World.block_lt_of_cell? wr _ hcx
      have l2 := World.block_lt_of_cell? wr _ hcy'
      go_wp2
      go_region
      go_wp2
      go_roundw
      case rel => exact ⟨j + 1, by omega, by go_num, HP.out.ext (by repeat' (first | (with_reducible exact Ext.refl _) | (with_reducible assumption) | (with_reducible apply Ext.alloc) | (with_reducible apply Ext.drew) | (with_reducible apply Ext.drewN) | (refine Ext.setAt ?_ (by omega) _ _) | (refine Ext.trans ?_ (by assumption)))), (by repeat' (first | (with_reducible exact grown_refl _ _) | (with_reducible assumption) | (with_reducible apply grown_alloc) | (with_reducible apply grown_drew) | (with_reducible apply grown_drewN) | (with_reducible refine grown_setCell ?_ _ _) | (refine grownBy_trans ?_ (by assumption))))⟩
      case measure => simp [intOf]; omega
    · have : j = x.length := by omega
      subst this
      go_wp2
      go_end0
      rw [mix_all HF.out] at hPj
      refine ⟨rfl, hPj.blk, ?_⟩
      exact grownBy_trans (grown_alloc (grown_refl w (some b)) _) hG


/-- Integers of elements of a ring of this kind. -/
def FitK (k : Int) (x : List Int) : Prop := Small x ∧ (k = 1 → ∀ v ∈ x, v ≤ 1)
theorem rawOk_fit {k p n : Int} {x : List Int} (h : ringOk k p n = true) (hx : rawOk k p n x = true) : FitK k x ∧ (x.length : Int) = ringWidth k n := by
  simp [rawOk] at hx
  refine ⟨⟨allTo_small hx.2 (top_small h), fun e v hv => ?_⟩, hx.1⟩
  subst e
  have := List.all_eq_true.1 hx.2 v hv
  simp [ringTop] at this
  exact this.2
theorem or_bool (a b : Int) (ha : 0 ≤ a ∧ a ≤ 1) (hb : 0 ≤ b ∧ b ≤ 1) : bits BinOp.or IntKind.i64 a b = max a b := by
  obtain rfl | rfl : a = 0 ∨ a = 1 := by omega
  all_goals obtain rfl | rfl : b = 0 ∨ b = 1 := by omega
  all_goals decide
theorem blk_as {w : World} {b : Nat} {T : TypeId} {xs ys : List Value} (h : Blk w b T xs) (e : xs = ys) : Blk w b T ys := e ▸ h
end Go.Proofs.Ytlmidcclcnehnaa
