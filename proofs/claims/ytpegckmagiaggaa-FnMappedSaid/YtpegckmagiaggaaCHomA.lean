/- ApplyHom: the plain function, and the program's rawHom. -/
import Derived.StillTailTactics
import Derived.Deep.RegionHeld3
import Derived.Test.YtpegckmagiaggaaCBase
import Derived.Test.YtpegckmagiaggaaCMulsS
import Derived.Test.YtpegckmagiaggaaCMulsI
import Derived.Test.YtpegckmagiaggaaCAddsS
import Derived.Test.YtpegckmagiaggaaCClosed
import Derived.Test.YtpegckmagiaggaaCAlg
namespace Go.Proofs.Ytpegckmagiaggaa
open Go.RowKit
set_option linter.unusedSimpArgs false
set_option linter.unusedVariables false

def boolL (b : Bool) : List Int := [if b = true then 1 else 0]
/-- The bit i of x. -/
def bitOf (x i : Int) : Bool := bits BinOp.and IntKind.i64 (x / 2 ^ i.toNat) 1 == 1
/-- The value of a polynomial, from its constant on. -/
def horner (p a : Int) : List Int → Int
  | [] => 0
  | b :: t => (horner p a t * a + b) % p
/-- The image of an element. -/
def homL (fk fp tk tp tn hk ha : Int) (x : List Int) : List Int :=
  if hk = 2 then boolL (if fk = 3 then decide (0 < cg x 0) else cg x 0 == 0)
  else if hk = 3 then boolL (bitOf (cg x 0) ha)
  else if hk = 4 then boolL (decide (ha ≤ cg x 0))
  else if hk = 5 then [cg x 0]
  else if hk = 6 then [horner fp ha x]
  else if hk = 7 then (if fk = 7 then x.take tn.toNat else if fk = 6 then [bits BinOp.and IntKind.i64 (cg x 0) (2 ^ tn.toNat - 1)] else [min (cg x 0) tp])
  else if hk = 8 then (if cg x 0 = 1 then oneL tk tp tn else zeroL tk tp tn)
  else x
theorem bitElem_any (b : Bool) (w : World) : Calls Try.prog 168 #[.bool b] w fun e w' => ∃ v, e = .returned v ∧ OwnI w' w.heap.size v (boolL b) ∧ Ext w w' := by
  cases b
  all_goals
    go_enter Try.func168, Try.ntmps168
    go_wp2
    go_ret
  · exact ⟨_, rfl, OwnI.of (l := [0]) (Nat.le_refl _) (Blk.new w #[.int .i64 0] 3) (by simp [maxLen]), (by repeat' (first | (with_reducible exact Ext.refl _) | (with_reducible assumption) | (with_reducible apply Ext.alloc) | (with_reducible apply Ext.drew) | (with_reducible apply Ext.drewN) | (refine Ext.setAt ?_ (by omega) _ _) | (refine Ext.trans ?_ (by assumption))))⟩
  · exact ⟨_, rfl, OwnI.of (l := [1]) (Nat.le_refl _) (Blk.new w #[.int .i64 1] 3) (by simp [maxLen]), (by repeat' (first | (with_reducible exact Ext.refl _) | (with_reducible assumption) | (with_reducible apply Ext.alloc) | (with_reducible apply Ext.drew) | (with_reducible apply Ext.drewN) | (refine Ext.setAt ?_ (by omega) _ _) | (refine Ext.trans ?_ (by assumption))))⟩
theorem OwnI.one {w : World} {B b : Nat} {a : Int} (hb : B ≤ b) (hs : b = w.heap.size) : OwnI (w.alloc (.cells #[.int .i64 a] 3)) B (.slice (some ⟨b, 0, none⟩) 1 1) [a] := by
  subst hs; exact OwnI.of (l := [a]) hb (Blk.new w #[.int .i64 a] 3) (by simp [maxLen])
theorem OwnI.empty {w : World} {B b : Nat} (hb : B ≤ b) (hs : b = w.heap.size) : OwnI (w.alloc (.cells #[] 3)) B (.slice (some ⟨b, 0, none⟩) 0 0) [] := by
  subst hs; exact OwnI.of (l := []) hb (Blk.new w #[] 3) (by simp [maxLen])
theorem IntS.take {w : World} {a : Option Addr} {n cap : Nat} {l : List Int} (h : IntS w (.slice a n cap) l) {k : Nat} (hk : k ≤ l.length) : IntS w (.slice a k cap) (l.take k) := by
  obtain ⟨hl, a', cap', hv, h1, h2, h3⟩ := h.row
  cases hv
  refine ⟨⟨by simp [ints], a, cap, by rw [List.length_take]; congr 1; omega, by rw [List.length_take]; omega, h2, fun hp => ?_⟩⟩
  rw [ints_length, List.length_take] at hp
  obtain ⟨b, off, ha, hc⟩ := h3 (by rw [ints_length]; omega)
  refine ⟨b, off, ha, fun j u hj => hc j u ?_⟩
  rw [ints_get] at hj ⊢
  rw [List.getElem?_take] at hj
  split at hj
  · exact hj
  · simp at hj
theorem OwnI.oneq {w : World} {B b : Nat} {a c : Int} (hb : B ≤ b) (hs : b = w.heap.size) (e : c = a) : OwnI (w.alloc (.cells #[.int .i64 a] 3)) B (.slice (some ⟨b, 0, none⟩) 1 1) [c] := by
  subst hs; subst e; exact OwnI.of (l := [_]) hb (Blk.new w #[.int .i64 _] 3) (by simp [maxLen])
theorem horner_bound {p : Int} (a : Int) (hp : 1 ≤ p) : ∀ l : List Int, 0 ≤ horner p a l ∧ horner p a l < p
  | [] => ⟨Int.le_refl _, by rw [horner]; omega⟩
  | b :: t => mod_bound _ hp
set_option maxHeartbeats 1000000 in
set_option maxRecDepth 100000 in
theorem rawHom_2ay (fp fn tk tp tn ha : Int) (a : Int) (vx : Value) (w : World) (hp : 0 < a) (hvx : IntS w vx [a]) :
    Calls Try.prog 118 #[ringV 3 fp fn, ringV tk tp tn, homV 2 ha, vx] w fun e w' => ∃ v, e = .returned v ∧ OwnI w' w.heap.size v (homL 3 fp tk tp tn 2 ha [a]) ∧ Ext w w' := by
  have HH : Hid (homL 3 fp tk tp tn 2 ha [a] = boolL true) := Lib.hid (by simp [homL, cg, boolL, hp])
  obtain ⟨ax, capx, rfl, hc1, hc2⟩ := hvx.val
  obtain ⟨b2, off, y, rfl, hcell, hy0, _⟩ := hvx.get (i := 0) (by simp)
  simp at hy0
  subst hy0
  rw [Nat.add_zero] at hcell
  have hc3 : ∀ o1 o2 o3, (((w.alloc o1).alloc o2).alloc o3).cell? ⟨b2, off, none⟩ = some (.int .i64 a) := fun o1 o2 o3 => ((((Ext.refl w).alloc o1).alloc o2).alloc o3).cell hcell
  have hd1 : decide (0 < a) = true := by simpa using hp
  go_enter Try.func118, Try.ntmps118
  go_wp2_with (go_at_call 168; refine (bitElem_any _ _).mono ?_; rintro e1 w1 ⟨v1, rfl, o1, h1⟩)
  go_ret
  exact ⟨_, rfl, by rw [HH.out]; exact o1.mono (by first | (simp [World.setCell]; done) | (simp [World.setCell]; omega) | omega), (by repeat' (first | (with_reducible exact Ext.refl _) | (with_reducible assumption) | (with_reducible apply Ext.alloc) | (with_reducible apply Ext.drew) | (with_reducible apply Ext.drewN) | (refine Ext.setAt ?_ (by omega) _ _) | (refine Ext.trans ?_ (by assumption))))⟩
set_option maxHeartbeats 1000000 in
set_option maxRecDepth 100000 in
theorem rawHom_2an (fp fn tk tp tn ha : Int) (a : Int) (vx : Value) (w : World) (hp : a = 0) (hvx : IntS w vx [a]) :
    Calls Try.prog 118 #[ringV 3 fp fn, ringV tk tp tn, homV 2 ha, vx] w fun e w' => ∃ v, e = .returned v ∧ OwnI w' w.heap.size v (homL 3 fp tk tp tn 2 ha [a]) ∧ Ext w w' := by
  subst hp
  have HH : Hid (homL 3 fp tk tp tn 2 ha [0] = boolL false) := Lib.hid (by simp [homL, cg, boolL])
  obtain ⟨ax, capx, rfl, hc1, hc2⟩ := hvx.val
  obtain ⟨b2, off, y, rfl, hcell, hy0, _⟩ := hvx.get (i := 0) (by simp)
  simp at hy0
  subst hy0
  rw [Nat.add_zero] at hcell
  have hc3 : ∀ o1 o2 o3, (((w.alloc o1).alloc o2).alloc o3).cell? ⟨b2, off, none⟩ = some (.int .i64 0) := fun o1 o2 o3 => ((((Ext.refl w).alloc o1).alloc o2).alloc o3).cell hcell
  go_enter Try.func118, Try.ntmps118
  go_wp2_with (go_at_call 168; refine (bitElem_any _ _).mono ?_; rintro e1 w1 ⟨v1, rfl, o1, h1⟩)
  go_ret
  exact ⟨_, rfl, by rw [HH.out]; exact o1.mono (by first | (simp [World.setCell]; done) | (simp [World.setCell]; omega) | omega), (by repeat' (first | (with_reducible exact Ext.refl _) | (with_reducible assumption) | (with_reducible apply Ext.alloc) | (with_reducible apply Ext.drew) | (with_reducible apply Ext.drewN) | (refine Ext.setAt ?_ (by omega) _ _) | (refine Ext.trans ?_ (by assumption))))⟩
set_option maxHeartbeats 1000000 in
set_option maxRecDepth 100000 in
theorem rawHom_2by (fp fn tk tp tn ha : Int) (a : Int) (vx : Value) (w : World) (hp : 0 < a) (hvx : IntS w vx [a]) :
    Calls Try.prog 118 #[ringV 4 fp fn, ringV tk tp tn, homV 2 ha, vx] w fun e w' => ∃ v, e = .returned v ∧ OwnI w' w.heap.size v (homL 4 fp tk tp tn 2 ha [a]) ∧ Ext w w' := by
  have HH : Hid (homL 4 fp tk tp tn 2 ha [a] = boolL false) := Lib.hid (by simp [homL, cg, boolL]; omega)
  obtain ⟨ax, capx, rfl, hc1, hc2⟩ := hvx.val
  obtain ⟨b2, off, y, rfl, hcell, hy0, _⟩ := hvx.get (i := 0) (by simp)
  simp at hy0
  subst hy0
  rw [Nat.add_zero] at hcell
  have hc3 : ∀ o1 o2 o3, (((w.alloc o1).alloc o2).alloc o3).cell? ⟨b2, off, none⟩ = some (.int .i64 a) := fun o1 o2 o3 => ((((Ext.refl w).alloc o1).alloc o2).alloc o3).cell hcell
  have hd : (a == 0) = false := by rw [beq_eq_false_iff_ne]; omega
  have hd1 : decide (0 < a) = true := by simpa using hp
  go_enter Try.func118, Try.ntmps118
  go_wp2_with (go_at_call 168; refine (bitElem_any _ _).mono ?_; rintro e1 w1 ⟨v1, rfl, o1, h1⟩)
  go_ret
  exact ⟨_, rfl, by rw [HH.out]; exact o1.mono (by first | (simp [World.setCell]; done) | (simp [World.setCell]; omega) | omega), (by repeat' (first | (with_reducible exact Ext.refl _) | (with_reducible assumption) | (with_reducible apply Ext.alloc) | (with_reducible apply Ext.drew) | (with_reducible apply Ext.drewN) | (refine Ext.setAt ?_ (by omega) _ _) | (refine Ext.trans ?_ (by assumption))))⟩
set_option maxHeartbeats 1000000 in
set_option maxRecDepth 100000 in
theorem rawHom_2bn (fp fn tk tp tn ha : Int) (a : Int) (vx : Value) (w : World) (hp : a = 0) (hvx : IntS w vx [a]) :
    Calls Try.prog 118 #[ringV 4 fp fn, ringV tk tp tn, homV 2 ha, vx] w fun e w' => ∃ v, e = .returned v ∧ OwnI w' w.heap.size v (homL 4 fp tk tp tn 2 ha [a]) ∧ Ext w w' := by
  subst hp
  have HH : Hid (homL 4 fp tk tp tn 2 ha [0] = boolL true) := Lib.hid (by simp [homL, cg, boolL])
  obtain ⟨ax, capx, rfl, hc1, hc2⟩ := hvx.val
  obtain ⟨b2, off, y, rfl, hcell, hy0, _⟩ := hvx.get (i := 0) (by simp)
  simp at hy0
  subst hy0
  rw [Nat.add_zero] at hcell
  have hc3 : ∀ o1 o2 o3, (((w.alloc o1).alloc o2).alloc o3).cell? ⟨b2, off, none⟩ = some (.int .i64 0) := fun o1 o2 o3 => ((((Ext.refl w).alloc o1).alloc o2).alloc o3).cell hcell
  go_enter Try.func118, Try.ntmps118
  go_wp2_with (go_at_call 168; refine (bitElem_any _ _).mono ?_; rintro e1 w1 ⟨v1, rfl, o1, h1⟩)
  go_ret
  exact ⟨_, rfl, by rw [HH.out]; exact o1.mono (by first | (simp [World.setCell]; done) | (simp [World.setCell]; omega) | omega), (by repeat' (first | (with_reducible exact Ext.refl _) | (with_reducible assumption) | (with_reducible apply Ext.alloc) | (with_reducible apply Ext.drew) | (with_reducible apply Ext.drewN) | (refine Ext.setAt ?_ (by omega) _ _) | (refine Ext.trans ?_ (by assumption))))⟩
set_option maxHeartbeats 1000000 in
set_option maxRecDepth 100000 in
theorem rawHom_3 (fk fp fn tk tp tn ha : Int) (a : Int) (vx : Value) (w : World) (h0 : 0 ≤ ha) (h1 : ha ≤ 20) (ha0 : 0 ≤ a) (ha1 : a ≤ 1048576) (hvx : IntS w vx [a]) :
    Calls Try.prog 118 #[ringV fk fp fn, ringV tk tp tn, homV 3 ha, vx] w fun e w' => ∃ v, e = .returned v ∧ OwnI w' w.heap.size v (homL fk fp tk tp tn 3 ha [a]) ∧ Ext w w' := by
  obtain ⟨ax, capx, rfl, hc1, hc2⟩ := hvx.val
  obtain ⟨b2, off, y, rfl, hcell, hy0, _⟩ := hvx.get (i := 0) (by simp)
  simp at hy0
  subst hy0
  rw [Nat.add_zero] at hcell
  have hc3 : ∀ o1 o2 o3, (((w.alloc o1).alloc o2).alloc o3).cell? ⟨b2, off, none⟩ = some (.int .i64 a) := fun o1 o2 o3 => ((((Ext.refl w).alloc o1).alloc o2).alloc o3).cell hcell
  have HH : Hid (homL fk fp tk tp tn 3 ha [a] = boolL (bits BinOp.and IntKind.i64 (a / 2 ^ ha.toNat) 1 == 1)) := Lib.hid (by simp [homL, cg, bitOf])
  go_enter Try.func118, Try.ntmps118
  go_wp2_with fail
  generalize hW : ((w.alloc (.cells #[.int .i64 fk, .int .i64 fp, .int .i64 fn] 24)).alloc (.cells #[.int .i64 tk, .int .i64 tp, .int .i64 tn] 24)).alloc (.cells #[.int .i64 3, .int .i64 ha] 56) = W
  have E : Ext w W := by rw [← hW]; exact (by repeat' (first | (with_reducible exact Ext.refl _) | (with_reducible assumption) | (with_reducible apply Ext.alloc) | (with_reducible apply Ext.drew) | (with_reducible apply Ext.drewN) | (refine Ext.setAt ?_ (by omega) _ _) | (refine Ext.trans ?_ (by assumption))))
  have i0 : W.cell? ⟨b2, off, none⟩ = some (.int .i64 a) := E.cell hcell
  have i1 : W.cell? ⟨w.heap.size + 1 + 1, 1, none⟩ = some (.int .i64 ha) := by rw [← hW]; simp [go_sem]
  have HW := Lib.hid hW; clear hW hc3
  have sE := E.size
  go_region_held3 (fun w' => w'.cell? ⟨b2, off, none⟩ = some (.int .i64 a) ∧ w'.cell? ⟨w.heap.size + 1 + 1, 1, none⟩ = some (.int .i64 ha) ∧ Ext W w')
    (refine ⟨?_, ?_, ?_⟩ <;> first | assumption | (refine (Ext.alloc (Ext.refl _) _).cell ?_; assumption) | (simp [*]; done) | exact (by repeat' (first | (with_reducible exact Ext.refl _) | (with_reducible assumption) | (with_reducible apply Ext.alloc) | (with_reducible apply Ext.drew) | (with_reducible apply Ext.drewN) | (refine Ext.setAt ?_ (by omega) _ _) | (refine Ext.trans ?_ (by assumption)))))
    ((go_at_call 168; refine (bitElem_any _ _).mono ?_; rintro e1 w1 ⟨v1, rfl, o1, h1⟩; have E1 : Ext W w1 := (by repeat' (first | (with_reducible exact Ext.refl _) | (with_reducible assumption) | (with_reducible apply Ext.alloc) | (with_reducible apply Ext.drew) | (with_reducible apply Ext.drewN) | (refine Ext.setAt ?_ (by omega) _ _) | (refine Ext.trans ?_ (by assumption)))); have j0 := E1.cell i0; have j1 := E1.cell i1))
  go_wp2
  go_ret
  exact ⟨_, rfl, by rw [HH.out]; exact o1.mono sE, (by repeat' (first | (with_reducible exact Ext.refl _) | (with_reducible assumption) | (with_reducible apply Ext.alloc) | (with_reducible apply Ext.drew) | (with_reducible apply Ext.drewN) | (refine Ext.setAt ?_ (by omega) _ _) | (refine Ext.trans ?_ (by assumption))))⟩
set_option maxHeartbeats 1000000 in
set_option maxRecDepth 100000 in
theorem rawHom_4 (fk fp fn tk tp tn ha : Int) (a : Int) (vx : Value) (w : World)  (hvx : IntS w vx [a]) :
    Calls Try.prog 118 #[ringV fk fp fn, ringV tk tp tn, homV 4 ha, vx] w fun e w' => ∃ v, e = .returned v ∧ OwnI w' w.heap.size v (homL fk fp tk tp tn 4 ha [a]) ∧ Ext w w' := by
  obtain ⟨ax, capx, rfl, hc1, hc2⟩ := hvx.val
  obtain ⟨b2, off, y, rfl, hcell, hy0, _⟩ := hvx.get (i := 0) (by simp)
  simp at hy0
  subst hy0
  rw [Nat.add_zero] at hcell
  have hc3 : ∀ o1 o2 o3, (((w.alloc o1).alloc o2).alloc o3).cell? ⟨b2, off, none⟩ = some (.int .i64 a) := fun o1 o2 o3 => ((((Ext.refl w).alloc o1).alloc o2).alloc o3).cell hcell
  have HH : Hid (homL fk fp tk tp tn 4 ha [a] = boolL (decide (ha ≤ a))) := Lib.hid (by simp [homL, cg])
  go_enter Try.func118, Try.ntmps118
  go_wp2_with fail
  generalize hW : ((w.alloc (.cells #[.int .i64 fk, .int .i64 fp, .int .i64 fn] 24)).alloc (.cells #[.int .i64 tk, .int .i64 tp, .int .i64 tn] 24)).alloc (.cells #[.int .i64 4, .int .i64 ha] 56) = W
  have E : Ext w W := by rw [← hW]; exact (by repeat' (first | (with_reducible exact Ext.refl _) | (with_reducible assumption) | (with_reducible apply Ext.alloc) | (with_reducible apply Ext.drew) | (with_reducible apply Ext.drewN) | (refine Ext.setAt ?_ (by omega) _ _) | (refine Ext.trans ?_ (by assumption))))
  have i0 : W.cell? ⟨b2, off, none⟩ = some (.int .i64 a) := E.cell hcell
  have i1 : W.cell? ⟨w.heap.size + 1 + 1, 1, none⟩ = some (.int .i64 ha) := by rw [← hW]; simp [go_sem]
  have HW := Lib.hid hW; clear hW hc3
  have sE := E.size
  go_region_held3 (fun w' => w'.cell? ⟨b2, off, none⟩ = some (.int .i64 a) ∧ w'.cell? ⟨w.heap.size + 1 + 1, 1, none⟩ = some (.int .i64 ha) ∧ Ext W w')
    (refine ⟨?_, ?_, ?_⟩ <;> first | assumption | (refine (Ext.alloc (Ext.refl _) _).cell ?_; assumption) | (simp [*]; done) | exact (by repeat' (first | (with_reducible exact Ext.refl _) | (with_reducible assumption) | (with_reducible apply Ext.alloc) | (with_reducible apply Ext.drew) | (with_reducible apply Ext.drewN) | (refine Ext.setAt ?_ (by omega) _ _) | (refine Ext.trans ?_ (by assumption)))))
    ((go_at_call 168; refine (bitElem_any _ _).mono ?_; rintro e1 w1 ⟨v1, rfl, o1, h1⟩; have E1 : Ext W w1 := (by repeat' (first | (with_reducible exact Ext.refl _) | (with_reducible assumption) | (with_reducible apply Ext.alloc) | (with_reducible apply Ext.drew) | (with_reducible apply Ext.drewN) | (refine Ext.setAt ?_ (by omega) _ _) | (refine Ext.trans ?_ (by assumption)))); have j0 := E1.cell i0; have j1 := E1.cell i1))
  go_wp2
  go_ret
  exact ⟨_, rfl, by rw [HH.out]; exact o1.mono sE, (by repeat' (first | (with_reducible exact Ext.refl _) | (with_reducible assumption) | (with_reducible apply Ext.alloc) | (with_reducible apply Ext.drew) | (with_reducible apply Ext.drewN) | (refine Ext.setAt ?_ (by omega) _ _) | (refine Ext.trans ?_ (by assumption))))⟩
set_option maxHeartbeats 1000000 in
set_option maxRecDepth 100000 in
theorem rawHom_5 (fk fp fn tk tp tn ha : Int) (a : Int) (t : List Int) (vx : Value) (w : World)  (hvx : IntS w vx (a :: t)) :
    Calls Try.prog 118 #[ringV fk fp fn, ringV tk tp tn, homV 5 ha, vx] w fun e w' => ∃ v, e = .returned v ∧ OwnI w' w.heap.size v (homL fk fp tk tp tn 5 ha (a :: t)) ∧ Ext w w' := by
  obtain ⟨ax, capx, rfl, hc1, hc2⟩ := hvx.val
  obtain ⟨b2, off, y, rfl, hcell, hy0, _⟩ := hvx.get (i := 0) (by simp)
  simp at hy0
  subst hy0
  rw [Nat.add_zero] at hcell
  have hl : 0 < (a :: t).length := by simp
  have hc3 : ∀ o1 o2 o3, (((w.alloc o1).alloc o2).alloc o3).cell? ⟨b2, off, none⟩ = some (.int .i64 a) := fun o1 o2 o3 => ((((Ext.refl w).alloc o1).alloc o2).alloc o3).cell hcell
  have HH : Hid (homL fk fp tk tp tn 5 ha (a :: t) = [a]) := Lib.hid (by simp [homL, cg])
  go_enter Try.func118, Try.ntmps118
  go_wp2
  go_ret
  exact ⟨_, rfl, by rw [HH.out]; exact OwnI.one (by first | (simp [World.setCell]; done) | (simp [World.setCell]; omega) | omega) (by simp), (by repeat' (first | (with_reducible exact Ext.refl _) | (with_reducible assumption) | (with_reducible apply Ext.alloc) | (with_reducible apply Ext.drew) | (with_reducible apply Ext.drewN) | (refine Ext.setAt ?_ (by omega) _ _) | (refine Ext.trans ?_ (by assumption))))⟩
set_option maxHeartbeats 1000000 in
set_option maxRecDepth 100000 in
theorem rawHom_7b (fp fn tk tp tn ha : Int) (a : Int) (vx : Value) (w : World) (hf : RingFit tk tp tn) (hk : tk = 6) (ha0 : 0 ≤ a) (ha1 : a ≤ 1048576) (hvx : IntS w vx [a]) :
    Calls Try.prog 118 #[ringV 6 fp fn, ringV tk tp tn, homV 7 ha, vx] w fun e w' => ∃ v, e = .returned v ∧ OwnI w' w.heap.size v (homL 6 fp tk tp tn 7 ha [a]) ∧ Ext w w' := by
  obtain ⟨ax, capx, rfl, hc1, hc2⟩ := hvx.val
  obtain ⟨b2, off, y, rfl, hcell, hy0, _⟩ := hvx.get (i := 0) (by simp)
  simp at hy0
  subst hy0
  rw [Nat.add_zero] at hcell
  have hc3 : ∀ o1 o2 o3, (((w.alloc o1).alloc o2).alloc o3).cell? ⟨b2, off, none⟩ = some (.int .i64 a) := fun o1 o2 o3 => ((((Ext.refl w).alloc o1).alloc o2).alloc o3).cell hcell
  have HH : Hid (homL 6 fp tk tp tn 7 ha [a] = [bits BinOp.and IntKind.i64 a (2 ^ tn.toNat - 1)]) := Lib.hid (by simp [homL, cg])
  have ht : ringTop tk tp tn = 2 ^ tn.toNat - 1 := by simp [ringTop, hk]
  clear hk
  go_enter Try.func118, Try.ntmps118
  go_wp2_with fail
  generalize hW : ((w.alloc (.cells #[.int .i64 6, .int .i64 fp, .int .i64 fn] 24)).alloc (.cells #[.int .i64 tk, .int .i64 tp, .int .i64 tn] 24)).alloc (.cells #[.int .i64 7, .int .i64 ha] 56) = W
  have E : Ext w W := by rw [← hW]; exact (by repeat' (first | (with_reducible exact Ext.refl _) | (with_reducible assumption) | (with_reducible apply Ext.alloc) | (with_reducible apply Ext.drew) | (with_reducible apply Ext.drewN) | (refine Ext.setAt ?_ (by omega) _ _) | (refine Ext.trans ?_ (by assumption))))
  have i0 : W.cell? ⟨b2, off, none⟩ = some (.int .i64 a) := E.cell hcell
  have i1 : W.cell? ⟨w.heap.size + 1, 0, none⟩ = some (.int .i64 tk) := by rw [← hW]; simp [go_sem]
  have i2 : W.cell? ⟨w.heap.size + 1, 1, none⟩ = some (.int .i64 tp) := by rw [← hW]; simp [go_sem]
  have i3 : W.cell? ⟨w.heap.size + 1, 2, none⟩ = some (.int .i64 tn) := by rw [← hW]; simp [go_sem]
  have HW := Lib.hid hW; clear hW hc3
  have sE := E.size
  go_region_held3 (fun w' => w'.cell? ⟨b2, off, none⟩ = some (.int .i64 a) ∧ w'.cell? ⟨w.heap.size + 1, 0, none⟩ = some (.int .i64 tk) ∧ w'.cell? ⟨w.heap.size + 1, 1, none⟩ = some (.int .i64 tp) ∧ w'.cell? ⟨w.heap.size + 1, 2, none⟩ = some (.int .i64 tn) ∧ Ext W w')
    (refine ⟨?_, ?_, ?_, ?_, ?_⟩ <;> first | assumption | (refine (Ext.alloc (Ext.refl _) _).cell ?_; assumption) | (simp [*]; done) | exact (by repeat' (first | (with_reducible exact Ext.refl _) | (with_reducible assumption) | (with_reducible apply Ext.alloc) | (with_reducible apply Ext.drew) | (with_reducible apply Ext.drewN) | (refine Ext.setAt ?_ (by omega) _ _) | (refine Ext.trans ?_ (by assumption)))))
    ((go_at_call 165; refine (rawTop_any _ _ _ hf _).mono ?_; rintro e1 w1 ⟨rfl, h1⟩; rw [ht]; have E1 : Ext W w1 := (by repeat' (first | (with_reducible exact Ext.refl _) | (with_reducible assumption) | (with_reducible apply Ext.alloc) | (with_reducible apply Ext.drew) | (with_reducible apply Ext.drewN) | (refine Ext.setAt ?_ (by omega) _ _) | (refine Ext.trans ?_ (by assumption)))); have j0 := E1.cell i0; have j1 := E1.cell i1; have j2 := E1.cell i2; have j3 := E1.cell i3))
  go_wp2
  go_ret
  exact ⟨_, rfl, by rw [HH.out]; exact OwnI.one (by have := E1.size; omega) (by simp), (by repeat' (first | (with_reducible exact Ext.refl _) | (with_reducible assumption) | (with_reducible apply Ext.alloc) | (with_reducible apply Ext.drew) | (with_reducible apply Ext.drewN) | (refine Ext.setAt ?_ (by omega) _ _) | (refine Ext.trans ?_ (by assumption))))⟩
set_option maxHeartbeats 1000000 in
set_option maxRecDepth 100000 in
theorem rawHom_7c3 (fp fn tk tp tn ha : Int) (a : Int) (vx : Value) (w : World)  (hvx : IntS w vx [a]) :
    Calls Try.prog 118 #[ringV 3 fp fn, ringV tk tp tn, homV 7 ha, vx] w fun e w' => ∃ v, e = .returned v ∧ OwnI w' w.heap.size v (homL 3 fp tk tp tn 7 ha [a]) ∧ Ext w w' := by
  obtain ⟨ax, capx, rfl, hc1, hc2⟩ := hvx.val
  obtain ⟨b2, off, y, rfl, hcell, hy0, _⟩ := hvx.get (i := 0) (by simp)
  simp at hy0
  subst hy0
  rw [Nat.add_zero] at hcell
  have hc3 : ∀ o1 o2 o3, (((w.alloc o1).alloc o2).alloc o3).cell? ⟨b2, off, none⟩ = some (.int .i64 a) := fun o1 o2 o3 => ((((Ext.refl w).alloc o1).alloc o2).alloc o3).cell hcell
  have HH : Hid (homL 3 fp tk tp tn 7 ha [a] = [min a tp]) := Lib.hid (by simp [homL, cg])
  go_enter Try.func118, Try.ntmps118
  go_wp2_with fail
  generalize hW : ((w.alloc (.cells #[.int .i64 3, .int .i64 fp, .int .i64 fn] 24)).alloc (.cells #[.int .i64 tk, .int .i64 tp, .int .i64 tn] 24)).alloc (.cells #[.int .i64 7, .int .i64 ha] 56) = W
  have E : Ext w W := by rw [← hW]; exact (by repeat' (first | (with_reducible exact Ext.refl _) | (with_reducible assumption) | (with_reducible apply Ext.alloc) | (with_reducible apply Ext.drew) | (with_reducible apply Ext.drewN) | (refine Ext.setAt ?_ (by omega) _ _) | (refine Ext.trans ?_ (by assumption))))
  have i0 : W.cell? ⟨b2, off, none⟩ = some (.int .i64 a) := E.cell hcell
  have i1 : W.cell? ⟨w.heap.size + 1, 1, none⟩ = some (.int .i64 tp) := by rw [← hW]; simp [go_sem]
  have HW := Lib.hid hW; clear hW hc3
  have sE := E.size
  go_region_held3 (fun w' => w'.cell? ⟨b2, off, none⟩ = some (.int .i64 a) ∧ w'.cell? ⟨w.heap.size + 1, 1, none⟩ = some (.int .i64 tp) ∧ Ext W w')
    (refine ⟨?_, ?_, ?_⟩ <;> first | assumption | (refine (Ext.alloc (Ext.refl _) _).cell ?_; assumption) | (simp [*]; done) | exact (by repeat' (first | (with_reducible exact Ext.refl _) | (with_reducible assumption) | (with_reducible apply Ext.alloc) | (with_reducible apply Ext.drew) | (with_reducible apply Ext.drewN) | (refine Ext.setAt ?_ (by omega) _ _) | (refine Ext.trans ?_ (by assumption)))))
    (fail)
  go_wp2
  all_goals
    go_ret
    exact ⟨_, rfl, by rw [HH.out]; exact OwnI.ext (OwnI.oneq (w := W) (b := W.heap.size) sE rfl (by omega)) ((Ext.refl _).drew), (by repeat' (first | (with_reducible exact Ext.refl _) | (with_reducible assumption) | (with_reducible apply Ext.alloc) | (with_reducible apply Ext.drew) | (with_reducible apply Ext.drewN) | (refine Ext.setAt ?_ (by omega) _ _) | (refine Ext.trans ?_ (by assumption))))⟩
set_option maxHeartbeats 1000000 in
set_option maxRecDepth 100000 in
theorem rawHom_7c4 (fp fn tk tp tn ha : Int) (a : Int) (vx : Value) (w : World)  (hvx : IntS w vx [a]) :
    Calls Try.prog 118 #[ringV 4 fp fn, ringV tk tp tn, homV 7 ha, vx] w fun e w' => ∃ v, e = .returned v ∧ OwnI w' w.heap.size v (homL 4 fp tk tp tn 7 ha [a]) ∧ Ext w w' := by
  obtain ⟨ax, capx, rfl, hc1, hc2⟩ := hvx.val
  obtain ⟨b2, off, y, rfl, hcell, hy0, _⟩ := hvx.get (i := 0) (by simp)
  simp at hy0
  subst hy0
  rw [Nat.add_zero] at hcell
  have hc3 : ∀ o1 o2 o3, (((w.alloc o1).alloc o2).alloc o3).cell? ⟨b2, off, none⟩ = some (.int .i64 a) := fun o1 o2 o3 => ((((Ext.refl w).alloc o1).alloc o2).alloc o3).cell hcell
  have HH : Hid (homL 4 fp tk tp tn 7 ha [a] = [min a tp]) := Lib.hid (by simp [homL, cg])
  go_enter Try.func118, Try.ntmps118
  go_wp2_with fail
  generalize hW : ((w.alloc (.cells #[.int .i64 4, .int .i64 fp, .int .i64 fn] 24)).alloc (.cells #[.int .i64 tk, .int .i64 tp, .int .i64 tn] 24)).alloc (.cells #[.int .i64 7, .int .i64 ha] 56) = W
  have E : Ext w W := by rw [← hW]; exact (by repeat' (first | (with_reducible exact Ext.refl _) | (with_reducible assumption) | (with_reducible apply Ext.alloc) | (with_reducible apply Ext.drew) | (with_reducible apply Ext.drewN) | (refine Ext.setAt ?_ (by omega) _ _) | (refine Ext.trans ?_ (by assumption))))
  have i0 : W.cell? ⟨b2, off, none⟩ = some (.int .i64 a) := E.cell hcell
  have i1 : W.cell? ⟨w.heap.size + 1, 1, none⟩ = some (.int .i64 tp) := by rw [← hW]; simp [go_sem]
  have HW := Lib.hid hW; clear hW hc3
  have sE := E.size
  go_region_held3 (fun w' => w'.cell? ⟨b2, off, none⟩ = some (.int .i64 a) ∧ w'.cell? ⟨w.heap.size + 1, 1, none⟩ = some (.int .i64 tp) ∧ Ext W w')
    (refine ⟨?_, ?_, ?_⟩ <;> first | assumption | (refine (Ext.alloc (Ext.refl _) _).cell ?_; assumption) | (simp [*]; done) | exact (by repeat' (first | (with_reducible exact Ext.refl _) | (with_reducible assumption) | (with_reducible apply Ext.alloc) | (with_reducible apply Ext.drew) | (with_reducible apply Ext.drewN) | (refine Ext.setAt ?_ (by omega) _ _) | (refine Ext.trans ?_ (by assumption)))))
    (fail)
  go_wp2
  all_goals
    go_ret
    exact ⟨_, rfl, by rw [HH.out]; exact OwnI.ext (OwnI.oneq (w := W) (b := W.heap.size) sE rfl (by omega)) ((Ext.refl _).drew), (by repeat' (first | (with_reducible exact Ext.refl _) | (with_reducible assumption) | (with_reducible apply Ext.alloc) | (with_reducible apply Ext.drew) | (with_reducible apply Ext.drewN) | (refine Ext.setAt ?_ (by omega) _ _) | (refine Ext.trans ?_ (by assumption))))⟩
set_option maxHeartbeats 1000000 in
set_option maxRecDepth 100000 in
theorem rawHom_7c5 (fp fn tk tp tn ha : Int) (a : Int) (vx : Value) (w : World)  (hvx : IntS w vx [a]) :
    Calls Try.prog 118 #[ringV 5 fp fn, ringV tk tp tn, homV 7 ha, vx] w fun e w' => ∃ v, e = .returned v ∧ OwnI w' w.heap.size v (homL 5 fp tk tp tn 7 ha [a]) ∧ Ext w w' := by
  obtain ⟨ax, capx, rfl, hc1, hc2⟩ := hvx.val
  obtain ⟨b2, off, y, rfl, hcell, hy0, _⟩ := hvx.get (i := 0) (by simp)
  simp at hy0
  subst hy0
  rw [Nat.add_zero] at hcell
  have hc3 : ∀ o1 o2 o3, (((w.alloc o1).alloc o2).alloc o3).cell? ⟨b2, off, none⟩ = some (.int .i64 a) := fun o1 o2 o3 => ((((Ext.refl w).alloc o1).alloc o2).alloc o3).cell hcell
  have HH : Hid (homL 5 fp tk tp tn 7 ha [a] = [min a tp]) := Lib.hid (by simp [homL, cg])
  go_enter Try.func118, Try.ntmps118
  go_wp2_with fail
  generalize hW : ((w.alloc (.cells #[.int .i64 5, .int .i64 fp, .int .i64 fn] 24)).alloc (.cells #[.int .i64 tk, .int .i64 tp, .int .i64 tn] 24)).alloc (.cells #[.int .i64 7, .int .i64 ha] 56) = W
  have E : Ext w W := by rw [← hW]; exact (by repeat' (first | (with_reducible exact Ext.refl _) | (with_reducible assumption) | (with_reducible apply Ext.alloc) | (with_reducible apply Ext.drew) | (with_reducible apply Ext.drewN) | (refine Ext.setAt ?_ (by omega) _ _) | (refine Ext.trans ?_ (by assumption))))
  have i0 : W.cell? ⟨b2, off, none⟩ = some (.int .i64 a) := E.cell hcell
  have i1 : W.cell? ⟨w.heap.size + 1, 1, none⟩ = some (.int .i64 tp) := by rw [← hW]; simp [go_sem]
  have HW := Lib.hid hW; clear hW hc3
  have sE := E.size
  go_region_held3 (fun w' => w'.cell? ⟨b2, off, none⟩ = some (.int .i64 a) ∧ w'.cell? ⟨w.heap.size + 1, 1, none⟩ = some (.int .i64 tp) ∧ Ext W w')
    (refine ⟨?_, ?_, ?_⟩ <;> first | assumption | (refine (Ext.alloc (Ext.refl _) _).cell ?_; assumption) | (simp [*]; done) | exact (by repeat' (first | (with_reducible exact Ext.refl _) | (with_reducible assumption) | (with_reducible apply Ext.alloc) | (with_reducible apply Ext.drew) | (with_reducible apply Ext.drewN) | (refine Ext.setAt ?_ (by omega) _ _) | (refine Ext.trans ?_ (by assumption)))))
    (fail)
  go_wp2
  all_goals
    go_ret
    exact ⟨_, rfl, by rw [HH.out]; exact OwnI.ext (OwnI.oneq (w := W) (b := W.heap.size) sE rfl (by omega)) ((Ext.refl _).drew), (by repeat' (first | (with_reducible exact Ext.refl _) | (with_reducible assumption) | (with_reducible apply Ext.alloc) | (with_reducible apply Ext.drew) | (with_reducible apply Ext.drewN) | (refine Ext.setAt ?_ (by omega) _ _) | (refine Ext.trans ?_ (by assumption))))⟩
set_option maxHeartbeats 1000000 in
set_option maxRecDepth 100000 in
theorem rawHom_8y (fk fp fn tk tp tn ha : Int) (a : Int) (vx : Value) (w : World) (hw : RingWide tk tn) (hf : RingFit tk tp tn) (hp : a = 1) (hvx : IntS w vx [a]) :
    Calls Try.prog 118 #[ringV fk fp fn, ringV tk tp tn, homV 8 ha, vx] w fun e w' => ∃ v, e = .returned v ∧ OwnI w' w.heap.size v (homL fk fp tk tp tn 8 ha [a]) ∧ Ext w w' := by
  subst hp
  obtain ⟨ax, capx, rfl, hc1, hc2⟩ := hvx.val
  obtain ⟨b2, off, y, rfl, hcell, hy0, _⟩ := hvx.get (i := 0) (by simp)
  simp at hy0
  subst hy0
  rw [Nat.add_zero] at hcell
  have hc3 : ∀ o1 o2 o3, (((w.alloc o1).alloc o2).alloc o3).cell? ⟨b2, off, none⟩ = some (.int .i64 1) := fun o1 o2 o3 => ((((Ext.refl w).alloc o1).alloc o2).alloc o3).cell hcell
  have HH : Hid (homL fk fp tk tp tn 8 ha [1] = oneL tk tp tn) := Lib.hid (by simp [homL, cg])
  go_enter Try.func118, Try.ntmps118
  go_wp2_with fail
  refine (rawOne_any _ _ _ hw hf _).mono ?_; rintro e1 w1 ⟨v1, rfl, o1, h1⟩
  go_wp2
  go_ret
  exact ⟨_, rfl, by rw [HH.out]; exact o1.mono (by first | (simp [World.setCell]; done) | (simp [World.setCell]; omega) | omega), (by repeat' (first | (with_reducible exact Ext.refl _) | (with_reducible assumption) | (with_reducible apply Ext.alloc) | (with_reducible apply Ext.drew) | (with_reducible apply Ext.drewN) | (refine Ext.setAt ?_ (by omega) _ _) | (refine Ext.trans ?_ (by assumption))))⟩
set_option maxHeartbeats 1000000 in
set_option maxRecDepth 100000 in
theorem rawHom_8n (fk fp fn tk tp tn ha : Int) (a : Int) (vx : Value) (w : World) (hw : RingWide tk tn) (hf : RingFit tk tp tn) (hp : ¬ a = 1) (hvx : IntS w vx [a]) :
    Calls Try.prog 118 #[ringV fk fp fn, ringV tk tp tn, homV 8 ha, vx] w fun e w' => ∃ v, e = .returned v ∧ OwnI w' w.heap.size v (homL fk fp tk tp tn 8 ha [a]) ∧ Ext w w' := by
  obtain ⟨ax, capx, rfl, hc1, hc2⟩ := hvx.val
  obtain ⟨b2, off, y, rfl, hcell, hy0, _⟩ := hvx.get (i := 0) (by simp)
  simp at hy0
  subst hy0
  rw [Nat.add_zero] at hcell
  have hc3 : ∀ o1 o2 o3, (((w.alloc o1).alloc o2).alloc o3).cell? ⟨b2, off, none⟩ = some (.int .i64 a) := fun o1 o2 o3 => ((((Ext.refl w).alloc o1).alloc o2).alloc o3).cell hcell
  have hd : (a == 1) = false := by rw [beq_eq_false_iff_ne]; exact hp
  have HH : Hid (homL fk fp tk tp tn 8 ha [a] = zeroL tk tp tn) := Lib.hid (by simp [homL, cg, hp])
  go_enter Try.func118, Try.ntmps118
  go_wp2_with fail
  refine (rawZero_any _ _ _ hw _).mono ?_; rintro e1 w1 ⟨v1, rfl, o1, h1⟩
  go_wp2
  go_ret
  exact ⟨_, rfl, by rw [HH.out]; exact o1.mono (by first | (simp [World.setCell]; done) | (simp [World.setCell]; omega) | omega), (by repeat' (first | (with_reducible exact Ext.refl _) | (with_reducible assumption) | (with_reducible apply Ext.alloc) | (with_reducible apply Ext.drew) | (with_reducible apply Ext.drewN) | (refine Ext.setAt ?_ (by omega) _ _) | (refine Ext.trans ?_ (by assumption))))⟩
set_option maxHeartbeats 1000000 in
set_option maxRecDepth 100000 in
theorem rawHom_1 (fk fp fn tk tp tn ha : Int) (t : List Int) (vx : Value) (w : World) (hl : t.length ≤ 6) (hvx : IntS w vx t) :
    Calls Try.prog 118 #[ringV fk fp fn, ringV tk tp tn, homV 1 ha, vx] w fun e w' => ∃ v, e = .returned v ∧ OwnI w' w.heap.size v (homL fk fp tk tp tn 1 ha t) ∧ Ext w w' := by
  obtain ⟨ax, capx, rfl, hc1, hc2⟩ := hvx.val
  have HH : Hid (homL fk fp tk tp tn 1 ha t = t) := Lib.hid (by simp [homL])
  go_enter Try.func118, Try.ntmps118
  go_wp2_with fail
  refine (copyInts_any _ t _ (hvx.ext (by repeat' (first | (with_reducible exact Ext.refl _) | (with_reducible assumption) | (with_reducible apply Ext.alloc) | (with_reducible apply Ext.drew) | (with_reducible apply Ext.drewN) | (refine Ext.setAt ?_ (by omega) _ _) | (refine Ext.trans ?_ (by assumption))))) (by omega)).mono ?_; rintro e1 w1 ⟨v1, rfl, o1, h1⟩
  go_wp2
  go_ret
  exact ⟨_, rfl, by rw [HH.out]; exact o1.mono (by first | (simp [World.setCell]; done) | (simp [World.setCell]; omega) | omega), (by repeat' (first | (with_reducible exact Ext.refl _) | (with_reducible assumption) | (with_reducible apply Ext.alloc) | (with_reducible apply Ext.drew) | (with_reducible apply Ext.drewN) | (refine Ext.setAt ?_ (by omega) _ _) | (refine Ext.trans ?_ (by assumption))))⟩
set_option maxHeartbeats 1000000 in
set_option maxRecDepth 100000 in
theorem rawHom_7a (fp fn tk tp tn ha : Int) (t : List Int) (vx : Value) (w : World) (hn : 1 ≤ tn ∧ tn ≤ t.length) (hl : t.length ≤ 6) (hvx : IntS w vx t) :
    Calls Try.prog 118 #[ringV 7 fp fn, ringV tk tp tn, homV 7 ha, vx] w fun e w' => ∃ v, e = .returned v ∧ OwnI w' w.heap.size v (homL 7 fp tk tp tn 7 ha t) ∧ Ext w w' := by
  obtain ⟨ax, capx, rfl, hc1, hc2⟩ := hvx.val
  obtain ⟨m, rfl⟩ : ∃ m : Nat, tn = (m : Int) := ⟨tn.toNat, by omega⟩
  have htk := hvx.take (k := m) (by omega)
  have HH : Hid (homL 7 fp tk tp m 7 ha t = t.take m) := Lib.hid (by simp [homL])
  have hml : m ≤ t.length := by omega
  have hm6 : m ≤ 6 := by omega
  have hmc : m ≤ capx := by omega
  go_enter Try.func118, Try.ntmps118
  go_wp2_with fail
  refine (copyInts_any _ (t.take m) _ (htk.ext (by repeat' (first | (with_reducible exact Ext.refl _) | (with_reducible assumption) | (with_reducible apply Ext.alloc) | (with_reducible apply Ext.drew) | (with_reducible apply Ext.drewN) | (refine Ext.setAt ?_ (by omega) _ _) | (refine Ext.trans ?_ (by assumption))))) (by rw [List.length_take]; omega)).mono ?_; rintro e1 w1 ⟨v1, rfl, o1, h1⟩
  go_wp2
  go_ret
  exact ⟨_, rfl, by rw [HH.out]; exact o1.mono (by first | (simp [World.setCell]; done) | (simp [World.setCell]; omega) | omega), (by repeat' (first | (with_reducible exact Ext.refl _) | (with_reducible assumption) | (with_reducible apply Ext.alloc) | (with_reducible apply Ext.drew) | (with_reducible apply Ext.drewN) | (refine Ext.setAt ?_ (by omega) _ _) | (refine Ext.trans ?_ (by assumption))))⟩
set_option maxHeartbeats 1000000 in
set_option maxRecDepth 100000 in
theorem rawHom_6 (fk fp fn tk tp tn ha : Int) (t : List Int) (vx : Value) (w : World) (h1 : 1 ≤ ha) (h2 : ha ≤ fp - 1) (hp : fp ≤ 1000003) (hl : t.length = 4) (hb : ∀ v ∈ t, 0 ≤ v ∧ v < fp) (hvx : IntS w vx t) :
    Calls Try.prog 118 #[ringV fk fp fn, ringV tk tp tn, homV 6 ha, vx] w fun e w' => ∃ v, e = .returned v ∧ OwnI w' w.heap.size v (homL fk fp tk tp tn 6 ha t) ∧ Ext w w' := by
  obtain ⟨ax, capx, rfl, hc1, hc2⟩ := hvx.val
  have HH : Hid (homL fk fp tk tp tn 6 ha t = [horner fp ha t]) := Lib.hid (by simp [homL])
  have HB := Lib.hid hb; clear hb
  have HL := Lib.hid hl
  have hcap : 4 ≤ capx := by omega
  rw [hl]
  clear hl
  go_enter Try.func118, Try.ntmps118
  go_wp2
  go_loopw [9, 10] (fun v i wr => ∃ (j : Nat) (z : Int), j ≤ 4 ∧ z = (j : Int) - 1 ∧ i = .int .i64 z ∧ v = .int .i64 (horner fp ha (t.drop j)) ∧ Ext w wr ∧
      wr.cell? ⟨w.heap.size, 1, none⟩ = some (.int .i64 fp) ∧ wr.cell? ⟨w.heap.size + 1 + 1, 1, none⟩ = some (.int .i64 ha)) (fun _ i _ => (RowKit.intOf i + 1).toNat)
  case atStart => exact ⟨4, 3, by omega, by omega, rfl, by rw [List.drop_of_length_le (by rw [HL.out]; omega)]; rfl, (by repeat' (first | (with_reducible exact Ext.refl _) | (with_reducible assumption) | (with_reducible apply Ext.alloc) | (with_reducible apply Ext.drew) | (with_reducible apply Ext.drewN) | (refine Ext.setAt ?_ (by omega) _ _) | (refine Ext.trans ?_ (by assumption)))), by simp [go_sem], by simp [go_sem]⟩
  case round =>
    obtain ⟨j, z, hj, hz, rfl, rfl, hE, q1, q2⟩ := hrel
    by_cases hlt : 0 < j
    · obtain ⟨m, rfl⟩ : ∃ m, j = m + 1 := ⟨j - 1, by omega⟩
      obtain rfl : z = (m : Int) := by omega
      obtain ⟨b, off, y, rfl, hcell, hy, hd⟩ := (hvx.ext hE).get (i := m) (by rw [HL.out]; omega)
      have hho : horner fp ha (t.drop m) = (horner fp ha (t.drop (m + 1)) * ha + y) % fp := by rw [hd]; rfl
      obtain ⟨y0, y1⟩ := HB.out y (List.mem_of_getElem? hy)
      have hhb := horner_bound ha (show 1 ≤ fp by omega) (t.drop (m + 1))
      obtain ⟨g0, g1⟩ := hhb
      generalize horner fp ha (t.drop (m + 1)) = g at *
      obtain ⟨p0, p1⟩ := mul_bound g0 g1 (show 0 ≤ ha by omega) (show ha < fp by omega) hp
      have HO := Lib.hid hho; clear hho hd hy hz
      have l1 := World.block_lt_of_cell? wr _ hcell
      have l2 := World.block_lt_of_cell? wr _ q1
      have l3 := World.block_lt_of_cell? wr _ q2
      go_wp2
      go_region
      go_wp2
      go_roundw
      case rel => exact ⟨m, _, by omega, rfl, rfl, by rw [HO.out], (by repeat' (first | (with_reducible exact Ext.refl _) | (with_reducible assumption) | (with_reducible apply Ext.alloc) | (with_reducible apply Ext.drew) | (with_reducible apply Ext.drewN) | (refine Ext.setAt ?_ (by omega) _ _) | (refine Ext.trans ?_ (by assumption)))), by go_simp, by go_simp⟩
      case measure => first | (simp [RowKit.intOf]; done) | (simp [RowKit.intOf]; omega)
    · obtain rfl : j = 0 := by omega
      obtain rfl : z = -1 := by omega
      clear hz
      go_wp2
      go_ret
      exact ⟨_, rfl, by rw [HH.out]; exact OwnI.oneq hE.size rfl (by simp), (by repeat' (first | (with_reducible exact Ext.refl _) | (with_reducible assumption) | (with_reducible apply Ext.alloc) | (with_reducible apply Ext.drew) | (with_reducible apply Ext.drewN) | (refine Ext.setAt ?_ (by omega) _ _) | (refine Ext.trans ?_ (by assumption))))⟩
end Go.Proofs.Ytpegckmagiaggaa
