/- Tensors as values; the laws' helpers eqTensor, markTensor, heldTensor. -/
import Derived.Test.YtlmidcclcnehnaaApp
import Derived.Test.YtlmidcclcnehnaaTurn
import Derived.Test.YtlmidcclcnehnaaBoxes
namespace Go.Proofs.Ytlmidcclcnehnaa
open Go.RowKit
set_option linter.unusedSimpArgs false
set_option linter.unusedVariables false

/-- v is a tensor whose labels, dimensions and data read as L, D, X. -/
structure TenS (w : World) (v : Value) (L D X : List Int) : Prop where
  val : ∃ a b c, v = .agg #[a, b, c] ∧ IntS w a L ∧ IntS w b D ∧ IntS w c X
theorem TenS.ext {w w' : World} {v : Value} {L D X : List Int} (h : TenS w v L D X) (e : Ext w w') : TenS w' v L D X := by
  obtain ⟨a, b, c, rfl, h1, h2, h3⟩ := h.val
  exact ⟨a, b, c, rfl, h1.ext e, h2.ext e, h3.ext e⟩
/-- v is a tensor of the call's own, whose rows lie apart. -/
structure OwnT (w : World) (B : Nat) (v : Value) (L D X : List Int) : Prop where
  val : ∃ a b c, v = .agg #[a, b, c] ∧ OwnI w B a L ∧ OwnI w B b D ∧ OwnI w B c X ∧ (∀ k, a.ownBlock = some k → b.ownBlock ≠ some k ∧ c.ownBlock ≠ some k) ∧ (∀ k, b.ownBlock = some k → c.ownBlock ≠ some k)
theorem OwnT.ext {w w' : World} {B : Nat} {v : Value} {L D X : List Int} (h : OwnT w B v L D X) (e : Ext w w') : OwnT w' B v L D X := by
  obtain ⟨a, b, c, rfl, h1, h2, h3, h4⟩ := h.val
  exact ⟨a, b, c, rfl, h1.ext e, h2.ext e, h3.ext e, h4⟩
theorem OwnT.mono {w : World} {B B' : Nat} {v : Value} {L D X : List Int} (h : OwnT w B v L D X) (e : B' ≤ B) : OwnT w B' v L D X := by
  obtain ⟨a, b, c, rfl, h1, h2, h3, h4⟩ := h.val
  exact ⟨a, b, c, rfl, h1.mono e, h2.mono e, h3.mono e, h4⟩
theorem OwnT.tens {w : World} {B : Nat} {v : Value} {L D X : List Int} (h : OwnT w B v L D X) : TenS w v L D X := by
  obtain ⟨a, b, c, rfl, h1, h2, h3, h4⟩ := h.val
  exact ⟨a, b, c, rfl, h1.ints, h2.ints, h3.ints⟩
theorem OwnT.turn {lo hi B : Nat} {w w' : World} {v : Value} {L D X : List Int} (h : OwnT w B v L D X) (t : Turn lo hi w w') (hd : hi ≤ B) : OwnT w' B v L D X := by
  obtain ⟨a, b, c, rfl, h1, h2, h3, h4⟩ := h.val
  exact ⟨a, b, c, rfl, h1.turn t (.inl hd), h2.turn t (.inl hd), h3.turn t (.inl hd), h4⟩
theorem OwnT.empty (w : World) (B : Nat) : OwnT w B (.agg #[.slice none 0 0, .slice none 0 0, .slice none 0 0]) [] [] [] :=
  ⟨_, _, _, rfl, OwnI.nil _ _, OwnI.nil _ _, OwnI.nil _ _, by simp [Value.ownBlock], by simp [Value.ownBlock]⟩
theorem OwnT.data {w : World} {B : Nat} {v : Value} {X : List Int} (h : OwnI w B v X) : OwnT w B (.agg #[.slice none 0 0, .slice none 0 0, v]) [] [] X :=
  ⟨_, _, _, rfl, OwnI.nil _ _, OwnI.nil _ _, h, by simp [Value.ownBlock], by simp [Value.ownBlock]⟩

theorem TenS.shape {w : World} {v : Value} {L D X : List Int} (h : TenS w v L D X) : ∃ p1 n1 c1 p2 n2 c2 p3 n3 c3, v = .agg #[.slice p1 n1 c1, .slice p2 n2 c2, .slice p3 n3 c3] := by
  obtain ⟨a, b, c, rfl, h1, h2, h3⟩ := h.val
  obtain ⟨x1, y1, rfl, _, _⟩ := h1.val
  obtain ⟨x2, y2, rfl, _, _⟩ := h2.val
  obtain ⟨x3, y3, rfl, _, _⟩ := h3.val
  exact ⟨_, _, _, _, _, _, _, _, _, rfl⟩
theorem OwnT.shape {w : World} {B : Nat} {v : Value} {L D X : List Int} (h : OwnT w B v L D X) : ∃ p1 n1 c1 p2 n2 c2 p3 n3 c3, v = .agg #[.slice p1 n1 c1, .slice p2 n2 c2, .slice p3 n3 c3] := h.tens.shape
theorem Turn.cells {lo hi : Nat} {w w' : World} (t : Turn lo hi w w') (b o : Nat) (h : b < w.heap.size) (h2 : b < lo ∨ hi ≤ b) : w'.cell? ⟨b, o, none⟩ = w.cell? ⟨b, o, none⟩ := by
  unfold World.cell?; rw [t.block b h h2]
theorem Turn.frozens {lo hi : Nat} {w w' : World} (t : Turn lo hi w w') (b o : Nat) (h : b < w.heap.size) (h2 : b < lo ∨ hi ≤ b) : w'.frozen? ⟨b, o, none⟩ = w.frozen? ⟨b, o, none⟩ := by
  unfold World.frozen?; rw [t.block b h h2]

theorem eqTensor_any (v u : Value) (L D X : List Int) (w : World) (hl : TenS w v L D X) (hm : TenS w u L D X) : Calls Try.prog 19 #[v, u] w fun e w' =>
    e = .returned (.bool true) ∧ Ext w w' := by
  obtain ⟨a, b, c, rfl, h1, h2, h3⟩ := hl.val
  obtain ⟨a', b', c', rfl, g1, g2, g3⟩ := hm.val
  obtain ⟨x1, y1, rfl, _, _⟩ := h1.val
  obtain ⟨x2, y2, rfl, _, _⟩ := h2.val
  obtain ⟨x3, y3, rfl, _, _⟩ := h3.val
  obtain ⟨z1, u1, rfl, _, _⟩ := g1.val
  obtain ⟨z2, u2, rfl, _, _⟩ := g2.val
  obtain ⟨z3, u3, rfl, _, _⟩ := g3.val
  have q1 : (L == L) = true := by simp
  have q2 : (D == D) = true := by simp
  have q3 : (X == X) = true := by simp
  go_enter Try.func19, Try.ntmps19
  go_wp2_with fail
  refine (eqIntS_any _ _ L L _ (h1.ext (by repeat' (first | (with_reducible exact Ext.refl _) | (with_reducible assumption) | (with_reducible apply Ext.alloc) | (with_reducible apply Ext.drew) | (with_reducible apply Ext.drewN) | (refine Ext.setAt ?_ (by omega) _ _) | (refine Ext.trans ?_ (by assumption))))) (g1.ext (by repeat' (first | (with_reducible exact Ext.refl _) | (with_reducible assumption) | (with_reducible apply Ext.alloc) | (with_reducible apply Ext.drew) | (with_reducible apply Ext.drewN) | (refine Ext.setAt ?_ (by omega) _ _) | (refine Ext.trans ?_ (by assumption)))))).mono ?_; rintro e1 w1 ⟨rfl, h1⟩; have s1 := h1.size; (try simp at s1); have t1_0 : w.heap.size < w1.heap.size := (by omega); have c1_0 := fun o => h1.cells (w.heap.size) o (by first | (simp; done) | (simp; omega) | omega); have t1_1 : w.heap.size + 1 < w1.heap.size := (by omega); have c1_1 := fun o => h1.cells (w.heap.size + 1) o (by first | (simp; done) | (simp; omega) | omega); go_wp2_with fail
  refine (eqIntS_any _ _ D D _ (h2.ext (by repeat' (first | (with_reducible exact Ext.refl _) | (with_reducible assumption) | (with_reducible apply Ext.alloc) | (with_reducible apply Ext.drew) | (with_reducible apply Ext.drewN) | (refine Ext.setAt ?_ (by omega) _ _) | (refine Ext.trans ?_ (by assumption))))) (g2.ext (by repeat' (first | (with_reducible exact Ext.refl _) | (with_reducible assumption) | (with_reducible apply Ext.alloc) | (with_reducible apply Ext.drew) | (with_reducible apply Ext.drewN) | (refine Ext.setAt ?_ (by omega) _ _) | (refine Ext.trans ?_ (by assumption)))))).mono ?_; rintro e2 w2 ⟨rfl, h2⟩; have s2 := h2.size; (try simp at s2); have t2_0 : w.heap.size < w2.heap.size := (by omega); have c2_0 := fun o => h2.cells (w.heap.size) o (by first | (simp; done) | (simp; omega) | omega); have t2_1 : w.heap.size + 1 < w2.heap.size := (by omega); have c2_1 := fun o => h2.cells (w.heap.size + 1) o (by first | (simp; done) | (simp; omega) | omega); go_wp2_with fail
  refine (eqIntS_any _ _ X X _ (h3.ext (by repeat' (first | (with_reducible exact Ext.refl _) | (with_reducible assumption) | (with_reducible apply Ext.alloc) | (with_reducible apply Ext.drew) | (with_reducible apply Ext.drewN) | (refine Ext.setAt ?_ (by omega) _ _) | (refine Ext.trans ?_ (by assumption))))) (g3.ext (by repeat' (first | (with_reducible exact Ext.refl _) | (with_reducible assumption) | (with_reducible apply Ext.alloc) | (with_reducible apply Ext.drew) | (with_reducible apply Ext.drewN) | (refine Ext.setAt ?_ (by omega) _ _) | (refine Ext.trans ?_ (by assumption)))))).mono ?_; rintro e3 w3 ⟨rfl, h3⟩; have s3 := h3.size; (try simp at s3); have t3_0 : w.heap.size < w3.heap.size := (by omega); have c3_0 := fun o => h3.cells (w.heap.size) o (by first | (simp; done) | (simp; omega) | omega); have t3_1 : w.heap.size + 1 < w3.heap.size := (by omega); have c3_1 := fun o => h3.cells (w.heap.size + 1) o (by first | (simp; done) | (simp; omega) | omega); go_wp2_with fail
  go_ret
  exact ⟨rfl, (by repeat' (first | (with_reducible exact Ext.refl _) | (with_reducible assumption) | (with_reducible apply Ext.alloc) | (with_reducible apply Ext.drew) | (with_reducible apply Ext.drewN) | (refine Ext.setAt ?_ (by omega) _ _) | (refine Ext.trans ?_ (by assumption))))⟩

set_option maxHeartbeats 1000000 in
theorem markTensor_any (B : Nat) (v : Value) (L D X : List Int) (k : Int) (w0 w : World) (hl0 : OwnT w0 B v L D X) (hl : OwnT w B v L D X) (hsz : w0.heap.size ≤ w.heap.size) (h0 : 0 ≤ k) (h1 : k + L.length + D.length + X.length ≤ 4611686018427387904) : Calls Try.prog 22 #[v, .int .i64 k] w fun e w' =>
    e = .returned (.int .i64 (k + L.length + D.length + X.length)) ∧ OwnT w' B v (marks k L.length) (marks (k + L.length) D.length) (marks (k + L.length + D.length) X.length) ∧ Turn B w0.heap.size w w' := by
  obtain ⟨a, b, c, rfl, g1, g2, g3, d1, d2⟩ := hl.val
  obtain ⟨a', b', c', hv, z1, z2, z3, _, _⟩ := hl0.val
  simp at hv
  obtain ⟨rfl, rfl, rfl⟩ := hv
  have D1 := Lib.hid d1; clear d1
  have D2 := Lib.hid d2; clear d2
  have b1 := fun x hx => z1.block_lt (k := x) hx
  have b2 := fun x hx => z2.block_lt (k := x) hx
  have b3 := fun x hx => z3.block_lt (k := x) hx
  have B1 := Lib.hid b1; clear b1
  have B2 := Lib.hid b2; clear b2
  have B3 := Lib.hid b3; clear b3
  obtain ⟨x1, y1, e1, _, _⟩ := g1.ints.val
  obtain ⟨x2, y2, e2, _, _⟩ := g2.ints.val
  obtain ⟨x3, y3, e3, _, _⟩ := g3.ints.val
  clear z1 z2 z3
  have f1 : OwnI (w.alloc (.cells #[a, b, c] 26)) B a L := g1.ext (by repeat' (first | (with_reducible exact Ext.refl _) | (with_reducible assumption) | (with_reducible apply Ext.alloc) | (with_reducible apply Ext.drew) | (with_reducible apply Ext.drewN) | (refine Ext.setAt ?_ (by omega) _ _) | (refine Ext.trans ?_ (by assumption))))
  have f2 : OwnI (w.alloc (.cells #[a, b, c] 26)) B b D := g2.ext (by repeat' (first | (with_reducible exact Ext.refl _) | (with_reducible assumption) | (with_reducible apply Ext.alloc) | (with_reducible apply Ext.drew) | (with_reducible apply Ext.drewN) | (refine Ext.setAt ?_ (by omega) _ _) | (refine Ext.trans ?_ (by assumption))))
  have f3 : OwnI (w.alloc (.cells #[a, b, c] 26)) B c X := g3.ext (by repeat' (first | (with_reducible exact Ext.refl _) | (with_reducible assumption) | (with_reducible apply Ext.alloc) | (with_reducible apply Ext.drew) | (with_reducible apply Ext.drewN) | (refine Ext.setAt ?_ (by omega) _ _) | (refine Ext.trans ?_ (by assumption))))
  clear g1 g2 g3
  subst e1 e2 e3
  go_enter Try.func22, Try.ntmps22
  go_wp2_with fail
  refine (markIntS_any B _ L k _ f1 h0 (by omega)).mono ?_; rintro e1 w1 ⟨rfl, o1, t1⟩
  have p2 := f2.only t1 (fun m hm e => (D1.out m e).1 hm)
  have p3 := f3.only t1 (fun m hm e => (D1.out m e).2 hm)
  have T1 : Turn B w0.heap.size w w1 := (Turn.ext (by repeat' (first | (with_reducible exact Ext.refl _) | (with_reducible assumption) | (with_reducible apply Ext.alloc) | (with_reducible apply Ext.drew) | (with_reducible apply Ext.drewN) | (refine Ext.setAt ?_ (by omega) _ _) | (refine Ext.trans ?_ (by assumption))))).trans (Turn.grown t1 B1.out)
  have s1 := T1.size
  have c1 : ∀ o, w1.cell? ⟨w.heap.size, o, none⟩ = (w.alloc (.cells #[.slice x1 L.length y1, .slice x2 D.length y2, .slice x3 X.length y3] 26)).cell? ⟨w.heap.size, o, none⟩ := fun o => by
    unfold World.cell?; rw [t1.block w.heap.size (by simp) (fun e => by have := B1.out _ e.symm; omega)]
  have u1 : w.heap.size < w1.heap.size := by have := t1.size; simp at this; omega
  go_wp2_with fail
  refine (markIntS_any B _ D (k + L.length) _ p2 (by omega) (by omega)).mono ?_; rintro e2 w2 ⟨rfl, o2, t2⟩
  have r1 := o1.only t2 (fun m hm e => (D1.out m hm).1 e)
  have r3 := p3.only t2 (fun m hm e => D2.out m e hm)
  have T2 : Turn B w0.heap.size w w2 := T1.trans (Turn.grown t2 B2.out)
  have c2 : ∀ o, w2.cell? ⟨w.heap.size, o, none⟩ = w1.cell? ⟨w.heap.size, o, none⟩ := fun o => by
    unfold World.cell?; rw [t2.block w.heap.size u1 (fun e => by have := B2.out _ e.symm; omega)]
  have u2 : w.heap.size < w2.heap.size := by have := t2.size; omega
  go_wp2_with fail
  refine (markIntS_any B _ X (k + L.length + D.length) _ r3 (by omega) (by omega)).mono ?_; rintro e3 w3 ⟨rfl, o3, t3⟩
  have q1 := r1.only t3 (fun m hm e => (D1.out m hm).2 e)
  have q2 := o2.only t3 (fun m hm e => D2.out m hm e)
  have T3 : Turn B w0.heap.size w w3 := T2.trans (Turn.grown t3 B3.out)
  go_wp2
  go_ret
  exact ⟨ret_int rfl, ⟨_, _, _, rfl, q1, q2, o3, D1.out, D2.out⟩, T3⟩

theorem heldTensor_any (v : Value) (n m l : Nat) (k : Int) (w : World) (hl : TenS w v (marks k n) (marks (k + n) m) (marks (k + n + m) l)) (h0 : 0 ≤ k) (h1 : k + n + m + l ≤ 4611686018427387904) : Calls Try.prog 23 #[v, .int .i64 k] w fun e w' =>
    e = .returned (.int .i64 (k + n + m + l)) ∧ Ext w w' := by
  obtain ⟨a, b, c, rfl, g1, g2, g3⟩ := hl.val
  obtain ⟨x1, y1, rfl, _, _⟩ := g1.val
  obtain ⟨x2, y2, rfl, _, _⟩ := g2.val
  obtain ⟨x3, y3, rfl, _, _⟩ := g3.val
  simp only [marks_length] at *
  go_enter Try.func23, Try.ntmps23
  go_wp2_with fail
  refine (heldIntS_any _ n k _ (g1.ext (by repeat' (first | (with_reducible exact Ext.refl _) | (with_reducible assumption) | (with_reducible apply Ext.alloc) | (with_reducible apply Ext.drew) | (with_reducible apply Ext.drewN) | (refine Ext.setAt ?_ (by omega) _ _) | (refine Ext.trans ?_ (by assumption))))) h0 (by omega)).mono ?_; rintro e1 w1 ⟨rfl, h1⟩; have s1 := h1.size; (try simp at s1); have t1_0 : w.heap.size < w1.heap.size := (by omega); have c1_0 := fun o => h1.cells (w.heap.size) o (by first | (simp; done) | (simp; omega) | omega); go_wp2_with fail
  refine (heldIntS_any _ m (k + n) _ (g2.ext (by repeat' (first | (with_reducible exact Ext.refl _) | (with_reducible assumption) | (with_reducible apply Ext.alloc) | (with_reducible apply Ext.drew) | (with_reducible apply Ext.drewN) | (refine Ext.setAt ?_ (by omega) _ _) | (refine Ext.trans ?_ (by assumption))))) (by omega) (by omega)).mono ?_; rintro e2 w2 ⟨rfl, h2⟩; have s2 := h2.size; (try simp at s2); have t2_0 : w.heap.size < w2.heap.size := (by omega); have c2_0 := fun o => h2.cells (w.heap.size) o (by first | (simp; done) | (simp; omega) | omega); go_wp2_with fail
  refine (heldIntS_any _ l (k + n + m) _ (g3.ext (by repeat' (first | (with_reducible exact Ext.refl _) | (with_reducible assumption) | (with_reducible apply Ext.alloc) | (with_reducible apply Ext.drew) | (with_reducible apply Ext.drewN) | (refine Ext.setAt ?_ (by omega) _ _) | (refine Ext.trans ?_ (by assumption))))) (by omega) (by omega)).mono ?_; rintro e3 w3 ⟨rfl, h3⟩; have s3 := h3.size; (try simp at s3); have t3_0 : w.heap.size < w3.heap.size := (by omega); have c3_0 := fun o => h3.cells (w.heap.size) o (by first | (simp; done) | (simp; omega) | omega); go_wp2_with fail
  go_ret
  exact ⟨ret_int rfl, (by repeat' (first | (with_reducible exact Ext.refl _) | (with_reducible assumption) | (with_reducible apply Ext.alloc) | (with_reducible apply Ext.drew) | (with_reducible apply Ext.drewN) | (refine Ext.setAt ?_ (by omega) _ _) | (refine Ext.trans ?_ (by assumption))))⟩
end Go.Proofs.Ytlmidcclcnehnaa
