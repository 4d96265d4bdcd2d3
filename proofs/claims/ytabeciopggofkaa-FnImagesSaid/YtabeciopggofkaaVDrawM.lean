/- MakeHom. -/
import Derived.Test.YtabeciopggofkaaVBase
import Derived.Test.YtabeciopggofkaaVDrawH
namespace Go.Proofs.Ytabeciopggofkaa
open Go.RowKit
set_option linter.unusedSimpArgs false
set_option linter.unusedVariables false

set_option maxRecDepth 100000 in
set_option maxHeartbeats 1000000 in
theorem makeHom_any (v : Value) (l : List Int) (c : Int) (w : World) (hl : Code w v l) (hn : 0 ≤ c ∧ c ≤ 1000000) : Calls Try.prog 11 #[v, .int .i64 c] w fun e w' =>
    ∃ fk fp fn tk tp tn hk ha, e = .returned (.tuple #[ringV fk fp fn, ringV tk tp tn, homV hk ha]) ∧ (Drawn fk fp fn ∧ homOk fk fp fn tk tp tn hk ha = true) ∧ Ext w w' := by
  obtain ⟨a, cap, rfl, hc1, hc2⟩ := hl.bytes.val
  obtain ⟨W0, hW0⟩ : ∃ W0, ((w.alloc (.cells #[.int .i64 0, .int .i64 0, .int .i64 0] 24)).alloc (.cells #[.int .i64 0, .int .i64 0, .int .i64 0] 24)).alloc (.cells #[.int .i64 0, .int .i64 0] 26) = W0 := ⟨_, rfl⟩
  have E0 : Ext w W0 := by rw [← hW0]; exact (by repeat' (first | (with_reducible exact Ext.refl _) | (with_reducible assumption) | (with_reducible apply Ext.alloc) | (with_reducible apply Ext.drew) | (with_reducible apply Ext.drewN) | (refine Ext.setAt ?_ (by omega) _ _) | (refine Ext.trans ?_ (by assumption))))
  have S0 : W0.heap.size = w.heap.size + 1 + 1 + 1 := by rw [← hW0]; simp
  have R2 : Blk W0 w.heap.size 24 [.int .i64 0, .int .i64 0, .int .i64 0] := by rw [← hW0]; exact Blk.ext (Blk.new w #[.int .i64 0, .int .i64 0, .int .i64 0] 24) (by repeat' (first | (with_reducible exact Ext.refl _) | (with_reducible assumption) | (with_reducible apply Ext.alloc) | (with_reducible apply Ext.drew) | (with_reducible apply Ext.drewN) | (refine Ext.setAt ?_ (by omega) _ _) | (refine Ext.trans ?_ (by assumption))))
  have R3 : Blk W0 (w.heap.size + 1) 24 [.int .i64 0, .int .i64 0, .int .i64 0] := by rw [← hW0]; exact Blk.ext (w := (w.alloc (.cells #[.int .i64 0, .int .i64 0, .int .i64 0] 24)).alloc (.cells #[.int .i64 0, .int .i64 0, .int .i64 0] 24)) (by simpa using Blk.new (w.alloc (.cells #[.int .i64 0, .int .i64 0, .int .i64 0] 24)) #[.int .i64 0, .int .i64 0, .int .i64 0] 24) (by repeat' (first | (with_reducible exact Ext.refl _) | (with_reducible assumption) | (with_reducible apply Ext.alloc) | (with_reducible apply Ext.drew) | (with_reducible apply Ext.drewN) | (refine Ext.setAt ?_ (by omega) _ _) | (refine Ext.trans ?_ (by assumption))))
  have R4 : Blk W0 (w.heap.size + 1 + 1) 26 [.int .i64 0, .int .i64 0] := by rw [← hW0]; simpa using Blk.new ((w.alloc (.cells #[.int .i64 0, .int .i64 0, .int .i64 0] 24)).alloc (.cells #[.int .i64 0, .int .i64 0, .int .i64 0] 24)) #[.int .i64 0, .int .i64 0] 26
  have HW0 := Lib.hid hW0; clear hW0
  have HS0 := Lib.hid S0; clear S0
  go_enter Try.func11, Try.ntmps11
  go_wp2_with fail
  rw [HW0.out]
  refine (l45At_any _ l c _ (hl.ext E0) hn).mono ?_; rintro e1 w1 ⟨b, rfl, hb, c1, h1⟩
  have hb2 : w.heap.size + 1 + 1 < b := by have := HS0.out; omega
  go_wp2_with fail
  refine (l03Draw_any b _ c1).mono ?_; rintro e2 w2 ⟨fk, fp, fn, tk, tp, tn, hk, ha, rfl, hd, c2, g2⟩
  have HD := Lib.hid hd; clear hd
  have R2 := (R2.ext h1).keep g2 (by omega)
  have R3 := (R3.ext h1).keep g2 (by omega)
  have R4 := (R4.ext h1).keep g2 (by omega)
  have a0 := R2.cell (j := 0) rfl
  have a1 := R2.cell (j := 1) rfl
  have a2 := R2.cell (j := 2) rfl
  have b0 := R3.cell (j := 0) rfl
  have b1 := R3.cell (j := 1) rfl
  have b2 := R3.cell (j := 2) rfl
  have d0 := R4.cell (j := 0) rfl
  have d1 := R4.cell (j := 1) rfl
  have x20 := R2.free 0
  have x21 := R2.free 1
  have x22 := R2.free 2
  have x30 := R3.free 0
  have x31 := R3.free 1
  have x32 := R3.free 2
  have x40 := R4.free 0
  have x41 := R4.free 1
  have lR2 := R2.lt
  have lR3 := R3.lt
  have lR4 := R4.lt
  have E2 : Ext w w2 := (E0.trans h1).only g2 (fun k hk => by injection hk with hk; omega)
  go_wp2
  refine bodyPost_ret (v := .tuple #[ringV fk fp fn, ringV tk tp tn, homV hk ha]) (by simp [results, Try.results11, go_sem, *]) rfl ?_
  exact ⟨_, _, _, _, _, _, _, _, rfl, HD.out, by repeat' (first | (with_reducible exact E2) | (with_reducible refine Ext.setAt ?_ ?_ _ _) | omega)⟩
end Go.Proofs.Ytabeciopggofkaa
