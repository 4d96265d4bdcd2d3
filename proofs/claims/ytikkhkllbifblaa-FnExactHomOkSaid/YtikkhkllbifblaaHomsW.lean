/- The law on HomOk, walked. -/
import Derived.Test.YtikkhkllbifblaaBoxes
import Derived.Test.YtikkhkllbifblaaHomsI
import Derived.Test.YtikkhkllbifblaaHomsS
import Derived.Deep.RegionHeld3
namespace Go.Proofs.Ytikkhkllbifblaa
open Go.RowKit
set_option linter.unusedSimpArgs false
set_option linter.unusedVariables false

set_option maxHeartbeats 1000000 in
theorem walkFnExactHomOk (fk fp fn : Int) (_ : I64s [fk, fp, fn]) (tk tp tn : Int) (_ : I64s [tk, tp, tn]) (hk ha : Int) (_ : I64s [hk, ha]) (w : World) :
    Calls Try.prog 12 #[ringV fk fp fn, ringV tk tp tn, homV hk ha] w fun e w' => e = .returned (.bool true) ∧ Ext w w' := by
  go_enter Try.func12, Try.ntmps12
  obtain ⟨b0, b1, b2⟩ := boxes3 w #[.int .i64 fk, .int .i64 fp, .int .i64 fn] #[.int .i64 tk, .int .i64 tp, .int .i64 tn] #[.int .i64 hk, .int .i64 ha] 26 26 55
  go_wp2_with fail
  go_region_held3 (fun w' => w'.cell? ⟨w.heap.size, 0, none⟩ = some (.int .i64 fk) ∧ w'.cell? ⟨w.heap.size, 1, none⟩ = some (.int .i64 fp) ∧ w'.cell? ⟨w.heap.size, 2, none⟩ = some (.int .i64 fn) ∧
     w'.cell? ⟨w.heap.size + 1, 0, none⟩ = some (.int .i64 tk) ∧ w'.cell? ⟨w.heap.size + 1, 1, none⟩ = some (.int .i64 tp) ∧ w'.cell? ⟨w.heap.size + 1, 2, none⟩ = some (.int .i64 tn) ∧
     w'.cell? ⟨w.heap.size + 1 + 1, 0, none⟩ = some (.int .i64 hk) ∧ w'.cell? ⟨w.heap.size + 1 + 1, 1, none⟩ = some (.int .i64 ha)) (go_keep)
    (first | (go_at_call 20; refine (toRing_any _ _ _ _).mono ?_; rintro e1 w1 ⟨rfl, h1⟩; have s1 := h1.size; (try simp at s1); have t1_0 : w.heap.size < w1.heap.size := (by omega); have c1_0 := fun o => h1.cells (w.heap.size) o (by first | (simp; done) | (simp; omega) | omega); have t1_1 : w.heap.size + 1 < w1.heap.size := (by omega); have c1_1 := fun o => h1.cells (w.heap.size + 1) o (by first | (simp; done) | (simp; omega) | omega); have t1_2 : w.heap.size + 2 < w1.heap.size := (by omega); have c1_2 := fun o => h1.cells (w.heap.size + 2) o (by first | (simp; done) | (simp; omega) | omega)) | (go_at_call 43; refine (toHom_any _ _ _).mono ?_; rintro e3 w3 ⟨rfl, h3⟩; have s3 := h3.size; (try simp at s3); have t3_0 : w.heap.size < w3.heap.size := (by omega); have c3_0 := fun o => h3.cells (w.heap.size) o (by first | (simp; done) | (simp; omega) | omega); have t3_1 : w.heap.size + 1 < w3.heap.size := (by omega); have c3_1 := fun o => h3.cells (w.heap.size + 1) o (by first | (simp; done) | (simp; omega) | omega); have t3_2 : w.heap.size + 2 < w3.heap.size := (by omega); have c3_2 := fun o => h3.cells (w.heap.size + 2) o (by first | (simp; done) | (simp; omega) | omega)) | (go_at_call 42; refine (homOk_spec _ _ _ _ _ _ _ _ _).mono ?_; rintro e4 w4 ⟨rfl, h4⟩; have s4 := h4.size; (try simp at s4); have t4_0 : w.heap.size < w4.heap.size := (by omega); have c4_0 := fun o => h4.cells (w.heap.size) o (by first | (simp; done) | (simp; omega) | omega); have t4_1 : w.heap.size + 1 < w4.heap.size := (by omega); have c4_1 := fun o => h4.cells (w.heap.size + 1) o (by first | (simp; done) | (simp; omega) | omega); have t4_2 : w.heap.size + 2 < w4.heap.size := (by omega); have c4_2 := fun o => h4.cells (w.heap.size + 2) o (by first | (simp; done) | (simp; omega) | omega)))
  go_wp2_with fail
  go_region_held3 (fun w' => w'.cell? ⟨w.heap.size, 0, none⟩ = some (.int .i64 fk) ∧ w'.cell? ⟨w.heap.size, 1, none⟩ = some (.int .i64 fp) ∧ w'.cell? ⟨w.heap.size, 2, none⟩ = some (.int .i64 fn) ∧
     w'.cell? ⟨w.heap.size + 1, 0, none⟩ = some (.int .i64 tk) ∧ w'.cell? ⟨w.heap.size + 1, 1, none⟩ = some (.int .i64 tp) ∧ w'.cell? ⟨w.heap.size + 1, 2, none⟩ = some (.int .i64 tn) ∧
     w'.cell? ⟨w.heap.size + 1 + 1, 0, none⟩ = some (.int .i64 hk) ∧ w'.cell? ⟨w.heap.size + 1 + 1, 1, none⟩ = some (.int .i64 ha)) (go_keep)
    (first | (go_at_call 20; refine (toRing_any _ _ _ _).mono ?_; rintro e1 w1 ⟨rfl, h1⟩; have s1 := h1.size; (try simp at s1); have t1_0 : w.heap.size < w1.heap.size := (by omega); have c1_0 := fun o => h1.cells (w.heap.size) o (by first | (simp; done) | (simp; omega) | omega); have t1_1 : w.heap.size + 1 < w1.heap.size := (by omega); have c1_1 := fun o => h1.cells (w.heap.size + 1) o (by first | (simp; done) | (simp; omega) | omega); have t1_2 : w.heap.size + 2 < w1.heap.size := (by omega); have c1_2 := fun o => h1.cells (w.heap.size + 2) o (by first | (simp; done) | (simp; omega) | omega)) | (go_at_call 43; refine (toHom_any _ _ _).mono ?_; rintro e3 w3 ⟨rfl, h3⟩; have s3 := h3.size; (try simp at s3); have t3_0 : w.heap.size < w3.heap.size := (by omega); have c3_0 := fun o => h3.cells (w.heap.size) o (by first | (simp; done) | (simp; omega) | omega); have t3_1 : w.heap.size + 1 < w3.heap.size := (by omega); have c3_1 := fun o => h3.cells (w.heap.size + 1) o (by first | (simp; done) | (simp; omega) | omega); have t3_2 : w.heap.size + 2 < w3.heap.size := (by omega); have c3_2 := fun o => h3.cells (w.heap.size + 2) o (by first | (simp; done) | (simp; omega) | omega)) | (go_at_call 44; refine (homOk_impl _ _ _ _ _ _ _ _ _).mono ?_; rintro e4 w4 ⟨rfl, h4⟩; have s4 := h4.size; (try simp at s4); have t4_0 : w.heap.size < w4.heap.size := (by omega); have c4_0 := fun o => h4.cells (w.heap.size) o (by first | (simp; done) | (simp; omega) | omega); have t4_1 : w.heap.size + 1 < w4.heap.size := (by omega); have c4_1 := fun o => h4.cells (w.heap.size + 1) o (by first | (simp; done) | (simp; omega) | omega); have t4_2 : w.heap.size + 2 < w4.heap.size := (by omega); have c4_2 := fun o => h4.cells (w.heap.size + 2) o (by first | (simp; done) | (simp; omega) | omega)))
  go_wp2
  go_ret
  exact ⟨rfl, (by repeat' (first | (with_reducible exact Ext.refl _) | (with_reducible assumption) | (with_reducible apply Ext.alloc) | (with_reducible apply Ext.drew) | (with_reducible apply Ext.drewN) | (refine Ext.trans ?_ (by assumption))))⟩
end Go.Proofs.Ytikkhkllbifblaa
