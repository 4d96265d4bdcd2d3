/- rawPermute of the program. -/
import Derived.Test.YtpegckmagiaggaaGG10
set_option linter.unusedSimpArgs false
set_option linter.unusedVariables false
namespace Go.Proofs.Ytpegckmagiaggaa
open Go.RowKit
theorem OwnI.alloc {w : World} {B : Nat} {v : Value} {l : List Int} (h : OwnI w B v l) (o : Obj) : OwnI (w.alloc o) B v l := h.ext ((Ext.refl _).alloc _)
theorem Blk.alloc {w : World} {b : Nat} {T : TypeId} {xs : List Value} (h : Blk w b T xs) (o : Obj) : Blk (w.alloc o) b T xs := h.ext ((Ext.refl _).alloc _)
theorem Blk.newB {w : World} {c : Array Value} {T : TypeId} {b : Nat} (hb : b = w.heap.size) : Blk (w.alloc (.cells c T)) b T c.toList := by subst hb; exact Blk.new w c T
theorem OwnI.zeros (w : World) (B m b : Nat) (hb : b = w.heap.size) (hB : B ≤ b) (hm : m ≤ 1000000) : OwnI (w.alloc (.cells (madeCells #[.int .i64 0] m) 3)) B (.slice (some ⟨b, 0, none⟩) m m) (List.replicate m 0) := by
  subst hb
  have h := Blk.new w (madeCells #[.int .i64 0] m) 3
  rw [made_zero] at h
  exact OwnI.mk' (by simp) hB h (by unfold maxLen; omega)
end Go.Proofs.Ytpegckmagiaggaa
