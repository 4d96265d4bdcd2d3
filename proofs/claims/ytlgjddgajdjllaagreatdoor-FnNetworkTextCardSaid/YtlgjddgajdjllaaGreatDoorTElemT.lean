/- The part of Data with an element; copy. -/
import Derived.Test.YtlgjddgajdjllaaGreatDoorTG4
set_option linter.unusedSimpArgs false
set_option linter.unusedVariables false
namespace Go.Proofs.YtlgjddgajdjllaaGreatDoor
open Go.RowKit
theorem l05Put_len (k p n i : Int) (o nd : Nat) (a1 a2 : Option Addr) (m1 c1 m2 c2 bd cd B : Nat) (vx : Value) (X x : List Int) (w : World) (hnd : X.length = nd) (hX : OwnI w B (.slice (some ⟨bd, 0, none⟩) nd cd) X) (hx : IntS w vx x)
    (hne : ∀ q, vx.ownBlock = some q → q ≠ bd) (ho : i * ringWidth k n = o) (hi : 0 ≤ i) (hw : RingWide k n) (hfit : o + x.length ≤ nd) (hlen : nd ≤ 1048576) :
    Calls Tryz.prog 101 #[ringV k p n, .agg #[.slice a1 m1 c1, .slice a2 m2 c2, .slice (some ⟨bd, 0, none⟩) nd cd], .int .i64 i, vx] w fun e w' =>
      e = .returned (.tuple #[]) ∧ OwnI w' B (.slice (some ⟨bd, 0, none⟩) nd cd) (putL X o x) ∧ w.grownBy w' (some bd) := by
  subst hnd
  exact l05Put_any k p n i o a1 a2 m1 c1 m2 c2 bd cd B vx X x w hX hx hne ho hi hw hfit hlen
end Go.Proofs.YtlgjddgajdjllaaGreatDoor
