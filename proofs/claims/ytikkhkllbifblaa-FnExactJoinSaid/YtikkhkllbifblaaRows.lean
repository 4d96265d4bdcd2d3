/-
  No cell of these rows narrows 'for every input' (looked for: loops, veiled, ifaces, maps, wideKeys, modest, calm, conditions, laid).
  DERIVED. THE GIVEN ROWS OF THIS SEAT. 12 by the template 'for every input the law returns true; each argument reads behind the call as it read before'; 0 by the template 'total and deterministic' (their statements: YtikkhkllbifblaaTotals.lean).
  GIVEN WITH THE SEED: the statements are not yours to turn. If you find one false, say at which input.
  Laid BY PROGRAM, IN A SANDBOX (cutbox-rows.mjs): the forced cells as the released guide's own fill.sh prints them over the translation c0fcbb67e418b943… (all of the seat's roots in one cut). By AI agents, Wed Nov 11 2026. No macro, syntax, notation, axiom, sorry.
-/
import Derived.Test.YtikkhkllbifblaaChecked
import GoSem.Claim
import GoSem.ClaimJoined
import GoSem.ClaimMapViews
import Derived.JoinedTies
import Derived.KernelRfl
namespace Go.Proofs.Ytikkhkllbifblaa
/- THE CELL 'sum', in the pinned program and in every row, IS THE sha256 OF THE DUMP (.gsa) THAT YtikkhkllbifblaaProg.lean LOADS. Nothing in Lean hashes anything: it is a label: what it is worth is what the hold of that sum in a sandbox is worth. -/
noncomputable def Try.pinned : Pinned := { name := "ytikkhkllbifblaa", sum := "c0fcbb67e418b94300d9db660541b942e2ddd709a771af3cffc494fcee82d8dd", checked := Try.checked }
namespace Rows
def none {H : Type} : Left H := { results := [], args := [] }

/-- 'laws.FnExactConstants': WHATEVER THE INPUT: true; the input reads as it did. -/
def fnExactConstantsSpec : ChangeSpec := { name := "fnExactConstants", fn := fun _ => fun
  | [] => { results := [.lit (.bool true)], args := [] }
  | _ => none }
def fnExactConstantsRow : OpenClaim := { program := "ytikkhkllbifblaa", sum := "c0fcbb67e418b94300d9db660541b942e2ddd709a771af3cffc494fcee82d8dd", func := "loop.example/g03211/laws.FnExactConstants", spec := "fnExactConstants", apart := false }
def FnExactConstantsSaid : Prop := fnExactConstantsRow.holds Try.pinned (OpenSpec.ofChange fnExactConstantsSpec)

/-- ITS FALSE NEIGHBOUR: 'it returns false'. Refute it at one input. -/
def fnExactConstantsWrong : ChangeSpec := { name := "fnExactConstants", fn := fun _ => fun
  | [] => { results := [.lit (.bool false)], args := [] }
  | _ => none }
def FnExactConstantsWrongFalsely : Prop := fnExactConstantsRow.holds Try.pinned (OpenSpec.ofChange fnExactConstantsWrong)

/-- 'laws.FnExactNextSeed': WHATEVER THE INPUT: true; the input reads as it did. -/
def fnExactNextSeedSpec : ChangeSpec := { name := "fnExactNextSeed", fn := fun _ => fun
  | [d] => { results := [.lit (.bool true)], args := [d] }
  | _ => none }
def fnExactNextSeedRow : OpenClaim := { program := "ytikkhkllbifblaa", sum := "c0fcbb67e418b94300d9db660541b942e2ddd709a771af3cffc494fcee82d8dd", func := "loop.example/g03211/laws.FnExactNextSeed", spec := "fnExactNextSeed", apart := false }
def FnExactNextSeedSaid : Prop := fnExactNextSeedRow.holds Try.pinned (OpenSpec.ofChange fnExactNextSeedSpec)

/-- ITS FALSE NEIGHBOUR: 'it returns false'. Refute it at one input. -/
def fnExactNextSeedWrong : ChangeSpec := { name := "fnExactNextSeed", fn := fun _ => fun
  | [d] => { results := [.lit (.bool false)], args := [d] }
  | _ => none }
def FnExactNextSeedWrongFalsely : Prop := fnExactNextSeedRow.holds Try.pinned (OpenSpec.ofChange fnExactNextSeedWrong)

/-- 'laws.FnExactIsPrime': WHATEVER THE INPUT: true; the input reads as it did. -/
def fnExactIsPrimeSpec : ChangeSpec := { name := "fnExactIsPrime", fn := fun _ => fun
  | [d] => { results := [.lit (.bool true)], args := [d] }
  | _ => none }
def fnExactIsPrimeRow : OpenClaim := { program := "ytikkhkllbifblaa", sum := "c0fcbb67e418b94300d9db660541b942e2ddd709a771af3cffc494fcee82d8dd", func := "loop.example/g03211/laws.FnExactIsPrime", spec := "fnExactIsPrime", apart := false }
def FnExactIsPrimeSaid : Prop := fnExactIsPrimeRow.holds Try.pinned (OpenSpec.ofChange fnExactIsPrimeSpec)

/-- ITS FALSE NEIGHBOUR: 'it returns false'. Refute it at one input. -/
def fnExactIsPrimeWrong : ChangeSpec := { name := "fnExactIsPrime", fn := fun _ => fun
  | [d] => { results := [.lit (.bool false)], args := [d] }
  | _ => none }
def FnExactIsPrimeWrongFalsely : Prop := fnExactIsPrimeRow.holds Try.pinned (OpenSpec.ofChange fnExactIsPrimeWrong)

/-- 'laws.FnExactRingOk': WHATEVER THE INPUT: true; the input reads as it did. -/
def fnExactRingOkSpec : ChangeSpec := { name := "fnExactRingOk", fn := fun _ => fun
  | [d] => { results := [.lit (.bool true)], args := [d] }
  | _ => none }
def fnExactRingOkRow : OpenClaim := { program := "ytikkhkllbifblaa", sum := "c0fcbb67e418b94300d9db660541b942e2ddd709a771af3cffc494fcee82d8dd", func := "loop.example/g03211/laws.FnExactRingOk", spec := "fnExactRingOk", apart := false }
def FnExactRingOkSaid : Prop := fnExactRingOkRow.holds Try.pinned (OpenSpec.ofChange fnExactRingOkSpec)

/-- ITS FALSE NEIGHBOUR: 'it returns false'. Refute it at one input. -/
def fnExactRingOkWrong : ChangeSpec := { name := "fnExactRingOk", fn := fun _ => fun
  | [d] => { results := [.lit (.bool false)], args := [d] }
  | _ => none }
def FnExactRingOkWrongFalsely : Prop := fnExactRingOkRow.holds Try.pinned (OpenSpec.ofChange fnExactRingOkWrong)

/-- 'laws.FnExactRingWidth': WHATEVER THE INPUT: true; the input reads as it did. -/
def fnExactRingWidthSpec : ChangeSpec := { name := "fnExactRingWidth", fn := fun _ => fun
  | [d] => { results := [.lit (.bool true)], args := [d] }
  | _ => none }
def fnExactRingWidthRow : OpenClaim := { program := "ytikkhkllbifblaa", sum := "c0fcbb67e418b94300d9db660541b942e2ddd709a771af3cffc494fcee82d8dd", func := "loop.example/g03211/laws.FnExactRingWidth", spec := "fnExactRingWidth", apart := false }
def FnExactRingWidthSaid : Prop := fnExactRingWidthRow.holds Try.pinned (OpenSpec.ofChange fnExactRingWidthSpec)

/-- ITS FALSE NEIGHBOUR: 'it returns false'. Refute it at one input. -/
def fnExactRingWidthWrong : ChangeSpec := { name := "fnExactRingWidth", fn := fun _ => fun
  | [d] => { results := [.lit (.bool false)], args := [d] }
  | _ => none }
def FnExactRingWidthWrongFalsely : Prop := fnExactRingWidthRow.holds Try.pinned (OpenSpec.ofChange fnExactRingWidthWrong)

/-- 'laws.FnExactWidthOf': WHATEVER THE INPUT: true; the input reads as it did. -/
def fnExactWidthOfSpec : ChangeSpec := { name := "fnExactWidthOf", fn := fun _ => fun
  | [d] => { results := [.lit (.bool true)], args := [d] }
  | _ => none }
def fnExactWidthOfRow : OpenClaim := { program := "ytikkhkllbifblaa", sum := "c0fcbb67e418b94300d9db660541b942e2ddd709a771af3cffc494fcee82d8dd", func := "loop.example/g03211/laws.FnExactWidthOf", spec := "fnExactWidthOf", apart := false }
def FnExactWidthOfSaid : Prop := fnExactWidthOfRow.holds Try.pinned (OpenSpec.ofChange fnExactWidthOfSpec)

/-- ITS FALSE NEIGHBOUR: 'it returns false'. Refute it at one input. -/
def fnExactWidthOfWrong : ChangeSpec := { name := "fnExactWidthOf", fn := fun _ => fun
  | [d] => { results := [.lit (.bool false)], args := [d] }
  | _ => none }
def FnExactWidthOfWrongFalsely : Prop := fnExactWidthOfRow.holds Try.pinned (OpenSpec.ofChange fnExactWidthOfWrong)

/-- 'laws.FnExactJoin': WHATEVER THE INPUT: true; the input reads as it did. -/
def fnExactJoinSpec : ChangeSpec := { name := "fnExactJoin", fn := fun _ => fun
  | [d1, d2] => { results := [.lit (.bool true)], args := [d1, d2] }
  | _ => none }
def fnExactJoinRow : OpenClaim := { program := "ytikkhkllbifblaa", sum := "c0fcbb67e418b94300d9db660541b942e2ddd709a771af3cffc494fcee82d8dd", func := "loop.example/g03211/laws.FnExactJoin", spec := "fnExactJoin", inPlace := ["internal/abi.NoEscape", "internal/bytealg.MakeNoZero"], apart := false }
def FnExactJoinSaid : Prop := fnExactJoinRow.holds Try.pinned (OpenSpec.ofChange fnExactJoinSpec)

/-- ITS FALSE NEIGHBOUR: 'it returns false'. Refute it at one input. -/
def fnExactJoinWrong : ChangeSpec := { name := "fnExactJoin", fn := fun _ => fun
  | [d1, d2] => { results := [.lit (.bool false)], args := [d1, d2] }
  | _ => none }
def FnExactJoinWrongFalsely : Prop := fnExactJoinRow.holds Try.pinned (OpenSpec.ofChange fnExactJoinWrong)

/-- 'laws.FnExactZeroOf': WHATEVER THE INPUT: true; the input reads as it did. -/
def fnExactZeroOfSpec : ChangeSpec := { name := "fnExactZeroOf", fn := fun _ => fun
  | [d] => { results := [.lit (.bool true)], args := [d] }
  | _ => none }
def fnExactZeroOfRow : OpenClaim := { program := "ytikkhkllbifblaa", sum := "c0fcbb67e418b94300d9db660541b942e2ddd709a771af3cffc494fcee82d8dd", func := "loop.example/g03211/laws.FnExactZeroOf", spec := "fnExactZeroOf", apart := false }
def FnExactZeroOfSaid : Prop := fnExactZeroOfRow.holds Try.pinned (OpenSpec.ofChange fnExactZeroOfSpec)

/-- ITS FALSE NEIGHBOUR: 'it returns false'. Refute it at one input. -/
def fnExactZeroOfWrong : ChangeSpec := { name := "fnExactZeroOf", fn := fun _ => fun
  | [d] => { results := [.lit (.bool false)], args := [d] }
  | _ => none }
def FnExactZeroOfWrongFalsely : Prop := fnExactZeroOfRow.holds Try.pinned (OpenSpec.ofChange fnExactZeroOfWrong)

/-- 'laws.FnExactElemOk': WHATEVER THE INPUT: true; the input reads as it did. -/
def fnExactElemOkSpec : ChangeSpec := { name := "fnExactElemOk", fn := fun _ => fun
  | [d1, d2] => { results := [.lit (.bool true)], args := [d1, d2] }
  | _ => none }
def fnExactElemOkRow : OpenClaim := { program := "ytikkhkllbifblaa", sum := "c0fcbb67e418b94300d9db660541b942e2ddd709a771af3cffc494fcee82d8dd", func := "loop.example/g03211/laws.FnExactElemOk", spec := "fnExactElemOk", apart := false }
def FnExactElemOkSaid : Prop := fnExactElemOkRow.holds Try.pinned (OpenSpec.ofChange fnExactElemOkSpec)

/-- ITS FALSE NEIGHBOUR: 'it returns false'. Refute it at one input. -/
def fnExactElemOkWrong : ChangeSpec := { name := "fnExactElemOk", fn := fun _ => fun
  | [d1, d2] => { results := [.lit (.bool false)], args := [d1, d2] }
  | _ => none }
def FnExactElemOkWrongFalsely : Prop := fnExactElemOkRow.holds Try.pinned (OpenSpec.ofChange fnExactElemOkWrong)

/-- 'laws.FnExactHomOk': WHATEVER THE INPUT: true; the input reads as it did. -/
def fnExactHomOkSpec : ChangeSpec := { name := "fnExactHomOk", fn := fun _ => fun
  | [d1, d2, d3] => { results := [.lit (.bool true)], args := [d1, d2, d3] }
  | _ => none }
def fnExactHomOkRow : OpenClaim := { program := "ytikkhkllbifblaa", sum := "c0fcbb67e418b94300d9db660541b942e2ddd709a771af3cffc494fcee82d8dd", func := "loop.example/g03211/laws.FnExactHomOk", spec := "fnExactHomOk", apart := false }
def FnExactHomOkSaid : Prop := fnExactHomOkRow.holds Try.pinned (OpenSpec.ofChange fnExactHomOkSpec)

/-- ITS FALSE NEIGHBOUR: 'it returns false'. Refute it at one input. -/
def fnExactHomOkWrong : ChangeSpec := { name := "fnExactHomOk", fn := fun _ => fun
  | [d1, d2, d3] => { results := [.lit (.bool false)], args := [d1, d2, d3] }
  | _ => none }
def FnExactHomOkWrongFalsely : Prop := fnExactHomOkRow.holds Try.pinned (OpenSpec.ofChange fnExactHomOkWrong)

/-- 'laws.FnExactOneOf': WHATEVER THE INPUT: true; the input reads as it did. -/
def fnExactOneOfSpec : ChangeSpec := { name := "fnExactOneOf", fn := fun _ => fun
  | [d] => { results := [.lit (.bool true)], args := [d] }
  | _ => none }
def fnExactOneOfRow : OpenClaim := { program := "ytikkhkllbifblaa", sum := "c0fcbb67e418b94300d9db660541b942e2ddd709a771af3cffc494fcee82d8dd", func := "loop.example/g03211/laws.FnExactOneOf", spec := "fnExactOneOf", apart := false }
def FnExactOneOfSaid : Prop := fnExactOneOfRow.holds Try.pinned (OpenSpec.ofChange fnExactOneOfSpec)

/-- ITS FALSE NEIGHBOUR: 'it returns false'. Refute it at one input. -/
def fnExactOneOfWrong : ChangeSpec := { name := "fnExactOneOf", fn := fun _ => fun
  | [d] => { results := [.lit (.bool false)], args := [d] }
  | _ => none }
def FnExactOneOfWrongFalsely : Prop := fnExactOneOfRow.holds Try.pinned (OpenSpec.ofChange fnExactOneOfWrong)

/-- 'laws.FnExactCountElem': WHATEVER THE INPUT: true; the input reads as it did. -/
def fnExactCountElemSpec : ChangeSpec := { name := "fnExactCountElem", fn := fun _ => fun
  | [d1, d2] => { results := [.lit (.bool true)], args := [d1, d2] }
  | _ => none }
def fnExactCountElemRow : OpenClaim := { program := "ytikkhkllbifblaa", sum := "c0fcbb67e418b94300d9db660541b942e2ddd709a771af3cffc494fcee82d8dd", func := "loop.example/g03211/laws.FnExactCountElem", spec := "fnExactCountElem", apart := false }
def FnExactCountElemSaid : Prop := fnExactCountElemRow.holds Try.pinned (OpenSpec.ofChange fnExactCountElemSpec)

/-- ITS FALSE NEIGHBOUR: 'it returns false'. Refute it at one input. -/
def fnExactCountElemWrong : ChangeSpec := { name := "fnExactCountElem", fn := fun _ => fun
  | [d1, d2] => { results := [.lit (.bool false)], args := [d1, d2] }
  | _ => none }
def FnExactCountElemWrongFalsely : Prop := fnExactCountElemRow.holds Try.pinned (OpenSpec.ofChange fnExactCountElemWrong)

/- THE SECOND FORM. 'bulk': how many values and letters a reading holds, each counted each time it is reached (what is shared counts as often as it is met; a slice's spare places count too). A statement '..UptoSaid' is the law's where the arguments, and the package variables that the reading takes, are together of bulk at most 1048576: NARROWER than '..Said'. Prove '..Said' where nothing that the law and all that it calls make is longer than what came in: it says more and counts as full. Else prove '..UptoSaid'. A law counts once. -/
mutual
def uptoBulk {H : Type} : DataW H → Nat
  | .lit (.string bytes) => bytes.length + 1
  | .lit _ => 1
  | .nil => 1
  | .ptr d => uptoBulk d + 1
  | .slice elems spare => uptoBulkAll elems + uptoBulkAll spare + 1
  | .agg parts => uptoBulkAll parts + 1
  | .iface _ d => uptoBulk d + 1
  | .map entries => uptoBulkEntries entries + 1
  | .held _ => 1
def uptoBulkAll {H : Type} : List (DataW H) → Nat
  | [] => 0
  | d :: r => uptoBulk d + uptoBulkAll r
def uptoBulkEntries {H : Type} : List (Lit × DataW H) → Nat
  | [] => 0
  | x :: r => uptoBulkEntry x + uptoBulkEntries r
def uptoBulkEntry {H : Type} : Lit × DataW H → Nat
  | (.string bytes, d) => bytes.length + uptoBulk d + 1
  | (_, d) => uptoBulk d + 1
 end
def uptoSmall : (H : Type) → List (DataW H) → Bool := fun _ ds => decide (uptoBulkAll ds ≤ 1048576)
def OpenSpec.upto (s : _root_.Go.ChangeSpec) : _root_.Go.OpenSpec := { _root_.Go.OpenSpec.ofChange s with cond := some uptoSmall }

/-- 'laws.FnExactConstants', WHERE WHAT IT READS IS OF BULK AT MOST 1048576: true; the input reads as it did. -/
def fnExactConstantsUptoRow : OpenClaim := { program := "ytikkhkllbifblaa", sum := "c0fcbb67e418b94300d9db660541b942e2ddd709a771af3cffc494fcee82d8dd", func := "loop.example/g03211/laws.FnExactConstants", spec := "fnExactConstants", apart := false, narrowed := true }
def FnExactConstantsUptoSaid : Prop := fnExactConstantsUptoRow.holds Try.pinned (OpenSpec.upto fnExactConstantsSpec)

/-- 'laws.FnExactNextSeed', WHERE WHAT IT READS IS OF BULK AT MOST 1048576: true; the input reads as it did. -/
def fnExactNextSeedUptoRow : OpenClaim := { program := "ytikkhkllbifblaa", sum := "c0fcbb67e418b94300d9db660541b942e2ddd709a771af3cffc494fcee82d8dd", func := "loop.example/g03211/laws.FnExactNextSeed", spec := "fnExactNextSeed", apart := false, narrowed := true }
def FnExactNextSeedUptoSaid : Prop := fnExactNextSeedUptoRow.holds Try.pinned (OpenSpec.upto fnExactNextSeedSpec)

/-- 'laws.FnExactIsPrime', WHERE WHAT IT READS IS OF BULK AT MOST 1048576: true; the input reads as it did. -/
def fnExactIsPrimeUptoRow : OpenClaim := { program := "ytikkhkllbifblaa", sum := "c0fcbb67e418b94300d9db660541b942e2ddd709a771af3cffc494fcee82d8dd", func := "loop.example/g03211/laws.FnExactIsPrime", spec := "fnExactIsPrime", apart := false, narrowed := true }
def FnExactIsPrimeUptoSaid : Prop := fnExactIsPrimeUptoRow.holds Try.pinned (OpenSpec.upto fnExactIsPrimeSpec)

/-- 'laws.FnExactRingOk', WHERE WHAT IT READS IS OF BULK AT MOST 1048576: true; the input reads as it did. -/
def fnExactRingOkUptoRow : OpenClaim := { program := "ytikkhkllbifblaa", sum := "c0fcbb67e418b94300d9db660541b942e2ddd709a771af3cffc494fcee82d8dd", func := "loop.example/g03211/laws.FnExactRingOk", spec := "fnExactRingOk", apart := false, narrowed := true }
def FnExactRingOkUptoSaid : Prop := fnExactRingOkUptoRow.holds Try.pinned (OpenSpec.upto fnExactRingOkSpec)

/-- 'laws.FnExactRingWidth', WHERE WHAT IT READS IS OF BULK AT MOST 1048576: true; the input reads as it did. -/
def fnExactRingWidthUptoRow : OpenClaim := { program := "ytikkhkllbifblaa", sum := "c0fcbb67e418b94300d9db660541b942e2ddd709a771af3cffc494fcee82d8dd", func := "loop.example/g03211/laws.FnExactRingWidth", spec := "fnExactRingWidth", apart := false, narrowed := true }
def FnExactRingWidthUptoSaid : Prop := fnExactRingWidthUptoRow.holds Try.pinned (OpenSpec.upto fnExactRingWidthSpec)

/-- 'laws.FnExactWidthOf', WHERE WHAT IT READS IS OF BULK AT MOST 1048576: true; the input reads as it did. -/
def fnExactWidthOfUptoRow : OpenClaim := { program := "ytikkhkllbifblaa", sum := "c0fcbb67e418b94300d9db660541b942e2ddd709a771af3cffc494fcee82d8dd", func := "loop.example/g03211/laws.FnExactWidthOf", spec := "fnExactWidthOf", apart := false, narrowed := true }
def FnExactWidthOfUptoSaid : Prop := fnExactWidthOfUptoRow.holds Try.pinned (OpenSpec.upto fnExactWidthOfSpec)

/-- 'laws.FnExactJoin', WHERE WHAT IT READS IS OF BULK AT MOST 1048576: true; the input reads as it did. -/
def fnExactJoinUptoRow : OpenClaim := { program := "ytikkhkllbifblaa", sum := "c0fcbb67e418b94300d9db660541b942e2ddd709a771af3cffc494fcee82d8dd", func := "loop.example/g03211/laws.FnExactJoin", spec := "fnExactJoin", inPlace := ["internal/abi.NoEscape", "internal/bytealg.MakeNoZero"], apart := false, narrowed := true }
def FnExactJoinUptoSaid : Prop := fnExactJoinUptoRow.holds Try.pinned (OpenSpec.upto fnExactJoinSpec)

/-- 'laws.FnExactZeroOf', WHERE WHAT IT READS IS OF BULK AT MOST 1048576: true; the input reads as it did. -/
def fnExactZeroOfUptoRow : OpenClaim := { program := "ytikkhkllbifblaa", sum := "c0fcbb67e418b94300d9db660541b942e2ddd709a771af3cffc494fcee82d8dd", func := "loop.example/g03211/laws.FnExactZeroOf", spec := "fnExactZeroOf", apart := false, narrowed := true }
def FnExactZeroOfUptoSaid : Prop := fnExactZeroOfUptoRow.holds Try.pinned (OpenSpec.upto fnExactZeroOfSpec)

/-- 'laws.FnExactElemOk', WHERE WHAT IT READS IS OF BULK AT MOST 1048576: true; the input reads as it did. -/
def fnExactElemOkUptoRow : OpenClaim := { program := "ytikkhkllbifblaa", sum := "c0fcbb67e418b94300d9db660541b942e2ddd709a771af3cffc494fcee82d8dd", func := "loop.example/g03211/laws.FnExactElemOk", spec := "fnExactElemOk", apart := false, narrowed := true }
def FnExactElemOkUptoSaid : Prop := fnExactElemOkUptoRow.holds Try.pinned (OpenSpec.upto fnExactElemOkSpec)

/-- 'laws.FnExactHomOk', WHERE WHAT IT READS IS OF BULK AT MOST 1048576: true; the input reads as it did. -/
def fnExactHomOkUptoRow : OpenClaim := { program := "ytikkhkllbifblaa", sum := "c0fcbb67e418b94300d9db660541b942e2ddd709a771af3cffc494fcee82d8dd", func := "loop.example/g03211/laws.FnExactHomOk", spec := "fnExactHomOk", apart := false, narrowed := true }
def FnExactHomOkUptoSaid : Prop := fnExactHomOkUptoRow.holds Try.pinned (OpenSpec.upto fnExactHomOkSpec)

/-- 'laws.FnExactOneOf', WHERE WHAT IT READS IS OF BULK AT MOST 1048576: true; the input reads as it did. -/
def fnExactOneOfUptoRow : OpenClaim := { program := "ytikkhkllbifblaa", sum := "c0fcbb67e418b94300d9db660541b942e2ddd709a771af3cffc494fcee82d8dd", func := "loop.example/g03211/laws.FnExactOneOf", spec := "fnExactOneOf", apart := false, narrowed := true }
def FnExactOneOfUptoSaid : Prop := fnExactOneOfUptoRow.holds Try.pinned (OpenSpec.upto fnExactOneOfSpec)

/-- 'laws.FnExactCountElem', WHERE WHAT IT READS IS OF BULK AT MOST 1048576: true; the input reads as it did. -/
def fnExactCountElemUptoRow : OpenClaim := { program := "ytikkhkllbifblaa", sum := "c0fcbb67e418b94300d9db660541b942e2ddd709a771af3cffc494fcee82d8dd", func := "loop.example/g03211/laws.FnExactCountElem", spec := "fnExactCountElem", apart := false, narrowed := true }
def FnExactCountElemUptoSaid : Prop := fnExactCountElemUptoRow.holds Try.pinned (OpenSpec.upto fnExactCountElemSpec)

end Rows
end Go.Proofs.Ytikkhkllbifblaa
