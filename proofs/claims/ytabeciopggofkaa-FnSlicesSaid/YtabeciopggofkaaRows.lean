/-
  No cell of these rows narrows 'for every input' (looked for: loops, veiled, ifaces, maps, wideKeys, modest, calm, conditions, laid).
  DERIVED. THE GIVEN ROWS OF THIS SEAT. 8 by the template 'for every input the law returns true; each argument reads behind the call as it read before'; 0 by the template 'total and deterministic' (their statements: YtabeciopggofkaaTotals.lean).
  GIVEN WITH THE SEED: the statements are not yours to turn. If you find one false, say at which input.
  Laid BY PROGRAM, IN A SANDBOX (cutbox-rows.mjs): the forced cells as the released guide's own fill.sh prints them over the translation b4abbd0fa6d51f2a… (all of the seat's roots in one cut). By AI agents, Wed Nov 11 2026. No macro, syntax, notation, axiom, sorry.
-/
import Derived.Test.YtabeciopggofkaaChecked
import GoSem.Claim
import GoSem.ClaimJoined
import GoSem.ClaimMapViews
import Derived.JoinedTies
import Derived.KernelRfl
namespace Go.Proofs.Ytabeciopggofkaa
/- THE CELL 'sum', in the pinned program and in every row, IS THE sha256 OF THE DUMP (.gsa) THAT YtabeciopggofkaaProg.lean LOADS. Nothing in Lean hashes anything: it is a label: what it is worth is what the hold of that sum in a sandbox is worth. -/
noncomputable def Try.pinned : Pinned := { name := "ytabeciopggofkaa", sum := "b4abbd0fa6d51f2a203d4a77d6fcacea1b4d0f303afeb9bfab477c42a22870d6", checked := Try.checked }
namespace Rows
def none {H : Type} : Left H := { results := [], args := [] }

/-- 'laws.FnImages': WHATEVER THE INPUT: true; the input reads as it did. -/
def fnImagesSpec : ChangeSpec := { name := "fnImages", fn := fun _ => fun
  | [d] => { results := [.lit (.bool true)], args := [d] }
  | _ => none }
def fnImagesRow : OpenClaim := { program := "ytabeciopggofkaa", sum := "b4abbd0fa6d51f2a203d4a77d6fcacea1b4d0f303afeb9bfab477c42a22870d6", func := "loop.example/g03211/laws.FnImages", spec := "fnImages", apart := false }
def FnImagesSaid : Prop := fnImagesRow.holds Try.pinned (OpenSpec.ofChange fnImagesSpec)

/-- ITS FALSE NEIGHBOUR: 'it returns false'. Refute it at one input. -/
def fnImagesWrong : ChangeSpec := { name := "fnImages", fn := fun _ => fun
  | [d] => { results := [.lit (.bool false)], args := [d] }
  | _ => none }
def FnImagesWrongFalsely : Prop := fnImagesRow.holds Try.pinned (OpenSpec.ofChange fnImagesWrong)

/-- 'laws.FnPairs': WHATEVER THE INPUT: true; the input reads as it did. -/
def fnPairsSpec : ChangeSpec := { name := "fnPairs", fn := fun _ => fun
  | [d] => { results := [.lit (.bool true)], args := [d] }
  | _ => none }
def fnPairsRow : OpenClaim := { program := "ytabeciopggofkaa", sum := "b4abbd0fa6d51f2a203d4a77d6fcacea1b4d0f303afeb9bfab477c42a22870d6", func := "loop.example/g03211/laws.FnPairs", spec := "fnPairs", recurses := true, apart := false }
def FnPairsSaid : Prop := fnPairsRow.holds Try.pinned (OpenSpec.ofChange fnPairsSpec)

/-- ITS FALSE NEIGHBOUR: 'it returns false'. Refute it at one input. -/
def fnPairsWrong : ChangeSpec := { name := "fnPairs", fn := fun _ => fun
  | [d] => { results := [.lit (.bool false)], args := [d] }
  | _ => none }
def FnPairsWrongFalsely : Prop := fnPairsRow.holds Try.pinned (OpenSpec.ofChange fnPairsWrong)

/-- 'laws.FnAssociative': WHATEVER THE INPUT: true; the input reads as it did. -/
def fnAssociativeSpec : ChangeSpec := { name := "fnAssociative", fn := fun _ => fun
  | [d] => { results := [.lit (.bool true)], args := [d] }
  | _ => none }
def fnAssociativeRow : OpenClaim := { program := "ytabeciopggofkaa", sum := "b4abbd0fa6d51f2a203d4a77d6fcacea1b4d0f303afeb9bfab477c42a22870d6", func := "loop.example/g03211/laws.FnAssociative", spec := "fnAssociative", recurses := true, apart := false }
def FnAssociativeSaid : Prop := fnAssociativeRow.holds Try.pinned (OpenSpec.ofChange fnAssociativeSpec)

/-- ITS FALSE NEIGHBOUR: 'it returns false'. Refute it at one input. -/
def fnAssociativeWrong : ChangeSpec := { name := "fnAssociative", fn := fun _ => fun
  | [d] => { results := [.lit (.bool false)], args := [d] }
  | _ => none }
def FnAssociativeWrongFalsely : Prop := fnAssociativeRow.holds Try.pinned (OpenSpec.ofChange fnAssociativeWrong)

/-- 'laws.FnPermuted': WHATEVER THE INPUT: true; the input reads as it did. -/
def fnPermutedSpec : ChangeSpec := { name := "fnPermuted", fn := fun _ => fun
  | [d] => { results := [.lit (.bool true)], args := [d] }
  | _ => none }
def fnPermutedRow : OpenClaim := { program := "ytabeciopggofkaa", sum := "b4abbd0fa6d51f2a203d4a77d6fcacea1b4d0f303afeb9bfab477c42a22870d6", func := "loop.example/g03211/laws.FnPermuted", spec := "fnPermuted", recurses := true, apart := false }
def FnPermutedSaid : Prop := fnPermutedRow.holds Try.pinned (OpenSpec.ofChange fnPermutedSpec)

/-- ITS FALSE NEIGHBOUR: 'it returns false'. Refute it at one input. -/
def fnPermutedWrong : ChangeSpec := { name := "fnPermuted", fn := fun _ => fun
  | [d] => { results := [.lit (.bool false)], args := [d] }
  | _ => none }
def FnPermutedWrongFalsely : Prop := fnPermutedRow.holds Try.pinned (OpenSpec.ofChange fnPermutedWrong)

/-- 'laws.FnLinear': WHATEVER THE INPUT: true; the input reads as it did. -/
def fnLinearSpec : ChangeSpec := { name := "fnLinear", fn := fun _ => fun
  | [d] => { results := [.lit (.bool true)], args := [d] }
  | _ => none }
def fnLinearRow : OpenClaim := { program := "ytabeciopggofkaa", sum := "b4abbd0fa6d51f2a203d4a77d6fcacea1b4d0f303afeb9bfab477c42a22870d6", func := "loop.example/g03211/laws.FnLinear", spec := "fnLinear", recurses := true, apart := false }
def FnLinearSaid : Prop := fnLinearRow.holds Try.pinned (OpenSpec.ofChange fnLinearSpec)

/-- ITS FALSE NEIGHBOUR: 'it returns false'. Refute it at one input. -/
def fnLinearWrong : ChangeSpec := { name := "fnLinear", fn := fun _ => fun
  | [d] => { results := [.lit (.bool false)], args := [d] }
  | _ => none }
def FnLinearWrongFalsely : Prop := fnLinearRow.holds Try.pinned (OpenSpec.ofChange fnLinearWrong)

/-- 'laws.FnDeltas': WHATEVER THE INPUT: true; the input reads as it did. -/
def fnDeltasSpec : ChangeSpec := { name := "fnDeltas", fn := fun _ => fun
  | [d] => { results := [.lit (.bool true)], args := [d] }
  | _ => none }
def fnDeltasRow : OpenClaim := { program := "ytabeciopggofkaa", sum := "b4abbd0fa6d51f2a203d4a77d6fcacea1b4d0f303afeb9bfab477c42a22870d6", func := "loop.example/g03211/laws.FnDeltas", spec := "fnDeltas", recurses := true, apart := false }
def FnDeltasSaid : Prop := fnDeltasRow.holds Try.pinned (OpenSpec.ofChange fnDeltasSpec)

/-- ITS FALSE NEIGHBOUR: 'it returns false'. Refute it at one input. -/
def fnDeltasWrong : ChangeSpec := { name := "fnDeltas", fn := fun _ => fun
  | [d] => { results := [.lit (.bool false)], args := [d] }
  | _ => none }
def FnDeltasWrongFalsely : Prop := fnDeltasRow.holds Try.pinned (OpenSpec.ofChange fnDeltasWrong)

/-- 'laws.FnSlices': WHATEVER THE INPUT: true; the input reads as it did. -/
def fnSlicesSpec : ChangeSpec := { name := "fnSlices", fn := fun _ => fun
  | [d] => { results := [.lit (.bool true)], args := [d] }
  | _ => none }
def fnSlicesRow : OpenClaim := { program := "ytabeciopggofkaa", sum := "b4abbd0fa6d51f2a203d4a77d6fcacea1b4d0f303afeb9bfab477c42a22870d6", func := "loop.example/g03211/laws.FnSlices", spec := "fnSlices", recurses := true, apart := false }
def FnSlicesSaid : Prop := fnSlicesRow.holds Try.pinned (OpenSpec.ofChange fnSlicesSpec)

/-- ITS FALSE NEIGHBOUR: 'it returns false'. Refute it at one input. -/
def fnSlicesWrong : ChangeSpec := { name := "fnSlices", fn := fun _ => fun
  | [d] => { results := [.lit (.bool false)], args := [d] }
  | _ => none }
def FnSlicesWrongFalsely : Prop := fnSlicesRow.holds Try.pinned (OpenSpec.ofChange fnSlicesWrong)

/-- 'laws.FnFused': WHATEVER THE INPUT: true; the input reads as it did. -/
def fnFusedSpec : ChangeSpec := { name := "fnFused", fn := fun _ => fun
  | [d] => { results := [.lit (.bool true)], args := [d] }
  | _ => none }
def fnFusedRow : OpenClaim := { program := "ytabeciopggofkaa", sum := "b4abbd0fa6d51f2a203d4a77d6fcacea1b4d0f303afeb9bfab477c42a22870d6", func := "loop.example/g03211/laws.FnFused", spec := "fnFused", recurses := true, apart := false }
def FnFusedSaid : Prop := fnFusedRow.holds Try.pinned (OpenSpec.ofChange fnFusedSpec)

/-- ITS FALSE NEIGHBOUR: 'it returns false'. Refute it at one input. -/
def fnFusedWrong : ChangeSpec := { name := "fnFused", fn := fun _ => fun
  | [d] => { results := [.lit (.bool false)], args := [d] }
  | _ => none }
def FnFusedWrongFalsely : Prop := fnFusedRow.holds Try.pinned (OpenSpec.ofChange fnFusedWrong)

/- THE SECOND FORM. 'bulk': how many values and letters a reading holds, each counted each time it is reached (what is shared counts as often as it is met; a slice's spare places count too). A statement '..UptoSaid' is the law's where the arguments, and the package variables that the reading takes, are together of bulk at most 1048576: NARROWER than '..Said'. Prove '..Said' where nothing that the law and all that it calls make is longer than what came in: it says more and counts as full. Else prove '..UptoSaid'. A law counts once. -/
mutual
def uptoBulk {H : Type} : DataW H → Nat
  | .lit (.string bytes) => bytes.length + 1
  | .lit _ => 1
  | .nil => 1
  | .ptr d => uptoBulk d + 1
  | .slice elems spare => uptoBulkAll elems + uptoBulkAll spare + 1
  | .agg parts => uptoBulkAll parts + 1
  | .iface _ d => uptoBulk d + 1
  | .map entries => uptoBulkEntries entries + 1
  | .held _ => 1
def uptoBulkAll {H : Type} : List (DataW H) → Nat
  | [] => 0
  | d :: r => uptoBulk d + uptoBulkAll r
def uptoBulkEntries {H : Type} : List (Lit × DataW H) → Nat
  | [] => 0
  | x :: r => uptoBulkEntry x + uptoBulkEntries r
def uptoBulkEntry {H : Type} : Lit × DataW H → Nat
  | (.string bytes, d) => bytes.length + uptoBulk d + 1
  | (_, d) => uptoBulk d + 1
 end
def uptoSmall : (H : Type) → List (DataW H) → Bool := fun _ ds => decide (uptoBulkAll ds ≤ 1048576)
def OpenSpec.upto (s : _root_.Go.ChangeSpec) : _root_.Go.OpenSpec := { _root_.Go.OpenSpec.ofChange s with cond := some uptoSmall }

/-- 'laws.FnImages', WHERE WHAT IT READS IS OF BULK AT MOST 1048576: true; the input reads as it did. -/
def fnImagesUptoRow : OpenClaim := { program := "ytabeciopggofkaa", sum := "b4abbd0fa6d51f2a203d4a77d6fcacea1b4d0f303afeb9bfab477c42a22870d6", func := "loop.example/g03211/laws.FnImages", spec := "fnImages", apart := false, narrowed := true }
def FnImagesUptoSaid : Prop := fnImagesUptoRow.holds Try.pinned (OpenSpec.upto fnImagesSpec)

/-- 'laws.FnPairs', WHERE WHAT IT READS IS OF BULK AT MOST 1048576: true; the input reads as it did. -/
def fnPairsUptoRow : OpenClaim := { program := "ytabeciopggofkaa", sum := "b4abbd0fa6d51f2a203d4a77d6fcacea1b4d0f303afeb9bfab477c42a22870d6", func := "loop.example/g03211/laws.FnPairs", spec := "fnPairs", recurses := true, apart := false, narrowed := true }
def FnPairsUptoSaid : Prop := fnPairsUptoRow.holds Try.pinned (OpenSpec.upto fnPairsSpec)

/-- 'laws.FnAssociative', WHERE WHAT IT READS IS OF BULK AT MOST 1048576: true; the input reads as it did. -/
def fnAssociativeUptoRow : OpenClaim := { program := "ytabeciopggofkaa", sum := "b4abbd0fa6d51f2a203d4a77d6fcacea1b4d0f303afeb9bfab477c42a22870d6", func := "loop.example/g03211/laws.FnAssociative", spec := "fnAssociative", recurses := true, apart := false, narrowed := true }
def FnAssociativeUptoSaid : Prop := fnAssociativeUptoRow.holds Try.pinned (OpenSpec.upto fnAssociativeSpec)

/-- 'laws.FnPermuted', WHERE WHAT IT READS IS OF BULK AT MOST 1048576: true; the input reads as it did. -/
def fnPermutedUptoRow : OpenClaim := { program := "ytabeciopggofkaa", sum := "b4abbd0fa6d51f2a203d4a77d6fcacea1b4d0f303afeb9bfab477c42a22870d6", func := "loop.example/g03211/laws.FnPermuted", spec := "fnPermuted", recurses := true, apart := false, narrowed := true }
def FnPermutedUptoSaid : Prop := fnPermutedUptoRow.holds Try.pinned (OpenSpec.upto fnPermutedSpec)

/-- 'laws.FnLinear', WHERE WHAT IT READS IS OF BULK AT MOST 1048576: true; the input reads as it did. -/
def fnLinearUptoRow : OpenClaim := { program := "ytabeciopggofkaa", sum := "b4abbd0fa6d51f2a203d4a77d6fcacea1b4d0f303afeb9bfab477c42a22870d6", func := "loop.example/g03211/laws.FnLinear", spec := "fnLinear", recurses := true, apart := false, narrowed := true }
def FnLinearUptoSaid : Prop := fnLinearUptoRow.holds Try.pinned (OpenSpec.upto fnLinearSpec)

/-- 'laws.FnDeltas', WHERE WHAT IT READS IS OF BULK AT MOST 1048576: true; the input reads as it did. -/
def fnDeltasUptoRow : OpenClaim := { program := "ytabeciopggofkaa", sum := "b4abbd0fa6d51f2a203d4a77d6fcacea1b4d0f303afeb9bfab477c42a22870d6", func := "loop.example/g03211/laws.FnDeltas", spec := "fnDeltas", recurses := true, apart := false, narrowed := true }
def FnDeltasUptoSaid : Prop := fnDeltasUptoRow.holds Try.pinned (OpenSpec.upto fnDeltasSpec)

/-- 'laws.FnSlices', WHERE WHAT IT READS IS OF BULK AT MOST 1048576: true; the input reads as it did. -/
def fnSlicesUptoRow : OpenClaim := { program := "ytabeciopggofkaa", sum := "b4abbd0fa6d51f2a203d4a77d6fcacea1b4d0f303afeb9bfab477c42a22870d6", func := "loop.example/g03211/laws.FnSlices", spec := "fnSlices", recurses := true, apart := false, narrowed := true }
def FnSlicesUptoSaid : Prop := fnSlicesUptoRow.holds Try.pinned (OpenSpec.upto fnSlicesSpec)

/-- 'laws.FnFused', WHERE WHAT IT READS IS OF BULK AT MOST 1048576: true; the input reads as it did. -/
def fnFusedUptoRow : OpenClaim := { program := "ytabeciopggofkaa", sum := "b4abbd0fa6d51f2a203d4a77d6fcacea1b4d0f303afeb9bfab477c42a22870d6", func := "loop.example/g03211/laws.FnFused", spec := "fnFused", recurses := true, apart := false, narrowed := true }
def FnFusedUptoSaid : Prop := fnFusedUptoRow.holds Try.pinned (OpenSpec.upto fnFusedSpec)

end Rows
end Go.Proofs.Ytabeciopggofkaa
