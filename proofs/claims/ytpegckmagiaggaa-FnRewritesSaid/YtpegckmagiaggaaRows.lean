/-
  No cell of these rows narrows 'for every input' (looked for: loops, veiled, ifaces, maps, wideKeys, modest, calm, conditions, laid).
  DERIVED. THE GIVEN ROWS OF THIS SEAT. 11 by the template 'for every input the law returns true; each argument reads behind the call as it read before'; 0 by the template 'total and deterministic' (their statements: YtpegckmagiaggaaTotals.lean).
  GIVEN WITH THE SEED: the statements are not yours to turn. If you find one false, say at which input.
  Laid BY PROGRAM, IN A SANDBOX (cutbox-rows.mjs): the forced cells as the released guide's own fill.sh prints them over the translation 378c7994cf40f0bf… (all of the seat's roots in one cut). By AI agents, Wed Nov 11 2026. No macro, syntax, notation, axiom, sorry.
-/
import Derived.Test.YtpegckmagiaggaaChecked
import GoSem.Claim
import GoSem.ClaimJoined
import GoSem.ClaimMapViews
import Derived.JoinedTies
import Derived.KernelRfl
namespace Go.Proofs.Ytpegckmagiaggaa
/- THE CELL 'sum', in the pinned program and in every row, IS THE sha256 OF THE DUMP (.gsa) THAT YtpegckmagiaggaaProg.lean LOADS. Nothing in Lean hashes anything: it is a label: what it is worth is what the hold of that sum in a sandbox is worth. -/
noncomputable def Try.pinned : Pinned := { name := "ytpegckmagiaggaa", sum := "378c7994cf40f0bfe1ba2be0274cc631abdd291af380347a37c06243d01c58c2", checked := Try.checked }
namespace Rows
def none {H : Type} : Left H := { results := [], args := [] }

/-- 'laws.FnForests': WHATEVER THE INPUT: true; the input reads as it did. -/
def fnForestsSpec : ChangeSpec := { name := "fnForests", fn := fun _ => fun
  | [d] => { results := [.lit (.bool true)], args := [d] }
  | _ => none }
def fnForestsRow : OpenClaim := { program := "ytpegckmagiaggaa", sum := "378c7994cf40f0bfe1ba2be0274cc631abdd291af380347a37c06243d01c58c2", func := "loop.example/g03211/laws.FnForests", spec := "fnForests", apart := false }
def FnForestsSaid : Prop := fnForestsRow.holds Try.pinned (OpenSpec.ofChange fnForestsSpec)

/-- ITS FALSE NEIGHBOUR: 'it returns false'. Refute it at one input. -/
def fnForestsWrong : ChangeSpec := { name := "fnForests", fn := fun _ => fun
  | [d] => { results := [.lit (.bool false)], args := [d] }
  | _ => none }
def FnForestsWrongFalsely : Prop := fnForestsRow.holds Try.pinned (OpenSpec.ofChange fnForestsWrong)

/-- 'laws.FnSetLabels': WHATEVER THE INPUT: true; the input reads as it did. -/
def fnSetLabelsSpec : ChangeSpec := { name := "fnSetLabels", fn := fun _ => fun
  | [d] => { results := [.lit (.bool true)], args := [d] }
  | _ => none }
def fnSetLabelsRow : OpenClaim := { program := "ytpegckmagiaggaa", sum := "378c7994cf40f0bfe1ba2be0274cc631abdd291af380347a37c06243d01c58c2", func := "loop.example/g03211/laws.FnSetLabels", spec := "fnSetLabels", apart := false }
def FnSetLabelsSaid : Prop := fnSetLabelsRow.holds Try.pinned (OpenSpec.ofChange fnSetLabelsSpec)

/-- ITS FALSE NEIGHBOUR: 'it returns false'. Refute it at one input. -/
def fnSetLabelsWrong : ChangeSpec := { name := "fnSetLabels", fn := fun _ => fun
  | [d] => { results := [.lit (.bool false)], args := [d] }
  | _ => none }
def FnSetLabelsWrongFalsely : Prop := fnSetLabelsRow.holds Try.pinned (OpenSpec.ofChange fnSetLabelsWrong)

/-- 'laws.FnDefinition': WHATEVER THE INPUT: true; the input reads as it did. -/
def fnDefinitionSpec : ChangeSpec := { name := "fnDefinition", fn := fun _ => fun
  | [d] => { results := [.lit (.bool true)], args := [d] }
  | _ => none }
def fnDefinitionRow : OpenClaim := { program := "ytpegckmagiaggaa", sum := "378c7994cf40f0bfe1ba2be0274cc631abdd291af380347a37c06243d01c58c2", func := "loop.example/g03211/laws.FnDefinition", spec := "fnDefinition", apart := false }
def FnDefinitionSaid : Prop := fnDefinitionRow.holds Try.pinned (OpenSpec.ofChange fnDefinitionSpec)

/-- ITS FALSE NEIGHBOUR: 'it returns false'. Refute it at one input. -/
def fnDefinitionWrong : ChangeSpec := { name := "fnDefinition", fn := fun _ => fun
  | [d] => { results := [.lit (.bool false)], args := [d] }
  | _ => none }
def FnDefinitionWrongFalsely : Prop := fnDefinitionRow.holds Try.pinned (OpenSpec.ofChange fnDefinitionWrong)

/-- 'laws.FnMapped': WHATEVER THE INPUT: true; the input reads as it did. -/
def fnMappedSpec : ChangeSpec := { name := "fnMapped", fn := fun _ => fun
  | [d] => { results := [.lit (.bool true)], args := [d] }
  | _ => none }
def fnMappedRow : OpenClaim := { program := "ytpegckmagiaggaa", sum := "378c7994cf40f0bfe1ba2be0274cc631abdd291af380347a37c06243d01c58c2", func := "loop.example/g03211/laws.FnMapped", spec := "fnMapped", apart := false }
def FnMappedSaid : Prop := fnMappedRow.holds Try.pinned (OpenSpec.ofChange fnMappedSpec)

/-- ITS FALSE NEIGHBOUR: 'it returns false'. Refute it at one input. -/
def fnMappedWrong : ChangeSpec := { name := "fnMapped", fn := fun _ => fun
  | [d] => { results := [.lit (.bool false)], args := [d] }
  | _ => none }
def FnMappedWrongFalsely : Prop := fnMappedRow.holds Try.pinned (OpenSpec.ofChange fnMappedWrong)

/-- 'laws.FnSliced': WHATEVER THE INPUT: true; the input reads as it did. -/
def fnSlicedSpec : ChangeSpec := { name := "fnSliced", fn := fun _ => fun
  | [d] => { results := [.lit (.bool true)], args := [d] }
  | _ => none }
def fnSlicedRow : OpenClaim := { program := "ytpegckmagiaggaa", sum := "378c7994cf40f0bfe1ba2be0274cc631abdd291af380347a37c06243d01c58c2", func := "loop.example/g03211/laws.FnSliced", spec := "fnSliced", apart := false }
def FnSlicedSaid : Prop := fnSlicedRow.holds Try.pinned (OpenSpec.ofChange fnSlicedSpec)

/-- ITS FALSE NEIGHBOUR: 'it returns false'. Refute it at one input. -/
def fnSlicedWrong : ChangeSpec := { name := "fnSliced", fn := fun _ => fun
  | [d] => { results := [.lit (.bool false)], args := [d] }
  | _ => none }
def FnSlicedWrongFalsely : Prop := fnSlicedRow.holds Try.pinned (OpenSpec.ofChange fnSlicedWrong)

/-- 'laws.FnJoined': WHATEVER THE INPUT: true; the input reads as it did. -/
def fnJoinedSpec : ChangeSpec := { name := "fnJoined", fn := fun _ => fun
  | [d] => { results := [.lit (.bool true)], args := [d] }
  | _ => none }
def fnJoinedRow : OpenClaim := { program := "ytpegckmagiaggaa", sum := "378c7994cf40f0bfe1ba2be0274cc631abdd291af380347a37c06243d01c58c2", func := "loop.example/g03211/laws.FnJoined", spec := "fnJoined", apart := false }
def FnJoinedSaid : Prop := fnJoinedRow.holds Try.pinned (OpenSpec.ofChange fnJoinedSpec)

/-- ITS FALSE NEIGHBOUR: 'it returns false'. Refute it at one input. -/
def fnJoinedWrong : ChangeSpec := { name := "fnJoined", fn := fun _ => fun
  | [d] => { results := [.lit (.bool false)], args := [d] }
  | _ => none }
def FnJoinedWrongFalsely : Prop := fnJoinedRow.holds Try.pinned (OpenSpec.ofChange fnJoinedWrong)

/-- 'laws.FnOrders': WHATEVER THE INPUT: true; the input reads as it did. -/
def fnOrdersSpec : ChangeSpec := { name := "fnOrders", fn := fun _ => fun
  | [d] => { results := [.lit (.bool true)], args := [d] }
  | _ => none }
def fnOrdersRow : OpenClaim := { program := "ytpegckmagiaggaa", sum := "378c7994cf40f0bfe1ba2be0274cc631abdd291af380347a37c06243d01c58c2", func := "loop.example/g03211/laws.FnOrders", spec := "fnOrders", apart := false }
def FnOrdersSaid : Prop := fnOrdersRow.holds Try.pinned (OpenSpec.ofChange fnOrdersSpec)

/-- ITS FALSE NEIGHBOUR: 'it returns false'. Refute it at one input. -/
def fnOrdersWrong : ChangeSpec := { name := "fnOrders", fn := fun _ => fun
  | [d] => { results := [.lit (.bool false)], args := [d] }
  | _ => none }
def FnOrdersWrongFalsely : Prop := fnOrdersRow.holds Try.pinned (OpenSpec.ofChange fnOrdersWrong)

/-- 'laws.FnRewrites': WHATEVER THE INPUT: true; the input reads as it did. -/
def fnRewritesSpec : ChangeSpec := { name := "fnRewrites", fn := fun _ => fun
  | [d] => { results := [.lit (.bool true)], args := [d] }
  | _ => none }
def fnRewritesRow : OpenClaim := { program := "ytpegckmagiaggaa", sum := "378c7994cf40f0bfe1ba2be0274cc631abdd291af380347a37c06243d01c58c2", func := "loop.example/g03211/laws.FnRewrites", spec := "fnRewrites", apart := false }
def FnRewritesSaid : Prop := fnRewritesRow.holds Try.pinned (OpenSpec.ofChange fnRewritesSpec)

/-- ITS FALSE NEIGHBOUR: 'it returns false'. Refute it at one input. -/
def fnRewritesWrong : ChangeSpec := { name := "fnRewrites", fn := fun _ => fun
  | [d] => { results := [.lit (.bool false)], args := [d] }
  | _ => none }
def FnRewritesWrongFalsely : Prop := fnRewritesRow.holds Try.pinned (OpenSpec.ofChange fnRewritesWrong)

/-- 'laws.FnFinished': WHATEVER THE INPUT: true; the input reads as it did. -/
def fnFinishedSpec : ChangeSpec := { name := "fnFinished", fn := fun _ => fun
  | [d] => { results := [.lit (.bool true)], args := [d] }
  | _ => none }
def fnFinishedRow : OpenClaim := { program := "ytpegckmagiaggaa", sum := "378c7994cf40f0bfe1ba2be0274cc631abdd291af380347a37c06243d01c58c2", func := "loop.example/g03211/laws.FnFinished", spec := "fnFinished", apart := false }
def FnFinishedSaid : Prop := fnFinishedRow.holds Try.pinned (OpenSpec.ofChange fnFinishedSpec)

/-- ITS FALSE NEIGHBOUR: 'it returns false'. Refute it at one input. -/
def fnFinishedWrong : ChangeSpec := { name := "fnFinished", fn := fun _ => fun
  | [d] => { results := [.lit (.bool false)], args := [d] }
  | _ => none }
def FnFinishedWrongFalsely : Prop := fnFinishedRow.holds Try.pinned (OpenSpec.ofChange fnFinishedWrong)

/-- 'laws.FnBestOrder': WHATEVER THE INPUT: true; the input reads as it did. -/
def fnBestOrderSpec : ChangeSpec := { name := "fnBestOrder", fn := fun _ => fun
  | [d] => { results := [.lit (.bool true)], args := [d] }
  | _ => none }
def fnBestOrderRow : OpenClaim := { program := "ytpegckmagiaggaa", sum := "378c7994cf40f0bfe1ba2be0274cc631abdd291af380347a37c06243d01c58c2", func := "loop.example/g03211/laws.FnBestOrder", spec := "fnBestOrder", recurses := true, apart := false }
def FnBestOrderSaid : Prop := fnBestOrderRow.holds Try.pinned (OpenSpec.ofChange fnBestOrderSpec)

/-- ITS FALSE NEIGHBOUR: 'it returns false'. Refute it at one input. -/
def fnBestOrderWrong : ChangeSpec := { name := "fnBestOrder", fn := fun _ => fun
  | [d] => { results := [.lit (.bool false)], args := [d] }
  | _ => none }
def FnBestOrderWrongFalsely : Prop := fnBestOrderRow.holds Try.pinned (OpenSpec.ofChange fnBestOrderWrong)

/-- 'laws.FnElimination': WHATEVER THE INPUT: true; the input reads as it did. -/
def fnEliminationSpec : ChangeSpec := { name := "fnElimination", fn := fun _ => fun
  | [d] => { results := [.lit (.bool true)], args := [d] }
  | _ => none }
def fnEliminationRow : OpenClaim := { program := "ytpegckmagiaggaa", sum := "378c7994cf40f0bfe1ba2be0274cc631abdd291af380347a37c06243d01c58c2", func := "loop.example/g03211/laws.FnElimination", spec := "fnElimination", apart := false }
def FnEliminationSaid : Prop := fnEliminationRow.holds Try.pinned (OpenSpec.ofChange fnEliminationSpec)

/-- ITS FALSE NEIGHBOUR: 'it returns false'. Refute it at one input. -/
def fnEliminationWrong : ChangeSpec := { name := "fnElimination", fn := fun _ => fun
  | [d] => { results := [.lit (.bool false)], args := [d] }
  | _ => none }
def FnEliminationWrongFalsely : Prop := fnEliminationRow.holds Try.pinned (OpenSpec.ofChange fnEliminationWrong)

/- THE SECOND FORM. 'bulk': how many values and letters a reading holds, each counted each time it is reached (what is shared counts as often as it is met; a slice's spare places count too). A statement '..UptoSaid' is the law's where the arguments, and the package variables that the reading takes, are together of bulk at most 1048576: NARROWER than '..Said'. Prove '..Said' where nothing that the law and all that it calls make is longer than what came in: it says more and counts as full. Else prove '..UptoSaid'. A law counts once. -/
mutual
def uptoBulk {H : Type} : DataW H → Nat
  | .lit (.string bytes) => bytes.length + 1
  | .lit _ => 1
  | .nil => 1
  | .ptr d => uptoBulk d + 1
  | .slice elems spare => uptoBulkAll elems + uptoBulkAll spare + 1
  | .agg parts => uptoBulkAll parts + 1
  | .iface _ d => uptoBulk d + 1
  | .map entries => uptoBulkEntries entries + 1
  | .held _ => 1
def uptoBulkAll {H : Type} : List (DataW H) → Nat
  | [] => 0
  | d :: r => uptoBulk d + uptoBulkAll r
def uptoBulkEntries {H : Type} : List (Lit × DataW H) → Nat
  | [] => 0
  | x :: r => uptoBulkEntry x + uptoBulkEntries r
def uptoBulkEntry {H : Type} : Lit × DataW H → Nat
  | (.string bytes, d) => bytes.length + uptoBulk d + 1
  | (_, d) => uptoBulk d + 1
 end
def uptoSmall : (H : Type) → List (DataW H) → Bool := fun _ ds => decide (uptoBulkAll ds ≤ 1048576)
def OpenSpec.upto (s : _root_.Go.ChangeSpec) : _root_.Go.OpenSpec := { _root_.Go.OpenSpec.ofChange s with cond := some uptoSmall }

/-- 'laws.FnForests', WHERE WHAT IT READS IS OF BULK AT MOST 1048576: true; the input reads as it did. -/
def fnForestsUptoRow : OpenClaim := { program := "ytpegckmagiaggaa", sum := "378c7994cf40f0bfe1ba2be0274cc631abdd291af380347a37c06243d01c58c2", func := "loop.example/g03211/laws.FnForests", spec := "fnForests", apart := false, narrowed := true }
def FnForestsUptoSaid : Prop := fnForestsUptoRow.holds Try.pinned (OpenSpec.upto fnForestsSpec)

/-- 'laws.FnSetLabels', WHERE WHAT IT READS IS OF BULK AT MOST 1048576: true; the input reads as it did. -/
def fnSetLabelsUptoRow : OpenClaim := { program := "ytpegckmagiaggaa", sum := "378c7994cf40f0bfe1ba2be0274cc631abdd291af380347a37c06243d01c58c2", func := "loop.example/g03211/laws.FnSetLabels", spec := "fnSetLabels", apart := false, narrowed := true }
def FnSetLabelsUptoSaid : Prop := fnSetLabelsUptoRow.holds Try.pinned (OpenSpec.upto fnSetLabelsSpec)

/-- 'laws.FnDefinition', WHERE WHAT IT READS IS OF BULK AT MOST 1048576: true; the input reads as it did. -/
def fnDefinitionUptoRow : OpenClaim := { program := "ytpegckmagiaggaa", sum := "378c7994cf40f0bfe1ba2be0274cc631abdd291af380347a37c06243d01c58c2", func := "loop.example/g03211/laws.FnDefinition", spec := "fnDefinition", apart := false, narrowed := true }
def FnDefinitionUptoSaid : Prop := fnDefinitionUptoRow.holds Try.pinned (OpenSpec.upto fnDefinitionSpec)

/-- 'laws.FnMapped', WHERE WHAT IT READS IS OF BULK AT MOST 1048576: true; the input reads as it did. -/
def fnMappedUptoRow : OpenClaim := { program := "ytpegckmagiaggaa", sum := "378c7994cf40f0bfe1ba2be0274cc631abdd291af380347a37c06243d01c58c2", func := "loop.example/g03211/laws.FnMapped", spec := "fnMapped", apart := false, narrowed := true }
def FnMappedUptoSaid : Prop := fnMappedUptoRow.holds Try.pinned (OpenSpec.upto fnMappedSpec)

/-- 'laws.FnSliced', WHERE WHAT IT READS IS OF BULK AT MOST 1048576: true; the input reads as it did. -/
def fnSlicedUptoRow : OpenClaim := { program := "ytpegckmagiaggaa", sum := "378c7994cf40f0bfe1ba2be0274cc631abdd291af380347a37c06243d01c58c2", func := "loop.example/g03211/laws.FnSliced", spec := "fnSliced", apart := false, narrowed := true }
def FnSlicedUptoSaid : Prop := fnSlicedUptoRow.holds Try.pinned (OpenSpec.upto fnSlicedSpec)

/-- 'laws.FnJoined', WHERE WHAT IT READS IS OF BULK AT MOST 1048576: true; the input reads as it did. -/
def fnJoinedUptoRow : OpenClaim := { program := "ytpegckmagiaggaa", sum := "378c7994cf40f0bfe1ba2be0274cc631abdd291af380347a37c06243d01c58c2", func := "loop.example/g03211/laws.FnJoined", spec := "fnJoined", apart := false, narrowed := true }
def FnJoinedUptoSaid : Prop := fnJoinedUptoRow.holds Try.pinned (OpenSpec.upto fnJoinedSpec)

/-- 'laws.FnOrders', WHERE WHAT IT READS IS OF BULK AT MOST 1048576: true; the input reads as it did. -/
def fnOrdersUptoRow : OpenClaim := { program := "ytpegckmagiaggaa", sum := "378c7994cf40f0bfe1ba2be0274cc631abdd291af380347a37c06243d01c58c2", func := "loop.example/g03211/laws.FnOrders", spec := "fnOrders", apart := false, narrowed := true }
def FnOrdersUptoSaid : Prop := fnOrdersUptoRow.holds Try.pinned (OpenSpec.upto fnOrdersSpec)

/-- 'laws.FnRewrites', WHERE WHAT IT READS IS OF BULK AT MOST 1048576: true; the input reads as it did. -/
def fnRewritesUptoRow : OpenClaim := { program := "ytpegckmagiaggaa", sum := "378c7994cf40f0bfe1ba2be0274cc631abdd291af380347a37c06243d01c58c2", func := "loop.example/g03211/laws.FnRewrites", spec := "fnRewrites", apart := false, narrowed := true }
def FnRewritesUptoSaid : Prop := fnRewritesUptoRow.holds Try.pinned (OpenSpec.upto fnRewritesSpec)

/-- 'laws.FnFinished', WHERE WHAT IT READS IS OF BULK AT MOST 1048576: true; the input reads as it did. -/
def fnFinishedUptoRow : OpenClaim := { program := "ytpegckmagiaggaa", sum := "378c7994cf40f0bfe1ba2be0274cc631abdd291af380347a37c06243d01c58c2", func := "loop.example/g03211/laws.FnFinished", spec := "fnFinished", apart := false, narrowed := true }
def FnFinishedUptoSaid : Prop := fnFinishedUptoRow.holds Try.pinned (OpenSpec.upto fnFinishedSpec)

/-- 'laws.FnBestOrder', WHERE WHAT IT READS IS OF BULK AT MOST 1048576: true; the input reads as it did. -/
def fnBestOrderUptoRow : OpenClaim := { program := "ytpegckmagiaggaa", sum := "378c7994cf40f0bfe1ba2be0274cc631abdd291af380347a37c06243d01c58c2", func := "loop.example/g03211/laws.FnBestOrder", spec := "fnBestOrder", recurses := true, apart := false, narrowed := true }
def FnBestOrderUptoSaid : Prop := fnBestOrderUptoRow.holds Try.pinned (OpenSpec.upto fnBestOrderSpec)

/-- 'laws.FnElimination', WHERE WHAT IT READS IS OF BULK AT MOST 1048576: true; the input reads as it did. -/
def fnEliminationUptoRow : OpenClaim := { program := "ytpegckmagiaggaa", sum := "378c7994cf40f0bfe1ba2be0274cc631abdd291af380347a37c06243d01c58c2", func := "loop.example/g03211/laws.FnElimination", spec := "fnElimination", apart := false, narrowed := true }
def FnEliminationUptoSaid : Prop := fnEliminationUptoRow.holds Try.pinned (OpenSpec.upto fnEliminationSpec)

end Rows
end Go.Proofs.Ytpegckmagiaggaa
