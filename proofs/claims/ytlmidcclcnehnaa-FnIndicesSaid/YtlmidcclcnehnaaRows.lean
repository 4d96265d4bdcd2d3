/-
  No cell of these rows narrows 'for every input' (looked for: loops, veiled, ifaces, maps, wideKeys, modest, calm, conditions, laid).
  DERIVED. THE GIVEN ROWS OF THIS SEAT. 12 by the template 'for every input the law returns true; each argument reads behind the call as it read before'; 0 by the template 'total and deterministic' (their statements: YtlmidcclcnehnaaTotals.lean).
  GIVEN WITH THE SEED: the statements are not yours to turn. If you find one false, say at which input.
  Laid BY PROGRAM, IN A SANDBOX (cutbox-rows.mjs): the forced cells as the released guide's own fill.sh prints them over the translation a5f6c54f9cb6464e… (all of the seat's roots in one cut). By AI agents, Wed Nov 11 2026. No macro, syntax, notation, axiom, sorry.
-/
import Derived.Test.YtlmidcclcnehnaaChecked
import GoSem.Claim
import GoSem.ClaimJoined
import GoSem.ClaimMapViews
import Derived.JoinedTies
import Derived.KernelRfl
namespace Go.Proofs.Ytlmidcclcnehnaa
/- THE CELL 'sum', in the pinned program and in every row, IS THE sha256 OF THE DUMP (.gsa) THAT YtlmidcclcnehnaaProg.lean LOADS. Nothing in Lean hashes anything: it is a label: what it is worth is what the hold of that sum in a sandbox is worth. -/
noncomputable def Try.pinned : Pinned := { name := "ytlmidcclcnehnaa", sum := "a5f6c54f9cb6464e0a9b986698be3c9382cf99bc84e8315f796996378e02dd56", checked := Try.checked }
namespace Rows
def none {H : Type} : Left H := { results := [], args := [] }

/-- 'laws.FnExactScalarTensor': WHATEVER THE INPUT: true; the input reads as it did. -/
def fnExactScalarTensorSpec : ChangeSpec := { name := "fnExactScalarTensor", fn := fun _ => fun
  | [d1, d2] => { results := [.lit (.bool true)], args := [d1, d2] }
  | _ => none }
def fnExactScalarTensorRow : OpenClaim := { program := "ytlmidcclcnehnaa", sum := "a5f6c54f9cb6464e0a9b986698be3c9382cf99bc84e8315f796996378e02dd56", func := "loop.example/g03211/laws.FnExactScalarTensor", spec := "fnExactScalarTensor", apart := false }
def FnExactScalarTensorSaid : Prop := fnExactScalarTensorRow.holds Try.pinned (OpenSpec.ofChange fnExactScalarTensorSpec)

/-- ITS FALSE NEIGHBOUR: 'it returns false'. Refute it at one input. -/
def fnExactScalarTensorWrong : ChangeSpec := { name := "fnExactScalarTensor", fn := fun _ => fun
  | [d1, d2] => { results := [.lit (.bool false)], args := [d1, d2] }
  | _ => none }
def FnExactScalarTensorWrongFalsely : Prop := fnExactScalarTensorRow.holds Try.pinned (OpenSpec.ofChange fnExactScalarTensorWrong)

/-- 'laws.FnExactAddElem': WHATEVER THE INPUT: true; the input reads as it did. -/
def fnExactAddElemSpec : ChangeSpec := { name := "fnExactAddElem", fn := fun _ => fun
  | [d1, d2, d3] => { results := [.lit (.bool true)], args := [d1, d2, d3] }
  | _ => none }
def fnExactAddElemRow : OpenClaim := { program := "ytlmidcclcnehnaa", sum := "a5f6c54f9cb6464e0a9b986698be3c9382cf99bc84e8315f796996378e02dd56", func := "loop.example/g03211/laws.FnExactAddElem", spec := "fnExactAddElem", apart := false }
def FnExactAddElemSaid : Prop := fnExactAddElemRow.holds Try.pinned (OpenSpec.ofChange fnExactAddElemSpec)

/-- ITS FALSE NEIGHBOUR: 'it returns false'. Refute it at one input. -/
def fnExactAddElemWrong : ChangeSpec := { name := "fnExactAddElem", fn := fun _ => fun
  | [d1, d2, d3] => { results := [.lit (.bool false)], args := [d1, d2, d3] }
  | _ => none }
def FnExactAddElemWrongFalsely : Prop := fnExactAddElemRow.holds Try.pinned (OpenSpec.ofChange fnExactAddElemWrong)

/-- 'laws.FnExactMulElem': WHATEVER THE INPUT: true; the input reads as it did. -/
def fnExactMulElemSpec : ChangeSpec := { name := "fnExactMulElem", fn := fun _ => fun
  | [d1, d2, d3] => { results := [.lit (.bool true)], args := [d1, d2, d3] }
  | _ => none }
def fnExactMulElemRow : OpenClaim := { program := "ytlmidcclcnehnaa", sum := "a5f6c54f9cb6464e0a9b986698be3c9382cf99bc84e8315f796996378e02dd56", func := "loop.example/g03211/laws.FnExactMulElem", spec := "fnExactMulElem", apart := false }
def FnExactMulElemSaid : Prop := fnExactMulElemRow.holds Try.pinned (OpenSpec.ofChange fnExactMulElemSpec)

/-- ITS FALSE NEIGHBOUR: 'it returns false'. Refute it at one input. -/
def fnExactMulElemWrong : ChangeSpec := { name := "fnExactMulElem", fn := fun _ => fun
  | [d1, d2, d3] => { results := [.lit (.bool false)], args := [d1, d2, d3] }
  | _ => none }
def FnExactMulElemWrongFalsely : Prop := fnExactMulElemRow.holds Try.pinned (OpenSpec.ofChange fnExactMulElemWrong)

/-- 'laws.FnExactZeroTensor': WHATEVER THE INPUT: true; the input reads as it did. -/
def fnExactZeroTensorSpec : ChangeSpec := { name := "fnExactZeroTensor", fn := fun _ => fun
  | [d1, d2, d3] => { results := [.lit (.bool true)], args := [d1, d2, d3] }
  | _ => none }
def fnExactZeroTensorRow : OpenClaim := { program := "ytlmidcclcnehnaa", sum := "a5f6c54f9cb6464e0a9b986698be3c9382cf99bc84e8315f796996378e02dd56", func := "loop.example/g03211/laws.FnExactZeroTensor", spec := "fnExactZeroTensor", apart := false }
def FnExactZeroTensorSaid : Prop := fnExactZeroTensorRow.holds Try.pinned (OpenSpec.ofChange fnExactZeroTensorSpec)

/-- ITS FALSE NEIGHBOUR: 'it returns false'. Refute it at one input. -/
def fnExactZeroTensorWrong : ChangeSpec := { name := "fnExactZeroTensor", fn := fun _ => fun
  | [d1, d2, d3] => { results := [.lit (.bool false)], args := [d1, d2, d3] }
  | _ => none }
def FnExactZeroTensorWrongFalsely : Prop := fnExactZeroTensorRow.holds Try.pinned (OpenSpec.ofChange fnExactZeroTensorWrong)

/-- 'laws.FnExactPowElem': WHATEVER THE INPUT: true; the input reads as it did. -/
def fnExactPowElemSpec : ChangeSpec := { name := "fnExactPowElem", fn := fun _ => fun
  | [d1, d2, d3] => { results := [.lit (.bool true)], args := [d1, d2, d3] }
  | _ => none }
def fnExactPowElemRow : OpenClaim := { program := "ytlmidcclcnehnaa", sum := "a5f6c54f9cb6464e0a9b986698be3c9382cf99bc84e8315f796996378e02dd56", func := "loop.example/g03211/laws.FnExactPowElem", spec := "fnExactPowElem", apart := false }
def FnExactPowElemSaid : Prop := fnExactPowElemRow.holds Try.pinned (OpenSpec.ofChange fnExactPowElemSpec)

/-- ITS FALSE NEIGHBOUR: 'it returns false'. Refute it at one input. -/
def fnExactPowElemWrong : ChangeSpec := { name := "fnExactPowElem", fn := fun _ => fun
  | [d1, d2, d3] => { results := [.lit (.bool false)], args := [d1, d2, d3] }
  | _ => none }
def FnExactPowElemWrongFalsely : Prop := fnExactPowElemRow.holds Try.pinned (OpenSpec.ofChange fnExactPowElemWrong)

/-- 'laws.FnExactSumElems': WHATEVER THE INPUT: true; the input reads as it did. -/
def fnExactSumElemsSpec : ChangeSpec := { name := "fnExactSumElems", fn := fun _ => fun
  | [d1, d2] => { results := [.lit (.bool true)], args := [d1, d2] }
  | _ => none }
def fnExactSumElemsRow : OpenClaim := { program := "ytlmidcclcnehnaa", sum := "a5f6c54f9cb6464e0a9b986698be3c9382cf99bc84e8315f796996378e02dd56", func := "loop.example/g03211/laws.FnExactSumElems", spec := "fnExactSumElems", apart := false }
def FnExactSumElemsSaid : Prop := fnExactSumElemsRow.holds Try.pinned (OpenSpec.ofChange fnExactSumElemsSpec)

/-- ITS FALSE NEIGHBOUR: 'it returns false'. Refute it at one input. -/
def fnExactSumElemsWrong : ChangeSpec := { name := "fnExactSumElems", fn := fun _ => fun
  | [d1, d2] => { results := [.lit (.bool false)], args := [d1, d2] }
  | _ => none }
def FnExactSumElemsWrongFalsely : Prop := fnExactSumElemsRow.holds Try.pinned (OpenSpec.ofChange fnExactSumElemsWrong)

/-- 'laws.FnRings': WHATEVER THE INPUT: true; the input reads as it did. -/
def fnRingsSpec : ChangeSpec := { name := "fnRings", fn := fun _ => fun
  | [d] => { results := [.lit (.bool true)], args := [d] }
  | _ => none }
def fnRingsRow : OpenClaim := { program := "ytlmidcclcnehnaa", sum := "a5f6c54f9cb6464e0a9b986698be3c9382cf99bc84e8315f796996378e02dd56", func := "loop.example/g03211/laws.FnRings", spec := "fnRings", apart := false }
def FnRingsSaid : Prop := fnRingsRow.holds Try.pinned (OpenSpec.ofChange fnRingsSpec)

/-- ITS FALSE NEIGHBOUR: 'it returns false'. Refute it at one input. -/
def fnRingsWrong : ChangeSpec := { name := "fnRings", fn := fun _ => fun
  | [d] => { results := [.lit (.bool false)], args := [d] }
  | _ => none }
def FnRingsWrongFalsely : Prop := fnRingsRow.holds Try.pinned (OpenSpec.ofChange fnRingsWrong)

/-- 'laws.FnCounts': WHATEVER THE INPUT: true; the input reads as it did. -/
def fnCountsSpec : ChangeSpec := { name := "fnCounts", fn := fun _ => fun
  | [d] => { results := [.lit (.bool true)], args := [d] }
  | _ => none }
def fnCountsRow : OpenClaim := { program := "ytlmidcclcnehnaa", sum := "a5f6c54f9cb6464e0a9b986698be3c9382cf99bc84e8315f796996378e02dd56", func := "loop.example/g03211/laws.FnCounts", spec := "fnCounts", apart := false }
def FnCountsSaid : Prop := fnCountsRow.holds Try.pinned (OpenSpec.ofChange fnCountsSpec)

/-- ITS FALSE NEIGHBOUR: 'it returns false'. Refute it at one input. -/
def fnCountsWrong : ChangeSpec := { name := "fnCounts", fn := fun _ => fun
  | [d] => { results := [.lit (.bool false)], args := [d] }
  | _ => none }
def FnCountsWrongFalsely : Prop := fnCountsRow.holds Try.pinned (OpenSpec.ofChange fnCountsWrong)

/-- 'laws.FnIndices': WHATEVER THE INPUT: true; the input reads as it did. -/
def fnIndicesSpec : ChangeSpec := { name := "fnIndices", fn := fun _ => fun
  | [d] => { results := [.lit (.bool true)], args := [d] }
  | _ => none }
def fnIndicesRow : OpenClaim := { program := "ytlmidcclcnehnaa", sum := "a5f6c54f9cb6464e0a9b986698be3c9382cf99bc84e8315f796996378e02dd56", func := "loop.example/g03211/laws.FnIndices", spec := "fnIndices", apart := false }
def FnIndicesSaid : Prop := fnIndicesRow.holds Try.pinned (OpenSpec.ofChange fnIndicesSpec)

/-- ITS FALSE NEIGHBOUR: 'it returns false'. Refute it at one input. -/
def fnIndicesWrong : ChangeSpec := { name := "fnIndices", fn := fun _ => fun
  | [d] => { results := [.lit (.bool false)], args := [d] }
  | _ => none }
def FnIndicesWrongFalsely : Prop := fnIndicesRow.holds Try.pinned (OpenSpec.ofChange fnIndicesWrong)

/-- 'laws.FnExactApplyHom': WHATEVER THE INPUT: true; the input reads as it did. -/
def fnExactApplyHomSpec : ChangeSpec := { name := "fnExactApplyHom", fn := fun _ => fun
  | [d1, d2, d3, d4] => { results := [.lit (.bool true)], args := [d1, d2, d3, d4] }
  | _ => none }
def fnExactApplyHomRow : OpenClaim := { program := "ytlmidcclcnehnaa", sum := "a5f6c54f9cb6464e0a9b986698be3c9382cf99bc84e8315f796996378e02dd56", func := "loop.example/g03211/laws.FnExactApplyHom", spec := "fnExactApplyHom", apart := false }
def FnExactApplyHomSaid : Prop := fnExactApplyHomRow.holds Try.pinned (OpenSpec.ofChange fnExactApplyHomSpec)

/-- ITS FALSE NEIGHBOUR: 'it returns false'. Refute it at one input. -/
def fnExactApplyHomWrong : ChangeSpec := { name := "fnExactApplyHom", fn := fun _ => fun
  | [d1, d2, d3, d4] => { results := [.lit (.bool false)], args := [d1, d2, d3, d4] }
  | _ => none }
def FnExactApplyHomWrongFalsely : Prop := fnExactApplyHomRow.holds Try.pinned (OpenSpec.ofChange fnExactApplyHomWrong)

/-- 'laws.FnExactDeltaTensor': WHATEVER THE INPUT: true; the input reads as it did. -/
def fnExactDeltaTensorSpec : ChangeSpec := { name := "fnExactDeltaTensor", fn := fun _ => fun
  | [d1, d2, d3] => { results := [.lit (.bool true)], args := [d1, d2, d3] }
  | _ => none }
def fnExactDeltaTensorRow : OpenClaim := { program := "ytlmidcclcnehnaa", sum := "a5f6c54f9cb6464e0a9b986698be3c9382cf99bc84e8315f796996378e02dd56", func := "loop.example/g03211/laws.FnExactDeltaTensor", spec := "fnExactDeltaTensor", apart := false }
def FnExactDeltaTensorSaid : Prop := fnExactDeltaTensorRow.holds Try.pinned (OpenSpec.ofChange fnExactDeltaTensorSpec)

/-- ITS FALSE NEIGHBOUR: 'it returns false'. Refute it at one input. -/
def fnExactDeltaTensorWrong : ChangeSpec := { name := "fnExactDeltaTensor", fn := fun _ => fun
  | [d1, d2, d3] => { results := [.lit (.bool false)], args := [d1, d2, d3] }
  | _ => none }
def FnExactDeltaTensorWrongFalsely : Prop := fnExactDeltaTensorRow.holds Try.pinned (OpenSpec.ofChange fnExactDeltaTensorWrong)

/-- 'laws.FnHoms': WHATEVER THE INPUT: true; the input reads as it did. -/
def fnHomsSpec : ChangeSpec := { name := "fnHoms", fn := fun _ => fun
  | [d] => { results := [.lit (.bool true)], args := [d] }
  | _ => none }
def fnHomsRow : OpenClaim := { program := "ytlmidcclcnehnaa", sum := "a5f6c54f9cb6464e0a9b986698be3c9382cf99bc84e8315f796996378e02dd56", func := "loop.example/g03211/laws.FnHoms", spec := "fnHoms", apart := false }
def FnHomsSaid : Prop := fnHomsRow.holds Try.pinned (OpenSpec.ofChange fnHomsSpec)

/-- ITS FALSE NEIGHBOUR: 'it returns false'. Refute it at one input. -/
def fnHomsWrong : ChangeSpec := { name := "fnHoms", fn := fun _ => fun
  | [d] => { results := [.lit (.bool false)], args := [d] }
  | _ => none }
def FnHomsWrongFalsely : Prop := fnHomsRow.holds Try.pinned (OpenSpec.ofChange fnHomsWrong)

/- THE SECOND FORM. 'bulk': how many values and letters a reading holds, each counted each time it is reached (what is shared counts as often as it is met; a slice's spare places count too). A statement '..UptoSaid' is the law's where the arguments, and the package variables that the reading takes, are together of bulk at most 1048576: NARROWER than '..Said'. Prove '..Said' where nothing that the law and all that it calls make is longer than what came in: it says more and counts as full. Else prove '..UptoSaid'. A law counts once. -/
mutual
def uptoBulk {H : Type} : DataW H → Nat
  | .lit (.string bytes) => bytes.length + 1
  | .lit _ => 1
  | .nil => 1
  | .ptr d => uptoBulk d + 1
  | .slice elems spare => uptoBulkAll elems + uptoBulkAll spare + 1
  | .agg parts => uptoBulkAll parts + 1
  | .iface _ d => uptoBulk d + 1
  | .map entries => uptoBulkEntries entries + 1
  | .held _ => 1
def uptoBulkAll {H : Type} : List (DataW H) → Nat
  | [] => 0
  | d :: r => uptoBulk d + uptoBulkAll r
def uptoBulkEntries {H : Type} : List (Lit × DataW H) → Nat
  | [] => 0
  | x :: r => uptoBulkEntry x + uptoBulkEntries r
def uptoBulkEntry {H : Type} : Lit × DataW H → Nat
  | (.string bytes, d) => bytes.length + uptoBulk d + 1
  | (_, d) => uptoBulk d + 1
 end
def uptoSmall : (H : Type) → List (DataW H) → Bool := fun _ ds => decide (uptoBulkAll ds ≤ 1048576)
def OpenSpec.upto (s : _root_.Go.ChangeSpec) : _root_.Go.OpenSpec := { _root_.Go.OpenSpec.ofChange s with cond := some uptoSmall }

/-- 'laws.FnExactScalarTensor', WHERE WHAT IT READS IS OF BULK AT MOST 1048576: true; the input reads as it did. -/
def fnExactScalarTensorUptoRow : OpenClaim := { program := "ytlmidcclcnehnaa", sum := "a5f6c54f9cb6464e0a9b986698be3c9382cf99bc84e8315f796996378e02dd56", func := "loop.example/g03211/laws.FnExactScalarTensor", spec := "fnExactScalarTensor", apart := false, narrowed := true }
def FnExactScalarTensorUptoSaid : Prop := fnExactScalarTensorUptoRow.holds Try.pinned (OpenSpec.upto fnExactScalarTensorSpec)

/-- 'laws.FnExactAddElem', WHERE WHAT IT READS IS OF BULK AT MOST 1048576: true; the input reads as it did. -/
def fnExactAddElemUptoRow : OpenClaim := { program := "ytlmidcclcnehnaa", sum := "a5f6c54f9cb6464e0a9b986698be3c9382cf99bc84e8315f796996378e02dd56", func := "loop.example/g03211/laws.FnExactAddElem", spec := "fnExactAddElem", apart := false, narrowed := true }
def FnExactAddElemUptoSaid : Prop := fnExactAddElemUptoRow.holds Try.pinned (OpenSpec.upto fnExactAddElemSpec)

/-- 'laws.FnExactMulElem', WHERE WHAT IT READS IS OF BULK AT MOST 1048576: true; the input reads as it did. -/
def fnExactMulElemUptoRow : OpenClaim := { program := "ytlmidcclcnehnaa", sum := "a5f6c54f9cb6464e0a9b986698be3c9382cf99bc84e8315f796996378e02dd56", func := "loop.example/g03211/laws.FnExactMulElem", spec := "fnExactMulElem", apart := false, narrowed := true }
def FnExactMulElemUptoSaid : Prop := fnExactMulElemUptoRow.holds Try.pinned (OpenSpec.upto fnExactMulElemSpec)

/-- 'laws.FnExactZeroTensor', WHERE WHAT IT READS IS OF BULK AT MOST 1048576: true; the input reads as it did. -/
def fnExactZeroTensorUptoRow : OpenClaim := { program := "ytlmidcclcnehnaa", sum := "a5f6c54f9cb6464e0a9b986698be3c9382cf99bc84e8315f796996378e02dd56", func := "loop.example/g03211/laws.FnExactZeroTensor", spec := "fnExactZeroTensor", apart := false, narrowed := true }
def FnExactZeroTensorUptoSaid : Prop := fnExactZeroTensorUptoRow.holds Try.pinned (OpenSpec.upto fnExactZeroTensorSpec)

/-- 'laws.FnExactPowElem', WHERE WHAT IT READS IS OF BULK AT MOST 1048576: true; the input reads as it did. -/
def fnExactPowElemUptoRow : OpenClaim := { program := "ytlmidcclcnehnaa", sum := "a5f6c54f9cb6464e0a9b986698be3c9382cf99bc84e8315f796996378e02dd56", func := "loop.example/g03211/laws.FnExactPowElem", spec := "fnExactPowElem", apart := false, narrowed := true }
def FnExactPowElemUptoSaid : Prop := fnExactPowElemUptoRow.holds Try.pinned (OpenSpec.upto fnExactPowElemSpec)

/-- 'laws.FnExactSumElems', WHERE WHAT IT READS IS OF BULK AT MOST 1048576: true; the input reads as it did. -/
def fnExactSumElemsUptoRow : OpenClaim := { program := "ytlmidcclcnehnaa", sum := "a5f6c54f9cb6464e0a9b986698be3c9382cf99bc84e8315f796996378e02dd56", func := "loop.example/g03211/laws.FnExactSumElems", spec := "fnExactSumElems", apart := false, narrowed := true }
def FnExactSumElemsUptoSaid : Prop := fnExactSumElemsUptoRow.holds Try.pinned (OpenSpec.upto fnExactSumElemsSpec)

/-- 'laws.FnRings', WHERE WHAT IT READS IS OF BULK AT MOST 1048576: true; the input reads as it did. -/
def fnRingsUptoRow : OpenClaim := { program := "ytlmidcclcnehnaa", sum := "a5f6c54f9cb6464e0a9b986698be3c9382cf99bc84e8315f796996378e02dd56", func := "loop.example/g03211/laws.FnRings", spec := "fnRings", apart := false, narrowed := true }
def FnRingsUptoSaid : Prop := fnRingsUptoRow.holds Try.pinned (OpenSpec.upto fnRingsSpec)

/-- 'laws.FnCounts', WHERE WHAT IT READS IS OF BULK AT MOST 1048576: true; the input reads as it did. -/
def fnCountsUptoRow : OpenClaim := { program := "ytlmidcclcnehnaa", sum := "a5f6c54f9cb6464e0a9b986698be3c9382cf99bc84e8315f796996378e02dd56", func := "loop.example/g03211/laws.FnCounts", spec := "fnCounts", apart := false, narrowed := true }
def FnCountsUptoSaid : Prop := fnCountsUptoRow.holds Try.pinned (OpenSpec.upto fnCountsSpec)

/-- 'laws.FnIndices', WHERE WHAT IT READS IS OF BULK AT MOST 1048576: true; the input reads as it did. -/
def fnIndicesUptoRow : OpenClaim := { program := "ytlmidcclcnehnaa", sum := "a5f6c54f9cb6464e0a9b986698be3c9382cf99bc84e8315f796996378e02dd56", func := "loop.example/g03211/laws.FnIndices", spec := "fnIndices", apart := false, narrowed := true }
def FnIndicesUptoSaid : Prop := fnIndicesUptoRow.holds Try.pinned (OpenSpec.upto fnIndicesSpec)

/-- 'laws.FnExactApplyHom', WHERE WHAT IT READS IS OF BULK AT MOST 1048576: true; the input reads as it did. -/
def fnExactApplyHomUptoRow : OpenClaim := { program := "ytlmidcclcnehnaa", sum := "a5f6c54f9cb6464e0a9b986698be3c9382cf99bc84e8315f796996378e02dd56", func := "loop.example/g03211/laws.FnExactApplyHom", spec := "fnExactApplyHom", apart := false, narrowed := true }
def FnExactApplyHomUptoSaid : Prop := fnExactApplyHomUptoRow.holds Try.pinned (OpenSpec.upto fnExactApplyHomSpec)

/-- 'laws.FnExactDeltaTensor', WHERE WHAT IT READS IS OF BULK AT MOST 1048576: true; the input reads as it did. -/
def fnExactDeltaTensorUptoRow : OpenClaim := { program := "ytlmidcclcnehnaa", sum := "a5f6c54f9cb6464e0a9b986698be3c9382cf99bc84e8315f796996378e02dd56", func := "loop.example/g03211/laws.FnExactDeltaTensor", spec := "fnExactDeltaTensor", apart := false, narrowed := true }
def FnExactDeltaTensorUptoSaid : Prop := fnExactDeltaTensorUptoRow.holds Try.pinned (OpenSpec.upto fnExactDeltaTensorSpec)

/-- 'laws.FnHoms', WHERE WHAT IT READS IS OF BULK AT MOST 1048576: true; the input reads as it did. -/
def fnHomsUptoRow : OpenClaim := { program := "ytlmidcclcnehnaa", sum := "a5f6c54f9cb6464e0a9b986698be3c9382cf99bc84e8315f796996378e02dd56", func := "loop.example/g03211/laws.FnHoms", spec := "fnHoms", apart := false, narrowed := true }
def FnHomsUptoSaid : Prop := fnHomsUptoRow.holds Try.pinned (OpenSpec.upto fnHomsSpec)

end Rows
end Go.Proofs.Ytlmidcclcnehnaa
