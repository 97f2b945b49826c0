/-
  No cell of these rows narrows 'for every input' (looked for: loops, veiled, ifaces, maps, wideKeys, modest, calm, conditions, laid).
  DERIVED. THE GIVEN ROWS OF THIS SEAT. 12 by the template 'for every input the law returns true; each argument reads behind the call as it read before'; 0 by the template 'total and deterministic' (their statements: YtemakeekfgaaeaaTotals.lean).
  GIVEN WITH THE SEED: the statements are not yours to turn. If you find one false, say at which input.
  Laid BY PROGRAM, IN A SANDBOX (cutbox-rows.mjs): the forced cells as the released guide's own fill.sh prints them over the translation 313aa8b1fe7b7248… (all of the seat's roots in one cut). By AI agents, Wed Nov 11 2026. No macro, syntax, notation, axiom, sorry.
-/
import Derived.Test.YtemakeekfgaaeaaChecked
import GoSem.Claim
import GoSem.ClaimJoined
import GoSem.ClaimMapViews
import Derived.JoinedTies
import Derived.KernelRfl
namespace Go.Proofs.Ytemakeekfgaaeaa
/- THE CELL 'sum', in the pinned program and in every row, IS THE sha256 OF THE DUMP (.gsa) THAT YtemakeekfgaaeaaProg.lean LOADS. Nothing in Lean hashes anything: it is a label: what it is worth is what the hold of that sum in a sandbox is worth. -/
noncomputable def Try.pinned : Pinned := { name := "ytemakeekfgaaeaa", sum := "313aa8b1fe7b724841e0c898a0c8457f31a958ba258aacfdf609c1d553749656", checked := Try.checked }
namespace Rows
def none {H : Type} : Left H := { results := [], args := [] }

/-- 'laws.FnExactOneAdder': WHATEVER THE INPUT: true; the input reads as it did. -/
def fnExactOneAdderSpec : ChangeSpec := { name := "fnExactOneAdder", fn := fun _ => fun
  | [d] => { results := [.lit (.bool true)], args := [d] }
  | _ => none }
def fnExactOneAdderRow : OpenClaim := { program := "ytemakeekfgaaeaa", sum := "313aa8b1fe7b724841e0c898a0c8457f31a958ba258aacfdf609c1d553749656", func := "loop.example/g01098/laws.FnExactOneAdder", spec := "fnExactOneAdder", plainKeys := false, apart := false }
def FnExactOneAdderSaid : Prop := fnExactOneAdderRow.holds Try.pinned (OpenSpec.ofChange fnExactOneAdderSpec)

/-- ITS FALSE NEIGHBOUR: 'it returns false'. Refute it at one input. -/
def fnExactOneAdderWrong : ChangeSpec := { name := "fnExactOneAdder", fn := fun _ => fun
  | [d] => { results := [.lit (.bool false)], args := [d] }
  | _ => none }
def FnExactOneAdderWrongFalsely : Prop := fnExactOneAdderRow.holds Try.pinned (OpenSpec.ofChange fnExactOneAdderWrong)

/-- 'laws.FnExactParseSigned': WHATEVER THE INPUT: true; the input reads as it did. -/
def fnExactParseSignedSpec : ChangeSpec := { name := "fnExactParseSigned", fn := fun _ => fun
  | [d] => { results := [.lit (.bool true)], args := [d] }
  | _ => none }
def fnExactParseSignedRow : OpenClaim := { program := "ytemakeekfgaaeaa", sum := "313aa8b1fe7b724841e0c898a0c8457f31a958ba258aacfdf609c1d553749656", func := "loop.example/g01098/laws.FnExactParseSigned", spec := "fnExactParseSigned", plainKeys := false, apart := false }
def FnExactParseSignedSaid : Prop := fnExactParseSignedRow.holds Try.pinned (OpenSpec.ofChange fnExactParseSignedSpec)

/-- ITS FALSE NEIGHBOUR: 'it returns false'. Refute it at one input. -/
def fnExactParseSignedWrong : ChangeSpec := { name := "fnExactParseSigned", fn := fun _ => fun
  | [d] => { results := [.lit (.bool false)], args := [d] }
  | _ => none }
def FnExactParseSignedWrongFalsely : Prop := fnExactParseSignedRow.holds Try.pinned (OpenSpec.ofChange fnExactParseSignedWrong)

/-- 'laws.FnExactWeightOf': WHATEVER THE INPUT: true; the input reads as it did. -/
def fnExactWeightOfSpec : ChangeSpec := { name := "fnExactWeightOf", fn := fun _ => fun
  | [d] => { results := [.lit (.bool true)], args := [d] }
  | _ => none }
def fnExactWeightOfRow : OpenClaim := { program := "ytemakeekfgaaeaa", sum := "313aa8b1fe7b724841e0c898a0c8457f31a958ba258aacfdf609c1d553749656", func := "loop.example/g01098/laws.FnExactWeightOf", spec := "fnExactWeightOf", unfollowed := true, recurses := true, plainKeys := false, apart := false }
def FnExactWeightOfSaid : Prop := fnExactWeightOfRow.holds Try.pinned (OpenSpec.ofChange fnExactWeightOfSpec)

/-- ITS FALSE NEIGHBOUR: 'it returns false'. Refute it at one input. -/
def fnExactWeightOfWrong : ChangeSpec := { name := "fnExactWeightOf", fn := fun _ => fun
  | [d] => { results := [.lit (.bool false)], args := [d] }
  | _ => none }
def FnExactWeightOfWrongFalsely : Prop := fnExactWeightOfRow.holds Try.pinned (OpenSpec.ofChange fnExactWeightOfWrong)

/-- 'laws.FnExactCountSigned': WHATEVER THE INPUT: true; the input reads as it did. -/
def fnExactCountSignedSpec : ChangeSpec := { name := "fnExactCountSigned", fn := fun _ => fun
  | [d1, d2] => { results := [.lit (.bool true)], args := [d1, d2] }
  | _ => none }
def fnExactCountSignedRow : OpenClaim := { program := "ytemakeekfgaaeaa", sum := "313aa8b1fe7b724841e0c898a0c8457f31a958ba258aacfdf609c1d553749656", func := "loop.example/g01098/laws.FnExactCountSigned", spec := "fnExactCountSigned", recurses := true, plainKeys := false, apart := false }
def FnExactCountSignedSaid : Prop := fnExactCountSignedRow.holds Try.pinned (OpenSpec.ofChange fnExactCountSignedSpec)

/-- ITS FALSE NEIGHBOUR: 'it returns false'. Refute it at one input. -/
def fnExactCountSignedWrong : ChangeSpec := { name := "fnExactCountSigned", fn := fun _ => fun
  | [d1, d2] => { results := [.lit (.bool false)], args := [d1, d2] }
  | _ => none }
def FnExactCountSignedWrongFalsely : Prop := fnExactCountSignedRow.holds Try.pinned (OpenSpec.ofChange fnExactCountSignedWrong)

/-- 'laws.FnExactLeastWeight': WHATEVER THE INPUT: true; the input reads as it did. -/
def fnExactLeastWeightSpec : ChangeSpec := { name := "fnExactLeastWeight", fn := fun _ => fun
  | [d1, d2] => { results := [.lit (.bool true)], args := [d1, d2] }
  | _ => none }
def fnExactLeastWeightRow : OpenClaim := { program := "ytemakeekfgaaeaa", sum := "313aa8b1fe7b724841e0c898a0c8457f31a958ba258aacfdf609c1d553749656", func := "loop.example/g01098/laws.FnExactLeastWeight", spec := "fnExactLeastWeight", recurses := true, plainKeys := false, apart := false }
def FnExactLeastWeightSaid : Prop := fnExactLeastWeightRow.holds Try.pinned (OpenSpec.ofChange fnExactLeastWeightSpec)

/-- ITS FALSE NEIGHBOUR: 'it returns false'. Refute it at one input. -/
def fnExactLeastWeightWrong : ChangeSpec := { name := "fnExactLeastWeight", fn := fun _ => fun
  | [d1, d2] => { results := [.lit (.bool false)], args := [d1, d2] }
  | _ => none }
def FnExactLeastWeightWrongFalsely : Prop := fnExactLeastWeightRow.holds Try.pinned (OpenSpec.ofChange fnExactLeastWeightWrong)

/-- 'laws.FnExactSignedDigits': WHATEVER THE INPUT: true; the input reads as it did. -/
def fnExactSignedDigitsSpec : ChangeSpec := { name := "fnExactSignedDigits", fn := fun _ => fun
  | [d] => { results := [.lit (.bool true)], args := [d] }
  | _ => none }
def fnExactSignedDigitsRow : OpenClaim := { program := "ytemakeekfgaaeaa", sum := "313aa8b1fe7b724841e0c898a0c8457f31a958ba258aacfdf609c1d553749656", func := "loop.example/g01098/laws.FnExactSignedDigits", spec := "fnExactSignedDigits", plainKeys := false, apart := false }
def FnExactSignedDigitsSaid : Prop := fnExactSignedDigitsRow.holds Try.pinned (OpenSpec.ofChange fnExactSignedDigitsSpec)

/-- ITS FALSE NEIGHBOUR: 'it returns false'. Refute it at one input. -/
def fnExactSignedDigitsWrong : ChangeSpec := { name := "fnExactSignedDigits", fn := fun _ => fun
  | [d] => { results := [.lit (.bool false)], args := [d] }
  | _ => none }
def FnExactSignedDigitsWrongFalsely : Prop := fnExactSignedDigitsRow.holds Try.pinned (OpenSpec.ofChange fnExactSignedDigitsWrong)

/-- 'laws.FnExactWindowDigits': WHATEVER THE INPUT: true; the input reads as it did. -/
def fnExactWindowDigitsSpec : ChangeSpec := { name := "fnExactWindowDigits", fn := fun _ => fun
  | [d1, d2] => { results := [.lit (.bool true)], args := [d1, d2] }
  | _ => none }
def fnExactWindowDigitsRow : OpenClaim := { program := "ytemakeekfgaaeaa", sum := "313aa8b1fe7b724841e0c898a0c8457f31a958ba258aacfdf609c1d553749656", func := "loop.example/g01098/laws.FnExactWindowDigits", spec := "fnExactWindowDigits", plainKeys := false, apart := false }
def FnExactWindowDigitsSaid : Prop := fnExactWindowDigitsRow.holds Try.pinned (OpenSpec.ofChange fnExactWindowDigitsSpec)

/-- ITS FALSE NEIGHBOUR: 'it returns false'. Refute it at one input. -/
def fnExactWindowDigitsWrong : ChangeSpec := { name := "fnExactWindowDigits", fn := fun _ => fun
  | [d1, d2] => { results := [.lit (.bool false)], args := [d1, d2] }
  | _ => none }
def FnExactWindowDigitsWrongFalsely : Prop := fnExactWindowDigitsRow.holds Try.pinned (OpenSpec.ofChange fnExactWindowDigitsWrong)

/-- 'laws.FnExactSignedText': WHATEVER THE INPUT: true; the input reads as it did. -/
def fnExactSignedTextSpec : ChangeSpec := { name := "fnExactSignedText", fn := fun _ => fun
  | [d] => { results := [.lit (.bool true)], args := [d] }
  | _ => none }
def fnExactSignedTextRow : OpenClaim := { program := "ytemakeekfgaaeaa", sum := "313aa8b1fe7b724841e0c898a0c8457f31a958ba258aacfdf609c1d553749656", func := "loop.example/g01098/laws.FnExactSignedText", spec := "fnExactSignedText", unfollowed := true, recurses := true, plainKeys := false, apart := false }
def FnExactSignedTextSaid : Prop := fnExactSignedTextRow.holds Try.pinned (OpenSpec.ofChange fnExactSignedTextSpec)

/-- ITS FALSE NEIGHBOUR: 'it returns false'. Refute it at one input. -/
def fnExactSignedTextWrong : ChangeSpec := { name := "fnExactSignedText", fn := fun _ => fun
  | [d] => { results := [.lit (.bool false)], args := [d] }
  | _ => none }
def FnExactSignedTextWrongFalsely : Prop := fnExactSignedTextRow.holds Try.pinned (OpenSpec.ofChange fnExactSignedTextWrong)

/-- 'laws.FnExactIsSparseForm': WHATEVER THE INPUT: true; the input reads as it did. -/
def fnExactIsSparseFormSpec : ChangeSpec := { name := "fnExactIsSparseForm", fn := fun _ => fun
  | [d] => { results := [.lit (.bool true)], args := [d] }
  | _ => none }
def fnExactIsSparseFormRow : OpenClaim := { program := "ytemakeekfgaaeaa", sum := "313aa8b1fe7b724841e0c898a0c8457f31a958ba258aacfdf609c1d553749656", func := "loop.example/g01098/laws.FnExactIsSparseForm", spec := "fnExactIsSparseForm", unfollowed := true, recurses := true, plainKeys := false, apart := false }
def FnExactIsSparseFormSaid : Prop := fnExactIsSparseFormRow.holds Try.pinned (OpenSpec.ofChange fnExactIsSparseFormSpec)

/-- ITS FALSE NEIGHBOUR: 'it returns false'. Refute it at one input. -/
def fnExactIsSparseFormWrong : ChangeSpec := { name := "fnExactIsSparseForm", fn := fun _ => fun
  | [d] => { results := [.lit (.bool false)], args := [d] }
  | _ => none }
def FnExactIsSparseFormWrongFalsely : Prop := fnExactIsSparseFormRow.holds Try.pinned (OpenSpec.ofChange fnExactIsSparseFormWrong)

/-- 'laws.FnExactFromSigned': WHATEVER THE INPUT: true; the input reads as it did. -/
def fnExactFromSignedSpec : ChangeSpec := { name := "fnExactFromSigned", fn := fun _ => fun
  | [d] => { results := [.lit (.bool true)], args := [d] }
  | _ => none }
def fnExactFromSignedRow : OpenClaim := { program := "ytemakeekfgaaeaa", sum := "313aa8b1fe7b724841e0c898a0c8457f31a958ba258aacfdf609c1d553749656", func := "loop.example/g01098/laws.FnExactFromSigned", spec := "fnExactFromSigned", unfollowed := true, recurses := true, plainKeys := false, apart := false }
def FnExactFromSignedSaid : Prop := fnExactFromSignedRow.holds Try.pinned (OpenSpec.ofChange fnExactFromSignedSpec)

/-- ITS FALSE NEIGHBOUR: 'it returns false'. Refute it at one input. -/
def fnExactFromSignedWrong : ChangeSpec := { name := "fnExactFromSigned", fn := fun _ => fun
  | [d] => { results := [.lit (.bool false)], args := [d] }
  | _ => none }
def FnExactFromSignedWrongFalsely : Prop := fnExactFromSignedRow.holds Try.pinned (OpenSpec.ofChange fnExactFromSignedWrong)

/-- 'laws.FnExactIsSubtractionChain': WHATEVER THE INPUT: true; the input reads as it did. -/
def fnExactIsSubtractionChainSpec : ChangeSpec := { name := "fnExactIsSubtractionChain", fn := fun _ => fun
  | [d] => { results := [.lit (.bool true)], args := [d] }
  | _ => none }
def fnExactIsSubtractionChainRow : OpenClaim := { program := "ytemakeekfgaaeaa", sum := "313aa8b1fe7b724841e0c898a0c8457f31a958ba258aacfdf609c1d553749656", func := "loop.example/g01098/laws.FnExactIsSubtractionChain", spec := "fnExactIsSubtractionChain", unfollowed := true, recurses := true, plainKeys := false, apart := false }
def FnExactIsSubtractionChainSaid : Prop := fnExactIsSubtractionChainRow.holds Try.pinned (OpenSpec.ofChange fnExactIsSubtractionChainSpec)

/-- ITS FALSE NEIGHBOUR: 'it returns false'. Refute it at one input. -/
def fnExactIsSubtractionChainWrong : ChangeSpec := { name := "fnExactIsSubtractionChain", fn := fun _ => fun
  | [d] => { results := [.lit (.bool false)], args := [d] }
  | _ => none }
def FnExactIsSubtractionChainWrongFalsely : Prop := fnExactIsSubtractionChainRow.holds Try.pinned (OpenSpec.ofChange fnExactIsSubtractionChainWrong)

/-- 'laws.FnExactIsAdders': WHATEVER THE INPUT: true; the input reads as it did. -/
def fnExactIsAddersSpec : ChangeSpec := { name := "fnExactIsAdders", fn := fun _ => fun
  | [d] => { results := [.lit (.bool true)], args := [d] }
  | _ => none }
def fnExactIsAddersRow : OpenClaim := { program := "ytemakeekfgaaeaa", sum := "313aa8b1fe7b724841e0c898a0c8457f31a958ba258aacfdf609c1d553749656", func := "loop.example/g01098/laws.FnExactIsAdders", spec := "fnExactIsAdders", plainKeys := false, apart := false }
def FnExactIsAddersSaid : Prop := fnExactIsAddersRow.holds Try.pinned (OpenSpec.ofChange fnExactIsAddersSpec)

/-- ITS FALSE NEIGHBOUR: 'it returns false'. Refute it at one input. -/
def fnExactIsAddersWrong : ChangeSpec := { name := "fnExactIsAdders", fn := fun _ => fun
  | [d] => { results := [.lit (.bool false)], args := [d] }
  | _ => none }
def FnExactIsAddersWrongFalsely : Prop := fnExactIsAddersRow.holds Try.pinned (OpenSpec.ofChange fnExactIsAddersWrong)

/- THE SECOND FORM. 'bulk': how many values and letters a reading holds, each counted each time it is reached (what is shared counts as often as it is met; a slice's spare places count too). A statement '..UptoSaid' is the law's where the arguments, and the package variables that the reading takes, are together of bulk at most 1048576: NARROWER than '..Said'. Prove '..Said' where nothing that the law and all that it calls make is longer than what came in: it says more and counts as full. Else prove '..UptoSaid'. A law counts once. -/
mutual
def uptoBulk {H : Type} : DataW H → Nat
  | .lit (.string bytes) => bytes.length + 1
  | .lit _ => 1
  | .nil => 1
  | .ptr d => uptoBulk d + 1
  | .slice elems spare => uptoBulkAll elems + uptoBulkAll spare + 1
  | .agg parts => uptoBulkAll parts + 1
  | .iface _ d => uptoBulk d + 1
  | .map entries => uptoBulkEntries entries + 1
  | .held _ => 1
def uptoBulkAll {H : Type} : List (DataW H) → Nat
  | [] => 0
  | d :: r => uptoBulk d + uptoBulkAll r
def uptoBulkEntries {H : Type} : List (Lit × DataW H) → Nat
  | [] => 0
  | x :: r => uptoBulkEntry x + uptoBulkEntries r
def uptoBulkEntry {H : Type} : Lit × DataW H → Nat
  | (.string bytes, d) => bytes.length + uptoBulk d + 1
  | (_, d) => uptoBulk d + 1
 end
def uptoSmall : (H : Type) → List (DataW H) → Bool := fun _ ds => decide (uptoBulkAll ds ≤ 1048576)
def OpenSpec.upto (s : _root_.Go.ChangeSpec) : _root_.Go.OpenSpec := { _root_.Go.OpenSpec.ofChange s with cond := some uptoSmall }

/-- 'laws.FnExactOneAdder', WHERE WHAT IT READS IS OF BULK AT MOST 1048576: true; the input reads as it did. -/
def fnExactOneAdderUptoRow : OpenClaim := { program := "ytemakeekfgaaeaa", sum := "313aa8b1fe7b724841e0c898a0c8457f31a958ba258aacfdf609c1d553749656", func := "loop.example/g01098/laws.FnExactOneAdder", spec := "fnExactOneAdder", plainKeys := false, apart := false, narrowed := true }
def FnExactOneAdderUptoSaid : Prop := fnExactOneAdderUptoRow.holds Try.pinned (OpenSpec.upto fnExactOneAdderSpec)

/-- 'laws.FnExactParseSigned', WHERE WHAT IT READS IS OF BULK AT MOST 1048576: true; the input reads as it did. -/
def fnExactParseSignedUptoRow : OpenClaim := { program := "ytemakeekfgaaeaa", sum := "313aa8b1fe7b724841e0c898a0c8457f31a958ba258aacfdf609c1d553749656", func := "loop.example/g01098/laws.FnExactParseSigned", spec := "fnExactParseSigned", plainKeys := false, apart := false, narrowed := true }
def FnExactParseSignedUptoSaid : Prop := fnExactParseSignedUptoRow.holds Try.pinned (OpenSpec.upto fnExactParseSignedSpec)

/-- 'laws.FnExactWeightOf', WHERE WHAT IT READS IS OF BULK AT MOST 1048576: true; the input reads as it did. -/
def fnExactWeightOfUptoRow : OpenClaim := { program := "ytemakeekfgaaeaa", sum := "313aa8b1fe7b724841e0c898a0c8457f31a958ba258aacfdf609c1d553749656", func := "loop.example/g01098/laws.FnExactWeightOf", spec := "fnExactWeightOf", unfollowed := true, recurses := true, plainKeys := false, apart := false, narrowed := true }
def FnExactWeightOfUptoSaid : Prop := fnExactWeightOfUptoRow.holds Try.pinned (OpenSpec.upto fnExactWeightOfSpec)

/-- 'laws.FnExactCountSigned', WHERE WHAT IT READS IS OF BULK AT MOST 1048576: true; the input reads as it did. -/
def fnExactCountSignedUptoRow : OpenClaim := { program := "ytemakeekfgaaeaa", sum := "313aa8b1fe7b724841e0c898a0c8457f31a958ba258aacfdf609c1d553749656", func := "loop.example/g01098/laws.FnExactCountSigned", spec := "fnExactCountSigned", recurses := true, plainKeys := false, apart := false, narrowed := true }
def FnExactCountSignedUptoSaid : Prop := fnExactCountSignedUptoRow.holds Try.pinned (OpenSpec.upto fnExactCountSignedSpec)

/-- 'laws.FnExactLeastWeight', WHERE WHAT IT READS IS OF BULK AT MOST 1048576: true; the input reads as it did. -/
def fnExactLeastWeightUptoRow : OpenClaim := { program := "ytemakeekfgaaeaa", sum := "313aa8b1fe7b724841e0c898a0c8457f31a958ba258aacfdf609c1d553749656", func := "loop.example/g01098/laws.FnExactLeastWeight", spec := "fnExactLeastWeight", recurses := true, plainKeys := false, apart := false, narrowed := true }
def FnExactLeastWeightUptoSaid : Prop := fnExactLeastWeightUptoRow.holds Try.pinned (OpenSpec.upto fnExactLeastWeightSpec)

/-- 'laws.FnExactSignedDigits', WHERE WHAT IT READS IS OF BULK AT MOST 1048576: true; the input reads as it did. -/
def fnExactSignedDigitsUptoRow : OpenClaim := { program := "ytemakeekfgaaeaa", sum := "313aa8b1fe7b724841e0c898a0c8457f31a958ba258aacfdf609c1d553749656", func := "loop.example/g01098/laws.FnExactSignedDigits", spec := "fnExactSignedDigits", plainKeys := false, apart := false, narrowed := true }
def FnExactSignedDigitsUptoSaid : Prop := fnExactSignedDigitsUptoRow.holds Try.pinned (OpenSpec.upto fnExactSignedDigitsSpec)

/-- 'laws.FnExactWindowDigits', WHERE WHAT IT READS IS OF BULK AT MOST 1048576: true; the input reads as it did. -/
def fnExactWindowDigitsUptoRow : OpenClaim := { program := "ytemakeekfgaaeaa", sum := "313aa8b1fe7b724841e0c898a0c8457f31a958ba258aacfdf609c1d553749656", func := "loop.example/g01098/laws.FnExactWindowDigits", spec := "fnExactWindowDigits", plainKeys := false, apart := false, narrowed := true }
def FnExactWindowDigitsUptoSaid : Prop := fnExactWindowDigitsUptoRow.holds Try.pinned (OpenSpec.upto fnExactWindowDigitsSpec)

/-- 'laws.FnExactSignedText', WHERE WHAT IT READS IS OF BULK AT MOST 1048576: true; the input reads as it did. -/
def fnExactSignedTextUptoRow : OpenClaim := { program := "ytemakeekfgaaeaa", sum := "313aa8b1fe7b724841e0c898a0c8457f31a958ba258aacfdf609c1d553749656", func := "loop.example/g01098/laws.FnExactSignedText", spec := "fnExactSignedText", unfollowed := true, recurses := true, plainKeys := false, apart := false, narrowed := true }
def FnExactSignedTextUptoSaid : Prop := fnExactSignedTextUptoRow.holds Try.pinned (OpenSpec.upto fnExactSignedTextSpec)

/-- 'laws.FnExactIsSparseForm', WHERE WHAT IT READS IS OF BULK AT MOST 1048576: true; the input reads as it did. -/
def fnExactIsSparseFormUptoRow : OpenClaim := { program := "ytemakeekfgaaeaa", sum := "313aa8b1fe7b724841e0c898a0c8457f31a958ba258aacfdf609c1d553749656", func := "loop.example/g01098/laws.FnExactIsSparseForm", spec := "fnExactIsSparseForm", unfollowed := true, recurses := true, plainKeys := false, apart := false, narrowed := true }
def FnExactIsSparseFormUptoSaid : Prop := fnExactIsSparseFormUptoRow.holds Try.pinned (OpenSpec.upto fnExactIsSparseFormSpec)

/-- 'laws.FnExactFromSigned', WHERE WHAT IT READS IS OF BULK AT MOST 1048576: true; the input reads as it did. -/
def fnExactFromSignedUptoRow : OpenClaim := { program := "ytemakeekfgaaeaa", sum := "313aa8b1fe7b724841e0c898a0c8457f31a958ba258aacfdf609c1d553749656", func := "loop.example/g01098/laws.FnExactFromSigned", spec := "fnExactFromSigned", unfollowed := true, recurses := true, plainKeys := false, apart := false, narrowed := true }
def FnExactFromSignedUptoSaid : Prop := fnExactFromSignedUptoRow.holds Try.pinned (OpenSpec.upto fnExactFromSignedSpec)

/-- 'laws.FnExactIsSubtractionChain', WHERE WHAT IT READS IS OF BULK AT MOST 1048576: true; the input reads as it did. -/
def fnExactIsSubtractionChainUptoRow : OpenClaim := { program := "ytemakeekfgaaeaa", sum := "313aa8b1fe7b724841e0c898a0c8457f31a958ba258aacfdf609c1d553749656", func := "loop.example/g01098/laws.FnExactIsSubtractionChain", spec := "fnExactIsSubtractionChain", unfollowed := true, recurses := true, plainKeys := false, apart := false, narrowed := true }
def FnExactIsSubtractionChainUptoSaid : Prop := fnExactIsSubtractionChainUptoRow.holds Try.pinned (OpenSpec.upto fnExactIsSubtractionChainSpec)

/-- 'laws.FnExactIsAdders', WHERE WHAT IT READS IS OF BULK AT MOST 1048576: true; the input reads as it did. -/
def fnExactIsAddersUptoRow : OpenClaim := { program := "ytemakeekfgaaeaa", sum := "313aa8b1fe7b724841e0c898a0c8457f31a958ba258aacfdf609c1d553749656", func := "loop.example/g01098/laws.FnExactIsAdders", spec := "fnExactIsAdders", plainKeys := false, apart := false, narrowed := true }
def FnExactIsAddersUptoSaid : Prop := fnExactIsAddersUptoRow.holds Try.pinned (OpenSpec.upto fnExactIsAddersSpec)

end Rows
end Go.Proofs.Ytemakeekfgaaeaa
