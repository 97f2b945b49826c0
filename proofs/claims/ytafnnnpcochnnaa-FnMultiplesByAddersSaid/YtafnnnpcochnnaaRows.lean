/-
  No cell of these rows narrows 'for every input' (looked for: loops, veiled, ifaces, maps, wideKeys, modest, calm, conditions, laid).
  DERIVED. THE GIVEN ROWS OF THIS SEAT. 12 by the template 'for every input the law returns true; each argument reads behind the call as it read before'; 0 by the template 'total and deterministic' (their statements: YtafnnnpcochnnaaTotals.lean).
  GIVEN WITH THE SEED: the statements are not yours to turn. If you find one false, say at which input.
  Laid BY PROGRAM, IN A SANDBOX (cutbox-rows.mjs): the forced cells as the released guide's own fill.sh prints them over the translation 99c99825eda6040b… (all of the seat's roots in one cut). By AI agents, Wed Nov 11 2026. No macro, syntax, notation, axiom, sorry.
-/
import Derived.Test.YtafnnnpcochnnaaChecked
import GoSem.Claim
import GoSem.ClaimJoined
import GoSem.ClaimMapViews
import Derived.JoinedTies
import Derived.KernelRfl
namespace Go.Proofs.Ytafnnnpcochnnaa
/- THE CELL 'sum', in the pinned program and in every row, IS THE sha256 OF THE DUMP (.gsa) THAT YtafnnnpcochnnaaProg.lean LOADS. Nothing in Lean hashes anything: it is a label: what it is worth is what the hold of that sum in a sandbox is worth. -/
noncomputable def Try.pinned : Pinned := { name := "ytafnnnpcochnnaa", sum := "99c99825eda6040bcac5681acc43e1aa654e5ef21c7779d315a9e1c271ac3bdb", checked := Try.checked }
namespace Rows
def none {H : Type} : Left H := { results := [], args := [] }

/-- 'laws.FnExactFromWindow': WHATEVER THE INPUT: true; the input reads as it did. -/
def fnExactFromWindowSpec : ChangeSpec := { name := "fnExactFromWindow", fn := fun _ => fun
  | [d1, d2] => { results := [.lit (.bool true)], args := [d1, d2] }
  | _ => none }
def fnExactFromWindowRow : OpenClaim := { program := "ytafnnnpcochnnaa", sum := "99c99825eda6040bcac5681acc43e1aa654e5ef21c7779d315a9e1c271ac3bdb", func := "loop.example/g01098/laws.FnExactFromWindow", spec := "fnExactFromWindow", unfollowed := true, recurses := true, plainKeys := false, apart := false }
def FnExactFromWindowSaid : Prop := fnExactFromWindowRow.holds Try.pinned (OpenSpec.ofChange fnExactFromWindowSpec)

/-- ITS FALSE NEIGHBOUR: 'it returns false'. Refute it at one input. -/
def fnExactFromWindowWrong : ChangeSpec := { name := "fnExactFromWindow", fn := fun _ => fun
  | [d1, d2] => { results := [.lit (.bool false)], args := [d1, d2] }
  | _ => none }
def FnExactFromWindowWrongFalsely : Prop := fnExactFromWindowRow.holds Try.pinned (OpenSpec.ofChange fnExactFromWindowWrong)

/-- 'laws.FnExactSubtractionChain': WHATEVER THE INPUT: true; the input reads as it did. -/
def fnExactSubtractionChainSpec : ChangeSpec := { name := "fnExactSubtractionChain", fn := fun _ => fun
  | [d] => { results := [.lit (.bool true)], args := [d] }
  | _ => none }
def fnExactSubtractionChainRow : OpenClaim := { program := "ytafnnnpcochnnaa", sum := "99c99825eda6040bcac5681acc43e1aa654e5ef21c7779d315a9e1c271ac3bdb", func := "loop.example/g01098/laws.FnExactSubtractionChain", spec := "fnExactSubtractionChain", unfollowed := true, recurses := true, plainKeys := false, apart := false }
def FnExactSubtractionChainSaid : Prop := fnExactSubtractionChainRow.holds Try.pinned (OpenSpec.ofChange fnExactSubtractionChainSpec)

/-- ITS FALSE NEIGHBOUR: 'it returns false'. Refute it at one input. -/
def fnExactSubtractionChainWrong : ChangeSpec := { name := "fnExactSubtractionChain", fn := fun _ => fun
  | [d] => { results := [.lit (.bool false)], args := [d] }
  | _ => none }
def FnExactSubtractionChainWrongFalsely : Prop := fnExactSubtractionChainRow.holds Try.pinned (OpenSpec.ofChange fnExactSubtractionChainWrong)

/-- 'laws.FnExactAllSigned': WHATEVER THE INPUT: true; the input reads as it did. -/
def fnExactAllSignedSpec : ChangeSpec := { name := "fnExactAllSigned", fn := fun _ => fun
  | [d1, d2] => { results := [.lit (.bool true)], args := [d1, d2] }
  | _ => none }
def fnExactAllSignedRow : OpenClaim := { program := "ytafnnnpcochnnaa", sum := "99c99825eda6040bcac5681acc43e1aa654e5ef21c7779d315a9e1c271ac3bdb", func := "loop.example/g01098/laws.FnExactAllSigned", spec := "fnExactAllSigned", unfollowed := true, recurses := true, plainKeys := false, apart := false }
def FnExactAllSignedSaid : Prop := fnExactAllSignedRow.holds Try.pinned (OpenSpec.ofChange fnExactAllSignedSpec)

/-- ITS FALSE NEIGHBOUR: 'it returns false'. Refute it at one input. -/
def fnExactAllSignedWrong : ChangeSpec := { name := "fnExactAllSigned", fn := fun _ => fun
  | [d1, d2] => { results := [.lit (.bool false)], args := [d1, d2] }
  | _ => none }
def FnExactAllSignedWrongFalsely : Prop := fnExactAllSignedRow.holds Try.pinned (OpenSpec.ofChange fnExactAllSignedWrong)

/-- 'laws.FnExactRunAdders': WHATEVER THE INPUT: true; the input reads as it did. -/
def fnExactRunAddersSpec : ChangeSpec := { name := "fnExactRunAdders", fn := fun _ => fun
  | [d1, d2] => { results := [.lit (.bool true)], args := [d1, d2] }
  | _ => none }
def fnExactRunAddersRow : OpenClaim := { program := "ytafnnnpcochnnaa", sum := "99c99825eda6040bcac5681acc43e1aa654e5ef21c7779d315a9e1c271ac3bdb", func := "loop.example/g01098/laws.FnExactRunAdders", spec := "fnExactRunAdders", plainKeys := false, apart := false }
def FnExactRunAddersSaid : Prop := fnExactRunAddersRow.holds Try.pinned (OpenSpec.ofChange fnExactRunAddersSpec)

/-- ITS FALSE NEIGHBOUR: 'it returns false'. Refute it at one input. -/
def fnExactRunAddersWrong : ChangeSpec := { name := "fnExactRunAdders", fn := fun _ => fun
  | [d1, d2] => { results := [.lit (.bool false)], args := [d1, d2] }
  | _ => none }
def FnExactRunAddersWrongFalsely : Prop := fnExactRunAddersRow.holds Try.pinned (OpenSpec.ofChange fnExactRunAddersWrong)

/-- 'laws.FnExactAddersOf': WHATEVER THE INPUT: true; the input reads as it did. -/
def fnExactAddersOfSpec : ChangeSpec := { name := "fnExactAddersOf", fn := fun _ => fun
  | [d] => { results := [.lit (.bool true)], args := [d] }
  | _ => none }
def fnExactAddersOfRow : OpenClaim := { program := "ytafnnnpcochnnaa", sum := "99c99825eda6040bcac5681acc43e1aa654e5ef21c7779d315a9e1c271ac3bdb", func := "loop.example/g01098/laws.FnExactAddersOf", spec := "fnExactAddersOf", unfollowed := true, recurses := true, plainKeys := false, apart := false }
def FnExactAddersOfSaid : Prop := fnExactAddersOfRow.holds Try.pinned (OpenSpec.ofChange fnExactAddersOfSpec)

/-- ITS FALSE NEIGHBOUR: 'it returns false'. Refute it at one input. -/
def fnExactAddersOfWrong : ChangeSpec := { name := "fnExactAddersOf", fn := fun _ => fun
  | [d] => { results := [.lit (.bool false)], args := [d] }
  | _ => none }
def FnExactAddersOfWrongFalsely : Prop := fnExactAddersOfRow.holds Try.pinned (OpenSpec.ofChange fnExactAddersOfWrong)

/-- 'laws.FnSignedTexts': WHATEVER THE INPUT: true; the input reads as it did. -/
def fnSignedTextsSpec : ChangeSpec := { name := "fnSignedTexts", fn := fun _ => fun
  | [d1, d2] => { results := [.lit (.bool true)], args := [d1, d2] }
  | _ => none }
def fnSignedTextsRow : OpenClaim := { program := "ytafnnnpcochnnaa", sum := "99c99825eda6040bcac5681acc43e1aa654e5ef21c7779d315a9e1c271ac3bdb", func := "loop.example/g01098/laws.FnSignedTexts", spec := "fnSignedTexts", unfollowed := true, recurses := true, plainKeys := false, apart := false }
def FnSignedTextsSaid : Prop := fnSignedTextsRow.holds Try.pinned (OpenSpec.ofChange fnSignedTextsSpec)

/-- ITS FALSE NEIGHBOUR: 'it returns false'. Refute it at one input. -/
def fnSignedTextsWrong : ChangeSpec := { name := "fnSignedTexts", fn := fun _ => fun
  | [d1, d2] => { results := [.lit (.bool false)], args := [d1, d2] }
  | _ => none }
def FnSignedTextsWrongFalsely : Prop := fnSignedTextsRow.holds Try.pinned (OpenSpec.ofChange fnSignedTextsWrong)

/-- 'laws.FnAddersAreLinear': WHATEVER THE INPUT: true; the input reads as it did. -/
def fnAddersAreLinearSpec : ChangeSpec := { name := "fnAddersAreLinear", fn := fun _ => fun
  | [d1, d2] => { results := [.lit (.bool true)], args := [d1, d2] }
  | _ => none }
def fnAddersAreLinearRow : OpenClaim := { program := "ytafnnnpcochnnaa", sum := "99c99825eda6040bcac5681acc43e1aa654e5ef21c7779d315a9e1c271ac3bdb", func := "loop.example/g01098/laws.FnAddersAreLinear", spec := "fnAddersAreLinear", plainKeys := false, apart := false }
def FnAddersAreLinearSaid : Prop := fnAddersAreLinearRow.holds Try.pinned (OpenSpec.ofChange fnAddersAreLinearSpec)

/-- ITS FALSE NEIGHBOUR: 'it returns false'. Refute it at one input. -/
def fnAddersAreLinearWrong : ChangeSpec := { name := "fnAddersAreLinear", fn := fun _ => fun
  | [d1, d2] => { results := [.lit (.bool false)], args := [d1, d2] }
  | _ => none }
def FnAddersAreLinearWrongFalsely : Prop := fnAddersAreLinearRow.holds Try.pinned (OpenSpec.ofChange fnAddersAreLinearWrong)

/-- 'laws.FnWindowForms': WHATEVER THE INPUT: true; the input reads as it did. -/
def fnWindowFormsSpec : ChangeSpec := { name := "fnWindowForms", fn := fun _ => fun
  | [d1, d2] => { results := [.lit (.bool true)], args := [d1, d2] }
  | _ => none }
def fnWindowFormsRow : OpenClaim := { program := "ytafnnnpcochnnaa", sum := "99c99825eda6040bcac5681acc43e1aa654e5ef21c7779d315a9e1c271ac3bdb", func := "loop.example/g01098/laws.FnWindowForms", spec := "fnWindowForms", unfollowed := true, recurses := true, plainKeys := false, apart := false }
def FnWindowFormsSaid : Prop := fnWindowFormsRow.holds Try.pinned (OpenSpec.ofChange fnWindowFormsSpec)

/-- ITS FALSE NEIGHBOUR: 'it returns false'. Refute it at one input. -/
def fnWindowFormsWrong : ChangeSpec := { name := "fnWindowForms", fn := fun _ => fun
  | [d1, d2] => { results := [.lit (.bool false)], args := [d1, d2] }
  | _ => none }
def FnWindowFormsWrongFalsely : Prop := fnWindowFormsRow.holds Try.pinned (OpenSpec.ofChange fnWindowFormsWrong)

/-- 'laws.FnSparseForms': WHATEVER THE INPUT: true; the input reads as it did. -/
def fnSparseFormsSpec : ChangeSpec := { name := "fnSparseForms", fn := fun _ => fun
  | [d1, d2] => { results := [.lit (.bool true)], args := [d1, d2] }
  | _ => none }
def fnSparseFormsRow : OpenClaim := { program := "ytafnnnpcochnnaa", sum := "99c99825eda6040bcac5681acc43e1aa654e5ef21c7779d315a9e1c271ac3bdb", func := "loop.example/g01098/laws.FnSparseForms", spec := "fnSparseForms", unfollowed := true, recurses := true, plainKeys := false, apart := false }
def FnSparseFormsSaid : Prop := fnSparseFormsRow.holds Try.pinned (OpenSpec.ofChange fnSparseFormsSpec)

/-- ITS FALSE NEIGHBOUR: 'it returns false'. Refute it at one input. -/
def fnSparseFormsWrong : ChangeSpec := { name := "fnSparseForms", fn := fun _ => fun
  | [d1, d2] => { results := [.lit (.bool false)], args := [d1, d2] }
  | _ => none }
def FnSparseFormsWrongFalsely : Prop := fnSparseFormsRow.holds Try.pinned (OpenSpec.ofChange fnSparseFormsWrong)

/-- 'laws.FnSignedLists': WHATEVER THE INPUT: true; the input reads as it did. -/
def fnSignedListsSpec : ChangeSpec := { name := "fnSignedLists", fn := fun _ => fun
  | [d1, d2] => { results := [.lit (.bool true)], args := [d1, d2] }
  | _ => none }
def fnSignedListsRow : OpenClaim := { program := "ytafnnnpcochnnaa", sum := "99c99825eda6040bcac5681acc43e1aa654e5ef21c7779d315a9e1c271ac3bdb", func := "loop.example/g01098/laws.FnSignedLists", spec := "fnSignedLists", unfollowed := true, recurses := true, plainKeys := false, apart := false }
def FnSignedListsSaid : Prop := fnSignedListsRow.holds Try.pinned (OpenSpec.ofChange fnSignedListsSpec)

/-- ITS FALSE NEIGHBOUR: 'it returns false'. Refute it at one input. -/
def fnSignedListsWrong : ChangeSpec := { name := "fnSignedLists", fn := fun _ => fun
  | [d1, d2] => { results := [.lit (.bool false)], args := [d1, d2] }
  | _ => none }
def FnSignedListsWrongFalsely : Prop := fnSignedListsRow.holds Try.pinned (OpenSpec.ofChange fnSignedListsWrong)

/-- 'laws.FnMultiplesByAdders': WHATEVER THE INPUT: true; the input reads as it did. -/
def fnMultiplesByAddersSpec : ChangeSpec := { name := "fnMultiplesByAdders", fn := fun _ => fun
  | [d1, d2] => { results := [.lit (.bool true)], args := [d1, d2] }
  | _ => none }
def fnMultiplesByAddersRow : OpenClaim := { program := "ytafnnnpcochnnaa", sum := "99c99825eda6040bcac5681acc43e1aa654e5ef21c7779d315a9e1c271ac3bdb", func := "loop.example/g01098/laws.FnMultiplesByAdders", spec := "fnMultiplesByAdders", unfollowed := true, recurses := true, plainKeys := false, apart := false }
def FnMultiplesByAddersSaid : Prop := fnMultiplesByAddersRow.holds Try.pinned (OpenSpec.ofChange fnMultiplesByAddersSpec)

/-- ITS FALSE NEIGHBOUR: 'it returns false'. Refute it at one input. -/
def fnMultiplesByAddersWrong : ChangeSpec := { name := "fnMultiplesByAdders", fn := fun _ => fun
  | [d1, d2] => { results := [.lit (.bool false)], args := [d1, d2] }
  | _ => none }
def FnMultiplesByAddersWrongFalsely : Prop := fnMultiplesByAddersRow.holds Try.pinned (OpenSpec.ofChange fnMultiplesByAddersWrong)

/-- 'laws.FnExactShortestSubtraction': WHATEVER THE INPUT: true; the input reads as it did. -/
def fnExactShortestSubtractionSpec : ChangeSpec := { name := "fnExactShortestSubtraction", fn := fun _ => fun
  | [d1, d2] => { results := [.lit (.bool true)], args := [d1, d2] }
  | _ => none }
def fnExactShortestSubtractionRow : OpenClaim := { program := "ytafnnnpcochnnaa", sum := "99c99825eda6040bcac5681acc43e1aa654e5ef21c7779d315a9e1c271ac3bdb", func := "loop.example/g01098/laws.FnExactShortestSubtraction", spec := "fnExactShortestSubtraction", recurses := true, plainKeys := false, apart := false }
def FnExactShortestSubtractionSaid : Prop := fnExactShortestSubtractionRow.holds Try.pinned (OpenSpec.ofChange fnExactShortestSubtractionSpec)

/-- ITS FALSE NEIGHBOUR: 'it returns false'. Refute it at one input. -/
def fnExactShortestSubtractionWrong : ChangeSpec := { name := "fnExactShortestSubtraction", fn := fun _ => fun
  | [d1, d2] => { results := [.lit (.bool false)], args := [d1, d2] }
  | _ => none }
def FnExactShortestSubtractionWrongFalsely : Prop := fnExactShortestSubtractionRow.holds Try.pinned (OpenSpec.ofChange fnExactShortestSubtractionWrong)

/- THE SECOND FORM. 'bulk': how many values and letters a reading holds, each counted each time it is reached (what is shared counts as often as it is met; a slice's spare places count too). A statement '..UptoSaid' is the law's where the arguments, and the package variables that the reading takes, are together of bulk at most 1048576: NARROWER than '..Said'. Prove '..Said' where nothing that the law and all that it calls make is longer than what came in: it says more and counts as full. Else prove '..UptoSaid'. A law counts once. -/
mutual
def uptoBulk {H : Type} : DataW H → Nat
  | .lit (.string bytes) => bytes.length + 1
  | .lit _ => 1
  | .nil => 1
  | .ptr d => uptoBulk d + 1
  | .slice elems spare => uptoBulkAll elems + uptoBulkAll spare + 1
  | .agg parts => uptoBulkAll parts + 1
  | .iface _ d => uptoBulk d + 1
  | .map entries => uptoBulkEntries entries + 1
  | .held _ => 1
def uptoBulkAll {H : Type} : List (DataW H) → Nat
  | [] => 0
  | d :: r => uptoBulk d + uptoBulkAll r
def uptoBulkEntries {H : Type} : List (Lit × DataW H) → Nat
  | [] => 0
  | x :: r => uptoBulkEntry x + uptoBulkEntries r
def uptoBulkEntry {H : Type} : Lit × DataW H → Nat
  | (.string bytes, d) => bytes.length + uptoBulk d + 1
  | (_, d) => uptoBulk d + 1
 end
def uptoSmall : (H : Type) → List (DataW H) → Bool := fun _ ds => decide (uptoBulkAll ds ≤ 1048576)
def OpenSpec.upto (s : _root_.Go.ChangeSpec) : _root_.Go.OpenSpec := { _root_.Go.OpenSpec.ofChange s with cond := some uptoSmall }

/-- 'laws.FnExactFromWindow', WHERE WHAT IT READS IS OF BULK AT MOST 1048576: true; the input reads as it did. -/
def fnExactFromWindowUptoRow : OpenClaim := { program := "ytafnnnpcochnnaa", sum := "99c99825eda6040bcac5681acc43e1aa654e5ef21c7779d315a9e1c271ac3bdb", func := "loop.example/g01098/laws.FnExactFromWindow", spec := "fnExactFromWindow", unfollowed := true, recurses := true, plainKeys := false, apart := false, narrowed := true }
def FnExactFromWindowUptoSaid : Prop := fnExactFromWindowUptoRow.holds Try.pinned (OpenSpec.upto fnExactFromWindowSpec)

/-- 'laws.FnExactSubtractionChain', WHERE WHAT IT READS IS OF BULK AT MOST 1048576: true; the input reads as it did. -/
def fnExactSubtractionChainUptoRow : OpenClaim := { program := "ytafnnnpcochnnaa", sum := "99c99825eda6040bcac5681acc43e1aa654e5ef21c7779d315a9e1c271ac3bdb", func := "loop.example/g01098/laws.FnExactSubtractionChain", spec := "fnExactSubtractionChain", unfollowed := true, recurses := true, plainKeys := false, apart := false, narrowed := true }
def FnExactSubtractionChainUptoSaid : Prop := fnExactSubtractionChainUptoRow.holds Try.pinned (OpenSpec.upto fnExactSubtractionChainSpec)

/-- 'laws.FnExactAllSigned', WHERE WHAT IT READS IS OF BULK AT MOST 1048576: true; the input reads as it did. -/
def fnExactAllSignedUptoRow : OpenClaim := { program := "ytafnnnpcochnnaa", sum := "99c99825eda6040bcac5681acc43e1aa654e5ef21c7779d315a9e1c271ac3bdb", func := "loop.example/g01098/laws.FnExactAllSigned", spec := "fnExactAllSigned", unfollowed := true, recurses := true, plainKeys := false, apart := false, narrowed := true }
def FnExactAllSignedUptoSaid : Prop := fnExactAllSignedUptoRow.holds Try.pinned (OpenSpec.upto fnExactAllSignedSpec)

/-- 'laws.FnExactRunAdders', WHERE WHAT IT READS IS OF BULK AT MOST 1048576: true; the input reads as it did. -/
def fnExactRunAddersUptoRow : OpenClaim := { program := "ytafnnnpcochnnaa", sum := "99c99825eda6040bcac5681acc43e1aa654e5ef21c7779d315a9e1c271ac3bdb", func := "loop.example/g01098/laws.FnExactRunAdders", spec := "fnExactRunAdders", plainKeys := false, apart := false, narrowed := true }
def FnExactRunAddersUptoSaid : Prop := fnExactRunAddersUptoRow.holds Try.pinned (OpenSpec.upto fnExactRunAddersSpec)

/-- 'laws.FnExactAddersOf', WHERE WHAT IT READS IS OF BULK AT MOST 1048576: true; the input reads as it did. -/
def fnExactAddersOfUptoRow : OpenClaim := { program := "ytafnnnpcochnnaa", sum := "99c99825eda6040bcac5681acc43e1aa654e5ef21c7779d315a9e1c271ac3bdb", func := "loop.example/g01098/laws.FnExactAddersOf", spec := "fnExactAddersOf", unfollowed := true, recurses := true, plainKeys := false, apart := false, narrowed := true }
def FnExactAddersOfUptoSaid : Prop := fnExactAddersOfUptoRow.holds Try.pinned (OpenSpec.upto fnExactAddersOfSpec)

/-- 'laws.FnSignedTexts', WHERE WHAT IT READS IS OF BULK AT MOST 1048576: true; the input reads as it did. -/
def fnSignedTextsUptoRow : OpenClaim := { program := "ytafnnnpcochnnaa", sum := "99c99825eda6040bcac5681acc43e1aa654e5ef21c7779d315a9e1c271ac3bdb", func := "loop.example/g01098/laws.FnSignedTexts", spec := "fnSignedTexts", unfollowed := true, recurses := true, plainKeys := false, apart := false, narrowed := true }
def FnSignedTextsUptoSaid : Prop := fnSignedTextsUptoRow.holds Try.pinned (OpenSpec.upto fnSignedTextsSpec)

/-- 'laws.FnAddersAreLinear', WHERE WHAT IT READS IS OF BULK AT MOST 1048576: true; the input reads as it did. -/
def fnAddersAreLinearUptoRow : OpenClaim := { program := "ytafnnnpcochnnaa", sum := "99c99825eda6040bcac5681acc43e1aa654e5ef21c7779d315a9e1c271ac3bdb", func := "loop.example/g01098/laws.FnAddersAreLinear", spec := "fnAddersAreLinear", plainKeys := false, apart := false, narrowed := true }
def FnAddersAreLinearUptoSaid : Prop := fnAddersAreLinearUptoRow.holds Try.pinned (OpenSpec.upto fnAddersAreLinearSpec)

/-- 'laws.FnWindowForms', WHERE WHAT IT READS IS OF BULK AT MOST 1048576: true; the input reads as it did. -/
def fnWindowFormsUptoRow : OpenClaim := { program := "ytafnnnpcochnnaa", sum := "99c99825eda6040bcac5681acc43e1aa654e5ef21c7779d315a9e1c271ac3bdb", func := "loop.example/g01098/laws.FnWindowForms", spec := "fnWindowForms", unfollowed := true, recurses := true, plainKeys := false, apart := false, narrowed := true }
def FnWindowFormsUptoSaid : Prop := fnWindowFormsUptoRow.holds Try.pinned (OpenSpec.upto fnWindowFormsSpec)

/-- 'laws.FnSparseForms', WHERE WHAT IT READS IS OF BULK AT MOST 1048576: true; the input reads as it did. -/
def fnSparseFormsUptoRow : OpenClaim := { program := "ytafnnnpcochnnaa", sum := "99c99825eda6040bcac5681acc43e1aa654e5ef21c7779d315a9e1c271ac3bdb", func := "loop.example/g01098/laws.FnSparseForms", spec := "fnSparseForms", unfollowed := true, recurses := true, plainKeys := false, apart := false, narrowed := true }
def FnSparseFormsUptoSaid : Prop := fnSparseFormsUptoRow.holds Try.pinned (OpenSpec.upto fnSparseFormsSpec)

/-- 'laws.FnSignedLists', WHERE WHAT IT READS IS OF BULK AT MOST 1048576: true; the input reads as it did. -/
def fnSignedListsUptoRow : OpenClaim := { program := "ytafnnnpcochnnaa", sum := "99c99825eda6040bcac5681acc43e1aa654e5ef21c7779d315a9e1c271ac3bdb", func := "loop.example/g01098/laws.FnSignedLists", spec := "fnSignedLists", unfollowed := true, recurses := true, plainKeys := false, apart := false, narrowed := true }
def FnSignedListsUptoSaid : Prop := fnSignedListsUptoRow.holds Try.pinned (OpenSpec.upto fnSignedListsSpec)

/-- 'laws.FnMultiplesByAdders', WHERE WHAT IT READS IS OF BULK AT MOST 1048576: true; the input reads as it did. -/
def fnMultiplesByAddersUptoRow : OpenClaim := { program := "ytafnnnpcochnnaa", sum := "99c99825eda6040bcac5681acc43e1aa654e5ef21c7779d315a9e1c271ac3bdb", func := "loop.example/g01098/laws.FnMultiplesByAdders", spec := "fnMultiplesByAdders", unfollowed := true, recurses := true, plainKeys := false, apart := false, narrowed := true }
def FnMultiplesByAddersUptoSaid : Prop := fnMultiplesByAddersUptoRow.holds Try.pinned (OpenSpec.upto fnMultiplesByAddersSpec)

/-- 'laws.FnExactShortestSubtraction', WHERE WHAT IT READS IS OF BULK AT MOST 1048576: true; the input reads as it did. -/
def fnExactShortestSubtractionUptoRow : OpenClaim := { program := "ytafnnnpcochnnaa", sum := "99c99825eda6040bcac5681acc43e1aa654e5ef21c7779d315a9e1c271ac3bdb", func := "loop.example/g01098/laws.FnExactShortestSubtraction", spec := "fnExactShortestSubtraction", recurses := true, plainKeys := false, apart := false, narrowed := true }
def FnExactShortestSubtractionUptoSaid : Prop := fnExactShortestSubtractionUptoRow.holds Try.pinned (OpenSpec.upto fnExactShortestSubtractionSpec)

end Rows
end Go.Proofs.Ytafnnnpcochnnaa
