/-
  No cell of these rows narrows 'for every input' (looked for: loops, veiled, ifaces, maps, wideKeys, modest, calm, conditions, laid).
  DERIVED. THE GIVEN ROWS OF THIS SEAT. 3 by the template 'for every input the law returns true; each argument reads behind the call as it read before'; 0 by the template 'total and deterministic' (their statements: YtldbcglgfabopaaTotals.lean).
  GIVEN WITH THE SEED: the statements are not yours to turn. If you find one false, say at which input.
  Laid BY PROGRAM, IN A SANDBOX (cutbox-rows.mjs): the forced cells as the released guide's own fill.sh prints them over the translation 05cee7fba007c000… (all of the seat's roots in one cut). By AI agents, Wed Nov 11 2026. No macro, syntax, notation, axiom, sorry.
-/
import Derived.Test.YtldbcglgfabopaaChecked
import GoSem.Claim
import GoSem.ClaimJoined
import GoSem.ClaimMapViews
import Derived.JoinedTies
import Derived.KernelRfl
namespace Go.Proofs.Ytldbcglgfabopaa
/- THE CELL 'sum', in the pinned program and in every row, IS THE sha256 OF THE DUMP (.gsa) THAT YtldbcglgfabopaaProg.lean LOADS. Nothing in Lean hashes anything: it is a label: what it is worth is what the hold of that sum in a sandbox is worth. -/
noncomputable def Try.pinned : Pinned := { name := "ytldbcglgfabopaa", sum := "05cee7fba007c000ae379f4e1660e0d7d77076850d62c6f8b1047d2a958c0de8", checked := Try.checked }
namespace Rows
def none {H : Type} : Left H := { results := [], args := [] }

/-- 'laws.FnExactAllSigned': WHATEVER THE INPUT: true; the input reads as it did. -/
def fnExactAllSignedSpec : ChangeSpec := { name := "fnExactAllSigned", fn := fun _ => fun
  | [d1, d2] => { results := [.lit (.bool true)], args := [d1, d2] }
  | _ => none }
def fnExactAllSignedRow : OpenClaim := { program := "ytldbcglgfabopaa", sum := "05cee7fba007c000ae379f4e1660e0d7d77076850d62c6f8b1047d2a958c0de8", func := "loop.example/g01098/laws.FnExactAllSigned", spec := "fnExactAllSigned", unfollowed := true, recurses := true, plainKeys := false, apart := false }
def FnExactAllSignedSaid : Prop := fnExactAllSignedRow.holds Try.pinned (OpenSpec.ofChange fnExactAllSignedSpec)

/-- ITS FALSE NEIGHBOUR: 'it returns false'. Refute it at one input. -/
def fnExactAllSignedWrong : ChangeSpec := { name := "fnExactAllSigned", fn := fun _ => fun
  | [d1, d2] => { results := [.lit (.bool false)], args := [d1, d2] }
  | _ => none }
def FnExactAllSignedWrongFalsely : Prop := fnExactAllSignedRow.holds Try.pinned (OpenSpec.ofChange fnExactAllSignedWrong)

/-- 'laws.FnSignedLists': WHATEVER THE INPUT: true; the input reads as it did. -/
def fnSignedListsSpec : ChangeSpec := { name := "fnSignedLists", fn := fun _ => fun
  | [d1, d2] => { results := [.lit (.bool true)], args := [d1, d2] }
  | _ => none }
def fnSignedListsRow : OpenClaim := { program := "ytldbcglgfabopaa", sum := "05cee7fba007c000ae379f4e1660e0d7d77076850d62c6f8b1047d2a958c0de8", func := "loop.example/g01098/laws.FnSignedLists", spec := "fnSignedLists", unfollowed := true, recurses := true, plainKeys := false, apart := false }
def FnSignedListsSaid : Prop := fnSignedListsRow.holds Try.pinned (OpenSpec.ofChange fnSignedListsSpec)

/-- ITS FALSE NEIGHBOUR: 'it returns false'. Refute it at one input. -/
def fnSignedListsWrong : ChangeSpec := { name := "fnSignedLists", fn := fun _ => fun
  | [d1, d2] => { results := [.lit (.bool false)], args := [d1, d2] }
  | _ => none }
def FnSignedListsWrongFalsely : Prop := fnSignedListsRow.holds Try.pinned (OpenSpec.ofChange fnSignedListsWrong)

/-- 'laws.FnExactShortestSubtraction': WHATEVER THE INPUT: true; the input reads as it did. -/
def fnExactShortestSubtractionSpec : ChangeSpec := { name := "fnExactShortestSubtraction", fn := fun _ => fun
  | [d1, d2] => { results := [.lit (.bool true)], args := [d1, d2] }
  | _ => none }
def fnExactShortestSubtractionRow : OpenClaim := { program := "ytldbcglgfabopaa", sum := "05cee7fba007c000ae379f4e1660e0d7d77076850d62c6f8b1047d2a958c0de8", func := "loop.example/g01098/laws.FnExactShortestSubtraction", spec := "fnExactShortestSubtraction", recurses := true, plainKeys := false, apart := false }
def FnExactShortestSubtractionSaid : Prop := fnExactShortestSubtractionRow.holds Try.pinned (OpenSpec.ofChange fnExactShortestSubtractionSpec)

/-- ITS FALSE NEIGHBOUR: 'it returns false'. Refute it at one input. -/
def fnExactShortestSubtractionWrong : ChangeSpec := { name := "fnExactShortestSubtraction", fn := fun _ => fun
  | [d1, d2] => { results := [.lit (.bool false)], args := [d1, d2] }
  | _ => none }
def FnExactShortestSubtractionWrongFalsely : Prop := fnExactShortestSubtractionRow.holds Try.pinned (OpenSpec.ofChange fnExactShortestSubtractionWrong)

/- THE SECOND FORM. 'bulk': how many values and letters a reading holds, each counted each time it is reached (what is shared counts as often as it is met; a slice's spare places count too). A statement '..UptoSaid' is the law's where the arguments, and the package variables that the reading takes, are together of bulk at most 1048576: NARROWER than '..Said'. Prove '..Said' where nothing that the law and all that it calls make is longer than what came in: it says more and counts as full. Else prove '..UptoSaid'. A law counts once. -/
mutual
def uptoBulk {H : Type} : DataW H → Nat
  | .lit (.string bytes) => bytes.length + 1
  | .lit _ => 1
  | .nil => 1
  | .ptr d => uptoBulk d + 1
  | .slice elems spare => uptoBulkAll elems + uptoBulkAll spare + 1
  | .agg parts => uptoBulkAll parts + 1
  | .iface _ d => uptoBulk d + 1
  | .map entries => uptoBulkEntries entries + 1
  | .held _ => 1
def uptoBulkAll {H : Type} : List (DataW H) → Nat
  | [] => 0
  | d :: r => uptoBulk d + uptoBulkAll r
def uptoBulkEntries {H : Type} : List (Lit × DataW H) → Nat
  | [] => 0
  | x :: r => uptoBulkEntry x + uptoBulkEntries r
def uptoBulkEntry {H : Type} : Lit × DataW H → Nat
  | (.string bytes, d) => bytes.length + uptoBulk d + 1
  | (_, d) => uptoBulk d + 1
 end
def uptoSmall : (H : Type) → List (DataW H) → Bool := fun _ ds => decide (uptoBulkAll ds ≤ 1048576)
def OpenSpec.upto (s : _root_.Go.ChangeSpec) : _root_.Go.OpenSpec := { _root_.Go.OpenSpec.ofChange s with cond := some uptoSmall }

/-- 'laws.FnExactAllSigned', WHERE WHAT IT READS IS OF BULK AT MOST 1048576: true; the input reads as it did. -/
def fnExactAllSignedUptoRow : OpenClaim := { program := "ytldbcglgfabopaa", sum := "05cee7fba007c000ae379f4e1660e0d7d77076850d62c6f8b1047d2a958c0de8", func := "loop.example/g01098/laws.FnExactAllSigned", spec := "fnExactAllSigned", unfollowed := true, recurses := true, plainKeys := false, apart := false, narrowed := true }
def FnExactAllSignedUptoSaid : Prop := fnExactAllSignedUptoRow.holds Try.pinned (OpenSpec.upto fnExactAllSignedSpec)

/-- 'laws.FnSignedLists', WHERE WHAT IT READS IS OF BULK AT MOST 1048576: true; the input reads as it did. -/
def fnSignedListsUptoRow : OpenClaim := { program := "ytldbcglgfabopaa", sum := "05cee7fba007c000ae379f4e1660e0d7d77076850d62c6f8b1047d2a958c0de8", func := "loop.example/g01098/laws.FnSignedLists", spec := "fnSignedLists", unfollowed := true, recurses := true, plainKeys := false, apart := false, narrowed := true }
def FnSignedListsUptoSaid : Prop := fnSignedListsUptoRow.holds Try.pinned (OpenSpec.upto fnSignedListsSpec)

/-- 'laws.FnExactShortestSubtraction', WHERE WHAT IT READS IS OF BULK AT MOST 1048576: true; the input reads as it did. -/
def fnExactShortestSubtractionUptoRow : OpenClaim := { program := "ytldbcglgfabopaa", sum := "05cee7fba007c000ae379f4e1660e0d7d77076850d62c6f8b1047d2a958c0de8", func := "loop.example/g01098/laws.FnExactShortestSubtraction", spec := "fnExactShortestSubtraction", recurses := true, plainKeys := false, apart := false, narrowed := true }
def FnExactShortestSubtractionUptoSaid : Prop := fnExactShortestSubtractionUptoRow.holds Try.pinned (OpenSpec.upto fnExactShortestSubtractionSpec)

end Rows
end Go.Proofs.Ytldbcglgfabopaa
