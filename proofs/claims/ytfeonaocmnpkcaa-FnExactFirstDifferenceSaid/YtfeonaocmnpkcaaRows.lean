/-
  No cell of these rows narrows 'for every input' (looked for: loops, veiled, ifaces, maps, wideKeys, modest, calm, conditions, laid).
  DERIVED. THE GIVEN ROWS OF THIS SEAT. 5 by the template 'for every input the law returns true; each argument reads behind the call as it read before'; 0 by the template 'total and deterministic' (their statements: YtfeonaocmnpkcaaTotals.lean).
  GIVEN WITH THE SEED: the statements are not yours to turn. If you find one false, say at which input.
  Laid BY PROGRAM, IN A SANDBOX (cutbox-rows.mjs): the forced cells as the released guide's own fill.sh prints them over the translation 5e85f9b96da26745… (all of the seat's roots in one cut). By AI agents, Wed Nov 11 2026. No macro, syntax, notation, axiom, sorry.
-/
import Derived.Test.YtfeonaocmnpkcaaChecked
import GoSem.Claim
import GoSem.ClaimJoined
import GoSem.ClaimMapViews
import Derived.JoinedTies
import Derived.KernelRfl
namespace Go.Proofs.Ytfeonaocmnpkcaa
/- THE CELL 'sum', in the pinned program and in every row, IS THE sha256 OF THE DUMP (.gsa) THAT YtfeonaocmnpkcaaProg.lean LOADS. Nothing in Lean hashes anything: it is a label: what it is worth is what the hold of that sum in a sandbox is worth. -/
noncomputable def Try.pinned : Pinned := { name := "ytfeonaocmnpkcaa", sum := "5e85f9b96da2674512b12bab4d4611d4b406dce38eaac8eca0031543c7867c20", checked := Try.checked }
namespace Rows
def none {H : Type} : Left H := { results := [], args := [] }

/-- 'laws.FnExactEqualBlocks': WHATEVER THE INPUT: true; the input reads as it did. -/
def fnExactEqualBlocksSpec : ChangeSpec := { name := "fnExactEqualBlocks", fn := fun _ => fun
  | [d1, d2] => { results := [.lit (.bool true)], args := [d1, d2] }
  | _ => none }
def fnExactEqualBlocksRow : OpenClaim := { program := "ytfeonaocmnpkcaa", sum := "5e85f9b96da2674512b12bab4d4611d4b406dce38eaac8eca0031543c7867c20", func := "loop.example/g00856/laws.FnExactEqualBlocks", spec := "fnExactEqualBlocks", unfollowed := true, recurses := true, apart := false }
def FnExactEqualBlocksSaid : Prop := fnExactEqualBlocksRow.holds Try.pinned (OpenSpec.ofChange fnExactEqualBlocksSpec)

/-- ITS FALSE NEIGHBOUR: 'it returns false'. Refute it at one input. -/
def fnExactEqualBlocksWrong : ChangeSpec := { name := "fnExactEqualBlocks", fn := fun _ => fun
  | [d1, d2] => { results := [.lit (.bool false)], args := [d1, d2] }
  | _ => none }
def FnExactEqualBlocksWrongFalsely : Prop := fnExactEqualBlocksRow.holds Try.pinned (OpenSpec.ofChange fnExactEqualBlocksWrong)

/-- 'laws.FnExactBlocksOf': WHATEVER THE INPUT: true; the input reads as it did. -/
def fnExactBlocksOfSpec : ChangeSpec := { name := "fnExactBlocksOf", fn := fun _ => fun
  | [d] => { results := [.lit (.bool true)], args := [d] }
  | _ => none }
def fnExactBlocksOfRow : OpenClaim := { program := "ytfeonaocmnpkcaa", sum := "5e85f9b96da2674512b12bab4d4611d4b406dce38eaac8eca0031543c7867c20", func := "loop.example/g00856/laws.FnExactBlocksOf", spec := "fnExactBlocksOf", unfollowed := true, recurses := true, apart := false }
def FnExactBlocksOfSaid : Prop := fnExactBlocksOfRow.holds Try.pinned (OpenSpec.ofChange fnExactBlocksOfSpec)

/-- ITS FALSE NEIGHBOUR: 'it returns false'. Refute it at one input. -/
def fnExactBlocksOfWrong : ChangeSpec := { name := "fnExactBlocksOf", fn := fun _ => fun
  | [d] => { results := [.lit (.bool false)], args := [d] }
  | _ => none }
def FnExactBlocksOfWrongFalsely : Prop := fnExactBlocksOfRow.holds Try.pinned (OpenSpec.ofChange fnExactBlocksOfWrong)

/-- 'laws.FnExactReduceEvents': WHATEVER THE INPUT: true; the input reads as it did. -/
def fnExactReduceEventsSpec : ChangeSpec := { name := "fnExactReduceEvents", fn := fun _ => fun
  | [d] => { results := [.lit (.bool true)], args := [d] }
  | _ => none }
def fnExactReduceEventsRow : OpenClaim := { program := "ytfeonaocmnpkcaa", sum := "5e85f9b96da2674512b12bab4d4611d4b406dce38eaac8eca0031543c7867c20", func := "loop.example/g00856/laws.FnExactReduceEvents", spec := "fnExactReduceEvents", unfollowed := true, recurses := true, apart := false }
def FnExactReduceEventsSaid : Prop := fnExactReduceEventsRow.holds Try.pinned (OpenSpec.ofChange fnExactReduceEventsSpec)

/-- ITS FALSE NEIGHBOUR: 'it returns false'. Refute it at one input. -/
def fnExactReduceEventsWrong : ChangeSpec := { name := "fnExactReduceEvents", fn := fun _ => fun
  | [d] => { results := [.lit (.bool false)], args := [d] }
  | _ => none }
def FnExactReduceEventsWrongFalsely : Prop := fnExactReduceEventsRow.holds Try.pinned (OpenSpec.ofChange fnExactReduceEventsWrong)

/-- 'laws.FnExactSameFabric': WHATEVER THE INPUT: true; the input reads as it did. -/
def fnExactSameFabricSpec : ChangeSpec := { name := "fnExactSameFabric", fn := fun _ => fun
  | [d1, d2] => { results := [.lit (.bool true)], args := [d1, d2] }
  | _ => none }
def fnExactSameFabricRow : OpenClaim := { program := "ytfeonaocmnpkcaa", sum := "5e85f9b96da2674512b12bab4d4611d4b406dce38eaac8eca0031543c7867c20", func := "loop.example/g00856/laws.FnExactSameFabric", spec := "fnExactSameFabric", unfollowed := true, recurses := true, apart := false }
def FnExactSameFabricSaid : Prop := fnExactSameFabricRow.holds Try.pinned (OpenSpec.ofChange fnExactSameFabricSpec)

/-- ITS FALSE NEIGHBOUR: 'it returns false'. Refute it at one input. -/
def fnExactSameFabricWrong : ChangeSpec := { name := "fnExactSameFabric", fn := fun _ => fun
  | [d1, d2] => { results := [.lit (.bool false)], args := [d1, d2] }
  | _ => none }
def FnExactSameFabricWrongFalsely : Prop := fnExactSameFabricRow.holds Try.pinned (OpenSpec.ofChange fnExactSameFabricWrong)

/-- 'laws.FnExactFirstDifference': WHATEVER THE INPUT: true; the input reads as it did. -/
def fnExactFirstDifferenceSpec : ChangeSpec := { name := "fnExactFirstDifference", fn := fun _ => fun
  | [d1, d2] => { results := [.lit (.bool true)], args := [d1, d2] }
  | _ => none }
def fnExactFirstDifferenceRow : OpenClaim := { program := "ytfeonaocmnpkcaa", sum := "5e85f9b96da2674512b12bab4d4611d4b406dce38eaac8eca0031543c7867c20", func := "loop.example/g00856/laws.FnExactFirstDifference", spec := "fnExactFirstDifference", unfollowed := true, recurses := true, apart := false }
def FnExactFirstDifferenceSaid : Prop := fnExactFirstDifferenceRow.holds Try.pinned (OpenSpec.ofChange fnExactFirstDifferenceSpec)

/-- ITS FALSE NEIGHBOUR: 'it returns false'. Refute it at one input. -/
def fnExactFirstDifferenceWrong : ChangeSpec := { name := "fnExactFirstDifference", fn := fun _ => fun
  | [d1, d2] => { results := [.lit (.bool false)], args := [d1, d2] }
  | _ => none }
def FnExactFirstDifferenceWrongFalsely : Prop := fnExactFirstDifferenceRow.holds Try.pinned (OpenSpec.ofChange fnExactFirstDifferenceWrong)

/- THE SECOND FORM. 'bulk': how many values and letters a reading holds, each counted each time it is reached (what is shared counts as often as it is met; a slice's spare places count too). A statement '..UptoSaid' is the law's where the arguments, and the package variables that the reading takes, are together of bulk at most 1048576: NARROWER than '..Said'. Prove '..Said' where nothing that the law and all that it calls make is longer than what came in: it says more and counts as full. Else prove '..UptoSaid'. A law counts once. -/
mutual
def uptoBulk {H : Type} : DataW H → Nat
  | .lit (.string bytes) => bytes.length + 1
  | .lit _ => 1
  | .nil => 1
  | .ptr d => uptoBulk d + 1
  | .slice elems spare => uptoBulkAll elems + uptoBulkAll spare + 1
  | .agg parts => uptoBulkAll parts + 1
  | .iface _ d => uptoBulk d + 1
  | .map entries => uptoBulkEntries entries + 1
  | .held _ => 1
def uptoBulkAll {H : Type} : List (DataW H) → Nat
  | [] => 0
  | d :: r => uptoBulk d + uptoBulkAll r
def uptoBulkEntries {H : Type} : List (Lit × DataW H) → Nat
  | [] => 0
  | x :: r => uptoBulkEntry x + uptoBulkEntries r
def uptoBulkEntry {H : Type} : Lit × DataW H → Nat
  | (.string bytes, d) => bytes.length + uptoBulk d + 1
  | (_, d) => uptoBulk d + 1
 end
def uptoSmall : (H : Type) → List (DataW H) → Bool := fun _ ds => decide (uptoBulkAll ds ≤ 1048576)
def OpenSpec.upto (s : _root_.Go.ChangeSpec) : _root_.Go.OpenSpec := { _root_.Go.OpenSpec.ofChange s with cond := some uptoSmall }

/-- 'laws.FnExactEqualBlocks', WHERE WHAT IT READS IS OF BULK AT MOST 1048576: true; the input reads as it did. -/
def fnExactEqualBlocksUptoRow : OpenClaim := { program := "ytfeonaocmnpkcaa", sum := "5e85f9b96da2674512b12bab4d4611d4b406dce38eaac8eca0031543c7867c20", func := "loop.example/g00856/laws.FnExactEqualBlocks", spec := "fnExactEqualBlocks", unfollowed := true, recurses := true, apart := false, narrowed := true }
def FnExactEqualBlocksUptoSaid : Prop := fnExactEqualBlocksUptoRow.holds Try.pinned (OpenSpec.upto fnExactEqualBlocksSpec)

/-- 'laws.FnExactBlocksOf', WHERE WHAT IT READS IS OF BULK AT MOST 1048576: true; the input reads as it did. -/
def fnExactBlocksOfUptoRow : OpenClaim := { program := "ytfeonaocmnpkcaa", sum := "5e85f9b96da2674512b12bab4d4611d4b406dce38eaac8eca0031543c7867c20", func := "loop.example/g00856/laws.FnExactBlocksOf", spec := "fnExactBlocksOf", unfollowed := true, recurses := true, apart := false, narrowed := true }
def FnExactBlocksOfUptoSaid : Prop := fnExactBlocksOfUptoRow.holds Try.pinned (OpenSpec.upto fnExactBlocksOfSpec)

/-- 'laws.FnExactReduceEvents', WHERE WHAT IT READS IS OF BULK AT MOST 1048576: true; the input reads as it did. -/
def fnExactReduceEventsUptoRow : OpenClaim := { program := "ytfeonaocmnpkcaa", sum := "5e85f9b96da2674512b12bab4d4611d4b406dce38eaac8eca0031543c7867c20", func := "loop.example/g00856/laws.FnExactReduceEvents", spec := "fnExactReduceEvents", unfollowed := true, recurses := true, apart := false, narrowed := true }
def FnExactReduceEventsUptoSaid : Prop := fnExactReduceEventsUptoRow.holds Try.pinned (OpenSpec.upto fnExactReduceEventsSpec)

/-- 'laws.FnExactSameFabric', WHERE WHAT IT READS IS OF BULK AT MOST 1048576: true; the input reads as it did. -/
def fnExactSameFabricUptoRow : OpenClaim := { program := "ytfeonaocmnpkcaa", sum := "5e85f9b96da2674512b12bab4d4611d4b406dce38eaac8eca0031543c7867c20", func := "loop.example/g00856/laws.FnExactSameFabric", spec := "fnExactSameFabric", unfollowed := true, recurses := true, apart := false, narrowed := true }
def FnExactSameFabricUptoSaid : Prop := fnExactSameFabricUptoRow.holds Try.pinned (OpenSpec.upto fnExactSameFabricSpec)

/-- 'laws.FnExactFirstDifference', WHERE WHAT IT READS IS OF BULK AT MOST 1048576: true; the input reads as it did. -/
def fnExactFirstDifferenceUptoRow : OpenClaim := { program := "ytfeonaocmnpkcaa", sum := "5e85f9b96da2674512b12bab4d4611d4b406dce38eaac8eca0031543c7867c20", func := "loop.example/g00856/laws.FnExactFirstDifference", spec := "fnExactFirstDifference", unfollowed := true, recurses := true, apart := false, narrowed := true }
def FnExactFirstDifferenceUptoSaid : Prop := fnExactFirstDifferenceUptoRow.holds Try.pinned (OpenSpec.upto fnExactFirstDifferenceSpec)

end Rows
end Go.Proofs.Ytfeonaocmnpkcaa
