/-
  No cell of these rows narrows 'for every input' (looked for: loops, veiled, ifaces, maps, wideKeys, modest, calm, conditions, laid).
  DERIVED. THE GIVEN ROWS OF THIS SEAT. 9 by the template 'for every input the law returns true; each argument reads behind the call as it read before'; 0 by the template 'total and deterministic' (their statements: YtogaellhkjjeaaaTotals.lean).
  GIVEN WITH THE SEED: the statements are not yours to turn. If you find one false, say at which input.
  Laid BY PROGRAM, IN A SANDBOX (cutbox-rows.mjs): the forced cells as the released guide's own fill.sh prints them over the translation 02a9c5081635027d… (all of the seat's roots in one cut). By AI agents, Wed Nov 11 2026. No macro, syntax, notation, axiom, sorry.
-/
import Derived.Test.YtogaellhkjjeaaaChecked
import GoSem.Claim
import GoSem.ClaimJoined
import GoSem.ClaimMapViews
import Derived.JoinedTies
import Derived.KernelRfl
namespace Go.Proofs.Ytogaellhkjjeaaa
/- THE CELL 'sum', in the pinned program and in every row, IS THE sha256 OF THE DUMP (.gsa) THAT YtogaellhkjjeaaaProg.lean LOADS. Nothing in Lean hashes anything: it is a label: what it is worth is what the hold of that sum in a sandbox is worth. -/
noncomputable def Try.pinned : Pinned := { name := "ytogaellhkjjeaaa", sum := "02a9c5081635027d6a4ea71500b0f8543d96210c5e2b642c4f483d58f10ed83b", checked := Try.checked }
namespace Rows
def none {H : Type} : Left H := { results := [], args := [] }

/-- 'laws.FnYarn': WHATEVER THE INPUT: true; the input reads as it did. -/
def fnYarnSpec : ChangeSpec := { name := "fnYarn", fn := fun _ => fun
  | [d] => { results := [.lit (.bool true)], args := [d] }
  | _ => none }
def fnYarnRow : OpenClaim := { program := "ytogaellhkjjeaaa", sum := "02a9c5081635027d6a4ea71500b0f8543d96210c5e2b642c4f483d58f10ed83b", func := "loop.example/g00856/laws.FnYarn", spec := "fnYarn", apart := false }
def FnYarnSaid : Prop := fnYarnRow.holds Try.pinned (OpenSpec.ofChange fnYarnSpec)

/-- ITS FALSE NEIGHBOUR: 'it returns false'. Refute it at one input. -/
def fnYarnWrong : ChangeSpec := { name := "fnYarn", fn := fun _ => fun
  | [d] => { results := [.lit (.bool false)], args := [d] }
  | _ => none }
def FnYarnWrongFalsely : Prop := fnYarnRow.holds Try.pinned (OpenSpec.ofChange fnYarnWrong)

/-- 'laws.FnFabric': WHATEVER THE INPUT: true; the input reads as it did. -/
def fnFabricSpec : ChangeSpec := { name := "fnFabric", fn := fun _ => fun
  | [d] => { results := [.lit (.bool true)], args := [d] }
  | _ => none }
def fnFabricRow : OpenClaim := { program := "ytogaellhkjjeaaa", sum := "02a9c5081635027d6a4ea71500b0f8543d96210c5e2b642c4f483d58f10ed83b", func := "loop.example/g00856/laws.FnFabric", spec := "fnFabric", apart := false }
def FnFabricSaid : Prop := fnFabricRow.holds Try.pinned (OpenSpec.ofChange fnFabricSpec)

/-- ITS FALSE NEIGHBOUR: 'it returns false'. Refute it at one input. -/
def fnFabricWrong : ChangeSpec := { name := "fnFabric", fn := fun _ => fun
  | [d] => { results := [.lit (.bool false)], args := [d] }
  | _ => none }
def FnFabricWrongFalsely : Prop := fnFabricRow.holds Try.pinned (OpenSpec.ofChange fnFabricWrong)

/-- 'laws.FnRuns': WHATEVER THE INPUT: true; the input reads as it did. -/
def fnRunsSpec : ChangeSpec := { name := "fnRuns", fn := fun _ => fun
  | [d] => { results := [.lit (.bool true)], args := [d] }
  | _ => none }
def fnRunsRow : OpenClaim := { program := "ytogaellhkjjeaaa", sum := "02a9c5081635027d6a4ea71500b0f8543d96210c5e2b642c4f483d58f10ed83b", func := "loop.example/g00856/laws.FnRuns", spec := "fnRuns", unfollowed := true, recurses := true, apart := false }
def FnRunsSaid : Prop := fnRunsRow.holds Try.pinned (OpenSpec.ofChange fnRunsSpec)

/-- ITS FALSE NEIGHBOUR: 'it returns false'. Refute it at one input. -/
def fnRunsWrong : ChangeSpec := { name := "fnRuns", fn := fun _ => fun
  | [d] => { results := [.lit (.bool false)], args := [d] }
  | _ => none }
def FnRunsWrongFalsely : Prop := fnRunsRow.holds Try.pinned (OpenSpec.ofChange fnRunsWrong)

/-- 'laws.FnExactOpEvents': WHATEVER THE INPUT: true; the input reads as it did. -/
def fnExactOpEventsSpec : ChangeSpec := { name := "fnExactOpEvents", fn := fun _ => fun
  | [d1, d2] => { results := [.lit (.bool true)], args := [d1, d2] }
  | _ => none }
def fnExactOpEventsRow : OpenClaim := { program := "ytogaellhkjjeaaa", sum := "02a9c5081635027d6a4ea71500b0f8543d96210c5e2b642c4f483d58f10ed83b", func := "loop.example/g00856/laws.FnExactOpEvents", spec := "fnExactOpEvents", apart := false }
def FnExactOpEventsSaid : Prop := fnExactOpEventsRow.holds Try.pinned (OpenSpec.ofChange fnExactOpEventsSpec)

/-- ITS FALSE NEIGHBOUR: 'it returns false'. Refute it at one input. -/
def fnExactOpEventsWrong : ChangeSpec := { name := "fnExactOpEvents", fn := fun _ => fun
  | [d1, d2] => { results := [.lit (.bool false)], args := [d1, d2] }
  | _ => none }
def FnExactOpEventsWrongFalsely : Prop := fnExactOpEventsRow.holds Try.pinned (OpenSpec.ofChange fnExactOpEventsWrong)

/-- 'laws.FnExactTraceOf': WHATEVER THE INPUT: true; the input reads as it did. -/
def fnExactTraceOfSpec : ChangeSpec := { name := "fnExactTraceOf", fn := fun _ => fun
  | [d1, d2] => { results := [.lit (.bool true)], args := [d1, d2] }
  | _ => none }
def fnExactTraceOfRow : OpenClaim := { program := "ytogaellhkjjeaaa", sum := "02a9c5081635027d6a4ea71500b0f8543d96210c5e2b642c4f483d58f10ed83b", func := "loop.example/g00856/laws.FnExactTraceOf", spec := "fnExactTraceOf", unfollowed := true, recurses := true, apart := false }
def FnExactTraceOfSaid : Prop := fnExactTraceOfRow.holds Try.pinned (OpenSpec.ofChange fnExactTraceOfSpec)

/-- ITS FALSE NEIGHBOUR: 'it returns false'. Refute it at one input. -/
def fnExactTraceOfWrong : ChangeSpec := { name := "fnExactTraceOf", fn := fun _ => fun
  | [d1, d2] => { results := [.lit (.bool false)], args := [d1, d2] }
  | _ => none }
def FnExactTraceOfWrongFalsely : Prop := fnExactTraceOfRow.holds Try.pinned (OpenSpec.ofChange fnExactTraceOfWrong)

/-- 'laws.FnUnknit': WHATEVER THE INPUT: true; the input reads as it did. -/
def fnUnknitSpec : ChangeSpec := { name := "fnUnknit", fn := fun _ => fun
  | [d] => { results := [.lit (.bool true)], args := [d] }
  | _ => none }
def fnUnknitRow : OpenClaim := { program := "ytogaellhkjjeaaa", sum := "02a9c5081635027d6a4ea71500b0f8543d96210c5e2b642c4f483d58f10ed83b", func := "loop.example/g00856/laws.FnUnknit", spec := "fnUnknit", apart := false }
def FnUnknitSaid : Prop := fnUnknitRow.holds Try.pinned (OpenSpec.ofChange fnUnknitSpec)

/-- ITS FALSE NEIGHBOUR: 'it returns false'. Refute it at one input. -/
def fnUnknitWrong : ChangeSpec := { name := "fnUnknit", fn := fun _ => fun
  | [d] => { results := [.lit (.bool false)], args := [d] }
  | _ => none }
def FnUnknitWrongFalsely : Prop := fnUnknitRow.holds Try.pinned (OpenSpec.ofChange fnUnknitWrong)

/-- 'laws.FnExactUnknit': WHATEVER THE INPUT: true; the input reads as it did. -/
def fnExactUnknitSpec : ChangeSpec := { name := "fnExactUnknit", fn := fun _ => fun
  | [d] => { results := [.lit (.bool true)], args := [d] }
  | _ => none }
def fnExactUnknitRow : OpenClaim := { program := "ytogaellhkjjeaaa", sum := "02a9c5081635027d6a4ea71500b0f8543d96210c5e2b642c4f483d58f10ed83b", func := "loop.example/g00856/laws.FnExactUnknit", spec := "fnExactUnknit", apart := false }
def FnExactUnknitSaid : Prop := fnExactUnknitRow.holds Try.pinned (OpenSpec.ofChange fnExactUnknitSpec)

/-- ITS FALSE NEIGHBOUR: 'it returns false'. Refute it at one input. -/
def fnExactUnknitWrong : ChangeSpec := { name := "fnExactUnknit", fn := fun _ => fun
  | [d] => { results := [.lit (.bool false)], args := [d] }
  | _ => none }
def FnExactUnknitWrongFalsely : Prop := fnExactUnknitRow.holds Try.pinned (OpenSpec.ofChange fnExactUnknitWrong)

/-- 'laws.FnExactUnknitTo': WHATEVER THE INPUT: true; the input reads as it did. -/
def fnExactUnknitToSpec : ChangeSpec := { name := "fnExactUnknitTo", fn := fun _ => fun
  | [d1, d2] => { results := [.lit (.bool true)], args := [d1, d2] }
  | _ => none }
def fnExactUnknitToRow : OpenClaim := { program := "ytogaellhkjjeaaa", sum := "02a9c5081635027d6a4ea71500b0f8543d96210c5e2b642c4f483d58f10ed83b", func := "loop.example/g00856/laws.FnExactUnknitTo", spec := "fnExactUnknitTo", apart := false }
def FnExactUnknitToSaid : Prop := fnExactUnknitToRow.holds Try.pinned (OpenSpec.ofChange fnExactUnknitToSpec)

/-- ITS FALSE NEIGHBOUR: 'it returns false'. Refute it at one input. -/
def fnExactUnknitToWrong : ChangeSpec := { name := "fnExactUnknitTo", fn := fun _ => fun
  | [d1, d2] => { results := [.lit (.bool false)], args := [d1, d2] }
  | _ => none }
def FnExactUnknitToWrongFalsely : Prop := fnExactUnknitToRow.holds Try.pinned (OpenSpec.ofChange fnExactUnknitToWrong)

/-- 'laws.FnExactWeakLoops': WHATEVER THE INPUT: true; the input reads as it did. -/
def fnExactWeakLoopsSpec : ChangeSpec := { name := "fnExactWeakLoops", fn := fun _ => fun
  | [d] => { results := [.lit (.bool true)], args := [d] }
  | _ => none }
def fnExactWeakLoopsRow : OpenClaim := { program := "ytogaellhkjjeaaa", sum := "02a9c5081635027d6a4ea71500b0f8543d96210c5e2b642c4f483d58f10ed83b", func := "loop.example/g00856/laws.FnExactWeakLoops", spec := "fnExactWeakLoops", unfollowed := true, recurses := true, apart := false }
def FnExactWeakLoopsSaid : Prop := fnExactWeakLoopsRow.holds Try.pinned (OpenSpec.ofChange fnExactWeakLoopsSpec)

/-- ITS FALSE NEIGHBOUR: 'it returns false'. Refute it at one input. -/
def fnExactWeakLoopsWrong : ChangeSpec := { name := "fnExactWeakLoops", fn := fun _ => fun
  | [d] => { results := [.lit (.bool false)], args := [d] }
  | _ => none }
def FnExactWeakLoopsWrongFalsely : Prop := fnExactWeakLoopsRow.holds Try.pinned (OpenSpec.ofChange fnExactWeakLoopsWrong)

/- THE SECOND FORM. 'bulk': how many values and letters a reading holds, each counted each time it is reached (what is shared counts as often as it is met; a slice's spare places count too). A statement '..UptoSaid' is the law's where the arguments, and the package variables that the reading takes, are together of bulk at most 1048576: NARROWER than '..Said'. Prove '..Said' where nothing that the law and all that it calls make is longer than what came in: it says more and counts as full. Else prove '..UptoSaid'. A law counts once. -/
mutual
def uptoBulk {H : Type} : DataW H → Nat
  | .lit (.string bytes) => bytes.length + 1
  | .lit _ => 1
  | .nil => 1
  | .ptr d => uptoBulk d + 1
  | .slice elems spare => uptoBulkAll elems + uptoBulkAll spare + 1
  | .agg parts => uptoBulkAll parts + 1
  | .iface _ d => uptoBulk d + 1
  | .map entries => uptoBulkEntries entries + 1
  | .held _ => 1
def uptoBulkAll {H : Type} : List (DataW H) → Nat
  | [] => 0
  | d :: r => uptoBulk d + uptoBulkAll r
def uptoBulkEntries {H : Type} : List (Lit × DataW H) → Nat
  | [] => 0
  | x :: r => uptoBulkEntry x + uptoBulkEntries r
def uptoBulkEntry {H : Type} : Lit × DataW H → Nat
  | (.string bytes, d) => bytes.length + uptoBulk d + 1
  | (_, d) => uptoBulk d + 1
 end
def uptoSmall : (H : Type) → List (DataW H) → Bool := fun _ ds => decide (uptoBulkAll ds ≤ 1048576)
def OpenSpec.upto (s : _root_.Go.ChangeSpec) : _root_.Go.OpenSpec := { _root_.Go.OpenSpec.ofChange s with cond := some uptoSmall }

/-- 'laws.FnYarn', WHERE WHAT IT READS IS OF BULK AT MOST 1048576: true; the input reads as it did. -/
def fnYarnUptoRow : OpenClaim := { program := "ytogaellhkjjeaaa", sum := "02a9c5081635027d6a4ea71500b0f8543d96210c5e2b642c4f483d58f10ed83b", func := "loop.example/g00856/laws.FnYarn", spec := "fnYarn", apart := false, narrowed := true }
def FnYarnUptoSaid : Prop := fnYarnUptoRow.holds Try.pinned (OpenSpec.upto fnYarnSpec)

/-- 'laws.FnFabric', WHERE WHAT IT READS IS OF BULK AT MOST 1048576: true; the input reads as it did. -/
def fnFabricUptoRow : OpenClaim := { program := "ytogaellhkjjeaaa", sum := "02a9c5081635027d6a4ea71500b0f8543d96210c5e2b642c4f483d58f10ed83b", func := "loop.example/g00856/laws.FnFabric", spec := "fnFabric", apart := false, narrowed := true }
def FnFabricUptoSaid : Prop := fnFabricUptoRow.holds Try.pinned (OpenSpec.upto fnFabricSpec)

/-- 'laws.FnRuns', WHERE WHAT IT READS IS OF BULK AT MOST 1048576: true; the input reads as it did. -/
def fnRunsUptoRow : OpenClaim := { program := "ytogaellhkjjeaaa", sum := "02a9c5081635027d6a4ea71500b0f8543d96210c5e2b642c4f483d58f10ed83b", func := "loop.example/g00856/laws.FnRuns", spec := "fnRuns", unfollowed := true, recurses := true, apart := false, narrowed := true }
def FnRunsUptoSaid : Prop := fnRunsUptoRow.holds Try.pinned (OpenSpec.upto fnRunsSpec)

/-- 'laws.FnExactOpEvents', WHERE WHAT IT READS IS OF BULK AT MOST 1048576: true; the input reads as it did. -/
def fnExactOpEventsUptoRow : OpenClaim := { program := "ytogaellhkjjeaaa", sum := "02a9c5081635027d6a4ea71500b0f8543d96210c5e2b642c4f483d58f10ed83b", func := "loop.example/g00856/laws.FnExactOpEvents", spec := "fnExactOpEvents", apart := false, narrowed := true }
def FnExactOpEventsUptoSaid : Prop := fnExactOpEventsUptoRow.holds Try.pinned (OpenSpec.upto fnExactOpEventsSpec)

/-- 'laws.FnExactTraceOf', WHERE WHAT IT READS IS OF BULK AT MOST 1048576: true; the input reads as it did. -/
def fnExactTraceOfUptoRow : OpenClaim := { program := "ytogaellhkjjeaaa", sum := "02a9c5081635027d6a4ea71500b0f8543d96210c5e2b642c4f483d58f10ed83b", func := "loop.example/g00856/laws.FnExactTraceOf", spec := "fnExactTraceOf", unfollowed := true, recurses := true, apart := false, narrowed := true }
def FnExactTraceOfUptoSaid : Prop := fnExactTraceOfUptoRow.holds Try.pinned (OpenSpec.upto fnExactTraceOfSpec)

/-- 'laws.FnUnknit', WHERE WHAT IT READS IS OF BULK AT MOST 1048576: true; the input reads as it did. -/
def fnUnknitUptoRow : OpenClaim := { program := "ytogaellhkjjeaaa", sum := "02a9c5081635027d6a4ea71500b0f8543d96210c5e2b642c4f483d58f10ed83b", func := "loop.example/g00856/laws.FnUnknit", spec := "fnUnknit", apart := false, narrowed := true }
def FnUnknitUptoSaid : Prop := fnUnknitUptoRow.holds Try.pinned (OpenSpec.upto fnUnknitSpec)

/-- 'laws.FnExactUnknit', WHERE WHAT IT READS IS OF BULK AT MOST 1048576: true; the input reads as it did. -/
def fnExactUnknitUptoRow : OpenClaim := { program := "ytogaellhkjjeaaa", sum := "02a9c5081635027d6a4ea71500b0f8543d96210c5e2b642c4f483d58f10ed83b", func := "loop.example/g00856/laws.FnExactUnknit", spec := "fnExactUnknit", apart := false, narrowed := true }
def FnExactUnknitUptoSaid : Prop := fnExactUnknitUptoRow.holds Try.pinned (OpenSpec.upto fnExactUnknitSpec)

/-- 'laws.FnExactUnknitTo', WHERE WHAT IT READS IS OF BULK AT MOST 1048576: true; the input reads as it did. -/
def fnExactUnknitToUptoRow : OpenClaim := { program := "ytogaellhkjjeaaa", sum := "02a9c5081635027d6a4ea71500b0f8543d96210c5e2b642c4f483d58f10ed83b", func := "loop.example/g00856/laws.FnExactUnknitTo", spec := "fnExactUnknitTo", apart := false, narrowed := true }
def FnExactUnknitToUptoSaid : Prop := fnExactUnknitToUptoRow.holds Try.pinned (OpenSpec.upto fnExactUnknitToSpec)

/-- 'laws.FnExactWeakLoops', WHERE WHAT IT READS IS OF BULK AT MOST 1048576: true; the input reads as it did. -/
def fnExactWeakLoopsUptoRow : OpenClaim := { program := "ytogaellhkjjeaaa", sum := "02a9c5081635027d6a4ea71500b0f8543d96210c5e2b642c4f483d58f10ed83b", func := "loop.example/g00856/laws.FnExactWeakLoops", spec := "fnExactWeakLoops", unfollowed := true, recurses := true, apart := false, narrowed := true }
def FnExactWeakLoopsUptoSaid : Prop := fnExactWeakLoopsUptoRow.holds Try.pinned (OpenSpec.upto fnExactWeakLoopsSpec)

end Rows
end Go.Proofs.Ytogaellhkjjeaaa
