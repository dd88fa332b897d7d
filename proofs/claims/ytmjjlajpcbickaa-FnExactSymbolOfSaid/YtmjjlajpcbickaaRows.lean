/-
  No cell of these rows narrows 'for every input' (looked for: loops, veiled, ifaces, maps, wideKeys, modest, calm, conditions, laid).
  DERIVED. THE GIVEN ROWS OF THIS SEAT. 6 by the template 'for every input the law returns true; each argument reads behind the call as it read before'; 0 by the template 'total and deterministic' (their statements: YtmjjlajpcbickaaTotals.lean).
  GIVEN WITH THE SEED: the statements are not yours to turn. If you find one false, say at which input.
  Laid BY PROGRAM, IN A SANDBOX (cutbox-rows.mjs): the forced cells as the released guide's own fill.sh prints them over the translation 991ba0964ddf0a31… (all of the seat's roots in one cut). By AI agents, Wed Nov 11 2026. No macro, syntax, notation, axiom, sorry.
-/
import Derived.Test.YtmjjlajpcbickaaChecked
import GoSem.Claim
import GoSem.ClaimJoined
import GoSem.ClaimMapViews
import Derived.JoinedTies
import Derived.KernelRfl
namespace Go.Proofs.Ytmjjlajpcbickaa
/- THE CELL 'sum', in the pinned program and in every row, IS THE sha256 OF THE DUMP (.gsa) THAT YtmjjlajpcbickaaProg.lean LOADS. Nothing in Lean hashes anything: it is a label: what it is worth is what the hold of that sum in a sandbox is worth. -/
noncomputable def Try.pinned : Pinned := { name := "ytmjjlajpcbickaa", sum := "991ba0964ddf0a31e633266b3441cf41f119c4a933bb1a3e1a51763083940398", checked := Try.checked }
namespace Rows
def none {H : Type} : Left H := { results := [], args := [] }

/-- 'laws.FnExactColumnsMade': WHATEVER THE INPUT: true; the input reads as it did. -/
def fnExactColumnsMadeSpec : ChangeSpec := { name := "fnExactColumnsMade", fn := fun _ => fun
  | [d] => { results := [.lit (.bool true)], args := [d] }
  | _ => none }
def fnExactColumnsMadeRow : OpenClaim := { program := "ytmjjlajpcbickaa", sum := "991ba0964ddf0a31e633266b3441cf41f119c4a933bb1a3e1a51763083940398", func := "loop.example/g00856/laws.FnExactColumnsMade", spec := "fnExactColumnsMade", apart := false }
def FnExactColumnsMadeSaid : Prop := fnExactColumnsMadeRow.holds Try.pinned (OpenSpec.ofChange fnExactColumnsMadeSpec)

/-- ITS FALSE NEIGHBOUR: 'it returns false'. Refute it at one input. -/
def fnExactColumnsMadeWrong : ChangeSpec := { name := "fnExactColumnsMade", fn := fun _ => fun
  | [d] => { results := [.lit (.bool false)], args := [d] }
  | _ => none }
def FnExactColumnsMadeWrongFalsely : Prop := fnExactColumnsMadeRow.holds Try.pinned (OpenSpec.ofChange fnExactColumnsMadeWrong)

/-- 'laws.FnExactColumnsTaken': WHATEVER THE INPUT: true; the input reads as it did. -/
def fnExactColumnsTakenSpec : ChangeSpec := { name := "fnExactColumnsTaken", fn := fun _ => fun
  | [d] => { results := [.lit (.bool true)], args := [d] }
  | _ => none }
def fnExactColumnsTakenRow : OpenClaim := { program := "ytmjjlajpcbickaa", sum := "991ba0964ddf0a31e633266b3441cf41f119c4a933bb1a3e1a51763083940398", func := "loop.example/g00856/laws.FnExactColumnsTaken", spec := "fnExactColumnsTaken", apart := false }
def FnExactColumnsTakenSaid : Prop := fnExactColumnsTakenRow.holds Try.pinned (OpenSpec.ofChange fnExactColumnsTakenSpec)

/-- ITS FALSE NEIGHBOUR: 'it returns false'. Refute it at one input. -/
def fnExactColumnsTakenWrong : ChangeSpec := { name := "fnExactColumnsTaken", fn := fun _ => fun
  | [d] => { results := [.lit (.bool false)], args := [d] }
  | _ => none }
def FnExactColumnsTakenWrongFalsely : Prop := fnExactColumnsTakenRow.holds Try.pinned (OpenSpec.ofChange fnExactColumnsTakenWrong)

/-- 'laws.FnExactSymbolOf': WHATEVER THE INPUT: true; the input reads as it did. -/
def fnExactSymbolOfSpec : ChangeSpec := { name := "fnExactSymbolOf", fn := fun _ => fun
  | [d] => { results := [.lit (.bool true)], args := [d] }
  | _ => none }
def fnExactSymbolOfRow : OpenClaim := { program := "ytmjjlajpcbickaa", sum := "991ba0964ddf0a31e633266b3441cf41f119c4a933bb1a3e1a51763083940398", func := "loop.example/g00856/laws.FnExactSymbolOf", spec := "fnExactSymbolOf", apart := false }
def FnExactSymbolOfSaid : Prop := fnExactSymbolOfRow.holds Try.pinned (OpenSpec.ofChange fnExactSymbolOfSpec)

/-- ITS FALSE NEIGHBOUR: 'it returns false'. Refute it at one input. -/
def fnExactSymbolOfWrong : ChangeSpec := { name := "fnExactSymbolOf", fn := fun _ => fun
  | [d] => { results := [.lit (.bool false)], args := [d] }
  | _ => none }
def FnExactSymbolOfWrongFalsely : Prop := fnExactSymbolOfRow.holds Try.pinned (OpenSpec.ofChange fnExactSymbolOfWrong)

/-- 'laws.FnExactMirrorStitch': WHATEVER THE INPUT: true; the input reads as it did. -/
def fnExactMirrorStitchSpec : ChangeSpec := { name := "fnExactMirrorStitch", fn := fun _ => fun
  | [d] => { results := [.lit (.bool true)], args := [d] }
  | _ => none }
def fnExactMirrorStitchRow : OpenClaim := { program := "ytmjjlajpcbickaa", sum := "991ba0964ddf0a31e633266b3441cf41f119c4a933bb1a3e1a51763083940398", func := "loop.example/g00856/laws.FnExactMirrorStitch", spec := "fnExactMirrorStitch", apart := false }
def FnExactMirrorStitchSaid : Prop := fnExactMirrorStitchRow.holds Try.pinned (OpenSpec.ofChange fnExactMirrorStitchSpec)

/-- ITS FALSE NEIGHBOUR: 'it returns false'. Refute it at one input. -/
def fnExactMirrorStitchWrong : ChangeSpec := { name := "fnExactMirrorStitch", fn := fun _ => fun
  | [d] => { results := [.lit (.bool false)], args := [d] }
  | _ => none }
def FnExactMirrorStitchWrongFalsely : Prop := fnExactMirrorStitchRow.holds Try.pinned (OpenSpec.ofChange fnExactMirrorStitchWrong)

/-- 'laws.FnExactMadeBy': WHATEVER THE INPUT: true; the input reads as it did. -/
def fnExactMadeBySpec : ChangeSpec := { name := "fnExactMadeBy", fn := fun _ => fun
  | [d] => { results := [.lit (.bool true)], args := [d] }
  | _ => none }
def fnExactMadeByRow : OpenClaim := { program := "ytmjjlajpcbickaa", sum := "991ba0964ddf0a31e633266b3441cf41f119c4a933bb1a3e1a51763083940398", func := "loop.example/g00856/laws.FnExactMadeBy", spec := "fnExactMadeBy", unfollowed := true, recurses := true, apart := false }
def FnExactMadeBySaid : Prop := fnExactMadeByRow.holds Try.pinned (OpenSpec.ofChange fnExactMadeBySpec)

/-- ITS FALSE NEIGHBOUR: 'it returns false'. Refute it at one input. -/
def fnExactMadeByWrong : ChangeSpec := { name := "fnExactMadeBy", fn := fun _ => fun
  | [d] => { results := [.lit (.bool false)], args := [d] }
  | _ => none }
def FnExactMadeByWrongFalsely : Prop := fnExactMadeByRow.holds Try.pinned (OpenSpec.ofChange fnExactMadeByWrong)

/-- 'laws.FnExactSameEvents': WHATEVER THE INPUT: true; the input reads as it did. -/
def fnExactSameEventsSpec : ChangeSpec := { name := "fnExactSameEvents", fn := fun _ => fun
  | [d1, d2] => { results := [.lit (.bool true)], args := [d1, d2] }
  | _ => none }
def fnExactSameEventsRow : OpenClaim := { program := "ytmjjlajpcbickaa", sum := "991ba0964ddf0a31e633266b3441cf41f119c4a933bb1a3e1a51763083940398", func := "loop.example/g00856/laws.FnExactSameEvents", spec := "fnExactSameEvents", apart := false }
def FnExactSameEventsSaid : Prop := fnExactSameEventsRow.holds Try.pinned (OpenSpec.ofChange fnExactSameEventsSpec)

/-- ITS FALSE NEIGHBOUR: 'it returns false'. Refute it at one input. -/
def fnExactSameEventsWrong : ChangeSpec := { name := "fnExactSameEvents", fn := fun _ => fun
  | [d1, d2] => { results := [.lit (.bool false)], args := [d1, d2] }
  | _ => none }
def FnExactSameEventsWrongFalsely : Prop := fnExactSameEventsRow.holds Try.pinned (OpenSpec.ofChange fnExactSameEventsWrong)

/- THE SECOND FORM. 'bulk': how many values and letters a reading holds, each counted each time it is reached (what is shared counts as often as it is met; a slice's spare places count too). A statement '..UptoSaid' is the law's where the arguments, and the package variables that the reading takes, are together of bulk at most 1048576: NARROWER than '..Said'. Prove '..Said' where nothing that the law and all that it calls make is longer than what came in: it says more and counts as full. Else prove '..UptoSaid'. A law counts once. -/
mutual
def uptoBulk {H : Type} : DataW H → Nat
  | .lit (.string bytes) => bytes.length + 1
  | .lit _ => 1
  | .nil => 1
  | .ptr d => uptoBulk d + 1
  | .slice elems spare => uptoBulkAll elems + uptoBulkAll spare + 1
  | .agg parts => uptoBulkAll parts + 1
  | .iface _ d => uptoBulk d + 1
  | .map entries => uptoBulkEntries entries + 1
  | .held _ => 1
def uptoBulkAll {H : Type} : List (DataW H) → Nat
  | [] => 0
  | d :: r => uptoBulk d + uptoBulkAll r
def uptoBulkEntries {H : Type} : List (Lit × DataW H) → Nat
  | [] => 0
  | x :: r => uptoBulkEntry x + uptoBulkEntries r
def uptoBulkEntry {H : Type} : Lit × DataW H → Nat
  | (.string bytes, d) => bytes.length + uptoBulk d + 1
  | (_, d) => uptoBulk d + 1
 end
def uptoSmall : (H : Type) → List (DataW H) → Bool := fun _ ds => decide (uptoBulkAll ds ≤ 1048576)
def OpenSpec.upto (s : _root_.Go.ChangeSpec) : _root_.Go.OpenSpec := { _root_.Go.OpenSpec.ofChange s with cond := some uptoSmall }

/-- 'laws.FnExactColumnsMade', WHERE WHAT IT READS IS OF BULK AT MOST 1048576: true; the input reads as it did. -/
def fnExactColumnsMadeUptoRow : OpenClaim := { program := "ytmjjlajpcbickaa", sum := "991ba0964ddf0a31e633266b3441cf41f119c4a933bb1a3e1a51763083940398", func := "loop.example/g00856/laws.FnExactColumnsMade", spec := "fnExactColumnsMade", apart := false, narrowed := true }
def FnExactColumnsMadeUptoSaid : Prop := fnExactColumnsMadeUptoRow.holds Try.pinned (OpenSpec.upto fnExactColumnsMadeSpec)

/-- 'laws.FnExactColumnsTaken', WHERE WHAT IT READS IS OF BULK AT MOST 1048576: true; the input reads as it did. -/
def fnExactColumnsTakenUptoRow : OpenClaim := { program := "ytmjjlajpcbickaa", sum := "991ba0964ddf0a31e633266b3441cf41f119c4a933bb1a3e1a51763083940398", func := "loop.example/g00856/laws.FnExactColumnsTaken", spec := "fnExactColumnsTaken", apart := false, narrowed := true }
def FnExactColumnsTakenUptoSaid : Prop := fnExactColumnsTakenUptoRow.holds Try.pinned (OpenSpec.upto fnExactColumnsTakenSpec)

/-- 'laws.FnExactSymbolOf', WHERE WHAT IT READS IS OF BULK AT MOST 1048576: true; the input reads as it did. -/
def fnExactSymbolOfUptoRow : OpenClaim := { program := "ytmjjlajpcbickaa", sum := "991ba0964ddf0a31e633266b3441cf41f119c4a933bb1a3e1a51763083940398", func := "loop.example/g00856/laws.FnExactSymbolOf", spec := "fnExactSymbolOf", apart := false, narrowed := true }
def FnExactSymbolOfUptoSaid : Prop := fnExactSymbolOfUptoRow.holds Try.pinned (OpenSpec.upto fnExactSymbolOfSpec)

/-- 'laws.FnExactMirrorStitch', WHERE WHAT IT READS IS OF BULK AT MOST 1048576: true; the input reads as it did. -/
def fnExactMirrorStitchUptoRow : OpenClaim := { program := "ytmjjlajpcbickaa", sum := "991ba0964ddf0a31e633266b3441cf41f119c4a933bb1a3e1a51763083940398", func := "loop.example/g00856/laws.FnExactMirrorStitch", spec := "fnExactMirrorStitch", apart := false, narrowed := true }
def FnExactMirrorStitchUptoSaid : Prop := fnExactMirrorStitchUptoRow.holds Try.pinned (OpenSpec.upto fnExactMirrorStitchSpec)

/-- 'laws.FnExactMadeBy', WHERE WHAT IT READS IS OF BULK AT MOST 1048576: true; the input reads as it did. -/
def fnExactMadeByUptoRow : OpenClaim := { program := "ytmjjlajpcbickaa", sum := "991ba0964ddf0a31e633266b3441cf41f119c4a933bb1a3e1a51763083940398", func := "loop.example/g00856/laws.FnExactMadeBy", spec := "fnExactMadeBy", unfollowed := true, recurses := true, apart := false, narrowed := true }
def FnExactMadeByUptoSaid : Prop := fnExactMadeByUptoRow.holds Try.pinned (OpenSpec.upto fnExactMadeBySpec)

/-- 'laws.FnExactSameEvents', WHERE WHAT IT READS IS OF BULK AT MOST 1048576: true; the input reads as it did. -/
def fnExactSameEventsUptoRow : OpenClaim := { program := "ytmjjlajpcbickaa", sum := "991ba0964ddf0a31e633266b3441cf41f119c4a933bb1a3e1a51763083940398", func := "loop.example/g00856/laws.FnExactSameEvents", spec := "fnExactSameEvents", apart := false, narrowed := true }
def FnExactSameEventsUptoSaid : Prop := fnExactSameEventsUptoRow.holds Try.pinned (OpenSpec.upto fnExactSameEventsSpec)

end Rows
end Go.Proofs.Ytmjjlajpcbickaa
