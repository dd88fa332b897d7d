/-
  No cell of these rows narrows 'for every input' (looked for: loops, veiled, ifaces, maps, wideKeys, modest, calm, conditions, laid).
  DERIVED. THE GIVEN ROWS OF THIS SEAT. 11 by the template 'for every input the law returns true; each argument reads behind the call as it read before'; 0 by the template 'total and deterministic' (their statements: YtmgicdcpeblpnaaTotals.lean).
  GIVEN WITH THE SEED: the statements are not yours to turn. If you find one false, say at which input.
  Laid BY PROGRAM, IN A SANDBOX (cutbox-rows.mjs): the forced cells as the released guide's own fill.sh prints them over the translation 083fefdc4a6f50e2… (all of the seat's roots in one cut). By AI agents, Wed Nov 11 2026. No macro, syntax, notation, axiom, sorry.
-/
import Derived.Test.YtmgicdcpeblpnaaChecked
import GoSem.Claim
import GoSem.ClaimJoined
import GoSem.ClaimMapViews
import Derived.JoinedTies
import Derived.KernelRfl
namespace Go.Proofs.Ytmgicdcpeblpnaa
/- THE CELL 'sum', in the pinned program and in every row, IS THE sha256 OF THE DUMP (.gsa) THAT YtmgicdcpeblpnaaProg.lean LOADS. Nothing in Lean hashes anything: it is a label: what it is worth is what the hold of that sum in a sandbox is worth. -/
noncomputable def Try.pinned : Pinned := { name := "ytmgicdcpeblpnaa", sum := "083fefdc4a6f50e21372fc2376e8c885d169439b736423dcf1ee5c5750979824", checked := Try.checked }
namespace Rows
def none {H : Type} : Left H := { results := [], args := [] }

/-- 'laws.FnExactTakenBy': WHATEVER THE INPUT: true; the input reads as it did. -/
def fnExactTakenBySpec : ChangeSpec := { name := "fnExactTakenBy", fn := fun _ => fun
  | [d] => { results := [.lit (.bool true)], args := [d] }
  | _ => none }
def fnExactTakenByRow : OpenClaim := { program := "ytmgicdcpeblpnaa", sum := "083fefdc4a6f50e21372fc2376e8c885d169439b736423dcf1ee5c5750979824", func := "loop.example/g00856/laws.FnExactTakenBy", spec := "fnExactTakenBy", unfollowed := true, recurses := true, apart := false }
def FnExactTakenBySaid : Prop := fnExactTakenByRow.holds Try.pinned (OpenSpec.ofChange fnExactTakenBySpec)

/-- ITS FALSE NEIGHBOUR: 'it returns false'. Refute it at one input. -/
def fnExactTakenByWrong : ChangeSpec := { name := "fnExactTakenBy", fn := fun _ => fun
  | [d] => { results := [.lit (.bool false)], args := [d] }
  | _ => none }
def FnExactTakenByWrongFalsely : Prop := fnExactTakenByRow.holds Try.pinned (OpenSpec.ofChange fnExactTakenByWrong)

/-- 'laws.FnExactStitchesText': WHATEVER THE INPUT: true; the input reads as it did. -/
def fnExactStitchesTextSpec : ChangeSpec := { name := "fnExactStitchesText", fn := fun _ => fun
  | [d] => { results := [.lit (.bool true)], args := [d] }
  | _ => none }
def fnExactStitchesTextRow : OpenClaim := { program := "ytmgicdcpeblpnaa", sum := "083fefdc4a6f50e21372fc2376e8c885d169439b736423dcf1ee5c5750979824", func := "loop.example/g00856/laws.FnExactStitchesText", spec := "fnExactStitchesText", unfollowed := true, recurses := true, apart := false }
def FnExactStitchesTextSaid : Prop := fnExactStitchesTextRow.holds Try.pinned (OpenSpec.ofChange fnExactStitchesTextSpec)

/-- ITS FALSE NEIGHBOUR: 'it returns false'. Refute it at one input. -/
def fnExactStitchesTextWrong : ChangeSpec := { name := "fnExactStitchesText", fn := fun _ => fun
  | [d] => { results := [.lit (.bool false)], args := [d] }
  | _ => none }
def FnExactStitchesTextWrongFalsely : Prop := fnExactStitchesTextRow.holds Try.pinned (OpenSpec.ofChange fnExactStitchesTextWrong)

/-- 'laws.FnExactKindOf': WHATEVER THE INPUT: true; the input reads as it did. -/
def fnExactKindOfSpec : ChangeSpec := { name := "fnExactKindOf", fn := fun _ => fun
  | [d] => { results := [.lit (.bool true)], args := [d] }
  | _ => none }
def fnExactKindOfRow : OpenClaim := { program := "ytmgicdcpeblpnaa", sum := "083fefdc4a6f50e21372fc2376e8c885d169439b736423dcf1ee5c5750979824", func := "loop.example/g00856/laws.FnExactKindOf", spec := "fnExactKindOf", inPlace := ["internal/bytealg.IndexByteString", "internal/bytealg.IndexString"], named := ["internal/bytealg.MaxLen"], apart := false }
def FnExactKindOfSaid : Prop := fnExactKindOfRow.holds Try.pinned (OpenSpec.ofChange fnExactKindOfSpec)

/-- ITS FALSE NEIGHBOUR: 'it returns false'. Refute it at one input. -/
def fnExactKindOfWrong : ChangeSpec := { name := "fnExactKindOf", fn := fun _ => fun
  | [d] => { results := [.lit (.bool false)], args := [d] }
  | _ => none }
def FnExactKindOfWrongFalsely : Prop := fnExactKindOfRow.holds Try.pinned (OpenSpec.ofChange fnExactKindOfWrong)

/-- 'laws.FnExactStitchesOf': WHATEVER THE INPUT: true; the input reads as it did. -/
def fnExactStitchesOfSpec : ChangeSpec := { name := "fnExactStitchesOf", fn := fun _ => fun
  | [d] => { results := [.lit (.bool true)], args := [d] }
  | _ => none }
def fnExactStitchesOfRow : OpenClaim := { program := "ytmgicdcpeblpnaa", sum := "083fefdc4a6f50e21372fc2376e8c885d169439b736423dcf1ee5c5750979824", func := "loop.example/g00856/laws.FnExactStitchesOf", spec := "fnExactStitchesOf", unfollowed := true, recurses := true, apart := false }
def FnExactStitchesOfSaid : Prop := fnExactStitchesOfRow.holds Try.pinned (OpenSpec.ofChange fnExactStitchesOfSpec)

/-- ITS FALSE NEIGHBOUR: 'it returns false'. Refute it at one input. -/
def fnExactStitchesOfWrong : ChangeSpec := { name := "fnExactStitchesOf", fn := fun _ => fun
  | [d] => { results := [.lit (.bool false)], args := [d] }
  | _ => none }
def FnExactStitchesOfWrongFalsely : Prop := fnExactStitchesOfRow.holds Try.pinned (OpenSpec.ofChange fnExactStitchesOfWrong)

/-- 'laws.FnExactValidEvents': WHATEVER THE INPUT: true; the input reads as it did. -/
def fnExactValidEventsSpec : ChangeSpec := { name := "fnExactValidEvents", fn := fun _ => fun
  | [d] => { results := [.lit (.bool true)], args := [d] }
  | _ => none }
def fnExactValidEventsRow : OpenClaim := { program := "ytmgicdcpeblpnaa", sum := "083fefdc4a6f50e21372fc2376e8c885d169439b736423dcf1ee5c5750979824", func := "loop.example/g00856/laws.FnExactValidEvents", spec := "fnExactValidEvents", apart := false }
def FnExactValidEventsSaid : Prop := fnExactValidEventsRow.holds Try.pinned (OpenSpec.ofChange fnExactValidEventsSpec)

/-- ITS FALSE NEIGHBOUR: 'it returns false'. Refute it at one input. -/
def fnExactValidEventsWrong : ChangeSpec := { name := "fnExactValidEvents", fn := fun _ => fun
  | [d] => { results := [.lit (.bool false)], args := [d] }
  | _ => none }
def FnExactValidEventsWrongFalsely : Prop := fnExactValidEventsRow.holds Try.pinned (OpenSpec.ofChange fnExactValidEventsWrong)

/-- 'laws.FnExactStrandsOf': WHATEVER THE INPUT: true; the input reads as it did. -/
def fnExactStrandsOfSpec : ChangeSpec := { name := "fnExactStrandsOf", fn := fun _ => fun
  | [d] => { results := [.lit (.bool true)], args := [d] }
  | _ => none }
def fnExactStrandsOfRow : OpenClaim := { program := "ytmgicdcpeblpnaa", sum := "083fefdc4a6f50e21372fc2376e8c885d169439b736423dcf1ee5c5750979824", func := "loop.example/g00856/laws.FnExactStrandsOf", spec := "fnExactStrandsOf", apart := false }
def FnExactStrandsOfSaid : Prop := fnExactStrandsOfRow.holds Try.pinned (OpenSpec.ofChange fnExactStrandsOfSpec)

/-- ITS FALSE NEIGHBOUR: 'it returns false'. Refute it at one input. -/
def fnExactStrandsOfWrong : ChangeSpec := { name := "fnExactStrandsOf", fn := fun _ => fun
  | [d] => { results := [.lit (.bool false)], args := [d] }
  | _ => none }
def FnExactStrandsOfWrongFalsely : Prop := fnExactStrandsOfRow.holds Try.pinned (OpenSpec.ofChange fnExactStrandsOfWrong)

/-- 'laws.FnExactBraidEvents': WHATEVER THE INPUT: true; the input reads as it did. -/
def fnExactBraidEventsSpec : ChangeSpec := { name := "fnExactBraidEvents", fn := fun _ => fun
  | [d] => { results := [.lit (.bool true)], args := [d] }
  | _ => none }
def fnExactBraidEventsRow : OpenClaim := { program := "ytmgicdcpeblpnaa", sum := "083fefdc4a6f50e21372fc2376e8c885d169439b736423dcf1ee5c5750979824", func := "loop.example/g00856/laws.FnExactBraidEvents", spec := "fnExactBraidEvents", unfollowed := true, recurses := true, apart := false }
def FnExactBraidEventsSaid : Prop := fnExactBraidEventsRow.holds Try.pinned (OpenSpec.ofChange fnExactBraidEventsSpec)

/-- ITS FALSE NEIGHBOUR: 'it returns false'. Refute it at one input. -/
def fnExactBraidEventsWrong : ChangeSpec := { name := "fnExactBraidEvents", fn := fun _ => fun
  | [d] => { results := [.lit (.bool false)], args := [d] }
  | _ => none }
def FnExactBraidEventsWrongFalsely : Prop := fnExactBraidEventsRow.holds Try.pinned (OpenSpec.ofChange fnExactBraidEventsWrong)

/-- 'laws.FnExactSameBlocks': WHATEVER THE INPUT: true; the input reads as it did. -/
def fnExactSameBlocksSpec : ChangeSpec := { name := "fnExactSameBlocks", fn := fun _ => fun
  | [d1, d2] => { results := [.lit (.bool true)], args := [d1, d2] }
  | _ => none }
def fnExactSameBlocksRow : OpenClaim := { program := "ytmgicdcpeblpnaa", sum := "083fefdc4a6f50e21372fc2376e8c885d169439b736423dcf1ee5c5750979824", func := "loop.example/g00856/laws.FnExactSameBlocks", spec := "fnExactSameBlocks", unfollowed := true, recurses := true, apart := false }
def FnExactSameBlocksSaid : Prop := fnExactSameBlocksRow.holds Try.pinned (OpenSpec.ofChange fnExactSameBlocksSpec)

/-- ITS FALSE NEIGHBOUR: 'it returns false'. Refute it at one input. -/
def fnExactSameBlocksWrong : ChangeSpec := { name := "fnExactSameBlocks", fn := fun _ => fun
  | [d1, d2] => { results := [.lit (.bool false)], args := [d1, d2] }
  | _ => none }
def FnExactSameBlocksWrongFalsely : Prop := fnExactSameBlocksRow.holds Try.pinned (OpenSpec.ofChange fnExactSameBlocksWrong)

/-- 'laws.FnExactCrossingBraid': WHATEVER THE INPUT: true; the input reads as it did. -/
def fnExactCrossingBraidSpec : ChangeSpec := { name := "fnExactCrossingBraid", fn := fun _ => fun
  | [d1, d2] => { results := [.lit (.bool true)], args := [d1, d2] }
  | _ => none }
def fnExactCrossingBraidRow : OpenClaim := { program := "ytmgicdcpeblpnaa", sum := "083fefdc4a6f50e21372fc2376e8c885d169439b736423dcf1ee5c5750979824", func := "loop.example/g00856/laws.FnExactCrossingBraid", spec := "fnExactCrossingBraid", unfollowed := true, recurses := true, apart := false }
def FnExactCrossingBraidSaid : Prop := fnExactCrossingBraidRow.holds Try.pinned (OpenSpec.ofChange fnExactCrossingBraidSpec)

/-- ITS FALSE NEIGHBOUR: 'it returns false'. Refute it at one input. -/
def fnExactCrossingBraidWrong : ChangeSpec := { name := "fnExactCrossingBraid", fn := fun _ => fun
  | [d1, d2] => { results := [.lit (.bool false)], args := [d1, d2] }
  | _ => none }
def FnExactCrossingBraidWrongFalsely : Prop := fnExactCrossingBraidRow.holds Try.pinned (OpenSpec.ofChange fnExactCrossingBraidWrong)

/-- 'laws.FnExactMirrorEvents': WHATEVER THE INPUT: true; the input reads as it did. -/
def fnExactMirrorEventsSpec : ChangeSpec := { name := "fnExactMirrorEvents", fn := fun _ => fun
  | [d] => { results := [.lit (.bool true)], args := [d] }
  | _ => none }
def fnExactMirrorEventsRow : OpenClaim := { program := "ytmgicdcpeblpnaa", sum := "083fefdc4a6f50e21372fc2376e8c885d169439b736423dcf1ee5c5750979824", func := "loop.example/g00856/laws.FnExactMirrorEvents", spec := "fnExactMirrorEvents", apart := false }
def FnExactMirrorEventsSaid : Prop := fnExactMirrorEventsRow.holds Try.pinned (OpenSpec.ofChange fnExactMirrorEventsSpec)

/-- ITS FALSE NEIGHBOUR: 'it returns false'. Refute it at one input. -/
def fnExactMirrorEventsWrong : ChangeSpec := { name := "fnExactMirrorEvents", fn := fun _ => fun
  | [d] => { results := [.lit (.bool false)], args := [d] }
  | _ => none }
def FnExactMirrorEventsWrongFalsely : Prop := fnExactMirrorEventsRow.holds Try.pinned (OpenSpec.ofChange fnExactMirrorEventsWrong)

/-- 'laws.FnExactEventsOfBlocks': WHATEVER THE INPUT: true; the input reads as it did. -/
def fnExactEventsOfBlocksSpec : ChangeSpec := { name := "fnExactEventsOfBlocks", fn := fun _ => fun
  | [d] => { results := [.lit (.bool true)], args := [d] }
  | _ => none }
def fnExactEventsOfBlocksRow : OpenClaim := { program := "ytmgicdcpeblpnaa", sum := "083fefdc4a6f50e21372fc2376e8c885d169439b736423dcf1ee5c5750979824", func := "loop.example/g00856/laws.FnExactEventsOfBlocks", spec := "fnExactEventsOfBlocks", unfollowed := true, recurses := true, apart := false }
def FnExactEventsOfBlocksSaid : Prop := fnExactEventsOfBlocksRow.holds Try.pinned (OpenSpec.ofChange fnExactEventsOfBlocksSpec)

/-- ITS FALSE NEIGHBOUR: 'it returns false'. Refute it at one input. -/
def fnExactEventsOfBlocksWrong : ChangeSpec := { name := "fnExactEventsOfBlocks", fn := fun _ => fun
  | [d] => { results := [.lit (.bool false)], args := [d] }
  | _ => none }
def FnExactEventsOfBlocksWrongFalsely : Prop := fnExactEventsOfBlocksRow.holds Try.pinned (OpenSpec.ofChange fnExactEventsOfBlocksWrong)

/- THE SECOND FORM. 'bulk': how many values and letters a reading holds, each counted each time it is reached (what is shared counts as often as it is met; a slice's spare places count too). A statement '..UptoSaid' is the law's where the arguments, and the package variables that the reading takes, are together of bulk at most 1048576: NARROWER than '..Said'. Prove '..Said' where nothing that the law and all that it calls make is longer than what came in: it says more and counts as full. Else prove '..UptoSaid'. A law counts once. -/
mutual
def uptoBulk {H : Type} : DataW H → Nat
  | .lit (.string bytes) => bytes.length + 1
  | .lit _ => 1
  | .nil => 1
  | .ptr d => uptoBulk d + 1
  | .slice elems spare => uptoBulkAll elems + uptoBulkAll spare + 1
  | .agg parts => uptoBulkAll parts + 1
  | .iface _ d => uptoBulk d + 1
  | .map entries => uptoBulkEntries entries + 1
  | .held _ => 1
def uptoBulkAll {H : Type} : List (DataW H) → Nat
  | [] => 0
  | d :: r => uptoBulk d + uptoBulkAll r
def uptoBulkEntries {H : Type} : List (Lit × DataW H) → Nat
  | [] => 0
  | x :: r => uptoBulkEntry x + uptoBulkEntries r
def uptoBulkEntry {H : Type} : Lit × DataW H → Nat
  | (.string bytes, d) => bytes.length + uptoBulk d + 1
  | (_, d) => uptoBulk d + 1
 end
def uptoSmall : (H : Type) → List (DataW H) → Bool := fun _ ds => decide (uptoBulkAll ds ≤ 1048576)
def OpenSpec.upto (s : _root_.Go.ChangeSpec) : _root_.Go.OpenSpec := { _root_.Go.OpenSpec.ofChange s with cond := some uptoSmall }

/-- 'laws.FnExactTakenBy', WHERE WHAT IT READS IS OF BULK AT MOST 1048576: true; the input reads as it did. -/
def fnExactTakenByUptoRow : OpenClaim := { program := "ytmgicdcpeblpnaa", sum := "083fefdc4a6f50e21372fc2376e8c885d169439b736423dcf1ee5c5750979824", func := "loop.example/g00856/laws.FnExactTakenBy", spec := "fnExactTakenBy", unfollowed := true, recurses := true, apart := false, narrowed := true }
def FnExactTakenByUptoSaid : Prop := fnExactTakenByUptoRow.holds Try.pinned (OpenSpec.upto fnExactTakenBySpec)

/-- 'laws.FnExactStitchesText', WHERE WHAT IT READS IS OF BULK AT MOST 1048576: true; the input reads as it did. -/
def fnExactStitchesTextUptoRow : OpenClaim := { program := "ytmgicdcpeblpnaa", sum := "083fefdc4a6f50e21372fc2376e8c885d169439b736423dcf1ee5c5750979824", func := "loop.example/g00856/laws.FnExactStitchesText", spec := "fnExactStitchesText", unfollowed := true, recurses := true, apart := false, narrowed := true }
def FnExactStitchesTextUptoSaid : Prop := fnExactStitchesTextUptoRow.holds Try.pinned (OpenSpec.upto fnExactStitchesTextSpec)

/-- 'laws.FnExactKindOf', WHERE WHAT IT READS IS OF BULK AT MOST 1048576: true; the input reads as it did. -/
def fnExactKindOfUptoRow : OpenClaim := { program := "ytmgicdcpeblpnaa", sum := "083fefdc4a6f50e21372fc2376e8c885d169439b736423dcf1ee5c5750979824", func := "loop.example/g00856/laws.FnExactKindOf", spec := "fnExactKindOf", inPlace := ["internal/bytealg.IndexByteString", "internal/bytealg.IndexString"], named := ["internal/bytealg.MaxLen"], apart := false, narrowed := true }
def FnExactKindOfUptoSaid : Prop := fnExactKindOfUptoRow.holds Try.pinned (OpenSpec.upto fnExactKindOfSpec)

/-- 'laws.FnExactStitchesOf', WHERE WHAT IT READS IS OF BULK AT MOST 1048576: true; the input reads as it did. -/
def fnExactStitchesOfUptoRow : OpenClaim := { program := "ytmgicdcpeblpnaa", sum := "083fefdc4a6f50e21372fc2376e8c885d169439b736423dcf1ee5c5750979824", func := "loop.example/g00856/laws.FnExactStitchesOf", spec := "fnExactStitchesOf", unfollowed := true, recurses := true, apart := false, narrowed := true }
def FnExactStitchesOfUptoSaid : Prop := fnExactStitchesOfUptoRow.holds Try.pinned (OpenSpec.upto fnExactStitchesOfSpec)

/-- 'laws.FnExactValidEvents', WHERE WHAT IT READS IS OF BULK AT MOST 1048576: true; the input reads as it did. -/
def fnExactValidEventsUptoRow : OpenClaim := { program := "ytmgicdcpeblpnaa", sum := "083fefdc4a6f50e21372fc2376e8c885d169439b736423dcf1ee5c5750979824", func := "loop.example/g00856/laws.FnExactValidEvents", spec := "fnExactValidEvents", apart := false, narrowed := true }
def FnExactValidEventsUptoSaid : Prop := fnExactValidEventsUptoRow.holds Try.pinned (OpenSpec.upto fnExactValidEventsSpec)

/-- 'laws.FnExactStrandsOf', WHERE WHAT IT READS IS OF BULK AT MOST 1048576: true; the input reads as it did. -/
def fnExactStrandsOfUptoRow : OpenClaim := { program := "ytmgicdcpeblpnaa", sum := "083fefdc4a6f50e21372fc2376e8c885d169439b736423dcf1ee5c5750979824", func := "loop.example/g00856/laws.FnExactStrandsOf", spec := "fnExactStrandsOf", apart := false, narrowed := true }
def FnExactStrandsOfUptoSaid : Prop := fnExactStrandsOfUptoRow.holds Try.pinned (OpenSpec.upto fnExactStrandsOfSpec)

/-- 'laws.FnExactBraidEvents', WHERE WHAT IT READS IS OF BULK AT MOST 1048576: true; the input reads as it did. -/
def fnExactBraidEventsUptoRow : OpenClaim := { program := "ytmgicdcpeblpnaa", sum := "083fefdc4a6f50e21372fc2376e8c885d169439b736423dcf1ee5c5750979824", func := "loop.example/g00856/laws.FnExactBraidEvents", spec := "fnExactBraidEvents", unfollowed := true, recurses := true, apart := false, narrowed := true }
def FnExactBraidEventsUptoSaid : Prop := fnExactBraidEventsUptoRow.holds Try.pinned (OpenSpec.upto fnExactBraidEventsSpec)

/-- 'laws.FnExactSameBlocks', WHERE WHAT IT READS IS OF BULK AT MOST 1048576: true; the input reads as it did. -/
def fnExactSameBlocksUptoRow : OpenClaim := { program := "ytmgicdcpeblpnaa", sum := "083fefdc4a6f50e21372fc2376e8c885d169439b736423dcf1ee5c5750979824", func := "loop.example/g00856/laws.FnExactSameBlocks", spec := "fnExactSameBlocks", unfollowed := true, recurses := true, apart := false, narrowed := true }
def FnExactSameBlocksUptoSaid : Prop := fnExactSameBlocksUptoRow.holds Try.pinned (OpenSpec.upto fnExactSameBlocksSpec)

/-- 'laws.FnExactCrossingBraid', WHERE WHAT IT READS IS OF BULK AT MOST 1048576: true; the input reads as it did. -/
def fnExactCrossingBraidUptoRow : OpenClaim := { program := "ytmgicdcpeblpnaa", sum := "083fefdc4a6f50e21372fc2376e8c885d169439b736423dcf1ee5c5750979824", func := "loop.example/g00856/laws.FnExactCrossingBraid", spec := "fnExactCrossingBraid", unfollowed := true, recurses := true, apart := false, narrowed := true }
def FnExactCrossingBraidUptoSaid : Prop := fnExactCrossingBraidUptoRow.holds Try.pinned (OpenSpec.upto fnExactCrossingBraidSpec)

/-- 'laws.FnExactMirrorEvents', WHERE WHAT IT READS IS OF BULK AT MOST 1048576: true; the input reads as it did. -/
def fnExactMirrorEventsUptoRow : OpenClaim := { program := "ytmgicdcpeblpnaa", sum := "083fefdc4a6f50e21372fc2376e8c885d169439b736423dcf1ee5c5750979824", func := "loop.example/g00856/laws.FnExactMirrorEvents", spec := "fnExactMirrorEvents", apart := false, narrowed := true }
def FnExactMirrorEventsUptoSaid : Prop := fnExactMirrorEventsUptoRow.holds Try.pinned (OpenSpec.upto fnExactMirrorEventsSpec)

/-- 'laws.FnExactEventsOfBlocks', WHERE WHAT IT READS IS OF BULK AT MOST 1048576: true; the input reads as it did. -/
def fnExactEventsOfBlocksUptoRow : OpenClaim := { program := "ytmgicdcpeblpnaa", sum := "083fefdc4a6f50e21372fc2376e8c885d169439b736423dcf1ee5c5750979824", func := "loop.example/g00856/laws.FnExactEventsOfBlocks", spec := "fnExactEventsOfBlocks", unfollowed := true, recurses := true, apart := false, narrowed := true }
def FnExactEventsOfBlocksUptoSaid : Prop := fnExactEventsOfBlocksUptoRow.holds Try.pinned (OpenSpec.upto fnExactEventsOfBlocksSpec)

end Rows
end Go.Proofs.Ytmgicdcpeblpnaa
