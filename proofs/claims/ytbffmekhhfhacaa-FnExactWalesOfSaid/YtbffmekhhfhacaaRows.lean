/-
  No cell of these rows narrows 'for every input' (looked for: loops, veiled, ifaces, maps, wideKeys, modest, calm, conditions, laid).
  DERIVED. THE GIVEN ROWS OF THIS SEAT. 13 by the template 'for every input the law returns true; each argument reads behind the call as it read before'; 0 by the template 'total and deterministic' (their statements: YtbffmekhhfhacaaTotals.lean).
  GIVEN WITH THE SEED: the statements are not yours to turn. If you find one false, say at which input.
  Laid BY PROGRAM, IN A SANDBOX (cutbox-rows.mjs): the forced cells as the released guide's own fill.sh prints them over the translation 0a79812312858fb4… (all of the seat's roots in one cut). By AI agents, Wed Nov 11 2026. No macro, syntax, notation, axiom, sorry.
-/
import Derived.Test.YtbffmekhhfhacaaChecked
import GoSem.Claim
import GoSem.ClaimJoined
import GoSem.ClaimMapViews
import Derived.JoinedTies
import Derived.KernelRfl
namespace Go.Proofs.Ytbffmekhhfhacaa
/- THE CELL 'sum', in the pinned program and in every row, IS THE sha256 OF THE DUMP (.gsa) THAT YtbffmekhhfhacaaProg.lean LOADS. Nothing in Lean hashes anything: it is a label: what it is worth is what the hold of that sum in a sandbox is worth. -/
noncomputable def Try.pinned : Pinned := { name := "ytbffmekhhfhacaa", sum := "0a79812312858fb4d3c0ab7bed6d20310d6ac57230d24af0c9a1bd8d2d9ca9b6", checked := Try.checked }
namespace Rows
def none {H : Type} : Left H := { results := [], args := [] }

/-- 'laws.FnExactYarnOf': WHATEVER THE INPUT: true; the input reads as it did. -/
def fnExactYarnOfSpec : ChangeSpec := { name := "fnExactYarnOf", fn := fun _ => fun
  | [d1, d2] => { results := [.lit (.bool true)], args := [d1, d2] }
  | _ => none }
def fnExactYarnOfRow : OpenClaim := { program := "ytbffmekhhfhacaa", sum := "0a79812312858fb4d3c0ab7bed6d20310d6ac57230d24af0c9a1bd8d2d9ca9b6", func := "loop.example/g00856/laws.FnExactYarnOf", spec := "fnExactYarnOf", apart := false }
def FnExactYarnOfSaid : Prop := fnExactYarnOfRow.holds Try.pinned (OpenSpec.ofChange fnExactYarnOfSpec)

/-- ITS FALSE NEIGHBOUR: 'it returns false'. Refute it at one input. -/
def fnExactYarnOfWrong : ChangeSpec := { name := "fnExactYarnOf", fn := fun _ => fun
  | [d1, d2] => { results := [.lit (.bool false)], args := [d1, d2] }
  | _ => none }
def FnExactYarnOfWrongFalsely : Prop := fnExactYarnOfRow.holds Try.pinned (OpenSpec.ofChange fnExactYarnOfWrong)

/-- 'laws.FnExactWaleOf': WHATEVER THE INPUT: true; the input reads as it did. -/
def fnExactWaleOfSpec : ChangeSpec := { name := "fnExactWaleOf", fn := fun _ => fun
  | [d1, d2] => { results := [.lit (.bool true)], args := [d1, d2] }
  | _ => none }
def fnExactWaleOfRow : OpenClaim := { program := "ytbffmekhhfhacaa", sum := "0a79812312858fb4d3c0ab7bed6d20310d6ac57230d24af0c9a1bd8d2d9ca9b6", func := "loop.example/g00856/laws.FnExactWaleOf", spec := "fnExactWaleOf", apart := false }
def FnExactWaleOfSaid : Prop := fnExactWaleOfRow.holds Try.pinned (OpenSpec.ofChange fnExactWaleOfSpec)

/-- ITS FALSE NEIGHBOUR: 'it returns false'. Refute it at one input. -/
def fnExactWaleOfWrong : ChangeSpec := { name := "fnExactWaleOf", fn := fun _ => fun
  | [d1, d2] => { results := [.lit (.bool false)], args := [d1, d2] }
  | _ => none }
def FnExactWaleOfWrongFalsely : Prop := fnExactWaleOfRow.holds Try.pinned (OpenSpec.ofChange fnExactWaleOfWrong)

/-- 'laws.FnExactChildrenOf': WHATEVER THE INPUT: true; the input reads as it did. -/
def fnExactChildrenOfSpec : ChangeSpec := { name := "fnExactChildrenOf", fn := fun _ => fun
  | [d1, d2] => { results := [.lit (.bool true)], args := [d1, d2] }
  | _ => none }
def fnExactChildrenOfRow : OpenClaim := { program := "ytbffmekhhfhacaa", sum := "0a79812312858fb4d3c0ab7bed6d20310d6ac57230d24af0c9a1bd8d2d9ca9b6", func := "loop.example/g00856/laws.FnExactChildrenOf", spec := "fnExactChildrenOf", apart := false }
def FnExactChildrenOfSaid : Prop := fnExactChildrenOfRow.holds Try.pinned (OpenSpec.ofChange fnExactChildrenOfSpec)

/-- ITS FALSE NEIGHBOUR: 'it returns false'. Refute it at one input. -/
def fnExactChildrenOfWrong : ChangeSpec := { name := "fnExactChildrenOf", fn := fun _ => fun
  | [d1, d2] => { results := [.lit (.bool false)], args := [d1, d2] }
  | _ => none }
def FnExactChildrenOfWrongFalsely : Prop := fnExactChildrenOfRow.holds Try.pinned (OpenSpec.ofChange fnExactChildrenOfWrong)

/-- 'laws.FnExactWalesOf': WHATEVER THE INPUT: true; the input reads as it did. -/
def fnExactWalesOfSpec : ChangeSpec := { name := "fnExactWalesOf", fn := fun _ => fun
  | [d] => { results := [.lit (.bool true)], args := [d] }
  | _ => none }
def fnExactWalesOfRow : OpenClaim := { program := "ytbffmekhhfhacaa", sum := "0a79812312858fb4d3c0ab7bed6d20310d6ac57230d24af0c9a1bd8d2d9ca9b6", func := "loop.example/g00856/laws.FnExactWalesOf", spec := "fnExactWalesOf", apart := false }
def FnExactWalesOfSaid : Prop := fnExactWalesOfRow.holds Try.pinned (OpenSpec.ofChange fnExactWalesOfSpec)

/-- ITS FALSE NEIGHBOUR: 'it returns false'. Refute it at one input. -/
def fnExactWalesOfWrong : ChangeSpec := { name := "fnExactWalesOf", fn := fun _ => fun
  | [d] => { results := [.lit (.bool false)], args := [d] }
  | _ => none }
def FnExactWalesOfWrongFalsely : Prop := fnExactWalesOfRow.holds Try.pinned (OpenSpec.ofChange fnExactWalesOfWrong)

/-- 'laws.FnExactLoopState': WHATEVER THE INPUT: true; the input reads as it did. -/
def fnExactLoopStateSpec : ChangeSpec := { name := "fnExactLoopState", fn := fun _ => fun
  | [d1, d2] => { results := [.lit (.bool true)], args := [d1, d2] }
  | _ => none }
def fnExactLoopStateRow : OpenClaim := { program := "ytbffmekhhfhacaa", sum := "0a79812312858fb4d3c0ab7bed6d20310d6ac57230d24af0c9a1bd8d2d9ca9b6", func := "loop.example/g00856/laws.FnExactLoopState", spec := "fnExactLoopState", apart := false }
def FnExactLoopStateSaid : Prop := fnExactLoopStateRow.holds Try.pinned (OpenSpec.ofChange fnExactLoopStateSpec)

/-- ITS FALSE NEIGHBOUR: 'it returns false'. Refute it at one input. -/
def fnExactLoopStateWrong : ChangeSpec := { name := "fnExactLoopState", fn := fun _ => fun
  | [d1, d2] => { results := [.lit (.bool false)], args := [d1, d2] }
  | _ => none }
def FnExactLoopStateWrongFalsely : Prop := fnExactLoopStateRow.holds Try.pinned (OpenSpec.ofChange fnExactLoopStateWrong)

/-- 'laws.FnExactIsSecure': WHATEVER THE INPUT: true; the input reads as it did. -/
def fnExactIsSecureSpec : ChangeSpec := { name := "fnExactIsSecure", fn := fun _ => fun
  | [d] => { results := [.lit (.bool true)], args := [d] }
  | _ => none }
def fnExactIsSecureRow : OpenClaim := { program := "ytbffmekhhfhacaa", sum := "0a79812312858fb4d3c0ab7bed6d20310d6ac57230d24af0c9a1bd8d2d9ca9b6", func := "loop.example/g00856/laws.FnExactIsSecure", spec := "fnExactIsSecure", unfollowed := true, recurses := true, apart := false }
def FnExactIsSecureSaid : Prop := fnExactIsSecureRow.holds Try.pinned (OpenSpec.ofChange fnExactIsSecureSpec)

/-- ITS FALSE NEIGHBOUR: 'it returns false'. Refute it at one input. -/
def fnExactIsSecureWrong : ChangeSpec := { name := "fnExactIsSecure", fn := fun _ => fun
  | [d] => { results := [.lit (.bool false)], args := [d] }
  | _ => none }
def FnExactIsSecureWrongFalsely : Prop := fnExactIsSecureRow.holds Try.pinned (OpenSpec.ofChange fnExactIsSecureWrong)

/-- 'laws.FnExactUndone': WHATEVER THE INPUT: true; the input reads as it did. -/
def fnExactUndoneSpec : ChangeSpec := { name := "fnExactUndone", fn := fun _ => fun
  | [d] => { results := [.lit (.bool true)], args := [d] }
  | _ => none }
def fnExactUndoneRow : OpenClaim := { program := "ytbffmekhhfhacaa", sum := "0a79812312858fb4d3c0ab7bed6d20310d6ac57230d24af0c9a1bd8d2d9ca9b6", func := "loop.example/g00856/laws.FnExactUndone", spec := "fnExactUndone", unfollowed := true, recurses := true, apart := false }
def FnExactUndoneSaid : Prop := fnExactUndoneRow.holds Try.pinned (OpenSpec.ofChange fnExactUndoneSpec)

/-- ITS FALSE NEIGHBOUR: 'it returns false'. Refute it at one input. -/
def fnExactUndoneWrong : ChangeSpec := { name := "fnExactUndone", fn := fun _ => fun
  | [d] => { results := [.lit (.bool false)], args := [d] }
  | _ => none }
def FnExactUndoneWrongFalsely : Prop := fnExactUndoneRow.holds Try.pinned (OpenSpec.ofChange fnExactUndoneWrong)

/-- 'laws.FnExactFabricCounts': WHATEVER THE INPUT: true; the input reads as it did. -/
def fnExactFabricCountsSpec : ChangeSpec := { name := "fnExactFabricCounts", fn := fun _ => fun
  | [d] => { results := [.lit (.bool true)], args := [d] }
  | _ => none }
def fnExactFabricCountsRow : OpenClaim := { program := "ytbffmekhhfhacaa", sum := "0a79812312858fb4d3c0ab7bed6d20310d6ac57230d24af0c9a1bd8d2d9ca9b6", func := "loop.example/g00856/laws.FnExactFabricCounts", spec := "fnExactFabricCounts", apart := false }
def FnExactFabricCountsSaid : Prop := fnExactFabricCountsRow.holds Try.pinned (OpenSpec.ofChange fnExactFabricCountsSpec)

/-- ITS FALSE NEIGHBOUR: 'it returns false'. Refute it at one input. -/
def fnExactFabricCountsWrong : ChangeSpec := { name := "fnExactFabricCounts", fn := fun _ => fun
  | [d] => { results := [.lit (.bool false)], args := [d] }
  | _ => none }
def FnExactFabricCountsWrongFalsely : Prop := fnExactFabricCountsRow.holds Try.pinned (OpenSpec.ofChange fnExactFabricCountsWrong)

/-- 'laws.FnExactLadderOf': WHATEVER THE INPUT: true; the input reads as it did. -/
def fnExactLadderOfSpec : ChangeSpec := { name := "fnExactLadderOf", fn := fun _ => fun
  | [d1, d2] => { results := [.lit (.bool true)], args := [d1, d2] }
  | _ => none }
def fnExactLadderOfRow : OpenClaim := { program := "ytbffmekhhfhacaa", sum := "0a79812312858fb4d3c0ab7bed6d20310d6ac57230d24af0c9a1bd8d2d9ca9b6", func := "loop.example/g00856/laws.FnExactLadderOf", spec := "fnExactLadderOf", unfollowed := true, recurses := true, apart := false }
def FnExactLadderOfSaid : Prop := fnExactLadderOfRow.holds Try.pinned (OpenSpec.ofChange fnExactLadderOfSpec)

/-- ITS FALSE NEIGHBOUR: 'it returns false'. Refute it at one input. -/
def fnExactLadderOfWrong : ChangeSpec := { name := "fnExactLadderOf", fn := fun _ => fun
  | [d1, d2] => { results := [.lit (.bool false)], args := [d1, d2] }
  | _ => none }
def FnExactLadderOfWrongFalsely : Prop := fnExactLadderOfRow.holds Try.pinned (OpenSpec.ofChange fnExactLadderOfWrong)

/-- 'laws.FnExactRunOf': WHATEVER THE INPUT: true; the input reads as it did. -/
def fnExactRunOfSpec : ChangeSpec := { name := "fnExactRunOf", fn := fun _ => fun
  | [d1, d2] => { results := [.lit (.bool true)], args := [d1, d2] }
  | _ => none }
def fnExactRunOfRow : OpenClaim := { program := "ytbffmekhhfhacaa", sum := "0a79812312858fb4d3c0ab7bed6d20310d6ac57230d24af0c9a1bd8d2d9ca9b6", func := "loop.example/g00856/laws.FnExactRunOf", spec := "fnExactRunOf", unfollowed := true, recurses := true, apart := false }
def FnExactRunOfSaid : Prop := fnExactRunOfRow.holds Try.pinned (OpenSpec.ofChange fnExactRunOfSpec)

/-- ITS FALSE NEIGHBOUR: 'it returns false'. Refute it at one input. -/
def fnExactRunOfWrong : ChangeSpec := { name := "fnExactRunOf", fn := fun _ => fun
  | [d1, d2] => { results := [.lit (.bool false)], args := [d1, d2] }
  | _ => none }
def FnExactRunOfWrongFalsely : Prop := fnExactRunOfRow.holds Try.pinned (OpenSpec.ofChange fnExactRunOfWrong)

/-- 'laws.FnYarn': WHATEVER THE INPUT: true; the input reads as it did. -/
def fnYarnSpec : ChangeSpec := { name := "fnYarn", fn := fun _ => fun
  | [d] => { results := [.lit (.bool true)], args := [d] }
  | _ => none }
def fnYarnRow : OpenClaim := { program := "ytbffmekhhfhacaa", sum := "0a79812312858fb4d3c0ab7bed6d20310d6ac57230d24af0c9a1bd8d2d9ca9b6", func := "loop.example/g00856/laws.FnYarn", spec := "fnYarn", apart := false }
def FnYarnSaid : Prop := fnYarnRow.holds Try.pinned (OpenSpec.ofChange fnYarnSpec)

/-- ITS FALSE NEIGHBOUR: 'it returns false'. Refute it at one input. -/
def fnYarnWrong : ChangeSpec := { name := "fnYarn", fn := fun _ => fun
  | [d] => { results := [.lit (.bool false)], args := [d] }
  | _ => none }
def FnYarnWrongFalsely : Prop := fnYarnRow.holds Try.pinned (OpenSpec.ofChange fnYarnWrong)

/-- 'laws.FnFabric': WHATEVER THE INPUT: true; the input reads as it did. -/
def fnFabricSpec : ChangeSpec := { name := "fnFabric", fn := fun _ => fun
  | [d] => { results := [.lit (.bool true)], args := [d] }
  | _ => none }
def fnFabricRow : OpenClaim := { program := "ytbffmekhhfhacaa", sum := "0a79812312858fb4d3c0ab7bed6d20310d6ac57230d24af0c9a1bd8d2d9ca9b6", func := "loop.example/g00856/laws.FnFabric", spec := "fnFabric", apart := false }
def FnFabricSaid : Prop := fnFabricRow.holds Try.pinned (OpenSpec.ofChange fnFabricSpec)

/-- ITS FALSE NEIGHBOUR: 'it returns false'. Refute it at one input. -/
def fnFabricWrong : ChangeSpec := { name := "fnFabric", fn := fun _ => fun
  | [d] => { results := [.lit (.bool false)], args := [d] }
  | _ => none }
def FnFabricWrongFalsely : Prop := fnFabricRow.holds Try.pinned (OpenSpec.ofChange fnFabricWrong)

/-- 'laws.FnRuns': WHATEVER THE INPUT: true; the input reads as it did. -/
def fnRunsSpec : ChangeSpec := { name := "fnRuns", fn := fun _ => fun
  | [d] => { results := [.lit (.bool true)], args := [d] }
  | _ => none }
def fnRunsRow : OpenClaim := { program := "ytbffmekhhfhacaa", sum := "0a79812312858fb4d3c0ab7bed6d20310d6ac57230d24af0c9a1bd8d2d9ca9b6", func := "loop.example/g00856/laws.FnRuns", spec := "fnRuns", unfollowed := true, recurses := true, apart := false }
def FnRunsSaid : Prop := fnRunsRow.holds Try.pinned (OpenSpec.ofChange fnRunsSpec)

/-- ITS FALSE NEIGHBOUR: 'it returns false'. Refute it at one input. -/
def fnRunsWrong : ChangeSpec := { name := "fnRuns", fn := fun _ => fun
  | [d] => { results := [.lit (.bool false)], args := [d] }
  | _ => none }
def FnRunsWrongFalsely : Prop := fnRunsRow.holds Try.pinned (OpenSpec.ofChange fnRunsWrong)

/- THE SECOND FORM. 'bulk': how many values and letters a reading holds, each counted each time it is reached (what is shared counts as often as it is met; a slice's spare places count too). A statement '..UptoSaid' is the law's where the arguments, and the package variables that the reading takes, are together of bulk at most 1048576: NARROWER than '..Said'. Prove '..Said' where nothing that the law and all that it calls make is longer than what came in: it says more and counts as full. Else prove '..UptoSaid'. A law counts once. -/
mutual
def uptoBulk {H : Type} : DataW H → Nat
  | .lit (.string bytes) => bytes.length + 1
  | .lit _ => 1
  | .nil => 1
  | .ptr d => uptoBulk d + 1
  | .slice elems spare => uptoBulkAll elems + uptoBulkAll spare + 1
  | .agg parts => uptoBulkAll parts + 1
  | .iface _ d => uptoBulk d + 1
  | .map entries => uptoBulkEntries entries + 1
  | .held _ => 1
def uptoBulkAll {H : Type} : List (DataW H) → Nat
  | [] => 0
  | d :: r => uptoBulk d + uptoBulkAll r
def uptoBulkEntries {H : Type} : List (Lit × DataW H) → Nat
  | [] => 0
  | x :: r => uptoBulkEntry x + uptoBulkEntries r
def uptoBulkEntry {H : Type} : Lit × DataW H → Nat
  | (.string bytes, d) => bytes.length + uptoBulk d + 1
  | (_, d) => uptoBulk d + 1
 end
def uptoSmall : (H : Type) → List (DataW H) → Bool := fun _ ds => decide (uptoBulkAll ds ≤ 1048576)
def OpenSpec.upto (s : _root_.Go.ChangeSpec) : _root_.Go.OpenSpec := { _root_.Go.OpenSpec.ofChange s with cond := some uptoSmall }

/-- 'laws.FnExactYarnOf', WHERE WHAT IT READS IS OF BULK AT MOST 1048576: true; the input reads as it did. -/
def fnExactYarnOfUptoRow : OpenClaim := { program := "ytbffmekhhfhacaa", sum := "0a79812312858fb4d3c0ab7bed6d20310d6ac57230d24af0c9a1bd8d2d9ca9b6", func := "loop.example/g00856/laws.FnExactYarnOf", spec := "fnExactYarnOf", apart := false, narrowed := true }
def FnExactYarnOfUptoSaid : Prop := fnExactYarnOfUptoRow.holds Try.pinned (OpenSpec.upto fnExactYarnOfSpec)

/-- 'laws.FnExactWaleOf', WHERE WHAT IT READS IS OF BULK AT MOST 1048576: true; the input reads as it did. -/
def fnExactWaleOfUptoRow : OpenClaim := { program := "ytbffmekhhfhacaa", sum := "0a79812312858fb4d3c0ab7bed6d20310d6ac57230d24af0c9a1bd8d2d9ca9b6", func := "loop.example/g00856/laws.FnExactWaleOf", spec := "fnExactWaleOf", apart := false, narrowed := true }
def FnExactWaleOfUptoSaid : Prop := fnExactWaleOfUptoRow.holds Try.pinned (OpenSpec.upto fnExactWaleOfSpec)

/-- 'laws.FnExactChildrenOf', WHERE WHAT IT READS IS OF BULK AT MOST 1048576: true; the input reads as it did. -/
def fnExactChildrenOfUptoRow : OpenClaim := { program := "ytbffmekhhfhacaa", sum := "0a79812312858fb4d3c0ab7bed6d20310d6ac57230d24af0c9a1bd8d2d9ca9b6", func := "loop.example/g00856/laws.FnExactChildrenOf", spec := "fnExactChildrenOf", apart := false, narrowed := true }
def FnExactChildrenOfUptoSaid : Prop := fnExactChildrenOfUptoRow.holds Try.pinned (OpenSpec.upto fnExactChildrenOfSpec)

/-- 'laws.FnExactWalesOf', WHERE WHAT IT READS IS OF BULK AT MOST 1048576: true; the input reads as it did. -/
def fnExactWalesOfUptoRow : OpenClaim := { program := "ytbffmekhhfhacaa", sum := "0a79812312858fb4d3c0ab7bed6d20310d6ac57230d24af0c9a1bd8d2d9ca9b6", func := "loop.example/g00856/laws.FnExactWalesOf", spec := "fnExactWalesOf", apart := false, narrowed := true }
def FnExactWalesOfUptoSaid : Prop := fnExactWalesOfUptoRow.holds Try.pinned (OpenSpec.upto fnExactWalesOfSpec)

/-- 'laws.FnExactLoopState', WHERE WHAT IT READS IS OF BULK AT MOST 1048576: true; the input reads as it did. -/
def fnExactLoopStateUptoRow : OpenClaim := { program := "ytbffmekhhfhacaa", sum := "0a79812312858fb4d3c0ab7bed6d20310d6ac57230d24af0c9a1bd8d2d9ca9b6", func := "loop.example/g00856/laws.FnExactLoopState", spec := "fnExactLoopState", apart := false, narrowed := true }
def FnExactLoopStateUptoSaid : Prop := fnExactLoopStateUptoRow.holds Try.pinned (OpenSpec.upto fnExactLoopStateSpec)

/-- 'laws.FnExactIsSecure', WHERE WHAT IT READS IS OF BULK AT MOST 1048576: true; the input reads as it did. -/
def fnExactIsSecureUptoRow : OpenClaim := { program := "ytbffmekhhfhacaa", sum := "0a79812312858fb4d3c0ab7bed6d20310d6ac57230d24af0c9a1bd8d2d9ca9b6", func := "loop.example/g00856/laws.FnExactIsSecure", spec := "fnExactIsSecure", unfollowed := true, recurses := true, apart := false, narrowed := true }
def FnExactIsSecureUptoSaid : Prop := fnExactIsSecureUptoRow.holds Try.pinned (OpenSpec.upto fnExactIsSecureSpec)

/-- 'laws.FnExactUndone', WHERE WHAT IT READS IS OF BULK AT MOST 1048576: true; the input reads as it did. -/
def fnExactUndoneUptoRow : OpenClaim := { program := "ytbffmekhhfhacaa", sum := "0a79812312858fb4d3c0ab7bed6d20310d6ac57230d24af0c9a1bd8d2d9ca9b6", func := "loop.example/g00856/laws.FnExactUndone", spec := "fnExactUndone", unfollowed := true, recurses := true, apart := false, narrowed := true }
def FnExactUndoneUptoSaid : Prop := fnExactUndoneUptoRow.holds Try.pinned (OpenSpec.upto fnExactUndoneSpec)

/-- 'laws.FnExactFabricCounts', WHERE WHAT IT READS IS OF BULK AT MOST 1048576: true; the input reads as it did. -/
def fnExactFabricCountsUptoRow : OpenClaim := { program := "ytbffmekhhfhacaa", sum := "0a79812312858fb4d3c0ab7bed6d20310d6ac57230d24af0c9a1bd8d2d9ca9b6", func := "loop.example/g00856/laws.FnExactFabricCounts", spec := "fnExactFabricCounts", apart := false, narrowed := true }
def FnExactFabricCountsUptoSaid : Prop := fnExactFabricCountsUptoRow.holds Try.pinned (OpenSpec.upto fnExactFabricCountsSpec)

/-- 'laws.FnExactLadderOf', WHERE WHAT IT READS IS OF BULK AT MOST 1048576: true; the input reads as it did. -/
def fnExactLadderOfUptoRow : OpenClaim := { program := "ytbffmekhhfhacaa", sum := "0a79812312858fb4d3c0ab7bed6d20310d6ac57230d24af0c9a1bd8d2d9ca9b6", func := "loop.example/g00856/laws.FnExactLadderOf", spec := "fnExactLadderOf", unfollowed := true, recurses := true, apart := false, narrowed := true }
def FnExactLadderOfUptoSaid : Prop := fnExactLadderOfUptoRow.holds Try.pinned (OpenSpec.upto fnExactLadderOfSpec)

/-- 'laws.FnExactRunOf', WHERE WHAT IT READS IS OF BULK AT MOST 1048576: true; the input reads as it did. -/
def fnExactRunOfUptoRow : OpenClaim := { program := "ytbffmekhhfhacaa", sum := "0a79812312858fb4d3c0ab7bed6d20310d6ac57230d24af0c9a1bd8d2d9ca9b6", func := "loop.example/g00856/laws.FnExactRunOf", spec := "fnExactRunOf", unfollowed := true, recurses := true, apart := false, narrowed := true }
def FnExactRunOfUptoSaid : Prop := fnExactRunOfUptoRow.holds Try.pinned (OpenSpec.upto fnExactRunOfSpec)

/-- 'laws.FnYarn', WHERE WHAT IT READS IS OF BULK AT MOST 1048576: true; the input reads as it did. -/
def fnYarnUptoRow : OpenClaim := { program := "ytbffmekhhfhacaa", sum := "0a79812312858fb4d3c0ab7bed6d20310d6ac57230d24af0c9a1bd8d2d9ca9b6", func := "loop.example/g00856/laws.FnYarn", spec := "fnYarn", apart := false, narrowed := true }
def FnYarnUptoSaid : Prop := fnYarnUptoRow.holds Try.pinned (OpenSpec.upto fnYarnSpec)

/-- 'laws.FnFabric', WHERE WHAT IT READS IS OF BULK AT MOST 1048576: true; the input reads as it did. -/
def fnFabricUptoRow : OpenClaim := { program := "ytbffmekhhfhacaa", sum := "0a79812312858fb4d3c0ab7bed6d20310d6ac57230d24af0c9a1bd8d2d9ca9b6", func := "loop.example/g00856/laws.FnFabric", spec := "fnFabric", apart := false, narrowed := true }
def FnFabricUptoSaid : Prop := fnFabricUptoRow.holds Try.pinned (OpenSpec.upto fnFabricSpec)

/-- 'laws.FnRuns', WHERE WHAT IT READS IS OF BULK AT MOST 1048576: true; the input reads as it did. -/
def fnRunsUptoRow : OpenClaim := { program := "ytbffmekhhfhacaa", sum := "0a79812312858fb4d3c0ab7bed6d20310d6ac57230d24af0c9a1bd8d2d9ca9b6", func := "loop.example/g00856/laws.FnRuns", spec := "fnRuns", unfollowed := true, recurses := true, apart := false, narrowed := true }
def FnRunsUptoSaid : Prop := fnRunsUptoRow.holds Try.pinned (OpenSpec.upto fnRunsSpec)

end Rows
end Go.Proofs.Ytbffmekhhfhacaa
