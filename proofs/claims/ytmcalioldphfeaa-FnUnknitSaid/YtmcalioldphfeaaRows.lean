/-
  No cell of these rows narrows 'for every input' (looked for: loops, veiled, ifaces, maps, wideKeys, modest, calm, conditions, laid).
  DERIVED. THE GIVEN ROWS OF THIS SEAT. 5 by the template 'for every input the law returns true; each argument reads behind the call as it read before'; 0 by the template 'total and deterministic' (their statements: YtmcalioldphfeaaTotals.lean).
  GIVEN WITH THE SEED: the statements are not yours to turn. If you find one false, say at which input.
  Laid BY PROGRAM, IN A SANDBOX (cutbox-rows.mjs): the forced cells as the released guide's own fill.sh prints them over the translation 1148fc2cfafd0eab… (all of the seat's roots in one cut). By AI agents, Wed Nov 11 2026. No macro, syntax, notation, axiom, sorry.
-/
import Derived.Test.YtmcalioldphfeaaChecked
import GoSem.Claim
import GoSem.ClaimJoined
import GoSem.ClaimMapViews
import Derived.JoinedTies
import Derived.KernelRfl
namespace Go.Proofs.Ytmcalioldphfeaa
/- THE CELL 'sum', in the pinned program and in every row, IS THE sha256 OF THE DUMP (.gsa) THAT YtmcalioldphfeaaProg.lean LOADS. Nothing in Lean hashes anything: it is a label: what it is worth is what the hold of that sum in a sandbox is worth. -/
noncomputable def Try.pinned : Pinned := { name := "ytmcalioldphfeaa", sum := "1148fc2cfafd0eab14175a4c04236ed461e2597c299b546a9ec53e81378d0d19", checked := Try.checked }
namespace Rows
def none {H : Type} : Left H := { results := [], args := [] }

/-- 'laws.FnExactUnknit': WHATEVER THE INPUT: true; the input reads as it did. -/
def fnExactUnknitSpec : ChangeSpec := { name := "fnExactUnknit", fn := fun _ => fun
  | [d] => { results := [.lit (.bool true)], args := [d] }
  | _ => none }
def fnExactUnknitRow : OpenClaim := { program := "ytmcalioldphfeaa", sum := "1148fc2cfafd0eab14175a4c04236ed461e2597c299b546a9ec53e81378d0d19", func := "loop.example/g00856/laws.FnExactUnknit", spec := "fnExactUnknit", apart := false }
def FnExactUnknitSaid : Prop := fnExactUnknitRow.holds Try.pinned (OpenSpec.ofChange fnExactUnknitSpec)

/-- ITS FALSE NEIGHBOUR: 'it returns false'. Refute it at one input. -/
def fnExactUnknitWrong : ChangeSpec := { name := "fnExactUnknit", fn := fun _ => fun
  | [d] => { results := [.lit (.bool false)], args := [d] }
  | _ => none }
def FnExactUnknitWrongFalsely : Prop := fnExactUnknitRow.holds Try.pinned (OpenSpec.ofChange fnExactUnknitWrong)

/-- 'laws.FnExactUnknitTo': WHATEVER THE INPUT: true; the input reads as it did. -/
def fnExactUnknitToSpec : ChangeSpec := { name := "fnExactUnknitTo", fn := fun _ => fun
  | [d1, d2] => { results := [.lit (.bool true)], args := [d1, d2] }
  | _ => none }
def fnExactUnknitToRow : OpenClaim := { program := "ytmcalioldphfeaa", sum := "1148fc2cfafd0eab14175a4c04236ed461e2597c299b546a9ec53e81378d0d19", func := "loop.example/g00856/laws.FnExactUnknitTo", spec := "fnExactUnknitTo", apart := false }
def FnExactUnknitToSaid : Prop := fnExactUnknitToRow.holds Try.pinned (OpenSpec.ofChange fnExactUnknitToSpec)

/-- ITS FALSE NEIGHBOUR: 'it returns false'. Refute it at one input. -/
def fnExactUnknitToWrong : ChangeSpec := { name := "fnExactUnknitTo", fn := fun _ => fun
  | [d1, d2] => { results := [.lit (.bool false)], args := [d1, d2] }
  | _ => none }
def FnExactUnknitToWrongFalsely : Prop := fnExactUnknitToRow.holds Try.pinned (OpenSpec.ofChange fnExactUnknitToWrong)

/-- 'laws.FnUnknit': WHATEVER THE INPUT: true; the input reads as it did. -/
def fnUnknitSpec : ChangeSpec := { name := "fnUnknit", fn := fun _ => fun
  | [d] => { results := [.lit (.bool true)], args := [d] }
  | _ => none }
def fnUnknitRow : OpenClaim := { program := "ytmcalioldphfeaa", sum := "1148fc2cfafd0eab14175a4c04236ed461e2597c299b546a9ec53e81378d0d19", func := "loop.example/g00856/laws.FnUnknit", spec := "fnUnknit", apart := false }
def FnUnknitSaid : Prop := fnUnknitRow.holds Try.pinned (OpenSpec.ofChange fnUnknitSpec)

/-- ITS FALSE NEIGHBOUR: 'it returns false'. Refute it at one input. -/
def fnUnknitWrong : ChangeSpec := { name := "fnUnknit", fn := fun _ => fun
  | [d] => { results := [.lit (.bool false)], args := [d] }
  | _ => none }
def FnUnknitWrongFalsely : Prop := fnUnknitRow.holds Try.pinned (OpenSpec.ofChange fnUnknitWrong)

/-- 'laws.FnExactOpEvents': WHATEVER THE INPUT: true; the input reads as it did. -/
def fnExactOpEventsSpec : ChangeSpec := { name := "fnExactOpEvents", fn := fun _ => fun
  | [d1, d2] => { results := [.lit (.bool true)], args := [d1, d2] }
  | _ => none }
def fnExactOpEventsRow : OpenClaim := { program := "ytmcalioldphfeaa", sum := "1148fc2cfafd0eab14175a4c04236ed461e2597c299b546a9ec53e81378d0d19", func := "loop.example/g00856/laws.FnExactOpEvents", spec := "fnExactOpEvents", apart := false }
def FnExactOpEventsSaid : Prop := fnExactOpEventsRow.holds Try.pinned (OpenSpec.ofChange fnExactOpEventsSpec)

/-- ITS FALSE NEIGHBOUR: 'it returns false'. Refute it at one input. -/
def fnExactOpEventsWrong : ChangeSpec := { name := "fnExactOpEvents", fn := fun _ => fun
  | [d1, d2] => { results := [.lit (.bool false)], args := [d1, d2] }
  | _ => none }
def FnExactOpEventsWrongFalsely : Prop := fnExactOpEventsRow.holds Try.pinned (OpenSpec.ofChange fnExactOpEventsWrong)

/-- 'laws.FnExactTraceOf': WHATEVER THE INPUT: true; the input reads as it did. -/
def fnExactTraceOfSpec : ChangeSpec := { name := "fnExactTraceOf", fn := fun _ => fun
  | [d1, d2] => { results := [.lit (.bool true)], args := [d1, d2] }
  | _ => none }
def fnExactTraceOfRow : OpenClaim := { program := "ytmcalioldphfeaa", sum := "1148fc2cfafd0eab14175a4c04236ed461e2597c299b546a9ec53e81378d0d19", func := "loop.example/g00856/laws.FnExactTraceOf", spec := "fnExactTraceOf", unfollowed := true, recurses := true, apart := false }
def FnExactTraceOfSaid : Prop := fnExactTraceOfRow.holds Try.pinned (OpenSpec.ofChange fnExactTraceOfSpec)

/-- ITS FALSE NEIGHBOUR: 'it returns false'. Refute it at one input. -/
def fnExactTraceOfWrong : ChangeSpec := { name := "fnExactTraceOf", fn := fun _ => fun
  | [d1, d2] => { results := [.lit (.bool false)], args := [d1, d2] }
  | _ => none }
def FnExactTraceOfWrongFalsely : Prop := fnExactTraceOfRow.holds Try.pinned (OpenSpec.ofChange fnExactTraceOfWrong)

/- THE SECOND FORM. 'bulk': how many values and letters a reading holds, each counted each time it is reached (what is shared counts as often as it is met; a slice's spare places count too). A statement '..UptoSaid' is the law's where the arguments, and the package variables that the reading takes, are together of bulk at most 1048576: NARROWER than '..Said'. Prove '..Said' where nothing that the law and all that it calls make is longer than what came in: it says more and counts as full. Else prove '..UptoSaid'. A law counts once. -/
mutual
def uptoBulk {H : Type} : DataW H → Nat
  | .lit (.string bytes) => bytes.length + 1
  | .lit _ => 1
  | .nil => 1
  | .ptr d => uptoBulk d + 1
  | .slice elems spare => uptoBulkAll elems + uptoBulkAll spare + 1
  | .agg parts => uptoBulkAll parts + 1
  | .iface _ d => uptoBulk d + 1
  | .map entries => uptoBulkEntries entries + 1
  | .held _ => 1
def uptoBulkAll {H : Type} : List (DataW H) → Nat
  | [] => 0
  | d :: r => uptoBulk d + uptoBulkAll r
def uptoBulkEntries {H : Type} : List (Lit × DataW H) → Nat
  | [] => 0
  | x :: r => uptoBulkEntry x + uptoBulkEntries r
def uptoBulkEntry {H : Type} : Lit × DataW H → Nat
  | (.string bytes, d) => bytes.length + uptoBulk d + 1
  | (_, d) => uptoBulk d + 1
 end
def uptoSmall : (H : Type) → List (DataW H) → Bool := fun _ ds => decide (uptoBulkAll ds ≤ 1048576)
def OpenSpec.upto (s : _root_.Go.ChangeSpec) : _root_.Go.OpenSpec := { _root_.Go.OpenSpec.ofChange s with cond := some uptoSmall }

/-- 'laws.FnExactUnknit', WHERE WHAT IT READS IS OF BULK AT MOST 1048576: true; the input reads as it did. -/
def fnExactUnknitUptoRow : OpenClaim := { program := "ytmcalioldphfeaa", sum := "1148fc2cfafd0eab14175a4c04236ed461e2597c299b546a9ec53e81378d0d19", func := "loop.example/g00856/laws.FnExactUnknit", spec := "fnExactUnknit", apart := false, narrowed := true }
def FnExactUnknitUptoSaid : Prop := fnExactUnknitUptoRow.holds Try.pinned (OpenSpec.upto fnExactUnknitSpec)

/-- 'laws.FnExactUnknitTo', WHERE WHAT IT READS IS OF BULK AT MOST 1048576: true; the input reads as it did. -/
def fnExactUnknitToUptoRow : OpenClaim := { program := "ytmcalioldphfeaa", sum := "1148fc2cfafd0eab14175a4c04236ed461e2597c299b546a9ec53e81378d0d19", func := "loop.example/g00856/laws.FnExactUnknitTo", spec := "fnExactUnknitTo", apart := false, narrowed := true }
def FnExactUnknitToUptoSaid : Prop := fnExactUnknitToUptoRow.holds Try.pinned (OpenSpec.upto fnExactUnknitToSpec)

/-- 'laws.FnUnknit', WHERE WHAT IT READS IS OF BULK AT MOST 1048576: true; the input reads as it did. -/
def fnUnknitUptoRow : OpenClaim := { program := "ytmcalioldphfeaa", sum := "1148fc2cfafd0eab14175a4c04236ed461e2597c299b546a9ec53e81378d0d19", func := "loop.example/g00856/laws.FnUnknit", spec := "fnUnknit", apart := false, narrowed := true }
def FnUnknitUptoSaid : Prop := fnUnknitUptoRow.holds Try.pinned (OpenSpec.upto fnUnknitSpec)

/-- 'laws.FnExactOpEvents', WHERE WHAT IT READS IS OF BULK AT MOST 1048576: true; the input reads as it did. -/
def fnExactOpEventsUptoRow : OpenClaim := { program := "ytmcalioldphfeaa", sum := "1148fc2cfafd0eab14175a4c04236ed461e2597c299b546a9ec53e81378d0d19", func := "loop.example/g00856/laws.FnExactOpEvents", spec := "fnExactOpEvents", apart := false, narrowed := true }
def FnExactOpEventsUptoSaid : Prop := fnExactOpEventsUptoRow.holds Try.pinned (OpenSpec.upto fnExactOpEventsSpec)

/-- 'laws.FnExactTraceOf', WHERE WHAT IT READS IS OF BULK AT MOST 1048576: true; the input reads as it did. -/
def fnExactTraceOfUptoRow : OpenClaim := { program := "ytmcalioldphfeaa", sum := "1148fc2cfafd0eab14175a4c04236ed461e2597c299b546a9ec53e81378d0d19", func := "loop.example/g00856/laws.FnExactTraceOf", spec := "fnExactTraceOf", unfollowed := true, recurses := true, apart := false, narrowed := true }
def FnExactTraceOfUptoSaid : Prop := fnExactTraceOfUptoRow.holds Try.pinned (OpenSpec.upto fnExactTraceOfSpec)

end Rows
end Go.Proofs.Ytmcalioldphfeaa
