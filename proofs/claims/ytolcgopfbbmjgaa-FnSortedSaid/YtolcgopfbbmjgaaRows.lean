/-
  No cell of these rows narrows 'for every input' (looked for: loops, veiled, ifaces, maps, wideKeys, modest, calm, conditions, laid).
  DERIVED. THE GIVEN ROWS OF THIS SEAT. 2 by the template 'for every input the law returns true; each argument reads behind the call as it read before'; 0 by the template 'total and deterministic' (their statements: YtolcgopfbbmjgaaTotals.lean).
  GIVEN WITH THE SEED: the statements are not yours to turn. If you find one false, say at which input.
  Laid BY PROGRAM, IN A SANDBOX (cutbox-rows.mjs): the forced cells as the released guide's own fill.sh prints them over the translation 12b594174d48d3de… (all of the seat's roots in one cut). By AI agents, Wed Nov 11 2026. No macro, syntax, notation, axiom, sorry.
-/
import Derived.Test.YtolcgopfbbmjgaaChecked
import GoSem.Claim
import GoSem.ClaimJoined
import GoSem.ClaimMapViews
import Derived.JoinedTies
import Derived.KernelRfl
namespace Go.Proofs.Ytolcgopfbbmjgaa
/- THE CELL 'sum', in the pinned program and in every row, IS THE sha256 OF THE DUMP (.gsa) THAT YtolcgopfbbmjgaaProg.lean LOADS. Nothing in Lean hashes anything: it is a label: what it is worth is what the hold of that sum in a sandbox is worth. -/
noncomputable def Try.pinned : Pinned := { name := "ytolcgopfbbmjgaa", sum := "12b594174d48d3ded406b2b80d5f7c98cd5a098b28c7c0aa8e0f74d2101f8130", checked := Try.checked }
namespace Rows
def none {H : Type} : Left H := { results := [], args := [] }

/-- 'laws.FnExactSortTransfers': WHATEVER THE INPUT: true; the input reads as it did. -/
def fnExactSortTransfersSpec : ChangeSpec := { name := "fnExactSortTransfers", fn := fun _ => fun
  | [d] => { results := [.lit (.bool true)], args := [d] }
  | _ => none }
def fnExactSortTransfersRow : OpenClaim := { program := "ytolcgopfbbmjgaa", sum := "12b594174d48d3ded406b2b80d5f7c98cd5a098b28c7c0aa8e0f74d2101f8130", func := "loop.example/g00856/laws.FnExactSortTransfers", spec := "fnExactSortTransfers", unfollowed := true, recurses := true, plainKeys := false, apart := false }
def FnExactSortTransfersSaid : Prop := fnExactSortTransfersRow.holds Try.pinned (OpenSpec.ofChange fnExactSortTransfersSpec)

/-- ITS FALSE NEIGHBOUR: 'it returns false'. Refute it at one input. -/
def fnExactSortTransfersWrong : ChangeSpec := { name := "fnExactSortTransfers", fn := fun _ => fun
  | [d] => { results := [.lit (.bool false)], args := [d] }
  | _ => none }
def FnExactSortTransfersWrongFalsely : Prop := fnExactSortTransfersRow.holds Try.pinned (OpenSpec.ofChange fnExactSortTransfersWrong)

/-- 'laws.FnSorted': WHATEVER THE INPUT: true; the input reads as it did. -/
def fnSortedSpec : ChangeSpec := { name := "fnSorted", fn := fun _ => fun
  | [d] => { results := [.lit (.bool true)], args := [d] }
  | _ => none }
def fnSortedRow : OpenClaim := { program := "ytolcgopfbbmjgaa", sum := "12b594174d48d3ded406b2b80d5f7c98cd5a098b28c7c0aa8e0f74d2101f8130", func := "loop.example/g00856/laws.FnSorted", spec := "fnSorted", unfollowed := true, recurses := true, plainKeys := false, apart := false }
def FnSortedSaid : Prop := fnSortedRow.holds Try.pinned (OpenSpec.ofChange fnSortedSpec)

/-- ITS FALSE NEIGHBOUR: 'it returns false'. Refute it at one input. -/
def fnSortedWrong : ChangeSpec := { name := "fnSorted", fn := fun _ => fun
  | [d] => { results := [.lit (.bool false)], args := [d] }
  | _ => none }
def FnSortedWrongFalsely : Prop := fnSortedRow.holds Try.pinned (OpenSpec.ofChange fnSortedWrong)

/- THE SECOND FORM. 'bulk': how many values and letters a reading holds, each counted each time it is reached (what is shared counts as often as it is met; a slice's spare places count too). A statement '..UptoSaid' is the law's where the arguments, and the package variables that the reading takes, are together of bulk at most 1048576: NARROWER than '..Said'. Prove '..Said' where nothing that the law and all that it calls make is longer than what came in: it says more and counts as full. Else prove '..UptoSaid'. A law counts once. -/
mutual
def uptoBulk {H : Type} : DataW H → Nat
  | .lit (.string bytes) => bytes.length + 1
  | .lit _ => 1
  | .nil => 1
  | .ptr d => uptoBulk d + 1
  | .slice elems spare => uptoBulkAll elems + uptoBulkAll spare + 1
  | .agg parts => uptoBulkAll parts + 1
  | .iface _ d => uptoBulk d + 1
  | .map entries => uptoBulkEntries entries + 1
  | .held _ => 1
def uptoBulkAll {H : Type} : List (DataW H) → Nat
  | [] => 0
  | d :: r => uptoBulk d + uptoBulkAll r
def uptoBulkEntries {H : Type} : List (Lit × DataW H) → Nat
  | [] => 0
  | x :: r => uptoBulkEntry x + uptoBulkEntries r
def uptoBulkEntry {H : Type} : Lit × DataW H → Nat
  | (.string bytes, d) => bytes.length + uptoBulk d + 1
  | (_, d) => uptoBulk d + 1
 end
def uptoSmall : (H : Type) → List (DataW H) → Bool := fun _ ds => decide (uptoBulkAll ds ≤ 1048576)
def OpenSpec.upto (s : _root_.Go.ChangeSpec) : _root_.Go.OpenSpec := { _root_.Go.OpenSpec.ofChange s with cond := some uptoSmall }

/-- 'laws.FnExactSortTransfers', WHERE WHAT IT READS IS OF BULK AT MOST 1048576: true; the input reads as it did. -/
def fnExactSortTransfersUptoRow : OpenClaim := { program := "ytolcgopfbbmjgaa", sum := "12b594174d48d3ded406b2b80d5f7c98cd5a098b28c7c0aa8e0f74d2101f8130", func := "loop.example/g00856/laws.FnExactSortTransfers", spec := "fnExactSortTransfers", unfollowed := true, recurses := true, plainKeys := false, apart := false, narrowed := true }
def FnExactSortTransfersUptoSaid : Prop := fnExactSortTransfersUptoRow.holds Try.pinned (OpenSpec.upto fnExactSortTransfersSpec)

/-- 'laws.FnSorted', WHERE WHAT IT READS IS OF BULK AT MOST 1048576: true; the input reads as it did. -/
def fnSortedUptoRow : OpenClaim := { program := "ytolcgopfbbmjgaa", sum := "12b594174d48d3ded406b2b80d5f7c98cd5a098b28c7c0aa8e0f74d2101f8130", func := "loop.example/g00856/laws.FnSorted", spec := "fnSorted", unfollowed := true, recurses := true, plainKeys := false, apart := false, narrowed := true }
def FnSortedUptoSaid : Prop := fnSortedUptoRow.holds Try.pinned (OpenSpec.upto fnSortedSpec)

end Rows
end Go.Proofs.Ytolcgopfbbmjgaa
