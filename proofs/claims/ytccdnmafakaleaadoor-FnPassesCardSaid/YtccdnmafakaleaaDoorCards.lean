/-
  DERIVED. GIVEN WITH THE SEED: THE CARDS: each row of YtccdnmafakaleaaDoorRows.lean that lists a variable, with what it lists TIED to the program's text (the seventh form; the later family's looks); each row that meets fmt, with fmt's text TOLD by the authors' own Lean function (tested against real Go, not proved from fmt's source: count such statements apart). THE CARD IS WHAT COUNTS. Prove the row's statement (the work); the ties are given (YtccdnmafakaleaaDoorTie.lean); close each card by the builder's one call (the guide's Derived/Test/ToyasCard.lean, 'card_holds'). Laid BY PROGRAM, IN A SANDBOX (cutbox-door.mjs). By AI agents, Wed Nov 11 2026. No macro, syntax, notation, axiom, sorry.
-/
import Derived.Test.YtccdnmafakaleaaDoorRows
import GoSem.ClaimSeven
namespace Go.Proofs.YtccdnmafakaleaaDoor
namespace Rows

/-- THE TIED CARD OF 'laws.FnExactLoopsText'. -/
def fnExactLoopsTextCard : Claim7 := { stood := { row := fnExactLoopsTextRow, standIns := [], harness := (true, "3efac7957c2642dcca2cf6bc2db221e59a0587199b66efb0193ddfcc95e68d11"), looks := false }, kinds := [], alts := [], laidByText := true, laidKinds := [.data, .data, .data], laidTests := true, laidLooks := .later }
def FnExactLoopsTextCardSaid : Prop := Claim7.holds Tryd.pinned (.plain (OpenSpec.ofChange fnExactLoopsTextSpec)) fnExactLoopsTextCard

/-- THE TIED CARD OF 'laws.FnPasses'. -/
def fnPassesCard : Claim7 := { stood := { row := fnPassesRow, standIns := [], harness := (true, "3efac7957c2642dcca2cf6bc2db221e59a0587199b66efb0193ddfcc95e68d11"), looks := false }, kinds := [], alts := [], laidByText := true, laidKinds := [.data, .data, .data], laidTests := true, laidLooks := .later }
def FnPassesCardSaid : Prop := Claim7.holds Tryd.pinned (.plain (OpenSpec.ofChange fnPassesSpec)) fnPassesCard

/-- THE SECOND FORM's CARD OF 'laws.FnExactLoopsText'. -/
def fnExactLoopsTextUptoCard : Claim7 := { stood := { row := fnExactLoopsTextUptoRow, standIns := [], harness := (true, "3efac7957c2642dcca2cf6bc2db221e59a0587199b66efb0193ddfcc95e68d11"), looks := false }, kinds := [], alts := [], laidByText := true, laidKinds := [.data, .data, .data], laidTests := true, laidLooks := .later }
def FnExactLoopsTextUptoCardSaid : Prop := Claim7.holds Tryd.pinned (.plain (OpenSpec.upto fnExactLoopsTextSpec)) fnExactLoopsTextUptoCard

/-- THE SECOND FORM's CARD OF 'laws.FnPasses'. -/
def fnPassesUptoCard : Claim7 := { stood := { row := fnPassesUptoRow, standIns := [], harness := (true, "3efac7957c2642dcca2cf6bc2db221e59a0587199b66efb0193ddfcc95e68d11"), looks := false }, kinds := [], alts := [], laidByText := true, laidKinds := [.data, .data, .data], laidTests := true, laidLooks := .later }
def FnPassesUptoCardSaid : Prop := Claim7.holds Tryd.pinned (.plain (OpenSpec.upto fnPassesSpec)) fnPassesUptoCard
end Rows
end Go.Proofs.YtccdnmafakaleaaDoor
