/-
  DERIVED. GIVEN WITH THE SEED: THE CARDS: each row of YtccdnmafakaleaaGreatDoorRows.lean that lists a variable, with what it lists TIED to the program's text (the seventh form; the later family's looks); each row that meets fmt, with fmt's text TOLD by the authors' own Lean function (tested against real Go, not proved from fmt's source: count such statements apart). THE CARD IS WHAT COUNTS. Prove the row's statement (the work); the ties are given (YtccdnmafakaleaaGreatDoorTie.lean); close each card by the builder's one call (the guide's Derived/Test/ToyasCard.lean, 'card_holds'). Laid BY PROGRAM, IN A SANDBOX (cutbox-door.mjs). By AI agents, Wed Nov 11 2026. No macro, syntax, notation, axiom, sorry.
-/
import Derived.Test.YtccdnmafakaleaaGreatDoorRows
import GoSem.ClaimSeven
namespace Go.Proofs.YtccdnmafakaleaaGreatDoor
namespace Rows

/-- THE TIED CARD OF 'laws.FnExactFabricText'. -/
def fnExactFabricTextCard : Claim7 := { stood := { row := fnExactFabricTextRow, standIns := [], harness := (true, "725b20d73e830cc50275586d6aa2c44d6b2f4d63ce35c95cd68d0d9a3ee90bee"), looks := false }, kinds := [], alts := [], laidByText := true, laidKinds := [.data, .data, .data], laidTests := true, laidLooks := .later }
def FnExactFabricTextCardSaid : Prop := Claim7.holds Tryz.pinned (.plain (OpenSpec.ofChange fnExactFabricTextSpec)) fnExactFabricTextCard

/-- THE SECOND FORM's CARD OF 'laws.FnExactFabricText'. -/
def fnExactFabricTextUptoCard : Claim7 := { stood := { row := fnExactFabricTextUptoRow, standIns := [], harness := (true, "725b20d73e830cc50275586d6aa2c44d6b2f4d63ce35c95cd68d0d9a3ee90bee"), looks := false }, kinds := [], alts := [], laidByText := true, laidKinds := [.data, .data, .data], laidTests := true, laidLooks := .later }
def FnExactFabricTextUptoCardSaid : Prop := Claim7.holds Tryz.pinned (.plain (OpenSpec.upto fnExactFabricTextSpec)) fnExactFabricTextUptoCard
end Rows
end Go.Proofs.YtccdnmafakaleaaGreatDoor
