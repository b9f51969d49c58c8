/-
  DERIVED. GIVEN WITH THE SEED: THE CARDS: each row of YtdhpaglcggeknaaGreatDoorRows.lean that lists a variable, with what it lists TIED to the program's text (the seventh form; the later family's looks); each row that meets fmt, with fmt's text TOLD by the authors' own Lean function (tested against real Go, not proved from fmt's source: count such statements apart). THE CARD IS WHAT COUNTS. Prove the row's statement (the work); the ties are given (YtdhpaglcggeknaaGreatDoorTie.lean); close each card by the builder's one call (the guide's Derived/Test/ToyasCard.lean, 'card_holds'). Laid BY PROGRAM, IN A SANDBOX (cutbox-door.mjs). By AI agents, Wed Nov 11 2026. No macro, syntax, notation, axiom, sorry.
-/
import Derived.Test.YtdhpaglcggeknaaGreatDoorRows
import GoSem.ClaimSeven
namespace Go.Proofs.YtdhpaglcggeknaaGreatDoor
namespace Rows

/-- THE TIED CARD OF 'laws.FnExactReadString'. -/
def fnExactReadStringCard : Claim7 := { stood := { row := fnExactReadStringRow, standIns := [], harness := (true, "739bc1632420456b4028edca019f55e5f7a3f594d8589e6d0412e316d9e06648"), looks := true }, kinds := [], alts := [], laidByText := true, laidKinds := [.data, .data, .data, .data, .sentinel, .sentinel, .pinned], laidTests := true, laidLooks := .later }
def FnExactReadStringCardSaid : Prop := Claim7.holds Tryz.pinned (.plain (OpenSpec.ofChange fnExactReadStringSpec)) fnExactReadStringCard

/-- THE SECOND FORM's CARD OF 'laws.FnExactReadString'. -/
def fnExactReadStringUptoCard : Claim7 := { stood := { row := fnExactReadStringUptoRow, standIns := [], harness := (true, "739bc1632420456b4028edca019f55e5f7a3f594d8589e6d0412e316d9e06648"), looks := true }, kinds := [], alts := [], laidByText := true, laidKinds := [.data, .data, .data, .data, .sentinel, .sentinel, .pinned], laidTests := true, laidLooks := .later }
def FnExactReadStringUptoCardSaid : Prop := Claim7.holds Tryz.pinned (.plain (OpenSpec.upto fnExactReadStringSpec)) fnExactReadStringUptoCard
end Rows
end Go.Proofs.YtdhpaglcggeknaaGreatDoor
