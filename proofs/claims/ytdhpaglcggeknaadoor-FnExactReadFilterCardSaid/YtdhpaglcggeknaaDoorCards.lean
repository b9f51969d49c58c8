/-
  DERIVED. GIVEN WITH THE SEED: THE CARDS: each row of YtdhpaglcggeknaaDoorRows.lean that lists a variable, with what it lists TIED to the program's text (the seventh form; the later family's looks); each row that meets fmt, with fmt's text TOLD by the authors' own Lean function (tested against real Go, not proved from fmt's source: count such statements apart). THE CARD IS WHAT COUNTS. Prove the row's statement (the work); the ties are given (YtdhpaglcggeknaaDoorTie.lean); close each card by the builder's one call (the guide's Derived/Test/ToyasCard.lean, 'card_holds'). Laid BY PROGRAM, IN A SANDBOX (cutbox-door.mjs). By AI agents, Wed Nov 11 2026. No macro, syntax, notation, axiom, sorry.
-/
import Derived.Test.YtdhpaglcggeknaaDoorRows
import GoSem.ClaimSeven
namespace Go.Proofs.YtdhpaglcggeknaaDoor
namespace Rows

/-- THE TIED CARD OF 'laws.FnExactBlockText'. -/
def fnExactBlockTextCard : Claim7 := { stood := { row := fnExactBlockTextRow, standIns := [], harness := (true, "492916c9876a1e297d9332678b481c2a845482b4872fb5f5e4cfe584b5e41807"), looks := true }, kinds := [], alts := [], laidByText := true, laidKinds := [.data, .data, .data], laidTests := true, laidLooks := .later }
def FnExactBlockTextCardSaid : Prop := Claim7.holds Tryd.pinned (.plain (OpenSpec.ofChange fnExactBlockTextSpec)) fnExactBlockTextCard

/-- THE TIED CARD OF 'laws.FnExactFilterText'. -/
def fnExactFilterTextCard : Claim7 := { stood := { row := fnExactFilterTextRow, standIns := [], harness := (true, "492916c9876a1e297d9332678b481c2a845482b4872fb5f5e4cfe584b5e41807"), looks := true }, kinds := [], alts := [], laidByText := true, laidKinds := [.data, .data, .data], laidTests := true, laidLooks := .later }
def FnExactFilterTextCardSaid : Prop := Claim7.holds Tryd.pinned (.plain (OpenSpec.ofChange fnExactFilterTextSpec)) fnExactFilterTextCard

/-- THE TIED CARD OF 'laws.FnExactStringText'. -/
def fnExactStringTextCard : Claim7 := { stood := { row := fnExactStringTextRow, standIns := [], harness := (true, "492916c9876a1e297d9332678b481c2a845482b4872fb5f5e4cfe584b5e41807"), looks := true }, kinds := [], alts := [], laidByText := true, laidKinds := [.data, .data, .data], laidTests := true, laidLooks := .later }
def FnExactStringTextCardSaid : Prop := Claim7.holds Tryd.pinned (.plain (OpenSpec.ofChange fnExactStringTextSpec)) fnExactStringTextCard

/-- THE TIED CARD OF 'laws.FnExactReadBlock'. -/
def fnExactReadBlockCard : Claim7 := { stood := { row := fnExactReadBlockRow, standIns := [], harness := (true, "492916c9876a1e297d9332678b481c2a845482b4872fb5f5e4cfe584b5e41807"), looks := true }, kinds := [], alts := [], laidByText := true, laidKinds := [.data, .data, .data, .data, .sentinel, .sentinel, .pinned], laidTests := true, laidLooks := .later }
def FnExactReadBlockCardSaid : Prop := Claim7.holds Tryd.pinned (.plain (OpenSpec.ofChange fnExactReadBlockSpec)) fnExactReadBlockCard

/-- THE TIED CARD OF 'laws.FnExactReadFilter'. -/
def fnExactReadFilterCard : Claim7 := { stood := { row := fnExactReadFilterRow, standIns := [], harness := (true, "492916c9876a1e297d9332678b481c2a845482b4872fb5f5e4cfe584b5e41807"), looks := true }, kinds := [], alts := [], laidByText := true, laidKinds := [.data, .data, .data, .data, .sentinel, .sentinel, .pinned], laidTests := true, laidLooks := .later }
def FnExactReadFilterCardSaid : Prop := Claim7.holds Tryd.pinned (.plain (OpenSpec.ofChange fnExactReadFilterSpec)) fnExactReadFilterCard

/-- THE SECOND FORM's CARD OF 'laws.FnExactBlockText'. -/
def fnExactBlockTextUptoCard : Claim7 := { stood := { row := fnExactBlockTextUptoRow, standIns := [], harness := (true, "492916c9876a1e297d9332678b481c2a845482b4872fb5f5e4cfe584b5e41807"), looks := true }, kinds := [], alts := [], laidByText := true, laidKinds := [.data, .data, .data], laidTests := true, laidLooks := .later }
def FnExactBlockTextUptoCardSaid : Prop := Claim7.holds Tryd.pinned (.plain (OpenSpec.upto fnExactBlockTextSpec)) fnExactBlockTextUptoCard

/-- THE SECOND FORM's CARD OF 'laws.FnExactFilterText'. -/
def fnExactFilterTextUptoCard : Claim7 := { stood := { row := fnExactFilterTextUptoRow, standIns := [], harness := (true, "492916c9876a1e297d9332678b481c2a845482b4872fb5f5e4cfe584b5e41807"), looks := true }, kinds := [], alts := [], laidByText := true, laidKinds := [.data, .data, .data], laidTests := true, laidLooks := .later }
def FnExactFilterTextUptoCardSaid : Prop := Claim7.holds Tryd.pinned (.plain (OpenSpec.upto fnExactFilterTextSpec)) fnExactFilterTextUptoCard

/-- THE SECOND FORM's CARD OF 'laws.FnExactStringText'. -/
def fnExactStringTextUptoCard : Claim7 := { stood := { row := fnExactStringTextUptoRow, standIns := [], harness := (true, "492916c9876a1e297d9332678b481c2a845482b4872fb5f5e4cfe584b5e41807"), looks := true }, kinds := [], alts := [], laidByText := true, laidKinds := [.data, .data, .data], laidTests := true, laidLooks := .later }
def FnExactStringTextUptoCardSaid : Prop := Claim7.holds Tryd.pinned (.plain (OpenSpec.upto fnExactStringTextSpec)) fnExactStringTextUptoCard

/-- THE SECOND FORM's CARD OF 'laws.FnExactReadBlock'. -/
def fnExactReadBlockUptoCard : Claim7 := { stood := { row := fnExactReadBlockUptoRow, standIns := [], harness := (true, "492916c9876a1e297d9332678b481c2a845482b4872fb5f5e4cfe584b5e41807"), looks := true }, kinds := [], alts := [], laidByText := true, laidKinds := [.data, .data, .data, .data, .sentinel, .sentinel, .pinned], laidTests := true, laidLooks := .later }
def FnExactReadBlockUptoCardSaid : Prop := Claim7.holds Tryd.pinned (.plain (OpenSpec.upto fnExactReadBlockSpec)) fnExactReadBlockUptoCard

/-- THE SECOND FORM's CARD OF 'laws.FnExactReadFilter'. -/
def fnExactReadFilterUptoCard : Claim7 := { stood := { row := fnExactReadFilterUptoRow, standIns := [], harness := (true, "492916c9876a1e297d9332678b481c2a845482b4872fb5f5e4cfe584b5e41807"), looks := true }, kinds := [], alts := [], laidByText := true, laidKinds := [.data, .data, .data, .data, .sentinel, .sentinel, .pinned], laidTests := true, laidLooks := .later }
def FnExactReadFilterUptoCardSaid : Prop := Claim7.holds Tryd.pinned (.plain (OpenSpec.upto fnExactReadFilterSpec)) fnExactReadFilterUptoCard
end Rows
end Go.Proofs.YtdhpaglcggeknaaDoor
