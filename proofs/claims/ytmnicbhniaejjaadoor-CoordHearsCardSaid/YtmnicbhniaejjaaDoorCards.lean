/-
  DERIVED. GIVEN WITH THE SEED: THE CARDS: each row of YtmnicbhniaejjaaDoorRows.lean that lists a variable, with what it lists TIED to the program's text (the seventh form; the later family's looks); each row that meets fmt, with fmt's text TOLD by the authors' own Lean function (tested against real Go, not proved from fmt's source: count such statements apart). THE CARD IS WHAT COUNTS. Prove the row's statement (the work); the ties are given (YtmnicbhniaejjaaDoorTie.lean); close each card by the builder's one call (the guide's Derived/Test/ToyasCard.lean, 'card_holds'). Laid BY PROGRAM, IN A SANDBOX (cutbox-door.mjs). By AI agents, Wed Nov 11 2026. No macro, syntax, notation, axiom, sorry.
-/
import Derived.Test.YtmnicbhniaejjaaDoorRows
import GoSem.ClaimSeven
namespace Go.Proofs.YtmnicbhniaejjaaDoor
namespace Rows

/-- THE TIED CARD OF 'reredoslaw.PartHears'. -/
def partHearsCard : Claim7 := { stood := { row := partHearsRow, standIns := [], harness := (true, "0e21e0401b61ac6759bc5a22484cbd76f99c510150674372052b2528e8a19bdd"), looks := true }, kinds := [], alts := [], laidByText := true, laidKinds := [.data], laidTests := true, laidLooks := .later }
def PartHearsCardSaid : Prop := Claim7.holds Tryd.pinned (.plain (OpenSpec.ofChange partHearsSpec)) partHearsCard

/-- THE TIED CARD OF 'reredoslaw.CoordHears'. -/
def coordHearsCard : Claim7 := { stood := { row := coordHearsRow, standIns := [], harness := (true, "0e21e0401b61ac6759bc5a22484cbd76f99c510150674372052b2528e8a19bdd"), looks := true }, kinds := [], alts := [], laidByText := true, laidKinds := [.data], laidTests := true, laidLooks := .later }
def CoordHearsCardSaid : Prop := Claim7.holds Tryd.pinned (.plain (OpenSpec.ofChange coordHearsSpec)) coordHearsCard

/-- THE TIED CARD OF 'reredoslaw.ConsoleReads'. -/
def consoleReadsCard : Claim7 := { stood := { row := consoleReadsRow, standIns := [], harness := (true, "0e21e0401b61ac6759bc5a22484cbd76f99c510150674372052b2528e8a19bdd"), looks := true }, kinds := [], alts := [], laidByText := true, laidKinds := [.data, .data, .data, .data, .sentinel, .sentinel, .pinned], laidTests := true, laidLooks := .later }
def ConsoleReadsCardSaid : Prop := Claim7.holds Tryd.pinned (.plain (OpenSpec.ofChange consoleReadsSpec)) consoleReadsCard

/-- THE TIED CARD OF 'reredoslaw.LinesReads'. -/
def linesReadsCard : Claim7 := { stood := { row := linesReadsRow, standIns := [], harness := (true, "0e21e0401b61ac6759bc5a22484cbd76f99c510150674372052b2528e8a19bdd"), looks := true }, kinds := [], alts := [], laidByText := true, laidKinds := [.data, .data, .data, .data, .sentinel, .sentinel, .widerDeep, .widerDeep, .pinned], laidTests := true, laidLooks := .later }
def LinesReadsCardSaid : Prop := Claim7.holds Tryd.pinned (.plain (OpenSpec.ofChange linesReadsSpec)) linesReadsCard

/-- THE SECOND FORM's CARD OF 'reredoslaw.PartHears'. -/
def partHearsUptoCard : Claim7 := { stood := { row := partHearsUptoRow, standIns := [], harness := (true, "0e21e0401b61ac6759bc5a22484cbd76f99c510150674372052b2528e8a19bdd"), looks := true }, kinds := [], alts := [], laidByText := true, laidKinds := [.data], laidTests := true, laidLooks := .later }
def PartHearsUptoCardSaid : Prop := Claim7.holds Tryd.pinned (.plain (OpenSpec.upto partHearsSpec)) partHearsUptoCard

/-- THE SECOND FORM's CARD OF 'reredoslaw.CoordHears'. -/
def coordHearsUptoCard : Claim7 := { stood := { row := coordHearsUptoRow, standIns := [], harness := (true, "0e21e0401b61ac6759bc5a22484cbd76f99c510150674372052b2528e8a19bdd"), looks := true }, kinds := [], alts := [], laidByText := true, laidKinds := [.data], laidTests := true, laidLooks := .later }
def CoordHearsUptoCardSaid : Prop := Claim7.holds Tryd.pinned (.plain (OpenSpec.upto coordHearsSpec)) coordHearsUptoCard

/-- THE SECOND FORM's CARD OF 'reredoslaw.ConsoleReads'. -/
def consoleReadsUptoCard : Claim7 := { stood := { row := consoleReadsUptoRow, standIns := [], harness := (true, "0e21e0401b61ac6759bc5a22484cbd76f99c510150674372052b2528e8a19bdd"), looks := true }, kinds := [], alts := [], laidByText := true, laidKinds := [.data, .data, .data, .data, .sentinel, .sentinel, .pinned], laidTests := true, laidLooks := .later }
def ConsoleReadsUptoCardSaid : Prop := Claim7.holds Tryd.pinned (.plain (OpenSpec.upto consoleReadsSpec)) consoleReadsUptoCard

/-- THE SECOND FORM's CARD OF 'reredoslaw.LinesReads'. -/
def linesReadsUptoCard : Claim7 := { stood := { row := linesReadsUptoRow, standIns := [], harness := (true, "0e21e0401b61ac6759bc5a22484cbd76f99c510150674372052b2528e8a19bdd"), looks := true }, kinds := [], alts := [], laidByText := true, laidKinds := [.data, .data, .data, .data, .sentinel, .sentinel, .widerDeep, .widerDeep, .pinned], laidTests := true, laidLooks := .later }
def LinesReadsUptoCardSaid : Prop := Claim7.holds Tryd.pinned (.plain (OpenSpec.upto linesReadsSpec)) linesReadsUptoCard
end Rows
end Go.Proofs.YtmnicbhniaejjaaDoor
