/-
  DERIVED. GIVEN WITH THE SEED: THE CARDS: each row of YtndijondhilbcaaDoorRows.lean that lists a variable, with what it lists TIED to the program's text (the seventh form; the later family's looks); each row that meets fmt, with fmt's text TOLD by the authors' own Lean function (tested against real Go, not proved from fmt's source: count such statements apart). THE CARD IS WHAT COUNTS. Prove the row's statement (the work); the ties are given (YtndijondhilbcaaDoorTie.lean); close each card by the builder's one call (the guide's Derived/Test/ToyasCard.lean, 'card_holds'). Laid BY PROGRAM, IN A SANDBOX (cutbox-door.mjs). By AI agents, Wed Nov 11 2026. No macro, syntax, notation, axiom, sorry.
-/
import Derived.Test.YtndijondhilbcaaDoorRows
import GoSem.ClaimSeven
namespace Go.Proofs.YtndijondhilbcaaDoor
namespace Rows

/-- THE TIED CARD OF 'reredoslaw.NetChecks'. -/
def netChecksCard : Claim7 := { stood := { row := netChecksRow, standIns := [], harness := (true, "e85f13cd59be84ad5522e3994f84eb267c5e9cac6ad2ca30338558c931612fd6"), looks := false }, kinds := [], alts := [], laidByText := true, laidKinds := [.data], laidTests := true, laidLooks := .later }
def NetChecksCardSaid : Prop := Claim7.holds Tryd.pinned (.plain (OpenSpec.ofChange netChecksSpec)) netChecksCard

/-- THE TIED CARD OF 'reredoslaw.WireWrites'. -/
def wireWritesCard : Claim7 := { stood := { row := wireWritesRow, standIns := [], harness := (true, "e85f13cd59be84ad5522e3994f84eb267c5e9cac6ad2ca30338558c931612fd6"), looks := false }, kinds := [], alts := [], laidByText := true, laidKinds := [.data], laidTests := true, laidLooks := .later }
def WireWritesCardSaid : Prop := Claim7.holds Tryd.pinned (.plain (OpenSpec.ofChange wireWritesSpec)) wireWritesCard

/-- THE TIED CARD OF 'reredoslaw.WireSays'. -/
def wireSaysCard : Claim7 := { stood := { row := wireSaysRow, standIns := [], harness := (true, "e85f13cd59be84ad5522e3994f84eb267c5e9cac6ad2ca30338558c931612fd6"), looks := false }, kinds := [], alts := [], laidByText := true, laidKinds := [.data], laidTests := true, laidLooks := .later }
def WireSaysCardSaid : Prop := Claim7.holds Tryd.pinned (.plain (OpenSpec.ofChange wireSaysSpec)) wireSaysCard

/-- THE TIED CARD OF 'reredoslaw.NetSends'. -/
def netSendsCard : Claim7 := { stood := { row := netSendsRow, standIns := [], harness := (true, "e85f13cd59be84ad5522e3994f84eb267c5e9cac6ad2ca30338558c931612fd6"), looks := false }, kinds := [], alts := [], laidByText := true, laidKinds := [.data], laidTests := true, laidLooks := .later }
def NetSendsCardSaid : Prop := Claim7.holds Tryd.pinned (.plain (OpenSpec.ofChange netSendsSpec)) netSendsCard

/-- THE TIED CARD OF 'reredoslaw.NetTakes'. -/
def netTakesCard : Claim7 := { stood := { row := netTakesRow, standIns := [], harness := (true, "e85f13cd59be84ad5522e3994f84eb267c5e9cac6ad2ca30338558c931612fd6"), looks := false }, kinds := [], alts := [], laidByText := true, laidKinds := [.data], laidTests := true, laidLooks := .later }
def NetTakesCardSaid : Prop := Claim7.holds Tryd.pinned (.plain (OpenSpec.ofChange netTakesSpec)) netTakesCard

/-- THE TIED CARD OF 'reredoslaw.WireReads'. -/
def wireReadsCard : Claim7 := { stood := { row := wireReadsRow, standIns := [], harness := (true, "e85f13cd59be84ad5522e3994f84eb267c5e9cac6ad2ca30338558c931612fd6"), looks := false }, kinds := [], alts := [], laidByText := true, laidKinds := [.data], laidTests := true, laidLooks := .later }
def WireReadsCardSaid : Prop := Claim7.holds Tryd.pinned (.plain (OpenSpec.ofChange wireReadsSpec)) wireReadsCard

/-- THE SECOND FORM's CARD OF 'reredoslaw.NetChecks'. -/
def netChecksUptoCard : Claim7 := { stood := { row := netChecksUptoRow, standIns := [], harness := (true, "e85f13cd59be84ad5522e3994f84eb267c5e9cac6ad2ca30338558c931612fd6"), looks := false }, kinds := [], alts := [], laidByText := true, laidKinds := [.data], laidTests := true, laidLooks := .later }
def NetChecksUptoCardSaid : Prop := Claim7.holds Tryd.pinned (.plain (OpenSpec.upto netChecksSpec)) netChecksUptoCard

/-- THE SECOND FORM's CARD OF 'reredoslaw.WireWrites'. -/
def wireWritesUptoCard : Claim7 := { stood := { row := wireWritesUptoRow, standIns := [], harness := (true, "e85f13cd59be84ad5522e3994f84eb267c5e9cac6ad2ca30338558c931612fd6"), looks := false }, kinds := [], alts := [], laidByText := true, laidKinds := [.data], laidTests := true, laidLooks := .later }
def WireWritesUptoCardSaid : Prop := Claim7.holds Tryd.pinned (.plain (OpenSpec.upto wireWritesSpec)) wireWritesUptoCard

/-- THE SECOND FORM's CARD OF 'reredoslaw.WireSays'. -/
def wireSaysUptoCard : Claim7 := { stood := { row := wireSaysUptoRow, standIns := [], harness := (true, "e85f13cd59be84ad5522e3994f84eb267c5e9cac6ad2ca30338558c931612fd6"), looks := false }, kinds := [], alts := [], laidByText := true, laidKinds := [.data], laidTests := true, laidLooks := .later }
def WireSaysUptoCardSaid : Prop := Claim7.holds Tryd.pinned (.plain (OpenSpec.upto wireSaysSpec)) wireSaysUptoCard

/-- THE SECOND FORM's CARD OF 'reredoslaw.NetSends'. -/
def netSendsUptoCard : Claim7 := { stood := { row := netSendsUptoRow, standIns := [], harness := (true, "e85f13cd59be84ad5522e3994f84eb267c5e9cac6ad2ca30338558c931612fd6"), looks := false }, kinds := [], alts := [], laidByText := true, laidKinds := [.data], laidTests := true, laidLooks := .later }
def NetSendsUptoCardSaid : Prop := Claim7.holds Tryd.pinned (.plain (OpenSpec.upto netSendsSpec)) netSendsUptoCard

/-- THE SECOND FORM's CARD OF 'reredoslaw.NetTakes'. -/
def netTakesUptoCard : Claim7 := { stood := { row := netTakesUptoRow, standIns := [], harness := (true, "e85f13cd59be84ad5522e3994f84eb267c5e9cac6ad2ca30338558c931612fd6"), looks := false }, kinds := [], alts := [], laidByText := true, laidKinds := [.data], laidTests := true, laidLooks := .later }
def NetTakesUptoCardSaid : Prop := Claim7.holds Tryd.pinned (.plain (OpenSpec.upto netTakesSpec)) netTakesUptoCard

/-- THE SECOND FORM's CARD OF 'reredoslaw.WireReads'. -/
def wireReadsUptoCard : Claim7 := { stood := { row := wireReadsUptoRow, standIns := [], harness := (true, "e85f13cd59be84ad5522e3994f84eb267c5e9cac6ad2ca30338558c931612fd6"), looks := false }, kinds := [], alts := [], laidByText := true, laidKinds := [.data], laidTests := true, laidLooks := .later }
def WireReadsUptoCardSaid : Prop := Claim7.holds Tryd.pinned (.plain (OpenSpec.upto wireReadsSpec)) wireReadsUptoCard
end Rows
end Go.Proofs.YtndijondhilbcaaDoor
