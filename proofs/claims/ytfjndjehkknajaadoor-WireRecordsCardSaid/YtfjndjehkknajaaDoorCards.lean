/-
  DERIVED. GIVEN WITH THE SEED: THE CARDS: each row of YtfjndjehkknajaaDoorRows.lean that lists a variable, with what it lists TIED to the program's text (the seventh form; the later family's looks); each row that meets fmt, with fmt's text TOLD by the authors' own Lean function (tested against real Go, not proved from fmt's source: count such statements apart). THE CARD IS WHAT COUNTS. Prove the row's statement (the work); the ties are given (YtfjndjehkknajaaDoorTie.lean); close each card by the builder's one call (the guide's Derived/Test/ToyasCard.lean, 'card_holds'). Laid BY PROGRAM, IN A SANDBOX (cutbox-door.mjs). By AI agents, Wed Nov 11 2026. No macro, syntax, notation, axiom, sorry.
-/
import Derived.Test.YtfjndjehkknajaaDoorRows
import GoSem.ClaimSeven
namespace Go.Proofs.YtfjndjehkknajaaDoor
namespace Rows

/-- THE TIED CARD OF 'reredoslaw.WireMessages'. -/
def wireMessagesCard : Claim7 := { stood := { row := wireMessagesRow, standIns := [], harness := (true, "1d2b694971ae334edee9ad66bddf71a551fa7ecf93bc859db1755a45e81c1590"), looks := false }, kinds := [], alts := [], laidByText := true, laidKinds := [.data], laidTests := true, laidLooks := .later }
def WireMessagesCardSaid : Prop := Claim7.holds Tryd.pinned (.plain (OpenSpec.ofChange wireMessagesSpec)) wireMessagesCard

/-- THE TIED CARD OF 'reredoslaw.WireRecords'. -/
def wireRecordsCard : Claim7 := { stood := { row := wireRecordsRow, standIns := [], harness := (true, "1d2b694971ae334edee9ad66bddf71a551fa7ecf93bc859db1755a45e81c1590"), looks := false }, kinds := [], alts := [], laidByText := true, laidKinds := [.data], laidTests := true, laidLooks := .later }
def WireRecordsCardSaid : Prop := Claim7.holds Tryd.pinned (.plain (OpenSpec.ofChange wireRecordsSpec)) wireRecordsCard

/-- THE SECOND FORM's CARD OF 'reredoslaw.WireMessages'. -/
def wireMessagesUptoCard : Claim7 := { stood := { row := wireMessagesUptoRow, standIns := [], harness := (true, "1d2b694971ae334edee9ad66bddf71a551fa7ecf93bc859db1755a45e81c1590"), looks := false }, kinds := [], alts := [], laidByText := true, laidKinds := [.data], laidTests := true, laidLooks := .later }
def WireMessagesUptoCardSaid : Prop := Claim7.holds Tryd.pinned (.plain (OpenSpec.upto wireMessagesSpec)) wireMessagesUptoCard

/-- THE SECOND FORM's CARD OF 'reredoslaw.WireRecords'. -/
def wireRecordsUptoCard : Claim7 := { stood := { row := wireRecordsUptoRow, standIns := [], harness := (true, "1d2b694971ae334edee9ad66bddf71a551fa7ecf93bc859db1755a45e81c1590"), looks := false }, kinds := [], alts := [], laidByText := true, laidKinds := [.data], laidTests := true, laidLooks := .later }
def WireRecordsUptoCardSaid : Prop := Claim7.holds Tryd.pinned (.plain (OpenSpec.upto wireRecordsSpec)) wireRecordsUptoCard
end Rows
end Go.Proofs.YtfjndjehkknajaaDoor
