/-
  DERIVED. GIVEN WITH THE SEED: THE CARDS: each row of YtjklmaihcaelaaaDoorRows.lean that lists a variable, with what it lists TIED to the program's text (the seventh form; the later family's looks); each row that meets fmt, with fmt's text TOLD by the authors' own Lean function (tested against real Go, not proved from fmt's source: count such statements apart). THE CARD IS WHAT COUNTS. Prove the row's statement (the work); the ties are given (YtjklmaihcaelaaaDoorTie.lean); close each card by the builder's one call (the guide's Derived/Test/ToyasCard.lean, 'card_holds'). Laid BY PROGRAM, IN A SANDBOX (cutbox-door.mjs). By AI agents, Wed Nov 11 2026. No macro, syntax, notation, axiom, sorry.
-/
import Derived.Test.YtjklmaihcaelaaaDoorRows
import GoSem.ClaimSeven
namespace Go.Proofs.YtjklmaihcaelaaaDoor
namespace Rows

/-- THE TIED CARD OF 'reredoslaw.WireHears'. -/
def wireHearsCard : Claim7 := { stood := { row := wireHearsRow, standIns := [], harness := (true, "40a6d4049b47b7fc5864b80bcef3c4a4f0c772ac7a5099e79cf86af5364a179c"), looks := false }, kinds := [], alts := [], laidByText := true, laidKinds := [.data], laidTests := true, laidLooks := .later }
def WireHearsCardSaid : Prop := Claim7.holds Tryd.pinned (.plain (OpenSpec.ofChange wireHearsSpec)) wireHearsCard

/-- THE TIED CARD OF 'reredoslaw.RecoverRebuilds'. -/
def recoverRebuildsCard : Claim7 := { stood := { row := recoverRebuildsRow, standIns := [], harness := (true, "40a6d4049b47b7fc5864b80bcef3c4a4f0c772ac7a5099e79cf86af5364a179c"), looks := false }, kinds := [], alts := [], laidByText := true, laidKinds := [.data], laidTests := true, laidLooks := .later }
def RecoverRebuildsCardSaid : Prop := Claim7.holds Tryd.pinned (.plain (OpenSpec.ofChange recoverRebuildsSpec)) recoverRebuildsCard

/-- THE SECOND FORM's CARD OF 'reredoslaw.WireHears'. -/
def wireHearsUptoCard : Claim7 := { stood := { row := wireHearsUptoRow, standIns := [], harness := (true, "40a6d4049b47b7fc5864b80bcef3c4a4f0c772ac7a5099e79cf86af5364a179c"), looks := false }, kinds := [], alts := [], laidByText := true, laidKinds := [.data], laidTests := true, laidLooks := .later }
def WireHearsUptoCardSaid : Prop := Claim7.holds Tryd.pinned (.plain (OpenSpec.upto wireHearsSpec)) wireHearsUptoCard

/-- THE SECOND FORM's CARD OF 'reredoslaw.RecoverRebuilds'. -/
def recoverRebuildsUptoCard : Claim7 := { stood := { row := recoverRebuildsUptoRow, standIns := [], harness := (true, "40a6d4049b47b7fc5864b80bcef3c4a4f0c772ac7a5099e79cf86af5364a179c"), looks := false }, kinds := [], alts := [], laidByText := true, laidKinds := [.data], laidTests := true, laidLooks := .later }
def RecoverRebuildsUptoCardSaid : Prop := Claim7.holds Tryd.pinned (.plain (OpenSpec.upto recoverRebuildsSpec)) recoverRebuildsUptoCard
end Rows
end Go.Proofs.YtjklmaihcaelaaaDoor
