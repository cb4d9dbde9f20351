/-
  No cell of these rows narrows 'for every input' (looked for: loops, veiled, ifaces, maps, wideKeys, modest, calm, conditions, laid).
  DERIVED. THE GIVEN ROWS OF THIS SEAT. 12 by the template 'for every input the law returns true; each argument reads behind the call as it read before'; 0 by the template 'total and deterministic' (their statements: YtfjndjehkknajaaTotals.lean).
  GIVEN WITH THE SEED: the statements are not yours to turn. If you find one false, say at which input.
  Laid BY PROGRAM, IN A SANDBOX (cutbox-rows.mjs): the forced cells as the released guide's own fill.sh prints them over the translation bf24676f85d407ed… (all of the seat's roots in one cut). By AI agents, Wed Nov 11 2026. No macro, syntax, notation, axiom, sorry.
-/
import Derived.Test.YtfjndjehkknajaaChecked
import GoSem.Claim
import GoSem.ClaimJoined
import GoSem.ClaimMapViews
import Derived.JoinedTies
import Derived.KernelRfl
namespace Go.Proofs.Ytfjndjehkknajaa
/- THE CELL 'sum', in the pinned program and in every row, IS THE sha256 OF THE DUMP (.gsa) THAT YtfjndjehkknajaaProg.lean LOADS. Nothing in Lean hashes anything: it is a label: what it is worth is what the hold of that sum in a sandbox is worth. -/
noncomputable def Try.pinned : Pinned := { name := "ytfjndjehkknajaa", sum := "bf24676f85d407ed3073f6b4c4033ea0b790c3cb5c1eb83d990eded79ad1d8db", checked := Try.checked }
namespace Rows
def none {H : Type} : Left H := { results := [], args := [] }

/-- 'reredoslaw.Names': WHATEVER THE INPUT: true; the input reads as it did. -/
def namesSpec : ChangeSpec := { name := "names", fn := fun _ => fun
  | [] => { results := [.lit (.bool true)], args := [] }
  | _ => none }
def namesRow : OpenClaim := { program := "ytfjndjehkknajaa", sum := "bf24676f85d407ed3073f6b4c4033ea0b790c3cb5c1eb83d990eded79ad1d8db", func := "reredos/reredoslaw.Names", spec := "names", apart := false }
def NamesSaid : Prop := namesRow.holds Try.pinned (OpenSpec.ofChange namesSpec)

/-- ITS FALSE NEIGHBOUR: 'it returns false'. Refute it at one input. -/
def namesWrong : ChangeSpec := { name := "names", fn := fun _ => fun
  | [] => { results := [.lit (.bool false)], args := [] }
  | _ => none }
def NamesWrongFalsely : Prop := namesRow.holds Try.pinned (OpenSpec.ofChange namesWrong)

/-- 'reredoslaw.LabelAbove': WHATEVER THE INPUT: true; the input reads as it did. -/
def labelAboveSpec : ChangeSpec := { name := "labelAbove", fn := fun _ => fun
  | [d1, d2] => { results := [.lit (.bool true)], args := [d1, d2] }
  | _ => none }
def labelAboveRow : OpenClaim := { program := "ytfjndjehkknajaa", sum := "bf24676f85d407ed3073f6b4c4033ea0b790c3cb5c1eb83d990eded79ad1d8db", func := "reredos/reredoslaw.LabelAbove", spec := "labelAbove", apart := false }
def LabelAboveSaid : Prop := labelAboveRow.holds Try.pinned (OpenSpec.ofChange labelAboveSpec)

/-- ITS FALSE NEIGHBOUR: 'it returns false'. Refute it at one input. -/
def labelAboveWrong : ChangeSpec := { name := "labelAbove", fn := fun _ => fun
  | [d1, d2] => { results := [.lit (.bool false)], args := [d1, d2] }
  | _ => none }
def LabelAboveWrongFalsely : Prop := labelAboveRow.holds Try.pinned (OpenSpec.ofChange labelAboveWrong)

/-- 'reredoslaw.LabelJoins': WHATEVER THE INPUT: true; the input reads as it did. -/
def labelJoinsSpec : ChangeSpec := { name := "labelJoins", fn := fun _ => fun
  | [d1, d2] => { results := [.lit (.bool true)], args := [d1, d2] }
  | _ => none }
def labelJoinsRow : OpenClaim := { program := "ytfjndjehkknajaa", sum := "bf24676f85d407ed3073f6b4c4033ea0b790c3cb5c1eb83d990eded79ad1d8db", func := "reredos/reredoslaw.LabelJoins", spec := "labelJoins", apart := false }
def LabelJoinsSaid : Prop := labelJoinsRow.holds Try.pinned (OpenSpec.ofChange labelJoinsSpec)

/-- ITS FALSE NEIGHBOUR: 'it returns false'. Refute it at one input. -/
def labelJoinsWrong : ChangeSpec := { name := "labelJoins", fn := fun _ => fun
  | [d1, d2] => { results := [.lit (.bool false)], args := [d1, d2] }
  | _ => none }
def LabelJoinsWrongFalsely : Prop := labelJoinsRow.holds Try.pinned (OpenSpec.ofChange labelJoinsWrong)

/-- 'reredoslaw.LabelMeets': WHATEVER THE INPUT: true; the input reads as it did. -/
def labelMeetsSpec : ChangeSpec := { name := "labelMeets", fn := fun _ => fun
  | [d1, d2] => { results := [.lit (.bool true)], args := [d1, d2] }
  | _ => none }
def labelMeetsRow : OpenClaim := { program := "ytfjndjehkknajaa", sum := "bf24676f85d407ed3073f6b4c4033ea0b790c3cb5c1eb83d990eded79ad1d8db", func := "reredos/reredoslaw.LabelMeets", spec := "labelMeets", apart := false }
def LabelMeetsSaid : Prop := labelMeetsRow.holds Try.pinned (OpenSpec.ofChange labelMeetsSpec)

/-- ITS FALSE NEIGHBOUR: 'it returns false'. Refute it at one input. -/
def labelMeetsWrong : ChangeSpec := { name := "labelMeets", fn := fun _ => fun
  | [d1, d2] => { results := [.lit (.bool false)], args := [d1, d2] }
  | _ => none }
def LabelMeetsWrongFalsely : Prop := labelMeetsRow.holds Try.pinned (OpenSpec.ofChange labelMeetsWrong)

/-- 'reredoslaw.TapeRooms': WHATEVER THE INPUT: true; the input reads as it did. -/
def tapeRoomsSpec : ChangeSpec := { name := "tapeRooms", fn := fun _ => fun
  | [d] => { results := [.lit (.bool true)], args := [d] }
  | _ => none }
def tapeRoomsRow : OpenClaim := { program := "ytfjndjehkknajaa", sum := "bf24676f85d407ed3073f6b4c4033ea0b790c3cb5c1eb83d990eded79ad1d8db", func := "reredos/reredoslaw.TapeRooms", spec := "tapeRooms", apart := false }
def TapeRoomsSaid : Prop := tapeRoomsRow.holds Try.pinned (OpenSpec.ofChange tapeRoomsSpec)

/-- ITS FALSE NEIGHBOUR: 'it returns false'. Refute it at one input. -/
def tapeRoomsWrong : ChangeSpec := { name := "tapeRooms", fn := fun _ => fun
  | [d] => { results := [.lit (.bool false)], args := [d] }
  | _ => none }
def TapeRoomsWrongFalsely : Prop := tapeRoomsRow.holds Try.pinned (OpenSpec.ofChange tapeRoomsWrong)

/-- 'reredoslaw.TapeSyncs': WHATEVER THE INPUT: true; the input reads as it did. -/
def tapeSyncsSpec : ChangeSpec := { name := "tapeSyncs", fn := fun _ => fun
  | [d] => { results := [.lit (.bool true)], args := [d] }
  | _ => none }
def tapeSyncsRow : OpenClaim := { program := "ytfjndjehkknajaa", sum := "bf24676f85d407ed3073f6b4c4033ea0b790c3cb5c1eb83d990eded79ad1d8db", func := "reredos/reredoslaw.TapeSyncs", spec := "tapeSyncs", apart := false }
def TapeSyncsSaid : Prop := tapeSyncsRow.holds Try.pinned (OpenSpec.ofChange tapeSyncsSpec)

/-- ITS FALSE NEIGHBOUR: 'it returns false'. Refute it at one input. -/
def tapeSyncsWrong : ChangeSpec := { name := "tapeSyncs", fn := fun _ => fun
  | [d] => { results := [.lit (.bool false)], args := [d] }
  | _ => none }
def TapeSyncsWrongFalsely : Prop := tapeSyncsRow.holds Try.pinned (OpenSpec.ofChange tapeSyncsWrong)

/-- 'reredoslaw.LabelChecks': WHATEVER THE INPUT: true; the input reads as it did. -/
def labelChecksSpec : ChangeSpec := { name := "labelChecks", fn := fun _ => fun
  | [d] => { results := [.lit (.bool true)], args := [d] }
  | _ => none }
def labelChecksRow : OpenClaim := { program := "ytfjndjehkknajaa", sum := "bf24676f85d407ed3073f6b4c4033ea0b790c3cb5c1eb83d990eded79ad1d8db", func := "reredos/reredoslaw.LabelChecks", spec := "labelChecks", apart := false }
def LabelChecksSaid : Prop := labelChecksRow.holds Try.pinned (OpenSpec.ofChange labelChecksSpec)

/-- ITS FALSE NEIGHBOUR: 'it returns false'. Refute it at one input. -/
def labelChecksWrong : ChangeSpec := { name := "labelChecks", fn := fun _ => fun
  | [d] => { results := [.lit (.bool false)], args := [d] }
  | _ => none }
def LabelChecksWrongFalsely : Prop := labelChecksRow.holds Try.pinned (OpenSpec.ofChange labelChecksWrong)

/-- 'reredoslaw.TapeCrashes': WHATEVER THE INPUT: true; the input reads as it did. -/
def tapeCrashesSpec : ChangeSpec := { name := "tapeCrashes", fn := fun _ => fun
  | [d1, d2] => { results := [.lit (.bool true)], args := [d1, d2] }
  | _ => none }
def tapeCrashesRow : OpenClaim := { program := "ytfjndjehkknajaa", sum := "bf24676f85d407ed3073f6b4c4033ea0b790c3cb5c1eb83d990eded79ad1d8db", func := "reredos/reredoslaw.TapeCrashes", spec := "tapeCrashes", apart := false }
def TapeCrashesSaid : Prop := tapeCrashesRow.holds Try.pinned (OpenSpec.ofChange tapeCrashesSpec)

/-- ITS FALSE NEIGHBOUR: 'it returns false'. Refute it at one input. -/
def tapeCrashesWrong : ChangeSpec := { name := "tapeCrashes", fn := fun _ => fun
  | [d1, d2] => { results := [.lit (.bool false)], args := [d1, d2] }
  | _ => none }
def TapeCrashesWrongFalsely : Prop := tapeCrashesRow.holds Try.pinned (OpenSpec.ofChange tapeCrashesWrong)

/-- 'reredoslaw.NetEmpty': WHATEVER THE INPUT: true; the input reads as it did. -/
def netEmptySpec : ChangeSpec := { name := "netEmpty", fn := fun _ => fun
  | [d] => { results := [.lit (.bool true)], args := [d] }
  | _ => none }
def netEmptyRow : OpenClaim := { program := "ytfjndjehkknajaa", sum := "bf24676f85d407ed3073f6b4c4033ea0b790c3cb5c1eb83d990eded79ad1d8db", func := "reredos/reredoslaw.NetEmpty", spec := "netEmpty", apart := false }
def NetEmptySaid : Prop := netEmptyRow.holds Try.pinned (OpenSpec.ofChange netEmptySpec)

/-- ITS FALSE NEIGHBOUR: 'it returns false'. Refute it at one input. -/
def netEmptyWrong : ChangeSpec := { name := "netEmpty", fn := fun _ => fun
  | [d] => { results := [.lit (.bool false)], args := [d] }
  | _ => none }
def NetEmptyWrongFalsely : Prop := netEmptyRow.holds Try.pinned (OpenSpec.ofChange netEmptyWrong)

/-- 'reredoslaw.LabelHomes': WHATEVER THE INPUT: true; the input reads as it did. -/
def labelHomesSpec : ChangeSpec := { name := "labelHomes", fn := fun _ => fun
  | [d1, d2] => { results := [.lit (.bool true)], args := [d1, d2] }
  | _ => none }
def labelHomesRow : OpenClaim := { program := "ytfjndjehkknajaa", sum := "bf24676f85d407ed3073f6b4c4033ea0b790c3cb5c1eb83d990eded79ad1d8db", func := "reredos/reredoslaw.LabelHomes", spec := "labelHomes", apart := false }
def LabelHomesSaid : Prop := labelHomesRow.holds Try.pinned (OpenSpec.ofChange labelHomesSpec)

/-- ITS FALSE NEIGHBOUR: 'it returns false'. Refute it at one input. -/
def labelHomesWrong : ChangeSpec := { name := "labelHomes", fn := fun _ => fun
  | [d1, d2] => { results := [.lit (.bool false)], args := [d1, d2] }
  | _ => none }
def LabelHomesWrongFalsely : Prop := labelHomesRow.holds Try.pinned (OpenSpec.ofChange labelHomesWrong)

/-- 'reredoslaw.LabelSees': WHATEVER THE INPUT: true; the input reads as it did. -/
def labelSeesSpec : ChangeSpec := { name := "labelSees", fn := fun _ => fun
  | [d1, d2, d3] => { results := [.lit (.bool true)], args := [d1, d2, d3] }
  | _ => none }
def labelSeesRow : OpenClaim := { program := "ytfjndjehkknajaa", sum := "bf24676f85d407ed3073f6b4c4033ea0b790c3cb5c1eb83d990eded79ad1d8db", func := "reredos/reredoslaw.LabelSees", spec := "labelSees", apart := false }
def LabelSeesSaid : Prop := labelSeesRow.holds Try.pinned (OpenSpec.ofChange labelSeesSpec)

/-- ITS FALSE NEIGHBOUR: 'it returns false'. Refute it at one input. -/
def labelSeesWrong : ChangeSpec := { name := "labelSees", fn := fun _ => fun
  | [d1, d2, d3] => { results := [.lit (.bool false)], args := [d1, d2, d3] }
  | _ => none }
def LabelSeesWrongFalsely : Prop := labelSeesRow.holds Try.pinned (OpenSpec.ofChange labelSeesWrong)

/-- 'reredoslaw.LabelPurges': WHATEVER THE INPUT: true; the input reads as it did. -/
def labelPurgesSpec : ChangeSpec := { name := "labelPurges", fn := fun _ => fun
  | [d1, d2, d3] => { results := [.lit (.bool true)], args := [d1, d2, d3] }
  | _ => none }
def labelPurgesRow : OpenClaim := { program := "ytfjndjehkknajaa", sum := "bf24676f85d407ed3073f6b4c4033ea0b790c3cb5c1eb83d990eded79ad1d8db", func := "reredos/reredoslaw.LabelPurges", spec := "labelPurges", apart := false }
def LabelPurgesSaid : Prop := labelPurgesRow.holds Try.pinned (OpenSpec.ofChange labelPurgesSpec)

/-- ITS FALSE NEIGHBOUR: 'it returns false'. Refute it at one input. -/
def labelPurgesWrong : ChangeSpec := { name := "labelPurges", fn := fun _ => fun
  | [d1, d2, d3] => { results := [.lit (.bool false)], args := [d1, d2, d3] }
  | _ => none }
def LabelPurgesWrongFalsely : Prop := labelPurgesRow.holds Try.pinned (OpenSpec.ofChange labelPurgesWrong)

/- THE SECOND FORM. 'bulk': how many values and letters a reading holds, each counted each time it is reached (what is shared counts as often as it is met; a slice's spare places count too). A statement '..UptoSaid' is the law's where the arguments, and the package variables that the reading takes, are together of bulk at most 1048576: NARROWER than '..Said'. Prove '..Said' where nothing that the law and all that it calls make is longer than what came in: it says more and counts as full. Else prove '..UptoSaid'. A law counts once. -/
mutual
def uptoBulk {H : Type} : DataW H → Nat
  | .lit (.string bytes) => bytes.length + 1
  | .lit _ => 1
  | .nil => 1
  | .ptr d => uptoBulk d + 1
  | .slice elems spare => uptoBulkAll elems + uptoBulkAll spare + 1
  | .agg parts => uptoBulkAll parts + 1
  | .iface _ d => uptoBulk d + 1
  | .map entries => uptoBulkEntries entries + 1
  | .held _ => 1
def uptoBulkAll {H : Type} : List (DataW H) → Nat
  | [] => 0
  | d :: r => uptoBulk d + uptoBulkAll r
def uptoBulkEntries {H : Type} : List (Lit × DataW H) → Nat
  | [] => 0
  | x :: r => uptoBulkEntry x + uptoBulkEntries r
def uptoBulkEntry {H : Type} : Lit × DataW H → Nat
  | (.string bytes, d) => bytes.length + uptoBulk d + 1
  | (_, d) => uptoBulk d + 1
 end
def uptoSmall : (H : Type) → List (DataW H) → Bool := fun _ ds => decide (uptoBulkAll ds ≤ 1048576)
def OpenSpec.upto (s : _root_.Go.ChangeSpec) : _root_.Go.OpenSpec := { _root_.Go.OpenSpec.ofChange s with cond := some uptoSmall }

/-- 'reredoslaw.Names', WHERE WHAT IT READS IS OF BULK AT MOST 1048576: true; the input reads as it did. -/
def namesUptoRow : OpenClaim := { program := "ytfjndjehkknajaa", sum := "bf24676f85d407ed3073f6b4c4033ea0b790c3cb5c1eb83d990eded79ad1d8db", func := "reredos/reredoslaw.Names", spec := "names", apart := false, narrowed := true }
def NamesUptoSaid : Prop := namesUptoRow.holds Try.pinned (OpenSpec.upto namesSpec)

/-- 'reredoslaw.LabelAbove', WHERE WHAT IT READS IS OF BULK AT MOST 1048576: true; the input reads as it did. -/
def labelAboveUptoRow : OpenClaim := { program := "ytfjndjehkknajaa", sum := "bf24676f85d407ed3073f6b4c4033ea0b790c3cb5c1eb83d990eded79ad1d8db", func := "reredos/reredoslaw.LabelAbove", spec := "labelAbove", apart := false, narrowed := true }
def LabelAboveUptoSaid : Prop := labelAboveUptoRow.holds Try.pinned (OpenSpec.upto labelAboveSpec)

/-- 'reredoslaw.LabelJoins', WHERE WHAT IT READS IS OF BULK AT MOST 1048576: true; the input reads as it did. -/
def labelJoinsUptoRow : OpenClaim := { program := "ytfjndjehkknajaa", sum := "bf24676f85d407ed3073f6b4c4033ea0b790c3cb5c1eb83d990eded79ad1d8db", func := "reredos/reredoslaw.LabelJoins", spec := "labelJoins", apart := false, narrowed := true }
def LabelJoinsUptoSaid : Prop := labelJoinsUptoRow.holds Try.pinned (OpenSpec.upto labelJoinsSpec)

/-- 'reredoslaw.LabelMeets', WHERE WHAT IT READS IS OF BULK AT MOST 1048576: true; the input reads as it did. -/
def labelMeetsUptoRow : OpenClaim := { program := "ytfjndjehkknajaa", sum := "bf24676f85d407ed3073f6b4c4033ea0b790c3cb5c1eb83d990eded79ad1d8db", func := "reredos/reredoslaw.LabelMeets", spec := "labelMeets", apart := false, narrowed := true }
def LabelMeetsUptoSaid : Prop := labelMeetsUptoRow.holds Try.pinned (OpenSpec.upto labelMeetsSpec)

/-- 'reredoslaw.TapeRooms', WHERE WHAT IT READS IS OF BULK AT MOST 1048576: true; the input reads as it did. -/
def tapeRoomsUptoRow : OpenClaim := { program := "ytfjndjehkknajaa", sum := "bf24676f85d407ed3073f6b4c4033ea0b790c3cb5c1eb83d990eded79ad1d8db", func := "reredos/reredoslaw.TapeRooms", spec := "tapeRooms", apart := false, narrowed := true }
def TapeRoomsUptoSaid : Prop := tapeRoomsUptoRow.holds Try.pinned (OpenSpec.upto tapeRoomsSpec)

/-- 'reredoslaw.TapeSyncs', WHERE WHAT IT READS IS OF BULK AT MOST 1048576: true; the input reads as it did. -/
def tapeSyncsUptoRow : OpenClaim := { program := "ytfjndjehkknajaa", sum := "bf24676f85d407ed3073f6b4c4033ea0b790c3cb5c1eb83d990eded79ad1d8db", func := "reredos/reredoslaw.TapeSyncs", spec := "tapeSyncs", apart := false, narrowed := true }
def TapeSyncsUptoSaid : Prop := tapeSyncsUptoRow.holds Try.pinned (OpenSpec.upto tapeSyncsSpec)

/-- 'reredoslaw.LabelChecks', WHERE WHAT IT READS IS OF BULK AT MOST 1048576: true; the input reads as it did. -/
def labelChecksUptoRow : OpenClaim := { program := "ytfjndjehkknajaa", sum := "bf24676f85d407ed3073f6b4c4033ea0b790c3cb5c1eb83d990eded79ad1d8db", func := "reredos/reredoslaw.LabelChecks", spec := "labelChecks", apart := false, narrowed := true }
def LabelChecksUptoSaid : Prop := labelChecksUptoRow.holds Try.pinned (OpenSpec.upto labelChecksSpec)

/-- 'reredoslaw.TapeCrashes', WHERE WHAT IT READS IS OF BULK AT MOST 1048576: true; the input reads as it did. -/
def tapeCrashesUptoRow : OpenClaim := { program := "ytfjndjehkknajaa", sum := "bf24676f85d407ed3073f6b4c4033ea0b790c3cb5c1eb83d990eded79ad1d8db", func := "reredos/reredoslaw.TapeCrashes", spec := "tapeCrashes", apart := false, narrowed := true }
def TapeCrashesUptoSaid : Prop := tapeCrashesUptoRow.holds Try.pinned (OpenSpec.upto tapeCrashesSpec)

/-- 'reredoslaw.NetEmpty', WHERE WHAT IT READS IS OF BULK AT MOST 1048576: true; the input reads as it did. -/
def netEmptyUptoRow : OpenClaim := { program := "ytfjndjehkknajaa", sum := "bf24676f85d407ed3073f6b4c4033ea0b790c3cb5c1eb83d990eded79ad1d8db", func := "reredos/reredoslaw.NetEmpty", spec := "netEmpty", apart := false, narrowed := true }
def NetEmptyUptoSaid : Prop := netEmptyUptoRow.holds Try.pinned (OpenSpec.upto netEmptySpec)

/-- 'reredoslaw.LabelHomes', WHERE WHAT IT READS IS OF BULK AT MOST 1048576: true; the input reads as it did. -/
def labelHomesUptoRow : OpenClaim := { program := "ytfjndjehkknajaa", sum := "bf24676f85d407ed3073f6b4c4033ea0b790c3cb5c1eb83d990eded79ad1d8db", func := "reredos/reredoslaw.LabelHomes", spec := "labelHomes", apart := false, narrowed := true }
def LabelHomesUptoSaid : Prop := labelHomesUptoRow.holds Try.pinned (OpenSpec.upto labelHomesSpec)

/-- 'reredoslaw.LabelSees', WHERE WHAT IT READS IS OF BULK AT MOST 1048576: true; the input reads as it did. -/
def labelSeesUptoRow : OpenClaim := { program := "ytfjndjehkknajaa", sum := "bf24676f85d407ed3073f6b4c4033ea0b790c3cb5c1eb83d990eded79ad1d8db", func := "reredos/reredoslaw.LabelSees", spec := "labelSees", apart := false, narrowed := true }
def LabelSeesUptoSaid : Prop := labelSeesUptoRow.holds Try.pinned (OpenSpec.upto labelSeesSpec)

/-- 'reredoslaw.LabelPurges', WHERE WHAT IT READS IS OF BULK AT MOST 1048576: true; the input reads as it did. -/
def labelPurgesUptoRow : OpenClaim := { program := "ytfjndjehkknajaa", sum := "bf24676f85d407ed3073f6b4c4033ea0b790c3cb5c1eb83d990eded79ad1d8db", func := "reredos/reredoslaw.LabelPurges", spec := "labelPurges", apart := false, narrowed := true }
def LabelPurgesUptoSaid : Prop := labelPurgesUptoRow.holds Try.pinned (OpenSpec.upto labelPurgesSpec)

end Rows
end Go.Proofs.Ytfjndjehkknajaa
