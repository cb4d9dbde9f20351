/-
  No cell of these rows narrows 'for every input' (looked for: loops, veiled, ifaces, maps, wideKeys, modest, calm, conditions, laid).
  DERIVED. THE GIVEN ROWS OF THIS SEAT. 5 by the template 'for every input the law returns true; each argument reads behind the call as it read before'; 0 by the template 'total and deterministic' (their statements: YthcdfhnhhpkklaaTotals.lean).
  GIVEN WITH THE SEED: the statements are not yours to turn. If you find one false, say at which input.
  Laid BY PROGRAM, IN A SANDBOX (cutbox-rows.mjs): the forced cells as the released guide's own fill.sh prints them over the translation ba3130a633d6de71… (all of the seat's roots in one cut). By AI agents, Wed Nov 11 2026. No macro, syntax, notation, axiom, sorry.
-/
import Derived.Test.YthcdfhnhhpkklaaChecked
import GoSem.Claim
import GoSem.ClaimJoined
import GoSem.ClaimMapViews
import Derived.JoinedTies
import Derived.KernelRfl
namespace Go.Proofs.Ythcdfhnhhpkklaa
/- THE CELL 'sum', in the pinned program and in every row, IS THE sha256 OF THE DUMP (.gsa) THAT YthcdfhnhhpkklaaProg.lean LOADS. Nothing in Lean hashes anything: it is a label: what it is worth is what the hold of that sum in a sandbox is worth. -/
noncomputable def Try.pinned : Pinned := { name := "ythcdfhnhhpkklaa", sum := "ba3130a633d6de7173f1218e7d0c1ac8c1ca2b801cf1cc3de863d2f17713e1b4", checked := Try.checked }
namespace Rows
def none {H : Type} : Left H := { results := [], args := [] }

/-- 'reredoslaw.StoreStill': WHATEVER THE INPUT: true; the input reads as it did. -/
def storeStillSpec : ChangeSpec := { name := "storeStill", fn := fun _ => fun
  | [d1, d2, d3, d4] => { results := [.lit (.bool true)], args := [d1, d2, d3, d4] }
  | _ => none }
def storeStillRow : OpenClaim := { program := "ythcdfhnhhpkklaa", sum := "ba3130a633d6de7173f1218e7d0c1ac8c1ca2b801cf1cc3de863d2f17713e1b4", func := "reredos/reredoslaw.StoreStill", spec := "storeStill", unfollowed := true, recurses := true, apart := false }
def StoreStillSaid : Prop := storeStillRow.holds Try.pinned (OpenSpec.ofChange storeStillSpec)

/-- ITS FALSE NEIGHBOUR: 'it returns false'. Refute it at one input. -/
def storeStillWrong : ChangeSpec := { name := "storeStill", fn := fun _ => fun
  | [d1, d2, d3, d4] => { results := [.lit (.bool false)], args := [d1, d2, d3, d4] }
  | _ => none }
def StoreStillWrongFalsely : Prop := storeStillRow.holds Try.pinned (OpenSpec.ofChange storeStillWrong)

/-- 'reredoslaw.StorePeeks': WHATEVER THE INPUT: true; the input reads as it did. -/
def storePeeksSpec : ChangeSpec := { name := "storePeeks", fn := fun _ => fun
  | [d1, d2] => { results := [.lit (.bool true)], args := [d1, d2] }
  | _ => none }
def storePeeksRow : OpenClaim := { program := "ythcdfhnhhpkklaa", sum := "ba3130a633d6de7173f1218e7d0c1ac8c1ca2b801cf1cc3de863d2f17713e1b4", func := "reredos/reredoslaw.StorePeeks", spec := "storePeeks", unfollowed := true, recurses := true, apart := false }
def StorePeeksSaid : Prop := storePeeksRow.holds Try.pinned (OpenSpec.ofChange storePeeksSpec)

/-- ITS FALSE NEIGHBOUR: 'it returns false'. Refute it at one input. -/
def storePeeksWrong : ChangeSpec := { name := "storePeeks", fn := fun _ => fun
  | [d1, d2] => { results := [.lit (.bool false)], args := [d1, d2] }
  | _ => none }
def StorePeeksWrongFalsely : Prop := storePeeksRow.holds Try.pinned (OpenSpec.ofChange storePeeksWrong)

/-- 'reredoslaw.StoreReads': WHATEVER THE INPUT: true; the input reads as it did. -/
def storeReadsSpec : ChangeSpec := { name := "storeReads", fn := fun _ => fun
  | [d1, d2, d3] => { results := [.lit (.bool true)], args := [d1, d2, d3] }
  | _ => none }
def storeReadsRow : OpenClaim := { program := "ythcdfhnhhpkklaa", sum := "ba3130a633d6de7173f1218e7d0c1ac8c1ca2b801cf1cc3de863d2f17713e1b4", func := "reredos/reredoslaw.StoreReads", spec := "storeReads", unfollowed := true, recurses := true, apart := false }
def StoreReadsSaid : Prop := storeReadsRow.holds Try.pinned (OpenSpec.ofChange storeReadsSpec)

/-- ITS FALSE NEIGHBOUR: 'it returns false'. Refute it at one input. -/
def storeReadsWrong : ChangeSpec := { name := "storeReads", fn := fun _ => fun
  | [d1, d2, d3] => { results := [.lit (.bool false)], args := [d1, d2, d3] }
  | _ => none }
def StoreReadsWrongFalsely : Prop := storeReadsRow.holds Try.pinned (OpenSpec.ofChange storeReadsWrong)

/-- 'reredoslaw.StoreWrites': WHATEVER THE INPUT: true; the input reads as it did. -/
def storeWritesSpec : ChangeSpec := { name := "storeWrites", fn := fun _ => fun
  | [d1, d2, d3, d4, d5] => { results := [.lit (.bool true)], args := [d1, d2, d3, d4, d5] }
  | _ => none }
def storeWritesRow : OpenClaim := { program := "ythcdfhnhhpkklaa", sum := "ba3130a633d6de7173f1218e7d0c1ac8c1ca2b801cf1cc3de863d2f17713e1b4", func := "reredos/reredoslaw.StoreWrites", spec := "storeWrites", unfollowed := true, recurses := true, apart := false }
def StoreWritesSaid : Prop := storeWritesRow.holds Try.pinned (OpenSpec.ofChange storeWritesSpec)

/-- ITS FALSE NEIGHBOUR: 'it returns false'. Refute it at one input. -/
def storeWritesWrong : ChangeSpec := { name := "storeWrites", fn := fun _ => fun
  | [d1, d2, d3, d4, d5] => { results := [.lit (.bool false)], args := [d1, d2, d3, d4, d5] }
  | _ => none }
def StoreWritesWrongFalsely : Prop := storeWritesRow.holds Try.pinned (OpenSpec.ofChange storeWritesWrong)

/-- 'reredoslaw.StoreEnds': WHATEVER THE INPUT: true; the input reads as it did. -/
def storeEndsSpec : ChangeSpec := { name := "storeEnds", fn := fun _ => fun
  | [d1, d2, d3] => { results := [.lit (.bool true)], args := [d1, d2, d3] }
  | _ => none }
def storeEndsRow : OpenClaim := { program := "ythcdfhnhhpkklaa", sum := "ba3130a633d6de7173f1218e7d0c1ac8c1ca2b801cf1cc3de863d2f17713e1b4", func := "reredos/reredoslaw.StoreEnds", spec := "storeEnds", inPlace := ["slices.overlaps[reredos/api.Item]"], unfollowed := true, recurses := true, apart := false }
def StoreEndsSaid : Prop := storeEndsRow.holds Try.pinned (OpenSpec.ofChange storeEndsSpec)

/-- ITS FALSE NEIGHBOUR: 'it returns false'. Refute it at one input. -/
def storeEndsWrong : ChangeSpec := { name := "storeEnds", fn := fun _ => fun
  | [d1, d2, d3] => { results := [.lit (.bool false)], args := [d1, d2, d3] }
  | _ => none }
def StoreEndsWrongFalsely : Prop := storeEndsRow.holds Try.pinned (OpenSpec.ofChange storeEndsWrong)

/- THE SECOND FORM. 'bulk': how many values and letters a reading holds, each counted each time it is reached (what is shared counts as often as it is met; a slice's spare places count too). A statement '..UptoSaid' is the law's where the arguments, and the package variables that the reading takes, are together of bulk at most 1048576: NARROWER than '..Said'. Prove '..Said' where nothing that the law and all that it calls make is longer than what came in: it says more and counts as full. Else prove '..UptoSaid'. A law counts once. -/
mutual
def uptoBulk {H : Type} : DataW H → Nat
  | .lit (.string bytes) => bytes.length + 1
  | .lit _ => 1
  | .nil => 1
  | .ptr d => uptoBulk d + 1
  | .slice elems spare => uptoBulkAll elems + uptoBulkAll spare + 1
  | .agg parts => uptoBulkAll parts + 1
  | .iface _ d => uptoBulk d + 1
  | .map entries => uptoBulkEntries entries + 1
  | .held _ => 1
def uptoBulkAll {H : Type} : List (DataW H) → Nat
  | [] => 0
  | d :: r => uptoBulk d + uptoBulkAll r
def uptoBulkEntries {H : Type} : List (Lit × DataW H) → Nat
  | [] => 0
  | x :: r => uptoBulkEntry x + uptoBulkEntries r
def uptoBulkEntry {H : Type} : Lit × DataW H → Nat
  | (.string bytes, d) => bytes.length + uptoBulk d + 1
  | (_, d) => uptoBulk d + 1
 end
def uptoSmall : (H : Type) → List (DataW H) → Bool := fun _ ds => decide (uptoBulkAll ds ≤ 1048576)
def OpenSpec.upto (s : _root_.Go.ChangeSpec) : _root_.Go.OpenSpec := { _root_.Go.OpenSpec.ofChange s with cond := some uptoSmall }

/-- 'reredoslaw.StoreStill', WHERE WHAT IT READS IS OF BULK AT MOST 1048576: true; the input reads as it did. -/
def storeStillUptoRow : OpenClaim := { program := "ythcdfhnhhpkklaa", sum := "ba3130a633d6de7173f1218e7d0c1ac8c1ca2b801cf1cc3de863d2f17713e1b4", func := "reredos/reredoslaw.StoreStill", spec := "storeStill", unfollowed := true, recurses := true, apart := false, narrowed := true }
def StoreStillUptoSaid : Prop := storeStillUptoRow.holds Try.pinned (OpenSpec.upto storeStillSpec)

/-- 'reredoslaw.StorePeeks', WHERE WHAT IT READS IS OF BULK AT MOST 1048576: true; the input reads as it did. -/
def storePeeksUptoRow : OpenClaim := { program := "ythcdfhnhhpkklaa", sum := "ba3130a633d6de7173f1218e7d0c1ac8c1ca2b801cf1cc3de863d2f17713e1b4", func := "reredos/reredoslaw.StorePeeks", spec := "storePeeks", unfollowed := true, recurses := true, apart := false, narrowed := true }
def StorePeeksUptoSaid : Prop := storePeeksUptoRow.holds Try.pinned (OpenSpec.upto storePeeksSpec)

/-- 'reredoslaw.StoreReads', WHERE WHAT IT READS IS OF BULK AT MOST 1048576: true; the input reads as it did. -/
def storeReadsUptoRow : OpenClaim := { program := "ythcdfhnhhpkklaa", sum := "ba3130a633d6de7173f1218e7d0c1ac8c1ca2b801cf1cc3de863d2f17713e1b4", func := "reredos/reredoslaw.StoreReads", spec := "storeReads", unfollowed := true, recurses := true, apart := false, narrowed := true }
def StoreReadsUptoSaid : Prop := storeReadsUptoRow.holds Try.pinned (OpenSpec.upto storeReadsSpec)

/-- 'reredoslaw.StoreWrites', WHERE WHAT IT READS IS OF BULK AT MOST 1048576: true; the input reads as it did. -/
def storeWritesUptoRow : OpenClaim := { program := "ythcdfhnhhpkklaa", sum := "ba3130a633d6de7173f1218e7d0c1ac8c1ca2b801cf1cc3de863d2f17713e1b4", func := "reredos/reredoslaw.StoreWrites", spec := "storeWrites", unfollowed := true, recurses := true, apart := false, narrowed := true }
def StoreWritesUptoSaid : Prop := storeWritesUptoRow.holds Try.pinned (OpenSpec.upto storeWritesSpec)

/-- 'reredoslaw.StoreEnds', WHERE WHAT IT READS IS OF BULK AT MOST 1048576: true; the input reads as it did. -/
def storeEndsUptoRow : OpenClaim := { program := "ythcdfhnhhpkklaa", sum := "ba3130a633d6de7173f1218e7d0c1ac8c1ca2b801cf1cc3de863d2f17713e1b4", func := "reredos/reredoslaw.StoreEnds", spec := "storeEnds", inPlace := ["slices.overlaps[reredos/api.Item]"], unfollowed := true, recurses := true, apart := false, narrowed := true }
def StoreEndsUptoSaid : Prop := storeEndsUptoRow.holds Try.pinned (OpenSpec.upto storeEndsSpec)

end Rows
end Go.Proofs.Ythcdfhnhhpkklaa
