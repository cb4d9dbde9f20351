/-
  No cell of these rows narrows 'for every input' (looked for: loops, veiled, ifaces, maps, wideKeys, modest, calm, conditions, laid).
  DERIVED. THE GIVEN ROWS OF THIS SEAT. 6 by the template 'for every input the law returns true; each argument reads behind the call as it read before'; 0 by the template 'total and deterministic' (their statements: YtndijondhilbcaaTotals.lean).
  GIVEN WITH THE SEED: the statements are not yours to turn. If you find one false, say at which input.
  Laid BY PROGRAM, IN A SANDBOX (cutbox-rows.mjs): the forced cells as the released guide's own fill.sh prints them over the translation 62161904abadb24c… (all of the seat's roots in one cut). By AI agents, Wed Nov 11 2026. No macro, syntax, notation, axiom, sorry.
-/
import Derived.Test.YtndijondhilbcaaChecked
import GoSem.Claim
import GoSem.ClaimJoined
import GoSem.ClaimMapViews
import Derived.JoinedTies
import Derived.KernelRfl
namespace Go.Proofs.Ytndijondhilbcaa
/- THE CELL 'sum', in the pinned program and in every row, IS THE sha256 OF THE DUMP (.gsa) THAT YtndijondhilbcaaProg.lean LOADS. Nothing in Lean hashes anything: it is a label: what it is worth is what the hold of that sum in a sandbox is worth. -/
noncomputable def Try.pinned : Pinned := { name := "ytndijondhilbcaa", sum := "62161904abadb24c374c429f8c406d91be177cece4cb2563e270725cee51f3f6", checked := Try.checked }
namespace Rows
def none {H : Type} : Left H := { results := [], args := [] }

/-- 'reredoslaw.CoordChecks': WHATEVER THE INPUT: true; the input reads as it did. -/
def coordChecksSpec : ChangeSpec := { name := "coordChecks", fn := fun _ => fun
  | [d1, d2] => { results := [.lit (.bool true)], args := [d1, d2] }
  | _ => none }
def coordChecksRow : OpenClaim := { program := "ytndijondhilbcaa", sum := "62161904abadb24c374c429f8c406d91be177cece4cb2563e270725cee51f3f6", func := "reredos/reredoslaw.CoordChecks", spec := "coordChecks", apart := false }
def CoordChecksSaid : Prop := coordChecksRow.holds Try.pinned (OpenSpec.ofChange coordChecksSpec)

/-- ITS FALSE NEIGHBOUR: 'it returns false'. Refute it at one input. -/
def coordChecksWrong : ChangeSpec := { name := "coordChecks", fn := fun _ => fun
  | [d1, d2] => { results := [.lit (.bool false)], args := [d1, d2] }
  | _ => none }
def CoordChecksWrongFalsely : Prop := coordChecksRow.holds Try.pinned (OpenSpec.ofChange coordChecksWrong)

/-- 'reredoslaw.StoreChecks': WHATEVER THE INPUT: true; the input reads as it did. -/
def storeChecksSpec : ChangeSpec := { name := "storeChecks", fn := fun _ => fun
  | [d] => { results := [.lit (.bool true)], args := [d] }
  | _ => none }
def storeChecksRow : OpenClaim := { program := "ytndijondhilbcaa", sum := "62161904abadb24c374c429f8c406d91be177cece4cb2563e270725cee51f3f6", func := "reredos/reredoslaw.StoreChecks", spec := "storeChecks", unfollowed := true, recurses := true, apart := false }
def StoreChecksSaid : Prop := storeChecksRow.holds Try.pinned (OpenSpec.ofChange storeChecksSpec)

/-- ITS FALSE NEIGHBOUR: 'it returns false'. Refute it at one input. -/
def storeChecksWrong : ChangeSpec := { name := "storeChecks", fn := fun _ => fun
  | [d] => { results := [.lit (.bool false)], args := [d] }
  | _ => none }
def StoreChecksWrongFalsely : Prop := storeChecksRow.holds Try.pinned (OpenSpec.ofChange storeChecksWrong)

/-- 'reredoslaw.LinesChecks': WHATEVER THE INPUT: true; the input reads as it did. -/
def linesChecksSpec : ChangeSpec := { name := "linesChecks", fn := fun _ => fun
  | [d1, d2] => { results := [.lit (.bool true)], args := [d1, d2] }
  | _ => none }
def linesChecksRow : OpenClaim := { program := "ytndijondhilbcaa", sum := "62161904abadb24c374c429f8c406d91be177cece4cb2563e270725cee51f3f6", func := "reredos/reredoslaw.LinesChecks", spec := "linesChecks", unfollowed := true, recurses := true, apart := false }
def LinesChecksSaid : Prop := linesChecksRow.holds Try.pinned (OpenSpec.ofChange linesChecksSpec)

/-- ITS FALSE NEIGHBOUR: 'it returns false'. Refute it at one input. -/
def linesChecksWrong : ChangeSpec := { name := "linesChecks", fn := fun _ => fun
  | [d1, d2] => { results := [.lit (.bool false)], args := [d1, d2] }
  | _ => none }
def LinesChecksWrongFalsely : Prop := linesChecksRow.holds Try.pinned (OpenSpec.ofChange linesChecksWrong)

/-- 'reredoslaw.StoreCounts': WHATEVER THE INPUT: true; the input reads as it did. -/
def storeCountsSpec : ChangeSpec := { name := "storeCounts", fn := fun _ => fun
  | [d1, d2] => { results := [.lit (.bool true)], args := [d1, d2] }
  | _ => none }
def storeCountsRow : OpenClaim := { program := "ytndijondhilbcaa", sum := "62161904abadb24c374c429f8c406d91be177cece4cb2563e270725cee51f3f6", func := "reredos/reredoslaw.StoreCounts", spec := "storeCounts", unfollowed := true, recurses := true, apart := false }
def StoreCountsSaid : Prop := storeCountsRow.holds Try.pinned (OpenSpec.ofChange storeCountsSpec)

/-- ITS FALSE NEIGHBOUR: 'it returns false'. Refute it at one input. -/
def storeCountsWrong : ChangeSpec := { name := "storeCounts", fn := fun _ => fun
  | [d1, d2] => { results := [.lit (.bool false)], args := [d1, d2] }
  | _ => none }
def StoreCountsWrongFalsely : Prop := storeCountsRow.holds Try.pinned (OpenSpec.ofChange storeCountsWrong)

/-- 'reredoslaw.StoreAges': WHATEVER THE INPUT: true; the input reads as it did. -/
def storeAgesSpec : ChangeSpec := { name := "storeAges", fn := fun _ => fun
  | [d1, d2] => { results := [.lit (.bool true)], args := [d1, d2] }
  | _ => none }
def storeAgesRow : OpenClaim := { program := "ytndijondhilbcaa", sum := "62161904abadb24c374c429f8c406d91be177cece4cb2563e270725cee51f3f6", func := "reredos/reredoslaw.StoreAges", spec := "storeAges", unfollowed := true, recurses := true, apart := false }
def StoreAgesSaid : Prop := storeAgesRow.holds Try.pinned (OpenSpec.ofChange storeAgesSpec)

/-- ITS FALSE NEIGHBOUR: 'it returns false'. Refute it at one input. -/
def storeAgesWrong : ChangeSpec := { name := "storeAges", fn := fun _ => fun
  | [d1, d2] => { results := [.lit (.bool false)], args := [d1, d2] }
  | _ => none }
def StoreAgesWrongFalsely : Prop := storeAgesRow.holds Try.pinned (OpenSpec.ofChange storeAgesWrong)

/-- 'reredoslaw.StoreForgets': WHATEVER THE INPUT: true; the input reads as it did. -/
def storeForgetsSpec : ChangeSpec := { name := "storeForgets", fn := fun _ => fun
  | [d] => { results := [.lit (.bool true)], args := [d] }
  | _ => none }
def storeForgetsRow : OpenClaim := { program := "ytndijondhilbcaa", sum := "62161904abadb24c374c429f8c406d91be177cece4cb2563e270725cee51f3f6", func := "reredos/reredoslaw.StoreForgets", spec := "storeForgets", unfollowed := true, recurses := true, apart := false }
def StoreForgetsSaid : Prop := storeForgetsRow.holds Try.pinned (OpenSpec.ofChange storeForgetsSpec)

/-- ITS FALSE NEIGHBOUR: 'it returns false'. Refute it at one input. -/
def storeForgetsWrong : ChangeSpec := { name := "storeForgets", fn := fun _ => fun
  | [d] => { results := [.lit (.bool false)], args := [d] }
  | _ => none }
def StoreForgetsWrongFalsely : Prop := storeForgetsRow.holds Try.pinned (OpenSpec.ofChange storeForgetsWrong)

/- THE SECOND FORM. 'bulk': how many values and letters a reading holds, each counted each time it is reached (what is shared counts as often as it is met; a slice's spare places count too). A statement '..UptoSaid' is the law's where the arguments, and the package variables that the reading takes, are together of bulk at most 1048576: NARROWER than '..Said'. Prove '..Said' where nothing that the law and all that it calls make is longer than what came in: it says more and counts as full. Else prove '..UptoSaid'. A law counts once. -/
mutual
def uptoBulk {H : Type} : DataW H → Nat
  | .lit (.string bytes) => bytes.length + 1
  | .lit _ => 1
  | .nil => 1
  | .ptr d => uptoBulk d + 1
  | .slice elems spare => uptoBulkAll elems + uptoBulkAll spare + 1
  | .agg parts => uptoBulkAll parts + 1
  | .iface _ d => uptoBulk d + 1
  | .map entries => uptoBulkEntries entries + 1
  | .held _ => 1
def uptoBulkAll {H : Type} : List (DataW H) → Nat
  | [] => 0
  | d :: r => uptoBulk d + uptoBulkAll r
def uptoBulkEntries {H : Type} : List (Lit × DataW H) → Nat
  | [] => 0
  | x :: r => uptoBulkEntry x + uptoBulkEntries r
def uptoBulkEntry {H : Type} : Lit × DataW H → Nat
  | (.string bytes, d) => bytes.length + uptoBulk d + 1
  | (_, d) => uptoBulk d + 1
 end
def uptoSmall : (H : Type) → List (DataW H) → Bool := fun _ ds => decide (uptoBulkAll ds ≤ 1048576)
def OpenSpec.upto (s : _root_.Go.ChangeSpec) : _root_.Go.OpenSpec := { _root_.Go.OpenSpec.ofChange s with cond := some uptoSmall }

/-- 'reredoslaw.CoordChecks', WHERE WHAT IT READS IS OF BULK AT MOST 1048576: true; the input reads as it did. -/
def coordChecksUptoRow : OpenClaim := { program := "ytndijondhilbcaa", sum := "62161904abadb24c374c429f8c406d91be177cece4cb2563e270725cee51f3f6", func := "reredos/reredoslaw.CoordChecks", spec := "coordChecks", apart := false, narrowed := true }
def CoordChecksUptoSaid : Prop := coordChecksUptoRow.holds Try.pinned (OpenSpec.upto coordChecksSpec)

/-- 'reredoslaw.StoreChecks', WHERE WHAT IT READS IS OF BULK AT MOST 1048576: true; the input reads as it did. -/
def storeChecksUptoRow : OpenClaim := { program := "ytndijondhilbcaa", sum := "62161904abadb24c374c429f8c406d91be177cece4cb2563e270725cee51f3f6", func := "reredos/reredoslaw.StoreChecks", spec := "storeChecks", unfollowed := true, recurses := true, apart := false, narrowed := true }
def StoreChecksUptoSaid : Prop := storeChecksUptoRow.holds Try.pinned (OpenSpec.upto storeChecksSpec)

/-- 'reredoslaw.LinesChecks', WHERE WHAT IT READS IS OF BULK AT MOST 1048576: true; the input reads as it did. -/
def linesChecksUptoRow : OpenClaim := { program := "ytndijondhilbcaa", sum := "62161904abadb24c374c429f8c406d91be177cece4cb2563e270725cee51f3f6", func := "reredos/reredoslaw.LinesChecks", spec := "linesChecks", unfollowed := true, recurses := true, apart := false, narrowed := true }
def LinesChecksUptoSaid : Prop := linesChecksUptoRow.holds Try.pinned (OpenSpec.upto linesChecksSpec)

/-- 'reredoslaw.StoreCounts', WHERE WHAT IT READS IS OF BULK AT MOST 1048576: true; the input reads as it did. -/
def storeCountsUptoRow : OpenClaim := { program := "ytndijondhilbcaa", sum := "62161904abadb24c374c429f8c406d91be177cece4cb2563e270725cee51f3f6", func := "reredos/reredoslaw.StoreCounts", spec := "storeCounts", unfollowed := true, recurses := true, apart := false, narrowed := true }
def StoreCountsUptoSaid : Prop := storeCountsUptoRow.holds Try.pinned (OpenSpec.upto storeCountsSpec)

/-- 'reredoslaw.StoreAges', WHERE WHAT IT READS IS OF BULK AT MOST 1048576: true; the input reads as it did. -/
def storeAgesUptoRow : OpenClaim := { program := "ytndijondhilbcaa", sum := "62161904abadb24c374c429f8c406d91be177cece4cb2563e270725cee51f3f6", func := "reredos/reredoslaw.StoreAges", spec := "storeAges", unfollowed := true, recurses := true, apart := false, narrowed := true }
def StoreAgesUptoSaid : Prop := storeAgesUptoRow.holds Try.pinned (OpenSpec.upto storeAgesSpec)

/-- 'reredoslaw.StoreForgets', WHERE WHAT IT READS IS OF BULK AT MOST 1048576: true; the input reads as it did. -/
def storeForgetsUptoRow : OpenClaim := { program := "ytndijondhilbcaa", sum := "62161904abadb24c374c429f8c406d91be177cece4cb2563e270725cee51f3f6", func := "reredos/reredoslaw.StoreForgets", spec := "storeForgets", unfollowed := true, recurses := true, apart := false, narrowed := true }
def StoreForgetsUptoSaid : Prop := storeForgetsUptoRow.holds Try.pinned (OpenSpec.upto storeForgetsSpec)

end Rows
end Go.Proofs.Ytndijondhilbcaa
