/- Plain laws (Wire): no program, no memory; conditions as stated. -/
import Derived.Test.YtjklmaihcaelaaaDoorG2
import Derived.Test.YtjklmaihcaelaaaDoorQLabel
set_option linter.unusedVariables false
set_option linter.unusedSimpArgs false
namespace Go.V.Dec
open Go Go.Proofs Classical
set_option maxRecDepth 100000
set_option maxHeartbeats 4000000
variable (G : Nat → Option (List D))
theorem y5a {α : Type} (F : Bool → Option α) (a b : Bool) : (withK F fun k => if a = true then k true else k b) = F (a || b) := by cases a <;> rfl
theorem z4r {α : Type} (F : Bool → Option α) (a b : Bool) : (withK F fun k => if (!a) = true then k true else k b) = F (!a || b) := by cases a <;> rfl
theorem withK_and {α : Type} (F : Bool → Option α) (a b : Bool) : (withK F fun k => if a = true then k b else k false) = F (a && b) := by cases a <;> rfl
def wtxnR (c : Config) (t : Txn) : Prop := 0 ≤ t.Site ∧ t.Site < c.Sites ∧ 1 ≤ t.N ∧ t.N ≤ 1048576
theorem wtxn_eq (c : Config) (t : Txn) : x1g c t = some (decide (wtxnR c t)) := by
 simp only [x1g, withK, wtxnR]
 by_cases h1 : t.Site ≥ 0 <;> by_cases h2 : t.Site < c.Sites <;> by_cases h3 : t.N ≥ 1 <;> simp [h1, h2, h3] <;> omega
theorem wkey_eq (k : Int) : w1g k = some (decide (0 ≤ k ∧ k ≤ 7)) := by
 simp only [w1g, withK]
 by_cases h1 : k ≥ 0 <;> simp [h1] <;> omega
theorem w4q (k : Int) : v0t k = some (decide (0 ≤ k ∧ k ≤ 1073741824)) := by
 simp only [v0t, withK]
 by_cases h1 : k ≥ 0 <;> simp [h1]
theorem wask_eq (k : Int) : v1g k = some (decide (0 ≤ k ∧ k ≤ 1048576)) := by
 simp only [v1g, withK]
 by_cases h1 : k ≥ 0 <;> simp [h1]
theorem w3h (c : Config) (t : Txn) (hs : 1 ≤ c.Sites ∧ c.Sites ≤ 4) : z0e c t = some (decide (wtxnR c t)) := by
 simp only [z0e, withK, In_eq, Option.bind_some, wtxnR]
 rw [vw (by omega) (by omega)]
 by_cases h1 : 0 ≤ t.Site ∧ t.Site ≤ c.Sites - 1
 ·by_cases h2 : 1 ≤ t.N ∧ t.N ≤ 1048576
  ·have : 0 ≤ t.Site ∧ t.Site < c.Sites ∧ 1 ≤ t.N ∧ t.N ≤ 1048576 := by omega
   simp only [decide_eq_true h1, decide_eq_true h2, if_true]
   exact congrArg some (decide_eq_true (p := wtxnR c t) this).symm
  ·have : ¬ (0 ≤ t.Site ∧ t.Site < c.Sites ∧ 1 ≤ t.N ∧ t.N ≤ 1048576) := by omega
   simp only [decide_eq_true h1, decide_eq_false h2, if_true]
   exact congrArg some (decide_eq_false (p := wtxnR c t) this).symm
 ·have : ¬ (0 ≤ t.Site ∧ t.Site < c.Sites ∧ 1 ≤ t.N ∧ t.N ≤ 1048576) := by omega
  simp only [decide_eq_false h1, Bool.false_eq_true, if_false]
  exact congrArg some (decide_eq_false (p := wtxnR c t) this).symm

end Go.V.Dec
