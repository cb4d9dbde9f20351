/- Plain laws (StoreAsk): no program, no memory; conditions as stated. -/
import Derived.Test.YtjklmaihcaelaaaDoorG2
import Derived.Test.YtjklmaihcaelaaaDoorQStoreC
set_option linter.unusedVariables false
set_option linter.unusedSimpArgs false
namespace Go.V.Dec
open Go Go.Proofs Classical
set_option maxRecDepth 100000
set_option maxHeartbeats 4000000
variable (G : Nat → Option (List D))
theorem u0w (s : Store) (t : Txn) (key : Int) (h1 : s.Items.length ≤ maxLen) (h2 : s.Doubts.length ≤ maxLen) : xv s t key = some (if May s then (if txnR t ∧ 0 ≤ key ∧ key < 8 then 0 else 2) else 9) := by
 simp only [xv, May_eq s h1 h2, y0r, In_eq, Option.bind_some]
 by_cases hm : May s
 case neg => simp [hm]
 by_cases ht : txnR t
 case neg => simp [hm, ht]
 by_cases hk : 0 ≤ key ∧ key ≤ 7
 ·have : 0 ≤ key ∧ key < 8 := by omega
  simp [hm, ht, hk, this]
 ·have : ¬ (0 ≤ key ∧ key < 8) := by omega
  have e : ¬ (txnR t ∧ 0 ≤ key ∧ key < 8) := fun h => this h.2
  rw [decide_eq_false hk, decide_eq_true hm, decide_eq_true ht]; simp only [if_pos hm, if_neg e]; rfl

end Go.V.Dec
