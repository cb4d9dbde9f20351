/- Plain laws (StorePeek): no program, no memory; conditions as stated. -/
import Derived.Test.YtmnicbhniaejjaaDoorF3
import Derived.Test.YtmnicbhniaejjaaDoorPStoreBusy
set_option linter.unusedVariables false
set_option linter.unusedSimpArgs false
namespace Go.V.Dec
open Go Go.Proofs Classical
set_option maxRecDepth 100000
set_option maxHeartbeats 4000000
variable (G : Nat → Option (List D))
theorem peek_same (s : Store) (k : Int) (h1 : s.Items.length ≤ maxLen) (h2 : s.Doubts.length ≤ maxLen) : store_Peek s k = reredosref_PeekOf s k ∧ ∃ r, reredosref_PeekOf s k = some r := by
  simp only [store_Peek, reredosref_PeekOf, call_eq s _ k h1, askFault_eq s _ k h1 h2, busy_eq, withK, Option.bind_some]
  by_cases hm : May s
  case neg => simp only [if_neg hm]; exact ⟨rfl, _, rfl⟩
  obtain ⟨e1, r, hr⟩ := item_same s hm.1 k
  obtain ⟨a, b, e2, e3⟩ := others_eq s (Txn.mk 0 0) k hm.2.2.2.2
  rw [e1, hr, e2]
  simp only [Option.bind_some, e3]
  refine ⟨?_, ?_⟩
  · simp only [decide_eq_true_eq]
  · exact ite2_some _ _ _ _ _

end Go.V.Dec
