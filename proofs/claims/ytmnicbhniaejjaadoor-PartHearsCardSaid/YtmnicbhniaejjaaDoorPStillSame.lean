/- Plain laws (StillSame): no program, no memory; conditions as stated. -/
import Derived.Test.YtmnicbhniaejjaaDoorF3
import Derived.Test.YtmnicbhniaejjaaDoorPStoreItem
set_option linter.unusedVariables false
set_option linter.unusedSimpArgs false
namespace Go.V.Dec
open Go Go.Proofs Classical
set_option maxRecDepth 100000
set_option maxHeartbeats 4000000
variable (G : Nat → Option (List D))
theorem still_same (s : Store) (t : Txn) (k v : Int) (h1 : s.Items.length ≤ maxLen) (h2 : s.Doubts.length ≤ maxLen) : store_Still s t k v = reredosref_StillOf s t k v ∧ ∃ r, reredosref_StillOf s t k v = some r := by
  simp only [store_Still, reredosref_StillOf, call_eq s t k h1, askFault_eq s t k h1 h2, lock_same, withK, Option.bind_some]
  by_cases hm : May s
  case neg => simp only [if_neg hm]; exact ⟨rfl, _, rfl⟩
  obtain ⟨e1, r, hr⟩ := item_same s hm.1 k
  obtain ⟨w, hw, _⟩ := lock_total s t k
  rw [e1, hr, hw]
  refine ⟨rfl, ?_⟩
  simp only [Option.bind_some]
  exact ite2_some _ _ _ _ _

end Go.V.Dec
