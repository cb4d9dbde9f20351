/- Plain laws (Store): no program, no memory; conditions as stated. -/
import Derived.Test.YtmplhamakfnjbaaDoorH1
import Derived.Test.YtmplhamakfnjbaaDoorRStoreAsk
set_option linter.unusedVariables false
set_option linter.unusedSimpArgs false
namespace Go.V.Dec
open Go Go.Proofs Classical
set_option maxRecDepth 100000
set_option maxHeartbeats 4000000
variable (G : Nat → Option (List D))
theorem call_eq (s : Store) (t : Txn) (key : Int) (h1 : s.Items.length ≤ maxLen) : store_call s t key = some (if May s then (if txnR t ∧ 0 ≤ key ∧ key < 8 then 0 else 2) else 9) := by
  simp only [store_call, check_eq s h1, store_txn_eq, Option.bind_some]
  by_cases hm : May s
  case neg => simp [hm]
  by_cases ht : txnR t
  case neg => simp [hm, ht]
  by_cases hk : key < 0
  case pos => simp [hm, ht, hk]; omega
  by_cases hk' : key ≥ 8
  case pos => simp [hm, ht, hk, hk']
  have : 0 ≤ key ∧ key < 8 := by omega
  simp [hm, ht, hk, hk', this]

end Go.V.Dec
