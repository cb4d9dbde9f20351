/- Plain laws (Store): no program, no memory; conditions as stated. -/
import Derived.Test.YtjklmaihcaelaaaDoorG1
import Derived.Test.YtjklmaihcaelaaaDoorQStoreAsk
set_option linter.unusedVariables false
set_option linter.unusedSimpArgs false
namespace Go.V.Dec
open Go Go.Proofs Classical
set_option maxRecDepth 100000
set_option maxHeartbeats 4000000
variable (G : Nat → Option (List D))
theorem u4p (s : Store) (t : Txn) (key : Int) (h1 : s.Items.length ≤ maxLen) : v0n s t key = some (if May s then (if txnR t ∧ 0 ≤ key ∧ key < 8 then 0 else 2) else 9) := by
 simp only [v0n, v5l s h1, w0l, Option.bind_some]
 by_cases hm : May s
 case neg => simp [hm]
 by_cases ht : txnR t
 case neg => simp [hm, ht]
 by_cases hk : key < 0
 case pos => simp [hm, ht, hk]; omega
 by_cases hk' : key ≥ 8
 case pos => simp [hm, ht, hk, hk']
 have : 0 ≤ key ∧ key < 8 := by omega
 simp [hm, ht, hk, hk', this]

end Go.V.Dec
