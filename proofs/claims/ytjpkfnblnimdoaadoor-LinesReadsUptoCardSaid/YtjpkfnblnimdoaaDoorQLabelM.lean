/- Plain laws (LabelM): no program, no memory; conditions as stated. -/
import Derived.Test.YtjpkfnblnimdoaaDoorG2
import Derived.Test.YtjpkfnblnimdoaaDoorQLabel
set_option linter.unusedVariables false
set_option linter.unusedSimpArgs false
namespace Go.V.Dec
open Go Go.Proofs Classical
set_option maxRecDepth 100000
set_option maxHeartbeats 4000000
variable (G : Nat → Option (List D))
theorem labelMay_eq (c : Config) (l : Int) (h : c.Labels.length ≤ maxLen) : reredosref_labelMay c l = some (decide (0 ≤ l ∧ l < c.Labels.length)) := by
  simp only [reredosref_labelMay, In_eq, Option.bind_some]
  simp only [maxLen] at h
  rw [wrap_in (by omega) (by omega)]
  congr 1; rw [decide_eq_decide]; omega

end Go.V.Dec
