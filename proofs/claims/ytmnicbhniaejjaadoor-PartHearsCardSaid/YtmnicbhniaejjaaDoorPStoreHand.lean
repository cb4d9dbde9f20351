/- Plain laws (StoreHand): no program, no memory; conditions as stated. -/
import Derived.Test.YtmnicbhniaejjaaDoorF3
import Derived.Test.YtmnicbhniaejjaaDoorPStoreItem
import Derived.Test.YtmnicbhniaejjaaDoorPStoreCopy
import Derived.Test.YtmnicbhniaejjaaDoorPStoreLens
set_option linter.unusedVariables false
set_option linter.unusedSimpArgs false
namespace Go.V.Dec
open Go Go.Proofs Classical
set_option maxRecDepth 100000
set_option maxHeartbeats 4000000
variable (G : Nat → Option (List D))
theorem doubtOf_val (s : Store) (t : Txn) : ∃ v, reredosref_doubtOf s t = some v ∧ decide (v < 0) = !decide (hasDoubt s t) := by
  rcases doubtOf_eq s t with ⟨h, e⟩ | ⟨j, d, h1, h2, _, e⟩
  · exact ⟨_, e, by rw [decide_eq_false h]; rfl⟩
  · refine ⟨_, e, ?_⟩
    have : hasDoubt s t := ⟨d, List.mem_of_getElem? h1, h2⟩
    rw [decide_eq_true this, decide_eq_false (by omega)]; rfl
theorem item_small (s : Store) (hs : ItemsOk s.Items) (k : Int) : ∃ r, reredosref_itemOf s k = some r ∧ r.Version ≤ 1048576 := by
  have key : ∀ n i, s.Items.length < n + i → i ≤ s.Items.length → ∃ r, reredosref_itemOf_L1 s k (some (Item.mk k 0 0)) n i = some r ∧ r.Version ≤ 1048576 := by
    intro n
    induction n with
    | zero =>
      intro i h h2; omega
    | succ n ih =>
      intro i h h2
      rw [reredosref_itemOf_L1]
      by_cases hi : i < s.Items.length
      · rw [if_pos (by simpa using hi), bind_at hi]
        split
        · exact ⟨_, rfl, ((hs i hi) _ (List.getElem?_eq_getElem hi)).1.2.2.2.2.2⟩
        · exact ih _ (by omega) (by omega)
      · rw [if_neg (by simpa using hi)]; exact ⟨_, rfl, Int.le_of_lt (by show (0:Int) < 1048576; omega)⟩
  simp only [reredosref_itemOf, withK]
  exact key _ _ (by omega) (by omega)

end Go.V.Dec
