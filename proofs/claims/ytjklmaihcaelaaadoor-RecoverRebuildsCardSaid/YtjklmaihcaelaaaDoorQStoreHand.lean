/- Plain laws (StoreHand): no program, no memory; conditions as stated. -/
import Derived.Test.YtjklmaihcaelaaaDoorG2
import Derived.Test.YtjklmaihcaelaaaDoorQStoreItem
import Derived.Test.YtjklmaihcaelaaaDoorQStoreCopy
import Derived.Test.YtjklmaihcaelaaaDoorQStoreLens
set_option linter.unusedVariables false
set_option linter.unusedSimpArgs false
namespace Go.V.Dec
open Go Go.Proofs Classical
set_option maxRecDepth 100000
set_option maxHeartbeats 4000000
variable (G : Nat → Option (List D))
theorem x2m (s : Store) (t : Txn) : ∃ v, yc s t = some v ∧ decide (v < 0) = !decide (x0f s t) := by
 rcases u1t s t with ⟨h, e⟩ | ⟨j, d, h1, h2, _, e⟩
 ·exact ⟨_, e, by rw [decide_eq_false h]; rfl⟩
 ·refine ⟨_, e, ?_⟩
  have : x0f s t := ⟨d, List.mem_of_getElem? h1, h2⟩
  rw [decide_eq_true this, decide_eq_false (by omega)]; rfl
theorem w3b (s : Store) (hs : u0e s.Items) (k : Int) : ∃ r, ve s k = some r ∧ r.Version ≤ 1048576 := by
 have key : ∀ n i, s.Items.length < n + i → i ≤ s.Items.length → ∃ r, wd s k (some (Item.mk k 0 0)) n i = some r ∧ r.Version ≤ 1048576 := by
  intro n
  induction n with
  | zero =>
   intro i h h2; omega
  | succ n ih =>
   intro i h h2
   rw [wd]
   by_cases hi : i < s.Items.length
   ·rw [if_pos (by simpa using hi), va hi]
    split
    ·exact ⟨_, rfl, ((hs i hi) _ (List.getElem?_eq_getElem hi)).1.2.2.2.2.2⟩
    ·exact ih _ (by omega) (by omega)
   ·rw [if_neg (by simpa using hi)]; exact ⟨_, rfl, Int.le_of_lt (by show (0:Int) < 1048576; omega)⟩
 simp only [ve, withK]
 exact key _ _ (by omega) (by omega)

end Go.V.Dec
