/- Plain laws (StoreWr): no program, no memory; conditions as stated. -/
import Derived.Test.YtmplhamakfnjbaaDoorH2
import Derived.Test.YtmplhamakfnjbaaDoorRStore
set_option linter.unusedVariables false
set_option linter.unusedSimpArgs false
namespace Go.V.Dec
open Go Go.Proofs Classical
set_option maxRecDepth 100000
set_option maxHeartbeats 4000000
variable (G : Nat → Option (List D))
theorem writes_same (s : Store) (t : Txn) (k : Int → Option (Int × Int)) : ∀ n a i, store_Writes_L1 s t k n a i = reredosref_WritesOf_L1 s t k n a i := by
  intro n
  induction n with
  | zero => intro a i; rfl
  | succ n ih => intro a i; rw [store_Writes_L1, reredosref_WritesOf_L1]; simp only [withK, ih]
theorem writes_total (s : Store) (t : Txn) (k : Int → Option (Int × Int)) (hk : ∀ a, ∃ r, k a = some r) : ∀ n a i, s.Locks.length < n + i → i ≤ s.Locks.length → ∃ r, reredosref_WritesOf_L1 s t k n a i = some r := by
  intro n
  induction n with
  | zero => intro a i h1 h2; omega
  | succ n ih =>
    intro a i h1 h2
    rw [reredosref_WritesOf_L1]
    by_cases hi : i < s.Locks.length
    · rw [if_pos (by simpa using hi), bind_at hi]
      simp only [withK]
      split
      · split
        · exact ih _ _ (by omega) (by omega)
        · exact ih _ _ (by omega) (by omega)
      · exact ih _ _ (by omega) (by omega)
    · rw [if_neg (by simpa using hi)]; exact hk a
theorem Writes_same (s : Store) (t : Txn) (h1 : s.Items.length ≤ maxLen) (h2 : s.Doubts.length ≤ maxLen) : store_Writes s t = reredosref_WritesOf s t ∧ ∃ r, reredosref_WritesOf s t = some r := by
  simp only [store_Writes, reredosref_WritesOf, call_eq s t 0 h1, askFault_eq s t 0 h1 h2, Option.bind_some, withK]
  refine ⟨by simp only [writes_same], ?_⟩
  generalize (if May s then (if txnR t ∧ 0 ≤ (0 : Int) ∧ (0 : Int) < 8 then (0 : Int) else 2) else 9) = e
  by_cases he : (e != 0) = true
  · exact ⟨_, if_pos he⟩
  · rw [if_neg he]
    exact writes_total s t _ (fun a => ⟨_, rfl⟩) _ _ _ (by omega) (by omega)

end Go.V.Dec
