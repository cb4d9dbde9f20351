/- Plain laws (StoreRead): no program, no memory; conditions as stated. -/
import Derived.Test.YtmnicbhniaejjaaDoorF3
import Derived.Test.YtmnicbhniaejjaaDoorPStoreHand
import Derived.Test.YtmnicbhniaejjaaDoorPStoreBusy
set_option linter.unusedVariables false
set_option linter.unusedSimpArgs false
namespace Go.V.Dec
open Go Go.Proofs Classical
set_option maxRecDepth 100000
set_option maxHeartbeats 4000000
variable (G : Nat → Option (List D))
theorem read_same (s : Store) (t : Txn) (k : Int) (hf : StoreFits s) : store_Read s t k = reredosref_ReadOf s t k ∧ ∃ r, reredosref_ReadOf s t k = some r := by
  have h1 : s.Items.length ≤ maxLen := hf.1.2
  have h2 : s.Doubts.length ≤ maxLen := hf.2.2.1.2
  simp only [store_Read, reredosref_ReadOf, call_eq s t k h1, askFault_eq s t k h1 h2, lock_same, contains_Txn, isOver_eq, busy_eq, own_eq s hf, copy_eq s hf, withK, Option.bind_some, doubted_eq]
  by_cases hm : May s
  case neg => simp [hm]
  by_cases ht : txnR t ∧ 0 ≤ k ∧ k < 8
  case neg => simp [hm, ht]
  obtain ⟨m, n, e1, e2⟩ := others_eq s t k hm.2.2.2.2
  obtain ⟨w, e3, e4⟩ := lock_total s t k
  obtain ⟨e5, x, e6⟩ := item_same s hm.1 k
  obtain ⟨d, e8, e9⟩ := doubtOf_val s t
  have e11 : ((s.Locks.length : Int) == 24) = decide ((s.Locks.length : Int) ≥ 24) := by
    have := hm.2.2.2.2
    rw [Bool.eq_iff_iff]; simp; omega
  have f1 : fits 24 (s.Doubts.length + 1) := by
    have := doubts_len s hm
    have := hf.2.2.1
    unfold fits maxLen at *; omega
  have f2 : fits 48 (s.Locks.length + 1) := by
    have := hm.2.2.2.2
    unfold fits maxLen at *; omega
  have hd : ∀ I L O, hasDoubt (Store.mk I L s.Doubts O) t ↔ hasDoubt s t := fun I L O => Iff.rfl
  simp only [if_pos hm, if_pos ht, e1, e2, e3, e5, e6, e8, e9, e11, if_pos f1, if_pos f2, hd, Option.bind_some]
  rcases e4 with ⟨rfl, e4⟩ | ⟨j, y, rfl, e4, _, _⟩
  · generalize decide (t ∈ s.Over) = q1
    generalize decide (∃ x, x ∈ s.Locks ∧ busyQ t k x = true) = q2
    generalize decide ((s.Locks.length : Int) ≥ 24) = q3
    generalize decide (hasDoubt s t) = q5
    cases q1 <;> cases q2 <;> cases q3 <;> cases q5 <;> simp
  · have g : ¬ ((j : Int) < 0) := by omega
    have g' : (j : Int) ≥ 0 := by omega
    simp only [Int.toNat_natCast, e4, Option.bind_some, decide_eq_false g, decide_eq_true g', if_pos g']
    cases y.Write <;> simp

end Go.V.Dec
