/- Plain laws (StoreCopy): no program, no memory; conditions as stated. -/
import Derived.Test.YtmnicbhniaejjaaDoorF4
import Derived.Test.YtmnicbhniaejjaaDoorPStoreC
import Derived.Test.YtmnicbhniaejjaaDoorPCopies
set_option linter.unusedVariables false
set_option linter.unusedSimpArgs false
namespace Go.V.Dec
open Go Go.Proofs Classical
set_option maxRecDepth 100000
set_option maxHeartbeats 4000000
variable (G : Nat → Option (List D))
def StoreFits (s : Store) : Prop := fits 24 s.Items.length ∧ fits 48 s.Locks.length ∧ fits 24 s.Doubts.length ∧ fits 16 s.Over.length
theorem copy_eq (s : Store) (h : StoreFits s) : reredosref_StoreCopy s = some s := by
  obtain ⟨h1, h2, h3, h4⟩ := h
  simp only [reredosref_StoreCopy, withK]
  rw [copy_loop (L := reredosref_StoreCopy_L1 s _) (l := s.Items) h1 (fun n i acc hi => by rw [reredosref_StoreCopy_L1, if_neg (by simpa using hi)]) (fun n i acc hi hf => by rw [reredosref_StoreCopy_L1, if_pos (by simpa using hi), bind_at hi, if_pos hf]) _ 0 [] (by omega) rfl (by omega)]
  rw [copy_loop (L := reredosref_StoreCopy_L2 s _) (l := s.Locks) h2 (fun n i acc hi => by rw [reredosref_StoreCopy_L2, if_neg (by simpa using hi)]) (fun n i acc hi hf => by rw [reredosref_StoreCopy_L2, if_pos (by simpa using hi), bind_at hi, if_pos hf]) _ 0 [] (by omega) rfl (by omega)]
  rw [copy_loop (L := reredosref_StoreCopy_L3 s _) (l := s.Doubts) h3 (fun n i acc hi => by rw [reredosref_StoreCopy_L3, if_neg (by simpa using hi)]) (fun n i acc hi hf => by rw [reredosref_StoreCopy_L3, if_pos (by simpa using hi), bind_at hi, if_pos hf]) _ 0 [] (by omega) rfl (by omega)]
  rw [copy_loop (L := reredosref_StoreCopy_L4 s _) (l := s.Over) h4 (fun n i acc hi => by rw [reredosref_StoreCopy_L4, if_neg (by simpa using hi)]) (fun n i acc hi hf => by rw [reredosref_StoreCopy_L4, if_pos (by simpa using hi), bind_at hi, if_pos hf]) _ 0 [] (by omega) rfl (by omega)]
  rfl
theorem sameTxns_refl (l : List Txn) : reredoslaw_sameTxns l l = some true := by
  simp only [reredoslaw_sameTxns, withK, bne_self_eq_false, Bool.false_eq_true, if_false]
  exact true_loop (L := reredoslaw_sameTxns_L1 l l _) (len := l.length) (fun n i hi => by rw [reredoslaw_sameTxns_L1, if_neg (by simpa using hi)]) (fun n i hi => by rw [reredoslaw_sameTxns_L1, if_pos (by simpa using hi), bind_at hi, bind_at hi, if_neg (by simp)]) _ 0 (by omega) (by omega)
theorem sameStore_refl (s : Store) : reredoslaw_sameStore s s = some true := by
  simp only [reredoslaw_sameStore, withK, bne_self_eq_false, Bool.false_eq_true, if_false, sameTxns_refl, Option.bind_some, Bool.not_true]
  rw [true_loop (L := reredoslaw_sameStore_L1 s s _) (len := s.Items.length) (fun n i hi => by rw [reredoslaw_sameStore_L1, if_neg (by simpa using hi)]) (fun n i hi => by rw [reredoslaw_sameStore_L1, if_pos (by simpa using hi), bind_at hi, bind_at hi, if_neg (by simp)]) _ 0 (by omega) (by omega)]
  rw [true_loop (L := reredoslaw_sameStore_L2 s s _) (len := s.Locks.length) (fun n i hi => by rw [reredoslaw_sameStore_L2, if_neg (by simpa using hi)]) (fun n i hi => by rw [reredoslaw_sameStore_L2, if_pos (by simpa using hi), bind_at hi, bind_at hi, if_neg (by simp)]) _ 0 (by omega) (by omega)]
  rw [true_loop (L := reredoslaw_sameStore_L3 s s _) (len := s.Doubts.length) (fun n i hi => by rw [reredoslaw_sameStore_L3, if_neg (by simpa using hi)]) (fun n i hi => by rw [reredoslaw_sameStore_L3, if_pos (by simpa using hi), bind_at hi, bind_at hi, if_neg (by simp)]) _ 0 (by omega) (by omega)]
theorem own_eq (s : Store) (h : StoreFits s) : store_own s = some s := by
  simp only [store_own, cloneF, if_pos h.1, if_pos h.2.1, if_pos h.2.2.1, if_pos h.2.2.2, Option.bind_some]

end Go.V.Dec
