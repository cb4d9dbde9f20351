/- Plain laws (StoreCopy): no program, no memory; conditions as stated. -/
import Derived.Test.YthcdfhnhhpkklaaG3
import Derived.Test.YthcdfhnhhpkklaaQStoreC
set_option linter.unusedVariables false
set_option linter.unusedSimpArgs false
namespace Go.V.Dec
open Go Go.Proofs Classical
set_option maxRecDepth 100000
set_option maxHeartbeats 4000000
theorem fits_of' {n b : Nat} (h1 : n ≤ maxLen) (h2 : n * b ≤ reachBytes) : fits b n := ⟨by unfold reachBytes at h2; omega, h1⟩
theorem fits_le {n m b : Nat} (h : fits b n) (hm : m ≤ n) : fits b m := ⟨Nat.le_trans (Nat.mul_le_mul_right b hm) h.1, Nat.le_trans hm h.2⟩
theorem copy_loop {α R : Type} {L : Nat → Nat → List α → Option R} {l : List α} {k : List α → Option R} {b : Nat} (hf : fits b l.length)
    (hk : ∀ n i acc, ¬ i < l.length → L (n + 1) i acc = k acc)
    (hg : ∀ n i acc (hi : i < l.length), fits b (acc.length + 1) → L (n + 1) i acc = L n (i + 1) (acc ++ [l[i]])) :
    ∀ n i acc, l.length < n + i → acc.length = i → i ≤ l.length → L n i acc = k (acc ++ l.drop i) := by
  intro n
  induction n with
  | zero => intro i acc h1 h2 h3; omega
  | succ n ih =>
    intro i acc h1 h2 h3
    by_cases hi : i < l.length
    · rw [hg n i acc hi (fits_le hf (by omega)), ih _ _ (by omega) (by simp [h2]) (by omega), List.append_assoc, List.singleton_append, List.getElem_cons_drop]
    · rw [hk n i acc hi, List.drop_of_length_le (by omega), List.append_nil]
theorem true_loop {R : Type} {L : Nat → Nat → Option R} {len : Nat} {k : Option R} (hk : ∀ n i, ¬ i < len → L (n + 1) i = k) (hg : ∀ n i, i < len → L (n + 1) i = L n (i + 1)) :
    ∀ n i, len < n + i → i ≤ len → L n i = k := by
  intro n
  induction n with
  | zero => intro i h1 h2; omega
  | succ n ih =>
    intro i h1 h2
    by_cases hi : i < len
    · rw [hg n i hi, ih _ (by omega) (by omega)]
    · exact hk n i hi
def StoreFits (s : Store) : Prop := fits 24 s.Items.length ∧ fits 48 s.Locks.length ∧ fits 24 s.Doubts.length ∧ fits 16 s.Over.length
theorem copy_eq (s : Store) (h : StoreFits s) : reredosref_StoreCopy s = some s := by
  obtain ⟨h1, h2, h3, h4⟩ := h
  simp only [reredosref_StoreCopy, withK]
  rw [copy_loop (L := reredosref_StoreCopy_L1 s _) (l := s.Items) h1 (fun n i acc hi => by rw [reredosref_StoreCopy_L1, if_neg (by simpa using hi)]) (fun n i acc hi hf => by rw [reredosref_StoreCopy_L1, if_pos (by simpa using hi), bind_at hi, if_pos hf]) _ 0 [] (by omega) rfl (by omega)]
  rw [copy_loop (L := reredosref_StoreCopy_L2 s _) (l := s.Locks) h2 (fun n i acc hi => by rw [reredosref_StoreCopy_L2, if_neg (by simpa using hi)]) (fun n i acc hi hf => by rw [reredosref_StoreCopy_L2, if_pos (by simpa using hi), bind_at hi, if_pos hf]) _ 0 [] (by omega) rfl (by omega)]
  rw [copy_loop (L := reredosref_StoreCopy_L3 s _) (l := s.Doubts) h3 (fun n i acc hi => by rw [reredosref_StoreCopy_L3, if_neg (by simpa using hi)]) (fun n i acc hi hf => by rw [reredosref_StoreCopy_L3, if_pos (by simpa using hi), bind_at hi, if_pos hf]) _ 0 [] (by omega) rfl (by omega)]
  rw [copy_loop (L := reredosref_StoreCopy_L4 s _) (l := s.Over) h4 (fun n i acc hi => by rw [reredosref_StoreCopy_L4, if_neg (by simpa using hi)]) (fun n i acc hi hf => by rw [reredosref_StoreCopy_L4, if_pos (by simpa using hi), bind_at hi, if_pos hf]) _ 0 [] (by omega) rfl (by omega)]
  rfl
theorem sameTxns_refl (l : List Txn) : reredoslaw_sameTxns l l = some true := by
  simp only [reredoslaw_sameTxns, withK, bne_self_eq_false, Bool.false_eq_true, if_false]
  exact true_loop (L := reredoslaw_sameTxns_L1 l l _) (len := l.length) (fun n i hi => by rw [reredoslaw_sameTxns_L1, if_neg (by simpa using hi)]) (fun n i hi => by rw [reredoslaw_sameTxns_L1, if_pos (by simpa using hi), bind_at hi, bind_at hi, if_neg (by simp)]) _ 0 (by omega) (by omega)
theorem sameStore_refl (s : Store) : reredoslaw_sameStore s s = some true := by
  simp only [reredoslaw_sameStore, withK, bne_self_eq_false, Bool.false_eq_true, if_false, sameTxns_refl, Option.bind_some, Bool.not_true]
  rw [true_loop (L := reredoslaw_sameStore_L1 s s _) (len := s.Items.length) (fun n i hi => by rw [reredoslaw_sameStore_L1, if_neg (by simpa using hi)]) (fun n i hi => by rw [reredoslaw_sameStore_L1, if_pos (by simpa using hi), bind_at hi, bind_at hi, if_neg (by simp)]) _ 0 (by omega) (by omega)]
  rw [true_loop (L := reredoslaw_sameStore_L2 s s _) (len := s.Locks.length) (fun n i hi => by rw [reredoslaw_sameStore_L2, if_neg (by simpa using hi)]) (fun n i hi => by rw [reredoslaw_sameStore_L2, if_pos (by simpa using hi), bind_at hi, bind_at hi, if_neg (by simp)]) _ 0 (by omega) (by omega)]
  rw [true_loop (L := reredoslaw_sameStore_L3 s s _) (len := s.Doubts.length) (fun n i hi => by rw [reredoslaw_sameStore_L3, if_neg (by simpa using hi)]) (fun n i hi => by rw [reredoslaw_sameStore_L3, if_pos (by simpa using hi), bind_at hi, bind_at hi, if_neg (by simp)]) _ 0 (by omega) (by omega)]
theorem own_eq (s : Store) (h : StoreFits s) : store_own s = some s := by
  simp only [store_own, cloneF, if_pos h.1, if_pos h.2.1, if_pos h.2.2.1, if_pos h.2.2.2, Option.bind_some]

end Go.V.Dec
