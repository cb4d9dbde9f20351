/- Plain laws (PartForce): no program, no memory; conditions as stated. -/
import Derived.Test.YtmplhamakfnjbaaE3
import Derived.Test.YtmplhamakfnjbaaEPStoreEnd
import Derived.Test.YtmplhamakfnjbaaEPLabelM
set_option linter.unusedVariables false
set_option linter.unusedSimpArgs false
namespace Go.V.Dec
open Go Go.Proofs Classical
set_option maxRecDepth 100000
set_option maxHeartbeats 4000000
noncomputable def writesN (s : Store) (t : Txn) : Nat := (s.Locks.filter fun x => decide (x.Txn = t) && x.Write).length
theorem writesOf_loop (s : Store) (t : Txn) (hl : s.Locks.length ≤ 24) (k : Int → Option (Int × Int)) : ∀ n (a i : Nat), s.Locks.length < n + i → i ≤ s.Locks.length → a ≤ i →
    reredosref_WritesOf_L1 s t k n (a : Int) i = k ((a + ((s.Locks.drop i).filter fun x => decide (x.Txn = t) && x.Write).length : Nat) : Int) := by
  intro n
  induction n with
  | zero => intro a i h1 h2; omega
  | succ n ih =>
    intro a i h1 h2 h3
    rw [reredosref_WritesOf_L1]
    by_cases hi : i < s.Locks.length
    · rw [if_pos (by simpa using hi), bind_at hi]
      simp only [withK]
      have hd : s.Locks.drop i = s.Locks[i] :: s.Locks.drop (i + 1) := List.drop_eq_getElem_cons hi
      rw [hd, List.filter_cons]
      by_cases ht : s.Locks[i].Txn = t
      · rw [if_pos (txn_eq.2 ht)]
        cases hw : s.Locks[i].Write with
        | true =>
          simp only [if_true, ht, decide_true, Bool.true_and, hw]
          rw [wrap_succ_nat (by simp only [maxLen]; omega), ih (a + 1) (i + 1) (by omega) (by omega) (by omega)]
          simp only [List.length_cons]; congr 2; omega
        | false =>
          simp only [Bool.false_eq_true, if_false, hw, Bool.and_false]
          rw [ih a (i + 1) (by omega) (by omega) (by omega)]
      · rw [if_neg (fun h => ht (txn_eq.1 h))]
        simp only [ht, decide_false, Bool.false_and, Bool.false_eq_true, if_false]
        rw [ih a (i + 1) (by omega) (by omega) (by omega)]
    · rw [if_neg (by simpa using hi), List.drop_eq_nil_of_le (by omega)]
      rfl
theorem WritesOf_eq (s : Store) (t : Txn) (h1 : s.Items.length ≤ maxLen) (h2 : s.Doubts.length ≤ maxLen) :
    reredosref_WritesOf s t = some (if May s then (if txnR t then ((writesN s t : Int), 0) else (0, 2)) else (0, 9)) := by
  simp only [reredosref_WritesOf, askFault_eq s t 0 h1 h2, Option.bind_some, withK]
  by_cases hm : May s
  case neg => simp [hm]
  by_cases ht : txnR t
  case neg => simp [hm, ht]
  have hl : s.Locks.length ≤ 24 := hm.2.2.2.2
  have e : txnR t ∧ (0 : Int) ≤ 0 ∧ (0 : Int) < 8 := ⟨ht, by omega, by omega⟩
  rw [if_pos hm, if_pos e, if_pos hm, if_pos ht]
  have := writesOf_loop s t hl (fun b => some (b, 0)) (s.Locks.length + 1) 0 0 (by omega) (by omega) (by omega)
  simp only [bne_self_eq_false, Bool.false_eq_true, if_false]
  refine Eq.trans this ?_
  simp [writesN]

theorem writes_loop (s : Store) (t : Txn) (hl : s.Locks.length ≤ 24) (k : Int → Option (Int × Int)) : ∀ n (a i : Nat), s.Locks.length < n + i → i ≤ s.Locks.length → a ≤ i →
    store_Writes_L1 s t k n (a : Int) i = k ((a + ((s.Locks.drop i).filter fun x => decide (x.Txn = t) && x.Write).length : Nat) : Int) := by
  intro n
  induction n with
  | zero => intro a i h1 h2; omega
  | succ n ih =>
    intro a i h1 h2 h3
    rw [store_Writes_L1]
    by_cases hi : i < s.Locks.length
    · rw [if_pos (by simpa using hi), bind_at hi]
      simp only [withK]
      have hd : s.Locks.drop i = s.Locks[i] :: s.Locks.drop (i + 1) := List.drop_eq_getElem_cons hi
      rw [hd, List.filter_cons]
      by_cases ht : s.Locks[i].Txn = t
      · rw [if_pos (txn_eq.2 ht)]
        cases hw : s.Locks[i].Write with
        | true =>
          simp only [if_true, ht, decide_true, Bool.true_and, hw]
          rw [wrap_succ_nat (by simp only [maxLen]; omega), ih (a + 1) (i + 1) (by omega) (by omega) (by omega)]
          simp only [List.length_cons]; congr 2; omega
        | false =>
          simp only [Bool.false_eq_true, if_false, hw, Bool.and_false]
          rw [ih a (i + 1) (by omega) (by omega) (by omega)]
      · rw [if_neg (fun h => ht (txn_eq.1 h))]
        simp only [ht, decide_false, Bool.false_and, Bool.false_eq_true, if_false]
        rw [ih a (i + 1) (by omega) (by omega) (by omega)]
    · rw [if_neg (by simpa using hi), List.drop_eq_nil_of_le (by omega)]
      rfl
theorem Writes_eq (s : Store) (t : Txn) (h1 : s.Items.length ≤ maxLen) (h2 : s.Doubts.length ≤ maxLen) :
    store_Writes s t = some (if May s then (if txnR t then ((writesN s t : Int), 0) else (0, 2)) else (0, 9)) := by
  simp only [store_Writes, call_eq s t 0 h1, Option.bind_some, withK]
  by_cases hm : May s
  case neg => simp [hm]
  by_cases ht : txnR t
  case neg => simp [hm, ht]
  have hl : s.Locks.length ≤ 24 := hm.2.2.2.2
  have e : txnR t ∧ (0 : Int) ≤ 0 ∧ (0 : Int) < 8 := ⟨ht, by omega, by omega⟩
  rw [if_pos hm, if_pos e, if_pos hm, if_pos ht]
  have := writes_loop s t hl (fun b => some (b, 0)) (s.Locks.length + 1) 0 0 (by omega) (by omega) (by omega)
  simp only [bne_self_eq_false, Bool.false_eq_true, if_false]
  refine Eq.trans this ?_
  simp [writesN]

theorem own_answer (a : Answer) (h : StoreFits a.Store) (l : List Note) : part_own a l = some (Answer.mk a.Store a.Messages a.Records l) := by
  simp only [part_own, cloneF, if_pos h.1, if_pos h.2.1, if_pos h.2.2.1, if_pos h.2.2.2, Option.bind_some]
theorem sameIntsR (l : List Int) : reredoslaw_sameInts l l = some true := by
  simp only [reredoslaw_sameInts, withK, bne_self_eq_false, Bool.false_eq_true, if_false]
  exact true_loop (L := reredoslaw_sameInts_L1 l l _) (len := l.length) (fun n i hi => by rw [reredoslaw_sameInts_L1, if_neg (by simpa using hi)]) (fun n i hi => by rw [reredoslaw_sameInts_L1, if_pos (by simpa using hi), bind_at hi, bind_at hi, if_neg (by simp)]) _ 0 (by omega) (by omega)
theorem sameMsgsR (l : List Message) : reredoslaw_sameMessages l l = some true := by
  simp only [reredoslaw_sameMessages, withK, bne_self_eq_false, Bool.false_eq_true, if_false]
  exact true_loop (L := reredoslaw_sameMessages_L1 l l _) (len := l.length) (fun n i hi => by rw [reredoslaw_sameMessages_L1, if_neg (by simpa using hi)]) (fun n i hi => by rw [reredoslaw_sameMessages_L1, if_pos (by simpa using hi), bind_at hi, bind_at hi, if_neg (by simp)]) _ 0 (by omega) (by omega)
theorem sameRecR (r : Record) : reredoslaw_sameRecord r r = some true := by
  simp [reredoslaw_sameRecord, withK, sameIntsR]
theorem sameRecsR (l : List Record) : reredoslaw_sameRecords l l = some true := by
  simp only [reredoslaw_sameRecords, withK, bne_self_eq_false, Bool.false_eq_true, if_false]
  exact true_loop (L := reredoslaw_sameRecords_L1 l l _) (len := l.length) (fun n i hi => by rw [reredoslaw_sameRecords_L1, if_neg (by simpa using hi)]) (fun n i hi => by rw [reredoslaw_sameRecords_L1, if_pos (by simpa using hi), bind_at hi, bind_at hi]; simp [sameRecR]) _ 0 (by omega) (by omega)
theorem sameNotesR (l : List Note) : reredoslaw_sameNotes l l = some true := by
  simp only [reredoslaw_sameNotes, withK, bne_self_eq_false, Bool.false_eq_true, if_false]
  exact true_loop (L := reredoslaw_sameNotes_L1 l l _) (len := l.length) (fun n i hi => by rw [reredoslaw_sameNotes_L1, if_neg (by simpa using hi)]) (fun n i hi => by rw [reredoslaw_sameNotes_L1, if_pos (by simpa using hi), bind_at hi, bind_at hi, if_neg (by simp)]) _ 0 (by omega) (by omega)
theorem sameAnsR (a : Answer) : reredoslaw_sameAnswer a a = some true := by
  simp [reredoslaw_sameAnswer, withK, sameStore_refl, sameMsgsR, sameRecsR, sameNotesR]
theorem NotesCopy_eq (l : List Note) (h : fits 24 l.length) : reredosref_NotesCopy l = some l := by
  simp only [reredosref_NotesCopy, withK]
  refine (copy_loop h (L := reredosref_NotesCopy_L1 l (fun b => some b)) (k := fun b => some b) (fun n i acc hi => by rw [reredosref_NotesCopy_L1, if_neg (by simpa using hi)]) (fun n i acc hi hf => by rw [reredosref_NotesCopy_L1, if_pos (by simpa using hi), bind_at hi, if_pos hf]) (l.length + 1) 0 [] (by omega) rfl (by omega)).trans ?_
  simp

theorem siteF_ok (l : List Store) (hl : ∀ x ∈ l, StoreFits x) (hm : ∀ x ∈ l, May x) (k2 : Int → Option (Answer × Int)) (k : Option (Answer × Int)) : ∀ n i, l.length < n + i → i ≤ l.length → part_Force_L1 l k2 k n i = k := by
  intro n
  induction n with
  | zero => intro i h1 h2; omega
  | succ n ih =>
    intro i h1 h2
    rw [part_Force_L1]
    by_cases hi : i < l.length
    · rw [if_pos (by simpa using hi), bind_at hi, check_eq _ (hl _ (List.getElem_mem hi)).1.2, if_pos (hm _ (List.getElem_mem hi))]
      exact ih _ (by omega) (by omega)
    · rw [if_neg (by simpa using hi)]
theorem siteR_ok (l : List Store) (hl : ∀ x ∈ l, StoreFits x) (hm : ∀ x ∈ l, May x) (k : Option Int) : ∀ n i, l.length < n + i → i ≤ l.length → reredosref_siteFault_L1 l k n i = k := by
  intro n
  induction n with
  | zero => intro i h1 h2; omega
  | succ n ih =>
    intro i h1 h2
    rw [reredosref_siteFault_L1]
    by_cases hi : i < l.length
    · have hs := hl _ (List.getElem_mem hi)
      rw [if_pos (by simpa using hi), bind_at hi, May_eq _ hs.1.2 hs.2.2.1.2, decide_eq_true (hm _ (List.getElem_mem hi))]
      exact ih _ (by omega) (by omega)
    · rw [if_neg (by simpa using hi)]
theorem siteF_no (l : List Store) (hl : ∀ x ∈ l, StoreFits x) (k2 : Int → Option (Answer × Int)) (k : Option (Answer × Int)) : ∀ n i, l.length < n + i → i ≤ l.length → (∃ m, i ≤ m ∧ ∃ h : m < l.length, ¬ May l[m]) → part_Force_L1 l k2 k n i = k2 9 := by
  intro n
  induction n with
  | zero => intro i h1 h2; omega
  | succ n ih =>
    rintro i h1 h2 ⟨m, g1, g2, g3⟩
    have hi : i < l.length := by omega
    rw [part_Force_L1, if_pos (by simpa using hi), bind_at hi, check_eq _ (hl _ (List.getElem_mem hi)).1.2]
    by_cases hm : May l[i]
    · rw [if_pos hm]
      have : m ≠ i := fun e => by subst e; exact g3 hm
      exact ih _ (by omega) (by omega) ⟨m, by omega, g2, g3⟩
    · rw [if_neg hm]; rfl
theorem siteR_no (l : List Store) (hl : ∀ x ∈ l, StoreFits x) (k : Option Int) : ∀ n i, l.length < n + i → i ≤ l.length → (∃ m, i ≤ m ∧ ∃ h : m < l.length, ¬ May l[m]) → reredosref_siteFault_L1 l k n i = some 9 := by
  intro n
  induction n with
  | zero => intro i h1 h2; omega
  | succ n ih =>
    rintro i h1 h2 ⟨m, g1, g2, g3⟩
    have hi : i < l.length := by omega
    have hs := hl _ (List.getElem_mem hi)
    rw [reredosref_siteFault_L1, if_pos (by simpa using hi), bind_at hi, May_eq _ hs.1.2 hs.2.2.1.2]
    by_cases hm : May l[i]
    · rw [decide_eq_true hm]
      have : m ≠ i := fun e => by subst e; exact g3 hm
      exact ih _ (by omega) (by omega) ⟨m, by omega, g2, g3⟩
    · rw [decide_eq_false hm]; rfl
theorem endS_fits {s : Store} (h : StoreFits s) (hm : May s) (t : Txn) (y : Bool) : StoreFits (endS s t y) := by
  have h1 := kitems_len (endItems_k (t := t) (y := y) hm.1.k (lock_keys hm))
  have h2 := over_len s hm
  refine ⟨fits24 (by show (endItems t y s.Locks s.Items).length ≤ 1000; omega), fits_le h.2.1 (List.length_filter_le ..), fits_le h.2.2.1 (List.length_filter_le ..), ?_⟩
  show fits 16 (if t ∈ s.Over then s.Over else s.Over ++ [t]).length
  split
  · exact h.2.2.2
  · rw [List.length_append, List.length_singleton]; unfold fits maxLen; omega
theorem force_same (c : Config) (hl : c.Labels.length ≤ maxLen) (p me : Int) (l : List Store) (ns : List Note) (hns : fits 24 ns.length) (t : Txn) (y : Bool) (hf : ∀ x ∈ l, StoreFits x) : ∃ r, part_Force c p me l ns t y = some r ∧ reredosref_ForcedOf c p me l ns t y = some r := by
  obtain ⟨e, he, hb⟩ := fault_total c
  simp only [part_Force, reredosref_ForcedOf, reredosref_siteFault, label_same c, he, Option.bind_some, withK, labelMay_eq c _ hl, In_eq]
  by_cases h0 : e = 0
  case neg =>
    have h1 : (e != 0) = true := by simpa using h0
    simp only [h1, if_true, Option.bind_some]
    exact ⟨_, rfl, rfl⟩
  obtain ⟨hs, _⟩ := hb h0
  subst h0
  rw [wrap_in (n := c.Sites - 1) (by omega) (by omega)]
  simp only [bne_self_eq_false, Bool.false_eq_true, if_false]
  by_cases a1 : p < 0
  · have : ¬ (0 ≤ p ∧ p < (c.Labels.length : Int)) := by omega
    simp only [decide_eq_true a1, decide_eq_false this, Bool.not_true, Bool.not_false, Bool.false_eq_true, if_false, if_true, Option.bind_some, Int.reduceBNe]
    exact ⟨_, rfl, rfl⟩
  by_cases a2 : p ≥ (c.Labels.length : Int)
  · have : ¬ (0 ≤ p ∧ p < (c.Labels.length : Int)) := by omega
    simp only [decide_eq_false a1, decide_eq_true a2, decide_eq_false this, Bool.not_true, Bool.not_false, Bool.false_eq_true, if_false, if_true, Option.bind_some, Int.reduceBNe]
    exact ⟨_, rfl, rfl⟩
  have a3 : 0 ≤ p ∧ p < (c.Labels.length : Int) := by omega
  by_cases b1 : me < 0
  · have : ¬ (0 ≤ me ∧ me ≤ c.Sites - 1) := by omega
    simp only [decide_eq_false a1, decide_eq_false a2, decide_eq_true a3, decide_eq_true b1, decide_eq_false this, Bool.not_true, Bool.not_false, Bool.false_eq_true, if_false, if_true, Option.bind_some, Int.reduceBNe]
    exact ⟨_, rfl, rfl⟩
  by_cases b2 : me ≥ c.Sites
  · have : ¬ (0 ≤ me ∧ me ≤ c.Sites - 1) := by omega
    simp only [decide_eq_false a1, decide_eq_false a2, decide_eq_true a3, decide_eq_false b1, decide_eq_true b2, decide_eq_false this, Bool.not_true, Bool.not_false, Bool.false_eq_true, if_false, if_true, Option.bind_some, Int.reduceBNe]
    exact ⟨_, rfl, rfl⟩
  have b3 : 0 ≤ me ∧ me ≤ c.Sites - 1 := by omega
  simp only [decide_eq_false a1, decide_eq_false a2, decide_eq_true a3, decide_eq_false b1, decide_eq_false b2, decide_eq_true b3, Bool.not_true, Bool.false_eq_true, if_false]
  by_cases hn : ((l.length : Nat) : Int) = (c.Labels.length : Int)
  case neg =>
    have h1 : (((l.length : Nat) : Int) != (c.Labels.length : Int)) = true := by simpa using hn
    simp only [h1, if_true, Option.bind_some]
    exact ⟨_, rfl, rfl⟩
  have h1 : (((l.length : Nat) : Int) != (c.Labels.length : Int)) = false := by simpa using hn
  simp only [h1, Bool.false_eq_true, if_false]
  have hp : p.toNat < l.length := by omega
  by_cases hm : ∀ x ∈ l, May x
  case neg =>
    have hx : ∃ m, 0 ≤ m ∧ ∃ h : m < l.length, ¬ May l[m] := by
      simp only [Classical.not_forall] at hm
      obtain ⟨x, hx, hx2⟩ := hm
      obtain ⟨m, h, rfl⟩ := List.mem_iff_getElem.1 hx
      exact ⟨m, by omega, h, hx2⟩
    rw [siteF_no l hf _ _ _ _ (by omega) (by omega) hx, siteR_no l hf _ _ _ (by omega) (by omega) hx]
    exact ⟨_, rfl, rfl⟩
  rw [siteF_ok l hf hm _ _ _ _ (by omega) (by omega), siteR_ok l hf hm _ _ _ (by omega) (by omega)]
  simp only [Option.bind_some, bne_self_eq_false, Bool.false_eq_true, if_false, if_pos a3.1, bind_at hp]
  have hfs := hf _ (List.getElem_mem hp)
  have hms := hm _ (List.getElem_mem hp)
  generalize l[p.toNat] = s at hfs hms
  have g1 : s.Items.length ≤ maxLen := hfs.1.2
  have g2 : s.Doubts.length ≤ maxLen := hfs.2.2.1.2
  simp only [Writes_eq s t g1 g2, WritesOf_eq s t g1 g2, End_eq s t y hfs, EndOf_eq s t y hfs, if_pos hms, Option.bind_some]
  by_cases ht : txnR t
  case neg => simp [ht]
  simp only [if_pos ht, bne_self_eq_false, Bool.false_eq_true, if_false, beq_self_eq_true, if_true]
  by_cases hw : writesN s t = 0
  · simp [hw]
  have hw' : ((writesN s t : Int) == 0) = false := by simpa using hw
  simp only [hw', bne_self_eq_false, Bool.false_eq_true, if_false, beq_self_eq_true, if_true]
  by_cases hl2 : ((ns.length : Nat) : Int) ≥ 60
  · simp [hl2]
  have f24 : fits 24 (ns.length + 1) := fits24 (by omega)
  simp only [decide_eq_false hl2, bne_self_eq_false, Bool.false_eq_true, if_false, cloneF, if_pos hns, NotesCopy_eq ns hns, Option.bind_some, if_pos f24]
  have ho : ∀ m r nn, part_own (Answer.mk (endS s t y) m r []) nn = some (Answer.mk (endS s t y) m r nn) := fun m r nn => own_answer (Answer.mk (endS s t y) m r []) (endS_fits hfs hms t y) nn
  simp only [ho, Option.bind_some]
  exact ⟨_, rfl, rfl⟩

end Go.V.Dec
