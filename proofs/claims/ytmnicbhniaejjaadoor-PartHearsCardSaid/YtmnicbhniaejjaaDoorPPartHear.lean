/- Plain laws (PartHear): no program, no memory; conditions as stated. -/
import Derived.Test.YtmnicbhniaejjaaDoorF4
import Derived.Test.YtmnicbhniaejjaaDoorPStoreEnd
import Derived.Test.YtmnicbhniaejjaaDoorPStoreRead
import Derived.Test.YtmnicbhniaejjaaDoorPStorePeek
import Derived.Test.YtmnicbhniaejjaaDoorPStillSame
import Derived.Test.YtmnicbhniaejjaaDoorPStoreWrite
import Derived.Test.YtmnicbhniaejjaaDoorPWireMsg
set_option linter.unusedVariables false
set_option linter.unusedSimpArgs false
namespace Go.V.Dec
open Go Go.Proofs Classical
set_option maxRecDepth 100000
set_option maxHeartbeats 4000000
variable (G : Nat → Option (List D))
noncomputable def writesN (s : Store) (t : Txn) : Nat := (s.Locks.filter fun x => decide (x.Txn = t) && x.Write).length
theorem writesOf_loop (s : Store) (t : Txn) (hl : s.Locks.length ≤ 24) (k : Int → Option (Int × Int)) : ∀ n (a i : Nat), s.Locks.length < n + i → i ≤ s.Locks.length → a ≤ i →
    reredosref_WritesOf_L1 s t k n (a : Int) i = k ((a + ((s.Locks.drop i).filter fun x => decide (x.Txn = t) && x.Write).length : Nat) : Int) := by
  intro n
  induction n with
  | zero => intro a i h1 h2; omega
  | succ n ih =>
    intro a i h1 h2 h3
    rw [reredosref_WritesOf_L1]
    by_cases hi : i < s.Locks.length
    · rw [if_pos (by simpa using hi), bind_at hi]
      simp only [withK]
      have hd : s.Locks.drop i = s.Locks[i] :: s.Locks.drop (i + 1) := List.drop_eq_getElem_cons hi
      rw [hd, List.filter_cons]
      by_cases ht : s.Locks[i].Txn = t
      · rw [if_pos (txn_eq.2 ht)]
        cases hw : s.Locks[i].Write with
        | true =>
          simp only [if_true, ht, decide_true, Bool.true_and, hw]
          rw [wrap_succ_nat (by simp only [maxLen]; omega), ih (a + 1) (i + 1) (by omega) (by omega) (by omega)]
          simp only [List.length_cons]; congr 2; omega
        | false =>
          simp only [Bool.false_eq_true, if_false, hw, Bool.and_false]
          rw [ih a (i + 1) (by omega) (by omega) (by omega)]
      · rw [if_neg (fun h => ht (txn_eq.1 h))]
        simp only [ht, decide_false, Bool.false_and, Bool.false_eq_true, if_false]
        rw [ih a (i + 1) (by omega) (by omega) (by omega)]
    · rw [if_neg (by simpa using hi), List.drop_eq_nil_of_le (by omega)]
      rfl
theorem WritesOf_eq (s : Store) (t : Txn) (h1 : s.Items.length ≤ maxLen) (h2 : s.Doubts.length ≤ maxLen) :
    reredosref_WritesOf s t = some (if May s then (if txnR t then ((writesN s t : Int), 0) else (0, 2)) else (0, 9)) := by
  simp only [reredosref_WritesOf, askFault_eq s t 0 h1 h2, Option.bind_some, withK]
  by_cases hm : May s
  case neg => simp [hm]
  by_cases ht : txnR t
  case neg => simp [hm, ht]
  have hl : s.Locks.length ≤ 24 := hm.2.2.2.2
  have e : txnR t ∧ (0 : Int) ≤ 0 ∧ (0 : Int) < 8 := ⟨ht, by omega, by omega⟩
  rw [if_pos hm, if_pos e, if_pos hm, if_pos ht]
  have := writesOf_loop s t hl (fun b => some (b, 0)) (s.Locks.length + 1) 0 0 (by omega) (by omega) (by omega)
  simp only [bne_self_eq_false, Bool.false_eq_true, if_false]
  refine Eq.trans this ?_
  simp [writesN]

theorem writes_loop (s : Store) (t : Txn) (hl : s.Locks.length ≤ 24) (k : Int → Option (Int × Int)) : ∀ n (a i : Nat), s.Locks.length < n + i → i ≤ s.Locks.length → a ≤ i →
    store_Writes_L1 s t k n (a : Int) i = k ((a + ((s.Locks.drop i).filter fun x => decide (x.Txn = t) && x.Write).length : Nat) : Int) := by
  intro n
  induction n with
  | zero => intro a i h1 h2; omega
  | succ n ih =>
    intro a i h1 h2 h3
    rw [store_Writes_L1]
    by_cases hi : i < s.Locks.length
    · rw [if_pos (by simpa using hi), bind_at hi]
      simp only [withK]
      have hd : s.Locks.drop i = s.Locks[i] :: s.Locks.drop (i + 1) := List.drop_eq_getElem_cons hi
      rw [hd, List.filter_cons]
      by_cases ht : s.Locks[i].Txn = t
      · rw [if_pos (txn_eq.2 ht)]
        cases hw : s.Locks[i].Write with
        | true =>
          simp only [if_true, ht, decide_true, Bool.true_and, hw]
          rw [wrap_succ_nat (by simp only [maxLen]; omega), ih (a + 1) (i + 1) (by omega) (by omega) (by omega)]
          simp only [List.length_cons]; congr 2; omega
        | false =>
          simp only [Bool.false_eq_true, if_false, hw, Bool.and_false]
          rw [ih a (i + 1) (by omega) (by omega) (by omega)]
      · rw [if_neg (fun h => ht (txn_eq.1 h))]
        simp only [ht, decide_false, Bool.false_and, Bool.false_eq_true, if_false]
        rw [ih a (i + 1) (by omega) (by omega) (by omega)]
    · rw [if_neg (by simpa using hi), List.drop_eq_nil_of_le (by omega)]
      rfl
theorem Writes_eq (s : Store) (t : Txn) (h1 : s.Items.length ≤ maxLen) (h2 : s.Doubts.length ≤ maxLen) :
    store_Writes s t = some (if May s then (if txnR t then ((writesN s t : Int), 0) else (0, 2)) else (0, 9)) := by
  simp only [store_Writes, call_eq s t 0 h1, Option.bind_some, withK]
  by_cases hm : May s
  case neg => simp [hm]
  by_cases ht : txnR t
  case neg => simp [hm, ht]
  have hl : s.Locks.length ≤ 24 := hm.2.2.2.2
  have e : txnR t ∧ (0 : Int) ≤ 0 ∧ (0 : Int) < 8 := ⟨ht, by omega, by omega⟩
  rw [if_pos hm, if_pos e, if_pos hm, if_pos ht]
  have := writes_loop s t hl (fun b => some (b, 0)) (s.Locks.length + 1) 0 0 (by omega) (by omega) (by omega)
  simp only [bne_self_eq_false, Bool.false_eq_true, if_false]
  refine Eq.trans this ?_
  simp [writesN]

theorem own_answer (a : Answer) (h : StoreFits a.Store) (l : List Note) : part_own a l = some (Answer.mk a.Store a.Messages a.Records l) := by
  simp only [part_own, cloneF, if_pos h.1, if_pos h.2.1, if_pos h.2.2.1, if_pos h.2.2.2, Option.bind_some]
theorem sameIntsR (l : List Int) : reredoslaw_sameInts l l = some true := by
  simp only [reredoslaw_sameInts, withK, bne_self_eq_false, Bool.false_eq_true, if_false]
  exact true_loop (L := reredoslaw_sameInts_L1 l l _) (len := l.length) (fun n i hi => by rw [reredoslaw_sameInts_L1, if_neg (by simpa using hi)]) (fun n i hi => by rw [reredoslaw_sameInts_L1, if_pos (by simpa using hi), bind_at hi, bind_at hi, if_neg (by simp)]) _ 0 (by omega) (by omega)
theorem sameMsgsR (l : List Message) : reredoslaw_sameMessages l l = some true := by
  simp only [reredoslaw_sameMessages, withK, bne_self_eq_false, Bool.false_eq_true, if_false]
  exact true_loop (L := reredoslaw_sameMessages_L1 l l _) (len := l.length) (fun n i hi => by rw [reredoslaw_sameMessages_L1, if_neg (by simpa using hi)]) (fun n i hi => by rw [reredoslaw_sameMessages_L1, if_pos (by simpa using hi), bind_at hi, bind_at hi, if_neg (by simp)]) _ 0 (by omega) (by omega)
theorem sameRecR (r : Record) : reredoslaw_sameRecord r r = some true := by
  simp [reredoslaw_sameRecord, withK, sameIntsR]
theorem sameRecsR (l : List Record) : reredoslaw_sameRecords l l = some true := by
  simp only [reredoslaw_sameRecords, withK, bne_self_eq_false, Bool.false_eq_true, if_false]
  exact true_loop (L := reredoslaw_sameRecords_L1 l l _) (len := l.length) (fun n i hi => by rw [reredoslaw_sameRecords_L1, if_neg (by simpa using hi)]) (fun n i hi => by rw [reredoslaw_sameRecords_L1, if_pos (by simpa using hi), bind_at hi, bind_at hi]; simp [sameRecR]) _ 0 (by omega) (by omega)
theorem sameNotesR (l : List Note) : reredoslaw_sameNotes l l = some true := by
  simp only [reredoslaw_sameNotes, withK, bne_self_eq_false, Bool.false_eq_true, if_false]
  exact true_loop (L := reredoslaw_sameNotes_L1 l l _) (len := l.length) (fun n i hi => by rw [reredoslaw_sameNotes_L1, if_neg (by simpa using hi)]) (fun n i hi => by rw [reredoslaw_sameNotes_L1, if_pos (by simpa using hi), bind_at hi, bind_at hi, if_neg (by simp)]) _ 0 (by omega) (by omega)
theorem sameAnsR (a : Answer) : reredoslaw_sameAnswer a a = some true := by
  simp [reredoslaw_sameAnswer, withK, sameStore_refl, sameMsgsR, sameRecsR, sameNotesR]
theorem NotesCopy_eq (l : List Note) (h : fits 24 l.length) : reredosref_NotesCopy l = some l := by
  simp only [reredosref_NotesCopy, withK]
  refine (copy_loop h (L := reredosref_NotesCopy_L1 l (fun b => some b)) (k := fun b => some b) (fun n i acc hi => by rw [reredosref_NotesCopy_L1, if_neg (by simpa using hi)]) (fun n i acc hi hf => by rw [reredosref_NotesCopy_L1, if_pos (by simpa using hi), bind_at hi, if_pos hf]) (l.length + 1) 0 [] (by omega) rfl (by omega)).trans ?_
  simp

theorem siteR_ok (l : List Store) (hl : ∀ x ∈ l, StoreFits x) (hm : ∀ x ∈ l, May x) (k : Option Int) : ∀ n i, l.length < n + i → i ≤ l.length → reredosref_siteFault_L1 l k n i = k := by
  intro n
  induction n with
  | zero => intro i h1 h2; omega
  | succ n ih =>
    intro i h1 h2
    rw [reredosref_siteFault_L1]
    by_cases hi : i < l.length
    · have hs := hl _ (List.getElem_mem hi)
      rw [if_pos (by simpa using hi), bind_at hi, May_eq _ hs.1.2 hs.2.2.1.2, decide_eq_true (hm _ (List.getElem_mem hi))]
      exact ih _ (by omega) (by omega)
    · rw [if_neg (by simpa using hi)]
theorem siteR_no (l : List Store) (hl : ∀ x ∈ l, StoreFits x) (k : Option Int) : ∀ n i, l.length < n + i → i ≤ l.length → (∃ m, i ≤ m ∧ ∃ h : m < l.length, ¬ May l[m]) → reredosref_siteFault_L1 l k n i = some 9 := by
  intro n
  induction n with
  | zero => intro i h1 h2; omega
  | succ n ih =>
    rintro i h1 h2 ⟨m, g1, g2, g3⟩
    have hi : i < l.length := by omega
    have hs := hl _ (List.getElem_mem hi)
    rw [reredosref_siteFault_L1, if_pos (by simpa using hi), bind_at hi, May_eq _ hs.1.2 hs.2.2.1.2]
    by_cases hm : May l[i]
    · rw [decide_eq_true hm]
      have : m ≠ i := fun e => by subst e; exact g3 hm
      exact ih _ (by omega) (by omega) ⟨m, by omega, g2, g3⟩
    · rw [decide_eq_false hm]; rfl
theorem endS_fits {s : Store} (h : StoreFits s) (hm : May s) (t : Txn) (y : Bool) : StoreFits (endS s t y) := by
  have h1 := kitems_len (endItems_k (t := t) (y := y) hm.1.k (lock_keys hm))
  have h2 := over_len s hm
  refine ⟨fits24 (by show (endItems t y s.Locks s.Items).length ≤ 1000; omega), fits_le h.2.1 (List.length_filter_le ..), fits_le h.2.2.1 (List.length_filter_le ..), ?_⟩
  show fits 16 (if t ∈ s.Over then s.Over else s.Over ++ [t]).length
  split
  · exact h.2.2.2
  · rw [List.length_append, List.length_singleton]; unfold fits maxLen; omega

theorem empty_fits : StoreFits ⟨[], [], [], []⟩ := ⟨⟨by simp, by simp⟩, ⟨by simp, by simp⟩, ⟨by simp, by simp⟩, ⟨by simp, by simp⟩⟩
theorem read_fits (s : Store) (t : Txn) (k : Int) (hf : StoreFits s) : store_Read s t k = reredosref_ReadOf s t k ∧ ∃ r, reredosref_ReadOf s t k = some r ∧ StoreFits r.1 ∧ (¬ r.2.2.2 = 0 → r.2.1 = 0 ∧ r.2.2.1 = 0) := by
  have hE := empty_fits
  have h1 : s.Items.length ≤ maxLen := hf.1.2
  have h2 : s.Doubts.length ≤ maxLen := hf.2.2.1.2
  simp only [store_Read, reredosref_ReadOf, call_eq s t k h1, askFault_eq s t k h1 h2, lock_same, contains_Txn, isOver_eq, busy_eq, own_eq s hf, copy_eq s hf, withK, Option.bind_some, doubted_eq]
  by_cases hm : May s
  case neg => simp [hm, hE]
  by_cases ht : txnR t ∧ 0 ≤ k ∧ k < 8
  case neg => simp [hm, ht, hE]
  obtain ⟨m, n, e1, e2⟩ := others_eq s t k hm.2.2.2.2
  obtain ⟨w, e3, e4⟩ := lock_total s t k
  obtain ⟨e5, x, e6⟩ := item_same s hm.1 k
  obtain ⟨d, e8, e9⟩ := doubtOf_val s t
  have e11 : ((s.Locks.length : Int) == 24) = decide ((s.Locks.length : Int) ≥ 24) := by
    have := hm.2.2.2.2
    rw [Bool.eq_iff_iff]; simp; omega
  have f1 : fits 24 (s.Doubts.length + 1) := by
    have := doubts_len s hm
    have := hf.2.2.1
    unfold fits maxLen at *; omega
  have f2 : fits 48 (s.Locks.length + 1) := by
    have := hm.2.2.2.2
    unfold fits maxLen at *; omega
  have hS : StoreFits ⟨s.Items, s.Locks, s.Doubts, s.Over⟩ := hf
  have hL : ∀ x, StoreFits ⟨s.Items, s.Locks ++ [x], s.Doubts, s.Over⟩ := fun x => ⟨hf.1, by simpa using f2, hf.2.2⟩
  have hLD : ∀ x y, StoreFits ⟨s.Items, s.Locks ++ [x], s.Doubts ++ [y], s.Over⟩ := fun x y => ⟨hf.1, by simpa using f2, by simpa using f1, hf.2.2.2⟩
  have hD : ∀ y, StoreFits ⟨s.Items, s.Locks, s.Doubts ++ [y], s.Over⟩ := fun y => ⟨hf.1, hf.2.1, by simpa using f1, hf.2.2.2⟩
  have hX : ∀ j x, StoreFits ⟨s.Items, s.Locks.set j x, s.Doubts, s.Over⟩ := fun j x => ⟨hf.1, by simpa using hf.2.1, hf.2.2⟩
  have hXD : ∀ j x y, StoreFits ⟨s.Items, s.Locks.set j x, s.Doubts ++ [y], s.Over⟩ := fun j x y => ⟨hf.1, by simpa using hf.2.1, by simpa using f1, hf.2.2.2⟩
  have hd : ∀ I L O, hasDoubt (Store.mk I L s.Doubts O) t ↔ hasDoubt s t := fun I L O => Iff.rfl
  simp only [if_pos hm, if_pos ht, e1, e2, e3, e5, e6, e8, e9, e11, if_pos f1, if_pos f2, hd, Option.bind_some]
  rcases e4 with ⟨rfl, e4⟩ | ⟨j, y, rfl, e4, _, _⟩
  · generalize decide (t ∈ s.Over) = q1
    generalize decide (∃ x, x ∈ s.Locks ∧ busyQ t k x = true) = q2
    generalize decide ((s.Locks.length : Int) ≥ 24) = q3
    generalize decide (hasDoubt s t) = q5
    cases q1 <;> cases q2 <;> cases q3 <;> cases q5 <;> simp [hE, hS, hL, hLD, hD, hX, hXD, hf]
  · have g : ¬ ((j : Int) < 0) := by omega
    have g' : (j : Int) ≥ 0 := by omega
    simp only [Int.toNat_natCast, e4, Option.bind_some, decide_eq_false g, decide_eq_true g', if_pos g']
    cases y.Write <;> simp [hE, hS, hL, hLD, hD, hX, hXD, hf]
theorem write_fits (s : Store) (t : Txn) (k v a : Int) (hf : StoreFits s) : store_Write s t k v a = reredosref_WriteOf s t k v a ∧ ∃ r, reredosref_WriteOf s t k v a = some r ∧ StoreFits r.1 := by
  have hE := empty_fits
  have h1 : s.Items.length ≤ maxLen := hf.1.2
  have h2 : s.Doubts.length ≤ maxLen := hf.2.2.1.2
  simp only [store_Write, reredosref_WriteOf, call_eq s t k h1, askFault_eq s t k h1 h2, In_eq, lock_same, contains_Txn, isOver_eq, busyAll_eq, own_eq s hf, copy_eq s hf, withK, Option.bind_some, doubted_eq]
  by_cases hm : May s
  case neg => simp [hm, hE]
  by_cases ht : txnR t ∧ 0 ≤ k ∧ k < 8
  case neg => simp [hm, ht, hE]
  by_cases b1 : v < 0
  · have : ¬ (0 ≤ v ∧ v ≤ 1073741824) := by omega
    simp [hm, ht, b1, this, hE]
  by_cases b2 : v > 1073741824
  · have : ¬ (0 ≤ v ∧ v ≤ 1073741824) := by omega
    simp [hm, ht, b1, b2, this, hE]
  have b3 : (0 ≤ v ∧ v ≤ 1073741824) := by omega
  by_cases c1 : a < 0
  · have : ¬ (0 ≤ a ∧ a ≤ 1048576) := by omega
    simp [hm, ht, b1, b2, b3, c1, this, hE]
  by_cases c2 : a > 1048576
  · have : ¬ (0 ≤ a ∧ a ≤ 1048576) := by omega
    simp [hm, ht, b1, b2, b3, c1, c2, this, hE]
  have c3 : (0 ≤ a ∧ a ≤ 1048576) := by omega
  obtain ⟨m, n, e1, e2⟩ := held_eq s t k hm.2.2.2.2
  obtain ⟨w, e3, e4⟩ := lock_total s t k
  obtain ⟨e5, _⟩ := item_same s hm.1 k
  obtain ⟨x, e6, e7⟩ := item_small s hm.1 k
  obtain ⟨d, e8, e9⟩ := doubtOf_val s t
  have e10 : (x.Version == 1048576) = decide (x.Version ≥ 1048576) := by
    rw [Bool.eq_iff_iff]; simp; omega
  have e11 : ((s.Locks.length : Int) == 24) = decide ((s.Locks.length : Int) ≥ 24) := by
    have := hm.2.2.2.2
    rw [Bool.eq_iff_iff]; simp; omega
  have f1 : fits 24 (s.Doubts.length + 1) := by
    have := doubts_len s hm
    have := hf.2.2.1
    unfold fits maxLen at *; omega
  have f2 : fits 48 (s.Locks.length + 1) := by
    have := hm.2.2.2.2
    unfold fits maxLen at *; omega
  have hS : StoreFits ⟨s.Items, s.Locks, s.Doubts, s.Over⟩ := hf
  have hL : ∀ x, StoreFits ⟨s.Items, s.Locks ++ [x], s.Doubts, s.Over⟩ := fun x => ⟨hf.1, by simpa using f2, hf.2.2⟩
  have hLD : ∀ x y, StoreFits ⟨s.Items, s.Locks ++ [x], s.Doubts ++ [y], s.Over⟩ := fun x y => ⟨hf.1, by simpa using f2, by simpa using f1, hf.2.2.2⟩
  have hD : ∀ y, StoreFits ⟨s.Items, s.Locks, s.Doubts ++ [y], s.Over⟩ := fun y => ⟨hf.1, hf.2.1, by simpa using f1, hf.2.2.2⟩
  have hX : ∀ j x, StoreFits ⟨s.Items, s.Locks.set j x, s.Doubts, s.Over⟩ := fun j x => ⟨hf.1, by simpa using hf.2.1, hf.2.2⟩
  have hXD : ∀ j x y, StoreFits ⟨s.Items, s.Locks.set j x, s.Doubts ++ [y], s.Over⟩ := fun j x y => ⟨hf.1, by simpa using hf.2.1, by simpa using f1, hf.2.2.2⟩
  have hd : ∀ I L O, hasDoubt (Store.mk I L s.Doubts O) t ↔ hasDoubt s t := fun I L O => Iff.rfl
  simp only [decide_eq_false b1, decide_eq_false b2, decide_eq_true b3, decide_eq_false c1, decide_eq_false c2, decide_eq_true c3, if_pos hm, if_pos ht, e1, e2, e3, e5, e6, e8, e9, e10, e11, if_pos f1, if_pos f2, hd, Option.bind_some]
  have hb : ∀ b : Bool, (!b) = true ↔ b = false := by intro b; cases b <;> simp [hE, hS, hL, hLD, hD, hX, hXD, hf]
  rcases e4 with ⟨rfl, e4⟩ | ⟨j, y, rfl, e4, _, _⟩
  · have g : (s.Locks ++ [Lock.mk (Txn.mk 0 0) 0 false 0 0])[s.Locks.length]? = some (Lock.mk (Txn.mk 0 0) 0 false 0 0) := by simp
    have g2 : (s.Locks ++ [Lock.mk (Txn.mk 0 0) 0 false 0 0]).set s.Locks.length (Lock.mk t k true v a) = s.Locks ++ [Lock.mk t k true v a] := by simp
    simp only [g, g2, Option.bind_some]
    generalize decide (t ∈ s.Over) = q1
    generalize decide (∃ x, x ∈ s.Locks ∧ heldQ t k x = true) = q2
    generalize decide ((s.Locks.length : Int) ≥ 24) = q3
    generalize decide (x.Version ≥ 1048576) = q4
    generalize decide (hasDoubt s t) = q5
    cases q1 <;> cases q2 <;> cases q3 <;> cases q4 <;> cases q5 <;> simp [hE, hS, hL, hLD, hD, hX, hXD, hf]
  · simp only [Int.toNat_natCast, e4, Option.bind_some]
    generalize decide (t ∈ s.Over) = q1
    generalize decide (∃ x, x ∈ s.Locks ∧ heldQ t k x = true) = q2
    generalize decide (y.Ask > a) = q3
    generalize decide (x.Version ≥ 1048576) = q4
    generalize decide (hasDoubt s t) = q5
    have g : ¬ ((j : Int) < 0) := by omega
    have g' : (j : Int) ≥ 0 := by omega
    simp only [decide_eq_false g, decide_eq_true g', if_pos g']
    cases q1 <;> cases q2 <;> cases q3 <;> cases q4 <;> cases q5 <;> simp [hE, hS, hL, hLD, hD, hX, hXD, hf]
theorem peek_zero (s : Store) (k : Int) {r : Int × Int × Int} (h : reredosref_PeekOf s k = some r) : ¬ r.2.2 = 0 → r.1 = 0 ∧ r.2.1 = 0 := by
  intro hz
  simp only [reredosref_PeekOf] at h
  obtain ⟨v1, _, h⟩ := Option.bind_eq_some_iff.1 h
  split at h
  · obtain rfl := Option.some.inj h; exact ⟨rfl, rfl⟩
  obtain ⟨v3, _, h⟩ := Option.bind_eq_some_iff.1 h
  split at h
  · obtain rfl := Option.some.inj h; exact ⟨rfl, rfl⟩
  obtain ⟨v5, _, h⟩ := Option.bind_eq_some_iff.1 h
  obtain ⟨v6, _, h⟩ := Option.bind_eq_some_iff.1 h
  obtain rfl := Option.some.inj h
  exact absurd rfl hz

def hit (m : Message) (x : Note) : Bool := ((x.Txn.Site == m.Txn.Site) && (x.Txn.N == m.Txn.N)) && !(x.Yes == m.Yes)
def dmg (m : Message) (x : Note) : Note := if hit m x = true then ⟨x.Txn, x.Yes, true⟩ else x
theorem set_self {α : Type} {l : List α} {i : Nat} (h : i < l.length) : l.set i l[i] = l := by
  apply List.ext_getElem
  · simp
  · intro j h1 h2
    rw [List.getElem_set]
    split
    · rename_i e; subst e; rfl
    · rfl
theorem hear_loop (m : Message) (v : List Note) (k : Bool → List Note → Option (Answer × Int)) : ∀ n a i (ns : List Note), ns.length = v.length → v.length < n + i → i ≤ v.length →
    part_Hear_L1 m v k n a i ns = k (a || (ns.drop i).any (fun x => hit m x && !x.Damage)) (ns.take i ++ (ns.drop i).map (dmg m)) := by
  intro n
  induction n with
  | zero => intro a i ns h1 h2 h3; omega
  | succ n ih =>
    intro a i ns h1 h2 h3
    rw [part_Hear_L1]
    by_cases hi : i < v.length
    · have hi' : i < ns.length := by omega
      have hd : ns.drop i = ns[i] :: ns.drop (i + 1) := List.drop_eq_getElem_cons hi'
      have ht : ns.take (i + 1) = ns.take i ++ [ns[i]] := by rw [List.take_add_one, List.getElem?_eq_getElem hi']; rfl
      rw [if_pos (by simpa using hi), bind_at hi', hd, List.any_cons, List.map_cons]
      simp only [withK]
      have stay : ∀ b, dmg m ns[i] = ns[i] → part_Hear_L1 m v k n b (i + 1) ns = k (b || (ns.drop (i + 1)).any (fun x => hit m x && !x.Damage)) (ns.take i ++ dmg m ns[i] :: (ns.drop (i + 1)).map (dmg m)) := by
        intro b e
        rw [ih b (i + 1) ns h1 (by omega) (by omega), ht, e, List.append_assoc, List.singleton_append]
      by_cases e1 : ((ns[i].Txn.Site == m.Txn.Site) && (ns[i].Txn.N == m.Txn.N)) = true
      · rw [if_pos e1]
        by_cases e2 : (!(ns[i].Yes == m.Yes)) = true
        · have hh : hit m ns[i] = true := by unfold hit; rw [e1, e2]; rfl
          rw [if_pos e2]
          cases hdm : ns[i].Damage with
          | false =>
            rw [if_pos (show (!false) = true from rfl), ih true (i + 1) _ (by simpa using h1) (by omega) (by omega), take_set_snoc hi', drop_set_lt (by omega)]
            have : dmg m ns[i] = ⟨ns[i].Txn, ns[i].Yes, true⟩ := by unfold dmg; rw [if_pos hh]
            rw [this, hh]
            simp
          | true =>
            have hs : dmg m ns[i] = ns[i] := by unfold dmg; rw [if_pos hh]; rw [← hdm]
            rw [if_neg (by simp), stay a hs]
            simp
        · have hh : hit m ns[i] = false := by unfold hit; rw [Bool.not_eq_true] at e2; rw [e2]; simp
          rw [if_neg e2, stay a (by unfold dmg; rw [if_neg (by rw [hh]; simp)]), hh]
          simp
      · have hh : hit m ns[i] = false := by unfold hit; rw [Bool.not_eq_true] at e1; rw [e1]; rfl
        rw [if_neg e1, stay a (by unfold dmg; rw [if_neg (by rw [hh]; simp)]), hh]
        simp
    · rw [if_neg (by simpa using hi), List.drop_eq_nil_of_le (by omega), List.take_of_length_le (by omega)]
      simp
theorem heard_loop1 (m : Message) (ns : List Note) (k : Int → Option (Answer × Int)) (hb : ns.length ≤ 1000000000000000) : ∀ n (a i : Nat), ns.length < n + i → i ≤ ns.length → a ≤ 1000 + i →
    reredosref_HeardOf_L1 ns m k n (a : Int) i = k ((a + ((ns.drop i).filter fun x => hit m x && !x.Damage).length : Nat) : Int) := by
  intro n
  induction n with
  | zero => intro a i h1 h2; omega
  | succ n ih =>
    intro a i h1 h2 h3
    rw [reredosref_HeardOf_L1]
    by_cases hi : i < ns.length
    · rw [if_pos (by simpa using hi)]
      simp only [withK]
      rw [bind_at hi, List.drop_eq_getElem_cons hi, List.filter_cons]
      have skip : (hit m ns[i] && !ns[i].Damage) = false → reredosref_HeardOf_L1 ns m k n (a : Int) (i + 1) = k ((a + (if (hit m ns[i] && !ns[i].Damage) = true then ns[i] :: (ns.drop (i + 1)).filter (fun x => hit m x && !x.Damage) else (ns.drop (i + 1)).filter fun x => hit m x && !x.Damage).length : Nat) : Int) := by
        intro e
        rw [ih a (i + 1) (by omega) (by omega) (by omega), e]
        simp
      by_cases e1 : ((ns[i].Txn.Site == m.Txn.Site) && (ns[i].Txn.N == m.Txn.N)) = true
      · rw [if_pos e1]
        by_cases e2 : (!(ns[i].Yes == m.Yes)) = true
        · have hh : hit m ns[i] = true := by unfold hit; rw [e1, e2]; rfl
          rw [if_pos e2]
          cases hdm : ns[i].Damage with
          | false =>
            rw [if_pos (show (!false) = true from rfl), wrap_succ_nat (by simp only [maxLen]; omega), ih (a + 1) (i + 1) (by omega) (by omega) (by omega), hh]
            simp only [Bool.not_false, Bool.and_self, if_true, List.length_cons]
            congr 2; omega
          | true =>
            rw [if_neg (by simp)]
            have := skip (by rw [hdm]; simp)
            rw [hdm] at this
            exact this
        · have hh : hit m ns[i] = false := by unfold hit; rw [Bool.not_eq_true] at e2; rw [e2]; simp
          rw [if_neg e2]; exact skip (by rw [hh]; rfl)
      · have hh : hit m ns[i] = false := by unfold hit; rw [Bool.not_eq_true] at e1; rw [e1]; rfl
        rw [if_neg e1]; exact skip (by rw [hh]; rfl)
    · rw [if_neg (by simpa using hi), List.drop_eq_nil_of_le (by omega)]
      rfl
theorem heard_loop2 (m : Message) (k : List Note → Option (Answer × Int)) : ∀ n i (ns : List Note), ns.length < n + i → i ≤ ns.length →
    reredosref_HeardOf_L2 m k n i ns = k (ns.take i ++ (ns.drop i).map (dmg m)) := by
  intro n
  induction n with
  | zero => intro i ns h1 h2; omega
  | succ n ih =>
    intro i ns h1 h2
    rw [reredosref_HeardOf_L2]
    by_cases hi : i < ns.length
    · have hd : ns.drop i = ns[i] :: ns.drop (i + 1) := List.drop_eq_getElem_cons hi
      have ht : ns.take (i + 1) = ns.take i ++ [ns[i]] := by rw [List.take_add_one, List.getElem?_eq_getElem hi]; rfl
      rw [if_pos (by simpa using hi)]
      simp only [withK]
      rw [bind_at hi, hd, List.map_cons]
      have stay : dmg m ns[i] = ns[i] → reredosref_HeardOf_L2 m k n (i + 1) ns = k (ns.take i ++ dmg m ns[i] :: (ns.drop (i + 1)).map (dmg m)) := by
        intro e
        rw [ih (i + 1) ns (by omega) (by omega), ht, e, List.append_assoc, List.singleton_append]
      by_cases e1 : ((ns[i].Txn.Site == m.Txn.Site) && (ns[i].Txn.N == m.Txn.N)) = true
      · rw [if_pos e1]
        by_cases e2 : (!(ns[i].Yes == m.Yes)) = true
        · have hh : hit m ns[i] = true := by unfold hit; rw [e1, e2]; rfl
          rw [if_pos e2, ih (i + 1) _ (by simp; omega) (by simp; omega), take_set_snoc hi, drop_set_lt (by omega)]
          have : dmg m ns[i] = ⟨ns[i].Txn, ns[i].Yes, true⟩ := by unfold dmg; rw [if_pos hh]
          rw [this]
          simp
        · have hh : hit m ns[i] = false := by unfold hit; rw [Bool.not_eq_true] at e2; rw [e2]; simp
          rw [if_neg e2]; exact stay (by unfold dmg; rw [if_neg (by rw [hh]; simp)])
      · have hh : hit m ns[i] = false := by unfold hit; rw [Bool.not_eq_true] at e1; rw [e1]; rfl
        rw [if_neg e1]; exact stay (by unfold dmg; rw [if_neg (by rw [hh]; simp)])
    · rw [if_neg (by simpa using hi), List.drop_eq_nil_of_le (by omega), List.take_of_length_le (by omega)]
      simp

theorem siteH_ok (q : PartSite) (hl : ∀ x ∈ q.stores, StoreFits x) (hm : ∀ x ∈ q.stores, May x) (k : Option Int) : ∀ n i, q.stores.length < n + i → i ≤ q.stores.length → part_site_check_L1 q k n i = k := by
  intro n
  induction n with
  | zero => intro i h1 h2; omega
  | succ n ih =>
    intro i h1 h2
    rw [part_site_check_L1]
    by_cases hi : i < q.stores.length
    · rw [if_pos (by simpa using hi), bind_at hi, check_eq _ (hl _ (List.getElem_mem hi)).1.2, if_pos (hm _ (List.getElem_mem hi))]
      exact ih _ (by omega) (by omega)
    · rw [if_neg (by simpa using hi)]
theorem siteH_no (q : PartSite) (hl : ∀ x ∈ q.stores, StoreFits x) (k : Option Int) : ∀ n i, q.stores.length < n + i → i ≤ q.stores.length → (∃ m, i ≤ m ∧ ∃ h : m < q.stores.length, ¬ May q.stores[m]) → part_site_check_L1 q k n i = some 9 := by
  intro n
  induction n with
  | zero => intro i h1 h2; omega
  | succ n ih =>
    rintro i h1 h2 ⟨m, g1, g2, g3⟩
    have hi : i < q.stores.length := by omega
    rw [part_site_check_L1, if_pos (by simpa using hi), bind_at hi, check_eq _ (hl _ (List.getElem_mem hi)).1.2]
    by_cases hm : May q.stores[i]
    · rw [if_pos hm]
      have : m ≠ i := fun e => by subst e; exact g3 hm
      exact ih _ (by omega) (by omega) ⟨m, by omega, g2, g3⟩
    · rw [if_neg hm]; rfl
theorem site_same (c : Config) (hl : c.Labels.length ≤ maxLen) (p me : Int) (l : List Store) (hf : ∀ x ∈ l, StoreFits x) : ∃ e, part_site_check (PartSite.mk c p me l) = some e ∧ reredosref_siteFault c p me l = some e ∧ (e = 0 → (0 ≤ p ∧ p < (c.Labels.length : Int)) ∧ l.length = c.Labels.length ∧ ∀ x ∈ l, May x) := by
  obtain ⟨e, he, hb⟩ := fault_total c
  simp only [part_site_check, reredosref_siteFault, label_same c, he, Option.bind_some, withK, labelMay_eq c _ hl, In_eq]
  by_cases h0 : e = 0
  case neg =>
    have h1 : (e != 0) = true := by simpa using h0
    simp only [h1, if_true, Option.bind_some]
    exact ⟨_, rfl, rfl, fun h => absurd h h0⟩
  obtain ⟨hs, _⟩ := hb h0
  subst h0
  rw [wrap_in (n := c.Sites - 1) (by omega) (by omega)]
  simp only [bne_self_eq_false, Bool.false_eq_true, if_false]
  by_cases a1 : p < 0
  · have : ¬ (0 ≤ p ∧ p < (c.Labels.length : Int)) := by omega
    simp [a1, this]
  by_cases a2 : p ≥ (c.Labels.length : Int)
  · have : ¬ (0 ≤ p ∧ p < (c.Labels.length : Int)) := by omega
    simp [a1, a2, this]
  have a3 : 0 ≤ p ∧ p < (c.Labels.length : Int) := by omega
  by_cases b1 : me < 0
  · have : ¬ (0 ≤ me ∧ me ≤ c.Sites - 1) := by omega
    simp [a1, a2, a3, b1, this]
  by_cases b2 : me ≥ c.Sites
  · have : ¬ (0 ≤ me ∧ me ≤ c.Sites - 1) := by omega
    simp [a1, a2, a3, b1, b2, this]
  have b3 : 0 ≤ me ∧ me ≤ c.Sites - 1 := by omega
  simp only [decide_eq_false a1, decide_eq_false a2, decide_eq_true a3, decide_eq_false b1, decide_eq_false b2, decide_eq_true b3, Bool.not_true, Bool.false_eq_true, if_false]
  by_cases hn : ((l.length : Nat) : Int) = (c.Labels.length : Int)
  case neg =>
    have h1 : (((l.length : Nat) : Int) != (c.Labels.length : Int)) = true := by simpa using hn
    simp only [h1, if_true, Option.bind_some]
    exact ⟨_, rfl, rfl, fun h => by cases h⟩
  have h1 : (((l.length : Nat) : Int) != (c.Labels.length : Int)) = false := by simpa using hn
  simp only [h1, Bool.false_eq_true, if_false]
  by_cases hm : ∀ x ∈ l, May x
  case neg =>
    have hx : ∃ m, 0 ≤ m ∧ ∃ h : m < l.length, ¬ May l[m] := by
      simp only [Classical.not_forall] at hm
      obtain ⟨x, hx, hx2⟩ := hm
      obtain ⟨m, h, rfl⟩ := List.mem_iff_getElem.1 hx
      exact ⟨m, by omega, h, hx2⟩
    rw [siteH_no (PartSite.mk c p me l) hf _ _ _ (by simp) (by simp) hx, siteR_no l hf _ _ _ (by omega) (by omega) hx]
    exact ⟨_, rfl, rfl, fun h => by cases h⟩
  rw [siteH_ok (PartSite.mk c p me l) hf hm _ _ _ (by simp) (by simp), siteR_ok l hf hm _ _ _ (by omega) (by omega)]
  exact ⟨_, rfl, rfl, fun _ => ⟨a3, by omega, hm⟩⟩
theorem msg_facts (c : Config) (m : Message) (hl : c.Labels.length ≤ maxLen) (h : reredosref_MessageFault c m = some 0) : (1 ≤ m.Kind ∧ m.Kind ≤ 9) ∧ 0 ≤ m.Label ∧ m.Label < (c.Labels.length : Int) := by
  obtain ⟨e, he, hb⟩ := fault_total c
  simp only [reredosref_MessageFault, he, Option.bind_some] at h
  by_cases h0 : e = 0
  case neg =>
    have h1 : (e != 0) = true := by simpa using h0
    rw [if_pos h1] at h
    exact absurd (Option.some.inj h) h0
  obtain ⟨hs, _⟩ := hb h0
  subst h0
  simp only [txnMay_eq c _ hs, labelMay_eq c _ hl, In_eq, Option.bind_some, bne_self_eq_false, Bool.false_eq_true, if_false] at h
  by_cases hk : 1 ≤ m.Kind ∧ m.Kind ≤ 9
  case neg => simp [hk] at h
  by_cases hlab : 0 ≤ m.Label ∧ m.Label < (c.Labels.length : Int)
  case pos => exact ⟨hk, hlab⟩
  simp only [decide_eq_true hk, decide_eq_false hlab, Bool.not_true, Bool.not_false, Bool.false_eq_true, if_false, if_true] at h
  exfalso
  split at h
  · cases h
  split at h
  · cases h
  split at h
  · cases h
  cases h

def hdom (x y : Label) : Bool := decide (x.Level ≥ y.Level) && (bitOp .i64 (· &&& ·) x.Cats y.Cats == y.Cats)
theorem hdom_eq (x y : Label) : reredosref_Dominates x y = some (hdom x y) := by
  simp only [reredosref_Dominates, withK, hdom]
  cases decide (x.Level ≥ y.Level) <;> simp
theorem habove_eq (x y : Label) : label_Above x y = some (hdom x y) := hdom_eq x y
theorem refusal_eq (e : Int) : part_refusal e = some ((e == 11) || (e == 8)) := by
  simp only [part_refusal, withK]
  cases e == 11 <;> simp
theorem hear_same (c : Config) (hl : c.Labels.length ≤ maxLen) (p me : Int) (l : List Store) (ns : List Note) (hns : fits 24 ns.length) (room : Int) (m : Message) (hf : ∀ x ∈ l, StoreFits x) : ∃ r, part_Hear c p me l ns room m = some r ∧ reredosref_HeardOf c p me l ns room m = some r := by
  obtain ⟨e, e1, e2, e3⟩ := site_same c hl p me l hf
  obtain ⟨q1, q, q2⟩ := msg_same c m hl
  rw [q2] at q1
  unfold part_Hear reredosref_HeardOf
  simp only [e1, e2, q1, q2, Option.bind_some, withK]
  by_cases h0 : e = 0
  case neg =>
    have h1 : (e != 0) = true := by simpa using h0
    have h2 : (e == 0) = false := by simpa using h0
    simp only [h1, h2, if_true, Bool.false_eq_true, if_false]
    exact ⟨_, rfl, rfl⟩
  obtain ⟨a3, hlen, hm⟩ := e3 h0
  subst h0
  simp only [bne_self_eq_false, beq_self_eq_true, if_true, Bool.false_eq_true, if_false]
  by_cases h0 : q = 0
  case neg =>
    have h1 : (q != 0) = true := by simpa using h0
    have h2 : (q == 0) = false := by simpa using h0
    simp only [h1, h2, if_true, Bool.false_eq_true, if_false]
    exact ⟨_, rfl, rfl⟩
  subst h0
  obtain ⟨hk, hlab⟩ := msg_facts c m hl q2
  simp only [bne_self_eq_false, beq_self_eq_true, if_true, Bool.false_eq_true, if_false]
  by_cases hto : m.To = me
  case neg =>
    have h1 : (m.To != me) = true := by simpa using hto
    simp only [h1, if_true, Int.reduceBEq, Int.reduceBNe, Bool.false_eq_true, if_false]
    exact ⟨_, rfl, rfl⟩
  have h1 : (m.To != me) = false := by simpa using hto
  have hpl : p.toNat < l.length := by omega
  have hml : m.Label.toNat < l.length := by omega
  have hpc : p.toNat < c.Labels.length := by omega
  have hmc : m.Label.toNat < c.Labels.length := by omega
  simp only [h1, bne_self_eq_false, beq_self_eq_true, if_true, Bool.false_eq_true, if_false, if_pos a3.1, if_pos hlab.1, bind_at hpl, bind_at hml, bind_at hpc, bind_at hmc, hdom_eq, habove_eq, Option.bind_some]
  have hfx := hf _ (List.getElem_mem hpl)
  have hmx := hm _ (List.getElem_mem hpl)
  have hfy := hf _ (List.getElem_mem hml)
  have hmy := hm _ (List.getElem_mem hml)
  generalize hgx : l[p.toNat] = x at hfx hmx
  generalize hgy : l[m.Label.toNat] = y at hfy hmy
  generalize hdom c.Labels[p.toNat] c.Labels[m.Label.toNat] = dm
  have hown : ∀ (st : Store), StoreFits st → ∀ ms rs nn n2, part_own (Answer.mk ⟨st.Items, st.Locks, st.Doubts, st.Over⟩ ms rs nn) n2 = some (Answer.mk ⟨st.Items, st.Locks, st.Doubts, st.Over⟩ ms rs n2) := fun st hst ms rs nn n2 => own_answer (Answer.mk ⟨st.Items, st.Locks, st.Doubts, st.Over⟩ ms rs nn) hst n2
  have hkk : m.Kind = 1 ∨ m.Kind = 2 ∨ m.Kind = 3 ∨ m.Kind = 4 ∨ 4 < m.Kind := by omega
  rcases hkk with hk1 | hk1 | hk1 | hk1 | hk1
  · have c1 : (m.Kind == 1) = true := by simp [hk1]
    have c5 : ¬ m.Kind > 4 := by omega
    simp only [c1, decide_eq_false c5, Bool.false_eq_true, if_false, if_true, cloneF, if_pos hns, Option.bind_some]
    cases dm with
    | false =>
      simp only [Bool.not_false, if_true, Int.reduceBNe]
      exact ⟨_, rfl, rfl⟩
    | true =>
      simp only [Bool.not_true, Bool.false_eq_true, if_false, bne_self_eq_false, part_site_read, part_site_answer, withK, if_pos a3.1, if_pos hlab.1, hgx, hgy, refusal_eq, copy_eq x hfx, NotesCopy_eq ns hns, Option.bind_some, bind_at hpl, bind_at hml]
      by_cases hlp : m.Label = p
      · have g1 : (m.Label == p) = true := by simpa using hlp
        obtain ⟨r1, ⟨st, val, ver, code⟩, r2, r3, r4⟩ := read_fits x m.Txn m.Key hfx
        rw [r2] at r1
        simp only at r3 r4
        simp only [g1, if_true, r1, r2, Option.bind_some]
        by_cases k0 : code = 0
        · subst k0
          simp [hown _ r3, hown _ hfx]
        · obtain ⟨rfl, rfl⟩ := r4 k0
          by_cases k11 : code = 11
          · subst k11; simp [hown _ r3, hown _ hfx]
          · by_cases k8 : code = 8
            · subst k8; simp [hown _ r3, hown _ hfx]
            · simp [k0, k11, k8, hown _ r3, hown _ hfx]
      · have g1 : (m.Label == p) = false := by simpa using hlp
        obtain ⟨r1, ⟨val, ver, code⟩, r2⟩ := peek_same y m.Key hfy.1.2 hfy.2.2.1.2
        have r4 := peek_zero y m.Key r2
        rw [r2] at r1
        simp only at r4
        simp only [g1, Bool.false_eq_true, if_false, r1, r2, Option.bind_some]
        by_cases k0 : code = 0
        · subst k0
          simp [hown _ hfx]
        · obtain ⟨rfl, rfl⟩ := r4 k0
          by_cases k11 : code = 11
          · subst k11; simp [hown _ hfx]
          · by_cases k8 : code = 8
            · subst k8; simp [hown _ hfx]
            · simp [k0, k11, k8, hown _ hfx]
  · have c1 : (m.Kind == 1) = false := by simp [hk1]
    have c2 : (m.Kind == 2) = true := by simp [hk1]
    have c3 : (m.Kind == 3) = false := by simp [hk1]
    have c5 : ¬ m.Kind > 4 := by omega
    obtain ⟨r1, ⟨st, code⟩, r2, r3⟩ := write_fits x m.Txn m.Key m.Value m.Ask hfx
    rw [r2] at r1
    simp only at r3
    simp only [c1, c2, c3, decide_eq_false c5, Bool.false_eq_true, if_false, if_true, cloneF, if_pos hns, Option.bind_some, bne_self_eq_false, part_site_write, part_site_answer, withK, if_pos a3.1, hgx, refusal_eq, copy_eq x hfx, NotesCopy_eq ns hns, bind_at hpl, r1, r2]
    by_cases hr : room < 500
    · by_cases k0 : code = 0
      · subst k0
        simp [hr, hown _ r3, hown _ hfx]
      · by_cases k11 : code = 11
        · subst k11; simp [hr, hown _ r3, hown _ hfx]
        · by_cases k8 : code = 8
          · subst k8; simp [hr, hown _ r3, hown _ hfx]
          · simp [hr, k0, k11, k8, hown _ r3, hown _ hfx]
    · by_cases k0 : code = 0
      · subst k0
        simp [hr, hown _ r3, hown _ hfx]
      · by_cases k11 : code = 11
        · subst k11; simp [hr, hown _ r3, hown _ hfx]
        · by_cases k8 : code = 8
          · subst k8; simp [hr, hown _ r3, hown _ hfx]
          · simp [hr, k0, k11, k8, hown _ r3, hown _ hfx]
  · have c1 : (m.Kind == 1) = false := by simp [hk1]
    have c2 : (m.Kind == 2) = false := by simp [hk1]
    have c3 : (m.Kind == 3) = true := by simp [hk1]
    have c5 : ¬ m.Kind > 4 := by omega
    simp only [c1, c2, c3, decide_eq_false c5, Bool.false_eq_true, if_false, if_true, cloneF, if_pos hns, Option.bind_some]
    cases dm with
    | false =>
      simp only [Bool.not_false, if_true, Int.reduceBNe]
      exact ⟨_, rfl, rfl⟩
    | true =>
      simp only [Bool.not_true, Bool.false_eq_true, if_false, bne_self_eq_false, part_site_still, part_site_answer, withK, if_pos a3.1, if_pos hlab.1, hgx, hgy, copy_eq x hfx, NotesCopy_eq ns hns, Option.bind_some, bind_at hpl, bind_at hml]
      by_cases hlp : m.Label = p
      · have g1 : (m.Label == p) = true := by simpa using hlp
        obtain ⟨r1, r, r2⟩ := still_same x m.Txn m.Key m.Version hfx.1.2 hfx.2.2.1.2
        rw [r2] at r1
        simp only [g1, if_true, r1, r2, Option.bind_some]
        simp [hown _ hfx]
      · have g1 : (m.Label == p) = false := by simpa using hlp
        obtain ⟨r1, ⟨val, ver, code⟩, r2⟩ := peek_same y m.Key hfy.1.2 hfy.2.2.1.2
        rw [r2] at r1
        simp only [g1, Bool.false_eq_true, if_false, r1, r2, Option.bind_some]
        by_cases k0 : code = 0
        · subst k0; simp [hown _ hfx]
        · simp [k0, hown _ hfx]
  · have c1 : (m.Kind == 1) = false := by simp [hk1]
    have c2 : (m.Kind == 2) = false := by simp [hk1]
    have c3 : (m.Kind == 3) = false := by simp [hk1]
    have c4 : (m.Kind == 4) = true := by simp [hk1]
    have c5 : ¬ m.Kind > 4 := by omega
    have hW : ∃ (n : Nat) (e2 : Int), n ≤ 24 ∧ store_Writes x m.Txn = some ((n : Int), e2) ∧ reredosref_WritesOf x m.Txn = some ((n : Int), e2) := by
      rw [Writes_eq x _ hfx.1.2 hfx.2.2.1.2, WritesOf_eq x _ hfx.1.2 hfx.2.2.1.2, if_pos hmx]
      by_cases ht : txnR m.Txn
      · rw [if_pos ht]
        exact ⟨_, _, Nat.le_trans (List.length_filter_le ..) hmx.2.2.2.2, rfl, rfl⟩
      · rw [if_neg ht]; exact ⟨0, 2, by omega, rfl, rfl⟩
    have hE : ∃ (st : Store) (e2 : Int), StoreFits st ∧ store_End x m.Txn m.Yes = some (st, e2) ∧ reredosref_EndOf x m.Txn m.Yes = some (st, e2) := by
      rw [End_eq x _ _ hfx, EndOf_eq x _ _ hfx, if_pos hmx]
      by_cases ht : txnR m.Txn
      · rw [if_pos ht]; exact ⟨_, _, endS_fits hfx hmx _ _, rfl, rfl⟩
      · rw [if_neg ht]; exact ⟨_, _, empty_fits, rfl, rfl⟩
    obtain ⟨wn, we, w1, w2, w3⟩ := hW
    obtain ⟨st, ee, s1, s2, s3⟩ := hE
    have hb : ns.length ≤ 1000000000000000 := by have := hns.1; omega
    simp only [c1, c2, c3, c4, decide_eq_false c5, Bool.false_eq_true, if_false, if_true, cloneF, if_pos hns, Option.bind_some, bne_self_eq_false, part_site_answer, if_pos a3.1, hgx, copy_eq x hfx, NotesCopy_eq ns hns, bind_at hpl, w2, w3, s2, s3]
    rw [hear_loop m ns _ _ _ _ _ rfl (by omega) (by omega), heard_loop1 m ns _ hb _ _ _ (by omega) (by omega) (by omega)]
    simp only [s3, Option.bind_some, List.take_zero, List.drop_zero, List.nil_append, Bool.false_or]
    have hfl : (ns.any fun x => hit m x && !x.Damage) = decide (0 < (ns.filter fun x => hit m x && !x.Damage).length) := by
      rw [Bool.eq_iff_iff, decide_eq_true_eq, List.length_pos_iff_exists_mem]
      simp only [List.any_eq_true, List.mem_filter]
    rw [hfl]
    generalize (ns.filter fun x => hit m x && !x.Damage).length = cnt
    have hl2 : ∀ k : List Note → Option (Answer × Int), reredosref_HeardOf_L2 m k (ns.length + 1) 0 ns = k (ns.map (dmg m)) := fun k => by rw [heard_loop2 m k _ _ _ (by omega) (by omega)]; simp
    simp only [hl2, hown _ s1, Option.bind_some]
    by_cases hw0 : 0 < wn
    · have i1 : ((wn : Int) > 0) := by omega
      have i2 : (((wn + cnt : Nat) : Int) > 0) := by omega
      simp only [decide_eq_true i1, decide_eq_true i2, if_true, hown _ s1, Option.bind_some, beq_self_eq_true]
      exact ⟨_, rfl, rfl⟩
    · have i1 : ¬ ((wn : Int) > 0) := by omega
      by_cases hc0 : 0 < cnt
      · have i2 : (((wn + cnt : Nat) : Int) > 0) := by omega
        simp only [decide_eq_false i1, decide_eq_true i2, decide_eq_true hc0, Bool.false_eq_true, if_false, if_true, hown _ s1, Option.bind_some, beq_self_eq_true]
        exact ⟨_, rfl, rfl⟩
      · have i2 : ¬ (((wn + cnt : Nat) : Int) > 0) := by omega
        simp only [decide_eq_false i1, decide_eq_false i2, decide_eq_false hc0, Bool.false_eq_true, if_false, if_true, hown _ s1, Option.bind_some, beq_self_eq_true]
        exact ⟨_, rfl, rfl⟩
  · have c1 : (m.Kind == 1) = false := by simp; omega
    have c2 : (m.Kind == 2) = false := by simp; omega
    have c3 : (m.Kind == 3) = false := by simp; omega
    have c4 : (m.Kind == 4) = false := by simp; omega
    simp only [c1, c2, c3, c4, decide_eq_true hk1, Bool.false_eq_true, if_false, if_true, gt_iff_lt, cloneF, if_pos hns, Option.bind_some, Int.reduceBNe]
    exact ⟨_, rfl, rfl⟩

end Go.V.Dec
