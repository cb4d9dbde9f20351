/- Plain laws (Part): no program, no memory; conditions as stated. -/
import Derived.Test.YtmplhamakfnjbaaF3
import Derived.Test.YtmplhamakfnjbaaPStoreAge
import Derived.Test.YtmplhamakfnjbaaPStoreLens
import Derived.Test.YtmplhamakfnjbaaPLabel
set_option linter.unusedVariables false
set_option linter.unusedSimpArgs false
namespace Go.V.Dec
open Go Go.Proofs Classical
set_option maxRecDepth 100000
set_option maxHeartbeats 4000000
theorem age_pred {Pred : Store × (List Txn) × Int → Prop} (p : Int) (D : Nat) (hD : fits 24 D) (k : List Txn → List Doubt → Option (Store × List Txn × Int)) (hk : ∀ a b, a.length ≤ b.length → b.length = D → ∃ r, k a b = some r ∧ Pred r) : ∀ n i told ds, ds.length < n + i → i ≤ ds.length → told.length ≤ i → ds.length = D → ∃ r, reredosref_AgeOf_L1 p k n i told ds = some r ∧ Pred r := by
  intro n
  induction n with
  | zero => intro i told ds h1 h2; omega
  | succ n ih =>
    intro i told ds h1 h2 h3 h4
    rw [reredosref_AgeOf_L1]
    by_cases hi : i < ds.length
    · rw [if_pos (by simpa using hi), bind_at hi]
      simp only [withK]
      have hf : fits 16 (told.length + 1) := ⟨by have := hD.1; omega, by have := hD.2; omega⟩
      rw [if_pos hf]
      split
      · exact ih _ _ _ (by simp; omega) (by simp; omega) (by simp; omega) (by simpa using h4)
      · exact ih _ _ _ (by simp; omega) (by simp; omega) (by omega) (by simpa using h4)
    · rw [if_neg (by simpa using hi)]; exact hk _ _ (by omega) h4
theorem age_shape (s : Store) (p : Int) (h : StoreFits s) : ∃ r, reredosref_AgeOf s p = some r ∧ StoreFits r.1 ∧ r.2.1.length ≤ 24 := by
  have h1 : s.Items.length ≤ maxLen := h.1.2
  have h2 : s.Doubts.length ≤ maxLen := h.2.2.1.2
  have he : StoreFits (Store.mk [] [] [] []) := ⟨⟨by simp, by simp⟩, ⟨by simp, by simp⟩, ⟨by simp, by simp⟩, ⟨by simp, by simp⟩⟩
  simp only [reredosref_AgeOf, May_eq s h1 h2, In_eq, copy_eq s h, withK, Option.bind_some]
  by_cases hm : May s
  case neg => simp only [decide_eq_false hm, Bool.not_false, if_true]; exact ⟨_, rfl, he, by simp⟩
  rw [decide_eq_true hm]
  simp only [Bool.not_true, Bool.false_eq_true, if_false]
  split
  · exact ⟨_, rfl, he, by simp⟩
  have h24 := doubts_len s hm
  refine age_pred p s.Doubts.length h.2.2.1 _ ?_ _ _ _ _ (by omega) (by omega) (by simp) rfl
  intro a b ha hb
  exact ⟨_, rfl, ⟨h.1, h.2.1, by rw [hb]; exact h.2.2.1, h.2.2.2⟩, by rw [hb] at ha; exact Nat.le_trans ha h24⟩
theorem tick_loop (c : Config) (me : Int) (v : Store × (List Txn) × Int) (k : List Message → Option (Answer × Int)) : ∀ n i acc, part_Tick_L2 c me v k n i acc = reredosref_PartTicked_L1 c me v k n i acc := by
  intro n
  induction n with
  | zero => intro i acc; rfl
  | succ n ih =>
    intro i acc
    rw [part_Tick_L2, reredosref_PartTicked_L1]
    simp only [withK, ih]
theorem tick_total (c : Config) (me : Int) (v : Store × (List Txn) × Int) (hv : v.2.1.length ≤ 24) (k : List Message → Option (Answer × Int)) (hk : ∀ l, ∃ r, k l = some r) : ∀ n i acc, v.2.1.length < n + i → i ≤ v.2.1.length → acc.length ≤ i → ∃ r, reredosref_PartTicked_L1 c me v k n i acc = some r := by
  intro n
  induction n with
  | zero => intro i acc h1 h2; omega
  | succ n ih =>
    intro i acc h1 h2 h3
    rw [reredosref_PartTicked_L1]
    by_cases hi : i < v.2.1.length
    · rw [if_pos (by simpa using hi), bind_at hi]
      have hf : fits 96 (acc.length + 1) := by unfold fits maxLen; omega
      simp only [withK, if_pos hf]
      split
      · exact ih _ _ (by omega) (by omega) (by simp; omega)
      · exact ih _ _ (by omega) (by omega) (by omega)
    · rw [if_neg (by simpa using hi)]; exact hk _
theorem site_loop (l : List Store) (hl : ∀ x ∈ l, StoreFits x) (k : Option (Answer × Int)) : ∀ n i, l.length < n + i → i ≤ l.length →
    (part_Tick_L1 l k n i = some (Answer.mk (Store.mk [] [] [] []) [] [] [], 9) ∧ reredosref_siteFault_L1 l (some 0) n i = some 9) ∨ (part_Tick_L1 l k n i = k ∧ reredosref_siteFault_L1 l (some 0) n i = some 0) := by
  intro n
  induction n with
  | zero => intro i h1 h2; omega
  | succ n ih =>
    intro i h1 h2
    rw [part_Tick_L1, reredosref_siteFault_L1]
    by_cases hi : i < l.length
    · have hs := hl l[i] (List.getElem_mem hi)
      rw [if_pos (by simpa using hi), if_pos (by simpa using hi), bind_at hi, bind_at hi, check_eq _ hs.1.2, May_eq _ hs.1.2 hs.2.2.1.2]
      simp only [Option.bind_some]
      by_cases hm : May l[i]
      · rw [if_pos hm, decide_eq_true hm]
        simp only [bne_self_eq_false, Bool.not_true, Bool.false_eq_true, if_false]
        exact ih _ (by omega) (by omega)
      · rw [if_neg hm, decide_eq_false hm]
        exact .inl ⟨rfl, rfl⟩
    · rw [if_neg (by simpa using hi), if_neg (by simpa using hi)]; exact .inr ⟨rfl, rfl⟩
theorem own_answer (a : Answer) (h : StoreFits a.Store) (l : List Note) : part_own a l = some (Answer.mk a.Store a.Messages a.Records l) := by
  simp only [part_own, cloneF, if_pos h.1, if_pos h.2.1, if_pos h.2.2.1, if_pos h.2.2.2, Option.bind_some]
theorem tick_same (c : Config) (hl : c.Labels.length ≤ maxLen) (p me : Int) (l : List Store) (hf : ∀ x ∈ l, StoreFits x) : ∃ r, part_Tick c p me l = some r ∧ reredosref_PartTicked c p me l = some r := by
  obtain ⟨e, he, hb⟩ := fault_total c
  simp only [part_Tick, reredosref_PartTicked, reredosref_siteFault, label_same c, he, Option.bind_some, withK, labelMay_eq c _ hl, In_eq]
  by_cases h0 : e = 0
  case neg =>
    have h1 : (e != 0) = true := by simpa using h0
    simp only [h1, if_true, Option.bind_some]
    exact ⟨_, rfl, rfl⟩
  obtain ⟨hs, _⟩ := hb h0
  subst h0
  rw [wrap_in (n := c.Sites - 1) (by omega) (by omega)]
  simp only [bne_self_eq_false, Bool.false_eq_true, if_false]
  by_cases a1 : p < 0
  · have : ¬ (0 ≤ p ∧ p < (c.Labels.length : Int)) := by omega
    simp [a1, this]
  by_cases a2 : p ≥ (c.Labels.length : Int)
  · have : ¬ (0 ≤ p ∧ p < (c.Labels.length : Int)) := by omega
    simp [a1, a2, this]
  have a3 : 0 ≤ p ∧ p < (c.Labels.length : Int) := by omega
  by_cases b1 : me < 0
  · have : ¬ (0 ≤ me ∧ me ≤ c.Sites - 1) := by omega
    simp [a1, a2, a3, b1, this]
  by_cases b2 : me ≥ c.Sites
  · have : ¬ (0 ≤ me ∧ me ≤ c.Sites - 1) := by omega
    simp [a1, a2, a3, b1, b2, this]
  have b3 : 0 ≤ me ∧ me ≤ c.Sites - 1 := by omega
  simp only [decide_eq_false a1, decide_eq_false a2, decide_eq_true a3, decide_eq_false b1, decide_eq_false b2, decide_eq_true b3, Bool.not_true, Bool.false_eq_true, if_false]
  by_cases hn : ((l.length : Nat) : Int) = (c.Labels.length : Int)
  case neg =>
    have h1 : (((l.length : Nat) : Int) != (c.Labels.length : Int)) = true := by simpa using hn
    simp only [h1, if_true, Option.bind_some]
    exact ⟨_, rfl, rfl⟩
  have h1 : (((l.length : Nat) : Int) != (c.Labels.length : Int)) = false := by simpa using hn
  simp only [h1, Bool.false_eq_true, if_false]
  have hp : p.toNat < l.length := by omega
  rcases site_loop l hf (if 0 ≤ p then (Option.bind (l[p.toNat]?) fun x18 => (Option.bind (store_Age x18 c.Patience) fun v20 => (part_Tick_L2 c me v20 (fun b22_1 => (Option.bind (part_own (Answer.mk v20.1 b22_1 [] []) []) fun v35 => (some (v35, 0)))) (v20.2.1.length + 1) 0 []))) else none) (l.length + 1) 0 (by omega) (by omega) with ⟨e1, e2⟩ | ⟨e1, e2⟩
  · rw [e1, e2]; exact ⟨_, rfl, rfl⟩
  · rw [e1, e2]
    simp only [Option.bind_some, bne_self_eq_false, Bool.false_eq_true, if_false, if_pos a3.1, bind_at hp]
    have hs' := hf l[p.toNat] (List.getElem_mem hp)
    obtain ⟨q1, _⟩ := age_same l[p.toNat] c.Patience hs'
    obtain ⟨v, q2, q3, q4⟩ := age_shape l[p.toNat] c.Patience hs'
    rw [q1, q2]
    have ho : ∀ b, part_own (Answer.mk v.1 b [] []) [] = some (Answer.mk v.1 b [] []) := fun b => own_answer (Answer.mk v.1 b [] []) q3 []
    simp only [Option.bind_some, ho, tick_loop]
    obtain ⟨r, hr⟩ := tick_total c me v q4 (fun b => some (Answer.mk v.1 b [] [], 0)) (fun b => ⟨_, rfl⟩) (v.2.1.length + 1) 0 [] (by omega) (by omega) (by simp)
    exact ⟨r, hr, hr⟩
theorem sameIntsR (l : List Int) : reredoslaw_sameInts l l = some true := by
  simp only [reredoslaw_sameInts, withK, bne_self_eq_false, Bool.false_eq_true, if_false]
  exact true_loop (L := reredoslaw_sameInts_L1 l l _) (len := l.length) (fun n i hi => by rw [reredoslaw_sameInts_L1, if_neg (by simpa using hi)]) (fun n i hi => by rw [reredoslaw_sameInts_L1, if_pos (by simpa using hi), bind_at hi, bind_at hi, if_neg (by simp)]) _ 0 (by omega) (by omega)
theorem sameMsgsR (l : List Message) : reredoslaw_sameMessages l l = some true := by
  simp only [reredoslaw_sameMessages, withK, bne_self_eq_false, Bool.false_eq_true, if_false]
  exact true_loop (L := reredoslaw_sameMessages_L1 l l _) (len := l.length) (fun n i hi => by rw [reredoslaw_sameMessages_L1, if_neg (by simpa using hi)]) (fun n i hi => by rw [reredoslaw_sameMessages_L1, if_pos (by simpa using hi), bind_at hi, bind_at hi, if_neg (by simp)]) _ 0 (by omega) (by omega)
theorem sameRecR (r : Record) : reredoslaw_sameRecord r r = some true := by
  simp [reredoslaw_sameRecord, withK, sameIntsR]
theorem sameRecsR (l : List Record) : reredoslaw_sameRecords l l = some true := by
  simp only [reredoslaw_sameRecords, withK, bne_self_eq_false, Bool.false_eq_true, if_false]
  exact true_loop (L := reredoslaw_sameRecords_L1 l l _) (len := l.length) (fun n i hi => by rw [reredoslaw_sameRecords_L1, if_neg (by simpa using hi)]) (fun n i hi => by rw [reredoslaw_sameRecords_L1, if_pos (by simpa using hi), bind_at hi, bind_at hi]; simp [sameRecR]) _ 0 (by omega) (by omega)
theorem sameNotesR (l : List Note) : reredoslaw_sameNotes l l = some true := by
  simp only [reredoslaw_sameNotes, withK, bne_self_eq_false, Bool.false_eq_true, if_false]
  exact true_loop (L := reredoslaw_sameNotes_L1 l l _) (len := l.length) (fun n i hi => by rw [reredoslaw_sameNotes_L1, if_neg (by simpa using hi)]) (fun n i hi => by rw [reredoslaw_sameNotes_L1, if_pos (by simpa using hi), bind_at hi, bind_at hi, if_neg (by simp)]) _ 0 (by omega) (by omega)
theorem sameAnsR (a : Answer) : reredoslaw_sameAnswer a a = some true := by
  simp [reredoslaw_sameAnswer, withK, sameStore_refl, sameMsgsR, sameRecsR, sameNotesR]

end Go.V.Dec
