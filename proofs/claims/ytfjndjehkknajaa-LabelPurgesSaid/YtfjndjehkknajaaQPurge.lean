/- Plain laws (Purge): no program, no memory; conditions as stated. -/
import Derived.Test.YtfjndjehkknajaaG2
import Derived.Test.YtfjndjehkknajaaQLabel
import Derived.Test.YtfjndjehkknajaaQCopies
set_option linter.unusedVariables false
set_option linter.unusedSimpArgs false
namespace Go.V.Dec
open Go Go.Proofs Classical
set_option maxRecDepth 100000
set_option maxHeartbeats 4000000
def domB (x y : Label) : Bool := decide (x.Level ≥ y.Level) && (bitOp .i64 (· &&& ·) x.Cats y.Cats == y.Cats)
theorem dom_eq (x y : Label) : reredosref_Dominates x y = some (domB x y) := by
  simp only [reredosref_Dominates, withK, domB]
  cases decide (x.Level ≥ y.Level) <;> simp
theorem above_eq (x y : Label) : label_Above x y = some (domB x y) := dom_eq x y
theorem place_dec (c : Config) (l : Int) : label_place c l = some (decide (0 ≤ l ∧ l < c.Labels.length)) := by
  simp only [label_place, withK]
  by_cases h : l ≥ 0
  · have h' : 0 ≤ l := h
    simp [h, h']
  · have h' : ¬ 0 ≤ l := h
    simp [h']
theorem keep_loop (c : Config) (hl : c.Labels.length ≤ maxLen) (p : Int) (hp : 0 ≤ p ∧ p < c.Labels.length) (x : Act) (h6 : x.Kind = 6) (hx : fits 8 x.Keep.length) {R : Type} (K K' : List Int → Option ((List Act) × Int))
    (hK : ∀ l, ∃ r, K l = some r ∧ K' l = some r) : ∀ (n i : Nat) (acc : List Int), x.Keep.length < n + i → i ≤ x.Keep.length → acc.length = i →
    ∃ r, label_Purge_L2 c p x K n i (acc ++ x.Keep.drop i) = some r ∧ reredosref_PurgeOf_L2 c p x K' n i acc = some r := by
  intro n
  induction n with
  | zero => intro i acc h1 h2; omega
  | succ n ih =>
    intro i acc h1 h2 h3
    rw [label_Purge_L2, reredosref_PurgeOf_L2]
    have hpn : p.toNat < c.Labels.length := by omega
    by_cases hi : i < x.Keep.length
    · have hf : fits 8 (acc.length + 1) := fits_le hx (by omega)
      have e0 : (acc ++ x.Keep.drop i)[i]? = some x.Keep[i] := by rw [List.getElem?_append_right (by omega), h3, Nat.sub_self, List.getElem?_drop]; simp [hi]
      have e1 : ∀ v, (acc ++ x.Keep.drop i).set i v = (acc ++ [v]) ++ x.Keep.drop (i + 1) := by
        intro v
        rw [List.set_append_right _ _ (by omega), h3, Nat.sub_self, List.drop_eq_getElem_cons hi, List.set_cons_zero]; simp
      have e2 : acc ++ x.Keep.drop i = (acc ++ [x.Keep[i]]) ++ x.Keep.drop (i + 1) := by rw [List.drop_eq_getElem_cons hi]; simp
      have h6' : (x.Kind == 6) = true := by simp [h6]
      have hd : decide (i < x.Keep.length) = true := by simpa using hi
      simp only [hd, if_true, bind_at hi]
      simp only [place_dec, labelMay_eq c _ hl, Option.bind_some, h6', if_true, if_pos hp.1, bind_at hpn, above_eq, dom_eq, withK]
      by_cases hb : (0 : Int) ≤ (i : Int) ∧ (i : Int) < c.Labels.length
      · have hin : i < c.Labels.length := by omega
        rw [decide_eq_true hb]
        simp only [if_true, bind_at hin, Option.bind_some]
        cases hd : domB c.Labels[p.toNat] c.Labels[i]
        · simp only [Bool.not_false, if_true, e0, Option.bind_some, if_pos hf, e1]
          exact ih (i + 1) _ (by omega) (by omega) (by simp [h3])
        · simp only [Bool.not_true, Bool.false_eq_true, if_false, if_pos hf, e2]
          exact ih (i + 1) _ (by omega) (by omega) (by simp [h3])
      · rw [decide_eq_false hb]
        simp only [Bool.false_eq_true, if_false, if_pos hf, e2]
        exact ih (i + 1) _ (by omega) (by omega) (by simp [h3])
    · rw [if_neg (by simpa using hi), if_neg (by simpa using hi)]
      rw [List.drop_of_length_le (by omega), List.append_nil]
      exact hK acc
theorem copy2 (c : Config) (p : Int) (x : Act) (h6 : x.Kind ≠ 6) (hx : fits 8 x.Keep.length) (K : List Int → Option ((List Act) × Int)) : reredosref_PurgeOf_L2 c p x K (x.Keep.length + 1) 0 [] = K x.Keep := by
  have h6' : (x.Kind == 6) = false := by simp [h6]
  have := copy_loop (L := reredosref_PurgeOf_L2 c p x K) (l := x.Keep) (k := K) hx (fun n i acc hi => by rw [reredosref_PurgeOf_L2, if_neg (by simpa using hi)])
    (fun n i acc hi hf => by rw [reredosref_PurgeOf_L2, if_pos (by simpa using hi), bind_at hi]; simp only [h6', Bool.false_eq_true, if_false, withK, if_pos hf]) (x.Keep.length + 1) 0 [] (by omega) rfl (by omega)
  simpa using this
theorem purge_loop (c : Config) (hl : c.Labels.length ≤ maxLen) (p : Int) (hp : 0 ≤ p ∧ p < c.Labels.length) (l : List Act) (hfl : fits 120 l.length) (hx : ∀ x ∈ l, fits 8 x.Keep.length) : ∀ (n i : Nat) (acc : List Act), l.length < n + i → i ≤ l.length → acc.length ≤ i →
    ∃ r, label_Purge_L1 c p l (fun b => some (b, 0)) n i acc = some r ∧ reredosref_PurgeOf_L1 c p l (fun b => some (b, 0)) n i acc = some r := by
  intro n
  induction n with
  | zero => intro i acc h1 h2; omega
  | succ n ih =>
    intro i acc h1 h2 h3
    rw [label_Purge_L1, reredosref_PurgeOf_L1]
    have hpn : p.toNat < c.Labels.length := by omega
    by_cases hi : i < l.length
    · have hk := hx l[i] (List.getElem_mem hi)
      have hf : fits 120 (acc.length + 1) := fits_le hfl (by omega)
      have nxt : ∀ y, ∃ r, label_Purge_L1 c p l (fun b => some (b, 0)) n (i + 1) (acc ++ [y]) = some r ∧ reredosref_PurgeOf_L1 c p l (fun b => some (b, 0)) n (i + 1) (acc ++ [y]) = some r := fun y => ih (i + 1) _ (by omega) (by omega) (by simp; omega)
      have skip := ih (i + 1) acc (by omega) (by omega) (by omega)
      rw [if_pos (by simpa using hi), if_pos (by simpa using hi), bind_at hi, bind_at hi]
      generalize l[i] = x at *
      simp only [label_own, if_pos hk, Option.bind_some, withK, if_pos hf, place_dec, labelMay_eq c _ hl, if_pos hp.1, bind_at hpn, above_eq, dom_eq]
      by_cases h6 : x.Kind = 6
      · have a6 : (x.Kind == 6) = true := by simp [h6]
        have a5 : (x.Kind == 5) = false := by simp [h6]
        have a7 : (x.Kind == 7) = false := by simp [h6]
        simp only [a5, a6, a7, Bool.false_eq_true, if_false, if_true, Bool.not_true]
        exact keep_loop c hl p hp x h6 hk (R := Unit) _ _ (fun q => nxt _) (x.Keep.length + 1) 0 [] (by omega) (by omega) rfl
      · have a6 : (x.Kind == 6) = false := by simp [h6]
        simp only [copy2 c p x h6 hk, a6]
        cases a5 : (x.Kind == 5)
        · cases a7 : (x.Kind == 7)
          · simp only [Bool.false_eq_true, if_false, Bool.not_false, if_true]
            by_cases hb : 0 ≤ x.Label ∧ x.Label < c.Labels.length
            · have hin : x.Label.toNat < c.Labels.length := by omega
              rw [decide_eq_true hb]
              simp only [if_true, if_pos hb.1, bind_at hin, Option.bind_some]
              cases domB c.Labels[p.toNat] c.Labels[x.Label.toNat]
              · simp only [Bool.not_false, if_true]; exact skip
              · simp only [Bool.not_true, Bool.false_eq_true, if_false]; exact nxt _
            · rw [decide_eq_false hb]
              simp only [Bool.false_eq_true, if_false]; exact nxt _
          · simp only [Bool.false_eq_true, if_false, Bool.not_true, if_true]; exact nxt _
        · simp only [Bool.false_eq_true, if_false, Bool.not_true, if_true]; exact nxt _
    · rw [if_neg (by simpa using hi), if_neg (by simpa using hi)]; exact ⟨_, rfl, rfl⟩
theorem purge_same (c : Config) (hl : c.Labels.length ≤ maxLen) (p : Int) (l : List Act) (hfl : fits 120 l.length) (hx : ∀ x ∈ l, fits 8 x.Keep.length) : ∃ r, label_Purge c p l = some r ∧ reredosref_PurgeOf c p l = some r := by
  obtain ⟨e, he, hb⟩ := fault_total c
  simp only [label_Purge, reredosref_PurgeOf, label_same c, he, Option.bind_some, withK, place_dec, labelMay_eq c _ hl]
  by_cases h0 : e = 0
  · subst h0
    by_cases hp : 0 ≤ p ∧ p < c.Labels.length
    · rw [decide_eq_true hp]
      simp only [bne_self_eq_false, beq_self_eq_true, Bool.false_eq_true, if_false, if_true, Bool.not_true]
      exact purge_loop c hl p hp l hfl hx _ _ _ (by omega) (by omega) (by simp)
    · rw [decide_eq_false hp]
      simp
  · have h1 : (e != 0) = true := by simpa using h0
    have h2 : (e == 0) = false := by simpa using h0
    simp only [h1, h2, if_true, Bool.false_eq_true, if_false]
    exact ⟨_, rfl, rfl⟩
theorem sameInts_refl (l : List Int) : reredoslaw_sameInts l l = some true := by
  simp only [reredoslaw_sameInts, withK, bne_self_eq_false, Bool.false_eq_true, if_false]
  exact true_loop (L := reredoslaw_sameInts_L1 l l _) (len := l.length) (fun n i hi => by rw [reredoslaw_sameInts_L1, if_neg (by simpa using hi)]) (fun n i hi => by rw [reredoslaw_sameInts_L1, if_pos (by simpa using hi), bind_at hi, bind_at hi, if_neg (by simp)]) _ 0 (by omega) (by omega)
theorem sameActs_refl (l : List Act) : reredoslaw_sameActs l l = some true := by
  simp only [reredoslaw_sameActs, withK, bne_self_eq_false, Bool.false_eq_true, if_false]
  exact true_loop (L := reredoslaw_sameActs_L1 l l _) (len := l.length) (fun n i hi => by rw [reredoslaw_sameActs_L1, if_neg (by simpa using hi)]) (fun n i hi => by rw [reredoslaw_sameActs_L1, if_pos (by simpa using hi), bind_at hi, bind_at hi]; simp [sameInts_refl]) _ 0 (by omega) (by omega)

end Go.V.Dec
