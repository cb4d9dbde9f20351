/- Plain laws (Lines): no program, no memory; conditions as stated. -/
import Derived.Test.YtjpkfnblnimdoaaDoorG2
import Derived.Test.YtjpkfnblnimdoaaDoorQLabelM
set_option linter.unusedVariables false
set_option linter.unusedSimpArgs false
namespace Go.V.Dec
open Go Go.Proofs Classical
set_option maxRecDepth 100000
set_option maxHeartbeats 4000000
variable (G : Nat → Option (List D))
theorem idxF_int (l : List Int) (q : Int → Bool) : (¬ (∃ x ∈ l, q x = true) ∧ slices_IndexFunc_int l (fun x => some (q x)) = some (-1)) ∨ ∃ (j : Nat) (x : Int), l[j]? = some x ∧ q x = true ∧ (∀ m y, m < j → l[m]? = some y → ¬ q y = true) ∧ slices_IndexFunc_int l (fun x => some (q x)) = some (j : Int) := by
  have hk : ∀ n i, ¬ i < l.length → slices_IndexFunc_int_L1 l (fun x => some (q x)) (some (-1)) (n + 1) i = some (-1) := fun n i hi => by rw [slices_IndexFunc_int_L1, if_neg (by simpa using hi)]
  have hg : ∀ n i, i < l.length → ¬ (∃ x, l[i]? = some x ∧ q x = true) → slices_IndexFunc_int_L1 l (fun x => some (q x)) (some (-1)) (n + 1) i = slices_IndexFunc_int_L1 l (fun x => some (q x)) (some (-1)) n (i + 1) := fun n i hi hp => by
    rw [slices_IndexFunc_int_L1, if_pos (by simpa using hi), bind_at hi]
    simp only [Option.bind_some]
    rw [if_neg]; intro e; exact hp ⟨_, List.getElem?_eq_getElem hi, e⟩
  have hb : ∀ n i, i < l.length → (∃ x, l[i]? = some x ∧ q x = true) → slices_IndexFunc_int_L1 l (fun x => some (q x)) (some (-1)) (n + 1) i = some (i : Int) := fun n i hi hp => by
    obtain ⟨x, hx, hp⟩ := hp
    rw [slices_IndexFunc_int_L1, if_pos (by simpa using hi), bind_at hi]
    rw [List.getElem?_eq_getElem hi] at hx; cases hx
    simp only [Option.bind_some]
    rw [if_pos hp]
  simp only [slices_IndexFunc_int, withK]
  rcases index_loop (f := fun i => some (i : Int)) hk hg hb with ⟨h, e⟩ | ⟨j, h1, ⟨x, h2, h2'⟩, h3, e⟩
  · refine .inl ⟨?_, e⟩
    rintro ⟨x, hm, hq⟩
    obtain ⟨j, hj, rfl⟩ := List.getElem_of_mem hm
    exact h ⟨j, hj, _, by simp [hj], hq⟩
  · exact .inr ⟨j, x, h2, h2', fun m y hm hy hq => h3 m hm ⟨y, hy, hq⟩, e⟩
theorem containsF_int (l : List Int) (q : Int → Bool) : slices_ContainsFunc_int l (fun x => some (q x)) = some (decide (∃ x ∈ l, q x = true)) := by
  simp only [slices_ContainsFunc_int]
  rcases idxF_int l q with ⟨h, e⟩ | ⟨j, x, h2, h3, h4, e⟩
  · rw [e]; simp [h]
  · rw [e]
    have : ∃ x ∈ l, q x = true := ⟨x, List.mem_of_getElem? h2, h3⟩
    simp [this]
def keepR (l : List Int) : Prop := ∀ n ∈ l, 0 ≤ n ∧ n ≤ 6000
theorem keep_eq (l : List Int) : slices_ContainsFunc_int l (fun y => lines_numbers_1 y) = some (!decide (keepR l)) := by
  have e : (fun y => lines_numbers_1 y) = fun y => some (decide (¬ (0 ≤ y ∧ y ≤ 6000))) := by
    funext y
    simp only [lines_numbers_1, withK]
    by_cases h : y < 0
    · rw [if_pos (by simpa using h)]; congr 1; symm; rw [decide_eq_true_eq]; omega
    · rw [if_neg (by simpa using h)]; congr 1; rw [decide_eq_decide]; omega
  rw [e, containsF_int]
  congr 1
  rw [Bool.eq_iff_iff, decide_eq_true_eq, Bool.not_eq_true', decide_eq_false_iff_not]
  simp only [decide_eq_true_eq]
  unfold keepR
  constructor
  · rintro ⟨x, hm, hx⟩ h; exact hx (h x hm)
  · intro h
    apply Classical.byContradiction
    intro hc
    exact h fun n hn => Classical.byContradiction fun hx => hc ⟨n, hn, hx⟩
theorem rkeep (a : Act) (k : Option Int) : reredosref_ActFault_L1 a k (a.Keep.length + 1) 0 = if keepR a.Keep then k else some 2 := by
  rw [all_loop0 (L := reredosref_ActFault_L1 a k) (len := a.Keep.length) (k := k) (bad := some 2) (p := fun i => ∀ x, a.Keep[i]? = some x → 0 ≤ x ∧ x ≤ 6000)]
  · have : (∀ j, j < a.Keep.length → ∀ x, a.Keep[j]? = some x → 0 ≤ x ∧ x ≤ 6000) ↔ keepR a.Keep := by
      constructor
      · intro h n hn
        obtain ⟨j, hj, rfl⟩ := List.getElem_of_mem hn
        exact h j hj _ (List.getElem?_eq_getElem hj)
      · intro h j hj x hx; exact h x (List.mem_of_getElem? hx)
    by_cases h : keepR a.Keep
    · rw [if_pos h, if_pos (this.2 h)]
    · rw [if_neg h, if_neg (fun q => h (this.1 q))]
  · intro n i hi; rw [reredosref_ActFault_L1, if_neg (by simpa using hi)]
  · intro n i hi hp
    have := hp _ (List.getElem?_eq_getElem hi)
    rw [reredosref_ActFault_L1, if_pos (by simpa using hi), bind_at hi, In_eq, decide_eq_true this]; rfl
  · intro n i hi hp
    have : ¬ (0 ≤ a.Keep[i] ∧ a.Keep[i] ≤ 6000) := fun h => hp fun x hx => by rw [List.getElem?_eq_getElem hi] at hx; cases hx; exact h
    rw [reredosref_ActFault_L1, if_pos (by simpa using hi), bind_at hi, In_eq, decide_eq_false this]; rfl
theorem call_same (x : Call) : lines_call x = reredosref_callMay x ∧ ∃ r, reredosref_callMay x = some r := by
  simp only [lines_call, reredosref_callMay, withK, In_eq, Option.bind_some]
  by_cases h1 : 1 ≤ x.Kind ∧ x.Kind ≤ 5
  case neg =>
    simp only [decide_eq_false h1, Bool.not_false, if_true]
    refine ⟨?_, _, rfl⟩
    by_cases b : x.Kind < 1
    · rw [if_pos (by simpa using b)]
    · rw [if_neg (by simpa using b), if_pos (by simp; omega)]
  rw [if_neg (c := decide (x.Kind < 1) = true) (by simp; omega), if_neg (c := decide (x.Kind > 5) = true) (by simp; omega), decide_eq_true h1]
  simp only [Bool.not_true, Bool.false_eq_true, if_false]
  by_cases h2 : 0 ≤ x.N ∧ x.N ≤ 1048576
  case neg =>
    simp only [decide_eq_false h2, Bool.not_false, if_true]
    refine ⟨?_, _, rfl⟩
    by_cases b : x.N < 0
    · rw [if_pos (by simpa using b)]
    · rw [if_neg (by simpa using b), if_pos (by simp; omega)]
  rw [if_neg (c := decide (x.N < 0) = true) (by simp; omega), if_neg (c := decide (x.N > 1048576) = true) (by simp; omega), decide_eq_true h2]
  simp only [Bool.not_true, Bool.false_eq_true, if_false]
  by_cases h3 : 0 ≤ x.Label ∧ x.Label ≤ 5
  case neg =>
    simp only [decide_eq_false h3, Bool.not_false, if_true]
    refine ⟨?_, _, rfl⟩
    by_cases b : x.Label < 0
    · rw [if_pos (by simpa using b)]
    · rw [if_neg (by simpa using b), if_pos (by simp; omega)]
  rw [if_neg (c := decide (x.Label < 0) = true) (by simp; omega), if_neg (c := decide (x.Label ≥ 6) = true) (by simp; omega), decide_eq_true h3]
  simp only [Bool.not_true, Bool.false_eq_true, if_false]
  by_cases h4 : 0 ≤ x.Key ∧ x.Key ≤ 8
  case neg =>
    simp only [decide_eq_false h4, Bool.not_false, if_true]
    refine ⟨?_, _, rfl⟩
    by_cases b : x.Key < 0
    · rw [if_pos (by simpa using b)]
    · rw [if_neg (by simpa using b), if_pos (by simp; omega)]
  rw [if_neg (c := decide (x.Key < 0) = true) (by simp; omega), if_neg (c := decide (x.Key > 8) = true) (by simp; omega), decide_eq_true h4]
  simp only [Bool.not_true, Bool.false_eq_true, if_false]
  by_cases h5 : 0 ≤ x.Value ∧ x.Value ≤ 1073741824
  case neg =>
    simp only [decide_eq_false h5, Bool.not_false, if_true]
    refine ⟨?_, _, rfl⟩
    by_cases b : x.Value < 0
    · rw [if_pos (by simpa using b)]
    · rw [if_neg (by simpa using b), if_pos (by simp; omega)]
  rw [if_neg (c := decide (x.Value < 0) = true) (by simp; omega), if_neg (c := decide (x.Value > 1073741824) = true) (by simp; omega), decide_eq_true h5]
  simp only [Bool.not_true, Bool.false_eq_true, if_false]
  have hk : x.Kind = 1 ∨ x.Kind = 2 ∨ x.Kind = 3 ∨ x.Kind = 4 ∨ x.Kind = 5 := by omega
  by_cases n0 : x.N = 0 <;> by_cases l0 : x.Label = 0 <;> by_cases k0 : x.Key = 0 <;> by_cases v0 : x.Value = 0 <;> rcases hk with hk | hk | hk | hk | hk <;> simp [hk, n0, l0, k0, v0]

def numR (c : Config) (a : Act) : Prop := (0 ≤ a.Site ∧ a.Site ≤ c.Sites - 1) ∧ (0 ≤ a.To ∧ a.To ≤ c.Sites - 1) ∧ (0 ≤ a.Label ∧ a.Label < c.Labels.length) ∧ (0 ≤ a.Pick ∧ a.Pick ≤ 1048576) ∧ a.Keep.length ≤ c.Labels.length ∧ (a.Line.size : Int) ≤ 60 ∧ keepR a.Keep
theorem num_eq (c : Config) (a : Act) : lines_numbers c a = some (decide (numR c a)) := by
  simp only [lines_numbers, keep_eq, Option.bind_some, Bool.not_not]
  by_cases h1 : a.Site < 0
  · rw [if_pos (by simpa using h1), decide_eq_false (fun h : numR c a => by have := h.1; omega)]
  rw [if_neg (by simpa using h1)]
  by_cases h2 : a.Site ≥ c.Sites
  · rw [if_pos (by simpa using h2), decide_eq_false (fun h : numR c a => by have := h.1; omega)]
  rw [if_neg (by simpa using h2)]
  by_cases h3 : a.To < 0
  · rw [if_pos (by simpa using h3), decide_eq_false (fun h : numR c a => by have := h.2.1; omega)]
  rw [if_neg (by simpa using h3)]
  by_cases h4 : a.To ≥ c.Sites
  · rw [if_pos (by simpa using h4), decide_eq_false (fun h : numR c a => by have := h.2.1; omega)]
  rw [if_neg (by simpa using h4)]
  by_cases h5 : a.Label < 0
  · rw [if_pos (by simpa using h5), decide_eq_false (fun h : numR c a => by have := h.2.2.1; omega)]
  rw [if_neg (by simpa using h5)]
  by_cases h6 : a.Label ≥ c.Labels.length
  · rw [if_pos (by simpa using h6), decide_eq_false (fun h : numR c a => by have := h.2.2.1; omega)]
  rw [if_neg (by simpa using h6)]
  by_cases h7 : a.Pick < 0
  · rw [if_pos (by simpa using h7), decide_eq_false (fun h : numR c a => by have := h.2.2.2.1; omega)]
  rw [if_neg (by simpa using h7)]
  by_cases h8 : a.Pick > 1048576
  · rw [if_pos (by simpa using h8), decide_eq_false (fun h : numR c a => by have := h.2.2.2.1; omega)]
  rw [if_neg (by simpa using h8)]
  by_cases h9 : a.Keep.length > c.Labels.length
  · rw [if_pos (by simpa using h9), decide_eq_false (fun h : numR c a => by have := h.2.2.2.2.1; omega)]
  rw [if_neg (by simpa using h9)]
  by_cases h10 : (a.Line.size : Int) > 60
  · rw [if_pos (by simpa using h10), decide_eq_false (fun h : numR c a => by have := h.2.2.2.2.2.1; omega)]
  rw [if_neg (by simpa using h10)]
  congr 1
  rw [decide_eq_decide]
  constructor
  · intro h; exact ⟨by omega, by omega, by omega, by omega, by omega, by omega, h⟩
  · intro h; exact h.2.2.2.2.2.2
set_option maxHeartbeats 2000000 in
theorem act_same (c : Config) (a : Act) (hl : c.Labels.length ≤ maxLen) : lines_Check c a = reredosref_ActFault c a ∧ ∃ r, reredosref_ActFault c a = some r := by
  obtain ⟨e, he, h0⟩ := fault_total c
  obtain ⟨ce, cr, hcr⟩ := call_same a.Call
  simp only [lines_Check, reredosref_ActFault, label_same, he, num_eq, rkeep, labelMay_eq c _ hl, withK, In_eq, ce, hcr, Option.bind_some]
  by_cases he0 : e = 0
  case neg => rw [show (e != 0) = true from by simpa using he0]; exact ⟨rfl, _, rfl⟩
  rw [show (e != 0) = false from by simpa using he0]
  simp only [Bool.false_eq_true, if_false]
  obtain ⟨hs, _⟩ := h0 he0
  rw [wrap_in (n := c.Sites - 1) (by omega) (by omega)]
  by_cases k1 : 1 ≤ a.Kind ∧ a.Kind ≤ 8
  case neg =>
    simp only [decide_eq_false k1, Bool.not_false, if_true]
    refine ⟨?_, _, rfl⟩
    by_cases b : a.Kind < 1
    · rw [if_pos (by simpa using b)]
    · rw [if_neg (by simpa using b), if_pos (by simp; omega)]
  rw [if_neg (c := decide (a.Kind < 1) = true) (by simp; omega), if_neg (c := decide (a.Kind > 8) = true) (by simp; omega), decide_eq_true k1]
  simp only [Bool.not_true, Bool.false_eq_true, if_false]
  by_cases n1 : 0 ≤ a.Site ∧ a.Site ≤ c.Sites - 1
  case neg => simp only [decide_eq_false (fun h : numR c a => n1 h.1), decide_eq_false n1, Bool.not_false, if_true]; exact ⟨trivial, _, rfl⟩
  by_cases n2 : 0 ≤ a.To ∧ a.To ≤ c.Sites - 1
  case neg => simp only [decide_eq_false (fun h : numR c a => n2 h.2.1), decide_eq_true n1, decide_eq_false n2, Bool.not_false, Bool.not_true, Bool.false_eq_true, if_true, if_false]; exact ⟨trivial, _, rfl⟩
  by_cases n3 : 0 ≤ a.Label ∧ a.Label < c.Labels.length
  case neg => simp only [decide_eq_false (fun h : numR c a => n3 h.2.2.1), decide_eq_true n1, decide_eq_true n2, decide_eq_false n3, Bool.not_false, Bool.not_true, Bool.false_eq_true, if_true, if_false]; exact ⟨trivial, _, rfl⟩
  by_cases n4 : 0 ≤ a.Pick ∧ a.Pick ≤ 1048576
  case neg => simp only [decide_eq_false (fun h : numR c a => n4 h.2.2.2.1), decide_eq_true n1, decide_eq_true n2, decide_eq_true n3, decide_eq_false n4, Bool.not_false, Bool.not_true, Bool.false_eq_true, if_true, if_false]; exact ⟨trivial, _, rfl⟩
  by_cases n5 : a.Keep.length > c.Labels.length
  case pos => simp only [decide_eq_false (fun h : numR c a => by have := h.2.2.2.2.1; omega), decide_eq_true n1, decide_eq_true n2, decide_eq_true n3, decide_eq_true n4, decide_eq_true n5, Bool.not_false, Bool.not_true, Bool.false_eq_true, if_true, if_false]; exact ⟨trivial, _, rfl⟩
  by_cases n6 : (a.Line.size : Int) > 60
  case pos => simp only [decide_eq_false (fun h : numR c a => by have := h.2.2.2.2.2.1; omega), decide_eq_true n1, decide_eq_true n2, decide_eq_true n3, decide_eq_true n4, decide_eq_false n5, decide_eq_true n6, Bool.not_false, Bool.not_true, Bool.false_eq_true, if_true, if_false]; exact ⟨trivial, _, rfl⟩
  by_cases n7 : keepR a.Keep
  case neg => simp only [decide_eq_false (fun h : numR c a => n7 h.2.2.2.2.2.2), decide_eq_true n1, decide_eq_true n2, decide_eq_true n3, decide_eq_true n4, decide_eq_false n5, decide_eq_false n6, if_neg n7, Bool.not_false, Bool.not_true, Bool.false_eq_true, if_true, if_false]; exact ⟨trivial, _, rfl⟩
  simp only [decide_eq_true (show numR c a from ⟨n1, n2, n3, n4, by omega, by omega, n7⟩), decide_eq_true n1, decide_eq_true n2, decide_eq_true n3, decide_eq_true n4, decide_eq_false n5, decide_eq_false n6, if_pos n7, Bool.not_true, Bool.false_eq_true, if_false, lines_bare, withK, Option.bind_some]
  generalize ((a.Call.Kind == 0) && ((a.Call.N == 0) && ((a.Call.Label == 0) && ((a.Call.Key == 0) && (a.Call.Value == 0))))) = cz
  generalize (a.Line.toList == (⟨#[]⟩ : ByteArray).toList) = lz
  have hk : a.Kind = 1 ∨ a.Kind = 2 ∨ a.Kind = 3 ∨ a.Kind = 4 ∨ a.Kind = 5 ∨ a.Kind = 6 ∨ a.Kind = 7 ∨ a.Kind = 8 := by omega
  generalize a.Kind = kd at *
  generalize a.Site = st at *
  generalize a.To = to at *
  generalize a.Pick = pk at *
  generalize a.Label = lb at *
  generalize a.Keep.length = kl at *
  clear n1 n2 n3 n4 n5 n6 n7 k1 h0
  rcases hk with rfl | rfl | rfl | rfl | rfl | rfl | rfl | rfl <;> cases cz <;> cases lz <;> simp
  all_goals try (by_cases s0 : st = 0 <;> (try simp [s0]))
  all_goals try (by_cases l0 : lb = 0 <;> (try simp [l0]))
  all_goals try (by_cases t0 : to = 0 <;> (try simp [t0]))
  all_goals try (by_cases p0 : pk = 0 <;> (try simp [p0]))
  all_goals try (by_cases q0 : kl = 0 <;> (try simp [q0]))
  all_goals try (split <;> simp_all)
  all_goals try omega

end Go.V.Dec
