/- Plain laws (Net): no program, no memory; conditions as stated. -/
import Derived.Test.YtnibdpoenfgpjaaDoorG1
import Derived.Test.YtnibdpoenfgpjaaDoorQWireMsg
set_option linter.unusedVariables false
set_option linter.unusedSimpArgs false
namespace Go.V.Dec
open Go Go.Proofs Classical
set_option maxRecDepth 100000
set_option maxHeartbeats 4000000
variable (G : Nat → Option (List D))
theorem msg_bounds (c : Config) (m : Message) (h : reredosref_MessageFault c m = some 0) : (1 ≤ c.Sites ∧ c.Sites ≤ 4) ∧ (0 ≤ m.From ∧ m.From < c.Sites) ∧ (0 ≤ m.To ∧ m.To < c.Sites) := by
  obtain ⟨e, he, hb⟩ := fault_total c
  simp only [reredosref_MessageFault, he, Option.bind_some] at h
  by_cases h0 : e = 0
  case neg => simp [h0] at h
  obtain ⟨hs, _⟩ := hb h0
  subst h0
  refine ⟨hs, ?_⟩
  simp only [In_eq, Option.bind_some, bne_self_eq_false, Bool.false_eq_true, if_false] at h
  rw [wrap_in (n := c.Sites - 1) (by omega) (by omega)] at h
  by_cases hk : 1 ≤ m.Kind ∧ m.Kind ≤ 9
  case neg => simp [hk] at h
  by_cases a1 : 0 ≤ m.From ∧ m.From ≤ c.Sites - 1
  case neg => simp [hk, a1] at h
  by_cases a2 : 0 ≤ m.To ∧ m.To ≤ c.Sites - 1
  case neg => simp [hk, a1, a2] at h
  omega
theorem place_eq (S f t i : Int) (hs : 1 ≤ S ∧ S ≤ 4) (hf : 0 ≤ f ∧ f < S) (ht : 0 ≤ t ∧ t < S) (hi : 0 ≤ i ∧ i < 16) : (IntKind.i64.wrap (IntKind.i64.wrap (f * S) + t) != i) = ((f != IntKind.i64.wrap (i.tdiv S)) || (t != i.tmod S)) := by
  rw [Int.tdiv_eq_ediv_of_nonneg hi.1, Int.tmod_eq_emod_of_nonneg hi.1]
  have hS : S = 1 ∨ S = 2 ∨ S = 3 ∨ S = 4 := by omega
  rcases hS with rfl | rfl | rfl | rfl
  all_goals
    rw [wrap_in (n := i / _) (by omega) (by omega), wrap_in (n := f * _) (by omega) (by omega), wrap_in (by omega) (by omega), Bool.eq_iff_iff]
    simp only [bne_iff_ne, Bool.or_eq_true]
    omega
theorem fly2 (c : Config) (hl : c.Labels.length ≤ maxLen) (i : Nat) (hi : i < 16) (x : List Message) (k : Option Int) : ∀ n j, net_Check_L2 c i x k n j = reredosref_FlyingFault_L2 c i x k n j := by
  intro n
  induction n with
  | zero => intro j; rfl
  | succ n ih =>
    intro j
    rw [net_Check_L2, reredosref_FlyingFault_L2]
    by_cases hj : j < x.length
    · rw [if_pos (by simpa using hj), if_pos (by simpa using hj), bind_at hj, bind_at hj]
      obtain ⟨e, r, hr⟩ := msg_same c x[j] hl
      rw [e, hr]
      simp only [Option.bind_some, ih]
      by_cases h0 : r = 0
      · subst h0
        obtain ⟨b1, b2, b3⟩ := msg_bounds c x[j] hr
        rw [place_eq c.Sites _ _ _ b1 b2 b3 (by omega)]
        have hz : ¬ c.Sites = 0 := by omega
        simp only [bne_self_eq_false, Bool.false_eq_true, if_false, if_neg hz]
        by_cases h1 : (x[j].From != IntKind.i64.wrap ((i : Int).tdiv c.Sites)) = true
        · simp only [h1, if_true, Bool.true_or]
        · simp only [Bool.not_eq_true] at h1
          simp only [h1, Bool.false_or, Bool.false_eq_true, if_false]
      · have : (r != 0) = true := by simpa using h0
        simp only [this, if_true]
    · rw [if_neg (by simpa using hj), if_neg (by simpa using hj)]
theorem fly2_total (c : Config) (hl : c.Labels.length ≤ maxLen) (i : Nat) (x : List Message) (k : Option Int) (hk : ∃ r, k = some r) : ∀ n j, x.length < n + j → j ≤ x.length → ∃ r, reredosref_FlyingFault_L2 c i x k n j = some r := by
  intro n
  induction n with
  | zero => intro j h1 h2; omega
  | succ n ih =>
    intro j h1 h2
    rw [reredosref_FlyingFault_L2]
    by_cases hj : j < x.length
    · rw [if_pos (by simpa using hj), bind_at hj]
      obtain ⟨_, r, hr⟩ := msg_same c x[j] hl
      obtain ⟨q, hq⟩ := ih (j + 1) (by omega) (by omega)
      rw [hr, hq]
      simp only [Option.bind_some]
      repeat' split
      all_goals exact ⟨_, rfl⟩
    · rw [if_neg (by simpa using hj)]; exact hk
theorem fly1 (c : Config) (hl : c.Labels.length ≤ maxLen) (fl : List (List Message)) (hf : fl.length ≤ 16) (k : Option Int) : ∀ n i, net_Check_L1 c fl k n i = reredosref_FlyingFault_L1 c fl k n i := by
  intro n
  induction n with
  | zero => intro i; rfl
  | succ n ih =>
    intro i
    rw [net_Check_L1, reredosref_FlyingFault_L1]
    by_cases hi : i < fl.length
    · rw [if_pos (by simpa using hi), if_pos (by simpa using hi), bind_at hi, bind_at hi]
      simp only [withK, ih, fly2 c hl i (by omega)]
    · rw [if_neg (by simpa using hi), if_neg (by simpa using hi)]
theorem fly1_total (c : Config) (hl : c.Labels.length ≤ maxLen) (fl : List (List Message)) (k : Option Int) (hk : ∃ r, k = some r) : ∀ n i, fl.length < n + i → i ≤ fl.length → ∃ r, reredosref_FlyingFault_L1 c fl k n i = some r := by
  intro n
  induction n with
  | zero => intro i h1 h2; omega
  | succ n ih =>
    intro i h1 h2
    rw [reredosref_FlyingFault_L1]
    by_cases hi : i < fl.length
    · rw [if_pos (by simpa using hi), bind_at hi]
      simp only [withK]
      split
      · exact ⟨_, rfl⟩
      · exact fly2_total c hl i _ _ (ih _ (by omega) (by omega)) _ _ (by omega) (by omega)
    · rw [if_neg (by simpa using hi)]; exact hk
theorem fly_same (c : Config) (hl : c.Labels.length ≤ maxLen) (fl : List (List Message)) : net_Check c fl = reredosref_FlyingFault c fl ∧ ∃ r, reredosref_FlyingFault c fl = some r := by
  obtain ⟨e, he, hb⟩ := fault_total c
  simp only [net_Check, reredosref_FlyingFault, label_same c, he, Option.bind_some, withK]
  by_cases h0 : e = 0
  case neg => simp [h0]
  obtain ⟨hs, _⟩ := hb h0
  subst h0
  simp only [bne_self_eq_false, Bool.false_eq_true, if_false]
  by_cases h1 : ((fl.length : Nat) : Int) = IntKind.i64.wrap (c.Sites * c.Sites)
  · have hlen : fl.length ≤ 16 := by
      have hS : c.Sites = 1 ∨ c.Sites = 2 ∨ c.Sites = 3 ∨ c.Sites = 4 := by omega
      rcases hS with h | h | h | h <;> rw [h, wrap_in (by omega) (by omega)] at h1 <;> omega
    have : (((fl.length : Nat) : Int) != IntKind.i64.wrap (c.Sites * c.Sites)) = false := by simpa using h1
    simp only [this, Bool.false_eq_true, if_false]
    exact ⟨fly1 c hl fl hlen _ _ _, fly1_total c hl fl _ ⟨_, rfl⟩ _ _ (by omega) (by omega)⟩
  · have : (((fl.length : Nat) : Int) != IntKind.i64.wrap (c.Sites * c.Sites)) = true := by simpa using h1
    simp only [this, if_true]
    exact ⟨trivial, _, rfl⟩

end Go.V.Dec
