/- Plain laws (NetSend): no program, no memory; conditions as stated. -/
import Derived.Test.YtnibdpoenfgpjaaDoorF1
import Derived.Test.YtnibdpoenfgpjaaDoorPNetCopy
set_option linter.unusedVariables false
set_option linter.unusedSimpArgs false
namespace Go.V.Dec
open Go Go.Proofs Classical
set_option maxRecDepth 100000
set_option maxHeartbeats 4000000
variable (G : Nat → Option (List D))
theorem sent_eq (c : Config) (l : List Message) (K : List (List Message) → Option (List (List Message) × Int)) : ∀ n i acc, net_Send_L2 c l K n i acc = reredosref_SentOf_L2 c l K n i acc := by
  intro n
  induction n with
  | zero => intros; rfl
  | succ n ih => intro i acc; rw [net_Send_L2, reredosref_SentOf_L2]; simp only [ih]
theorem sent_total (c : Config) (hS : 1 ≤ c.Sites ∧ c.Sites ≤ 4) (l : List Message) (hm : ∀ m ∈ l, (0 ≤ m.From ∧ m.From < c.Sites) ∧ (0 ≤ m.To ∧ m.To < c.Sites)) (K : List (List Message) → Option (List (List Message) × Int)) (hK : ∀ a, ∃ r, K a = some r) :
    ∀ n i acc, l.length < n + i → i ≤ l.length → ((acc.length : Nat) : Int) = c.Sites * c.Sites → ∃ r, reredosref_SentOf_L2 c l K n i acc = some r := by
  intro n
  induction n with
  | zero => intro i acc h1 h2; omega
  | succ n ih =>
    intro i acc h1 h2 h3
    rw [reredosref_SentOf_L2]
    by_cases hi : i < l.length
    · obtain ⟨hf, ht⟩ := hm _ (List.getElem_mem hi)
      obtain ⟨p1, p2⟩ := net_place c.Sites l[i].From l[i].To hS hf ht
      rw [if_pos (by simpa using hi), bind_at hi, if_pos p1]
      have hp : (IntKind.i64.wrap (IntKind.i64.wrap (l[i].From * c.Sites) + l[i].To)).toNat < acc.length := by omega
      rw [bind_at hp]
      simp only [withK]
      by_cases hlt : acc[(IntKind.i64.wrap (IntKind.i64.wrap (l[i].From * c.Sites) + l[i].To)).toNat].length < 30
      · rw [if_pos (by simp; omega), if_pos (fits_msg (by omega))]
        exact ih _ _ (by omega) (by omega) (by rw [List.length_set]; exact h3)
      · rw [if_neg (by simp; omega)]
        exact ih _ _ (by omega) (by omega) (by rw [List.length_set]; exact h3)
    · rw [if_neg (by simpa using hi)]; exact hK acc
theorem sent_check (c : Config) (hl : c.Labels.length ≤ maxLen) (l : List Message) (k : Option (List (List Message) × Int)) (K : Int → Option (List (List Message) × Int)) (hK : ∀ e, e ≠ 0 → K e = some ([], e))
    (hk : (∀ x ∈ l, reredosref_MessageFault c x = some 0) → ∃ r, k = some r ∧ K 0 = some r) : ∀ n i, l.length < n + i → i ≤ l.length → (∀ (j : Nat) (hj : j < l.length), j < i → reredosref_MessageFault c l[j] = some 0) →
      ∃ r, net_Send_L1 c l k n i = some r ∧ reredosref_SentOf_L1 c l K n 0 i = some r := by
  intro n
  induction n with
  | zero => intro i h1 h2; omega
  | succ n ih =>
    intro i h1 h2 h3
    rw [net_Send_L1, reredosref_SentOf_L1]
    by_cases hi : i < l.length
    · obtain ⟨e, r, hr⟩ := msg_same c l[i] hl
      rw [if_pos (by simpa using hi), if_pos (by simpa using hi), if_pos (by simp), bind_at hi, bind_at hi, e, hr]
      simp only [Option.bind_some]
      by_cases h0 : r = 0
      · subst h0
        simp only [bne_self_eq_false, Bool.false_eq_true, if_false]
        exact ih _ (by omega) (by omega) (fun j hj hji => by
          rcases Nat.lt_or_ge j i with h | h
          · exact h3 j hj h
          · obtain rfl : j = i := by omega
            exact hr)
      · have hb : (r != 0) = true := by simpa using h0
        refine ⟨_, by rw [if_pos hb], ?_⟩
        obtain ⟨m, rfl⟩ : ∃ m, n = m + 1 := ⟨n - 1, by omega⟩
        rw [reredosref_SentOf_L1]
        have hb2 : ¬ ((r == 0) = true) := by simpa using h0
        simp only [if_neg hb2, hK r h0, ite_self]
    · rw [if_neg (by simpa using hi), if_neg (by simpa using hi)]
      exact hk (fun x hx => by
        obtain ⟨j, hj, rfl⟩ := List.getElem_of_mem hx
        exact h3 j hj (by omega))
theorem send_same (c : Config) (hl : c.Labels.length ≤ maxLen) (fl : List (List Message)) (h1 : fits 24 fl.length) (h2 : ∀ x ∈ fl, fits 96 x.length) (l : List Message) : ∃ r, net_Send c fl l = some r ∧ reredosref_SentOf c fl l = some r := by
  obtain ⟨e1, e, he⟩ := fly_same c hl fl
  simp only [net_Send, reredosref_SentOf, e1, he, Option.bind_some, withK, own_copy fl h1 h2, fly_copy fl h1 h2]
  by_cases h0 : e = 0
  · subst h0
    obtain ⟨hS, hlen⟩ := fly_len c fl he
    simp only [bne_self_eq_false, Bool.false_eq_true, if_false]
    refine sent_check c hl l _ _ (fun e h => by have : (e != 0) = true := by simpa using h
                                                rw [if_pos this]) (fun hx => ?_) _ _ (by omega) (by omega) (fun j _ h => by omega)
    have hm : ∀ m ∈ l, (0 ≤ m.From ∧ m.From < c.Sites) ∧ (0 ≤ m.To ∧ m.To < c.Sites) := fun m hm => (msg_bounds c m (hx m hm)).2
    obtain ⟨r, hr⟩ := sent_total c hS l hm (fun b => some (b, 0)) (fun a => ⟨_, rfl⟩) (l.length + 1) 0 fl (by omega) (by omega) hlen
    refine ⟨r, by rw [sent_eq]; exact hr, ?_⟩
    simp only [bne_self_eq_false, Bool.false_eq_true, if_false]
    exact hr
  · have hb : (e != 0) = true := by simpa using h0
    refine ⟨_, by rw [if_pos hb], ?_⟩
    rw [reredosref_SentOf_L1]
    have hb2 : ¬ ((e == 0) = true) := by simpa using h0
    simp only [if_neg hb2, ite_self, if_pos hb]

end Go.V.Dec
