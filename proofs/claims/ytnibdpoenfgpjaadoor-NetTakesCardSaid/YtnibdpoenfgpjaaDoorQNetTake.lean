/- Plain laws (NetTake): no program, no memory; conditions as stated. -/
import Derived.Test.YtnibdpoenfgpjaaDoorG1
import Derived.Test.YtnibdpoenfgpjaaDoorQNetCopy
set_option linter.unusedVariables false
set_option linter.unusedSimpArgs false
namespace Go.V.Dec
open Go Go.Proofs Classical
set_option maxRecDepth 100000
set_option maxHeartbeats 4000000
variable (G : Nat → Option (List D))
theorem fly2_zero (c : Config) (a : Nat) (x : List Message) (k : Option Int) : ∀ n j, reredosref_FlyingFault_L2 c a x k n j = some 0 → k = some 0 := by
  intro n
  induction n with
  | zero => intro j h; cases h
  | succ n ih =>
    intro j h
    rw [reredosref_FlyingFault_L2] at h
    by_cases hj : j < x.length
    · rw [if_pos (by simpa using hj), bind_at hj] at h
      cases hm : reredosref_MessageFault c x[j] with
      | none => rw [hm] at h; cases h
      | some r =>
        rw [hm] at h
        simp only [Option.bind_some] at h
        split at h
        · simp at h
        · split at h
          · simp at h
          · exact ih _ h
    · rw [if_neg (by simpa using hj)] at h; exact h
theorem fly1_small (c : Config) (fl : List (List Message)) (k : Option Int) : ∀ n i, reredosref_FlyingFault_L1 c fl k n i = some 0 → ∀ (j : Nat) (hj : j < fl.length), i ≤ j → fl[j].length ≤ 30 := by
  intro n
  induction n with
  | zero => intro i h; cases h
  | succ n ih =>
    intro i h j hj hij
    rw [reredosref_FlyingFault_L1] at h
    have hi : i < fl.length := by omega
    rw [if_pos (by simpa using hi), bind_at hi] at h
    by_cases h30 : ((fl[i].length : Nat) : Int) > 30
    · rw [if_pos (by simpa using h30)] at h; simp at h
    · rw [if_neg (by simpa using h30)] at h
      simp only [withK] at h
      have h2 := fly2_zero _ _ _ _ _ _ h
      rcases Nat.eq_or_lt_of_le hij with rfl | h3
      · omega
      · exact ih _ h2 j hj h3
theorem fly_small (c : Config) (fl : List (List Message)) (h : reredosref_FlyingFault c fl = some 0) : ∀ (j : Nat) (hj : j < fl.length), fl[j].length ≤ 30 := by
  intro j hj
  obtain ⟨e, he, hb⟩ := fault_total c
  simp only [reredosref_FlyingFault, he, Option.bind_some, withK] at h
  by_cases h0 : e = 0
  case neg => simp [h0] at h
  subst h0
  simp only [bne_self_eq_false, Bool.false_eq_true, if_false] at h
  split at h
  · simp at h
  · exact fly1_small c fl _ _ _ h j hj (Nat.zero_le _)
theorem rest_loop (p : Int) (x : List Message) (hf : fits 96 x.length) (k : Nat) (hk : p.tmod ((x.length : Nat) : Int) = (k : Int)) (hkl : k < x.length) (K : List Message → Option (List (List Message) × Message × Int)) :
    ∀ n i acc, x.length < n + i → i ≤ x.length → acc.length ≤ i → reredosref_TakenOf_L1 p x K n i acc = K (acc ++ (if i ≤ k then (x.drop i).take (k - i) ++ x.drop (k + 1) else x.drop i)) := by
  intro n
  induction n with
  | zero => intro i acc h1 h2; omega
  | succ n ih =>
    intro i acc h1 h2 h3
    rw [reredosref_TakenOf_L1]
    by_cases hi : i < x.length
    · have hz : ¬ ((x.length : Nat) : Int) = 0 := by omega
      rw [if_pos (by simpa using hi), if_neg hz]
      simp only [withK, hk]
      by_cases hik : i = k
      · subst hik
        rw [if_neg (by simp), ih _ _ (by omega) (by omega) (by omega), if_neg (by omega), if_pos (Nat.le_refl _)]
        simp
      · have hb : (((i : Nat) : Int) != (k : Int)) = true := by simp; omega
        rw [if_pos hb, bind_at hi, if_pos (fits_le hf (by omega)), ih _ _ (by omega) (by omega) (by simp; omega)]
        congr 1
        rw [List.append_assoc]
        congr 1
        by_cases hlt : i < k
        · rw [if_pos (by omega), if_pos (by omega), List.drop_eq_getElem_cons hi, show k - i = (k - (i + 1)) + 1 from by omega, List.take_succ_cons]; rfl
        · rw [if_neg (by omega), if_neg (by omega), List.drop_eq_getElem_cons hi]; rfl
    · rw [if_neg (by simpa using hi), if_neg (by omega), List.drop_of_length_le (by omega), List.append_nil]
theorem rest2 (p : Int) (x : List Message) (K) : ∀ n i acc, reredosref_TakenOf_L2 p x K n i acc = reredosref_TakenOf_L1 p x K n i acc := by
  intro n
  induction n with
  | zero => intros; rfl
  | succ n ih => intro i acc; rw [reredosref_TakenOf_L2, reredosref_TakenOf_L1]; simp only [ih]
theorem rest3 (p : Int) (x : List Message) (K) : ∀ n i acc, reredosref_TakenOf_L3 p x K n i acc = reredosref_TakenOf_L1 p x K n i acc := by
  intro n
  induction n with
  | zero => intros; rfl
  | succ n ih => intro i acc; rw [reredosref_TakenOf_L3, reredosref_TakenOf_L1]; simp only [ih]
theorem rest4 (p : Int) (x : List Message) (K) : ∀ n i acc, reredosref_TakenOf_L4 p x K n i acc = reredosref_TakenOf_L1 p x K n i acc := by
  intro n
  induction n with
  | zero => intros; rfl
  | succ n ih => intro i acc; rw [reredosref_TakenOf_L4, reredosref_TakenOf_L1]; simp only [ih]
theorem rest_all (p : Int) (x : List Message) (hf : fits 96 x.length) (k : Nat) (hk : p.tmod ((x.length : Nat) : Int) = (k : Int)) (hkl : k < x.length) (K : List Message → Option (List (List Message) × Message × Int)) :
    reredosref_TakenOf_L1 p x K (x.length + 1) 0 [] = K (x.take k ++ x.drop (k + 1)) := by
  rw [rest_loop p x hf k hk hkl K _ _ _ (by omega) (by omega) (by simp), if_pos (Nat.zero_le _)]
  simp
theorem del_eq (x : List Message) (k : Nat) (hkl : k < x.length) (hl : x.length ≤ 30) : deleteF x (k : Int) (IntKind.i64.wrap ((k : Int) + 1)) = some (x.take k ++ x.drop (k + 1)) := by
  rw [wrap_in (by omega) (by omega), deleteF, if_pos (by omega)]
  simp
theorem take_same (c : Config) (hl : c.Labels.length ≤ maxLen) (fl : List (List Message)) (h1 : fits 24 fl.length) (h2 : ∀ x ∈ fl, fits 96 x.length) (f t p d : Int) :
    ∃ r, net_Take c fl f t p d = some r ∧ reredosref_TakenOf c fl f t p d = some r := by
  obtain ⟨e1, e, he⟩ := fly_same c hl fl
  by_cases h0 : e = 0
  case neg =>
    have hb : (e != 0) = true := by simpa using h0
    have hb2 : (e == 0) = false := by simpa using h0
    refine ⟨([], (Message.mk 0 0 0 (Txn.mk 0 0) 0 0 0 0 0 false 0), e), ?_, ?_⟩
    · simp only [net_Take, e1, he, Option.bind_some, if_pos hb]
    · simp only [reredosref_TakenOf, he, Option.bind_some, withK, hb2, hb, Bool.false_eq_true, if_false, if_true]
  subst h0
  obtain ⟨hS, hlen⟩ := fly_len c fl he
  have hsm := fly_small c fl he
  have hw : IntKind.i64.wrap (c.Sites - 1) = c.Sites - 1 := wrap_in (by omega) (by omega)
  by_cases hd : 2 ≤ d ∧ d ≤ 4
  case neg =>
    refine ⟨([], (Message.mk 0 0 0 (Txn.mk 0 0) 0 0 0 0 0 false 0), 3), ?_, ?_⟩
    · have d2 : (d != 2) = true := by simp; omega
      have d3 : (d != 3) = true := by simp; omega
      have d4 : (d != 4) = true := by simp; omega
      simp only [net_Take, e1, he, Option.bind_some, bne_self_eq_false, Bool.false_eq_true, if_false, d2, d3, d4, if_true]
    · simp [reredosref_TakenOf, he, In_eq, withK, hd]
  have hd' : d = 2 ∨ d = 3 ∨ d = 4 := by omega
  by_cases hr : (0 ≤ f ∧ f < c.Sites) ∧ (0 ≤ t ∧ t < c.Sites) ∧ 0 ≤ p
  case neg =>
    refine ⟨([], (Message.mk 0 0 0 (Txn.mk 0 0) 0 0 0 0 0 false 0), 2), ?_, ?_⟩
    · simp only [net_Take, e1, he, Option.bind_some, bne_self_eq_false, Bool.false_eq_true, if_false]
      by_cases a1 : f < 0
      · rcases hd' with rfl | rfl | rfl <;> simp [a1]
      by_cases a2 : f ≥ c.Sites
      · rcases hd' with rfl | rfl | rfl <;> simp [a1, a2]
      by_cases a3 : t < 0
      · rcases hd' with rfl | rfl | rfl <;> simp [a1, a2, a3]
      by_cases a4 : t ≥ c.Sites
      · rcases hd' with rfl | rfl | rfl <;> simp [a1, a2, a3, a4]
      by_cases a5 : p < 0
      · rcases hd' with rfl | rfl | rfl <;> simp [a1, a2, a3, a4, a5]
      exact absurd (by omega) hr
    · simp only [reredosref_TakenOf, he, In_eq, withK, hd, hw, Option.bind_some]
      by_cases b1 : 0 ≤ f ∧ f ≤ c.Sites - 1
      case neg => simp [b1]
      by_cases b2 : 0 ≤ t ∧ t ≤ c.Sites - 1
      case neg => simp [b1, b2]
      have b3 : p < 0 := by omega
      simp [b1, b2, b3]
  obtain ⟨hf, ht, hp0⟩ := hr
  obtain ⟨q1, q2⟩ := net_place c.Sites f t hS hf ht
  generalize hP : IntKind.i64.wrap (IntKind.i64.wrap (f * c.Sites) + t) = P at q1 q2
  have hp : P.toNat < fl.length := by omega
  have hx96 := h2 _ (List.getElem_mem hp)
  have hx30 := hsm _ hp
  have a1 : (f < 0) = False := eq_false (by omega)
  have a2 : (f ≥ c.Sites) = False := eq_false (by omega)
  have a3 : (t < 0) = False := eq_false (by omega)
  have a4 : (t ≥ c.Sites) = False := eq_false (by omega)
  have a5 : (p < 0) = False := eq_false (by omega)
  have b0 : decide (2 ≤ d ∧ d ≤ 4) = true := decide_eq_true hd
  have b1 : decide (0 ≤ f ∧ f ≤ c.Sites - 1) = true := decide_eq_true (by omega)
  have b2 : decide (0 ≤ t ∧ t ≤ c.Sites - 1) = true := decide_eq_true (by omega)
  by_cases hx0 : fl[P.toNat].length = 0
  · refine ⟨([], (Message.mk 0 0 0 (Txn.mk 0 0) 0 0 0 0 0 false 0), 6), ?_, ?_⟩
    · simp only [net_Take, e1, he, Option.bind_some, bne_self_eq_false, Bool.false_eq_true, if_false, decide_eq_true_eq, a1, a2, a3, a4, a5, own_copy fl h1 h2, hP, if_pos q1, bind_at hp, hx0]
      rcases hd' with rfl | rfl | rfl <;> simp
    · simp only [reredosref_TakenOf, he, In_eq, withK, hw, Option.bind_some, b0, b1, b2, beq_self_eq_true, bne_self_eq_false, Bool.not_true, Bool.false_eq_true, if_false, if_true, decide_eq_true_eq, a5, hP, if_pos q1, bind_at hp, hx0]
      rcases hd' with rfl | rfl | rfl <;> simp
  obtain ⟨k, hk, hkl⟩ : ∃ k : Nat, p.tmod ((fl[P.toNat].length : Nat) : Int) = (k : Int) ∧ k < fl[P.toNat].length := by
    have hpos : (0 : Int) < ((fl[P.toNat].length : Nat) : Int) := by omega
    have g1 := Int.tmod_nonneg ((fl[P.toNat].length : Nat) : Int) hp0
    have g2 := Int.tmod_lt_of_pos p hpos
    exact ⟨(p.tmod ((fl[P.toNat].length : Nat) : Int)).toNat, by omega, by omega⟩
  have z1 : (((fl[P.toNat].length : Nat) : Int) == 0) = false := by simp; intro h; rw [h] at hx0; simp at hx0
  have z2 : (((fl[P.toNat].length : Nat) : Int) = 0) = False := eq_false (by omega)
  have k0 : ((0 : Int) ≤ (k : Int)) = True := eq_true (by omega)
  by_cases h4 : d = 4
  · subst h4
    by_cases h30 : fl[P.toNat].length = 30
    · refine ⟨([], (Message.mk 0 0 0 (Txn.mk 0 0) 0 0 0 0 0 false 0), 8), ?_, ?_⟩
      · simp only [net_Take, e1, he, Option.bind_some, bne_self_eq_false, Bool.false_eq_true, if_false, decide_eq_true_eq, a1, a2, a3, a4, a5, own_copy fl h1 h2, hP, if_pos q1, bind_at hp, z1, z2, hk, k0, if_true, Int.toNat_natCast, bind_at hkl]
        simp [h30]
      · simp only [reredosref_TakenOf, he, In_eq, withK, hw, Option.bind_some, b0, b1, b2, beq_self_eq_true, bne_self_eq_false, Bool.not_true, Bool.false_eq_true, if_false, if_true, decide_eq_true_eq, a5, hP, if_pos q1, bind_at hp, z1]
        simp [h30]
    · have n30 : (((fl[P.toNat].length : Nat) : Int) == 30) = false := by simp; omega
      have g30 : (((fl[P.toNat].length : Nat) : Int) ≥ 30) = False := eq_false (by omega)
      have hft : fits 96 (fl[P.toNat].length + 1) := fits_msg (by omega)
      refine ⟨(fl.set P.toNat (fl[P.toNat] ++ [fl[P.toNat][k]]), fl[P.toNat][k], 0), ?_, ?_⟩
      · simp only [net_Take, e1, he, Option.bind_some, bne_self_eq_false, Bool.false_eq_true, if_false, decide_eq_true_eq, a1, a2, a3, a4, a5, own_copy fl h1 h2, hP, if_pos q1, bind_at hp, z1, z2, hk, k0, if_true, Int.toNat_natCast, bind_at hkl, n30, if_pos hft]
        simp
      · simp only [reredosref_TakenOf, he, In_eq, withK, hw, Option.bind_some, b0, b1, b2, beq_self_eq_true, bne_self_eq_false, Bool.not_true, Bool.false_eq_true, if_false, if_true, decide_eq_true_eq, a5, hP, if_pos q1, bind_at hp, z1, z2, g30, fly_copy fl h1 h2, hk, k0, Int.toNat_natCast, bind_at hkl, if_pos hft]
  · have d4 : (d == 4) = false := by simpa using h4
    refine ⟨(fl.set P.toNat (fl[P.toNat].take k ++ fl[P.toNat].drop (k + 1)), fl[P.toNat][k], 0), ?_, ?_⟩
    · simp only [net_Take, e1, he, Option.bind_some, bne_self_eq_false, Bool.false_eq_true, if_false, decide_eq_true_eq, a1, a2, a3, a4, a5, own_copy fl h1 h2, hP, if_pos q1, bind_at hp, z1, z2, hk, k0, if_true, Int.toNat_natCast, bind_at hkl, d4, del_eq _ k hkl hx30]
      rcases hd' with rfl | rfl | rfl <;> simp
    · simp only [reredosref_TakenOf, he, In_eq, withK, hw, Option.bind_some, b0, b1, b2, beq_self_eq_true, bne_self_eq_false, Bool.not_true, Bool.false_eq_true, if_false, if_true, decide_eq_true_eq, a5, hP, if_pos q1, bind_at hp, z1, z2, d4, fly_copy fl h1 h2, rest_all p _ hx96 k hk hkl, rest2, rest3, rest4, hk, k0, Int.toNat_natCast, bind_at hkl]

end Go.V.Dec
