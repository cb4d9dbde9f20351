/- Plain laws (EncMsg): no program, no memory; conditions as stated. -/
import Derived.Test.YtndijondhilbcaaDoorH4
import Derived.Test.YtndijondhilbcaaDoorREnc
import Derived.Test.YtndijondhilbcaaDoorRWireMsg
set_option linter.unusedVariables false
set_option linter.unusedSimpArgs false
namespace Go.V.Dec
open Go Go.Proofs Classical
set_option maxRecDepth 100000
set_option maxHeartbeats 4000000
theorem msg_bounds2 (c : Config) (m : Message) (h : reredosref_MessageFault c m = some 0) : (1 ≤ m.Kind ∧ m.Kind ≤ 9) ∧ ((0 ≤ m.Txn.Site ∧ m.Txn.Site ≤ 3) ∧ 1 ≤ m.Txn.N ∧ m.Txn.N ≤ 1048576) ∧ (0 ≤ m.Value ∧ m.Value ≤ 1073741824) ∧ (0 ≤ m.Version ∧ m.Version ≤ 1048576) ∧ (0 ≤ m.Ask ∧ m.Ask ≤ 1048576) := by
  obtain ⟨e, he, hb⟩ := fault_total c
  simp only [reredosref_MessageFault, he, Option.bind_some] at h
  by_cases h0 : e = 0
  case neg => simp [h0] at h
  obtain ⟨hs, hll, hl6, _⟩ := hb h0
  subst h0
  simp only [In_eq, Option.bind_some, bne_self_eq_false, Bool.false_eq_true, if_false, txnMay_eq c _ hs, labelMay_eq c _ (by simp only [maxLen]; omega : c.Labels.length ≤ maxLen)] at h
  rw [wrap_in (n := c.Sites - 1) (by omega) (by omega)] at h
  by_cases hk : 1 ≤ m.Kind ∧ m.Kind ≤ 9
  case neg => simp [hk] at h
  by_cases a1 : 0 ≤ m.From ∧ m.From ≤ c.Sites - 1
  case neg => simp [hk, a1] at h
  by_cases a2 : 0 ≤ m.To ∧ m.To ≤ c.Sites - 1
  case neg => simp [hk, a1, a2] at h
  by_cases a3 : wtxnR c m.Txn
  case neg => simp [hk, a1, a2, a3] at h
  by_cases a4 : 0 ≤ m.Label ∧ m.Label < (c.Labels.length : Int)
  case neg => simp [hk, a1, a2, a3, a4] at h
  by_cases a5 : 0 ≤ m.Key ∧ m.Key ≤ 7
  case neg => simp [hk, a1, a2, a3, a4, a5] at h
  by_cases a6 : 0 ≤ m.Value ∧ m.Value ≤ 1073741824
  case neg => simp [hk, a1, a2, a3, a4, a5, a6] at h
  by_cases a7 : 0 ≤ m.Version ∧ m.Version ≤ 1048576
  case neg => simp [hk, a1, a2, a3, a4, a5, a6, a7] at h
  by_cases a8 : 0 ≤ m.Ask ∧ m.Ask ≤ 1048576
  case neg => simp [hk, a1, a2, a3, a4, a5, a6, a7, a8] at h
  obtain ⟨q1, q2, q3, q4⟩ := a3
  exact ⟨hk, ⟨⟨q1, by omega⟩, q3, q4⟩, a6, a7, a8⟩
theorem encm_same (c : Config) (m : Message) (hl : c.Labels.length ≤ maxLen) : ∃ v, wire_EncodeMessage c m = some v ∧ reredosref_MessageBytes c m = some v := by
  obtain ⟨g, e, he⟩ := msg_same c m hl
  simp only [wire_EncodeMessage, reredosref_MessageBytes, g, he, Option.bind_some]
  by_cases h0 : e = 0
  case neg =>
    have h1 : (e != 0) = true := by simpa using h0
    simp only [h1, if_true]
    exact ⟨_, rfl, rfl⟩
  subst h0
  obtain ⟨hk, ht, hv, hw, ha⟩ := msg_bounds2 c m he
  have hpos : 0 ≤ m.Kind := by omega
  have p1 : ∀ k acc, acc.length ≤ 50000000000000 → wire_EncodeMessage_L1 m k 2 0 acc = k (acc ++ by1 m.Kind) := fun k => put1 (fun n i acc => by rw [wire_EncodeMessage_L1])
  have p2 : ∀ k acc, acc.length ≤ 50000000000000 → wire_EncodeMessage_L2 m k 2 0 acc = k (acc ++ by1 m.From) := fun k => put1 (fun n i acc => by rw [wire_EncodeMessage_L2])
  have p3 : ∀ k acc, acc.length ≤ 50000000000000 → wire_EncodeMessage_L3 m k 2 0 acc = k (acc ++ by1 m.To) := fun k => put1 (fun n i acc => by rw [wire_EncodeMessage_L3])
  have p4 : ∀ k acc, acc.length ≤ 50000000000000 → wire_EncodeMessage_L4 m k 2 0 acc = k (acc ++ by1 m.Txn.Site) := fun k => put1 (fun n i acc => by rw [wire_EncodeMessage_L4])
  have p5 : ∀ k acc, acc.length ≤ 50000000000000 → wire_EncodeMessage_L5 m k 4 2 acc = k (acc ++ by3 m.Txn.N) := fun k => put3 (fun n i acc => by rw [wire_EncodeMessage_L5])
  have p6 : ∀ k acc, acc.length ≤ 50000000000000 → wire_EncodeMessage_L6 m k 2 0 acc = k (acc ++ by1 m.Label) := fun k => put1 (fun n i acc => by rw [wire_EncodeMessage_L6])
  have p7 : ∀ k acc, acc.length ≤ 50000000000000 → wire_EncodeMessage_L7 m k 2 0 acc = k (acc ++ by1 m.Key) := fun k => put1 (fun n i acc => by rw [wire_EncodeMessage_L7])
  have p8 : ∀ k acc, acc.length ≤ 50000000000000 → wire_EncodeMessage_L8 m k 5 3 acc = k (acc ++ by4 m.Value) := fun k => put4 (fun n i acc => by rw [wire_EncodeMessage_L8])
  have p9 : ∀ k acc, acc.length ≤ 50000000000000 → wire_EncodeMessage_L9 m k 4 2 acc = k (acc ++ by3 m.Version) := fun k => put3 (fun n i acc => by rw [wire_EncodeMessage_L9])
  have p10 : ∀ k acc, acc.length ≤ 50000000000000 → wire_EncodeMessage_L10 m k 4 2 acc = k (acc ++ by3 m.Ask) := fun k => put3 (fun n i acc => by rw [wire_EncodeMessage_L10])
  have p12 : ∀ k acc, acc.length ≤ 50000000000000 → wire_EncodeMessage_L12 m k 2 0 acc = k (acc ++ by1 m.Code) := fun k => put1 (fun n i acc => by rw [wire_EncodeMessage_L12])
  have p11 : ∀ (b : Nat) k acc, acc.length ≤ 50000000000000 → wire_EncodeMessage_L11 b k 2 0 acc = k (acc ++ by1 (b : Int)) := fun b k => put1 (fun n i acc => by rw [wire_EncodeMessage_L11])
  simp only [bne_self_eq_false, Bool.false_eq_true, if_false, if_pos hpos, txn_bytes m.Txn ht, bytes4 m.Value (by omega), bytes3 m.Ask (by omega), bytes3 m.Version (by omega), bit_bytes, Option.bind_some, withK]
  rw [p1 _ _ (by simp), p2 _ _ (by simp [by1_len, by3_len, by4_len]), p3 _ _ (by simp [by1_len, by3_len, by4_len]), p4 _ _ (by simp [by1_len, by3_len, by4_len]), p5 _ _ (by simp [by1_len, by3_len, by4_len]), joined_eq _ (by simp [by1_len, by3_len, by4_len])]
  obtain ⟨Kind, From, To, Txn, Label, Key, Value, Version, Ask, Yes, Code⟩ := m
  simp only at *
  have hkk : Kind = 1 ∨ Kind = 2 ∨ Kind = 3 ∨ Kind = 4 ∨ Kind = 5 ∨ Kind = 6 ∨ Kind = 7 ∨ Kind = 8 ∨ Kind = 9 := by omega
  rcases hkk with rfl | rfl | rfl | rfl | rfl | rfl | rfl | rfl | rfl
  · simp only [show tab_wire_messages[(1 : Int).toNat]? = some ⟨true, true, false, false, true, false, false, false⟩ from rfl, Option.bind_some, if_true, Bool.false_eq_true, if_false, beq_self_eq_true, show ((1 : Int) == 2) = false from rfl, show ((1 : Int) == 4) = false from rfl, show ((1 : Int) == 3) = false from rfl, show ((1 : Int) == 7) = false from rfl, show ((1 : Int) == 5) = false from rfl, show ((1 : Int) == 6) = false from rfl]
    rw [p6 _ _ (by simp [by1_len, by3_len, by4_len]), p7 _ _ (by simp [by1_len, by3_len, by4_len]), p10 _ _ (by simp [by1_len, by3_len, by4_len]), joined_eq _ (by simp [by1_len, by3_len, by4_len])]
    exact ⟨_, rfl, by simp [by1]⟩
  · simp only [show tab_wire_messages[(2 : Int).toNat]? = some ⟨false, true, true, false, true, false, false, false⟩ from rfl, Option.bind_some, if_true, Bool.false_eq_true, if_false, beq_self_eq_true, show ((2 : Int) == 1) = false from rfl, show ((2 : Int) == 4) = false from rfl, show ((2 : Int) == 3) = false from rfl, show ((2 : Int) == 7) = false from rfl, show ((2 : Int) == 5) = false from rfl, show ((2 : Int) == 6) = false from rfl]
    rw [p7 _ _ (by simp [by1_len, by3_len, by4_len]), p8 _ _ (by simp [by1_len, by3_len, by4_len]), p10 _ _ (by simp [by1_len, by3_len, by4_len]), joined_eq _ (by simp [by1_len, by3_len, by4_len])]
    exact ⟨_, rfl, by simp [by1]⟩
  · simp only [show tab_wire_messages[(3 : Int).toNat]? = some ⟨true, true, false, true, false, false, false, false⟩ from rfl, Option.bind_some, if_true, Bool.false_eq_true, if_false, beq_self_eq_true, show ((3 : Int) == 1) = false from rfl, show ((3 : Int) == 2) = false from rfl, show ((3 : Int) == 4) = false from rfl, show ((3 : Int) == 7) = false from rfl, show ((3 : Int) == 5) = false from rfl, show ((3 : Int) == 6) = false from rfl]
    rw [p6 _ _ (by simp [by1_len, by3_len, by4_len]), p7 _ _ (by simp [by1_len, by3_len, by4_len]), p9 _ _ (by simp [by1_len, by3_len, by4_len]), joined_eq _ (by simp [by1_len, by3_len, by4_len])]
    exact ⟨_, rfl, by simp [by1]⟩
  · simp only [show tab_wire_messages[(4 : Int).toNat]? = some ⟨false, false, false, false, false, true, false, false⟩ from rfl, Option.bind_some, if_true, Bool.false_eq_true, if_false, beq_self_eq_true, show ((4 : Int) == 1) = false from rfl, show ((4 : Int) == 2) = false from rfl, show ((4 : Int) == 3) = false from rfl, show ((4 : Int) == 7) = false from rfl, show ((4 : Int) == 5) = false from rfl, show ((4 : Int) == 6) = false from rfl]
    cases Yes
    · simp only [Bool.false_eq_true, if_false]
      rw [p11 _ _ _ (by simp [by1_len, by3_len, by4_len]), joined_eq _ (by simp [by1_len, by3_len, by4_len])]
      exact ⟨_, rfl, by simp [by1]⟩
    · simp only [if_true]
      rw [p11 _ _ _ (by simp [by1_len, by3_len, by4_len]), joined_eq _ (by simp [by1_len, by3_len, by4_len])]
      exact ⟨_, rfl, by simp [by1]⟩
  · simp only [show tab_wire_messages[(5 : Int).toNat]? = some ⟨true, true, true, true, true, false, true, false⟩ from rfl, Option.bind_some, if_true, Bool.false_eq_true, if_false, beq_self_eq_true, show ((5 : Int) == 1) = false from rfl, show ((5 : Int) == 2) = false from rfl, show ((5 : Int) == 4) = false from rfl, show ((5 : Int) == 3) = false from rfl, show ((5 : Int) == 7) = false from rfl, show ((5 : Int) == 6) = false from rfl]
    rw [p6 _ _ (by simp [by1_len, by3_len, by4_len]), p7 _ _ (by simp [by1_len, by3_len, by4_len]), p8 _ _ (by simp [by1_len, by3_len, by4_len]), p9 _ _ (by simp [by1_len, by3_len, by4_len]), p10 _ _ (by simp [by1_len, by3_len, by4_len]), p12 _ _ (by simp [by1_len, by3_len, by4_len]), joined_eq _ (by simp [by1_len, by3_len, by4_len])]
    exact ⟨_, rfl, by simp [by1]⟩
  · simp only [show tab_wire_messages[(6 : Int).toNat]? = some ⟨false, true, false, false, true, false, true, false⟩ from rfl, Option.bind_some, if_true, Bool.false_eq_true, if_false, beq_self_eq_true, show ((6 : Int) == 1) = false from rfl, show ((6 : Int) == 2) = false from rfl, show ((6 : Int) == 4) = false from rfl, show ((6 : Int) == 3) = false from rfl, show ((6 : Int) == 7) = false from rfl, show ((6 : Int) == 5) = false from rfl]
    rw [p7 _ _ (by simp [by1_len, by3_len, by4_len]), p10 _ _ (by simp [by1_len, by3_len, by4_len]), p12 _ _ (by simp [by1_len, by3_len, by4_len]), joined_eq _ (by simp [by1_len, by3_len, by4_len])]
    exact ⟨_, rfl, by simp [by1]⟩
  · simp only [show tab_wire_messages[(7 : Int).toNat]? = some ⟨true, true, false, true, false, true, false, false⟩ from rfl, Option.bind_some, if_true, Bool.false_eq_true, if_false, beq_self_eq_true, show ((7 : Int) == 1) = false from rfl, show ((7 : Int) == 2) = false from rfl, show ((7 : Int) == 4) = false from rfl, show ((7 : Int) == 3) = false from rfl, show ((7 : Int) == 5) = false from rfl, show ((7 : Int) == 6) = false from rfl]
    rw [p6 _ _ (by simp [by1_len, by3_len, by4_len]), p7 _ _ (by simp [by1_len, by3_len, by4_len]), p9 _ _ (by simp [by1_len, by3_len, by4_len])]
    cases Yes
    · simp only [Bool.false_eq_true, if_false]
      rw [p11 _ _ _ (by simp [by1_len, by3_len, by4_len]), joined_eq _ (by simp [by1_len, by3_len, by4_len])]
      exact ⟨_, rfl, by simp [by1]⟩
    · simp only [if_true]
      rw [p11 _ _ _ (by simp [by1_len, by3_len, by4_len]), joined_eq _ (by simp [by1_len, by3_len, by4_len])]
      exact ⟨_, rfl, by simp [by1]⟩
  · simp only [show tab_wire_messages[(8 : Int).toNat]? = some ⟨false, false, false, false, false, false, false, false⟩ from rfl, Option.bind_some, if_true, Bool.false_eq_true, if_false, beq_self_eq_true, show ((8 : Int) == 1) = false from rfl, show ((8 : Int) == 2) = false from rfl, show ((8 : Int) == 4) = false from rfl, show ((8 : Int) == 3) = false from rfl, show ((8 : Int) == 7) = false from rfl, show ((8 : Int) == 5) = false from rfl, show ((8 : Int) == 6) = false from rfl]
    exact ⟨_, rfl, by simp [by1]⟩
  · simp only [show tab_wire_messages[(9 : Int).toNat]? = some ⟨false, false, false, false, false, false, false, false⟩ from rfl, Option.bind_some, if_true, Bool.false_eq_true, if_false, beq_self_eq_true, show ((9 : Int) == 1) = false from rfl, show ((9 : Int) == 2) = false from rfl, show ((9 : Int) == 4) = false from rfl, show ((9 : Int) == 3) = false from rfl, show ((9 : Int) == 7) = false from rfl, show ((9 : Int) == 5) = false from rfl, show ((9 : Int) == 6) = false from rfl]
    exact ⟨_, rfl, by simp [by1]⟩

end Go.V.Dec
