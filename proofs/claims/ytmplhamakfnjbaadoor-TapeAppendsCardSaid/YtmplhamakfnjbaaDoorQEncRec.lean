/- Plain laws (EncRec): no program, no memory; conditions as stated. -/
import Derived.Test.YtmplhamakfnjbaaDoorG4
import Derived.Test.YtmplhamakfnjbaaDoorQEnc
import Derived.Test.YtmplhamakfnjbaaDoorQWireRec
set_option linter.unusedVariables false
set_option linter.unusedSimpArgs false
namespace Go.V.Dec
open Go Go.Proofs Classical
set_option maxRecDepth 100000
set_option maxHeartbeats 4000000
theorem rec_bounds (c : Config) (r : Record) (h : reredosref_RecordFault c r = some 0) : (1 ≤ r.Kind ∧ r.Kind ≤ 6) ∧ ((0 ≤ r.Txn.Site ∧ r.Txn.Site ≤ 3) ∧ 1 ≤ r.Txn.N ∧ r.Txn.N ≤ 1048576) ∧ (0 ≤ r.Value ∧ r.Value ≤ 1073741824) ∧ (0 ≤ r.Ask ∧ r.Ask ≤ 1048576) := by
  obtain ⟨e, he, hb⟩ := fault_total c
  simp only [reredosref_RecordFault, he, Option.bind_some] at h
  by_cases h0 : e = 0
  case neg => simp [h0] at h
  obtain ⟨hs, _⟩ := hb h0
  subst h0
  simp only [txnMay_eq c _ hs, In_eq, Option.bind_some, bne_self_eq_false, Bool.false_eq_true, if_false] at h
  by_cases hk : 1 ≤ r.Kind ∧ r.Kind ≤ 6
  case neg => simp [hk] at h
  by_cases a5 : wtxnR c r.Txn
  case neg => simp [hk, a5] at h
  by_cases a8 : 0 ≤ r.Key ∧ r.Key ≤ 7
  case neg => simp [hk, a5, a8] at h
  by_cases a9 : 0 ≤ r.Value ∧ r.Value ≤ 1073741824
  case neg => simp [hk, a5, a8, a9] at h
  by_cases b3 : 0 ≤ r.Ask ∧ r.Ask ≤ 1048576
  case neg => simp [hk, a5, a8, a9, b3] at h
  obtain ⟨q1, q2, q3, q4⟩ := a5
  exact ⟨hk, ⟨⟨q1, by omega⟩, q3, q4⟩, a9, b3⟩
theorem sites_enc (r : Record) (k : List Int → Option ((List Int) × Int)) : ∀ n i acc, r.Sites.length < n + i → i ≤ r.Sites.length → acc.length + r.Sites.length ≤ 50000000000000 + i →
    wire_EncodeRecord_L9 r k n i acc = reredosref_RecordBytes_L1 r k n i acc ∧ reredosref_RecordBytes_L1 r k n i acc = k (acc ++ (r.Sites.drop i).map IntKind.u8.wrap) := by
  intro n
  induction n with
  | zero => intro i acc h1 h2; omega
  | succ n ih =>
    intro i acc h1 h2 h3
    rw [wire_EncodeRecord_L9, reredosref_RecordBytes_L1]
    by_cases hi : i < r.Sites.length
    · obtain ⟨g1, g2⟩ := ih (i + 1) (acc ++ [IntKind.u8.wrap r.Sites[i]]) (by omega) (by omega) (by simp; omega)
      have hd : decide (i < r.Sites.length) = true := by simpa using hi
      simp only [hd, if_true, bind_at hi, withK]
      rw [if_pos (f1_of (by omega)), put1 (L := wire_EncodeRecord_L10 r.Sites[i] _) (x := r.Sites[i]) (fun n i acc => by rw [wire_EncodeRecord_L10]) _ (by omega)]
      refine ⟨g1, g2.trans ?_⟩
      rw [List.drop_eq_getElem_cons hi, List.map_cons]
      simp only [List.append_assoc, List.cons_append, List.nil_append]
    · have hd : decide (i < r.Sites.length) = false := by simpa using hi
      simp only [hd, Bool.false_eq_true, if_false]
      rw [List.drop_of_length_le (by omega)]
      simp
theorem enc_same (c : Config) (r : Record) (hm : r.Sites.length ≤ 40000000000000) : ∃ v, wire_EncodeRecord c r = some v ∧ reredosref_RecordBytes c r = some v := by
  obtain ⟨g, e, he⟩ := rec_same c r (by simp only [maxLen]; omega)
  simp only [wire_EncodeRecord, reredosref_RecordBytes, g, he, Option.bind_some]
  by_cases h0 : e = 0
  case neg =>
    have h1 : (e != 0) = true := by simpa using h0
    simp only [h1, if_true]
    exact ⟨_, rfl, rfl⟩
  subst h0
  obtain ⟨hk, ht, hv, ha⟩ := rec_bounds c r he
  have hpos : 0 ≤ r.Kind := by omega
  have p1 : ∀ k acc, acc.length ≤ 50000000000000 → wire_EncodeRecord_L1 r k 2 0 acc = k (acc ++ by1 r.Kind) := fun k => put1 (fun n i acc => by rw [wire_EncodeRecord_L1])
  have p2 : ∀ k acc, acc.length ≤ 50000000000000 → wire_EncodeRecord_L2 r k 2 0 acc = k (acc ++ by1 r.Txn.Site) := fun k => put1 (fun n i acc => by rw [wire_EncodeRecord_L2])
  have p3 : ∀ k acc, acc.length ≤ 50000000000000 → wire_EncodeRecord_L3 r k 4 2 acc = k (acc ++ by3 r.Txn.N) := fun k => put3 (fun n i acc => by rw [wire_EncodeRecord_L3])
  have p4 : ∀ k acc, acc.length ≤ 50000000000000 → wire_EncodeRecord_L4 r k 2 0 acc = k (acc ++ by1 r.Key) := fun k => put1 (fun n i acc => by rw [wire_EncodeRecord_L4])
  have p5 : ∀ k acc, acc.length ≤ 50000000000000 → wire_EncodeRecord_L5 r k 5 3 acc = k (acc ++ by4 r.Value) := fun k => put4 (fun n i acc => by rw [wire_EncodeRecord_L5])
  have p6 : ∀ k acc, acc.length ≤ 50000000000000 → wire_EncodeRecord_L6 r k 4 2 acc = k (acc ++ by3 r.Ask) := fun k => put3 (fun n i acc => by rw [wire_EncodeRecord_L6])
  have p7 : ∀ (b : Nat) k acc, acc.length ≤ 50000000000000 → wire_EncodeRecord_L7 b k 2 0 acc = k (acc ++ by1 (b : Int)) := fun b k => put1 (fun n i acc => by rw [wire_EncodeRecord_L7])
  have p8 : ∀ k acc, acc.length ≤ 50000000000000 → wire_EncodeRecord_L8 r k 2 0 acc = k (acc ++ by1 (r.Sites.length : Int)) := fun k => put1 (fun n i acc => by rw [wire_EncodeRecord_L8])
  have len : ∀ x y : List Int, x.length + y.length ≤ 50000000000000 → (x ++ y).length ≤ 50000000000000 := fun x y h => by simpa using h
  simp only [bne_self_eq_false, Bool.false_eq_true, if_false, if_pos hpos, txn_bytes r.Txn ht, bytes4 r.Value (by omega), bytes3 r.Ask (by omega), bit_bytes, Option.bind_some, withK]
  rw [p1 _ _ (by simp), p2 _ _ (by simp [by1_len]), p3 _ _ (by simp [by1_len]), joined_eq _ (by simp [by1_len, by3_len])]
  obtain ⟨Kind, Txn, Key, Value, Ask, Yes, Sites⟩ := r
  simp only at *
  have hkk : Kind = 1 ∨ Kind = 2 ∨ Kind = 3 ∨ Kind = 4 ∨ Kind = 5 ∨ Kind = 6 := by omega
  rcases hkk with rfl | rfl | rfl | rfl | rfl | rfl
  · simp only [show tab_wire_records[(1 : Int).toNat]? = some ⟨false, true, true, false, true, false, false, false⟩ from rfl, Option.bind_some, if_true, Bool.false_eq_true, if_false, beq_self_eq_true]
    rw [p4 _ _ (by simp [by1_len, by3_len]), p5 _ _ (by simp [by1_len, by3_len]), p6 _ _ (by simp [by1_len, by3_len, by4_len]), joined_eq _ (by simp [by1_len, by3_len, by4_len])]
    exact ⟨_, rfl, by simp [by1]⟩
  · simp only [show tab_wire_records[(2 : Int).toNat]? = some ⟨false, false, false, false, false, true, false, false⟩ from rfl, Option.bind_some, if_true, Bool.false_eq_true, if_false, beq_self_eq_true, show ((2 : Int) == 1) = false from rfl]
    cases Yes
    · simp only [Bool.false_eq_true, if_false]
      rw [p7 _ _ _ (by simp [by1_len, by3_len]), joined_eq _ (by simp [by1_len, by3_len])]
      exact ⟨_, rfl, by simp [by1]⟩
    · simp only [if_true]
      rw [p7 _ _ _ (by simp [by1_len, by3_len]), joined_eq _ (by simp [by1_len, by3_len])]
      exact ⟨_, rfl, by simp [by1]⟩
  · simp only [show tab_wire_records[(3 : Int).toNat]? = some ⟨false, false, false, false, false, false, false, true⟩ from rfl, Option.bind_some, if_true, Bool.false_eq_true, if_false, beq_self_eq_true, show ((3 : Int) == 1) = false from rfl, show ((3 : Int) == 2) = false from rfl, show ((3 : Int) == 6) = false from rfl]
    rw [p8 _ _ (by simp [by1_len, by3_len]), if_pos (f1_of (by simp [by1_len, by3_len]))]
    obtain ⟨s1, s2⟩ := sites_enc ⟨3, Txn, Key, Value, Ask, Yes, Sites⟩ (fun b => some (b, 0)) (Sites.length + 1) 0 ([] ++ by1 3 ++ by1 Txn.Site ++ by3 Txn.N ++ by1 (Sites.length : Int)) (by simp) (by simp) (by simp [by1_len, by3_len]; omega)
    refine ⟨_, s1.trans s2, ?_⟩
    rw [← s2]
    simp [by1]
  · simp only [show tab_wire_records[(4 : Int).toNat]? = some ⟨false, false, false, false, false, false, false, false⟩ from rfl, Option.bind_some, if_true, Bool.false_eq_true, if_false, beq_self_eq_true, show ((4 : Int) == 1) = false from rfl, show ((4 : Int) == 2) = false from rfl, show ((4 : Int) == 6) = false from rfl, show ((4 : Int) == 3) = false from rfl]
    exact ⟨_, rfl, by simp [by1]⟩
  · simp only [show tab_wire_records[(5 : Int).toNat]? = some ⟨false, false, false, false, false, false, false, false⟩ from rfl, Option.bind_some, if_true, Bool.false_eq_true, if_false, beq_self_eq_true, show ((5 : Int) == 1) = false from rfl, show ((5 : Int) == 2) = false from rfl, show ((5 : Int) == 6) = false from rfl, show ((5 : Int) == 3) = false from rfl]
    exact ⟨_, rfl, by simp [by1]⟩
  · simp only [show tab_wire_records[(6 : Int).toNat]? = some ⟨false, false, false, false, false, true, false, false⟩ from rfl, Option.bind_some, if_true, Bool.false_eq_true, if_false, beq_self_eq_true, show ((6 : Int) == 1) = false from rfl, show ((6 : Int) == 2) = false from rfl]
    cases Yes
    · simp only [Bool.false_eq_true, if_false]
      rw [p7 _ _ _ (by simp [by1_len, by3_len]), joined_eq _ (by simp [by1_len, by3_len])]
      exact ⟨_, rfl, by simp [by1]⟩
    · simp only [if_true]
      rw [p7 _ _ _ (by simp [by1_len, by3_len]), joined_eq _ (by simp [by1_len, by3_len])]
      exact ⟨_, rfl, by simp [by1]⟩

end Go.V.Dec
