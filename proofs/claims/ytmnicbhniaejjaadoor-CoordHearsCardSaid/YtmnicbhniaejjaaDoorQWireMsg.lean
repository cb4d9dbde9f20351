/- Plain laws (WireMsg): no program, no memory; conditions as stated. -/
import Derived.Test.YtmnicbhniaejjaaDoorG3
import Derived.Test.YtmnicbhniaejjaaDoorQWire
import Derived.Test.YtmnicbhniaejjaaDoorQLabelM
set_option linter.unusedVariables false
set_option linter.unusedSimpArgs false
namespace Go.V.Dec
open Go Go.Proofs Classical
set_option maxRecDepth 100000
set_option maxHeartbeats 4000000
variable (G : Nat → Option (List D))
theorem wcode_eq (k : Int) : wire_code k = some (decide (k = 0 ∨ k = 11 ∨ k = 8)) := by
  simp only [wire_code, withK]
  by_cases h1 : k = 0
  · simp [h1]
  · by_cases h2 : k = 11
    · simp [h2]
    · simp only [beq_eq_false_iff_ne.2 h1, beq_eq_false_iff_ne.2 h2, Bool.false_eq_true, if_false]
      congr 1
      rw [Bool.eq_iff_iff]; simp [h1, h2]
def msgR (c : Config) (m : Message) : Prop := (0 ≤ m.From ∧ m.From < c.Sites) ∧ (0 ≤ m.To ∧ m.To < c.Sites) ∧ wtxnR c m.Txn ∧ (0 ≤ m.Label ∧ m.Label < c.Labels.length) ∧ (0 ≤ m.Key ∧ m.Key ≤ 7) ∧ (0 ≤ m.Value ∧ m.Value ≤ 1073741824) ∧ (0 ≤ m.Version ∧ m.Version ≤ 1048576) ∧ (0 ≤ m.Ask ∧ m.Ask ≤ 1048576) ∧ (m.Code = 0 ∨ m.Code = 11 ∨ m.Code = 8)
theorem bnz (x : Int) : (x != 0) = !(x == 0) := rfl
theorem zb (x : Int) : ((0 : Int) == x) = (x == 0) := by rw [Bool.eq_iff_iff]; simp only [beq_iff_eq]; omega
theorem msg_same (c : Config) (m : Message) (hl : c.Labels.length ≤ maxLen) : wire_CheckMessage c m = reredosref_MessageFault c m ∧ ∃ r, reredosref_MessageFault c m = some r := by
  obtain ⟨e, he, hb⟩ := fault_total c
  simp only [wire_CheckMessage, reredosref_MessageFault, label_same c, he, Option.bind_some]
  by_cases h0 : e = 0
  case neg => simp [h0]
  obtain ⟨hs, _⟩ := hb h0
  subst h0
  simp only [wtxn_eq, wkey_eq, wvalue_eq, wask_eq, wcode_eq, txnMay_eq c _ hs, labelMay_eq c _ hl, In_eq, Option.bind_some, withK_or, bne_self_eq_false, Bool.false_eq_true, if_false]
  rw [wrap_in (n := c.Sites - 1) (by omega) (by omega)]
  by_cases hk : 1 ≤ m.Kind ∧ m.Kind ≤ 9
  case neg =>
    by_cases h1 : m.Kind < 1
    · simp [hk, h1]
    · have : m.Kind > 9 := by omega
      simp [hk, h1, this]
  have k1 : ¬ m.Kind < 1 := by omega
  have k2 : ¬ m.Kind > 9 := by omega
  have f1 : decide (0 ≤ m.From ∧ m.From ≤ c.Sites - 1) = (!decide (m.From < 0) && !decide (m.From ≥ c.Sites)) := by rw [Bool.eq_iff_iff]; simp; omega
  have f2 : decide (0 ≤ m.To ∧ m.To ≤ c.Sites - 1) = (!decide (m.To < 0) && !decide (m.To ≥ c.Sites)) := by rw [Bool.eq_iff_iff]; simp; omega
  have f3 : decide (0 ≤ m.Label ∧ m.Label < (c.Labels.length : Int)) = (!decide (m.Label < 0) && !decide (m.Label ≥ (c.Labels.length : Int))) := by rw [Bool.eq_iff_iff]; simp
  have f4 : decide (0 ≤ m.Version ∧ m.Version ≤ 1048576) = (!decide (m.Version < 0) && !decide (m.Version > 1048576)) := by rw [Bool.eq_iff_iff]; simp
  simp only [decide_eq_false k1, decide_eq_false k2, decide_eq_true hk, Bool.false_eq_true, if_false, Bool.not_true, f1, f2, f3, f4]
  by_cases a1 : m.From < 0
  · simp [a1]
  by_cases a2 : m.From ≥ c.Sites
  · simp [a1, a2]
  by_cases a3 : m.To < 0
  · simp [a1, a2, a3]
  by_cases a4 : m.To ≥ c.Sites
  · simp [a1, a2, a3, a4]
  by_cases a5 : wtxnR c m.Txn
  case neg => simp [a1, a2, a3, a4, a5]
  by_cases a6 : m.Label < 0
  · simp [a1, a2, a3, a4, a5, a6]
  by_cases a7 : m.Label ≥ (c.Labels.length : Int)
  · simp [a1, a2, a3, a4, a5, a6, a7]
  simp only [decide_eq_false a1, decide_eq_false a2, decide_eq_false a3, decide_eq_false a4, decide_eq_true a5, decide_eq_false a6, decide_eq_false a7, Bool.or_false, Bool.false_or, Bool.not_true, Bool.not_false, Bool.and_true, Bool.false_eq_true, if_false]
  by_cases a8 : 0 ≤ m.Key ∧ m.Key ≤ 7
  case neg => simp [a8]
  by_cases a9 : 0 ≤ m.Value ∧ m.Value ≤ 1073741824
  case neg => simp [a8, a9]
  simp only [decide_eq_true a8, decide_eq_true a9, Bool.or_false, Bool.false_or, Bool.not_true, Bool.not_false, Bool.and_true, Bool.false_eq_true, if_false]
  by_cases b1 : m.Version < 0
  · simp [b1]
  by_cases b2 : m.Version > 1048576
  · simp [b1, b2]
  simp only [decide_eq_false b1, decide_eq_false b2, Bool.or_false, Bool.false_or, Bool.not_true, Bool.not_false, Bool.and_true, Bool.false_eq_true, if_false]
  by_cases b3 : 0 ≤ m.Ask ∧ m.Ask ≤ 1048576
  case neg => simp [b3]
  simp only [decide_eq_true b3, Bool.or_false, Bool.false_or, Bool.not_true, Bool.not_false, Bool.and_true, Bool.false_eq_true, if_false]
  by_cases b4 : m.Code = 0 ∨ m.Code = 11 ∨ m.Code = 8
  case neg =>
    have c1 : ¬ m.Code = 0 := fun h => b4 (.inl h)
    have c2 : ¬ m.Code = 11 := fun h => b4 (.inr (.inl h))
    have c3 : ¬ m.Code = 8 := fun h => b4 (.inr (.inr h))
    simp [c1, c2, c3]
  have hsum : (IntKind.i64.wrap (m.Value + m.Version) != 0) = !((m.Value == 0) && (m.Version == 0)) := by
    rw [wrap_in (by omega) (by omega), Bool.eq_iff_iff]; simp; omega
  have hpos : 0 ≤ m.Kind := by omega
  simp only [decide_eq_true b4, Bool.not_true, Bool.false_eq_true, if_false, if_pos hpos, hsum, bnz, zb]
  obtain ⟨Kind, From, To, Txn, Label, Key, Value, Version, Ask, Yes, Code⟩ := m
  simp only at *
  clear f1 f2 f3 f4 hsum a1 a2 a3 a4 a5 a6 a7 a8 a9 b1 b2 b3 hpos k1 k2
  have hkk : Kind = 1 ∨ Kind = 2 ∨ Kind = 3 ∨ Kind = 4 ∨ Kind = 5 ∨ Kind = 6 ∨ Kind = 7 ∨ Kind = 8 ∨ Kind = 9 := by omega
  rcases hkk with rfl | rfl | rfl | rfl | rfl | rfl | rfl | rfl | rfl <;> rcases b4 with rfl | rfl | rfl
  all_goals
    simp [withK, tab_wire_messages, zb, bnz]
  all_goals
    try simp only [eq_comm (a := (0 : Int))]
    by_cases x1 : Label = 0 <;> by_cases x2 : Key = 0 <;> by_cases x3 : Value = 0 <;> by_cases x4 : Version = 0 <;> by_cases x5 : Ask = 0 <;> cases Yes <;> simp [x1, x2, x3, x4, x5]

end Go.V.Dec
