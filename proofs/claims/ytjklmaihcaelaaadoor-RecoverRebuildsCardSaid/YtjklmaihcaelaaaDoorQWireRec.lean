/- Plain laws (WireRec): no program, no memory; conditions as stated. -/
import Derived.Test.YtjklmaihcaelaaaDoorG2
import Derived.Test.YtjklmaihcaelaaaDoorQWire
set_option linter.unusedVariables false
set_option linter.unusedSimpArgs false
namespace Go.V.Dec
open Go Go.Proofs Classical
set_option maxRecDepth 100000
set_option maxHeartbeats 4000000
variable (G : Nat → Option (List D))
theorem rsites (c : Config) (r : Record) (hs : 1 ≤ c.Sites ∧ c.Sites ≤ 4) (k : Option Int) : ∀ n i, wn c r k n i = wb c r k n i := by
 intro n
 induction n with
 | zero => intro i; rfl
 | succ n ih =>
  intro i
  rw [wn, wb]
  simp only [In_eq, ih, ge_iff_le, Option.bind_some]
  rw [vw (n := c.Sites - 1) (by omega) (by omega)]
  by_cases hi : i < r.Sites.length
  ·rw [if_pos (by simpa using hi), if_pos (by simpa using hi), va hi, va hi]
   have e : (decide (r.Sites[i] < 0) || decide (c.Sites ≤ r.Sites[i])) = !decide (0 ≤ r.Sites[i] ∧ r.Sites[i] ≤ c.Sites - 1) := by rw [Bool.eq_iff_iff]; simp; omega
   rw [e]
  ·rw [if_neg (by simpa using hi), if_neg (by simpa using hi)]
theorem u3m (c : Config) (r : Record) (hm : r.Sites.length ≤ maxLen) (k : Option Int) (hk : ∃ e, k = some e) : ∀ n i, r.Sites.length < n + i → i ≤ r.Sites.length → ∃ e, wb c r k n i = some e := by
 intro n
 induction n with
 | zero => intro i h1 h2; omega
 | succ n ih =>
  intro i h1 h2
  rw [wb]
  by_cases hi : i < r.Sites.length
  ·obtain ⟨e, hr⟩ := ih (i + 1) (by omega) (by omega)
   rw [if_pos (by simpa using hi), va hi, hr]
   simp only [Option.bind_some, In_eq]
   by_cases h0 : 0 < i
   ·rw [y0x h0 (by omega), Int.toNat_natCast, va (by omega : i - 1 < r.Sites.length), if_pos (c := (0 : Int) ≤ ((i - 1 : Nat) : Int)) (by omega)]
    repeat' split
    all_goals exact ⟨_, rfl⟩
   ·rw [if_neg (c := decide ((i : Int) > 0) = true) (by simp; omega)]
    repeat' split
    all_goals exact ⟨_, rfl⟩
  ·rw [if_neg (by simpa using hi)]; exact hk
theorem z5f (c : Config) (r : Record) (hm : r.Sites.length ≤ maxLen) : y0c c r = zh c r ∧ ∃ e, zh c r = some e := by
 obtain ⟨e, he, hb⟩ := w1i c
 simp only [y0c, zh, x3b c, he, Option.bind_some]
 by_cases h0 : e = 0
 case neg => simp [h0]
 obtain ⟨hs, _⟩ := hb h0
 subst h0
 simp only [wtxn_eq, wkey_eq, w4q, wask_eq, w3h c _ hs, In_eq, Option.bind_some, y5a, z4r, bne_self_eq_false, Bool.false_eq_true, if_false]
 by_cases hk : 1 ≤ r.Kind ∧ r.Kind ≤ 6
 case neg =>
  by_cases h1 : r.Kind < 1
  ·simp [hk, h1]
  ·have : r.Kind > 6 := by omega
   simp [hk, h1, this]
 have k1 : ¬ r.Kind < 1 := by omega
 have k2 : ¬ r.Kind > 6 := by omega
 simp only [decide_eq_false k1, decide_eq_false k2, decide_eq_true hk, Bool.false_eq_true, if_false, Bool.not_true]
 by_cases a5 : wtxnR c r.Txn
 case neg => simp [a5]
 by_cases a8 : 0 ≤ r.Key ∧ r.Key ≤ 7
 case neg => simp [a5, a8]
 by_cases a9 : 0 ≤ r.Value ∧ r.Value ≤ 1073741824
 case neg => simp [a5, a8, a9]
 by_cases b3 : 0 ≤ r.Ask ∧ r.Ask ≤ 1048576
 case neg => simp [a5, a8, a9, b3]
 simp only [decide_eq_true a5, decide_eq_true a8, decide_eq_true a9, decide_eq_true b3, Bool.or_false, Bool.false_or, Bool.not_true, Bool.false_eq_true, if_false]
 simp only [withK, rsites c r hs]
 have hpos : 0 ≤ r.Kind := by omega
 have fin : ∀ k k' : Option Int, k = k' → (∃ e, k' = some e) → wb c r k (r.Sites.length + 1) 0 = wb c r k' (r.Sites.length + 1) 0 ∧ ∃ e, wb c r k' (r.Sites.length + 1) 0 = some e := by
  rintro k k' rfl h
  exact ⟨rfl, u3m c r hm k h _ _ (by omega) (by omega)⟩
 refine fin _ _ ?_ ?_
 all_goals
  obtain ⟨Kind, Txn, Key, Value, Ask, Yes, Sites⟩ := r
  simp only at *
  clear a5 a8 a9 b3 k1 k2 fin
  try simp only [if_pos hpos]
  clear hpos
  have hkk : Kind = 1 ∨ Kind = 2 ∨ Kind = 3 ∨ Kind = 4 ∨ Kind = 5 ∨ Kind = 6 := by omega
  rcases hkk with rfl | rfl | rfl | rfl | rfl | rfl
  all_goals
   by_cases x2 : Key = 0 <;> by_cases x3 : Value = 0 <;> by_cases x5 : Ask = 0 <;> cases Yes <;> by_cases x6 : 0 < Sites.length <;> simp [x2, x3, x5, x6, w0i]

end Go.V.Dec
