/- Plain laws (StoreWriteX): no program, no memory; conditions as stated. -/
import Derived.Test.YtjklmaihcaelaaaDoorG3
import Derived.Test.YtjklmaihcaelaaaDoorQStoreHand
set_option linter.unusedVariables false
set_option linter.unusedSimpArgs false
namespace Go.V.Dec
open Go Go.Proofs Classical
set_option maxRecDepth 100000
set_option maxHeartbeats 4000000
variable (G : Nat → Option (List D))
def heldQ (t : Txn) (k : Int) (x : Lock) : Bool := (x.Key == k) && !((x.Txn.Site == t.Site) && (x.Txn.N == t.N))
theorem x4l (s : Store) (t : Txn) (k : Int) : w0u s t k true = some (decide (∃ x ∈ s.Locks, heldQ t k x = true)) := by
 have e : (fun y1 => u0i y1 k t true) = fun x => some (heldQ t k x) := by
  funext x
  simp only [u0i, withK, heldQ]
  generalize (x.Key == k) = a
  generalize ((x.Txn.Site == t.Site) && (x.Txn.N == t.N)) = b
  generalize x.Write = c
  cases a <;> cases b <;> cases c <;> rfl
 simp only [w0u, e, u1i, Option.bind_some]
theorem v4x (s : Store) (t : Txn) (k : Int) (k2 : Int → Int → Option (Int × Int)) (hl : s.Locks.length ≤ 24) : ∀ (n : Nat) (a b : Int) (i : Nat), s.Locks.length < n + i → i ≤ s.Locks.length → 0 ≤ a → a ≤ i →
 ∃ a' b', yh s t k k2 n a b i = k2 a' b' ∧ 0 ≤ a' ∧ (a' > 0 ↔ a > 0 ∨ ∃ m x, i ≤ m ∧ s.Locks[m]? = some x ∧ heldQ t k x = true) := by
 intro n
 induction n with
 | zero => intro a b i h1 h2; omega
 | succ n ih =>
  intro a b i h1 h2 h3 h4
  by_cases hi : i < s.Locks.length
  ·have e : ∃ b'', yh s t k k2 (n + 1) a b i = yh s t k k2 n (if heldQ t k s.Locks[i] = true then a + 1 else a) b'' (i + 1) := by
    rw [yh, if_pos (by simpa using hi), va hi]
    simp only [withK]
    rw [vw (n := a + 1) (by omega) (by omega), show heldQ t k s.Locks[i] = ((s.Locks[i].Key == k) && !((s.Locks[i].Txn.Site == t.Site) && (s.Locks[i].Txn.N == t.N))) from rfl]
    generalize (s.Locks[i].Key == k) = a1
    generalize ((s.Locks[i].Txn.Site == t.Site) && (s.Locks[i].Txn.N == t.N)) = b1
    generalize s.Locks[i].Write = c1
    cases a1 <;> cases b1 <;> cases c1 <;> exact ⟨_, rfl⟩
   obtain ⟨b'', e⟩ := e
   rw [e]
   by_cases hq : heldQ t k s.Locks[i] = true
   ·rw [if_pos hq]
    obtain ⟨a', b', e1, e2, e3⟩ := ih (a + 1) b'' (i + 1) (by omega) (by omega) (by omega) (by omega)
    refine ⟨a', b', e1, e2, ⟨fun _ => .inr ⟨i, _, Nat.le_refl _, List.getElem?_eq_getElem hi, hq⟩, fun _ => e3.2 (.inl (by omega))⟩⟩
   ·rw [if_neg hq]
    obtain ⟨a', b', e1, e2, e3⟩ := ih a b'' (i + 1) (by omega) (by omega) (by omega) (by omega)
    refine ⟨a', b', e1, e2, e3.trans ⟨?_, ?_⟩⟩
    ·rintro (h | ⟨m, x, g1, g2, g3⟩)
     ·exact .inl h
     ·exact .inr ⟨m, x, by omega, g2, g3⟩
    ·rintro (h | ⟨m, x, g1, g2, g3⟩)
     ·exact .inl h
     ·refine .inr ⟨m, x, ?_, g2, g3⟩
      rcases Nat.lt_or_ge i m with g4 | g4
      ·exact g4
      ·obtain rfl : m = i := by omega
       rw [List.getElem?_eq_getElem hi] at g2; cases g2; exact absurd g3 hq
  ·refine ⟨a, b, by rw [yh, if_neg (by simpa using hi)], h3, ⟨.inl, ?_⟩⟩
   rintro (h | ⟨m, x, g1, g2, g3⟩)
   ·exact h
   ·have := zj g2; omega
theorem v4o (s : Store) (t : Txn) (k : Int) (hl : s.Locks.length ≤ 24) : ∃ a b, uy s t k = some (a, b) ∧ decide (a > 0) = decide (∃ x ∈ s.Locks, heldQ t k x = true) := by
 obtain ⟨a, b, e1, e2, e3⟩ := v4x s t k (fun a b => some (a, b)) hl (s.Locks.length + 1) 0 0 0 (by omega) (by omega) (by omega) (by omega)
 refine ⟨a, b, by simp only [uy, withK]; exact e1, decide_eq_decide.2 (e3.trans ⟨?_, ?_⟩)⟩
 ·rintro (h | ⟨m, x, g1, g2, g3⟩)
  ·omega
  ·exact ⟨x, List.mem_of_getElem? g2, g3⟩
 ·rintro ⟨x, hm, hq⟩
  obtain ⟨j, hj, rfl⟩ := List.getElem_of_mem hm
  exact .inr ⟨j, _, Nat.zero_le _, List.getElem?_eq_getElem hj, hq⟩
theorem z2w (s : Store) (t : Txn) (k v a : Int) (hf : vp s) : z0q s t k v a = ui s t k v a ∧ ∃ r, ui s t k v a = some r := by
 have h1 : s.Items.length ≤ maxLen := hf.1.2
 have h2 : s.Doubts.length ≤ maxLen := hf.2.2.1.2
 simp only [z0q, x0u, ui, u4p s t k h1, u0w s t k h1 h2, In_eq, u4w, z0j, y0z, x4l, y5g s hf, y3s s hf, withK, Option.bind_some, v1t]
 by_cases hm : May s
 case neg => simp [hm]
 by_cases ht : txnR t ∧ 0 ≤ k ∧ k < 8
 case neg => simp [hm, ht]
 by_cases b1 : v < 0
 ·have : ¬ (0 ≤ v ∧ v ≤ 1073741824) := by omega
  simp [hm, ht, b1, this]
 by_cases b2 : v > 1073741824
 ·have : ¬ (0 ≤ v ∧ v ≤ 1073741824) := by omega
  simp [hm, ht, b1, b2, this]
 have b3 : (0 ≤ v ∧ v ≤ 1073741824) := by omega
 by_cases c1 : a < 0
 ·have : ¬ (0 ≤ a ∧ a ≤ 1048576) := by omega
  simp [hm, ht, b1, b2, b3, c1, this]
 by_cases c2 : a > 1048576
 ·have : ¬ (0 ≤ a ∧ a ≤ 1048576) := by omega
  simp [hm, ht, b1, b2, b3, c1, c2, this]
 have c3 : (0 ≤ a ∧ a ≤ 1048576) := by omega
 obtain ⟨m, n, e1, e2⟩ := v4o s t k hm.2.2.2.2
 obtain ⟨w, e3, e4⟩ := v3a s t k
 obtain ⟨e5, _⟩ := w4x s hm.1 k
 obtain ⟨x, e6, e7⟩ := w3b s hm.1 k
 obtain ⟨d, e8, e9⟩ := x2m s t
 have e10 : (x.Version == 1048576) = decide (x.Version ≥ 1048576) := by
  rw [Bool.eq_iff_iff]; simp; omega
 have e11 : ((s.Locks.length : Int) == 24) = decide ((s.Locks.length : Int) ≥ 24) := by
  have := hm.2.2.2.2
  rw [Bool.eq_iff_iff]; simp; omega
 have f1 : fits 24 (s.Doubts.length + 1) := by
  have := w1t s hm
  have := hf.2.2.1
  unfold fits maxLen at *; omega
 have f2 : fits 48 (s.Locks.length + 1) := by
  have := hm.2.2.2.2
  unfold fits maxLen at *; omega
 have hd : ∀ I L O, x0f (Store.mk I L s.Doubts O) t ↔ x0f s t := fun I L O => Iff.rfl
 simp only [decide_eq_false b1, decide_eq_false b2, decide_eq_true b3, decide_eq_false c1, decide_eq_false c2, decide_eq_true c3, if_pos hm, if_pos ht, e1, e2, e3, e5, e6, e8, e9, e10, e11, if_pos f1, if_pos f2, hd, Option.bind_some]
 have hb : ∀ b : Bool, (!b) = true ↔ b = false := by intro b; cases b <;> simp
 rcases e4 with ⟨rfl, e4⟩ | ⟨j, y, rfl, e4, _, _⟩
 ·have g : (s.Locks ++ [Lock.mk (Txn.mk 0 0) 0 false 0 0])[s.Locks.length]? = some (Lock.mk (Txn.mk 0 0) 0 false 0 0) := by simp
  have g2 : (s.Locks ++ [Lock.mk (Txn.mk 0 0) 0 false 0 0]).set s.Locks.length (Lock.mk t k true v a) = s.Locks ++ [Lock.mk t k true v a] := by simp
  try simp only [g, g2, Option.bind_some]
  generalize decide (t ∈ s.Over) = q1
  generalize decide (∃ x, x ∈ s.Locks ∧ heldQ t k x = true) = q2
  generalize decide ((s.Locks.length : Int) ≥ 24) = q3
  generalize decide (x.Version ≥ 1048576) = q4
  generalize decide (x0f s t) = q5
  cases q1 <;> cases q2 <;> cases q3 <;> cases q4 <;> cases q5 <;> simp
 ·try simp only [Int.toNat_natCast, e4, Option.bind_some]
  generalize decide (t ∈ s.Over) = q1
  generalize decide (∃ x, x ∈ s.Locks ∧ heldQ t k x = true) = q2
  generalize decide (y.Ask > a) = q3
  generalize decide (x.Version ≥ 1048576) = q4
  generalize decide (x0f s t) = q5
  have g : ¬ ((j : Int) < 0) := by omega
  have g' : (j : Int) ≥ 0 := by omega
  try simp only [decide_eq_false g, decide_eq_true g', if_pos g']
  cases q1 <;> cases q2 <;> cases q3 <;> cases q4 <;> cases q5 <;> simp

end Go.V.Dec
