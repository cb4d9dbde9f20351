/- Plain laws (StoreBusy): no program, no memory; conditions as stated. -/
import Derived.Test.YtmnicbhniaejjaaDoorF3
import Derived.Test.YtmnicbhniaejjaaDoorPStoreItem
set_option linter.unusedVariables false
set_option linter.unusedSimpArgs false
namespace Go.V.Dec
open Go Go.Proofs Classical
set_option maxRecDepth 100000
set_option maxHeartbeats 4000000
variable (G : Nat → Option (List D))
def busyQ (t : Txn) (k : Int) (x : Lock) : Bool := (x.Key == k) && (!((x.Txn.Site == t.Site) && (x.Txn.N == t.N)) && x.Write)
theorem busy_eq (s : Store) (t : Txn) (k : Int) : store_busy s t k false = some (decide (∃ x ∈ s.Locks, busyQ t k x = true)) := by
  have e : (fun y1 => store_busy_1 y1 k t false) = fun x => some (busyQ t k x) := by
    funext x
    simp only [store_busy_1, withK, busyQ]
    generalize (x.Key == k) = a
    generalize ((x.Txn.Site == t.Site) && (x.Txn.N == t.N)) = b
    generalize x.Write = c
    cases a <;> cases b <;> cases c <;> rfl
  simp only [store_busy, e, containsF_Lock, Option.bind_some]
theorem others_loop (s : Store) (t : Txn) (k : Int) (k2 : Int → Int → Option (Int × Int)) (hl : s.Locks.length ≤ 24) : ∀ (n : Nat) (a b : Int) (i : Nat), s.Locks.length < n + i → i ≤ s.Locks.length → 0 ≤ b → b ≤ i →
    ∃ a' b', reredosref_others_L1 s t k k2 n a b i = k2 a' b' ∧ 0 ≤ b' ∧ (b' > 0 ↔ b > 0 ∨ ∃ m x, i ≤ m ∧ s.Locks[m]? = some x ∧ busyQ t k x = true) := by
  intro n
  induction n with
  | zero => intro a b i h1 h2; omega
  | succ n ih =>
    intro a b i h1 h2 h3 h4
    by_cases hi : i < s.Locks.length
    · have e : ∃ a'', reredosref_others_L1 s t k k2 (n + 1) a b i = reredosref_others_L1 s t k k2 n a'' (if busyQ t k s.Locks[i] = true then b + 1 else b) (i + 1) := by
        rw [reredosref_others_L1, if_pos (by simpa using hi), bind_at hi]
        simp only [withK]
        rw [wrap_in (n := b + 1) (by omega) (by omega), show busyQ t k s.Locks[i] = ((s.Locks[i].Key == k) && (!((s.Locks[i].Txn.Site == t.Site) && (s.Locks[i].Txn.N == t.N)) && s.Locks[i].Write)) from rfl]
        generalize (s.Locks[i].Key == k) = a1
        generalize ((s.Locks[i].Txn.Site == t.Site) && (s.Locks[i].Txn.N == t.N)) = b1
        generalize s.Locks[i].Write = c1
        cases a1 <;> cases b1 <;> cases c1 <;> exact ⟨_, rfl⟩
      obtain ⟨a'', e⟩ := e
      rw [e]
      by_cases hq : busyQ t k s.Locks[i] = true
      · rw [if_pos hq]
        obtain ⟨a', b', e1, e2, e3⟩ := ih a'' (b + 1) (i + 1) (by omega) (by omega) (by omega) (by omega)
        refine ⟨a', b', e1, e2, ⟨fun _ => .inr ⟨i, _, Nat.le_refl _, List.getElem?_eq_getElem hi, hq⟩, fun _ => e3.2 (.inl (by omega))⟩⟩
      · rw [if_neg hq]
        obtain ⟨a', b', e1, e2, e3⟩ := ih a'' b (i + 1) (by omega) (by omega) (by omega) (by omega)
        refine ⟨a', b', e1, e2, e3.trans ⟨?_, ?_⟩⟩
        · rintro (h | ⟨m, x, g1, g2, g3⟩)
          · exact .inl h
          · exact .inr ⟨m, x, by omega, g2, g3⟩
        · rintro (h | ⟨m, x, g1, g2, g3⟩)
          · exact .inl h
          · refine .inr ⟨m, x, ?_, g2, g3⟩
            rcases Nat.lt_or_ge i m with g4 | g4
            · exact g4
            · obtain rfl : m = i := by omega
              rw [List.getElem?_eq_getElem hi] at g2; cases g2; exact absurd g3 hq
    · refine ⟨a, b, by rw [reredosref_others_L1, if_neg (by simpa using hi)], h3, ⟨.inl, ?_⟩⟩
      rintro (h | ⟨m, x, g1, g2, g3⟩)
      · exact h
      · have := lt_of_at g2; omega
theorem others_eq (s : Store) (t : Txn) (k : Int) (hl : s.Locks.length ≤ 24) : ∃ a b, reredosref_others s t k = some (a, b) ∧ decide (b > 0) = decide (∃ x ∈ s.Locks, busyQ t k x = true) := by
  obtain ⟨a, b, e1, e2, e3⟩ := others_loop s t k (fun a b => some (a, b)) hl (s.Locks.length + 1) 0 0 0 (by omega) (by omega) (by omega) (by omega)
  refine ⟨a, b, by simp only [reredosref_others, withK]; exact e1, decide_eq_decide.2 (e3.trans ⟨?_, ?_⟩)⟩
  · rintro (h | ⟨m, x, g1, g2, g3⟩)
    · omega
    · exact ⟨x, List.mem_of_getElem? g2, g3⟩
  · rintro ⟨x, hm, hq⟩
    obtain ⟨j, hj, rfl⟩ := List.getElem_of_mem hm
    exact .inr ⟨j, _, Nat.zero_le _, List.getElem?_eq_getElem hj, hq⟩

end Go.V.Dec
