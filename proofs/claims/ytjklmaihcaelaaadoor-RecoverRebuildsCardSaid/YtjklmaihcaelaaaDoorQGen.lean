/- Plain laws (Gen): no program, no memory; conditions as stated. -/
import Derived.Test.YtjklmaihcaelaaaDoorG2
set_option linter.unusedVariables false
set_option linter.unusedSimpArgs false
namespace Go.V.Dec
open Go Go.Proofs Classical
set_option maxRecDepth 100000
set_option maxHeartbeats 4000000
variable (G : Nat → Option (List D))
theorem ite_of {α : Type} {p : Prop} [Decidable p] {l a b : α} (h1 : p → l = a) (h2 : ¬ p → l = b) : l = if p then a else b := by
 by_cases h : p
 ·rw [if_pos h]; exact h1 h
 ·rw [if_neg h]; exact h2 h
/-- A loop that goes on while all is as it must be. -/
theorem x3e {R : Type} {L : Nat → Nat → Option R} {len : Nat} {p : Nat → Prop} {k bad : Option R} (hk : ∀ n i, ¬ i < len → L (n + 1) i = k)
 (hg : ∀ n i, i < len → p i → L (n + 1) i = L n (i + 1)) (hb : ∀ n i, i < len → ¬ p i → L (n + 1) i = bad) :
 ∀ n i, len < n + i → i ≤ len → L n i = if ∀ j, i ≤ j → j < len → p j then k else bad := by
 intro n
 induction n with
 | zero =>
  intro i hi hle
  omega
 | succ n ih =>
  intro i hi hle
  by_cases h : i < len
  ·by_cases hp : p i
   ·rw [hg n i h hp, ih (i + 1) (by omega) (by omega)]
    have : (∀ j, i ≤ j → j < len → p j) ↔ ∀ j, i + 1 ≤ j → j < len → p j := by
     constructor
     ·intro q j h1 h2; exact q j (by omega) h2
     ·intro q j h1 h2
      rcases Nat.eq_or_lt_of_le h1 with rfl | h3
      ·exact hp
      ·exact q j h3 h2
    by_cases hq : ∀ j, i ≤ j → j < len → p j
    ·rw [if_pos hq, if_pos (this.1 hq)]
    ·rw [if_neg hq, if_neg (fun h => hq (this.2 h))]
   ·rw [hb n i h hp, if_neg (fun q => hp (q i (Nat.le_refl _) h))]
  ·rw [hk n i h, if_pos (fun j h1 h2 => by omega)]
/-- A loop that looks for the first place. -/
theorem w4y {R : Type} {L : Nat → Nat → Option R} {len : Nat} {p : Nat → Prop} {k : Option R} {f : Nat → Option R} (hk : ∀ n i, ¬ i < len → L (n + 1) i = k)
 (hg : ∀ n i, i < len → ¬ p i → L (n + 1) i = L n (i + 1)) (hb : ∀ n i, i < len → p i → L (n + 1) i = f i) :
 ∀ n i, len < n + i → i ≤ len → ((∀ j, i ≤ j → j < len → ¬ p j) → L n i = k) ∧ (∀ j, i ≤ j → j < len → p j → (∀ m, i ≤ m → m < j → ¬ p m) → L n i = f j) := by
 intro n
 induction n with
 | zero => intro i hi hle; omega
 | succ n ih =>
  intro i hi hle
  by_cases h : i < len
  ·by_cases hp : p i
   ·refine ⟨fun q => absurd hp (q i (Nat.le_refl _) h), fun j h1 h2 h3 h4 => ?_⟩
    rcases Nat.eq_or_lt_of_le h1 with rfl | h5
    ·exact hb n i h hp
    ·exact absurd hp (h4 i (Nat.le_refl _) h5)
   ·obtain ⟨a, b⟩ := ih (i + 1) (by omega) (by omega)
    refine ⟨fun q => ?_, fun j h1 h2 h3 h4 => ?_⟩
    ·rw [hg n i h hp]; exact a fun j h1 h2 => q j (by omega) h2
    ·rw [hg n i h hp]
     rcases Nat.eq_or_lt_of_le h1 with rfl | h5
     ·exact absurd h3 hp
     ·exact b j h5 h2 h3 fun m h6 h7 => h4 m (by omega) h7
  ·exact ⟨fun _ => hk n i h, fun j h1 h2 => by omega⟩
theorem at_of {α : Type} {l : List α} {i : Nat} (h : i < l.length) : ∃ x, l[i]? = some x := ⟨l[i], by simp [h]⟩
theorem zj {α : Type} {l : List α} {i : Nat} {x : α} (h : l[i]? = some x) : i < l.length := (List.getElem?_eq_some_iff.1 h).1
theorem y0x {i : Nat} (h0 : 0 < i) (h : i ≤ maxLen) : IntKind.i64.wrap ((i : Int) - 1) = ((i - 1 : Nat) : Int) := by
 simp only [maxLen] at h
 rw [vw (by omega) (by omega)]; omega
/-- A search for a transaction, and the like: -1, or the first place. -/
theorem find_first {α : Type} {l : List α} {p : α → Prop} (h : ∃ (j : Nat) (x : α), l[j]? = some x ∧ p x) : ∃ (j : Nat) (x : α), l[j]? = some x ∧ p x ∧ ∀ m y, m < j → l[m]? = some y → ¬ p y := by
 obtain ⟨j, hj⟩ := h
 induction j using Nat.strongRecOn with
 | _ j ih =>
  by_cases hq : ∃ m x, m < j ∧ l[m]? = some x ∧ p x
  ·obtain ⟨m, x, h1, h2, h3⟩ := hq; exact ih m h1 ⟨x, h2, h3⟩
  ·obtain ⟨x, h1, h2⟩ := hj
   exact ⟨j, x, h1, h2, fun m y h3 h4 h5 => hq ⟨m, y, h3, h4, h5⟩⟩
/-- The loops, as they are asked: nothing else than this is to be shown of a loop that may end early. -/
theorem u0o {L : Nat → Nat → Option Bool} {len : Nat} {p : Nat → Prop} {q : Bool} (hk : ∀ n i, ¬ i < len → L (n + 1) i = some q)
 (hg : ∀ n i, i < len → p i → L (n + 1) i = L n (i + 1)) (hb : ∀ n i, i < len → ¬ p i → L (n + 1) i = some false) : L (len + 1) 0 = some (decide (∀ j, j < len → p j) && q) := by
 rw [x3e (L := L) hk hg hb _ _ (by omega) (by omega)]
 by_cases h : ∀ j, j < len → p j
 ·rw [if_pos (fun j _ hj => h j hj), decide_eq_true h, Bool.true_and]
 ·rw [if_neg (fun q => h fun j hj => q j (Nat.zero_le _) hj), decide_eq_false h, Bool.false_and]
theorem va {α β : Type} {l : List α} {i : Nat} (h : i < l.length) (f : α → Option β) : (l[i]?).bind f = f l[i] := by rw [List.getElem?_eq_getElem h]; rfl
theorem z0g {R : Type} {L : Nat → Nat → Option R} {len : Nat} {p : Nat → Prop} {k : Option R} {f : Nat → Option R} (hk : ∀ n i, ¬ i < len → L (n + 1) i = k)
 (hg : ∀ n i, i < len → ¬ p i → L (n + 1) i = L n (i + 1)) (hb : ∀ n i, i < len → p i → L (n + 1) i = f i) :
 (¬ (∃ j, j < len ∧ p j) ∧ L (len + 1) 0 = k) ∨ ∃ j, j < len ∧ p j ∧ (∀ m, m < j → ¬ p m) ∧ L (len + 1) 0 = f j := by
 obtain ⟨a, b⟩ := w4y (L := L) hk hg hb (len + 1) 0 (by omega) (by omega)
 by_cases h : ∃ j, j < len ∧ p j
 ·right
  obtain ⟨j, hj⟩ := h
  induction j using Nat.strongRecOn with
  | _ j ih =>
   by_cases hq : ∃ m, m < j ∧ p m
   ·obtain ⟨m, h1, h2⟩ := hq; exact ih m h1 ⟨by omega, h2⟩
   ·exact ⟨j, hj.1, hj.2, fun m h1 h2 => hq ⟨m, h1, h2⟩, b j (Nat.zero_le _) hj.1 hj.2 fun m _ h1 h2 => hq ⟨m, h1, h2⟩⟩
 ·exact .inl ⟨h, a fun j _ h1 h2 => h ⟨j, h1, h2⟩⟩
theorem x0l {R : Type} {L : Nat → Nat → Option R} {len : Nat} {p : Nat → Prop} {k bad : Option R} (hk : ∀ n i, ¬ i < len → L (n + 1) i = k)
 (hg : ∀ n i, i < len → p i → L (n + 1) i = L n (i + 1)) (hb : ∀ n i, i < len → ¬ p i → L (n + 1) i = bad) : L (len + 1) 0 = if ∀ j, j < len → p j then k else bad := by
 rw [x3e (L := L) hk hg hb _ _ (by omega) (by omega)]
 by_cases h : ∀ j, j < len → p j
 ·rw [if_pos (fun j _ hj => h j hj), if_pos h]
 ·rw [if_neg (fun q => h fun j hj => q j (Nat.zero_le _) hj), if_neg h]

theorem In_eq (a b c : Int) : xb a b c = some (decide (b ≤ a ∧ a ≤ c)) := by
 simp only [xb, withK]
 by_cases h1 : b ≤ a <;> by_cases h2 : a ≤ c <;> simp [h1, h2]

end Go.V.Dec
