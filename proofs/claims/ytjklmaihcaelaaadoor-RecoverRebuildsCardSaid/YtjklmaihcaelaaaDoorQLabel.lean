/- Plain laws (Label): no program, no memory; conditions as stated. -/
import Derived.Test.YtjklmaihcaelaaaDoorG2
import Derived.Test.YtjklmaihcaelaaaDoorQGen
set_option linter.unusedVariables false
set_option linter.unusedSimpArgs false
namespace Go.V.Dec
open Go Go.Proofs Classical
set_option maxRecDepth 100000
set_option maxHeartbeats 4000000
variable (G : Nat → Option (List D))
theorem u3p {a b : Label} : ((a.Level == b.Level) && (a.Cats == b.Cats)) = true ↔ a = b := by
 cases a; cases b; simp
theorem one_eq (x : Label) : z0z x = some (decide (0 ≤ x.Level ∧ x.Level ≤ 9) && decide (0 ≤ x.Cats ∧ x.Cats ≤ 15)) := by
 simp only [z0z, withK]
 by_cases h1 : 0 ≤ x.Level <;> by_cases h2 : x.Level ≤ 9 <;> by_cases h3 : 0 ≤ x.Cats <;> by_cases h4 : x.Cats ≤ 15 <;> simp [h1, h2, h3, h4]
theorem lab2 (c : Config) (i : Nat) (hi : i < c.Labels.length) (x : Label) (k : Option Int) : yt c i x k (min i c.Labels.length + 1) 0 = if ∀ j y, j < i → c.Labels[j]? = some y → ¬ y = x then k else some 7 := by
 have hm : min i c.Labels.length = i := by omega
 rw [x0l (L := yt c i x k) (len := min i c.Labels.length) (k := k) (bad := some 7) (p := fun j => ∀ y, c.Labels[j]? = some y → ¬ y = x)]
 ·rw [hm]
  by_cases h : ∀ j y, j < i → c.Labels[j]? = some y → ¬ y = x
  ·rw [if_pos h, if_pos (fun j hj e he => h j e hj he)]
  ·rw [if_neg h, if_neg (fun q => h fun j e hj he => q j hj e he)]
 ·intro n j hj; rw [yt, if_neg (by simpa using hj)]
 ·intro n j hj hp
  have hl : j < c.Labels.length := by omega
  rw [yt, if_pos (by simpa using hj), List.getElem?_take, if_pos (by omega), va hl, if_neg]
  rw [u3p]; exact hp _ (List.getElem?_eq_getElem hl)
 ·intro n j hj hp
  have hl : j < c.Labels.length := by omega
  rw [yt, if_pos (by simpa using hj), List.getElem?_take, if_pos (by omega), va hl, if_pos]
  rw [u3p]
  exact Classical.byContradiction fun hc => hp fun e he => by rw [List.getElem?_eq_getElem hl] at he; cases he; exact hc
theorem rlab2 (c : Config) (i : Nat) (hi : i < c.Labels.length) (x : Label) (k : Option Int) : ye c i x k (i + 1) 0 = if ∀ j y, j < i → c.Labels[j]? = some y → ¬ y = x then k else some 7 := by
 rw [x0l (L := ye c i x k) (len := i) (k := k) (bad := some 7) (p := fun j => ∀ y, c.Labels[j]? = some y → ¬ y = x)]
 ·by_cases h : ∀ j y, j < i → c.Labels[j]? = some y → ¬ y = x
  ·rw [if_pos h, if_pos (fun j hj e he => h j e hj he)]
  ·rw [if_neg h, if_neg (fun q => h fun j e hj he => q j hj e he)]
 ·intro n j hj; rw [ye, if_neg (by simpa using hj)]
 ·intro n j hj hp
  have hl : j < c.Labels.length := by omega
  rw [ye, if_pos (by simpa using hj), va hl, if_neg]
  rw [u3p]; exact hp _ (List.getElem?_eq_getElem hl)
 ·intro n j hj hp
  have hl : j < c.Labels.length := by omega
  rw [ye, if_pos (by simpa using hj), va hl, if_pos]
  rw [u3p]
  exact Classical.byContradiction fun hc => hp fun e he => by rw [List.getElem?_eq_getElem hl] at he; cases he; exact hc
theorem lab1 (c : Config) (k : Option Int) : ∀ n i, u0c c k n i = zd c k n i := by
 intro n
 induction n with
 | zero => intro i; rfl
 | succ n ih =>
  intro i
  rw [u0c, zd]
  by_cases hi : i < c.Labels.length
  ·rw [if_pos (by simpa using hi), if_pos (by simpa using hi), va hi, va hi]
   simp only [withK, lab2 c i hi, rlab2 c i hi, one_eq, In_eq, Option.bind_some, ih]
   by_cases h1 : 0 ≤ c.Labels[i].Level ∧ c.Labels[i].Level ≤ 9
   ·rw [decide_eq_true h1]; simp only [Bool.true_and, Bool.not_true, Bool.false_eq_true, if_false]
   ·rw [decide_eq_false h1]; rfl
  ·rw [if_neg (by simpa using hi), if_neg (by simpa using hi)]
theorem x3y (c : Config) (k : Option Int) (hk : ∃ r, k = some r) : ∀ n i, c.Labels.length < n + i → i ≤ c.Labels.length → ∃ r, zd c k n i = some r := by
 intro n
 induction n with
 | zero => intro i h1 h2; omega
 | succ n ih =>
  intro i h1 h2
  rw [zd]
  by_cases hi : i < c.Labels.length
  ·rw [if_pos (by simpa using hi), va hi]
   simp only [withK, rlab2 c i hi, In_eq, Option.bind_some]
   split
   ·exact ⟨_, rfl⟩
   split
   ·exact ⟨_, rfl⟩
   split
   ·exact ih _ (by omega) (by omega)
   ·exact ⟨_, rfl⟩
  ·rw [if_neg (by simpa using hi)]; exact hk
theorem x3b (c : Config) : u0k c = xl c := by
 simp only [u0k, xl, withK, In_eq, Option.bind_some, lab1]
 have e : (if (decide (c.Patience < 1)) = true then (some 2 : Option Int) else if (decide (c.Patience > 1048576)) = true then some 2 else some 0) = if (!decide (1 ≤ c.Patience ∧ c.Patience ≤ 1048576)) = true then some 2 else some 0 := by
  by_cases h1 : c.Patience < 1
  ·have : ¬ (1 ≤ c.Patience ∧ c.Patience ≤ 1048576) := by omega
   simp only [h1, this, decide_true, decide_false, Bool.not_false, if_true]
  by_cases h2 : c.Patience > 1048576
  ·have : ¬ (1 ≤ c.Patience ∧ c.Patience ≤ 1048576) := by omega
   simp only [h1, h2, this, decide_true, decide_false, Bool.not_false, if_true]; rfl
  have : 1 ≤ c.Patience ∧ c.Patience ≤ 1048576 := by omega
  simp only [h1, h2, this, decide_true, decide_false, Bool.not_true]; rfl
 rw [e]
 by_cases h1 : c.Sites < 1
 ·have : ¬ (1 ≤ c.Sites ∧ c.Sites ≤ 4) := by omega
  rw [if_pos (by simpa using h1), if_pos (by rw [decide_eq_false this]; rfl)]
 rw [if_neg (by simpa using h1)]
 by_cases h2 : c.Sites > 4
 ·have : ¬ (1 ≤ c.Sites ∧ c.Sites ≤ 4) := by omega
  rw [if_pos (by simpa using h2), if_pos (by rw [decide_eq_false this]; rfl)]
 have h3 : 1 ≤ c.Sites ∧ c.Sites ≤ 4 := by omega
 rw [if_neg (by simpa using h2), decide_eq_true h3, if_neg (c := (!true) = true) (by simp)]
 by_cases h4 : (c.Labels.length : Int) < 1
 ·have : ¬ (1 ≤ (c.Labels.length : Int) ∧ (c.Labels.length : Int) ≤ 6) := by omega
  rw [if_pos (by simpa using h4), if_pos (by rw [decide_eq_false this]; rfl)]
 rw [if_neg (by simpa using h4)]
 by_cases h5 : (c.Labels.length : Int) > 6
 ·have : ¬ (1 ≤ (c.Labels.length : Int) ∧ (c.Labels.length : Int) ≤ 6) := by omega
  rw [if_pos (by simpa using h5), if_pos (by rw [decide_eq_false this]; rfl)]
 have h6 : 1 ≤ (c.Labels.length : Int) ∧ (c.Labels.length : Int) ≤ 6 := by omega
 rw [if_neg (by simpa using h5), decide_eq_true h6, if_neg (c := (!true) = true) (by simp)]
theorem w1i (c : Config) : ∃ e, xl c = some e ∧ (e = 0 → (1 ≤ c.Sites ∧ c.Sites ≤ 4) ∧ 1 ≤ c.Labels.length ∧ c.Labels.length ≤ 6 ∧ 1 ≤ c.Patience ∧ c.Patience ≤ 1048576) := by
 simp only [xl, withK, In_eq, Option.bind_some]
 by_cases h3 : 1 ≤ c.Sites ∧ c.Sites ≤ 4
 case neg => exact ⟨2, by rw [decide_eq_false h3]; rfl, fun h => by cases h⟩
 rw [decide_eq_true h3, if_neg (c := (!true) = true) (by simp)]
 by_cases h6 : 1 ≤ (c.Labels.length : Int) ∧ (c.Labels.length : Int) ≤ 6
 case neg => exact ⟨1, by rw [decide_eq_false h6]; rfl, fun h => by cases h⟩
 rw [decide_eq_true h6, if_neg (c := (!true) = true) (by simp)]
 by_cases h7 : 1 ≤ c.Patience ∧ c.Patience ≤ 1048576
 ·obtain ⟨r, hr⟩ := x3y c (if (!decide (1 ≤ c.Patience ∧ c.Patience ≤ 1048576)) = true then some 2 else some 0) (by split <;> exact ⟨_, rfl⟩) (c.Labels.length + 1) 0 (by omega) (by omega)
  exact ⟨r, hr, fun _ => ⟨h3, by omega, by omega, h7⟩⟩
 ·rw [decide_eq_false h7]
  have key : ∀ n i, c.Labels.length < n + i → i ≤ c.Labels.length → ∃ r, zd c (some 2) n i = some r ∧ r ≠ 0 := by
   intro n
   induction n with
   | zero => intro i h1 h2; omega
   | succ n ih =>
    intro i h1 h2
    rw [zd]
    by_cases hi : i < c.Labels.length
    ·rw [if_pos (by simpa using hi), va hi]
     simp only [withK, rlab2 c i hi, In_eq, Option.bind_some]
     split
     ·exact ⟨_, rfl, by decide⟩
     split
     ·exact ⟨_, rfl, by decide⟩
     split
     ·exact ih _ (by omega) (by omega)
     ·exact ⟨_, rfl, by decide⟩
    ·rw [if_neg (by simpa using hi)]; exact ⟨_, rfl, by decide⟩
  obtain ⟨r, hr, h0⟩ := key (c.Labels.length + 1) 0 (by omega) (by omega)
  exact ⟨r, hr, fun h => absurd h h0⟩

end Go.V.Dec
