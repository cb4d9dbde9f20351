/- Plain laws (Copies): no program, no memory; conditions as stated. -/
import Derived.Test.YtjklmaihcaelaaaDoorG1
import Derived.Test.YtjklmaihcaelaaaDoorQGen
set_option linter.unusedVariables false
set_option linter.unusedSimpArgs false
namespace Go.V.Dec
open Go Go.Proofs Classical
set_option maxRecDepth 100000
set_option maxHeartbeats 4000000
variable (G : Nat → Option (List D))
theorem x4c {n b : Nat} (h1 : n ≤ maxLen) (h2 : n * b ≤ reachBytes) : fits b n := ⟨by unfold reachBytes at h2; omega, h1⟩
theorem w2t {n m b : Nat} (h : fits b n) (hm : m ≤ n) : fits b m := ⟨Nat.le_trans (Nat.mul_le_mul_right b hm) h.1, Nat.le_trans hm h.2⟩
theorem u0z {α R : Type} {L : Nat → Nat → List α → Option R} {l : List α} {k : List α → Option R} {b : Nat} (hf : fits b l.length)
 (hk : ∀ n i acc, ¬ i < l.length → L (n + 1) i acc = k acc)
 (hg : ∀ n i acc (hi : i < l.length), fits b (acc.length + 1) → L (n + 1) i acc = L n (i + 1) (acc ++ [l[i]])) :
 ∀ n i acc, l.length < n + i → acc.length = i → i ≤ l.length → L n i acc = k (acc ++ l.drop i) := by
 intro n
 induction n with
 | zero => intro i acc h1 h2 h3; omega
 | succ n ih =>
  intro i acc h1 h2 h3
  by_cases hi : i < l.length
  ·rw [hg n i acc hi (w2t hf (by omega)), ih _ _ (by omega) (by simp [h2]) (by omega), List.append_assoc, List.singleton_append, List.getElem_cons_drop]
  ·rw [hk n i acc hi, List.drop_of_length_le (by omega), List.append_nil]
theorem w0k {R : Type} {L : Nat → Nat → Option R} {len : Nat} {k : Option R} (hk : ∀ n i, ¬ i < len → L (n + 1) i = k) (hg : ∀ n i, i < len → L (n + 1) i = L n (i + 1)) :
 ∀ n i, len < n + i → i ≤ len → L n i = k := by
 intro n
 induction n with
 | zero => intro i h1 h2; omega
 | succ n ih =>
  intro i h1 h2
  by_cases hi : i < len
  ·rw [hg n i hi, ih _ (by omega) (by omega)]
  ·exact hk n i hi

end Go.V.Dec
