/- Plain laws (StoreAge): no program, no memory; conditions as stated. -/
import Derived.Test.YtmplhamakfnjbaaF3
import Derived.Test.YtmplhamakfnjbaaPStoreCopy
set_option linter.unusedVariables false
set_option linter.unusedSimpArgs false
namespace Go.V.Dec
open Go Go.Proofs Classical
set_option maxRecDepth 100000
set_option maxHeartbeats 4000000
theorem age_loop (p : Int) (v : Store) (k : List Txn → List Doubt → Option (Store × List Txn × Int)) : ∀ n i told ds, ds.length = v.Doubts.length → store_Age_L1 p v k n i told ds = reredosref_AgeOf_L1 p k n i told ds := by
  intro n
  induction n with
  | zero => intro i told ds h; rfl
  | succ n ih =>
    intro i told ds h
    rw [store_Age_L1, reredosref_AgeOf_L1, h]
    by_cases hi : i < ds.length
    · rw [if_pos (by simpa [h] using hi), if_pos (by simpa [h] using hi), bind_at hi, bind_at hi]
      simp only [withK]
      rw [ih _ _ _ (by simpa using h), ih _ _ _ (by simpa using h)]
    · rw [if_neg (by simpa [h] using hi), if_neg (by simpa [h] using hi)]
theorem age_total (p : Int) (k : List Txn → List Doubt → Option (Store × List Txn × Int)) (hk : ∀ a b, ∃ r, k a b = some r) : ∀ n i told ds, ds.length < n + i → i ≤ ds.length → told.length ≤ i → fits 24 ds.length → ∃ r, reredosref_AgeOf_L1 p k n i told ds = some r := by
  intro n
  induction n with
  | zero => intro i told ds h1 h2; omega
  | succ n ih =>
    intro i told ds h1 h2 h3 h4
    rw [reredosref_AgeOf_L1]
    by_cases hi : i < ds.length
    · rw [if_pos (by simpa using hi), bind_at hi]
      simp only [withK]
      have hf : fits 16 (told.length + 1) := ⟨by have := h4.1; omega, by have := h4.2; omega⟩
      rw [if_pos hf]
      split
      · exact ih _ _ _ (by simp; omega) (by simp; omega) (by simp; omega) (by simpa using h4)
      · exact ih _ _ _ (by simp; omega) (by simp; omega) (by omega) (by simpa using h4)
    · rw [if_neg (by simpa using hi)]; exact hk _ _
theorem age_same (s : Store) (p : Int) (h : StoreFits s) : store_Age s p = reredosref_AgeOf s p ∧ ∃ r, reredosref_AgeOf s p = some r := by
  have h1 : s.Items.length ≤ maxLen := h.1.2
  have h2 : s.Doubts.length ≤ maxLen := h.2.2.1.2
  simp only [store_Age, reredosref_AgeOf, check_eq s h1, May_eq s h1 h2, In_eq, own_eq s h, copy_eq s h, withK, Option.bind_some]
  by_cases hm : May s
  case neg => simp [hm]
  by_cases a1 : p < 1
  · have : ¬ (1 ≤ p ∧ p ≤ 1048576) := by omega
    simp [hm, a1, this]
  by_cases a2 : p > 1048576
  · have : ¬ (1 ≤ p ∧ p ≤ 1048576) := by omega
    simp [hm, a1, a2, this]
  have a3 : (1 ≤ p ∧ p ≤ 1048576) := by omega
  rw [decide_eq_true hm, decide_eq_false a1, decide_eq_false a2, decide_eq_true a3, if_pos hm]
  simp only [bne_self_eq_false, Bool.not_true, Bool.false_eq_true, if_false]
  rw [age_loop _ _ _ _ _ _ _ rfl]
  exact ⟨rfl, age_total _ _ (fun a b => ⟨_, rfl⟩) _ _ _ _ (by omega) (by omega) (by simp) h.2.2.1⟩

end Go.V.Dec
