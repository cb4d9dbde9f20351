/- Plain laws (Tape): no program, no memory; conditions as stated. -/
import Derived.Test.YtmplhamakfnjbaaDoorF5
import Derived.Test.YtmplhamakfnjbaaDoorPGen
set_option linter.unusedVariables false
set_option linter.unusedSimpArgs false
namespace Go.V.Dec
open Go Go.Proofs Classical
set_option maxRecDepth 100000
set_option maxHeartbeats 4000000
theorem joined2 (ls : List (List Int)) (i : Nat) (xs : List Int) (hx : ls[i]? = some xs) (k : List Int → Option (List Int)) : ∀ n j acc, xs.length < n + j → j ≤ xs.length → fits 1 (acc.length + (xs.length - j)) → reredosref_joined_L2 ls i k n j acc = k (acc ++ xs.drop j) := by
  intro n
  induction n with
  | zero => intro j acc h1 h2 hf; omega
  | succ n ih =>
    intro j acc h1 h2 hf
    rw [reredosref_joined_L2, hx]
    simp only [Option.bind_some]
    by_cases hj : j < xs.length
    · have hf' : fits 1 (acc.length + 1) := ⟨by have := hf.1; omega, by have := hf.2; omega⟩
      rw [if_pos (by simpa using hj), bind_at hj, if_pos hf', ih _ _ (by omega) (by omega) (by simp only [List.length_append, List.length_cons, List.length_nil]; rw [show acc.length + (0 + 1) + (xs.length - (j + 1)) = acc.length + (xs.length - j) from by omega]; exact hf)]
      congr 1
      rw [List.append_assoc, List.drop_eq_getElem_cons hj]; rfl
    · rw [if_neg (by simpa using hj), List.drop_eq_nil_of_le (by omega), List.append_nil]
theorem joined1 (xs : List Int) (hf : fits 1 xs.length) : reredosref_joined [xs] = some xs := by
  simp only [reredosref_joined, withK]
  rw [show ([xs] : List (List Int)).length + 1 = 1 + 1 from rfl, reredosref_joined_L1, if_pos (by simp)]
  simp only [withK]
  have h0 : ([xs] : List (List Int))[0]? = some xs := rfl
  rw [h0, Option.getD_some, joined2 [xs] 0 xs h0 _ _ _ _ (by omega) (by omega) (by simpa using hf)]
  rw [reredosref_joined_L1, if_neg (by simp)]
  simp
def TapeMay (t : Tape) : Prop := t.Data.length ≤ 6000 ∧ 0 ≤ t.Synced ∧ t.Synced ≤ t.Data.length
theorem TapeMay_eq (t : Tape) : reredosref_TapeMay t = some (decide (TapeMay t)) := by
  simp only [reredosref_TapeMay, withK, In_eq, Option.bind_some]
  by_cases h1 : (t.Data.length : Int) ≤ 6000
  · rw [if_pos (by simpa using h1)]
    congr 1; rw [decide_eq_decide]; unfold TapeMay; omega
  · rw [if_neg (by simpa using h1), decide_eq_false (fun h : TapeMay t => h1 (by have := h.1; omega))]
theorem fits_small {n : Nat} (h : n ≤ 6000) : fits 1 n := ⟨by omega, by unfold maxLen; omega⟩
theorem open_eq (t : Tape) : tape_open t = some (if TapeMay t then (t, true) else (Tape.mk [] 0, false)) := by
  simp only [tape_open]
  by_cases h1 : t.Synced < 0
  · rw [if_pos (by simpa using h1), if_neg (fun h : TapeMay t => by have := h.2.1; omega)]
  rw [if_neg (by simpa using h1)]
  by_cases h2 : t.Synced > t.Data.length
  · rw [if_pos (by simpa using h2), if_neg (fun h : TapeMay t => by have := h.2.2; omega)]
  rw [if_neg (by simpa using h2)]
  by_cases h3 : (t.Data.length : Int) > 6000
  · rw [if_pos (by simpa using h3), if_neg (fun h : TapeMay t => by have := h.1; omega)]
  have hm : TapeMay t := ⟨by omega, by omega, by omega⟩
  rw [if_neg (by simpa using h3), if_pos hm, cloneF, if_pos (fits_small hm.1)]
  rfl
theorem same_eq (a b : Tape) : reredoslaw_sameTape a b = some (a.Synced == b.Synced && (strOfNums a.Data).toList == (strOfNums b.Data).toList) := by
  simp only [reredoslaw_sameTape, withK]
  cases h : a.Synced == b.Synced <;> simp
theorem fits_of {n b : Nat} (h1 : n ≤ maxLen) (h2 : n * b ≤ reachBytes) : fits b n := ⟨by unfold reachBytes at h2; omega, h1⟩
theorem tapes_eq (t : Tape) (hf : fits 1 t.Data.length) : reredoslaw_tapes t = some t := by
  simp only [reredoslaw_tapes, reredoslaw_octets, if_pos hf, Option.bind_some]

end Go.V.Dec
