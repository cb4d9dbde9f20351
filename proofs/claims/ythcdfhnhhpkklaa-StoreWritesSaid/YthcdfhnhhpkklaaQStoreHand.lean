/- Plain laws (StoreHand): no program, no memory; conditions as stated. -/
import Derived.Test.YthcdfhnhhpkklaaG3
import Derived.Test.YthcdfhnhhpkklaaQStoreItem
import Derived.Test.YthcdfhnhhpkklaaQStoreCopy
set_option linter.unusedVariables false
set_option linter.unusedSimpArgs false
namespace Go.V.Dec
open Go Go.Proofs Classical
set_option maxRecDepth 100000
set_option maxHeartbeats 4000000
theorem nodup_len {α : Type} [DecidableEq α] : ∀ (l m : List α), l.Nodup → (∀ x ∈ l, x ∈ m) → l.length ≤ m.length
  | [], m, _, _ => Nat.zero_le _
  | a :: l, m, h, hs => by
    have hn := List.nodup_cons.1 h
    have ha : a ∈ m := hs a (by simp)
    have := nodup_len l (m.erase a) hn.2 (fun x hx => (List.mem_erase_of_ne (by rintro rfl; exact hn.1 hx)).2 (hs x (by simp [hx])))
    have h2 := List.length_erase_of_mem ha
    have h3 : 0 < m.length := List.length_pos_of_mem ha
    simp only [List.length_cons]; omega
theorem doubts_len (s : Store) (h : May s) : s.Doubts.length ≤ 24 := by
  have h1 : (s.Doubts.map fun d => d.Txn).Nodup := by
    rw [List.nodup_iff_pairwise_ne, List.pairwise_iff_getElem]
    intro i j hi hj hij e
    simp only [List.length_map] at hi hj
    simp only [List.getElem_map] at e
    exact ((h.2.1 j hj) _ (List.getElem?_eq_getElem hj)).2.2.2.2.2 i _ hij (List.getElem?_eq_getElem hi) e
  have h2 := nodup_len (s.Doubts.map fun d => d.Txn) (s.Locks.map fun x => x.Txn) h1 (by
    intro t ht
    obtain ⟨d, hd, rfl⟩ := List.mem_map.1 ht
    obtain ⟨j, hj, rfl⟩ := List.getElem_of_mem hd
    obtain ⟨x, hx, e⟩ := ((h.2.1 j hj) _ (List.getElem?_eq_getElem hj)).2.2.2.2.1
    exact List.mem_map.2 ⟨x, hx, e⟩)
  simp only [List.length_map] at h2
  have := h.2.2.2.2
  omega
theorem doubtOf_val (s : Store) (t : Txn) : ∃ v, reredosref_doubtOf s t = some v ∧ decide (v < 0) = !decide (hasDoubt s t) := by
  rcases doubtOf_eq s t with ⟨h, e⟩ | ⟨j, d, h1, h2, _, e⟩
  · exact ⟨_, e, by rw [decide_eq_false h]; rfl⟩
  · refine ⟨_, e, ?_⟩
    have : hasDoubt s t := ⟨d, List.mem_of_getElem? h1, h2⟩
    rw [decide_eq_true this, decide_eq_false (by omega)]; rfl
theorem item_small (s : Store) (hs : ItemsOk s.Items) (k : Int) : ∃ r, reredosref_itemOf s k = some r ∧ r.Version ≤ 1048576 := by
  have key : ∀ n i, s.Items.length < n + i → i ≤ s.Items.length → ∃ r, reredosref_itemOf_L1 s k (some (Item.mk k 0 0)) n i = some r ∧ r.Version ≤ 1048576 := by
    intro n
    induction n with
    | zero =>
      intro i h h2; omega
    | succ n ih =>
      intro i h h2
      rw [reredosref_itemOf_L1]
      by_cases hi : i < s.Items.length
      · rw [if_pos (by simpa using hi), bind_at hi]
        split
        · exact ⟨_, rfl, ((hs i hi) _ (List.getElem?_eq_getElem hi)).1.2.2.2.2.2⟩
        · exact ih _ (by omega) (by omega)
      · rw [if_neg (by simpa using hi)]; exact ⟨_, rfl, Int.le_of_lt (by show (0:Int) < 1048576; omega)⟩
  simp only [reredosref_itemOf, withK]
  exact key _ _ (by omega) (by omega)

end Go.V.Dec
