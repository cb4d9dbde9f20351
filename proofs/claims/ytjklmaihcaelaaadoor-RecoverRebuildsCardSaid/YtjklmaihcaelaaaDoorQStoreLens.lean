/- Plain laws (StoreLens): no program, no memory; conditions as stated. -/
import Derived.Test.YtjklmaihcaelaaaDoorG1
import Derived.Test.YtjklmaihcaelaaaDoorQStoreC
set_option linter.unusedVariables false
set_option linter.unusedSimpArgs false
namespace Go.V.Dec
open Go Go.Proofs Classical
set_option maxRecDepth 100000
set_option maxHeartbeats 4000000
variable (G : Nat → Option (List D))
theorem w2h {α : Type} [DecidableEq α] : ∀ (l m : List α), l.Nodup → (∀ x ∈ l, x ∈ m) → l.length ≤ m.length
 | [], m, _, _ => Nat.zero_le _
 | a :: l, m, h, hs => by
  have hn := List.nodup_cons.1 h
  have ha : a ∈ m := hs a (by simp)
  have := w2h l (m.erase a) hn.2 (fun x hx => (List.mem_erase_of_ne (by rintro rfl; exact hn.1 hx)).2 (hs x (by simp [hx])))
  have h2 := List.length_erase_of_mem ha
  have h3 : 0 < m.length := List.length_pos_of_mem ha
  simp only [List.length_cons]; omega
theorem w1t (s : Store) (h : May s) : s.Doubts.length ≤ 24 := by
 have h1 : (s.Doubts.map fun d => d.Txn).Nodup := by
  rw [List.nodup_iff_pairwise_ne, List.pairwise_iff_getElem]
  intro i j hi hj hij e
  simp only [List.length_map] at hi hj
  simp only [List.getElem_map] at e
  exact ((h.2.1 j hj) _ (List.getElem?_eq_getElem hj)).2.2.2.2.2 i _ hij (List.getElem?_eq_getElem hi) e
 have h2 := w2h (s.Doubts.map fun d => d.Txn) (s.Locks.map fun x => x.Txn) h1 (by
  intro t ht
  obtain ⟨d, hd, rfl⟩ := List.mem_map.1 ht
  obtain ⟨j, hj, rfl⟩ := List.getElem_of_mem hd
  obtain ⟨x, hx, e⟩ := ((h.2.1 j hj) _ (List.getElem?_eq_getElem hj)).2.2.2.2.1
  exact List.mem_map.2 ⟨x, hx, e⟩)
 simp only [List.length_map] at h2
 have := h.2.2.2.2
 omega

end Go.V.Dec
