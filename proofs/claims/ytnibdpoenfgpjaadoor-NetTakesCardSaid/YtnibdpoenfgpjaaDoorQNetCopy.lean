/- Plain laws (NetCopy): no program, no memory; conditions as stated. -/
import Derived.Test.YtnibdpoenfgpjaaDoorG2
import Derived.Test.YtnibdpoenfgpjaaDoorQNet
import Derived.Test.YtnibdpoenfgpjaaDoorQCopies
set_option linter.unusedVariables false
set_option linter.unusedSimpArgs false
namespace Go.V.Dec
open Go Go.Proofs Classical
set_option maxRecDepth 100000
set_option maxHeartbeats 4000000
variable (G : Nat → Option (List D))
theorem fly_copy (fl : List (List Message)) (h1 : fits 24 fl.length) (h2 : ∀ x ∈ fl, fits 96 x.length) : reredosref_FlyingCopy fl = some fl := by
  have inner : ∀ (i : Nat) (hi : i < fl.length) (k : List Message → Option (List (List Message))), reredosref_FlyingCopy_L2 fl i k (fl[i].length + 1) 0 [] = k fl[i] := by
    intro i hi k
    have := copy_loop (L := reredosref_FlyingCopy_L2 fl i k) (l := fl[i]) (k := k) (h2 _ (List.getElem_mem hi)) (fun n j acc hj => by rw [reredosref_FlyingCopy_L2, bind_at hi, if_neg (by simpa using hj)])
      (fun n j acc hj hf => by rw [reredosref_FlyingCopy_L2, bind_at hi, if_pos (by simpa using hj), bind_at hj, if_pos hf]) (fl[i].length + 1) 0 [] (by omega) rfl (by omega)
    simpa using this
  have := copy_loop (L := reredosref_FlyingCopy_L1 fl some) (l := fl) (k := some) h1 (fun n i acc hi => by rw [reredosref_FlyingCopy_L1, if_neg (by simpa using hi)])
    (fun n i acc hi hf => by
      rw [reredosref_FlyingCopy_L1, if_pos (by simpa using hi)]
      simp only [withK, List.getElem?_eq_getElem hi, Option.getD_some]
      rw [inner i hi, if_pos hf]) (fl.length + 1) 0 [] (by omega) rfl (by omega)
  simpa [reredosref_FlyingCopy, withK] using this
theorem own_copy (fl : List (List Message)) (h1 : fits 24 fl.length) (h2 : ∀ x ∈ fl, fits 96 x.length) : net_own fl = some fl := by
  have := copy_loop (L := net_own_L1 fl some) (l := fl) (k := some) h1 (fun n i acc hi => by rw [net_own_L1, if_neg (by simpa using hi)])
    (fun n i acc hi hf => by
      rw [net_own_L1, if_pos (by simpa using hi), bind_at hi]
      simp only [cloneF, if_pos (h2 _ (List.getElem_mem hi)), Option.bind_some, if_pos hf]) (fl.length + 1) 0 [] (by omega) rfl (by omega)
  simpa [net_own, withK] using this
theorem sameMsgs_refl (l : List Message) : reredoslaw_sameMessages l l = some true := by
  simp only [reredoslaw_sameMessages, withK]
  have : (((l.length : Nat) : Int) != ((l.length : Nat) : Int)) = false := by simp
  rw [this]
  simp only [Bool.false_eq_true, if_false]
  exact true_loop (L := reredoslaw_sameMessages_L1 l l (some true)) (fun n i hi => by rw [reredoslaw_sameMessages_L1, if_neg (by simpa using hi)])
    (fun n i hi => by rw [reredoslaw_sameMessages_L1, if_pos (by simpa using hi), bind_at hi, bind_at hi]; simp) _ _ (by omega) (by omega)
theorem sameFly_refl (l : List (List Message)) : reredoslaw_sameFlying l l = some true := by
  simp only [reredoslaw_sameFlying, withK]
  have : (((l.length : Nat) : Int) != ((l.length : Nat) : Int)) = false := by simp
  rw [this]
  simp only [Bool.false_eq_true, if_false]
  exact true_loop (L := reredoslaw_sameFlying_L1 l l (some true)) (fun n i hi => by rw [reredoslaw_sameFlying_L1, if_neg (by simpa using hi)])
    (fun n i hi => by rw [reredoslaw_sameFlying_L1, if_pos (by simpa using hi), bind_at hi, bind_at hi, sameMsgs_refl]; simp) _ _ (by omega) (by omega)
theorem net_place (S f t : Int) (hs : 1 ≤ S ∧ S ≤ 4) (hf : 0 ≤ f ∧ f < S) (ht : 0 ≤ t ∧ t < S) : 0 ≤ IntKind.i64.wrap (IntKind.i64.wrap (f * S) + t) ∧ IntKind.i64.wrap (IntKind.i64.wrap (f * S) + t) < S * S := by
  have hS : S = 1 ∨ S = 2 ∨ S = 3 ∨ S = 4 := by omega
  rcases hS with rfl | rfl | rfl | rfl
  all_goals
    rw [wrap_in (n := f * _) (by omega) (by omega), wrap_in (by omega) (by omega)]
    omega
theorem fly_len (c : Config) (fl : List (List Message)) (h : reredosref_FlyingFault c fl = some 0) : (1 ≤ c.Sites ∧ c.Sites ≤ 4) ∧ ((fl.length : Nat) : Int) = c.Sites * c.Sites := by
  obtain ⟨e, he, hb⟩ := fault_total c
  simp only [reredosref_FlyingFault, he, Option.bind_some, withK] at h
  by_cases h0 : e = 0
  case neg => simp [h0] at h
  obtain ⟨hs, _⟩ := hb h0
  subst h0
  refine ⟨hs, ?_⟩
  simp only [bne_self_eq_false, Bool.false_eq_true, if_false] at h
  by_cases h1 : ((fl.length : Nat) : Int) = IntKind.i64.wrap (c.Sites * c.Sites)
  · rw [h1]
    have hS : c.Sites = 1 ∨ c.Sites = 2 ∨ c.Sites = 3 ∨ c.Sites = 4 := by omega
    rcases hS with h | h | h | h <;> rw [h, wrap_in (by omega) (by omega)]
  · have : (((fl.length : Nat) : Int) != IntKind.i64.wrap (c.Sites * c.Sites)) = true := by simpa using h1
    simp [this] at h
theorem fits_msg {n : Nat} (h : n ≤ 100) : fits 96 n := ⟨by omega, by unfold maxLen; omega⟩

end Go.V.Dec
