/- Plain laws (StoreCopy): no program, no memory; conditions as stated. -/
import Derived.Test.YtjklmaihcaelaaaDoorG3
import Derived.Test.YtjklmaihcaelaaaDoorQStoreC
import Derived.Test.YtjklmaihcaelaaaDoorQCopies
set_option linter.unusedVariables false
set_option linter.unusedSimpArgs false
namespace Go.V.Dec
open Go Go.Proofs Classical
set_option maxRecDepth 100000
set_option maxHeartbeats 4000000
variable (G : Nat → Option (List D))
def vp (s : Store) : Prop := fits 24 s.Items.length ∧ fits 48 s.Locks.length ∧ fits 24 s.Doubts.length ∧ fits 16 s.Over.length
theorem y3s (s : Store) (h : vp s) : xe s = some s := by
 obtain ⟨h1, h2, h3, h4⟩ := h
 simp only [xe, withK]
 rw [u0z (L := vj s _) (l := s.Items) h1 (fun n i acc hi => by rw [vj, if_neg (by simpa using hi)]) (fun n i acc hi hf => by rw [vj, if_pos (by simpa using hi), va hi, if_pos hf]) _ 0 [] (by omega) rfl (by omega)]
 rw [u0z (L := wj s _) (l := s.Locks) h2 (fun n i acc hi => by rw [wj, if_neg (by simpa using hi)]) (fun n i acc hi hf => by rw [wj, if_pos (by simpa using hi), va hi, if_pos hf]) _ 0 [] (by omega) rfl (by omega)]
 rw [u0z (L := xj s _) (l := s.Doubts) h3 (fun n i acc hi => by rw [xj, if_neg (by simpa using hi)]) (fun n i acc hi hf => by rw [xj, if_pos (by simpa using hi), va hi, if_pos hf]) _ 0 [] (by omega) rfl (by omega)]
 rw [u0z (L := yj s _) (l := s.Over) h4 (fun n i acc hi => by rw [yj, if_neg (by simpa using hi)]) (fun n i acc hi hf => by rw [yj, if_pos (by simpa using hi), va hi, if_pos hf]) _ 0 [] (by omega) rfl (by omega)]
 rfl
theorem x3g (l : List Txn) : y0b l l = some true := by
 simp only [y0b, withK, bne_self_eq_false, Bool.false_eq_true, if_false]
 exact w0k (L := wl l l _) (len := l.length) (fun n i hi => by rw [wl, if_neg (by simpa using hi)]) (fun n i hi => by rw [wl, if_pos (by simpa using hi), va hi, va hi, if_neg (by simp)]) _ 0 (by omega) (by omega)
theorem x2y (s : Store) : yy s s = some true := by
 simp only [yy, withK, bne_self_eq_false, Bool.false_eq_true, if_false, x3g, Option.bind_some, Bool.not_true]
 rw [w0k (L := xk s s _) (len := s.Items.length) (fun n i hi => by rw [xk, if_neg (by simpa using hi)]) (fun n i hi => by rw [xk, if_pos (by simpa using hi), va hi, va hi, if_neg (by simp)]) _ 0 (by omega) (by omega)]
 rw [w0k (L := yk s s _) (len := s.Locks.length) (fun n i hi => by rw [yk, if_neg (by simpa using hi)]) (fun n i hi => by rw [yk, if_pos (by simpa using hi), va hi, va hi, if_neg (by simp)]) _ 0 (by omega) (by omega)]
 rw [w0k (L := zk s s _) (len := s.Doubts.length) (fun n i hi => by rw [zk, if_neg (by simpa using hi)]) (fun n i hi => by rw [zk, if_pos (by simpa using hi), va hi, va hi, if_neg (by simp)]) _ 0 (by omega) (by omega)]
theorem y5g (s : Store) (h : vp s) : x0n s = some s := by
 simp only [x0n, v0o, if_pos h.1, if_pos h.2.1, if_pos h.2.2.1, if_pos h.2.2.2, Option.bind_some]

end Go.V.Dec
