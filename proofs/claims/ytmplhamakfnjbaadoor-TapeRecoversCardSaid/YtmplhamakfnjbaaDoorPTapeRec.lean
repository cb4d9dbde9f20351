/- Plain laws (TapeRec): no program, no memory; conditions as stated. -/
import Derived.Test.YtmplhamakfnjbaaDoorF5
import Derived.Test.YtmplhamakfnjbaaDoorPDecRec
import Derived.Test.YtmplhamakfnjbaaDoorPTape
set_option linter.unusedVariables false
set_option linter.unusedSimpArgs false
namespace Go.V.Dec
open Go Go.Proofs Classical
set_option maxRecDepth 100000
set_option maxHeartbeats 4000000
theorem fault_ne5 (c : Config) (e : Int) (he : reredosref_ConfigFault c = some e) : e ≠ 5 := by
  have key : ∀ k : Option Int, (∀ r, k = some r → r ≠ 5) → ∀ n i, ∀ r, reredosref_ConfigFault_L1 c k n i = some r → r ≠ 5 := by
    intro k hk n
    induction n with
    | zero => intro i r h; simp [reredosref_ConfigFault_L1] at h
    | succ n ih =>
      intro i r h
      rw [reredosref_ConfigFault_L1] at h
      by_cases hi : i < c.Labels.length
      · rw [if_pos (by simpa using hi), bind_at hi] at h
        simp only [withK, rlab2 c i hi, In_eq, Option.bind_some] at h
        split at h
        · cases h; decide
        split at h
        · cases h; decide
        split at h
        · exact ih _ _ h
        · cases h; decide
      · rw [if_neg (by simpa using hi)] at h; exact hk r h
  simp only [reredosref_ConfigFault, withK, In_eq, Option.bind_some] at he
  split at he
  · cases he; decide
  split at he
  · cases he; decide
  refine key _ ?_ _ _ _ he
  intro r hr
  split at hr <;> cases hr <;> decide
theorem dec_nil (c : Config) (h : reredosref_ConfigFault c = some 0) : ∃ x, wire_DecodeRecord c [] = some (x, 5) := by
  have hf : fits 1 ([] : List Int).length := ⟨by decide, by decide⟩
  simp only [wire_DecodeRecord, label_same c, h, Option.bind_some, cloneF, if_pos hf]
  exact ⟨_, rfl⟩
/-- Both readers of a tape come to the same place. -/
theorem rec_loop (c : Config) (D : List Int) (v : Tape × Bool) (t : Tape) (hv : v.1.Data = D) (ht : t.Data = D) (hB : bytesB D) (hd : D.length ≤ 6000) {K K' : Int → List Record → Option (List Record × Tape × Int)}
    (hK : ∀ a : Nat, a ≤ D.length → ∀ l, ∃ r, K a l = some r ∧ K' a l = some r) :
    ∀ n (a : Nat) l, D.length < n + a → a ≤ D.length → l.length ≤ a → ∃ r, tape_Recover_L1 c v K n a l = some r ∧ reredosref_TapeRecovered_L1 c t K' n a l = some r := by
  intro n
  induction n with
  | zero => intro a l h1 h2; omega
  | succ n ih =>
    intro a l h1 h2 h3
    rw [tape_Recover_L1, reredosref_TapeRecovered_L1, hv, ht]
    by_cases ha : a < D.length
    case neg =>
      rw [if_neg (by simpa using ha), if_neg (by simpa using ha)]
      exact hK a h2 l
    obtain ⟨g1, g2, g3⟩ := getD_in hB ha
    generalize D.getD a 0 = x at g1 g2 g3
    have w1 : IntKind.i64.wrap ((a : Int) + 1) = (a : Int) + 1 := wrap_in (by omega) (by omega)
    have w2 : IntKind.i64.wrap x = x := wrap_in (by omega) (by omega)
    have w3 : IntKind.i64.wrap ((a : Int) + 1 + x) = (a : Int) + 1 + x := wrap_in (by omega) (by omega)
    have w4 : IntKind.i64.wrap (1 + x) = 1 + x := wrap_in (by omega) (by omega)
    have w5 : IntKind.i64.wrap ((a : Int) + (1 + x)) = (a : Int) + 1 + x := by rw [wrap_in (by omega) (by omega)]; omega
    simp only [Int.toNat_natCast, g1, Option.bind_some, w1, w2, w3, w4, w5, withK]
    have q1 : decide ((a : Int) < ((D.length : Nat) : Int)) = true := by simpa using ha
    have q2 : 0 ≤ (a : Int) := by omega
    simp only [q1, if_true, if_pos q2]
    by_cases hx : (a : Int) + 1 + x > D.length
    · simp only [decide_eq_true hx, if_true]
      exact hK a h2 l
    have q3 : 0 ≤ (a : Int) + 1 := by omega
    have q4 : (a : Int) + 1 ≤ (a : Int) + 1 + x := by omega
    have q5 : (a : Int) + 1 + x ≤ (D.length : Int) := by omega
    simp only [decide_eq_false hx, Bool.false_eq_true, if_false, if_pos q3, if_pos q4, if_pos q5]
    have hB2 : bytesB ((D.drop ((a : Int) + 1).toNat).take ((a : Int) + 1 + x - ((a : Int) + 1)).toNat) := fun y hy => hB y (List.mem_of_mem_drop (List.mem_of_mem_take hy))
    generalize hq : (D.drop ((a : Int) + 1).toNat).take ((a : Int) + 1 + x - ((a : Int) + 1)).toNat = B2 at hB2
    have hl2 : B2.length ≤ 6000 := by rw [← hq]; simp only [List.length_take, List.length_drop]; omega
    obtain ⟨r, e1, e2⟩ := dec_same c hB2 (fits_small hl2) (by omega)
    rw [e1, e2]
    simp only [Option.bind_some]
    by_cases h0 : (r.2 != 0) = true
    · rw [if_pos h0, if_pos h0]; exact hK a h2 l
    rw [if_neg h0, if_neg h0]
    have hf : fits 80 (l.length + 1) := ⟨by omega, by unfold maxLen; omega⟩
    rw [if_pos hf, if_pos hf, show (a : Int) + 1 + x = ((a + 1 + x.toNat : Nat) : Int) from by omega]
    exact ih (a + 1 + x.toNat) (l ++ [r.1]) (by omega) (by omega) (by simp; omega)
theorem sameIntsR (l : List Int) : reredoslaw_sameInts l l = some true := by
  simp only [reredoslaw_sameInts, withK, bne_self_eq_false, Bool.false_eq_true, if_false]
  exact true_loop (L := reredoslaw_sameInts_L1 l l _) (len := l.length) (fun n i hi => by rw [reredoslaw_sameInts_L1, if_neg (by simpa using hi)]) (fun n i hi => by rw [reredoslaw_sameInts_L1, if_pos (by simpa using hi), bind_at hi, bind_at hi, if_neg (by simp)]) _ 0 (by omega) (by omega)
theorem sameRecR (r : Record) : reredoslaw_sameRecord r r = some true := by
  simp [reredoslaw_sameRecord, withK, sameIntsR]
theorem sameRecsR (l : List Record) : reredoslaw_sameRecords l l = some true := by
  simp only [reredoslaw_sameRecords, withK, bne_self_eq_false, Bool.false_eq_true, if_false]
  exact true_loop (L := reredoslaw_sameRecords_L1 l l _) (len := l.length) (fun n i hi => by rw [reredoslaw_sameRecords_L1, if_neg (by simpa using hi)]) (fun n i hi => by rw [reredoslaw_sameRecords_L1, if_pos (by simpa using hi), bind_at hi, bind_at hi, sameRecR, Option.bind_some, if_neg (by simp)]) _ 0 (by omega) (by omega)
theorem tape_rec_same (c : Config) (t : Tape) (hB : bytesB t.Data) : ∃ r, tape_Recover c t = some r ∧ reredosref_TapeRecovered c t = some r := by
  simp only [tape_Recover, reredosref_TapeRecovered, open_eq, TapeMay_eq, Option.bind_some]
  by_cases hm : TapeMay t
  case neg =>
    rw [if_neg hm, decide_eq_false hm]
    exact ⟨_, rfl, rfl⟩
  rw [if_pos hm, decide_eq_true hm]
  obtain ⟨m1, m2, m3⟩ := hm
  simp only [Bool.not_true, Bool.false_eq_true, if_false]
  obtain ⟨e, he, _⟩ := fault_total c
  have h5 := fault_ne5 c e he
  rw [he, Option.bind_some]
  by_cases h0 : e = 0
  case neg =>
    have hf : fits 1 ([] : List Int).length := ⟨by decide, by decide⟩
    have h1 : (e != 0) = true := by simpa using h0
    have h2 : (e != 5) = true := by simpa using h5
    have hd : wire_DecodeRecord c [] = some ((Record.mk 0 (Txn.mk 0 0) 0 0 0 false []), e) := by
      simp only [wire_DecodeRecord, label_same c, he, Option.bind_some, h1, if_true]
    rw [hd, Option.bind_some, h1]
    simp only [h2, if_true]
    exact ⟨_, rfl, rfl⟩
  subst h0
  obtain ⟨x, hx⟩ := dec_nil c he
  rw [hx, Option.bind_some]
  simp only [bne_self_eq_false, Bool.false_eq_true, if_false]
  refine sim_abs (P := fun k k' => ∀ a : Nat, a ≤ t.Data.length → ∀ l, ∃ r, k (a : Int) l = some r ∧ k' (a : Int) l = some r) ?_ (fun k k' hk => rec_loop c t.Data (t, true) t rfl rfl hB m1 hk (t.Data.length + 1) 0 [] (by omega) (by omega) (by simp))
  intro a ha l
  simp only [withK, Int.toNat_natCast]
  have q1 : 0 ≤ (a : Int) := by omega
  have q2 : (a : Int) ≤ (t.Data.length : Int) := by omega
  simp only [if_pos q1, if_pos q2]
  have hj : reredosref_joined [t.Data.take a] = some (t.Data.take a) := joined1 _ (fits_small (by simp only [List.length_take]; omega))
  simp only [hj, Option.bind_some]
  refine ⟨(l, Tape.mk (t.Data.take a) (if (a : Int) < t.Synced then (a : Int) else t.Synced), 0), ?_, ?_⟩
  · by_cases h : (0 : Int) = (a : Int)
    · have : a = 0 := by omega
      subst this; rfl
    · rw [if_neg (by simpa using h)]
  · by_cases h : (a : Int) < t.Synced
    · have h' : t.Synced > (a : Int) := h
      rw [if_pos (by simpa using h'), if_pos h]
    · have h' : ¬ t.Synced > (a : Int) := h
      rw [if_neg (by simpa using h'), if_neg h]

end Go.V.Dec
