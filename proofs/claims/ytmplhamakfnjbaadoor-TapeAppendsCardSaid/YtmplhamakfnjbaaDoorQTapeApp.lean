/- Plain laws (TapeApp): no program, no memory; conditions as stated. -/
import Derived.Test.YtmplhamakfnjbaaDoorG4
import Derived.Test.YtmplhamakfnjbaaDoorQEncRec
set_option linter.unusedVariables false
set_option linter.unusedSimpArgs false
namespace Go.V.Dec
open Go Go.Proofs Classical
set_option maxRecDepth 100000
set_option maxHeartbeats 4000000
theorem concat1 (l : List (List Int)) (k : Int → Option (List Int)) : ∀ n i (acc : Nat), l.length < n + i → i ≤ l.length → acc + (l.drop i).flatten.length ≤ 60000000000000 → slices_Concat_byte_L1 l k n (acc : Int) i = k ((acc + (l.drop i).flatten.length : Nat) : Int) := by
  intro n
  induction n with
  | zero => intro i acc h1 h2; omega
  | succ n ih =>
    intro i acc h1 h2 h3
    rw [slices_Concat_byte_L1]
    by_cases hi : i < l.length
    · have e : (l.drop i).flatten = l[i] ++ (l.drop (i + 1)).flatten := by rw [List.drop_eq_getElem_cons hi, List.flatten_cons]
      rw [e, List.length_append] at h3 ⊢
      have w : IntKind.i64.wrap ((acc : Int) + ((l[i].length : Nat) : Int)) = ((acc + l[i].length : Nat) : Int) := by rw [wrap_in (by omega) (by omega)]; omega
      have nn : ¬ (((acc + l[i].length : Nat) : Int) < 0) := by omega
      rw [if_pos (by simpa using hi), bind_at hi]
      simp only [withK, w, decide_eq_false nn, Bool.false_eq_true, if_false]
      rw [ih (i + 1) _ (by omega) (by omega) (by omega), Nat.add_assoc]
    · rw [if_neg (by simpa using hi), List.drop_of_length_le (by omega)]; simp
theorem concat2 (l : List (List Int)) (k : List Int → Option (List Int)) : ∀ n i acc, l.length < n + i → i ≤ l.length → acc.length + (l.drop i).flatten.length ≤ 60000000000000 → slices_Concat_byte_L2 l k n i acc = k (acc ++ (l.drop i).flatten) := by
  intro n
  induction n with
  | zero => intro i acc h1 h2; omega
  | succ n ih =>
    intro i acc h1 h2 h3
    rw [slices_Concat_byte_L2]
    by_cases hi : i < l.length
    · have e : (l.drop i).flatten = l[i] ++ (l.drop (i + 1)).flatten := by rw [List.drop_eq_getElem_cons hi, List.flatten_cons]
      rw [e, List.length_append] at h3
      rw [if_pos (by simpa using hi), bind_at hi, if_pos (f1_of (by omega)), ih _ _ (by omega) (by omega) (by rw [List.length_append]; omega), e, List.append_assoc]
    · rw [if_neg (by simpa using hi), List.drop_of_length_le (by omega)]; simp
theorem concat_eq (l : List (List Int)) (h : l.flatten.length ≤ 60000000000000) : slices_Concat_byte l = some l.flatten := by
  simp only [slices_Concat_byte, withK]
  have e := concat1 l (fun (b2_1 : Int) => (if (decide (b2_1 < 0)) = true then none else (if (decide (IntKind.i64.wrap (b2_1) > 0)) = true then (if 0 < IntKind.i64.wrap (b2_1) then (if fits 1 ((IntKind.i64.wrap (b2_1)).toNat) then (slices_Concat_byte_L2 l (fun b => some b) (l.length + 1) 0 []) else none) else none) else (slices_Concat_byte_L2 l (fun b => some b) (l.length + 1) 0 [])))) (l.length + 1) 0 0 (by omega) (by omega) (by simpa using h)
  simp only [List.drop_zero, Nat.zero_add] at e
  refine Eq.trans ?_ (e.trans ?_)
  · rfl
  · have w : IntKind.i64.wrap ((l.flatten.length : Nat) : Int) = ((l.flatten.length : Nat) : Int) := wrap_in (by omega) (by omega)
    have n0 : ¬ (((l.flatten.length : Nat) : Int) < 0) := by omega
    have e2 := concat2 l (fun b => some b) (l.length + 1) 0 [] (by omega) (by omega) (by simpa using h)
    simp only [List.drop_zero, List.nil_append] at e2
    simp only [w, decide_eq_false n0, Bool.false_eq_true, if_false, e2, Int.toNat_natCast]
    by_cases hp : ((l.flatten.length : Nat) : Int) > 0
    · have hp' : 0 < ((l.flatten.length : Nat) : Int) := hp
      simp only [decide_eq_true hp, if_true, if_pos hp', if_pos (f1_of (show l.flatten.length ≤ 70000000000000 by omega))]
    · simp only [decide_eq_false hp, Bool.false_eq_true, if_false]
def TapeMay (t : Tape) : Prop := t.Data.length ≤ 6000 ∧ 0 ≤ t.Synced ∧ t.Synced ≤ t.Data.length
theorem TapeMay_eq (t : Tape) : reredosref_TapeMay t = some (decide (TapeMay t)) := by
  simp only [reredosref_TapeMay, withK, In_eq, Option.bind_some]
  by_cases h1 : (t.Data.length : Int) ≤ 6000
  · rw [if_pos (by simpa using h1)]
    congr 1; rw [decide_eq_decide]; unfold TapeMay; omega
  · rw [if_neg (by simpa using h1), decide_eq_false (fun h : TapeMay t => h1 (by have := h.1; omega))]
theorem fits_small {n : Nat} (h : n ≤ 6000) : fits 1 n := ⟨by omega, by unfold maxLen; omega⟩
theorem open_eq (t : Tape) : tape_open t = some (if TapeMay t then (t, true) else (Tape.mk [] 0, false)) := by
  simp only [tape_open]
  by_cases h1 : t.Synced < 0
  · rw [if_pos (by simpa using h1), if_neg (fun h : TapeMay t => by have := h.2.1; omega)]
  rw [if_neg (by simpa using h1)]
  by_cases h2 : t.Synced > t.Data.length
  · rw [if_pos (by simpa using h2), if_neg (fun h : TapeMay t => by have := h.2.2; omega)]
  rw [if_neg (by simpa using h2)]
  by_cases h3 : (t.Data.length : Int) > 6000
  · rw [if_pos (by simpa using h3), if_neg (fun h : TapeMay t => by have := h.1; omega)]
  have hm : TapeMay t := ⟨by omega, by omega, by omega⟩
  rw [if_neg (by simpa using h3), if_pos hm, cloneF, if_pos (fits_small hm.1)]
  rfl
theorem same_eq (a b : Tape) : reredoslaw_sameTape a b = some (a.Synced == b.Synced && (strOfNums a.Data).toList == (strOfNums b.Data).toList) := by
  simp only [reredoslaw_sameTape, withK]
  cases h : a.Synced == b.Synced <;> simp
theorem fits_of {n b : Nat} (h1 : n ≤ maxLen) (h2 : n * b ≤ reachBytes) : fits b n := ⟨by unfold reachBytes at h2; omega, h1⟩
theorem tapes_eq (t : Tape) (hf : fits 1 t.Data.length) : reredoslaw_tapes t = some t := by
  simp only [reredoslaw_tapes, reredoslaw_octets, if_pos hf, Option.bind_some]
/-- How long what is written of a record may be. -/
theorem enc_len (c : Config) (r : Record) (hm : r.Sites.length ≤ 40000000000000) (v : List Int × Int) (h : reredosref_RecordBytes c r = some v) : v.1.length ≤ 41000000000000 := by
  obtain ⟨g, e, he⟩ := rec_same c r (by simp only [maxLen]; omega)
  simp only [reredosref_RecordBytes, he, Option.bind_some] at h
  by_cases h0 : e = 0
  case neg =>
    have h1 : (e != 0) = true := by simpa using h0
    simp only [h1, if_true] at h
    cases h; simp
  subst h0
  obtain ⟨hk, ht, hv, ha⟩ := rec_bounds c r he
  simp only [bne_self_eq_false, Bool.false_eq_true, if_false, txn_bytes r.Txn ht, bytes4 r.Value (by omega), bytes3 r.Ask (by omega), bit_bytes, Option.bind_some, withK] at h
  rw [joined_eq _ (by simp [by1_len, by3_len])] at h
  simp only [Option.bind_some] at h
  generalize hv4 : ([[IntKind.u8.wrap r.Kind], by1 r.Txn.Site ++ by3 r.Txn.N] : List (List Int)).flatten = v4 at h
  have l4 : v4.length = 5 := by rw [← hv4]; simp [by1_len, by3_len]
  have bit : ∀ x : Int, reredosref_joined [v4, by1 x] = some (v4 ++ by1 x) := fun x => by
    rw [joined_eq _ (by simp [by1_len, l4])]; simp
  simp only [bit, Option.bind_some] at h
  have sites : ∀ K, reredosref_RecordBytes_L1 r K (r.Sites.length + 1) 0 (v4 ++ [IntKind.u8.wrap ((r.Sites.length : Nat) : Int)]) = K (v4 ++ [IntKind.u8.wrap ((r.Sites.length : Nat) : Int)] ++ r.Sites.map IntKind.u8.wrap) := fun K => by
    have := (sites_enc r K (r.Sites.length + 1) 0 (v4 ++ [IntKind.u8.wrap ((r.Sites.length : Nat) : Int)]) (by omega) (by omega) (by simp [l4]; omega)).2
    simpa using this
  have f6 : fits 1 (v4.length + 1) := f1_of (by omega)
  simp only [sites, if_pos f6] at h
  rw [joined_eq _ (by simp [by4_len, by3_len, l4])] at h
  simp only [Option.bind_some] at h
  have fin : ∀ l : List Int, l.length ≤ 41000000000000 → some (l, (0 : Int)) = some v → v.1.length ≤ 41000000000000 := fun l h1 h2 => by cases h2; exact h1
  cases k1 : (r.Kind == 1) <;> cases k2 : (r.Kind == 2) <;> cases k6 : (r.Kind == 6) <;> cases k3 : (r.Kind == 3) <;> simp only [k1, k2, k3, k6, if_true, Bool.false_eq_true, if_false] at h <;> refine fin _ ?_ h <;> simp [by1_len, by3_len, by4_len, l4] <;> omega
theorem app_same (c : Config) (t : Tape) (r : Record) (hm : r.Sites.length ≤ 40000000000000) : ∃ x, tape_Append c t r = some x ∧ reredosref_TapeAppended c t r = some x := by
  simp only [tape_Append, reredosref_TapeAppended, open_eq, TapeMay_eq, Option.bind_some, withK]
  by_cases hmay : TapeMay t
  case neg =>
    rw [if_neg hmay, decide_eq_false hmay]
    exact ⟨_, rfl, rfl⟩
  obtain ⟨m1, m2, m3⟩ := id hmay
  rw [if_pos hmay, decide_eq_true hmay]
  obtain ⟨v, e1, e2⟩ := enc_same c r hm
  have hl := enc_len c r hm v e2
  simp only [Bool.not_true, Bool.false_eq_true, if_false, e1, e2, Option.bind_some]
  cases h0 : (v.2 != 0)
  case true => exact ⟨_, rfl, rfl⟩
  have w1 : IntKind.i64.wrap (((t.Data.length : Nat) : Int) + 1) = ((t.Data.length : Nat) : Int) + 1 := wrap_in (by omega) (by omega)
  have w2 : IntKind.i64.wrap (((t.Data.length : Nat) : Int) + 1 + ((v.1.length : Nat) : Int)) = ((t.Data.length : Nat) : Int) + 1 + ((v.1.length : Nat) : Int) := wrap_in (by omega) (by omega)
  have hfl : ([t.Data, [IntKind.u8.wrap (((v.1.length : Nat) : Int))], v.1] : List (List Int)).flatten.length = t.Data.length + 1 + v.1.length := by simp; omega
  simp only [Bool.false_eq_true, if_false, w1, w2, joined_eq _ (show ([t.Data, [IntKind.u8.wrap (((v.1.length : Nat) : Int))], v.1] : List (List Int)).flatten.length ≤ 60000000000000 by omega), concat_eq _ (show ([t.Data, [IntKind.u8.wrap (((v.1.length : Nat) : Int))], v.1] : List (List Int)).flatten.length ≤ 60000000000000 by omega), Option.bind_some, hfl]
  have e : decide (((t.Data.length + 1 + v.1.length : Nat) : Int) > 6000) = decide (((t.Data.length : Nat) : Int) + 1 + ((v.1.length : Nat) : Int) > 6000) := by rw [decide_eq_decide]; omega
  rw [e]
  cases decide (((t.Data.length : Nat) : Int) + 1 + ((v.1.length : Nat) : Int) > 6000) <;> exact ⟨_, rfl, rfl⟩

end Go.V.Dec
