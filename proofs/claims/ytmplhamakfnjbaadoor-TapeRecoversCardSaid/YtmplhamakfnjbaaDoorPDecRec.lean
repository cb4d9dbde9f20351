/- Plain laws (DecRec): no program, no memory; conditions as stated. -/
import Derived.Test.YtmplhamakfnjbaaDoorF4
import Derived.Test.YtmplhamakfnjbaaDoorPDec
import Derived.Test.YtmplhamakfnjbaaDoorPWireRec
set_option linter.unusedVariables false
set_option linter.unusedSimpArgs false
namespace Go.V.Dec
open Go Go.Proofs Classical
set_option maxRecDepth 100000
set_option maxHeartbeats 4000000
theorem sim_abs {A A' R : Type} {K : A} {K' : A'} {T : A → Option R} {T' : A' → Option R} (P : A → A' → Prop) (hK : P K K') (hT : ∀ k k', P k k' → ∃ r, T k = some r ∧ T' k' = some r) : ∃ r, withK K T = some r ∧ withK K' T' = some r := hT K K' hK
theorem sim_goL {A R : Type} {K : A} {T : A → Option R} {y : Option R} (h : ∃ r, T K = some r ∧ y = some r) : ∃ r, withK K T = some r ∧ y = some r := h
theorem sim_goR {A R : Type} {K : A} {T : A → Option R} {y : Option R} (h : ∃ r, y = some r ∧ T K = some r) : ∃ r, y = some r ∧ withK K T = some r := h
theorem fin_sim (c : Config) {B : List Int} (rc : Record) (hm : rc.Sites.length ≤ maxLen) {off len f : Nat} {L : List Int} {p : Int} {e : Nat} (rel : Rel B off len f L p e) :
    ∃ r, (if (((f : Nat) : Int) == 0) = true then (withK (fun (b193_1 : Nat) => (withK (fun (b196_1 : Int) => (if (b196_1 != 0) = true then (withK (some ((Record.mk 0 (Txn.mk 0 0) 0 0 0 false []), b196_1)) fun k202 => k202) else (some (rc, 0)))) fun k197 => (if (((b193_1 : Nat) : Int) == 0) = true then (Option.bind (wire_CheckRecord c rc) fun v199 => (k197 v199)) else (k197 ((b193_1 : Nat) : Int))))) fun k194 => (if (decide (((len : Nat) : Int) > 0)) = true then (k194 4) else (k194 f))) else (withK (withK (fun (b205_1 : Int) => (if (b205_1 != 0) = true then (withK (some ((Record.mk 0 (Txn.mk 0 0) 0 0 0 false []), b205_1)) fun k211 => k211) else (some (rc, 0)))) fun k206 => (if (((f : Nat) : Int) == 0) = true then (Option.bind (wire_CheckRecord c rc) fun v208 => (k206 v208)) else (k206 ((f : Nat) : Int)))) fun k204 => k204)) = some r ∧ (if (((e : Nat) : Int) == 0) = true then (withK (fun (b207_1 : Nat) => (withK (fun (b210_1 : Int) => (if (b210_1 != 0) = true then (withK (some ((Record.mk 0 (Txn.mk 0 0) 0 0 0 false []), b210_1)) fun k216 => k216) else (some (rc, 0)))) fun k211 => (if (((b207_1 : Nat) : Int) == 0) = true then (Option.bind (reredosref_RecordFault c rc) fun v213 => (k211 v213)) else (k211 ((b207_1 : Nat) : Int))))) fun k208 => (if (decide (p < ((B.length : Nat) : Int))) = true then (k208 4) else (k208 e))) else (withK (withK (fun (b219_1 : Int) => (if (b219_1 != 0) = true then (withK (some ((Record.mk 0 (Txn.mk 0 0) 0 0 0 false []), b219_1)) fun k225 => k225) else (some (rc, 0)))) fun k220 => (if (((e : Nat) : Int) == 0) = true then (Option.bind (reredosref_RecordFault c rc) fun v222 => (k220 v222)) else (k220 ((e : Nat) : Int)))) fun k218 => k218)) = some r := by
  obtain ⟨rfl, h⟩ := rel
  obtain ⟨g, q, hq⟩ := rec_same c rc hm
  simp only [withK, g, hq, Option.bind_some]
  by_cases h0 : f = 0
  · subst h0
    rcases h with ⟨rfl, h1, rfl, _⟩ | ⟨_, _, h2⟩
    · have e1 : decide (((off : Nat) : Int) < ((L.length : Nat) : Int)) = decide (((len : Nat) : Int) > 0) := by rw [decide_eq_decide]; omega
      rw [e1]
      simp only [Int.natCast_zero, beq_self_eq_true, if_true]
      cases decide (((len : Nat) : Int) > 0)
      · cases (q != 0) <;> exact ⟨_, rfl, rfl⟩
      · exact ⟨_, rfl, rfl⟩
    · exact absurd rfl h2
  · have e1 : (((f : Nat) : Int) == 0) = false := by simp; omega
    have e2 : (((f : Nat) : Int) != 0) = true := by simp; omega
    simp only [e1, e2, if_true, Bool.false_eq_true, if_false]
    exact ⟨_, rfl, rfl⟩
theorem fits8 {m : Nat} (h : m ≤ 70000) : fits 8 m := by unfold fits maxLen; omega
def PK {R : Type} (B : List Int) (b : Nat) (k : Int → Nat → Nat → Nat → List Int → Option R) (k' : Int → Int → Nat → Option R) : Prop :=
  ∀ v off len f L p e, Rel B off len f L p e → 0 ≤ v → (b = 1 → v < 256) → ∃ r, k v off len f L = some r ∧ k' v p e = some r
def PKind {R : Type} (B : List Int) (m : Int) (k : Int → Nat → Nat → Nat → List Int → Option R) (k' : Int → Int → Nat → Option R) : Prop :=
  ∀ v off len f L p e, Rel B off len f L p e → 0 ≤ v ∧ v ≤ m → ∃ r, k v off len f L = some r ∧ k' v p e = some r
theorem sites_sim {B : List Int} (hB : bytesB B) (hl : B.length ≤ 900000000000000) (n : Int) (hn : 0 ≤ n ∧ n < 256) {k : Nat → Nat → Nat → List Int → List Int → Option (Record × Int)} {k' : Int → Nat → List Int → Option (Record × Int)}
    (hk : ∀ off len f L p e s, Rel B off len f L p e → s.length ≤ 256 → ∃ r, k off len f L s = some r ∧ k' p e s = some r) : ∀ (N : Nat) (m i : Int) off len f L p e s, m + i = n → 0 ≤ m → 0 ≤ i → m.toNat < N → Rel B off len f L p e → (s.length : Int) ≤ i →
    ∃ r, wire_DecodeRecord_L9 k N m off len f L s = some r ∧ reredosref_RecordOf_L9 B n k' N i p e s = some r := by
  intro N
  induction N with
  | zero => intro m i off len f L p e s h1 h2 h3 h4; omega
  | succ N ih =>
    intro m i off len f L p e s h1 h2 h3 h4 rel hs
    rw [wire_DecodeRecord_L9, reredosref_RecordOf_L9]
    by_cases hm : m > 0
    · have hi : i < n := by omega
      simp only [decide_eq_true hm, decide_eq_true hi, if_true]
      have rel0 := rel
      obtain ⟨rfl, h⟩ := rel
      by_cases h0 : f = 0
      · subst h0
        rcases h with ⟨rfl, g1, rfl, _⟩ | ⟨_, _, g⟩
        case inr => exact absurd rfl g
        have nxt : ∀ v off len f L' p, Rel L off len f L' p f → ∃ r, wire_DecodeRecord_L9 k N (IntKind.i64.wrap (m - 1)) off len f L' (s ++ [v]) = some r ∧ reredosref_RecordOf_L9 L n k' N (IntKind.i64.wrap (i + 1)) p f (s ++ [v]) = some r := by
          intro v off len f L' p hr
          rw [wrap_in (n := m - 1) (by omega) (by omega), wrap_in (n := i + 1) (by omega) (by omega)]
          exact ih _ _ _ _ _ _ _ _ _ (by omega) (by omega) (by omega) (by omega) hr (by simp; omega)
        have hf : fits 8 (s.length + 1) := fits8 (by omega)
        have hw : IntKind.i64.wrap ((off : Int) + 1) = (off : Int) + 1 := wrap_in (by omega) (by omega)
        have z5 : (((0 : Nat) : Int) == 5) = false := rfl
        simp only [Int.natCast_zero, beq_self_eq_true, if_true, withK, if_pos hf, hw, show ((0 : Int) == 5) = false from rfl, Bool.false_eq_true, if_false]
        by_cases hlen : (len : Int) < 1
        · have hd : decide ((off : Int) + 1 > (L.length : Int)) = true := by simp; omega
          simp only [decide_eq_true hlen, hd, if_true]
          exact nxt 0 0 0 5 [] _ ⟨rfl, .inr ⟨rfl, rfl, by decide⟩⟩
        · have hd : decide ((off : Int) + 1 > (L.length : Int)) = false := by simp; omega
          simp only [decide_eq_false hlen, hd, Bool.false_eq_true, if_false]
          rw [if_pos (by omega)]
          have e1 := code_loop (k := fun b => wire_DecodeRecord_L9 k N (IntKind.i64.wrap (m - 1)) (off + 1) (len - 1) 0 L (s ++ [b])) (L := wire_DecodeRecord_L10 off L fun b => wire_DecodeRecord_L9 k N (IntKind.i64.wrap (m - 1)) (off + 1) (len - 1) 0 L (s ++ [b])) (off := off) (b := 1) (fun n acc i => by rw [wire_DecodeRecord_L10]; simp only [decide_eq_true_eq]) hB (by omega) (by omega) 1 0 0 (by omega) (by omega) (by decide)
          have e2 := ref_loop (k := fun b p => reredosref_RecordOf_L9 L n k' N (IntKind.i64.wrap (i + 1)) p 0 (s ++ [b])) (L := reredosref_RecordOf_L10 L fun b p => reredosref_RecordOf_L9 L n k' N (IntKind.i64.wrap (i + 1)) p 0 (s ++ [b])) (off := off) (b := 1) (fun n acc i p => by rw [reredosref_RecordOf_L10]; simp only [decide_eq_true_eq]; rfl) hB (by omega) (by omega) hl 1 0 0 (by omega) (by omega) (by decide)
          simp only [Nat.add_zero, Int.natCast_zero] at e1 e2
          obtain ⟨r, r1, r2⟩ := nxt (vf L 1 0 off) (off + 1) (len - 1) 0 L ((off + 1 : Nat) : Int) ⟨rfl, .inl ⟨rfl, by omega, rfl, by decide⟩⟩
          exact ⟨r, e1.trans r1, e2.trans r2⟩
      · have e1 : (((f : Nat) : Int) == 0) = false := by simp; omega
        simp only [e1, Bool.false_eq_true, if_false]
        exact hk _ _ _ _ _ _ _ rel0 (by omega)
    · have hi : ¬ i < n := by omega
      simp only [decide_eq_false hm, decide_eq_false hi, Bool.false_eq_true, if_false]
      exact hk _ _ _ _ _ _ _ rel (by omega)
theorem dec_same (c : Config) {B : List Int} (hB : bytesB B) (hfit : fits 1 B.length) (hl : B.length ≤ 900000000000000) : ∃ r, wire_DecodeRecord c B = some r ∧ reredosref_RecordOf c B = some r := by
  obtain ⟨e, he, _⟩ := fault_total c
  simp only [wire_DecodeRecord, reredosref_RecordOf, label_same c, he, Option.bind_some, cloneF, if_pos hfit]
  by_cases h0 : e = 0
  case neg =>
    have h1 : (e != 0) = true := by simpa using h0
    simp only [h1, if_true]
    exact ⟨_, rfl, rfl⟩
  subst h0
  simp only [bne_self_eq_false, Bool.false_eq_true, if_false]
  refine sim_abs (P := PKind B 6) ?main ?kind
  case kind =>
    intro k k' hk
    refine sim_abs (P := PK B 1) ?_ ?_
    · intro v off len f L p e rel hv _
      have rel0 := rel
      obtain ⟨rfl, h⟩ := rel
      simp only [In_eq, Option.bind_some, withK]
      by_cases h0 : f = 0
      · subst h0
        have bad : Rel B off len 3 L p 3 := by
          rcases h with ⟨q1, q2, q3, _⟩ | ⟨_, _, q⟩
          · exact ⟨rfl, .inl ⟨q1, q2, q3, by decide⟩⟩
          · exact absurd rfl q
        simp only [Int.natCast_zero, beq_self_eq_true, if_true, bne_self_eq_false, Bool.false_eq_true, if_false]
        by_cases a1 : v < 1
        · have : ¬ (1 ≤ v ∧ v ≤ 6) := by omega
          simp only [decide_eq_true a1, decide_eq_false this, if_true, Bool.not_false]
          exact hk 0 off len 3 L p 3 bad (by omega)
        · by_cases a2 : v > 6
          · have : ¬ (1 ≤ v ∧ v ≤ 6) := by omega
            simp only [decide_eq_false a1, decide_eq_true a2, decide_eq_false this, if_true, Bool.not_false, Bool.false_eq_true, if_false]
            exact hk 0 off len 3 L p 3 bad (by omega)
          · have : (1 ≤ v ∧ v ≤ 6) := by omega
            simp only [decide_eq_false a1, decide_eq_false a2, decide_eq_true this, if_true, Bool.not_true, Bool.false_eq_true, if_false]
            exact hk v off len 0 L p 0 rel0 (by omega)
      · have e1 : (((f : Nat) : Int) == 0) = false := by simp; omega
        have e2 : (((f : Nat) : Int) != 0) = true := by simp; omega
        simp only [e1, e2, Bool.false_eq_true, if_false, if_true, ite_self]
        exact hk 0 off len f L p f rel0 (by omega)
    · intro k7 k6 hk7
      simp only [withK]
      by_cases a1 : ((B.length : Nat) : Int) < 1
      · have a2 : (1 : Int) > ((B.length : Nat) : Int) := a1
        simp only [decide_eq_true a1, decide_eq_true a2, if_true]
        exact hk7 0 0 0 5 [] _ 5 ⟨rfl, .inr ⟨rfl, rfl, by decide⟩⟩ (by omega) (fun _ => by omega)
      · have a2 : ¬ (1 : Int) > ((B.length : Nat) : Int) := a1
        simp only [decide_eq_false a1, decide_eq_false a2, Bool.false_eq_true, if_false]
        rw [if_pos (by omega)]
        have e1 := code_loop (k := fun b => k7 b 1 (B.length - 1) 0 B) (L := wire_DecodeRecord_L1 B fun b => k7 b 1 (B.length - 1) 0 B) (B := B) (off := 0) (b := 1) (fun n acc i => by rw [wire_DecodeRecord_L1]; simp only [decide_eq_true_eq, Nat.zero_add]) hB (by omega) (by omega) 1 0 0 (by omega) (by omega) (by decide)
        have e2 := ref_loop (k := fun b p => k6 b p 0) (L := reredosref_RecordOf_L1 B fun b p => k6 b p 0) (B := B) (off := 0) (b := 1) (fun n acc i p => by rw [reredosref_RecordOf_L1]; simp only [decide_eq_true_eq]; rfl) hB (by omega) (by omega) hl 1 0 0 (by omega) (by omega) (by decide)
        simp only [Nat.add_zero, Nat.zero_add, Int.natCast_zero] at e1 e2
        obtain ⟨r, r1, r2⟩ := hk7 (vf B 1 0 0) 1 (B.length - 1) 0 B ((1 : Nat) : Int) 0 ⟨rfl, .inl ⟨rfl, by omega, rfl, by decide⟩⟩ (vf_nonneg hB 1 0 0 (by omega) (by omega)) (fun _ => vf1_lt hB 0 (by omega))
        exact ⟨r, e1.trans r1, e2.trans r2⟩
  case main =>
    intro v off len f L p e rel hv
    obtain ⟨x, hx⟩ : ∃ x, tab_wire_records[v.toNat]? = some x := ⟨_, List.getElem?_eq_getElem (by rw [tab_wire_records_len]; omega)⟩
    simp only [if_pos hv.1, hx, Option.bind_some]
    refine sim_abs (P := PK B 1) ?_ (fun k k' hk => take_sim hB hl (b := 1) (by omega) rel (LC := wire_DecodeRecord_L2 off L) (LR := reredosref_RecordOf_L2 B) (fun k n acc i => by rw [wire_DecodeRecord_L2]; simp only [decide_eq_true_eq]) (fun k n acc i p => by rw [reredosref_RecordOf_L2]; simp only [decide_eq_true_eq]; rfl) hk)
    intro si off1 len1 f1 L1 p1 e1 rel1 hsi _
    refine sim_abs (P := PK B 3) ?_ (fun k k' hk => take_sim hB hl (b := 3) (by omega) rel1 (LC := wire_DecodeRecord_L3 off1 L1) (LR := reredosref_RecordOf_L3 B) (fun k n acc i => by rw [wire_DecodeRecord_L3]; simp only [decide_eq_true_eq]) (fun k n acc i p => by rw [reredosref_RecordOf_L3]; simp only [decide_eq_true_eq]; rfl) hk)
    intro nn off2 len2 f2 L2 p2 e2 rel2 hnn _
    have hvv : v = 0 ∨ v = 1 ∨ v = 2 ∨ v = 3 ∨ v = 4 ∨ v = 5 ∨ v = 6 := by omega
    rcases hvv with rfl | rfl | rfl | rfl | rfl | rfl | rfl
    · cases (show some (WireParts.mk false false false false false false false false) = some x from hx)
      refine sim_goL ?_
      simp only [Bool.false_eq_true, if_false]
      refine sim_goL ?_
      simp only [Bool.false_eq_true, if_false]
      refine sim_goL ?_
      simp only [Bool.false_eq_true, if_false]
      refine sim_goR ?_
      simp only [show ((0 : Int) == 1) = false from rfl, Bool.false_eq_true, if_false]
      refine sim_goR ?_
      simp only [show ((0 : Int) == 2) = false from rfl, show ((0 : Int) == 6) = false from rfl, Bool.false_eq_true, if_false]
      refine sim_goR ?_
      simp only [Bool.false_eq_true, if_false]
      refine sim_goR ?_
      simp only [show ((0 : Int) == 3) = false from rfl, Bool.false_eq_true, if_false]
      refine sim_goL ?_
      simp only [Bool.false_eq_true, if_false]
      refine sim_goL ?_
      simp only [Bool.false_eq_true, if_false]
      exact fin_sim c ⟨0, ⟨si, nn⟩, 0, 0, 0, false, []⟩ (by simp) rel2
    · cases (show some (WireParts.mk false true true false true false false false) = some x from hx)
      refine sim_goL ?_
      simp only [if_true]
      refine sim_goR ?_
      simp only [beq_self_eq_true, if_true]
      refine sim_abs (P := PK B 1) ?_ (fun k k' hk => take_sim hB hl (b := 1) (by omega) rel2 (LC := wire_DecodeRecord_L4 off2 L2) (LR := reredosref_RecordOf_L4 B) (fun k n acc i => by rw [wire_DecodeRecord_L4]; simp only [decide_eq_true_eq]) (fun k n acc i p => by rw [reredosref_RecordOf_L4]; simp only [decide_eq_true_eq]; rfl) hk)
      intro kv off3 len3 f3 L3 p3 e3 rel3 h3 _
      refine sim_goL ?_
      simp only [if_true]
      refine sim_abs (P := PK B 4) ?_ (fun k k' hk => take_sim hB hl (b := 4) (by omega) rel3 (LC := wire_DecodeRecord_L5 off3 L3) (LR := reredosref_RecordOf_L5 B) (fun k n acc i => by rw [wire_DecodeRecord_L5]; simp only [decide_eq_true_eq]) (fun k n acc i p => by rw [reredosref_RecordOf_L5]; simp only [decide_eq_true_eq]; rfl) hk)
      intro vv off4 len4 f4 L4 p4 e4 rel4 h4 _
      refine sim_goL ?_
      simp only [if_true]
      refine sim_abs (P := PK B 3) ?_ (fun k k' hk => take_sim hB hl (b := 3) (by omega) rel4 (LC := wire_DecodeRecord_L6 off4 L4) (LR := reredosref_RecordOf_L6 B) (fun k n acc i => by rw [wire_DecodeRecord_L6]; simp only [decide_eq_true_eq]) (fun k n acc i p => by rw [reredosref_RecordOf_L6]; simp only [decide_eq_true_eq]; rfl) hk)
      intro av off5 len5 f5 L5 p5 e5 rel5 h5 _
      refine sim_goL ?_
      simp only [Bool.false_eq_true, if_false]
      refine sim_goL ?_
      simp only [Bool.false_eq_true, if_false]
      exact fin_sim c ⟨1, ⟨si, nn⟩, kv, vv, av, false, []⟩ (by simp) rel5
    · cases (show some (WireParts.mk false false false false false true false false) = some x from hx)
      refine sim_goL ?_
      simp only [Bool.false_eq_true, if_false]
      refine sim_goL ?_
      simp only [Bool.false_eq_true, if_false]
      refine sim_goL ?_
      simp only [Bool.false_eq_true, if_false]
      refine sim_goR ?_
      simp only [show ((2 : Int) == 1) = false from rfl, Bool.false_eq_true, if_false]
      refine sim_goR ?_
      simp only [beq_self_eq_true, if_true]
      refine sim_goR ?_
      simp only [if_true]
      refine sim_goL ?_
      simp only [if_true]
      refine sim_abs (P := PK B 1) ?_ (fun k k' hk => take_sim hB hl (b := 1) (by omega) rel2 (LC := wire_DecodeRecord_L7 off2 L2) (LR := reredosref_RecordOf_L7 B) (fun k n acc i => by rw [wire_DecodeRecord_L7]; simp only [decide_eq_true_eq]) (fun k n acc i p => by rw [reredosref_RecordOf_L7]; simp only [decide_eq_true_eq]; rfl) hk)
      intro yv off3 len3 f3 L3 p3 e3 rel3 h3 _
      have fin := fun f e (rel : Rel B off3 len3 f L3 p3 e) => fin_sim c ⟨2, ⟨si, nn⟩, 0, 0, 0, (yv == 1), []⟩ (by simp) rel
      have rel0 := rel3
      obtain ⟨rfl, h⟩ := rel3
      simp only [withK] at fin ⊢
      try simp only [Bool.false_eq_true, if_false]
      by_cases a1 : yv > 1
      · simp only [decide_eq_true a1, if_true]
        by_cases h0 : f3 = 0
        · subst h0
          rcases h with ⟨q1, q2, q3, _⟩ | ⟨_, _, q⟩
          · exact fin 4 4 ⟨rfl, .inl ⟨q1, q2, q3, by decide⟩⟩
          · exact absurd rfl q
        · have z : (((f3 : Nat) : Int) == 0) = false := by simp; omega
          simp only [z, Bool.false_eq_true, if_false]
          have := fin f3 f3 rel0
          simp only [z, Bool.false_eq_true, if_false] at this
          exact this
      · simp only [decide_eq_false a1, Bool.false_eq_true, if_false]
        exact fin f3 f3 rel0
    · cases (show some (WireParts.mk false false false false false false false true) = some x from hx)
      refine sim_goL ?_
      simp only [Bool.false_eq_true, if_false]
      refine sim_goL ?_
      simp only [Bool.false_eq_true, if_false]
      refine sim_goL ?_
      simp only [Bool.false_eq_true, if_false]
      refine sim_goR ?_
      simp only [show ((3 : Int) == 1) = false from rfl, Bool.false_eq_true, if_false]
      refine sim_goR ?_
      simp only [show ((3 : Int) == 2) = false from rfl, show ((3 : Int) == 6) = false from rfl, Bool.false_eq_true, if_false]
      refine sim_goR ?_
      simp only [Bool.false_eq_true, if_false]
      refine sim_goR ?_
      simp only [beq_self_eq_true, if_true]
      refine sim_goL ?_
      simp only [Bool.false_eq_true, if_false]
      refine sim_goL ?_
      simp only [if_true]
      refine sim_abs (P := PK B 1) ?_ (fun k k' hk => take_sim hB hl (b := 1) (by omega) rel2 (LC := wire_DecodeRecord_L8 off2 L2) (LR := reredosref_RecordOf_L8 B) (fun k n acc i => by rw [wire_DecodeRecord_L8]; simp only [decide_eq_true_eq]) (fun k n acc i p => by rw [reredosref_RecordOf_L8]; simp only [decide_eq_true_eq]; rfl) hk)
      intro nv off3 len3 f3 L3 p3 e3 rel3 h3 h3'
      refine sim_abs (P := fun k k' => ∀ off len f L p e s, Rel B off len f L p e → s.length ≤ 256 → ∃ r, k off len f L s = some r ∧ k' p e s = some r) ?_ (fun k k' hk => sites_sim hB hl nv ⟨h3, h3' rfl⟩ hk (nv.toNat + 1) nv 0 _ _ _ _ _ _ [] (by omega) h3 (by omega) (by omega) rel3 (by simp))
      intro off4 len4 f4 L4 p4 e4 s rel4 hs
      exact fin_sim c ⟨3, ⟨si, nn⟩, 0, 0, 0, false, s⟩ (by simp only [maxLen]; omega) rel4
    · cases (show some (WireParts.mk false false false false false false false false) = some x from hx)
      refine sim_goL ?_
      simp only [Bool.false_eq_true, if_false]
      refine sim_goL ?_
      simp only [Bool.false_eq_true, if_false]
      refine sim_goL ?_
      simp only [Bool.false_eq_true, if_false]
      refine sim_goR ?_
      simp only [show ((4 : Int) == 1) = false from rfl, Bool.false_eq_true, if_false]
      refine sim_goR ?_
      simp only [show ((4 : Int) == 2) = false from rfl, show ((4 : Int) == 6) = false from rfl, Bool.false_eq_true, if_false]
      refine sim_goR ?_
      simp only [Bool.false_eq_true, if_false]
      refine sim_goR ?_
      simp only [show ((4 : Int) == 3) = false from rfl, Bool.false_eq_true, if_false]
      refine sim_goL ?_
      simp only [Bool.false_eq_true, if_false]
      refine sim_goL ?_
      simp only [Bool.false_eq_true, if_false]
      exact fin_sim c ⟨4, ⟨si, nn⟩, 0, 0, 0, false, []⟩ (by simp) rel2
    · cases (show some (WireParts.mk false false false false false false false false) = some x from hx)
      refine sim_goL ?_
      simp only [Bool.false_eq_true, if_false]
      refine sim_goL ?_
      simp only [Bool.false_eq_true, if_false]
      refine sim_goL ?_
      simp only [Bool.false_eq_true, if_false]
      refine sim_goR ?_
      simp only [show ((5 : Int) == 1) = false from rfl, Bool.false_eq_true, if_false]
      refine sim_goR ?_
      simp only [show ((5 : Int) == 2) = false from rfl, show ((5 : Int) == 6) = false from rfl, Bool.false_eq_true, if_false]
      refine sim_goR ?_
      simp only [Bool.false_eq_true, if_false]
      refine sim_goR ?_
      simp only [show ((5 : Int) == 3) = false from rfl, Bool.false_eq_true, if_false]
      refine sim_goL ?_
      simp only [Bool.false_eq_true, if_false]
      refine sim_goL ?_
      simp only [Bool.false_eq_true, if_false]
      exact fin_sim c ⟨5, ⟨si, nn⟩, 0, 0, 0, false, []⟩ (by simp) rel2
    · cases (show some (WireParts.mk false false false false false true false false) = some x from hx)
      refine sim_goL ?_
      simp only [Bool.false_eq_true, if_false]
      refine sim_goL ?_
      simp only [Bool.false_eq_true, if_false]
      refine sim_goL ?_
      simp only [Bool.false_eq_true, if_false]
      refine sim_goR ?_
      simp only [show ((6 : Int) == 1) = false from rfl, Bool.false_eq_true, if_false]
      refine sim_goR ?_
      simp only [show ((6 : Int) == 2) = false from rfl, beq_self_eq_true, if_true, Bool.false_eq_true, if_false]
      refine sim_goR ?_
      simp only [if_true]
      refine sim_goL ?_
      simp only [if_true]
      refine sim_abs (P := PK B 1) ?_ (fun k k' hk => take_sim hB hl (b := 1) (by omega) rel2 (LC := wire_DecodeRecord_L7 off2 L2) (LR := reredosref_RecordOf_L7 B) (fun k n acc i => by rw [wire_DecodeRecord_L7]; simp only [decide_eq_true_eq]) (fun k n acc i p => by rw [reredosref_RecordOf_L7]; simp only [decide_eq_true_eq]; rfl) hk)
      intro yv off3 len3 f3 L3 p3 e3 rel3 h3 _
      have fin := fun f e (rel : Rel B off3 len3 f L3 p3 e) => fin_sim c ⟨6, ⟨si, nn⟩, 0, 0, 0, (yv == 1), []⟩ (by simp) rel
      have rel0 := rel3
      obtain ⟨rfl, h⟩ := rel3
      simp only [withK] at fin ⊢
      try simp only [Bool.false_eq_true, if_false]
      by_cases a1 : yv > 1
      · simp only [decide_eq_true a1, if_true]
        by_cases h0 : f3 = 0
        · subst h0
          rcases h with ⟨q1, q2, q3, _⟩ | ⟨_, _, q⟩
          · exact fin 4 4 ⟨rfl, .inl ⟨q1, q2, q3, by decide⟩⟩
          · exact absurd rfl q
        · have z : (((f3 : Nat) : Int) == 0) = false := by simp; omega
          simp only [z, Bool.false_eq_true, if_false]
          have := fin f3 f3 rel0
          simp only [z, Bool.false_eq_true, if_false] at this
          exact this
      · simp only [decide_eq_false a1, Bool.false_eq_true, if_false]
        exact fin f3 f3 rel0

end Go.V.Dec
