/- Plain laws (DecMsg): no program, no memory; conditions as stated. -/
import Derived.Test.YtjklmaihcaelaaaDoorF2
import Derived.Test.YtjklmaihcaelaaaDoorPDec
import Derived.Test.YtjklmaihcaelaaaDoorPWireMsg
set_option linter.unusedVariables false
set_option linter.unusedSimpArgs false
namespace Go.V.Dec
open Go Go.Proofs Classical
set_option maxRecDepth 100000
set_option maxHeartbeats 4000000
variable (G : Nat → Option (List D))
/-- Where the two readers of bytes stand. -/
def RelE (B : List Int) (r : WireReader) (y : ReredosrefEye) : Prop :=
  y.b = B ∧ y.e = r.fault ∧ ((∃ off : Nat, off ≤ B.length ∧ r.rest = B.drop off ∧ y.at_ = off ∧ r.fault ≠ 5) ∨ (r.rest = [] ∧ y.at_ = B.length ∧ r.fault ≠ 0))
theorem stop_eq (y : ReredosrefEye) (k : Int) : reredosref_eye_stop y k = some (ReredosrefEye.mk y.b y.at_ (if y.e = 0 then k else y.e)) := by
  simp only [reredosref_eye_stop, withK, beq_iff_eq]
  split <;> rfl
theorem take_num {B : List Int} (hB : bytesB B) (hl : B.length ≤ 900000000000000) {r : WireReader} {y : ReredosrefEye} (rel : RelE B r y) (p : Int) (b : Nat) (hp : p = (b : Int)) (hb : 1 ≤ b ∧ b ≤ 4) :
    ∃ r' y' v, wire_reader_take r p = some (r', v) ∧ reredosref_eye_num y p = some (y', v) ∧ RelE B r' y' ∧ 0 ≤ v ∧ (b = 1 → v < 256) := by
  subst hp
  obtain ⟨hyb, hye, h⟩ := rel
  obtain ⟨rest, fault⟩ := r
  obtain ⟨yb, ya, ye⟩ := y
  simp only at hyb hye h
  subst hyb
  obtain rfl : fault = ye := hye.symm
  have short : ∀ (len : Nat), rest.length = len → len < b → (fault = 5 ∨ IntKind.i64.wrap (ya + (b : Int)) > ((yb.length : Nat) : Int)) → ∃ r' y' v, wire_reader_take ⟨rest, fault⟩ (b : Int) = some (r', v) ∧ reredosref_eye_num ⟨yb, ya, fault⟩ (b : Int) = some (y', v) ∧ RelE yb r' y' ∧ 0 ≤ v ∧ (b = 1 → v < 256) := by
    intro len hlen hlt hov
    refine ⟨⟨[], if fault = 0 then 5 else fault⟩, ⟨yb, yb.length, if fault = 0 then 5 else fault⟩, 0, ?_, ?_, ⟨rfl, rfl, .inr ⟨rfl, rfl, ?_⟩⟩, by omega, fun _ => by omega⟩
    · simp only [wire_reader_take, withK, hlen]
      rw [if_pos (by simp; omega)]
      simp only [beq_iff_eq]
      split <;> rfl
    · simp only [reredosref_eye_num, stop_eq, Option.bind_some, beq_iff_eq, decide_eq_true_eq]
      by_cases h5 : fault = 5
      · subst h5; simp
      · rw [if_neg h5, if_pos (hov.resolve_left h5)]
    · simp only
      split
      · decide
      · assumption
  rcases h with ⟨off, ho, rfl, rfl, h5⟩ | ⟨rfl, rfl, h0⟩
  · by_cases hs : yb.length - off < b
    · exact short _ (by simp) hs (.inr (by rw [wrap_in (by omega) (by omega)]; omega))
    · have hw : IntKind.i64.wrap ((off : Int) + (b : Int)) = (off : Int) + b := wrap_in (by omega) (by omega)
      have hmin : min b (yb.drop off).length = b := by simp; omega
      refine ⟨⟨yb.drop (off + b), fault⟩, ⟨yb, ((off + b : Nat) : Int), fault⟩, vf yb b 0 off, ?_, ?_, ⟨rfl, rfl, .inl ⟨off + b, by omega, rfl, rfl, h5⟩⟩, vf_nonneg hB b 0 off (by omega) (by omega), fun hb1 => by subst hb1; exact vf1_lt hB off (by omega)⟩
      · simp only [wire_reader_take, withK]
        rw [if_neg (by simp; omega), if_pos (by omega), if_pos (by simp; omega), Int.toNat_natCast, hmin]
        have e1 := code_loop (k := fun b9 => some (WireReader.mk (((yb.drop off).drop b).take ((((yb.drop off).length : Nat) : Int) - (b : Int)).toNat) fault, b9)) (L := wire_reader_take_L1 ⟨yb.drop off, fault⟩ (b : Int) (fun b9 => some (WireReader.mk (((yb.drop off).drop b).take ((((yb.drop off).length : Nat) : Int) - (b : Int)).toNat) fault, b9))) (B := yb) (off := off) (b := b) (fun n acc i => by
          rw [wire_reader_take_L1]
          simp only [Int.toNat_natCast, hmin, decide_eq_true_eq]
          by_cases hi : i < b
          · rw [if_pos hi, if_pos hi, List.getElem?_take, if_pos hi, List.getElem?_drop]
          · rw [if_neg hi, if_neg hi]) hB (by omega) (by omega) b 0 0 (by omega) (by omega) (by decide)
        simp only [Nat.add_zero] at e1
        rw [e1]
        have e2 : ((((yb.drop off).length : Nat) : Int) - (b : Int)).toNat = ((yb.drop off).drop b).length := by simp; omega
        rw [e2, List.take_length, List.drop_drop]
      · simp only [reredosref_eye_num, beq_iff_eq, decide_eq_true_eq, withK, hw]
        rw [if_neg h5, if_neg (by omega), Int.toNat_natCast]
        have e2 := ref_loop (k := fun b7 p => some (ReredosrefEye.mk yb p fault, b7)) (L := reredosref_eye_num_L1 ⟨yb, off, fault⟩ (b : Int) (fun b7 p => some (ReredosrefEye.mk yb p fault, b7))) (B := yb) (off := off) (b := b) (fun n acc i p => by rw [reredosref_eye_num_L1]; simp only [decide_eq_true_eq]) hB (by omega) (by omega) hl b 0 0 (by omega) (by omega) (by decide)
        simp only [Nat.add_zero, Int.natCast_zero] at e2
        exact e2
  · exact short 0 rfl (by omega) (.inr (by rw [wrap_in (by omega) (by omega)]; omega))
theorem relE_fault {B : List Int} {r : WireReader} {y : ReredosrefEye} (rel : RelE B r y) (k : Int) (hk : k ≠ 0 ∧ k ≠ 5) : RelE B ⟨r.rest, if r.fault = 0 then k else r.fault⟩ ⟨y.b, y.at_, if y.e = 0 then k else y.e⟩ := by
  obtain ⟨h1, h2, h⟩ := rel
  refine ⟨h1, by simp only [h2], h.imp ?_ ?_⟩
  · rintro ⟨off, g1, g2, g3, g4⟩
    refine ⟨off, g1, g2, g3, ?_⟩
    simp only
    split
    · exact hk.2
    · exact g4
  · rintro ⟨g1, g2, g3⟩
    refine ⟨g1, g2, ?_⟩
    simp only
    rw [if_neg g3]; exact g3
theorem txn_who {B : List Int} (hB : bytesB B) (hl : B.length ≤ 900000000000000) {r : WireReader} {y : ReredosrefEye} (rel : RelE B r y) : ∃ r' y' v, wire_reader_txn r = some (r', v) ∧ reredosref_eye_who y = some (y', v) ∧ RelE B r' y' := by
  obtain ⟨r1, y1, v1, a1, b1, rel1, _⟩ := take_num hB hl rel 1 1 rfl (by omega)
  obtain ⟨r2, y2, v2, a2, b2, rel2, _⟩ := take_num hB hl rel1 3 3 rfl (by omega)
  exact ⟨r2, y2, ⟨v1, v2⟩, by simp only [wire_reader_txn, a1, a2, Option.bind_some], by simp only [reredosref_eye_who, b1, b2, Option.bind_some], rel2⟩
theorem bit_yes {B : List Int} (hB : bytesB B) (hl : B.length ≤ 900000000000000) {r : WireReader} {y : ReredosrefEye} (rel : RelE B r y) : ∃ r' y' v, wire_reader_bit r = some (r', v) ∧ reredosref_eye_yes y = some (y', v) ∧ RelE B r' y' := by
  obtain ⟨r1, y1, v1, a1, b1, rel1, _⟩ := take_num hB hl rel 1 1 rfl (by omega)
  simp only [wire_reader_bit, reredosref_eye_yes, a1, b1, Option.bind_some, withK, stop_eq, decide_eq_true_eq]
  by_cases h : v1 > 1
  · simp only [if_pos h]
    refine ⟨_, _, v1 == 1, ?_, rfl, relE_fault rel1 4 (by decide)⟩
    simp only [beq_iff_eq]
    split <;> rfl
  · simp only [if_neg h]
    exact ⟨_, _, v1 == 1, rfl, rfl, rel1⟩
theorem kind_first {B : List Int} (hB : bytesB B) (hl : B.length ≤ 900000000000000) {r : WireReader} {y : ReredosrefEye} (rel : RelE B r y) : ∃ r' y' v, wire_reader_kind r 9 = some (r', v) ∧ reredosref_eye_first y 9 = some (y', v) ∧ RelE B r' y' ∧ 0 ≤ v ∧ v ≤ 9 := by
  obtain ⟨r1, y1, v1, a1, b1, rel1, h0, _⟩ := take_num hB hl rel 1 1 rfl (by omega)
  have he : y1.e = r1.fault := rel1.2.1
  have bad := relE_fault rel1 3 (by decide)
  have hin : reredosref_In v1 1 9 = some (decide (1 ≤ v1) && decide (v1 ≤ 9)) := by
    simp only [reredosref_In, withK]
    cases hd : decide (v1 ≥ 1) <;> simp_all
  obtain ⟨rest1, f1⟩ := r1
  obtain ⟨yb1, ya1, ye1⟩ := y1
  obtain rfl : f1 = ye1 := he.symm
  simp only [wire_reader_kind, reredosref_eye_first, a1, b1, Option.bind_some, withK, stop_eq, decide_eq_true_eq, hin, beq_iff_eq, bne_iff_ne, ne_eq]
  by_cases hr : 1 ≤ v1 ∧ v1 ≤ 9
  · have n1 : ¬ v1 < 1 := by omega
    have n2 : ¬ v1 > 9 := by omega
    simp only [if_neg n1, if_neg n2, hr.1, hr.2, decide_true, Bool.and_self, Bool.not_true, Bool.false_eq_true, if_false]
    by_cases hf : f1 = 0
    · simp only [hf, not_true_eq_false, if_false, if_true]
      subst hf
      exact ⟨_, _, v1, rfl, rfl, rel1, by omega, by omega⟩
    · simp only [hf, not_false_eq_true, if_true, if_false]
      exact ⟨_, _, 0, rfl, rfl, rel1, by omega, by omega⟩
  · have hb : (decide (1 ≤ v1) && decide (v1 ≤ 9)) = false := by
      rw [Bool.eq_false_iff]; intro h; simp at h; omega
    simp only [hb, Bool.not_false, if_true]
    by_cases hf : f1 = 0
    · subst hf
      simp only [if_true] at bad
      have h3 : ¬ (3 : Int) = 0 := by decide
      simp only [if_true, h3, not_false_eq_true]
      refine ⟨_, _, 0, ?_, rfl, bad, by omega, by omega⟩
      split
      · rfl
      · rw [if_pos (by omega)]
    · simp only [hf, not_false_eq_true, if_true, if_false]
      refine ⟨_, _, 0, ?_, rfl, rel1, by omega, by omega⟩
      split
      · rfl
      · split <;> rfl
theorem end_sim (c : Config) (hlab : c.Labels.length ≤ maxLen) {B : List Int} (m : Message) {r : WireReader} {y : ReredosrefEye} (rel : RelE B r y) (z : Message) :
    ∃ q, (Option.bind (wire_reader_end r) fun v38 => (if v38.fault = 0 then (Option.bind (wire_CheckMessage c m) fun v => if (v != 0) = true then some (z, v) else some (m, 0)) else (if (v38.fault != 0) = true then some (z, v38.fault) else some (m, 0)))) = some q ∧
      (if y.e = 0 then (if y.at_ < ((B.length : Nat) : Int) then (if (4 : Int) = 0 then (Option.bind (reredosref_MessageFault c m) fun v => if (v != 0) = true then some (z, v) else some (m, 0)) else (if ((4 : Int) != 0) = true then some (z, 4) else some (m, 0))) else (if y.e = 0 then (Option.bind (reredosref_MessageFault c m) fun v => if (v != 0) = true then some (z, v) else some (m, 0)) else (if (y.e != 0) = true then some (z, y.e) else some (m, 0)))) else (if y.e = 0 then (Option.bind (reredosref_MessageFault c m) fun v => if (v != 0) = true then some (z, v) else some (m, 0)) else (if (y.e != 0) = true then some (z, y.e) else some (m, 0)))) = some q := by
  obtain ⟨h1, h2, h⟩ := rel
  obtain ⟨g, q, hq⟩ := msg_same c m hlab
  obtain ⟨rest, fault⟩ := r
  simp only at h2 h
  simp only [h2, g, hq, Option.bind_some, wire_reader_end, withK, beq_iff_eq, decide_eq_true_eq]
  by_cases hf : fault = 0
  · subst hf
    rcases h with ⟨off, ho, rfl, ha, _⟩ | ⟨_, _, h⟩
    · simp only [if_true, ha, List.length_drop]
      by_cases hlt : off < B.length
      · have e1 : (((B.length - off : Nat) : Int) > 0) := by omega
        have e2 : ((off : Int) < ((B.length : Nat) : Int)) := by omega
        have e4 : ¬ (4 : Int) = 0 := by decide
        simp only [e1, e2, if_true, Option.bind_some, e4, if_false]
        exact ⟨_, rfl, rfl⟩
      · have e1 : ¬ (((B.length - off : Nat) : Int) > 0) := by omega
        have e2 : ¬ ((off : Int) < ((B.length : Nat) : Int)) := by omega
        simp only [e1, e2, if_false, Option.bind_some, if_true]
        cases (q != 0) <;> exact ⟨_, rfl, rfl⟩
    · exact absurd rfl h
  · have e1 : (fault != 0) = true := by simpa using hf
    simp only [if_neg hf, Option.bind_some, e1, if_true]
    exact ⟨_, rfl, rfl⟩

theorem dec_msg (c : Config) (hlab : c.Labels.length ≤ maxLen) {B : List Int} (hB : bytesB B) (hl : B.length ≤ 900000000000000) (hf : fits 1 B.length) : ∃ q, wire_DecodeMessage c B = some q ∧ reredosref_MessageOf c B = some q := by
  obtain ⟨e, e2, _⟩ := fault_total c
  have e1 := (label_same c).trans e2
  simp only [wire_DecodeMessage, reredosref_MessageOf, e1, e2, Option.bind_some, cloneF, if_pos hf]
  cases he : (e != 0)
  case true => exact ⟨_, rfl, rfl⟩
  simp only [Bool.false_eq_true, if_false]
  have rel0 : RelE B ⟨B, 0⟩ ⟨B, 0, 0⟩ := ⟨rfl, rfl, .inl ⟨0, by omega, rfl, rfl, (show (0 : Int) ≠ 5 by decide)⟩⟩
  obtain ⟨r1, y1, kd, a1, b1, rel1, k0, k9⟩ := kind_first hB hl rel0
  simp only [a1, b1, Option.bind_some, if_pos k0]
  obtain ⟨x, hx⟩ : ∃ x, tab_wire_messages[kd.toNat]? = some x := ⟨_, List.getElem?_eq_getElem (by rw [tab_wire_messages_len]; omega)⟩
  simp only [hx, Option.bind_some]
  obtain ⟨r2, y2, fr, a2, b2, rel2, _⟩ := take_num hB hl rel1 1 1 rfl (by omega)
  obtain ⟨r3, y3, to, a3, b3, rel3, _⟩ := take_num hB hl rel2 1 1 rfl (by omega)
  obtain ⟨r4, y4, tx, a4, b4, rel4⟩ := txn_who hB hl rel3
  simp only [a2, b2, a3, b3, a4, b4, Option.bind_some]
  have hkk : kd = 0 ∨ kd = 1 ∨ kd = 2 ∨ kd = 3 ∨ kd = 4 ∨ kd = 5 ∨ kd = 6 ∨ kd = 7 ∨ kd = 8 ∨ kd = 9 := by omega
  rcases hkk with rfl | rfl | rfl | rfl | rfl | rfl | rfl | rfl | rfl | rfl
  · cases (show some (WireParts.mk false false false false false false false false) = some x from hx)
    have fin := end_sim c hlab ⟨0, fr, to, tx, 0, 0, 0, 0, 0, false, 0⟩ rel4 ⟨0, 0, 0, ⟨0, 0⟩, 0, 0, 0, 0, 0, false, 0⟩
    simp only [withK, Option.bind_some, Bool.false_eq_true, if_false, if_true, Int.reduceBEq, beq_iff_eq, decide_eq_true_eq, Int.reduceEq] at fin ⊢
    exact fin
  · cases (show some (WireParts.mk true true false false true false false false) = some x from hx)
    obtain ⟨r5, y5, v5, a5, b5, rel5, _⟩ := take_num hB hl rel4 1 1 rfl (by omega)
    obtain ⟨r6, y6, v6, a6, b6, rel6, _⟩ := take_num hB hl rel5 1 1 rfl (by omega)
    obtain ⟨r7, y7, v7, a7, b7, rel7, _⟩ := take_num hB hl rel6 3 3 rfl (by omega)
    have fin := end_sim c hlab ⟨1, fr, to, tx, v5, v6, 0, 0, v7, false, 0⟩ rel7 ⟨0, 0, 0, ⟨0, 0⟩, 0, 0, 0, 0, 0, false, 0⟩
    simp only [withK, a5, b5, a6, b6, a7, b7, Option.bind_some, Bool.false_eq_true, if_false, if_true, Int.reduceBEq, beq_iff_eq, decide_eq_true_eq, Int.reduceEq] at fin ⊢
    exact fin
  · cases (show some (WireParts.mk false true true false true false false false) = some x from hx)
    obtain ⟨r5, y5, v5, a5, b5, rel5, _⟩ := take_num hB hl rel4 1 1 rfl (by omega)
    obtain ⟨r6, y6, v6, a6, b6, rel6, _⟩ := take_num hB hl rel5 4 4 rfl (by omega)
    obtain ⟨r7, y7, v7, a7, b7, rel7, _⟩ := take_num hB hl rel6 3 3 rfl (by omega)
    have fin := end_sim c hlab ⟨2, fr, to, tx, 0, v5, v6, 0, v7, false, 0⟩ rel7 ⟨0, 0, 0, ⟨0, 0⟩, 0, 0, 0, 0, 0, false, 0⟩
    simp only [withK, a5, b5, a6, b6, a7, b7, Option.bind_some, Bool.false_eq_true, if_false, if_true, Int.reduceBEq, beq_iff_eq, decide_eq_true_eq, Int.reduceEq] at fin ⊢
    exact fin
  · cases (show some (WireParts.mk true true false true false false false false) = some x from hx)
    obtain ⟨r5, y5, v5, a5, b5, rel5, _⟩ := take_num hB hl rel4 1 1 rfl (by omega)
    obtain ⟨r6, y6, v6, a6, b6, rel6, _⟩ := take_num hB hl rel5 1 1 rfl (by omega)
    obtain ⟨r7, y7, v7, a7, b7, rel7, _⟩ := take_num hB hl rel6 3 3 rfl (by omega)
    have fin := end_sim c hlab ⟨3, fr, to, tx, v5, v6, 0, v7, 0, false, 0⟩ rel7 ⟨0, 0, 0, ⟨0, 0⟩, 0, 0, 0, 0, 0, false, 0⟩
    simp only [withK, a5, b5, a6, b6, a7, b7, Option.bind_some, Bool.false_eq_true, if_false, if_true, Int.reduceBEq, beq_iff_eq, decide_eq_true_eq, Int.reduceEq] at fin ⊢
    exact fin
  · cases (show some (WireParts.mk false false false false false true false false) = some x from hx)
    obtain ⟨r5, y5, v5, a5, b5, rel5⟩ := bit_yes hB hl rel4
    have fin := end_sim c hlab ⟨4, fr, to, tx, 0, 0, 0, 0, 0, v5, 0⟩ rel5 ⟨0, 0, 0, ⟨0, 0⟩, 0, 0, 0, 0, 0, false, 0⟩
    simp only [withK, a5, b5, Option.bind_some, Bool.false_eq_true, if_false, if_true, Int.reduceBEq, beq_iff_eq, decide_eq_true_eq, Int.reduceEq] at fin ⊢
    exact fin
  · cases (show some (WireParts.mk true true true true true false true false) = some x from hx)
    obtain ⟨r5, y5, v5, a5, b5, rel5, _⟩ := take_num hB hl rel4 1 1 rfl (by omega)
    obtain ⟨r6, y6, v6, a6, b6, rel6, _⟩ := take_num hB hl rel5 1 1 rfl (by omega)
    obtain ⟨r7, y7, v7, a7, b7, rel7, _⟩ := take_num hB hl rel6 4 4 rfl (by omega)
    obtain ⟨r8, y8, v8, a8, b8, rel8, _⟩ := take_num hB hl rel7 3 3 rfl (by omega)
    obtain ⟨r9, y9, v9, a9, b9, rel9, _⟩ := take_num hB hl rel8 3 3 rfl (by omega)
    obtain ⟨r10, y10, v10, a10, b10, rel10, _⟩ := take_num hB hl rel9 1 1 rfl (by omega)
    have fin := end_sim c hlab ⟨5, fr, to, tx, v5, v6, v7, v8, v9, false, v10⟩ rel10 ⟨0, 0, 0, ⟨0, 0⟩, 0, 0, 0, 0, 0, false, 0⟩
    simp only [withK, a5, b5, a6, b6, a7, b7, a8, b8, a9, b9, a10, b10, Option.bind_some, Bool.false_eq_true, if_false, if_true, Int.reduceBEq, beq_iff_eq, decide_eq_true_eq, Int.reduceEq] at fin ⊢
    exact fin
  · cases (show some (WireParts.mk false true false false true false true false) = some x from hx)
    obtain ⟨r5, y5, v5, a5, b5, rel5, _⟩ := take_num hB hl rel4 1 1 rfl (by omega)
    obtain ⟨r6, y6, v6, a6, b6, rel6, _⟩ := take_num hB hl rel5 3 3 rfl (by omega)
    obtain ⟨r7, y7, v7, a7, b7, rel7, _⟩ := take_num hB hl rel6 1 1 rfl (by omega)
    have fin := end_sim c hlab ⟨6, fr, to, tx, 0, v5, 0, 0, v6, false, v7⟩ rel7 ⟨0, 0, 0, ⟨0, 0⟩, 0, 0, 0, 0, 0, false, 0⟩
    simp only [withK, a5, b5, a6, b6, a7, b7, Option.bind_some, Bool.false_eq_true, if_false, if_true, Int.reduceBEq, beq_iff_eq, decide_eq_true_eq, Int.reduceEq] at fin ⊢
    exact fin
  · cases (show some (WireParts.mk true true false true false true false false) = some x from hx)
    obtain ⟨r5, y5, v5, a5, b5, rel5, _⟩ := take_num hB hl rel4 1 1 rfl (by omega)
    obtain ⟨r6, y6, v6, a6, b6, rel6, _⟩ := take_num hB hl rel5 1 1 rfl (by omega)
    obtain ⟨r7, y7, v7, a7, b7, rel7, _⟩ := take_num hB hl rel6 3 3 rfl (by omega)
    obtain ⟨r8, y8, v8, a8, b8, rel8⟩ := bit_yes hB hl rel7
    have fin := end_sim c hlab ⟨7, fr, to, tx, v5, v6, 0, v7, 0, v8, 0⟩ rel8 ⟨0, 0, 0, ⟨0, 0⟩, 0, 0, 0, 0, 0, false, 0⟩
    simp only [withK, a5, b5, a6, b6, a7, b7, a8, b8, Option.bind_some, Bool.false_eq_true, if_false, if_true, Int.reduceBEq, beq_iff_eq, decide_eq_true_eq, Int.reduceEq] at fin ⊢
    exact fin
  · cases (show some (WireParts.mk false false false false false false false false) = some x from hx)
    have fin := end_sim c hlab ⟨8, fr, to, tx, 0, 0, 0, 0, 0, false, 0⟩ rel4 ⟨0, 0, 0, ⟨0, 0⟩, 0, 0, 0, 0, 0, false, 0⟩
    simp only [withK, Option.bind_some, Bool.false_eq_true, if_false, if_true, Int.reduceBEq, beq_iff_eq, decide_eq_true_eq, Int.reduceEq] at fin ⊢
    exact fin
  · cases (show some (WireParts.mk false false false false false false false false) = some x from hx)
    have fin := end_sim c hlab ⟨9, fr, to, tx, 0, 0, 0, 0, 0, false, 0⟩ rel4 ⟨0, 0, 0, ⟨0, 0⟩, 0, 0, 0, 0, 0, false, 0⟩
    simp only [withK, Option.bind_some, Bool.false_eq_true, if_false, if_true, Int.reduceBEq, beq_iff_eq, decide_eq_true_eq, Int.reduceEq] at fin ⊢
    exact fin

end Go.V.Dec
