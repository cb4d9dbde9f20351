/- The law StoreWrites returns true at every input, and its arguments read as they did; no condition. -/
import Derived.Test.YthcdfhnhhpkklaaRows
import Derived.WalkKit
import Derived.ProofKit
import Derived.OpenShut
import Derived.ShutString
import Derived.ChangeOld
import Derived.Below
import Derived.SizedLaws
import Derived.Test.YthcdfhnhhpkklaaG4
import Derived.Test.YthcdfhnhhpkklaaQStoreHand
set_option linter.unusedVariables false
set_option linter.unusedSimpArgs false
namespace Go.V.Dec.StoreWrites
open Go Go.Proofs Classical
set_option maxRecDepth 100000
set_option maxHeartbeats 4000000
def Item.ok (x : Item) : Prop := IntKind.i64.has x.Key ∧ IntKind.i64.has x.Value ∧ IntKind.i64.has x.Version
theorem Item.ok_of {ds : List D} (h0 : fitCs [.int .i64, .int .i64, .int .i64] ds) : ∃ x : Item, ds = Item.enc x ∧ Item.ok x := by
  obtain ⟨d0, ds0, rfl, f0, h1⟩ := fitCs_cons h0
  obtain ⟨v0, rfl, g0⟩ := fitD_int f0
  obtain ⟨d1, ds1, rfl, f1, h2⟩ := fitCs_cons h1
  obtain ⟨v1, rfl, g1⟩ := fitD_int f1
  obtain ⟨d2, ds2, rfl, f2, h3⟩ := fitCs_cons h2
  obtain ⟨v2, rfl, g2⟩ := fitD_int f2
  obtain rfl := fitCs_nil h3
  exact ⟨(Item.mk v0 v1 v2), rfl, ⟨g0, g1, g2⟩⟩
def Lock.ok (x : Lock) : Prop := IntKind.i64.has x.Txn.Site ∧ IntKind.i64.has x.Txn.N ∧ IntKind.i64.has x.Key ∧ IntKind.i64.has x.Value ∧ IntKind.i64.has x.Ask
theorem Lock.ok_of {ds : List D} (h0 : fitCs [.int .i64, .int .i64, .int .i64, .bool, .int .i64, .int .i64] ds) : ∃ x : Lock, ds = Lock.enc x ∧ Lock.ok x := by
  obtain ⟨d0, ds0, rfl, f0, h1⟩ := fitCs_cons h0
  obtain ⟨v0, rfl, g0⟩ := fitD_int f0
  obtain ⟨d1, ds1, rfl, f1, h2⟩ := fitCs_cons h1
  obtain ⟨v1, rfl, g1⟩ := fitD_int f1
  obtain ⟨d2, ds2, rfl, f2, h3⟩ := fitCs_cons h2
  obtain ⟨v2, rfl, g2⟩ := fitD_int f2
  obtain ⟨d3, ds3, rfl, f3, h4⟩ := fitCs_cons h3
  obtain ⟨v3, rfl⟩ := fitD_bool f3
  obtain ⟨d4, ds4, rfl, f4, h5⟩ := fitCs_cons h4
  obtain ⟨v4, rfl, g4⟩ := fitD_int f4
  obtain ⟨d5, ds5, rfl, f5, h6⟩ := fitCs_cons h5
  obtain ⟨v5, rfl, g5⟩ := fitD_int f5
  obtain rfl := fitCs_nil h6
  exact ⟨(Lock.mk (Txn.mk v0 v1) v2 v3 v4 v5), rfl, ⟨g0, g1, g2, g4, g5⟩⟩
def Doubt.ok (x : Doubt) : Prop := IntKind.i64.has x.Txn.Site ∧ IntKind.i64.has x.Txn.N ∧ IntKind.i64.has x.Age
theorem Doubt.ok_of {ds : List D} (h0 : fitCs [.int .i64, .int .i64, .int .i64] ds) : ∃ x : Doubt, ds = Doubt.enc x ∧ Doubt.ok x := by
  obtain ⟨d0, ds0, rfl, f0, h1⟩ := fitCs_cons h0
  obtain ⟨v0, rfl, g0⟩ := fitD_int f0
  obtain ⟨d1, ds1, rfl, f1, h2⟩ := fitCs_cons h1
  obtain ⟨v1, rfl, g1⟩ := fitD_int f1
  obtain ⟨d2, ds2, rfl, f2, h3⟩ := fitCs_cons h2
  obtain ⟨v2, rfl, g2⟩ := fitD_int f2
  obtain rfl := fitCs_nil h3
  exact ⟨(Doubt.mk (Txn.mk v0 v1) v2), rfl, ⟨g0, g1, g2⟩⟩
def Txn.ok (x : Txn) : Prop := IntKind.i64.has x.Site ∧ IntKind.i64.has x.N
theorem Txn.ok_of {ds : List D} (h0 : fitCs [.int .i64, .int .i64] ds) : ∃ x : Txn, ds = Txn.enc x ∧ Txn.ok x := by
  obtain ⟨d0, ds0, rfl, f0, h1⟩ := fitCs_cons h0
  obtain ⟨v0, rfl, g0⟩ := fitD_int f0
  obtain ⟨d1, ds1, rfl, f1, h2⟩ := fitCs_cons h1
  obtain ⟨v1, rfl, g1⟩ := fitD_int f1
  obtain rfl := fitCs_nil h2
  exact ⟨(Txn.mk v0 v1), rfl, ⟨g0, g1⟩⟩
def Store.ok (x : Store) : Prop := (x.Items.length ≤ maxLen ∧ x.Items.length * 24 ≤ reachBytes ∧ ∀ y ∈ x.Items, Item.ok y) ∧ (x.Locks.length ≤ maxLen ∧ x.Locks.length * 48 ≤ reachBytes ∧ ∀ y ∈ x.Locks, Lock.ok y) ∧ (x.Doubts.length ≤ maxLen ∧ x.Doubts.length * 24 ≤ reachBytes ∧ ∀ y ∈ x.Doubts, Doubt.ok y) ∧ (x.Over.length ≤ maxLen ∧ x.Over.length * 16 ≤ reachBytes ∧ ∀ y ∈ x.Over, Txn.ok y)
theorem Store.ok_of {ds : List D} (h0 : fitCs [.sl 3 24 [.int .i64, .int .i64, .int .i64], .sl 6 48 [.int .i64, .int .i64, .int .i64, .bool, .int .i64, .int .i64], .sl 3 24 [.int .i64, .int .i64, .int .i64], .sl 2 16 [.int .i64, .int .i64]] ds) : ∃ x : Store, ds = Store.enc x ∧ Store.ok x := by
  obtain ⟨d0, ds0, rfl, f0, h1⟩ := fitCs_cons h0
  obtain ⟨rw0, rfl, a0, b0, c0⟩ := fitD_sl f0
  obtain ⟨v0, rfl, e0⟩ := rows_of Item.ok_of c0
  obtain ⟨d1, ds1, rfl, f1, h2⟩ := fitCs_cons h1
  obtain ⟨rw1, rfl, a1, b1, c1⟩ := fitD_sl f1
  obtain ⟨v1, rfl, e1⟩ := rows_of Lock.ok_of c1
  obtain ⟨d2, ds2, rfl, f2, h3⟩ := fitCs_cons h2
  obtain ⟨rw2, rfl, a2, b2, c2⟩ := fitD_sl f2
  obtain ⟨v2, rfl, e2⟩ := rows_of Doubt.ok_of c2
  obtain ⟨d3, ds3, rfl, f3, h4⟩ := fitCs_cons h3
  obtain ⟨rw3, rfl, a3, b3, c3⟩ := fitD_sl f3
  obtain ⟨v3, rfl, e3⟩ := rows_of Txn.ok_of c3
  obtain rfl := fitCs_nil h4
  exact ⟨(Store.mk v0 v1 v2 v3), rfl, ⟨⟨by simpa using a0, by simpa using b0, e0⟩, ⟨by simpa using a1, by simpa using b1, e1⟩, ⟨by simpa using a2, by simpa using b2, e2⟩, ⟨by simpa using a3, by simpa using b3, e3⟩⟩⟩
def okI_i64 (x : Int) : Prop := IntKind.i64.has x
theorem okI_i64_of {ds : List D} (h0 : fitCs [.int .i64] ds) : ∃ x : Int, ds = encI x ∧ okI_i64 x := by
  obtain ⟨d0, ds0, rfl, f0, h1⟩ := fitCs_cons h0
  obtain ⟨v0, rfl, g0⟩ := fitD_int f0
  obtain rfl := fitCs_nil h1
  exact ⟨v0, rfl, g0⟩
def heldQ (t : Txn) (k : Int) (x : Lock) : Bool := (x.Key == k) && !((x.Txn.Site == t.Site) && (x.Txn.N == t.N))
theorem busyAll_eq (s : Store) (t : Txn) (k : Int) : store_busy s t k true = some (decide (∃ x ∈ s.Locks, heldQ t k x = true)) := by
  have e : (fun y1 => store_busy_1 y1 k t true) = fun x => some (heldQ t k x) := by
    funext x
    simp only [store_busy_1, withK, heldQ]
    generalize (x.Key == k) = a
    generalize ((x.Txn.Site == t.Site) && (x.Txn.N == t.N)) = b
    generalize x.Write = c
    cases a <;> cases b <;> cases c <;> rfl
  simp only [store_busy, e, containsF_Lock, Option.bind_some]
theorem held_loop (s : Store) (t : Txn) (k : Int) (k2 : Int → Int → Option (Int × Int)) (hl : s.Locks.length ≤ 24) : ∀ (n : Nat) (a b : Int) (i : Nat), s.Locks.length < n + i → i ≤ s.Locks.length → 0 ≤ a → a ≤ i →
    ∃ a' b', reredosref_others_L1 s t k k2 n a b i = k2 a' b' ∧ 0 ≤ a' ∧ (a' > 0 ↔ a > 0 ∨ ∃ m x, i ≤ m ∧ s.Locks[m]? = some x ∧ heldQ t k x = true) := by
  intro n
  induction n with
  | zero => intro a b i h1 h2; omega
  | succ n ih =>
    intro a b i h1 h2 h3 h4
    by_cases hi : i < s.Locks.length
    · have e : ∃ b'', reredosref_others_L1 s t k k2 (n + 1) a b i = reredosref_others_L1 s t k k2 n (if heldQ t k s.Locks[i] = true then a + 1 else a) b'' (i + 1) := by
        rw [reredosref_others_L1, if_pos (by simpa using hi), bind_at hi]
        simp only [withK]
        rw [wrap_in (n := a + 1) (by omega) (by omega), show heldQ t k s.Locks[i] = ((s.Locks[i].Key == k) && !((s.Locks[i].Txn.Site == t.Site) && (s.Locks[i].Txn.N == t.N))) from rfl]
        generalize (s.Locks[i].Key == k) = a1
        generalize ((s.Locks[i].Txn.Site == t.Site) && (s.Locks[i].Txn.N == t.N)) = b1
        generalize s.Locks[i].Write = c1
        cases a1 <;> cases b1 <;> cases c1 <;> exact ⟨_, rfl⟩
      obtain ⟨b'', e⟩ := e
      rw [e]
      by_cases hq : heldQ t k s.Locks[i] = true
      · rw [if_pos hq]
        obtain ⟨a', b', e1, e2, e3⟩ := ih (a + 1) b'' (i + 1) (by omega) (by omega) (by omega) (by omega)
        refine ⟨a', b', e1, e2, ⟨fun _ => .inr ⟨i, _, Nat.le_refl _, List.getElem?_eq_getElem hi, hq⟩, fun _ => e3.2 (.inl (by omega))⟩⟩
      · rw [if_neg hq]
        obtain ⟨a', b', e1, e2, e3⟩ := ih a b'' (i + 1) (by omega) (by omega) (by omega) (by omega)
        refine ⟨a', b', e1, e2, e3.trans ⟨?_, ?_⟩⟩
        · rintro (h | ⟨m, x, g1, g2, g3⟩)
          · exact .inl h
          · exact .inr ⟨m, x, by omega, g2, g3⟩
        · rintro (h | ⟨m, x, g1, g2, g3⟩)
          · exact .inl h
          · refine .inr ⟨m, x, ?_, g2, g3⟩
            rcases Nat.lt_or_ge i m with g4 | g4
            · exact g4
            · obtain rfl : m = i := by omega
              rw [List.getElem?_eq_getElem hi] at g2; cases g2; exact absurd g3 hq
    · refine ⟨a, b, by rw [reredosref_others_L1, if_neg (by simpa using hi)], h3, ⟨.inl, ?_⟩⟩
      rintro (h | ⟨m, x, g1, g2, g3⟩)
      · exact h
      · have := lt_of_at g2; omega
theorem held_eq (s : Store) (t : Txn) (k : Int) (hl : s.Locks.length ≤ 24) : ∃ a b, reredosref_others s t k = some (a, b) ∧ decide (a > 0) = decide (∃ x ∈ s.Locks, heldQ t k x = true) := by
  obtain ⟨a, b, e1, e2, e3⟩ := held_loop s t k (fun a b => some (a, b)) hl (s.Locks.length + 1) 0 0 0 (by omega) (by omega) (by omega) (by omega)
  refine ⟨a, b, by simp only [reredosref_others, withK]; exact e1, decide_eq_decide.2 (e3.trans ⟨?_, ?_⟩)⟩
  · rintro (h | ⟨m, x, g1, g2, g3⟩)
    · omega
    · exact ⟨x, List.mem_of_getElem? g2, g3⟩
  · rintro ⟨x, hm, hq⟩
    obtain ⟨j, hj, rfl⟩ := List.getElem_of_mem hm
    exact .inr ⟨j, _, Nat.zero_le _, List.getElem?_eq_getElem hj, hq⟩
theorem write_same (s : Store) (t : Txn) (k v a : Int) (hf : StoreFits s) : store_Write s t k v a = reredosref_WriteOf s t k v a ∧ ∃ r, reredosref_WriteOf s t k v a = some r := by
  have h1 : s.Items.length ≤ maxLen := hf.1.2
  have h2 : s.Doubts.length ≤ maxLen := hf.2.2.1.2
  simp only [store_Write, reredosref_WriteOf, call_eq s t k h1, askFault_eq s t k h1 h2, In_eq, lock_same, contains_Txn, isOver_eq, busyAll_eq, own_eq s hf, copy_eq s hf, withK, Option.bind_some, doubted_eq]
  by_cases hm : May s
  case neg => simp [hm]
  by_cases ht : txnR t ∧ 0 ≤ k ∧ k < 8
  case neg => simp [hm, ht]
  by_cases b1 : v < 0
  · have : ¬ (0 ≤ v ∧ v ≤ 1073741824) := by omega
    simp [hm, ht, b1, this]
  by_cases b2 : v > 1073741824
  · have : ¬ (0 ≤ v ∧ v ≤ 1073741824) := by omega
    simp [hm, ht, b1, b2, this]
  have b3 : (0 ≤ v ∧ v ≤ 1073741824) := by omega
  by_cases c1 : a < 0
  · have : ¬ (0 ≤ a ∧ a ≤ 1048576) := by omega
    simp [hm, ht, b1, b2, b3, c1, this]
  by_cases c2 : a > 1048576
  · have : ¬ (0 ≤ a ∧ a ≤ 1048576) := by omega
    simp [hm, ht, b1, b2, b3, c1, c2, this]
  have c3 : (0 ≤ a ∧ a ≤ 1048576) := by omega
  obtain ⟨m, n, e1, e2⟩ := held_eq s t k hm.2.2.2.2
  obtain ⟨w, e3, e4⟩ := lock_total s t k
  obtain ⟨e5, _⟩ := item_same s hm.1 k
  obtain ⟨x, e6, e7⟩ := item_small s hm.1 k
  obtain ⟨d, e8, e9⟩ := doubtOf_val s t
  have e10 : (x.Version == 1048576) = decide (x.Version ≥ 1048576) := by
    rw [Bool.eq_iff_iff]; simp; omega
  have e11 : ((s.Locks.length : Int) == 24) = decide ((s.Locks.length : Int) ≥ 24) := by
    have := hm.2.2.2.2
    rw [Bool.eq_iff_iff]; simp; omega
  have f1 : fits 24 (s.Doubts.length + 1) := by
    have := doubts_len s hm
    have := hf.2.2.1
    unfold fits maxLen at *; omega
  have f2 : fits 48 (s.Locks.length + 1) := by
    have := hm.2.2.2.2
    unfold fits maxLen at *; omega
  have hd : ∀ I L O, hasDoubt (Store.mk I L s.Doubts O) t ↔ hasDoubt s t := fun I L O => Iff.rfl
  simp only [decide_eq_false b1, decide_eq_false b2, decide_eq_true b3, decide_eq_false c1, decide_eq_false c2, decide_eq_true c3, if_pos hm, if_pos ht, e1, e2, e3, e5, e6, e8, e9, e10, e11, if_pos f1, if_pos f2, hd, Option.bind_some]
  have hb : ∀ b : Bool, (!b) = true ↔ b = false := by intro b; cases b <;> simp
  rcases e4 with ⟨rfl, e4⟩ | ⟨j, y, rfl, e4, _, _⟩
  · have g : (s.Locks ++ [Lock.mk (Txn.mk 0 0) 0 false 0 0])[s.Locks.length]? = some (Lock.mk (Txn.mk 0 0) 0 false 0 0) := by simp
    have g2 : (s.Locks ++ [Lock.mk (Txn.mk 0 0) 0 false 0 0]).set s.Locks.length (Lock.mk t k true v a) = s.Locks ++ [Lock.mk t k true v a] := by simp
    simp only [g, g2, Option.bind_some]
    generalize decide (t ∈ s.Over) = q1
    generalize decide (∃ x, x ∈ s.Locks ∧ heldQ t k x = true) = q2
    generalize decide ((s.Locks.length : Int) ≥ 24) = q3
    generalize decide (x.Version ≥ 1048576) = q4
    generalize decide (hasDoubt s t) = q5
    cases q1 <;> cases q2 <;> cases q3 <;> cases q4 <;> cases q5 <;> simp
  · simp only [Int.toNat_natCast, e4, Option.bind_some]
    generalize decide (t ∈ s.Over) = q1
    generalize decide (∃ x, x ∈ s.Locks ∧ heldQ t k x = true) = q2
    generalize decide (y.Ask > a) = q3
    generalize decide (x.Version ≥ 1048576) = q4
    generalize decide (hasDoubt s t) = q5
    have g : ¬ ((j : Int) < 0) := by omega
    have g' : (j : Int) ≥ 0 := by omega
    simp only [decide_eq_false g, decide_eq_true g', if_pos g']
    cases q1 <;> cases q2 <;> cases q3 <;> cases q4 <;> cases q5 <;> simp
theorem StoreWrites_true (p0 : Store) (p1 : Txn) (p2 p3 p4 : Int) (h : Store.ok p0) (_ : Txn.ok p1) (_ : okI_i64 p2) (_ : okI_i64 p3) (_ : okI_i64 p4) : reredoslaw_StoreWrites p0 p1 p2 p3 p4 = some true := by
  have hf : StoreFits p0 := ⟨fits_of' h.1.1 h.1.2.1, fits_of' h.2.1.1 h.2.1.2.1, fits_of' h.2.2.1.1 h.2.2.1.2.1, fits_of' h.2.2.2.1 h.2.2.2.2.1⟩
  obtain ⟨e, r, hr⟩ := write_same p0 p1 p2 p3 p4 hf
  simp only [reredoslaw_StoreWrites, copy_eq p0 hf, e, hr, withK, Option.bind_some, sameStore_refl]
  simp

theorem walk (svs : List SV) (h : fitArgs Try.prog [27, 29, 3, 3, 3] svs) : FnRO Try.prog (fun _ => none) 6 svs (fun rs => rs = [.one (.b true)]) := by
  match svs, h with
  | [s0, s1, s2, s3, s4], h =>
    obtain ⟨h0, h1, h2, h3, h4, _⟩ := h
    obtain ⟨ds0, f0, rfl⟩ := arg_agg (by kernel_rfl) (by kernel_rfl) h0
    obtain ⟨p0, rfl, k0⟩ := Store.ok_of f0
    obtain ⟨ds1, f1, rfl⟩ := arg_agg (by kernel_rfl) (by kernel_rfl) h1
    obtain ⟨p1, rfl, k1⟩ := Txn.ok_of f1
    obtain ⟨d2, f2, rfl⟩ := arg_one (by kernel_rfl) (by kernel_rfl) h2
    obtain ⟨p2, e2, k2⟩ := okI_i64_of f2
    obtain rfl := (List.cons.inj e2).1
    obtain ⟨d3, f3, rfl⟩ := arg_one (by kernel_rfl) (by kernel_rfl) h3
    obtain ⟨p3, e3, k3⟩ := okI_i64_of f3
    obtain rfl := (List.cons.inj e3).1
    obtain ⟨d4, f4, rfl⟩ := arg_one (by kernel_rfl) (by kernel_rfl) h4
    obtain ⟨p4, e4, k4⟩ := okI_i64_of f4
    obtain rfl := (List.cons.inj e4).1
    exact reredoslaw_StoreWrites_ok _ p0 p1 p2 p3 p4 true (StoreWrites_true p0 p1 p2 p3 p4 k0 k1 k2 k3 k4)

end Go.V.Dec.StoreWrites
namespace Go.Proofs.Ythcdfhnhhpkklaa.storeWrites
open Go.ChangeShapes Go.WideShapes Go.ChangeAt Go.RowKit Go.V
theorem own : ownKnob Try.prog.godebug = none := by kernel_rfl
theorem laidOut : laidOutB Try.prog = true := by kernel_rfl
set_option maxRecDepth 100000 in
theorem lifted (os : Os) (started : os.Started) (H : Type) (enc : TypeId × Value → H) :
    ReturnsInHanded {} Try.checked os 6 .any (Rows.storeWritesSpec.pre6 enc Try.prog Try.f6 Rows.storeWritesRow.domain false) (Rows.storeWritesSpec.post enc Try.prog Try.f6 false true false false) := by
  refine returnsInHanded_of_change_sized (C := Try.checked) own started (by kernel_rfl) Try.func6
    (ChangeSpec.witness6 (enc := enc) (C := Try.checked) false ⟨#[], #[.agg #[.slice none 0 0, .slice none 0 0, .slice none 0 0, .slice none 0 0], .agg #[.int .i64 0, .int .i64 0], .int .i64 0, .int .i64 0, .int .i64 0], []⟩ 8 (by kernel_rfl) (by kernel_rfl) (by kernel_rfl) (by kernel_rfl)) ?_
  intro W base args ds gs before hval0 hW hcnd hsz0 _
  have hsz : (DataW.weightsEach Try.prog (Try.f6.params.toList ++ Rows.storeWritesSpec.plain.varTypes Try.prog) (ds ++ gs)).all (· ≤ reachBytes) = true := hsz0
  have hval : ∀ (j : Nat) t v, Try.f6.params.toList[j]? = some t → args.toList[j]? = some v → Value.okWide Try.prog W .any base t v := fun j t v h1 h2 => hval0 j t v (by simpa using h1) (by simpa using h2)
  have hW' := hW
  obtain ⟨p, q, hA0, hV, rfl, hfz, hnd⟩ := hW
  have hA : DataW.TrodAll enc Try.prog W 0 (fun _ => true) true Try.f6.params.toList args.toList ds p := hA0
  obtain ⟨rfl, rfl⟩ := trodVars_none hV
  have hsz' : (DataW.weightsEach Try.prog Try.f6.params.toList ds).all (· ≤ reachBytes) = true := by
    have e : Try.f6.params.toList ++ Rows.storeWritesSpec.plain.varTypes Try.prog = Try.f6.params.toList := by rfl
    rw [e, List.append_nil] at hsz; exact hsz
  rw [Try.params6] at hA hval hsz'
  obtain ⟨svs, hr, hfit⟩ := law_args (by kernel_rfl) hA hval hsz'
  clear hA0 hval0 hsz0 hsz
  have hA2 := hA
  obtain ⟨v0, vs0, d0, ds0, p0, q0, hargs0, rfl, rfl, h0, r0⟩ := trodAll_cons hA
  obtain ⟨v1, vs1, d1, ds1, p1, q1, hargs1, rfl, rfl, h1, r1⟩ := trodAll_cons r0
  obtain ⟨v2, vs2, d2, ds2, p2, q2, hargs2, rfl, rfl, h2, r2⟩ := trodAll_cons r1
  obtain ⟨v3, vs3, d3, ds3, p3, q3, hargs3, rfl, rfl, h3, r3⟩ := trodAll_cons r2
  obtain ⟨v4, vs4, d4, ds4, p4, q4, hargs4, rfl, rfl, h4, r4⟩ := trodAll_cons r3
  obtain ⟨hargs5, rfl, rfl⟩ := trodAll_nil r4
  refine (law_run (Go.V.Dec.StoreWrites.walk svs hfit) hr).mono fun e W' ⟨he, bel⟩ => ?_
  subst he
  have hA3 := law_kept laidOut bel (by kernel_rfl) hA2
  exact ⟨_, rfl, _, _, _, [], _, [], hW', trodAll_mk1 (shut_bool Try.underlying4 _), hA3, rfl, bel.frame _, fun h => by cases h⟩
theorem over : Rows.storeWritesRow.holds Try.pinned (OpenSpec.ofChange Rows.storeWritesSpec) :=
  OpenClaim.holds_of_wide 6 Try.f6 rfl rfl rfl rfl rfl rfl rfl ⟨rfl, rfl, rfl, rfl, rfl⟩ rfl rfl rfl rfl rfl (by kernel_rfl) Try.func6 (by kernel_rfl)
    (of_decide_eq_true (by kernel_rfl)) (by unfold Func.isWrapper; first | (rw [if_pos (by decide +kernel)]; kernel_rfl) | (rw [if_neg (by decide +kernel)]; exact ⟨rfl, rfl⟩))
    (fun os started H enc _ => lifted os started H enc)
theorem proved : Rows.StoreWritesSaid := over
#print axioms proved
end Go.Proofs.Ythcdfhnhhpkklaa.storeWrites
namespace Go.Proofs.Ythcdfhnhhpkklaa
/-- The row, under a short name, for the claim. -/
theorem storeWrites_holds : Rows.StoreWritesSaid := storeWrites.proved
end Go.Proofs.Ythcdfhnhhpkklaa
