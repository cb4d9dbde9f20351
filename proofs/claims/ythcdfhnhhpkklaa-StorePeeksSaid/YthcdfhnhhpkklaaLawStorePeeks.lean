/- The law StorePeeks returns true at every input, and its arguments read as they did; no condition. -/
import Derived.Test.YthcdfhnhhpkklaaRows
import Derived.WalkKit
import Derived.ProofKit
import Derived.OpenShut
import Derived.ShutString
import Derived.ChangeOld
import Derived.Below
import Derived.SizedLaws
import Derived.Test.YthcdfhnhhpkklaaF3
import Derived.Test.YthcdfhnhhpkklaaPStoreItem
set_option linter.unusedVariables false
set_option linter.unusedSimpArgs false
namespace Go.V.Dec.StorePeeks
open Go Go.Proofs Classical
set_option maxRecDepth 100000
set_option maxHeartbeats 4000000
def Item.ok (x : Item) : Prop := IntKind.i64.has x.Key ∧ IntKind.i64.has x.Value ∧ IntKind.i64.has x.Version
theorem Item.ok_of {ds : List D} (h0 : fitCs [.int .i64, .int .i64, .int .i64] ds) : ∃ x : Item, ds = Item.enc x ∧ Item.ok x := by
  obtain ⟨d0, ds0, rfl, f0, h1⟩ := fitCs_cons h0
  obtain ⟨v0, rfl, g0⟩ := fitD_int f0
  obtain ⟨d1, ds1, rfl, f1, h2⟩ := fitCs_cons h1
  obtain ⟨v1, rfl, g1⟩ := fitD_int f1
  obtain ⟨d2, ds2, rfl, f2, h3⟩ := fitCs_cons h2
  obtain ⟨v2, rfl, g2⟩ := fitD_int f2
  obtain rfl := fitCs_nil h3
  exact ⟨(Item.mk v0 v1 v2), rfl, ⟨g0, g1, g2⟩⟩
def Lock.ok (x : Lock) : Prop := IntKind.i64.has x.Txn.Site ∧ IntKind.i64.has x.Txn.N ∧ IntKind.i64.has x.Key ∧ IntKind.i64.has x.Value ∧ IntKind.i64.has x.Ask
theorem Lock.ok_of {ds : List D} (h0 : fitCs [.int .i64, .int .i64, .int .i64, .bool, .int .i64, .int .i64] ds) : ∃ x : Lock, ds = Lock.enc x ∧ Lock.ok x := by
  obtain ⟨d0, ds0, rfl, f0, h1⟩ := fitCs_cons h0
  obtain ⟨v0, rfl, g0⟩ := fitD_int f0
  obtain ⟨d1, ds1, rfl, f1, h2⟩ := fitCs_cons h1
  obtain ⟨v1, rfl, g1⟩ := fitD_int f1
  obtain ⟨d2, ds2, rfl, f2, h3⟩ := fitCs_cons h2
  obtain ⟨v2, rfl, g2⟩ := fitD_int f2
  obtain ⟨d3, ds3, rfl, f3, h4⟩ := fitCs_cons h3
  obtain ⟨v3, rfl⟩ := fitD_bool f3
  obtain ⟨d4, ds4, rfl, f4, h5⟩ := fitCs_cons h4
  obtain ⟨v4, rfl, g4⟩ := fitD_int f4
  obtain ⟨d5, ds5, rfl, f5, h6⟩ := fitCs_cons h5
  obtain ⟨v5, rfl, g5⟩ := fitD_int f5
  obtain rfl := fitCs_nil h6
  exact ⟨(Lock.mk (Txn.mk v0 v1) v2 v3 v4 v5), rfl, ⟨g0, g1, g2, g4, g5⟩⟩
def Doubt.ok (x : Doubt) : Prop := IntKind.i64.has x.Txn.Site ∧ IntKind.i64.has x.Txn.N ∧ IntKind.i64.has x.Age
theorem Doubt.ok_of {ds : List D} (h0 : fitCs [.int .i64, .int .i64, .int .i64] ds) : ∃ x : Doubt, ds = Doubt.enc x ∧ Doubt.ok x := by
  obtain ⟨d0, ds0, rfl, f0, h1⟩ := fitCs_cons h0
  obtain ⟨v0, rfl, g0⟩ := fitD_int f0
  obtain ⟨d1, ds1, rfl, f1, h2⟩ := fitCs_cons h1
  obtain ⟨v1, rfl, g1⟩ := fitD_int f1
  obtain ⟨d2, ds2, rfl, f2, h3⟩ := fitCs_cons h2
  obtain ⟨v2, rfl, g2⟩ := fitD_int f2
  obtain rfl := fitCs_nil h3
  exact ⟨(Doubt.mk (Txn.mk v0 v1) v2), rfl, ⟨g0, g1, g2⟩⟩
def Txn.ok (x : Txn) : Prop := IntKind.i64.has x.Site ∧ IntKind.i64.has x.N
theorem Txn.ok_of {ds : List D} (h0 : fitCs [.int .i64, .int .i64] ds) : ∃ x : Txn, ds = Txn.enc x ∧ Txn.ok x := by
  obtain ⟨d0, ds0, rfl, f0, h1⟩ := fitCs_cons h0
  obtain ⟨v0, rfl, g0⟩ := fitD_int f0
  obtain ⟨d1, ds1, rfl, f1, h2⟩ := fitCs_cons h1
  obtain ⟨v1, rfl, g1⟩ := fitD_int f1
  obtain rfl := fitCs_nil h2
  exact ⟨(Txn.mk v0 v1), rfl, ⟨g0, g1⟩⟩
def Store.ok (x : Store) : Prop := (x.Items.length ≤ maxLen ∧ x.Items.length * 24 ≤ reachBytes ∧ ∀ y ∈ x.Items, Item.ok y) ∧ (x.Locks.length ≤ maxLen ∧ x.Locks.length * 48 ≤ reachBytes ∧ ∀ y ∈ x.Locks, Lock.ok y) ∧ (x.Doubts.length ≤ maxLen ∧ x.Doubts.length * 24 ≤ reachBytes ∧ ∀ y ∈ x.Doubts, Doubt.ok y) ∧ (x.Over.length ≤ maxLen ∧ x.Over.length * 16 ≤ reachBytes ∧ ∀ y ∈ x.Over, Txn.ok y)
theorem Store.ok_of {ds : List D} (h0 : fitCs [.sl 3 24 [.int .i64, .int .i64, .int .i64], .sl 6 48 [.int .i64, .int .i64, .int .i64, .bool, .int .i64, .int .i64], .sl 3 24 [.int .i64, .int .i64, .int .i64], .sl 2 16 [.int .i64, .int .i64]] ds) : ∃ x : Store, ds = Store.enc x ∧ Store.ok x := by
  obtain ⟨d0, ds0, rfl, f0, h1⟩ := fitCs_cons h0
  obtain ⟨rw0, rfl, a0, b0, c0⟩ := fitD_sl f0
  obtain ⟨v0, rfl, e0⟩ := rows_of Item.ok_of c0
  obtain ⟨d1, ds1, rfl, f1, h2⟩ := fitCs_cons h1
  obtain ⟨rw1, rfl, a1, b1, c1⟩ := fitD_sl f1
  obtain ⟨v1, rfl, e1⟩ := rows_of Lock.ok_of c1
  obtain ⟨d2, ds2, rfl, f2, h3⟩ := fitCs_cons h2
  obtain ⟨rw2, rfl, a2, b2, c2⟩ := fitD_sl f2
  obtain ⟨v2, rfl, e2⟩ := rows_of Doubt.ok_of c2
  obtain ⟨d3, ds3, rfl, f3, h4⟩ := fitCs_cons h3
  obtain ⟨rw3, rfl, a3, b3, c3⟩ := fitD_sl f3
  obtain ⟨v3, rfl, e3⟩ := rows_of Txn.ok_of c3
  obtain rfl := fitCs_nil h4
  exact ⟨(Store.mk v0 v1 v2 v3), rfl, ⟨⟨by simpa using a0, by simpa using b0, e0⟩, ⟨by simpa using a1, by simpa using b1, e1⟩, ⟨by simpa using a2, by simpa using b2, e2⟩, ⟨by simpa using a3, by simpa using b3, e3⟩⟩⟩
def okI_i64 (x : Int) : Prop := IntKind.i64.has x
theorem okI_i64_of {ds : List D} (h0 : fitCs [.int .i64] ds) : ∃ x : Int, ds = encI x ∧ okI_i64 x := by
  obtain ⟨d0, ds0, rfl, f0, h1⟩ := fitCs_cons h0
  obtain ⟨v0, rfl, g0⟩ := fitD_int f0
  obtain rfl := fitCs_nil h1
  exact ⟨v0, rfl, g0⟩
def busyQ (t : Txn) (k : Int) (x : Lock) : Bool := (x.Key == k) && (!((x.Txn.Site == t.Site) && (x.Txn.N == t.N)) && x.Write)
theorem busy_eq (s : Store) (t : Txn) (k : Int) : store_busy s t k false = some (decide (∃ x ∈ s.Locks, busyQ t k x = true)) := by
  have e : (fun y1 => store_busy_1 y1 k t false) = fun x => some (busyQ t k x) := by
    funext x
    simp only [store_busy_1, withK, busyQ]
    generalize (x.Key == k) = a
    generalize ((x.Txn.Site == t.Site) && (x.Txn.N == t.N)) = b
    generalize x.Write = c
    cases a <;> cases b <;> cases c <;> rfl
  simp only [store_busy, e, containsF_Lock, Option.bind_some]
theorem others_loop (s : Store) (t : Txn) (k : Int) (k2 : Int → Int → Option (Int × Int)) (hl : s.Locks.length ≤ 24) : ∀ (n : Nat) (a b : Int) (i : Nat), s.Locks.length < n + i → i ≤ s.Locks.length → 0 ≤ b → b ≤ i →
    ∃ a' b', reredosref_others_L1 s t k k2 n a b i = k2 a' b' ∧ 0 ≤ b' ∧ (b' > 0 ↔ b > 0 ∨ ∃ m x, i ≤ m ∧ s.Locks[m]? = some x ∧ busyQ t k x = true) := by
  intro n
  induction n with
  | zero => intro a b i h1 h2; omega
  | succ n ih =>
    intro a b i h1 h2 h3 h4
    by_cases hi : i < s.Locks.length
    · have e : ∃ a'', reredosref_others_L1 s t k k2 (n + 1) a b i = reredosref_others_L1 s t k k2 n a'' (if busyQ t k s.Locks[i] = true then b + 1 else b) (i + 1) := by
        rw [reredosref_others_L1, if_pos (by simpa using hi), bind_at hi]
        simp only [withK]
        rw [wrap_in (n := b + 1) (by omega) (by omega), show busyQ t k s.Locks[i] = ((s.Locks[i].Key == k) && (!((s.Locks[i].Txn.Site == t.Site) && (s.Locks[i].Txn.N == t.N)) && s.Locks[i].Write)) from rfl]
        generalize (s.Locks[i].Key == k) = a1
        generalize ((s.Locks[i].Txn.Site == t.Site) && (s.Locks[i].Txn.N == t.N)) = b1
        generalize s.Locks[i].Write = c1
        cases a1 <;> cases b1 <;> cases c1 <;> exact ⟨_, rfl⟩
      obtain ⟨a'', e⟩ := e
      rw [e]
      by_cases hq : busyQ t k s.Locks[i] = true
      · rw [if_pos hq]
        obtain ⟨a', b', e1, e2, e3⟩ := ih a'' (b + 1) (i + 1) (by omega) (by omega) (by omega) (by omega)
        refine ⟨a', b', e1, e2, ⟨fun _ => .inr ⟨i, _, Nat.le_refl _, List.getElem?_eq_getElem hi, hq⟩, fun _ => e3.2 (.inl (by omega))⟩⟩
      · rw [if_neg hq]
        obtain ⟨a', b', e1, e2, e3⟩ := ih a'' b (i + 1) (by omega) (by omega) (by omega) (by omega)
        refine ⟨a', b', e1, e2, e3.trans ⟨?_, ?_⟩⟩
        · rintro (h | ⟨m, x, g1, g2, g3⟩)
          · exact .inl h
          · exact .inr ⟨m, x, by omega, g2, g3⟩
        · rintro (h | ⟨m, x, g1, g2, g3⟩)
          · exact .inl h
          · refine .inr ⟨m, x, ?_, g2, g3⟩
            rcases Nat.lt_or_ge i m with g4 | g4
            · exact g4
            · obtain rfl : m = i := by omega
              rw [List.getElem?_eq_getElem hi] at g2; cases g2; exact absurd g3 hq
    · refine ⟨a, b, by rw [reredosref_others_L1, if_neg (by simpa using hi)], h3, ⟨.inl, ?_⟩⟩
      rintro (h | ⟨m, x, g1, g2, g3⟩)
      · exact h
      · have := lt_of_at g2; omega
theorem others_eq (s : Store) (t : Txn) (k : Int) (hl : s.Locks.length ≤ 24) : ∃ a b, reredosref_others s t k = some (a, b) ∧ decide (b > 0) = decide (∃ x ∈ s.Locks, busyQ t k x = true) := by
  obtain ⟨a, b, e1, e2, e3⟩ := others_loop s t k (fun a b => some (a, b)) hl (s.Locks.length + 1) 0 0 0 (by omega) (by omega) (by omega) (by omega)
  refine ⟨a, b, by simp only [reredosref_others, withK]; exact e1, decide_eq_decide.2 (e3.trans ⟨?_, ?_⟩)⟩
  · rintro (h | ⟨m, x, g1, g2, g3⟩)
    · omega
    · exact ⟨x, List.mem_of_getElem? g2, g3⟩
  · rintro ⟨x, hm, hq⟩
    obtain ⟨j, hj, rfl⟩ := List.getElem_of_mem hm
    exact .inr ⟨j, _, Nat.zero_le _, List.getElem?_eq_getElem hj, hq⟩
theorem peek_same (s : Store) (k : Int) (h1 : s.Items.length ≤ maxLen) (h2 : s.Doubts.length ≤ maxLen) : store_Peek s k = reredosref_PeekOf s k ∧ ∃ r, reredosref_PeekOf s k = some r := by
  simp only [store_Peek, reredosref_PeekOf, call_eq s _ k h1, askFault_eq s _ k h1 h2, busy_eq, withK, Option.bind_some]
  by_cases hm : May s
  case neg => simp only [if_neg hm]; exact ⟨rfl, _, rfl⟩
  obtain ⟨e1, r, hr⟩ := item_same s hm.1 k
  obtain ⟨a, b, e2, e3⟩ := others_eq s (Txn.mk 0 0) k hm.2.2.2.2
  rw [e1, hr, e2]
  simp only [Option.bind_some, e3]
  refine ⟨?_, ?_⟩
  · simp only [decide_eq_true_eq]
  · exact ite2_some _ _ _ _ _
theorem StorePeeks_true (p0 : Store) (p1 : Int) (h : Store.ok p0) (_ : okI_i64 p1) : reredoslaw_StorePeeks p0 p1 = some true := by
  obtain ⟨e, r, hr⟩ := peek_same p0 p1 h.1.1 h.2.2.1.1
  simp only [reredoslaw_StorePeeks, e, hr, withK, Option.bind_some]
  simp

theorem walk (svs : List SV) (h : fitArgs Try.prog [27, 3] svs) : FnRO Try.prog (fun _ => none) 4 svs (fun rs => rs = [.one (.b true)]) := by
  match svs, h with
  | [s0, s1], h =>
    obtain ⟨h0, h1, _⟩ := h
    obtain ⟨ds0, f0, rfl⟩ := arg_agg (by kernel_rfl) (by kernel_rfl) h0
    obtain ⟨p0, rfl, k0⟩ := Store.ok_of f0
    obtain ⟨d1, f1, rfl⟩ := arg_one (by kernel_rfl) (by kernel_rfl) h1
    obtain ⟨p1, e1, k1⟩ := okI_i64_of f1
    obtain rfl := (List.cons.inj e1).1
    exact reredoslaw_StorePeeks_ok _ p0 p1 true (StorePeeks_true p0 p1 k0 k1)

end Go.V.Dec.StorePeeks
namespace Go.Proofs.Ythcdfhnhhpkklaa.storePeeks
open Go.ChangeShapes Go.WideShapes Go.ChangeAt Go.RowKit Go.V
theorem own : ownKnob Try.prog.godebug = none := by kernel_rfl
theorem laidOut : laidOutB Try.prog = true := by kernel_rfl
set_option maxRecDepth 100000 in
theorem lifted (os : Os) (started : os.Started) (H : Type) (enc : TypeId × Value → H) :
    ReturnsInHanded {} Try.checked os 4 .any (Rows.storePeeksSpec.pre6 enc Try.prog Try.f4 Rows.storePeeksRow.domain false) (Rows.storePeeksSpec.post enc Try.prog Try.f4 false true false false) := by
  refine returnsInHanded_of_change_sized (C := Try.checked) own started (by kernel_rfl) Try.func4
    (ChangeSpec.witness6 (enc := enc) (C := Try.checked) false ⟨#[], #[.agg #[.slice none 0 0, .slice none 0 0, .slice none 0 0, .slice none 0 0], .int .i64 0], []⟩ 8 (by kernel_rfl) (by kernel_rfl) (by kernel_rfl) (by kernel_rfl)) ?_
  intro W base args ds gs before hval0 hW hcnd hsz0 _
  have hsz : (DataW.weightsEach Try.prog (Try.f4.params.toList ++ Rows.storePeeksSpec.plain.varTypes Try.prog) (ds ++ gs)).all (· ≤ reachBytes) = true := hsz0
  have hval : ∀ (j : Nat) t v, Try.f4.params.toList[j]? = some t → args.toList[j]? = some v → Value.okWide Try.prog W .any base t v := fun j t v h1 h2 => hval0 j t v (by simpa using h1) (by simpa using h2)
  have hW' := hW
  obtain ⟨p, q, hA0, hV, rfl, hfz, hnd⟩ := hW
  have hA : DataW.TrodAll enc Try.prog W 0 (fun _ => true) true Try.f4.params.toList args.toList ds p := hA0
  obtain ⟨rfl, rfl⟩ := trodVars_none hV
  have hsz' : (DataW.weightsEach Try.prog Try.f4.params.toList ds).all (· ≤ reachBytes) = true := by
    have e : Try.f4.params.toList ++ Rows.storePeeksSpec.plain.varTypes Try.prog = Try.f4.params.toList := by rfl
    rw [e, List.append_nil] at hsz; exact hsz
  rw [Try.params4] at hA hval hsz'
  obtain ⟨svs, hr, hfit⟩ := law_args (by kernel_rfl) hA hval hsz'
  clear hA0 hval0 hsz0 hsz
  have hA2 := hA
  obtain ⟨v0, vs0, d0, ds0, p0, q0, hargs0, rfl, rfl, h0, r0⟩ := trodAll_cons hA
  obtain ⟨v1, vs1, d1, ds1, p1, q1, hargs1, rfl, rfl, h1, r1⟩ := trodAll_cons r0
  obtain ⟨hargs2, rfl, rfl⟩ := trodAll_nil r1
  refine (law_run (Go.V.Dec.StorePeeks.walk svs hfit) hr).mono fun e W' ⟨he, bel⟩ => ?_
  subst he
  have hA3 := law_kept laidOut bel (by kernel_rfl) hA2
  exact ⟨_, rfl, _, _, _, [], _, [], hW', trodAll_mk1 (shut_bool Try.underlying4 _), hA3, rfl, bel.frame _, fun h => by cases h⟩
theorem over : Rows.storePeeksRow.holds Try.pinned (OpenSpec.ofChange Rows.storePeeksSpec) :=
  OpenClaim.holds_of_wide 4 Try.f4 rfl rfl rfl rfl rfl rfl rfl ⟨rfl, rfl, rfl, rfl, rfl⟩ rfl rfl rfl rfl rfl (by kernel_rfl) Try.func4 (by kernel_rfl)
    (of_decide_eq_true (by kernel_rfl)) (by unfold Func.isWrapper; first | (rw [if_pos (by decide +kernel)]; kernel_rfl) | (rw [if_neg (by decide +kernel)]; exact ⟨rfl, rfl⟩))
    (fun os started H enc _ => lifted os started H enc)
theorem proved : Rows.StorePeeksSaid := over
#print axioms proved
end Go.Proofs.Ythcdfhnhhpkklaa.storePeeks
namespace Go.Proofs.Ythcdfhnhhpkklaa
/-- The row, under a short name, for the claim. -/
theorem storePeeks_holds : Rows.StorePeeksSaid := storePeeks.proved
end Go.Proofs.Ythcdfhnhhpkklaa
