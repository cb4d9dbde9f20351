/- The law PartForces returns true at every input, and its arguments read as they did; no condition. -/
import Derived.Test.YtmplhamakfnjbaaRows
import Derived.WalkKit
import Derived.ProofKit
import Derived.OpenShut
import Derived.ShutString
import Derived.ChangeOld
import Derived.Below
import Derived.SizedLaws
import Derived.Test.YtmplhamakfnjbaaE3
import Derived.Test.YtmplhamakfnjbaaEPPartForce
set_option linter.unusedVariables false
set_option linter.unusedSimpArgs false
namespace Go.V.Dec.PartForces
open Go Go.Proofs Classical
set_option maxRecDepth 100000
set_option maxHeartbeats 4000000
def Label.ok (x : Label) : Prop := IntKind.i64.has x.Level ∧ IntKind.i64.has x.Cats
theorem Label.ok_of {ds : List D} (h0 : fitCs [.int .i64, .int .i64] ds) : ∃ x : Label, ds = Label.enc x ∧ Label.ok x := by
  obtain ⟨d0, ds0, rfl, f0, h1⟩ := fitCs_cons h0
  obtain ⟨v0, rfl, g0⟩ := fitD_int f0
  obtain ⟨d1, ds1, rfl, f1, h2⟩ := fitCs_cons h1
  obtain ⟨v1, rfl, g1⟩ := fitD_int f1
  obtain rfl := fitCs_nil h2
  exact ⟨(Label.mk v0 v1), rfl, ⟨g0, g1⟩⟩
def Config.ok (x : Config) : Prop := IntKind.i64.has x.Sites ∧ (x.Labels.length ≤ maxLen ∧ x.Labels.length * 16 ≤ reachBytes ∧ ∀ y ∈ x.Labels, Label.ok y) ∧ IntKind.i64.has x.Patience
theorem Config.ok_of {ds : List D} (h0 : fitCs [.int .i64, .sl 2 16 [.int .i64, .int .i64], .int .i64] ds) : ∃ x : Config, ds = Config.enc x ∧ Config.ok x := by
  obtain ⟨d0, ds0, rfl, f0, h1⟩ := fitCs_cons h0
  obtain ⟨v0, rfl, g0⟩ := fitD_int f0
  obtain ⟨d1, ds1, rfl, f1, h2⟩ := fitCs_cons h1
  obtain ⟨rw1, rfl, a1, b1, c1⟩ := fitD_sl f1
  obtain ⟨v1, rfl, e1⟩ := rows_of Label.ok_of c1
  obtain ⟨d2, ds2, rfl, f2, h3⟩ := fitCs_cons h2
  obtain ⟨v2, rfl, g2⟩ := fitD_int f2
  obtain rfl := fitCs_nil h3
  exact ⟨(Config.mk v0 v1 v2), rfl, ⟨g0, ⟨by simpa using a1, by simpa using b1, e1⟩, g2⟩⟩
def okI_i64 (x : Int) : Prop := IntKind.i64.has x
theorem okI_i64_of {ds : List D} (h0 : fitCs [.int .i64] ds) : ∃ x : Int, ds = encI x ∧ okI_i64 x := by
  obtain ⟨d0, ds0, rfl, f0, h1⟩ := fitCs_cons h0
  obtain ⟨v0, rfl, g0⟩ := fitD_int f0
  obtain rfl := fitCs_nil h1
  exact ⟨v0, rfl, g0⟩
def Item.ok (x : Item) : Prop := IntKind.i64.has x.Key ∧ IntKind.i64.has x.Value ∧ IntKind.i64.has x.Version
theorem Item.ok_of {ds : List D} (h0 : fitCs [.int .i64, .int .i64, .int .i64] ds) : ∃ x : Item, ds = Item.enc x ∧ Item.ok x := by
  obtain ⟨d0, ds0, rfl, f0, h1⟩ := fitCs_cons h0
  obtain ⟨v0, rfl, g0⟩ := fitD_int f0
  obtain ⟨d1, ds1, rfl, f1, h2⟩ := fitCs_cons h1
  obtain ⟨v1, rfl, g1⟩ := fitD_int f1
  obtain ⟨d2, ds2, rfl, f2, h3⟩ := fitCs_cons h2
  obtain ⟨v2, rfl, g2⟩ := fitD_int f2
  obtain rfl := fitCs_nil h3
  exact ⟨(Item.mk v0 v1 v2), rfl, ⟨g0, g1, g2⟩⟩
def Lock.ok (x : Lock) : Prop := IntKind.i64.has x.Txn.Site ∧ IntKind.i64.has x.Txn.N ∧ IntKind.i64.has x.Key ∧ IntKind.i64.has x.Value ∧ IntKind.i64.has x.Ask
theorem Lock.ok_of {ds : List D} (h0 : fitCs [.int .i64, .int .i64, .int .i64, .bool, .int .i64, .int .i64] ds) : ∃ x : Lock, ds = Lock.enc x ∧ Lock.ok x := by
  obtain ⟨d0, ds0, rfl, f0, h1⟩ := fitCs_cons h0
  obtain ⟨v0, rfl, g0⟩ := fitD_int f0
  obtain ⟨d1, ds1, rfl, f1, h2⟩ := fitCs_cons h1
  obtain ⟨v1, rfl, g1⟩ := fitD_int f1
  obtain ⟨d2, ds2, rfl, f2, h3⟩ := fitCs_cons h2
  obtain ⟨v2, rfl, g2⟩ := fitD_int f2
  obtain ⟨d3, ds3, rfl, f3, h4⟩ := fitCs_cons h3
  obtain ⟨v3, rfl⟩ := fitD_bool f3
  obtain ⟨d4, ds4, rfl, f4, h5⟩ := fitCs_cons h4
  obtain ⟨v4, rfl, g4⟩ := fitD_int f4
  obtain ⟨d5, ds5, rfl, f5, h6⟩ := fitCs_cons h5
  obtain ⟨v5, rfl, g5⟩ := fitD_int f5
  obtain rfl := fitCs_nil h6
  exact ⟨(Lock.mk (Txn.mk v0 v1) v2 v3 v4 v5), rfl, ⟨g0, g1, g2, g4, g5⟩⟩
def Doubt.ok (x : Doubt) : Prop := IntKind.i64.has x.Txn.Site ∧ IntKind.i64.has x.Txn.N ∧ IntKind.i64.has x.Age
theorem Doubt.ok_of {ds : List D} (h0 : fitCs [.int .i64, .int .i64, .int .i64] ds) : ∃ x : Doubt, ds = Doubt.enc x ∧ Doubt.ok x := by
  obtain ⟨d0, ds0, rfl, f0, h1⟩ := fitCs_cons h0
  obtain ⟨v0, rfl, g0⟩ := fitD_int f0
  obtain ⟨d1, ds1, rfl, f1, h2⟩ := fitCs_cons h1
  obtain ⟨v1, rfl, g1⟩ := fitD_int f1
  obtain ⟨d2, ds2, rfl, f2, h3⟩ := fitCs_cons h2
  obtain ⟨v2, rfl, g2⟩ := fitD_int f2
  obtain rfl := fitCs_nil h3
  exact ⟨(Doubt.mk (Txn.mk v0 v1) v2), rfl, ⟨g0, g1, g2⟩⟩
def Txn.ok (x : Txn) : Prop := IntKind.i64.has x.Site ∧ IntKind.i64.has x.N
theorem Txn.ok_of {ds : List D} (h0 : fitCs [.int .i64, .int .i64] ds) : ∃ x : Txn, ds = Txn.enc x ∧ Txn.ok x := by
  obtain ⟨d0, ds0, rfl, f0, h1⟩ := fitCs_cons h0
  obtain ⟨v0, rfl, g0⟩ := fitD_int f0
  obtain ⟨d1, ds1, rfl, f1, h2⟩ := fitCs_cons h1
  obtain ⟨v1, rfl, g1⟩ := fitD_int f1
  obtain rfl := fitCs_nil h2
  exact ⟨(Txn.mk v0 v1), rfl, ⟨g0, g1⟩⟩
def Store.ok (x : Store) : Prop := (x.Items.length ≤ maxLen ∧ x.Items.length * 24 ≤ reachBytes ∧ ∀ y ∈ x.Items, Item.ok y) ∧ (x.Locks.length ≤ maxLen ∧ x.Locks.length * 48 ≤ reachBytes ∧ ∀ y ∈ x.Locks, Lock.ok y) ∧ (x.Doubts.length ≤ maxLen ∧ x.Doubts.length * 24 ≤ reachBytes ∧ ∀ y ∈ x.Doubts, Doubt.ok y) ∧ (x.Over.length ≤ maxLen ∧ x.Over.length * 16 ≤ reachBytes ∧ ∀ y ∈ x.Over, Txn.ok y)
theorem Store.ok_of {ds : List D} (h0 : fitCs [.sl 3 24 [.int .i64, .int .i64, .int .i64], .sl 6 48 [.int .i64, .int .i64, .int .i64, .bool, .int .i64, .int .i64], .sl 3 24 [.int .i64, .int .i64, .int .i64], .sl 2 16 [.int .i64, .int .i64]] ds) : ∃ x : Store, ds = Store.enc x ∧ Store.ok x := by
  obtain ⟨d0, ds0, rfl, f0, h1⟩ := fitCs_cons h0
  obtain ⟨rw0, rfl, a0, b0, c0⟩ := fitD_sl f0
  obtain ⟨v0, rfl, e0⟩ := rows_of Item.ok_of c0
  obtain ⟨d1, ds1, rfl, f1, h2⟩ := fitCs_cons h1
  obtain ⟨rw1, rfl, a1, b1, c1⟩ := fitD_sl f1
  obtain ⟨v1, rfl, e1⟩ := rows_of Lock.ok_of c1
  obtain ⟨d2, ds2, rfl, f2, h3⟩ := fitCs_cons h2
  obtain ⟨rw2, rfl, a2, b2, c2⟩ := fitD_sl f2
  obtain ⟨v2, rfl, e2⟩ := rows_of Doubt.ok_of c2
  obtain ⟨d3, ds3, rfl, f3, h4⟩ := fitCs_cons h3
  obtain ⟨rw3, rfl, a3, b3, c3⟩ := fitD_sl f3
  obtain ⟨v3, rfl, e3⟩ := rows_of Txn.ok_of c3
  obtain rfl := fitCs_nil h4
  exact ⟨(Store.mk v0 v1 v2 v3), rfl, ⟨⟨by simpa using a0, by simpa using b0, e0⟩, ⟨by simpa using a1, by simpa using b1, e1⟩, ⟨by simpa using a2, by simpa using b2, e2⟩, ⟨by simpa using a3, by simpa using b3, e3⟩⟩⟩
def okL_Store_ok (x : List Store) : Prop := (x.length ≤ maxLen ∧ x.length * 96 ≤ reachBytes ∧ ∀ y ∈ x, Store.ok y)
theorem okL_Store_ok_of {ds : List D} (h0 : fitCs [.sl 4 96 [.sl 3 24 [.int .i64, .int .i64, .int .i64], .sl 6 48 [.int .i64, .int .i64, .int .i64, .bool, .int .i64, .int .i64], .sl 3 24 [.int .i64, .int .i64, .int .i64], .sl 2 16 [.int .i64, .int .i64]]] ds) : ∃ x : List Store, ds = (encL 4 Store.enc) x ∧ okL_Store_ok x := by
  obtain ⟨d0, ds0, rfl, f0, h1⟩ := fitCs_cons h0
  obtain ⟨rw0, rfl, a0, b0, c0⟩ := fitD_sl f0
  obtain ⟨v0, rfl, e0⟩ := rows_of Store.ok_of c0
  obtain rfl := fitCs_nil h1
  exact ⟨v0, rfl, ⟨by simpa using a0, by simpa using b0, e0⟩⟩
def Note.ok (x : Note) : Prop := IntKind.i64.has x.Txn.Site ∧ IntKind.i64.has x.Txn.N
theorem Note.ok_of {ds : List D} (h0 : fitCs [.int .i64, .int .i64, .bool, .bool] ds) : ∃ x : Note, ds = Note.enc x ∧ Note.ok x := by
  obtain ⟨d0, ds0, rfl, f0, h1⟩ := fitCs_cons h0
  obtain ⟨v0, rfl, g0⟩ := fitD_int f0
  obtain ⟨d1, ds1, rfl, f1, h2⟩ := fitCs_cons h1
  obtain ⟨v1, rfl, g1⟩ := fitD_int f1
  obtain ⟨d2, ds2, rfl, f2, h3⟩ := fitCs_cons h2
  obtain ⟨v2, rfl⟩ := fitD_bool f2
  obtain ⟨d3, ds3, rfl, f3, h4⟩ := fitCs_cons h3
  obtain ⟨v3, rfl⟩ := fitD_bool f3
  obtain rfl := fitCs_nil h4
  exact ⟨(Note.mk (Txn.mk v0 v1) v2 v3), rfl, ⟨g0, g1⟩⟩
def okL_Note_ok (x : List Note) : Prop := (x.length ≤ maxLen ∧ x.length * 24 ≤ reachBytes ∧ ∀ y ∈ x, Note.ok y)
theorem okL_Note_ok_of {ds : List D} (h0 : fitCs [.sl 4 24 [.int .i64, .int .i64, .bool, .bool]] ds) : ∃ x : List Note, ds = (encL 4 Note.enc) x ∧ okL_Note_ok x := by
  obtain ⟨d0, ds0, rfl, f0, h1⟩ := fitCs_cons h0
  obtain ⟨rw0, rfl, a0, b0, c0⟩ := fitD_sl f0
  obtain ⟨v0, rfl, e0⟩ := rows_of Note.ok_of c0
  obtain rfl := fitCs_nil h1
  exact ⟨v0, rfl, ⟨by simpa using a0, by simpa using b0, e0⟩⟩
def okB (x : Bool) : Prop := True
theorem okB_of {ds : List D} (h0 : fitCs [.bool] ds) : ∃ x : Bool, ds = encB x ∧ okB x := by
  obtain ⟨d0, ds0, rfl, f0, h1⟩ := fitCs_cons h0
  obtain ⟨v0, rfl⟩ := fitD_bool f0
  obtain rfl := fitCs_nil h1
  exact ⟨v0, rfl, trivial⟩
theorem PartForces_true (p0 : Config) (p1 p2 : Int) (p3 : List Store) (p4 : List Note) (p5 : Txn) (p6 : Bool) (h0 : Config.ok p0) (_ : okI_i64 p1) (_ : okI_i64 p2) (h3 : okL_Store_ok p3) (h4 : okL_Note_ok p4) (_ : Txn.ok p5) (_ : okB p6) : reredoslaw_PartForces p0 p1 p2 p3 p4 p5 p6 = some true := by
  have hf : fits 96 p3.length := fits_of' h3.1 h3.2.1
  have hn : fits 24 p4.length := fits_of' h4.1 h4.2.1
  obtain ⟨r, e1, e2⟩ := force_same p0 h0.2.1.1 p1 p2 p3 p4 hn p5 p6 (fun x hx => by
    have h := h3.2.2 x hx
    exact ⟨fits_of' h.1.1 h.1.2.1, fits_of' h.2.1.1 h.2.1.2.1, fits_of' h.2.2.1.1 h.2.2.1.2.1, fits_of' h.2.2.2.1 h.2.2.2.2.1⟩)
  simp only [reredoslaw_PartForces, if_pos hf, NotesCopy_eq p4 hn, e1, e2, withK, Option.bind_some, sameAnsR]
  simp

theorem walk (svs : List SV) (h : fitArgs Try.prog [24, 3, 3, 25, 34, 43, 4] svs) : FnRO Try.prog (fun _ => none) 4 svs (fun rs => rs = [.one (.b true)]) := by
  match svs, h with
  | [s0, s1, s2, s3, s4, s5, s6], h =>
    obtain ⟨h0, h1, h2, h3, h4, h5, h6, _⟩ := h
    obtain ⟨ds0, f0, rfl⟩ := arg_agg (by kernel_rfl) (by kernel_rfl) h0
    obtain ⟨p0, rfl, k0⟩ := Config.ok_of f0
    obtain ⟨d1, f1, rfl⟩ := arg_one (by kernel_rfl) (by kernel_rfl) h1
    obtain ⟨p1, e1, k1⟩ := okI_i64_of f1
    obtain rfl := (List.cons.inj e1).1
    obtain ⟨d2, f2, rfl⟩ := arg_one (by kernel_rfl) (by kernel_rfl) h2
    obtain ⟨p2, e2, k2⟩ := okI_i64_of f2
    obtain rfl := (List.cons.inj e2).1
    obtain ⟨d3, f3, rfl⟩ := arg_one (by kernel_rfl) (by kernel_rfl) h3
    obtain ⟨p3, e3, k3⟩ := okL_Store_ok_of f3
    obtain rfl := (List.cons.inj e3).1
    obtain ⟨d4, f4, rfl⟩ := arg_one (by kernel_rfl) (by kernel_rfl) h4
    obtain ⟨p4, e4, k4⟩ := okL_Note_ok_of f4
    obtain rfl := (List.cons.inj e4).1
    obtain ⟨ds5, f5, rfl⟩ := arg_agg (by kernel_rfl) (by kernel_rfl) h5
    obtain ⟨p5, rfl, k5⟩ := Txn.ok_of f5
    obtain ⟨d6, f6, rfl⟩ := arg_one (by kernel_rfl) (by kernel_rfl) h6
    obtain ⟨p6, e6, k6⟩ := okB_of f6
    obtain rfl := (List.cons.inj e6).1
    exact reredoslaw_PartForces_ok _ p0 p1 p2 p3 p4 p5 p6 true (PartForces_true p0 p1 p2 p3 p4 p5 p6 k0 k1 k2 k3 k4 k5 k6)

end Go.V.Dec.PartForces
namespace Go.Proofs.Ytmplhamakfnjbaa.partForces
open Go.ChangeShapes Go.WideShapes Go.ChangeAt Go.RowKit Go.V
theorem own : ownKnob Try.prog.godebug = none := by kernel_rfl
theorem laidOut : laidOutB Try.prog = true := by kernel_rfl
set_option maxRecDepth 100000 in
theorem lifted (os : Os) (started : os.Started) (H : Type) (enc : TypeId × Value → H) :
    ReturnsInHanded {} Try.checked os 4 .any (Rows.partForcesSpec.pre6 enc Try.prog Try.f4 Rows.partForcesRow.domain false) (Rows.partForcesSpec.post enc Try.prog Try.f4 false true false false) := by
  refine returnsInHanded_of_change_sized (C := Try.checked) own started (by kernel_rfl) Try.func4
    (ChangeSpec.witness6 (enc := enc) (C := Try.checked) false ⟨#[], #[.agg #[.int .i64 0, .slice none 0 0, .int .i64 0], .int .i64 0, .int .i64 0, .slice none 0 0, .slice none 0 0, .agg #[.int .i64 0, .int .i64 0], .bool false], []⟩ 8 (by kernel_rfl) (by kernel_rfl) (by kernel_rfl) (by kernel_rfl)) ?_
  intro W base args ds gs before hval0 hW hcnd hsz0 _
  have hsz : (DataW.weightsEach Try.prog (Try.f4.params.toList ++ Rows.partForcesSpec.plain.varTypes Try.prog) (ds ++ gs)).all (· ≤ reachBytes) = true := hsz0
  have hval : ∀ (j : Nat) t v, Try.f4.params.toList[j]? = some t → args.toList[j]? = some v → Value.okWide Try.prog W .any base t v := fun j t v h1 h2 => hval0 j t v (by simpa using h1) (by simpa using h2)
  have hW' := hW
  obtain ⟨p, q, hA0, hV, rfl, hfz, hnd⟩ := hW
  have hA : DataW.TrodAll enc Try.prog W 0 (fun _ => true) true Try.f4.params.toList args.toList ds p := hA0
  obtain ⟨rfl, rfl⟩ := trodVars_none hV
  have hsz' : (DataW.weightsEach Try.prog Try.f4.params.toList ds).all (· ≤ reachBytes) = true := by
    have e : Try.f4.params.toList ++ Rows.partForcesSpec.plain.varTypes Try.prog = Try.f4.params.toList := by rfl
    rw [e, List.append_nil] at hsz; exact hsz
  rw [Try.params4] at hA hval hsz'
  obtain ⟨svs, hr, hfit⟩ := law_args (by kernel_rfl) hA hval hsz'
  clear hA0 hval0 hsz0 hsz
  have hA2 := hA
  obtain ⟨v0, vs0, d0, ds0, p0, q0, hargs0, rfl, rfl, h0, r0⟩ := trodAll_cons hA
  obtain ⟨v1, vs1, d1, ds1, p1, q1, hargs1, rfl, rfl, h1, r1⟩ := trodAll_cons r0
  obtain ⟨v2, vs2, d2, ds2, p2, q2, hargs2, rfl, rfl, h2, r2⟩ := trodAll_cons r1
  obtain ⟨v3, vs3, d3, ds3, p3, q3, hargs3, rfl, rfl, h3, r3⟩ := trodAll_cons r2
  obtain ⟨v4, vs4, d4, ds4, p4, q4, hargs4, rfl, rfl, h4, r4⟩ := trodAll_cons r3
  obtain ⟨v5, vs5, d5, ds5, p5, q5, hargs5, rfl, rfl, h5, r5⟩ := trodAll_cons r4
  obtain ⟨v6, vs6, d6, ds6, p6, q6, hargs6, rfl, rfl, h6, r6⟩ := trodAll_cons r5
  obtain ⟨hargs7, rfl, rfl⟩ := trodAll_nil r6
  refine (law_run (Go.V.Dec.PartForces.walk svs hfit) hr).mono fun e W' ⟨he, bel⟩ => ?_
  subst he
  have hA3 := law_kept laidOut bel (by kernel_rfl) hA2
  exact ⟨_, rfl, _, _, _, [], _, [], hW', trodAll_mk1 (shut_bool Try.underlying4 _), hA3, rfl, bel.frame _, fun h => by cases h⟩
theorem over : Rows.partForcesRow.holds Try.pinned (OpenSpec.ofChange Rows.partForcesSpec) :=
  OpenClaim.holds_of_wide 4 Try.f4 rfl rfl rfl rfl rfl rfl rfl ⟨rfl, rfl, rfl, rfl, rfl⟩ rfl rfl rfl rfl rfl (by kernel_rfl) Try.func4 (by kernel_rfl)
    (of_decide_eq_true (by kernel_rfl)) (by unfold Func.isWrapper; first | (rw [if_pos (by decide +kernel)]; kernel_rfl) | (rw [if_neg (by decide +kernel)]; exact ⟨rfl, rfl⟩))
    (fun os started H enc _ => lifted os started H enc)
theorem proved : Rows.PartForcesSaid := over
#print axioms proved
end Go.Proofs.Ytmplhamakfnjbaa.partForces
namespace Go.Proofs.Ytmplhamakfnjbaa
/-- The row, under a short name, for the claim. -/
theorem partForces_holds : Rows.PartForcesSaid := partForces.proved
end Go.Proofs.Ytmplhamakfnjbaa
