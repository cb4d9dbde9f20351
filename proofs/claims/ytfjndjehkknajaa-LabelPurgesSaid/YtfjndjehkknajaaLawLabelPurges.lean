/- The law LabelPurges returns true at every input, and its arguments read as they did; no condition. -/
import Derived.Test.YtfjndjehkknajaaRows
import Derived.WalkKit
import Derived.ProofKit
import Derived.OpenShut
import Derived.ShutString
import Derived.ChangeOld
import Derived.Below
import Derived.SizedLaws
import Derived.Test.YtfjndjehkknajaaG2
import Derived.Test.YtfjndjehkknajaaQPurge
set_option linter.unusedVariables false
set_option linter.unusedSimpArgs false
namespace Go.V.Dec.LabelPurges
open Go Go.Proofs Classical
set_option maxRecDepth 100000
set_option maxHeartbeats 4000000
def Label.ok (x : Label) : Prop := IntKind.i64.has x.Level ∧ IntKind.i64.has x.Cats
theorem Label.ok_of {ds : List D} (h0 : fitCs [.int .i64, .int .i64] ds) : ∃ x : Label, ds = Label.enc x ∧ Label.ok x := by
  obtain ⟨d0, ds0, rfl, f0, h1⟩ := fitCs_cons h0
  obtain ⟨v0, rfl, g0⟩ := fitD_int f0
  obtain ⟨d1, ds1, rfl, f1, h2⟩ := fitCs_cons h1
  obtain ⟨v1, rfl, g1⟩ := fitD_int f1
  obtain rfl := fitCs_nil h2
  exact ⟨(Label.mk v0 v1), rfl, ⟨g0, g1⟩⟩
def Config.ok (x : Config) : Prop := IntKind.i64.has x.Sites ∧ (x.Labels.length ≤ maxLen ∧ x.Labels.length * 16 ≤ reachBytes ∧ ∀ y ∈ x.Labels, Label.ok y) ∧ IntKind.i64.has x.Patience
theorem Config.ok_of {ds : List D} (h0 : fitCs [.int .i64, .sl 2 16 [.int .i64, .int .i64], .int .i64] ds) : ∃ x : Config, ds = Config.enc x ∧ Config.ok x := by
  obtain ⟨d0, ds0, rfl, f0, h1⟩ := fitCs_cons h0
  obtain ⟨v0, rfl, g0⟩ := fitD_int f0
  obtain ⟨d1, ds1, rfl, f1, h2⟩ := fitCs_cons h1
  obtain ⟨rw1, rfl, a1, b1, c1⟩ := fitD_sl f1
  obtain ⟨v1, rfl, e1⟩ := rows_of Label.ok_of c1
  obtain ⟨d2, ds2, rfl, f2, h3⟩ := fitCs_cons h2
  obtain ⟨v2, rfl, g2⟩ := fitD_int f2
  obtain rfl := fitCs_nil h3
  exact ⟨(Config.mk v0 v1 v2), rfl, ⟨g0, ⟨by simpa using a1, by simpa using b1, e1⟩, g2⟩⟩
def okI_i64 (x : Int) : Prop := IntKind.i64.has x
theorem okI_i64_of {ds : List D} (h0 : fitCs [.int .i64] ds) : ∃ x : Int, ds = encI x ∧ okI_i64 x := by
  obtain ⟨d0, ds0, rfl, f0, h1⟩ := fitCs_cons h0
  obtain ⟨v0, rfl, g0⟩ := fitD_int f0
  obtain rfl := fitCs_nil h1
  exact ⟨v0, rfl, g0⟩
def Act.ok (x : Act) : Prop := IntKind.i64.has x.Kind ∧ IntKind.i64.has x.Site ∧ IntKind.i64.has x.To ∧ IntKind.i64.has x.Label ∧ IntKind.i64.has x.Pick ∧ (x.Keep.length ≤ maxLen ∧ x.Keep.length * 8 ≤ reachBytes ∧ ∀ y ∈ x.Keep, okI_i64 y) ∧ IntKind.i64.has x.Call.Kind ∧ IntKind.i64.has x.Call.N ∧ IntKind.i64.has x.Call.Label ∧ IntKind.i64.has x.Call.Key ∧ IntKind.i64.has x.Call.Value ∧ x.Line.size ≤ reachBytes
theorem Act.ok_of {ds : List D} (h0 : fitCs [.int .i64, .int .i64, .int .i64, .int .i64, .int .i64, .sl 1 8 [.int .i64], .int .i64, .int .i64, .int .i64, .int .i64, .int .i64, .str] ds) : ∃ x : Act, ds = Act.enc x ∧ Act.ok x := by
  obtain ⟨d0, ds0, rfl, f0, h1⟩ := fitCs_cons h0
  obtain ⟨v0, rfl, g0⟩ := fitD_int f0
  obtain ⟨d1, ds1, rfl, f1, h2⟩ := fitCs_cons h1
  obtain ⟨v1, rfl, g1⟩ := fitD_int f1
  obtain ⟨d2, ds2, rfl, f2, h3⟩ := fitCs_cons h2
  obtain ⟨v2, rfl, g2⟩ := fitD_int f2
  obtain ⟨d3, ds3, rfl, f3, h4⟩ := fitCs_cons h3
  obtain ⟨v3, rfl, g3⟩ := fitD_int f3
  obtain ⟨d4, ds4, rfl, f4, h5⟩ := fitCs_cons h4
  obtain ⟨v4, rfl, g4⟩ := fitD_int f4
  obtain ⟨d5, ds5, rfl, f5, h6⟩ := fitCs_cons h5
  obtain ⟨rw5, rfl, a5, b5, c5⟩ := fitD_sl f5
  obtain ⟨v5, rfl, e5⟩ := rows_of okI_i64_of c5
  obtain ⟨d6, ds6, rfl, f6, h7⟩ := fitCs_cons h6
  obtain ⟨v6, rfl, g6⟩ := fitD_int f6
  obtain ⟨d7, ds7, rfl, f7, h8⟩ := fitCs_cons h7
  obtain ⟨v7, rfl, g7⟩ := fitD_int f7
  obtain ⟨d8, ds8, rfl, f8, h9⟩ := fitCs_cons h8
  obtain ⟨v8, rfl, g8⟩ := fitD_int f8
  obtain ⟨d9, ds9, rfl, f9, h10⟩ := fitCs_cons h9
  obtain ⟨v9, rfl, g9⟩ := fitD_int f9
  obtain ⟨d10, ds10, rfl, f10, h11⟩ := fitCs_cons h10
  obtain ⟨v10, rfl, g10⟩ := fitD_int f10
  obtain ⟨d11, ds11, rfl, f11, h12⟩ := fitCs_cons h11
  obtain ⟨v11, rfl, _, g11⟩ := fitD_str f11
  obtain rfl := fitCs_nil h12
  exact ⟨(Act.mk v0 v1 v2 v3 v4 v5 (Call.mk v6 v7 v8 v9 v10) v11), rfl, ⟨g0, g1, g2, g3, g4, ⟨by simpa using a5, by simpa using b5, e5⟩, g6, g7, g8, g9, g10, g11⟩⟩
def okL_Act_ok (x : List Act) : Prop := (x.length ≤ maxLen ∧ x.length * 120 ≤ reachBytes ∧ ∀ y ∈ x, Act.ok y)
theorem okL_Act_ok_of {ds : List D} (h0 : fitCs [.sl 12 120 [.int .i64, .int .i64, .int .i64, .int .i64, .int .i64, .sl 1 8 [.int .i64], .int .i64, .int .i64, .int .i64, .int .i64, .int .i64, .str]] ds) : ∃ x : List Act, ds = (encL 12 Act.enc) x ∧ okL_Act_ok x := by
  obtain ⟨d0, ds0, rfl, f0, h1⟩ := fitCs_cons h0
  obtain ⟨rw0, rfl, a0, b0, c0⟩ := fitD_sl f0
  obtain ⟨v0, rfl, e0⟩ := rows_of Act.ok_of c0
  obtain rfl := fitCs_nil h1
  exact ⟨v0, rfl, ⟨by simpa using a0, by simpa using b0, e0⟩⟩
theorem LabelPurges_true (p0 : Config) (p1 : Int) (p2 : List Act) (h0 : Config.ok p0) (_ : okI_i64 p1) (h2 : okL_Act_ok p2) : reredoslaw_LabelPurges p0 p1 p2 = some true := by
  have hf : fits 120 p2.length := fits_of' h2.1 h2.2.1
  obtain ⟨r, e1, e2⟩ := purge_same p0 h0.2.1.1 p1 p2 hf (fun x hx => fits_of' (h2.2.2 x hx).2.2.2.2.2.1.1 (h2.2.2 x hx).2.2.2.2.2.1.2.1)
  simp only [reredoslaw_LabelPurges, if_pos hf, e1, e2, withK, Option.bind_some, sameActs_refl]
  simp

theorem walk (svs : List SV) (h : fitArgs Try.prog [42, 3, 56] svs) : FnRO Try.prog (fun _ => none) 14 svs (fun rs => rs = [.one (.b true)]) := by
  match svs, h with
  | [s0, s1, s2], h =>
    obtain ⟨h0, h1, h2, _⟩ := h
    obtain ⟨ds0, f0, rfl⟩ := arg_agg (by kernel_rfl) (by kernel_rfl) h0
    obtain ⟨p0, rfl, k0⟩ := Config.ok_of f0
    obtain ⟨d1, f1, rfl⟩ := arg_one (by kernel_rfl) (by kernel_rfl) h1
    obtain ⟨p1, e1, k1⟩ := okI_i64_of f1
    obtain rfl := (List.cons.inj e1).1
    obtain ⟨d2, f2, rfl⟩ := arg_one (by kernel_rfl) (by kernel_rfl) h2
    obtain ⟨p2, e2, k2⟩ := okL_Act_ok_of f2
    obtain rfl := (List.cons.inj e2).1
    exact reredoslaw_LabelPurges_ok _ p0 p1 p2 true (LabelPurges_true p0 p1 p2 k0 k1 k2)

end Go.V.Dec.LabelPurges
namespace Go.Proofs.Ytfjndjehkknajaa.labelPurges
open Go.ChangeShapes Go.WideShapes Go.ChangeAt Go.RowKit Go.V
theorem own : ownKnob Try.prog.godebug = none := by kernel_rfl
theorem laidOut : laidOutB Try.prog = true := by kernel_rfl
set_option maxRecDepth 100000 in
theorem lifted (os : Os) (started : os.Started) (H : Type) (enc : TypeId × Value → H) :
    ReturnsInHanded {} Try.checked os 14 .any (Rows.labelPurgesSpec.pre6 enc Try.prog Try.f14 Rows.labelPurgesRow.domain false) (Rows.labelPurgesSpec.post enc Try.prog Try.f14 false true false false) := by
  refine returnsInHanded_of_change_sized (C := Try.checked) own started (by kernel_rfl) Try.func14
    (ChangeSpec.witness6 (enc := enc) (C := Try.checked) false ⟨#[], #[.agg #[.int .i64 0, .slice none 0 0, .int .i64 0], .int .i64 0, .slice none 0 0], []⟩ 8 (by kernel_rfl) (by kernel_rfl) (by kernel_rfl) (by kernel_rfl)) ?_
  intro W base args ds gs before hval0 hW hcnd hsz0 _
  have hsz : (DataW.weightsEach Try.prog (Try.f14.params.toList ++ Rows.labelPurgesSpec.plain.varTypes Try.prog) (ds ++ gs)).all (· ≤ reachBytes) = true := hsz0
  have hval : ∀ (j : Nat) t v, Try.f14.params.toList[j]? = some t → args.toList[j]? = some v → Value.okWide Try.prog W .any base t v := fun j t v h1 h2 => hval0 j t v (by simpa using h1) (by simpa using h2)
  have hW' := hW
  obtain ⟨p, q, hA0, hV, rfl, hfz, hnd⟩ := hW
  have hA : DataW.TrodAll enc Try.prog W 0 (fun _ => true) true Try.f14.params.toList args.toList ds p := hA0
  obtain ⟨rfl, rfl⟩ := trodVars_none hV
  have hsz' : (DataW.weightsEach Try.prog Try.f14.params.toList ds).all (· ≤ reachBytes) = true := by
    have e : Try.f14.params.toList ++ Rows.labelPurgesSpec.plain.varTypes Try.prog = Try.f14.params.toList := by rfl
    rw [e, List.append_nil] at hsz; exact hsz
  rw [Try.params14] at hA hval hsz'
  obtain ⟨svs, hr, hfit⟩ := law_args (by kernel_rfl) hA hval hsz'
  clear hA0 hval0 hsz0 hsz
  have hA2 := hA
  obtain ⟨v0, vs0, d0, ds0, p0, q0, hargs0, rfl, rfl, h0, r0⟩ := trodAll_cons hA
  obtain ⟨v1, vs1, d1, ds1, p1, q1, hargs1, rfl, rfl, h1, r1⟩ := trodAll_cons r0
  obtain ⟨v2, vs2, d2, ds2, p2, q2, hargs2, rfl, rfl, h2, r2⟩ := trodAll_cons r1
  obtain ⟨hargs3, rfl, rfl⟩ := trodAll_nil r2
  refine (law_run (Go.V.Dec.LabelPurges.walk svs hfit) hr).mono fun e W' ⟨he, bel⟩ => ?_
  subst he
  have hA3 := law_kept laidOut bel (by kernel_rfl) hA2
  exact ⟨_, rfl, _, _, _, [], _, [], hW', trodAll_mk1 (shut_bool Try.underlying4 _), hA3, rfl, bel.frame _, fun h => by cases h⟩
theorem over : Rows.labelPurgesRow.holds Try.pinned (OpenSpec.ofChange Rows.labelPurgesSpec) :=
  OpenClaim.holds_of_wide 14 Try.f14 rfl rfl rfl rfl rfl rfl rfl ⟨rfl, rfl, rfl, rfl, rfl⟩ rfl rfl rfl rfl rfl (by kernel_rfl) Try.func14 (by kernel_rfl)
    (of_decide_eq_true (by kernel_rfl)) (by unfold Func.isWrapper; first | (rw [if_pos (by decide +kernel)]; kernel_rfl) | (rw [if_neg (by decide +kernel)]; exact ⟨rfl, rfl⟩))
    (fun os started H enc _ => lifted os started H enc)
theorem proved : Rows.LabelPurgesSaid := over
#print axioms proved
end Go.Proofs.Ytfjndjehkknajaa.labelPurges
namespace Go.Proofs.Ytfjndjehkknajaa
/-- The row, under a short name, for the claim. -/
theorem labelPurges_holds : Rows.LabelPurgesSaid := labelPurges.proved
end Go.Proofs.Ytfjndjehkknajaa
