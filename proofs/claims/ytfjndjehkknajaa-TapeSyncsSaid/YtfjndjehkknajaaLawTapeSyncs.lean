/- The law TapeSyncs returns true at every input, and its arguments read as they did; no condition. -/
import Derived.Test.YtfjndjehkknajaaRows
import Derived.WalkKit
import Derived.ProofKit
import Derived.OpenShut
import Derived.ShutString
import Derived.ChangeOld
import Derived.Below
import Derived.SizedLaws
import Derived.Test.YtfjndjehkknajaaF1
import Derived.Test.YtfjndjehkknajaaPTape
set_option linter.unusedVariables false
set_option linter.unusedSimpArgs false
namespace Go.V.Dec.TapeSyncs
open Go Go.Proofs Classical
set_option maxRecDepth 100000
def okI_u8 (x : Int) : Prop := IntKind.u8.has x
theorem okI_u8_of {ds : List D} (h0 : fitCs [.int .u8] ds) : ∃ x : Int, ds = encU8 x ∧ okI_u8 x := by
  obtain ⟨d0, ds0, rfl, f0, h1⟩ := fitCs_cons h0
  obtain ⟨v0, rfl, g0⟩ := fitD_int f0
  obtain rfl := fitCs_nil h1
  exact ⟨v0, rfl, g0⟩
def Tape.ok (x : Tape) : Prop := (x.Data.length ≤ maxLen ∧ x.Data.length * 1 ≤ reachBytes ∧ ∀ y ∈ x.Data, okI_u8 y) ∧ IntKind.i64.has x.Synced
theorem Tape.ok_of {ds : List D} (h0 : fitCs [.sl 1 1 [.int .u8], .int .i64] ds) : ∃ x : Tape, ds = Tape.enc x ∧ Tape.ok x := by
  obtain ⟨d0, ds0, rfl, f0, h1⟩ := fitCs_cons h0
  obtain ⟨rw0, rfl, a0, b0, c0⟩ := fitD_sl f0
  obtain ⟨v0, rfl, e0⟩ := rows_of okI_u8_of c0
  obtain ⟨d1, ds1, rfl, f1, h2⟩ := fitCs_cons h1
  obtain ⟨v1, rfl, g1⟩ := fitD_int f1
  obtain rfl := fitCs_nil h2
  exact ⟨(Tape.mk v0 v1), rfl, ⟨⟨by simpa using a0, by simpa using b0, e0⟩, g1⟩⟩
theorem TapeSyncs_true (p0 : Tape) (h : Tape.ok p0) : reredoslaw_TapeSyncs p0 = some true := by
  have hf : fits 1 p0.Data.length := fits_of h.1.1 h.1.2.1
  simp only [reredoslaw_TapeSyncs, tapes_eq p0 hf, tape_Sync, reredosref_TapeSynced, open_eq, TapeMay_eq, joined1 _ hf, same_eq, withK, Option.bind_some]
  by_cases hm : TapeMay p0
  · simp [hm]
  · simp [hm]

theorem walk (svs : List SV) (h : fitArgs Try.prog [32] svs) : FnRO Try.prog (fun _ => none) 8 svs (fun rs => rs = [.one (.b true)]) := by
  match svs, h with
  | [s0], h =>
    obtain ⟨h0, _⟩ := h
    obtain ⟨ds0, f0, rfl⟩ := arg_agg (by kernel_rfl) (by kernel_rfl) h0
    obtain ⟨p0, rfl, k0⟩ := Tape.ok_of f0
    exact reredoslaw_TapeSyncs_ok _ p0 true (TapeSyncs_true p0 k0)

end Go.V.Dec.TapeSyncs
namespace Go.Proofs.Ytfjndjehkknajaa.tapeSyncs
open Go.ChangeShapes Go.WideShapes Go.ChangeAt Go.RowKit Go.V
theorem own : ownKnob Try.prog.godebug = none := by kernel_rfl
theorem laidOut : laidOutB Try.prog = true := by kernel_rfl
set_option maxRecDepth 100000 in
theorem lifted (os : Os) (started : os.Started) (H : Type) (enc : TypeId × Value → H) :
    ReturnsInHanded {} Try.checked os 8 .any (Rows.tapeSyncsSpec.pre6 enc Try.prog Try.f8 Rows.tapeSyncsRow.domain false) (Rows.tapeSyncsSpec.post enc Try.prog Try.f8 false true false false) := by
  refine returnsInHanded_of_change_sized (C := Try.checked) own started (by kernel_rfl) Try.func8
    (ChangeSpec.witness6 (enc := enc) (C := Try.checked) false ⟨#[], #[.agg #[.slice none 0 0, .int .i64 0]], []⟩ 8 (by kernel_rfl) (by kernel_rfl) (by kernel_rfl) (by kernel_rfl)) ?_
  intro W base args ds gs before hval0 hW hcnd hsz0 _
  have hsz : (DataW.weightsEach Try.prog (Try.f8.params.toList ++ Rows.tapeSyncsSpec.plain.varTypes Try.prog) (ds ++ gs)).all (· ≤ reachBytes) = true := hsz0
  have hval : ∀ (j : Nat) t v, Try.f8.params.toList[j]? = some t → args.toList[j]? = some v → Value.okWide Try.prog W .any base t v := fun j t v h1 h2 => hval0 j t v (by simpa using h1) (by simpa using h2)
  have hW' := hW
  obtain ⟨p, q, hA0, hV, rfl, hfz, hnd⟩ := hW
  have hA : DataW.TrodAll enc Try.prog W 0 (fun _ => true) true Try.f8.params.toList args.toList ds p := hA0
  obtain ⟨rfl, rfl⟩ := trodVars_none hV
  have hsz' : (DataW.weightsEach Try.prog Try.f8.params.toList ds).all (· ≤ reachBytes) = true := by
    have e : Try.f8.params.toList ++ Rows.tapeSyncsSpec.plain.varTypes Try.prog = Try.f8.params.toList := by rfl
    rw [e, List.append_nil] at hsz; exact hsz
  rw [Try.params8] at hA hval hsz'
  obtain ⟨svs, hr, hfit⟩ := law_args (by kernel_rfl) hA hval hsz'
  clear hA0 hval0 hsz0 hsz
  have hA2 := hA
  obtain ⟨v0, vs0, d0, ds0, p0, q0, hargs0, rfl, rfl, h0, r0⟩ := trodAll_cons hA
  obtain ⟨hargs1, rfl, rfl⟩ := trodAll_nil r0
  refine (law_run (Go.V.Dec.TapeSyncs.walk svs hfit) hr).mono fun e W' ⟨he, bel⟩ => ?_
  subst he
  have hA3 := law_kept laidOut bel (by kernel_rfl) hA2
  exact ⟨_, rfl, _, _, _, [], _, [], hW', trodAll_mk1 (shut_bool Try.underlying4 _), hA3, rfl, bel.frame _, fun h => by cases h⟩
theorem over : Rows.tapeSyncsRow.holds Try.pinned (OpenSpec.ofChange Rows.tapeSyncsSpec) :=
  OpenClaim.holds_of_wide 8 Try.f8 rfl rfl rfl rfl rfl rfl rfl ⟨rfl, rfl, rfl, rfl, rfl⟩ rfl rfl rfl rfl rfl (by kernel_rfl) Try.func8 (by kernel_rfl)
    (of_decide_eq_true (by kernel_rfl)) (by unfold Func.isWrapper; first | (rw [if_pos (by decide +kernel)]; kernel_rfl) | (rw [if_neg (by decide +kernel)]; exact ⟨rfl, rfl⟩))
    (fun os started H enc _ => lifted os started H enc)
theorem proved : Rows.TapeSyncsSaid := over
#print axioms proved
end Go.Proofs.Ytfjndjehkknajaa.tapeSyncs
namespace Go.Proofs.Ytfjndjehkknajaa
/-- The row, under a short name, for the claim. -/
theorem tapeSyncs_holds : Rows.TapeSyncsSaid := tapeSyncs.proved
end Go.Proofs.Ytfjndjehkknajaa
