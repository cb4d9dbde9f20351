/- The law TapeCrashes returns true at every input, and its arguments read as they did; no condition. -/
import Derived.Test.YtfjndjehkknajaaRows
import Derived.WalkKit
import Derived.ProofKit
import Derived.OpenShut
import Derived.ShutString
import Derived.ChangeOld
import Derived.Below
import Derived.SizedLaws
import Derived.Test.YtfjndjehkknajaaF1
import Derived.Test.YtfjndjehkknajaaPTape
set_option linter.unusedVariables false
set_option linter.unusedSimpArgs false
namespace Go.V.Dec.TapeCrashes
open Go Go.Proofs Classical
set_option maxRecDepth 100000
def okI_u8 (x : Int) : Prop := IntKind.u8.has x
theorem okI_u8_of {ds : List D} (h0 : fitCs [.int .u8] ds) : ∃ x : Int, ds = encU8 x ∧ okI_u8 x := by
  obtain ⟨d0, ds0, rfl, f0, h1⟩ := fitCs_cons h0
  obtain ⟨v0, rfl, g0⟩ := fitD_int f0
  obtain rfl := fitCs_nil h1
  exact ⟨v0, rfl, g0⟩
def Tape.ok (x : Tape) : Prop := (x.Data.length ≤ maxLen ∧ x.Data.length * 1 ≤ reachBytes ∧ ∀ y ∈ x.Data, okI_u8 y) ∧ IntKind.i64.has x.Synced
theorem Tape.ok_of {ds : List D} (h0 : fitCs [.sl 1 1 [.int .u8], .int .i64] ds) : ∃ x : Tape, ds = Tape.enc x ∧ Tape.ok x := by
  obtain ⟨d0, ds0, rfl, f0, h1⟩ := fitCs_cons h0
  obtain ⟨rw0, rfl, a0, b0, c0⟩ := fitD_sl f0
  obtain ⟨v0, rfl, e0⟩ := rows_of okI_u8_of c0
  obtain ⟨d1, ds1, rfl, f1, h2⟩ := fitCs_cons h1
  obtain ⟨v1, rfl, g1⟩ := fitD_int f1
  obtain rfl := fitCs_nil h2
  exact ⟨(Tape.mk v0 v1), rfl, ⟨⟨by simpa using a0, by simpa using b0, e0⟩, g1⟩⟩
def okI_i64 (x : Int) : Prop := IntKind.i64.has x
theorem okI_i64_of {ds : List D} (h0 : fitCs [.int .i64] ds) : ∃ x : Int, ds = encI x ∧ okI_i64 x := by
  obtain ⟨d0, ds0, rfl, f0, h1⟩ := fitCs_cons h0
  obtain ⟨v0, rfl, g0⟩ := fitD_int f0
  obtain rfl := fitCs_nil h1
  exact ⟨v0, rfl, g0⟩
theorem cut_eq (xs : List Int) (n : Int) (h0 : 0 ≤ n) (h1 : n ≤ xs.length) : (if 0 ≤ n then (if n ≤ (xs.length : Int) then (if decide (0 = n) = true then some (Tape.mk [] n, (0 : Int)) else some (Tape.mk (xs.take n.toNat) n, 0)) else none) else none) = some (Tape.mk (xs.take n.toNat) n, 0) := by
  rw [if_pos h0, if_pos h1]
  by_cases h : 0 = n
  · subst h; rfl
  · rw [if_neg (by simpa using h)]
theorem TapeCrashes_true (p0 : Tape) (p1 : Int) (h : Tape.ok p0) (h' : okI_i64 p1) : reredoslaw_TapeCrashes p0 p1 = some true := by
  have hf : fits 1 p0.Data.length := fits_of h.1.1 h.1.2.1
  have hr : -9223372036854775808 ≤ p1 ∧ p1 ≤ 9223372036854775807 := by
    have := h'; unfold okI_i64 IntKind.has at this; simp [IntKind.min, IntKind.max, IntKind.signed, IntKind.bits] at this; exact this
  simp only [reredoslaw_TapeCrashes, tapes_eq p0 hf, tape_Crash, reredosref_TapeCrashed, open_eq, TapeMay_eq, same_eq, withK, Option.bind_some]
  by_cases hm : TapeMay p0
  case neg => simp [hm]
  obtain ⟨m1, m2, m3⟩ := hm
  have hm : TapeMay p0 := ⟨m1, m2, m3⟩
  have w1 : IntKind.i64.wrap ((p0.Data.length : Int) - p0.Synced) = (p0.Data.length : Int) - p0.Synced := wrap_in (by omega) (by omega)
  rw [if_pos hm, decide_eq_true hm]
  simp only [Bool.not_true, Bool.false_eq_true, if_false]
  by_cases hk : p1 < 0
  · simp [hk]
  simp only [decide_eq_false hk, Bool.false_eq_true, if_false, w1]
  have key : ∀ n : Nat, n ≤ p0.Data.length → reredosref_joined [p0.Data.take n] = some (p0.Data.take n) := fun n hn => joined1 _ (by
    rw [List.length_take, Nat.min_eq_left hn]; exact fits_small (by omega))
  by_cases hc : (p0.Data.length : Int) - p0.Synced < p1
  · have hc2 : ¬ p1 < (p0.Data.length : Int) - p0.Synced := by omega
    rw [if_pos hc, show p0.Synced + ((p0.Data.length : Int) - p0.Synced) = (p0.Data.length : Int) from by omega, wrap_in (n := (p0.Data.length : Int)) (by omega) (by omega)]
    rw [cut_eq _ _ (by omega) (Int.le_refl _), if_neg (c := decide (p1 < (p0.Data.length : Int) - p0.Synced) = true) (by simpa using hc2), if_pos (c := (0 : Int) ≤ (p0.Data.length : Int)) (by omega), if_pos (Int.le_refl _), key _ (by omega)]
    simp
  · rw [if_neg hc]
    have w2 : IntKind.i64.wrap (p0.Synced + p1) = p0.Synced + p1 := wrap_in (by omega) (by omega)
    rw [w2, cut_eq _ _ (by omega) (by omega)]
    by_cases hc2 : p1 < (p0.Data.length : Int) - p0.Synced
    · rw [if_pos (c := decide (p1 < (p0.Data.length : Int) - p0.Synced) = true) (by simpa using hc2), if_pos (c := 0 ≤ p0.Synced + p1) (by omega), if_pos (c := p0.Synced + p1 ≤ (p0.Data.length : Int)) (by omega), key _ (by omega)]
      simp
    · have e : p0.Synced + p1 = (p0.Data.length : Int) := by omega
      rw [e, if_neg (c := decide (p1 < (p0.Data.length : Int) - p0.Synced) = true) (by simpa using hc2), if_pos (c := (0 : Int) ≤ (p0.Data.length : Int)) (by omega), if_pos (Int.le_refl _), key _ (by omega)]
      simp

theorem walk (svs : List SV) (h : fitArgs Try.prog [32, 3] svs) : FnRO Try.prog (fun _ => none) 10 svs (fun rs => rs = [.one (.b true)]) := by
  match svs, h with
  | [s0, s1], h =>
    obtain ⟨h0, h1, _⟩ := h
    obtain ⟨ds0, f0, rfl⟩ := arg_agg (by kernel_rfl) (by kernel_rfl) h0
    obtain ⟨p0, rfl, k0⟩ := Tape.ok_of f0
    obtain ⟨d1, f1, rfl⟩ := arg_one (by kernel_rfl) (by kernel_rfl) h1
    obtain ⟨p1, e1, k1⟩ := okI_i64_of f1
    obtain rfl := (List.cons.inj e1).1
    exact reredoslaw_TapeCrashes_ok _ p0 p1 true (TapeCrashes_true p0 p1 k0 k1)

end Go.V.Dec.TapeCrashes
namespace Go.Proofs.Ytfjndjehkknajaa.tapeCrashes
open Go.ChangeShapes Go.WideShapes Go.ChangeAt Go.RowKit Go.V
theorem own : ownKnob Try.prog.godebug = none := by kernel_rfl
theorem laidOut : laidOutB Try.prog = true := by kernel_rfl
set_option maxRecDepth 100000 in
theorem lifted (os : Os) (started : os.Started) (H : Type) (enc : TypeId × Value → H) :
    ReturnsInHanded {} Try.checked os 10 .any (Rows.tapeCrashesSpec.pre6 enc Try.prog Try.f10 Rows.tapeCrashesRow.domain false) (Rows.tapeCrashesSpec.post enc Try.prog Try.f10 false true false false) := by
  refine returnsInHanded_of_change_sized (C := Try.checked) own started (by kernel_rfl) Try.func10
    (ChangeSpec.witness6 (enc := enc) (C := Try.checked) false ⟨#[], #[.agg #[.slice none 0 0, .int .i64 0], .int .i64 0], []⟩ 8 (by kernel_rfl) (by kernel_rfl) (by kernel_rfl) (by kernel_rfl)) ?_
  intro W base args ds gs before hval0 hW hcnd hsz0 _
  have hsz : (DataW.weightsEach Try.prog (Try.f10.params.toList ++ Rows.tapeCrashesSpec.plain.varTypes Try.prog) (ds ++ gs)).all (· ≤ reachBytes) = true := hsz0
  have hval : ∀ (j : Nat) t v, Try.f10.params.toList[j]? = some t → args.toList[j]? = some v → Value.okWide Try.prog W .any base t v := fun j t v h1 h2 => hval0 j t v (by simpa using h1) (by simpa using h2)
  have hW' := hW
  obtain ⟨p, q, hA0, hV, rfl, hfz, hnd⟩ := hW
  have hA : DataW.TrodAll enc Try.prog W 0 (fun _ => true) true Try.f10.params.toList args.toList ds p := hA0
  obtain ⟨rfl, rfl⟩ := trodVars_none hV
  have hsz' : (DataW.weightsEach Try.prog Try.f10.params.toList ds).all (· ≤ reachBytes) = true := by
    have e : Try.f10.params.toList ++ Rows.tapeCrashesSpec.plain.varTypes Try.prog = Try.f10.params.toList := by rfl
    rw [e, List.append_nil] at hsz; exact hsz
  rw [Try.params10] at hA hval hsz'
  obtain ⟨svs, hr, hfit⟩ := law_args (by kernel_rfl) hA hval hsz'
  clear hA0 hval0 hsz0 hsz
  have hA2 := hA
  obtain ⟨v0, vs0, d0, ds0, p0, q0, hargs0, rfl, rfl, h0, r0⟩ := trodAll_cons hA
  obtain ⟨v1, vs1, d1, ds1, p1, q1, hargs1, rfl, rfl, h1, r1⟩ := trodAll_cons r0
  obtain ⟨hargs2, rfl, rfl⟩ := trodAll_nil r1
  refine (law_run (Go.V.Dec.TapeCrashes.walk svs hfit) hr).mono fun e W' ⟨he, bel⟩ => ?_
  subst he
  have hA3 := law_kept laidOut bel (by kernel_rfl) hA2
  exact ⟨_, rfl, _, _, _, [], _, [], hW', trodAll_mk1 (shut_bool Try.underlying4 _), hA3, rfl, bel.frame _, fun h => by cases h⟩
theorem over : Rows.tapeCrashesRow.holds Try.pinned (OpenSpec.ofChange Rows.tapeCrashesSpec) :=
  OpenClaim.holds_of_wide 10 Try.f10 rfl rfl rfl rfl rfl rfl rfl ⟨rfl, rfl, rfl, rfl, rfl⟩ rfl rfl rfl rfl rfl (by kernel_rfl) Try.func10 (by kernel_rfl)
    (of_decide_eq_true (by kernel_rfl)) (by unfold Func.isWrapper; first | (rw [if_pos (by decide +kernel)]; kernel_rfl) | (rw [if_neg (by decide +kernel)]; exact ⟨rfl, rfl⟩))
    (fun os started H enc _ => lifted os started H enc)
theorem proved : Rows.TapeCrashesSaid := over
#print axioms proved
end Go.Proofs.Ytfjndjehkknajaa.tapeCrashes
namespace Go.Proofs.Ytfjndjehkknajaa
/-- The row, under a short name, for the claim. -/
theorem tapeCrashes_holds : Rows.TapeCrashesSaid := tapeCrashes.proved
end Go.Proofs.Ytfjndjehkknajaa
