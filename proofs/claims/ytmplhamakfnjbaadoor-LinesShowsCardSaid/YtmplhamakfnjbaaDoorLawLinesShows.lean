/- The law LinesShows returns true at every input, and its arguments read as they did; no condition. -/
import Derived.Test.YtmplhamakfnjbaaDoorRows
import Derived.WalkKit
import Derived.ProofKit
import Derived.OpenShut
import Derived.ShutString
import Derived.ChangeOld
import Derived.Below
import Derived.SizedLaws
import Derived.Handed
import Derived.LaidMore
import Derived.LaidHandle
import Derived.MakeChecks
import Derived.SevenTiedAt
import Derived.Stop.Joined
import Derived.Test.YtmplhamakfnjbaaDoorCards
import Derived.Test.YtmplhamakfnjbaaDoorTie
import Derived.Test.YtmplhamakfnjbaaDoorVD
import Derived.Test.YtmplhamakfnjbaaDoorG2
import Derived.Test.YtmplhamakfnjbaaDoorQLinesShow
set_option linter.unusedVariables false
set_option linter.unusedSimpArgs false
namespace Go.V.Dec.LinesShows
open Go Go.Proofs Classical
set_option maxRecDepth 100000
set_option maxHeartbeats 4000000
def Label.ok (x : Label) : Prop := IntKind.i64.has x.Level ∧ IntKind.i64.has x.Cats
theorem Label.ok_of {ds : List D} (h0 : fitCs [.int .i64, .int .i64] ds) : ∃ x : Label, ds = Label.enc x ∧ Label.ok x := by
  obtain ⟨d0, ds0, rfl, f0, h1⟩ := fitCs_cons h0
  obtain ⟨v0, rfl, g0⟩ := fitD_int f0
  obtain ⟨d1, ds1, rfl, f1, h2⟩ := fitCs_cons h1
  obtain ⟨v1, rfl, g1⟩ := fitD_int f1
  obtain rfl := fitCs_nil h2
  exact ⟨(Label.mk v0 v1), rfl, ⟨g0, g1⟩⟩
def Config.ok (x : Config) : Prop := IntKind.i64.has x.Sites ∧ (x.Labels.length ≤ maxLen ∧ x.Labels.length * 16 ≤ reachBytes ∧ ∀ y ∈ x.Labels, Label.ok y) ∧ IntKind.i64.has x.Patience
theorem Config.ok_of {ds : List D} (h0 : fitCs [.int .i64, .sl 2 16 [.int .i64, .int .i64], .int .i64] ds) : ∃ x : Config, ds = Config.enc x ∧ Config.ok x := by
  obtain ⟨d0, ds0, rfl, f0, h1⟩ := fitCs_cons h0
  obtain ⟨v0, rfl, g0⟩ := fitD_int f0
  obtain ⟨d1, ds1, rfl, f1, h2⟩ := fitCs_cons h1
  obtain ⟨rw1, rfl, a1, b1, c1⟩ := fitD_sl f1
  obtain ⟨v1, rfl, e1⟩ := rows_of Label.ok_of c1
  obtain ⟨d2, ds2, rfl, f2, h3⟩ := fitCs_cons h2
  obtain ⟨v2, rfl, g2⟩ := fitD_int f2
  obtain rfl := fitCs_nil h3
  exact ⟨(Config.mk v0 v1 v2), rfl, ⟨g0, ⟨by simpa using a1, by simpa using b1, e1⟩, g2⟩⟩
def okI_i64 (x : Int) : Prop := IntKind.i64.has x
theorem okI_i64_of {ds : List D} (h0 : fitCs [.int .i64] ds) : ∃ x : Int, ds = encI x ∧ okI_i64 x := by
  obtain ⟨d0, ds0, rfl, f0, h1⟩ := fitCs_cons h0
  obtain ⟨v0, rfl, g0⟩ := fitD_int f0
  obtain rfl := fitCs_nil h1
  exact ⟨v0, rfl, g0⟩
def Act.ok (x : Act) : Prop := IntKind.i64.has x.Kind ∧ IntKind.i64.has x.Site ∧ IntKind.i64.has x.To ∧ IntKind.i64.has x.Label ∧ IntKind.i64.has x.Pick ∧ (x.Keep.length ≤ maxLen ∧ x.Keep.length * 8 ≤ reachBytes ∧ ∀ y ∈ x.Keep, okI_i64 y) ∧ IntKind.i64.has x.Call.Kind ∧ IntKind.i64.has x.Call.N ∧ IntKind.i64.has x.Call.Label ∧ IntKind.i64.has x.Call.Key ∧ IntKind.i64.has x.Call.Value ∧ x.Line.size ≤ reachBytes
theorem Act.ok_of {ds : List D} (h0 : fitCs [.int .i64, .int .i64, .int .i64, .int .i64, .int .i64, .sl 1 8 [.int .i64], .int .i64, .int .i64, .int .i64, .int .i64, .int .i64, .str] ds) : ∃ x : Act, ds = Act.enc x ∧ Act.ok x := by
  obtain ⟨d0, ds0, rfl, f0, h1⟩ := fitCs_cons h0
  obtain ⟨v0, rfl, g0⟩ := fitD_int f0
  obtain ⟨d1, ds1, rfl, f1, h2⟩ := fitCs_cons h1
  obtain ⟨v1, rfl, g1⟩ := fitD_int f1
  obtain ⟨d2, ds2, rfl, f2, h3⟩ := fitCs_cons h2
  obtain ⟨v2, rfl, g2⟩ := fitD_int f2
  obtain ⟨d3, ds3, rfl, f3, h4⟩ := fitCs_cons h3
  obtain ⟨v3, rfl, g3⟩ := fitD_int f3
  obtain ⟨d4, ds4, rfl, f4, h5⟩ := fitCs_cons h4
  obtain ⟨v4, rfl, g4⟩ := fitD_int f4
  obtain ⟨d5, ds5, rfl, f5, h6⟩ := fitCs_cons h5
  obtain ⟨rw5, rfl, a5, b5, c5⟩ := fitD_sl f5
  obtain ⟨v5, rfl, e5⟩ := rows_of okI_i64_of c5
  obtain ⟨d6, ds6, rfl, f6, h7⟩ := fitCs_cons h6
  obtain ⟨v6, rfl, g6⟩ := fitD_int f6
  obtain ⟨d7, ds7, rfl, f7, h8⟩ := fitCs_cons h7
  obtain ⟨v7, rfl, g7⟩ := fitD_int f7
  obtain ⟨d8, ds8, rfl, f8, h9⟩ := fitCs_cons h8
  obtain ⟨v8, rfl, g8⟩ := fitD_int f8
  obtain ⟨d9, ds9, rfl, f9, h10⟩ := fitCs_cons h9
  obtain ⟨v9, rfl, g9⟩ := fitD_int f9
  obtain ⟨d10, ds10, rfl, f10, h11⟩ := fitCs_cons h10
  obtain ⟨v10, rfl, g10⟩ := fitD_int f10
  obtain ⟨d11, ds11, rfl, f11, h12⟩ := fitCs_cons h11
  obtain ⟨v11, rfl, _, g11⟩ := fitD_str f11
  obtain rfl := fitCs_nil h12
  exact ⟨(Act.mk v0 v1 v2 v3 v4 v5 (Call.mk v6 v7 v8 v9 v10) v11), rfl, ⟨g0, g1, g2, g3, g4, ⟨by simpa using a5, by simpa using b5, e5⟩, g6, g7, g8, g9, g10, g11⟩⟩
def okL_Act_ok (x : List Act) : Prop := (x.length ≤ maxLen ∧ x.length * 120 ≤ reachBytes ∧ ∀ y ∈ x, Act.ok y)
theorem okL_Act_ok_of {ds : List D} (h0 : fitCs [.sl 12 120 [.int .i64, .int .i64, .int .i64, .int .i64, .int .i64, .sl 1 8 [.int .i64], .int .i64, .int .i64, .int .i64, .int .i64, .int .i64, .str]] ds) : ∃ x : List Act, ds = (encL 12 Act.enc) x ∧ okL_Act_ok x := by
  obtain ⟨d0, ds0, rfl, f0, h1⟩ := fitCs_cons h0
  obtain ⟨rw0, rfl, a0, b0, c0⟩ := fitD_sl f0
  obtain ⟨v0, rfl, e0⟩ := rows_of Act.ok_of c0
  obtain rfl := fitCs_nil h1
  exact ⟨v0, rfl, ⟨by simpa using a0, by simpa using b0, e0⟩⟩
noncomputable def GT : Nat → Option (List D) := fun n => if n = 0 then some (tableD (H := Unit) Go.Proofs.YtmplhamakfnjbaaDoor.Rows.laid_reredos_lines_words) else if n = 2 then some (tableD (H := Unit) Go.Proofs.YtmplhamakfnjbaaDoor.Rows.laid_reredos_lines_calls) else if n = 3 then some (tableD (H := Unit) Go.Proofs.YtmplhamakfnjbaaDoor.Rows.laid_internal_strconv_uint64pow10) else none
theorem hG0 : constG GT 0 = .one (.d (.k tab_lines_wordsD)) := by rfl
theorem hG2 : constG GT 2 = .one (.d (.k tab_lines_callsD)) := by rfl
theorem hG3 : constG GT 3 = .one (.d (.k tab_strconv_uint64pow10D)) := by rfl
theorem LinesShows_true (p0 : Config) (p1 : List Act) (h0 : Config.ok p0) (h1 : okL_Act_ok p1) : reredoslaw_LinesShows p0 p1 = some true := by
  obtain ⟨r, e1, e2⟩ := shows_same p0 p1 h0.2.1.1
  simp only [reredoslaw_LinesShows, e1, e2, withK, Option.bind_some]
  rw [if_pos ⟨by have := h1.2.1; unfold reachBytes at this; omega, h1.1⟩]
  simp

theorem walk (svs : List SV) (h : fitArgs Tryd.prog [24, 44] svs) : FnRO Tryd.prog GT 5 svs (fun rs => rs = [.one (.b true)]) := by
  match svs, h with
  | [s0, s1], h =>
    obtain ⟨h0, h1, _⟩ := h
    obtain ⟨ds0, f0, rfl⟩ := arg_agg (by kernel_rfl) (by kernel_rfl) h0
    obtain ⟨p0, rfl, k0⟩ := Config.ok_of f0
    obtain ⟨d1, f1, rfl⟩ := arg_one (by kernel_rfl) (by kernel_rfl) h1
    obtain ⟨p1, e1, k1⟩ := okL_Act_ok_of f1
    obtain rfl := (List.cons.inj e1).1
    exact reredoslaw_LinesShows_ok GT hG0 hG2 hG3 p0 p1 true (LinesShows_true p0 p1 k0 k1)

end Go.V.Dec.LinesShows
namespace Go.Proofs.YtmplhamakfnjbaaDoor.linesShows
open Go.ChangeShapes Go.WideShapes Go.ChangeAt Go.RowKit Go.V
theorem own : ownKnob Tryd.prog.godebug = none := by kernel_rfl
theorem laidOut : laidOutB Tryd.prog = true := by kernel_rfl
theorem gNamed0 : Tryd.prog.globalNamed "reredos/lines.words" = some 0 := by kernel_rfl
theorem gType0 : (Tryd.prog.globals[0]?).map (·.type) = some 78 := by kernel_rfl
theorem uA0 : Tryd.prog.underlying 78 = some (.array 9 9) := by kernel_rfl
theorem bas0 : Basic Tryd.prog 9 := .inr (.inr (by kernel_rfl))
theorem gNamed1 : Tryd.prog.globalNamed "reredos/lines.calls" = some 2 := by kernel_rfl
theorem gType1 : (Tryd.prog.globals[2]?).map (·.type) = some 139 := by kernel_rfl
theorem uA1 : Tryd.prog.underlying 139 = some (.array 6 9) := by kernel_rfl
theorem bas1 : Basic Tryd.prog 9 := .inr (.inr (by kernel_rfl))
theorem gNamed2 : Tryd.prog.globalNamed "internal/strconv.uint64pow10" = some 3 := by kernel_rfl
theorem gType2 : (Tryd.prog.globals[3]?).map (·.type) = some 176 := by kernel_rfl
theorem uA2 : Tryd.prog.underlying 176 = some (.array 20 166) := by kernel_rfl
theorem bas2 : Basic Tryd.prog 166 := .inr (.inl ⟨.u64, by kernel_rfl⟩)
/-- The door's own heap meets the condition. -/
theorem door_met (os : Os) (args : Array Value) : laidMetH Tryd.prog Rows.linesShowsRow.laid ((World.doorLaid Tryd.prog 400 os).forCall (fun _ _ => 0) ⟨#[], args, []⟩).memory :=
  laidMetH_of_parts3 (fuel := 8) (laidMet_of_run' 8 (by kernel_rfl) (by kernel_rfl)) (by kernel_rfl) (by kernel_rfl)
theorem tableOk {W : World} (h : laidMetH Tryd.prog Rows.linesShowsRow.laid W) : GOk Go.V.Dec.LinesShows.GT W.heap (fun b => b < W.heap.size) := by
  have hh : (Rows.linesShowsRow.laid.all fun x => x.2.handleName?.isNone) = true := by rfl
  intro n cells hn
  unfold Go.V.Dec.LinesShows.GT at hn
  by_cases h0 : n = 0
  · subst h0
    simp only [if_true, Nat.reduceEqDiff, if_false, Option.some.injEq] at hn
    subst hn
    exact laid_glob 3 h hh rfl gNamed0 gType0 uA0 bas0 (by kernel_rfl) (by kernel_rfl)
  rw [if_neg h0] at hn
  by_cases h1 : n = 2
  · subst h1
    simp only [if_true, Nat.reduceEqDiff, if_false, Option.some.injEq] at hn
    subst hn
    exact laid_glob 4 h hh rfl gNamed1 gType1 uA1 bas1 (by kernel_rfl) (by kernel_rfl)
  rw [if_neg h1] at hn
  by_cases h2 : n = 3
  · subst h2
    simp only [if_true, Nat.reduceEqDiff, if_false, Option.some.injEq] at hn
    subst hn
    exact laid_glob 2 h hh rfl gNamed2 gType2 uA2 bas2 (by kernel_rfl) (by kernel_rfl)
  rw [if_neg h2] at hn
  cases hn
set_option maxRecDepth 100000 in
theorem lifted (os : Os) (started : os.Started) (H : Type) (enc : TypeId × Value → H) :
    ReturnsInHanded {} Tryd.checked os 5 .any (fun w args => (Rows.linesShowsSpec.pre enc Tryd.prog Tryd.f5 [] false w args ∧ laidMetH Tryd.prog Rows.linesShowsRow.laid w) ∧ sizedMet enc Tryd.prog Tryd.f5 (OpenSpec.ofChange Rows.linesShowsSpec) false w args)
      (Rows.linesShowsSpec.post enc Tryd.prog Tryd.f5 false true false false) := by
  refine returnsInHanded_of_change_and (C := Tryd.checked) (X := fun w _ => laidMetH Tryd.prog Rows.linesShowsRow.laid w) (fun _ _ _ hh h => h.of_heap hh) own started (by kernel_rfl) Tryd.func5
    (ChangeSpec.witness_shaped (enc := enc) (C := Tryd.checked) (os := os) (X := fun w _ => laidMetH Tryd.prog Rows.linesShowsRow.laid w) false (World.doorLaid Tryd.prog 400 os) #[.agg #[.int .i64 0, .slice none 0 0, .int .i64 0], .slice none 0 0] 8 rfl (World.shaped_of_RefB (by kernel_rfl) (by kernel_rfl)) (by kernel_rfl) (by kernel_rfl) (by kernel_rfl) (door_met os _)) ?_
  intro W base args ds gs before hval0 hW hcnd hsz0 hL _
  have hsz : (DataW.weightsEach Tryd.prog (Tryd.f5.params.toList ++ Rows.linesShowsSpec.plain.varTypes Tryd.prog) (ds ++ gs)).all (· ≤ reachBytes) = true := hsz0
  have hval : ∀ (j : Nat) t v, Tryd.f5.params.toList[j]? = some t → args.toList[j]? = some v → Value.okWide Tryd.prog W .any base t v := fun j t v h1 h2 => hval0 j t v (by simpa using h1) (by simpa using h2)
  have hW' := hW
  obtain ⟨p, q, hA0, hV, rfl, hfz, hnd⟩ := hW
  have hA : DataW.TrodAll enc Tryd.prog W 0 (fun _ => true) true Tryd.f5.params.toList args.toList ds p := hA0
  obtain ⟨rfl, rfl⟩ := trodVars_none hV
  have hsz' : (DataW.weightsEach Tryd.prog Tryd.f5.params.toList ds).all (· ≤ reachBytes) = true := by
    have e : Tryd.f5.params.toList ++ Rows.linesShowsSpec.plain.varTypes Tryd.prog = Tryd.f5.params.toList := by rfl
    rw [e, List.append_nil] at hsz; exact hsz
  rw [Tryd.params5] at hA hval hsz'
  obtain ⟨svs, hr, hfit⟩ := law_args (by kernel_rfl) hA hval hsz'
  clear hA0 hval0 hsz0 hsz
  have hA2 := hA
  obtain ⟨v0, vs0, d0, ds0, p0, q0, hargs0, rfl, rfl, h0, r0⟩ := trodAll_cons hA
  obtain ⟨v1, vs1, d1, ds1, p1, q1, hargs1, rfl, rfl, h1, r1⟩ := trodAll_cons r0
  obtain ⟨hargs2, rfl, rfl⟩ := trodAll_nil r1
  refine (law_run_at (Go.V.Dec.LinesShows.walk svs hfit) (tableOk hL) hr).mono fun e W' ⟨he, bel⟩ => ?_
  subst he
  have hA3 := law_kept laidOut bel (by kernel_rfl) hA2
  exact ⟨_, rfl, _, _, _, [], _, [], hW', trodAll_mk1 (shut_bool Tryd.underlying4 _), hA3, rfl, bel.frame _, fun h => by cases h⟩
theorem over : Rows.linesShowsRow.holds Tryd.pinned (OpenSpec.ofChange Rows.linesShowsSpec) :=
  OpenClaim.holds_of_wide 5 Tryd.f5 rfl rfl rfl rfl rfl rfl rfl ⟨rfl, rfl, rfl, rfl, rfl⟩ rfl rfl rfl rfl rfl (by kernel_rfl) Tryd.func5 (by kernel_rfl)
    (of_decide_eq_true (by kernel_rfl)) (by unfold Func.isWrapper; first | (rw [if_pos (by decide +kernel)]; kernel_rfl) | (rw [if_neg (by decide +kernel)]; exact ⟨rfl, rfl⟩))
    (fun os started H enc _ => lifted os started H enc)
theorem proved : Rows.LinesShowsCardSaid :=
  Claim7.holds_tied_plain_at .later [] [.data, .data, .data, .widerDeep, .widerDeep] true (true, "d0712c8cf43e9adeb14238861a9f13cd3ccf4ed783f8a30d90fb9da660531b64") false
    over (fun _ h => by cases h) (by kernel_rfl) (fun _ h => by cases h) linesShows_row_tie rfl ⟨rfl, rfl⟩ (by kernel_rfl) rfl
    (fun f fn hf hfn => by
      obtain rfl : f = 5 := Option.some.inj ((show Tryd.prog.funcNamed "reredos/reredoslaw.LinesShows" = some 5 by kernel_rfl).symm.trans hf) |>.symm
      obtain rfl : fn = Tryd.f5 := (Option.some.inj (Tryd.func5.symm.trans hfn)).symm
      exact ⟨by kernel_rfl, fun j t ht => by
        rw [Tryd.params5] at ht
        have hm : t ∈ [24, 44] := by simpa using Array.mem_of_getElem? ht
        have hall : ([24, 44].all fun u => !Tryd.prog.wantsStandIn u) = true := by kernel_rfl
        exact (show Tryd.prog.wantsStandIn t = false by simpa using List.all_eq_true.1 hall t hm)⟩)
    (by kernel_rfl)
#print axioms proved
end Go.Proofs.YtmplhamakfnjbaaDoor.linesShows
namespace Go.Proofs.YtmplhamakfnjbaaDoor
/-- The card, under a short name, for the claim. -/
theorem linesShows_holds : Rows.LinesShowsCardSaid := linesShows.proved
end Go.Proofs.YtmplhamakfnjbaaDoor
