/- The law LinesReads returns true at every input, and its arguments read as they did; no condition. -/
import Derived.Test.YtjpkfnblnimdoaaDoorRows
import Derived.WalkKit
import Derived.ProofKit
import Derived.OpenShut
import Derived.ShutString
import Derived.ChangeOld
import Derived.Below
import Derived.SizedLaws
import Derived.Handed
import Derived.LaidMore
import Derived.LaidHandle
import Derived.MakeChecks
import Derived.SevenTiedAt
import Derived.Stop.Joined
import Derived.Deep.DeepHandedRow
import Derived.Deep.DeepWitnessRowRef
import Derived.Test.YtjpkfnblnimdoaaDoorCards
import Derived.Test.YtjpkfnblnimdoaaDoorTie
import Derived.Test.YtjpkfnblnimdoaaDoorVD
import Derived.Test.YtjpkfnblnimdoaaDoorG2
import Derived.Test.YtjpkfnblnimdoaaDoorQLineRead
set_option linter.unusedVariables false
set_option linter.unusedSimpArgs false
namespace Go.V.Dec.LinesReads
open Go Go.Proofs Classical
set_option maxRecDepth 100000
set_option maxHeartbeats 4000000
def Label.ok (x : Label) : Prop := IntKind.i64.has x.Level ∧ IntKind.i64.has x.Cats
theorem Label.ok_of {ds : List D} (h0 : fitCs [.int .i64, .int .i64] ds) : ∃ x : Label, ds = Label.enc x ∧ Label.ok x := by
  obtain ⟨d0, ds0, rfl, f0, h1⟩ := fitCs_cons h0
  obtain ⟨v0, rfl, g0⟩ := fitD_int f0
  obtain ⟨d1, ds1, rfl, f1, h2⟩ := fitCs_cons h1
  obtain ⟨v1, rfl, g1⟩ := fitD_int f1
  obtain rfl := fitCs_nil h2
  exact ⟨(Label.mk v0 v1), rfl, ⟨g0, g1⟩⟩
def Config.ok (x : Config) : Prop := IntKind.i64.has x.Sites ∧ (x.Labels.length ≤ maxLen ∧ x.Labels.length * 16 ≤ reachBytes ∧ ∀ y ∈ x.Labels, Label.ok y) ∧ IntKind.i64.has x.Patience
theorem Config.ok_of {ds : List D} (h0 : fitCs [.int .i64, .sl 2 16 [.int .i64, .int .i64], .int .i64] ds) : ∃ x : Config, ds = Config.enc x ∧ Config.ok x := by
  obtain ⟨d0, ds0, rfl, f0, h1⟩ := fitCs_cons h0
  obtain ⟨v0, rfl, g0⟩ := fitD_int f0
  obtain ⟨d1, ds1, rfl, f1, h2⟩ := fitCs_cons h1
  obtain ⟨rw1, rfl, a1, b1, c1⟩ := fitD_sl f1
  obtain ⟨v1, rfl, e1⟩ := rows_of Label.ok_of c1
  obtain ⟨d2, ds2, rfl, f2, h3⟩ := fitCs_cons h2
  obtain ⟨v2, rfl, g2⟩ := fitD_int f2
  obtain rfl := fitCs_nil h3
  exact ⟨(Config.mk v0 v1 v2), rfl, ⟨g0, ⟨by simpa using a1, by simpa using b1, e1⟩, g2⟩⟩
def okS (x : ByteArray) : Prop := x.size ≤ reachBytes
theorem okS_of {ds : List D} (h0 : fitCs [.str] ds) : ∃ x : ByteArray, ds = encS x ∧ okS x := by
  obtain ⟨d0, ds0, rfl, f0, h1⟩ := fitCs_cons h0
  obtain ⟨v0, rfl, _, g0⟩ := fitD_str f0
  obtain rfl := fitCs_nil h1
  exact ⟨v0, rfl, g0⟩
noncomputable def GT (e2 : Int) (e3 : Value) (e4 : Value) : Nat → Option (List D) := fun n => if n = 2 then some ([.i .i64 e2]) else if n = 3 then some ([.v e3]) else if n = 4 then some ([.v e4]) else if n = 0 then some (tableD (H := Unit) Go.Proofs.YtjpkfnblnimdoaaDoor.Rows.laid_reredos_lines_words) else if n = 1 then some (tableD (H := Unit) Go.Proofs.YtjpkfnblnimdoaaDoor.Rows.laid_reredos_lines_calls) else if n = 7 then some (tableD (H := Unit) Go.Proofs.YtjpkfnblnimdoaaDoor.Rows.laid_internal_strconv_uint64pow10) else none
theorem hG0 (e2 : Int) (e3 : Value) (e4 : Value) : constG (GT e2 e3 e4) 0 = .one (.d (.k tab_lines_wordsD)) := by rfl
theorem hG1 (e2 : Int) (e3 : Value) (e4 : Value) : constG (GT e2 e3 e4) 1 = .one (.d (.k tab_lines_callsD)) := by rfl
theorem hG2 (e2 : Int) (e3 : Value) (e4 : Value) : VarI (GT e2 e3 e4) 2 := ⟨e2, rfl⟩
theorem hG3 (e2 : Int) (e3 : Value) (e4 : Value) (h : e3 = .nilIface ∨ ∃ te pe, e3 = .iface te pe) : VarE (GT e2 e3 e4) 3 := ⟨e3, h, rfl⟩
theorem hG4 (e2 : Int) (e3 : Value) (e4 : Value) (h : e4 = .nilIface ∨ ∃ te pe, e4 = .iface te pe) : VarE (GT e2 e3 e4) 4 := ⟨e4, h, rfl⟩
theorem hG7 (e2 : Int) (e3 : Value) (e4 : Value) : constG (GT e2 e3 e4) 7 = .one (.d (.k tab_strconv_uint64pow10D)) := by rfl
theorem LinesReads_true (p0 : Config) (p1 : ByteArray) (h0 : Config.ok p0) (h1 : okS p1)
    (hb : nSVs [.agg (p0.enc.map .d), .one (.d (.s p1))] ≤ 1048576) : reredoslaw_LinesReads p0 p1 = some true := by
  simp only [nSVs, nSV, nSCs, nD] at hb
  obtain ⟨e, r, e2⟩ := read_same p0 h0.2.1.1 p1 (by omega)
  simp only [reredoslaw_LinesReads, e, e2, withK, Option.bind_some]
  simp [sameActsL]

theorem walk (e2 : Int) (e3 : Value) (e4 : Value) (y3 : e3 = .nilIface ∨ ∃ te pe, e3 = .iface te pe) (y4 : e4 = .nilIface ∨ ∃ te pe, e4 = .iface te pe) (svs : List SV) (h : fitArgs Tryd.prog [32, 9] svs) (hb : nSVs svs ≤ 1048576) : FnRO Tryd.prog (GT e2 e3 e4) 4 svs (fun rs => rs = [.one (.b true)]) := by
  match svs, h, hb with
  | [s0, s1], h, hb =>
    obtain ⟨h0, h1, _⟩ := h
    obtain ⟨ds0, f0, rfl⟩ := arg_agg (by kernel_rfl) (by kernel_rfl) h0
    obtain ⟨p0, rfl, k0⟩ := Config.ok_of f0
    obtain ⟨d1, f1, rfl⟩ := arg_one (by kernel_rfl) (by kernel_rfl) h1
    obtain ⟨p1, e1, k1⟩ := okS_of f1
    obtain rfl := (List.cons.inj e1).1
    exact reredoslaw_LinesReads_ok (GT e2 e3 e4) (hG0 e2 e3 e4) (hG1 e2 e3 e4) (hG2 e2 e3 e4) (hG3 e2 e3 e4 y3) (hG4 e2 e3 e4 y4) (hG7 e2 e3 e4) p0 p1 true (LinesReads_true p0 p1 k0 k1 hb)

end Go.V.Dec.LinesReads
namespace Go.Proofs.YtjpkfnblnimdoaaDoor.linesReads
open Go.ChangeShapes Go.WideShapes Go.ChangeAt Go.RowKit Go.V
theorem own : ownKnob Tryd.prog.godebug = none := by kernel_rfl
theorem laidOut : laidOutB Tryd.prog = true := by kernel_rfl
theorem gNamed0 : Tryd.prog.globalNamed "reredos/lines.words" = some 0 := by kernel_rfl
theorem gType0 : (Tryd.prog.globals[0]?).map (·.type) = some 73 := by kernel_rfl
theorem uA0 : Tryd.prog.underlying 73 = some (.array 9 9) := by kernel_rfl
theorem bas0 : Basic Tryd.prog 9 := .inr (.inr (by kernel_rfl))
theorem gNamed1 : Tryd.prog.globalNamed "reredos/lines.calls" = some 1 := by kernel_rfl
theorem gType1 : (Tryd.prog.globals[1]?).map (·.type) = some 91 := by kernel_rfl
theorem uA1 : Tryd.prog.underlying 91 = some (.array 6 9) := by kernel_rfl
theorem bas1 : Basic Tryd.prog 9 := .inr (.inr (by kernel_rfl))
theorem gNamed2 : Tryd.prog.globalNamed "internal/strconv.uint64pow10" = some 7 := by kernel_rfl
theorem gType2 : (Tryd.prog.globals[7]?).map (·.type) = some 135 := by kernel_rfl
theorem uA2 : Tryd.prog.underlying 135 = some (.array 20 110) := by kernel_rfl
theorem bas2 : Basic Tryd.prog 110 := .inr (.inl ⟨.u64, by kernel_rfl⟩)
/-- The cells of a table that is pinned. -/
def litV : DataW Unit → Value
  | .lit (.int k n) => .int k n
  | _ => .nilIface
def pinV : DataW Unit → Array Value
  | .agg ps => (ps.map litV).toArray
  | _ => #[]
/-- A world for the witness: the door's own, the pinned tables as they are told. -/
noncomputable def doorW (os : Os) : World :=
  { World.doorLaid Tryd.prog 4000 os with heap := (World.doorLaid Tryd.prog 4000 os).heap.modify 5 fun | .cells _ t fr => .cells (pinV Rows.laid_unicode_utf8_first) t fr | o => o }
/-- The door's own heap meets the condition. -/
theorem door_met (os : Os) (args : Array Value) : laidMetH Tryd.prog Rows.linesReadsUptoRow.laid ((doorW os).forCall (fun _ _ => 0) ⟨#[], args, []⟩).memory :=
  laidMetH_of_parts3 (fuel := 8) (laidMet_of_run' 8 (by kernel_rfl) (by kernel_rfl)) (by kernel_rfl) (by kernel_rfl)
theorem tableOk {W : World} (e2 : Int) (e3 : Value) (e4 : Value) (q2 : GlobR W.heap (fun b => b < W.heap.size) 2 [.i .i64 e2]) (q3 : GlobR W.heap (fun b => b < W.heap.size) 3 [.v e3]) (q4 : GlobR W.heap (fun b => b < W.heap.size) 4 [.v e4]) (h : laidMetH Tryd.prog Rows.linesReadsUptoRow.laid W) : GOk (Go.V.Dec.LinesReads.GT e2 e3 e4) W.heap (fun b => b < W.heap.size) := by
  have hh : (Rows.linesReadsUptoRow.laid.all fun x => x.2.handleName?.isNone) = true := by kernel_rfl
  intro n cells hn
  unfold Go.V.Dec.LinesReads.GT at hn
  by_cases k2 : n = 2
  · subst k2
    simp only [if_true, Nat.reduceEqDiff, if_false, Option.some.injEq] at hn
    subst hn
    exact q2
  rw [if_neg k2] at hn
  by_cases k3 : n = 3
  · subst k3
    simp only [if_true, Nat.reduceEqDiff, if_false, Option.some.injEq] at hn
    subst hn
    exact q3
  rw [if_neg k3] at hn
  by_cases k4 : n = 4
  · subst k4
    simp only [if_true, Nat.reduceEqDiff, if_false, Option.some.injEq] at hn
    subst hn
    exact q4
  rw [if_neg k4] at hn
  by_cases h0 : n = 0
  · subst h0
    simp only [if_true, Nat.reduceEqDiff, if_false, Option.some.injEq] at hn
    subst hn
    exact laid_glob 6 h hh rfl gNamed0 gType0 uA0 bas0 (by kernel_rfl) (by kernel_rfl)
  rw [if_neg h0] at hn
  by_cases h1 : n = 1
  · subst h1
    simp only [if_true, Nat.reduceEqDiff, if_false, Option.some.injEq] at hn
    subst hn
    exact laid_glob 7 h hh rfl gNamed1 gType1 uA1 bas1 (by kernel_rfl) (by kernel_rfl)
  rw [if_neg h1] at hn
  by_cases h2 : n = 7
  · subst h2
    simp only [if_true, Nat.reduceEqDiff, if_false, Option.some.injEq] at hn
    subst hn
    exact laid_glob 2 h hh rfl gNamed2 gType2 uA2 bas2 (by kernel_rfl) (by kernel_rfl)
  rw [if_neg h2] at hn
  cases hn
theorem bulkOk {H : Type} : BulkOk (H := H) Rows.uptoBulk Rows.uptoBulkAll := by
  refine ⟨fun d => ?_, by simp [Rows.uptoBulkAll], fun _ _ => by simp [Rows.uptoBulkAll], fun _ _ => by simp only [Rows.uptoBulk]; omega, fun _ => by simp only [Rows.uptoBulk]; omega, fun _ => by simp [Rows.uptoBulk]⟩
  cases d with
  | lit l => cases l <;> simp [Rows.uptoBulk]
  | nil => simp [Rows.uptoBulk]
  | ptr d => simp [Rows.uptoBulk]
  | slice elems spare => simp [Rows.uptoBulk]
  | agg parts => simp [Rows.uptoBulk]
  | iface t d => simp [Rows.uptoBulk]
  | map entries => simp [Rows.uptoBulk]
  | held h => simp [Rows.uptoBulk]
set_option maxRecDepth 100000 in
theorem contract (H : Type) (enc : TypeId × Value → H) (W : World) (base : Nat) (args : Array Value) (ds gs : List (DataW H)) (before : List MemPlace)
    (hval0 : ∀ (j : Nat) t v, Tryd.f4.params[j]? = some t → args[j]? = some v → Value.okWide Tryd.prog W .any base t v)
    (hW : DataW.Whole enc Tryd.prog Tryd.f4.params.toList Rows.linesReadsSpec.vars false W args.toList ds gs before)
    (hk : Rows.uptoSmall H (ds ++ gs) = true) (hsz0 : (DataW.weightsEach Tryd.prog (Tryd.f4.params.toList ++ Rows.linesReadsSpec.plain.varTypes Tryd.prog) (ds ++ gs)).all (· ≤ reachBytes) = true) (hL : laidMetH Tryd.prog Rows.linesReadsUptoRow.laid W) (hsh : W.ShapedOpen Tryd.prog) :
    Calls Tryd.prog 4 args W fun e W' => ∃ v, e = .returned v ∧ Rows.linesReadsSpec.post enc Tryd.prog Tryd.f4 false true false false W args v W' := by
  have hsz : (DataW.weightsEach Tryd.prog (Tryd.f4.params.toList ++ Rows.linesReadsSpec.plain.varTypes Tryd.prog) (ds ++ gs)).all (· ≤ reachBytes) = true := hsz0
  have hval : ∀ (j : Nat) t v, Tryd.f4.params.toList[j]? = some t → args.toList[j]? = some v → Value.okWide Tryd.prog W .any base t v := fun j t v h1 h2 => hval0 j t v (by simpa using h1) (by simpa using h2)
  have hW' := hW
  obtain ⟨p, q, hA0, hV, rfl, hfz, hnd⟩ := hW
  have hA : DataW.TrodAll enc Tryd.prog W 0 (fun _ => true) true Tryd.f4.params.toList args.toList ds p := hA0
  obtain ⟨rfl, rfl⟩ := trodVars_none hV
  have hsz' : (DataW.weightsEach Tryd.prog Tryd.f4.params.toList ds).all (· ≤ reachBytes) = true := by
    have e : Tryd.f4.params.toList ++ Rows.linesReadsSpec.plain.varTypes Tryd.prog = Tryd.f4.params.toList := by rfl
    rw [e, List.append_nil] at hsz; exact hsz
  rw [Tryd.params4] at hA hval hsz'
  obtain ⟨svs, hr, hfit, hbk⟩ := law_args_b (by kernel_rfl) hA hval hsz'
  have hbulk : nSVs svs ≤ 1048576 := by
    rw [List.append_nil] at hk
    exact Nat.le_trans (hbk _ _ bulkOk) (of_decide_eq_true hk)
  clear hA0 hval0 hsz0 hsz hk hbk
  have hA2 := hA
  obtain ⟨v0, vs0, d0, ds0, p0, q0, hargs0, rfl, rfl, h0, r0⟩ := trodAll_cons hA
  obtain ⟨v1, vs1, d1, ds1, p1, q1, hargs1, rfl, rfl, h1, r1⟩ := trodAll_cons r0
  obtain ⟨hargs2, rfl, rfl⟩ := trodAll_nil r1
  obtain ⟨e2, q2⟩ := shaped_int (g := 2) (t := 3) (zero := #[.int .i64 0]) hsh (of_decide_eq_true (by kernel_rfl)) (by kernel_rfl) rfl (by kernel_rfl) (by kernel_rfl) Tryd.underlying3
  obtain ⟨e3, y3, q3⟩ := laid_iface 5 hL (by kernel_rfl) rfl (show Tryd.prog.globalNamed "strconv.ErrSyntax" = some 3 by kernel_rfl) (show (Tryd.prog.globals[3]?).map (·.type) = some 62 by kernel_rfl) Tryd.underlying62
  obtain ⟨e4, y4, q4⟩ := laid_iface 4 hL (by kernel_rfl) rfl (show Tryd.prog.globalNamed "strconv.ErrRange" = some 4 by kernel_rfl) (show (Tryd.prog.globals[4]?).map (·.type) = some 62 by kernel_rfl) Tryd.underlying62
  refine (law_run_at (Go.V.Dec.LinesReads.walk e2 e3 e4 y3 y4 svs hfit hbulk) (tableOk e2 e3 e4 q2 q3 q4 hL) hr).mono fun e W' ⟨he, bel⟩ => ?_
  subst he
  have hA3 := law_kept laidOut bel (by kernel_rfl) hA2
  exact ⟨_, rfl, _, _, _, [], _, [], hW', trodAll_mk1 (shut_bool Tryd.underlying4 _), hA3, rfl, bel.frame _, fun h => by cases h⟩
theorem reads (os : Os) {H : Type} (enc : TypeId × Value → H) : ∃ places, DataW.whole enc Tryd.prog ((doorW os).forCall (fun _ _ => 0) ⟨#[], #[.agg #[.int .i64 0, .slice none 0 0, .int .i64 0], .string ⟨#[]⟩], []⟩).memory Tryd.f4.params.toList Rows.linesReadsSpec.vars false #[Value.agg #[.int .i64 0, .slice none 0 0, .int .i64 0], Value.string ⟨#[]⟩].toList 8 = some ([.agg [.lit (.int .i64 0), .nil, .lit (.int .i64 0)], .lit (.string [])], [], places) :=
  ⟨[], by kernel_rfl⟩
set_option maxRecDepth 100000 in
theorem lifted (os : Os) (started : os.Started) (H : Type) (enc : TypeId × Value → H) (F : Stop.Interp) :
    ReturnsInHanded {} Tryd.checked os 4 .any ((Rows.OpenSpec.upto Rows.linesReadsSpec).preRow enc Tryd.prog Tryd.f4 Rows.linesReadsUptoRow.domain false Rows.linesReadsUptoRow.laid) (((Rows.OpenSpec.upto Rows.linesReadsSpec).at F).post enc Tryd.prog Tryd.f4 false true false false) := by
  obtain ⟨places, hx⟩ := reads os enc
  refine returnsInHanded_of_row (C := Tryd.checked) (s := Rows.OpenSpec.upto Rows.linesReadsSpec) own started (by kernel_rfl) Tryd.func4
    (witness_row_atRef (enc := enc) (C := Tryd.checked) false (doorW os) #[.agg #[.int .i64 0, .slice none 0 0, .int .i64 0], .string ⟨#[]⟩] rfl (by kernel_rfl) (by kernel_rfl) (by kernel_rfl)
      (OpenSpec.preRow_of_cond 8 hx (by kernel_rfl) (fun k hk => by cases hk; kernel_rfl) (by kernel_rfl) (door_met os _))) ?_
  intro W base args ds gs before hval hW _ hcond hsz hL hsh _
  exact contract H enc W base args ds gs before hval hW (hcond _ rfl) hsz hL hsh
theorem over : Rows.LinesReadsUptoSaid :=
  OpenClaim.holds_of_cond 4 Tryd.f4 rfl rfl rfl rfl rfl rfl rfl ⟨rfl, rfl, rfl, rfl, rfl⟩ rfl rfl rfl rfl rfl (by kernel_rfl) Tryd.func4 (by kernel_rfl)
    (of_decide_eq_true (by kernel_rfl)) (by unfold Func.isWrapper; first | (rw [if_pos (by decide +kernel)]; kernel_rfl) | (rw [if_neg (by decide +kernel)]; exact ⟨rfl, rfl⟩))
    (fun os started H enc _ F => by rw [OpenClaim.pre_eq_preRow]; exact lifted os started H enc F)
theorem proved : Rows.LinesReadsUptoCardSaid :=
  Claim7.holds_tied_plain_at .later [] [.data, .data, .data, .data, .sentinel, .sentinel, .widerDeep, .widerDeep, .pinned] true (true, "7d88d3b91be14ea8c46f57e15166355ccf5aa14e8a07973500008f7c9494f0c0") true
    over (fun _ h => by cases h) (by kernel_rfl) (fun _ h => by cases h) linesReadsUpto_row_tie rfl ⟨rfl, rfl⟩ (by kernel_rfl) rfl
    (fun f fn hf hfn => by
      obtain rfl : f = 4 := Option.some.inj ((show Tryd.prog.funcNamed "reredos/reredoslaw.LinesReads" = some 4 by kernel_rfl).symm.trans hf) |>.symm
      obtain rfl : fn = Tryd.f4 := (Option.some.inj (Tryd.func4.symm.trans hfn)).symm
      exact ⟨by kernel_rfl, fun j t ht => by
        rw [Tryd.params4] at ht
        have hm : t ∈ [32, 9] := by simpa using Array.mem_of_getElem? ht
        have hall : ([32, 9].all fun u => !Tryd.prog.wantsStandIn u) = true := by kernel_rfl
        exact (show Tryd.prog.wantsStandIn t = false by simpa using List.all_eq_true.1 hall t hm)⟩)
    (by kernel_rfl)
#print axioms proved
end Go.Proofs.YtjpkfnblnimdoaaDoor.linesReads
namespace Go.Proofs.YtjpkfnblnimdoaaDoor
/-- The card, under a short name, for the claim. -/
theorem linesReadsUpto_holds : Rows.LinesReadsUptoCardSaid := linesReads.proved
end Go.Proofs.YtjpkfnblnimdoaaDoor
