/- The law ConsoleReads returns true at every input, and its arguments read as they did; no condition. -/
import Derived.Test.YtjpkfnblnimdoaaDoorRows
import Derived.WalkKit
import Derived.ProofKit
import Derived.OpenShut
import Derived.ShutString
import Derived.ChangeOld
import Derived.Below
import Derived.SizedLaws
import Derived.Handed
import Derived.LaidMore
import Derived.LaidHandle
import Derived.MakeChecks
import Derived.SevenTiedAt
import Derived.Stop.Joined
import Derived.Deep.DeepHandedRow
import Derived.Deep.DeepWitnessRowRef
import Derived.Test.YtjpkfnblnimdoaaDoorCards
import Derived.Test.YtjpkfnblnimdoaaDoorTie
import Derived.Test.YtjpkfnblnimdoaaDoorVD
import Derived.Test.YtjpkfnblnimdoaaDoorF1
import Derived.Test.YtjpkfnblnimdoaaDoorPConsoleRead
set_option linter.unusedVariables false
set_option linter.unusedSimpArgs false
namespace Go.V.Dec.ConsoleReads
open Go Go.Proofs Classical
set_option maxRecDepth 100000
set_option maxHeartbeats 4000000
def okS (x : ByteArray) : Prop := x.size ≤ reachBytes
theorem okS_of {ds : List D} (h0 : fitCs [.str] ds) : ∃ x : ByteArray, ds = encS x ∧ okS x := by
  obtain ⟨d0, ds0, rfl, f0, h1⟩ := fitCs_cons h0
  obtain ⟨v0, rfl, _, g0⟩ := fitD_str f0
  obtain rfl := fitCs_nil h1
  exact ⟨v0, rfl, g0⟩
noncomputable def GT (e2 : Int) (e3 : Value) (e4 : Value) : Nat → Option (List D) := fun n => if n = 2 then some ([.i .i64 e2]) else if n = 3 then some ([.v e3]) else if n = 4 then some ([.v e4]) else if n = 7 then some (tableD (H := Unit) Go.Proofs.YtjpkfnblnimdoaaDoor.Rows.laid_internal_strconv_uint64pow10) else none
theorem hG2 (e2 : Int) (e3 : Value) (e4 : Value) : VarI (GT e2 e3 e4) 2 := ⟨e2, rfl⟩
theorem hG3 (e2 : Int) (e3 : Value) (e4 : Value) (h : e3 = .nilIface ∨ ∃ te pe, e3 = .iface te pe) : VarE (GT e2 e3 e4) 3 := ⟨e3, h, rfl⟩
theorem hG4 (e2 : Int) (e3 : Value) (e4 : Value) (h : e4 = .nilIface ∨ ∃ te pe, e4 = .iface te pe) : VarE (GT e2 e3 e4) 4 := ⟨e4, h, rfl⟩
theorem hG7 (e2 : Int) (e3 : Value) (e4 : Value) : constG (GT e2 e3 e4) 7 = .one (.d (.k tab_strconv_uint64pow10D)) := by rfl
theorem ConsoleReads_true (p0 : ByteArray) (h0 : okS p0) : reredoslaw_ConsoleReads p0 = some true := by
  obtain ⟨r, e1, e2⟩ := reads_same (p := p0)
  simp only [reredoslaw_ConsoleReads, e1, e2, withK, Option.bind_some]
  simp

theorem walk (e2 : Int) (e3 : Value) (e4 : Value) (y3 : e3 = .nilIface ∨ ∃ te pe, e3 = .iface te pe) (y4 : e4 = .nilIface ∨ ∃ te pe, e4 = .iface te pe) (svs : List SV) (h : fitArgs Tryd.prog [9] svs) : FnRO Tryd.prog (GT e2 e3 e4) 3 svs (fun rs => rs = [.one (.b true)]) := by
  match svs, h with
  | [s0], h =>
    obtain ⟨h0, _⟩ := h
    obtain ⟨d0, f0, rfl⟩ := arg_one (by kernel_rfl) (by kernel_rfl) h0
    obtain ⟨p0, e0, k0⟩ := okS_of f0
    obtain rfl := (List.cons.inj e0).1
    exact reredoslaw_ConsoleReads_ok (GT e2 e3 e4) (hG2 e2 e3 e4) (hG3 e2 e3 e4 y3) (hG4 e2 e3 e4 y4) (hG7 e2 e3 e4) p0 true (ConsoleReads_true p0 k0)

end Go.V.Dec.ConsoleReads
namespace Go.Proofs.YtjpkfnblnimdoaaDoor.consoleReads
open Go.ChangeShapes Go.WideShapes Go.ChangeAt Go.RowKit Go.V
theorem own : ownKnob Tryd.prog.godebug = none := by kernel_rfl
theorem laidOut : laidOutB Tryd.prog = true := by kernel_rfl
theorem gNamed0 : Tryd.prog.globalNamed "internal/strconv.uint64pow10" = some 7 := by kernel_rfl
theorem gType0 : (Tryd.prog.globals[7]?).map (·.type) = some 135 := by kernel_rfl
theorem uA0 : Tryd.prog.underlying 135 = some (.array 20 110) := by kernel_rfl
theorem bas0 : Basic Tryd.prog 110 := .inr (.inl ⟨.u64, by kernel_rfl⟩)
/-- The cells of a table that is pinned. -/
def litV : DataW Unit → Value
  | .lit (.int k n) => .int k n
  | _ => .nilIface
def pinV : DataW Unit → Array Value
  | .agg ps => (ps.map litV).toArray
  | _ => #[]
/-- A world for the witness: the door's own, the pinned tables as they are told. -/
noncomputable def doorW (os : Os) : World :=
  { World.doorLaid Tryd.prog 4000 os with heap := (World.doorLaid Tryd.prog 4000 os).heap.modify 5 fun | .cells _ t fr => .cells (pinV Rows.laid_unicode_utf8_first) t fr | o => o }
/-- The door's own heap meets the condition. -/
theorem door_met (os : Os) (args : Array Value) : laidMetH Tryd.prog Rows.consoleReadsRow.laid ((doorW os).forCall (fun _ _ => 0) ⟨#[], args, []⟩).memory :=
  laidMetH_of_parts3 (fuel := 8) (laidMet_of_run' 8 (by kernel_rfl) (by kernel_rfl)) (by kernel_rfl) (by kernel_rfl)
theorem tableOk {W : World} (e2 : Int) (e3 : Value) (e4 : Value) (q2 : GlobR W.heap (fun b => b < W.heap.size) 2 [.i .i64 e2]) (q3 : GlobR W.heap (fun b => b < W.heap.size) 3 [.v e3]) (q4 : GlobR W.heap (fun b => b < W.heap.size) 4 [.v e4]) (h : laidMetH Tryd.prog Rows.consoleReadsRow.laid W) : GOk (Go.V.Dec.ConsoleReads.GT e2 e3 e4) W.heap (fun b => b < W.heap.size) := by
  have hh : (Rows.consoleReadsRow.laid.all fun x => x.2.handleName?.isNone) = true := by kernel_rfl
  intro n cells hn
  unfold Go.V.Dec.ConsoleReads.GT at hn
  by_cases k2 : n = 2
  · subst k2
    simp only [if_true, Nat.reduceEqDiff, if_false, Option.some.injEq] at hn
    subst hn
    exact q2
  rw [if_neg k2] at hn
  by_cases k3 : n = 3
  · subst k3
    simp only [if_true, Nat.reduceEqDiff, if_false, Option.some.injEq] at hn
    subst hn
    exact q3
  rw [if_neg k3] at hn
  by_cases k4 : n = 4
  · subst k4
    simp only [if_true, Nat.reduceEqDiff, if_false, Option.some.injEq] at hn
    subst hn
    exact q4
  rw [if_neg k4] at hn
  by_cases h0 : n = 7
  · subst h0
    simp only [if_true, Nat.reduceEqDiff, if_false, Option.some.injEq] at hn
    subst hn
    exact laid_glob 2 h hh rfl gNamed0 gType0 uA0 bas0 (by kernel_rfl) (by kernel_rfl)
  rw [if_neg h0] at hn
  cases hn
set_option maxRecDepth 100000 in
theorem contract (H : Type) (enc : TypeId × Value → H) (W : World) (base : Nat) (args : Array Value) (ds gs : List (DataW H)) (before : List MemPlace)
    (hval0 : ∀ (j : Nat) t v, Tryd.f3.params[j]? = some t → args[j]? = some v → Value.okWide Tryd.prog W .any base t v)
    (hW : DataW.Whole enc Tryd.prog Tryd.f3.params.toList Rows.consoleReadsSpec.vars false W args.toList ds gs before)
    (hsz0 : (DataW.weightsEach Tryd.prog (Tryd.f3.params.toList ++ Rows.consoleReadsSpec.plain.varTypes Tryd.prog) (ds ++ gs)).all (· ≤ reachBytes) = true) (hL : laidMetH Tryd.prog Rows.consoleReadsRow.laid W) (hsh : W.ShapedOpen Tryd.prog) :
    Calls Tryd.prog 3 args W fun e W' => ∃ v, e = .returned v ∧ Rows.consoleReadsSpec.post enc Tryd.prog Tryd.f3 false true false false W args v W' := by
  have hsz : (DataW.weightsEach Tryd.prog (Tryd.f3.params.toList ++ Rows.consoleReadsSpec.plain.varTypes Tryd.prog) (ds ++ gs)).all (· ≤ reachBytes) = true := hsz0
  have hval : ∀ (j : Nat) t v, Tryd.f3.params.toList[j]? = some t → args.toList[j]? = some v → Value.okWide Tryd.prog W .any base t v := fun j t v h1 h2 => hval0 j t v (by simpa using h1) (by simpa using h2)
  have hW' := hW
  obtain ⟨p, q, hA0, hV, rfl, hfz, hnd⟩ := hW
  have hA : DataW.TrodAll enc Tryd.prog W 0 (fun _ => true) true Tryd.f3.params.toList args.toList ds p := hA0
  obtain ⟨rfl, rfl⟩ := trodVars_none hV
  have hsz' : (DataW.weightsEach Tryd.prog Tryd.f3.params.toList ds).all (· ≤ reachBytes) = true := by
    have e : Tryd.f3.params.toList ++ Rows.consoleReadsSpec.plain.varTypes Tryd.prog = Tryd.f3.params.toList := by rfl
    rw [e, List.append_nil] at hsz; exact hsz
  rw [Tryd.params3] at hA hval hsz'
  obtain ⟨svs, hr, hfit⟩ := law_args (by kernel_rfl) hA hval hsz'
  clear hA0 hval0 hsz0 hsz
  have hA2 := hA
  obtain ⟨v0, vs0, d0, ds0, p0, q0, hargs0, rfl, rfl, h0, r0⟩ := trodAll_cons hA
  obtain ⟨hargs1, rfl, rfl⟩ := trodAll_nil r0
  obtain ⟨e2, q2⟩ := shaped_int (g := 2) (t := 3) (zero := #[.int .i64 0]) hsh (of_decide_eq_true (by kernel_rfl)) (by kernel_rfl) rfl (by kernel_rfl) (by kernel_rfl) Tryd.underlying3
  obtain ⟨e3, y3, q3⟩ := laid_iface 5 hL (by kernel_rfl) rfl (show Tryd.prog.globalNamed "strconv.ErrSyntax" = some 3 by kernel_rfl) (show (Tryd.prog.globals[3]?).map (·.type) = some 62 by kernel_rfl) Tryd.underlying62
  obtain ⟨e4, y4, q4⟩ := laid_iface 4 hL (by kernel_rfl) rfl (show Tryd.prog.globalNamed "strconv.ErrRange" = some 4 by kernel_rfl) (show (Tryd.prog.globals[4]?).map (·.type) = some 62 by kernel_rfl) Tryd.underlying62
  refine (law_run_at (Go.V.Dec.ConsoleReads.walk e2 e3 e4 y3 y4 svs hfit) (tableOk e2 e3 e4 q2 q3 q4 hL) hr).mono fun e W' ⟨he, bel⟩ => ?_
  subst he
  have hA3 := law_kept laidOut bel (by kernel_rfl) hA2
  exact ⟨_, rfl, _, _, _, [], _, [], hW', trodAll_mk1 (shut_bool Tryd.underlying4 _), hA3, rfl, bel.frame _, fun h => by cases h⟩
theorem reads (os : Os) {H : Type} (enc : TypeId × Value → H) : ∃ places, DataW.whole enc Tryd.prog ((doorW os).forCall (fun _ _ => 0) ⟨#[], #[.string ⟨#[]⟩], []⟩).memory Tryd.f3.params.toList Rows.consoleReadsSpec.vars false #[Value.string ⟨#[]⟩].toList 8 = some ([.lit (.string [])], [], places) :=
  ⟨[], by kernel_rfl⟩
set_option maxRecDepth 100000 in
theorem lifted (os : Os) (started : os.Started) (H : Type) (enc : TypeId × Value → H) (F : Stop.Interp) :
    ReturnsInHanded {} Tryd.checked os 3 .any ((OpenSpec.ofChange Rows.consoleReadsSpec).preRow enc Tryd.prog Tryd.f3 Rows.consoleReadsRow.domain false Rows.consoleReadsRow.laid) (((OpenSpec.ofChange Rows.consoleReadsSpec).at F).post enc Tryd.prog Tryd.f3 false true false false) := by
  obtain ⟨places, hx⟩ := reads os enc
  refine returnsInHanded_of_row (C := Tryd.checked) (s := OpenSpec.ofChange Rows.consoleReadsSpec) own started (by kernel_rfl) Tryd.func3
    (witness_row_atRef (enc := enc) (C := Tryd.checked) false (doorW os) #[.string ⟨#[]⟩] rfl (by kernel_rfl) (by kernel_rfl) (by kernel_rfl)
      (OpenSpec.preRow_of_cond 8 hx (by kernel_rfl) (fun k hk => by cases hk) (by kernel_rfl) (door_met os _))) ?_
  intro W base args ds gs before hval hW _ hcond hsz hL hsh _
  exact contract H enc W base args ds gs before hval hW hsz hL hsh
theorem over : Rows.ConsoleReadsSaid :=
  OpenClaim.holds_of_cond 3 Tryd.f3 rfl rfl rfl rfl rfl rfl rfl ⟨rfl, rfl, rfl, rfl, rfl⟩ rfl rfl rfl rfl rfl (by kernel_rfl) Tryd.func3 (by kernel_rfl)
    (of_decide_eq_true (by kernel_rfl)) (by unfold Func.isWrapper; first | (rw [if_pos (by decide +kernel)]; kernel_rfl) | (rw [if_neg (by decide +kernel)]; exact ⟨rfl, rfl⟩))
    (fun os started H enc _ F => by rw [OpenClaim.pre_eq_preRow]; exact lifted os started H enc F)
theorem proved : Rows.ConsoleReadsCardSaid :=
  Claim7.holds_tied_plain_at .later [] [.data, .data, .data, .data, .sentinel, .sentinel, .pinned] true (true, "7d88d3b91be14ea8c46f57e15166355ccf5aa14e8a07973500008f7c9494f0c0") true
    over (fun _ h => by cases h) (by kernel_rfl) (fun _ h => by cases h) consoleReads_row_tie rfl ⟨rfl, rfl⟩ (by kernel_rfl) rfl
    (fun f fn hf hfn => by
      obtain rfl : f = 3 := Option.some.inj ((show Tryd.prog.funcNamed "reredos/reredoslaw.ConsoleReads" = some 3 by kernel_rfl).symm.trans hf) |>.symm
      obtain rfl : fn = Tryd.f3 := (Option.some.inj (Tryd.func3.symm.trans hfn)).symm
      exact ⟨by kernel_rfl, fun j t ht => by
        rw [Tryd.params3] at ht
        have hm : t ∈ [9] := by simpa using Array.mem_of_getElem? ht
        have hall : ([9].all fun u => !Tryd.prog.wantsStandIn u) = true := by kernel_rfl
        exact (show Tryd.prog.wantsStandIn t = false by simpa using List.all_eq_true.1 hall t hm)⟩)
    (by kernel_rfl)
#print axioms proved
end Go.Proofs.YtjpkfnblnimdoaaDoor.consoleReads
namespace Go.Proofs.YtjpkfnblnimdoaaDoor
/-- The card, under a short name, for the claim. -/
theorem consoleReads_holds : Rows.ConsoleReadsCardSaid := consoleReads.proved
end Go.Proofs.YtjpkfnblnimdoaaDoor
