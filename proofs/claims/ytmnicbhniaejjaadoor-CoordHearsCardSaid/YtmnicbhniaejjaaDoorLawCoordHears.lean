/- The law CoordHears returns true at every input, and its arguments read as they did; no condition. -/
import Derived.Test.YtmnicbhniaejjaaDoorRows
import Derived.WalkKit
import Derived.ProofKit
import Derived.OpenShut
import Derived.ShutString
import Derived.ChangeOld
import Derived.Below
import Derived.SizedLaws
import Derived.Handed
import Derived.LaidMore
import Derived.LaidHandle
import Derived.MakeChecks
import Derived.SevenTiedAt
import Derived.Stop.Joined
import Derived.Test.YtmnicbhniaejjaaDoorCards
import Derived.Test.YtmnicbhniaejjaaDoorTie
import Derived.Test.YtmnicbhniaejjaaDoorVD
import Derived.Test.YtmnicbhniaejjaaDoorG4
import Derived.Test.YtmnicbhniaejjaaDoorQCoordHear
set_option linter.unusedVariables false
set_option linter.unusedSimpArgs false
namespace Go.V.Dec.CoordHears
open Go Go.Proofs Classical
set_option maxRecDepth 100000
set_option maxHeartbeats 4000000
def Label.ok (x : Label) : Prop := IntKind.i64.has x.Level ∧ IntKind.i64.has x.Cats
theorem Label.ok_of {ds : List D} (h0 : fitCs [.int .i64, .int .i64] ds) : ∃ x : Label, ds = Label.enc x ∧ Label.ok x := by
  obtain ⟨d0, ds0, rfl, f0, h1⟩ := fitCs_cons h0
  obtain ⟨v0, rfl, g0⟩ := fitD_int f0
  obtain ⟨d1, ds1, rfl, f1, h2⟩ := fitCs_cons h1
  obtain ⟨v1, rfl, g1⟩ := fitD_int f1
  obtain rfl := fitCs_nil h2
  exact ⟨(Label.mk v0 v1), rfl, ⟨g0, g1⟩⟩
def Config.ok (x : Config) : Prop := IntKind.i64.has x.Sites ∧ (x.Labels.length ≤ maxLen ∧ x.Labels.length * 16 ≤ reachBytes ∧ ∀ y ∈ x.Labels, Label.ok y) ∧ IntKind.i64.has x.Patience
theorem Config.ok_of {ds : List D} (h0 : fitCs [.int .i64, .sl 2 16 [.int .i64, .int .i64], .int .i64] ds) : ∃ x : Config, ds = Config.enc x ∧ Config.ok x := by
  obtain ⟨d0, ds0, rfl, f0, h1⟩ := fitCs_cons h0
  obtain ⟨v0, rfl, g0⟩ := fitD_int f0
  obtain ⟨d1, ds1, rfl, f1, h2⟩ := fitCs_cons h1
  obtain ⟨rw1, rfl, a1, b1, c1⟩ := fitD_sl f1
  obtain ⟨v1, rfl, e1⟩ := rows_of Label.ok_of c1
  obtain ⟨d2, ds2, rfl, f2, h3⟩ := fitCs_cons h2
  obtain ⟨v2, rfl, g2⟩ := fitD_int f2
  obtain rfl := fitCs_nil h3
  exact ⟨(Config.mk v0 v1 v2), rfl, ⟨g0, ⟨by simpa using a1, by simpa using b1, e1⟩, g2⟩⟩
def okI_i64 (x : Int) : Prop := IntKind.i64.has x
theorem okI_i64_of {ds : List D} (h0 : fitCs [.int .i64] ds) : ∃ x : Int, ds = encI x ∧ okI_i64 x := by
  obtain ⟨d0, ds0, rfl, f0, h1⟩ := fitCs_cons h0
  obtain ⟨v0, rfl, g0⟩ := fitD_int f0
  obtain rfl := fitCs_nil h1
  exact ⟨v0, rfl, g0⟩
def Task.ok (x : Task) : Prop := IntKind.i64.has x.Label ∧ IntKind.i64.has x.Key ∧ IntKind.i64.has x.Value ∧ IntKind.i64.has x.Version ∧ IntKind.i64.has x.Ask
theorem Task.ok_of {ds : List D} (h0 : fitCs [.bool, .int .i64, .int .i64, .int .i64, .int .i64, .int .i64, .bool, .bool] ds) : ∃ x : Task, ds = Task.enc x ∧ Task.ok x := by
  obtain ⟨d0, ds0, rfl, f0, h1⟩ := fitCs_cons h0
  obtain ⟨v0, rfl⟩ := fitD_bool f0
  obtain ⟨d1, ds1, rfl, f1, h2⟩ := fitCs_cons h1
  obtain ⟨v1, rfl, g1⟩ := fitD_int f1
  obtain ⟨d2, ds2, rfl, f2, h3⟩ := fitCs_cons h2
  obtain ⟨v2, rfl, g2⟩ := fitD_int f2
  obtain ⟨d3, ds3, rfl, f3, h4⟩ := fitCs_cons h3
  obtain ⟨v3, rfl, g3⟩ := fitD_int f3
  obtain ⟨d4, ds4, rfl, f4, h5⟩ := fitCs_cons h4
  obtain ⟨v4, rfl, g4⟩ := fitD_int f4
  obtain ⟨d5, ds5, rfl, f5, h6⟩ := fitCs_cons h5
  obtain ⟨v5, rfl, g5⟩ := fitD_int f5
  obtain ⟨d6, ds6, rfl, f6, h7⟩ := fitCs_cons h6
  obtain ⟨v6, rfl⟩ := fitD_bool f6
  obtain ⟨d7, ds7, rfl, f7, h8⟩ := fitCs_cons h7
  obtain ⟨v7, rfl⟩ := fitD_bool f7
  obtain rfl := fitCs_nil h8
  exact ⟨(Task.mk v0 v1 v2 v3 v4 v5 v6 v7), rfl, ⟨g1, g2, g3, g4, g5⟩⟩
def Job.ok (x : Job) : Prop := IntKind.i64.has x.N ∧ IntKind.i64.has x.State ∧ (x.Tasks.length ≤ maxLen ∧ x.Tasks.length * 56 ≤ reachBytes ∧ ∀ y ∈ x.Tasks, Task.ok y) ∧ (x.Asked.length ≤ maxLen ∧ x.Asked.length * 8 ≤ reachBytes ∧ ∀ y ∈ x.Asked, okI_i64 y) ∧ IntKind.i64.has x.Asks ∧ IntKind.i64.has x.Age
theorem Job.ok_of {ds : List D} (h0 : fitCs [.int .i64, .int .i64, .sl 8 56 [.bool, .int .i64, .int .i64, .int .i64, .int .i64, .int .i64, .bool, .bool], .sl 1 8 [.int .i64], .int .i64, .int .i64] ds) : ∃ x : Job, ds = Job.enc x ∧ Job.ok x := by
  obtain ⟨d0, ds0, rfl, f0, h1⟩ := fitCs_cons h0
  obtain ⟨v0, rfl, g0⟩ := fitD_int f0
  obtain ⟨d1, ds1, rfl, f1, h2⟩ := fitCs_cons h1
  obtain ⟨v1, rfl, g1⟩ := fitD_int f1
  obtain ⟨d2, ds2, rfl, f2, h3⟩ := fitCs_cons h2
  obtain ⟨rw2, rfl, a2, b2, c2⟩ := fitD_sl f2
  obtain ⟨v2, rfl, e2⟩ := rows_of Task.ok_of c2
  obtain ⟨d3, ds3, rfl, f3, h4⟩ := fitCs_cons h3
  obtain ⟨rw3, rfl, a3, b3, c3⟩ := fitD_sl f3
  obtain ⟨v3, rfl, e3⟩ := rows_of okI_i64_of c3
  obtain ⟨d4, ds4, rfl, f4, h5⟩ := fitCs_cons h4
  obtain ⟨v4, rfl, g4⟩ := fitD_int f4
  obtain ⟨d5, ds5, rfl, f5, h6⟩ := fitCs_cons h5
  obtain ⟨v5, rfl, g5⟩ := fitD_int f5
  obtain rfl := fitCs_nil h6
  exact ⟨(Job.mk v0 v1 v2 v3 v4 v5), rfl, ⟨g0, g1, ⟨by simpa using a2, by simpa using b2, e2⟩, ⟨by simpa using a3, by simpa using b3, e3⟩, g4, g5⟩⟩
def Desk.ok (x : Desk) : Prop := IntKind.i64.has x.Next ∧ (x.Jobs.length ≤ maxLen ∧ x.Jobs.length * 80 ≤ reachBytes ∧ ∀ y ∈ x.Jobs, Job.ok y)
theorem Desk.ok_of {ds : List D} (h0 : fitCs [.int .i64, .sl 6 80 [.int .i64, .int .i64, .sl 8 56 [.bool, .int .i64, .int .i64, .int .i64, .int .i64, .int .i64, .bool, .bool], .sl 1 8 [.int .i64], .int .i64, .int .i64]] ds) : ∃ x : Desk, ds = Desk.enc x ∧ Desk.ok x := by
  obtain ⟨d0, ds0, rfl, f0, h1⟩ := fitCs_cons h0
  obtain ⟨v0, rfl, g0⟩ := fitD_int f0
  obtain ⟨d1, ds1, rfl, f1, h2⟩ := fitCs_cons h1
  obtain ⟨rw1, rfl, a1, b1, c1⟩ := fitD_sl f1
  obtain ⟨v1, rfl, e1⟩ := rows_of Job.ok_of c1
  obtain rfl := fitCs_nil h2
  exact ⟨(Desk.mk v0 v1), rfl, ⟨g0, ⟨by simpa using a1, by simpa using b1, e1⟩⟩⟩
def Message.ok (x : Message) : Prop := IntKind.i64.has x.Kind ∧ IntKind.i64.has x.From ∧ IntKind.i64.has x.To ∧ IntKind.i64.has x.Txn.Site ∧ IntKind.i64.has x.Txn.N ∧ IntKind.i64.has x.Label ∧ IntKind.i64.has x.Key ∧ IntKind.i64.has x.Value ∧ IntKind.i64.has x.Version ∧ IntKind.i64.has x.Ask ∧ IntKind.i64.has x.Code
theorem Message.ok_of {ds : List D} (h0 : fitCs [.int .i64, .int .i64, .int .i64, .int .i64, .int .i64, .int .i64, .int .i64, .int .i64, .int .i64, .int .i64, .bool, .int .i64] ds) : ∃ x : Message, ds = Message.enc x ∧ Message.ok x := by
  obtain ⟨d0, ds0, rfl, f0, h1⟩ := fitCs_cons h0
  obtain ⟨v0, rfl, g0⟩ := fitD_int f0
  obtain ⟨d1, ds1, rfl, f1, h2⟩ := fitCs_cons h1
  obtain ⟨v1, rfl, g1⟩ := fitD_int f1
  obtain ⟨d2, ds2, rfl, f2, h3⟩ := fitCs_cons h2
  obtain ⟨v2, rfl, g2⟩ := fitD_int f2
  obtain ⟨d3, ds3, rfl, f3, h4⟩ := fitCs_cons h3
  obtain ⟨v3, rfl, g3⟩ := fitD_int f3
  obtain ⟨d4, ds4, rfl, f4, h5⟩ := fitCs_cons h4
  obtain ⟨v4, rfl, g4⟩ := fitD_int f4
  obtain ⟨d5, ds5, rfl, f5, h6⟩ := fitCs_cons h5
  obtain ⟨v5, rfl, g5⟩ := fitD_int f5
  obtain ⟨d6, ds6, rfl, f6, h7⟩ := fitCs_cons h6
  obtain ⟨v6, rfl, g6⟩ := fitD_int f6
  obtain ⟨d7, ds7, rfl, f7, h8⟩ := fitCs_cons h7
  obtain ⟨v7, rfl, g7⟩ := fitD_int f7
  obtain ⟨d8, ds8, rfl, f8, h9⟩ := fitCs_cons h8
  obtain ⟨v8, rfl, g8⟩ := fitD_int f8
  obtain ⟨d9, ds9, rfl, f9, h10⟩ := fitCs_cons h9
  obtain ⟨v9, rfl, g9⟩ := fitD_int f9
  obtain ⟨d10, ds10, rfl, f10, h11⟩ := fitCs_cons h10
  obtain ⟨v10, rfl⟩ := fitD_bool f10
  obtain ⟨d11, ds11, rfl, f11, h12⟩ := fitCs_cons h11
  obtain ⟨v11, rfl, g11⟩ := fitD_int f11
  obtain rfl := fitCs_nil h12
  exact ⟨(Message.mk v0 v1 v2 (Txn.mk v3 v4) v5 v6 v7 v8 v9 v10 v11), rfl, ⟨g0, g1, g2, g3, g4, g5, g6, g7, g8, g9, g11⟩⟩
noncomputable def GT : Nat → Option (List D) := fun n => if n = 0 then some ((tableBools (H := Unit) Go.Proofs.YtmnicbhniaejjaaDoor.Rows.laid_reredos_wire_messages).map D.b) else none
theorem hG : constG GT 0 = .one (.d (.k tab_wire_messagesD)) := by rfl
theorem CoordHears_true (p0 : Config) (p1 : Int) (p2 : Int) (p3 : Desk) (p4 : Message) (h0 : Config.ok p0) (h1 : IntKind.i64.has p1) (h2 : IntKind.i64.has p2) (h3 : Desk.ok p3) (h4 : Message.ok p4) : reredoslaw_CoordHears p0 p1 p2 p3 p4 = some true := by
  have hlens : p3.lens := ⟨h3.2.1, fun j hj => ⟨(h3.2.2.2 j hj).2.2.1.1, (h3.2.2.2 j hj).2.2.2.1.1⟩⟩
  have hfit : p3.fit := ⟨fits_of' h3.2.1 h3.2.2.1, fun j hj => ⟨fits_of' (h3.2.2.2 j hj).2.2.1.1 (h3.2.2.2 j hj).2.2.1.2.1, fits_of' (h3.2.2.2 j hj).2.2.2.1.1 (h3.2.2.2 j hj).2.2.2.1.2.1⟩⟩
  exact CoordHears_run p0 p1 p2 p3 p4 h0.2.1.1 hlens hfit

theorem walk (svs : List SV) (h : fitArgs Tryd.prog [24, 3, 3, 50, 31] svs) : FnRO Tryd.prog GT 4 svs (fun rs => rs = [.one (.b true)]) := by
  match svs, h with
  | [s0, s1, s2, s3, s4], h =>
    obtain ⟨h0, h1, h2, h3, h4, _⟩ := h
    obtain ⟨ds0, f0, rfl⟩ := arg_agg (by kernel_rfl) (by kernel_rfl) h0
    obtain ⟨p0, rfl, k0⟩ := Config.ok_of f0
    obtain ⟨d1, f1, rfl⟩ := arg_one (by kernel_rfl) (by kernel_rfl) h1
    obtain ⟨p1, e1, k1⟩ := okI_i64_of f1
    obtain rfl := (List.cons.inj e1).1
    obtain ⟨d2, f2, rfl⟩ := arg_one (by kernel_rfl) (by kernel_rfl) h2
    obtain ⟨p2, e2, k2⟩ := okI_i64_of f2
    obtain rfl := (List.cons.inj e2).1
    obtain ⟨ds3, f3, rfl⟩ := arg_agg (by kernel_rfl) (by kernel_rfl) h3
    obtain ⟨p3, rfl, k3⟩ := Desk.ok_of f3
    obtain ⟨ds4, f4, rfl⟩ := arg_agg (by kernel_rfl) (by kernel_rfl) h4
    obtain ⟨p4, rfl, k4⟩ := Message.ok_of f4
    exact reredoslaw_CoordHears_ok GT hG p0 p1 p2 p3 p4 true (CoordHears_true p0 p1 p2 p3 p4 k0 k1 k2 k3 k4)

end Go.V.Dec.CoordHears
namespace Go.Proofs.YtmnicbhniaejjaaDoor.coordHears
open Go.ChangeShapes Go.WideShapes Go.ChangeAt Go.RowKit Go.V
theorem own : ownKnob Tryd.prog.godebug = none := by kernel_rfl
theorem laidOut : laidOutB Tryd.prog = true := by kernel_rfl
theorem gNamed : Tryd.prog.globalNamed "reredos/wire.messages" = some 0 := by kernel_rfl
theorem gType : (Tryd.prog.globals[0]?).map (·.type) = some 150 := by kernel_rfl
theorem uA : Tryd.prog.underlying 150 = some (.array 10 149) := by kernel_rfl
/-- The door's own heap meets the condition. -/
theorem door_met (os : Os) (args : Array Value) : laidMetH Tryd.prog Rows.coordHearsRow.laid ((World.doorLaid Tryd.prog 400 os).forCall (fun _ _ => 0) ⟨#[], args, []⟩).memory :=
  laidMetH_of_parts3 (fuel := 8) (laidMet_of_run' 8 (by kernel_rfl) (by kernel_rfl)) (by kernel_rfl) (by kernel_rfl)
def flds : Array Field := #[{ name := "label", type := 4, offset := 0, embedded := false, tag := "", pkgPath := "reredos/wire", byteOffset := 0 }, { name := "key", type := 4, offset := 1, embedded := false, tag := "", pkgPath := "reredos/wire", byteOffset := 1 }, { name := "value", type := 4, offset := 2, embedded := false, tag := "", pkgPath := "reredos/wire", byteOffset := 2 }, { name := "version", type := 4, offset := 3, embedded := false, tag := "", pkgPath := "reredos/wire", byteOffset := 3 }, { name := "ask", type := 4, offset := 4, embedded := false, tag := "", pkgPath := "reredos/wire", byteOffset := 4 }, { name := "yes", type := 4, offset := 5, embedded := false, tag := "", pkgPath := "reredos/wire", byteOffset := 5 }, { name := "code", type := 4, offset := 6, embedded := false, tag := "", pkgPath := "reredos/wire", byteOffset := 6 }, { name := "sites", type := 4, offset := 7, embedded := false, tag := "", pkgPath := "reredos/wire", byteOffset := 7 }]
theorem uE : Tryd.prog.underlying 149 = some (.struct flds) := by kernel_rfl
theorem fields : ∀ (i : Nat) (f : Field), flds[i]? = some f → f.offset = i ∧ Tryd.prog.underlying f.type = some .bool ∧ Tryd.prog.cellsOf f.type = 1 := by
  intro i f h
  have hb : Tryd.prog.underlying 4 = some .bool := by kernel_rfl
  have hc : Tryd.prog.cellsOf 4 = 1 := by kernel_rfl
  match i, h with
  | 0, h => cases h; exact ⟨rfl, hb, hc⟩
  | 1, h => cases h; exact ⟨rfl, hb, hc⟩
  | 2, h => cases h; exact ⟨rfl, hb, hc⟩
  | 3, h => cases h; exact ⟨rfl, hb, hc⟩
  | 4, h => cases h; exact ⟨rfl, hb, hc⟩
  | 5, h => cases h; exact ⟨rfl, hb, hc⟩
  | 6, h => cases h; exact ⟨rfl, hb, hc⟩
  | 7, h => cases h; exact ⟨rfl, hb, hc⟩
  | _ + 8, h => simp [flds] at h
theorem tableOk {W : World} (h : laidMetH Tryd.prog Rows.coordHearsRow.laid W) : GOk Go.V.Dec.CoordHears.GT W.heap (fun b => b < W.heap.size) :=
  laid_table (fs := flds) h rfl gNamed gType uA uE fields (by kernel_rfl) (by kernel_rfl)
set_option maxRecDepth 100000 in
theorem lifted (os : Os) (started : os.Started) (H : Type) (enc : TypeId × Value → H) :
    ReturnsInHanded {} Tryd.checked os 4 .any (fun w args => (Rows.coordHearsSpec.pre enc Tryd.prog Tryd.f4 [] false w args ∧ laidMetH Tryd.prog Rows.coordHearsRow.laid w) ∧ sizedMet enc Tryd.prog Tryd.f4 (OpenSpec.ofChange Rows.coordHearsSpec) false w args)
      (Rows.coordHearsSpec.post enc Tryd.prog Tryd.f4 false true false false) := by
  refine returnsInHanded_of_change_and (C := Tryd.checked) (X := fun w _ => laidMetH Tryd.prog Rows.coordHearsRow.laid w) (fun _ _ _ hh h => h.of_heap hh) own started (by kernel_rfl) Tryd.func4
    (ChangeSpec.witness_shaped (enc := enc) (C := Tryd.checked) (os := os) (X := fun w _ => laidMetH Tryd.prog Rows.coordHearsRow.laid w) false (World.doorLaid Tryd.prog 400 os) #[.agg #[.int .i64 0, .slice none 0 0, .int .i64 0], .int .i64 0, .int .i64 0, .agg #[.int .i64 0, .slice none 0 0], .agg #[.int .i64 0, .int .i64 0, .int .i64 0, .int .i64 0, .int .i64 0, .int .i64 0, .int .i64 0, .int .i64 0, .int .i64 0, .int .i64 0, .bool false, .int .i64 0]] 8 rfl (World.shaped_of_RefB (by kernel_rfl) (by kernel_rfl)) (by kernel_rfl) (by kernel_rfl) (by kernel_rfl) (door_met os _)) ?_
  intro W base args ds gs before hval0 hW hcnd hsz0 hL _
  have hsz : (DataW.weightsEach Tryd.prog (Tryd.f4.params.toList ++ Rows.coordHearsSpec.plain.varTypes Tryd.prog) (ds ++ gs)).all (· ≤ reachBytes) = true := hsz0
  have hval : ∀ (j : Nat) t v, Tryd.f4.params.toList[j]? = some t → args.toList[j]? = some v → Value.okWide Tryd.prog W .any base t v := fun j t v h1 h2 => hval0 j t v (by simpa using h1) (by simpa using h2)
  have hW' := hW
  obtain ⟨p, q, hA0, hV, rfl, hfz, hnd⟩ := hW
  have hA : DataW.TrodAll enc Tryd.prog W 0 (fun _ => true) true Tryd.f4.params.toList args.toList ds p := hA0
  obtain ⟨rfl, rfl⟩ := trodVars_none hV
  have hsz' : (DataW.weightsEach Tryd.prog Tryd.f4.params.toList ds).all (· ≤ reachBytes) = true := by
    have e : Tryd.f4.params.toList ++ Rows.coordHearsSpec.plain.varTypes Tryd.prog = Tryd.f4.params.toList := by rfl
    rw [e, List.append_nil] at hsz; exact hsz
  rw [Tryd.params4] at hA hval hsz'
  obtain ⟨svs, hr, hfit⟩ := law_args (by kernel_rfl) hA hval hsz'
  clear hA0 hval0 hsz0 hsz
  have hA2 := hA
  obtain ⟨v0, vs0, d0, ds0, p0, q0, hargs0, rfl, rfl, h0, r0⟩ := trodAll_cons hA
  obtain ⟨v1, vs1, d1, ds1, p1, q1, hargs1, rfl, rfl, h1, r1⟩ := trodAll_cons r0
  obtain ⟨v2, vs2, d2, ds2, p2, q2, hargs2, rfl, rfl, h2, r2⟩ := trodAll_cons r1
  obtain ⟨v3, vs3, d3, ds3, p3, q3, hargs3, rfl, rfl, h3, r3⟩ := trodAll_cons r2
  obtain ⟨v4, vs4, d4, ds4, p4, q4, hargs4, rfl, rfl, h4, r4⟩ := trodAll_cons r3
  obtain ⟨hargs5, rfl, rfl⟩ := trodAll_nil r4
  refine (law_run_at (Go.V.Dec.CoordHears.walk svs hfit) (tableOk hL) hr).mono fun e W' ⟨he, bel⟩ => ?_
  subst he
  have hA3 := law_kept laidOut bel (by kernel_rfl) hA2
  exact ⟨_, rfl, _, _, _, [], _, [], hW', trodAll_mk1 (shut_bool Tryd.underlying4 _), hA3, rfl, bel.frame _, fun h => by cases h⟩
theorem over : Rows.coordHearsRow.holds Tryd.pinned (OpenSpec.ofChange Rows.coordHearsSpec) :=
  OpenClaim.holds_of_wide 4 Tryd.f4 rfl rfl rfl rfl rfl rfl rfl ⟨rfl, rfl, rfl, rfl, rfl⟩ rfl rfl rfl rfl rfl (by kernel_rfl) Tryd.func4 (by kernel_rfl)
    (of_decide_eq_true (by kernel_rfl)) (by unfold Func.isWrapper; first | (rw [if_pos (by decide +kernel)]; kernel_rfl) | (rw [if_neg (by decide +kernel)]; exact ⟨rfl, rfl⟩))
    (fun os started H enc _ => lifted os started H enc)
theorem proved : Rows.CoordHearsCardSaid :=
  Claim7.holds_tied_plain_at .later [] [.data] true (true, "0e21e0401b61ac6759bc5a22484cbd76f99c510150674372052b2528e8a19bdd") true
    over (fun _ h => by cases h) (by kernel_rfl) (fun _ h => by cases h) coordHears_row_tie rfl ⟨rfl, rfl⟩ (by kernel_rfl) rfl
    (fun f fn hf hfn => by
      obtain rfl : f = 4 := Option.some.inj ((show Tryd.prog.funcNamed "reredos/reredoslaw.CoordHears" = some 4 by kernel_rfl).symm.trans hf) |>.symm
      obtain rfl : fn = Tryd.f4 := (Option.some.inj (Tryd.func4.symm.trans hfn)).symm
      exact ⟨by kernel_rfl, fun j t ht => by
        rw [Tryd.params4] at ht
        have hm : t ∈ [24, 3, 3, 50, 31] := by simpa using Array.mem_of_getElem? ht
        have hall : ([24, 3, 3, 50, 31].all fun u => !Tryd.prog.wantsStandIn u) = true := by kernel_rfl
        exact (show Tryd.prog.wantsStandIn t = false by simpa using List.all_eq_true.1 hall t hm)⟩)
    (by kernel_rfl)
#print axioms proved
end Go.Proofs.YtmnicbhniaejjaaDoor.coordHears
namespace Go.Proofs.YtmnicbhniaejjaaDoor
/-- The card, under a short name, for the claim. -/
theorem coordHears_holds : Rows.CoordHearsCardSaid := coordHears.proved
end Go.Proofs.YtmnicbhniaejjaaDoor
