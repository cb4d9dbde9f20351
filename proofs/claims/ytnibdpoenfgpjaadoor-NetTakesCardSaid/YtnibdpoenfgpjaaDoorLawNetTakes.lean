/- The law NetTakes returns true at every input, and its arguments read as they did; no condition. -/
import Derived.Test.YtnibdpoenfgpjaaDoorRows
import Derived.WalkKit
import Derived.ProofKit
import Derived.OpenShut
import Derived.ShutString
import Derived.ChangeOld
import Derived.Below
import Derived.SizedLaws
import Derived.Handed
import Derived.LaidMore
import Derived.LaidHandle
import Derived.MakeChecks
import Derived.SevenTiedAt
import Derived.Stop.Joined
import Derived.Test.YtnibdpoenfgpjaaDoorCards
import Derived.Test.YtnibdpoenfgpjaaDoorTie
import Derived.Test.YtnibdpoenfgpjaaDoorVD
import Derived.Test.YtnibdpoenfgpjaaDoorG2
import Derived.Test.YtnibdpoenfgpjaaDoorQNetTake
set_option linter.unusedVariables false
set_option linter.unusedSimpArgs false
namespace Go.V.Dec.NetTakes
open Go Go.Proofs Classical
set_option maxRecDepth 100000
set_option maxHeartbeats 4000000
def Label.ok (x : Label) : Prop := IntKind.i64.has x.Level ∧ IntKind.i64.has x.Cats
theorem Label.ok_of {ds : List D} (h0 : fitCs [.int .i64, .int .i64] ds) : ∃ x : Label, ds = Label.enc x ∧ Label.ok x := by
  obtain ⟨d0, ds0, rfl, f0, h1⟩ := fitCs_cons h0
  obtain ⟨v0, rfl, g0⟩ := fitD_int f0
  obtain ⟨d1, ds1, rfl, f1, h2⟩ := fitCs_cons h1
  obtain ⟨v1, rfl, g1⟩ := fitD_int f1
  obtain rfl := fitCs_nil h2
  exact ⟨(Label.mk v0 v1), rfl, ⟨g0, g1⟩⟩
def Config.ok (x : Config) : Prop := IntKind.i64.has x.Sites ∧ (x.Labels.length ≤ maxLen ∧ x.Labels.length * 16 ≤ reachBytes ∧ ∀ y ∈ x.Labels, Label.ok y) ∧ IntKind.i64.has x.Patience
theorem Config.ok_of {ds : List D} (h0 : fitCs [.int .i64, .sl 2 16 [.int .i64, .int .i64], .int .i64] ds) : ∃ x : Config, ds = Config.enc x ∧ Config.ok x := by
  obtain ⟨d0, ds0, rfl, f0, h1⟩ := fitCs_cons h0
  obtain ⟨v0, rfl, g0⟩ := fitD_int f0
  obtain ⟨d1, ds1, rfl, f1, h2⟩ := fitCs_cons h1
  obtain ⟨rw1, rfl, a1, b1, c1⟩ := fitD_sl f1
  obtain ⟨v1, rfl, e1⟩ := rows_of Label.ok_of c1
  obtain ⟨d2, ds2, rfl, f2, h3⟩ := fitCs_cons h2
  obtain ⟨v2, rfl, g2⟩ := fitD_int f2
  obtain rfl := fitCs_nil h3
  exact ⟨(Config.mk v0 v1 v2), rfl, ⟨g0, ⟨by simpa using a1, by simpa using b1, e1⟩, g2⟩⟩
def Message.ok (x : Message) : Prop := IntKind.i64.has x.Kind ∧ IntKind.i64.has x.From ∧ IntKind.i64.has x.To ∧ IntKind.i64.has x.Txn.Site ∧ IntKind.i64.has x.Txn.N ∧ IntKind.i64.has x.Label ∧ IntKind.i64.has x.Key ∧ IntKind.i64.has x.Value ∧ IntKind.i64.has x.Version ∧ IntKind.i64.has x.Ask ∧ IntKind.i64.has x.Code
theorem Message.ok_of {ds : List D} (h0 : fitCs [.int .i64, .int .i64, .int .i64, .int .i64, .int .i64, .int .i64, .int .i64, .int .i64, .int .i64, .int .i64, .bool, .int .i64] ds) : ∃ x : Message, ds = Message.enc x ∧ Message.ok x := by
  obtain ⟨d0, ds0, rfl, f0, h1⟩ := fitCs_cons h0
  obtain ⟨v0, rfl, g0⟩ := fitD_int f0
  obtain ⟨d1, ds1, rfl, f1, h2⟩ := fitCs_cons h1
  obtain ⟨v1, rfl, g1⟩ := fitD_int f1
  obtain ⟨d2, ds2, rfl, f2, h3⟩ := fitCs_cons h2
  obtain ⟨v2, rfl, g2⟩ := fitD_int f2
  obtain ⟨d3, ds3, rfl, f3, h4⟩ := fitCs_cons h3
  obtain ⟨v3, rfl, g3⟩ := fitD_int f3
  obtain ⟨d4, ds4, rfl, f4, h5⟩ := fitCs_cons h4
  obtain ⟨v4, rfl, g4⟩ := fitD_int f4
  obtain ⟨d5, ds5, rfl, f5, h6⟩ := fitCs_cons h5
  obtain ⟨v5, rfl, g5⟩ := fitD_int f5
  obtain ⟨d6, ds6, rfl, f6, h7⟩ := fitCs_cons h6
  obtain ⟨v6, rfl, g6⟩ := fitD_int f6
  obtain ⟨d7, ds7, rfl, f7, h8⟩ := fitCs_cons h7
  obtain ⟨v7, rfl, g7⟩ := fitD_int f7
  obtain ⟨d8, ds8, rfl, f8, h9⟩ := fitCs_cons h8
  obtain ⟨v8, rfl, g8⟩ := fitD_int f8
  obtain ⟨d9, ds9, rfl, f9, h10⟩ := fitCs_cons h9
  obtain ⟨v9, rfl, g9⟩ := fitD_int f9
  obtain ⟨d10, ds10, rfl, f10, h11⟩ := fitCs_cons h10
  obtain ⟨v10, rfl⟩ := fitD_bool f10
  obtain ⟨d11, ds11, rfl, f11, h12⟩ := fitCs_cons h11
  obtain ⟨v11, rfl, g11⟩ := fitD_int f11
  obtain rfl := fitCs_nil h12
  exact ⟨(Message.mk v0 v1 v2 (Txn.mk v3 v4) v5 v6 v7 v8 v9 v10 v11), rfl, ⟨g0, g1, g2, g3, g4, g5, g6, g7, g8, g9, g11⟩⟩
def okL_Message_ok (x : List Message) : Prop := (x.length ≤ maxLen ∧ x.length * 96 ≤ reachBytes ∧ ∀ y ∈ x, Message.ok y)
theorem okL_Message_ok_of {ds : List D} (h0 : fitCs [.sl 12 96 [.int .i64, .int .i64, .int .i64, .int .i64, .int .i64, .int .i64, .int .i64, .int .i64, .int .i64, .int .i64, .bool, .int .i64]] ds) : ∃ x : List Message, ds = (encL 12 Message.enc) x ∧ okL_Message_ok x := by
  obtain ⟨d0, ds0, rfl, f0, h1⟩ := fitCs_cons h0
  obtain ⟨rw0, rfl, a0, b0, c0⟩ := fitD_sl f0
  obtain ⟨v0, rfl, e0⟩ := rows_of Message.ok_of c0
  obtain rfl := fitCs_nil h1
  exact ⟨v0, rfl, ⟨by simpa using a0, by simpa using b0, e0⟩⟩
def okL_okL_Message_ok (x : List (List Message)) : Prop := (x.length ≤ maxLen ∧ x.length * 24 ≤ reachBytes ∧ ∀ y ∈ x, okL_Message_ok y)
theorem okL_okL_Message_ok_of {ds : List D} (h0 : fitCs [.sl 1 24 [.sl 12 96 [.int .i64, .int .i64, .int .i64, .int .i64, .int .i64, .int .i64, .int .i64, .int .i64, .int .i64, .int .i64, .bool, .int .i64]]] ds) : ∃ x : List (List Message), ds = (encL 1 (encL 12 Message.enc)) x ∧ okL_okL_Message_ok x := by
  obtain ⟨d0, ds0, rfl, f0, h1⟩ := fitCs_cons h0
  obtain ⟨rw0, rfl, a0, b0, c0⟩ := fitD_sl f0
  obtain ⟨v0, rfl, e0⟩ := rows_of okL_Message_ok_of c0
  obtain rfl := fitCs_nil h1
  exact ⟨v0, rfl, ⟨by simpa using a0, by simpa using b0, e0⟩⟩
def okI_i64 (x : Int) : Prop := IntKind.i64.has x
theorem okI_i64_of {ds : List D} (h0 : fitCs [.int .i64] ds) : ∃ x : Int, ds = encI x ∧ okI_i64 x := by
  obtain ⟨d0, ds0, rfl, f0, h1⟩ := fitCs_cons h0
  obtain ⟨v0, rfl, g0⟩ := fitD_int f0
  obtain rfl := fitCs_nil h1
  exact ⟨v0, rfl, g0⟩
noncomputable def GT : Nat → Option (List D) := fun n => if n = 0 then some ((tableBools (H := Unit) Go.Proofs.YtnibdpoenfgpjaaDoor.Rows.laid_reredos_wire_messages).map D.b) else none
theorem hG : constG GT 0 = .one (.d (.k tab_wire_messagesD)) := by rfl
theorem NetTakes_true (p0 : Config) (p1 : List (List Message)) (p2 p3 p4 p5 : Int) (h0 : Config.ok p0) (h1 : okL_okL_Message_ok p1) (_ : okI_i64 p2) (_ : okI_i64 p3) (_ : okI_i64 p4) (_ : okI_i64 p5) : reredoslaw_NetTakes p0 p1 p2 p3 p4 p5 = some true := by
  have f1 : fits 24 p1.length := fits_of' h1.1 h1.2.1
  have f2 : ∀ x ∈ p1, fits 96 x.length := fun x hx => fits_of' (h1.2.2 x hx).1 (h1.2.2 x hx).2.1
  obtain ⟨r, e1, e2⟩ := take_same p0 h0.2.1.1 p1 f1 f2 p2 p3 p4 p5
  simp only [reredoslaw_NetTakes, fly_copy p1 f1 f2, Option.bind_some, e1, e2, withK, sameFly_refl]
  simp

theorem walk (svs : List SV) (h : fitArgs Tryd.prog [24, 25, 3, 3, 3, 3] svs) : FnRO Tryd.prog GT 4 svs (fun rs => rs = [.one (.b true)]) := by
  match svs, h with
  | [s0, s1, s2, s3, s4, s5], h =>
    obtain ⟨h0, h1, h2, h3, h4, h5, _⟩ := h
    obtain ⟨ds0, f0, rfl⟩ := arg_agg (by kernel_rfl) (by kernel_rfl) h0
    obtain ⟨p0, rfl, k0⟩ := Config.ok_of f0
    obtain ⟨d1, f1, rfl⟩ := arg_one (by kernel_rfl) (by kernel_rfl) h1
    obtain ⟨p1, e1, k1⟩ := okL_okL_Message_ok_of f1
    obtain rfl := (List.cons.inj e1).1
    obtain ⟨d2, f2, rfl⟩ := arg_one (by kernel_rfl) (by kernel_rfl) h2
    obtain ⟨p2, e2, k2⟩ := okI_i64_of f2
    obtain rfl := (List.cons.inj e2).1
    obtain ⟨d3, f3, rfl⟩ := arg_one (by kernel_rfl) (by kernel_rfl) h3
    obtain ⟨p3, e3, k3⟩ := okI_i64_of f3
    obtain rfl := (List.cons.inj e3).1
    obtain ⟨d4, f4, rfl⟩ := arg_one (by kernel_rfl) (by kernel_rfl) h4
    obtain ⟨p4, e4, k4⟩ := okI_i64_of f4
    obtain rfl := (List.cons.inj e4).1
    obtain ⟨d5, f5, rfl⟩ := arg_one (by kernel_rfl) (by kernel_rfl) h5
    obtain ⟨p5, e5, k5⟩ := okI_i64_of f5
    obtain rfl := (List.cons.inj e5).1
    exact reredoslaw_NetTakes_ok GT hG p0 p1 p2 p3 p4 p5 true (NetTakes_true p0 p1 p2 p3 p4 p5 k0 k1 k2 k3 k4 k5)

end Go.V.Dec.NetTakes
namespace Go.Proofs.YtnibdpoenfgpjaaDoor.netTakes
open Go.ChangeShapes Go.WideShapes Go.ChangeAt Go.RowKit Go.V
theorem own : ownKnob Tryd.prog.godebug = none := by kernel_rfl
theorem laidOut : laidOutB Tryd.prog = true := by kernel_rfl
theorem gNamed : Tryd.prog.globalNamed "reredos/wire.messages" = some 0 := by kernel_rfl
theorem gType : (Tryd.prog.globals[0]?).map (·.type) = some 51 := by kernel_rfl
theorem uA : Tryd.prog.underlying 51 = some (.array 10 50) := by kernel_rfl
/-- The door's own heap meets the condition. -/
theorem door_met (os : Os) (args : Array Value) : laidMetH Tryd.prog Rows.netTakesRow.laid ((World.doorLaid Tryd.prog 400 os).forCall (fun _ _ => 0) ⟨#[], args, []⟩).memory :=
  laidMetH_of_parts3 (fuel := 8) (laidMet_of_run' 8 (by kernel_rfl) (by kernel_rfl)) (by kernel_rfl) (by kernel_rfl)
def flds : Array Field := #[{ name := "label", type := 4, offset := 0, embedded := false, tag := "", pkgPath := "reredos/wire", byteOffset := 0 }, { name := "key", type := 4, offset := 1, embedded := false, tag := "", pkgPath := "reredos/wire", byteOffset := 1 }, { name := "value", type := 4, offset := 2, embedded := false, tag := "", pkgPath := "reredos/wire", byteOffset := 2 }, { name := "version", type := 4, offset := 3, embedded := false, tag := "", pkgPath := "reredos/wire", byteOffset := 3 }, { name := "ask", type := 4, offset := 4, embedded := false, tag := "", pkgPath := "reredos/wire", byteOffset := 4 }, { name := "yes", type := 4, offset := 5, embedded := false, tag := "", pkgPath := "reredos/wire", byteOffset := 5 }, { name := "code", type := 4, offset := 6, embedded := false, tag := "", pkgPath := "reredos/wire", byteOffset := 6 }, { name := "sites", type := 4, offset := 7, embedded := false, tag := "", pkgPath := "reredos/wire", byteOffset := 7 }]
theorem uE : Tryd.prog.underlying 50 = some (.struct flds) := by kernel_rfl
theorem fields : ∀ (i : Nat) (f : Field), flds[i]? = some f → f.offset = i ∧ Tryd.prog.underlying f.type = some .bool ∧ Tryd.prog.cellsOf f.type = 1 := by
  intro i f h
  have hb : Tryd.prog.underlying 4 = some .bool := by kernel_rfl
  have hc : Tryd.prog.cellsOf 4 = 1 := by kernel_rfl
  match i, h with
  | 0, h => cases h; exact ⟨rfl, hb, hc⟩
  | 1, h => cases h; exact ⟨rfl, hb, hc⟩
  | 2, h => cases h; exact ⟨rfl, hb, hc⟩
  | 3, h => cases h; exact ⟨rfl, hb, hc⟩
  | 4, h => cases h; exact ⟨rfl, hb, hc⟩
  | 5, h => cases h; exact ⟨rfl, hb, hc⟩
  | 6, h => cases h; exact ⟨rfl, hb, hc⟩
  | 7, h => cases h; exact ⟨rfl, hb, hc⟩
  | _ + 8, h => simp [flds] at h
theorem tableOk {W : World} (h : laidMetH Tryd.prog Rows.netTakesRow.laid W) : GOk Go.V.Dec.NetTakes.GT W.heap (fun b => b < W.heap.size) :=
  laid_table (fs := flds) h rfl gNamed gType uA uE fields (by kernel_rfl) (by kernel_rfl)
set_option maxRecDepth 100000 in
theorem lifted (os : Os) (started : os.Started) (H : Type) (enc : TypeId × Value → H) :
    ReturnsInHanded {} Tryd.checked os 4 .any (fun w args => (Rows.netTakesSpec.pre enc Tryd.prog Tryd.f4 [] false w args ∧ laidMetH Tryd.prog Rows.netTakesRow.laid w) ∧ sizedMet enc Tryd.prog Tryd.f4 (OpenSpec.ofChange Rows.netTakesSpec) false w args)
      (Rows.netTakesSpec.post enc Tryd.prog Tryd.f4 false true false false) := by
  refine returnsInHanded_of_change_and (C := Tryd.checked) (X := fun w _ => laidMetH Tryd.prog Rows.netTakesRow.laid w) (fun _ _ _ hh h => h.of_heap hh) own started (by kernel_rfl) Tryd.func4
    (ChangeSpec.witness_shaped (enc := enc) (C := Tryd.checked) (os := os) (X := fun w _ => laidMetH Tryd.prog Rows.netTakesRow.laid w) false (World.doorLaid Tryd.prog 400 os) #[.agg #[.int .i64 0, .slice none 0 0, .int .i64 0], .slice none 0 0, .int .i64 0, .int .i64 0, .int .i64 0, .int .i64 0] 8 rfl (World.shaped_of_RefB (by kernel_rfl) (by kernel_rfl)) (by kernel_rfl) (by kernel_rfl) (by kernel_rfl) (door_met os _)) ?_
  intro W base args ds gs before hval0 hW hcnd hsz0 hL _
  have hsz : (DataW.weightsEach Tryd.prog (Tryd.f4.params.toList ++ Rows.netTakesSpec.plain.varTypes Tryd.prog) (ds ++ gs)).all (· ≤ reachBytes) = true := hsz0
  have hval : ∀ (j : Nat) t v, Tryd.f4.params.toList[j]? = some t → args.toList[j]? = some v → Value.okWide Tryd.prog W .any base t v := fun j t v h1 h2 => hval0 j t v (by simpa using h1) (by simpa using h2)
  have hW' := hW
  obtain ⟨p, q, hA0, hV, rfl, hfz, hnd⟩ := hW
  have hA : DataW.TrodAll enc Tryd.prog W 0 (fun _ => true) true Tryd.f4.params.toList args.toList ds p := hA0
  obtain ⟨rfl, rfl⟩ := trodVars_none hV
  have hsz' : (DataW.weightsEach Tryd.prog Tryd.f4.params.toList ds).all (· ≤ reachBytes) = true := by
    have e : Tryd.f4.params.toList ++ Rows.netTakesSpec.plain.varTypes Tryd.prog = Tryd.f4.params.toList := by rfl
    rw [e, List.append_nil] at hsz; exact hsz
  rw [Tryd.params4] at hA hval hsz'
  obtain ⟨svs, hr, hfit⟩ := law_args (by kernel_rfl) hA hval hsz'
  clear hA0 hval0 hsz0 hsz
  have hA2 := hA
  obtain ⟨v0, vs0, d0, ds0, p0, q0, hargs0, rfl, rfl, h0, r0⟩ := trodAll_cons hA
  obtain ⟨v1, vs1, d1, ds1, p1, q1, hargs1, rfl, rfl, h1, r1⟩ := trodAll_cons r0
  obtain ⟨v2, vs2, d2, ds2, p2, q2, hargs2, rfl, rfl, h2, r2⟩ := trodAll_cons r1
  obtain ⟨v3, vs3, d3, ds3, p3, q3, hargs3, rfl, rfl, h3, r3⟩ := trodAll_cons r2
  obtain ⟨v4, vs4, d4, ds4, p4, q4, hargs4, rfl, rfl, h4, r4⟩ := trodAll_cons r3
  obtain ⟨v5, vs5, d5, ds5, p5, q5, hargs5, rfl, rfl, h5, r5⟩ := trodAll_cons r4
  obtain ⟨hargs6, rfl, rfl⟩ := trodAll_nil r5
  refine (law_run_at (Go.V.Dec.NetTakes.walk svs hfit) (tableOk hL) hr).mono fun e W' ⟨he, bel⟩ => ?_
  subst he
  have hA3 := law_kept laidOut bel (by kernel_rfl) hA2
  exact ⟨_, rfl, _, _, _, [], _, [], hW', trodAll_mk1 (shut_bool Tryd.underlying4 _), hA3, rfl, bel.frame _, fun h => by cases h⟩
theorem over : Rows.netTakesRow.holds Tryd.pinned (OpenSpec.ofChange Rows.netTakesSpec) :=
  OpenClaim.holds_of_wide 4 Tryd.f4 rfl rfl rfl rfl rfl rfl rfl ⟨rfl, rfl, rfl, rfl, rfl⟩ rfl rfl rfl rfl rfl (by kernel_rfl) Tryd.func4 (by kernel_rfl)
    (of_decide_eq_true (by kernel_rfl)) (by unfold Func.isWrapper; first | (rw [if_pos (by decide +kernel)]; kernel_rfl) | (rw [if_neg (by decide +kernel)]; exact ⟨rfl, rfl⟩))
    (fun os started H enc _ => lifted os started H enc)
theorem proved : Rows.NetTakesCardSaid :=
  Claim7.holds_tied_plain_at .later [] [.data] true (true, "61989bd5f4355c57c0ad883a37530da2c11cfb1a3b121c482e05c07681ae4a18") false
    over (fun _ h => by cases h) (by kernel_rfl) (fun _ h => by cases h) netTakes_row_tie rfl ⟨rfl, rfl⟩ (by kernel_rfl) rfl
    (fun f fn hf hfn => by
      obtain rfl : f = 4 := Option.some.inj ((show Tryd.prog.funcNamed "reredos/reredoslaw.NetTakes" = some 4 by kernel_rfl).symm.trans hf) |>.symm
      obtain rfl : fn = Tryd.f4 := (Option.some.inj (Tryd.func4.symm.trans hfn)).symm
      exact ⟨by kernel_rfl, fun j t ht => by
        rw [Tryd.params4] at ht
        have hm : t ∈ [24, 25, 3, 3, 3, 3] := by simpa using Array.mem_of_getElem? ht
        have hall : ([24, 25, 3, 3, 3, 3].all fun u => !Tryd.prog.wantsStandIn u) = true := by kernel_rfl
        exact (show Tryd.prog.wantsStandIn t = false by simpa using List.all_eq_true.1 hall t hm)⟩)
    (by kernel_rfl)
#print axioms proved
end Go.Proofs.YtnibdpoenfgpjaaDoor.netTakes
namespace Go.Proofs.YtnibdpoenfgpjaaDoor
/-- The card, under a short name, for the claim. -/
theorem netTakes_holds : Rows.NetTakesCardSaid := netTakes.proved
end Go.Proofs.YtnibdpoenfgpjaaDoor
