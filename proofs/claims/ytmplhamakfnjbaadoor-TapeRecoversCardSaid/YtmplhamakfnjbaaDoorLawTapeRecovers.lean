/- The law TapeRecovers returns true at every input, and its arguments read as they did; no condition. -/
import Derived.Test.YtmplhamakfnjbaaDoorRows
import Derived.WalkKit
import Derived.ProofKit
import Derived.OpenShut
import Derived.ShutString
import Derived.ChangeOld
import Derived.Below
import Derived.SizedLaws
import Derived.Handed
import Derived.LaidMore
import Derived.LaidHandle
import Derived.MakeChecks
import Derived.SevenTiedAt
import Derived.Stop.Joined
import Derived.Test.YtmplhamakfnjbaaDoorCards
import Derived.Test.YtmplhamakfnjbaaDoorTie
import Derived.Test.YtmplhamakfnjbaaDoorVD
import Derived.Test.YtmplhamakfnjbaaDoorF5
import Derived.Test.YtmplhamakfnjbaaDoorPTapeRec
set_option linter.unusedVariables false
set_option linter.unusedSimpArgs false
namespace Go.V.Dec.TapeRecovers
open Go Go.Proofs Classical
set_option maxRecDepth 100000
set_option maxHeartbeats 4000000
def Label.ok (x : Label) : Prop := IntKind.i64.has x.Level ∧ IntKind.i64.has x.Cats
theorem Label.ok_of {ds : List D} (h0 : fitCs [.int .i64, .int .i64] ds) : ∃ x : Label, ds = Label.enc x ∧ Label.ok x := by
  obtain ⟨d0, ds0, rfl, f0, h1⟩ := fitCs_cons h0
  obtain ⟨v0, rfl, g0⟩ := fitD_int f0
  obtain ⟨d1, ds1, rfl, f1, h2⟩ := fitCs_cons h1
  obtain ⟨v1, rfl, g1⟩ := fitD_int f1
  obtain rfl := fitCs_nil h2
  exact ⟨(Label.mk v0 v1), rfl, ⟨g0, g1⟩⟩
def Config.ok (x : Config) : Prop := IntKind.i64.has x.Sites ∧ (x.Labels.length ≤ maxLen ∧ x.Labels.length * 16 ≤ reachBytes ∧ ∀ y ∈ x.Labels, Label.ok y) ∧ IntKind.i64.has x.Patience
theorem Config.ok_of {ds : List D} (h0 : fitCs [.int .i64, .sl 2 16 [.int .i64, .int .i64], .int .i64] ds) : ∃ x : Config, ds = Config.enc x ∧ Config.ok x := by
  obtain ⟨d0, ds0, rfl, f0, h1⟩ := fitCs_cons h0
  obtain ⟨v0, rfl, g0⟩ := fitD_int f0
  obtain ⟨d1, ds1, rfl, f1, h2⟩ := fitCs_cons h1
  obtain ⟨rw1, rfl, a1, b1, c1⟩ := fitD_sl f1
  obtain ⟨v1, rfl, e1⟩ := rows_of Label.ok_of c1
  obtain ⟨d2, ds2, rfl, f2, h3⟩ := fitCs_cons h2
  obtain ⟨v2, rfl, g2⟩ := fitD_int f2
  obtain rfl := fitCs_nil h3
  exact ⟨(Config.mk v0 v1 v2), rfl, ⟨g0, ⟨by simpa using a1, by simpa using b1, e1⟩, g2⟩⟩
def okI_u8 (x : Int) : Prop := IntKind.u8.has x
theorem okI_u8_of {ds : List D} (h0 : fitCs [.int .u8] ds) : ∃ x : Int, ds = encU8 x ∧ okI_u8 x := by
  obtain ⟨d0, ds0, rfl, f0, h1⟩ := fitCs_cons h0
  obtain ⟨v0, rfl, g0⟩ := fitD_int f0
  obtain rfl := fitCs_nil h1
  exact ⟨v0, rfl, g0⟩
def Tape.ok (x : Tape) : Prop := (x.Data.length ≤ maxLen ∧ x.Data.length * 1 ≤ reachBytes ∧ ∀ y ∈ x.Data, okI_u8 y) ∧ IntKind.i64.has x.Synced
theorem Tape.ok_of {ds : List D} (h0 : fitCs [.sl 1 1 [.int .u8], .int .i64] ds) : ∃ x : Tape, ds = Tape.enc x ∧ Tape.ok x := by
  obtain ⟨d0, ds0, rfl, f0, h1⟩ := fitCs_cons h0
  obtain ⟨rw0, rfl, a0, b0, c0⟩ := fitD_sl f0
  obtain ⟨v0, rfl, e0⟩ := rows_of okI_u8_of c0
  obtain ⟨d1, ds1, rfl, f1, h2⟩ := fitCs_cons h1
  obtain ⟨v1, rfl, g1⟩ := fitD_int f1
  obtain rfl := fitCs_nil h2
  exact ⟨(Tape.mk v0 v1), rfl, ⟨⟨by simpa using a0, by simpa using b0, e0⟩, g1⟩⟩
noncomputable def GT : Nat → Option (List D) := fun n => if n = 1 then some ((tableBools (H := Unit) Go.Proofs.YtmplhamakfnjbaaDoor.Rows.laid_reredos_wire_records).map D.b) else none
theorem hG : constG GT 1 = .one (.d (.k tab_wire_recordsD)) := by rfl
theorem TapeRecovers_true (p0 : Config) (p1 : Tape) (_ : Config.ok p0) (h : Tape.ok p1) : reredoslaw_TapeRecovers p0 p1 = some true := by
  have hf : fits 1 p1.Data.length := fits_of h.1.1 h.1.2.1
  have hB : bytesB p1.Data := fun x hx => by
    have h := h.1.2.2 x hx
    simp only [okI_u8, IntKind.has, IntKind.min, IntKind.max, IntKind.signed, IntKind.bits] at h
    simp at h
    omega
  obtain ⟨r, e1, e2⟩ := tape_rec_same p0 p1 hB
  simp only [reredoslaw_TapeRecovers, tapes_eq p1 hf, e1, e2, withK, Option.bind_some, sameRecsR, same_eq]
  simp

theorem walk (svs : List SV) (h : fitArgs Tryd.prog [24, 27] svs) : FnRO Tryd.prog GT 4 svs (fun rs => rs = [.one (.b true)]) := by
  match svs, h with
  | [s0, s1], h =>
    obtain ⟨h0, h1, _⟩ := h
    obtain ⟨ds0, f0, rfl⟩ := arg_agg (by kernel_rfl) (by kernel_rfl) h0
    obtain ⟨p0, rfl, k0⟩ := Config.ok_of f0
    obtain ⟨ds1, f1, rfl⟩ := arg_agg (by kernel_rfl) (by kernel_rfl) h1
    obtain ⟨p1, rfl, k1⟩ := Tape.ok_of f1
    exact reredoslaw_TapeRecovers_ok GT hG p0 p1 true (TapeRecovers_true p0 p1 k0 k1)

end Go.V.Dec.TapeRecovers
namespace Go.Proofs.YtmplhamakfnjbaaDoor.tapeRecovers
open Go.ChangeShapes Go.WideShapes Go.ChangeAt Go.RowKit Go.V
theorem own : ownKnob Tryd.prog.godebug = none := by kernel_rfl
theorem laidOut : laidOutB Tryd.prog = true := by kernel_rfl
theorem gNamed : Tryd.prog.globalNamed "reredos/wire.records" = some 1 := by kernel_rfl
theorem gType : (Tryd.prog.globals[1]?).map (·.type) = some 117 := by kernel_rfl
theorem uA : Tryd.prog.underlying 117 = some (.array 7 116) := by kernel_rfl
/-- The door's own heap meets the condition. -/
theorem door_met (os : Os) (args : Array Value) : laidMetH Tryd.prog Rows.tapeRecoversRow.laid ((World.doorLaid Tryd.prog 400 os).forCall (fun _ _ => 0) ⟨#[], args, []⟩).memory :=
  laidMetH_of_parts3 (fuel := 8) (laidMet_of_run' 8 (by kernel_rfl) (by kernel_rfl)) (by kernel_rfl) (by kernel_rfl)
def flds : Array Field := #[{ name := "label", type := 4, offset := 0, embedded := false, tag := "", pkgPath := "reredos/wire", byteOffset := 0 }, { name := "key", type := 4, offset := 1, embedded := false, tag := "", pkgPath := "reredos/wire", byteOffset := 1 }, { name := "value", type := 4, offset := 2, embedded := false, tag := "", pkgPath := "reredos/wire", byteOffset := 2 }, { name := "version", type := 4, offset := 3, embedded := false, tag := "", pkgPath := "reredos/wire", byteOffset := 3 }, { name := "ask", type := 4, offset := 4, embedded := false, tag := "", pkgPath := "reredos/wire", byteOffset := 4 }, { name := "yes", type := 4, offset := 5, embedded := false, tag := "", pkgPath := "reredos/wire", byteOffset := 5 }, { name := "code", type := 4, offset := 6, embedded := false, tag := "", pkgPath := "reredos/wire", byteOffset := 6 }, { name := "sites", type := 4, offset := 7, embedded := false, tag := "", pkgPath := "reredos/wire", byteOffset := 7 }]
theorem uE : Tryd.prog.underlying 116 = some (.struct flds) := by kernel_rfl
theorem fields : ∀ (i : Nat) (f : Field), flds[i]? = some f → f.offset = i ∧ Tryd.prog.underlying f.type = some .bool ∧ Tryd.prog.cellsOf f.type = 1 := by
  intro i f h
  have hb : Tryd.prog.underlying 4 = some .bool := by kernel_rfl
  have hc : Tryd.prog.cellsOf 4 = 1 := by kernel_rfl
  match i, h with
  | 0, h => cases h; exact ⟨rfl, hb, hc⟩
  | 1, h => cases h; exact ⟨rfl, hb, hc⟩
  | 2, h => cases h; exact ⟨rfl, hb, hc⟩
  | 3, h => cases h; exact ⟨rfl, hb, hc⟩
  | 4, h => cases h; exact ⟨rfl, hb, hc⟩
  | 5, h => cases h; exact ⟨rfl, hb, hc⟩
  | 6, h => cases h; exact ⟨rfl, hb, hc⟩
  | 7, h => cases h; exact ⟨rfl, hb, hc⟩
  | _ + 8, h => simp [flds] at h
theorem tableOk {W : World} (h : laidMetH Tryd.prog Rows.tapeRecoversRow.laid W) : GOk Go.V.Dec.TapeRecovers.GT W.heap (fun b => b < W.heap.size) :=
  laid_table (fs := flds) h rfl gNamed gType uA uE fields (by kernel_rfl) (by kernel_rfl)
set_option maxRecDepth 100000 in
theorem lifted (os : Os) (started : os.Started) (H : Type) (enc : TypeId × Value → H) :
    ReturnsInHanded {} Tryd.checked os 4 .any (fun w args => (Rows.tapeRecoversSpec.pre enc Tryd.prog Tryd.f4 [] false w args ∧ laidMetH Tryd.prog Rows.tapeRecoversRow.laid w) ∧ sizedMet enc Tryd.prog Tryd.f4 (OpenSpec.ofChange Rows.tapeRecoversSpec) false w args)
      (Rows.tapeRecoversSpec.post enc Tryd.prog Tryd.f4 false true false false) := by
  refine returnsInHanded_of_change_and (C := Tryd.checked) (X := fun w _ => laidMetH Tryd.prog Rows.tapeRecoversRow.laid w) (fun _ _ _ hh h => h.of_heap hh) own started (by kernel_rfl) Tryd.func4
    (ChangeSpec.witness_shaped (enc := enc) (C := Tryd.checked) (os := os) (X := fun w _ => laidMetH Tryd.prog Rows.tapeRecoversRow.laid w) false (World.doorLaid Tryd.prog 400 os) #[.agg #[.int .i64 0, .slice none 0 0, .int .i64 0], .agg #[.slice none 0 0, .int .i64 0]] 8 rfl (World.shaped_of_RefB (by kernel_rfl) (by kernel_rfl)) (by kernel_rfl) (by kernel_rfl) (by kernel_rfl) (door_met os _)) ?_
  intro W base args ds gs before hval0 hW hcnd hsz0 hL _
  have hsz : (DataW.weightsEach Tryd.prog (Tryd.f4.params.toList ++ Rows.tapeRecoversSpec.plain.varTypes Tryd.prog) (ds ++ gs)).all (· ≤ reachBytes) = true := hsz0
  have hval : ∀ (j : Nat) t v, Tryd.f4.params.toList[j]? = some t → args.toList[j]? = some v → Value.okWide Tryd.prog W .any base t v := fun j t v h1 h2 => hval0 j t v (by simpa using h1) (by simpa using h2)
  have hW' := hW
  obtain ⟨p, q, hA0, hV, rfl, hfz, hnd⟩ := hW
  have hA : DataW.TrodAll enc Tryd.prog W 0 (fun _ => true) true Tryd.f4.params.toList args.toList ds p := hA0
  obtain ⟨rfl, rfl⟩ := trodVars_none hV
  have hsz' : (DataW.weightsEach Tryd.prog Tryd.f4.params.toList ds).all (· ≤ reachBytes) = true := by
    have e : Tryd.f4.params.toList ++ Rows.tapeRecoversSpec.plain.varTypes Tryd.prog = Tryd.f4.params.toList := by rfl
    rw [e, List.append_nil] at hsz; exact hsz
  rw [Tryd.params4] at hA hval hsz'
  obtain ⟨svs, hr, hfit⟩ := law_args (by kernel_rfl) hA hval hsz'
  clear hA0 hval0 hsz0 hsz
  have hA2 := hA
  obtain ⟨v0, vs0, d0, ds0, p0, q0, hargs0, rfl, rfl, h0, r0⟩ := trodAll_cons hA
  obtain ⟨v1, vs1, d1, ds1, p1, q1, hargs1, rfl, rfl, h1, r1⟩ := trodAll_cons r0
  obtain ⟨hargs2, rfl, rfl⟩ := trodAll_nil r1
  refine (law_run_at (Go.V.Dec.TapeRecovers.walk svs hfit) (tableOk hL) hr).mono fun e W' ⟨he, bel⟩ => ?_
  subst he
  have hA3 := law_kept laidOut bel (by kernel_rfl) hA2
  exact ⟨_, rfl, _, _, _, [], _, [], hW', trodAll_mk1 (shut_bool Tryd.underlying4 _), hA3, rfl, bel.frame _, fun h => by cases h⟩
theorem over : Rows.tapeRecoversRow.holds Tryd.pinned (OpenSpec.ofChange Rows.tapeRecoversSpec) :=
  OpenClaim.holds_of_wide 4 Tryd.f4 rfl rfl rfl rfl rfl rfl rfl ⟨rfl, rfl, rfl, rfl, rfl⟩ rfl rfl rfl rfl rfl (by kernel_rfl) Tryd.func4 (by kernel_rfl)
    (of_decide_eq_true (by kernel_rfl)) (by unfold Func.isWrapper; first | (rw [if_pos (by decide +kernel)]; kernel_rfl) | (rw [if_neg (by decide +kernel)]; exact ⟨rfl, rfl⟩))
    (fun os started H enc _ => lifted os started H enc)
theorem proved : Rows.TapeRecoversCardSaid :=
  Claim7.holds_tied_plain_at .later [] [.data] true (true, "d0712c8cf43e9adeb14238861a9f13cd3ccf4ed783f8a30d90fb9da660531b64") false
    over (fun _ h => by cases h) (by kernel_rfl) (fun _ h => by cases h) tapeRecovers_row_tie rfl ⟨rfl, rfl⟩ (by kernel_rfl) rfl
    (fun f fn hf hfn => by
      obtain rfl : f = 4 := Option.some.inj ((show Tryd.prog.funcNamed "reredos/reredoslaw.TapeRecovers" = some 4 by kernel_rfl).symm.trans hf) |>.symm
      obtain rfl : fn = Tryd.f4 := (Option.some.inj (Tryd.func4.symm.trans hfn)).symm
      exact ⟨by kernel_rfl, fun j t ht => by
        rw [Tryd.params4] at ht
        have hm : t ∈ [24, 27] := by simpa using Array.mem_of_getElem? ht
        have hall : ([24, 27].all fun u => !Tryd.prog.wantsStandIn u) = true := by kernel_rfl
        exact (show Tryd.prog.wantsStandIn t = false by simpa using List.all_eq_true.1 hall t hm)⟩)
    (by kernel_rfl)
#print axioms proved
end Go.Proofs.YtmplhamakfnjbaaDoor.tapeRecovers
namespace Go.Proofs.YtmplhamakfnjbaaDoor
/-- The card, under a short name, for the claim. -/
theorem tapeRecovers_holds : Rows.TapeRecoversCardSaid := tapeRecovers.proved
end Go.Proofs.YtmplhamakfnjbaaDoor
