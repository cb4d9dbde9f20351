/- The law RecoverRebuilds returns true at every input, and its arguments read as they did; no condition. -/
import Derived.Test.YtjklmaihcaelaaaDoorRows
import Derived.WalkKit
import Derived.ProofKit
import Derived.OpenShut
import Derived.ShutString
import Derived.ChangeOld
import Derived.Below
import Derived.SizedLaws
import Derived.Handed
import Derived.LaidMore
import Derived.LaidHandle
import Derived.MakeChecks
import Derived.SevenTiedAt
import Derived.Stop.Joined
import Derived.Test.YtjklmaihcaelaaaDoorCards
import Derived.Test.YtjklmaihcaelaaaDoorTie
import Derived.Test.YtjklmaihcaelaaaDoorVD
import Derived.Test.YtjklmaihcaelaaaDoorG4
import Derived.Test.YtjklmaihcaelaaaDoorQRecover
set_option linter.unusedVariables false
set_option linter.unusedSimpArgs false
namespace Go.V.Dec.RecoverRebuilds
open Go Go.Proofs Classical
set_option maxRecDepth 100000
set_option maxHeartbeats 4000000
def Label.ok (x : Label) : Prop := IntKind.i64.has x.Level ∧ IntKind.i64.has x.Cats
theorem Label.ok_of {ds : List D} (h0 : fitCs [.int .i64, .int .i64] ds) : ∃ x : Label, ds = Label.enc x ∧ Label.ok x := by
 obtain ⟨d0, ds0, rfl, f0, h1⟩ := xu h0
 obtain ⟨v0, rfl, g0⟩ := y0i f0
 obtain ⟨d1, ds1, rfl, f1, h2⟩ := xu h1
 obtain ⟨v1, rfl, g1⟩ := y0i f1
 obtain rfl := w0z h2
 exact ⟨(Label.mk v0 v1), rfl, ⟨g0, g1⟩⟩
def Config.ok (x : Config) : Prop := IntKind.i64.has x.Sites ∧ (x.Labels.length ≤ maxLen ∧ x.Labels.length * 16 ≤ reachBytes ∧ ∀ y ∈ x.Labels, Label.ok y) ∧ IntKind.i64.has x.Patience
theorem Config.ok_of {ds : List D} (h0 : fitCs [.int .i64, .sl 2 16 [.int .i64, .int .i64], .int .i64] ds) : ∃ x : Config, ds = Config.enc x ∧ Config.ok x := by
 obtain ⟨d0, ds0, rfl, f0, h1⟩ := xu h0
 obtain ⟨v0, rfl, g0⟩ := y0i f0
 obtain ⟨d1, ds1, rfl, f1, h2⟩ := xu h1
 obtain ⟨rw1, rfl, a1, b1, c1⟩ := y3r f1
 obtain ⟨v1, rfl, e1⟩ := y2q Label.ok_of c1
 obtain ⟨d2, ds2, rfl, f2, h3⟩ := xu h2
 obtain ⟨v2, rfl, g2⟩ := y0i f2
 obtain rfl := w0z h3
 exact ⟨(Config.mk v0 v1 v2), rfl, ⟨g0, ⟨by simpa using a1, by simpa using b1, e1⟩, g2⟩⟩
def v4m (x : Int) : Prop := IntKind.i64.has x
theorem z3a {ds : List D} (h0 : fitCs [.int .i64] ds) : ∃ x : Int, ds = encI x ∧ v4m x := by
 obtain ⟨d0, ds0, rfl, f0, h1⟩ := xu h0
 obtain ⟨v0, rfl, g0⟩ := y0i f0
 obtain rfl := w0z h1
 exact ⟨v0, rfl, g0⟩
def Record.ok (x : Record) : Prop := IntKind.i64.has x.Kind ∧ IntKind.i64.has x.Txn.Site ∧ IntKind.i64.has x.Txn.N ∧ IntKind.i64.has x.Key ∧ IntKind.i64.has x.Value ∧ IntKind.i64.has x.Ask ∧ (x.Sites.length ≤ maxLen ∧ x.Sites.length * 8 ≤ reachBytes ∧ ∀ y ∈ x.Sites, v4m y)
theorem Record.ok_of {ds : List D} (h0 : fitCs [.int .i64, .int .i64, .int .i64, .int .i64, .int .i64, .int .i64, .bool, .sl 1 8 [.int .i64]] ds) : ∃ x : Record, ds = Record.enc x ∧ Record.ok x := by
 obtain ⟨d0, ds0, rfl, f0, h1⟩ := xu h0
 obtain ⟨v0, rfl, g0⟩ := y0i f0
 obtain ⟨d1, ds1, rfl, f1, h2⟩ := xu h1
 obtain ⟨v1, rfl, g1⟩ := y0i f1
 obtain ⟨d2, ds2, rfl, f2, h3⟩ := xu h2
 obtain ⟨v2, rfl, g2⟩ := y0i f2
 obtain ⟨d3, ds3, rfl, f3, h4⟩ := xu h3
 obtain ⟨v3, rfl, g3⟩ := y0i f3
 obtain ⟨d4, ds4, rfl, f4, h5⟩ := xu h4
 obtain ⟨v4, rfl, g4⟩ := y0i f4
 obtain ⟨d5, ds5, rfl, f5, h6⟩ := xu h5
 obtain ⟨v5, rfl, g5⟩ := y0i f5
 obtain ⟨d6, ds6, rfl, f6, h7⟩ := xu h6
 obtain ⟨v6, rfl⟩ := x4y f6
 obtain ⟨d7, ds7, rfl, f7, h8⟩ := xu h7
 obtain ⟨rw7, rfl, a7, b7, c7⟩ := y3r f7
 obtain ⟨v7, rfl, e7⟩ := y2q z3a c7
 obtain rfl := w0z h8
 exact ⟨(Record.mk v0 (Txn.mk v1 v2) v3 v4 v5 v6 v7), rfl, ⟨g0, g1, g2, g3, g4, g5, ⟨by simpa using a7, by simpa using b7, e7⟩⟩⟩
def v1r (x : List Record) : Prop := (x.length ≤ maxLen ∧ x.length * 80 ≤ reachBytes ∧ ∀ y ∈ x, Record.ok y)
theorem y2h {ds : List D} (h0 : fitCs [.sl 8 80 [.int .i64, .int .i64, .int .i64, .int .i64, .int .i64, .int .i64, .bool, .sl 1 8 [.int .i64]]] ds) : ∃ x : List Record, ds = (encL 8 Record.enc) x ∧ v1r x := by
 obtain ⟨d0, ds0, rfl, f0, h1⟩ := xu h0
 obtain ⟨rw0, rfl, a0, b0, c0⟩ := y3r f0
 obtain ⟨v0, rfl, e0⟩ := y2q Record.ok_of c0
 obtain rfl := w0z h1
 exact ⟨v0, rfl, ⟨by simpa using a0, by simpa using b0, e0⟩⟩
noncomputable def GT : Nat → Option (List D) := fun n => if n = 1 then some ((z0n (H := Unit) Go.Proofs.YtjklmaihcaelaaaDoor.Rows.laid_reredos_wire_records).map D.b) else none
theorem hG1 : z1j GT 1 = .one (.d (.k wy)) := by rfl
theorem v1j (p0 : Config) (p1 : Int) (p2 : List Record) (h0 : Config.ok p0) (h1 : IntKind.i64.has p1) (h2 : v1r p2) : uo p0 p1 p2 = some true :=
 z3n p0 p1 p2 (x4c h2.1 h2.2.1) fun r hr => by
  have := (h2.2.2 r hr).2.2.2.2.2.2
  exact x4c this.1 this.2.1

theorem walk (svs : List SV) (h : u2t Tryd.prog [24, 3, 35] svs) : FnRO Tryd.prog GT 4 svs (fun rs => rs = [.one (.b true)]) := by
 match svs, h with
 | [s0, s1, s2], h =>
  obtain ⟨h0, h1, h2, _⟩ := h
  obtain ⟨ds0, f0, rfl⟩ := arg_agg (by kernel_rfl) (by kernel_rfl) h0
  obtain ⟨p0, rfl, k0⟩ := Config.ok_of f0
  obtain ⟨d1, f1, rfl⟩ := y4q (by kernel_rfl) (by kernel_rfl) h1
  obtain ⟨p1, e1, k1⟩ := z3a f1
  obtain rfl := (List.cons.inj e1).1
  obtain ⟨d2, f2, rfl⟩ := y4q (by kernel_rfl) (by kernel_rfl) h2
  obtain ⟨p2, e2, k2⟩ := y2h f2
  obtain rfl := (List.cons.inj e2).1
  exact u0q GT hG1 p0 p1 p2 true (v1j p0 p1 p2 k0 k1 k2)

end Go.V.Dec.RecoverRebuilds
namespace Go.Proofs.YtjklmaihcaelaaaDoor.recoverRebuilds
open Go.ChangeShapes Go.WideShapes Go.ChangeAt Go.RowKit Go.V
theorem own : ownKnob Tryd.prog.godebug = none := by kernel_rfl
theorem laidOut : laidOutB Tryd.prog = true := by kernel_rfl
theorem gNamed : Tryd.prog.globalNamed "reredos/wire.records" = some 1 := by kernel_rfl
theorem gType : (Tryd.prog.globals[1]?).map (·.type) = some 104 := by kernel_rfl
theorem uA : Tryd.prog.underlying 104 = some (.array 7 58) := by kernel_rfl
/-- The door's own heap meets the condition. -/
theorem v5k (os : Os) (args : Array Value) : laidMetH Tryd.prog Rows.recoverRebuildsRow.laid ((World.doorLaid Tryd.prog 400 os).forCall (fun _ _ => 0) ⟨#[], args, []⟩).memory :=
  laidMetH_of_parts3 (fuel := 8) (laidMet_of_run' 8 (by kernel_rfl) (by kernel_rfl)) (by kernel_rfl) (by kernel_rfl)
def flds : Array Field := #[{ name := "label", type := 4, offset := 0, embedded := false, tag := "", pkgPath := "reredos/wire", byteOffset := 0 }, { name := "key", type := 4, offset := 1, embedded := false, tag := "", pkgPath := "reredos/wire", byteOffset := 1 }, { name := "value", type := 4, offset := 2, embedded := false, tag := "", pkgPath := "reredos/wire", byteOffset := 2 }, { name := "version", type := 4, offset := 3, embedded := false, tag := "", pkgPath := "reredos/wire", byteOffset := 3 }, { name := "ask", type := 4, offset := 4, embedded := false, tag := "", pkgPath := "reredos/wire", byteOffset := 4 }, { name := "yes", type := 4, offset := 5, embedded := false, tag := "", pkgPath := "reredos/wire", byteOffset := 5 }, { name := "code", type := 4, offset := 6, embedded := false, tag := "", pkgPath := "reredos/wire", byteOffset := 6 }, { name := "sites", type := 4, offset := 7, embedded := false, tag := "", pkgPath := "reredos/wire", byteOffset := 7 }]
theorem uE : Tryd.prog.underlying 58 = some (.struct flds) := by kernel_rfl
theorem fields : ∀ (i : Nat) (f : Field), flds[i]? = some f → f.offset = i ∧ Tryd.prog.underlying f.type = some .bool ∧ Tryd.prog.cellsOf f.type = 1 := by
  intro i f h
  have hb : Tryd.prog.underlying 4 = some .bool := by kernel_rfl
  have hc : Tryd.prog.cellsOf 4 = 1 := by kernel_rfl
  match i, h with
  | 0, h => cases h; exact ⟨rfl, hb, hc⟩
  | 1, h => cases h; exact ⟨rfl, hb, hc⟩
  | 2, h => cases h; exact ⟨rfl, hb, hc⟩
  | 3, h => cases h; exact ⟨rfl, hb, hc⟩
  | 4, h => cases h; exact ⟨rfl, hb, hc⟩
  | 5, h => cases h; exact ⟨rfl, hb, hc⟩
  | 6, h => cases h; exact ⟨rfl, hb, hc⟩
  | 7, h => cases h; exact ⟨rfl, hb, hc⟩
  | _ + 8, h => simp [flds] at h
theorem tableOk {W : World} (h : laidMetH Tryd.prog Rows.recoverRebuildsRow.laid W) : GOk Go.V.Dec.RecoverRebuilds.GT W.heap (fun b => b < W.heap.size) :=
  u4i (fs := flds) h rfl gNamed gType uA uE fields (by kernel_rfl) (by kernel_rfl)
set_option maxRecDepth 100000 in
theorem lifted (os : Os) (started : os.Started) (H : Type) (enc : TypeId × Value → H) :
    ReturnsInHanded {} Tryd.checked os 4 .any (fun w args => (Rows.recoverRebuildsSpec.pre enc Tryd.prog Tryd.f4 [] false w args ∧ laidMetH Tryd.prog Rows.recoverRebuildsRow.laid w) ∧ sizedMet enc Tryd.prog Tryd.f4 (OpenSpec.ofChange Rows.recoverRebuildsSpec) false w args)
      (Rows.recoverRebuildsSpec.post enc Tryd.prog Tryd.f4 false true false false) := by
  refine returnsInHanded_of_change_and (C := Tryd.checked) (X := fun w _ => laidMetH Tryd.prog Rows.recoverRebuildsRow.laid w) (fun _ _ _ hh h => h.of_heap hh) own started (by kernel_rfl) Tryd.func4
    (ChangeSpec.witness_shaped (enc := enc) (C := Tryd.checked) (os := os) (X := fun w _ => laidMetH Tryd.prog Rows.recoverRebuildsRow.laid w) false (World.doorLaid Tryd.prog 400 os) #[.agg #[.int .i64 0, .slice none 0 0, .int .i64 0], .int .i64 0, .slice none 0 0] 8 rfl (World.shaped_of_RefB (by kernel_rfl) (by kernel_rfl)) (by kernel_rfl) (by kernel_rfl) (by kernel_rfl) (v5k os _)) ?_
  intro W base args ds gs before hval0 hW hcnd hsz0 hL _
  have hsz : (DataW.weightsEach Tryd.prog (Tryd.f4.params.toList ++ Rows.recoverRebuildsSpec.plain.varTypes Tryd.prog) (ds ++ gs)).all (· ≤ reachBytes) = true := hsz0
  have hval : ∀ (j : Nat) t v, Tryd.f4.params.toList[j]? = some t → args.toList[j]? = some v → Value.okWide Tryd.prog W .any base t v := fun j t v h1 h2 => hval0 j t v (by simpa using h1) (by simpa using h2)
  have hW' := hW
  obtain ⟨p, q, hA0, hV, rfl, hfz, hnd⟩ := hW
  have hA : DataW.TrodAll enc Tryd.prog W 0 (fun _ => true) true Tryd.f4.params.toList args.toList ds p := hA0
  obtain ⟨rfl, rfl⟩ := trodVars_none hV
  have hsz' : (DataW.weightsEach Tryd.prog Tryd.f4.params.toList ds).all (· ≤ reachBytes) = true := by
    have e : Tryd.f4.params.toList ++ Rows.recoverRebuildsSpec.plain.varTypes Tryd.prog = Tryd.f4.params.toList := by rfl
    rw [e, List.append_nil] at hsz; exact hsz
  rw [Tryd.params4] at hA hval hsz'
  obtain ⟨svs, hr, hfit⟩ := w5i (by kernel_rfl) hA hval hsz'
  clear hA0 hval0 hsz0 hsz
  have hA2 := hA
  obtain ⟨v0, vs0, d0, ds0, p0, q0, hargs0, rfl, rfl, h0, r0⟩ := trodAll_cons hA
  obtain ⟨v1, vs1, d1, ds1, p1, q1, hargs1, rfl, rfl, h1, r1⟩ := trodAll_cons r0
  obtain ⟨v2, vs2, d2, ds2, p2, q2, hargs2, rfl, rfl, h2, r2⟩ := trodAll_cons r1
  obtain ⟨hargs3, rfl, rfl⟩ := trodAll_nil r2
  refine (v4i (Go.V.Dec.RecoverRebuilds.walk svs hfit) (tableOk hL) hr).mono fun e W' ⟨he, bel⟩ => ?_
  subst he
  have hA3 := x4a laidOut bel (by kernel_rfl) hA2
  exact ⟨_, rfl, _, _, _, [], _, [], hW', trodAll_mk1 (shut_bool Tryd.underlying4 _), hA3, rfl, bel.frame _, fun h => by cases h⟩
theorem over : Rows.recoverRebuildsRow.holds Tryd.pinned (OpenSpec.ofChange Rows.recoverRebuildsSpec) :=
  OpenClaim.holds_of_wide 4 Tryd.f4 rfl rfl rfl rfl rfl rfl rfl ⟨rfl, rfl, rfl, rfl, rfl⟩ rfl rfl rfl rfl rfl (by kernel_rfl) Tryd.func4 (by kernel_rfl)
    (of_decide_eq_true (by kernel_rfl)) (by unfold Func.isWrapper; first | (rw [if_pos (by decide +kernel)]; kernel_rfl) | (rw [if_neg (by decide +kernel)]; exact ⟨rfl, rfl⟩))
    (fun os started H enc _ => lifted os started H enc)
theorem proved : Rows.RecoverRebuildsCardSaid :=
  Claim7.holds_tied_plain_at .later [] [.data] true (true, "40a6d4049b47b7fc5864b80bcef3c4a4f0c772ac7a5099e79cf86af5364a179c") false
    over (fun _ h => by cases h) (by kernel_rfl) (fun _ h => by cases h) recoverRebuilds_row_tie rfl ⟨rfl, rfl⟩ (by kernel_rfl) rfl
    (fun f fn hf hfn => by
      obtain rfl : f = 4 := Option.some.inj ((show Tryd.prog.funcNamed "reredos/reredoslaw.RecoverRebuilds" = some 4 by kernel_rfl).symm.trans hf) |>.symm
      obtain rfl : fn = Tryd.f4 := (Option.some.inj (Tryd.func4.symm.trans hfn)).symm
      exact ⟨by kernel_rfl, fun j t ht => by
        rw [Tryd.params4] at ht
        have hm : t ∈ [24, 3, 35] := by simpa using Array.mem_of_getElem? ht
        have hall : ([24, 3, 35].all fun u => !Tryd.prog.wantsStandIn u) = true := by kernel_rfl
        exact (show Tryd.prog.wantsStandIn t = false by simpa using List.all_eq_true.1 hall t hm)⟩)
    (by kernel_rfl)
#print axioms proved
end Go.Proofs.YtjklmaihcaelaaaDoor.recoverRebuilds
namespace Go.Proofs.YtjklmaihcaelaaaDoor
/-- The card, under a short name, for the claim. -/
theorem recoverRebuilds_holds : Rows.RecoverRebuildsCardSaid := recoverRebuilds.proved
end Go.Proofs.YtjklmaihcaelaaaDoor
