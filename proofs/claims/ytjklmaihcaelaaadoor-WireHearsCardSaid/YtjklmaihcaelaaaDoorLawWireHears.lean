/- The law WireHears returns true at every input, and its arguments read as they did; no condition. -/
import Derived.Test.YtjklmaihcaelaaaDoorRows
import Derived.WalkKit
import Derived.ProofKit
import Derived.OpenShut
import Derived.ShutString
import Derived.ChangeOld
import Derived.Below
import Derived.SizedLaws
import Derived.Handed
import Derived.LaidMore
import Derived.LaidHandle
import Derived.MakeChecks
import Derived.SevenTiedAt
import Derived.Stop.Joined
import Derived.Test.YtjklmaihcaelaaaDoorCards
import Derived.Test.YtjklmaihcaelaaaDoorTie
import Derived.Test.YtjklmaihcaelaaaDoorVD
import Derived.Test.YtjklmaihcaelaaaDoorF2
import Derived.Test.YtjklmaihcaelaaaDoorPDecMsg
set_option linter.unusedVariables false
set_option linter.unusedSimpArgs false
namespace Go.V.Dec.WireHears
open Go Go.Proofs Classical
set_option maxRecDepth 100000
set_option maxHeartbeats 4000000
def Label.ok (x : Label) : Prop := IntKind.i64.has x.Level ∧ IntKind.i64.has x.Cats
theorem Label.ok_of {ds : List D} (h0 : fitCs [.int .i64, .int .i64] ds) : ∃ x : Label, ds = Label.enc x ∧ Label.ok x := by
  obtain ⟨d0, ds0, rfl, f0, h1⟩ := fitCs_cons h0
  obtain ⟨v0, rfl, g0⟩ := fitD_int f0
  obtain ⟨d1, ds1, rfl, f1, h2⟩ := fitCs_cons h1
  obtain ⟨v1, rfl, g1⟩ := fitD_int f1
  obtain rfl := fitCs_nil h2
  exact ⟨(Label.mk v0 v1), rfl, ⟨g0, g1⟩⟩
def Config.ok (x : Config) : Prop := IntKind.i64.has x.Sites ∧ (x.Labels.length ≤ maxLen ∧ x.Labels.length * 16 ≤ reachBytes ∧ ∀ y ∈ x.Labels, Label.ok y) ∧ IntKind.i64.has x.Patience
theorem Config.ok_of {ds : List D} (h0 : fitCs [.int .i64, .sl 2 16 [.int .i64, .int .i64], .int .i64] ds) : ∃ x : Config, ds = Config.enc x ∧ Config.ok x := by
  obtain ⟨d0, ds0, rfl, f0, h1⟩ := fitCs_cons h0
  obtain ⟨v0, rfl, g0⟩ := fitD_int f0
  obtain ⟨d1, ds1, rfl, f1, h2⟩ := fitCs_cons h1
  obtain ⟨rw1, rfl, a1, b1, c1⟩ := fitD_sl f1
  obtain ⟨v1, rfl, e1⟩ := rows_of Label.ok_of c1
  obtain ⟨d2, ds2, rfl, f2, h3⟩ := fitCs_cons h2
  obtain ⟨v2, rfl, g2⟩ := fitD_int f2
  obtain rfl := fitCs_nil h3
  exact ⟨(Config.mk v0 v1 v2), rfl, ⟨g0, ⟨by simpa using a1, by simpa using b1, e1⟩, g2⟩⟩
def okI_u8 (x : Int) : Prop := IntKind.u8.has x
theorem okI_u8_of {ds : List D} (h0 : fitCs [.int .u8] ds) : ∃ x : Int, ds = encU8 x ∧ okI_u8 x := by
  obtain ⟨d0, ds0, rfl, f0, h1⟩ := fitCs_cons h0
  obtain ⟨v0, rfl, g0⟩ := fitD_int f0
  obtain rfl := fitCs_nil h1
  exact ⟨v0, rfl, g0⟩
def okL_okI_u8 (x : List Int) : Prop := (x.length ≤ maxLen ∧ x.length * 1 ≤ reachBytes ∧ ∀ y ∈ x, okI_u8 y)
theorem okL_okI_u8_of {ds : List D} (h0 : fitCs [.sl 1 1 [.int .u8]] ds) : ∃ x : List Int, ds = (encL 1 encU8) x ∧ okL_okI_u8 x := by
  obtain ⟨d0, ds0, rfl, f0, h1⟩ := fitCs_cons h0
  obtain ⟨rw0, rfl, a0, b0, c0⟩ := fitD_sl f0
  obtain ⟨v0, rfl, e0⟩ := rows_of okI_u8_of c0
  obtain rfl := fitCs_nil h1
  exact ⟨v0, rfl, ⟨by simpa using a0, by simpa using b0, e0⟩⟩
noncomputable def GT : Nat → Option (List D) := fun n => if n = 0 then some ((tableBools (H := Unit) Go.Proofs.YtjklmaihcaelaaaDoor.Rows.laid_reredos_wire_messages).map D.b) else none
theorem hG : constG GT 0 = .one (.d (.k tab_wire_messagesD)) := by rfl
theorem WireHears_true (p0 : Config) (p1 : List Int) (h0 : Config.ok p0) (h1 : okL_okI_u8 p1) : reredoslaw_WireHears p0 p1 = some true := by
  have hl : p1.length ≤ 900000000000000 := by have := h1.2.1; unfold reachBytes at this; omega
  have hf : fits 1 p1.length := ⟨by have := h1.2.1; unfold reachBytes at this; omega, h1.1⟩
  have hB : bytesB p1 := fun x hx => by
    have h := h1.2.2 x hx
    simp only [okI_u8, IntKind.has, IntKind.min, IntKind.max, IntKind.signed, IntKind.bits] at h
    simp at h
    omega
  obtain ⟨r, e1, e2⟩ := dec_msg p0 h0.2.1.1 hB hl hf
  simp only [reredoslaw_WireHears, reredoslaw_octets, if_pos hf, e1, e2, withK, Option.bind_some]
  simp

theorem walk (svs : List SV) (h : fitArgs Tryd.prog [24, 25] svs) : FnRO Tryd.prog GT 3 svs (fun rs => rs = [.one (.b true)]) := by
  match svs, h with
  | [s0, s1], h =>
    obtain ⟨h0, h1, _⟩ := h
    obtain ⟨ds0, f0, rfl⟩ := arg_agg (by kernel_rfl) (by kernel_rfl) h0
    obtain ⟨p0, rfl, k0⟩ := Config.ok_of f0
    obtain ⟨d1, f1, rfl⟩ := arg_one (by kernel_rfl) (by kernel_rfl) h1
    obtain ⟨p1, e1, k1⟩ := okL_okI_u8_of f1
    obtain rfl := (List.cons.inj e1).1
    exact reredoslaw_WireHears_ok GT hG p0 p1 true (WireHears_true p0 p1 k0 k1)

end Go.V.Dec.WireHears
namespace Go.Proofs.YtjklmaihcaelaaaDoor.wireHears
open Go.ChangeShapes Go.WideShapes Go.ChangeAt Go.RowKit Go.V
theorem own : ownKnob Tryd.prog.godebug = none := by kernel_rfl
theorem laidOut : laidOutB Tryd.prog = true := by kernel_rfl
theorem gNamed : Tryd.prog.globalNamed "reredos/wire.messages" = some 0 := by kernel_rfl
theorem gType : (Tryd.prog.globals[0]?).map (·.type) = some 59 := by kernel_rfl
theorem uA : Tryd.prog.underlying 59 = some (.array 10 58) := by kernel_rfl
/-- The door's own heap meets the condition. -/
theorem door_met (os : Os) (args : Array Value) : laidMetH Tryd.prog Rows.wireHearsRow.laid ((World.doorLaid Tryd.prog 400 os).forCall (fun _ _ => 0) ⟨#[], args, []⟩).memory :=
  laidMetH_of_parts3 (fuel := 8) (laidMet_of_run' 8 (by kernel_rfl) (by kernel_rfl)) (by kernel_rfl) (by kernel_rfl)
def flds : Array Field := #[{ name := "label", type := 4, offset := 0, embedded := false, tag := "", pkgPath := "reredos/wire", byteOffset := 0 }, { name := "key", type := 4, offset := 1, embedded := false, tag := "", pkgPath := "reredos/wire", byteOffset := 1 }, { name := "value", type := 4, offset := 2, embedded := false, tag := "", pkgPath := "reredos/wire", byteOffset := 2 }, { name := "version", type := 4, offset := 3, embedded := false, tag := "", pkgPath := "reredos/wire", byteOffset := 3 }, { name := "ask", type := 4, offset := 4, embedded := false, tag := "", pkgPath := "reredos/wire", byteOffset := 4 }, { name := "yes", type := 4, offset := 5, embedded := false, tag := "", pkgPath := "reredos/wire", byteOffset := 5 }, { name := "code", type := 4, offset := 6, embedded := false, tag := "", pkgPath := "reredos/wire", byteOffset := 6 }, { name := "sites", type := 4, offset := 7, embedded := false, tag := "", pkgPath := "reredos/wire", byteOffset := 7 }]
theorem uE : Tryd.prog.underlying 58 = some (.struct flds) := by kernel_rfl
theorem fields : ∀ (i : Nat) (f : Field), flds[i]? = some f → f.offset = i ∧ Tryd.prog.underlying f.type = some .bool ∧ Tryd.prog.cellsOf f.type = 1 := by
  intro i f h
  have hb : Tryd.prog.underlying 4 = some .bool := by kernel_rfl
  have hc : Tryd.prog.cellsOf 4 = 1 := by kernel_rfl
  match i, h with
  | 0, h => cases h; exact ⟨rfl, hb, hc⟩
  | 1, h => cases h; exact ⟨rfl, hb, hc⟩
  | 2, h => cases h; exact ⟨rfl, hb, hc⟩
  | 3, h => cases h; exact ⟨rfl, hb, hc⟩
  | 4, h => cases h; exact ⟨rfl, hb, hc⟩
  | 5, h => cases h; exact ⟨rfl, hb, hc⟩
  | 6, h => cases h; exact ⟨rfl, hb, hc⟩
  | 7, h => cases h; exact ⟨rfl, hb, hc⟩
  | _ + 8, h => simp [flds] at h
theorem tableOk {W : World} (h : laidMetH Tryd.prog Rows.wireHearsRow.laid W) : GOk Go.V.Dec.WireHears.GT W.heap (fun b => b < W.heap.size) :=
  laid_table (fs := flds) h rfl gNamed gType uA uE fields (by kernel_rfl) (by kernel_rfl)
set_option maxRecDepth 100000 in
theorem lifted (os : Os) (started : os.Started) (H : Type) (enc : TypeId × Value → H) :
    ReturnsInHanded {} Tryd.checked os 3 .any (fun w args => (Rows.wireHearsSpec.pre enc Tryd.prog Tryd.f3 [] false w args ∧ laidMetH Tryd.prog Rows.wireHearsRow.laid w) ∧ sizedMet enc Tryd.prog Tryd.f3 (OpenSpec.ofChange Rows.wireHearsSpec) false w args)
      (Rows.wireHearsSpec.post enc Tryd.prog Tryd.f3 false true false false) := by
  refine returnsInHanded_of_change_and (C := Tryd.checked) (X := fun w _ => laidMetH Tryd.prog Rows.wireHearsRow.laid w) (fun _ _ _ hh h => h.of_heap hh) own started (by kernel_rfl) Tryd.func3
    (ChangeSpec.witness_shaped (enc := enc) (C := Tryd.checked) (os := os) (X := fun w _ => laidMetH Tryd.prog Rows.wireHearsRow.laid w) false (World.doorLaid Tryd.prog 400 os) #[.agg #[.int .i64 0, .slice none 0 0, .int .i64 0], .slice none 0 0] 8 rfl (World.shaped_of_RefB (by kernel_rfl) (by kernel_rfl)) (by kernel_rfl) (by kernel_rfl) (by kernel_rfl) (door_met os _)) ?_
  intro W base args ds gs before hval0 hW hcnd hsz0 hL _
  have hsz : (DataW.weightsEach Tryd.prog (Tryd.f3.params.toList ++ Rows.wireHearsSpec.plain.varTypes Tryd.prog) (ds ++ gs)).all (· ≤ reachBytes) = true := hsz0
  have hval : ∀ (j : Nat) t v, Tryd.f3.params.toList[j]? = some t → args.toList[j]? = some v → Value.okWide Tryd.prog W .any base t v := fun j t v h1 h2 => hval0 j t v (by simpa using h1) (by simpa using h2)
  have hW' := hW
  obtain ⟨p, q, hA0, hV, rfl, hfz, hnd⟩ := hW
  have hA : DataW.TrodAll enc Tryd.prog W 0 (fun _ => true) true Tryd.f3.params.toList args.toList ds p := hA0
  obtain ⟨rfl, rfl⟩ := trodVars_none hV
  have hsz' : (DataW.weightsEach Tryd.prog Tryd.f3.params.toList ds).all (· ≤ reachBytes) = true := by
    have e : Tryd.f3.params.toList ++ Rows.wireHearsSpec.plain.varTypes Tryd.prog = Tryd.f3.params.toList := by rfl
    rw [e, List.append_nil] at hsz; exact hsz
  rw [Tryd.params3] at hA hval hsz'
  obtain ⟨svs, hr, hfit⟩ := law_args (by kernel_rfl) hA hval hsz'
  clear hA0 hval0 hsz0 hsz
  have hA2 := hA
  obtain ⟨v0, vs0, d0, ds0, p0, q0, hargs0, rfl, rfl, h0, r0⟩ := trodAll_cons hA
  obtain ⟨v1, vs1, d1, ds1, p1, q1, hargs1, rfl, rfl, h1, r1⟩ := trodAll_cons r0
  obtain ⟨hargs2, rfl, rfl⟩ := trodAll_nil r1
  refine (law_run_at (Go.V.Dec.WireHears.walk svs hfit) (tableOk hL) hr).mono fun e W' ⟨he, bel⟩ => ?_
  subst he
  have hA3 := law_kept laidOut bel (by kernel_rfl) hA2
  exact ⟨_, rfl, _, _, _, [], _, [], hW', trodAll_mk1 (shut_bool Tryd.underlying4 _), hA3, rfl, bel.frame _, fun h => by cases h⟩
theorem over : Rows.wireHearsRow.holds Tryd.pinned (OpenSpec.ofChange Rows.wireHearsSpec) :=
  OpenClaim.holds_of_wide 3 Tryd.f3 rfl rfl rfl rfl rfl rfl rfl ⟨rfl, rfl, rfl, rfl, rfl⟩ rfl rfl rfl rfl rfl (by kernel_rfl) Tryd.func3 (by kernel_rfl)
    (of_decide_eq_true (by kernel_rfl)) (by unfold Func.isWrapper; first | (rw [if_pos (by decide +kernel)]; kernel_rfl) | (rw [if_neg (by decide +kernel)]; exact ⟨rfl, rfl⟩))
    (fun os started H enc _ => lifted os started H enc)
theorem proved : Rows.WireHearsCardSaid :=
  Claim7.holds_tied_plain_at .later [] [.data] true (true, "40a6d4049b47b7fc5864b80bcef3c4a4f0c772ac7a5099e79cf86af5364a179c") false
    over (fun _ h => by cases h) (by kernel_rfl) (fun _ h => by cases h) wireHears_row_tie rfl ⟨rfl, rfl⟩ (by kernel_rfl) rfl
    (fun f fn hf hfn => by
      obtain rfl : f = 3 := Option.some.inj ((show Tryd.prog.funcNamed "reredos/reredoslaw.WireHears" = some 3 by kernel_rfl).symm.trans hf) |>.symm
      obtain rfl : fn = Tryd.f3 := (Option.some.inj (Tryd.func3.symm.trans hfn)).symm
      exact ⟨by kernel_rfl, fun j t ht => by
        rw [Tryd.params3] at ht
        have hm : t ∈ [24, 25] := by simpa using Array.mem_of_getElem? ht
        have hall : ([24, 25].all fun u => !Tryd.prog.wantsStandIn u) = true := by kernel_rfl
        exact (show Tryd.prog.wantsStandIn t = false by simpa using List.all_eq_true.1 hall t hm)⟩)
    (by kernel_rfl)
#print axioms proved
end Go.Proofs.YtjklmaihcaelaaaDoor.wireHears
namespace Go.Proofs.YtjklmaihcaelaaaDoor
/-- The card, under a short name, for the claim. -/
theorem wireHears_holds : Rows.WireHearsCardSaid := wireHears.proved
end Go.Proofs.YtjklmaihcaelaaaDoor
