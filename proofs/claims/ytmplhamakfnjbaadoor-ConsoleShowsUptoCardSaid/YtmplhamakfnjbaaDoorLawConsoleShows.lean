/- The law ConsoleShows returns true at every input, and its arguments read as they did; no condition. -/
import Derived.Test.YtmplhamakfnjbaaDoorRows
import Derived.WalkKit
import Derived.ProofKit
import Derived.OpenShut
import Derived.ShutString
import Derived.ChangeOld
import Derived.Below
import Derived.SizedLaws
import Derived.Handed
import Derived.LaidMore
import Derived.LaidHandle
import Derived.MakeChecks
import Derived.SevenTiedAt
import Derived.Stop.Joined
import Derived.Deep.DeepHandedRow
import Derived.Test.YtmplhamakfnjbaaDoorCards
import Derived.Test.YtmplhamakfnjbaaDoorTie
import Derived.Test.YtmplhamakfnjbaaDoorVD
import Derived.Test.YtmplhamakfnjbaaDoorH2
import Derived.Test.YtmplhamakfnjbaaDoorRConsoleShow
set_option linter.unusedVariables false
set_option linter.unusedSimpArgs false
namespace Go.V.Dec.ConsoleShows
open Go Go.Proofs Classical
set_option maxRecDepth 100000
set_option maxHeartbeats 4000000
def Label.ok (x : Label) : Prop := IntKind.i64.has x.Level ∧ IntKind.i64.has x.Cats
theorem Label.ok_of {ds : List D} (h0 : fitCs [.int .i64, .int .i64] ds) : ∃ x : Label, ds = Label.enc x ∧ Label.ok x := by
  obtain ⟨d0, ds0, rfl, f0, h1⟩ := fitCs_cons h0
  obtain ⟨v0, rfl, g0⟩ := fitD_int f0
  obtain ⟨d1, ds1, rfl, f1, h2⟩ := fitCs_cons h1
  obtain ⟨v1, rfl, g1⟩ := fitD_int f1
  obtain rfl := fitCs_nil h2
  exact ⟨(Label.mk v0 v1), rfl, ⟨g0, g1⟩⟩
def Config.ok (x : Config) : Prop := IntKind.i64.has x.Sites ∧ (x.Labels.length ≤ maxLen ∧ x.Labels.length * 16 ≤ reachBytes ∧ ∀ y ∈ x.Labels, Label.ok y) ∧ IntKind.i64.has x.Patience
theorem Config.ok_of {ds : List D} (h0 : fitCs [.int .i64, .sl 2 16 [.int .i64, .int .i64], .int .i64] ds) : ∃ x : Config, ds = Config.enc x ∧ Config.ok x := by
  obtain ⟨d0, ds0, rfl, f0, h1⟩ := fitCs_cons h0
  obtain ⟨v0, rfl, g0⟩ := fitD_int f0
  obtain ⟨d1, ds1, rfl, f1, h2⟩ := fitCs_cons h1
  obtain ⟨rw1, rfl, a1, b1, c1⟩ := fitD_sl f1
  obtain ⟨v1, rfl, e1⟩ := rows_of Label.ok_of c1
  obtain ⟨d2, ds2, rfl, f2, h3⟩ := fitCs_cons h2
  obtain ⟨v2, rfl, g2⟩ := fitD_int f2
  obtain rfl := fitCs_nil h3
  exact ⟨(Config.mk v0 v1 v2), rfl, ⟨g0, ⟨by simpa using a1, by simpa using b1, e1⟩, g2⟩⟩
def okI_i64 (x : Int) : Prop := IntKind.i64.has x
theorem okI_i64_of {ds : List D} (h0 : fitCs [.int .i64] ds) : ∃ x : Int, ds = encI x ∧ okI_i64 x := by
  obtain ⟨d0, ds0, rfl, f0, h1⟩ := fitCs_cons h0
  obtain ⟨v0, rfl, g0⟩ := fitD_int f0
  obtain rfl := fitCs_nil h1
  exact ⟨v0, rfl, g0⟩
def Item.ok (x : Item) : Prop := IntKind.i64.has x.Key ∧ IntKind.i64.has x.Value ∧ IntKind.i64.has x.Version
theorem Item.ok_of {ds : List D} (h0 : fitCs [.int .i64, .int .i64, .int .i64] ds) : ∃ x : Item, ds = Item.enc x ∧ Item.ok x := by
  obtain ⟨d0, ds0, rfl, f0, h1⟩ := fitCs_cons h0
  obtain ⟨v0, rfl, g0⟩ := fitD_int f0
  obtain ⟨d1, ds1, rfl, f1, h2⟩ := fitCs_cons h1
  obtain ⟨v1, rfl, g1⟩ := fitD_int f1
  obtain ⟨d2, ds2, rfl, f2, h3⟩ := fitCs_cons h2
  obtain ⟨v2, rfl, g2⟩ := fitD_int f2
  obtain rfl := fitCs_nil h3
  exact ⟨(Item.mk v0 v1 v2), rfl, ⟨g0, g1, g2⟩⟩
def Lock.ok (x : Lock) : Prop := IntKind.i64.has x.Txn.Site ∧ IntKind.i64.has x.Txn.N ∧ IntKind.i64.has x.Key ∧ IntKind.i64.has x.Value ∧ IntKind.i64.has x.Ask
theorem Lock.ok_of {ds : List D} (h0 : fitCs [.int .i64, .int .i64, .int .i64, .bool, .int .i64, .int .i64] ds) : ∃ x : Lock, ds = Lock.enc x ∧ Lock.ok x := by
  obtain ⟨d0, ds0, rfl, f0, h1⟩ := fitCs_cons h0
  obtain ⟨v0, rfl, g0⟩ := fitD_int f0
  obtain ⟨d1, ds1, rfl, f1, h2⟩ := fitCs_cons h1
  obtain ⟨v1, rfl, g1⟩ := fitD_int f1
  obtain ⟨d2, ds2, rfl, f2, h3⟩ := fitCs_cons h2
  obtain ⟨v2, rfl, g2⟩ := fitD_int f2
  obtain ⟨d3, ds3, rfl, f3, h4⟩ := fitCs_cons h3
  obtain ⟨v3, rfl⟩ := fitD_bool f3
  obtain ⟨d4, ds4, rfl, f4, h5⟩ := fitCs_cons h4
  obtain ⟨v4, rfl, g4⟩ := fitD_int f4
  obtain ⟨d5, ds5, rfl, f5, h6⟩ := fitCs_cons h5
  obtain ⟨v5, rfl, g5⟩ := fitD_int f5
  obtain rfl := fitCs_nil h6
  exact ⟨(Lock.mk (Txn.mk v0 v1) v2 v3 v4 v5), rfl, ⟨g0, g1, g2, g4, g5⟩⟩
def Doubt.ok (x : Doubt) : Prop := IntKind.i64.has x.Txn.Site ∧ IntKind.i64.has x.Txn.N ∧ IntKind.i64.has x.Age
theorem Doubt.ok_of {ds : List D} (h0 : fitCs [.int .i64, .int .i64, .int .i64] ds) : ∃ x : Doubt, ds = Doubt.enc x ∧ Doubt.ok x := by
  obtain ⟨d0, ds0, rfl, f0, h1⟩ := fitCs_cons h0
  obtain ⟨v0, rfl, g0⟩ := fitD_int f0
  obtain ⟨d1, ds1, rfl, f1, h2⟩ := fitCs_cons h1
  obtain ⟨v1, rfl, g1⟩ := fitD_int f1
  obtain ⟨d2, ds2, rfl, f2, h3⟩ := fitCs_cons h2
  obtain ⟨v2, rfl, g2⟩ := fitD_int f2
  obtain rfl := fitCs_nil h3
  exact ⟨(Doubt.mk (Txn.mk v0 v1) v2), rfl, ⟨g0, g1, g2⟩⟩
def Txn.ok (x : Txn) : Prop := IntKind.i64.has x.Site ∧ IntKind.i64.has x.N
theorem Txn.ok_of {ds : List D} (h0 : fitCs [.int .i64, .int .i64] ds) : ∃ x : Txn, ds = Txn.enc x ∧ Txn.ok x := by
  obtain ⟨d0, ds0, rfl, f0, h1⟩ := fitCs_cons h0
  obtain ⟨v0, rfl, g0⟩ := fitD_int f0
  obtain ⟨d1, ds1, rfl, f1, h2⟩ := fitCs_cons h1
  obtain ⟨v1, rfl, g1⟩ := fitD_int f1
  obtain rfl := fitCs_nil h2
  exact ⟨(Txn.mk v0 v1), rfl, ⟨g0, g1⟩⟩
def Store.ok (x : Store) : Prop := (x.Items.length ≤ maxLen ∧ x.Items.length * 24 ≤ reachBytes ∧ ∀ y ∈ x.Items, Item.ok y) ∧ (x.Locks.length ≤ maxLen ∧ x.Locks.length * 48 ≤ reachBytes ∧ ∀ y ∈ x.Locks, Lock.ok y) ∧ (x.Doubts.length ≤ maxLen ∧ x.Doubts.length * 24 ≤ reachBytes ∧ ∀ y ∈ x.Doubts, Doubt.ok y) ∧ (x.Over.length ≤ maxLen ∧ x.Over.length * 16 ≤ reachBytes ∧ ∀ y ∈ x.Over, Txn.ok y)
theorem Store.ok_of {ds : List D} (h0 : fitCs [.sl 3 24 [.int .i64, .int .i64, .int .i64], .sl 6 48 [.int .i64, .int .i64, .int .i64, .bool, .int .i64, .int .i64], .sl 3 24 [.int .i64, .int .i64, .int .i64], .sl 2 16 [.int .i64, .int .i64]] ds) : ∃ x : Store, ds = Store.enc x ∧ Store.ok x := by
  obtain ⟨d0, ds0, rfl, f0, h1⟩ := fitCs_cons h0
  obtain ⟨rw0, rfl, a0, b0, c0⟩ := fitD_sl f0
  obtain ⟨v0, rfl, e0⟩ := rows_of Item.ok_of c0
  obtain ⟨d1, ds1, rfl, f1, h2⟩ := fitCs_cons h1
  obtain ⟨rw1, rfl, a1, b1, c1⟩ := fitD_sl f1
  obtain ⟨v1, rfl, e1⟩ := rows_of Lock.ok_of c1
  obtain ⟨d2, ds2, rfl, f2, h3⟩ := fitCs_cons h2
  obtain ⟨rw2, rfl, a2, b2, c2⟩ := fitD_sl f2
  obtain ⟨v2, rfl, e2⟩ := rows_of Doubt.ok_of c2
  obtain ⟨d3, ds3, rfl, f3, h4⟩ := fitCs_cons h3
  obtain ⟨rw3, rfl, a3, b3, c3⟩ := fitD_sl f3
  obtain ⟨v3, rfl, e3⟩ := rows_of Txn.ok_of c3
  obtain rfl := fitCs_nil h4
  exact ⟨(Store.mk v0 v1 v2 v3), rfl, ⟨⟨by simpa using a0, by simpa using b0, e0⟩, ⟨by simpa using a1, by simpa using b1, e1⟩, ⟨by simpa using a2, by simpa using b2, e2⟩, ⟨by simpa using a3, by simpa using b3, e3⟩⟩⟩
def okL_Store_ok (x : List Store) : Prop := (x.length ≤ maxLen ∧ x.length * 96 ≤ reachBytes ∧ ∀ y ∈ x, Store.ok y)
theorem okL_Store_ok_of {ds : List D} (h0 : fitCs [.sl 4 96 [.sl 3 24 [.int .i64, .int .i64, .int .i64], .sl 6 48 [.int .i64, .int .i64, .int .i64, .bool, .int .i64, .int .i64], .sl 3 24 [.int .i64, .int .i64, .int .i64], .sl 2 16 [.int .i64, .int .i64]]] ds) : ∃ x : List Store, ds = (encL 4 Store.enc) x ∧ okL_Store_ok x := by
  obtain ⟨d0, ds0, rfl, f0, h1⟩ := fitCs_cons h0
  obtain ⟨rw0, rfl, a0, b0, c0⟩ := fitD_sl f0
  obtain ⟨v0, rfl, e0⟩ := rows_of Store.ok_of c0
  obtain rfl := fitCs_nil h1
  exact ⟨v0, rfl, ⟨by simpa using a0, by simpa using b0, e0⟩⟩
def Note.ok (x : Note) : Prop := IntKind.i64.has x.Txn.Site ∧ IntKind.i64.has x.Txn.N
theorem Note.ok_of {ds : List D} (h0 : fitCs [.int .i64, .int .i64, .bool, .bool] ds) : ∃ x : Note, ds = Note.enc x ∧ Note.ok x := by
  obtain ⟨d0, ds0, rfl, f0, h1⟩ := fitCs_cons h0
  obtain ⟨v0, rfl, g0⟩ := fitD_int f0
  obtain ⟨d1, ds1, rfl, f1, h2⟩ := fitCs_cons h1
  obtain ⟨v1, rfl, g1⟩ := fitD_int f1
  obtain ⟨d2, ds2, rfl, f2, h3⟩ := fitCs_cons h2
  obtain ⟨v2, rfl⟩ := fitD_bool f2
  obtain ⟨d3, ds3, rfl, f3, h4⟩ := fitCs_cons h3
  obtain ⟨v3, rfl⟩ := fitD_bool f3
  obtain rfl := fitCs_nil h4
  exact ⟨(Note.mk (Txn.mk v0 v1) v2 v3), rfl, ⟨g0, g1⟩⟩
def okL_Note_ok (x : List Note) : Prop := (x.length ≤ maxLen ∧ x.length * 24 ≤ reachBytes ∧ ∀ y ∈ x, Note.ok y)
theorem okL_Note_ok_of {ds : List D} (h0 : fitCs [.sl 4 24 [.int .i64, .int .i64, .bool, .bool]] ds) : ∃ x : List Note, ds = (encL 4 Note.enc) x ∧ okL_Note_ok x := by
  obtain ⟨d0, ds0, rfl, f0, h1⟩ := fitCs_cons h0
  obtain ⟨rw0, rfl, a0, b0, c0⟩ := fitD_sl f0
  obtain ⟨v0, rfl, e0⟩ := rows_of Note.ok_of c0
  obtain rfl := fitCs_nil h1
  exact ⟨v0, rfl, ⟨by simpa using a0, by simpa using b0, e0⟩⟩
def okL_okL_Note_ok (x : List (List Note)) : Prop := (x.length ≤ maxLen ∧ x.length * 24 ≤ reachBytes ∧ ∀ y ∈ x, okL_Note_ok y)
theorem okL_okL_Note_ok_of {ds : List D} (h0 : fitCs [.sl 1 24 [.sl 4 24 [.int .i64, .int .i64, .bool, .bool]]] ds) : ∃ x : List (List Note), ds = (encL 1 (encL 4 Note.enc)) x ∧ okL_okL_Note_ok x := by
  obtain ⟨d0, ds0, rfl, f0, h1⟩ := fitCs_cons h0
  obtain ⟨rw0, rfl, a0, b0, c0⟩ := fitD_sl f0
  obtain ⟨v0, rfl, e0⟩ := rows_of okL_Note_ok_of c0
  obtain rfl := fitCs_nil h1
  exact ⟨v0, rfl, ⟨by simpa using a0, by simpa using b0, e0⟩⟩
def Command.ok (x : Command) : Prop := IntKind.i64.has x.Kind ∧ IntKind.i64.has x.Label ∧ IntKind.i64.has x.Txn.Site ∧ IntKind.i64.has x.Txn.N
theorem Command.ok_of {ds : List D} (h0 : fitCs [.int .i64, .int .i64, .int .i64, .int .i64, .bool] ds) : ∃ x : Command, ds = Command.enc x ∧ Command.ok x := by
  obtain ⟨d0, ds0, rfl, f0, h1⟩ := fitCs_cons h0
  obtain ⟨v0, rfl, g0⟩ := fitD_int f0
  obtain ⟨d1, ds1, rfl, f1, h2⟩ := fitCs_cons h1
  obtain ⟨v1, rfl, g1⟩ := fitD_int f1
  obtain ⟨d2, ds2, rfl, f2, h3⟩ := fitCs_cons h2
  obtain ⟨v2, rfl, g2⟩ := fitD_int f2
  obtain ⟨d3, ds3, rfl, f3, h4⟩ := fitCs_cons h3
  obtain ⟨v3, rfl, g3⟩ := fitD_int f3
  obtain ⟨d4, ds4, rfl, f4, h5⟩ := fitCs_cons h4
  obtain ⟨v4, rfl⟩ := fitD_bool f4
  obtain rfl := fitCs_nil h5
  exact ⟨(Command.mk v0 v1 (Txn.mk v2 v3) v4), rfl, ⟨g0, g1, g2, g3⟩⟩
noncomputable def GT : Nat → Option (List D) := fun n => if n = 3 then some (tableD (H := Unit) Go.Proofs.YtmplhamakfnjbaaDoor.Rows.laid_internal_strconv_uint64pow10) else none
theorem hG3 : constG GT 3 = .one (.d (.k tab_strconv_uint64pow10D)) := by rfl
theorem ConsoleShows_true (p0 : Config) (p1 : Int) (p2 : List Store) (p3 : List (List Note)) (p4 : Command) (h0 : Config.ok p0) (h1 : okI_i64 p1) (h2 : okL_Store_ok p2) (h3 : okL_okL_Note_ok p3) (h4 : Command.ok p4)
    (hb : nSVs [.agg (p0.enc.map .d), .one (.d (.i .i64 p1)), .one (.d (.l 4 (p2.map Store.enc))), .one (.d (.l 1 (p3.map (encL 4 Note.enc)))), .agg (p4.enc.map .d)] ≤ 1048576) : reredoslaw_ConsoleShows p0 p1 p2 p3 p4 = some true := by
  simp only [nSVs, nSV, nSCs, nD] at hb
  have hd : ∀ s ∈ p2, s.Doubts.length ≤ 1048576 := fun s hs => by
    have g1 := nRs_mem (List.mem_map_of_mem (f := Store.enc) hs)
    simp only [Store.enc, nCs, nD] at g1
    have g2 := nRs_len (rows := s.Doubts.map Doubt.enc) fun r hr => by
      obtain ⟨x, _, rfl⟩ := List.mem_map.1 hr
      simp [Doubt.enc]
    rw [List.length_map] at g2
    omega
  have hn : ∀ l ∈ p3, l.length ≤ 1048576 := fun l hl => by
    have g1 := nRs_mem (List.mem_map_of_mem (f := encL 4 Note.enc) hl)
    simp only [encL, nCs, nD] at g1
    have g2 := nRs_len (rows := l.map Note.enc) fun r hr => by
      obtain ⟨x, _, rfl⟩ := List.mem_map.1 hr
      simp [Note.enc]
    rw [List.length_map] at g2
    omega
  obtain ⟨r, e1, e2⟩ := shows_same (p0 := p0) (p1 := p1) (p2 := p2) (p3 := p3) (p4 := p4) h0.2.1.1 h2.1 h3.1 (fun s hs => (h2.2.2 s hs).1.1) hd hn
  simp only [reredoslaw_ConsoleShows, e1, e2, withK, Option.bind_some]
  rw [if_pos ⟨by have := h2.2.1; unfold reachBytes at this; omega, h2.1⟩, if_pos ⟨by have := h3.2.1; unfold reachBytes at this; omega, h3.1⟩]
  simp

theorem walk (svs : List SV) (h : fitArgs Tryd.prog [24, 3, 48, 49, 51] svs) (hb : nSVs svs ≤ 1048576) : FnRO Tryd.prog GT 6 svs (fun rs => rs = [.one (.b true)]) := by
  match svs, h, hb with
  | [s0, s1, s2, s3, s4], h, hb =>
    obtain ⟨h0, h1, h2, h3, h4, _⟩ := h
    obtain ⟨ds0, f0, rfl⟩ := arg_agg (by kernel_rfl) (by kernel_rfl) h0
    obtain ⟨p0, rfl, k0⟩ := Config.ok_of f0
    obtain ⟨d1, f1, rfl⟩ := arg_one (by kernel_rfl) (by kernel_rfl) h1
    obtain ⟨p1, e1, k1⟩ := okI_i64_of f1
    obtain rfl := (List.cons.inj e1).1
    obtain ⟨d2, f2, rfl⟩ := arg_one (by kernel_rfl) (by kernel_rfl) h2
    obtain ⟨p2, e2, k2⟩ := okL_Store_ok_of f2
    obtain rfl := (List.cons.inj e2).1
    obtain ⟨d3, f3, rfl⟩ := arg_one (by kernel_rfl) (by kernel_rfl) h3
    obtain ⟨p3, e3, k3⟩ := okL_okL_Note_ok_of f3
    obtain rfl := (List.cons.inj e3).1
    obtain ⟨ds4, f4, rfl⟩ := arg_agg (by kernel_rfl) (by kernel_rfl) h4
    obtain ⟨p4, rfl, k4⟩ := Command.ok_of f4
    exact reredoslaw_ConsoleShows_ok GT hG3 p0 p1 p2 p3 p4 true (ConsoleShows_true p0 p1 p2 p3 p4 k0 k1 k2 k3 k4 hb)

end Go.V.Dec.ConsoleShows
namespace Go.Proofs.YtmplhamakfnjbaaDoor.consoleShows
open Go.ChangeShapes Go.WideShapes Go.ChangeAt Go.RowKit Go.V
theorem own : ownKnob Tryd.prog.godebug = none := by kernel_rfl
theorem laidOut : laidOutB Tryd.prog = true := by kernel_rfl
theorem gNamed0 : Tryd.prog.globalNamed "internal/strconv.uint64pow10" = some 3 := by kernel_rfl
theorem gType0 : (Tryd.prog.globals[3]?).map (·.type) = some 176 := by kernel_rfl
theorem uA0 : Tryd.prog.underlying 176 = some (.array 20 166) := by kernel_rfl
theorem bas0 : Basic Tryd.prog 166 := .inr (.inl ⟨.u64, by kernel_rfl⟩)
/-- The door's own heap meets the condition. -/
theorem door_met (os : Os) (args : Array Value) : laidMetH Tryd.prog Rows.consoleShowsUptoRow.laid ((World.doorLaid Tryd.prog 400 os).forCall (fun _ _ => 0) ⟨#[], args, []⟩).memory :=
  laidMetH_of_parts3 (fuel := 8) (laidMet_of_run' 8 (by kernel_rfl) (by kernel_rfl)) (by kernel_rfl) (by kernel_rfl)
theorem tableOk {W : World} (h : laidMetH Tryd.prog Rows.consoleShowsUptoRow.laid W) : GOk Go.V.Dec.ConsoleShows.GT W.heap (fun b => b < W.heap.size) := by
  have hh : (Rows.consoleShowsUptoRow.laid.all fun x => x.2.handleName?.isNone) = true := by rfl
  intro n cells hn
  unfold Go.V.Dec.ConsoleShows.GT at hn
  by_cases h0 : n = 3
  · subst h0
    simp only [if_true, Nat.reduceEqDiff, if_false, Option.some.injEq] at hn
    subst hn
    exact laid_glob 2 h hh rfl gNamed0 gType0 uA0 bas0 (by kernel_rfl) (by kernel_rfl)
  rw [if_neg h0] at hn
  cases hn
theorem bulkOk {H : Type} : BulkOk (H := H) Rows.uptoBulk Rows.uptoBulkAll := by
  refine ⟨fun d => ?_, by simp [Rows.uptoBulkAll], fun _ _ => by simp [Rows.uptoBulkAll], fun _ _ => by simp only [Rows.uptoBulk]; omega, fun _ => by simp only [Rows.uptoBulk]; omega⟩
  cases d with
  | lit l => cases l <;> simp [Rows.uptoBulk]
  | nil => simp [Rows.uptoBulk]
  | ptr d => simp [Rows.uptoBulk]
  | slice elems spare => simp [Rows.uptoBulk]
  | agg parts => simp [Rows.uptoBulk]
  | iface t d => simp [Rows.uptoBulk]
  | map entries => simp [Rows.uptoBulk]
  | held h => simp [Rows.uptoBulk]
set_option maxRecDepth 100000 in
theorem contract (H : Type) (enc : TypeId × Value → H) (W : World) (base : Nat) (args : Array Value) (ds gs : List (DataW H)) (before : List MemPlace)
    (hval0 : ∀ (j : Nat) t v, Tryd.f6.params[j]? = some t → args[j]? = some v → Value.okWide Tryd.prog W .any base t v)
    (hW : DataW.Whole enc Tryd.prog Tryd.f6.params.toList Rows.consoleShowsSpec.vars false W args.toList ds gs before)
    (hk : Rows.uptoSmall H (ds ++ gs) = true) (hsz0 : (DataW.weightsEach Tryd.prog (Tryd.f6.params.toList ++ Rows.consoleShowsSpec.plain.varTypes Tryd.prog) (ds ++ gs)).all (· ≤ reachBytes) = true) (hL : laidMetH Tryd.prog Rows.consoleShowsUptoRow.laid W) :
    Calls Tryd.prog 6 args W fun e W' => ∃ v, e = .returned v ∧ Rows.consoleShowsSpec.post enc Tryd.prog Tryd.f6 false true false false W args v W' := by
  have hsz : (DataW.weightsEach Tryd.prog (Tryd.f6.params.toList ++ Rows.consoleShowsSpec.plain.varTypes Tryd.prog) (ds ++ gs)).all (· ≤ reachBytes) = true := hsz0
  have hval : ∀ (j : Nat) t v, Tryd.f6.params.toList[j]? = some t → args.toList[j]? = some v → Value.okWide Tryd.prog W .any base t v := fun j t v h1 h2 => hval0 j t v (by simpa using h1) (by simpa using h2)
  have hW' := hW
  obtain ⟨p, q, hA0, hV, rfl, hfz, hnd⟩ := hW
  have hA : DataW.TrodAll enc Tryd.prog W 0 (fun _ => true) true Tryd.f6.params.toList args.toList ds p := hA0
  obtain ⟨rfl, rfl⟩ := trodVars_none hV
  have hsz' : (DataW.weightsEach Tryd.prog Tryd.f6.params.toList ds).all (· ≤ reachBytes) = true := by
    have e : Tryd.f6.params.toList ++ Rows.consoleShowsSpec.plain.varTypes Tryd.prog = Tryd.f6.params.toList := by rfl
    rw [e, List.append_nil] at hsz; exact hsz
  rw [Tryd.params6] at hA hval hsz'
  obtain ⟨svs, hr, hfit, hbk⟩ := law_args_b (by kernel_rfl) hA hval hsz'
  have hbulk : nSVs svs ≤ 1048576 := by
    rw [List.append_nil] at hk
    exact Nat.le_trans (hbk _ _ bulkOk) (of_decide_eq_true hk)
  clear hA0 hval0 hsz0 hsz hk hbk
  have hA2 := hA
  obtain ⟨v0, vs0, d0, ds0, p0, q0, hargs0, rfl, rfl, h0, r0⟩ := trodAll_cons hA
  obtain ⟨v1, vs1, d1, ds1, p1, q1, hargs1, rfl, rfl, h1, r1⟩ := trodAll_cons r0
  obtain ⟨v2, vs2, d2, ds2, p2, q2, hargs2, rfl, rfl, h2, r2⟩ := trodAll_cons r1
  obtain ⟨v3, vs3, d3, ds3, p3, q3, hargs3, rfl, rfl, h3, r3⟩ := trodAll_cons r2
  obtain ⟨v4, vs4, d4, ds4, p4, q4, hargs4, rfl, rfl, h4, r4⟩ := trodAll_cons r3
  obtain ⟨hargs5, rfl, rfl⟩ := trodAll_nil r4
  refine (law_run_at (Go.V.Dec.ConsoleShows.walk svs hfit hbulk) (tableOk hL) hr).mono fun e W' ⟨he, bel⟩ => ?_
  subst he
  have hA3 := law_kept laidOut bel (by kernel_rfl) hA2
  exact ⟨_, rfl, _, _, _, [], _, [], hW', trodAll_mk1 (shut_bool Tryd.underlying4 _), hA3, rfl, bel.frame _, fun h => by cases h⟩
theorem reads (os : Os) {H : Type} (enc : TypeId × Value → H) : ∃ places, DataW.whole enc Tryd.prog ((World.doorLaid Tryd.prog 400 os).forCall (fun _ _ => 0) ⟨#[], #[.agg #[.int .i64 0, .slice none 0 0, .int .i64 0], .int .i64 0, .slice none 0 0, .slice none 0 0, .agg #[.int .i64 0, .int .i64 0, .int .i64 0, .int .i64 0, .bool false]], []⟩).memory Tryd.f6.params.toList Rows.consoleShowsSpec.vars false #[Value.agg #[.int .i64 0, .slice none 0 0, .int .i64 0], Value.int .i64 0, Value.slice none 0 0, Value.slice none 0 0, Value.agg #[.int .i64 0, .int .i64 0, .int .i64 0, .int .i64 0, .bool false]].toList 8 = some ([.agg [.lit (.int .i64 0), .nil, .lit (.int .i64 0)], .lit (.int .i64 0), .nil, .nil, .agg [.lit (.int .i64 0), .lit (.int .i64 0), .agg [.lit (.int .i64 0), .lit (.int .i64 0)], .lit (.bool false)]], [], places) :=
  ⟨[], by kernel_rfl⟩
set_option maxRecDepth 100000 in
theorem lifted (os : Os) (started : os.Started) (H : Type) (enc : TypeId × Value → H) (F : Stop.Interp) :
    ReturnsInHanded {} Tryd.checked os 6 .any ((Rows.OpenSpec.upto Rows.consoleShowsSpec).preRow enc Tryd.prog Tryd.f6 Rows.consoleShowsUptoRow.domain false Rows.consoleShowsUptoRow.laid) (((Rows.OpenSpec.upto Rows.consoleShowsSpec).at F).post enc Tryd.prog Tryd.f6 false true false false) := by
  obtain ⟨places, hx⟩ := reads os enc
  refine returnsInHanded_of_row (C := Tryd.checked) (s := Rows.OpenSpec.upto Rows.consoleShowsSpec) own started (by kernel_rfl) Tryd.func6
    (witness_row_at (enc := enc) (C := Tryd.checked) false (World.doorLaid Tryd.prog 400 os) #[.agg #[.int .i64 0, .slice none 0 0, .int .i64 0], .int .i64 0, .slice none 0 0, .slice none 0 0, .agg #[.int .i64 0, .int .i64 0, .int .i64 0, .int .i64 0, .bool false]] rfl (by kernel_rfl) (by kernel_rfl) (by kernel_rfl)
      (OpenSpec.preRow_of_cond 8 hx (by kernel_rfl) (fun k hk => by cases hk; kernel_rfl) (by kernel_rfl) (door_met os _))) ?_
  intro W base args ds gs before hval hW _ hcond hsz hL _ _
  exact contract H enc W base args ds gs before hval hW (hcond _ rfl) hsz hL
theorem over : Rows.ConsoleShowsUptoSaid :=
  OpenClaim.holds_of_cond 6 Tryd.f6 rfl rfl rfl rfl rfl rfl rfl ⟨rfl, rfl, rfl, rfl, rfl⟩ rfl rfl rfl rfl rfl (by kernel_rfl) Tryd.func6 (by kernel_rfl)
    (of_decide_eq_true (by kernel_rfl)) (by unfold Func.isWrapper; first | (rw [if_pos (by decide +kernel)]; kernel_rfl) | (rw [if_neg (by decide +kernel)]; exact ⟨rfl, rfl⟩))
    (fun os started H enc _ F => by rw [OpenClaim.pre_eq_preRow]; exact lifted os started H enc F)
theorem proved : Rows.ConsoleShowsUptoCardSaid :=
  Claim7.holds_tied_plain_at .later [] [.data, .data, .data] true (true, "d0712c8cf43e9adeb14238861a9f13cd3ccf4ed783f8a30d90fb9da660531b64") false
    over (fun _ h => by cases h) (by kernel_rfl) (fun _ h => by cases h) consoleShowsUpto_row_tie rfl ⟨rfl, rfl⟩ (by kernel_rfl) rfl
    (fun f fn hf hfn => by
      obtain rfl : f = 6 := Option.some.inj ((show Tryd.prog.funcNamed "reredos/reredoslaw.ConsoleShows" = some 6 by kernel_rfl).symm.trans hf) |>.symm
      obtain rfl : fn = Tryd.f6 := (Option.some.inj (Tryd.func6.symm.trans hfn)).symm
      exact ⟨by kernel_rfl, fun j t ht => by
        rw [Tryd.params6] at ht
        have hm : t ∈ [24, 3, 48, 49, 51] := by simpa using Array.mem_of_getElem? ht
        have hall : ([24, 3, 48, 49, 51].all fun u => !Tryd.prog.wantsStandIn u) = true := by kernel_rfl
        exact (show Tryd.prog.wantsStandIn t = false by simpa using List.all_eq_true.1 hall t hm)⟩)
    (by kernel_rfl)
#print axioms proved
end Go.Proofs.YtmplhamakfnjbaaDoor.consoleShows
namespace Go.Proofs.YtmplhamakfnjbaaDoor
/-- The card, under a short name, for the claim. -/
theorem consoleShowsUpto_holds : Rows.ConsoleShowsUptoCardSaid := consoleShows.proved
end Go.Proofs.YtmplhamakfnjbaaDoor
