/- What Go's functions come to, as plain functions: part 1; no condition. -/
import Derived.Test.YtmnicbhniaejjaaDoorRows
import Derived.Test.YtmnicbhniaejjaaDoorVY
set_option linter.unusedVariables false
set_option linter.unusedSimpArgs false
namespace Go.V.Dec
open Go Go.Proofs
set_option maxRecDepth 100000
set_option maxHeartbeats 4000000
variable (G : Nat → Option (List D))
structure WireParts where
  label : Bool
  key : Bool
  value : Bool
  version : Bool
  ask : Bool
  yes : Bool
  code : Bool
  sites : Bool
  deriving Inhabited
def WireParts.enc (x : WireParts) : List D := [.b x.label, .b x.key, .b x.value, .b x.version, .b x.ask, .b x.yes, .b x.code, .b x.sites]
def WireParts.encO (x : WireParts) : List D := [.b x.label, .b x.key, .b x.value, .b x.version, .b x.ask, .b x.yes, .b x.code, .b x.sites]
structure Utf8AcceptRange where
  lo : Int
  hi : Int
  deriving Inhabited
def Utf8AcceptRange.enc (x : Utf8AcceptRange) : List D := [.i .u8 x.lo, .i .u8 x.hi]
def Utf8AcceptRange.encO (x : Utf8AcceptRange) : List D := [.i .u8 x.lo, .i .u8 x.hi]
structure Task where
  Write : Bool
  Label : Int
  Key : Int
  Value : Int
  Version : Int
  Ask : Int
  Done : Bool
  Sure : Bool
  deriving Inhabited
def Task.enc (x : Task) : List D := [.b x.Write, .i .i64 x.Label, .i .i64 x.Key, .i .i64 x.Value, .i .i64 x.Version, .i .i64 x.Ask, .b x.Done, .b x.Sure]
def Task.encO (x : Task) : List D := [.b x.Write, .i .i64 x.Label, .i .i64 x.Key, .i .i64 x.Value, .i .i64 x.Version, .i .i64 x.Ask, .b x.Done, .b x.Sure]
structure Job where
  N : Int
  State : Int
  Tasks : List Task
  Asked : List Int
  Asks : Int
  Age : Int
  deriving Inhabited
def Job.enc (x : Job) : List D := [.i .i64 x.N, .i .i64 x.State, .l 8 (x.Tasks.map Task.enc), .l 1 (x.Asked.map encI), .i .i64 x.Asks, .i .i64 x.Age]
def Job.encO (x : Job) : List D := [.i .i64 x.N, .i .i64 x.State, .o 8 (x.Tasks.map Task.enc), .o 1 (x.Asked.map encI), .i .i64 x.Asks, .i .i64 x.Age]
structure Desk where
  Next : Int
  Jobs : List Job
  deriving Inhabited
def Desk.enc (x : Desk) : List D := [.i .i64 x.Next, .l 6 (x.Jobs.map Job.enc)]
def Desk.encO (x : Desk) : List D := [.i .i64 x.Next, .o 6 (x.Jobs.map Job.enc)]
structure Label where
  Level : Int
  Cats : Int
  deriving Inhabited
def Label.enc (x : Label) : List D := [.i .i64 x.Level, .i .i64 x.Cats]
def Label.encO (x : Label) : List D := [.i .i64 x.Level, .i .i64 x.Cats]
structure Config where
  Sites : Int
  Labels : List Label
  Patience : Int
  deriving Inhabited
def Config.enc (x : Config) : List D := [.i .i64 x.Sites, .l 2 (x.Labels.map Label.enc), .i .i64 x.Patience]
def Config.encO (x : Config) : List D := [.i .i64 x.Sites, .o 2 (x.Labels.map Label.enc), .i .i64 x.Patience]
structure Txn where
  Site : Int
  N : Int
  deriving Inhabited
def Txn.enc (x : Txn) : List D := [.i .i64 x.Site, .i .i64 x.N]
def Txn.encO (x : Txn) : List D := [.i .i64 x.Site, .i .i64 x.N]
structure Message where
  Kind : Int
  From : Int
  To : Int
  Txn : Txn
  Label : Int
  Key : Int
  Value : Int
  Version : Int
  Ask : Int
  Yes : Bool
  Code : Int
  deriving Inhabited
def Message.enc (x : Message) : List D := [.i .i64 x.Kind, .i .i64 x.From, .i .i64 x.To, .i .i64 x.Txn.Site, .i .i64 x.Txn.N, .i .i64 x.Label, .i .i64 x.Key, .i .i64 x.Value, .i .i64 x.Version, .i .i64 x.Ask, .b x.Yes, .i .i64 x.Code]
def Message.encO (x : Message) : List D := [.i .i64 x.Kind, .i .i64 x.From, .i .i64 x.To, .i .i64 x.Txn.Site, .i .i64 x.Txn.N, .i .i64 x.Label, .i .i64 x.Key, .i .i64 x.Value, .i .i64 x.Version, .i .i64 x.Ask, .b x.Yes, .i .i64 x.Code]
structure Record where
  Kind : Int
  Txn : Txn
  Key : Int
  Value : Int
  Ask : Int
  Yes : Bool
  Sites : List Int
  deriving Inhabited
def Record.enc (x : Record) : List D := [.i .i64 x.Kind, .i .i64 x.Txn.Site, .i .i64 x.Txn.N, .i .i64 x.Key, .i .i64 x.Value, .i .i64 x.Ask, .b x.Yes, .l 1 (x.Sites.map encI)]
def Record.encO (x : Record) : List D := [.i .i64 x.Kind, .i .i64 x.Txn.Site, .i .i64 x.Txn.N, .i .i64 x.Key, .i .i64 x.Value, .i .i64 x.Ask, .b x.Yes, .o 1 (x.Sites.map encI)]
structure Reply where
  Site : Int
  Kind : Int
  N : Int
  Key : Int
  Value : Int
  Code : Int
  deriving Inhabited
def Reply.enc (x : Reply) : List D := [.i .i64 x.Site, .i .i64 x.Kind, .i .i64 x.N, .i .i64 x.Key, .i .i64 x.Value, .i .i64 x.Code]
def Reply.encO (x : Reply) : List D := [.i .i64 x.Site, .i .i64 x.Kind, .i .i64 x.N, .i .i64 x.Key, .i .i64 x.Value, .i .i64 x.Code]
structure Turn where
  Desk : Desk
  Messages : List Message
  Records : List Record
  Replies : List Reply
  Sure : Int
  Committed : Int
  deriving Inhabited
def Turn.enc (x : Turn) : List D := [.i .i64 x.Desk.Next, .l 6 (x.Desk.Jobs.map Job.enc), .l 12 (x.Messages.map Message.enc), .l 8 (x.Records.map Record.enc), .l 6 (x.Replies.map Reply.enc), .i .i64 x.Sure, .i .i64 x.Committed]
def Turn.encO (x : Turn) : List D := [.i .i64 x.Desk.Next, .o 6 (x.Desk.Jobs.map Job.enc), .o 12 (x.Messages.map Message.enc), .o 8 (x.Records.map Record.enc), .o 6 (x.Replies.map Reply.enc), .i .i64 x.Sure, .i .i64 x.Committed]
structure CoordWork where
  c : Config
  l : Int
  me : Int
  turn : Turn
  deriving Inhabited
def CoordWork.enc (x : CoordWork) : List D := [.i .i64 x.c.Sites, .l 2 (x.c.Labels.map Label.enc), .i .i64 x.c.Patience, .i .i64 x.l, .i .i64 x.me, .i .i64 x.turn.Desk.Next, .l 6 (x.turn.Desk.Jobs.map Job.enc), .l 12 (x.turn.Messages.map Message.enc), .l 8 (x.turn.Records.map Record.enc), .l 6 (x.turn.Replies.map Reply.enc), .i .i64 x.turn.Sure, .i .i64 x.turn.Committed]
def CoordWork.encO (x : CoordWork) : List D := [.i .i64 x.c.Sites, .o 2 (x.c.Labels.map Label.enc), .i .i64 x.c.Patience, .i .i64 x.l, .i .i64 x.me, .i .i64 x.turn.Desk.Next, .o 6 (x.turn.Desk.Jobs.map Job.enc), .o 12 (x.turn.Messages.map Message.enc), .o 8 (x.turn.Records.map Record.enc), .o 6 (x.turn.Replies.map Reply.enc), .i .i64 x.turn.Sure, .i .i64 x.turn.Committed]
def WireParts.bx (x : WireParts) : List SC := [.d (.b x.label), .d (.b x.key), .d (.b x.value), .d (.b x.version), .d (.b x.ask), .d (.b x.yes), .d (.b x.code), .d (.b x.sites)]
def Utf8AcceptRange.bx (x : Utf8AcceptRange) : List SC := [.d (.i .u8 x.lo), .d (.i .u8 x.hi)]
def Task.bx (x : Task) : List SC := [.d (.b x.Write), .d (.i .i64 x.Label), .d (.i .i64 x.Key), .d (.i .i64 x.Value), .d (.i .i64 x.Version), .d (.i .i64 x.Ask), .d (.b x.Done), .d (.b x.Sure)]
def Job.bx (x : Job) : List SC := [.d (.i .i64 x.N), .d (.i .i64 x.State), .d (.l 8 (x.Tasks.map Task.enc)), .d (.l 1 (x.Asked.map encI)), .d (.i .i64 x.Asks), .d (.i .i64 x.Age)]
def Desk.bx (x : Desk) : List SC := [.d (.i .i64 x.Next), .d (.l 6 (x.Jobs.map Job.enc))]
def Label.bx (x : Label) : List SC := [.d (.i .i64 x.Level), .d (.i .i64 x.Cats)]
def Config.bx (x : Config) : List SC := [.d (.i .i64 x.Sites), .d (.l 2 (x.Labels.map Label.enc)), .d (.i .i64 x.Patience)]
def Txn.bx (x : Txn) : List SC := [.d (.i .i64 x.Site), .d (.i .i64 x.N)]
def Message.bx (x : Message) : List SC := [.d (.i .i64 x.Kind), .d (.i .i64 x.From), .d (.i .i64 x.To), .d (.i .i64 x.Txn.Site), .d (.i .i64 x.Txn.N), .d (.i .i64 x.Label), .d (.i .i64 x.Key), .d (.i .i64 x.Value), .d (.i .i64 x.Version), .d (.i .i64 x.Ask), .d (.b x.Yes), .d (.i .i64 x.Code)]
def Record.bx (x : Record) : List SC := [.d (.i .i64 x.Kind), .d (.i .i64 x.Txn.Site), .d (.i .i64 x.Txn.N), .d (.i .i64 x.Key), .d (.i .i64 x.Value), .d (.i .i64 x.Ask), .d (.b x.Yes), .d (.l 1 (x.Sites.map encI))]
def Reply.bx (x : Reply) : List SC := [.d (.i .i64 x.Site), .d (.i .i64 x.Kind), .d (.i .i64 x.N), .d (.i .i64 x.Key), .d (.i .i64 x.Value), .d (.i .i64 x.Code)]
def Turn.bx (x : Turn) : List SC := [.d (.i .i64 x.Desk.Next), .d (.l 6 (x.Desk.Jobs.map Job.enc)), .d (.l 12 (x.Messages.map Message.enc)), .d (.l 8 (x.Records.map Record.enc)), .d (.l 6 (x.Replies.map Reply.enc)), .d (.i .i64 x.Sure), .d (.i .i64 x.Committed)]
def CoordWork.bx (x : CoordWork) : List SC := [.d (.i .i64 x.c.Sites), .d (.l 2 (x.c.Labels.map Label.enc)), .d (.i .i64 x.c.Patience), .d (.i .i64 x.l), .d (.i .i64 x.me), .d (.i .i64 x.turn.Desk.Next), .d (.l 6 (x.turn.Desk.Jobs.map Job.enc)), .d (.l 12 (x.turn.Messages.map Message.enc)), .d (.l 8 (x.turn.Records.map Record.enc)), .d (.l 6 (x.turn.Replies.map Reply.enc)), .d (.i .i64 x.turn.Sure), .d (.i .i64 x.turn.Committed)]
attribute [go_sem] encI WireParts.enc WireParts.encO WireParts.bx Utf8AcceptRange.enc Utf8AcceptRange.encO Utf8AcceptRange.bx Task.enc Task.encO Task.bx Job.enc Job.encO Job.bx Desk.enc Desk.encO Desk.bx Label.enc Label.encO Label.bx Config.enc Config.encO Config.bx Txn.enc Txn.encO Txn.bx Message.enc Message.encO Message.bx Record.enc Record.encO Record.bx Reply.enc Reply.encO Reply.bx Turn.enc Turn.encO Turn.bx CoordWork.enc CoordWork.encO CoordWork.bx
def tab_wire_messages : List WireParts := [WireParts.mk false false false false false false false false, WireParts.mk true true false false true false false false, WireParts.mk false true true false true false false false, WireParts.mk true true false true false false false false, WireParts.mk false false false false false true false false, WireParts.mk true true true true true false true false, WireParts.mk false true false false true false true false, WireParts.mk true true false true false true false false, WireParts.mk false false false false false false false false, WireParts.mk false false false false false false false false]
def tab_wire_messagesD : List D := [.b false, .b false, .b false, .b false, .b false, .b false, .b false, .b false, .b true, .b true, .b false, .b false, .b true, .b false, .b false, .b false, .b false, .b true, .b true, .b false, .b true, .b false, .b false, .b false, .b true, .b true, .b false, .b true, .b false, .b false, .b false, .b false, .b false, .b false, .b false, .b false, .b false, .b true, .b false, .b false, .b true, .b true, .b true, .b true, .b true, .b false, .b true, .b false, .b false, .b true, .b false, .b false, .b true, .b false, .b true, .b false, .b true, .b true, .b false, .b true, .b false, .b true, .b false, .b false, .b false, .b false, .b false, .b false, .b false, .b false, .b false, .b false, .b false, .b false, .b false, .b false, .b false, .b false, .b false, .b false]
theorem tab_wire_messages_rows : rowsT 8 10 tab_wire_messagesD = tab_wire_messages.map WireParts.enc := by rfl
theorem tab_wire_messages_lenD : tab_wire_messagesD.length = 80 := by rfl
theorem tab_wire_messages_len : tab_wire_messages.length = 10 := by rfl
attribute [go_sem] tab_wire_messages_rows tab_wire_messages_lenD
def bs_633d862b : ByteArray := ⟨#[0, 1, 2, 2, 3, 3, 3, 3, 4, 4, 4, 4, 4, 4, 4, 4, 5, 5, 5, 5, 5, 5, 5, 5, 5, 5, 5, 5, 5, 5, 5, 5, 6, 6, 6, 6, 6, 6, 6, 6, 6, 6, 6, 6, 6, 6, 6, 6, 6, 6, 6, 6, 6, 6, 6, 6, 6, 6, 6, 6, 6, 6, 6, 6, 7, 7, 7, 7, 7, 7, 7, 7, 7, 7, 7, 7, 7, 7, 7, 7, 7, 7, 7, 7, 7, 7, 7, 7, 7, 7, 7, 7, 7, 7, 7, 7, 7, 7, 7, 7, 7, 7, 7, 7, 7, 7, 7, 7, 7, 7, 7, 7, 7, 7, 7, 7, 7, 7, 7, 7, 7, 7, 7, 7, 7, 7, 7, 7, 8, 8, 8, 8, 8, 8, 8, 8, 8, 8, 8, 8, 8, 8, 8, 8, 8, 8, 8, 8, 8, 8, 8, 8, 8, 8, 8, 8, 8, 8, 8, 8, 8, 8, 8, 8, 8, 8, 8, 8, 8, 8, 8, 8, 8, 8, 8, 8, 8, 8, 8, 8, 8, 8, 8, 8, 8, 8, 8, 8, 8, 8, 8, 8, 8, 8, 8, 8, 8, 8, 8, 8, 8, 8, 8, 8, 8, 8, 8, 8, 8, 8, 8, 8, 8, 8, 8, 8, 8, 8, 8, 8, 8, 8, 8, 8, 8, 8, 8, 8, 8, 8, 8, 8, 8, 8, 8, 8, 8, 8, 8, 8, 8, 8, 8, 8, 8, 8, 8, 8, 8, 8, 8, 8, 8, 8, 8, 8]⟩
@[go_sem] theorem Job.fwz (l : List Job) : (l.map Job.encO).map (List.map D.fw) = l.map Job.enc := by simp [Job.encO, Job.enc, D.fw]
def reredosref_TasksCopy_L1 (p0 : List Task) (k2 : (List Task) → Option ((List Task))) : Nat → Nat → (List Task) → Option ((List Task))
 | 0, _, _ => none
 | n4 + 1, a3_1, a3_2 => (if (decide (a3_1 < p0.length)) = true then (Option.bind (p0[a3_1]?) fun x7 => (if fits 56 (a3_2.length + 1) then (reredosref_TasksCopy_L1 p0 k2 n4 (a3_1 + 1) (a3_2 ++ [x7])) else none)) else (k2 a3_2))
def reredosref_TasksCopy (p0 : List Task) : Option ((List Task)) := (withK (fun (b1_1 : List Task) => (some b1_1)) fun k2 => (reredosref_TasksCopy_L1 p0 k2 (p0.length + 1) 0 []))
def F44 : VFn := ⟨19, (.seq (.reg [vo 2 (.mv (.c (.one (.nl 8))))]) (.seq (.reg [vo 3 (.mv (.c (.one (.nl 8))))]) (.seq (.seq (.reg [mi 4 0]) (.wk (.block 0 (.loop (.seq (.seq (.reg [vm 5 4, vm 6 0, ln 7 6, bt 8 .lss 5 7]) (.cond (.t 8) .skip (.exit 0))) (.seq (.block 1 (.reg [vm 11 3, vm 12 0, vm 13 4, xa 14 8 12 13, vl 15 8 14, vo 16 (.bsl 8 1 [(.d (.b false)), (zi 0), (zi 0), (zi 0), (zi 0), (zi 0), (.d (.b false)), (.d (.b false))] [(0, (.t 15))]), vo 17 (.app 8 56 (.t 11) (.t 16)), vm 3 17])) (.reg [vm 9 4, bk 10 .add 9 1, vm 4 10]))))))) (.seq (.reg [vm 18 3, vm 2 18]) .ret)))), [.t 2]⟩
theorem low44 : lowF Tryd.prog 44 = some F44.strip := by kernel_rfl
theorem fok44 : fOk Tryd.prog 44 = true := by kernel_rfl
theorem reredosref_TasksCopy_ok (p0 : List Task) (r : (List Task)) (h : reredosref_TasksCopy p0 = some r) : FnRO Tryd.prog G 44 [.one (.d (.l 8 (p0.map Task.enc)))] (fun rs => rs = [.one (.o 8 (r.map Task.enc))]) := by
 refine FnRO.of' low44 fok44 (by simp [F44]) ?_
 rw [reredosref_TasksCopy] at h
 replace h := Hd.mk h
 simp only [F44, go_sem]
 try simp only [*, go_sem]
 refine jn1 h (fun b1_1 => [zR 3 0 0 b1_1.length]) (fun b1_1 => [oa 8 (b1_1.map Task.enc)]) (fun k2 h => ?_) (fun b1_1 h => ?_)
 try simp only [*, go_sem]
 refine lp2 (reredosref_TasksCopy_L1 p0 k2) (fun a3_1 a3_2 => [zL 0 8 (p0.map Task.enc), zR 3 0 0 a3_2.length, zI 4 ((a3_1 : Nat) : Int)]) (fun a3_1 a3_2 => [oa 8 (a3_2.map Task.enc)]) h [] [none] (fun n4 a3_1 a3_2 h => ?_) (by intros; rw [reredosref_TasksCopy_L1])
 rw [reredosref_TasksCopy_L1] at h
 try simp only [*, go_sem]
 intro hl5
 refine oi h (fun hb6 h => ?_) (fun hb6 h => ?_)
 have := of_decide_eq_true hb6
 refine obg h (fun x7 _ hkx7 h => ?_)
 refine ck h (fun _ h => ?_)
 have := wrap_succ_max hkx7 hl5
 try simp only [*, go_sem]
 exact lc (a3_1 + 1, (a3_2 ++ [x7])) h.e [some 2]
 try simp only [*, go_sem]
 exact jc (a3_2) h.e [some 0]
 cases h.e
 simp only [*, go_sem, mA, mS]
def reredosref_intsCopy_L1 (p0 : List Int) (k2 : (List Int) → Option ((List Int))) : Nat → Nat → (List Int) → Option ((List Int))
 | 0, _, _ => none
 | n4 + 1, a3_1, a3_2 => (if (decide (a3_1 < p0.length)) = true then (Option.bind (p0[a3_1]?) fun x7 => (if fits 8 (a3_2.length + 1) then (reredosref_intsCopy_L1 p0 k2 n4 (a3_1 + 1) (a3_2 ++ [x7])) else none)) else (k2 a3_2))
def reredosref_intsCopy (p0 : List Int) : Option ((List Int)) := (withK (fun (b1_1 : List Int) => (some b1_1)) fun k2 => (reredosref_intsCopy_L1 p0 k2 (p0.length + 1) 0 []))
def F45 : VFn := ⟨19, (.seq (.reg [vo 2 (.mv (.c (.one (.nl 1))))]) (.seq (.reg [vo 3 (.mv (.c (.one (.nl 1))))]) (.seq (.seq (.reg [mi 4 0]) (.wk (.block 0 (.loop (.seq (.seq (.reg [vm 5 4, vm 6 0, ln 7 6, bt 8 .lss 5 7]) (.cond (.t 8) .skip (.exit 0))) (.seq (.block 1 (.reg [vm 11 3, vm 12 0, vm 13 4, xa 14 1 12 13, vs 15 14, vo 16 (.bsl 1 1 [(zi 0)] [(0, (.t 15))]), vo 17 (.app 1 8 (.t 11) (.t 16)), vm 3 17])) (.reg [vm 9 4, bk 10 .add 9 1, vm 4 10]))))))) (.seq (.reg [vm 18 3, vm 2 18]) .ret)))), [.t 2]⟩
theorem low45 : lowF Tryd.prog 45 = some F45.strip := by kernel_rfl
theorem fok45 : fOk Tryd.prog 45 = true := by kernel_rfl
theorem reredosref_intsCopy_ok (p0 : List Int) (r : (List Int)) (h : reredosref_intsCopy p0 = some r) : FnRO Tryd.prog G 45 [.one (.d (.l 1 (p0.map encI)))] (fun rs => rs = [.one (.o 1 (r.map encI))]) := by
 refine FnRO.of' low45 fok45 (by simp [F45]) ?_
 rw [reredosref_intsCopy] at h
 replace h := Hd.mk h
 simp only [F45, go_sem]
 try simp only [*, go_sem]
 refine jn1 h (fun b1_1 => [zR 3 0 0 b1_1.length]) (fun b1_1 => [oa 1 (b1_1.map encI)]) (fun k2 h => ?_) (fun b1_1 h => ?_)
 try simp only [*, go_sem]
 refine lp2 (reredosref_intsCopy_L1 p0 k2) (fun a3_1 a3_2 => [zL 0 1 (p0.map encI), zR 3 0 0 a3_2.length, zI 4 ((a3_1 : Nat) : Int)]) (fun a3_1 a3_2 => [oa 1 (a3_2.map encI)]) h [] [none] (fun n4 a3_1 a3_2 h => ?_) (by intros; rw [reredosref_intsCopy_L1])
 rw [reredosref_intsCopy_L1] at h
 try simp only [*, go_sem]
 intro hl5
 refine oi h (fun hb6 h => ?_) (fun hb6 h => ?_)
 have := of_decide_eq_true hb6
 refine obg h (fun x7 _ hkx7 h => ?_)
 refine ck h (fun _ h => ?_)
 have := wrap_succ_max hkx7 hl5
 try simp only [*, go_sem]
 exact lc (a3_1 + 1, (a3_2 ++ [x7])) h.e [some 2]
 try simp only [*, go_sem]
 exact jc (a3_2) h.e [some 0]
 cases h.e
 simp only [*, go_sem, mA, mS]
def reredosref_DeskCopy_L1 (p0 : Desk) (k2 : (List Job) → Option (Desk)) : Nat → Nat → (List Job) → Option (Desk)
 | 0, _, _ => none
 | n4 + 1, a3_1, a3_2 => (if (decide (a3_1 < p0.Jobs.length)) = true then (Option.bind (p0.Jobs[a3_1]?) fun x7 => (Option.bind (reredosref_TasksCopy x7.Tasks) fun v8 => (Option.bind (reredosref_intsCopy x7.Asked) fun v9 => (withK (if fits 80 (a3_2.length + 1) then (reredosref_DeskCopy_L1 p0 k2 n4 (a3_1 + 1) (a3_2 ++ [(Job.mk x7.N x7.State v8 v9 x7.Asks x7.Age)])) else none) fun k11 => k11)))) else (k2 a3_2))
def reredosref_DeskCopy (p0 : Desk) : Option (Desk) := (withK (fun (b1_1 : List Job) => (some (Desk.mk p0.Next b1_1))) fun k2 => (reredosref_DeskCopy_L1 p0 k2 (p0.Jobs.length + 1) 0 []))
def F12 : VFn := ⟨36, (.seq (.reg [vo 1 (.box 2 (.t 0)), vo 2 (.alloc [(zi 0), (.nl 6)])]) (.seq (.reg [vf 6 0 1, vs 7 6, vo 8 (.build [(zi 0), (.nl 6)] [(0, 1, (.t 7))]), vo 3 (.alloc [(zi 0), (.nl 6)]), vu (.st 2 (.t 3) (.t 8))]) (.seq (.seq (.reg [mi 4 0]) (.wk (.block 0 (.loop (.seq (.seq (.reg [vm 9 4, vf 10 1 1, vs 11 10, ln 12 11, bt 13 .lss 9 12]) (.cond (.t 13) .skip (.exit 0))) (.seq (.block 1 (.seq (.reg [vf 16 1 1, vs 17 16, vm 18 4, xa 19 6 17 18, vl 20 6 19, vo 5 (.alloc [(zi 0), (zi 0), (.nl 8), (.nl 1), (zi 0), (zi 0)]), vu (.st 6 (.t 5) (.t 20))]) (.seq (.reg [vf 21 2 5, vs 22 21, vo 23 (.call 44 [(.t 22)]), vf 24 2 5, vu (.st 1 (.t 24) (.t 23))]) (.seq (.reg [vf 25 3 5, vs 26 25, vo 27 (.call 45 [(.t 26)]), vf 28 3 5, vu (.st 1 (.t 28) (.t 27))]) (.regs [[vf 29 1 3, vs 30 29, vl 31 6 5], [vo 32 (.bslw 6 1 [(zi 0), (zi 0), (.nl 8), (.nl 1), (zi 0), (zi 0)] [(0, (.t 31))]), vo 33 (.appw 6 80 (.t 30) (.t 32)), vf 34 1 3, vu (.st 1 (.t 34) (.t 33))]]))))) (.reg [vm 14 4, bk 15 .add 14 1, vm 4 15]))))))) (.seq (.reg [vl 35 2 3, vu (.st 2 (.t 2) (.t 35))]) .ret)))), [.cell 2 true 2]⟩
theorem low12 : lowF Tryd.prog 12 = some F12.strip := by kernel_rfl
theorem fok12 : fOk Tryd.prog 12 = true := by kernel_rfl
theorem reredosref_DeskCopy_ok (p0 : Desk) (r : Desk) (h : reredosref_DeskCopy p0 = some r) : FnRO Tryd.prog G 12 [.agg p0.bx] (fun rs => rs = [.agg [.i .i64 r.Next, .t 6 (r.Jobs.map Job.encO)]]) := by
 refine FnRO.same ?_
 refine FnRO.of' low12 fok12 (by simp [F12]) ?_
 rw [reredosref_DeskCopy] at h
 replace h := Hd.mk h
 simp only [F12, go_sem]
 try simp only [*, go_sem]
 refine jn1 h (fun b1_1 => [zP 2 0, zP 3 1]) (fun b1_1 => [ox [zi 0, .nl 6], ox [zi p0.Next, .r 2 0 b1_1.length], ot 6 (b1_1.map Job.encO)]) (fun k2 h => ?_) (fun b1_1 h => ?_)
 try simp only [*, go_sem]
 refine lp2 (reredosref_DeskCopy_L1 p0 k2) (fun a3_1 a3_2 => [zP 1 0, zP 2 1, zP 3 2, zI 4 ((a3_1 : Nat) : Int)]) (fun a3_1 a3_2 => [ox p0.bx, ox [zi 0, .nl 6], ox [zi p0.Next, .r 3 0 a3_2.length], ot 6 (a3_2.map Job.encO)]) h [] [some 0, some 1, some 2, none] (fun n4 a3_1 a3_2 h => ?_) (by intros; rw [reredosref_DeskCopy_L1])
 rw [reredosref_DeskCopy_L1] at h
 try simp only [*, go_sem]
 intro hl5
 refine oi h (fun hb6 h => ?_) (fun hb6 h => ?_)
 have := of_decide_eq_true hb6
 refine obg h (fun x7 _ hkx7 h => ?_)
 try simp only [*, go_sem]
 refine cr h (reredosref_TasksCopy_ok G x7.Tasks) (fun v8 h => ?_)
 try simp only [*, go_sem]
 refine cr h (reredosref_intsCopy_ok G x7.Asked) (fun v9 h => ?_)
 try simp only [*, go_sem]
 refine rg0 h ([zP 1 0, zP 2 1, zP 3 2, zI 4 ((a3_1 : Nat) : Int), zR 30 3 0 a3_2.length, (31, .agg [zi x7.N, zi x7.State, .r 4 0 v8.length, .r 5 0 v9.length, zi x7.Asks, zi x7.Age])]) ([ox p0.bx, ox [zi 0, .nl 6], ox [zi p0.Next, .r 3 0 a3_2.length], ot 6 (a3_2.map Job.encO), oa 8 (v8.map Task.enc), oa 1 (v9.map encI)]) (fun k11 h => ?_) (fun h => ?_)
 try simp only [*, go_sem]
 exact jc () h.e [some 0, some 1, some 2, some 3, some 5, some 6]
 refine ck h (fun _ h => ?_)
 have := wrap_succ_max hkx7 hl5
 try simp only [*, go_sem]
 exact lc (a3_1 + 1, (a3_2 ++ [(Job.mk x7.N x7.State v8 v9 x7.Asks x7.Age)])) h.e [some 0, some 1, some 2, some 7]
 try simp only [*, go_sem]
 exact jc (a3_2) h.e [some 1, some 2, some 3]
 cases h.e
 simp only [*, go_sem, mA, mS]
def label_one (p0 : Label) : Option (Bool) := (withK (fun (b1_1 : Bool) => (some b1_1)) fun k2 => (if (decide (p0.Level ≥ 0)) = true then (if (decide (p0.Level ≤ 9)) = true then (if (decide (p0.Cats ≥ 0)) = true then (k2 (decide (p0.Cats ≤ 15))) else (k2 false)) else (k2 false)) else (k2 false)))
def F124 : VFn := ⟨21, (.seq (.reg [vo 1 (.boxk 2 (.t 0)), vo 2 (.mv (cb false))]) (.seq (.wk (.reg [vf 3 0 1, vs 4 3, bk 5 .geq 4 0, vm 6 5, gt 7 6 (.fa 0 (.t 1)), gt 8 6 (.ld false 1 (.t 7)), gt 9 6 (.bin .i .leq (.t 8) (ci 9)), vo 10 (.pick (.t 6) (.t 9) (cb false)), vm 11 10, gt 12 11 (.fa 1 (.t 1)), gt 13 11 (.ld false 1 (.t 12)), gt 14 11 (.bin .i .geq (.t 13) (ci 0)), vo 15 (.pick (.t 11) (.t 14) (cb false)), vm 16 15, gt 17 16 (.fa 1 (.t 1)), gt 18 16 (.ld false 1 (.t 17)), gt 19 16 (.bin .i .leq (.t 18) (ci 15)), vo 20 (.pick (.t 16) (.t 19) (cb false)), vm 2 20])) .ret)), [.t 2]⟩
theorem low124 : lowF Tryd.prog 124 = some F124.strip := by kernel_rfl
theorem fok124 : fOk Tryd.prog 124 = true := by kernel_rfl
theorem label_one_ok (p0 : Label) (r : Bool) (h : label_one p0 = some r) : FnRO Tryd.prog G 124 [.agg p0.bx] (fun rs => rs = [.one (.b r)]) := by
 refine FnRO.of' low124 fok124 (by simp [F124]) ?_
 rw [label_one] at h
 replace h := Hd.mk h
 simp only [F124, go_sem]
 try simp only [*, go_sem]
 refine jn1 h (fun b1_1 => [zB 2 b1_1]) (fun b1_1 => []) (fun k2 h => ?_) (fun b1_1 h => ?_)
 refine oi h (fun hb3 h => ?_) (fun hb3 h => ?_)
 refine oi h (fun hb4 h => ?_) (fun hb4 h => ?_)
 refine oi h (fun hb5 h => ?_) (fun hb5 h => ?_)
 try simp only [*, go_sem]
 exact jc (decide (p0.Cats ≤ 15)) h.e []
 try simp only [*, go_sem]
 exact jc (false) h.e []
 try simp only [*, go_sem]
 exact jc (false) h.e []
 try simp only [*, go_sem]
 exact jc (false) h.e []
 cases h.e
 simp only [*, go_sem, mA, mS]
def label_Check_L2 (p0 : Config) (a10_1 : Nat) (x13 : Label) (k19 : Option (Int)) : Nat → Nat → Option (Int)
 | 0, _ => none
 | n21 + 1, a20_1 => (if (decide (a20_1 < min a10_1 p0.Labels.length)) = true then (Option.bind ((p0.Labels.take a10_1)[a20_1]?) fun x23 => (if ((x23.Level == x13.Level) && (x23.Cats == x13.Cats)) = true then (some 7) else (label_Check_L2 p0 a10_1 x13 k19 n21 (a20_1 + 1)))) else k19)
def label_Check_L1 (p0 : Config) (k9 : Option (Int)) : Nat → Nat → Option (Int)
 | 0, _ => none
 | n11 + 1, a10_1 => (if (decide (a10_1 < p0.Labels.length)) = true then (Option.bind (p0.Labels[a10_1]?) fun x13 => (Option.bind (label_one x13) fun v14 => (if (!v14) = true then (some 2) else (withK (label_Check_L1 p0 k9 n11 (a10_1 + 1)) fun k19 => (label_Check_L2 p0 a10_1 x13 k19 (min a10_1 p0.Labels.length + 1) 0))))) else k9)
def label_Check (p0 : Config) : Option (Int) := (if (decide (p0.Sites < 1)) = true then (some 2) else (if (decide (p0.Sites > 4)) = true then (some 2) else (if (decide (((p0.Labels.length : Nat) : Int) < 1)) = true then (some 1) else (if (decide (((p0.Labels.length : Nat) : Int) > 6)) = true then (some 1) else (withK (if (decide (p0.Patience < 1)) = true then (some 2) else (if (decide (p0.Patience > 1048576)) = true then (some 2) else (some 0))) fun k9 => (label_Check_L1 p0 k9 (p0.Labels.length + 1) 0))))))
def F66 : VFn := ⟨58, (.seq (.reg [vo 1 (.boxk 3 (.t 0)), mi 2 0]) (.seq (.seq (.reg [vf 7 0 1, vs 8 7, bk 9 .lss 8 1, vm 10 9, gf 11 10 (.fa 0 (.t 1)), gf 12 10 (.ld false 1 (.t 11)), gf 13 10 (.bin .i .gtr (.t 12) (ci 4)), vo 14 (.pick (.t 10) (cb true) (.t 13))]) (.cond (.t 14) (.seq (.reg [mi 2 2]) .ret) .skip)) (.seq (.seq (.reg [vf 15 1 1, vs 16 15, ln 17 16, bk 18 .lss 17 1, vm 19 18, gf 20 19 (.fa 1 (.t 1)), gf 21 19 (.ld false 1 (.t 20)), gf 22 19 (.len (.t 21)), gf 23 19 (.bin .i .gtr (.t 22) (ci 6)), vo 24 (.pick (.t 19) (cb true) (.t 23))]) (.cond (.t 24) (.seq (.reg [mi 2 1]) .ret) .skip)) (.seq (.seq (.reg [vf 25 1 1, vs 26 25, ln 27 26, mi 28 0]) (.wk (.block 0 (.loop (.seq (.reg [bt 29 .lss 28 27]) (.seq (.cond (.t 29) .skip (.exit 0)) (.seq (.block 1 (.seq (.reg [vm 30 28, xa 31 2 26 28, vl 32 2 31, vo 4 (.alloc [(zi 0), (zi 0)]), vm 3 30, vu (.st 2 (.t 4) (.t 32))]) (.seq (.seq (.reg [vl 33 2 4, vo 34 (.call 124 [(.t 33)]), nt 35 34]) (.cond (.t 35) (.seq (.reg [mi 2 2]) .ret) .skip)) (.seq (.reg [vf 36 1 1, vs 37 36, vm 38 3, vo 39 (.sl 2 (.t 37) none (some (.t 38))), ln 40 39, mi 41 0]) (.wk (.block 2 (.loop (.seq (.reg [bt 42 .lss 41 40]) (.seq (.cond (.t 42) .skip (.exit 2)) (.seq (.block 3 (.seq (.reg [xa 43 2 39 41, vl 44 2 43, vo 6 (.alloc [(zi 0), (zi 0)]), vu (.st 2 (.t 6) (.t 44))]) (.seq (.reg [vl 45 2 6, vl 46 2 4, vo 47 (.eqs false [.i, .i] (.t 45) (.t 46))]) (.cond (.t 47) (.seq (.reg [mi 2 7]) .ret) .skip)))) (.reg [bk 48 .add 41 1, vm 41 48]))))))))))) (.reg [bk 49 .add 28 1, vm 28 49])))))))) (.seq (.seq (.reg [vf 50 2 1, vs 51 50, bk 52 .lss 51 1, vm 53 52, gf 54 53 (.fa 2 (.t 1)), gf 55 53 (.ld false 1 (.t 54)), gf 56 53 (.bin .i .gtr (.t 55) (ci 1048576)), vo 57 (.pick (.t 53) (cb true) (.t 56))]) (.cond (.t 57) (.seq (.reg [mi 2 2]) .ret) .skip)) (.seq (.reg [mi 2 0]) .ret)))))), [.t 2]⟩
theorem low66 : lowF Tryd.prog 66 = some F66.strip := by kernel_rfl
theorem fok66 : fOk Tryd.prog 66 = true := by kernel_rfl
theorem label_Check_ok (p0 : Config) (r : Int) (h : label_Check p0 = some r) : FnRO Tryd.prog G 66 [.agg p0.bx] (fun rs => rs = [.one (.i .i64 r)]) := by
 refine FnRO.of' low66 fok66 (by simp [F66]) ?_
 rw [label_Check] at h
 replace h := Hd.mk h
 simp only [F66, go_sem]
 refine oi h (fun hb1 h => ?_) (fun hb1 h => ?_)
 have := of_decide_eq_true hb1
 cases h.e
 simp only [*, go_sem, mA, mS]
 refine oi h (fun hb2 h => ?_) (fun hb2 h => ?_)
 cases h.e
 simp only [*, go_sem, mA, mS]
 try simp only [*, go_sem]
 intro hl3
 refine oi h (fun hb4 h => ?_) (fun hb4 h => ?_)
 cases h.e
 simp only [*, go_sem, mA, mS]
 try simp only [*, go_sem]
 intro hl5
 refine oi h (fun hb6 h => ?_) (fun hb6 h => ?_)
 cases h.e
 simp only [*, go_sem, mA, mS]
 try simp only [*, go_sem]
 intro hl7
 try simp only [*, go_sem]
 refine jn0 h ([zK 1 (Config.enc p0)]) ([]) (fun k9 h => ?_) (fun h => ?_)
 try simp only [*, go_sem]
 refine lp1 (label_Check_L1 p0 k9) (fun a10_1 => [zK 1 (Config.enc p0), zL 26 2 (p0.Labels.map Label.enc), zI 27 ((p0.Labels.length : Nat) : Int), zI 28 ((a10_1 : Nat) : Int)]) (fun a10_1 => []) h [] [] (fun n11 a10_1 h => ?_) (by intros; rw [label_Check_L1])
 rw [label_Check_L1] at h
 refine oi h (fun hb12 h => ?_) (fun hb12 h => ?_)
 have := of_decide_eq_true hb12
 refine obg h (fun x13 _ hkx13 h => ?_)
 try simp only [*, go_sem]
 refine cr h (label_one_ok G x13) (fun v14 h => ?_)
 refine oin h (fun hb15 hkhb15 h => ?_) (fun hb15 hkhb15 h => ?_)
 cases h.e
 simp only [*, go_sem, mA, mS]
 have := Nat.le_of_lt hkx13
 try simp only [*, go_sem]
 intro hl17
 try simp only [*, go_sem]
 refine jn0 h ([zK 1 (Config.enc p0), zL 26 2 (p0.Labels.map Label.enc), zI 27 ((p0.Labels.length : Nat) : Int), zI 28 ((a10_1 : Nat) : Int)]) ([]) (fun k19 h => ?_) (fun h => ?_)
 try simp only [*, go_sem]
 refine lp1 (label_Check_L2 p0 a10_1 x13 k19) (fun a20_1 => [zK 1 (Config.enc p0), zP 4 0, zL 26 2 (p0.Labels.map Label.enc), zI 27 ((p0.Labels.length : Nat) : Int), zI 28 ((a10_1 : Nat) : Int), zL 39 2 ((p0.Labels.take a10_1).map Label.enc), zI 40 ((min a10_1 p0.Labels.length : Nat) : Int), zI 41 ((a20_1 : Nat) : Int)]) (fun a20_1 => [ox x13.bx]) h [] [some 0] (fun n21 a20_1 h => ?_) (by intros; rw [label_Check_L2])
 rw [label_Check_L2] at h
 refine oi h (fun hb22 h => ?_) (fun hb22 h => ?_)
 refine obg h (fun x23 _ hkx23 h => ?_)
 try simp only [List.length_take, List.length_drop, List.length_append, List.length_set, List.length_map, List.length_cons, List.length_nil, Nat.zero_add] at hkx23
 refine oi h (fun hb24 h => ?_) (fun hb24 h => ?_)
 try simp only [*, go_sem]
 cases h.e
 simp only [*, go_sem, mA, mS]
 try simp only [*, go_sem]
 have := wrap_succ_max hkx23 hl17
 try simp only [*, go_sem]
 exact lc (a20_1 + 1) h.e [some 0]
 try simp only [*, go_sem]
 exact jc () h.e []
 have := wrap_succ_max hkx13 hl3
 try simp only [*, go_sem]
 exact lc (a10_1 + 1) h.e []
 try simp only [*, go_sem]
 exact jc () h.e []
 refine oi h (fun hb27 h => ?_) (fun hb27 h => ?_)
 have := of_decide_eq_true hb27
 cases h.e
 simp only [*, go_sem, mA, mS]
 refine oi h (fun hb28 h => ?_) (fun hb28 h => ?_)
 cases h.e
 simp only [*, go_sem, mA, mS]
 cases h.e
 simp only [*, go_sem, mA, mS]
def coord_task (p0 : Config) (p1 : Task) : Option (Bool) := (if (decide (p1.Label < 0)) = true then (some false) else (if (decide (p1.Label ≥ ((p0.Labels.length : Nat) : Int))) = true then (some false) else (if (decide (p1.Key < 0)) = true then (some false) else (if (decide (p1.Key ≥ 8)) = true then (some false) else (if (decide (p1.Value < 0)) = true then (some false) else (if (decide (p1.Value > 1073741824)) = true then (some false) else (if (decide (p1.Version < 0)) = true then (some false) else (if (decide (p1.Version > 1048576)) = true then (some false) else (if (decide (p1.Ask < 1)) = true then (some false) else (if (decide (p1.Ask > 1048576)) = true then (some false) else (withK (fun (b12_1 : Bool) => (some b12_1)) fun k13 => (if p1.Done = true then (k13 true) else (if (!p1.Sure) = true then (if p1.Write = true then (k13 true) else (k13 (IntKind.i64.wrap (p1.Value + p1.Version) == 0))) else (k13 false))))))))))))))
def F194 : VFn := ⟨75, (.seq (.reg [vo 2 (.box 3 (.t 0)), vo 3 (.boxk 8 (.t 1)), vo 4 (.mv (cb false))]) (.seq (.seq (.reg [vf 5 1 3, vs 6 5, bk 7 .lss 6 0, vm 8 7, gf 9 8 (.fa 1 (.t 3)), gf 10 8 (.ld false 1 (.t 9)), gf 11 8 (.fa 1 (.t 2)), gf 12 8 (.ld false 1 (.t 11)), gf 13 8 (.len (.t 12)), gf 14 8 (.bin .i .geq (.t 10) (.t 13)), vo 15 (.pick (.t 8) (cb true) (.t 14)), vm 16 15, gf 17 16 (.fa 2 (.t 3)), gf 18 16 (.ld false 1 (.t 17)), gf 19 16 (.bin .i .lss (.t 18) (ci 0)), vo 20 (.pick (.t 16) (cb true) (.t 19)), vm 21 20, gf 22 21 (.fa 2 (.t 3)), gf 23 21 (.ld false 1 (.t 22)), gf 24 21 (.bin .i .geq (.t 23) (ci 8)), vo 25 (.pick (.t 21) (cb true) (.t 24)), vm 26 25, gf 27 26 (.fa 3 (.t 3)), gf 28 26 (.ld false 1 (.t 27)), gf 29 26 (.bin .i .lss (.t 28) (ci 0)), vo 30 (.pick (.t 26) (cb true) (.t 29)), vm 31 30, gf 32 31 (.fa 3 (.t 3)), gf 33 31 (.ld false 1 (.t 32)), gf 34 31 (.bin .i .gtr (.t 33) (ci 1073741824)), vo 35 (.pick (.t 31) (cb true) (.t 34)), vm 36 35, gf 37 36 (.fa 4 (.t 3)), gf 38 36 (.ld false 1 (.t 37)), gf 39 36 (.bin .i .lss (.t 38) (ci 0)), vo 40 (.pick (.t 36) (cb true) (.t 39)), vm 41 40, gf 42 41 (.fa 4 (.t 3)), gf 43 41 (.ld false 1 (.t 42)), gf 44 41 (.bin .i .gtr (.t 43) (ci 1048576)), vo 45 (.pick (.t 41) (cb true) (.t 44)), vm 46 45, gf 47 46 (.fa 5 (.t 3)), gf 48 46 (.ld false 1 (.t 47)), gf 49 46 (.bin .i .lss (.t 48) (ci 1)), vo 50 (.pick (.t 46) (cb true) (.t 49)), vm 51 50, gf 52 51 (.fa 5 (.t 3)), gf 53 51 (.ld false 1 (.t 52)), gf 54 51 (.bin .i .gtr (.t 53) (ci 1048576)), vo 55 (.pick (.t 51) (cb true) (.t 54))]) (.cond (.t 55) (.seq (.reg [vo 4 (.mv (cb false))]) .ret) .skip)) (.seq (.wk (.reg [vf 56 6 3, vs 57 56, vm 58 57, gf 59 58 (.fa 7 (.t 3)), gf 60 58 (.ld false 1 (.t 59)), gf 61 58 (.un .not (.t 60)), gf 62 58 (.mv (.t 61)), gt 63 62 (.fa 0 (.t 3)), gt 64 62 (.ld false 1 (.t 63)), gt 65 62 (.mv (.t 64)), gf 66 65 (.fa 3 (.t 3)), gf 67 65 (.ld false 1 (.t 66)), gf 68 65 (.fa 4 (.t 3)), gf 69 65 (.ld false 1 (.t 68)), gf 70 65 (.bin .i .add (.t 67) (.t 69)), gf 71 65 (.bin .i .eql (.t 70) (ci 0)), gt 72 62 (.pick (.t 65) (cb true) (.t 71)), gf 73 58 (.pick (.t 62) (.t 72) (cb false)), vo 74 (.pick (.t 58) (cb true) (.t 73)), vm 4 74])) .ret))), [.t 4]⟩
theorem low194 : lowF Tryd.prog 194 = some F194.strip := by kernel_rfl
theorem fok194 : fOk Tryd.prog 194 = true := by kernel_rfl
theorem coord_task_ok (p0 : Config) (p1 : Task) (r : Bool) (h : coord_task p0 p1 = some r) : FnRO Tryd.prog G 194 [.agg p0.bx, .agg p1.bx] (fun rs => rs = [.one (.b r)]) := by
 refine FnRO.of' low194 fok194 (by simp [F194]) ?_
 rw [coord_task] at h
 replace h := Hd.mk h
 simp only [F194, go_sem]
 refine oi h (fun hb1 h => ?_) (fun hb1 h => ?_)
 have := of_decide_eq_true hb1
 cases h.e
 simp only [*, go_sem, mA, mS]
 try simp only [*, go_sem]
 intro hl2
 refine oi h (fun hb3 h => ?_) (fun hb3 h => ?_)
 cases h.e
 simp only [*, go_sem, mA, mS]
 refine oi h (fun hb4 h => ?_) (fun hb4 h => ?_)
 have := of_decide_eq_true hb4
 cases h.e
 simp only [*, go_sem, mA, mS]
 refine oi h (fun hb5 h => ?_) (fun hb5 h => ?_)
 cases h.e
 simp only [*, go_sem, mA, mS]
 refine oi h (fun hb6 h => ?_) (fun hb6 h => ?_)
 have := of_decide_eq_true hb6
 cases h.e
 simp only [*, go_sem, mA, mS]
 refine oi h (fun hb7 h => ?_) (fun hb7 h => ?_)
 cases h.e
 simp only [*, go_sem, mA, mS]
 refine oi h (fun hb8 h => ?_) (fun hb8 h => ?_)
 have := of_decide_eq_true hb8
 cases h.e
 simp only [*, go_sem, mA, mS]
 refine oi h (fun hb9 h => ?_) (fun hb9 h => ?_)
 cases h.e
 simp only [*, go_sem, mA, mS]
 refine oi h (fun hb10 h => ?_) (fun hb10 h => ?_)
 have := of_decide_eq_true hb10
 cases h.e
 simp only [*, go_sem, mA, mS]
 refine oi h (fun hb11 h => ?_) (fun hb11 h => ?_)
 cases h.e
 simp only [*, go_sem, mA, mS]
 try simp only [*, go_sem]
 refine jn1 h (fun b12_1 => [zB 4 b12_1]) (fun b12_1 => []) (fun k13 h => ?_) (fun b12_1 h => ?_)
 refine oi h (fun hb14 h => ?_) (fun hb14 h => ?_)
 try simp only [*, go_sem]
 exact jc (true) h.e []
 refine oin h (fun hb15 hkhb15 h => ?_) (fun hb15 hkhb15 h => ?_)
 refine oi h (fun hb16 h => ?_) (fun hb16 h => ?_)
 try simp only [*, go_sem]
 exact jc (true) h.e []
 try simp only [*, go_sem]
 exact jc (IntKind.i64.wrap (p1.Value + p1.Version) == 0) h.e []
 try simp only [*, go_sem]
 exact jc (false) h.e []
 cases h.e
 simp only [*, go_sem, mA, mS]
def coord_job_L1 (p0 : Config) (p2 : Job) (k13 : Option (Bool)) : Nat → Nat → Option (Bool)
 | 0, _ => none
 | n15 + 1, a14_1 => (if (decide (a14_1 < p2.Tasks.length)) = true then (Option.bind (p2.Tasks[a14_1]?) fun x17 => (Option.bind (coord_task p0 x17) fun v18 => (if (!v18) = true then (some false) else (if (decide (x17.Ask > p2.Asks)) = true then (some false) else (if (decide (((a14_1 : Nat) : Int) > 0)) = true then (if 0 ≤ IntKind.i64.wrap (((a14_1 : Nat) : Int) - 1) then (Option.bind (p2.Tasks[(IntKind.i64.wrap (((a14_1 : Nat) : Int) - 1)).toNat]?) fun x22 => (if (decide (x22.Ask ≥ x17.Ask)) = true then (some false) else (if (!x17.Done) = true then (if (decide (((a14_1 : Nat) : Int) < IntKind.i64.wrap (((p2.Tasks.length : Nat) : Int) - 1))) = true then (some false) else (if (p2.State != 1) = true then (some false) else (coord_job_L1 p0 p2 k13 n15 (a14_1 + 1)))) else (coord_job_L1 p0 p2 k13 n15 (a14_1 + 1))))) else none) else (if (!x17.Done) = true then (if (decide (((a14_1 : Nat) : Int) < IntKind.i64.wrap (((p2.Tasks.length : Nat) : Int) - 1))) = true then (some false) else (if (p2.State != 1) = true then (some false) else (coord_job_L1 p0 p2 k13 n15 (a14_1 + 1)))) else (coord_job_L1 p0 p2 k13 n15 (a14_1 + 1)))))))) else k13)
def coord_job_L2 (p0 : Config) (p2 : Job) (k37 : Option (Bool)) : Nat → Nat → Option (Bool)
 | 0, _ => none
 | n39 + 1, a38_1 => (if (decide (a38_1 < p2.Asked.length)) = true then (Option.bind (p2.Asked[a38_1]?) fun x41 => (if (decide (x41 < 0)) = true then (some false) else (if (decide (x41 ≥ p0.Sites)) = true then (some false) else (if (decide (((a38_1 : Nat) : Int) > 0)) = true then (if 0 ≤ IntKind.i64.wrap (((a38_1 : Nat) : Int) - 1) then (Option.bind (p2.Asked[(IntKind.i64.wrap (((a38_1 : Nat) : Int) - 1)).toNat]?) fun x45 => (if (decide (x45 ≥ x41)) = true then (some false) else (coord_job_L2 p0 p2 k37 n39 (a38_1 + 1)))) else none) else (coord_job_L2 p0 p2 k37 n39 (a38_1 + 1)))))) else k37)
def coord_job (p0 : Config) (p1 : Desk) (p2 : Job) : Option (Bool) := (if (decide (p2.N < 1)) = true then (some false) else (if (decide (p2.N ≥ p1.Next)) = true then (some false) else (if (decide (p2.Age < 0)) = true then (some false) else (if (decide (p2.Age > 1048576)) = true then (some false) else (if (decide (p2.State < 1)) = true then (some false) else (if (decide (p2.State > 3)) = true then (some false) else (if (decide (((p2.Tasks.length : Nat) : Int) > 10)) = true then (some false) else (if (decide (p2.Asks < 0)) = true then (some false) else (if (decide (p2.Asks > 1048576)) = true then (some false) else (withK (withK (some ((p2.State == 3) == (decide (((p2.Asked.length : Nat) : Int) > 0)))) fun k37 => (coord_job_L2 p0 p2 k37 (p2.Asked.length + 1) 0)) fun k13 => (coord_job_L1 p0 p2 k13 (p2.Tasks.length + 1) 0)))))))))))
def F155 : VFn := ⟨155, (.seq (.reg [vo 3 (.box 3 (.t 0)), vo 4 (.box 2 (.t 1)), vo 5 (.box 6 (.t 2)), vo 6 (.mv (cb false))]) (.seq (.seq (.reg [vf 11 0 5, vs 12 11, bk 13 .lss 12 1, vm 14 13, gf 15 14 (.fa 0 (.t 5)), gf 16 14 (.ld false 1 (.t 15)), gf 17 14 (.fa 0 (.t 4)), gf 18 14 (.ld false 1 (.t 17)), gf 19 14 (.bin .i .geq (.t 16) (.t 18)), vo 20 (.pick (.t 14) (cb true) (.t 19)), vm 21 20, gf 22 21 (.fa 5 (.t 5)), gf 23 21 (.ld false 1 (.t 22)), gf 24 21 (.bin .i .lss (.t 23) (ci 0)), vo 25 (.pick (.t 21) (cb true) (.t 24)), vm 26 25, gf 27 26 (.fa 5 (.t 5)), gf 28 26 (.ld false 1 (.t 27)), gf 29 26 (.bin .i .gtr (.t 28) (ci 1048576)), vo 30 (.pick (.t 26) (cb true) (.t 29)), vm 31 30, gf 32 31 (.fa 1 (.t 5)), gf 33 31 (.ld false 1 (.t 32)), gf 34 31 (.bin .i .lss (.t 33) (ci 1)), vo 35 (.pick (.t 31) (cb true) (.t 34)), vm 36 35, gf 37 36 (.fa 1 (.t 5)), gf 38 36 (.ld false 1 (.t 37)), gf 39 36 (.bin .i .gtr (.t 38) (ci 3)), vo 40 (.pick (.t 36) (cb true) (.t 39)), vm 41 40, gf 42 41 (.fa 2 (.t 5)), gf 43 41 (.ld false 1 (.t 42)), gf 44 41 (.len (.t 43)), gf 45 41 (.bin .i .gtr (.t 44) (ci 10)), vo 46 (.pick (.t 41) (cb true) (.t 45)), vm 47 46, gf 48 47 (.fa 4 (.t 5)), gf 49 47 (.ld false 1 (.t 48)), gf 50 47 (.bin .i .lss (.t 49) (ci 0)), vo 51 (.pick (.t 47) (cb true) (.t 50)), vm 52 51, gf 53 52 (.fa 4 (.t 5)), gf 54 52 (.ld false 1 (.t 53)), gf 55 52 (.bin .i .gtr (.t 54) (ci 1048576)), vo 56 (.pick (.t 52) (cb true) (.t 55))]) (.cond (.t 56) (.seq (.reg [vo 6 (.mv (cb false))]) .ret) .skip)) (.seq (.seq (.reg [vf 57 2 5, vs 58 57, ln 59 58, mi 60 0]) (.wk (.block 0 (.loop (.seq (.reg [bt 61 .lss 60 59]) (.seq (.cond (.t 61) .skip (.exit 0)) (.seq (.block 1 (.seq (.reg [vm 62 60, xa 63 8 58 60, vl 64 8 63, vo 8 (.alloc [(.d (.b false)), (zi 0), (zi 0), (zi 0), (zi 0), (zi 0), (.d (.b false)), (.d (.b false))]), vm 7 62, vu (.st 8 (.t 8) (.t 64))]) (.seq (.draw [vd (vl 65 3 3) 0, vd (vl 66 8 8) 0, vd (vo 67 (.call 194 [(.t 65), (.t 66)])) 3, vd (nt 68 67) 7, vd (vm 69 68) 15, vd (gf 70 69 (.fa 5 (.t 8))) 31, vd (gf 71 69 (.ld false 1 (.t 70))) 63, vd (gf 72 69 (.fa 4 (.t 5))) 31, vd (gf 73 69 (.ld false 1 (.t 72))) 159, vd (gf 74 69 (.bin .i .gtr (.t 71) (.t 73))) 511, vd (vo 75 (.pick (.t 69) (cb true) (.t 74))) 1023, vd (vm 76 75) 2047, vd (gf 77 76 (.mv (.t 7))) 4095, vd (gf 78 76 (.bin .i .gtr (.t 77) (ci 0))) 8191, vd (gf 79 76 (.mv (.t 78))) 0x3fff, vd (gt 80 79 (.fa 2 (.t 5))) 0x7fff, vd (gt 81 79 (.ld false 1 (.t 80))) 0xffff, vd (gt 82 79 (.mv (.t 7))) 0x7fff, vd (gt 83 79 (.bin .i .sub (.t 82) (ci 1))) 0x27fff, vd (gt 84 79 (.ia 8 (.t 81) (.t 83))) 0x7ffff, vd (gt 85 79 (.fa 5 (.t 84))) 0xfffff, vd (gt 86 79 (.ld false 1 (.t 85))) 0x1fffff, vd (gt 87 79 (.fa 5 (.t 8))) 0x7fff, vd (gt 88 79 (.ld false 1 (.t 87))) 0x407fff, vd (gt 89 79 (.bin .i .geq (.t 86) (.t 88))) 0xffffff, vd (gf 90 76 (.pick (.t 79) (.t 89) (cb false))) 0x1ffffff, vd (vo 91 (.pick (.t 76) (cb true) (.t 90))) 0x3ffffff, vd (vm 92 91) 0x7ffffff, vd (gf 93 92 (.fa 6 (.t 8))) 0xfffffff, vd (gf 94 92 (.ld false 1 (.t 93))) 0x1fffffff, vd (gf 95 92 (.un .not (.t 94))) 0x3fffffff, vd (gf 96 92 (.mv (.t 95))) 0x7fffffff, vd (gt 97 96 (.mv (.t 7))) 0xffffffff, vd (gt 98 96 (.fa 2 (.t 5))) 0xffffffff, vd (gt 99 96 (.ld false 1 (.t 98))) 0x2ffffffff, vd (gt 100 96 (.len (.t 99))) 0x6ffffffff, vd (gt 101 96 (.bin .i .sub (.t 100) (ci 1))) 0xeffffffff, vd (gt 102 96 (.bin .i .lss (.t 97) (.t 101))) 0x1fffffffff, vd (gf 103 92 (.pick (.t 96) (.t 102) (cb false))) 0x3fffffffff, vd (vo 104 (.pick (.t 92) (cb true) (.t 103))) 0x7fffffffff, vd (vm 105 104) 0xffffffffff, vd (gf 106 105 (.fa 6 (.t 8))) 0x1ffffffffff, vd (gf 107 105 (.ld false 1 (.t 106))) 0x3ffffffffff, vd (gf 108 105 (.un .not (.t 107))) 0x7ffffffffff, vd (gf 109 105 (.mv (.t 108))) 0xfffffffffff, vd (gt 110 109 (.fa 1 (.t 5))) 0x1fffffffffff, vd (gt 111 109 (.ld false 1 (.t 110))) 0x3fffffffffff, vd (gt 112 109 (.bin .i .neq (.t 111) (ci 1))) 0x7fffffffffff, vd (gf 113 105 (.pick (.t 109) (.t 112) (cb false))) 0xffffffffffff, vd (vo 114 (.pick (.t 105) (cb true) (.t 113))) 0x1ffffffffffff]) (.cond (.t 114) (.seq (.reg [vo 6 (.mv (cb false))]) .ret) .skip)))) (.reg [bk 115 .add 60 1, vm 60 115])))))))) (.seq (.seq (.reg [vf 116 3 5, vs 117 116, ln 118 117, mi 119 0]) (.wk (.block 2 (.loop (.seq (.reg [bt 120 .lss 119 118]) (.seq (.cond (.t 120) .skip (.exit 2)) (.seq (.block 3 (.seq (.reg [vm 121 119, xa 122 1 117 119, vs 123 122, vm 9 121, vm 10 123]) (.seq (.reg [vm 124 10, bk 125 .lss 124 0, vm 126 125, gf 127 126 (.mv (.t 10)), gf 128 126 (.fa 0 (.t 3)), gf 129 126 (.ld false 1 (.t 128)), gf 130 126 (.bin .i .geq (.t 127) (.t 129)), vo 131 (.pick (.t 126) (cb true) (.t 130)), vm 132 131, gf 133 132 (.mv (.t 9)), gf 134 132 (.bin .i .gtr (.t 133) (ci 0)), gf 135 132 (.mv (.t 134)), gt 136 135 (.fa 3 (.t 5)), gt 137 135 (.ld false 1 (.t 136)), gt 138 135 (.mv (.t 9)), gt 139 135 (.bin .i .sub (.t 138) (ci 1)), gt 140 135 (.ia 1 (.t 137) (.t 139)), gt 141 135 (.ld false 1 (.t 140)), gt 142 135 (.mv (.t 10)), gt 143 135 (.bin .i .geq (.t 141) (.t 142)), gf 144 132 (.pick (.t 135) (.t 143) (cb false)), vo 145 (.pick (.t 132) (cb true) (.t 144))]) (.cond (.t 145) (.seq (.reg [vo 6 (.mv (cb false))]) .ret) .skip)))) (.reg [bk 146 .add 119 1, vm 119 146])))))))) (.seq (.reg [vf 147 1 5, vs 148 147, bk 149 .eql 148 3, vf 150 3 5, vs 151 150, ln 152 151, bk 153 .gtr 152 0, vo 154 (.bin .b .eql (.t 149) (.t 153)), vm 6 154]) .ret))))), [.t 6]⟩
theorem low155 : lowF Tryd.prog 155 = some F155.strip := by kernel_rfl
theorem fok155 : fOk Tryd.prog 155 = true := by kernel_rfl
theorem coord_job_ok (p0 : Config) (p1 : Desk) (p2 : Job) (r : Bool) (h : coord_job p0 p1 p2 = some r) : FnRO Tryd.prog G 155 [.agg p0.bx, .agg p1.bx, .agg p2.bx] (fun rs => rs = [.one (.b r)]) := by
 refine FnRO.of' low155 fok155 (by simp [F155]) ?_
 rw [coord_job] at h
 replace h := Hd.mk h
 simp only [F155, go_sem]
 refine oi h (fun hb1 h => ?_) (fun hb1 h => ?_)
 have := of_decide_eq_true hb1
 cases h.e
 simp only [*, go_sem, mA, mS]
 refine oi h (fun hb2 h => ?_) (fun hb2 h => ?_)
 cases h.e
 simp only [*, go_sem, mA, mS]
 refine oi h (fun hb3 h => ?_) (fun hb3 h => ?_)
 have := of_decide_eq_true hb3
 cases h.e
 simp only [*, go_sem, mA, mS]
 refine oi h (fun hb4 h => ?_) (fun hb4 h => ?_)
 cases h.e
 simp only [*, go_sem, mA, mS]
 refine oi h (fun hb5 h => ?_) (fun hb5 h => ?_)
 have := of_decide_eq_true hb5
 cases h.e
 simp only [*, go_sem, mA, mS]
 refine oi h (fun hb6 h => ?_) (fun hb6 h => ?_)
 cases h.e
 simp only [*, go_sem, mA, mS]
 try simp only [*, go_sem]
 intro hl7
 refine oi h (fun hb8 h => ?_) (fun hb8 h => ?_)
 cases h.e
 simp only [*, go_sem, mA, mS]
 refine oi h (fun hb9 h => ?_) (fun hb9 h => ?_)
 have := of_decide_eq_true hb9
 cases h.e
 simp only [*, go_sem, mA, mS]
 refine oi h (fun hb10 h => ?_) (fun hb10 h => ?_)
 cases h.e
 simp only [*, go_sem, mA, mS]
 try simp only [*, go_sem]
 intro hl11
 try simp only [*, go_sem]
 refine jn0 h ([zP 3 0, zP 5 1]) ([ox p0.bx, ox p2.bx]) (fun k13 h => ?_) (fun h => ?_)
 try simp only [*, go_sem]
 refine lp1 (coord_job_L1 p0 p2 k13) (fun a14_1 => [zP 3 0, zP 5 1, zL 58 8 (p2.Tasks.map Task.enc), zI 59 ((p2.Tasks.length : Nat) : Int), zI 60 ((a14_1 : Nat) : Int)]) (fun a14_1 => [ox p0.bx, ox p2.bx]) h [] [some 0, some 2] (fun n15 a14_1 h => ?_) (by intros; rw [coord_job_L1])
 rw [coord_job_L1] at h
 refine oi h (fun hb16 h => ?_) (fun hb16 h => ?_)
 have := of_decide_eq_true hb16
 refine obg h (fun x17 _ hkx17 h => ?_)
 refine obk h (fun v18 hv18 h => ?_)
 try simp only [*, go_sem]
 refine cd (coord_task_ok G p0 x17 v18 hv18) ?_
 refine oin h (fun hb19 hkhb19 h => ?_) (fun hb19 hkhb19 h => ?_)
 cases h.e
 simp only [*, go_sem, mA, mS]
 refine oi h (fun hb20 h => ?_) (fun hb20 h => ?_)
 cases h.e
 simp only [*, go_sem, mA, mS]
 refine oi h (fun hb21 h => ?_) (fun hb21 h => ?_)
 refine obn h (fun x22 _ _ _ _ h => ?_)
 refine oi h (fun hb24 h => ?_) (fun hb24 h => ?_)
 cases h.e
 simp only [*, go_sem, mA, mS]
 refine oin h (fun hb25 hkhb25 h => ?_) (fun hb25 hkhb25 h => ?_)
 refine oi h (fun hb26 h => ?_) (fun hb26 h => ?_)
 cases h.e
 simp only [*, go_sem, mA, mS]
 refine oi h (fun hb27 h => ?_) (fun hb27 h => ?_)
 cases h.e
 simp only [*, go_sem, mA, mS]
 have := wrap_succ_max hkx17 hl7
 try simp only [*, go_sem]
 exact lc (a14_1 + 1) h.e [some 0, some 1]
 have := wrap_succ_max hkx17 hl7
 try simp only [*, go_sem]
 exact lc (a14_1 + 1) h.e [some 0, some 1]
 refine oin h (fun hb30 hkhb30 h => ?_) (fun hb30 hkhb30 h => ?_)
 refine oi h (fun hb31 h => ?_) (fun hb31 h => ?_)
 cases h.e
 simp only [*, go_sem, mA, mS]
 refine oi h (fun hb32 h => ?_) (fun hb32 h => ?_)
 cases h.e
 simp only [*, go_sem, mA, mS]
 have := wrap_succ_max hkx17 hl7
 try simp only [*, go_sem]
 exact lc (a14_1 + 1) h.e [some 0, some 1]
 have := wrap_succ_max hkx17 hl7
 try simp only [*, go_sem]
 exact lc (a14_1 + 1) h.e [some 0, some 1]
 try simp only [*, go_sem]
 exact jc () h.e [some 0, some 1]
 try simp only [*, go_sem]
 intro hl35
 try simp only [*, go_sem]
 refine jn0 h ([zP 5 0]) ([ox p2.bx]) (fun k37 h => ?_) (fun h => ?_)
 try simp only [*, go_sem]
 refine lp1 (coord_job_L2 p0 p2 k37) (fun a38_1 => [zP 3 0, zP 5 1, zL 117 1 (p2.Asked.map encI), zI 118 ((p2.Asked.length : Nat) : Int), zI 119 ((a38_1 : Nat) : Int)]) (fun a38_1 => [ox p0.bx, ox p2.bx]) h [] [some 0, some 1] (fun n39 a38_1 h => ?_) (by intros; rw [coord_job_L2])
 rw [coord_job_L2] at h
 refine oi h (fun hb40 h => ?_) (fun hb40 h => ?_)
 have := of_decide_eq_true hb40
 refine obg h (fun x41 _ hkx41 h => ?_)
 refine oi h (fun hb42 h => ?_) (fun hb42 h => ?_)
 have := of_decide_eq_true hb42
 cases h.e
 simp only [*, go_sem, mA, mS]
 refine oi h (fun hb43 h => ?_) (fun hb43 h => ?_)
 cases h.e
 simp only [*, go_sem, mA, mS]
 refine oi h (fun hb44 h => ?_) (fun hb44 h => ?_)
 refine obn h (fun x45 _ _ _ _ h => ?_)
 refine oi h (fun hb47 h => ?_) (fun hb47 h => ?_)
 cases h.e
 simp only [*, go_sem, mA, mS]
 have := wrap_succ_max hkx41 hl35
 try simp only [*, go_sem]
 exact lc (a38_1 + 1) h.e [some 0, some 1]
 have := wrap_succ_max hkx41 hl35
 try simp only [*, go_sem]
 exact lc (a38_1 + 1) h.e [some 0, some 1]
 try simp only [*, go_sem]
 exact jc () h.e [some 1]
 try simp only [*, go_sem]
 intro hl50
 cases h.e
 simp only [*, go_sem, mA, mS]
def coord_Check_L1 (p0 : Config) (p1 : Desk) (k9 : Option (Int)) : Nat → Nat → Option (Int)
 | 0, _ => none
 | n11 + 1, a10_1 => (if (decide (a10_1 < p1.Jobs.length)) = true then (Option.bind (p1.Jobs[a10_1]?) fun x13 => (Option.bind (coord_job p0 p1 x13) fun v14 => (if (!v14) = true then (some 9) else (if (decide (((a10_1 : Nat) : Int) > 0)) = true then (if 0 ≤ IntKind.i64.wrap (((a10_1 : Nat) : Int) - 1) then (Option.bind (p1.Jobs[(IntKind.i64.wrap (((a10_1 : Nat) : Int) - 1)).toNat]?) fun x17 => (if (decide (x17.N ≥ x13.N)) = true then (some 9) else (coord_Check_L1 p0 p1 k9 n11 (a10_1 + 1)))) else none) else (coord_Check_L1 p0 p1 k9 n11 (a10_1 + 1)))))) else k9)
def coord_Check (p0 : Config) (p1 : Desk) : Option (Int) := (Option.bind (label_Check p0) fun v1 => (if (v1 != 0) = true then (some v1) else (if (decide (p1.Next < 1)) = true then (some 9) else (if (decide (p1.Next > 1048577)) = true then (some 9) else (if (decide (((p1.Jobs.length : Nat) : Int) > 6)) = true then (some 9) else (withK (some 0) fun k9 => (coord_Check_L1 p0 p1 k9 (p1.Jobs.length + 1) 0)))))))
def F104 : VFn := ⟨57, (.seq (.reg [vo 2 (.box 3 (.t 0)), vo 3 (.box 2 (.t 1)), mi 4 0]) (.seq (.seq (.reg [vl 8 3 2, vo 9 (.call 66 [(.t 8)]), vm 5 9]) (.seq (.reg [vm 10 5, bk 11 .neq 10 0]) (.cond (.t 11) (.seq (.reg [vm 12 5, vm 4 12]) .ret) .skip))) (.seq (.seq (.reg [vf 13 0 3, vs 14 13, bk 15 .lss 14 1, vm 16 15, gf 17 16 (.fa 0 (.t 3)), gf 18 16 (.ld false 1 (.t 17)), gf 19 16 (.bin .i .gtr (.t 18) (ci 1048577)), vo 20 (.pick (.t 16) (cb true) (.t 19)), vm 21 20, gf 22 21 (.fa 1 (.t 3)), gf 23 21 (.ld false 1 (.t 22)), gf 24 21 (.len (.t 23)), gf 25 21 (.bin .i .gtr (.t 24) (ci 6)), vo 26 (.pick (.t 21) (cb true) (.t 25))]) (.cond (.t 26) (.seq (.reg [mi 4 9]) .ret) .skip)) (.seq (.seq (.reg [vf 27 1 3, vs 28 27, ln 29 28, mi 30 0]) (.wk (.block 0 (.loop (.seq (.reg [bt 31 .lss 30 29]) (.seq (.cond (.t 31) .skip (.exit 0)) (.seq (.block 1 (.seq (.reg [vm 32 30, xa 33 6 28 30, vl 34 6 33, vo 7 (.alloc [(zi 0), (zi 0), (.nl 8), (.nl 1), (zi 0), (zi 0)]), vm 6 32, vu (.st 6 (.t 7) (.t 34))]) (.seq (.draw [vd (vl 35 3 2) 0, vd (vl 36 2 3) 0, vd (vl 37 6 7) 0, vd (vo 38 (.call 155 [(.t 35), (.t 36), (.t 37)])) 7, vd (nt 39 38) 15, vd (vm 40 39) 31, vd (gf 41 40 (.mv (.t 6))) 63, vd (gf 42 40 (.bin .i .gtr (.t 41) (ci 0))) 127, vd (gf 43 40 (.mv (.t 42))) 255, vd (gt 44 43 (.fa 1 (.t 3))) 511, vd (gt 45 43 (.ld false 1 (.t 44))) 1023, vd (gt 46 43 (.mv (.t 6))) 511, vd (gt 47 43 (.bin .i .sub (.t 46) (ci 1))) 2559, vd (gt 48 43 (.ia 6 (.t 45) (.t 47))) 8191, vd (gt 49 43 (.fa 0 (.t 48))) 0x3fff, vd (gt 50 43 (.ld false 1 (.t 49))) 0x7fff, vd (gt 51 43 (.fa 0 (.t 7))) 511, vd (gt 52 43 (.ld false 1 (.t 51))) 0x101ff, vd (gt 53 43 (.bin .i .geq (.t 50) (.t 52))) 0x3ffff, vd (gf 54 40 (.pick (.t 43) (.t 53) (cb false))) 0x7ffff, vd (vo 55 (.pick (.t 40) (cb true) (.t 54))) 0xfffff]) (.cond (.t 55) (.seq (.reg [mi 4 9]) .ret) .skip)))) (.reg [bk 56 .add 30 1, vm 30 56])))))))) (.seq (.reg [mi 4 0]) .ret))))), [.t 4]⟩
theorem low104 : lowF Tryd.prog 104 = some F104.strip := by kernel_rfl
theorem fok104 : fOk Tryd.prog 104 = true := by kernel_rfl
theorem coord_Check_ok (p0 : Config) (p1 : Desk) (r : Int) (h : coord_Check p0 p1 = some r) : FnRO Tryd.prog G 104 [.agg p0.bx, .agg p1.bx] (fun rs => rs = [.one (.i .i64 r)]) := by
 refine FnRO.of' low104 fok104 (by simp [F104]) ?_
 rw [coord_Check] at h
 replace h := Hd.mk h
 simp only [F104, go_sem]
 try simp only [*, go_sem]
 refine cr h (label_Check_ok G p0) (fun v1 h => ?_)
 refine oi h (fun hb2 h => ?_) (fun hb2 h => ?_)
 cases h.e
 simp only [*, go_sem, mA, mS]
 refine oi h (fun hb3 h => ?_) (fun hb3 h => ?_)
 have := of_decide_eq_true hb3
 cases h.e
 simp only [*, go_sem, mA, mS]
 refine oi h (fun hb4 h => ?_) (fun hb4 h => ?_)
 cases h.e
 simp only [*, go_sem, mA, mS]
 try simp only [*, go_sem]
 intro hl5
 refine oi h (fun hb6 h => ?_) (fun hb6 h => ?_)
 cases h.e
 simp only [*, go_sem, mA, mS]
 try simp only [*, go_sem]
 intro hl7
 try simp only [*, go_sem]
 refine jn0 h ([]) ([]) (fun k9 h => ?_) (fun h => ?_)
 try simp only [*, go_sem]
 refine lp1 (coord_Check_L1 p0 p1 k9) (fun a10_1 => [zP 2 0, zP 3 1, zL 28 6 (p1.Jobs.map Job.enc), zI 29 ((p1.Jobs.length : Nat) : Int), zI 30 ((a10_1 : Nat) : Int)]) (fun a10_1 => [ox p0.bx, ox p1.bx]) h [] [some 0, some 1] (fun n11 a10_1 h => ?_) (by intros; rw [coord_Check_L1])
 rw [coord_Check_L1] at h
 refine oi h (fun hb12 h => ?_) (fun hb12 h => ?_)
 have := of_decide_eq_true hb12
 refine obg h (fun x13 _ hkx13 h => ?_)
 refine obk h (fun v14 hv14 h => ?_)
 try simp only [*, go_sem]
 refine cd (coord_job_ok G p0 p1 x13 v14 hv14) ?_
 refine oin h (fun hb15 hkhb15 h => ?_) (fun hb15 hkhb15 h => ?_)
 cases h.e
 simp only [*, go_sem, mA, mS]
 refine oi h (fun hb16 h => ?_) (fun hb16 h => ?_)
 refine obn h (fun x17 _ _ _ _ h => ?_)
 refine oi h (fun hb19 h => ?_) (fun hb19 h => ?_)
 cases h.e
 simp only [*, go_sem, mA, mS]
 have := wrap_succ_max hkx13 hl5
 try simp only [*, go_sem]
 exact lc (a10_1 + 1) h.e [some 0, some 1]
 have := wrap_succ_max hkx13 hl5
 try simp only [*, go_sem]
 exact lc (a10_1 + 1) h.e [some 0, some 1]
 try simp only [*, go_sem]
 exact jc () h.e []
 cases h.e
 simp only [*, go_sem, mA, mS]
theorem low156 : lowF Tryd.prog 156 = some (cloneV 8 56 [(.d (.b false)), (zi 0), (zi 0), (zi 0), (zi 0), (zi 0), (.d (.b false)), (.d (.b false))]) := by kernel_rfl
theorem fok156 : fOk Tryd.prog 156 = true := by kernel_rfl
theorem clone156_ok (p0 r : List Task) (h : cloneF 56 p0 = some r) : FnRO Tryd.prog G 156 [.one (.d (.l 8 (p0.map Task.enc)))] (fun rs => rs = [.one (.o 8 (r.map Task.enc))]) := clone_ok low156 fok156 G Task.enc p0 r h
theorem low157 : lowF Tryd.prog 157 = some (cloneV 1 8 [(zi 0)]) := by kernel_rfl
theorem fok157 : fOk Tryd.prog 157 = true := by kernel_rfl
theorem clone157_ok (p0 r : List Int) (h : cloneF 8 p0 = some r) : FnRO Tryd.prog G 157 [.one (.d (.l 1 (p0.map encI)))] (fun rs => rs = [.one (.o 1 (r.map encI))]) := clone_ok low157 fok157 G encI p0 r h
def coord_own_L1 (p0 : Desk) (k3 : (List Job) → Option (Desk)) : Nat → Nat → (List Job) → Option (Desk)
 | 0, _, _ => none
 | n5 + 1, a4_1, a4_2 => (if (decide (a4_1 < p0.Jobs.length)) = true then (Option.bind (p0.Jobs[a4_1]?) fun x7 => (Option.bind (cloneF 56 x7.Tasks) fun v8 => (Option.bind (cloneF 8 x7.Asked) fun v9 => (withK (if fits 80 (a4_2.length + 1) then (coord_own_L1 p0 k3 n5 (a4_1 + 1) (a4_2 ++ [(Job.mk x7.N x7.State v8 v9 x7.Asks x7.Age)])) else none) fun k11 => k11)))) else (k3 a4_2))
def coord_own (p0 : Desk) : Option (Desk) := (withK (fun (b2_1 : List Job) => (some (Desk.mk p0.Next b2_1))) fun k3 => (coord_own_L1 p0 k3 (p0.Jobs.length + 1) 0 []))
def F105 : VFn := ⟨32, (.seq (.reg [vo 1 (.box 2 (.t 0)), vo 2 (.alloc [(zi 0), (.nl 6)])]) (.seq (.reg [vf 6 0 1, vs 7 6, vo 8 (.build [(zi 0), (.nl 6)] [(0, 1, (.t 7))]), vo 3 (.alloc [(zi 0), (.nl 6)]), vu (.st 2 (.t 3) (.t 8))]) (.seq (.seq (.reg [vf 9 1 1, vs 10 9, ln 11 10, mi 12 0]) (.wk (.block 0 (.loop (.seq (.reg [bt 13 .lss 12 11]) (.seq (.cond (.t 13) .skip (.exit 0)) (.seq (.block 1 (.seq (.reg [xa 14 6 10 12, vl 15 6 14, vo 5 (.alloc [(zi 0), (zi 0), (.nl 8), (.nl 1), (zi 0), (zi 0)]), vu (.st 6 (.t 5) (.t 15))]) (.seq (.draw [vd (vf 16 2 5) 0, vd (vs 17 16) 1, vd (vo 18 (.call 156 [(.t 17)])) 3, ⟨vf 19 3 5, 0, [2], none, []⟩, ⟨vs 20 19, 8, [2], none, []⟩, vd (vo 21 (.call 157 [(.t 20)])) 31, ⟨vf 22 2 5, 31, [5], none, []⟩, vd (vu (.st 1 (.t 22) (.t 18))) 127, vd (vf 23 3 5) 255, vd (vu (.st 1 (.t 23) (.t 21))) 511]) (.regs [[vf 24 1 3, vs 25 24, vl 26 6 5], [vo 27 (.bslw 6 1 [(zi 0), (zi 0), (.nl 8), (.nl 1), (zi 0), (zi 0)] [(0, (.t 26))]), vo 28 (.appw 6 80 (.t 25) (.t 27)), vf 29 1 3, vu (.st 1 (.t 29) (.t 28))]])))) (.reg [bk 30 .add 12 1, vm 12 30])))))))) (.seq (.reg [vl 31 2 3, vu (.st 2 (.t 2) (.t 31))]) .ret)))), [.cell 2 true 2]⟩
theorem low105 : lowF Tryd.prog 105 = some F105.strip := by kernel_rfl
theorem fok105 : fOk Tryd.prog 105 = true := by kernel_rfl
theorem coord_own_ok (p0 : Desk) (r : Desk) (h : coord_own p0 = some r) : FnRO Tryd.prog G 105 [.agg p0.bx] (fun rs => rs = [.agg [.i .i64 r.Next, .t 6 (r.Jobs.map Job.encO)]]) := by
 refine FnRO.same ?_
 refine FnRO.of' low105 fok105 (by simp [F105]) ?_
 rw [coord_own] at h
 replace h := Hd.mk h
 simp only [F105, go_sem]
 try simp only [*, go_sem]
 intro hl1
 try simp only [*, go_sem]
 refine jn1 h (fun b2_1 => [zP 2 0, zP 3 1]) (fun b2_1 => [ox [zi 0, .nl 6], ox [zi p0.Next, .r 2 0 b2_1.length], ot 6 (b2_1.map Job.encO)]) (fun k3 h => ?_) (fun b2_1 h => ?_)
 try simp only [*, go_sem]
 refine lp2 (coord_own_L1 p0 k3) (fun a4_1 a4_2 => [zP 2 0, zP 3 1, zL 10 6 (p0.Jobs.map Job.enc), zI 11 ((p0.Jobs.length : Nat) : Int), zI 12 ((a4_1 : Nat) : Int)]) (fun a4_1 a4_2 => [ox [zi 0, .nl 6], ox [zi p0.Next, .r 2 0 a4_2.length], ot 6 (a4_2.map Job.encO)]) h [] [some 1, some 2, none] (fun n5 a4_1 a4_2 h => ?_) (by intros; rw [coord_own_L1])
 rw [coord_own_L1] at h
 refine oi h (fun hb6 h => ?_) (fun hb6 h => ?_)
 have := of_decide_eq_true hb6
 refine obg h (fun x7 _ hkx7 h => ?_)
 refine obk h (fun v8 hv8 h => ?_)
 try simp only [*, go_sem]
 refine cd (clone156_ok G x7.Tasks v8 hv8) ?_
 refine obk h (fun v9 hv9 h => ?_)
 try simp only [*, go_sem]
 refine cd (clone157_ok G x7.Asked v9 hv9) ?_
 try simp only [*, go_sem]
 refine rg0 h ([zP 2 0, zP 3 1, zL 10 6 (p0.Jobs.map Job.enc), zI 11 ((p0.Jobs.length : Nat) : Int), zI 12 ((a4_1 : Nat) : Int), zR 25 2 0 a4_2.length, (26, .agg [zi x7.N, zi x7.State, .r 3 0 v8.length, .r 4 0 v9.length, zi x7.Asks, zi x7.Age])]) ([ox [zi 0, .nl 6], ox [zi p0.Next, .r 2 0 a4_2.length], ot 6 (a4_2.map Job.encO), oa 8 (v8.map Task.enc), oa 1 (v9.map encI)]) (fun k11 h => ?_) (fun h => ?_)
 try simp only [*, go_sem]
 exact jc () h.e [some 0, some 1, some 2, some 6, some 9]
 refine ck h (fun _ h => ?_)
 have := wrap_succ_max hkx7 hl1
 try simp only [*, go_sem]
 exact lc (a4_1 + 1, (a4_2 ++ [(Job.mk x7.N x7.State v8 v9 x7.Asks x7.Age)])) h.e [some 0, some 1, some 6]
 try simp only [*, go_sem]
 exact jc (a4_2) h.e [some 0, some 1, some 2]
 cases h.e
 simp only [*, go_sem, mA, mS]
def F46 : VFn := ⟨42, (.seq (.gho (.reg [vo 4 (.box 3 (.t 0)), vo 7 (.box 2 (.t 3)), vo 8 (.mv (.c (.one (.d .np)))), mi 9 0])) (.seq (.seq (.gho (.reg [vl 11 3 4, vl 12 2 7, vo 13 (.call 104 [(.t 11), (.t 12)]), vm 10 13])) (.seq (.gho (.reg [vm 14 10, bk 15 .neq 14 0])) (.cond (.t 15) (.seq (.gho (.reg [vm 16 10, vo 8 (.mv (.c (.one (.d .np)))), vm 9 16])) (.gho .ret)) .skip))) (.seq (.wk (.seq (.gho (.reg [vm 17 1, bk 18 .lss 17 0, vm 19 18, gf 20 19 (.mv (.t 1)), gf 21 19 (.fa 1 (.t 4)), gf 22 19 (.ld false 1 (.t 21)), gf 23 19 (.len (.t 22)), gf 24 19 (.bin .i .geq (.t 20) (.t 23)), vo 25 (.pick (.t 19) (cb true) (.t 24))])) (.cond (.t 25) (.seq (.gho (.reg [vo 8 (.mv (.c (.one (.d .np)))), mi 9 6])) (.gho .ret)) .skip))) (.seq (.wk (.seq (.gho (.reg [vm 26 2, bk 27 .lss 26 0, vm 28 27, gf 29 28 (.mv (.t 2)), gf 30 28 (.fa 0 (.t 4)), gf 31 28 (.ld false 1 (.t 30)), gf 32 28 (.bin .i .geq (.t 29) (.t 31)), vo 33 (.pick (.t 28) (cb true) (.t 32))])) (.cond (.t 33) (.seq (.gho (.reg [vo 8 (.mv (.c (.one (.d .np)))), mi 9 2])) (.gho .ret)) .skip))) (.seq (.gho (.draw [vd (vl 34 3 4) 0, vd (vm 35 1) 0, vd (vm 36 2) 0, vd (vl 37 2 7) 0, vd (vo 38 (.call 105 [(.t 37)])) 8, vd (vo 39 (.build [(zi 0), (.nl 6), (.nl 12), (.nl 8), (.nl 6), (zi 0), (zi 0)] [(0, 2, (.t 38))])) 24, vd (vo 40 (.build [(zi 0), (.nl 2), (zi 0), (zi 0), (zi 0), (zi 0), (.nl 6), (.nl 12), (.nl 8), (.nl 6), (zi 0), (zi 0)] [(0, 3, (.t 34)), (3, 1, (.t 35)), (4, 1, (.t 36)), (5, 7, (.t 39))])) 63, vd (vo 41 (.box 12 (.t 40))) 127, vd (vm 8 41) 255, vd (mi 9 0) 511])) (.gho .ret)))))), [.t 8, .t 9]⟩
theorem low46 : lowF Tryd.prog 46 = some F46.strip := by kernel_rfl
theorem fok46 : fOk Tryd.prog 46 = true := by kernel_rfl
def wire_txn (p0 : Config) (p1 : Txn) : Option (Bool) := (withK (fun (b1_1 : Bool) => (some b1_1)) fun k2 => (if (decide (p1.Site ≥ 0)) = true then (if (decide (p1.Site < p0.Sites)) = true then (if (decide (p1.N ≥ 1)) = true then (k2 (decide (p1.N ≤ 1048576))) else (k2 false)) else (k2 false)) else (k2 false)))
def F74 : VFn := ⟨25, (.seq (.reg [vo 2 (.box 3 (.t 0)), vo 3 (.boxk 2 (.t 1)), vo 4 (.mv (cb false))]) (.seq (.wk (.reg [vf 5 0 3, vs 6 5, bk 7 .geq 6 0, vm 8 7, gt 9 8 (.fa 0 (.t 3)), gt 10 8 (.ld false 1 (.t 9)), gt 11 8 (.fa 0 (.t 2)), gt 12 8 (.ld false 1 (.t 11)), gt 13 8 (.bin .i .lss (.t 10) (.t 12)), vo 14 (.pick (.t 8) (.t 13) (cb false)), vm 15 14, gt 16 15 (.fa 1 (.t 3)), gt 17 15 (.ld false 1 (.t 16)), gt 18 15 (.bin .i .geq (.t 17) (ci 1)), vo 19 (.pick (.t 15) (.t 18) (cb false)), vm 20 19, gt 21 20 (.fa 1 (.t 3)), gt 22 20 (.ld false 1 (.t 21)), gt 23 20 (.bin .i .leq (.t 22) (ci 1048576)), vo 24 (.pick (.t 20) (.t 23) (cb false)), vm 4 24])) .ret)), [.t 4]⟩
theorem low74 : lowF Tryd.prog 74 = some F74.strip := by kernel_rfl
theorem fok74 : fOk Tryd.prog 74 = true := by kernel_rfl
theorem wire_txn_ok (p0 : Config) (p1 : Txn) (r : Bool) (h : wire_txn p0 p1 = some r) : FnRO Tryd.prog G 74 [.agg p0.bx, .agg p1.bx] (fun rs => rs = [.one (.b r)]) := by
 refine FnRO.of' low74 fok74 (by simp [F74]) ?_
 rw [wire_txn] at h
 replace h := Hd.mk h
 simp only [F74, go_sem]
 try simp only [*, go_sem]
 refine jn1 h (fun b1_1 => [zB 4 b1_1]) (fun b1_1 => []) (fun k2 h => ?_) (fun b1_1 h => ?_)
 refine oi h (fun hb3 h => ?_) (fun hb3 h => ?_)
 refine oi h (fun hb4 h => ?_) (fun hb4 h => ?_)
 have := of_decide_eq_true hb4
 refine oi h (fun hb5 h => ?_) (fun hb5 h => ?_)
 try simp only [*, go_sem]
 exact jc (decide (p1.N ≤ 1048576)) h.e []
 try simp only [*, go_sem]
 exact jc (false) h.e []
 try simp only [*, go_sem]
 exact jc (false) h.e []
 try simp only [*, go_sem]
 exact jc (false) h.e []
 cases h.e
 simp only [*, go_sem, mA, mS]
def wire_key (p0 : Int) : Option (Bool) := (withK (fun (b1_1 : Bool) => (some b1_1)) fun k2 => (if (decide (p0 ≥ 0)) = true then (k2 (decide (p0 < 8))) else (k2 false)))
def F75 : VFn := ⟨9, (.seq (.reg [vo 2 (.mv (cb false))]) (.seq (.wk (.reg [vm 3 0, bk 4 .geq 3 0, vm 5 4, gt 6 5 (.mv (.t 0)), gt 7 5 (.bin .i .lss (.t 6) (ci 8)), vo 8 (.pick (.t 5) (.t 7) (cb false)), vm 2 8])) .ret)), [.t 2]⟩
theorem low75 : lowF Tryd.prog 75 = some F75.strip := by kernel_rfl
theorem fok75 : fOk Tryd.prog 75 = true := by kernel_rfl
theorem wire_key_ok (p0 : Int) (r : Bool) (h : wire_key p0 = some r) : FnRO Tryd.prog G 75 [.one (.d (.i .i64 p0))] (fun rs => rs = [.one (.b r)]) := by
 refine FnRO.of' low75 fok75 (by simp [F75]) ?_
 rw [wire_key] at h
 replace h := Hd.mk h
 simp only [F75, go_sem]
 try simp only [*, go_sem]
 refine jn1 h (fun b1_1 => [zB 2 b1_1]) (fun b1_1 => []) (fun k2 h => ?_) (fun b1_1 h => ?_)
 refine oi h (fun hb3 h => ?_) (fun hb3 h => ?_)
 try simp only [*, go_sem]
 exact jc (decide (p0 < 8)) h.e []
 try simp only [*, go_sem]
 exact jc (false) h.e []
 cases h.e
 simp only [*, go_sem, mA, mS]
def wire_value (p0 : Int) : Option (Bool) := (withK (fun (b1_1 : Bool) => (some b1_1)) fun k2 => (if (decide (p0 ≥ 0)) = true then (k2 (decide (p0 ≤ 1073741824))) else (k2 false)))
def F76 : VFn := ⟨9, (.seq (.reg [vo 2 (.mv (cb false))]) (.seq (.wk (.reg [vm 3 0, bk 4 .geq 3 0, vm 5 4, gt 6 5 (.mv (.t 0)), gt 7 5 (.bin .i .leq (.t 6) (ci 1073741824)), vo 8 (.pick (.t 5) (.t 7) (cb false)), vm 2 8])) .ret)), [.t 2]⟩
theorem low76 : lowF Tryd.prog 76 = some F76.strip := by kernel_rfl
theorem fok76 : fOk Tryd.prog 76 = true := by kernel_rfl
theorem wire_value_ok (p0 : Int) (r : Bool) (h : wire_value p0 = some r) : FnRO Tryd.prog G 76 [.one (.d (.i .i64 p0))] (fun rs => rs = [.one (.b r)]) := by
 refine FnRO.of' low76 fok76 (by simp [F76]) ?_
 rw [wire_value] at h
 replace h := Hd.mk h
 simp only [F76, go_sem]
 try simp only [*, go_sem]
 refine jn1 h (fun b1_1 => [zB 2 b1_1]) (fun b1_1 => []) (fun k2 h => ?_) (fun b1_1 h => ?_)
 refine oi h (fun hb3 h => ?_) (fun hb3 h => ?_)
 try simp only [*, go_sem]
 exact jc (decide (p0 ≤ 1073741824)) h.e []
 try simp only [*, go_sem]
 exact jc (false) h.e []
 cases h.e
 simp only [*, go_sem, mA, mS]
def wire_ask (p0 : Int) : Option (Bool) := (withK (fun (b1_1 : Bool) => (some b1_1)) fun k2 => (if (decide (p0 ≥ 0)) = true then (k2 (decide (p0 ≤ 1048576))) else (k2 false)))
def F77 : VFn := ⟨9, (.seq (.reg [vo 2 (.mv (cb false))]) (.seq (.wk (.reg [vm 3 0, bk 4 .geq 3 0, vm 5 4, gt 6 5 (.mv (.t 0)), gt 7 5 (.bin .i .leq (.t 6) (ci 1048576)), vo 8 (.pick (.t 5) (.t 7) (cb false)), vm 2 8])) .ret)), [.t 2]⟩
theorem low77 : lowF Tryd.prog 77 = some F77.strip := by kernel_rfl
theorem fok77 : fOk Tryd.prog 77 = true := by kernel_rfl
theorem wire_ask_ok (p0 : Int) (r : Bool) (h : wire_ask p0 = some r) : FnRO Tryd.prog G 77 [.one (.d (.i .i64 p0))] (fun rs => rs = [.one (.b r)]) := by
 refine FnRO.of' low77 fok77 (by simp [F77]) ?_
 rw [wire_ask] at h
 replace h := Hd.mk h
 simp only [F77, go_sem]
 try simp only [*, go_sem]
 refine jn1 h (fun b1_1 => [zB 2 b1_1]) (fun b1_1 => []) (fun k2 h => ?_) (fun b1_1 h => ?_)
 refine oi h (fun hb3 h => ?_) (fun hb3 h => ?_)
 try simp only [*, go_sem]
 exact jc (decide (p0 ≤ 1048576)) h.e []
 try simp only [*, go_sem]
 exact jc (false) h.e []
 cases h.e
 simp only [*, go_sem, mA, mS]
def wire_code (p0 : Int) : Option (Bool) := (withK (fun (b1_1 : Bool) => (some b1_1)) fun k2 => (if (p0 == 0) = true then (k2 true) else (if (p0 == 11) = true then (k2 true) else (k2 (p0 == 8)))))
def F78 : VFn := ⟨13, (.seq (.reg [vo 2 (.mv (cb false))]) (.seq (.wk (.reg [vm 3 0, bk 4 .eql 3 0, vm 5 4, gf 6 5 (.mv (.t 0)), gf 7 5 (.bin .i .eql (.t 6) (ci 11)), vo 8 (.pick (.t 5) (cb true) (.t 7)), vm 9 8, gf 10 9 (.mv (.t 0)), gf 11 9 (.bin .i .eql (.t 10) (ci 8)), vo 12 (.pick (.t 9) (cb true) (.t 11)), vm 2 12])) .ret)), [.t 2]⟩
theorem low78 : lowF Tryd.prog 78 = some F78.strip := by kernel_rfl
theorem fok78 : fOk Tryd.prog 78 = true := by kernel_rfl
theorem wire_code_ok (p0 : Int) (r : Bool) (h : wire_code p0 = some r) : FnRO Tryd.prog G 78 [.one (.d (.i .i64 p0))] (fun rs => rs = [.one (.b r)]) := by
 refine FnRO.of' low78 fok78 (by simp [F78]) ?_
 rw [wire_code] at h
 replace h := Hd.mk h
 simp only [F78, go_sem]
 try simp only [*, go_sem]
 refine jn1 h (fun b1_1 => [zB 2 b1_1]) (fun b1_1 => []) (fun k2 h => ?_) (fun b1_1 h => ?_)
 refine oi h (fun hb3 h => ?_) (fun hb3 h => ?_)
 try simp only [*, go_sem]
 exact jc (true) h.e []
 refine oi h (fun hb4 h => ?_) (fun hb4 h => ?_)
 try simp only [*, go_sem]
 exact jc (true) h.e []
 try simp only [*, go_sem]
 exact jc (p0 == 8) h.e []
 cases h.e
 simp only [*, go_sem, mA, mS]
def wire_CheckMessage (p0 : Config) (p1 : Message) : Option (Int) := (Option.bind (label_Check p0) fun v1 => (if (v1 != 0) = true then (some v1) else (if (decide (p1.Kind < 1)) = true then (some 3) else (if (decide (p1.Kind > 9)) = true then (some 3) else (withK (fun (b11_1 : Bool) => (withK (fun (b20_1 : Bool) => (withK (fun (b24_1 : Bool) => (withK (fun (b32_1 : Bool) => (if b32_1 = true then (some 2) else (Option.bind (wire_code p1.Code) fun v37 => (if (!v37) = true then (some 2) else (if 0 ≤ p1.Kind then (Option.bind (tab_wire_messages[p1.Kind.toNat]?) fun x39 => (if ((((((((!x39.label) && (p1.Label != 0)) || ((!x39.key) && (p1.Key != 0))) || ((!x39.value) && (p1.Value != 0))) || ((!x39.version) && (p1.Version != 0))) || ((!x39.ask) && (p1.Ask != 0))) || ((!x39.yes) && p1.Yes)) || ((!x39.code) && (p1.Code != 0))) = true then (some 4) else (if (p1.Code != 0) = true then (if (IntKind.i64.wrap (p1.Value + p1.Version) != 0) = true then (some 4) else (some 0)) else (some 0)))) else none))))) fun k33 => (if ((b24_1 || (decide (p1.Version < 0))) || (decide (p1.Version > 1048576))) = true then (k33 true) else (Option.bind (wire_ask p1.Ask) fun v35 => (k33 (!v35)))))) fun k25 => (if b20_1 = true then (k25 true) else (Option.bind (wire_value p1.Value) fun v27 => (k25 (!v27)))))) fun k21 => (if ((b11_1 || (decide (p1.Label < 0))) || (decide (p1.Label ≥ ((p0.Labels.length : Nat) : Int)))) = true then (k21 true) else (Option.bind (wire_key p1.Key) fun v23 => (k21 (!v23)))))) fun k12 => (if ((((decide (p1.From < 0)) || (decide (p1.From ≥ p0.Sites))) || (decide (p1.To < 0))) || (decide (p1.To ≥ p0.Sites))) = true then (k12 true) else (Option.bind (wire_txn p0 p1.Txn) fun v14 => (k12 (!v14)))))))))
def F23 : VFn := ⟨180, (.seq (.reg [vo 2 (.boxk 3 (.t 0)), vo 3 (.boxk 12 (.t 1)), mi 4 0]) (.seq (.seq (.reg [vl 7 3 2, vo 8 (.call 66 [(.t 7)]), vm 5 8]) (.seq (.reg [vm 9 5, bk 10 .neq 9 0]) (.cond (.t 10) (.seq (.reg [vm 11 5, vm 4 11]) .ret) .skip))) (.seq (.seq (.reg [vf 12 0 3, vs 13 12, bk 14 .lss 13 1, vm 15 14, gf 16 15 (.fa 0 (.t 3)), gf 17 15 (.ld false 1 (.t 16)), gf 18 15 (.bin .i .gtr (.t 17) (ci 9)), vo 19 (.pick (.t 15) (cb true) (.t 18))]) (.cond (.t 19) (.seq (.reg [mi 4 3]) .ret) .skip)) (.seq (.seq (.regs [[vf 20 1 3, vs 21 20, bk 22 .lss 21 0, vm 23 22, gf 24 23 (.fa 1 (.t 3)), gf 25 23 (.ld false 1 (.t 24)), gf 26 23 (.fa 0 (.t 2)), gf 27 23 (.ld false 1 (.t 26)), gf 28 23 (.bin .i .geq (.t 25) (.t 27)), vo 29 (.pick (.t 23) (cb true) (.t 28))], [vm 30 29, gf 31 30 (.fa 2 (.t 3)), gf 32 30 (.ld false 1 (.t 31)), gf 33 30 (.bin .i .lss (.t 32) (ci 0)), vo 34 (.pick (.t 30) (cb true) (.t 33))], [vm 35 34, gf 36 35 (.fa 2 (.t 3)), gf 37 35 (.ld false 1 (.t 36)), gf 38 35 (.fa 0 (.t 2)), gf 39 35 (.ld false 1 (.t 38)), gf 40 35 (.bin .i .geq (.t 37) (.t 39)), vo 41 (.pick (.t 35) (cb true) (.t 40))], [vm 42 41, gf 43 42 (.ld true 3 (.t 2)), gf 44 42 (.fa 3 (.t 3)), gf 45 42 (.ld true 2 (.t 44)), gf 46 42 (.call 74 [(.t 43), (.t 45)]), gf 47 42 (.un .not (.t 46)), vo 48 (.pick (.t 42) (cb true) (.t 47))], [vm 49 48, gf 50 49 (.fa 5 (.t 3)), gf 51 49 (.ld false 1 (.t 50)), gf 52 49 (.bin .i .lss (.t 51) (ci 0)), vo 53 (.pick (.t 49) (cb true) (.t 52))], [vm 54 53, gf 55 54 (.fa 5 (.t 3)), gf 56 54 (.ld false 1 (.t 55)), gf 57 54 (.fa 1 (.t 2)), gf 58 54 (.ld false 1 (.t 57)), gf 59 54 (.len (.t 58)), gf 60 54 (.bin .i .geq (.t 56) (.t 59)), vo 61 (.pick (.t 54) (cb true) (.t 60))], [vm 62 61, gf 63 62 (.fa 6 (.t 3)), gf 64 62 (.ld false 1 (.t 63)), gf 65 62 (.call 75 [(.t 64)]), gf 66 62 (.un .not (.t 65)), vo 67 (.pick (.t 62) (cb true) (.t 66))], [vm 68 67, gf 69 68 (.fa 7 (.t 3)), gf 70 68 (.ld false 1 (.t 69)), gf 71 68 (.call 76 [(.t 70)]), gf 72 68 (.un .not (.t 71)), vo 73 (.pick (.t 68) (cb true) (.t 72))], [vm 74 73, gf 75 74 (.fa 8 (.t 3)), gf 76 74 (.ld false 1 (.t 75)), gf 77 74 (.bin .i .lss (.t 76) (ci 0)), vo 78 (.pick (.t 74) (cb true) (.t 77))], [vm 79 78, gf 80 79 (.fa 8 (.t 3)), gf 81 79 (.ld false 1 (.t 80)), gf 82 79 (.bin .i .gtr (.t 81) (ci 1048576)), vo 83 (.pick (.t 79) (cb true) (.t 82))], [vm 84 83, gf 85 84 (.fa 9 (.t 3)), gf 86 84 (.ld false 1 (.t 85)), gf 87 84 (.call 77 [(.t 86)]), gf 88 84 (.un .not (.t 87)), vo 89 (.pick (.t 84) (cb true) (.t 88))], [vm 90 89, gf 91 90 (.fa 11 (.t 3)), gf 92 90 (.ld false 1 (.t 91)), gf 93 90 (.call 78 [(.t 92)]), gf 94 90 (.un .not (.t 93)), vo 95 (.pick (.t 90) (cb true) (.t 94))]]) (.cond (.t 95) (.seq (.reg [mi 4 2]) .ret) .skip)) (.seq (.reg [vf 96 0 3, vs 97 96, vo 98 (.iaa 10 8 (.g 0) (.t 97)), vl 99 8 98, vo 6 (.alloc [(.d (.b false)), (.d (.b false)), (.d (.b false)), (.d (.b false)), (.d (.b false)), (.d (.b false)), (.d (.b false)), (.d (.b false))]), vu (.st 8 (.t 6) (.t 99))]) (.seq (.seq (.regs [[vf 100 0 6, vs 101 100, nt 102 101, vm 103 102, gt 104 103 (.fa 5 (.t 3)), gt 105 103 (.ld false 1 (.t 104)), gt 106 103 (.bin .i .neq (.t 105) (ci 0)), vo 107 (.pick (.t 103) (.t 106) (cb false))], [vm 108 107, gf 109 108 (.fa 1 (.t 6)), gf 110 108 (.ld false 1 (.t 109)), gf 111 108 (.un .not (.t 110)), gf 112 108 (.mv (.t 111)), gt 113 112 (.fa 6 (.t 3)), gt 114 112 (.ld false 1 (.t 113)), gt 115 112 (.bin .i .neq (.t 114) (ci 0)), gf 116 108 (.pick (.t 112) (.t 115) (cb false)), vo 117 (.pick (.t 108) (cb true) (.t 116))], [vm 118 117, gf 119 118 (.fa 2 (.t 6)), gf 120 118 (.ld false 1 (.t 119)), gf 121 118 (.un .not (.t 120)), gf 122 118 (.mv (.t 121)), gt 123 122 (.fa 7 (.t 3)), gt 124 122 (.ld false 1 (.t 123)), gt 125 122 (.bin .i .neq (.t 124) (ci 0)), gf 126 118 (.pick (.t 122) (.t 125) (cb false)), vo 127 (.pick (.t 118) (cb true) (.t 126))], [vm 128 127, gf 129 128 (.fa 3 (.t 6)), gf 130 128 (.ld false 1 (.t 129)), gf 131 128 (.un .not (.t 130)), gf 132 128 (.mv (.t 131)), gt 133 132 (.fa 8 (.t 3)), gt 134 132 (.ld false 1 (.t 133)), gt 135 132 (.bin .i .neq (.t 134) (ci 0)), gf 136 128 (.pick (.t 132) (.t 135) (cb false)), vo 137 (.pick (.t 128) (cb true) (.t 136))], [vm 138 137, gf 139 138 (.fa 4 (.t 6)), gf 140 138 (.ld false 1 (.t 139)), gf 141 138 (.un .not (.t 140)), gf 142 138 (.mv (.t 141)), gt 143 142 (.fa 9 (.t 3)), gt 144 142 (.ld false 1 (.t 143)), gt 145 142 (.bin .i .neq (.t 144) (ci 0)), gf 146 138 (.pick (.t 142) (.t 145) (cb false)), vo 147 (.pick (.t 138) (cb true) (.t 146))], [vm 148 147, gf 149 148 (.fa 5 (.t 6)), gf 150 148 (.ld false 1 (.t 149)), gf 151 148 (.un .not (.t 150)), gf 152 148 (.mv (.t 151)), gt 153 152 (.fa 10 (.t 3)), gt 154 152 (.ld false 1 (.t 153)), gf 155 148 (.pick (.t 152) (.t 154) (cb false)), vo 156 (.pick (.t 148) (cb true) (.t 155))], [vm 157 156, gf 158 157 (.fa 6 (.t 6)), gf 159 157 (.ld false 1 (.t 158)), gf 160 157 (.un .not (.t 159)), gf 161 157 (.mv (.t 160)), gt 162 161 (.fa 11 (.t 3)), gt 163 161 (.ld false 1 (.t 162)), gt 164 161 (.bin .i .neq (.t 163) (ci 0)), gf 165 157 (.pick (.t 161) (.t 164) (cb false)), vo 166 (.pick (.t 157) (cb true) (.t 165))], [vm 167 166, gf 168 167 (.fa 11 (.t 3)), gf 169 167 (.ld false 1 (.t 168)), gf 170 167 (.bin .i .neq (.t 169) (ci 0)), gf 171 167 (.mv (.t 170)), gt 172 171 (.fa 7 (.t 3)), gt 173 171 (.ld false 1 (.t 172)), gt 174 171 (.fa 8 (.t 3)), gt 175 171 (.ld false 1 (.t 174)), gt 176 171 (.bin .i .add (.t 173) (.t 175)), gt 177 171 (.bin .i .neq (.t 176) (ci 0)), gf 178 167 (.pick (.t 171) (.t 177) (cb false)), vo 179 (.pick (.t 167) (cb true) (.t 178))]]) (.cond (.t 179) (.seq (.reg [mi 4 4]) .ret) .skip)) (.seq (.reg [mi 4 0]) .ret))))))), [.t 4]⟩
theorem low23 : lowF Tryd.prog 23 = some F23.strip := by kernel_rfl
theorem fok23 : fOk Tryd.prog 23 = true := by kernel_rfl
theorem wire_CheckMessage_ok (htab_wire_messages : constG G 0 = .one (.d (.k tab_wire_messagesD))) (p0 : Config) (p1 : Message) (r : Int) (h : wire_CheckMessage p0 p1 = some r) : FnRO Tryd.prog G 23 [.agg p0.bx, .agg p1.bx] (fun rs => rs = [.one (.i .i64 r)]) := by
 refine FnRO.of' low23 fok23 (by simp [F23]) ?_
 rw [wire_CheckMessage] at h
 replace h := Hd.mk h
 simp only [F23, go_sem]
 try simp only [*, go_sem]
 refine cr h (label_Check_ok G p0) (fun v1 h => ?_)
 refine oi h (fun hb2 h => ?_) (fun hb2 h => ?_)
 cases h.e
 simp only [*, go_sem, mA, mS]
 refine oi h (fun hb3 h => ?_) (fun hb3 h => ?_)
 have := of_decide_eq_true hb3
 cases h.e
 simp only [*, go_sem, mA, mS]
 refine oi h (fun hb4 h => ?_) (fun hb4 h => ?_)
 cases h.e
 simp only [*, go_sem, mA, mS]
 try simp only [*, go_sem]
 refine regs_lk _ G _ _ (B := Bool) (fun b => b = ((decide (p1.From < 0)) || (decide (p1.From ≥ p0.Sites)))) (fun b => [zK 2 (Config.enc p0), zK 3 (Message.enc p1), zB 29 b]) (fun b => []) ?_ ?_
 refine bc (decide (p1.From < 0)) (fun hb6 => ?_) (fun hb6 => ?_)
 have := of_decide_eq_true hb6
 try simp only [*, go_sem]
 exact jb true []
 try simp only [*, go_sem]
 exact jb (decide (p1.From ≥ p0.Sites)) []
 intro b hb0
 subst hb0
 try simp only [*, go_sem]
 refine regs_lk _ G _ _ (B := Bool) (fun b => b = (((decide (p1.From < 0)) || (decide (p1.From ≥ p0.Sites))) || (decide (p1.To < 0)))) (fun b => [zK 2 (Config.enc p0), zK 3 (Message.enc p1), zB 34 b]) (fun b => []) ?_ ?_
 refine bc ((decide (p1.From < 0)) || (decide (p1.From ≥ p0.Sites))) (fun hb8 => ?_) (fun hb8 => ?_)
 try simp only [*, go_sem]
 try simp only [*, go_sem]
 exact jb true []
 try simp only [*, go_sem]
 try simp only [*, go_sem]
 exact jb (decide (p1.To < 0)) []
 intro b hb0
 subst hb0
 try simp only [*, go_sem]
 refine regs_lk _ G _ _ (B := Bool) (fun b => b = ((((decide (p1.From < 0)) || (decide (p1.From ≥ p0.Sites))) || (decide (p1.To < 0))) || (decide (p1.To ≥ p0.Sites)))) (fun b => [zK 2 (Config.enc p0), zK 3 (Message.enc p1), zB 41 b]) (fun b => []) ?_ ?_
 refine bc (((decide (p1.From < 0)) || (decide (p1.From ≥ p0.Sites))) || (decide (p1.To < 0))) (fun hb10 => ?_) (fun hb10 => ?_)
 try simp only [*, go_sem]
 try simp only [*, go_sem]
 exact jb true []
 try simp only [*, go_sem]
 try simp only [*, go_sem]
 exact jb (decide (p1.To ≥ p0.Sites)) []
 intro b hb0
 subst hb0
 try simp only [*, go_sem]
 refine rg1 h (fun b11_1 => [zK 2 (Config.enc p0), zK 3 (Message.enc p1), zB 48 b11_1]) (fun b11_1 => []) (fun k12 h => ?_) (fun b11_1 h => ?_)
 refine oi h (fun hb13 h => ?_) (fun hb13 h => ?_)
 try simp only [*, go_sem]
 try simp only [*, go_sem]
 exact jc (true) h.e []
 try simp only [*, go_sem]
 try simp only [*, go_sem]
 refine cr h (wire_txn_ok G p0 p1.Txn) (fun v14 h => ?_)
 try simp only [*, go_sem]
 exact jc (!v14) h.e []
 try simp only [*, go_sem]
 refine regs_lk _ G _ _ (B := Bool) (fun b => b = (b11_1 || (decide (p1.Label < 0)))) (fun b => [zK 2 (Config.enc p0), zK 3 (Message.enc p1), zB 53 b]) (fun b => []) ?_ ?_
 refine bc b11_1 (fun hb16 => ?_) (fun hb16 => ?_)
 try simp only [*, go_sem]
 exact jb true []
 try simp only [*, go_sem]
 exact jb (decide (p1.Label < 0)) []
 intro b hb0
 subst hb0
 try simp only [*, go_sem]
 refine regs_lk _ G _ _ (B := Bool) (fun b => b = ((b11_1 || (decide (p1.Label < 0))) || (decide (p1.Label ≥ ((p0.Labels.length : Nat) : Int))))) (fun b => [zK 3 (Message.enc p1), zB 61 b]) (fun b => []) ?_ ?_
 refine bc (b11_1 || (decide (p1.Label < 0))) (fun hb18 => ?_) (fun hb18 => ?_)
 try simp only [*, go_sem]
 try simp only [*, go_sem]
 exact jb true []
 try simp only [*, go_sem]
 try simp only [*, go_sem]
 intro hl19
 try simp only [*, go_sem]
 exact jb (decide (p1.Label ≥ ((p0.Labels.length : Nat) : Int))) []
 intro b hb0
 subst hb0
 try simp only [*, go_sem]
 refine rg1 h (fun b20_1 => [zK 3 (Message.enc p1), zB 67 b20_1]) (fun b20_1 => []) (fun k21 h => ?_) (fun b20_1 h => ?_)
 refine oi h (fun hb22 h => ?_) (fun hb22 h => ?_)
 try simp only [*, go_sem]
 try simp only [*, go_sem]
 exact jc (true) h.e []
 try simp only [*, go_sem]
 try simp only [*, go_sem]
 refine cr h (wire_key_ok G p1.Key) (fun v23 h => ?_)
 try simp only [*, go_sem]
 exact jc (!v23) h.e []
 try simp only [*, go_sem]
 refine rg1 h (fun b24_1 => [zK 3 (Message.enc p1), zB 73 b24_1]) (fun b24_1 => []) (fun k25 h => ?_) (fun b24_1 h => ?_)
 refine oi h (fun hb26 h => ?_) (fun hb26 h => ?_)
 try simp only [*, go_sem]
 exact jc (true) h.e []
 try simp only [*, go_sem]
 refine cr h (wire_value_ok G p1.Value) (fun v27 h => ?_)
 try simp only [*, go_sem]
 exact jc (!v27) h.e []
 try simp only [*, go_sem]
 refine regs_lk _ G _ _ (B := Bool) (fun b => b = (b24_1 || (decide (p1.Version < 0)))) (fun b => [zK 3 (Message.enc p1), zB 78 b]) (fun b => []) ?_ ?_
 refine bc b24_1 (fun hb29 => ?_) (fun hb29 => ?_)
 try simp only [*, go_sem]
 exact jb true []
 try simp only [*, go_sem]
 exact jb (decide (p1.Version < 0)) []
 intro b hb0
 subst hb0
 try simp only [*, go_sem]
 refine regs_lk _ G _ _ (B := Bool) (fun b => b = ((b24_1 || (decide (p1.Version < 0))) || (decide (p1.Version > 1048576)))) (fun b => [zK 3 (Message.enc p1), zB 83 b]) (fun b => []) ?_ ?_
 refine bc (b24_1 || (decide (p1.Version < 0))) (fun hb31 => ?_) (fun hb31 => ?_)
 try simp only [*, go_sem]
 try simp only [*, go_sem]
 exact jb true []
 try simp only [*, go_sem]
 try simp only [*, go_sem]
 exact jb (decide (p1.Version > 1048576)) []
 intro b hb0
 subst hb0
 try simp only [*, go_sem]
 refine rg1 h (fun b32_1 => [zK 3 (Message.enc p1), zB 89 b32_1]) (fun b32_1 => []) (fun k33 h => ?_) (fun b32_1 h => ?_)
 refine oi h (fun hb34 h => ?_) (fun hb34 h => ?_)
 try simp only [*, go_sem]
 try simp only [*, go_sem]
 exact jc (true) h.e []
 try simp only [*, go_sem]
 try simp only [*, go_sem]
 refine cr h (wire_ask_ok G p1.Ask) (fun v35 h => ?_)
 try simp only [*, go_sem]
 exact jc (!v35) h.e []
 refine oi h (fun hb36 h => ?_) (fun hb36 h => ?_)
 cases h.e
 simp only [*, go_sem, mA, mS]
 try simp only [*, go_sem]
 refine cr h (wire_code_ok G p1.Code) (fun v37 h => ?_)
 refine oin h (fun hb38 hkhb38 h => ?_) (fun hb38 hkhb38 h => ?_)
 cases h.e
 simp only [*, go_sem, mA, mS]
 refine ck h (fun _ h => ?_)
 refine obg h (fun x39 _ hkx39 h => ?_)
 rw [tab_wire_messages_len] at hkx39
 have : p1.Kind < 10 := by omega
 try simp only [*, go_sem]
 refine regs_lk _ G _ _ (B := Bool) (fun b => b = ((!x39.label) && (p1.Label != 0))) (fun b => [zK 3 (Message.enc p1), zP 6 0, zB 107 b]) (fun b => [ox x39.bx]) ?_ ?_
 refine bcn x39.label (fun hb42 hkhb42 => ?_) (fun hb42 hkhb42 => ?_)
 try simp only [*, go_sem]
 exact jb (p1.Label != 0) [some 0]
 try simp only [*, go_sem]
 exact jb false [some 0]
 intro b hb0
 subst hb0
 try simp only [*, go_sem]
 refine regs_lk _ G _ _ (B := Bool) (fun b => b = (((!x39.label) && (p1.Label != 0)) || ((!x39.key) && (p1.Key != 0)))) (fun b => [zK 3 (Message.enc p1), zP 6 0, zB 117 b]) (fun b => [ox x39.bx]) ?_ ?_
 refine bc ((!x39.label) && (p1.Label != 0)) (fun hb44 => ?_) (fun hb44 => ?_)
 try simp only [*, go_sem]
 try simp only [*, go_sem]
 exact jb true [some 0]
 try simp only [*, go_sem]
 refine bcn x39.key (fun hb45 hkhb45 => ?_) (fun hb45 hkhb45 => ?_)
 try simp only [*, go_sem]
 exact jb (p1.Key != 0) [some 0]
 try simp only [*, go_sem]
 exact jb false [some 0]
 intro b hb0
 subst hb0
 try simp only [*, go_sem]
 refine regs_lk _ G _ _ (B := Bool) (fun b => b = ((((!x39.label) && (p1.Label != 0)) || ((!x39.key) && (p1.Key != 0))) || ((!x39.value) && (p1.Value != 0)))) (fun b => [zK 3 (Message.enc p1), zP 6 0, zB 127 b]) (fun b => [ox x39.bx]) ?_ ?_
 refine bc (((!x39.label) && (p1.Label != 0)) || ((!x39.key) && (p1.Key != 0))) (fun hb47 => ?_) (fun hb47 => ?_)
 try simp only [*, go_sem]
 try simp only [*, go_sem]
 exact jb true [some 0]
 try simp only [*, go_sem]
 refine bcn x39.value (fun hb48 hkhb48 => ?_) (fun hb48 hkhb48 => ?_)
 try simp only [*, go_sem]
 exact jb (p1.Value != 0) [some 0]
 try simp only [*, go_sem]
 exact jb false [some 0]
 intro b hb0
 subst hb0
 try simp only [*, go_sem]
 refine regs_lk _ G _ _ (B := Bool) (fun b => b = (((((!x39.label) && (p1.Label != 0)) || ((!x39.key) && (p1.Key != 0))) || ((!x39.value) && (p1.Value != 0))) || ((!x39.version) && (p1.Version != 0)))) (fun b => [zK 3 (Message.enc p1), zP 6 0, zB 137 b]) (fun b => [ox x39.bx]) ?_ ?_
 refine bc ((((!x39.label) && (p1.Label != 0)) || ((!x39.key) && (p1.Key != 0))) || ((!x39.value) && (p1.Value != 0))) (fun hb50 => ?_) (fun hb50 => ?_)
 try simp only [*, go_sem]
 try simp only [*, go_sem]
 exact jb true [some 0]
 try simp only [*, go_sem]
 refine bcn x39.version (fun hb51 hkhb51 => ?_) (fun hb51 hkhb51 => ?_)
 try simp only [*, go_sem]
 exact jb (p1.Version != 0) [some 0]
 try simp only [*, go_sem]
 exact jb false [some 0]
 intro b hb0
 subst hb0
 try simp only [*, go_sem]
 refine regs_lk _ G _ _ (B := Bool) (fun b => b = ((((((!x39.label) && (p1.Label != 0)) || ((!x39.key) && (p1.Key != 0))) || ((!x39.value) && (p1.Value != 0))) || ((!x39.version) && (p1.Version != 0))) || ((!x39.ask) && (p1.Ask != 0)))) (fun b => [zK 3 (Message.enc p1), zP 6 0, zB 147 b]) (fun b => [ox x39.bx]) ?_ ?_
 refine bc (((((!x39.label) && (p1.Label != 0)) || ((!x39.key) && (p1.Key != 0))) || ((!x39.value) && (p1.Value != 0))) || ((!x39.version) && (p1.Version != 0))) (fun hb53 => ?_) (fun hb53 => ?_)
 try simp only [*, go_sem]
 try simp only [*, go_sem]
 exact jb true [some 0]
 try simp only [*, go_sem]
 refine bcn x39.ask (fun hb54 hkhb54 => ?_) (fun hb54 hkhb54 => ?_)
 try simp only [*, go_sem]
 exact jb (p1.Ask != 0) [some 0]
 try simp only [*, go_sem]
 exact jb false [some 0]
 intro b hb0
 subst hb0
 try simp only [*, go_sem]
 refine regs_lk _ G _ _ (B := Bool) (fun b => b = (((((((!x39.label) && (p1.Label != 0)) || ((!x39.key) && (p1.Key != 0))) || ((!x39.value) && (p1.Value != 0))) || ((!x39.version) && (p1.Version != 0))) || ((!x39.ask) && (p1.Ask != 0))) || ((!x39.yes) && p1.Yes))) (fun b => [zK 3 (Message.enc p1), zP 6 0, zB 156 b]) (fun b => [ox x39.bx]) ?_ ?_
 refine bc ((((((!x39.label) && (p1.Label != 0)) || ((!x39.key) && (p1.Key != 0))) || ((!x39.value) && (p1.Value != 0))) || ((!x39.version) && (p1.Version != 0))) || ((!x39.ask) && (p1.Ask != 0))) (fun hb56 => ?_) (fun hb56 => ?_)
 try simp only [*, go_sem]
 try simp only [*, go_sem]
 exact jb true [some 0]
 try simp only [*, go_sem]
 refine bcn x39.yes (fun hb57 hkhb57 => ?_) (fun hb57 hkhb57 => ?_)
 try simp only [*, go_sem]
 exact jb p1.Yes [some 0]
 try simp only [*, go_sem]
 exact jb false [some 0]
 intro b hb0
 subst hb0
 try simp only [*, go_sem]
 refine regs_lk _ G _ _ (B := Bool) (fun b => b = ((((((((!x39.label) && (p1.Label != 0)) || ((!x39.key) && (p1.Key != 0))) || ((!x39.value) && (p1.Value != 0))) || ((!x39.version) && (p1.Version != 0))) || ((!x39.ask) && (p1.Ask != 0))) || ((!x39.yes) && p1.Yes)) || ((!x39.code) && (p1.Code != 0)))) (fun b => [zK 3 (Message.enc p1), zB 166 b]) (fun b => []) ?_ ?_
 refine bc (((((((!x39.label) && (p1.Label != 0)) || ((!x39.key) && (p1.Key != 0))) || ((!x39.value) && (p1.Value != 0))) || ((!x39.version) && (p1.Version != 0))) || ((!x39.ask) && (p1.Ask != 0))) || ((!x39.yes) && p1.Yes)) (fun hb59 => ?_) (fun hb59 => ?_)
 try simp only [*, go_sem]
 try simp only [*, go_sem]
 exact jb true []
 try simp only [*, go_sem]
 refine bcn x39.code (fun hb60 hkhb60 => ?_) (fun hb60 hkhb60 => ?_)
 try simp only [*, go_sem]
 exact jb (p1.Code != 0) []
 try simp only [*, go_sem]
 exact jb false []
 intro b hb0
 subst hb0
 refine oi h (fun hb61 h => ?_) (fun hb61 h => ?_)
 try simp only [*, go_sem]
 cases h.e
 simp only [*, go_sem, mA, mS]
 try simp only [*, go_sem]
 refine oi h (fun hb62 h => ?_) (fun hb62 h => ?_)
 refine oi h (fun hb63 h => ?_) (fun hb63 h => ?_)
 cases h.e
 simp only [*, go_sem, mA, mS]
 cases h.e
 simp only [*, go_sem, mA, mS]
 cases h.e
 simp only [*, go_sem, mA, mS]
def coord_work_place_1 (p0 : Job) (p1 : Int) : Option (Bool) := (some (p0.N == p1))
def F107 : VFn := ⟨8, (.seq (.reg [vo 2 (.box 6 (.t 0)), vo 3 (.mv (cb false))]) (.seq (.reg [vf 4 0 2, vs 5 4, vs 6 1, bt 7 .eql 5 6, vm 3 7]) .ret)), [.t 3]⟩
theorem low107 : lowF Tryd.prog 107 = some F107.strip := by kernel_rfl
theorem fok107 : fOk Tryd.prog 107 = true := by kernel_rfl
theorem coord_work_place_1_ok (p0 : Job) (p1 : Int) (r : Bool) (h : coord_work_place_1 p0 p1 = some r) : FnRO Tryd.prog G 107 [.agg p0.bx, .one (.d (.k [.i .i64 p1]))] (fun rs => rs = [.one (.b r)]) := by
 refine FnRO.of' low107 fok107 (by simp [F107]) ?_
 rw [coord_work_place_1] at h
 replace h := Hd.mk h
 simp only [F107, go_sem]
 cases h.e
 simp only [*, go_sem, mA, mS]
def slices_IndexFunc_Job_L1 (p0 : List Job) (p1 : Job → Option (Bool)) (k3 : Option (Int)) : Nat → Nat → Option (Int)
 | 0, _ => none
 | n5 + 1, a4_1 => (if (decide (a4_1 < p0.length)) = true then (Option.bind (p0[a4_1]?) fun x7 => (Option.bind (p1 x7) fun v8 => (if v8 = true then (some ((a4_1 : Nat) : Int)) else (slices_IndexFunc_Job_L1 p0 p1 k3 n5 (a4_1 + 1))))) else k3)
def slices_IndexFunc_Job (p0 : List Job) (p1 : Job → Option (Bool)) : Option (Int) := (withK (some (-1)) fun k3 => (slices_IndexFunc_Job_L1 p0 p1 k3 (p0.length + 1) 0))
def F106 : VFn := ⟨19, (.seq (.reg [mi 4 0]) (.seq (.seq (.reg [vm 6 0, ln 7 6, mi 8 0]) (.wk (.block 0 (.loop (.seq (.reg [bt 9 .lss 8 7]) (.seq (.cond (.t 9) .skip (.exit 0)) (.seq (.block 1 (.seq (.reg [vm 10 8, vm 5 10]) (.seq (.reg [vm 11 1, vm 12 0, vm 13 5, xa 14 6 12 13, vl 15 6 14, vo 16 (.callv (.t 11) [(.t 15)])]) (.cond (.t 16) (.seq (.reg [vm 17 5, vm 4 17]) .ret) .skip)))) (.reg [bk 18 .add 8 1, vm 8 18])))))))) (.seq (.reg [mi 4 (-1)]) .ret))), [.t 4]⟩
theorem low106 : lowF Tryd.prog 106 = some F106.strip := by kernel_rfl
theorem fok106 : fOk Tryd.prog 106 = true := by kernel_rfl
theorem slices_IndexFunc_Job_ok (p0 : List Job) (p1 : Job → Option (Bool)) (g_p1 : Nat) (c_p1 : List D) (h_p1 : ∀ (x0 : Job) (r : Bool), p1 x0 = some r → FnRO Tryd.prog G g_p1 ([.agg [.d (.i .i64 x0.N), .d (.i .i64 x0.State), .d (.l 8 (x0.Tasks.map Task.enc)), .d (.l 1 (x0.Asked.map encI)), .d (.i .i64 x0.Asks), .d (.i .i64 x0.Age)]] ++ c_p1.map fun d => .one (.d d)) (fun rs => rs = [.one (.b r)])) (r : Int) (h : slices_IndexFunc_Job p0 p1 = some r) : FnRO Tryd.prog G 106 [.one (.d (.l 6 (p0.map Job.enc))), .one (.d (.f g_p1 c_p1))] (fun rs => rs = [.one (.i .i64 r)]) := by
 refine FnRO.of' low106 fok106 (by simp [F106]) ?_
 rw [slices_IndexFunc_Job] at h
 replace h := Hd.mk h
 simp only [F106, go_sem]
 try simp only [*, go_sem]
 intro hl1
 try simp only [*, go_sem]
 refine jn0 h ([]) ([]) (fun k3 h => ?_) (fun h => ?_)
 try simp only [*, go_sem]
 refine lp1 (slices_IndexFunc_Job_L1 p0 p1 k3) (fun a4_1 => [zL 0 6 (p0.map Job.enc), (1, .one (.d (.f g_p1 c_p1))), zI 7 ((p0.length : Nat) : Int), zI 8 ((a4_1 : Nat) : Int)]) (fun a4_1 => []) h [] [] (fun n5 a4_1 h => ?_) (by intros; rw [slices_IndexFunc_Job_L1])
 rw [slices_IndexFunc_Job_L1] at h
 refine oi h (fun hb6 h => ?_) (fun hb6 h => ?_)
 have := of_decide_eq_true hb6
 refine obg h (fun x7 _ hkx7 h => ?_)
 try simp only [*, go_sem]
 refine cr h (h_p1 x7) (fun v8 h => ?_)
 refine oi h (fun hb9 h => ?_) (fun hb9 h => ?_)
 cases h.e
 simp only [*, go_sem, mA, mS]
 have := wrap_succ_max hkx7 hl1
 try simp only [*, go_sem]
 exact lc (a4_1 + 1) h.e []
 try simp only [*, go_sem]
 exact jc () h.e []
 cases h.e
 simp only [*, go_sem, mA, mS]
def coord_work_place (p0 : CoordWork) (p1 : Int) : Option (Int) := (Option.bind (slices_IndexFunc_Job p0.turn.Desk.Jobs (fun y1 => coord_work_place_1 y1 p1)) fun v2 => (some v2))
def F47 : VFn := ⟨13, (.seq (.reg [vo 3 (.box 1 (.t 1)), mi 4 0]) (.seq (.reg [vm 5 0, vo 6 (.nilchk (.t 5)), vf 7 5 6, vf 8 0 7, vf 9 1 8, vs 10 9, vo 11 (.mkf 107 [(.t 3)]), vo 12 (.call 106 [(.t 10), (.t 11)]), vm 4 12]) .ret)), [.t 4]⟩
theorem low47 : lowF Tryd.prog 47 = some F47.strip := by kernel_rfl
theorem fok47 : fOk Tryd.prog 47 = true := by kernel_rfl
theorem coord_work_place_ok (p0 : CoordWork) (p1 : Int) (r : Int) (h : coord_work_place p0 p1 = some r) : FnRO Tryd.prog G 47 [.one (.d (.k (CoordWork.enc p0))), .one (.d (.i .i64 p1))] (fun rs => rs = [.one (.i .i64 r)]) := by
 refine FnRO.of' low47 fok47 (by simp [F47]) ?_
 rw [coord_work_place] at h
 replace h := Hd.mk h
 simp only [F47, go_sem]
 try simp only [*, go_sem]
 refine cl h (slices_IndexFunc_Job_ok G p0.turn.Desk.Jobs (fun y1 => coord_work_place_1 y1 p1) 107 [.k [.i .i64 p1]] (fun y1 r h => coord_work_place_1_ok G y1 p1 r h)) (fun v2 h => ?_)
 cases h.e
 simp only [*, go_sem, mA, mS]
def F108 : VFn := ⟨46, (.seq (.gho (.reg [vo 8 (.mv (.c (.one (.d .np))))])) (.seq (.gho (.draw [vd (vm 9 0) 0, vd (vm 10 0) 0, vd (vo 11 (.nilchk (.t 10))) 2, vd (vf 12 5 11) 6, vd (vf 13 2 12) 14, vd (vs 14 13) 30, vd (vm 15 1) 0, vd (vm 16 0) 0, vd (vo 17 (.nilchk (.t 16))) 128, vd (vf 18 4 17) 384, vd (vs 19 18) 896, vd (vm 20 2) 0, vd (vm 21 0) 0, vd (vo 22 (.nilchk (.t 21))) 4096, vd (vf 23 4 22) 0x3000, vd (vs 24 23) 0x7000, vd (vm 25 3) 0, vd (vo 26 (.build [(zi 0), (zi 0)] [(0, 1, (.t 24)), (1, 1, (.t 25))])) 0x1f000, vd (vo 27 (.build [(zi 0), (zi 0), (zi 0), (zi 0), (zi 0), (zi 0), (zi 0), (zi 0), (zi 0), (zi 0), (.d (.b false)), (zi 0)] [(0, 1, (.t 15)), (1, 1, (.t 19)), (2, 1, (.t 20)), (3, 2, (.t 26))])) 0x3ffc0, vd (vo 28 (.bsl 12 1 [(zi 0), (zi 0), (zi 0), (zi 0), (zi 0), (zi 0), (zi 0), (zi 0), (zi 0), (zi 0), (.d (.b false)), (zi 0)] [(0, (.t 27))])) 0x7ffc0, vd (vo 29 (.app 12 96 (.t 14) (.t 28))) 0xffffe, vd (vo 30 (.nilchk (.t 9))) 0x1fffff, vd (vf 31 5 30) 0x3fffff, vd (vf 32 2 31) 0x7fffff, vd (vu (.st 1 (.t 32) (.t 29))) 0xffffff])) (.seq (.gho (.draw [vd (vm 33 0) 0, vd (vo 34 (.nilchk (.t 33))) 1, vd (vf 35 5 34) 3, vd (vf 36 2 35) 7, vd (vs 37 36) 15, vd (vm 38 0) 0, vd (vo 39 (.nilchk (.t 38))) 32, vd (vf 40 5 39) 96, vd (vf 41 2 40) 224, vd (vs 42 41) 480, vd (ln 43 42) 992, vd (bk 44 .sub 43 1) 2016, vd (xa 45 12 37 44) 4095, vd (vm 8 45) 8191])) (.gho .ret)))), [.t 8]⟩
theorem low108 : lowF Tryd.prog 108 = some F108.strip := by kernel_rfl
theorem fok108 : fOk Tryd.prog 108 = true := by kernel_rfl
def slices_Index_int_L1 (p0 : List Int) (p1 : Int) (k3 : Option (Int)) : Nat → Nat → Option (Int)
 | 0, _ => none
 | n5 + 1, a4_1 => (if (decide (a4_1 < p0.length)) = true then (Option.bind (p0[a4_1]?) fun x7 => (if (p1 == x7) = true then (some ((a4_1 : Nat) : Int)) else (slices_Index_int_L1 p0 p1 k3 n5 (a4_1 + 1)))) else k3)
def slices_Index_int (p0 : List Int) (p1 : Int) : Option (Int) := (withK (some (-1)) fun k3 => (slices_Index_int_L1 p0 p1 k3 (p0.length + 1) 0))
def F158 : VFn := ⟨19, (.seq (.reg [mi 4 0]) (.seq (.seq (.reg [vm 6 0, ln 7 6, mi 8 0]) (.wk (.block 0 (.loop (.seq (.reg [bt 9 .lss 8 7]) (.seq (.cond (.t 9) .skip (.exit 0)) (.seq (.block 1 (.seq (.reg [vm 10 8, vm 5 10]) (.seq (.reg [vm 11 1, vm 12 0, vm 13 5, xa 14 1 12 13, vs 15 14, bt 16 .eql 11 15]) (.cond (.t 16) (.seq (.reg [vm 17 5, vm 4 17]) .ret) .skip)))) (.reg [bk 18 .add 8 1, vm 8 18])))))))) (.seq (.reg [mi 4 (-1)]) .ret))), [.t 4]⟩
theorem low158 : lowF Tryd.prog 158 = some F158.strip := by kernel_rfl
theorem fok158 : fOk Tryd.prog 158 = true := by kernel_rfl
theorem slices_Index_int_ok (p0 : List Int) (p1 : Int) (r : Int) (h : slices_Index_int p0 p1 = some r) : FnRO Tryd.prog G 158 [.one (.d (.l 1 (p0.map encI))), .one (.d (.i .i64 p1))] (fun rs => rs = [.one (.i .i64 r)]) := by
 refine FnRO.of' low158 fok158 (by simp [F158]) ?_
 rw [slices_Index_int] at h
 replace h := Hd.mk h
 simp only [F158, go_sem]
 try simp only [*, go_sem]
 intro hl1
 try simp only [*, go_sem]
 refine jn0 h ([]) ([]) (fun k3 h => ?_) (fun h => ?_)
 try simp only [*, go_sem]
 refine lp1 (slices_Index_int_L1 p0 p1 k3) (fun a4_1 => [zL 0 1 (p0.map encI), zI 1 p1, zI 7 ((p0.length : Nat) : Int), zI 8 ((a4_1 : Nat) : Int)]) (fun a4_1 => []) h [] [] (fun n5 a4_1 h => ?_) (by intros; rw [slices_Index_int_L1])
 rw [slices_Index_int_L1] at h
 refine oi h (fun hb6 h => ?_) (fun hb6 h => ?_)
 have := of_decide_eq_true hb6
 refine obg h (fun x7 _ hkx7 h => ?_)
 refine oi h (fun hb8 h => ?_) (fun hb8 h => ?_)
 cases h.e
 simp only [*, go_sem, mA, mS]
 have := wrap_succ_max hkx7 hl1
 try simp only [*, go_sem]
 exact lc (a4_1 + 1) h.e []
 try simp only [*, go_sem]
 exact jc () h.e []
 cases h.e
 simp only [*, go_sem, mA, mS]
def slices_Contains_int (p0 : List Int) (p1 : Int) : Option (Bool) := (Option.bind (slices_Index_int p0 p1) fun v1 => (some (decide (v1 ≥ 0))))
def F109 : VFn := ⟨9, (.seq (.reg [vo 4 (.mv (cb false))]) (.seq (.reg [vm 5 0, vm 6 1, vo 7 (.call 158 [(.t 5), (.t 6)]), bk 8 .geq 7 0, vm 4 8]) .ret)), [.t 4]⟩
theorem low109 : lowF Tryd.prog 109 = some F109.strip := by kernel_rfl
theorem fok109 : fOk Tryd.prog 109 = true := by kernel_rfl
theorem slices_Contains_int_ok (p0 : List Int) (p1 : Int) (r : Bool) (h : slices_Contains_int p0 p1 = some r) : FnRO Tryd.prog G 109 [.one (.d (.l 1 (p0.map encI))), .one (.d (.i .i64 p1))] (fun rs => rs = [.one (.b r)]) := by
 refine FnRO.of' low109 fok109 (by simp [F109]) ?_
 rw [slices_Contains_int] at h
 replace h := Hd.mk h
 simp only [F109, go_sem]
 try simp only [*, go_sem]
 refine cr h (slices_Index_int_ok G p0 p1) (fun v1 h => ?_)
 cases h.e
 simp only [*, go_sem, mA, mS]
def coord_work_asked (p0 : CoordWork) (p1 : Int) (p2 : Message) : Option (CoordWork) := (if (decide (p1 < 0)) = true then (if fits 96 (p0.turn.Messages.length + 1) then (some (CoordWork.mk p0.c p0.l p0.me (Turn.mk p0.turn.Desk (p0.turn.Messages ++ [(Message.mk 4 p0.me p2.From (Txn.mk p0.me p2.Txn.N) 0 0 0 0 0 false 0)]) p0.turn.Records p0.turn.Replies p0.turn.Sure p0.turn.Committed))) else none) else (if 0 ≤ p1 then (Option.bind (p0.turn.Desk.Jobs[p1.toNat]?) fun x6 => (if (x6.State == 3) = true then (Option.bind (slices_Contains_int x6.Asked p2.From) fun v9 => (withK (fun (b10_1 : List Message) => (some (CoordWork.mk p0.c p0.l p0.me (Turn.mk (Desk.mk p0.turn.Desk.Next (p0.turn.Desk.Jobs.set p1.toNat x6)) b10_1 p0.turn.Records p0.turn.Replies p0.turn.Sure p0.turn.Committed)))) fun k11 => (if v9 = true then (if fits 96 (p0.turn.Messages.length + 1) then (k11 (p0.turn.Messages ++ [(Message.mk 4 p0.me p2.From (Txn.mk p0.me x6.N) 0 0 0 0 0 true 0)])) else none) else (k11 p0.turn.Messages)))) else (withK (some (CoordWork.mk p0.c p0.l p0.me (Turn.mk (Desk.mk p0.turn.Desk.Next (p0.turn.Desk.Jobs.set p1.toNat x6)) p0.turn.Messages p0.turn.Records p0.turn.Replies p0.turn.Sure p0.turn.Committed))) fun k18 => k18))) else none))
def F48 : VFn := ⟨43, (.seq (.reg [vo 5 (.boxk 12 (.t 2))]) (.seq (.seq (.reg [vm 7 1, bk 8 .lss 7 0]) (.cond (.t 8) (.seq (.reg [vm 9 0, vf 10 1 5, vs 11 10, vf 12 3 5, vf 13 1 12, vs 14 13, vo 15 (.call 108 [(.t 9), (ci 4), (.t 11), (.t 14)])]) .ret) .skip)) (.seq (.gho (.reg [vm 16 0, vo 17 (.nilchk (.t 16)), vf 18 5 17, vf 19 0 18, vf 20 1 19, vs 21 20, vm 22 1, xa 23 6 21 22, vl 24 6 23, vo 6 (.alloc [(zi 0), (zi 0), (.nl 8), (.nl 1), (zi 0), (zi 0)]), vu (.st 6 (.t 6) (.t 24))])) (.seq (.reg [vf 25 1 6, vs 26 25, bk 27 .eql 26 3, vm 28 27, gt 29 28 (.fa 3 (.t 6)), gt 30 28 (.ld false 1 (.t 29)), gt 31 28 (.fa 1 (.t 5)), gt 32 28 (.ld false 1 (.t 31)), gt 33 28 (.call 109 [(.t 30), (.t 32)]), vo 34 (.pick (.t 28) (.t 33) (cb false))]) (.wk (.cond (.t 34) (.reg [vm 35 0, vf 36 1 5, vs 37 36, vf 38 0 6, vs 39 38, vo 40 (.call 108 [(.t 35), (ci 4), (.t 37), (.t 39)]), vo 41 (.nilchk (.t 40)), vf 42 10 41, vu (.st 1 (.t 42) (cb true))]) .skip)))))), []⟩
theorem low48 : lowF Tryd.prog 48 = some F48.strip := by kernel_rfl
theorem fok48 : fOk Tryd.prog 48 = true := by kernel_rfl
theorem coord_work_asked_ok (p0 : CoordWork) (p1 : Int) (p2 : Message) (r : CoordWork) (h : coord_work_asked p0 p1 p2 = some r) : FnX Tryd.prog G 48 [ptrX, .one (.d (.i .i64 p1)), .agg p2.bx] [.i .i64 p0.c.Sites, .l 2 (p0.c.Labels.map Label.enc), .i .i64 p0.c.Patience, .i .i64 p0.l, .i .i64 p0.me, .i .i64 p0.turn.Desk.Next, .t 6 (p0.turn.Desk.Jobs.map Job.encO), .o 12 (p0.turn.Messages.map Message.enc), .o 8 (p0.turn.Records.map Record.enc), .o 6 (p0.turn.Replies.map Reply.enc), .i .i64 p0.turn.Sure, .i .i64 p0.turn.Committed] (fun c rs => c = [.i .i64 r.c.Sites, .l 2 (r.c.Labels.map Label.enc), .i .i64 r.c.Patience, .i .i64 r.l, .i .i64 r.me, .i .i64 r.turn.Desk.Next, .t 6 (r.turn.Desk.Jobs.map Job.encO), .o 12 (r.turn.Messages.map Message.enc), .o 8 (r.turn.Records.map Record.enc), .o 6 (r.turn.Replies.map Reply.enc), .i .i64 r.turn.Sure, .i .i64 r.turn.Committed] ∧ rs = []) := by
 refine FnX.of [0, 1, 0, 0, 0, 0, 2] low48 fok48 (by exact Nat.le_of_ble_eq_true rfl) (by exact Nat.le_of_ble_eq_true rfl) ?_
 rw [coord_work_asked] at h
 replace h := Hd.mk h
 simp only [F48, go_sem]
 refine oi h (fun hb1 h => ?_) (fun hb1 h => ?_)
 have := of_decide_eq_true hb1
 try simp only [*, go_sem]
 refine cx low108 fok108 ?_
 simp only [*, F108, go_sem]
 try simp only [*, go_sem]
 refine gho_lk _ G _ _ [] ?_
 try simp only [*, go_sem]
 try simp only [*, go_sem]
 refine gho_lk _ G _ _ [] ?_
 try simp only [*, go_sem]
 refine ck h (fun hf2 h => ?_)
 try simp only [*, go_sem]
 refine gho_lk _ G _ _ [] ?_
 try simp only [*, go_sem]
 have : IntKind.i64.wrap (((p0.turn.Messages.length + 1 : Nat) : Int) - 1) = ((p0.turn.Messages.length : Nat) : Int) := wrap_pred hf2.2
 have : (p0.turn.Messages ++ [(Message.mk 4 p0.me p2.From (Txn.mk p0.me p2.Txn.N) 0 0 0 0 0 false 0)])[p0.turn.Messages.length]? = some (Message.mk 4 p0.me p2.From (Txn.mk p0.me p2.Txn.N) 0 0 0 0 0 false 0) := List.getElem?_concat_length
 have : p0.turn.Messages.length < p0.turn.Messages.length + 1 := Nat.lt_succ_self _
 try simp only [*, go_sem]
 refine gho_lk _ G _ _ [] ?_
 try simp only [*, go_sem]
 cases h.e
 try simp only [*, go_sem]
 refine eti [] ?_
 simp only [*, go_sem, mA, mS]
 refine obn h (fun x6 _ _ _ _ h => ?_)
 try simp only [*, go_sem]
 refine gho_lk _ G _ _ [.f 1 p1.toNat] ?_
 try simp only [*, go_sem]
 refine oi h (fun hb8 h => ?_) (fun hb8 h => ?_)
 try simp only [*, go_sem]
 refine cl h (slices_Contains_int_ok G x6.Asked p2.From) (fun v9 h => ?_)
 try simp only [*, go_sem]
 refine jn1 h (fun b10_1 => [zP 1000000 0]) (fun b10_1 => [ox [zi p0.c.Sites, .d (.l 2 (p0.c.Labels.map Label.enc)), zi p0.c.Patience, zi p0.l, zi p0.me, zi p0.turn.Desk.Next, .r 1 0 p0.turn.Desk.Jobs.length, .r 2 0 b10_1.length, .r 3 0 p0.turn.Records.length, .r 4 0 p0.turn.Replies.length, zi p0.turn.Sure, zi p0.turn.Committed], ot 6 ((p0.turn.Desk.Jobs.set p1.toNat x6).map Job.encO), oa 12 (b10_1.map Message.enc), oa 8 (p0.turn.Records.map Record.enc), oa 6 (p0.turn.Replies.map Reply.enc)]) (fun k11 h => ?_) (fun b10_1 h => ?_)
 refine oi h (fun hb12 h => ?_) (fun hb12 h => ?_)
 try simp only [*, go_sem]
 refine cx low108 fok108 ?_
 simp only [*, F108, go_sem]
 try simp only [*, go_sem]
 refine gho_lk _ G _ _ [] ?_
 try simp only [*, go_sem]
 try simp only [*, go_sem]
 refine gho_lk _ G _ _ [] ?_
 try simp only [*, go_sem]
 refine ck h (fun hf13 h => ?_)
 try simp only [*, go_sem]
 refine gho_lk _ G _ _ [] ?_
 try simp only [*, go_sem]
 have : IntKind.i64.wrap (((p0.turn.Messages.length + 1 : Nat) : Int) - 1) = ((p0.turn.Messages.length : Nat) : Int) := wrap_pred hf13.2
 have : (p0.turn.Messages ++ [(Message.mk 4 p0.me p2.From (Txn.mk p0.me x6.N) 0 0 0 0 0 false 0)])[p0.turn.Messages.length]? = some (Message.mk 4 p0.me p2.From (Txn.mk p0.me x6.N) 0 0 0 0 0 false 0) := List.getElem?_concat_length
 have : p0.turn.Messages.length < p0.turn.Messages.length + 1 := Nat.lt_succ_self _
 try simp only [*, go_sem]
 refine gho_lk _ G _ _ [] ?_
 try simp only [*, go_sem]
 try simp only [*, go_sem]
 exact jf [.u 1] ((p0.turn.Messages ++ [(Message.mk 4 p0.me p2.From (Txn.mk p0.me x6.N) 0 0 0 0 0 true 0)])) h.e [some 0, some 1, some 28, some 3, some 4]
 try simp only [*, go_sem]
 exact jf [.u 1] (p0.turn.Messages) h.e [some 0, some 1, some 2, some 3, some 4]
 cases h.e
 try simp only [*, go_sem]
 refine etn [] ?_
 simp only [*, go_sem, mA, mS]
 try simp only [*, go_sem]
 refine jn0 h ([zP 1000000 0]) ([ox [zi p0.c.Sites, .d (.l 2 (p0.c.Labels.map Label.enc)), zi p0.c.Patience, zi p0.l, zi p0.me, zi p0.turn.Desk.Next, .r 1 0 p0.turn.Desk.Jobs.length, .r 2 0 p0.turn.Messages.length, .r 3 0 p0.turn.Records.length, .r 4 0 p0.turn.Replies.length, zi p0.turn.Sure, zi p0.turn.Committed], ot 6 ((p0.turn.Desk.Jobs.set p1.toNat x6).map Job.encO), oa 12 (p0.turn.Messages.map Message.enc), oa 8 (p0.turn.Records.map Record.enc), oa 6 (p0.turn.Replies.map Reply.enc)]) (fun k18 h => ?_) (fun h => ?_)
 try simp only [*, go_sem]
 exact jf [.u 1] () h.e [some 0, some 1, some 2, some 3, some 4]
 cases h.e
 try simp only [*, go_sem]
 refine etn [] ?_
 simp only [*, go_sem, mA, mS]
def F110 : VFn := ⟨33, (.gho (.draw [vd (vm 12 0) 0, vd (vm 13 0) 0, vd (vo 14 (.nilchk (.t 13))) 2, vd (vf 15 5 14) 6, vd (vf 16 4 15) 14, vd (vs 17 16) 30, vd (vm 18 0) 0, vd (vo 19 (.nilchk (.t 18))) 64, vd (vf 20 4 19) 192, vd (vs 21 20) 448, vd (vm 22 1) 0, vd (vm 23 2) 0, vd (vm 24 3) 0, vd (vm 25 4) 0, vd (vm 26 5) 0, vd (vo 27 (.build [(zi 0), (zi 0), (zi 0), (zi 0), (zi 0), (zi 0)] [(0, 1, (.t 21)), (1, 1, (.t 22)), (2, 1, (.t 23)), (3, 1, (.t 24)), (4, 1, (.t 25)), (5, 1, (.t 26))])) 0x7fc0, vd (vo 28 (.bsl 6 1 [(zi 0), (zi 0), (zi 0), (zi 0), (zi 0), (zi 0)] [(0, (.t 27))])) 0xffc0, vd (vo 29 (.app 6 48 (.t 17) (.t 28))) 0x1fffe, vd (vo 30 (.nilchk (.t 12))) 0x3ffff, vd (vf 31 5 30) 0x7ffff, vd (vf 32 4 31) 0xfffff, vd (vu (.st 1 (.t 32) (.t 29))) 0x1fffff])), []⟩
theorem low110 : lowF Tryd.prog 110 = some F110.strip := by kernel_rfl
theorem fok110 : fOk Tryd.prog 110 = true := by kernel_rfl
def math_bits_Len64 (p0 : Int) : Option (Int) := (withK (fun (b1_1 : Int) (b1_2 : Nat) => (withK (fun (b4_1 : Int) (b4_2 : Int) => (withK (fun (b7_1 : Int) (b7_2 : Int) => (if 0 ≤ IntKind.u8.wrap (b7_1) ∧ IntKind.u8.wrap (b7_1) < ((bs_633d862b.size : Nat) : Int) then (some (IntKind.i64.wrap (b7_2 + IntKind.i64.wrap ((((bs_633d862b.data.toList.getD ((IntKind.u8.wrap (b7_1)).toNat) 0).toNat : Nat) : Int))))) else none)) fun k8 => (if (decide (b4_1 ≥ 256)) = true then (k8 (b4_1.fdiv (2 ^ 8)) (IntKind.i64.wrap (b4_2 + 8))) else (k8 b4_1 b4_2)))) fun k5 => (if (decide (b1_1 ≥ 65536)) = true then (k5 (b1_1.fdiv (2 ^ 16)) (IntKind.i64.wrap (((b1_2 : Nat) : Int) + 16))) else (k5 b1_1 ((b1_2 : Nat) : Int))))) fun k2 => (if (decide (p0 ≥ 4294967296)) = true then (k2 (p0.fdiv (2 ^ 32)) 32) else (k2 p0 0)))
def F239 : VFn := ⟨25, (.seq (.reg [mi 2 0]) (.seq (.seq (.reg [vm 3 0, vo 4 (.bin .i .geq (.t 3) (.c (.one (.d (.i .u64 4294967296)))))]) (.wk (.cond (.t 4) (.seq (.reg [vm 5 0, vo 6 (.bin .i .shr (.t 5) (.c (.one (.d (.i .u64 32))))), vm 0 6]) (.reg [mi 2 32])) .skip))) (.seq (.seq (.reg [vm 7 0, vo 8 (.bin .i .geq (.t 7) (.c (.one (.d (.i .u64 65536)))))]) (.wk (.cond (.t 8) (.seq (.reg [vm 9 0, vo 10 (.bin .i .shr (.t 9) (.c (.one (.d (.i .u64 16))))), vm 0 10]) (.reg [vm 11 2, bk 12 .add 11 16, vm 2 12])) .skip))) (.seq (.seq (.reg [vm 13 0, vo 14 (.bin .i .geq (.t 13) (.c (.one (.d (.i .u64 256)))))]) (.wk (.cond (.t 14) (.seq (.reg [vm 15 0, vo 16 (.bin .i .shr (.t 15) (.c (.one (.d (.i .u64 8))))), vm 0 16]) (.reg [vm 17 2, bk 18 .add 17 8, vm 2 18])) .skip))) (.seq (.reg [vm 19 2, vm 20 0, vo 21 (.cvi .u8 (.t 20)), vo 22 (.ix (.c (.one (.d (.s bs_633d862b)))) (.t 21)), vo 23 (.cvi .i64 (.t 22)), bt 24 .add 19 23, vm 2 24]) .ret))))), [.t 2]⟩
theorem low239 : lowF Tryd.prog 239 = some F239.strip := by kernel_rfl
theorem fok239 : fOk Tryd.prog 239 = true := by kernel_rfl
theorem math_bits_Len64_ok (p0 : Int) (r : Int) (h : math_bits_Len64 p0 = some r) : FnRO Tryd.prog G 239 [.one (.d (.i .u64 p0))] (fun rs => rs = [.one (.i .i64 r)]) := by
 refine FnRO.of' low239 fok239 (by simp [F239]) ?_
 rw [math_bits_Len64] at h
 replace h := Hd.mk h
 simp only [F239, go_sem]
 try simp only [*, go_sem]
 refine jn2 h (fun b1_1 b1_2 => [(0, .one (.d (.i .u64 b1_1))), zI 2 ((b1_2 : Nat) : Int)]) (fun b1_1 b1_2 => []) (fun k2 h => ?_) (fun b1_1 b1_2 h => ?_)
 refine oi h (fun hb3 h => ?_) (fun hb3 h => ?_)
 try simp only [*, go_sem]
 exact jc (p0.fdiv (2 ^ 32), 32) h.e []
 try simp only [*, go_sem]
 exact jc (p0, 0) h.e []
 try simp only [*, go_sem]
 refine jn2 h (fun b4_1 b4_2 => [(0, .one (.d (.i .u64 b4_1))), zI 2 b4_2]) (fun b4_1 b4_2 => []) (fun k5 h => ?_) (fun b4_1 b4_2 h => ?_)
 refine oi h (fun hb6 h => ?_) (fun hb6 h => ?_)
 try simp only [*, go_sem]
 exact jc (b1_1.fdiv (2 ^ 16), IntKind.i64.wrap (((b1_2 : Nat) : Int) + 16)) h.e []
 try simp only [*, go_sem]
 exact jc (b1_1, ((b1_2 : Nat) : Int)) h.e []
 try simp only [*, go_sem]
 refine jn2 h (fun b7_1 b7_2 => [(0, .one (.d (.i .u64 b7_1))), zI 2 b7_2]) (fun b7_1 b7_2 => []) (fun k8 h => ?_) (fun b7_1 b7_2 h => ?_)
 refine oi h (fun hb9 h => ?_) (fun hb9 h => ?_)
 try simp only [*, go_sem]
 exact jc (b4_1.fdiv (2 ^ 8), IntKind.i64.wrap (b4_2 + 8)) h.e []
 try simp only [*, go_sem]
 exact jc (b4_1, b4_2) h.e []
 refine ck h (fun _ h => ?_)
 cases h.e
 simp only [*, go_sem, mA, mS]
def math_bits_Len (p0 : Int) : Option (Int) := (Option.bind (math_bits_Len64 p0) fun v1 => (some v1))
def F217 : VFn := ⟨8, (.seq (.reg [mi 2 0]) (.seq (.cond (cb false) (.seq (.reg [vm 3 0, vo 4 (.cvi .u32 (.t 3)), vo 5 (.call 238 [(.t 4)]), vm 2 5]) .ret) .skip) (.seq (.reg [vm 6 0, vo 7 (.call 239 [(.t 6)]), vm 2 7]) .ret))), [.t 2]⟩
theorem low217 : lowF Tryd.prog 217 = some F217.strip := by kernel_rfl
theorem fok217 : fOk Tryd.prog 217 = true := by kernel_rfl
theorem math_bits_Len_ok (p0 : Int) (r : Int) (h : math_bits_Len p0 = some r) : FnRO Tryd.prog G 217 [.one (.d (.i .u64 p0))] (fun rs => rs = [.one (.i .i64 r)]) := by
 refine FnRO.of' low217 fok217 (by simp [F217]) ?_
 rw [math_bits_Len] at h
 replace h := Hd.mk h
 simp only [F217, go_sem]
 try simp only [*, go_sem]
 refine cr h (math_bits_Len64_ok G p0) (fun v1 h => ?_)
 cases h.e
 simp only [*, go_sem, mA, mS]
def cmp_isNaN (p0 : Int) : Option (Bool) := (some false)
def F214 : VFn := ⟨6, (.seq (.reg [vo 2 (.mv (cb false))]) (.seq (.reg [vm 3 0, vm 4 0, bt 5 .neq 3 4, vm 2 5]) .ret)), [.t 2]⟩
theorem low214 : lowF Tryd.prog 214 = some F214.strip := by kernel_rfl
theorem fok214 : fOk Tryd.prog 214 = true := by kernel_rfl
theorem cmp_isNaN_ok (p0 : Int) (r : Bool) (h : cmp_isNaN p0 = some r) : FnRO Tryd.prog G 214 [.one (.d (.i .i64 p0))] (fun rs => rs = [.one (.b r)]) := by
 refine FnRO.of' low214 fok214 (by simp [F214]) ?_
 rw [cmp_isNaN] at h
 replace h := Hd.mk h
 simp only [F214, go_sem]
 cases h.e
 simp only [*, go_sem, mA, mS]
def cmp_Less (p0 : Int) (p1 : Int) : Option (Bool) := (withK (fun (b1_1 : Bool) => (some b1_1)) fun k2 => (Option.bind (cmp_isNaN p0) fun v3 => (if v3 = true then (Option.bind (cmp_isNaN p1) fun v5 => (if (!v5) = true then (k2 true) else (k2 (decide (p0 < p1))))) else (k2 (decide (p0 < p1))))))
def F235 : VFn := ⟨17, (.seq (.reg [vo 4 (.mv (cb false))]) (.seq (.wk (.reg [vm 5 0, vo 6 (.call 214 [(.t 5)]), vm 7 6, gt 8 7 (.mv (.t 1)), gt 9 7 (.call 214 [(.t 8)]), gt 10 7 (.un .not (.t 9)), vo 11 (.pick (.t 7) (.t 10) (cb false)), vm 12 11, gf 13 12 (.mv (.t 0)), gf 14 12 (.mv (.t 1)), gf 15 12 (.bin .i .lss (.t 13) (.t 14)), vo 16 (.pick (.t 12) (cb true) (.t 15)), vm 4 16])) .ret)), [.t 4]⟩
theorem low235 : lowF Tryd.prog 235 = some F235.strip := by kernel_rfl
theorem fok235 : fOk Tryd.prog 235 = true := by kernel_rfl
theorem cmp_Less_ok (p0 : Int) (p1 : Int) (r : Bool) (h : cmp_Less p0 p1 = some r) : FnRO Tryd.prog G 235 [.one (.d (.i .i64 p0)), .one (.d (.i .i64 p1))] (fun rs => rs = [.one (.b r)]) := by
 refine FnRO.of' low235 fok235 (by simp [F235]) ?_
 rw [cmp_Less] at h
 replace h := Hd.mk h
 simp only [F235, go_sem]
 try simp only [*, go_sem]
 refine jn1 h (fun b1_1 => [zB 4 b1_1]) (fun b1_1 => []) (fun k2 h => ?_) (fun b1_1 h => ?_)
 try simp only [*, go_sem]
 refine cr h (cmp_isNaN_ok G p0) (fun v3 h => ?_)
 refine oi h (fun hb4 h => ?_) (fun hb4 h => ?_)
 try simp only [*, go_sem]
 refine cr h (cmp_isNaN_ok G p1) (fun v5 h => ?_)
 refine oin h (fun hb6 hkhb6 h => ?_) (fun hb6 hkhb6 h => ?_)
 try simp only [*, go_sem]
 exact jc (true) h.e []
 try simp only [*, go_sem]
 exact jc (decide (p0 < p1)) h.e []
 try simp only [*, go_sem]
 exact jc (decide (p0 < p1)) h.e []
 cases h.e
 simp only [*, go_sem, mA, mS]
def F229 : VFn := ⟨49, (.seq (.reg [vm 8 1, bk 9 .add 8 1, vm 6 9]) (.wk (.block 0 (.loop (.seq (.seq (.reg [vm 10 6, vm 11 2, bt 12 .lss 10 11]) (.cond (.t 12) .skip (.exit 0))) (.seq (.block 1 (.seq (.reg [vm 15 6, vm 7 15]) (.wk (.block 2 (.loop (.seq (.seq (.draw [vd (vm 16 7) 0, vd (vm 17 1) 0, vd (bt 18 .gtr 16 17) 3, vd (vm 19 18) 7, vd (gt 20 19 (.mv (.t 0))) 15, vd (gt 21 19 (.mv (.t 7))) 15, vd (gt 22 19 (.ia 1 (.t 20) (.t 21))) 63, vd (gt 23 19 (.ld false 1 (.t 22))) 127, vd (gt 24 19 (.mv (.t 0))) 15, vd (gt 25 19 (.mv (.t 7))) 15, vd (gt 26 19 (.bin .i .sub (.t 25) (ci 1))) 527, vd (gt 27 19 (.ia 1 (.t 24) (.t 26))) 1807, vd (gt 28 19 (.ld false 1 (.t 27))) 3855, vd (gt 29 19 (.call 235 [(.t 23), (.t 28)])) 8191, vd (vo 30 (.pick (.t 19) (.t 29) (cb false))) 0x3fff]) (.cond (.t 30) .skip (.exit 2))) (.seq (.block 3 (.draw [vd (vm 33 0) 0, vd (vm 34 7) 0, vd (vm 35 0) 0, vd (vm 36 7) 0, vd (bk 37 .sub 36 1) 8, vd (vm 38 0) 0, vd (vm 39 7) 0, vd (bk 40 .sub 39 1) 64, vd (xa 41 1 38 40) 224, vd (vs 42 41) 480, vd (vm 43 0) 0, vd (vm 44 7) 0, vd (xa 45 1 43 44) 3072, vd (vs 46 45) 7168, vd (xa 47 1 33 34) 0x3fe3, vd (vu (.st 1 (.t 47) (.t 42))) 0x7fe3, vd (xa 48 1 35 37) 0xffff, vd (vu (.st 1 (.t 48) (.t 46))) 0x1ffff])) (.reg [vm 31 7, bk 32 .sub 31 1, vm 7 32])))))))) (.reg [vm 13 6, bk 14 .add 13 1, vm 6 14]))))))), []⟩
theorem low229 : lowF Tryd.prog 229 = some F229.strip := by kernel_rfl
theorem fok229 : fOk Tryd.prog 229 = true := by kernel_rfl
def F216 : VFn := ⟨134, (.seq (.reg [vo 8 (.mv (cb true))]) (.seq (.reg [vo 9 (.mv (cb true))]) (.wk (.block 0 (.loop (.block 1 (.seq (.reg [vm 19 2, vm 20 1, bt 21 .sub 19 20, vm 10 21]) (.seq (.seq (.reg [vm 22 10, bk 23 .leq 22 12]) (.cond (.t 23) (.seq (.reg [vm 24 0, vm 25 1, vm 26 2, vo 27 (.call 229 [(.t 24), (.t 25), (.t 26)])]) .ret) .skip)) (.seq (.seq (.reg [vm 28 3, bk 29 .eql 28 0]) (.cond (.t 29) (.seq (.reg [vm 30 0, vm 31 1, vm 32 2, vo 33 (.call 230 [(.t 30), (.t 31), (.t 32)])]) .ret) .skip)) (.seq (.seq (.reg [vm 34 8, nt 35 34]) (.wk (.cond (.t 35) (.seq (.reg [vm 36 0, vm 37 1, vm 38 2, vo 39 (.call 231 [(.t 36), (.t 37), (.t 38)])]) (.reg [vm 40 3, bk 41 .sub 40 1, vm 3 41])) .skip))) (.seq (.regs [[vm 43 0, vm 44 1, vm 45 2, vo 46 (.call 232 [(.t 43), (.t 44), (.t 45)])], [vm 42 46, et 47 42 0, et 48 42 1, vm 11 47, vm 12 48]]) (.seq (.seq (.reg [vm 49 12, bk 50 .eql 49 2]) (.wk (.cond (.t 50) (.seq (.reg [vm 51 0, vm 52 1, vm 53 2, vo 54 (.call 233 [(.t 51), (.t 52), (.t 53)])]) (.seq (.reg [vm 55 2, bk 56 .sub 55 1, vm 57 11, vm 58 1, bt 59 .sub 57 58, bt 60 .sub 56 59, vm 11 60]) (.reg [mi 12 1]))) .skip))) (.seq (.seq (.reg [vm 61 8, vm 62 61, gt 63 62 (.mv (.t 9)), vo 64 (.pick (.t 62) (.t 63) (cb false)), vm 65 64, gt 66 65 (.mv (.t 12)), gt 67 65 (.bin .i .eql (.t 66) (ci 1)), vo 68 (.pick (.t 65) (.t 67) (cb false))]) (.wk (.cond (.t 68) (.seq (.wk (.reg [vm 69 0, vm 70 1, vm 71 2, vo 72 (.call 234 [(.t 69), (.t 70), (.t 71)])])) (.cond (.t 72) .ret .skip)) .skip))) (.seq (.seq (.draw [vd (vm 73 1) 0, vd (bk 74 .gtr 73 0) 1, vd (vm 75 74) 3, vd (gt 76 75 (.mv (.t 0))) 7, vd (gt 77 75 (.mv (.t 1))) 7, vd (gt 78 75 (.bin .i .sub (.t 77) (ci 1))) 23, vd (gt 79 75 (.ia 1 (.t 76) (.t 78))) 63, vd (gt 80 75 (.ld false 1 (.t 79))) 127, vd (gt 81 75 (.mv (.t 0))) 7, vd (gt 82 75 (.mv (.t 11))) 7, vd (gt 83 75 (.ia 1 (.t 81) (.t 82))) 775, vd (gt 84 75 (.ld false 1 (.t 83))) 1799, vd (gt 85 75 (.call 235 [(.t 80), (.t 84)])) 4095, vd (gt 86 75 (.un .not (.t 85))) 8191, vd (vo 87 (.pick (.t 75) (.t 86) (cb false))) 0x3fff]) (.cond (.t 87) (.seq (.reg [vm 88 0, vm 89 1, vm 90 2, vm 91 11, vo 92 (.call 236 [(.t 88), (.t 89), (.t 90), (.t 91)]), vm 13 92]) (.seq (.reg [vm 93 13, vm 1 93]) (.exit 1))) .skip)) (.seq (.regs [[vm 95 0, vm 96 1, vm 97 2, vm 98 11, vo 99 (.call 237 [(.t 95), (.t 96), (.t 97), (.t 98)])], [vm 94 99, et 100 94 0, et 101 94 1, vm 14 100, vm 15 101]]) (.seq (.reg [vm 102 15, vm 9 102]) (.seq (.reg [vm 103 14, vm 104 1, bt 105 .sub 103 104, vm 106 2, vm 107 14, bt 108 .sub 106 107, vm 16 105, vm 17 108]) (.seq (.reg [vm 109 10, bk 110 .quo 109 8, vm 18 110]) (.seq (.reg [vm 111 16, vm 112 17, bt 113 .lss 111 112]) (.wk (.cond (.t 113) (.seq (.reg [vm 114 16, vm 115 18, bt 116 .geq 114 115, vm 8 116]) (.seq (.wk (.reg [vm 117 0, vm 118 1, vm 119 14, vm 120 3, vo 121 (.call 216 [(.t 117), (.t 118), (.t 119), (.t 120)])])) (.reg [vm 122 14, bk 123 .add 122 1, vm 1 123]))) (.seq (.reg [vm 124 17, vm 125 18, bt 126 .geq 124 125, vm 8 126]) (.seq (.wk (.reg [vm 127 0, vm 128 14, bk 129 .add 128 1, vm 130 2, vm 131 3, vo 132 (.call 216 [(.t 127), (.t 129), (.t 130), (.t 131)])])) (.reg [vm 133 14, vm 2 133])))))))))))))))))))))))), []⟩
theorem low216 : lowF Tryd.prog 216 = some F216.strip := by kernel_rfl
theorem fok216 : fOk Tryd.prog 216 = true := by kernel_rfl
def F195 : VFn := ⟨11, (.seq (.reg [vm 3 0, ln 4 3, vm 2 4]) (.wk (.reg [vm 5 0, vm 6 2, vm 7 2, vo 8 (.cvi .u64 (.t 7)), vo 9 (.call 217 [(.t 8)]), vo 10 (.call 216 [(.t 5), (ci 0), (.t 6), (.t 9)])]))), []⟩
theorem low195 : lowF Tryd.prog 195 = some F195.strip := by kernel_rfl
theorem fok195 : fOk Tryd.prog 195 = true := by kernel_rfl
def F159 : VFn := ⟨45, (.seq (.reg [vo 3 (.box 6 (.t 1)), vo 4 (.mv (.c (.one (.nl 1))))]) (.seq (.reg [vo 5 (.mv (.c (.one (.nl 1))))]) (.seq (.seq (.reg [vf 9 2 3, vs 10 9, ln 11 10, mi 12 0]) (.wk (.block 0 (.loop (.seq (.reg [bt 13 .lss 12 11]) (.seq (.cond (.t 13) .skip (.exit 0)) (.seq (.block 1 (.seq (.reg [xa 14 8 10 12, vl 15 8 14, vo 7 (.alloc [(.d (.b false)), (zi 0), (zi 0), (zi 0), (zi 0), (zi 0), (.d (.b false)), (.d (.b false))]), vu (.st 8 (.t 7) (.t 15))]) (.seq (.draw [vd (vf 16 2 7) 0, vd (vs 17 16) 1, vd (vm 18 0) 0, vd (vo 19 (.nilchk (.t 18))) 4, vd (vf 20 0 19) 12, vd (vf 21 0 20) 28, vd (vs 22 21) 60, vd (bt 23 .rem 17 22) 127, vd (vm 8 23) 255]) (.seq (.draw [vd (vf 24 1 7) 0, vd (vs 25 24) 1, vd (vm 26 0) 0, vd (vo 27 (.nilchk (.t 26))) 4, vd (vf 28 3 27) 12, vd (vs 29 28) 28, vd (bt 30 .eql 25 29) 63, vd (vm 31 30) 127, vd (gt 32 31 (.mv (.t 5))) 255, vd (gt 33 31 (.mv (.t 8))) 255, vd (gt 34 31 (.call 109 [(.t 32), (.t 33)])) 1023, vd (gt 35 31 (.un .not (.t 34))) 2047, vd (vo 36 (.pick (.t 31) (.t 35) (cb false))) 4095]) (.wk (.cond (.t 36) (.reg [vm 37 5, vm 38 8, vo 39 (.bsl 1 1 [(zi 0)] [(0, (.t 38))]), vo 40 (.app 1 8 (.t 37) (.t 39)), vm 5 40]) .skip)))))) (.reg [bk 41 .add 12 1, vm 12 41])))))))) (.seq (.reg [vm 42 5, vo 43 (.call 195 [(.t 42)])]) (.seq (.reg [vm 44 5, vm 4 44]) .ret))))), [.t 4]⟩
theorem low159 : lowF Tryd.prog 159 = some F159.strip := by kernel_rfl
theorem fok159 : fOk Tryd.prog 159 = true := by kernel_rfl
theorem del164 : DelOk Tryd.prog 164 6 := ⟨80, [(zi 0), (zi 0), (.nl 8), (.nl 1), (zi 0), (zi 0)], _, by kernel_rfl, by kernel_rfl, fun _ => rfl, rfl⟩
def F116 : VFn := ⟨19, (.gho (.reg [vm 4 0, vm 5 0, vo 6 (.nilchk (.t 5)), vf 7 5 6, vf 8 0 7, vf 9 1 8, vs 10 9, vm 11 1, vm 12 1, bk 13 .add 12 1, vo 14 (.call 164 [(.t 10), (.t 11), (.t 13)]), vo 15 (.nilchk (.t 4)), vf 16 5 15, vf 17 0 16, vf 18 1 17, vu (.st 1 (.t 18) (.t 14))])), []⟩
theorem low116 : lowF Tryd.prog 116 = some F116.strip := by kernel_rfl
theorem fok116 : fOk Tryd.prog 116 = true := by kernel_rfl
def coord_work_end_L1 (p0 : CoordWork) (x1 : Job) (k5 : (List Int) → Option (CoordWork)) : Nat → Nat → (List Int) → Option (CoordWork)
 | 0, _, _ => none
 | n7 + 1, a6_1, a6_2 => (if (decide (a6_1 < x1.Tasks.length)) = true then (Option.bind (x1.Tasks[a6_1]?) fun x9 => (if p0.c.Sites = 0 then none else (if (x9.Label == p0.l) = true then (Option.bind (slices_Contains_int a6_2 (x9.Key.tmod p0.c.Sites)) fun v12 => (withK (fun (b13_1 : Bool) (b13_2 : List Int) => (coord_work_end_L1 p0 x1 k5 n7 (a6_1 + 1) b13_2)) fun k14 => (if (!v12) = true then (if fits 8 (a6_2.length + 1) then (k14 true (a6_2 ++ [x9.Key.tmod p0.c.Sites])) else none) else (k14 false a6_2)))) else (withK (coord_work_end_L1 p0 x1 k5 n7 (a6_1 + 1) a6_2) fun k19 => k19)))) else (k5 a6_2))
def coord_work_end_L4 (k35 : (List Int) → Option (CoordWork)) : Nat → Int → (List Int) → Option (CoordWork)
 | 0, _, _ => none
 | n37 + 1, a36_1, a36_2 => (if (decide (a36_1 > 0)) = true then (if 0 ≤ a36_1 then (Option.bind (a36_2[a36_1.toNat]?) fun x39 => (if 0 ≤ IntKind.i64.wrap (a36_1 - 1) then (Option.bind (a36_2[(IntKind.i64.wrap (a36_1 - 1)).toNat]?) fun x41 => (Option.bind (cmp_Less x39 x41) fun v43 => (if v43 = true then (if 0 ≤ IntKind.i64.wrap (a36_1 - 1) then (Option.bind ((a36_2.set a36_1.toNat x41)[(IntKind.i64.wrap (a36_1 - 1)).toNat]?) fun x45 => (coord_work_end_L4 k35 n37 (IntKind.i64.wrap (a36_1 - 1)) ((a36_2.set a36_1.toNat x41).set ((IntKind.i64.wrap (a36_1 - 1)).toNat) x39))) else none) else (k35 a36_2)))) else none)) else none) else (k35 a36_2))
def coord_work_end_L3 (b4_1 : List Int) (k30 : (List Int) → Option (CoordWork)) : Nat → Nat → (List Int) → Option (CoordWork)
 | 0, _, _ => none
 | n32 + 1, a31_1, a31_2 => (if (decide (a31_1 < b4_1.length)) = true then (withK (fun (b34_1 : List Int) => (coord_work_end_L3 b4_1 k30 n32 (a31_1 + 1) b34_1)) fun k35 => (coord_work_end_L4 k35 ((((a31_1 : Nat) : Int)).toNat + 1) ((a31_1 : Nat) : Int) a31_2)) else (k30 a31_2))
def coord_work_end_L2 (b4_1 : List Int) (k23 : (List Int) → Option (CoordWork)) : Nat → Option (CoordWork)
 | 0 => none
 | n26 + 1 => (if (decide (IntKind.i64.wrap (((b4_1.length : Nat) : Int)) ≤ 12)) = true then (withK (fun (b29_1 : List Int) => (k23 b29_1)) fun k30 => (coord_work_end_L3 b4_1 k30 (b4_1.length + 1) 1 b4_1)) else none)
def coord_work_end_L5 (p0 : CoordWork) (x1 : Job) (b22_1 : List Int) (k51 : (List Message) → Option (CoordWork)) : Nat → Nat → (List Message) → Option (CoordWork)
 | 0, _, _ => none
 | n53 + 1, a52_1, a52_2 => (if (decide (a52_1 < b22_1.length)) = true then (Option.bind (b22_1[a52_1]?) fun x55 => (if fits 96 (a52_2.length + 1) then (coord_work_end_L5 p0 x1 b22_1 k51 n53 (a52_1 + 1) (a52_2 ++ [(Message.mk 4 p0.me x55 (Txn.mk p0.me x1.N) 0 0 0 0 0 false 0)])) else none)) else (k51 a52_2))
def coord_work_end (p0 : CoordWork) (p1 : Int) : Option (CoordWork) := (if 0 ≤ p1 then (Option.bind (p0.turn.Desk.Jobs[p1.toNat]?) fun x1 => (withK (fun (b4_1 : List Int) => (withK (fun (b22_1 : List Int) => (withK (fun (b50_1 : List Message) => (Option.bind (deleteF (p0.turn.Desk.Jobs.set p1.toNat x1) p1 (IntKind.i64.wrap (p1 + 1))) fun v61 => (some (CoordWork.mk p0.c p0.l p0.me (Turn.mk (Desk.mk p0.turn.Desk.Next v61) b50_1 p0.turn.Records p0.turn.Replies p0.turn.Sure p0.turn.Committed))))) fun k51 => (coord_work_end_L5 p0 x1 b22_1 k51 (b22_1.length + 1) 0 p0.turn.Messages))) fun k23 => (Option.bind (math_bits_Len (IntKind.u64.wrap (((b4_1.length : Nat) : Int)))) fun v24 => (coord_work_end_L2 b4_1 k23 1)))) fun k5 => (coord_work_end_L1 p0 x1 k5 (x1.Tasks.length + 1) 0 []))) else none)
def F111 : VFn := ⟨33, (.seq (.gho (.reg [vm 7 0, vo 8 (.nilchk (.t 7)), vf 9 5 8, vf 10 0 9, vf 11 1 10, vs 12 11, vm 13 1, xa 14 6 12 13, vl 15 6 14, vo 4 (.alloc [(zi 0), (zi 0), (.nl 8), (.nl 1), (zi 0), (zi 0)]), vu (.st 6 (.t 4) (.t 15))])) (.seq (.seq (.reg [vm 16 0, vl 17 6 4, vo 18 (.call 159 [(.t 16), (.t 17)]), ln 19 18, mi 20 0]) (.wk (.block 0 (.loop (.seq (.reg [bt 21 .lss 20 19]) (.seq (.cond (.t 21) .skip (.exit 0)) (.seq (.block 1 (.seq (.reg [xa 22 1 18 20, vs 23 22, vm 6 23]) (.reg [vm 24 0, vm 25 6, vf 26 0 4, vs 27 26, vo 28 (.call 108 [(.t 24), (ci 4), (.t 25), (.t 27)])]))) (.reg [bk 29 .add 20 1, vm 20 29])))))))) (.reg [vm 30 0, vm 31 1, vo 32 (.call 116 [(.t 30), (.t 31)])]))), []⟩
theorem low111 : lowF Tryd.prog 111 = some F111.strip := by kernel_rfl
theorem fok111 : fOk Tryd.prog 111 = true := by kernel_rfl
theorem coord_work_end_ok (p0 : CoordWork) (p1 : Int) (r : CoordWork) (h : coord_work_end p0 p1 = some r) : FnX Tryd.prog G 111 [ptrX, .one (.d (.i .i64 p1))] [.i .i64 p0.c.Sites, .l 2 (p0.c.Labels.map Label.enc), .i .i64 p0.c.Patience, .i .i64 p0.l, .i .i64 p0.me, .i .i64 p0.turn.Desk.Next, .t 6 (p0.turn.Desk.Jobs.map Job.encO), .o 12 (p0.turn.Messages.map Message.enc), .o 8 (p0.turn.Records.map Record.enc), .o 6 (p0.turn.Replies.map Reply.enc), .i .i64 p0.turn.Sure, .i .i64 p0.turn.Committed] (fun c rs => c = [.i .i64 r.c.Sites, .l 2 (r.c.Labels.map Label.enc), .i .i64 r.c.Patience, .i .i64 r.l, .i .i64 r.me, .i .i64 r.turn.Desk.Next, .t 6 (r.turn.Desk.Jobs.map Job.encO), .o 12 (r.turn.Messages.map Message.enc), .o 8 (r.turn.Records.map Record.enc), .o 6 (r.turn.Replies.map Reply.enc), .i .i64 r.turn.Sure, .i .i64 r.turn.Committed] ∧ rs = []) := by
 refine FnX.of [0, 1, 0, 0, 0, 0, 2] low111 fok111 (by exact Nat.le_of_ble_eq_true rfl) (by exact Nat.le_of_ble_eq_true rfl) ?_
 rw [coord_work_end] at h
 replace h := Hd.mk h
 simp only [F111, go_sem]
 refine obn h (fun x1 _ _ _ _ h => ?_)
 try simp only [*, go_sem]
 refine gho_lk _ G _ _ [.f 1 p1.toNat] ?_
 try simp only [*, go_sem]
 try simp only [*, go_sem]
 refine cx low159 fok159 ?_
 simp only [*, F159, go_sem]
 try simp only [*, go_sem]
 intro hl3
 try simp only [*, go_sem]
 refine jn1 h (fun b4_1 => [zR 5 0 0 b4_1.length, zP 1000000 1, zI 1000001 p1, zP 1000004 2, zP 2000000 1]) (fun b4_1 => [oa 1 (b4_1.map encI), ox [zi p0.c.Sites, .d (.l 2 (p0.c.Labels.map Label.enc)), zi p0.c.Patience, zi p0.l, zi p0.me, zi p0.turn.Desk.Next, .r 3 0 p0.turn.Desk.Jobs.length, .r 4 0 p0.turn.Messages.length, .r 5 0 p0.turn.Records.length, .r 6 0 p0.turn.Replies.length, zi p0.turn.Sure, zi p0.turn.Committed], ox [zi x1.N, zi x1.State, .r 7 0 x1.Tasks.length, .r 8 0 x1.Asked.length, zi x1.Asks, zi x1.Age], og 6 (p0.turn.Desk.Jobs.map Job.encO) p1.toNat [zi x1.N, zi x1.State, .r 7 0 x1.Tasks.length, .r 8 0 x1.Asked.length, zi x1.Asks, zi x1.Age], oa 12 (p0.turn.Messages.map Message.enc), oa 8 (p0.turn.Records.map Record.enc), oa 6 (p0.turn.Replies.map Reply.enc), oa 8 (x1.Tasks.map Task.enc), oa 1 (x1.Asked.map encI)]) (fun k5 h => ?_) (fun b4_1 h => ?_)
 try simp only [*, go_sem]
 refine lp2 (coord_work_end_L1 p0 x1 k5) (fun a6_1 a6_2 => [zP 0 0, zR 5 1 0 a6_2.length, zR 10 2 0 x1.Tasks.length, zI 11 ((x1.Tasks.length : Nat) : Int), zI 12 ((a6_1 : Nat) : Int), zP 1000000 0, zI 1000001 p1, zP 1000004 3, zP 2000000 0]) (fun a6_1 a6_2 => [ox [zi p0.c.Sites, .d (.l 2 (p0.c.Labels.map Label.enc)), zi p0.c.Patience, zi p0.l, zi p0.me, zi p0.turn.Desk.Next, .r 4 0 p0.turn.Desk.Jobs.length, .r 5 0 p0.turn.Messages.length, .r 6 0 p0.turn.Records.length, .r 7 0 p0.turn.Replies.length, zi p0.turn.Sure, zi p0.turn.Committed], oa 1 (a6_2.map encI), oa 8 (x1.Tasks.map Task.enc), ox [zi x1.N, zi x1.State, .r 2 0 x1.Tasks.length, .r 8 0 x1.Asked.length, zi x1.Asks, zi x1.Age], og 6 (p0.turn.Desk.Jobs.map Job.encO) p1.toNat [zi x1.N, zi x1.State, .r 2 0 x1.Tasks.length, .r 8 0 x1.Asked.length, zi x1.Asks, zi x1.Age], oa 12 (p0.turn.Messages.map Message.enc), oa 8 (p0.turn.Records.map Record.enc), oa 6 (p0.turn.Replies.map Reply.enc), oa 1 (x1.Asked.map encI)]) h [] [some 0, none, some 5, some 7, some 1, some 2, some 3, some 4, some 6] (fun n7 a6_1 a6_2 h => ?_) (by intros; rw [coord_work_end_L1])
 rw [coord_work_end_L1] at h
 refine oi h (fun hb8 h => ?_) (fun hb8 h => ?_)
 have := of_decide_eq_true hb8
 refine obg h (fun x9 _ hkx9 h => ?_)
 refine ckn h (fun _ h => ?_)
 refine oi h (fun hb11 h => ?_) (fun hb11 h => ?_)
 refine obk h (fun v12 hv12 h => ?_)
 try simp only [*, go_sem]
 refine cdl (slices_Contains_int_ok G a6_2 (x9.Key.tmod p0.c.Sites) v12 hv12) ?_
 try simp only [*, go_sem]
 refine jn2 h (fun b13_1 b13_2 => [zP 0 0, zR 5 1 0 b13_2.length, zR 10 2 0 x1.Tasks.length, zI 11 ((x1.Tasks.length : Nat) : Int), zI 12 ((a6_1 : Nat) : Int), zI 33 (x9.Key.tmod p0.c.Sites), zB 34 v12, zB 35 b13_1, zP 1000000 0, zI 1000001 p1, zP 1000004 3, zP 2000000 0]) (fun b13_1 b13_2 => [ox [zi p0.c.Sites, .d (.l 2 (p0.c.Labels.map Label.enc)), zi p0.c.Patience, zi p0.l, zi p0.me, zi p0.turn.Desk.Next, .r 4 0 p0.turn.Desk.Jobs.length, .r 5 0 p0.turn.Messages.length, .r 6 0 p0.turn.Records.length, .r 7 0 p0.turn.Replies.length, zi p0.turn.Sure, zi p0.turn.Committed], oa 1 (b13_2.map encI), oa 8 (x1.Tasks.map Task.enc), ox [zi x1.N, zi x1.State, .r 2 0 x1.Tasks.length, .r 8 0 x1.Asked.length, zi x1.Asks, zi x1.Age], og 6 (p0.turn.Desk.Jobs.map Job.encO) p1.toNat [zi x1.N, zi x1.State, .r 2 0 x1.Tasks.length, .r 8 0 x1.Asked.length, zi x1.Asks, zi x1.Age], oa 12 (p0.turn.Messages.map Message.enc), oa 8 (p0.turn.Records.map Record.enc), oa 6 (p0.turn.Replies.map Reply.enc), oa 1 (x1.Asked.map encI)]) (fun k14 h => ?_) (fun b13_1 b13_2 h => ?_)
 refine oin h (fun hb15 hkhb15 h => ?_) (fun hb15 hkhb15 h => ?_)
 refine ck h (fun _ h => ?_)
 try simp only [*, go_sem]
 exact jc (true, (a6_2 ++ [x9.Key.tmod p0.c.Sites])) h.e [some 0, some 33, some 2, some 3, some 4, some 5, some 6, some 7, some 8]
 try simp only [*, go_sem]
 exact jc (false, a6_2) h.e [some 0, some 1, some 2, some 3, some 4, some 5, some 6, some 7, some 8]
 have := wrap_succ_max hkx9 hl3
 try simp only [*, go_sem]
 exact lc (a6_1 + 1, b13_2) h.e [some 0, some 1, some 2, some 3, some 4, some 5, some 6, some 7, some 8]
 try simp only [*, go_sem]
 refine jn0 h ([zP 0 0, zR 5 1 0 a6_2.length, zR 10 2 0 x1.Tasks.length, zI 11 ((x1.Tasks.length : Nat) : Int), zI 12 ((a6_1 : Nat) : Int), zP 1000000 0, zI 1000001 p1, zP 1000004 3, zP 2000000 0]) ([ox [zi p0.c.Sites, .d (.l 2 (p0.c.Labels.map Label.enc)), zi p0.c.Patience, zi p0.l, zi p0.me, zi p0.turn.Desk.Next, .r 4 0 p0.turn.Desk.Jobs.length, .r 5 0 p0.turn.Messages.length, .r 6 0 p0.turn.Records.length, .r 7 0 p0.turn.Replies.length, zi p0.turn.Sure, zi p0.turn.Committed], oa 1 (a6_2.map encI), oa 8 (x1.Tasks.map Task.enc), ox [zi x1.N, zi x1.State, .r 2 0 x1.Tasks.length, .r 8 0 x1.Asked.length, zi x1.Asks, zi x1.Age], og 6 (p0.turn.Desk.Jobs.map Job.encO) p1.toNat [zi x1.N, zi x1.State, .r 2 0 x1.Tasks.length, .r 8 0 x1.Asked.length, zi x1.Asks, zi x1.Age], oa 12 (p0.turn.Messages.map Message.enc), oa 8 (p0.turn.Records.map Record.enc), oa 6 (p0.turn.Replies.map Reply.enc), oa 1 (x1.Asked.map encI)]) (fun k19 h => ?_) (fun h => ?_)
 try simp only [*, go_sem]
 exact jc () h.e [some 0, some 1, some 2, some 3, some 4, some 5, some 6, some 7, some 8]
 have := wrap_succ_max hkx9 hl3
 try simp only [*, go_sem]
 exact lc (a6_1 + 1, a6_2) h.e [some 0, some 1, some 2, some 3, some 4, some 5, some 6, some 7, some 8]
 try simp only [*, go_sem]
 exact jc (a6_2) h.e [some 1, some 0, some 3, some 4, some 5, some 6, some 7, some 2, some 8]
 try simp only [*, go_sem]
 refine cx low195 fok195 ?_
 simp only [*, F195, go_sem]
 try simp only [*, go_sem]
 intro hl21
 try simp only [*, go_sem]
 refine jn1 h (fun b22_1 => [zR 1000005 0 0 b22_1.length, zP 2000000 1, zI 2000001 p1, zP 2000004 2, zP 3000000 1]) (fun b22_1 => [oa 1 (b22_1.map encI), ox [zi p0.c.Sites, .d (.l 2 (p0.c.Labels.map Label.enc)), zi p0.c.Patience, zi p0.l, zi p0.me, zi p0.turn.Desk.Next, .r 3 0 p0.turn.Desk.Jobs.length, .r 4 0 p0.turn.Messages.length, .r 5 0 p0.turn.Records.length, .r 6 0 p0.turn.Replies.length, zi p0.turn.Sure, zi p0.turn.Committed], ox [zi x1.N, zi x1.State, .r 7 0 x1.Tasks.length, .r 8 0 x1.Asked.length, zi x1.Asks, zi x1.Age], og 6 (p0.turn.Desk.Jobs.map Job.encO) p1.toNat [zi x1.N, zi x1.State, .r 7 0 x1.Tasks.length, .r 8 0 x1.Asked.length, zi x1.Asks, zi x1.Age], oa 12 (p0.turn.Messages.map Message.enc), oa 8 (p0.turn.Records.map Record.enc), oa 6 (p0.turn.Replies.map Reply.enc), oa 8 (x1.Tasks.map Task.enc), oa 1 (x1.Asked.map encI)]) (fun k23 h => ?_) (fun b22_1 h => ?_)
 try simp only [*, go_sem]
 refine cr h (math_bits_Len_ok G (IntKind.u64.wrap (((b4_1.length : Nat) : Int)))) (fun v24 h => ?_)
 try simp only [*, go_sem]
 refine cx low216 fok216 ?_
 simp only [*, F216, go_sem]
 refine jz ?_
 try simp only [*, go_sem]
 refine lp0 (coord_work_end_L2 b4_1 k23) ([zR 0 0 0 b4_1.length, zI 1 0, zI 2 ((b4_1.length : Nat) : Int), zI 3 v24, zB 8 true, zB 9 true, zR 2000005 0 0 b4_1.length, zP 3000000 1, zI 3000001 p1, zP 3000004 2, zP 4000000 1]) ([oa 1 (b4_1.map encI), ox [zi p0.c.Sites, .d (.l 2 (p0.c.Labels.map Label.enc)), zi p0.c.Patience, zi p0.l, zi p0.me, zi p0.turn.Desk.Next, .r 3 0 p0.turn.Desk.Jobs.length, .r 4 0 p0.turn.Messages.length, .r 5 0 p0.turn.Records.length, .r 6 0 p0.turn.Replies.length, zi p0.turn.Sure, zi p0.turn.Committed], ox [zi x1.N, zi x1.State, .r 7 0 x1.Tasks.length, .r 8 0 x1.Asked.length, zi x1.Asks, zi x1.Age], og 6 (p0.turn.Desk.Jobs.map Job.encO) p1.toNat [zi x1.N, zi x1.State, .r 7 0 x1.Tasks.length, .r 8 0 x1.Asked.length, zi x1.Asks, zi x1.Age], oa 12 (p0.turn.Messages.map Message.enc), oa 8 (p0.turn.Records.map Record.enc), oa 6 (p0.turn.Replies.map Reply.enc), oa 8 (x1.Tasks.map Task.enc), oa 1 (x1.Asked.map encI)]) h [] [some 0, some 1, some 2, some 3, some 4, some 5, some 6, some 7, some 8] (fun n26 h => ?_) (by intros; rw [coord_work_end_L2])
 rw [coord_work_end_L2] at h
 refine oi h (fun hb27 h => ?_) (fun hb27 h => ?_)
 try simp only [*, go_sem]
 refine cx low229 fok229 ?_
 simp only [*, F229, go_sem]
 have : IntKind.i64.wrap (0 + 1) = 1 := by decide
 have : IntKind.i64.wrap 1 = 1 := by decide
 try simp only [*, go_sem]
 refine jn1 h (fun b29_1 => [zR 3000005 0 0 b29_1.length, zP 4000000 1, zI 4000001 p1, zP 4000004 2, zP 5000000 1]) (fun b29_1 => [oa 1 (b29_1.map encI), ox [zi p0.c.Sites, .d (.l 2 (p0.c.Labels.map Label.enc)), zi p0.c.Patience, zi p0.l, zi p0.me, zi p0.turn.Desk.Next, .r 3 0 p0.turn.Desk.Jobs.length, .r 4 0 p0.turn.Messages.length, .r 5 0 p0.turn.Records.length, .r 6 0 p0.turn.Replies.length, zi p0.turn.Sure, zi p0.turn.Committed], ox [zi x1.N, zi x1.State, .r 7 0 x1.Tasks.length, .r 8 0 x1.Asked.length, zi x1.Asks, zi x1.Age], og 6 (p0.turn.Desk.Jobs.map Job.encO) p1.toNat [zi x1.N, zi x1.State, .r 7 0 x1.Tasks.length, .r 8 0 x1.Asked.length, zi x1.Asks, zi x1.Age], oa 12 (p0.turn.Messages.map Message.enc), oa 8 (p0.turn.Records.map Record.enc), oa 6 (p0.turn.Replies.map Reply.enc), oa 8 (x1.Tasks.map Task.enc), oa 1 (x1.Asked.map encI)]) (fun k30 h => ?_) (fun b29_1 h => ?_)
 try simp only [*, go_sem]
 refine lp2 (coord_work_end_L3 b4_1 k30) (fun a31_1 a31_2 => [zR 0 0 0 a31_2.length, zI 1 0, zI 2 ((b4_1.length : Nat) : Int), zI 6 ((a31_1 : Nat) : Int), zR 3000005 0 0 a31_2.length, zP 4000000 1, zI 4000001 p1, zP 4000004 2, zP 5000000 1]) (fun a31_1 a31_2 => [oa 1 (a31_2.map encI), ox [zi p0.c.Sites, .d (.l 2 (p0.c.Labels.map Label.enc)), zi p0.c.Patience, zi p0.l, zi p0.me, zi p0.turn.Desk.Next, .r 3 0 p0.turn.Desk.Jobs.length, .r 4 0 p0.turn.Messages.length, .r 5 0 p0.turn.Records.length, .r 6 0 p0.turn.Replies.length, zi p0.turn.Sure, zi p0.turn.Committed], ox [zi x1.N, zi x1.State, .r 7 0 x1.Tasks.length, .r 8 0 x1.Asked.length, zi x1.Asks, zi x1.Age], og 6 (p0.turn.Desk.Jobs.map Job.encO) p1.toNat [zi x1.N, zi x1.State, .r 7 0 x1.Tasks.length, .r 8 0 x1.Asked.length, zi x1.Asks, zi x1.Age], oa 12 (p0.turn.Messages.map Message.enc), oa 8 (p0.turn.Records.map Record.enc), oa 6 (p0.turn.Replies.map Reply.enc), oa 8 (x1.Tasks.map Task.enc), oa 1 (x1.Asked.map encI)]) h [] [some 0, some 1, some 2, some 3, some 4, some 5, some 6, some 7, some 8] (fun n32 a31_1 a31_2 h => ?_) (by intros; rw [coord_work_end_L3])
 rw [coord_work_end_L3] at h
 refine oi h (fun hb33 h => ?_) (fun hb33 h => ?_)
 have hkhb33 := of_decide_eq_true hb33
 try simp only [*, go_sem]
 refine jn1 h (fun b34_1 => [zR 0 0 0 b34_1.length, zI 1 0, zI 2 ((b4_1.length : Nat) : Int), zI 6 ((a31_1 : Nat) : Int), zR 3000005 0 0 b34_1.length, zP 4000000 1, zI 4000001 p1, zP 4000004 2, zP 5000000 1]) (fun b34_1 => [oa 1 (b34_1.map encI), ox [zi p0.c.Sites, .d (.l 2 (p0.c.Labels.map Label.enc)), zi p0.c.Patience, zi p0.l, zi p0.me, zi p0.turn.Desk.Next, .r 3 0 p0.turn.Desk.Jobs.length, .r 4 0 p0.turn.Messages.length, .r 5 0 p0.turn.Records.length, .r 6 0 p0.turn.Replies.length, zi p0.turn.Sure, zi p0.turn.Committed], ox [zi x1.N, zi x1.State, .r 7 0 x1.Tasks.length, .r 8 0 x1.Asked.length, zi x1.Asks, zi x1.Age], og 6 (p0.turn.Desk.Jobs.map Job.encO) p1.toNat [zi x1.N, zi x1.State, .r 7 0 x1.Tasks.length, .r 8 0 x1.Asked.length, zi x1.Asks, zi x1.Age], oa 12 (p0.turn.Messages.map Message.enc), oa 8 (p0.turn.Records.map Record.enc), oa 6 (p0.turn.Replies.map Reply.enc), oa 8 (x1.Tasks.map Task.enc), oa 1 (x1.Asked.map encI)]) (fun k35 h => ?_) (fun b34_1 h => ?_)
 try simp only [*, go_sem]
 refine lp2 (coord_work_end_L4 k35) (fun a36_1 a36_2 => [zR 0 0 0 a36_2.length, zI 1 0, zI 2 ((b4_1.length : Nat) : Int), zI 6 ((a31_1 : Nat) : Int), zI 7 a36_1, zR 3000005 0 0 a36_2.length, zP 4000000 1, zI 4000001 p1, zP 4000004 2, zP 5000000 1]) (fun a36_1 a36_2 => [oa 1 (a36_2.map encI), ox [zi p0.c.Sites, .d (.l 2 (p0.c.Labels.map Label.enc)), zi p0.c.Patience, zi p0.l, zi p0.me, zi p0.turn.Desk.Next, .r 3 0 p0.turn.Desk.Jobs.length, .r 4 0 p0.turn.Messages.length, .r 5 0 p0.turn.Records.length, .r 6 0 p0.turn.Replies.length, zi p0.turn.Sure, zi p0.turn.Committed], ox [zi x1.N, zi x1.State, .r 7 0 x1.Tasks.length, .r 8 0 x1.Asked.length, zi x1.Asks, zi x1.Age], og 6 (p0.turn.Desk.Jobs.map Job.encO) p1.toNat [zi x1.N, zi x1.State, .r 7 0 x1.Tasks.length, .r 8 0 x1.Asked.length, zi x1.Asks, zi x1.Age], oa 12 (p0.turn.Messages.map Message.enc), oa 8 (p0.turn.Records.map Record.enc), oa 6 (p0.turn.Replies.map Reply.enc), oa 8 (x1.Tasks.map Task.enc), oa 1 (x1.Asked.map encI)]) h [] [some 0, some 1, some 2, some 3, some 4, some 5, some 6, some 7, some 8] (fun n37 a36_1 a36_2 h => ?_) (by intros; rw [coord_work_end_L4])
 rw [coord_work_end_L4] at h
 refine oi h (fun hb38 h => ?_) (fun hb38 h => ?_)
 refine obn h (fun x39 _ _ _ _ h => ?_)
 refine obn h (fun x41 _ _ _ _ h => ?_)
 refine obk h (fun v43 hv43 h => ?_)
 try simp only [*, go_sem]
 refine cd (cmp_Less_ok G x39 x41 v43 hv43) ?_
 refine oi h (fun hb44 h => ?_) (fun hb44 h => ?_)
 refine ck h (fun _ h => ?_)
 refine obg h (fun x45 hx45 hkx45 h => ?_)
 try simp only [List.length_take, List.length_drop, List.length_append, List.length_set, List.length_map, List.length_cons, List.length_nil, Nat.zero_add] at hkx45
 have : IntKind.i64.wrap (a36_1 - 1) < ((a36_2.length : Nat) : Int) := by omega
 have : ((a36_2.map encI).set a36_1.toNat [.i .i64 x41])[(IntKind.i64.wrap (a36_1 - 1)).toNat]? = some [.i .i64 x45] := by rw [show ([.i .i64 x41] : List D) = encI x41 from rfl, ← List.map_set, List.getElem?_map, hx45]; rfl
 try simp only [*, go_sem]
 exact lc (IntKind.i64.wrap (a36_1 - 1), ((a36_2.set a36_1.toNat x41).set ((IntKind.i64.wrap (a36_1 - 1)).toNat) x39)) h.e [some 0, some 1, some 2, some 3, some 4, some 5, some 6, some 7, some 8]
 try simp only [*, go_sem]
 exact jc (a36_2) h.e [some 0, some 1, some 2, some 3, some 4, some 5, some 6, some 7, some 8]
 try simp only [*, go_sem]
 exact jc (a36_2) h.e [some 0, some 1, some 2, some 3, some 4, some 5, some 6, some 7, some 8]
 have := wrap_succ_max hkhb33 hl21
 try simp only [*, go_sem]
 exact lc (a31_1 + 1, b34_1) h.e [some 0, some 1, some 2, some 3, some 4, some 5, some 6, some 7, some 8]
 try simp only [*, go_sem]
 exact jc (a31_2) h.e [some 0, some 1, some 2, some 3, some 4, some 5, some 6, some 7, some 8]
 try simp only [*, go_sem]
 exact jc (b29_1) h.e [some 0, some 1, some 2, some 3, some 4, some 5, some 6, some 7, some 8]
 cases h.e
 try simp only [*, go_sem]
 intro hl49
 try simp only [*, go_sem]
 refine jn1 h (fun b50_1 => [zP 0 0, zI 1 p1, zP 1000000 0]) (fun b50_1 => [ox [zi p0.c.Sites, .d (.l 2 (p0.c.Labels.map Label.enc)), zi p0.c.Patience, zi p0.l, zi p0.me, zi p0.turn.Desk.Next, .r 1 0 p0.turn.Desk.Jobs.length, .r 2 0 b50_1.length, .r 3 0 p0.turn.Records.length, .r 4 0 p0.turn.Replies.length, zi p0.turn.Sure, zi p0.turn.Committed], ot 6 ((p0.turn.Desk.Jobs.set p1.toNat x1).map Job.encO), oa 12 (b50_1.map Message.enc), oa 8 (p0.turn.Records.map Record.enc), oa 6 (p0.turn.Replies.map Reply.enc)]) (fun k51 h => ?_) (fun b50_1 h => ?_)
 try simp only [*, go_sem]
 refine lp2 (coord_work_end_L5 p0 x1 b22_1 k51) (fun a52_1 a52_2 => [zP 0 0, zI 1 p1, zP 4 1, zR 18 2 0 b22_1.length, zI 19 ((b22_1.length : Nat) : Int), zI 20 ((a52_1 : Nat) : Int), zP 1000000 0]) (fun a52_1 a52_2 => [ox [zi p0.c.Sites, .d (.l 2 (p0.c.Labels.map Label.enc)), zi p0.c.Patience, zi p0.l, zi p0.me, zi p0.turn.Desk.Next, .r 3 0 p0.turn.Desk.Jobs.length, .r 4 0 a52_2.length, .r 5 0 p0.turn.Records.length, .r 6 0 p0.turn.Replies.length, zi p0.turn.Sure, zi p0.turn.Committed], ox [zi x1.N, zi x1.State, .r 7 0 x1.Tasks.length, .r 8 0 x1.Asked.length, zi x1.Asks, zi x1.Age], oa 1 (b22_1.map encI), og 6 (p0.turn.Desk.Jobs.map Job.encO) p1.toNat [zi x1.N, zi x1.State, .r 7 0 x1.Tasks.length, .r 8 0 x1.Asked.length, zi x1.Asks, zi x1.Age], oa 12 (a52_2.map Message.enc), oa 8 (p0.turn.Records.map Record.enc), oa 6 (p0.turn.Replies.map Reply.enc), oa 8 (x1.Tasks.map Task.enc), oa 1 (x1.Asked.map encI)]) h [] [some 1, some 2, some 0, some 3, some 4, some 5, some 6, some 7, some 8] (fun n53 a52_1 a52_2 h => ?_) (by intros; rw [coord_work_end_L5])
 rw [coord_work_end_L5] at h
 refine oi h (fun hb54 h => ?_) (fun hb54 h => ?_)
 have := of_decide_eq_true hb54
 refine obg h (fun x55 _ hkx55 h => ?_)
 try simp only [*, go_sem]
 refine cx low108 fok108 ?_
 simp only [*, F108, go_sem]
 try simp only [*, go_sem]
 refine gho_lk _ G _ _ [] ?_
 try simp only [*, go_sem]
 try simp only [*, go_sem]
 refine gho_lk _ G _ _ [] ?_
 try simp only [*, go_sem]
 refine ck h (fun hf56 h => ?_)
 try simp only [*, go_sem]
 refine gho_lk _ G _ _ [] ?_
 try simp only [*, go_sem]
 have : IntKind.i64.wrap (((a52_2.length + 1 : Nat) : Int) - 1) = ((a52_2.length : Nat) : Int) := wrap_pred hf56.2
 have : (a52_2 ++ [(Message.mk 4 p0.me x55 (Txn.mk p0.me x1.N) 0 0 0 0 0 false 0)])[a52_2.length]? = some (Message.mk 4 p0.me x55 (Txn.mk p0.me x1.N) 0 0 0 0 0 false 0) := List.getElem?_concat_length
 have : a52_2.length < a52_2.length + 1 := Nat.lt_succ_self _
 try simp only [*, go_sem]
 refine gho_lk _ G _ _ [] ?_
 try simp only [*, go_sem]
 have := wrap_succ_max hkx55 hl49
 try simp only [*, go_sem]
 exact lc (a52_1 + 1, (a52_2 ++ [(Message.mk 4 p0.me x55 (Txn.mk p0.me x1.N) 0 0 0 0 0 false 0)])) h.e [some 0, some 1, some 2, some 3, some 29, some 5, some 6, some 7, some 8]
 try simp only [*, go_sem]
 exact jf [.u 3] (a52_2) h.e [some 0, some 3, some 4, some 5, some 6]
 try simp only [*, go_sem]
 refine cx low116 fok116 ?_
 simp only [*, F116, go_sem]
 try simp only [*, go_sem]
 refine gho_lk _ G _ _ [] ?_
 try simp only [*, go_sem]
 refine obk h (fun v61 hv61 h => ?_)
 try simp only [*, go_sem]
 refine delete_callFT (p0.turn.Desk.Jobs.set p1.toNat x1) del164 (enc := Job.encO) hv61 (by first | rfl | (simp only [*, go_sem]; done) | (simp only [*, go_sem, List.map_set, List.map_append, List.map_cons, List.map_nil]; done)) (by first | rfl | simp only [List.length_take, List.length_drop, List.length_append, List.length_set, List.length_map, List.length_cons, List.length_nil, Nat.zero_add, List.length_set]) ?_
 cases h.e
 try simp only [*, go_sem]
 refine etn [] ?_
 simp only [*, go_sem, mA, mS]
end Go.V.Dec
