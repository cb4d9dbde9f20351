/- What Go's functions come to, as plain functions: part 1; no condition. -/
import Derived.Test.YtjklmaihcaelaaaRows
import Derived.Test.YtjklmaihcaelaaaVY
set_option linter.unusedVariables false
set_option linter.unusedSimpArgs false
namespace Go.V.Dec
open Go Go.Proofs
set_option maxRecDepth 100000
set_option maxHeartbeats 4000000
variable (G : Nat → Option (List D))
structure Task where
  Write : Bool
  Label : Int
  Key : Int
  Value : Int
  Version : Int
  Ask : Int
  Done : Bool
  Sure : Bool
  deriving Inhabited
def Task.enc (x : Task) : List D := [.b x.Write, .i .i64 x.Label, .i .i64 x.Key, .i .i64 x.Value, .i .i64 x.Version, .i .i64 x.Ask, .b x.Done, .b x.Sure]
def Task.encO (x : Task) : List D := [.b x.Write, .i .i64 x.Label, .i .i64 x.Key, .i .i64 x.Value, .i .i64 x.Version, .i .i64 x.Ask, .b x.Done, .b x.Sure]
structure Job where
  N : Int
  State : Int
  Tasks : List Task
  Asked : List Int
  Asks : Int
  Age : Int
  deriving Inhabited
def Job.enc (x : Job) : List D := [.i .i64 x.N, .i .i64 x.State, .l 8 (x.Tasks.map Task.enc), .l 1 (x.Asked.map encI), .i .i64 x.Asks, .i .i64 x.Age]
def Job.encO (x : Job) : List D := [.i .i64 x.N, .i .i64 x.State, .o 8 (x.Tasks.map Task.enc), .o 1 (x.Asked.map encI), .i .i64 x.Asks, .i .i64 x.Age]
structure Desk where
  Next : Int
  Jobs : List Job
  deriving Inhabited
def Desk.enc (x : Desk) : List D := [.i .i64 x.Next, .l 6 (x.Jobs.map Job.enc)]
def Desk.encO (x : Desk) : List D := [.i .i64 x.Next, .o 6 (x.Jobs.map Job.enc)]
structure Label where
  Level : Int
  Cats : Int
  deriving Inhabited
def Label.enc (x : Label) : List D := [.i .i64 x.Level, .i .i64 x.Cats]
def Label.encO (x : Label) : List D := [.i .i64 x.Level, .i .i64 x.Cats]
structure Config where
  Sites : Int
  Labels : List Label
  Patience : Int
  deriving Inhabited
def Config.enc (x : Config) : List D := [.i .i64 x.Sites, .l 2 (x.Labels.map Label.enc), .i .i64 x.Patience]
def Config.encO (x : Config) : List D := [.i .i64 x.Sites, .o 2 (x.Labels.map Label.enc), .i .i64 x.Patience]
structure Txn where
  Site : Int
  N : Int
  deriving Inhabited
def Txn.enc (x : Txn) : List D := [.i .i64 x.Site, .i .i64 x.N]
def Txn.encO (x : Txn) : List D := [.i .i64 x.Site, .i .i64 x.N]
structure Message where
  Kind : Int
  From : Int
  To : Int
  Txn : Txn
  Label : Int
  Key : Int
  Value : Int
  Version : Int
  Ask : Int
  Yes : Bool
  Code : Int
  deriving Inhabited
def Message.enc (x : Message) : List D := [.i .i64 x.Kind, .i .i64 x.From, .i .i64 x.To, .i .i64 x.Txn.Site, .i .i64 x.Txn.N, .i .i64 x.Label, .i .i64 x.Key, .i .i64 x.Value, .i .i64 x.Version, .i .i64 x.Ask, .b x.Yes, .i .i64 x.Code]
def Message.encO (x : Message) : List D := [.i .i64 x.Kind, .i .i64 x.From, .i .i64 x.To, .i .i64 x.Txn.Site, .i .i64 x.Txn.N, .i .i64 x.Label, .i .i64 x.Key, .i .i64 x.Value, .i .i64 x.Version, .i .i64 x.Ask, .b x.Yes, .i .i64 x.Code]
structure Record where
  Kind : Int
  Txn : Txn
  Key : Int
  Value : Int
  Ask : Int
  Yes : Bool
  Sites : List Int
  deriving Inhabited
def Record.enc (x : Record) : List D := [.i .i64 x.Kind, .i .i64 x.Txn.Site, .i .i64 x.Txn.N, .i .i64 x.Key, .i .i64 x.Value, .i .i64 x.Ask, .b x.Yes, .l 1 (x.Sites.map encI)]
def Record.encO (x : Record) : List D := [.i .i64 x.Kind, .i .i64 x.Txn.Site, .i .i64 x.Txn.N, .i .i64 x.Key, .i .i64 x.Value, .i .i64 x.Ask, .b x.Yes, .o 1 (x.Sites.map encI)]
structure Reply where
  Site : Int
  Kind : Int
  N : Int
  Key : Int
  Value : Int
  Code : Int
  deriving Inhabited
def Reply.enc (x : Reply) : List D := [.i .i64 x.Site, .i .i64 x.Kind, .i .i64 x.N, .i .i64 x.Key, .i .i64 x.Value, .i .i64 x.Code]
def Reply.encO (x : Reply) : List D := [.i .i64 x.Site, .i .i64 x.Kind, .i .i64 x.N, .i .i64 x.Key, .i .i64 x.Value, .i .i64 x.Code]
structure Turn where
  Desk : Desk
  Messages : List Message
  Records : List Record
  Replies : List Reply
  Sure : Int
  Committed : Int
  deriving Inhabited
def Turn.enc (x : Turn) : List D := [.i .i64 x.Desk.Next, .l 6 (x.Desk.Jobs.map Job.enc), .l 12 (x.Messages.map Message.enc), .l 8 (x.Records.map Record.enc), .l 6 (x.Replies.map Reply.enc), .i .i64 x.Sure, .i .i64 x.Committed]
def Turn.encO (x : Turn) : List D := [.i .i64 x.Desk.Next, .o 6 (x.Desk.Jobs.map Job.enc), .o 12 (x.Messages.map Message.enc), .o 8 (x.Records.map Record.enc), .o 6 (x.Replies.map Reply.enc), .i .i64 x.Sure, .i .i64 x.Committed]
structure CoordWork where
  c : Config
  l : Int
  me : Int
  turn : Turn
  deriving Inhabited
def CoordWork.enc (x : CoordWork) : List D := [.i .i64 x.c.Sites, .l 2 (x.c.Labels.map Label.enc), .i .i64 x.c.Patience, .i .i64 x.l, .i .i64 x.me, .i .i64 x.turn.Desk.Next, .l 6 (x.turn.Desk.Jobs.map Job.enc), .l 12 (x.turn.Messages.map Message.enc), .l 8 (x.turn.Records.map Record.enc), .l 6 (x.turn.Replies.map Reply.enc), .i .i64 x.turn.Sure, .i .i64 x.turn.Committed]
def CoordWork.encO (x : CoordWork) : List D := [.i .i64 x.c.Sites, .o 2 (x.c.Labels.map Label.enc), .i .i64 x.c.Patience, .i .i64 x.l, .i .i64 x.me, .i .i64 x.turn.Desk.Next, .o 6 (x.turn.Desk.Jobs.map Job.enc), .o 12 (x.turn.Messages.map Message.enc), .o 8 (x.turn.Records.map Record.enc), .o 6 (x.turn.Replies.map Reply.enc), .i .i64 x.turn.Sure, .i .i64 x.turn.Committed]
structure Call where
  Kind : Int
  N : Int
  Label : Int
  Key : Int
  Value : Int
  deriving Inhabited
def Call.enc (x : Call) : List D := [.i .i64 x.Kind, .i .i64 x.N, .i .i64 x.Label, .i .i64 x.Key, .i .i64 x.Value]
def Call.encO (x : Call) : List D := [.i .i64 x.Kind, .i .i64 x.N, .i .i64 x.Label, .i .i64 x.Key, .i .i64 x.Value]
def Task.bx (x : Task) : List SC := [.d (.b x.Write), .d (.i .i64 x.Label), .d (.i .i64 x.Key), .d (.i .i64 x.Value), .d (.i .i64 x.Version), .d (.i .i64 x.Ask), .d (.b x.Done), .d (.b x.Sure)]
def Job.bx (x : Job) : List SC := [.d (.i .i64 x.N), .d (.i .i64 x.State), .d (.l 8 (x.Tasks.map Task.enc)), .d (.l 1 (x.Asked.map encI)), .d (.i .i64 x.Asks), .d (.i .i64 x.Age)]
def Desk.bx (x : Desk) : List SC := [.d (.i .i64 x.Next), .d (.l 6 (x.Jobs.map Job.enc))]
def Label.bx (x : Label) : List SC := [.d (.i .i64 x.Level), .d (.i .i64 x.Cats)]
def Config.bx (x : Config) : List SC := [.d (.i .i64 x.Sites), .d (.l 2 (x.Labels.map Label.enc)), .d (.i .i64 x.Patience)]
def Txn.bx (x : Txn) : List SC := [.d (.i .i64 x.Site), .d (.i .i64 x.N)]
def Message.bx (x : Message) : List SC := [.d (.i .i64 x.Kind), .d (.i .i64 x.From), .d (.i .i64 x.To), .d (.i .i64 x.Txn.Site), .d (.i .i64 x.Txn.N), .d (.i .i64 x.Label), .d (.i .i64 x.Key), .d (.i .i64 x.Value), .d (.i .i64 x.Version), .d (.i .i64 x.Ask), .d (.b x.Yes), .d (.i .i64 x.Code)]
def Record.bx (x : Record) : List SC := [.d (.i .i64 x.Kind), .d (.i .i64 x.Txn.Site), .d (.i .i64 x.Txn.N), .d (.i .i64 x.Key), .d (.i .i64 x.Value), .d (.i .i64 x.Ask), .d (.b x.Yes), .d (.l 1 (x.Sites.map encI))]
def Reply.bx (x : Reply) : List SC := [.d (.i .i64 x.Site), .d (.i .i64 x.Kind), .d (.i .i64 x.N), .d (.i .i64 x.Key), .d (.i .i64 x.Value), .d (.i .i64 x.Code)]
def Turn.bx (x : Turn) : List SC := [.d (.i .i64 x.Desk.Next), .d (.l 6 (x.Desk.Jobs.map Job.enc)), .d (.l 12 (x.Messages.map Message.enc)), .d (.l 8 (x.Records.map Record.enc)), .d (.l 6 (x.Replies.map Reply.enc)), .d (.i .i64 x.Sure), .d (.i .i64 x.Committed)]
def CoordWork.bx (x : CoordWork) : List SC := [.d (.i .i64 x.c.Sites), .d (.l 2 (x.c.Labels.map Label.enc)), .d (.i .i64 x.c.Patience), .d (.i .i64 x.l), .d (.i .i64 x.me), .d (.i .i64 x.turn.Desk.Next), .d (.l 6 (x.turn.Desk.Jobs.map Job.enc)), .d (.l 12 (x.turn.Messages.map Message.enc)), .d (.l 8 (x.turn.Records.map Record.enc)), .d (.l 6 (x.turn.Replies.map Reply.enc)), .d (.i .i64 x.turn.Sure), .d (.i .i64 x.turn.Committed)]
def Call.bx (x : Call) : List SC := [.d (.i .i64 x.Kind), .d (.i .i64 x.N), .d (.i .i64 x.Label), .d (.i .i64 x.Key), .d (.i .i64 x.Value)]
attribute [go_sem] encI Task.enc Task.encO Task.bx Job.enc Job.encO Job.bx Desk.enc Desk.encO Desk.bx Label.enc Label.encO Label.bx Config.enc Config.encO Config.bx Txn.enc Txn.encO Txn.bx Message.enc Message.encO Message.bx Record.enc Record.encO Record.bx Reply.enc Reply.encO Reply.bx Turn.enc Turn.encO Turn.bx CoordWork.enc CoordWork.encO CoordWork.bx Call.enc Call.encO Call.bx
def bs_633d862b : ByteArray := ⟨#[0, 1, 2, 2, 3, 3, 3, 3, 4, 4, 4, 4, 4, 4, 4, 4, 5, 5, 5, 5, 5, 5, 5, 5, 5, 5, 5, 5, 5, 5, 5, 5, 6, 6, 6, 6, 6, 6, 6, 6, 6, 6, 6, 6, 6, 6, 6, 6, 6, 6, 6, 6, 6, 6, 6, 6, 6, 6, 6, 6, 6, 6, 6, 6, 7, 7, 7, 7, 7, 7, 7, 7, 7, 7, 7, 7, 7, 7, 7, 7, 7, 7, 7, 7, 7, 7, 7, 7, 7, 7, 7, 7, 7, 7, 7, 7, 7, 7, 7, 7, 7, 7, 7, 7, 7, 7, 7, 7, 7, 7, 7, 7, 7, 7, 7, 7, 7, 7, 7, 7, 7, 7, 7, 7, 7, 7, 7, 7, 8, 8, 8, 8, 8, 8, 8, 8, 8, 8, 8, 8, 8, 8, 8, 8, 8, 8, 8, 8, 8, 8, 8, 8, 8, 8, 8, 8, 8, 8, 8, 8, 8, 8, 8, 8, 8, 8, 8, 8, 8, 8, 8, 8, 8, 8, 8, 8, 8, 8, 8, 8, 8, 8, 8, 8, 8, 8, 8, 8, 8, 8, 8, 8, 8, 8, 8, 8, 8, 8, 8, 8, 8, 8, 8, 8, 8, 8, 8, 8, 8, 8, 8, 8, 8, 8, 8, 8, 8, 8, 8, 8, 8, 8, 8, 8, 8, 8, 8, 8, 8, 8, 8, 8, 8, 8, 8, 8, 8, 8, 8, 8, 8, 8, 8, 8, 8, 8, 8, 8, 8, 8, 8, 8, 8, 8, 8, 8]⟩
@[go_sem] theorem Job.fwz (l : List Job) : (l.map Job.encO).map (List.map D.fw) = l.map Job.enc := by simp [Job.encO, Job.enc, D.fw]
def reredosref_TasksCopy_L1 (p0 : List Task) (k2 : (List Task) → Option ((List Task))) : Nat → Nat → (List Task) → Option ((List Task))
 | 0, _, _ => none
 | n4 + 1, a3_1, a3_2 => (if (decide (a3_1 < p0.length)) = true then (Option.bind (p0[a3_1]?) fun x7 => (if fits 56 (a3_2.length + 1) then (reredosref_TasksCopy_L1 p0 k2 n4 (a3_1 + 1) (a3_2 ++ [x7])) else none)) else (k2 a3_2))
def reredosref_TasksCopy (p0 : List Task) : Option ((List Task)) := (withK (fun (b1_1 : List Task) => (some b1_1)) fun k2 => (reredosref_TasksCopy_L1 p0 k2 (p0.length + 1) 0 []))
def F12 : VFn := ⟨19, (.seq (.reg [vo 2 (.mv (.c (.one (.nl 8))))]) (.seq (.reg [vo 3 (.mv (.c (.one (.nl 8))))]) (.seq (.seq (.reg [mi 4 0]) (.wk (.block 0 (.loop (.seq (.seq (.reg [vm 5 4, vm 6 0, ln 7 6, bt 8 .lss 5 7]) (.cond (.t 8) .skip (.exit 0))) (.seq (.block 1 (.reg [vm 11 3, vm 12 0, vm 13 4, xa 14 8 12 13, vl 15 8 14, vo 16 (.bsl 8 1 [(.d (.b false)), (zi 0), (zi 0), (zi 0), (zi 0), (zi 0), (.d (.b false)), (.d (.b false))] [(0, (.t 15))]), vo 17 (.app 8 56 (.t 11) (.t 16)), vm 3 17])) (.reg [vm 9 4, bk 10 .add 9 1, vm 4 10]))))))) (.seq (.reg [vm 18 3, vm 2 18]) .ret)))), [.t 2]⟩
theorem low12 : lowF Try.prog 12 = some F12.strip := by kernel_rfl
theorem fok12 : fOk Try.prog 12 = true := by kernel_rfl
theorem reredosref_TasksCopy_ok (p0 : List Task) (r : (List Task)) (h : reredosref_TasksCopy p0 = some r) : FnRO Try.prog G 12 [.one (.d (.l 8 (p0.map Task.enc)))] (fun rs => rs = [.one (.o 8 (r.map Task.enc))]) := by
 refine FnRO.of' low12 fok12 (by simp [F12]) ?_
 rw [reredosref_TasksCopy] at h
 replace h := Hd.mk h
 simp only [F12, go_sem]
 try simp only [*, go_sem]
 refine jn1 h (fun b1_1 => [zR 3 0 0 b1_1.length]) (fun b1_1 => [oa 8 (b1_1.map Task.enc)]) (fun k2 h => ?_) (fun b1_1 h => ?_)
 try simp only [*, go_sem]
 refine lp2 (reredosref_TasksCopy_L1 p0 k2) (fun a3_1 a3_2 => [zL 0 8 (p0.map Task.enc), zR 3 0 0 a3_2.length, zI 4 ((a3_1 : Nat) : Int)]) (fun a3_1 a3_2 => [oa 8 (a3_2.map Task.enc)]) h [] [none] (fun n4 a3_1 a3_2 h => ?_) (by intros; rw [reredosref_TasksCopy_L1])
 rw [reredosref_TasksCopy_L1] at h
 try simp only [*, go_sem]
 intro hl5
 refine oi h (fun hb6 h => ?_) (fun hb6 h => ?_)
 have := of_decide_eq_true hb6
 refine obg h (fun x7 _ hkx7 h => ?_)
 refine ck h (fun _ h => ?_)
 have := wrap_succ_max hkx7 hl5
 try simp only [*, go_sem]
 exact lc (a3_1 + 1, (a3_2 ++ [x7])) h.e [some 2]
 try simp only [*, go_sem]
 exact jc (a3_2) h.e [some 0]
 cases h.e
 simp only [*, go_sem, mA, mS]
def reredosref_intsCopy_L1 (p0 : List Int) (k2 : (List Int) → Option ((List Int))) : Nat → Nat → (List Int) → Option ((List Int))
 | 0, _, _ => none
 | n4 + 1, a3_1, a3_2 => (if (decide (a3_1 < p0.length)) = true then (Option.bind (p0[a3_1]?) fun x7 => (if fits 8 (a3_2.length + 1) then (reredosref_intsCopy_L1 p0 k2 n4 (a3_1 + 1) (a3_2 ++ [x7])) else none)) else (k2 a3_2))
def reredosref_intsCopy (p0 : List Int) : Option ((List Int)) := (withK (fun (b1_1 : List Int) => (some b1_1)) fun k2 => (reredosref_intsCopy_L1 p0 k2 (p0.length + 1) 0 []))
def F13 : VFn := ⟨19, (.seq (.reg [vo 2 (.mv (.c (.one (.nl 1))))]) (.seq (.reg [vo 3 (.mv (.c (.one (.nl 1))))]) (.seq (.seq (.reg [mi 4 0]) (.wk (.block 0 (.loop (.seq (.seq (.reg [vm 5 4, vm 6 0, ln 7 6, bt 8 .lss 5 7]) (.cond (.t 8) .skip (.exit 0))) (.seq (.block 1 (.reg [vm 11 3, vm 12 0, vm 13 4, xa 14 1 12 13, vs 15 14, vo 16 (.bsl 1 1 [(zi 0)] [(0, (.t 15))]), vo 17 (.app 1 8 (.t 11) (.t 16)), vm 3 17])) (.reg [vm 9 4, bk 10 .add 9 1, vm 4 10]))))))) (.seq (.reg [vm 18 3, vm 2 18]) .ret)))), [.t 2]⟩
theorem low13 : lowF Try.prog 13 = some F13.strip := by kernel_rfl
theorem fok13 : fOk Try.prog 13 = true := by kernel_rfl
theorem reredosref_intsCopy_ok (p0 : List Int) (r : (List Int)) (h : reredosref_intsCopy p0 = some r) : FnRO Try.prog G 13 [.one (.d (.l 1 (p0.map encI)))] (fun rs => rs = [.one (.o 1 (r.map encI))]) := by
 refine FnRO.of' low13 fok13 (by simp [F13]) ?_
 rw [reredosref_intsCopy] at h
 replace h := Hd.mk h
 simp only [F13, go_sem]
 try simp only [*, go_sem]
 refine jn1 h (fun b1_1 => [zR 3 0 0 b1_1.length]) (fun b1_1 => [oa 1 (b1_1.map encI)]) (fun k2 h => ?_) (fun b1_1 h => ?_)
 try simp only [*, go_sem]
 refine lp2 (reredosref_intsCopy_L1 p0 k2) (fun a3_1 a3_2 => [zL 0 1 (p0.map encI), zR 3 0 0 a3_2.length, zI 4 ((a3_1 : Nat) : Int)]) (fun a3_1 a3_2 => [oa 1 (a3_2.map encI)]) h [] [none] (fun n4 a3_1 a3_2 h => ?_) (by intros; rw [reredosref_intsCopy_L1])
 rw [reredosref_intsCopy_L1] at h
 try simp only [*, go_sem]
 intro hl5
 refine oi h (fun hb6 h => ?_) (fun hb6 h => ?_)
 have := of_decide_eq_true hb6
 refine obg h (fun x7 _ hkx7 h => ?_)
 refine ck h (fun _ h => ?_)
 have := wrap_succ_max hkx7 hl5
 try simp only [*, go_sem]
 exact lc (a3_1 + 1, (a3_2 ++ [x7])) h.e [some 2]
 try simp only [*, go_sem]
 exact jc (a3_2) h.e [some 0]
 cases h.e
 simp only [*, go_sem, mA, mS]
def reredosref_DeskCopy_L1 (p0 : Desk) (k2 : (List Job) → Option (Desk)) : Nat → Nat → (List Job) → Option (Desk)
 | 0, _, _ => none
 | n4 + 1, a3_1, a3_2 => (if (decide (a3_1 < p0.Jobs.length)) = true then (Option.bind (p0.Jobs[a3_1]?) fun x7 => (Option.bind (reredosref_TasksCopy x7.Tasks) fun v8 => (Option.bind (reredosref_intsCopy x7.Asked) fun v9 => (withK (if fits 80 (a3_2.length + 1) then (reredosref_DeskCopy_L1 p0 k2 n4 (a3_1 + 1) (a3_2 ++ [(Job.mk x7.N x7.State v8 v9 x7.Asks x7.Age)])) else none) fun k11 => k11)))) else (k2 a3_2))
def reredosref_DeskCopy (p0 : Desk) : Option (Desk) := (withK (fun (b1_1 : List Job) => (some (Desk.mk p0.Next b1_1))) fun k2 => (reredosref_DeskCopy_L1 p0 k2 (p0.Jobs.length + 1) 0 []))
def F5 : VFn := ⟨36, (.seq (.reg [vo 1 (.box 2 (.t 0)), vo 2 (.alloc [(zi 0), (.nl 6)])]) (.seq (.reg [vf 6 0 1, vs 7 6, vo 8 (.build [(zi 0), (.nl 6)] [(0, 1, (.t 7))]), vo 3 (.alloc [(zi 0), (.nl 6)]), vu (.st 2 (.t 3) (.t 8))]) (.seq (.seq (.reg [mi 4 0]) (.wk (.block 0 (.loop (.seq (.seq (.reg [vm 9 4, vf 10 1 1, vs 11 10, ln 12 11, bt 13 .lss 9 12]) (.cond (.t 13) .skip (.exit 0))) (.seq (.block 1 (.seq (.reg [vf 16 1 1, vs 17 16, vm 18 4, xa 19 6 17 18, vl 20 6 19, vo 5 (.alloc [(zi 0), (zi 0), (.nl 8), (.nl 1), (zi 0), (zi 0)]), vu (.st 6 (.t 5) (.t 20))]) (.seq (.reg [vf 21 2 5, vs 22 21, vo 23 (.call 12 [(.t 22)]), vf 24 2 5, vu (.st 1 (.t 24) (.t 23))]) (.seq (.reg [vf 25 3 5, vs 26 25, vo 27 (.call 13 [(.t 26)]), vf 28 3 5, vu (.st 1 (.t 28) (.t 27))]) (.regs [[vf 29 1 3, vs 30 29, vl 31 6 5], [vo 32 (.bslw 6 1 [(zi 0), (zi 0), (.nl 8), (.nl 1), (zi 0), (zi 0)] [(0, (.t 31))]), vo 33 (.appw 6 80 (.t 30) (.t 32)), vf 34 1 3, vu (.st 1 (.t 34) (.t 33))]]))))) (.reg [vm 14 4, bk 15 .add 14 1, vm 4 15]))))))) (.seq (.reg [vl 35 2 3, vu (.st 2 (.t 2) (.t 35))]) .ret)))), [.cell 2 true 2]⟩
theorem low5 : lowF Try.prog 5 = some F5.strip := by kernel_rfl
theorem fok5 : fOk Try.prog 5 = true := by kernel_rfl
theorem reredosref_DeskCopy_ok (p0 : Desk) (r : Desk) (h : reredosref_DeskCopy p0 = some r) : FnRO Try.prog G 5 [.agg p0.bx] (fun rs => rs = [.agg [.i .i64 r.Next, .t 6 (r.Jobs.map Job.encO)]]) := by
 refine FnRO.same ?_
 refine FnRO.of' low5 fok5 (by simp [F5]) ?_
 rw [reredosref_DeskCopy] at h
 replace h := Hd.mk h
 simp only [F5, go_sem]
 try simp only [*, go_sem]
 refine jn1 h (fun b1_1 => [zP 2 0, zP 3 1]) (fun b1_1 => [ox [zi 0, .nl 6], ox [zi p0.Next, .r 2 0 b1_1.length], ot 6 (b1_1.map Job.encO)]) (fun k2 h => ?_) (fun b1_1 h => ?_)
 try simp only [*, go_sem]
 refine lp2 (reredosref_DeskCopy_L1 p0 k2) (fun a3_1 a3_2 => [zP 1 0, zP 2 1, zP 3 2, zI 4 ((a3_1 : Nat) : Int)]) (fun a3_1 a3_2 => [ox p0.bx, ox [zi 0, .nl 6], ox [zi p0.Next, .r 3 0 a3_2.length], ot 6 (a3_2.map Job.encO)]) h [] [some 0, some 1, some 2, none] (fun n4 a3_1 a3_2 h => ?_) (by intros; rw [reredosref_DeskCopy_L1])
 rw [reredosref_DeskCopy_L1] at h
 try simp only [*, go_sem]
 intro hl5
 refine oi h (fun hb6 h => ?_) (fun hb6 h => ?_)
 have := of_decide_eq_true hb6
 refine obg h (fun x7 _ hkx7 h => ?_)
 try simp only [*, go_sem]
 refine cr h (reredosref_TasksCopy_ok G x7.Tasks) (fun v8 h => ?_)
 try simp only [*, go_sem]
 refine cr h (reredosref_intsCopy_ok G x7.Asked) (fun v9 h => ?_)
 try simp only [*, go_sem]
 refine rg0 h ([zP 1 0, zP 2 1, zP 3 2, zI 4 ((a3_1 : Nat) : Int), zR 30 3 0 a3_2.length, (31, .agg [zi x7.N, zi x7.State, .r 4 0 v8.length, .r 5 0 v9.length, zi x7.Asks, zi x7.Age])]) ([ox p0.bx, ox [zi 0, .nl 6], ox [zi p0.Next, .r 3 0 a3_2.length], ot 6 (a3_2.map Job.encO), oa 8 (v8.map Task.enc), oa 1 (v9.map encI)]) (fun k11 h => ?_) (fun h => ?_)
 try simp only [*, go_sem]
 exact jc () h.e [some 0, some 1, some 2, some 3, some 5, some 6]
 refine ck h (fun _ h => ?_)
 have := wrap_succ_max hkx7 hl5
 try simp only [*, go_sem]
 exact lc (a3_1 + 1, (a3_2 ++ [(Job.mk x7.N x7.State v8 v9 x7.Asks x7.Age)])) h.e [some 0, some 1, some 2, some 7]
 try simp only [*, go_sem]
 exact jc (a3_2) h.e [some 1, some 2, some 3]
 cases h.e
 simp only [*, go_sem, mA, mS]
def label_one (p0 : Label) : Option (Bool) := (withK (fun (b1_1 : Bool) => (some b1_1)) fun k2 => (if (decide (p0.Level ≥ 0)) = true then (if (decide (p0.Level ≤ 9)) = true then (if (decide (p0.Cats ≥ 0)) = true then (k2 (decide (p0.Cats ≤ 15))) else (k2 false)) else (k2 false)) else (k2 false)))
def F65 : VFn := ⟨21, (.seq (.reg [vo 1 (.boxk 2 (.t 0)), vo 2 (.mv (cb false))]) (.seq (.wk (.reg [vf 3 0 1, vs 4 3, bk 5 .geq 4 0, vm 6 5, gt 7 6 (.fa 0 (.t 1)), gt 8 6 (.ld false 1 (.t 7)), gt 9 6 (.bin .i .leq (.t 8) (ci 9)), vo 10 (.pick (.t 6) (.t 9) (cb false)), vm 11 10, gt 12 11 (.fa 1 (.t 1)), gt 13 11 (.ld false 1 (.t 12)), gt 14 11 (.bin .i .geq (.t 13) (ci 0)), vo 15 (.pick (.t 11) (.t 14) (cb false)), vm 16 15, gt 17 16 (.fa 1 (.t 1)), gt 18 16 (.ld false 1 (.t 17)), gt 19 16 (.bin .i .leq (.t 18) (ci 15)), vo 20 (.pick (.t 16) (.t 19) (cb false)), vm 2 20])) .ret)), [.t 2]⟩
theorem low65 : lowF Try.prog 65 = some F65.strip := by kernel_rfl
theorem fok65 : fOk Try.prog 65 = true := by kernel_rfl
theorem label_one_ok (p0 : Label) (r : Bool) (h : label_one p0 = some r) : FnRO Try.prog G 65 [.agg p0.bx] (fun rs => rs = [.one (.b r)]) := by
 refine FnRO.of' low65 fok65 (by simp [F65]) ?_
 rw [label_one] at h
 replace h := Hd.mk h
 simp only [F65, go_sem]
 try simp only [*, go_sem]
 refine jn1 h (fun b1_1 => [zB 2 b1_1]) (fun b1_1 => []) (fun k2 h => ?_) (fun b1_1 h => ?_)
 refine oi h (fun hb3 h => ?_) (fun hb3 h => ?_)
 refine oi h (fun hb4 h => ?_) (fun hb4 h => ?_)
 refine oi h (fun hb5 h => ?_) (fun hb5 h => ?_)
 try simp only [*, go_sem]
 exact jc (decide (p0.Cats ≤ 15)) h.e []
 try simp only [*, go_sem]
 exact jc (false) h.e []
 try simp only [*, go_sem]
 exact jc (false) h.e []
 try simp only [*, go_sem]
 exact jc (false) h.e []
 cases h.e
 simp only [*, go_sem, mA, mS]
def label_Check_L2 (p0 : Config) (a10_1 : Nat) (x13 : Label) (k19 : Option (Int)) : Nat → Nat → Option (Int)
 | 0, _ => none
 | n21 + 1, a20_1 => (if (decide (a20_1 < min a10_1 p0.Labels.length)) = true then (Option.bind ((p0.Labels.take a10_1)[a20_1]?) fun x23 => (if ((x23.Level == x13.Level) && (x23.Cats == x13.Cats)) = true then (some 7) else (label_Check_L2 p0 a10_1 x13 k19 n21 (a20_1 + 1)))) else k19)
def label_Check_L1 (p0 : Config) (k9 : Option (Int)) : Nat → Nat → Option (Int)
 | 0, _ => none
 | n11 + 1, a10_1 => (if (decide (a10_1 < p0.Labels.length)) = true then (Option.bind (p0.Labels[a10_1]?) fun x13 => (Option.bind (label_one x13) fun v14 => (if (!v14) = true then (some 2) else (withK (label_Check_L1 p0 k9 n11 (a10_1 + 1)) fun k19 => (label_Check_L2 p0 a10_1 x13 k19 (min a10_1 p0.Labels.length + 1) 0))))) else k9)
def label_Check (p0 : Config) : Option (Int) := (if (decide (p0.Sites < 1)) = true then (some 2) else (if (decide (p0.Sites > 4)) = true then (some 2) else (if (decide (((p0.Labels.length : Nat) : Int) < 1)) = true then (some 1) else (if (decide (((p0.Labels.length : Nat) : Int) > 6)) = true then (some 1) else (withK (if (decide (p0.Patience < 1)) = true then (some 2) else (if (decide (p0.Patience > 1048576)) = true then (some 2) else (some 0))) fun k9 => (label_Check_L1 p0 k9 (p0.Labels.length + 1) 0))))))
def F54 : VFn := ⟨58, (.seq (.reg [vo 1 (.boxk 3 (.t 0)), mi 2 0]) (.seq (.seq (.reg [vf 7 0 1, vs 8 7, bk 9 .lss 8 1, vm 10 9, gf 11 10 (.fa 0 (.t 1)), gf 12 10 (.ld false 1 (.t 11)), gf 13 10 (.bin .i .gtr (.t 12) (ci 4)), vo 14 (.pick (.t 10) (cb true) (.t 13))]) (.cond (.t 14) (.seq (.reg [mi 2 2]) .ret) .skip)) (.seq (.seq (.reg [vf 15 1 1, vs 16 15, ln 17 16, bk 18 .lss 17 1, vm 19 18, gf 20 19 (.fa 1 (.t 1)), gf 21 19 (.ld false 1 (.t 20)), gf 22 19 (.len (.t 21)), gf 23 19 (.bin .i .gtr (.t 22) (ci 6)), vo 24 (.pick (.t 19) (cb true) (.t 23))]) (.cond (.t 24) (.seq (.reg [mi 2 1]) .ret) .skip)) (.seq (.seq (.reg [vf 25 1 1, vs 26 25, ln 27 26, mi 28 0]) (.wk (.block 0 (.loop (.seq (.reg [bt 29 .lss 28 27]) (.seq (.cond (.t 29) .skip (.exit 0)) (.seq (.block 1 (.seq (.reg [vm 30 28, xa 31 2 26 28, vl 32 2 31, vo 4 (.alloc [(zi 0), (zi 0)]), vm 3 30, vu (.st 2 (.t 4) (.t 32))]) (.seq (.seq (.reg [vl 33 2 4, vo 34 (.call 65 [(.t 33)]), nt 35 34]) (.cond (.t 35) (.seq (.reg [mi 2 2]) .ret) .skip)) (.seq (.reg [vf 36 1 1, vs 37 36, vm 38 3, vo 39 (.sl 2 (.t 37) none (some (.t 38))), ln 40 39, mi 41 0]) (.wk (.block 2 (.loop (.seq (.reg [bt 42 .lss 41 40]) (.seq (.cond (.t 42) .skip (.exit 2)) (.seq (.block 3 (.seq (.reg [xa 43 2 39 41, vl 44 2 43, vo 6 (.alloc [(zi 0), (zi 0)]), vu (.st 2 (.t 6) (.t 44))]) (.seq (.reg [vl 45 2 6, vl 46 2 4, vo 47 (.eqs false [.i, .i] (.t 45) (.t 46))]) (.cond (.t 47) (.seq (.reg [mi 2 7]) .ret) .skip)))) (.reg [bk 48 .add 41 1, vm 41 48]))))))))))) (.reg [bk 49 .add 28 1, vm 28 49])))))))) (.seq (.seq (.reg [vf 50 2 1, vs 51 50, bk 52 .lss 51 1, vm 53 52, gf 54 53 (.fa 2 (.t 1)), gf 55 53 (.ld false 1 (.t 54)), gf 56 53 (.bin .i .gtr (.t 55) (ci 1048576)), vo 57 (.pick (.t 53) (cb true) (.t 56))]) (.cond (.t 57) (.seq (.reg [mi 2 2]) .ret) .skip)) (.seq (.reg [mi 2 0]) .ret)))))), [.t 2]⟩
theorem low54 : lowF Try.prog 54 = some F54.strip := by kernel_rfl
theorem fok54 : fOk Try.prog 54 = true := by kernel_rfl
theorem label_Check_ok (p0 : Config) (r : Int) (h : label_Check p0 = some r) : FnRO Try.prog G 54 [.agg p0.bx] (fun rs => rs = [.one (.i .i64 r)]) := by
 refine FnRO.of' low54 fok54 (by simp [F54]) ?_
 rw [label_Check] at h
 replace h := Hd.mk h
 simp only [F54, go_sem]
 refine oi h (fun hb1 h => ?_) (fun hb1 h => ?_)
 have := of_decide_eq_true hb1
 cases h.e
 simp only [*, go_sem, mA, mS]
 refine oi h (fun hb2 h => ?_) (fun hb2 h => ?_)
 cases h.e
 simp only [*, go_sem, mA, mS]
 try simp only [*, go_sem]
 intro hl3
 refine oi h (fun hb4 h => ?_) (fun hb4 h => ?_)
 cases h.e
 simp only [*, go_sem, mA, mS]
 try simp only [*, go_sem]
 intro hl5
 refine oi h (fun hb6 h => ?_) (fun hb6 h => ?_)
 cases h.e
 simp only [*, go_sem, mA, mS]
 try simp only [*, go_sem]
 intro hl7
 try simp only [*, go_sem]
 refine jn0 h ([zK 1 (Config.enc p0)]) ([]) (fun k9 h => ?_) (fun h => ?_)
 try simp only [*, go_sem]
 refine lp1 (label_Check_L1 p0 k9) (fun a10_1 => [zK 1 (Config.enc p0), zL 26 2 (p0.Labels.map Label.enc), zI 27 ((p0.Labels.length : Nat) : Int), zI 28 ((a10_1 : Nat) : Int)]) (fun a10_1 => []) h [] [] (fun n11 a10_1 h => ?_) (by intros; rw [label_Check_L1])
 rw [label_Check_L1] at h
 refine oi h (fun hb12 h => ?_) (fun hb12 h => ?_)
 have := of_decide_eq_true hb12
 refine obg h (fun x13 _ hkx13 h => ?_)
 try simp only [*, go_sem]
 refine cr h (label_one_ok G x13) (fun v14 h => ?_)
 refine oin h (fun hb15 hkhb15 h => ?_) (fun hb15 hkhb15 h => ?_)
 cases h.e
 simp only [*, go_sem, mA, mS]
 have := Nat.le_of_lt hkx13
 try simp only [*, go_sem]
 intro hl17
 try simp only [*, go_sem]
 refine jn0 h ([zK 1 (Config.enc p0), zL 26 2 (p0.Labels.map Label.enc), zI 27 ((p0.Labels.length : Nat) : Int), zI 28 ((a10_1 : Nat) : Int)]) ([]) (fun k19 h => ?_) (fun h => ?_)
 try simp only [*, go_sem]
 refine lp1 (label_Check_L2 p0 a10_1 x13 k19) (fun a20_1 => [zK 1 (Config.enc p0), zP 4 0, zL 26 2 (p0.Labels.map Label.enc), zI 27 ((p0.Labels.length : Nat) : Int), zI 28 ((a10_1 : Nat) : Int), zL 39 2 ((p0.Labels.take a10_1).map Label.enc), zI 40 ((min a10_1 p0.Labels.length : Nat) : Int), zI 41 ((a20_1 : Nat) : Int)]) (fun a20_1 => [ox x13.bx]) h [] [some 0] (fun n21 a20_1 h => ?_) (by intros; rw [label_Check_L2])
 rw [label_Check_L2] at h
 refine oi h (fun hb22 h => ?_) (fun hb22 h => ?_)
 refine obg h (fun x23 _ hkx23 h => ?_)
 try simp only [List.length_take, List.length_drop, List.length_append, List.length_set, List.length_map, List.length_cons, List.length_nil, Nat.zero_add] at hkx23
 refine oi h (fun hb24 h => ?_) (fun hb24 h => ?_)
 try simp only [*, go_sem]
 cases h.e
 simp only [*, go_sem, mA, mS]
 try simp only [*, go_sem]
 have := wrap_succ_max hkx23 hl17
 try simp only [*, go_sem]
 exact lc (a20_1 + 1) h.e [some 0]
 try simp only [*, go_sem]
 exact jc () h.e []
 have := wrap_succ_max hkx13 hl3
 try simp only [*, go_sem]
 exact lc (a10_1 + 1) h.e []
 try simp only [*, go_sem]
 exact jc () h.e []
 refine oi h (fun hb27 h => ?_) (fun hb27 h => ?_)
 have := of_decide_eq_true hb27
 cases h.e
 simp only [*, go_sem, mA, mS]
 refine oi h (fun hb28 h => ?_) (fun hb28 h => ?_)
 cases h.e
 simp only [*, go_sem, mA, mS]
 cases h.e
 simp only [*, go_sem, mA, mS]
def coord_task (p0 : Config) (p1 : Task) : Option (Bool) := (if (decide (p1.Label < 0)) = true then (some false) else (if (decide (p1.Label ≥ ((p0.Labels.length : Nat) : Int))) = true then (some false) else (if (decide (p1.Key < 0)) = true then (some false) else (if (decide (p1.Key ≥ 8)) = true then (some false) else (if (decide (p1.Value < 0)) = true then (some false) else (if (decide (p1.Value > 1073741824)) = true then (some false) else (if (decide (p1.Version < 0)) = true then (some false) else (if (decide (p1.Version > 1048576)) = true then (some false) else (if (decide (p1.Ask < 1)) = true then (some false) else (if (decide (p1.Ask > 1048576)) = true then (some false) else (withK (fun (b12_1 : Bool) => (some b12_1)) fun k13 => (if p1.Done = true then (k13 true) else (if (!p1.Sure) = true then (if p1.Write = true then (k13 true) else (k13 (IntKind.i64.wrap (p1.Value + p1.Version) == 0))) else (k13 false))))))))))))))
def F66 : VFn := ⟨75, (.seq (.reg [vo 2 (.box 3 (.t 0)), vo 3 (.boxk 8 (.t 1)), vo 4 (.mv (cb false))]) (.seq (.seq (.reg [vf 5 1 3, vs 6 5, bk 7 .lss 6 0, vm 8 7, gf 9 8 (.fa 1 (.t 3)), gf 10 8 (.ld false 1 (.t 9)), gf 11 8 (.fa 1 (.t 2)), gf 12 8 (.ld false 1 (.t 11)), gf 13 8 (.len (.t 12)), gf 14 8 (.bin .i .geq (.t 10) (.t 13)), vo 15 (.pick (.t 8) (cb true) (.t 14)), vm 16 15, gf 17 16 (.fa 2 (.t 3)), gf 18 16 (.ld false 1 (.t 17)), gf 19 16 (.bin .i .lss (.t 18) (ci 0)), vo 20 (.pick (.t 16) (cb true) (.t 19)), vm 21 20, gf 22 21 (.fa 2 (.t 3)), gf 23 21 (.ld false 1 (.t 22)), gf 24 21 (.bin .i .geq (.t 23) (ci 8)), vo 25 (.pick (.t 21) (cb true) (.t 24)), vm 26 25, gf 27 26 (.fa 3 (.t 3)), gf 28 26 (.ld false 1 (.t 27)), gf 29 26 (.bin .i .lss (.t 28) (ci 0)), vo 30 (.pick (.t 26) (cb true) (.t 29)), vm 31 30, gf 32 31 (.fa 3 (.t 3)), gf 33 31 (.ld false 1 (.t 32)), gf 34 31 (.bin .i .gtr (.t 33) (ci 1073741824)), vo 35 (.pick (.t 31) (cb true) (.t 34)), vm 36 35, gf 37 36 (.fa 4 (.t 3)), gf 38 36 (.ld false 1 (.t 37)), gf 39 36 (.bin .i .lss (.t 38) (ci 0)), vo 40 (.pick (.t 36) (cb true) (.t 39)), vm 41 40, gf 42 41 (.fa 4 (.t 3)), gf 43 41 (.ld false 1 (.t 42)), gf 44 41 (.bin .i .gtr (.t 43) (ci 1048576)), vo 45 (.pick (.t 41) (cb true) (.t 44)), vm 46 45, gf 47 46 (.fa 5 (.t 3)), gf 48 46 (.ld false 1 (.t 47)), gf 49 46 (.bin .i .lss (.t 48) (ci 1)), vo 50 (.pick (.t 46) (cb true) (.t 49)), vm 51 50, gf 52 51 (.fa 5 (.t 3)), gf 53 51 (.ld false 1 (.t 52)), gf 54 51 (.bin .i .gtr (.t 53) (ci 1048576)), vo 55 (.pick (.t 51) (cb true) (.t 54))]) (.cond (.t 55) (.seq (.reg [vo 4 (.mv (cb false))]) .ret) .skip)) (.seq (.wk (.reg [vf 56 6 3, vs 57 56, vm 58 57, gf 59 58 (.fa 7 (.t 3)), gf 60 58 (.ld false 1 (.t 59)), gf 61 58 (.un .not (.t 60)), gf 62 58 (.mv (.t 61)), gt 63 62 (.fa 0 (.t 3)), gt 64 62 (.ld false 1 (.t 63)), gt 65 62 (.mv (.t 64)), gf 66 65 (.fa 3 (.t 3)), gf 67 65 (.ld false 1 (.t 66)), gf 68 65 (.fa 4 (.t 3)), gf 69 65 (.ld false 1 (.t 68)), gf 70 65 (.bin .i .add (.t 67) (.t 69)), gf 71 65 (.bin .i .eql (.t 70) (ci 0)), gt 72 62 (.pick (.t 65) (cb true) (.t 71)), gf 73 58 (.pick (.t 62) (.t 72) (cb false)), vo 74 (.pick (.t 58) (cb true) (.t 73)), vm 4 74])) .ret))), [.t 4]⟩
theorem low66 : lowF Try.prog 66 = some F66.strip := by kernel_rfl
theorem fok66 : fOk Try.prog 66 = true := by kernel_rfl
theorem coord_task_ok (p0 : Config) (p1 : Task) (r : Bool) (h : coord_task p0 p1 = some r) : FnRO Try.prog G 66 [.agg p0.bx, .agg p1.bx] (fun rs => rs = [.one (.b r)]) := by
 refine FnRO.of' low66 fok66 (by simp [F66]) ?_
 rw [coord_task] at h
 replace h := Hd.mk h
 simp only [F66, go_sem]
 refine oi h (fun hb1 h => ?_) (fun hb1 h => ?_)
 have := of_decide_eq_true hb1
 cases h.e
 simp only [*, go_sem, mA, mS]
 try simp only [*, go_sem]
 intro hl2
 refine oi h (fun hb3 h => ?_) (fun hb3 h => ?_)
 cases h.e
 simp only [*, go_sem, mA, mS]
 refine oi h (fun hb4 h => ?_) (fun hb4 h => ?_)
 have := of_decide_eq_true hb4
 cases h.e
 simp only [*, go_sem, mA, mS]
 refine oi h (fun hb5 h => ?_) (fun hb5 h => ?_)
 cases h.e
 simp only [*, go_sem, mA, mS]
 refine oi h (fun hb6 h => ?_) (fun hb6 h => ?_)
 have := of_decide_eq_true hb6
 cases h.e
 simp only [*, go_sem, mA, mS]
 refine oi h (fun hb7 h => ?_) (fun hb7 h => ?_)
 cases h.e
 simp only [*, go_sem, mA, mS]
 refine oi h (fun hb8 h => ?_) (fun hb8 h => ?_)
 have := of_decide_eq_true hb8
 cases h.e
 simp only [*, go_sem, mA, mS]
 refine oi h (fun hb9 h => ?_) (fun hb9 h => ?_)
 cases h.e
 simp only [*, go_sem, mA, mS]
 refine oi h (fun hb10 h => ?_) (fun hb10 h => ?_)
 have := of_decide_eq_true hb10
 cases h.e
 simp only [*, go_sem, mA, mS]
 refine oi h (fun hb11 h => ?_) (fun hb11 h => ?_)
 cases h.e
 simp only [*, go_sem, mA, mS]
 try simp only [*, go_sem]
 refine jn1 h (fun b12_1 => [zB 4 b12_1]) (fun b12_1 => []) (fun k13 h => ?_) (fun b12_1 h => ?_)
 refine oi h (fun hb14 h => ?_) (fun hb14 h => ?_)
 try simp only [*, go_sem]
 exact jc (true) h.e []
 refine oin h (fun hb15 hkhb15 h => ?_) (fun hb15 hkhb15 h => ?_)
 refine oi h (fun hb16 h => ?_) (fun hb16 h => ?_)
 try simp only [*, go_sem]
 exact jc (true) h.e []
 try simp only [*, go_sem]
 exact jc (IntKind.i64.wrap (p1.Value + p1.Version) == 0) h.e []
 try simp only [*, go_sem]
 exact jc (false) h.e []
 cases h.e
 simp only [*, go_sem, mA, mS]
def coord_job_L1 (p0 : Config) (p2 : Job) (k13 : Option (Bool)) : Nat → Nat → Option (Bool)
 | 0, _ => none
 | n15 + 1, a14_1 => (if (decide (a14_1 < p2.Tasks.length)) = true then (Option.bind (p2.Tasks[a14_1]?) fun x17 => (Option.bind (coord_task p0 x17) fun v18 => (if (!v18) = true then (some false) else (if (decide (x17.Ask > p2.Asks)) = true then (some false) else (if (decide (((a14_1 : Nat) : Int) > 0)) = true then (if 0 ≤ IntKind.i64.wrap (((a14_1 : Nat) : Int) - 1) then (Option.bind (p2.Tasks[(IntKind.i64.wrap (((a14_1 : Nat) : Int) - 1)).toNat]?) fun x22 => (if (decide (x22.Ask ≥ x17.Ask)) = true then (some false) else (if (!x17.Done) = true then (if (decide (((a14_1 : Nat) : Int) < IntKind.i64.wrap (((p2.Tasks.length : Nat) : Int) - 1))) = true then (some false) else (if (p2.State != 1) = true then (some false) else (coord_job_L1 p0 p2 k13 n15 (a14_1 + 1)))) else (coord_job_L1 p0 p2 k13 n15 (a14_1 + 1))))) else none) else (if (!x17.Done) = true then (if (decide (((a14_1 : Nat) : Int) < IntKind.i64.wrap (((p2.Tasks.length : Nat) : Int) - 1))) = true then (some false) else (if (p2.State != 1) = true then (some false) else (coord_job_L1 p0 p2 k13 n15 (a14_1 + 1)))) else (coord_job_L1 p0 p2 k13 n15 (a14_1 + 1)))))))) else k13)
def coord_job_L2 (p0 : Config) (p2 : Job) (k37 : Option (Bool)) : Nat → Nat → Option (Bool)
 | 0, _ => none
 | n39 + 1, a38_1 => (if (decide (a38_1 < p2.Asked.length)) = true then (Option.bind (p2.Asked[a38_1]?) fun x41 => (if (decide (x41 < 0)) = true then (some false) else (if (decide (x41 ≥ p0.Sites)) = true then (some false) else (if (decide (((a38_1 : Nat) : Int) > 0)) = true then (if 0 ≤ IntKind.i64.wrap (((a38_1 : Nat) : Int) - 1) then (Option.bind (p2.Asked[(IntKind.i64.wrap (((a38_1 : Nat) : Int) - 1)).toNat]?) fun x45 => (if (decide (x45 ≥ x41)) = true then (some false) else (coord_job_L2 p0 p2 k37 n39 (a38_1 + 1)))) else none) else (coord_job_L2 p0 p2 k37 n39 (a38_1 + 1)))))) else k37)
def coord_job (p0 : Config) (p1 : Desk) (p2 : Job) : Option (Bool) := (if (decide (p2.N < 1)) = true then (some false) else (if (decide (p2.N ≥ p1.Next)) = true then (some false) else (if (decide (p2.Age < 0)) = true then (some false) else (if (decide (p2.Age > 1048576)) = true then (some false) else (if (decide (p2.State < 1)) = true then (some false) else (if (decide (p2.State > 3)) = true then (some false) else (if (decide (((p2.Tasks.length : Nat) : Int) > 10)) = true then (some false) else (if (decide (p2.Asks < 0)) = true then (some false) else (if (decide (p2.Asks > 1048576)) = true then (some false) else (withK (withK (some ((p2.State == 3) == (decide (((p2.Asked.length : Nat) : Int) > 0)))) fun k37 => (coord_job_L2 p0 p2 k37 (p2.Asked.length + 1) 0)) fun k13 => (coord_job_L1 p0 p2 k13 (p2.Tasks.length + 1) 0)))))))))))
def F55 : VFn := ⟨155, (.seq (.reg [vo 3 (.box 3 (.t 0)), vo 4 (.box 2 (.t 1)), vo 5 (.box 6 (.t 2)), vo 6 (.mv (cb false))]) (.seq (.seq (.reg [vf 11 0 5, vs 12 11, bk 13 .lss 12 1, vm 14 13, gf 15 14 (.fa 0 (.t 5)), gf 16 14 (.ld false 1 (.t 15)), gf 17 14 (.fa 0 (.t 4)), gf 18 14 (.ld false 1 (.t 17)), gf 19 14 (.bin .i .geq (.t 16) (.t 18)), vo 20 (.pick (.t 14) (cb true) (.t 19)), vm 21 20, gf 22 21 (.fa 5 (.t 5)), gf 23 21 (.ld false 1 (.t 22)), gf 24 21 (.bin .i .lss (.t 23) (ci 0)), vo 25 (.pick (.t 21) (cb true) (.t 24)), vm 26 25, gf 27 26 (.fa 5 (.t 5)), gf 28 26 (.ld false 1 (.t 27)), gf 29 26 (.bin .i .gtr (.t 28) (ci 1048576)), vo 30 (.pick (.t 26) (cb true) (.t 29)), vm 31 30, gf 32 31 (.fa 1 (.t 5)), gf 33 31 (.ld false 1 (.t 32)), gf 34 31 (.bin .i .lss (.t 33) (ci 1)), vo 35 (.pick (.t 31) (cb true) (.t 34)), vm 36 35, gf 37 36 (.fa 1 (.t 5)), gf 38 36 (.ld false 1 (.t 37)), gf 39 36 (.bin .i .gtr (.t 38) (ci 3)), vo 40 (.pick (.t 36) (cb true) (.t 39)), vm 41 40, gf 42 41 (.fa 2 (.t 5)), gf 43 41 (.ld false 1 (.t 42)), gf 44 41 (.len (.t 43)), gf 45 41 (.bin .i .gtr (.t 44) (ci 10)), vo 46 (.pick (.t 41) (cb true) (.t 45)), vm 47 46, gf 48 47 (.fa 4 (.t 5)), gf 49 47 (.ld false 1 (.t 48)), gf 50 47 (.bin .i .lss (.t 49) (ci 0)), vo 51 (.pick (.t 47) (cb true) (.t 50)), vm 52 51, gf 53 52 (.fa 4 (.t 5)), gf 54 52 (.ld false 1 (.t 53)), gf 55 52 (.bin .i .gtr (.t 54) (ci 1048576)), vo 56 (.pick (.t 52) (cb true) (.t 55))]) (.cond (.t 56) (.seq (.reg [vo 6 (.mv (cb false))]) .ret) .skip)) (.seq (.seq (.reg [vf 57 2 5, vs 58 57, ln 59 58, mi 60 0]) (.wk (.block 0 (.loop (.seq (.reg [bt 61 .lss 60 59]) (.seq (.cond (.t 61) .skip (.exit 0)) (.seq (.block 1 (.seq (.reg [vm 62 60, xa 63 8 58 60, vl 64 8 63, vo 8 (.alloc [(.d (.b false)), (zi 0), (zi 0), (zi 0), (zi 0), (zi 0), (.d (.b false)), (.d (.b false))]), vm 7 62, vu (.st 8 (.t 8) (.t 64))]) (.seq (.draw [vd (vl 65 3 3) 0, vd (vl 66 8 8) 0, vd (vo 67 (.call 66 [(.t 65), (.t 66)])) 3, vd (nt 68 67) 7, vd (vm 69 68) 15, vd (gf 70 69 (.fa 5 (.t 8))) 31, vd (gf 71 69 (.ld false 1 (.t 70))) 63, vd (gf 72 69 (.fa 4 (.t 5))) 31, vd (gf 73 69 (.ld false 1 (.t 72))) 159, vd (gf 74 69 (.bin .i .gtr (.t 71) (.t 73))) 511, vd (vo 75 (.pick (.t 69) (cb true) (.t 74))) 1023, vd (vm 76 75) 2047, vd (gf 77 76 (.mv (.t 7))) 4095, vd (gf 78 76 (.bin .i .gtr (.t 77) (ci 0))) 8191, vd (gf 79 76 (.mv (.t 78))) 0x3fff, vd (gt 80 79 (.fa 2 (.t 5))) 0x7fff, vd (gt 81 79 (.ld false 1 (.t 80))) 0xffff, vd (gt 82 79 (.mv (.t 7))) 0x7fff, vd (gt 83 79 (.bin .i .sub (.t 82) (ci 1))) 0x27fff, vd (gt 84 79 (.ia 8 (.t 81) (.t 83))) 0x7ffff, vd (gt 85 79 (.fa 5 (.t 84))) 0xfffff, vd (gt 86 79 (.ld false 1 (.t 85))) 0x1fffff, vd (gt 87 79 (.fa 5 (.t 8))) 0x7fff, vd (gt 88 79 (.ld false 1 (.t 87))) 0x407fff, vd (gt 89 79 (.bin .i .geq (.t 86) (.t 88))) 0xffffff, vd (gf 90 76 (.pick (.t 79) (.t 89) (cb false))) 0x1ffffff, vd (vo 91 (.pick (.t 76) (cb true) (.t 90))) 0x3ffffff, vd (vm 92 91) 0x7ffffff, vd (gf 93 92 (.fa 6 (.t 8))) 0xfffffff, vd (gf 94 92 (.ld false 1 (.t 93))) 0x1fffffff, vd (gf 95 92 (.un .not (.t 94))) 0x3fffffff, vd (gf 96 92 (.mv (.t 95))) 0x7fffffff, vd (gt 97 96 (.mv (.t 7))) 0xffffffff, vd (gt 98 96 (.fa 2 (.t 5))) 0xffffffff, vd (gt 99 96 (.ld false 1 (.t 98))) 0x2ffffffff, vd (gt 100 96 (.len (.t 99))) 0x6ffffffff, vd (gt 101 96 (.bin .i .sub (.t 100) (ci 1))) 0xeffffffff, vd (gt 102 96 (.bin .i .lss (.t 97) (.t 101))) 0x1fffffffff, vd (gf 103 92 (.pick (.t 96) (.t 102) (cb false))) 0x3fffffffff, vd (vo 104 (.pick (.t 92) (cb true) (.t 103))) 0x7fffffffff, vd (vm 105 104) 0xffffffffff, vd (gf 106 105 (.fa 6 (.t 8))) 0x1ffffffffff, vd (gf 107 105 (.ld false 1 (.t 106))) 0x3ffffffffff, vd (gf 108 105 (.un .not (.t 107))) 0x7ffffffffff, vd (gf 109 105 (.mv (.t 108))) 0xfffffffffff, vd (gt 110 109 (.fa 1 (.t 5))) 0x1fffffffffff, vd (gt 111 109 (.ld false 1 (.t 110))) 0x3fffffffffff, vd (gt 112 109 (.bin .i .neq (.t 111) (ci 1))) 0x7fffffffffff, vd (gf 113 105 (.pick (.t 109) (.t 112) (cb false))) 0xffffffffffff, vd (vo 114 (.pick (.t 105) (cb true) (.t 113))) 0x1ffffffffffff]) (.cond (.t 114) (.seq (.reg [vo 6 (.mv (cb false))]) .ret) .skip)))) (.reg [bk 115 .add 60 1, vm 60 115])))))))) (.seq (.seq (.reg [vf 116 3 5, vs 117 116, ln 118 117, mi 119 0]) (.wk (.block 2 (.loop (.seq (.reg [bt 120 .lss 119 118]) (.seq (.cond (.t 120) .skip (.exit 2)) (.seq (.block 3 (.seq (.reg [vm 121 119, xa 122 1 117 119, vs 123 122, vm 9 121, vm 10 123]) (.seq (.reg [vm 124 10, bk 125 .lss 124 0, vm 126 125, gf 127 126 (.mv (.t 10)), gf 128 126 (.fa 0 (.t 3)), gf 129 126 (.ld false 1 (.t 128)), gf 130 126 (.bin .i .geq (.t 127) (.t 129)), vo 131 (.pick (.t 126) (cb true) (.t 130)), vm 132 131, gf 133 132 (.mv (.t 9)), gf 134 132 (.bin .i .gtr (.t 133) (ci 0)), gf 135 132 (.mv (.t 134)), gt 136 135 (.fa 3 (.t 5)), gt 137 135 (.ld false 1 (.t 136)), gt 138 135 (.mv (.t 9)), gt 139 135 (.bin .i .sub (.t 138) (ci 1)), gt 140 135 (.ia 1 (.t 137) (.t 139)), gt 141 135 (.ld false 1 (.t 140)), gt 142 135 (.mv (.t 10)), gt 143 135 (.bin .i .geq (.t 141) (.t 142)), gf 144 132 (.pick (.t 135) (.t 143) (cb false)), vo 145 (.pick (.t 132) (cb true) (.t 144))]) (.cond (.t 145) (.seq (.reg [vo 6 (.mv (cb false))]) .ret) .skip)))) (.reg [bk 146 .add 119 1, vm 119 146])))))))) (.seq (.reg [vf 147 1 5, vs 148 147, bk 149 .eql 148 3, vf 150 3 5, vs 151 150, ln 152 151, bk 153 .gtr 152 0, vo 154 (.bin .b .eql (.t 149) (.t 153)), vm 6 154]) .ret))))), [.t 6]⟩
theorem low55 : lowF Try.prog 55 = some F55.strip := by kernel_rfl
theorem fok55 : fOk Try.prog 55 = true := by kernel_rfl
theorem coord_job_ok (p0 : Config) (p1 : Desk) (p2 : Job) (r : Bool) (h : coord_job p0 p1 p2 = some r) : FnRO Try.prog G 55 [.agg p0.bx, .agg p1.bx, .agg p2.bx] (fun rs => rs = [.one (.b r)]) := by
 refine FnRO.of' low55 fok55 (by simp [F55]) ?_
 rw [coord_job] at h
 replace h := Hd.mk h
 simp only [F55, go_sem]
 refine oi h (fun hb1 h => ?_) (fun hb1 h => ?_)
 have := of_decide_eq_true hb1
 cases h.e
 simp only [*, go_sem, mA, mS]
 refine oi h (fun hb2 h => ?_) (fun hb2 h => ?_)
 cases h.e
 simp only [*, go_sem, mA, mS]
 refine oi h (fun hb3 h => ?_) (fun hb3 h => ?_)
 have := of_decide_eq_true hb3
 cases h.e
 simp only [*, go_sem, mA, mS]
 refine oi h (fun hb4 h => ?_) (fun hb4 h => ?_)
 cases h.e
 simp only [*, go_sem, mA, mS]
 refine oi h (fun hb5 h => ?_) (fun hb5 h => ?_)
 have := of_decide_eq_true hb5
 cases h.e
 simp only [*, go_sem, mA, mS]
 refine oi h (fun hb6 h => ?_) (fun hb6 h => ?_)
 cases h.e
 simp only [*, go_sem, mA, mS]
 try simp only [*, go_sem]
 intro hl7
 refine oi h (fun hb8 h => ?_) (fun hb8 h => ?_)
 cases h.e
 simp only [*, go_sem, mA, mS]
 refine oi h (fun hb9 h => ?_) (fun hb9 h => ?_)
 have := of_decide_eq_true hb9
 cases h.e
 simp only [*, go_sem, mA, mS]
 refine oi h (fun hb10 h => ?_) (fun hb10 h => ?_)
 cases h.e
 simp only [*, go_sem, mA, mS]
 try simp only [*, go_sem]
 intro hl11
 try simp only [*, go_sem]
 refine jn0 h ([zP 3 0, zP 5 1]) ([ox p0.bx, ox p2.bx]) (fun k13 h => ?_) (fun h => ?_)
 try simp only [*, go_sem]
 refine lp1 (coord_job_L1 p0 p2 k13) (fun a14_1 => [zP 3 0, zP 5 1, zL 58 8 (p2.Tasks.map Task.enc), zI 59 ((p2.Tasks.length : Nat) : Int), zI 60 ((a14_1 : Nat) : Int)]) (fun a14_1 => [ox p0.bx, ox p2.bx]) h [] [some 0, some 2] (fun n15 a14_1 h => ?_) (by intros; rw [coord_job_L1])
 rw [coord_job_L1] at h
 refine oi h (fun hb16 h => ?_) (fun hb16 h => ?_)
 have := of_decide_eq_true hb16
 refine obg h (fun x17 _ hkx17 h => ?_)
 refine obk h (fun v18 hv18 h => ?_)
 try simp only [*, go_sem]
 refine cd (coord_task_ok G p0 x17 v18 hv18) ?_
 refine oin h (fun hb19 hkhb19 h => ?_) (fun hb19 hkhb19 h => ?_)
 cases h.e
 simp only [*, go_sem, mA, mS]
 refine oi h (fun hb20 h => ?_) (fun hb20 h => ?_)
 cases h.e
 simp only [*, go_sem, mA, mS]
 refine oi h (fun hb21 h => ?_) (fun hb21 h => ?_)
 refine obn h (fun x22 _ _ _ _ h => ?_)
 refine oi h (fun hb24 h => ?_) (fun hb24 h => ?_)
 cases h.e
 simp only [*, go_sem, mA, mS]
 refine oin h (fun hb25 hkhb25 h => ?_) (fun hb25 hkhb25 h => ?_)
 refine oi h (fun hb26 h => ?_) (fun hb26 h => ?_)
 cases h.e
 simp only [*, go_sem, mA, mS]
 refine oi h (fun hb27 h => ?_) (fun hb27 h => ?_)
 cases h.e
 simp only [*, go_sem, mA, mS]
 have := wrap_succ_max hkx17 hl7
 try simp only [*, go_sem]
 exact lc (a14_1 + 1) h.e [some 0, some 1]
 have := wrap_succ_max hkx17 hl7
 try simp only [*, go_sem]
 exact lc (a14_1 + 1) h.e [some 0, some 1]
 refine oin h (fun hb30 hkhb30 h => ?_) (fun hb30 hkhb30 h => ?_)
 refine oi h (fun hb31 h => ?_) (fun hb31 h => ?_)
 cases h.e
 simp only [*, go_sem, mA, mS]
 refine oi h (fun hb32 h => ?_) (fun hb32 h => ?_)
 cases h.e
 simp only [*, go_sem, mA, mS]
 have := wrap_succ_max hkx17 hl7
 try simp only [*, go_sem]
 exact lc (a14_1 + 1) h.e [some 0, some 1]
 have := wrap_succ_max hkx17 hl7
 try simp only [*, go_sem]
 exact lc (a14_1 + 1) h.e [some 0, some 1]
 try simp only [*, go_sem]
 exact jc () h.e [some 0, some 1]
 try simp only [*, go_sem]
 intro hl35
 try simp only [*, go_sem]
 refine jn0 h ([zP 5 0]) ([ox p2.bx]) (fun k37 h => ?_) (fun h => ?_)
 try simp only [*, go_sem]
 refine lp1 (coord_job_L2 p0 p2 k37) (fun a38_1 => [zP 3 0, zP 5 1, zL 117 1 (p2.Asked.map encI), zI 118 ((p2.Asked.length : Nat) : Int), zI 119 ((a38_1 : Nat) : Int)]) (fun a38_1 => [ox p0.bx, ox p2.bx]) h [] [some 0, some 1] (fun n39 a38_1 h => ?_) (by intros; rw [coord_job_L2])
 rw [coord_job_L2] at h
 refine oi h (fun hb40 h => ?_) (fun hb40 h => ?_)
 have := of_decide_eq_true hb40
 refine obg h (fun x41 _ hkx41 h => ?_)
 refine oi h (fun hb42 h => ?_) (fun hb42 h => ?_)
 have := of_decide_eq_true hb42
 cases h.e
 simp only [*, go_sem, mA, mS]
 refine oi h (fun hb43 h => ?_) (fun hb43 h => ?_)
 cases h.e
 simp only [*, go_sem, mA, mS]
 refine oi h (fun hb44 h => ?_) (fun hb44 h => ?_)
 refine obn h (fun x45 _ _ _ _ h => ?_)
 refine oi h (fun hb47 h => ?_) (fun hb47 h => ?_)
 cases h.e
 simp only [*, go_sem, mA, mS]
 have := wrap_succ_max hkx41 hl35
 try simp only [*, go_sem]
 exact lc (a38_1 + 1) h.e [some 0, some 1]
 have := wrap_succ_max hkx41 hl35
 try simp only [*, go_sem]
 exact lc (a38_1 + 1) h.e [some 0, some 1]
 try simp only [*, go_sem]
 exact jc () h.e [some 1]
 try simp only [*, go_sem]
 intro hl50
 cases h.e
 simp only [*, go_sem, mA, mS]
def coord_Check_L1 (p0 : Config) (p1 : Desk) (k9 : Option (Int)) : Nat → Nat → Option (Int)
 | 0, _ => none
 | n11 + 1, a10_1 => (if (decide (a10_1 < p1.Jobs.length)) = true then (Option.bind (p1.Jobs[a10_1]?) fun x13 => (Option.bind (coord_job p0 p1 x13) fun v14 => (if (!v14) = true then (some 9) else (if (decide (((a10_1 : Nat) : Int) > 0)) = true then (if 0 ≤ IntKind.i64.wrap (((a10_1 : Nat) : Int) - 1) then (Option.bind (p1.Jobs[(IntKind.i64.wrap (((a10_1 : Nat) : Int) - 1)).toNat]?) fun x17 => (if (decide (x17.N ≥ x13.N)) = true then (some 9) else (coord_Check_L1 p0 p1 k9 n11 (a10_1 + 1)))) else none) else (coord_Check_L1 p0 p1 k9 n11 (a10_1 + 1)))))) else k9)
def coord_Check (p0 : Config) (p1 : Desk) : Option (Int) := (Option.bind (label_Check p0) fun v1 => (if (v1 != 0) = true then (some v1) else (if (decide (p1.Next < 1)) = true then (some 9) else (if (decide (p1.Next > 1048577)) = true then (some 9) else (if (decide (((p1.Jobs.length : Nat) : Int) > 6)) = true then (some 9) else (withK (some 0) fun k9 => (coord_Check_L1 p0 p1 k9 (p1.Jobs.length + 1) 0)))))))
def F36 : VFn := ⟨57, (.seq (.reg [vo 2 (.box 3 (.t 0)), vo 3 (.box 2 (.t 1)), mi 4 0]) (.seq (.seq (.reg [vl 8 3 2, vo 9 (.call 54 [(.t 8)]), vm 5 9]) (.seq (.reg [vm 10 5, bk 11 .neq 10 0]) (.cond (.t 11) (.seq (.reg [vm 12 5, vm 4 12]) .ret) .skip))) (.seq (.seq (.reg [vf 13 0 3, vs 14 13, bk 15 .lss 14 1, vm 16 15, gf 17 16 (.fa 0 (.t 3)), gf 18 16 (.ld false 1 (.t 17)), gf 19 16 (.bin .i .gtr (.t 18) (ci 1048577)), vo 20 (.pick (.t 16) (cb true) (.t 19)), vm 21 20, gf 22 21 (.fa 1 (.t 3)), gf 23 21 (.ld false 1 (.t 22)), gf 24 21 (.len (.t 23)), gf 25 21 (.bin .i .gtr (.t 24) (ci 6)), vo 26 (.pick (.t 21) (cb true) (.t 25))]) (.cond (.t 26) (.seq (.reg [mi 4 9]) .ret) .skip)) (.seq (.seq (.reg [vf 27 1 3, vs 28 27, ln 29 28, mi 30 0]) (.wk (.block 0 (.loop (.seq (.reg [bt 31 .lss 30 29]) (.seq (.cond (.t 31) .skip (.exit 0)) (.seq (.block 1 (.seq (.reg [vm 32 30, xa 33 6 28 30, vl 34 6 33, vo 7 (.alloc [(zi 0), (zi 0), (.nl 8), (.nl 1), (zi 0), (zi 0)]), vm 6 32, vu (.st 6 (.t 7) (.t 34))]) (.seq (.draw [vd (vl 35 3 2) 0, vd (vl 36 2 3) 0, vd (vl 37 6 7) 0, vd (vo 38 (.call 55 [(.t 35), (.t 36), (.t 37)])) 7, vd (nt 39 38) 15, vd (vm 40 39) 31, vd (gf 41 40 (.mv (.t 6))) 63, vd (gf 42 40 (.bin .i .gtr (.t 41) (ci 0))) 127, vd (gf 43 40 (.mv (.t 42))) 255, vd (gt 44 43 (.fa 1 (.t 3))) 511, vd (gt 45 43 (.ld false 1 (.t 44))) 1023, vd (gt 46 43 (.mv (.t 6))) 511, vd (gt 47 43 (.bin .i .sub (.t 46) (ci 1))) 2559, vd (gt 48 43 (.ia 6 (.t 45) (.t 47))) 8191, vd (gt 49 43 (.fa 0 (.t 48))) 0x3fff, vd (gt 50 43 (.ld false 1 (.t 49))) 0x7fff, vd (gt 51 43 (.fa 0 (.t 7))) 511, vd (gt 52 43 (.ld false 1 (.t 51))) 0x101ff, vd (gt 53 43 (.bin .i .geq (.t 50) (.t 52))) 0x3ffff, vd (gf 54 40 (.pick (.t 43) (.t 53) (cb false))) 0x7ffff, vd (vo 55 (.pick (.t 40) (cb true) (.t 54))) 0xfffff]) (.cond (.t 55) (.seq (.reg [mi 4 9]) .ret) .skip)))) (.reg [bk 56 .add 30 1, vm 30 56])))))))) (.seq (.reg [mi 4 0]) .ret))))), [.t 4]⟩
theorem low36 : lowF Try.prog 36 = some F36.strip := by kernel_rfl
theorem fok36 : fOk Try.prog 36 = true := by kernel_rfl
theorem coord_Check_ok (p0 : Config) (p1 : Desk) (r : Int) (h : coord_Check p0 p1 = some r) : FnRO Try.prog G 36 [.agg p0.bx, .agg p1.bx] (fun rs => rs = [.one (.i .i64 r)]) := by
 refine FnRO.of' low36 fok36 (by simp [F36]) ?_
 rw [coord_Check] at h
 replace h := Hd.mk h
 simp only [F36, go_sem]
 try simp only [*, go_sem]
 refine cr h (label_Check_ok G p0) (fun v1 h => ?_)
 refine oi h (fun hb2 h => ?_) (fun hb2 h => ?_)
 cases h.e
 simp only [*, go_sem, mA, mS]
 refine oi h (fun hb3 h => ?_) (fun hb3 h => ?_)
 have := of_decide_eq_true hb3
 cases h.e
 simp only [*, go_sem, mA, mS]
 refine oi h (fun hb4 h => ?_) (fun hb4 h => ?_)
 cases h.e
 simp only [*, go_sem, mA, mS]
 try simp only [*, go_sem]
 intro hl5
 refine oi h (fun hb6 h => ?_) (fun hb6 h => ?_)
 cases h.e
 simp only [*, go_sem, mA, mS]
 try simp only [*, go_sem]
 intro hl7
 try simp only [*, go_sem]
 refine jn0 h ([]) ([]) (fun k9 h => ?_) (fun h => ?_)
 try simp only [*, go_sem]
 refine lp1 (coord_Check_L1 p0 p1 k9) (fun a10_1 => [zP 2 0, zP 3 1, zL 28 6 (p1.Jobs.map Job.enc), zI 29 ((p1.Jobs.length : Nat) : Int), zI 30 ((a10_1 : Nat) : Int)]) (fun a10_1 => [ox p0.bx, ox p1.bx]) h [] [some 0, some 1] (fun n11 a10_1 h => ?_) (by intros; rw [coord_Check_L1])
 rw [coord_Check_L1] at h
 refine oi h (fun hb12 h => ?_) (fun hb12 h => ?_)
 have := of_decide_eq_true hb12
 refine obg h (fun x13 _ hkx13 h => ?_)
 refine obk h (fun v14 hv14 h => ?_)
 try simp only [*, go_sem]
 refine cd (coord_job_ok G p0 p1 x13 v14 hv14) ?_
 refine oin h (fun hb15 hkhb15 h => ?_) (fun hb15 hkhb15 h => ?_)
 cases h.e
 simp only [*, go_sem, mA, mS]
 refine oi h (fun hb16 h => ?_) (fun hb16 h => ?_)
 refine obn h (fun x17 _ _ _ _ h => ?_)
 refine oi h (fun hb19 h => ?_) (fun hb19 h => ?_)
 cases h.e
 simp only [*, go_sem, mA, mS]
 have := wrap_succ_max hkx13 hl5
 try simp only [*, go_sem]
 exact lc (a10_1 + 1) h.e [some 0, some 1]
 have := wrap_succ_max hkx13 hl5
 try simp only [*, go_sem]
 exact lc (a10_1 + 1) h.e [some 0, some 1]
 try simp only [*, go_sem]
 exact jc () h.e []
 cases h.e
 simp only [*, go_sem, mA, mS]
theorem low56 : lowF Try.prog 56 = some (cloneV 8 56 [(.d (.b false)), (zi 0), (zi 0), (zi 0), (zi 0), (zi 0), (.d (.b false)), (.d (.b false))]) := by kernel_rfl
theorem fok56 : fOk Try.prog 56 = true := by kernel_rfl
theorem clone56_ok (p0 r : List Task) (h : cloneF 56 p0 = some r) : FnRO Try.prog G 56 [.one (.d (.l 8 (p0.map Task.enc)))] (fun rs => rs = [.one (.o 8 (r.map Task.enc))]) := clone_ok low56 fok56 G Task.enc p0 r h
theorem low57 : lowF Try.prog 57 = some (cloneV 1 8 [(zi 0)]) := by kernel_rfl
theorem fok57 : fOk Try.prog 57 = true := by kernel_rfl
theorem clone57_ok (p0 r : List Int) (h : cloneF 8 p0 = some r) : FnRO Try.prog G 57 [.one (.d (.l 1 (p0.map encI)))] (fun rs => rs = [.one (.o 1 (r.map encI))]) := clone_ok low57 fok57 G encI p0 r h
def coord_own_L1 (p0 : Desk) (k3 : (List Job) → Option (Desk)) : Nat → Nat → (List Job) → Option (Desk)
 | 0, _, _ => none
 | n5 + 1, a4_1, a4_2 => (if (decide (a4_1 < p0.Jobs.length)) = true then (Option.bind (p0.Jobs[a4_1]?) fun x7 => (Option.bind (cloneF 56 x7.Tasks) fun v8 => (Option.bind (cloneF 8 x7.Asked) fun v9 => (withK (if fits 80 (a4_2.length + 1) then (coord_own_L1 p0 k3 n5 (a4_1 + 1) (a4_2 ++ [(Job.mk x7.N x7.State v8 v9 x7.Asks x7.Age)])) else none) fun k11 => k11)))) else (k3 a4_2))
def coord_own (p0 : Desk) : Option (Desk) := (withK (fun (b2_1 : List Job) => (some (Desk.mk p0.Next b2_1))) fun k3 => (coord_own_L1 p0 k3 (p0.Jobs.length + 1) 0 []))
def F37 : VFn := ⟨32, (.seq (.reg [vo 1 (.box 2 (.t 0)), vo 2 (.alloc [(zi 0), (.nl 6)])]) (.seq (.reg [vf 6 0 1, vs 7 6, vo 8 (.build [(zi 0), (.nl 6)] [(0, 1, (.t 7))]), vo 3 (.alloc [(zi 0), (.nl 6)]), vu (.st 2 (.t 3) (.t 8))]) (.seq (.seq (.reg [vf 9 1 1, vs 10 9, ln 11 10, mi 12 0]) (.wk (.block 0 (.loop (.seq (.reg [bt 13 .lss 12 11]) (.seq (.cond (.t 13) .skip (.exit 0)) (.seq (.block 1 (.seq (.reg [xa 14 6 10 12, vl 15 6 14, vo 5 (.alloc [(zi 0), (zi 0), (.nl 8), (.nl 1), (zi 0), (zi 0)]), vu (.st 6 (.t 5) (.t 15))]) (.seq (.draw [vd (vf 16 2 5) 0, vd (vs 17 16) 1, vd (vo 18 (.call 56 [(.t 17)])) 3, ⟨vf 19 3 5, 0, [2], none, []⟩, ⟨vs 20 19, 8, [2], none, []⟩, vd (vo 21 (.call 57 [(.t 20)])) 31, ⟨vf 22 2 5, 31, [5], none, []⟩, vd (vu (.st 1 (.t 22) (.t 18))) 127, vd (vf 23 3 5) 255, vd (vu (.st 1 (.t 23) (.t 21))) 511]) (.regs [[vf 24 1 3, vs 25 24, vl 26 6 5], [vo 27 (.bslw 6 1 [(zi 0), (zi 0), (.nl 8), (.nl 1), (zi 0), (zi 0)] [(0, (.t 26))]), vo 28 (.appw 6 80 (.t 25) (.t 27)), vf 29 1 3, vu (.st 1 (.t 29) (.t 28))]])))) (.reg [bk 30 .add 12 1, vm 12 30])))))))) (.seq (.reg [vl 31 2 3, vu (.st 2 (.t 2) (.t 31))]) .ret)))), [.cell 2 true 2]⟩
theorem low37 : lowF Try.prog 37 = some F37.strip := by kernel_rfl
theorem fok37 : fOk Try.prog 37 = true := by kernel_rfl
theorem coord_own_ok (p0 : Desk) (r : Desk) (h : coord_own p0 = some r) : FnRO Try.prog G 37 [.agg p0.bx] (fun rs => rs = [.agg [.i .i64 r.Next, .t 6 (r.Jobs.map Job.encO)]]) := by
 refine FnRO.same ?_
 refine FnRO.of' low37 fok37 (by simp [F37]) ?_
 rw [coord_own] at h
 replace h := Hd.mk h
 simp only [F37, go_sem]
 try simp only [*, go_sem]
 intro hl1
 try simp only [*, go_sem]
 refine jn1 h (fun b2_1 => [zP 2 0, zP 3 1]) (fun b2_1 => [ox [zi 0, .nl 6], ox [zi p0.Next, .r 2 0 b2_1.length], ot 6 (b2_1.map Job.encO)]) (fun k3 h => ?_) (fun b2_1 h => ?_)
 try simp only [*, go_sem]
 refine lp2 (coord_own_L1 p0 k3) (fun a4_1 a4_2 => [zP 2 0, zP 3 1, zL 10 6 (p0.Jobs.map Job.enc), zI 11 ((p0.Jobs.length : Nat) : Int), zI 12 ((a4_1 : Nat) : Int)]) (fun a4_1 a4_2 => [ox [zi 0, .nl 6], ox [zi p0.Next, .r 2 0 a4_2.length], ot 6 (a4_2.map Job.encO)]) h [] [some 1, some 2, none] (fun n5 a4_1 a4_2 h => ?_) (by intros; rw [coord_own_L1])
 rw [coord_own_L1] at h
 refine oi h (fun hb6 h => ?_) (fun hb6 h => ?_)
 have := of_decide_eq_true hb6
 refine obg h (fun x7 _ hkx7 h => ?_)
 refine obk h (fun v8 hv8 h => ?_)
 try simp only [*, go_sem]
 refine cd (clone56_ok G x7.Tasks v8 hv8) ?_
 refine obk h (fun v9 hv9 h => ?_)
 try simp only [*, go_sem]
 refine cd (clone57_ok G x7.Asked v9 hv9) ?_
 try simp only [*, go_sem]
 refine rg0 h ([zP 2 0, zP 3 1, zL 10 6 (p0.Jobs.map Job.enc), zI 11 ((p0.Jobs.length : Nat) : Int), zI 12 ((a4_1 : Nat) : Int), zR 25 2 0 a4_2.length, (26, .agg [zi x7.N, zi x7.State, .r 3 0 v8.length, .r 4 0 v9.length, zi x7.Asks, zi x7.Age])]) ([ox [zi 0, .nl 6], ox [zi p0.Next, .r 2 0 a4_2.length], ot 6 (a4_2.map Job.encO), oa 8 (v8.map Task.enc), oa 1 (v9.map encI)]) (fun k11 h => ?_) (fun h => ?_)
 try simp only [*, go_sem]
 exact jc () h.e [some 0, some 1, some 2, some 6, some 9]
 refine ck h (fun _ h => ?_)
 have := wrap_succ_max hkx7 hl1
 try simp only [*, go_sem]
 exact lc (a4_1 + 1, (a4_2 ++ [(Job.mk x7.N x7.State v8 v9 x7.Asks x7.Age)])) h.e [some 0, some 1, some 6]
 try simp only [*, go_sem]
 exact jc (a4_2) h.e [some 0, some 1, some 2]
 cases h.e
 simp only [*, go_sem, mA, mS]
def F14 : VFn := ⟨42, (.seq (.gho (.reg [vo 4 (.box 3 (.t 0)), vo 7 (.box 2 (.t 3)), vo 8 (.mv (.c (.one (.d .np)))), mi 9 0])) (.seq (.seq (.gho (.reg [vl 11 3 4, vl 12 2 7, vo 13 (.call 36 [(.t 11), (.t 12)]), vm 10 13])) (.seq (.gho (.reg [vm 14 10, bk 15 .neq 14 0])) (.cond (.t 15) (.seq (.gho (.reg [vm 16 10, vo 8 (.mv (.c (.one (.d .np)))), vm 9 16])) (.gho .ret)) .skip))) (.seq (.wk (.seq (.gho (.reg [vm 17 1, bk 18 .lss 17 0, vm 19 18, gf 20 19 (.mv (.t 1)), gf 21 19 (.fa 1 (.t 4)), gf 22 19 (.ld false 1 (.t 21)), gf 23 19 (.len (.t 22)), gf 24 19 (.bin .i .geq (.t 20) (.t 23)), vo 25 (.pick (.t 19) (cb true) (.t 24))])) (.cond (.t 25) (.seq (.gho (.reg [vo 8 (.mv (.c (.one (.d .np)))), mi 9 6])) (.gho .ret)) .skip))) (.seq (.wk (.seq (.gho (.reg [vm 26 2, bk 27 .lss 26 0, vm 28 27, gf 29 28 (.mv (.t 2)), gf 30 28 (.fa 0 (.t 4)), gf 31 28 (.ld false 1 (.t 30)), gf 32 28 (.bin .i .geq (.t 29) (.t 31)), vo 33 (.pick (.t 28) (cb true) (.t 32))])) (.cond (.t 33) (.seq (.gho (.reg [vo 8 (.mv (.c (.one (.d .np)))), mi 9 2])) (.gho .ret)) .skip))) (.seq (.gho (.draw [vd (vl 34 3 4) 0, vd (vm 35 1) 0, vd (vm 36 2) 0, vd (vl 37 2 7) 0, vd (vo 38 (.call 37 [(.t 37)])) 8, vd (vo 39 (.build [(zi 0), (.nl 6), (.nl 12), (.nl 8), (.nl 6), (zi 0), (zi 0)] [(0, 2, (.t 38))])) 24, vd (vo 40 (.build [(zi 0), (.nl 2), (zi 0), (zi 0), (zi 0), (zi 0), (.nl 6), (.nl 12), (.nl 8), (.nl 6), (zi 0), (zi 0)] [(0, 3, (.t 34)), (3, 1, (.t 35)), (4, 1, (.t 36)), (5, 7, (.t 39))])) 63, vd (vo 41 (.box 12 (.t 40))) 127, vd (vm 8 41) 255, vd (mi 9 0) 511])) (.gho .ret)))))), [.t 8, .t 9]⟩
theorem low14 : lowF Try.prog 14 = some F14.strip := by kernel_rfl
theorem fok14 : fOk Try.prog 14 = true := by kernel_rfl
def F28 : VFn := ⟨33, (.gho (.draw [vd (vm 12 0) 0, vd (vm 13 0) 0, vd (vo 14 (.nilchk (.t 13))) 2, vd (vf 15 5 14) 6, vd (vf 16 4 15) 14, vd (vs 17 16) 30, vd (vm 18 0) 0, vd (vo 19 (.nilchk (.t 18))) 64, vd (vf 20 4 19) 192, vd (vs 21 20) 448, vd (vm 22 1) 0, vd (vm 23 2) 0, vd (vm 24 3) 0, vd (vm 25 4) 0, vd (vm 26 5) 0, vd (vo 27 (.build [(zi 0), (zi 0), (zi 0), (zi 0), (zi 0), (zi 0)] [(0, 1, (.t 21)), (1, 1, (.t 22)), (2, 1, (.t 23)), (3, 1, (.t 24)), (4, 1, (.t 25)), (5, 1, (.t 26))])) 0x7fc0, vd (vo 28 (.bsl 6 1 [(zi 0), (zi 0), (zi 0), (zi 0), (zi 0), (zi 0)] [(0, (.t 27))])) 0xffc0, vd (vo 29 (.app 6 48 (.t 17) (.t 28))) 0x1fffe, vd (vo 30 (.nilchk (.t 12))) 0x3ffff, vd (vf 31 5 30) 0x7ffff, vd (vf 32 4 31) 0xfffff, vd (vu (.st 1 (.t 32) (.t 29))) 0x1fffff])), []⟩
theorem low28 : lowF Try.prog 28 = some F28.strip := by kernel_rfl
theorem fok28 : fOk Try.prog 28 = true := by kernel_rfl
def F46 : VFn := ⟨28, (.gho (.draw [vd (vm 8 0) 0, vd (vm 9 0) 0, vd (vo 10 (.nilchk (.t 9))) 2, vd (vf 11 5 10) 6, vd (vf 12 3 11) 14, vd (vs 13 12) 30, vd (vm 14 1) 0, vd (vm 15 0) 0, vd (vo 16 (.nilchk (.t 15))) 128, vd (vf 17 4 16) 384, vd (vs 18 17) 896, vd (vm 19 2) 0, vd (vo 20 (.build [(zi 0), (zi 0)] [(0, 1, (.t 18)), (1, 1, (.t 19))])) 3968, vd (vm 21 3) 0, vd (vo 22 (.build [(zi 0), (zi 0), (zi 0), (zi 0), (zi 0), (zi 0), (.d (.b false)), (.nl 1)] [(0, 1, (.t 14)), (1, 2, (.t 20)), (7, 1, (.t 21))])) 0x3fc0, vd (vo 23 (.bsl 8 1 [(zi 0), (zi 0), (zi 0), (zi 0), (zi 0), (zi 0), (.d (.b false)), (.nl 1)] [(0, (.t 22))])) 0x7fc0, vd (vo 24 (.app 8 80 (.t 13) (.t 23))) 0xfffe, vd (vo 25 (.nilchk (.t 8))) 0x1ffff, vd (vf 26 5 25) 0x3ffff, vd (vf 27 3 26) 0x7ffff, vd (vu (.st 1 (.t 27) (.t 24))) 0xfffff])), []⟩
theorem low46 : lowF Try.prog 46 = some F46.strip := by kernel_rfl
theorem fok46 : fOk Try.prog 46 = true := by kernel_rfl
def coord_work_begun (p0 : CoordWork) (p1 : Int) : Option (CoordWork) := (if (((p0.turn.Desk.Jobs.length : Nat) : Int) == 6) = true then (if fits 48 (p0.turn.Replies.length + 1) then (some (CoordWork.mk p0.c p0.l p0.me (Turn.mk p0.turn.Desk p0.turn.Messages p0.turn.Records (p0.turn.Replies ++ [(Reply.mk p0.me 1 0 0 0 8)]) p0.turn.Sure p0.turn.Committed))) else none) else (if (decide (p0.turn.Desk.Next > 1048576)) = true then (if fits 48 (p0.turn.Replies.length + 1) then (some (CoordWork.mk p0.c p0.l p0.me (Turn.mk p0.turn.Desk p0.turn.Messages p0.turn.Records (p0.turn.Replies ++ [(Reply.mk p0.me 1 0 0 0 8)]) p0.turn.Sure p0.turn.Committed))) else none) else (if (decide (p1 < 600)) = true then (if fits 48 (p0.turn.Replies.length + 1) then (some (CoordWork.mk p0.c p0.l p0.me (Turn.mk p0.turn.Desk p0.turn.Messages p0.turn.Records (p0.turn.Replies ++ [(Reply.mk p0.me 1 0 0 0 8)]) p0.turn.Sure p0.turn.Committed))) else none) else (withK (if fits 80 (p0.turn.Desk.Jobs.length + 1) then (if fits 80 (p0.turn.Records.length + 1) then (if fits 48 (p0.turn.Replies.length + 1) then (some (CoordWork.mk p0.c p0.l p0.me (Turn.mk (Desk.mk (IntKind.i64.wrap (p0.turn.Desk.Next + 1)) (p0.turn.Desk.Jobs ++ [(Job.mk p0.turn.Desk.Next 1 [] [] 0 0)])) p0.turn.Messages (p0.turn.Records ++ [(Record.mk 5 (Txn.mk p0.me p0.turn.Desk.Next) 0 0 0 false [])]) (p0.turn.Replies ++ [(Reply.mk p0.me 1 p0.turn.Desk.Next 0 0 0)]) p0.turn.Sure p0.turn.Committed))) else none) else none) else none) fun k9 => k9))))
def F26 : VFn := ⟨57, (.seq (.reg [vm 6 0, vo 7 (.nilchk (.t 6)), vf 8 5 7, vf 9 0 8, vm 4 9]) (.seq (.seq (.reg [vm 10 4, vo 11 (.nilchk (.t 10)), vf 12 1 11, vs 13 12, ln 14 13, bk 15 .eql 14 6, vm 16 15, gf 17 16 (.mv (.t 4)), gf 18 16 (.nilchk (.t 17)), gf 19 16 (.fa 0 (.t 18)), gf 20 16 (.ld false 1 (.t 19)), gf 21 16 (.bin .i .gtr (.t 20) (ci 1048576)), vo 22 (.pick (.t 16) (cb true) (.t 21)), vm 23 22, gf 24 23 (.mv (.t 1)), gf 25 23 (.bin .i .lss (.t 24) (ci 600)), vo 26 (.pick (.t 23) (cb true) (.t 25))]) (.cond (.t 26) (.seq (.reg [vm 27 0, vo 28 (.call 28 [(.t 27), (ci 1), (ci 0), (ci 0), (ci 0), (ci 8)])]) .ret) .skip)) (.seq (.reg [vm 29 4, vo 30 (.nilchk (.t 29)), vf 31 0 30, vs 32 31, vm 5 32]) (.seq (.reg [vm 33 4, vo 34 (.nilchk (.t 33)), vf 35 0 34, vs 36 35, bk 37 .add 36 1, vo 38 (.nilchk (.t 33)), vf 39 0 38, vu (.st 1 (.t 39) (.t 37))]) (.seq (.regs [[vm 40 4, vm 41 4, vo 42 (.nilchk (.t 41)), vf 43 1 42, vs 44 43, vm 45 5, vo 46 (.build [(zi 0), (zi 0), (.nl 8), (.nl 1), (zi 0), (zi 0)] [(0, 1, (.t 45)), (1, 1, (ci 1))])], [vo 47 (.bslw 6 1 [(zi 0), (zi 0), (.nl 8), (.nl 1), (zi 0), (zi 0)] [(0, (.t 46))]), vo 48 (.appw 6 80 (.t 44) (.t 47)), vo 49 (.nilchk (.t 40)), vf 50 1 49, vu (.st 1 (.t 50) (.t 48))]]) (.seq (.reg [vm 51 0, vm 52 5, vo 53 (.call 46 [(.t 51), (ci 5), (.t 52), (.c (.one (.nl 1)))])]) (.reg [vm 54 0, vm 55 5, vo 56 (.call 28 [(.t 54), (ci 1), (.t 55), (ci 0), (ci 0), (ci 0)])]))))))), []⟩
theorem low26 : lowF Try.prog 26 = some F26.strip := by kernel_rfl
theorem fok26 : fOk Try.prog 26 = true := by kernel_rfl
theorem coord_work_begun_ok (p0 : CoordWork) (p1 : Int) (r : CoordWork) (h : coord_work_begun p0 p1 = some r) : FnX Try.prog G 26 [ptrX, .one (.d (.i .i64 p1))] [.i .i64 p0.c.Sites, .l 2 (p0.c.Labels.map Label.enc), .i .i64 p0.c.Patience, .i .i64 p0.l, .i .i64 p0.me, .i .i64 p0.turn.Desk.Next, .t 6 (p0.turn.Desk.Jobs.map Job.encO), .o 12 (p0.turn.Messages.map Message.enc), .o 8 (p0.turn.Records.map Record.enc), .o 6 (p0.turn.Replies.map Reply.enc), .i .i64 p0.turn.Sure, .i .i64 p0.turn.Committed] (fun c rs => c = [.i .i64 r.c.Sites, .l 2 (r.c.Labels.map Label.enc), .i .i64 r.c.Patience, .i .i64 r.l, .i .i64 r.me, .i .i64 r.turn.Desk.Next, .t 6 (r.turn.Desk.Jobs.map Job.encO), .o 12 (r.turn.Messages.map Message.enc), .o 8 (r.turn.Records.map Record.enc), .o 6 (r.turn.Replies.map Reply.enc), .i .i64 r.turn.Sure, .i .i64 r.turn.Committed] ∧ rs = []) := by
 refine FnX.of [0, 1, 0, 0, 0, 0, 2] low26 fok26 (by exact Nat.le_of_ble_eq_true rfl) (by exact Nat.le_of_ble_eq_true rfl) ?_
 rw [coord_work_begun] at h
 replace h := Hd.mk h
 simp only [F26, go_sem]
 try simp only [*, go_sem]
 intro hl1
 refine oi h (fun hb2 h => ?_) (fun hb2 h => ?_)
 try simp only [*, go_sem]
 refine cx low28 fok28 ?_
 simp only [*, F28, go_sem]
 try simp only [*, go_sem]
 refine gho_lk _ G _ _ [] ?_
 try simp only [*, go_sem]
 refine ck h (fun _ h => ?_)
 cases h.e
 try simp only [*, go_sem]
 refine eti [] ?_
 simp only [*, go_sem, mA, mS]
 refine oi h (fun hb4 h => ?_) (fun hb4 h => ?_)
 try simp only [*, go_sem]
 refine cx low28 fok28 ?_
 simp only [*, F28, go_sem]
 try simp only [*, go_sem]
 refine gho_lk _ G _ _ [] ?_
 try simp only [*, go_sem]
 refine ck h (fun _ h => ?_)
 cases h.e
 try simp only [*, go_sem]
 refine eti [] ?_
 simp only [*, go_sem, mA, mS]
 refine oi h (fun hb6 h => ?_) (fun hb6 h => ?_)
 have := of_decide_eq_true hb6
 try simp only [*, go_sem]
 refine cx low28 fok28 ?_
 simp only [*, F28, go_sem]
 try simp only [*, go_sem]
 refine gho_lk _ G _ _ [] ?_
 try simp only [*, go_sem]
 refine ck h (fun _ h => ?_)
 cases h.e
 try simp only [*, go_sem]
 refine eti [] ?_
 simp only [*, go_sem, mA, mS]
 try simp only [*, go_sem]
 refine rg0 h ([zP 0 0, zI 5 p0.turn.Desk.Next, (40, .one (.p (.q 0 0 5))), zR 44 1 0 p0.turn.Desk.Jobs.length, (46, .agg [zi p0.turn.Desk.Next, zi 1, .nl 8, .nl 1, zi 0, zi 0]), zP 1000000 0]) ([ox [zi p0.c.Sites, .d (.l 2 (p0.c.Labels.map Label.enc)), zi p0.c.Patience, zi p0.l, zi p0.me, .d (.i .i64 (IntKind.i64.wrap (p0.turn.Desk.Next + 1))), .r 1 0 p0.turn.Desk.Jobs.length, .r 2 0 p0.turn.Messages.length, .r 3 0 p0.turn.Records.length, .r 4 0 p0.turn.Replies.length, zi p0.turn.Sure, zi p0.turn.Committed], ot 6 (p0.turn.Desk.Jobs.map Job.encO), oa 12 (p0.turn.Messages.map Message.enc), oa 8 (p0.turn.Records.map Record.enc), oa 6 (p0.turn.Replies.map Reply.enc)]) (fun k9 h => ?_) (fun h => ?_)
 try simp only [*, go_sem]
 exact jc () h.e [some 0, some 1, some 2, some 3, some 4]
 refine ck h (fun _ h => ?_)
 try simp only [*, go_sem]
 refine cx low46 fok46 ?_
 simp only [*, F46, go_sem]
 try simp only [*, go_sem]
 refine gho_lk _ G _ _ [] ?_
 try simp only [*, go_sem]
 refine ck h (fun _ h => ?_)
 try simp only [*, go_sem]
 refine cx low28 fok28 ?_
 simp only [*, F28, go_sem]
 try simp only [*, go_sem]
 refine gho_lk _ G _ _ [] ?_
 try simp only [*, go_sem]
 refine ck h (fun _ h => ?_)
 cases h.e
 try simp only [*, go_sem]
 refine etn [] ?_
 simp only [*, go_sem, mA, mS]
def coord_work_place_1 (p0 : Job) (p1 : Int) : Option (Bool) := (some (p0.N == p1))
def F39 : VFn := ⟨8, (.seq (.reg [vo 2 (.box 6 (.t 0)), vo 3 (.mv (cb false))]) (.seq (.reg [vf 4 0 2, vs 5 4, vs 6 1, bt 7 .eql 5 6, vm 3 7]) .ret)), [.t 3]⟩
theorem low39 : lowF Try.prog 39 = some F39.strip := by kernel_rfl
theorem fok39 : fOk Try.prog 39 = true := by kernel_rfl
theorem coord_work_place_1_ok (p0 : Job) (p1 : Int) (r : Bool) (h : coord_work_place_1 p0 p1 = some r) : FnRO Try.prog G 39 [.agg p0.bx, .one (.d (.k [.i .i64 p1]))] (fun rs => rs = [.one (.b r)]) := by
 refine FnRO.of' low39 fok39 (by simp [F39]) ?_
 rw [coord_work_place_1] at h
 replace h := Hd.mk h
 simp only [F39, go_sem]
 cases h.e
 simp only [*, go_sem, mA, mS]
def slices_IndexFunc_Job_L1 (p0 : List Job) (p1 : Job → Option (Bool)) (k3 : Option (Int)) : Nat → Nat → Option (Int)
 | 0, _ => none
 | n5 + 1, a4_1 => (if (decide (a4_1 < p0.length)) = true then (Option.bind (p0[a4_1]?) fun x7 => (Option.bind (p1 x7) fun v8 => (if v8 = true then (some ((a4_1 : Nat) : Int)) else (slices_IndexFunc_Job_L1 p0 p1 k3 n5 (a4_1 + 1))))) else k3)
def slices_IndexFunc_Job (p0 : List Job) (p1 : Job → Option (Bool)) : Option (Int) := (withK (some (-1)) fun k3 => (slices_IndexFunc_Job_L1 p0 p1 k3 (p0.length + 1) 0))
def F38 : VFn := ⟨19, (.seq (.reg [mi 4 0]) (.seq (.seq (.reg [vm 6 0, ln 7 6, mi 8 0]) (.wk (.block 0 (.loop (.seq (.reg [bt 9 .lss 8 7]) (.seq (.cond (.t 9) .skip (.exit 0)) (.seq (.block 1 (.seq (.reg [vm 10 8, vm 5 10]) (.seq (.reg [vm 11 1, vm 12 0, vm 13 5, xa 14 6 12 13, vl 15 6 14, vo 16 (.callv (.t 11) [(.t 15)])]) (.cond (.t 16) (.seq (.reg [vm 17 5, vm 4 17]) .ret) .skip)))) (.reg [bk 18 .add 8 1, vm 8 18])))))))) (.seq (.reg [mi 4 (-1)]) .ret))), [.t 4]⟩
theorem low38 : lowF Try.prog 38 = some F38.strip := by kernel_rfl
theorem fok38 : fOk Try.prog 38 = true := by kernel_rfl
theorem slices_IndexFunc_Job_ok (p0 : List Job) (p1 : Job → Option (Bool)) (g_p1 : Nat) (c_p1 : List D) (h_p1 : ∀ (x0 : Job) (r : Bool), p1 x0 = some r → FnRO Try.prog G g_p1 ([.agg [.d (.i .i64 x0.N), .d (.i .i64 x0.State), .d (.l 8 (x0.Tasks.map Task.enc)), .d (.l 1 (x0.Asked.map encI)), .d (.i .i64 x0.Asks), .d (.i .i64 x0.Age)]] ++ c_p1.map fun d => .one (.d d)) (fun rs => rs = [.one (.b r)])) (r : Int) (h : slices_IndexFunc_Job p0 p1 = some r) : FnRO Try.prog G 38 [.one (.d (.l 6 (p0.map Job.enc))), .one (.d (.f g_p1 c_p1))] (fun rs => rs = [.one (.i .i64 r)]) := by
 refine FnRO.of' low38 fok38 (by simp [F38]) ?_
 rw [slices_IndexFunc_Job] at h
 replace h := Hd.mk h
 simp only [F38, go_sem]
 try simp only [*, go_sem]
 intro hl1
 try simp only [*, go_sem]
 refine jn0 h ([]) ([]) (fun k3 h => ?_) (fun h => ?_)
 try simp only [*, go_sem]
 refine lp1 (slices_IndexFunc_Job_L1 p0 p1 k3) (fun a4_1 => [zL 0 6 (p0.map Job.enc), (1, .one (.d (.f g_p1 c_p1))), zI 7 ((p0.length : Nat) : Int), zI 8 ((a4_1 : Nat) : Int)]) (fun a4_1 => []) h [] [] (fun n5 a4_1 h => ?_) (by intros; rw [slices_IndexFunc_Job_L1])
 rw [slices_IndexFunc_Job_L1] at h
 refine oi h (fun hb6 h => ?_) (fun hb6 h => ?_)
 have := of_decide_eq_true hb6
 refine obg h (fun x7 _ hkx7 h => ?_)
 try simp only [*, go_sem]
 refine cr h (h_p1 x7) (fun v8 h => ?_)
 refine oi h (fun hb9 h => ?_) (fun hb9 h => ?_)
 cases h.e
 simp only [*, go_sem, mA, mS]
 have := wrap_succ_max hkx7 hl1
 try simp only [*, go_sem]
 exact lc (a4_1 + 1) h.e []
 try simp only [*, go_sem]
 exact jc () h.e []
 cases h.e
 simp only [*, go_sem, mA, mS]
def coord_work_place (p0 : CoordWork) (p1 : Int) : Option (Int) := (Option.bind (slices_IndexFunc_Job p0.turn.Desk.Jobs (fun y1 => coord_work_place_1 y1 p1)) fun v2 => (some v2))
def F15 : VFn := ⟨13, (.seq (.reg [vo 3 (.box 1 (.t 1)), mi 4 0]) (.seq (.reg [vm 5 0, vo 6 (.nilchk (.t 5)), vf 7 5 6, vf 8 0 7, vf 9 1 8, vs 10 9, vo 11 (.mkf 39 [(.t 3)]), vo 12 (.call 38 [(.t 10), (.t 11)]), vm 4 12]) .ret)), [.t 4]⟩
theorem low15 : lowF Try.prog 15 = some F15.strip := by kernel_rfl
theorem fok15 : fOk Try.prog 15 = true := by kernel_rfl
theorem coord_work_place_ok (p0 : CoordWork) (p1 : Int) (r : Int) (h : coord_work_place p0 p1 = some r) : FnRO Try.prog G 15 [.one (.d (.k (CoordWork.enc p0))), .one (.d (.i .i64 p1))] (fun rs => rs = [.one (.i .i64 r)]) := by
 refine FnRO.of' low15 fok15 (by simp [F15]) ?_
 rw [coord_work_place] at h
 replace h := Hd.mk h
 simp only [F15, go_sem]
 try simp only [*, go_sem]
 refine cl h (slices_IndexFunc_Job_ok G p0.turn.Desk.Jobs (fun y1 => coord_work_place_1 y1 p1) 39 [.k [.i .i64 p1]] (fun y1 r h => coord_work_place_1_ok G y1 p1 r h)) (fun v2 h => ?_)
 cases h.e
 simp only [*, go_sem, mA, mS]
def label_Above (p0 : Label) (p1 : Label) : Option (Bool) := (withK (fun (b1_1 : Bool) => (some b1_1)) fun k2 => (if (decide (p0.Level ≥ p1.Level)) = true then (k2 (bitOp .i64 (· &&& ·) p0.Cats p1.Cats == p1.Cats)) else (k2 false)))
def F47 : VFn := ⟨20, (.seq (.reg [vo 2 (.boxk 2 (.t 0)), vo 3 (.boxk 2 (.t 1)), vo 4 (.mv (cb false))]) (.seq (.wk (.reg [vf 5 0 2, vs 6 5, vf 7 0 3, vs 8 7, bt 9 .geq 6 8, vm 10 9, gt 11 10 (.fa 1 (.t 2)), gt 12 10 (.ld false 1 (.t 11)), gt 13 10 (.fa 1 (.t 3)), gt 14 10 (.ld false 1 (.t 13)), gt 15 10 (.bin .i .and (.t 12) (.t 14)), gt 16 10 (.fa 1 (.t 3)), gt 17 10 (.ld false 1 (.t 16)), gt 18 10 (.bin .i .eql (.t 15) (.t 17)), vo 19 (.pick (.t 10) (.t 18) (cb false)), vm 4 19])) .ret)), [.t 4]⟩
theorem low47 : lowF Try.prog 47 = some F47.strip := by kernel_rfl
theorem fok47 : fOk Try.prog 47 = true := by kernel_rfl
theorem label_Above_ok (p0 : Label) (p1 : Label) (r : Bool) (h : label_Above p0 p1 = some r) : FnRO Try.prog G 47 [.agg p0.bx, .agg p1.bx] (fun rs => rs = [.one (.b r)]) := by
 refine FnRO.of' low47 fok47 (by simp [F47]) ?_
 rw [label_Above] at h
 replace h := Hd.mk h
 simp only [F47, go_sem]
 try simp only [*, go_sem]
 refine jn1 h (fun b1_1 => [zB 4 b1_1]) (fun b1_1 => []) (fun k2 h => ?_) (fun b1_1 h => ?_)
 refine oi h (fun hb3 h => ?_) (fun hb3 h => ?_)
 try simp only [*, go_sem]
 exact jc (bitOp .i64 (· &&& ·) p0.Cats p1.Cats == p1.Cats) h.e []
 try simp only [*, go_sem]
 exact jc (false) h.e []
 cases h.e
 simp only [*, go_sem, mA, mS]
def coord_work_refuse (p0 : CoordWork) (p1 : Call) : Option (Int) := (Option.bind (coord_work_place p0 p1.N) fun v1 => (if (decide (v1 < 0)) = true then (some 6) else (if 0 ≤ v1 then (Option.bind (p0.turn.Desk.Jobs[v1.toNat]?) fun x3 => (if (x3.State != 1) = true then (some 13) else (if (decide (((x3.Tasks.length : Nat) : Int) > 0)) = true then (if 0 ≤ IntKind.i64.wrap (((x3.Tasks.length : Nat) : Int) - 1) then (Option.bind (x3.Tasks[(IntKind.i64.wrap (((x3.Tasks.length : Nat) : Int) - 1)).toNat]?) fun x9 => (if (!x9.Done) = true then (some 14) else (if (p1.Kind != 2) = true then (if (p1.Kind != 3) = true then (some 0) else (if (decide (p1.Key < 0)) = true then (some 2) else (if (decide (p1.Key ≥ 8)) = true then (some 2) else (if (decide (p1.Value < 0)) = true then (some 2) else (if (decide (p1.Value > 1073741824)) = true then (some 2) else (if (p1.Kind == 2) = true then (if (decide (p1.Label < 0)) = true then (some 10) else (if (decide (p1.Label ≥ ((p0.c.Labels.length : Nat) : Int))) = true then (some 10) else (if 0 ≤ p0.l then (Option.bind (p0.c.Labels[p0.l.toNat]?) fun x21 => (if 0 ≤ p1.Label then (Option.bind (p0.c.Labels[p1.Label.toNat]?) fun x23 => (Option.bind (label_Above x21 x23) fun v25 => (if (!v25) = true then (some 10) else (if (((x3.Tasks.length : Nat) : Int) == 10) = true then (some 8) else (if (x3.Asks == 1048576) = true then (some 8) else (some 0)))))) else none)) else none))) else (if (((x3.Tasks.length : Nat) : Int) == 10) = true then (some 8) else (if (x3.Asks == 1048576) = true then (some 8) else (some 0))))))))) else (if (decide (p1.Key < 0)) = true then (some 2) else (if (decide (p1.Key ≥ 8)) = true then (some 2) else (if (decide (p1.Value < 0)) = true then (some 2) else (if (decide (p1.Value > 1073741824)) = true then (some 2) else (if (p1.Kind == 2) = true then (if (decide (p1.Label < 0)) = true then (some 10) else (if (decide (p1.Label ≥ ((p0.c.Labels.length : Nat) : Int))) = true then (some 10) else (if 0 ≤ p0.l then (Option.bind (p0.c.Labels[p0.l.toNat]?) fun x40 => (if 0 ≤ p1.Label then (Option.bind (p0.c.Labels[p1.Label.toNat]?) fun x42 => (Option.bind (label_Above x40 x42) fun v44 => (if (!v44) = true then (some 10) else (if (((x3.Tasks.length : Nat) : Int) == 10) = true then (some 8) else (if (x3.Asks == 1048576) = true then (some 8) else (some 0)))))) else none)) else none))) else (if (((x3.Tasks.length : Nat) : Int) == 10) = true then (some 8) else (if (x3.Asks == 1048576) = true then (some 8) else (some 0))))))))))) else none) else (if (p1.Kind != 2) = true then (if (p1.Kind != 3) = true then (some 0) else (if (decide (p1.Key < 0)) = true then (some 2) else (if (decide (p1.Key ≥ 8)) = true then (some 2) else (if (decide (p1.Value < 0)) = true then (some 2) else (if (decide (p1.Value > 1073741824)) = true then (some 2) else (if (p1.Kind == 2) = true then (if (decide (p1.Label < 0)) = true then (some 10) else (if (decide (p1.Label ≥ ((p0.c.Labels.length : Nat) : Int))) = true then (some 10) else (if 0 ≤ p0.l then (Option.bind (p0.c.Labels[p0.l.toNat]?) fun x61 => (if 0 ≤ p1.Label then (Option.bind (p0.c.Labels[p1.Label.toNat]?) fun x63 => (Option.bind (label_Above x61 x63) fun v65 => (if (!v65) = true then (some 10) else (if (((x3.Tasks.length : Nat) : Int) == 10) = true then (some 8) else (if (x3.Asks == 1048576) = true then (some 8) else (some 0)))))) else none)) else none))) else (if (((x3.Tasks.length : Nat) : Int) == 10) = true then (some 8) else (if (x3.Asks == 1048576) = true then (some 8) else (some 0))))))))) else (if (decide (p1.Key < 0)) = true then (some 2) else (if (decide (p1.Key ≥ 8)) = true then (some 2) else (if (decide (p1.Value < 0)) = true then (some 2) else (if (decide (p1.Value > 1073741824)) = true then (some 2) else (if (p1.Kind == 2) = true then (if (decide (p1.Label < 0)) = true then (some 10) else (if (decide (p1.Label ≥ ((p0.c.Labels.length : Nat) : Int))) = true then (some 10) else (if 0 ≤ p0.l then (Option.bind (p0.c.Labels[p0.l.toNat]?) fun x80 => (if 0 ≤ p1.Label then (Option.bind (p0.c.Labels[p1.Label.toNat]?) fun x82 => (Option.bind (label_Above x80 x82) fun v84 => (if (!v84) = true then (some 10) else (if (((x3.Tasks.length : Nat) : Int) == 10) = true then (some 8) else (if (x3.Asks == 1048576) = true then (some 8) else (some 0)))))) else none)) else none))) else (if (((x3.Tasks.length : Nat) : Int) == 10) = true then (some 8) else (if (x3.Asks == 1048576) = true then (some 8) else (some 0)))))))))))) else none)))
def F27 : VFn := ⟨125, (.seq (.reg [vo 3 (.boxk 5 (.t 1)), mi 4 0]) (.seq (.reg [vm 7 0, vf 8 1 3, vs 9 8, vo 10 (.call 15 [(.t 7), (.t 9)]), vm 5 10]) (.seq (.seq (.reg [vm 11 5, bk 12 .lss 11 0]) (.cond (.t 12) (.seq (.reg [mi 4 6]) .ret) .skip)) (.seq (.reg [vm 13 0, vo 14 (.nilchk (.t 13)), vf 15 5 14, vf 16 0 15, vf 17 1 16, vs 18 17, vm 19 5, xa 20 6 18 19, vl 21 6 20, vo 6 (.alloc [(zi 0), (zi 0), (.nl 8), (.nl 1), (zi 0), (zi 0)]), vu (.st 6 (.t 6) (.t 21))]) (.seq (.block 0 (.seq (.reg [vf 23 1 6, vs 24 23, bk 25 .neq 24 1, vm 22 25]) (.cond (.t 22) (.seq (.reg [mi 4 13]) .ret) (.seq (.reg [vf 27 2 6, vs 28 27, ln 29 28, bk 30 .gtr 29 0, vm 31 30, gt 32 31 (.fa 2 (.t 6)), gt 33 31 (.ld false 1 (.t 32)), gt 34 31 (.fa 2 (.t 6)), gt 35 31 (.ld false 1 (.t 34)), gt 36 31 (.len (.t 35)), gt 37 31 (.bin .i .sub (.t 36) (ci 1)), gt 38 31 (.ia 8 (.t 33) (.t 37)), gt 39 31 (.fa 6 (.t 38)), gt 40 31 (.ld false 1 (.t 39)), gt 41 31 (.un .not (.t 40)), vo 42 (.pick (.t 31) (.t 41) (cb false)), vm 26 42]) (.cond (.t 26) (.seq (.reg [mi 4 14]) .ret) (.seq (.reg [vf 44 0 3, vs 45 44, bk 46 .neq 45 2, vm 47 46, gt 48 47 (.fa 0 (.t 3)), gt 49 47 (.ld false 1 (.t 48)), gt 50 47 (.bin .i .neq (.t 49) (ci 3)), vo 51 (.pick (.t 47) (.t 50) (cb false)), vm 43 51]) (.cond (.t 43) (.seq (.reg [mi 4 0]) .ret) (.seq (.reg [vf 53 3 3, vs 54 53, bk 55 .lss 54 0, vm 56 55, gf 57 56 (.fa 3 (.t 3)), gf 58 56 (.ld false 1 (.t 57)), gf 59 56 (.bin .i .geq (.t 58) (ci 8)), vo 60 (.pick (.t 56) (cb true) (.t 59)), vm 61 60, gf 62 61 (.fa 4 (.t 3)), gf 63 61 (.ld false 1 (.t 62)), gf 64 61 (.bin .i .lss (.t 63) (ci 0)), vo 65 (.pick (.t 61) (cb true) (.t 64)), vm 66 65, gf 67 66 (.fa 4 (.t 3)), gf 68 66 (.ld false 1 (.t 67)), gf 69 66 (.bin .i .gtr (.t 68) (ci 1073741824)), vo 70 (.pick (.t 66) (cb true) (.t 69)), vm 52 70]) (.cond (.t 52) (.seq (.reg [mi 4 2]) .ret) (.seq (.draw [vd (vf 72 0 3) 0, vd (vs 73 72) 1, vd (bk 74 .eql 73 2) 3, vd (vm 75 74) 7, vd (gt 76 75 (.fa 2 (.t 3))) 15, vd (gt 77 75 (.ld false 1 (.t 76))) 31, vd (gt 78 75 (.bin .i .lss (.t 77) (ci 0))) 63, vd (gt 79 75 (.mv (.t 78))) 127, vd (gf 80 79 (.fa 2 (.t 3))) 255, vd (gf 81 79 (.ld false 1 (.t 80))) 511, vd (gf 82 79 (.mv (.t 0))) 255, vd (gf 83 79 (.nilchk (.t 82))) 1279, vd (gf 84 79 (.fa 0 (.t 83))) 3327, vd (gf 85 79 (.fa 1 (.t 84))) 7423, vd (gf 86 79 (.ld false 1 (.t 85))) 0x3cff, vd (gf 87 79 (.len (.t 86))) 0x7cff, vd (gf 88 79 (.bin .i .geq (.t 81) (.t 87))) 0xffff, vd (gt 89 75 (.pick (.t 79) (cb true) (.t 88))) 0x1ffff, vd (gt 90 75 (.mv (.t 89))) 0x3ffff, vd (gf 91 90 (.mv (.t 0))) 0x7ffff, vd (gf 92 90 (.nilchk (.t 91))) 0xfffff, vd (gf 93 90 (.fa 0 (.t 92))) 0x1fffff, vd (gf 94 90 (.fa 1 (.t 93))) 0x3fffff, vd (gf 95 90 (.ld false 1 (.t 94))) 0x7fffff, vd (gf 96 90 (.mv (.t 0))) 0x7ffff, vd (gf 97 90 (.nilchk (.t 96))) 0x107ffff, vd (gf 98 90 (.fa 3 (.t 97))) 0x307ffff, vd (gf 99 90 (.ld false 1 (.t 98))) 0x707ffff, vd (gf 100 90 (.ia 2 (.t 95) (.t 99))) 0xfffffff, vd (gf 101 90 (.ld true 2 (.t 100))) 0x1fffffff, vd (gf 102 90 (.mv (.t 0))) 0x7ffff, vd (gf 103 90 (.nilchk (.t 102))) 0x4007ffff, vd (gf 104 90 (.fa 0 (.t 103))) 0xc007ffff, vd (gf 105 90 (.fa 1 (.t 104))) 0x1c007ffff, vd (gf 106 90 (.ld false 1 (.t 105))) 0x3c007ffff, vd (gf 107 90 (.fa 2 (.t 3))) 0x7ffff, vd (gf 108 90 (.ld false 1 (.t 107))) 0x80007ffff, vd (gf 109 90 (.ia 2 (.t 106) (.t 108))) 0x1fc007ffff, vd (gf 110 90 (.ld true 2 (.t 109))) 0x3fc007ffff, vd (gf 111 90 (.call 47 [(.t 101), (.t 110)])) 0x7fffffffff, vd (gf 112 90 (.un .not (.t 111))) 0xffffffffff, vd (gt 113 75 (.pick (.t 90) (cb true) (.t 112))) 0x1ffffffffff, vd (vo 114 (.pick (.t 75) (.t 113) (cb false))) 0x3ffffffffff, vd (vm 71 114) 0x7ffffffffff]) (.cond (.t 71) (.seq (.reg [mi 4 10]) .ret) (.seq (.reg [vf 116 2 6, vs 117 116, ln 118 117, bk 119 .eql 118 10, vm 120 119, gf 121 120 (.fa 4 (.t 6)), gf 122 120 (.ld false 1 (.t 121)), gf 123 120 (.bin .i .eql (.t 122) (ci 1048576)), vo 124 (.pick (.t 120) (cb true) (.t 123)), vm 115 124]) (.cond (.t 115) (.seq (.reg [mi 4 8]) .ret) .skip))))))))))))) (.seq (.reg [mi 4 0]) .ret)))))), [.t 4]⟩
theorem low27 : lowF Try.prog 27 = some F27.strip := by kernel_rfl
theorem fok27 : fOk Try.prog 27 = true := by kernel_rfl
theorem coord_work_refuse_ok (p0 : CoordWork) (p1 : Call) (r : Int) (h : coord_work_refuse p0 p1 = some r) : FnRO Try.prog G 27 [.one (.d (.k (CoordWork.enc p0))), .agg p1.bx] (fun rs => rs = [.one (.i .i64 r)]) := by
 refine FnRO.of' low27 fok27 (by simp [F27]) ?_
 rw [coord_work_refuse] at h
 replace h := Hd.mk h
 simp only [F27, go_sem]
 try simp only [*, go_sem]
 refine cr h (coord_work_place_ok G p0 p1.N) (fun v1 h => ?_)
 refine oi h (fun hb2 h => ?_) (fun hb2 h => ?_)
 have := of_decide_eq_true hb2
 cases h.e
 simp only [*, go_sem, mA, mS]
 refine obn h (fun x3 _ _ _ _ h => ?_)
 refine oi h (fun hb5 h => ?_) (fun hb5 h => ?_)
 cases h.e
 simp only [*, go_sem, mA, mS]
 try simp only [*, go_sem]
 intro hl6
 refine oi h (fun hb7 h => ?_) (fun hb7 h => ?_)
 try simp only [*, go_sem]
 intro hl8
 refine obn h (fun x9 _ _ _ _ h => ?_)
 refine oin h (fun hb11 hkhb11 h => ?_) (fun hb11 hkhb11 h => ?_)
 cases h.e
 simp only [*, go_sem, mA, mS]
 refine oi h (fun hb12 h => ?_) (fun hb12 h => ?_)
 refine oi h (fun hb13 h => ?_) (fun hb13 h => ?_)
 cases h.e
 simp only [*, go_sem, mA, mS]
 refine oi h (fun hb14 h => ?_) (fun hb14 h => ?_)
 have := of_decide_eq_true hb14
 cases h.e
 simp only [*, go_sem, mA, mS]
 refine oi h (fun hb15 h => ?_) (fun hb15 h => ?_)
 cases h.e
 simp only [*, go_sem, mA, mS]
 refine oi h (fun hb16 h => ?_) (fun hb16 h => ?_)
 have := of_decide_eq_true hb16
 cases h.e
 simp only [*, go_sem, mA, mS]
 refine oi h (fun hb17 h => ?_) (fun hb17 h => ?_)
 cases h.e
 simp only [*, go_sem, mA, mS]
 refine oi h (fun hb18 h => ?_) (fun hb18 h => ?_)
 refine oi h (fun hb19 h => ?_) (fun hb19 h => ?_)
 have := of_decide_eq_true hb19
 cases h.e
 simp only [*, go_sem, mA, mS]
 refine oi h (fun hb20 h => ?_) (fun hb20 h => ?_)
 cases h.e
 simp only [*, go_sem, mA, mS]
 refine obn h (fun x21 _ _ _ _ h => ?_)
 refine obn h (fun x23 _ _ _ _ h => ?_)
 refine obk h (fun v25 hv25 h => ?_)
 try simp only [*, go_sem]
 refine cd (label_Above_ok G x21 x23 v25 hv25) ?_
 refine oin h (fun hb26 hkhb26 h => ?_) (fun hb26 hkhb26 h => ?_)
 cases h.e
 simp only [*, go_sem, mA, mS]
 try simp only [*, go_sem]
 intro hl27
 refine oi h (fun hb28 h => ?_) (fun hb28 h => ?_)
 cases h.e
 simp only [*, go_sem, mA, mS]
 refine oi h (fun hb29 h => ?_) (fun hb29 h => ?_)
 cases h.e
 simp only [*, go_sem, mA, mS]
 cases h.e
 simp only [*, go_sem, mA, mS]
 try simp only [*, go_sem]
 intro hl30
 refine oi h (fun hb31 h => ?_) (fun hb31 h => ?_)
 cases h.e
 simp only [*, go_sem, mA, mS]
 refine oi h (fun hb32 h => ?_) (fun hb32 h => ?_)
 cases h.e
 simp only [*, go_sem, mA, mS]
 cases h.e
 simp only [*, go_sem, mA, mS]
 refine oi h (fun hb33 h => ?_) (fun hb33 h => ?_)
 have := of_decide_eq_true hb33
 cases h.e
 simp only [*, go_sem, mA, mS]
 refine oi h (fun hb34 h => ?_) (fun hb34 h => ?_)
 cases h.e
 simp only [*, go_sem, mA, mS]
 refine oi h (fun hb35 h => ?_) (fun hb35 h => ?_)
 have := of_decide_eq_true hb35
 cases h.e
 simp only [*, go_sem, mA, mS]
 refine oi h (fun hb36 h => ?_) (fun hb36 h => ?_)
 cases h.e
 simp only [*, go_sem, mA, mS]
 refine oi h (fun hb37 h => ?_) (fun hb37 h => ?_)
 refine oi h (fun hb38 h => ?_) (fun hb38 h => ?_)
 have := of_decide_eq_true hb38
 cases h.e
 simp only [*, go_sem, mA, mS]
 refine oi h (fun hb39 h => ?_) (fun hb39 h => ?_)
 cases h.e
 simp only [*, go_sem, mA, mS]
 refine obn h (fun x40 _ _ _ _ h => ?_)
 refine obn h (fun x42 _ _ _ _ h => ?_)
 refine obk h (fun v44 hv44 h => ?_)
 try simp only [*, go_sem]
 refine cd (label_Above_ok G x40 x42 v44 hv44) ?_
 refine oin h (fun hb45 hkhb45 h => ?_) (fun hb45 hkhb45 h => ?_)
 cases h.e
 simp only [*, go_sem, mA, mS]
 try simp only [*, go_sem]
 intro hl46
 refine oi h (fun hb47 h => ?_) (fun hb47 h => ?_)
 cases h.e
 simp only [*, go_sem, mA, mS]
 refine oi h (fun hb48 h => ?_) (fun hb48 h => ?_)
 cases h.e
 simp only [*, go_sem, mA, mS]
 cases h.e
 simp only [*, go_sem, mA, mS]
 try simp only [*, go_sem]
 intro hl49
 refine oi h (fun hb50 h => ?_) (fun hb50 h => ?_)
 cases h.e
 simp only [*, go_sem, mA, mS]
 refine oi h (fun hb51 h => ?_) (fun hb51 h => ?_)
 cases h.e
 simp only [*, go_sem, mA, mS]
 cases h.e
 simp only [*, go_sem, mA, mS]
 refine oi h (fun hb52 h => ?_) (fun hb52 h => ?_)
 refine oi h (fun hb53 h => ?_) (fun hb53 h => ?_)
 cases h.e
 simp only [*, go_sem, mA, mS]
 refine oi h (fun hb54 h => ?_) (fun hb54 h => ?_)
 have := of_decide_eq_true hb54
 cases h.e
 simp only [*, go_sem, mA, mS]
 refine oi h (fun hb55 h => ?_) (fun hb55 h => ?_)
 cases h.e
 simp only [*, go_sem, mA, mS]
 refine oi h (fun hb56 h => ?_) (fun hb56 h => ?_)
 have := of_decide_eq_true hb56
 cases h.e
 simp only [*, go_sem, mA, mS]
 refine oi h (fun hb57 h => ?_) (fun hb57 h => ?_)
 cases h.e
 simp only [*, go_sem, mA, mS]
 refine oi h (fun hb58 h => ?_) (fun hb58 h => ?_)
 refine oi h (fun hb59 h => ?_) (fun hb59 h => ?_)
 have := of_decide_eq_true hb59
 cases h.e
 simp only [*, go_sem, mA, mS]
 refine oi h (fun hb60 h => ?_) (fun hb60 h => ?_)
 cases h.e
 simp only [*, go_sem, mA, mS]
 refine obn h (fun x61 _ _ _ _ h => ?_)
 refine obn h (fun x63 _ _ _ _ h => ?_)
 refine obk h (fun v65 hv65 h => ?_)
 try simp only [*, go_sem]
 refine cd (label_Above_ok G x61 x63 v65 hv65) ?_
 refine oin h (fun hb66 hkhb66 h => ?_) (fun hb66 hkhb66 h => ?_)
 cases h.e
 simp only [*, go_sem, mA, mS]
 try simp only [*, go_sem]
 intro hl67
 refine oi h (fun hb68 h => ?_) (fun hb68 h => ?_)
 cases h.e
 simp only [*, go_sem, mA, mS]
 refine oi h (fun hb69 h => ?_) (fun hb69 h => ?_)
 cases h.e
 simp only [*, go_sem, mA, mS]
 cases h.e
 simp only [*, go_sem, mA, mS]
 try simp only [*, go_sem]
 intro hl70
 refine oi h (fun hb71 h => ?_) (fun hb71 h => ?_)
 cases h.e
 simp only [*, go_sem, mA, mS]
 refine oi h (fun hb72 h => ?_) (fun hb72 h => ?_)
 cases h.e
 simp only [*, go_sem, mA, mS]
 cases h.e
 simp only [*, go_sem, mA, mS]
 refine oi h (fun hb73 h => ?_) (fun hb73 h => ?_)
 have := of_decide_eq_true hb73
 cases h.e
 simp only [*, go_sem, mA, mS]
 refine oi h (fun hb74 h => ?_) (fun hb74 h => ?_)
 cases h.e
 simp only [*, go_sem, mA, mS]
 refine oi h (fun hb75 h => ?_) (fun hb75 h => ?_)
 have := of_decide_eq_true hb75
 cases h.e
 simp only [*, go_sem, mA, mS]
 refine oi h (fun hb76 h => ?_) (fun hb76 h => ?_)
 cases h.e
 simp only [*, go_sem, mA, mS]
 refine oi h (fun hb77 h => ?_) (fun hb77 h => ?_)
 refine oi h (fun hb78 h => ?_) (fun hb78 h => ?_)
 have := of_decide_eq_true hb78
 cases h.e
 simp only [*, go_sem, mA, mS]
 refine oi h (fun hb79 h => ?_) (fun hb79 h => ?_)
 cases h.e
 simp only [*, go_sem, mA, mS]
 refine obn h (fun x80 _ _ _ _ h => ?_)
 refine obn h (fun x82 _ _ _ _ h => ?_)
 refine obk h (fun v84 hv84 h => ?_)
 try simp only [*, go_sem]
 refine cd (label_Above_ok G x80 x82 v84 hv84) ?_
 refine oin h (fun hb85 hkhb85 h => ?_) (fun hb85 hkhb85 h => ?_)
 cases h.e
 simp only [*, go_sem, mA, mS]
 try simp only [*, go_sem]
 intro hl86
 refine oi h (fun hb87 h => ?_) (fun hb87 h => ?_)
 cases h.e
 simp only [*, go_sem, mA, mS]
 refine oi h (fun hb88 h => ?_) (fun hb88 h => ?_)
 cases h.e
 simp only [*, go_sem, mA, mS]
 cases h.e
 simp only [*, go_sem, mA, mS]
 try simp only [*, go_sem]
 intro hl89
 refine oi h (fun hb90 h => ?_) (fun hb90 h => ?_)
 cases h.e
 simp only [*, go_sem, mA, mS]
 refine oi h (fun hb91 h => ?_) (fun hb91 h => ?_)
 cases h.e
 simp only [*, go_sem, mA, mS]
 cases h.e
 simp only [*, go_sem, mA, mS]
def F48 : VFn := ⟨46, (.seq (.gho (.reg [vo 8 (.mv (.c (.one (.d .np))))])) (.seq (.gho (.draw [vd (vm 9 0) 0, vd (vm 10 0) 0, vd (vo 11 (.nilchk (.t 10))) 2, vd (vf 12 5 11) 6, vd (vf 13 2 12) 14, vd (vs 14 13) 30, vd (vm 15 1) 0, vd (vm 16 0) 0, vd (vo 17 (.nilchk (.t 16))) 128, vd (vf 18 4 17) 384, vd (vs 19 18) 896, vd (vm 20 2) 0, vd (vm 21 0) 0, vd (vo 22 (.nilchk (.t 21))) 4096, vd (vf 23 4 22) 0x3000, vd (vs 24 23) 0x7000, vd (vm 25 3) 0, vd (vo 26 (.build [(zi 0), (zi 0)] [(0, 1, (.t 24)), (1, 1, (.t 25))])) 0x1f000, vd (vo 27 (.build [(zi 0), (zi 0), (zi 0), (zi 0), (zi 0), (zi 0), (zi 0), (zi 0), (zi 0), (zi 0), (.d (.b false)), (zi 0)] [(0, 1, (.t 15)), (1, 1, (.t 19)), (2, 1, (.t 20)), (3, 2, (.t 26))])) 0x3ffc0, vd (vo 28 (.bsl 12 1 [(zi 0), (zi 0), (zi 0), (zi 0), (zi 0), (zi 0), (zi 0), (zi 0), (zi 0), (zi 0), (.d (.b false)), (zi 0)] [(0, (.t 27))])) 0x7ffc0, vd (vo 29 (.app 12 96 (.t 14) (.t 28))) 0xffffe, vd (vo 30 (.nilchk (.t 9))) 0x1fffff, vd (vf 31 5 30) 0x3fffff, vd (vf 32 2 31) 0x7fffff, vd (vu (.st 1 (.t 32) (.t 29))) 0xffffff])) (.seq (.gho (.draw [vd (vm 33 0) 0, vd (vo 34 (.nilchk (.t 33))) 1, vd (vf 35 5 34) 3, vd (vf 36 2 35) 7, vd (vs 37 36) 15, vd (vm 38 0) 0, vd (vo 39 (.nilchk (.t 38))) 32, vd (vf 40 5 39) 96, vd (vf 41 2 40) 224, vd (vs 42 41) 480, vd (ln 43 42) 992, vd (bk 44 .sub 43 1) 2016, vd (xa 45 12 37 44) 4095, vd (vm 8 45) 8191])) (.gho .ret)))), [.t 8]⟩
theorem low48 : lowF Try.prog 48 = some F48.strip := by kernel_rfl
theorem fok48 : fOk Try.prog 48 = true := by kernel_rfl
def coord_work_task (p0 : CoordWork) (p1 : Int) (p2 : Task) : Option (CoordWork) := (if 0 ≤ p1 then (Option.bind (p0.turn.Desk.Jobs[p1.toNat]?) fun x1 => (if fits 56 (x1.Tasks.length + 1) then (withK (fun (b4_1 : Nat) => (if p0.c.Sites = 0 then none else (if fits 96 (p0.turn.Messages.length + 1) then (withK (fun (b12_1 : List Message) => (some (CoordWork.mk p0.c p0.l p0.me (Turn.mk (Desk.mk p0.turn.Desk.Next (p0.turn.Desk.Jobs.set p1.toNat (Job.mk x1.N x1.State (x1.Tasks ++ [(Task.mk p2.Write p2.Label p2.Key p2.Value p2.Version (IntKind.i64.wrap (x1.Asks + 1)) p2.Done p2.Sure)]) x1.Asked (IntKind.i64.wrap (x1.Asks + 1)) 0))) b12_1 p0.turn.Records p0.turn.Replies p0.turn.Sure p0.turn.Committed)))) fun k13 => (if (!p2.Write) = true then (k13 (p0.turn.Messages ++ [(Message.mk ((b4_1 : Nat) : Int) p0.me (p2.Key.tmod p0.c.Sites) (Txn.mk p0.me x1.N) p2.Label p2.Key p2.Value 0 (IntKind.i64.wrap (x1.Asks + 1)) false 0)])) else (k13 (p0.turn.Messages ++ [(Message.mk ((b4_1 : Nat) : Int) p0.me (p2.Key.tmod p0.c.Sites) (Txn.mk p0.me x1.N) 0 p2.Key p2.Value 0 (IntKind.i64.wrap (x1.Asks + 1)) false 0)])))) else none))) fun k5 => (if p2.Write = true then (k5 2) else (k5 1))) else none)) else none)
def F29 : VFn := ⟨82, (.seq (.reg [vo 5 (.box 8 (.t 2))]) (.seq (.reg [vm 9 0, vo 10 (.nilchk (.t 9)), vf 11 5 10, vf 12 0 11, vf 13 1 12, vs 14 13, vm 15 1, xa 16 6 14 15, vm 6 16]) (.seq (.gho (.reg [vm 17 6, vo 18 (.nilchk (.t 17)), vf 19 4 18, vs 20 19, bk 21 .add 20 1, vo 22 (.nilchk (.t 17)), vf 23 4 22, vu (.st 1 (.t 23) (.t 21))])) (.seq (.reg [vm 24 6, vo 25 (.nilchk (.t 24)), vf 26 4 25, vs 27 26, vf 28 5 5, vu (.st 1 (.t 28) (.t 27))]) (.seq (.draw [vd (vm 29 6) 0, vd (vm 30 6) 0, vd (vo 31 (.nilchk (.t 30))) 2, vd (vf 32 2 31) 6, vd (vs 33 32) 14, vd (vl 34 8 5) 0, vd (vo 35 (.bsl 8 1 [(.d (.b false)), (zi 0), (zi 0), (zi 0), (zi 0), (zi 0), (.d (.b false)), (.d (.b false))] [(0, (.t 34))])) 32, vd (vo 36 (.app 8 56 (.t 33) (.t 35))) 126, vd (vo 37 (.nilchk (.t 29))) 255, vd (vf 38 2 37) 511, vd (vu (.st 1 (.t 38) (.t 36))) 1023]) (.seq (.reg [vm 39 6, vo 40 (.nilchk (.t 39)), vf 41 5 40, vu (.st 1 (.t 41) (ci 0))]) (.seq (.reg [mi 7 1]) (.seq (.seq (.reg [vf 42 0 5, vs 43 42]) (.wk (.cond (.t 43) (.reg [mi 7 2]) .skip))) (.seq (.drawt 14 [vd (vm 44 0) 0, vd (vm 45 7) 0, vd (vf 46 2 5) 0, vd (vs 47 46) 4, vd (vm 48 0) 0, vd (vo 49 (.nilchk (.t 48))) 16, vd (vf 50 0 49) 48, vd (vf 51 0 50) 112, vd (vs 52 51) 240, vd (bt 53 .rem 47 52) 508, vd (vm 54 6) 0, vd (vo 55 (.nilchk (.t 54))) 1024, vd (vf 56 0 55) 3072, vd (vs 57 56) 7168, vd (vo 58 (.call 48 [(.t 44), (.t 45), (.t 53), (.t 57)])) 0x3fff, vd (vm 8 58) 0x7fff]) (.seq (.draw [vd (vm 59 8) 0, vd (vm 60 8) 0, vd (vm 61 8) 0, vd (vf 62 2 5) 0, vd (vs 63 62) 8, ⟨vf 64 3 5, 0, [], none, [42]⟩, ⟨vs 65 64, 32, [], none, [42]⟩, ⟨vf 66 5 5, 0, [], none, [42]⟩, ⟨vs 67 66, 128, [], none, [42]⟩, vd (vo 68 (.nilchk (.t 59))) 25, vd (vf 69 6 68) 537, ⟨vu (.st 1 (.t 69) (.t 63)), 1561, [], (some 42), []⟩, vd (vo 70 (.nilchk (.t 60))) 3707, vd (vf 71 7 70) 7803, ⟨vu (.st 1 (.t 71) (.t 65)), 0x3e7b, [], (some 42), []⟩, vd (vo 72 (.nilchk (.t 61))) 0x7fff, vd (vf 73 9 72) 0xffff, vd (vu (.st 1 (.t 73) (.t 67))) 0x1ffff]) (.seq (.reg [vf 74 0 5, vs 75 74, nt 76 75]) (.wk (.cond (.t 76) (.reg [vm 77 8, vf 78 1 5, vs 79 78, vo 80 (.nilchk (.t 77)), vf 81 5 80, vu (.st 1 (.t 81) (.t 79))]) .skip))))))))))))), []⟩
theorem low29 : lowF Try.prog 29 = some F29.strip := by kernel_rfl
theorem fok29 : fOk Try.prog 29 = true := by kernel_rfl
theorem coord_work_task_ok (p0 : CoordWork) (p1 : Int) (p2 : Task) (r : CoordWork) (h : coord_work_task p0 p1 p2 = some r) : FnX Try.prog G 29 [ptrX, .one (.d (.i .i64 p1)), .agg p2.bx] [.i .i64 p0.c.Sites, .l 2 (p0.c.Labels.map Label.enc), .i .i64 p0.c.Patience, .i .i64 p0.l, .i .i64 p0.me, .i .i64 p0.turn.Desk.Next, .t 6 (p0.turn.Desk.Jobs.map Job.encO), .o 12 (p0.turn.Messages.map Message.enc), .o 8 (p0.turn.Records.map Record.enc), .o 6 (p0.turn.Replies.map Reply.enc), .i .i64 p0.turn.Sure, .i .i64 p0.turn.Committed] (fun c rs => c = [.i .i64 r.c.Sites, .l 2 (r.c.Labels.map Label.enc), .i .i64 r.c.Patience, .i .i64 r.l, .i .i64 r.me, .i .i64 r.turn.Desk.Next, .t 6 (r.turn.Desk.Jobs.map Job.encO), .o 12 (r.turn.Messages.map Message.enc), .o 8 (r.turn.Records.map Record.enc), .o 6 (r.turn.Replies.map Reply.enc), .i .i64 r.turn.Sure, .i .i64 r.turn.Committed] ∧ rs = []) := by
 refine FnX.of [0, 1, 0, 0, 0, 0, 2] low29 fok29 (by exact Nat.le_of_ble_eq_true rfl) (by exact Nat.le_of_ble_eq_true rfl) ?_
 rw [coord_work_task] at h
 replace h := Hd.mk h
 simp only [F29, go_sem]
 refine obn h (fun x1 _ _ _ _ h => ?_)
 try simp only [*, go_sem]
 refine gho_lk _ G _ _ [.f 1 p1.toNat] ?_
 try simp only [*, go_sem]
 refine ck h (fun _ h => ?_)
 try simp only [*, go_sem]
 refine jn1 h (fun b4_1 => [zP 0 0, zP 5 1, (6, .one (.p (.q 2 p1.toNat 0))), zI 7 ((b4_1 : Nat) : Int), zP 1000000 0]) (fun b4_1 => [ox [zi p0.c.Sites, .d (.l 2 (p0.c.Labels.map Label.enc)), zi p0.c.Patience, zi p0.l, zi p0.me, zi p0.turn.Desk.Next, .r 2 0 p0.turn.Desk.Jobs.length, .r 3 0 p0.turn.Messages.length, .r 4 0 p0.turn.Records.length, .r 5 0 p0.turn.Replies.length, zi p0.turn.Sure, zi p0.turn.Committed], ox [.d (.b p2.Write), zi p2.Label, zi p2.Key, zi p2.Value, zi p2.Version, .d (.i .i64 (IntKind.i64.wrap (x1.Asks + 1))), .d (.b p2.Done), .d (.b p2.Sure)], og 6 (p0.turn.Desk.Jobs.map Job.encO) p1.toNat [zi x1.N, zi x1.State, .r 6 0 (x1.Tasks.length + 1), .r 7 0 x1.Asked.length, .d (.i .i64 (IntKind.i64.wrap (x1.Asks + 1))), zi 0], oa 12 (p0.turn.Messages.map Message.enc), oa 8 (p0.turn.Records.map Record.enc), oa 6 (p0.turn.Replies.map Reply.enc), oa 8 ((x1.Tasks ++ [(Task.mk p2.Write p2.Label p2.Key p2.Value p2.Version (IntKind.i64.wrap (x1.Asks + 1)) p2.Done p2.Sure)]).map Task.enc), oa 1 (x1.Asked.map encI)]) (fun k5 h => ?_) (fun b4_1 h => ?_)
 refine oi h (fun hb6 h => ?_) (fun hb6 h => ?_)
 try simp only [*, go_sem]
 exact jc (2) h.e [some 0, some 5, some 1, some 2, some 3, some 4, some 15, some 7]
 try simp only [*, go_sem]
 exact jc (1) h.e [some 0, some 5, some 1, some 2, some 3, some 4, some 15, some 7]
 refine ckn h (fun _ h => ?_)
 try simp only [*, go_sem]
 refine cx low48 fok48 ?_
 simp only [*, F48, go_sem]
 try simp only [*, go_sem]
 refine gho_lk _ G _ _ [] ?_
 try simp only [*, go_sem]
 try simp only [*, go_sem]
 refine gho_lk _ G _ _ [] ?_
 try simp only [*, go_sem]
 refine ck h (fun hf8 h => ?_)
 try simp only [*, go_sem]
 refine gho_lk _ G _ _ [] ?_
 try simp only [*, go_sem]
 have : IntKind.i64.wrap (((p0.turn.Messages.length + 1 : Nat) : Int) - 1) = ((p0.turn.Messages.length : Nat) : Int) := wrap_pred hf8.2
 have : (p0.turn.Messages ++ [(Message.mk ((b4_1 : Nat) : Int) p0.me (p2.Key.tmod p0.c.Sites) (Txn.mk p0.me x1.N) 0 0 0 0 0 false 0)])[p0.turn.Messages.length]? = some (Message.mk ((b4_1 : Nat) : Int) p0.me (p2.Key.tmod p0.c.Sites) (Txn.mk p0.me x1.N) 0 0 0 0 0 false 0) := List.getElem?_concat_length
 have : p0.turn.Messages.length < p0.turn.Messages.length + 1 := Nat.lt_succ_self _
 try simp only [*, go_sem]
 refine gho_lk _ G _ _ [] ?_
 try simp only [*, go_sem]
 try simp only [*, go_sem]
 refine jn1 h (fun b12_1 => [zP 1000000 0]) (fun b12_1 => [ox [zi p0.c.Sites, .d (.l 2 (p0.c.Labels.map Label.enc)), zi p0.c.Patience, zi p0.l, zi p0.me, zi p0.turn.Desk.Next, .r 1 0 p0.turn.Desk.Jobs.length, .r 2 0 b12_1.length, .r 3 0 p0.turn.Records.length, .r 4 0 p0.turn.Replies.length, zi p0.turn.Sure, zi p0.turn.Committed], ot 6 ((p0.turn.Desk.Jobs.set p1.toNat (Job.mk x1.N x1.State (x1.Tasks ++ [(Task.mk p2.Write p2.Label p2.Key p2.Value p2.Version (IntKind.i64.wrap (x1.Asks + 1)) p2.Done p2.Sure)]) x1.Asked (IntKind.i64.wrap (x1.Asks + 1)) 0)).map Job.encO), oa 12 (b12_1.map Message.enc), oa 8 (p0.turn.Records.map Record.enc), oa 6 (p0.turn.Replies.map Reply.enc)]) (fun k13 h => ?_) (fun b12_1 h => ?_)
 refine oin h (fun hb14 hkhb14 h => ?_) (fun hb14 hkhb14 h => ?_)
 try simp only [*, go_sem]
 exact jf [.u 2] ((p0.turn.Messages ++ [(Message.mk ((b4_1 : Nat) : Int) p0.me (p2.Key.tmod p0.c.Sites) (Txn.mk p0.me x1.N) p2.Label p2.Key p2.Value 0 (IntKind.i64.wrap (x1.Asks + 1)) false 0)])) h.e [some 0, some 2, some 42, some 4, some 5]
 try simp only [*, go_sem]
 exact jf [.u 2] ((p0.turn.Messages ++ [(Message.mk ((b4_1 : Nat) : Int) p0.me (p2.Key.tmod p0.c.Sites) (Txn.mk p0.me x1.N) 0 p2.Key p2.Value 0 (IntKind.i64.wrap (x1.Asks + 1)) false 0)])) h.e [some 0, some 2, some 42, some 4, some 5]
 cases h.e
 try simp only [*, go_sem]
 refine etn [] ?_
 simp only [*, go_sem, mA, mS]
def F49 : VFn := ⟨64, (.seq (.gho (.reg [vo 4 (.mv (cb false))])) (.seq (.gho (.reg [vm 10 0, vo 11 (.nilchk (.t 10)), vf 12 5 11, vf 13 0 12, vf 14 1 13, vs 15 14, vm 16 1, xa 17 6 15 16, vm 5 17])) (.seq (.gho (.reg [vo 6 (.mv (cb false))])) (.seq (.seq (.gho (.reg [vm 18 5, vo 19 (.nilchk (.t 18)), vf 20 2 19, vs 21 20, ln 22 21, mi 23 0])) (.wk (.block 0 (.loop (.seq (.gho (.reg [bt 24 .lss 23 22])) (.seq (.cond (.t 24) .skip (.exit 0)) (.seq (.block 1 (.seq (.gho (.reg [xa 25 8 21 23, vl 26 8 25, vo 8 (.alloc [(.d (.b false)), (zi 0), (zi 0), (zi 0), (zi 0), (zi 0), (.d (.b false)), (.d (.b false))]), vu (.st 8 (.t 8) (.t 26))])) (.seq (.seq (.gho (.reg [vf 27 0 8, vs 28 27, vm 29 28, gf 30 29 (.fa 7 (.t 8)), gf 31 29 (.ld false 1 (.t 30)), vo 32 (.pick (.t 29) (cb true) (.t 31))])) (.cond (.t 32) (.exit 1) .skip)) (.seq (.gho (.reg [vo 6 (.mv (cb true))])) (.seq (.gho (.drawt 13 [vd (vm 33 0) 0, vd (vf 34 2 8) 0, vd (vs 35 34) 2, vd (vm 36 0) 0, vd (vo 37 (.nilchk (.t 36))) 8, vd (vf 38 0 37) 24, vd (vf 39 0 38) 56, vd (vs 40 39) 120, vd (bt 41 .rem 35 40) 254, vd (vm 42 5) 0, vd (vo 43 (.nilchk (.t 42))) 512, vd (vf 44 0 43) 1536, vd (vs 45 44) 3584, vd (vo 46 (.call 48 [(.t 33), (ci 3), (.t 41), (.t 45)])) 8191, vd (vm 9 46) 0x3fff])) (.gho (.draw [vd (vm 47 9) 0, vd (vm 48 9) 0, vd (vm 49 9) 0, vd (vf 50 1 8) 0, vd (vs 51 50) 8, ⟨vf 52 2 8, 0, [], none, [41]⟩, ⟨vs 53 52, 32, [], none, [41]⟩, ⟨vf 54 4 8, 0, [], none, [41]⟩, ⟨vs 55 54, 128, [], none, [41]⟩, vd (vo 56 (.nilchk (.t 47))) 25, vd (vf 57 5 56) 537, ⟨vu (.st 1 (.t 57) (.t 51)), 1561, [], (some 41), []⟩, vd (vo 58 (.nilchk (.t 48))) 3707, vd (vf 59 6 58) 7803, ⟨vu (.st 1 (.t 59) (.t 53)), 0x3e7b, [], (some 41), []⟩, vd (vo 60 (.nilchk (.t 49))) 0x7fff, vd (vf 61 8 60) 0xffff, vd (vu (.st 1 (.t 61) (.t 55))) 0x1ffff]))))))) (.gho (.reg [bk 62 .add 23 1, vm 23 62]))))))))) (.seq (.gho (.reg [vm 63 6, vm 4 63])) (.gho .ret)))))), [.t 4]⟩
theorem low49 : lowF Try.prog 49 = some F49.strip := by kernel_rfl
theorem fok49 : fOk Try.prog 49 = true := by kernel_rfl
def slices_Index_int_L1 (p0 : List Int) (p1 : Int) (k3 : Option (Int)) : Nat → Nat → Option (Int)
 | 0, _ => none
 | n5 + 1, a4_1 => (if (decide (a4_1 < p0.length)) = true then (Option.bind (p0[a4_1]?) fun x7 => (if (p1 == x7) = true then (some ((a4_1 : Nat) : Int)) else (slices_Index_int_L1 p0 p1 k3 n5 (a4_1 + 1)))) else k3)
def slices_Index_int (p0 : List Int) (p1 : Int) : Option (Int) := (withK (some (-1)) fun k3 => (slices_Index_int_L1 p0 p1 k3 (p0.length + 1) 0))
def F69 : VFn := ⟨19, (.seq (.reg [mi 4 0]) (.seq (.seq (.reg [vm 6 0, ln 7 6, mi 8 0]) (.wk (.block 0 (.loop (.seq (.reg [bt 9 .lss 8 7]) (.seq (.cond (.t 9) .skip (.exit 0)) (.seq (.block 1 (.seq (.reg [vm 10 8, vm 5 10]) (.seq (.reg [vm 11 1, vm 12 0, vm 13 5, xa 14 1 12 13, vs 15 14, bt 16 .eql 11 15]) (.cond (.t 16) (.seq (.reg [vm 17 5, vm 4 17]) .ret) .skip)))) (.reg [bk 18 .add 8 1, vm 8 18])))))))) (.seq (.reg [mi 4 (-1)]) .ret))), [.t 4]⟩
theorem low69 : lowF Try.prog 69 = some F69.strip := by kernel_rfl
theorem fok69 : fOk Try.prog 69 = true := by kernel_rfl
theorem slices_Index_int_ok (p0 : List Int) (p1 : Int) (r : Int) (h : slices_Index_int p0 p1 = some r) : FnRO Try.prog G 69 [.one (.d (.l 1 (p0.map encI))), .one (.d (.i .i64 p1))] (fun rs => rs = [.one (.i .i64 r)]) := by
 refine FnRO.of' low69 fok69 (by simp [F69]) ?_
 rw [slices_Index_int] at h
 replace h := Hd.mk h
 simp only [F69, go_sem]
 try simp only [*, go_sem]
 intro hl1
 try simp only [*, go_sem]
 refine jn0 h ([]) ([]) (fun k3 h => ?_) (fun h => ?_)
 try simp only [*, go_sem]
 refine lp1 (slices_Index_int_L1 p0 p1 k3) (fun a4_1 => [zL 0 1 (p0.map encI), zI 1 p1, zI 7 ((p0.length : Nat) : Int), zI 8 ((a4_1 : Nat) : Int)]) (fun a4_1 => []) h [] [] (fun n5 a4_1 h => ?_) (by intros; rw [slices_Index_int_L1])
 rw [slices_Index_int_L1] at h
 refine oi h (fun hb6 h => ?_) (fun hb6 h => ?_)
 have := of_decide_eq_true hb6
 refine obg h (fun x7 _ hkx7 h => ?_)
 refine oi h (fun hb8 h => ?_) (fun hb8 h => ?_)
 cases h.e
 simp only [*, go_sem, mA, mS]
 have := wrap_succ_max hkx7 hl1
 try simp only [*, go_sem]
 exact lc (a4_1 + 1) h.e []
 try simp only [*, go_sem]
 exact jc () h.e []
 cases h.e
 simp only [*, go_sem, mA, mS]
def slices_Contains_int (p0 : List Int) (p1 : Int) : Option (Bool) := (Option.bind (slices_Index_int p0 p1) fun v1 => (some (decide (v1 ≥ 0))))
def F62 : VFn := ⟨9, (.seq (.reg [vo 4 (.mv (cb false))]) (.seq (.reg [vm 5 0, vm 6 1, vo 7 (.call 69 [(.t 5), (.t 6)]), bk 8 .geq 7 0, vm 4 8]) .ret)), [.t 4]⟩
theorem low62 : lowF Try.prog 62 = some F62.strip := by kernel_rfl
theorem fok62 : fOk Try.prog 62 = true := by kernel_rfl
theorem slices_Contains_int_ok (p0 : List Int) (p1 : Int) (r : Bool) (h : slices_Contains_int p0 p1 = some r) : FnRO Try.prog G 62 [.one (.d (.l 1 (p0.map encI))), .one (.d (.i .i64 p1))] (fun rs => rs = [.one (.b r)]) := by
 refine FnRO.of' low62 fok62 (by simp [F62]) ?_
 rw [slices_Contains_int] at h
 replace h := Hd.mk h
 simp only [F62, go_sem]
 try simp only [*, go_sem]
 refine cr h (slices_Index_int_ok G p0 p1) (fun v1 h => ?_)
 cases h.e
 simp only [*, go_sem, mA, mS]
def math_bits_Len64 (p0 : Int) : Option (Int) := (withK (fun (b1_1 : Int) (b1_2 : Nat) => (withK (fun (b4_1 : Int) (b4_2 : Int) => (withK (fun (b7_1 : Int) (b7_2 : Int) => (if 0 ≤ IntKind.u8.wrap (b7_1) ∧ IntKind.u8.wrap (b7_1) < ((bs_633d862b.size : Nat) : Int) then (some (IntKind.i64.wrap (b7_2 + IntKind.i64.wrap ((((bs_633d862b.data.toList.getD ((IntKind.u8.wrap (b7_1)).toNat) 0).toNat : Nat) : Int))))) else none)) fun k8 => (if (decide (b4_1 ≥ 256)) = true then (k8 (b4_1.fdiv (2 ^ 8)) (IntKind.i64.wrap (b4_2 + 8))) else (k8 b4_1 b4_2)))) fun k5 => (if (decide (b1_1 ≥ 65536)) = true then (k5 (b1_1.fdiv (2 ^ 16)) (IntKind.i64.wrap (((b1_2 : Nat) : Int) + 16))) else (k5 b1_1 ((b1_2 : Nat) : Int))))) fun k2 => (if (decide (p0 ≥ 4294967296)) = true then (k2 (p0.fdiv (2 ^ 32)) 32) else (k2 p0 0)))
def F82 : VFn := ⟨25, (.seq (.reg [mi 2 0]) (.seq (.seq (.reg [vm 3 0, vo 4 (.bin .i .geq (.t 3) (.c (.one (.d (.i .u64 4294967296)))))]) (.wk (.cond (.t 4) (.seq (.reg [vm 5 0, vo 6 (.bin .i .shr (.t 5) (.c (.one (.d (.i .u64 32))))), vm 0 6]) (.reg [mi 2 32])) .skip))) (.seq (.seq (.reg [vm 7 0, vo 8 (.bin .i .geq (.t 7) (.c (.one (.d (.i .u64 65536)))))]) (.wk (.cond (.t 8) (.seq (.reg [vm 9 0, vo 10 (.bin .i .shr (.t 9) (.c (.one (.d (.i .u64 16))))), vm 0 10]) (.reg [vm 11 2, bk 12 .add 11 16, vm 2 12])) .skip))) (.seq (.seq (.reg [vm 13 0, vo 14 (.bin .i .geq (.t 13) (.c (.one (.d (.i .u64 256)))))]) (.wk (.cond (.t 14) (.seq (.reg [vm 15 0, vo 16 (.bin .i .shr (.t 15) (.c (.one (.d (.i .u64 8))))), vm 0 16]) (.reg [vm 17 2, bk 18 .add 17 8, vm 2 18])) .skip))) (.seq (.reg [vm 19 2, vm 20 0, vo 21 (.cvi .u8 (.t 20)), vo 22 (.ix (.c (.one (.d (.s bs_633d862b)))) (.t 21)), vo 23 (.cvi .i64 (.t 22)), bt 24 .add 19 23, vm 2 24]) .ret))))), [.t 2]⟩
theorem low82 : lowF Try.prog 82 = some F82.strip := by kernel_rfl
theorem fok82 : fOk Try.prog 82 = true := by kernel_rfl
theorem math_bits_Len64_ok (p0 : Int) (r : Int) (h : math_bits_Len64 p0 = some r) : FnRO Try.prog G 82 [.one (.d (.i .u64 p0))] (fun rs => rs = [.one (.i .i64 r)]) := by
 refine FnRO.of' low82 fok82 (by simp [F82]) ?_
 rw [math_bits_Len64] at h
 replace h := Hd.mk h
 simp only [F82, go_sem]
 try simp only [*, go_sem]
 refine jn2 h (fun b1_1 b1_2 => [(0, .one (.d (.i .u64 b1_1))), zI 2 ((b1_2 : Nat) : Int)]) (fun b1_1 b1_2 => []) (fun k2 h => ?_) (fun b1_1 b1_2 h => ?_)
 refine oi h (fun hb3 h => ?_) (fun hb3 h => ?_)
 try simp only [*, go_sem]
 exact jc (p0.fdiv (2 ^ 32), 32) h.e []
 try simp only [*, go_sem]
 exact jc (p0, 0) h.e []
 try simp only [*, go_sem]
 refine jn2 h (fun b4_1 b4_2 => [(0, .one (.d (.i .u64 b4_1))), zI 2 b4_2]) (fun b4_1 b4_2 => []) (fun k5 h => ?_) (fun b4_1 b4_2 h => ?_)
 refine oi h (fun hb6 h => ?_) (fun hb6 h => ?_)
 try simp only [*, go_sem]
 exact jc (b1_1.fdiv (2 ^ 16), IntKind.i64.wrap (((b1_2 : Nat) : Int) + 16)) h.e []
 try simp only [*, go_sem]
 exact jc (b1_1, ((b1_2 : Nat) : Int)) h.e []
 try simp only [*, go_sem]
 refine jn2 h (fun b7_1 b7_2 => [(0, .one (.d (.i .u64 b7_1))), zI 2 b7_2]) (fun b7_1 b7_2 => []) (fun k8 h => ?_) (fun b7_1 b7_2 h => ?_)
 refine oi h (fun hb9 h => ?_) (fun hb9 h => ?_)
 try simp only [*, go_sem]
 exact jc (b4_1.fdiv (2 ^ 8), IntKind.i64.wrap (b4_2 + 8)) h.e []
 try simp only [*, go_sem]
 exact jc (b4_1, b4_2) h.e []
 refine ck h (fun _ h => ?_)
 cases h.e
 simp only [*, go_sem, mA, mS]
def math_bits_Len (p0 : Int) : Option (Int) := (Option.bind (math_bits_Len64 p0) fun v1 => (some v1))
def F71 : VFn := ⟨8, (.seq (.reg [mi 2 0]) (.seq (.cond (cb false) (.seq (.reg [vm 3 0, vo 4 (.cvi .u32 (.t 3)), vo 5 (.call 81 [(.t 4)]), vm 2 5]) .ret) .skip) (.seq (.reg [vm 6 0, vo 7 (.call 82 [(.t 6)]), vm 2 7]) .ret))), [.t 2]⟩
theorem low71 : lowF Try.prog 71 = some F71.strip := by kernel_rfl
theorem fok71 : fOk Try.prog 71 = true := by kernel_rfl
theorem math_bits_Len_ok (p0 : Int) (r : Int) (h : math_bits_Len p0 = some r) : FnRO Try.prog G 71 [.one (.d (.i .u64 p0))] (fun rs => rs = [.one (.i .i64 r)]) := by
 refine FnRO.of' low71 fok71 (by simp [F71]) ?_
 rw [math_bits_Len] at h
 replace h := Hd.mk h
 simp only [F71, go_sem]
 try simp only [*, go_sem]
 refine cr h (math_bits_Len64_ok G p0) (fun v1 h => ?_)
 cases h.e
 simp only [*, go_sem, mA, mS]
def cmp_isNaN (p0 : Int) : Option (Bool) := (some false)
def F88 : VFn := ⟨6, (.seq (.reg [vo 2 (.mv (cb false))]) (.seq (.reg [vm 3 0, vm 4 0, bt 5 .neq 3 4, vm 2 5]) .ret)), [.t 2]⟩
theorem low88 : lowF Try.prog 88 = some F88.strip := by kernel_rfl
theorem fok88 : fOk Try.prog 88 = true := by kernel_rfl
theorem cmp_isNaN_ok (p0 : Int) (r : Bool) (h : cmp_isNaN p0 = some r) : FnRO Try.prog G 88 [.one (.d (.i .i64 p0))] (fun rs => rs = [.one (.b r)]) := by
 refine FnRO.of' low88 fok88 (by simp [F88]) ?_
 rw [cmp_isNaN] at h
 replace h := Hd.mk h
 simp only [F88, go_sem]
 cases h.e
 simp only [*, go_sem, mA, mS]
def cmp_Less (p0 : Int) (p1 : Int) : Option (Bool) := (withK (fun (b1_1 : Bool) => (some b1_1)) fun k2 => (Option.bind (cmp_isNaN p0) fun v3 => (if v3 = true then (Option.bind (cmp_isNaN p1) fun v5 => (if (!v5) = true then (k2 true) else (k2 (decide (p0 < p1))))) else (k2 (decide (p0 < p1))))))
def F78 : VFn := ⟨17, (.seq (.reg [vo 4 (.mv (cb false))]) (.seq (.wk (.reg [vm 5 0, vo 6 (.call 88 [(.t 5)]), vm 7 6, gt 8 7 (.mv (.t 1)), gt 9 7 (.call 88 [(.t 8)]), gt 10 7 (.un .not (.t 9)), vo 11 (.pick (.t 7) (.t 10) (cb false)), vm 12 11, gf 13 12 (.mv (.t 0)), gf 14 12 (.mv (.t 1)), gf 15 12 (.bin .i .lss (.t 13) (.t 14)), vo 16 (.pick (.t 12) (cb true) (.t 15)), vm 4 16])) .ret)), [.t 4]⟩
theorem low78 : lowF Try.prog 78 = some F78.strip := by kernel_rfl
theorem fok78 : fOk Try.prog 78 = true := by kernel_rfl
theorem cmp_Less_ok (p0 : Int) (p1 : Int) (r : Bool) (h : cmp_Less p0 p1 = some r) : FnRO Try.prog G 78 [.one (.d (.i .i64 p0)), .one (.d (.i .i64 p1))] (fun rs => rs = [.one (.b r)]) := by
 refine FnRO.of' low78 fok78 (by simp [F78]) ?_
 rw [cmp_Less] at h
 replace h := Hd.mk h
 simp only [F78, go_sem]
 try simp only [*, go_sem]
 refine jn1 h (fun b1_1 => [zB 4 b1_1]) (fun b1_1 => []) (fun k2 h => ?_) (fun b1_1 h => ?_)
 try simp only [*, go_sem]
 refine cr h (cmp_isNaN_ok G p0) (fun v3 h => ?_)
 refine oi h (fun hb4 h => ?_) (fun hb4 h => ?_)
 try simp only [*, go_sem]
 refine cr h (cmp_isNaN_ok G p1) (fun v5 h => ?_)
 refine oin h (fun hb6 hkhb6 h => ?_) (fun hb6 hkhb6 h => ?_)
 try simp only [*, go_sem]
 exact jc (true) h.e []
 try simp only [*, go_sem]
 exact jc (decide (p0 < p1)) h.e []
 try simp only [*, go_sem]
 exact jc (decide (p0 < p1)) h.e []
 cases h.e
 simp only [*, go_sem, mA, mS]
def F72 : VFn := ⟨49, (.seq (.reg [vm 8 1, bk 9 .add 8 1, vm 6 9]) (.wk (.block 0 (.loop (.seq (.seq (.reg [vm 10 6, vm 11 2, bt 12 .lss 10 11]) (.cond (.t 12) .skip (.exit 0))) (.seq (.block 1 (.seq (.reg [vm 15 6, vm 7 15]) (.wk (.block 2 (.loop (.seq (.seq (.draw [vd (vm 16 7) 0, vd (vm 17 1) 0, vd (bt 18 .gtr 16 17) 3, vd (vm 19 18) 7, vd (gt 20 19 (.mv (.t 0))) 15, vd (gt 21 19 (.mv (.t 7))) 15, vd (gt 22 19 (.ia 1 (.t 20) (.t 21))) 63, vd (gt 23 19 (.ld false 1 (.t 22))) 127, vd (gt 24 19 (.mv (.t 0))) 15, vd (gt 25 19 (.mv (.t 7))) 15, vd (gt 26 19 (.bin .i .sub (.t 25) (ci 1))) 527, vd (gt 27 19 (.ia 1 (.t 24) (.t 26))) 1807, vd (gt 28 19 (.ld false 1 (.t 27))) 3855, vd (gt 29 19 (.call 78 [(.t 23), (.t 28)])) 8191, vd (vo 30 (.pick (.t 19) (.t 29) (cb false))) 0x3fff]) (.cond (.t 30) .skip (.exit 2))) (.seq (.block 3 (.draw [vd (vm 33 0) 0, vd (vm 34 7) 0, vd (vm 35 0) 0, vd (vm 36 7) 0, vd (bk 37 .sub 36 1) 8, vd (vm 38 0) 0, vd (vm 39 7) 0, vd (bk 40 .sub 39 1) 64, vd (xa 41 1 38 40) 224, vd (vs 42 41) 480, vd (vm 43 0) 0, vd (vm 44 7) 0, vd (xa 45 1 43 44) 3072, vd (vs 46 45) 7168, vd (xa 47 1 33 34) 0x3fe3, vd (vu (.st 1 (.t 47) (.t 42))) 0x7fe3, vd (xa 48 1 35 37) 0xffff, vd (vu (.st 1 (.t 48) (.t 46))) 0x1ffff])) (.reg [vm 31 7, bk 32 .sub 31 1, vm 7 32])))))))) (.reg [vm 13 6, bk 14 .add 13 1, vm 6 14]))))))), []⟩
theorem low72 : lowF Try.prog 72 = some F72.strip := by kernel_rfl
theorem fok72 : fOk Try.prog 72 = true := by kernel_rfl
def F70 : VFn := ⟨134, (.seq (.reg [vo 8 (.mv (cb true))]) (.seq (.reg [vo 9 (.mv (cb true))]) (.wk (.block 0 (.loop (.block 1 (.seq (.reg [vm 19 2, vm 20 1, bt 21 .sub 19 20, vm 10 21]) (.seq (.seq (.reg [vm 22 10, bk 23 .leq 22 12]) (.cond (.t 23) (.seq (.reg [vm 24 0, vm 25 1, vm 26 2, vo 27 (.call 72 [(.t 24), (.t 25), (.t 26)])]) .ret) .skip)) (.seq (.seq (.reg [vm 28 3, bk 29 .eql 28 0]) (.cond (.t 29) (.seq (.reg [vm 30 0, vm 31 1, vm 32 2, vo 33 (.call 73 [(.t 30), (.t 31), (.t 32)])]) .ret) .skip)) (.seq (.seq (.reg [vm 34 8, nt 35 34]) (.wk (.cond (.t 35) (.seq (.reg [vm 36 0, vm 37 1, vm 38 2, vo 39 (.call 74 [(.t 36), (.t 37), (.t 38)])]) (.reg [vm 40 3, bk 41 .sub 40 1, vm 3 41])) .skip))) (.seq (.regs [[vm 43 0, vm 44 1, vm 45 2, vo 46 (.call 75 [(.t 43), (.t 44), (.t 45)])], [vm 42 46, et 47 42 0, et 48 42 1, vm 11 47, vm 12 48]]) (.seq (.seq (.reg [vm 49 12, bk 50 .eql 49 2]) (.wk (.cond (.t 50) (.seq (.reg [vm 51 0, vm 52 1, vm 53 2, vo 54 (.call 76 [(.t 51), (.t 52), (.t 53)])]) (.seq (.reg [vm 55 2, bk 56 .sub 55 1, vm 57 11, vm 58 1, bt 59 .sub 57 58, bt 60 .sub 56 59, vm 11 60]) (.reg [mi 12 1]))) .skip))) (.seq (.seq (.reg [vm 61 8, vm 62 61, gt 63 62 (.mv (.t 9)), vo 64 (.pick (.t 62) (.t 63) (cb false)), vm 65 64, gt 66 65 (.mv (.t 12)), gt 67 65 (.bin .i .eql (.t 66) (ci 1)), vo 68 (.pick (.t 65) (.t 67) (cb false))]) (.wk (.cond (.t 68) (.seq (.wk (.reg [vm 69 0, vm 70 1, vm 71 2, vo 72 (.call 77 [(.t 69), (.t 70), (.t 71)])])) (.cond (.t 72) .ret .skip)) .skip))) (.seq (.seq (.draw [vd (vm 73 1) 0, vd (bk 74 .gtr 73 0) 1, vd (vm 75 74) 3, vd (gt 76 75 (.mv (.t 0))) 7, vd (gt 77 75 (.mv (.t 1))) 7, vd (gt 78 75 (.bin .i .sub (.t 77) (ci 1))) 23, vd (gt 79 75 (.ia 1 (.t 76) (.t 78))) 63, vd (gt 80 75 (.ld false 1 (.t 79))) 127, vd (gt 81 75 (.mv (.t 0))) 7, vd (gt 82 75 (.mv (.t 11))) 7, vd (gt 83 75 (.ia 1 (.t 81) (.t 82))) 775, vd (gt 84 75 (.ld false 1 (.t 83))) 1799, vd (gt 85 75 (.call 78 [(.t 80), (.t 84)])) 4095, vd (gt 86 75 (.un .not (.t 85))) 8191, vd (vo 87 (.pick (.t 75) (.t 86) (cb false))) 0x3fff]) (.cond (.t 87) (.seq (.reg [vm 88 0, vm 89 1, vm 90 2, vm 91 11, vo 92 (.call 79 [(.t 88), (.t 89), (.t 90), (.t 91)]), vm 13 92]) (.seq (.reg [vm 93 13, vm 1 93]) (.exit 1))) .skip)) (.seq (.regs [[vm 95 0, vm 96 1, vm 97 2, vm 98 11, vo 99 (.call 80 [(.t 95), (.t 96), (.t 97), (.t 98)])], [vm 94 99, et 100 94 0, et 101 94 1, vm 14 100, vm 15 101]]) (.seq (.reg [vm 102 15, vm 9 102]) (.seq (.reg [vm 103 14, vm 104 1, bt 105 .sub 103 104, vm 106 2, vm 107 14, bt 108 .sub 106 107, vm 16 105, vm 17 108]) (.seq (.reg [vm 109 10, bk 110 .quo 109 8, vm 18 110]) (.seq (.reg [vm 111 16, vm 112 17, bt 113 .lss 111 112]) (.wk (.cond (.t 113) (.seq (.reg [vm 114 16, vm 115 18, bt 116 .geq 114 115, vm 8 116]) (.seq (.wk (.reg [vm 117 0, vm 118 1, vm 119 14, vm 120 3, vo 121 (.call 70 [(.t 117), (.t 118), (.t 119), (.t 120)])])) (.reg [vm 122 14, bk 123 .add 122 1, vm 1 123]))) (.seq (.reg [vm 124 17, vm 125 18, bt 126 .geq 124 125, vm 8 126]) (.seq (.wk (.reg [vm 127 0, vm 128 14, bk 129 .add 128 1, vm 130 2, vm 131 3, vo 132 (.call 70 [(.t 127), (.t 129), (.t 130), (.t 131)])])) (.reg [vm 133 14, vm 2 133])))))))))))))))))))))))), []⟩
theorem low70 : lowF Try.prog 70 = some F70.strip := by kernel_rfl
theorem fok70 : fOk Try.prog 70 = true := by kernel_rfl
def F63 : VFn := ⟨11, (.seq (.reg [vm 3 0, ln 4 3, vm 2 4]) (.wk (.reg [vm 5 0, vm 6 2, vm 7 2, vo 8 (.cvi .u64 (.t 7)), vo 9 (.call 71 [(.t 8)]), vo 10 (.call 70 [(.t 5), (ci 0), (.t 6), (.t 9)])]))), []⟩
theorem low63 : lowF Try.prog 63 = some F63.strip := by kernel_rfl
theorem fok63 : fOk Try.prog 63 = true := by kernel_rfl
def F51 : VFn := ⟨45, (.seq (.reg [vo 3 (.box 6 (.t 1)), vo 4 (.mv (.c (.one (.nl 1))))]) (.seq (.reg [vo 5 (.mv (.c (.one (.nl 1))))]) (.seq (.seq (.reg [vf 9 2 3, vs 10 9, ln 11 10, mi 12 0]) (.wk (.block 0 (.loop (.seq (.reg [bt 13 .lss 12 11]) (.seq (.cond (.t 13) .skip (.exit 0)) (.seq (.block 1 (.seq (.reg [xa 14 8 10 12, vl 15 8 14, vo 7 (.alloc [(.d (.b false)), (zi 0), (zi 0), (zi 0), (zi 0), (zi 0), (.d (.b false)), (.d (.b false))]), vu (.st 8 (.t 7) (.t 15))]) (.seq (.draw [vd (vf 16 2 7) 0, vd (vs 17 16) 1, vd (vm 18 0) 0, vd (vo 19 (.nilchk (.t 18))) 4, vd (vf 20 0 19) 12, vd (vf 21 0 20) 28, vd (vs 22 21) 60, vd (bt 23 .rem 17 22) 127, vd (vm 8 23) 255]) (.seq (.draw [vd (vf 24 1 7) 0, vd (vs 25 24) 1, vd (vm 26 0) 0, vd (vo 27 (.nilchk (.t 26))) 4, vd (vf 28 3 27) 12, vd (vs 29 28) 28, vd (bt 30 .eql 25 29) 63, vd (vm 31 30) 127, vd (gt 32 31 (.mv (.t 5))) 255, vd (gt 33 31 (.mv (.t 8))) 255, vd (gt 34 31 (.call 62 [(.t 32), (.t 33)])) 1023, vd (gt 35 31 (.un .not (.t 34))) 2047, vd (vo 36 (.pick (.t 31) (.t 35) (cb false))) 4095]) (.wk (.cond (.t 36) (.reg [vm 37 5, vm 38 8, vo 39 (.bsl 1 1 [(zi 0)] [(0, (.t 38))]), vo 40 (.app 1 8 (.t 37) (.t 39)), vm 5 40]) .skip)))))) (.reg [bk 41 .add 12 1, vm 12 41])))))))) (.seq (.reg [vm 42 5, vo 43 (.call 63 [(.t 42)])]) (.seq (.reg [vm 44 5, vm 4 44]) .ret))))), [.t 4]⟩
theorem low51 : lowF Try.prog 51 = some F51.strip := by kernel_rfl
theorem fok51 : fOk Try.prog 51 = true := by kernel_rfl
theorem del64 : DelOk Try.prog 64 6 := ⟨80, [(zi 0), (zi 0), (.nl 8), (.nl 1), (zi 0), (zi 0)], _, by kernel_rfl, by kernel_rfl, fun _ => rfl, rfl⟩
def F52 : VFn := ⟨19, (.gho (.reg [vm 4 0, vm 5 0, vo 6 (.nilchk (.t 5)), vf 7 5 6, vf 8 0 7, vf 9 1 8, vs 10 9, vm 11 1, vm 12 1, bk 13 .add 12 1, vo 14 (.call 64 [(.t 10), (.t 11), (.t 13)]), vo 15 (.nilchk (.t 4)), vf 16 5 15, vf 17 0 16, vf 18 1 17, vu (.st 1 (.t 18) (.t 14))])), []⟩
theorem low52 : lowF Try.prog 52 = some F52.strip := by kernel_rfl
theorem fok52 : fOk Try.prog 52 = true := by kernel_rfl
def slices_IndexFunc_Task_L1 (p0 : List Task) (p1 : Task → Option (Bool)) (k3 : Option (Int)) : Nat → Nat → Option (Int)
 | 0, _ => none
 | n5 + 1, a4_1 => (if (decide (a4_1 < p0.length)) = true then (Option.bind (p0[a4_1]?) fun x7 => (Option.bind (p1 x7) fun v8 => (if v8 = true then (some ((a4_1 : Nat) : Int)) else (slices_IndexFunc_Task_L1 p0 p1 k3 n5 (a4_1 + 1))))) else k3)
def slices_IndexFunc_Task (p0 : List Task) (p1 : Task → Option (Bool)) : Option (Int) := (withK (some (-1)) fun k3 => (slices_IndexFunc_Task_L1 p0 p1 k3 (p0.length + 1) 0))
def F68 : VFn := ⟨19, (.seq (.reg [mi 4 0]) (.seq (.seq (.reg [vm 6 0, ln 7 6, mi 8 0]) (.wk (.block 0 (.loop (.seq (.reg [bt 9 .lss 8 7]) (.seq (.cond (.t 9) .skip (.exit 0)) (.seq (.block 1 (.seq (.reg [vm 10 8, vm 5 10]) (.seq (.reg [vm 11 1, vm 12 0, vm 13 5, xa 14 8 12 13, vl 15 8 14, vo 16 (.callv (.t 11) [(.t 15)])]) (.cond (.t 16) (.seq (.reg [vm 17 5, vm 4 17]) .ret) .skip)))) (.reg [bk 18 .add 8 1, vm 8 18])))))))) (.seq (.reg [mi 4 (-1)]) .ret))), [.t 4]⟩
theorem low68 : lowF Try.prog 68 = some F68.strip := by kernel_rfl
theorem fok68 : fOk Try.prog 68 = true := by kernel_rfl
theorem slices_IndexFunc_Task_ok (p0 : List Task) (p1 : Task → Option (Bool)) (g_p1 : Nat) (c_p1 : List D) (h_p1 : ∀ (x0 : Task) (r : Bool), p1 x0 = some r → FnRO Try.prog G g_p1 ([.agg [.d (.b x0.Write), .d (.i .i64 x0.Label), .d (.i .i64 x0.Key), .d (.i .i64 x0.Value), .d (.i .i64 x0.Version), .d (.i .i64 x0.Ask), .d (.b x0.Done), .d (.b x0.Sure)]] ++ c_p1.map fun d => .one (.d d)) (fun rs => rs = [.one (.b r)])) (r : Int) (h : slices_IndexFunc_Task p0 p1 = some r) : FnRO Try.prog G 68 [.one (.d (.l 8 (p0.map Task.enc))), .one (.d (.f g_p1 c_p1))] (fun rs => rs = [.one (.i .i64 r)]) := by
 refine FnRO.of' low68 fok68 (by simp [F68]) ?_
 rw [slices_IndexFunc_Task] at h
 replace h := Hd.mk h
 simp only [F68, go_sem]
 try simp only [*, go_sem]
 intro hl1
 try simp only [*, go_sem]
 refine jn0 h ([]) ([]) (fun k3 h => ?_) (fun h => ?_)
 try simp only [*, go_sem]
 refine lp1 (slices_IndexFunc_Task_L1 p0 p1 k3) (fun a4_1 => [zL 0 8 (p0.map Task.enc), (1, .one (.d (.f g_p1 c_p1))), zI 7 ((p0.length : Nat) : Int), zI 8 ((a4_1 : Nat) : Int)]) (fun a4_1 => []) h [] [] (fun n5 a4_1 h => ?_) (by intros; rw [slices_IndexFunc_Task_L1])
 rw [slices_IndexFunc_Task_L1] at h
 refine oi h (fun hb6 h => ?_) (fun hb6 h => ?_)
 have := of_decide_eq_true hb6
 refine obg h (fun x7 _ hkx7 h => ?_)
 try simp only [*, go_sem]
 refine cr h (h_p1 x7) (fun v8 h => ?_)
 refine oi h (fun hb9 h => ?_) (fun hb9 h => ?_)
 cases h.e
 simp only [*, go_sem, mA, mS]
 have := wrap_succ_max hkx7 hl1
 try simp only [*, go_sem]
 exact lc (a4_1 + 1) h.e []
 try simp only [*, go_sem]
 exact jc () h.e []
 cases h.e
 simp only [*, go_sem, mA, mS]
def slices_ContainsFunc_Task (p0 : List Task) (p1 : Task → Option (Bool)) : Option (Bool) := (Option.bind (slices_IndexFunc_Task p0 p1) fun v1 => (some (decide (v1 ≥ 0))))
def F60 : VFn := ⟨9, (.seq (.reg [vo 4 (.mv (cb false))]) (.seq (.reg [vm 5 0, vm 6 1, vo 7 (.call 68 [(.t 5), (.t 6)]), bk 8 .geq 7 0, vm 4 8]) .ret)), [.t 4]⟩
theorem low60 : lowF Try.prog 60 = some F60.strip := by kernel_rfl
theorem fok60 : fOk Try.prog 60 = true := by kernel_rfl
theorem slices_ContainsFunc_Task_ok (p0 : List Task) (p1 : Task → Option (Bool)) (g_p1 : Nat) (c_p1 : List D) (h_p1 : ∀ (x0 : Task) (r : Bool), p1 x0 = some r → FnRO Try.prog G g_p1 ([.agg [.d (.b x0.Write), .d (.i .i64 x0.Label), .d (.i .i64 x0.Key), .d (.i .i64 x0.Value), .d (.i .i64 x0.Version), .d (.i .i64 x0.Ask), .d (.b x0.Done), .d (.b x0.Sure)]] ++ c_p1.map fun d => .one (.d d)) (fun rs => rs = [.one (.b r)])) (r : Bool) (h : slices_ContainsFunc_Task p0 p1 = some r) : FnRO Try.prog G 60 [.one (.d (.l 8 (p0.map Task.enc))), .one (.d (.f g_p1 c_p1))] (fun rs => rs = [.one (.b r)]) := by
 refine FnRO.of' low60 fok60 (by simp [F60]) ?_
 rw [slices_ContainsFunc_Task] at h
 replace h := Hd.mk h
 simp only [F60, go_sem]
 try simp only [*, go_sem]
 refine cr h (slices_IndexFunc_Task_ok G p0 p1 g_p1 c_p1 h_p1) (fun v1 h => ?_)
 cases h.e
 simp only [*, go_sem, mA, mS]
def coord_work_commit_1 (p0 : Task) : Option (Bool) := (some p0.Write)
def F61 : VFn := ⟨5, (.seq (.reg [vo 1 (.boxk 8 (.t 0)), vo 2 (.mv (cb false))]) (.seq (.reg [vf 3 0 1, vs 4 3, vm 2 4]) .ret)), [.t 2]⟩
theorem low61 : lowF Try.prog 61 = some F61.strip := by kernel_rfl
theorem fok61 : fOk Try.prog 61 = true := by kernel_rfl
theorem coord_work_commit_1_ok (p0 : Task) (r : Bool) (h : coord_work_commit_1 p0 = some r) : FnRO Try.prog G 61 [.agg p0.bx] (fun rs => rs = [.one (.b r)]) := by
 refine FnRO.of' low61 fok61 (by simp [F61]) ?_
 rw [coord_work_commit_1] at h
 replace h := Hd.mk h
 simp only [F61, go_sem]
 cases h.e
 simp only [*, go_sem, mA, mS]
def F40 : VFn := ⟨21, (.seq (.gho (.reg [vo 3 (.box 6 (.t 1))])) (.seq (.gho (.reg [vf 6 3 3, vs 7 6, ln 8 7, mi 9 0])) (.wk (.block 0 (.loop (.seq (.gho (.reg [bt 10 .lss 9 8])) (.seq (.cond (.t 10) .skip (.exit 0)) (.seq (.block 1 (.seq (.gho (.reg [xa 11 1 7 9, vs 12 11, vm 5 12])) (.gho (.reg [vm 13 0, vm 14 5, vf 15 0 3, vs 16 15, vo 17 (.call 48 [(.t 13), (ci 4), (.t 14), (.t 16)]), vo 18 (.nilchk (.t 17)), vf 19 10 18, vu (.st 1 (.t 19) (cb true))])))) (.gho (.reg [bk 20 .add 9 1, vm 9 20])))))))))), []⟩
theorem low40 : lowF Try.prog 40 = some F40.strip := by kernel_rfl
theorem fok40 : fOk Try.prog 40 = true := by kernel_rfl
def coord_work_commit_L1 (p0 : CoordWork) (x1 : Job) (k5 : (List Int) → Option (CoordWork)) : Nat → Nat → (List Int) → Option (CoordWork)
 | 0, _, _ => none
 | n7 + 1, a6_1, a6_2 => (if (decide (a6_1 < x1.Tasks.length)) = true then (Option.bind (x1.Tasks[a6_1]?) fun x9 => (if p0.c.Sites = 0 then none else (if (x9.Label == p0.l) = true then (Option.bind (slices_Contains_int a6_2 (x9.Key.tmod p0.c.Sites)) fun v12 => (withK (fun (b13_1 : Bool) (b13_2 : List Int) => (coord_work_commit_L1 p0 x1 k5 n7 (a6_1 + 1) b13_2)) fun k14 => (if (!v12) = true then (if fits 8 (a6_2.length + 1) then (k14 true (a6_2 ++ [x9.Key.tmod p0.c.Sites])) else none) else (k14 false a6_2)))) else (withK (coord_work_commit_L1 p0 x1 k5 n7 (a6_1 + 1) a6_2) fun k19 => k19)))) else (k5 a6_2))
def coord_work_commit_L4 (k35 : (List Int) → Option (CoordWork)) : Nat → Int → (List Int) → Option (CoordWork)
 | 0, _, _ => none
 | n37 + 1, a36_1, a36_2 => (if (decide (a36_1 > 0)) = true then (if 0 ≤ a36_1 then (Option.bind (a36_2[a36_1.toNat]?) fun x39 => (if 0 ≤ IntKind.i64.wrap (a36_1 - 1) then (Option.bind (a36_2[(IntKind.i64.wrap (a36_1 - 1)).toNat]?) fun x41 => (Option.bind (cmp_Less x39 x41) fun v43 => (if v43 = true then (if 0 ≤ IntKind.i64.wrap (a36_1 - 1) then (Option.bind ((a36_2.set a36_1.toNat x41)[(IntKind.i64.wrap (a36_1 - 1)).toNat]?) fun x45 => (coord_work_commit_L4 k35 n37 (IntKind.i64.wrap (a36_1 - 1)) ((a36_2.set a36_1.toNat x41).set ((IntKind.i64.wrap (a36_1 - 1)).toNat) x39))) else none) else (k35 a36_2)))) else none)) else none) else (k35 a36_2))
def coord_work_commit_L3 (b4_1 : List Int) (k30 : (List Int) → Option (CoordWork)) : Nat → Nat → (List Int) → Option (CoordWork)
 | 0, _, _ => none
 | n32 + 1, a31_1, a31_2 => (if (decide (a31_1 < b4_1.length)) = true then (withK (fun (b34_1 : List Int) => (coord_work_commit_L3 b4_1 k30 n32 (a31_1 + 1) b34_1)) fun k35 => (coord_work_commit_L4 k35 ((((a31_1 : Nat) : Int)).toNat + 1) ((a31_1 : Nat) : Int) a31_2)) else (k30 a31_2))
def coord_work_commit_L2 (b4_1 : List Int) (k23 : (List Int) → Option (CoordWork)) : Nat → Option (CoordWork)
 | 0 => none
 | n26 + 1 => (if (decide (IntKind.i64.wrap (((b4_1.length : Nat) : Int)) ≤ 12)) = true then (withK (fun (b29_1 : List Int) => (k23 b29_1)) fun k30 => (coord_work_commit_L3 b4_1 k30 (b4_1.length + 1) 1 b4_1)) else none)
def coord_work_commit_L5 (p0 : CoordWork) (x1 : Job) (b22_1 : List Int) (k62 : (List Message) → Option (CoordWork)) : Nat → Nat → (List Message) → Option (CoordWork)
 | 0, _, _ => none
 | n64 + 1, a63_1, a63_2 => (if (decide (a63_1 < b22_1.length)) = true then (Option.bind (b22_1[a63_1]?) fun x66 => (if fits 96 (a63_2.length + 1) then (coord_work_commit_L5 p0 x1 b22_1 k62 n64 (a63_1 + 1) (a63_2 ++ [(Message.mk 4 p0.me x66 (Txn.mk p0.me x1.N) 0 0 0 0 0 true 0)])) else none)) else (k62 a63_2))
def coord_work_commit (p0 : CoordWork) (p1 : Int) : Option (CoordWork) := (if 0 ≤ p1 then (Option.bind (p0.turn.Desk.Jobs[p1.toNat]?) fun x1 => (withK (fun (b4_1 : List Int) => (withK (fun (b22_1 : List Int) => (if fits 48 (p0.turn.Replies.length + 1) then (if (((b22_1.length : Nat) : Int) == 0) = true then (Option.bind (deleteF (p0.turn.Desk.Jobs.set p1.toNat x1) p1 (IntKind.i64.wrap (p1 + 1))) fun v52 => (some (CoordWork.mk p0.c p0.l p0.me (Turn.mk (Desk.mk p0.turn.Desk.Next v52) p0.turn.Messages p0.turn.Records (p0.turn.Replies ++ [(Reply.mk p0.me 4 x1.N 0 0 0)]) p0.turn.Sure x1.N)))) else (Option.bind (slices_ContainsFunc_Task x1.Tasks (fun y53 => coord_work_commit_1 y53)) fun v54 => (withK (fun (b55_1 : List Record) => (withK (fun (b61_1 : List Message) => (some (CoordWork.mk p0.c p0.l p0.me (Turn.mk (Desk.mk p0.turn.Desk.Next (p0.turn.Desk.Jobs.set p1.toNat (Job.mk x1.N 3 x1.Tasks b22_1 x1.Asks 0))) b61_1 b55_1 (p0.turn.Replies ++ [(Reply.mk p0.me 4 x1.N 0 0 0)]) p0.turn.Sure x1.N)))) fun k62 => (coord_work_commit_L5 p0 x1 b22_1 k62 (b22_1.length + 1) 0 p0.turn.Messages))) fun k56 => (if v54 = true then (Option.bind (cloneF 8 b22_1) fun v58 => (if fits 80 (p0.turn.Records.length + 1) then (k56 (p0.turn.Records ++ [(Record.mk 3 (Txn.mk p0.me x1.N) 0 0 0 false v58)])) else none)) else (k56 p0.turn.Records))))) else none)) fun k23 => (Option.bind (math_bits_Len (IntKind.u64.wrap (((b4_1.length : Nat) : Int)))) fun v24 => (coord_work_commit_L2 b4_1 k23 1)))) fun k5 => (coord_work_commit_L1 p0 x1 k5 (x1.Tasks.length + 1) 0 []))) else none)
def F50 : VFn := ⟨67, (.seq (.reg [vm 6 0, vo 7 (.nilchk (.t 6)), vf 8 5 7, vf 9 0 8, vf 10 1 9, vs 11 10, vm 12 1, xa 13 6 11 12, vm 4 13]) (.seq (.gho (.reg [vm 14 0, vm 15 4, vo 16 (.nilchk (.t 15)), vl 17 6 16, vo 18 (.call 51 [(.t 14), (.t 17)]), vm 5 18])) (.seq (.reg [vm 19 0, vm 20 4, vo 21 (.nilchk (.t 20)), vf 22 0 21, vs 23 22, vo 24 (.nilchk (.t 19)), vf 25 5 24, vf 26 6 25, vu (.st 1 (.t 26) (.t 23))]) (.seq (.reg [vm 27 0, vm 28 4, vo 29 (.nilchk (.t 28)), vf 30 0 29, vs 31 30, vo 32 (.call 28 [(.t 27), (ci 4), (.t 31), (ci 0), (ci 0), (ci 0)])]) (.seq (.seq (.reg [vm 33 5, ln 34 33, bk 35 .eql 34 0]) (.cond (.t 35) (.seq (.reg [vm 36 0, vm 37 1, vo 38 (.call 52 [(.t 36), (.t 37)])]) .ret) .skip)) (.seq (.seq (.reg [vm 39 4, vo 40 (.nilchk (.t 39)), vf 41 2 40, vs 42 41, vo 43 (.call 60 [(.t 42), (.fn 61)])]) (.wk (.cond (.t 43) (.drawt 7 [vd (vm 44 0) 0, vd (vm 45 4) 0, vd (vo 46 (.nilchk (.t 45))) 2, vd (vf 47 0 46) 6, vd (vs 48 47) 14, vd (vm 49 5) 0, vd (vo 50 (.call 57 [(.t 49)])) 32, vd (vo 51 (.call 46 [(.t 44), (ci 3), (.t 48), (.t 50)])) 127]) .skip))) (.seq (.reg [vm 52 4, vm 53 4, vm 54 4, vm 55 5, vo 56 (.nilchk (.t 52)), vf 57 1 56, vu (.st 1 (.t 57) (ci 3)), vo 58 (.nilchk (.t 53)), vf 59 3 58, vu (.st 1 (.t 59) (.t 55)), vo 60 (.nilchk (.t 54)), vf 61 5 60, vu (.st 1 (.t 61) (ci 0))]) (.reg [vm 62 0, vm 63 4, vo 64 (.nilchk (.t 63)), vl 65 6 64, vo 66 (.call 40 [(.t 62), (.t 65)])])))))))), []⟩
theorem low50 : lowF Try.prog 50 = some F50.strip := by kernel_rfl
theorem fok50 : fOk Try.prog 50 = true := by kernel_rfl
theorem coord_work_commit_ok (p0 : CoordWork) (p1 : Int) (r : CoordWork) (h : coord_work_commit p0 p1 = some r) : FnX Try.prog G 50 [ptrX, .one (.d (.i .i64 p1))] [.i .i64 p0.c.Sites, .l 2 (p0.c.Labels.map Label.enc), .i .i64 p0.c.Patience, .i .i64 p0.l, .i .i64 p0.me, .i .i64 p0.turn.Desk.Next, .t 6 (p0.turn.Desk.Jobs.map Job.encO), .o 12 (p0.turn.Messages.map Message.enc), .o 8 (p0.turn.Records.map Record.enc), .o 6 (p0.turn.Replies.map Reply.enc), .i .i64 p0.turn.Sure, .i .i64 p0.turn.Committed] (fun c rs => c = [.i .i64 r.c.Sites, .l 2 (r.c.Labels.map Label.enc), .i .i64 r.c.Patience, .i .i64 r.l, .i .i64 r.me, .i .i64 r.turn.Desk.Next, .t 6 (r.turn.Desk.Jobs.map Job.encO), .o 12 (r.turn.Messages.map Message.enc), .o 8 (r.turn.Records.map Record.enc), .o 6 (r.turn.Replies.map Reply.enc), .i .i64 r.turn.Sure, .i .i64 r.turn.Committed] ∧ rs = []) := by
 refine FnX.of [0, 1, 0, 0, 0, 0, 2] low50 fok50 (by exact Nat.le_of_ble_eq_true rfl) (by exact Nat.le_of_ble_eq_true rfl) ?_
 rw [coord_work_commit] at h
 replace h := Hd.mk h
 simp only [F50, go_sem]
 refine obn h (fun x1 _ _ _ _ h => ?_)
 try simp only [*, go_sem]
 refine gho_lk _ G _ _ [.f 1 p1.toNat] ?_
 try simp only [*, go_sem]
 try simp only [*, go_sem]
 refine cx low51 fok51 ?_
 simp only [*, F51, go_sem]
 try simp only [*, go_sem]
 intro hl3
 try simp only [*, go_sem]
 refine jn1 h (fun b4_1 => [zR 5 0 0 b4_1.length, zP 1000000 1, zI 1000001 p1, (1000004, .one (.p (.q 2 p1.toNat 0))), zP 2000000 1]) (fun b4_1 => [oa 1 (b4_1.map encI), ox [zi p0.c.Sites, .d (.l 2 (p0.c.Labels.map Label.enc)), zi p0.c.Patience, zi p0.l, zi p0.me, zi p0.turn.Desk.Next, .r 2 0 p0.turn.Desk.Jobs.length, .r 3 0 p0.turn.Messages.length, .r 4 0 p0.turn.Records.length, .r 5 0 p0.turn.Replies.length, zi p0.turn.Sure, zi p0.turn.Committed], og 6 (p0.turn.Desk.Jobs.map Job.encO) p1.toNat [zi x1.N, zi x1.State, .r 6 0 x1.Tasks.length, .r 7 0 x1.Asked.length, zi x1.Asks, zi x1.Age], oa 12 (p0.turn.Messages.map Message.enc), oa 8 (p0.turn.Records.map Record.enc), oa 6 (p0.turn.Replies.map Reply.enc), oa 8 (x1.Tasks.map Task.enc), oa 1 (x1.Asked.map encI)]) (fun k5 h => ?_) (fun b4_1 h => ?_)
 try simp only [*, go_sem]
 refine lp2 (coord_work_commit_L1 p0 x1 k5) (fun a6_1 a6_2 => [zP 0 0, zR 5 1 0 a6_2.length, zR 10 2 0 x1.Tasks.length, zI 11 ((x1.Tasks.length : Nat) : Int), zI 12 ((a6_1 : Nat) : Int), zP 1000000 0, zI 1000001 p1, (1000004, .one (.p (.q 3 p1.toNat 0))), zP 2000000 0]) (fun a6_1 a6_2 => [ox [zi p0.c.Sites, .d (.l 2 (p0.c.Labels.map Label.enc)), zi p0.c.Patience, zi p0.l, zi p0.me, zi p0.turn.Desk.Next, .r 3 0 p0.turn.Desk.Jobs.length, .r 4 0 p0.turn.Messages.length, .r 5 0 p0.turn.Records.length, .r 6 0 p0.turn.Replies.length, zi p0.turn.Sure, zi p0.turn.Committed], oa 1 (a6_2.map encI), oa 8 (x1.Tasks.map Task.enc), og 6 (p0.turn.Desk.Jobs.map Job.encO) p1.toNat [zi x1.N, zi x1.State, .r 2 0 x1.Tasks.length, .r 7 0 x1.Asked.length, zi x1.Asks, zi x1.Age], oa 12 (p0.turn.Messages.map Message.enc), oa 8 (p0.turn.Records.map Record.enc), oa 6 (p0.turn.Replies.map Reply.enc), oa 1 (x1.Asked.map encI)]) h [] [some 0, none, some 5, some 1, some 2, some 3, some 4, some 6] (fun n7 a6_1 a6_2 h => ?_) (by intros; rw [coord_work_commit_L1])
 rw [coord_work_commit_L1] at h
 refine oi h (fun hb8 h => ?_) (fun hb8 h => ?_)
 have := of_decide_eq_true hb8
 refine obg h (fun x9 _ hkx9 h => ?_)
 refine ckn h (fun _ h => ?_)
 refine oi h (fun hb11 h => ?_) (fun hb11 h => ?_)
 refine obk h (fun v12 hv12 h => ?_)
 try simp only [*, go_sem]
 refine cdl (slices_Contains_int_ok G a6_2 (x9.Key.tmod p0.c.Sites) v12 hv12) ?_
 try simp only [*, go_sem]
 refine jn2 h (fun b13_1 b13_2 => [zP 0 0, zR 5 1 0 b13_2.length, zR 10 2 0 x1.Tasks.length, zI 11 ((x1.Tasks.length : Nat) : Int), zI 12 ((a6_1 : Nat) : Int), zI 33 (x9.Key.tmod p0.c.Sites), zB 34 v12, zB 35 b13_1, zP 1000000 0, zI 1000001 p1, (1000004, .one (.p (.q 3 p1.toNat 0))), zP 2000000 0]) (fun b13_1 b13_2 => [ox [zi p0.c.Sites, .d (.l 2 (p0.c.Labels.map Label.enc)), zi p0.c.Patience, zi p0.l, zi p0.me, zi p0.turn.Desk.Next, .r 3 0 p0.turn.Desk.Jobs.length, .r 4 0 p0.turn.Messages.length, .r 5 0 p0.turn.Records.length, .r 6 0 p0.turn.Replies.length, zi p0.turn.Sure, zi p0.turn.Committed], oa 1 (b13_2.map encI), oa 8 (x1.Tasks.map Task.enc), og 6 (p0.turn.Desk.Jobs.map Job.encO) p1.toNat [zi x1.N, zi x1.State, .r 2 0 x1.Tasks.length, .r 7 0 x1.Asked.length, zi x1.Asks, zi x1.Age], oa 12 (p0.turn.Messages.map Message.enc), oa 8 (p0.turn.Records.map Record.enc), oa 6 (p0.turn.Replies.map Reply.enc), oa 1 (x1.Asked.map encI)]) (fun k14 h => ?_) (fun b13_1 b13_2 h => ?_)
 refine oin h (fun hb15 hkhb15 h => ?_) (fun hb15 hkhb15 h => ?_)
 refine ck h (fun _ h => ?_)
 try simp only [*, go_sem]
 exact jc (true, (a6_2 ++ [x9.Key.tmod p0.c.Sites])) h.e [some 0, some 32, some 2, some 3, some 4, some 5, some 6, some 7]
 try simp only [*, go_sem]
 exact jc (false, a6_2) h.e [some 0, some 1, some 2, some 3, some 4, some 5, some 6, some 7]
 have := wrap_succ_max hkx9 hl3
 try simp only [*, go_sem]
 exact lc (a6_1 + 1, b13_2) h.e [some 0, some 1, some 2, some 3, some 4, some 5, some 6, some 7]
 try simp only [*, go_sem]
 refine jn0 h ([zP 0 0, zR 5 1 0 a6_2.length, zR 10 2 0 x1.Tasks.length, zI 11 ((x1.Tasks.length : Nat) : Int), zI 12 ((a6_1 : Nat) : Int), zP 1000000 0, zI 1000001 p1, (1000004, .one (.p (.q 3 p1.toNat 0))), zP 2000000 0]) ([ox [zi p0.c.Sites, .d (.l 2 (p0.c.Labels.map Label.enc)), zi p0.c.Patience, zi p0.l, zi p0.me, zi p0.turn.Desk.Next, .r 3 0 p0.turn.Desk.Jobs.length, .r 4 0 p0.turn.Messages.length, .r 5 0 p0.turn.Records.length, .r 6 0 p0.turn.Replies.length, zi p0.turn.Sure, zi p0.turn.Committed], oa 1 (a6_2.map encI), oa 8 (x1.Tasks.map Task.enc), og 6 (p0.turn.Desk.Jobs.map Job.encO) p1.toNat [zi x1.N, zi x1.State, .r 2 0 x1.Tasks.length, .r 7 0 x1.Asked.length, zi x1.Asks, zi x1.Age], oa 12 (p0.turn.Messages.map Message.enc), oa 8 (p0.turn.Records.map Record.enc), oa 6 (p0.turn.Replies.map Reply.enc), oa 1 (x1.Asked.map encI)]) (fun k19 h => ?_) (fun h => ?_)
 try simp only [*, go_sem]
 exact jc () h.e [some 0, some 1, some 2, some 3, some 4, some 5, some 6, some 7]
 have := wrap_succ_max hkx9 hl3
 try simp only [*, go_sem]
 exact lc (a6_1 + 1, a6_2) h.e [some 0, some 1, some 2, some 3, some 4, some 5, some 6, some 7]
 try simp only [*, go_sem]
 exact jc (a6_2) h.e [some 1, some 0, some 3, some 4, some 5, some 6, some 2, some 7]
 try simp only [*, go_sem]
 refine cx low63 fok63 ?_
 simp only [*, F63, go_sem]
 try simp only [*, go_sem]
 intro hl21
 try simp only [*, go_sem]
 refine jn1 h (fun b22_1 => [zR 1000005 0 0 b22_1.length, zP 2000000 1, zI 2000001 p1, (2000004, .one (.p (.q 2 p1.toNat 0))), zP 3000000 1]) (fun b22_1 => [oa 1 (b22_1.map encI), ox [zi p0.c.Sites, .d (.l 2 (p0.c.Labels.map Label.enc)), zi p0.c.Patience, zi p0.l, zi p0.me, zi p0.turn.Desk.Next, .r 2 0 p0.turn.Desk.Jobs.length, .r 3 0 p0.turn.Messages.length, .r 4 0 p0.turn.Records.length, .r 5 0 p0.turn.Replies.length, zi p0.turn.Sure, zi p0.turn.Committed], og 6 (p0.turn.Desk.Jobs.map Job.encO) p1.toNat [zi x1.N, zi x1.State, .r 6 0 x1.Tasks.length, .r 7 0 x1.Asked.length, zi x1.Asks, zi x1.Age], oa 12 (p0.turn.Messages.map Message.enc), oa 8 (p0.turn.Records.map Record.enc), oa 6 (p0.turn.Replies.map Reply.enc), oa 8 (x1.Tasks.map Task.enc), oa 1 (x1.Asked.map encI)]) (fun k23 h => ?_) (fun b22_1 h => ?_)
 try simp only [*, go_sem]
 refine cr h (math_bits_Len_ok G (IntKind.u64.wrap (((b4_1.length : Nat) : Int)))) (fun v24 h => ?_)
 try simp only [*, go_sem]
 refine cx low70 fok70 ?_
 simp only [*, F70, go_sem]
 refine jz ?_
 try simp only [*, go_sem]
 refine lp0 (coord_work_commit_L2 b4_1 k23) ([zR 0 0 0 b4_1.length, zI 1 0, zI 2 ((b4_1.length : Nat) : Int), zI 3 v24, zB 8 true, zB 9 true, zR 2000005 0 0 b4_1.length, zP 3000000 1, zI 3000001 p1, (3000004, .one (.p (.q 2 p1.toNat 0))), zP 4000000 1]) ([oa 1 (b4_1.map encI), ox [zi p0.c.Sites, .d (.l 2 (p0.c.Labels.map Label.enc)), zi p0.c.Patience, zi p0.l, zi p0.me, zi p0.turn.Desk.Next, .r 2 0 p0.turn.Desk.Jobs.length, .r 3 0 p0.turn.Messages.length, .r 4 0 p0.turn.Records.length, .r 5 0 p0.turn.Replies.length, zi p0.turn.Sure, zi p0.turn.Committed], og 6 (p0.turn.Desk.Jobs.map Job.encO) p1.toNat [zi x1.N, zi x1.State, .r 6 0 x1.Tasks.length, .r 7 0 x1.Asked.length, zi x1.Asks, zi x1.Age], oa 12 (p0.turn.Messages.map Message.enc), oa 8 (p0.turn.Records.map Record.enc), oa 6 (p0.turn.Replies.map Reply.enc), oa 8 (x1.Tasks.map Task.enc), oa 1 (x1.Asked.map encI)]) h [] [some 0, some 1, some 2, some 3, some 4, some 5, some 6, some 7] (fun n26 h => ?_) (by intros; rw [coord_work_commit_L2])
 rw [coord_work_commit_L2] at h
 refine oi h (fun hb27 h => ?_) (fun hb27 h => ?_)
 try simp only [*, go_sem]
 refine cx low72 fok72 ?_
 simp only [*, F72, go_sem]
 have : IntKind.i64.wrap (0 + 1) = 1 := by decide
 have : IntKind.i64.wrap 1 = 1 := by decide
 try simp only [*, go_sem]
 refine jn1 h (fun b29_1 => [zR 3000005 0 0 b29_1.length, zP 4000000 1, zI 4000001 p1, (4000004, .one (.p (.q 2 p1.toNat 0))), zP 5000000 1]) (fun b29_1 => [oa 1 (b29_1.map encI), ox [zi p0.c.Sites, .d (.l 2 (p0.c.Labels.map Label.enc)), zi p0.c.Patience, zi p0.l, zi p0.me, zi p0.turn.Desk.Next, .r 2 0 p0.turn.Desk.Jobs.length, .r 3 0 p0.turn.Messages.length, .r 4 0 p0.turn.Records.length, .r 5 0 p0.turn.Replies.length, zi p0.turn.Sure, zi p0.turn.Committed], og 6 (p0.turn.Desk.Jobs.map Job.encO) p1.toNat [zi x1.N, zi x1.State, .r 6 0 x1.Tasks.length, .r 7 0 x1.Asked.length, zi x1.Asks, zi x1.Age], oa 12 (p0.turn.Messages.map Message.enc), oa 8 (p0.turn.Records.map Record.enc), oa 6 (p0.turn.Replies.map Reply.enc), oa 8 (x1.Tasks.map Task.enc), oa 1 (x1.Asked.map encI)]) (fun k30 h => ?_) (fun b29_1 h => ?_)
 try simp only [*, go_sem]
 refine lp2 (coord_work_commit_L3 b4_1 k30) (fun a31_1 a31_2 => [zR 0 0 0 a31_2.length, zI 1 0, zI 2 ((b4_1.length : Nat) : Int), zI 6 ((a31_1 : Nat) : Int), zR 3000005 0 0 a31_2.length, zP 4000000 1, zI 4000001 p1, (4000004, .one (.p (.q 2 p1.toNat 0))), zP 5000000 1]) (fun a31_1 a31_2 => [oa 1 (a31_2.map encI), ox [zi p0.c.Sites, .d (.l 2 (p0.c.Labels.map Label.enc)), zi p0.c.Patience, zi p0.l, zi p0.me, zi p0.turn.Desk.Next, .r 2 0 p0.turn.Desk.Jobs.length, .r 3 0 p0.turn.Messages.length, .r 4 0 p0.turn.Records.length, .r 5 0 p0.turn.Replies.length, zi p0.turn.Sure, zi p0.turn.Committed], og 6 (p0.turn.Desk.Jobs.map Job.encO) p1.toNat [zi x1.N, zi x1.State, .r 6 0 x1.Tasks.length, .r 7 0 x1.Asked.length, zi x1.Asks, zi x1.Age], oa 12 (p0.turn.Messages.map Message.enc), oa 8 (p0.turn.Records.map Record.enc), oa 6 (p0.turn.Replies.map Reply.enc), oa 8 (x1.Tasks.map Task.enc), oa 1 (x1.Asked.map encI)]) h [] [some 0, some 1, some 2, some 3, some 4, some 5, some 6, some 7] (fun n32 a31_1 a31_2 h => ?_) (by intros; rw [coord_work_commit_L3])
 rw [coord_work_commit_L3] at h
 refine oi h (fun hb33 h => ?_) (fun hb33 h => ?_)
 have hkhb33 := of_decide_eq_true hb33
 try simp only [*, go_sem]
 refine jn1 h (fun b34_1 => [zR 0 0 0 b34_1.length, zI 1 0, zI 2 ((b4_1.length : Nat) : Int), zI 6 ((a31_1 : Nat) : Int), zR 3000005 0 0 b34_1.length, zP 4000000 1, zI 4000001 p1, (4000004, .one (.p (.q 2 p1.toNat 0))), zP 5000000 1]) (fun b34_1 => [oa 1 (b34_1.map encI), ox [zi p0.c.Sites, .d (.l 2 (p0.c.Labels.map Label.enc)), zi p0.c.Patience, zi p0.l, zi p0.me, zi p0.turn.Desk.Next, .r 2 0 p0.turn.Desk.Jobs.length, .r 3 0 p0.turn.Messages.length, .r 4 0 p0.turn.Records.length, .r 5 0 p0.turn.Replies.length, zi p0.turn.Sure, zi p0.turn.Committed], og 6 (p0.turn.Desk.Jobs.map Job.encO) p1.toNat [zi x1.N, zi x1.State, .r 6 0 x1.Tasks.length, .r 7 0 x1.Asked.length, zi x1.Asks, zi x1.Age], oa 12 (p0.turn.Messages.map Message.enc), oa 8 (p0.turn.Records.map Record.enc), oa 6 (p0.turn.Replies.map Reply.enc), oa 8 (x1.Tasks.map Task.enc), oa 1 (x1.Asked.map encI)]) (fun k35 h => ?_) (fun b34_1 h => ?_)
 try simp only [*, go_sem]
 refine lp2 (coord_work_commit_L4 k35) (fun a36_1 a36_2 => [zR 0 0 0 a36_2.length, zI 1 0, zI 2 ((b4_1.length : Nat) : Int), zI 6 ((a31_1 : Nat) : Int), zI 7 a36_1, zR 3000005 0 0 a36_2.length, zP 4000000 1, zI 4000001 p1, (4000004, .one (.p (.q 2 p1.toNat 0))), zP 5000000 1]) (fun a36_1 a36_2 => [oa 1 (a36_2.map encI), ox [zi p0.c.Sites, .d (.l 2 (p0.c.Labels.map Label.enc)), zi p0.c.Patience, zi p0.l, zi p0.me, zi p0.turn.Desk.Next, .r 2 0 p0.turn.Desk.Jobs.length, .r 3 0 p0.turn.Messages.length, .r 4 0 p0.turn.Records.length, .r 5 0 p0.turn.Replies.length, zi p0.turn.Sure, zi p0.turn.Committed], og 6 (p0.turn.Desk.Jobs.map Job.encO) p1.toNat [zi x1.N, zi x1.State, .r 6 0 x1.Tasks.length, .r 7 0 x1.Asked.length, zi x1.Asks, zi x1.Age], oa 12 (p0.turn.Messages.map Message.enc), oa 8 (p0.turn.Records.map Record.enc), oa 6 (p0.turn.Replies.map Reply.enc), oa 8 (x1.Tasks.map Task.enc), oa 1 (x1.Asked.map encI)]) h [] [some 0, some 1, some 2, some 3, some 4, some 5, some 6, some 7] (fun n37 a36_1 a36_2 h => ?_) (by intros; rw [coord_work_commit_L4])
 rw [coord_work_commit_L4] at h
 refine oi h (fun hb38 h => ?_) (fun hb38 h => ?_)
 refine obn h (fun x39 _ _ _ _ h => ?_)
 refine obn h (fun x41 _ _ _ _ h => ?_)
 refine obk h (fun v43 hv43 h => ?_)
 try simp only [*, go_sem]
 refine cd (cmp_Less_ok G x39 x41 v43 hv43) ?_
 refine oi h (fun hb44 h => ?_) (fun hb44 h => ?_)
 refine ck h (fun _ h => ?_)
 refine obg h (fun x45 hx45 hkx45 h => ?_)
 try simp only [List.length_take, List.length_drop, List.length_append, List.length_set, List.length_map, List.length_cons, List.length_nil, Nat.zero_add] at hkx45
 have : IntKind.i64.wrap (a36_1 - 1) < ((a36_2.length : Nat) : Int) := by omega
 have : ((a36_2.map encI).set a36_1.toNat [.i .i64 x41])[(IntKind.i64.wrap (a36_1 - 1)).toNat]? = some [.i .i64 x45] := by rw [show ([.i .i64 x41] : List D) = encI x41 from rfl, ← List.map_set, List.getElem?_map, hx45]; rfl
 try simp only [*, go_sem]
 exact lc (IntKind.i64.wrap (a36_1 - 1), ((a36_2.set a36_1.toNat x41).set ((IntKind.i64.wrap (a36_1 - 1)).toNat) x39)) h.e [some 0, some 1, some 2, some 3, some 4, some 5, some 6, some 7]
 try simp only [*, go_sem]
 exact jc (a36_2) h.e [some 0, some 1, some 2, some 3, some 4, some 5, some 6, some 7]
 try simp only [*, go_sem]
 exact jc (a36_2) h.e [some 0, some 1, some 2, some 3, some 4, some 5, some 6, some 7]
 have := wrap_succ_max hkhb33 hl21
 try simp only [*, go_sem]
 exact lc (a31_1 + 1, b34_1) h.e [some 0, some 1, some 2, some 3, some 4, some 5, some 6, some 7]
 try simp only [*, go_sem]
 exact jc (a31_2) h.e [some 0, some 1, some 2, some 3, some 4, some 5, some 6, some 7]
 try simp only [*, go_sem]
 exact jc (b29_1) h.e [some 0, some 1, some 2, some 3, some 4, some 5, some 6, some 7]
 cases h.e
 try simp only [*, go_sem]
 refine cx low28 fok28 ?_
 simp only [*, F28, go_sem]
 try simp only [*, go_sem]
 refine gho_lk _ G _ _ [] ?_
 try simp only [*, go_sem]
 refine ck h (fun _ h => ?_)
 try simp only [*, go_sem]
 intro hl50
 refine oi h (fun hb51 h => ?_) (fun hb51 h => ?_)
 try simp only [*, go_sem]
 refine cx low52 fok52 ?_
 simp only [*, F52, go_sem]
 try simp only [*, go_sem]
 refine gho_lk _ G _ _ [.u 2] ?_
 try simp only [*, go_sem]
 refine obk h (fun v52 hv52 h => ?_)
 try simp only [*, go_sem]
 refine delete_callFT (p0.turn.Desk.Jobs.set p1.toNat x1) del64 (enc := Job.encO) hv52 (by first | rfl | (simp only [*, go_sem]; done) | (simp only [*, go_sem, List.map_set, List.map_append, List.map_cons, List.map_nil]; done)) (by first | rfl | simp only [List.length_take, List.length_drop, List.length_append, List.length_set, List.length_map, List.length_cons, List.length_nil, Nat.zero_add, List.length_set]) ?_
 cases h.e
 try simp only [*, go_sem]
 refine eti [] ?_
 simp only [*, go_sem, mA, mS]
 try simp only [*, go_sem]
 refine cl h (slices_ContainsFunc_Task_ok G x1.Tasks (fun y53 => coord_work_commit_1 y53) 61 [] (fun y53 r h => coord_work_commit_1_ok G y53 r h)) (fun v54 h => ?_)
 try simp only [*, go_sem]
 refine jn1 h (fun b55_1 => [zP 0 0, (4, .one (.p (.q 1 p1.toNat 0))), zR 5 2 0 b22_1.length, zP 1000000 0]) (fun b55_1 => [ox [zi p0.c.Sites, .d (.l 2 (p0.c.Labels.map Label.enc)), zi p0.c.Patience, zi p0.l, zi p0.me, zi p0.turn.Desk.Next, .r 1 0 p0.turn.Desk.Jobs.length, .r 3 0 p0.turn.Messages.length, .r 4 0 b55_1.length, .r 5 0 (p0.turn.Replies.length + 1), zi p0.turn.Sure, zi x1.N], og 6 (p0.turn.Desk.Jobs.map Job.encO) p1.toNat [zi x1.N, zi x1.State, .r 6 0 x1.Tasks.length, .r 7 0 x1.Asked.length, zi x1.Asks, zi x1.Age], oa 1 (b22_1.map encI), oa 12 (p0.turn.Messages.map Message.enc), oa 8 (b55_1.map Record.enc), oa 6 ((p0.turn.Replies ++ [(Reply.mk p0.me 4 x1.N 0 0 0)]).map Reply.enc), oa 8 (x1.Tasks.map Task.enc), oa 1 (x1.Asked.map encI)]) (fun k56 h => ?_) (fun b55_1 h => ?_)
 refine oi h (fun hb57 h => ?_) (fun hb57 h => ?_)
 refine obk h (fun v58 hv58 h => ?_)
 try simp only [*, go_sem]
 refine cdl (clone57_ok G b22_1 v58 hv58) ?_
 try simp only [*, go_sem]
 refine cx low46 fok46 ?_
 simp only [*, F46, go_sem]
 try simp only [*, go_sem]
 refine gho_lk _ G _ _ [.z 36] ?_
 try simp only [*, go_sem]
 refine ck h (fun _ h => ?_)
 try simp only [*, go_sem]
 exact jc ((p0.turn.Records ++ [(Record.mk 3 (Txn.mk p0.me x1.N) 0 0 0 false v58)])) h.e [some 1, some 2, some 0, some 3, some 53, some 25, some 6, some 7]
 try simp only [*, go_sem]
 exact jc (p0.turn.Records) h.e [some 1, some 2, some 0, some 3, some 4, some 25, some 6, some 7]
 try simp only [*, go_sem]
 refine cx low40 fok40 ?_
 simp only [*, F40, go_sem]
 try simp only [*, go_sem]
 refine gho_lk _ G _ _ [] ?_
 try simp only [*, go_sem]
 try simp only [*, go_sem]
 refine gho_lk _ G _ _ [] ?_
 try simp only [*, go_sem]
 try simp only [*, go_sem]
 intro hl60
 try simp only [*, go_sem]
 refine jn1 h (fun b61_1 => [zP 2000000 0]) (fun b61_1 => [ox [zi p0.c.Sites, .d (.l 2 (p0.c.Labels.map Label.enc)), zi p0.c.Patience, zi p0.l, zi p0.me, zi p0.turn.Desk.Next, .r 1 0 p0.turn.Desk.Jobs.length, .r 2 0 b61_1.length, .r 3 0 b55_1.length, .r 4 0 (p0.turn.Replies.length + 1), zi p0.turn.Sure, zi x1.N], ot 6 ((p0.turn.Desk.Jobs.set p1.toNat (Job.mk x1.N 3 x1.Tasks b22_1 x1.Asks 0)).map Job.encO), oa 12 (b61_1.map Message.enc), oa 8 (b55_1.map Record.enc), oa 6 ((p0.turn.Replies ++ [(Reply.mk p0.me 4 x1.N 0 0 0)]).map Reply.enc)]) (fun k62 h => ?_) (fun b61_1 h => ?_)
 try simp only [*, go_sem]
 refine lp2 (coord_work_commit_L5 p0 x1 b22_1 k62) (fun a63_1 a63_2 => [zP 0 0, zP 3 1, zR 7 2 0 b22_1.length, zI 8 ((b22_1.length : Nat) : Int), zI 9 ((a63_1 : Nat) : Int), zP 2000000 0]) (fun a63_1 a63_2 => [ox [zi p0.c.Sites, .d (.l 2 (p0.c.Labels.map Label.enc)), zi p0.c.Patience, zi p0.l, zi p0.me, zi p0.turn.Desk.Next, .r 3 0 p0.turn.Desk.Jobs.length, .r 4 0 a63_2.length, .r 5 0 b55_1.length, .r 6 0 (p0.turn.Replies.length + 1), zi p0.turn.Sure, zi x1.N], ox [zi x1.N, zi 3, .r 7 0 x1.Tasks.length, .r 2 0 b22_1.length, zi x1.Asks, zi 0], oa 1 (b22_1.map encI), og 6 (p0.turn.Desk.Jobs.map Job.encO) p1.toNat [zi x1.N, zi 3, .r 7 0 x1.Tasks.length, .r 2 0 b22_1.length, zi x1.Asks, zi 0], oa 12 (a63_2.map Message.enc), oa 8 (b55_1.map Record.enc), oa 6 ((p0.turn.Replies ++ [(Reply.mk p0.me 4 x1.N 0 0 0)]).map Reply.enc), oa 8 (x1.Tasks.map Task.enc)]) h [] [some 0, some 8, some 2, some 1, some 3, some 4, some 5, some 6] (fun n64 a63_1 a63_2 h => ?_) (by intros; rw [coord_work_commit_L5])
 rw [coord_work_commit_L5] at h
 try simp only [*, go_sem]
 refine gho_lk _ G _ _ [] ?_
 try simp only [*, go_sem]
 refine oi h (fun hb65 h => ?_) (fun hb65 h => ?_)
 have := of_decide_eq_true hb65
 refine obg h (fun x66 _ hkx66 h => ?_)
 try simp only [*, go_sem]
 refine gho_lk _ G _ _ [] ?_
 try simp only [*, go_sem]
 try simp only [*, go_sem]
 refine gho_lk _ G _ _ [] ?_
 try simp only [*, go_sem]
 try simp only [*, go_sem]
 refine cx low48 fok48 ?_
 simp only [*, F48, go_sem]
 try simp only [*, go_sem]
 refine gho_lk _ G _ _ [] ?_
 try simp only [*, go_sem]
 try simp only [*, go_sem]
 refine gho_lk _ G _ _ [] ?_
 try simp only [*, go_sem]
 refine ck h (fun hf67 h => ?_)
 try simp only [*, go_sem]
 refine gho_lk _ G _ _ [] ?_
 try simp only [*, go_sem]
 have : IntKind.i64.wrap (((a63_2.length + 1 : Nat) : Int) - 1) = ((a63_2.length : Nat) : Int) := wrap_pred hf67.2
 have : (a63_2 ++ [(Message.mk 4 p0.me x66 (Txn.mk p0.me x1.N) 0 0 0 0 0 false 0)])[a63_2.length]? = some (Message.mk 4 p0.me x66 (Txn.mk p0.me x1.N) 0 0 0 0 0 false 0) := List.getElem?_concat_length
 have : a63_2.length < a63_2.length + 1 := Nat.lt_succ_self _
 try simp only [*, go_sem]
 refine gho_lk _ G _ _ [] ?_
 try simp only [*, go_sem]
 try simp only [*, go_sem]
 refine gho_lk _ G _ _ [] ?_
 try simp only [*, go_sem]
 have := wrap_succ_max hkx66 hl50
 try simp only [*, go_sem]
 exact lc (a63_1 + 1, (a63_2 ++ [(Message.mk 4 p0.me x66 (Txn.mk p0.me x1.N) 0 0 0 0 0 true 0)])) h.e [some 0, some 1, some 2, some 3, some 28, some 5, some 6, some 7]
 try simp only [*, go_sem]
 exact jf [.u 3] (a63_2) h.e [some 0, some 3, some 4, some 5, some 6]
 cases h.e
 try simp only [*, go_sem]
 refine etn [] ?_
 simp only [*, go_sem, mA, mS]
end Go.V.Dec
