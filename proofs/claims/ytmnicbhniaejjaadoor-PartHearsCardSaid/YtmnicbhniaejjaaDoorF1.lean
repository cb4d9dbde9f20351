/- What Go's functions come to, as plain functions: part 1; no condition. -/
import Derived.Test.YtmnicbhniaejjaaDoorRows
import Derived.Test.YtmnicbhniaejjaaDoorVK
set_option linter.unusedVariables false
set_option linter.unusedSimpArgs false
namespace Go.V.Dec
open Go Go.Proofs
set_option maxRecDepth 100000
set_option maxHeartbeats 4000000
variable (G : Nat → Option (List D))
structure WireParts where
  label : Bool
  key : Bool
  value : Bool
  version : Bool
  ask : Bool
  yes : Bool
  code : Bool
  sites : Bool
  deriving Inhabited
def WireParts.enc (x : WireParts) : List D := [.b x.label, .b x.key, .b x.value, .b x.version, .b x.ask, .b x.yes, .b x.code, .b x.sites]
def WireParts.encO (x : WireParts) : List D := [.b x.label, .b x.key, .b x.value, .b x.version, .b x.ask, .b x.yes, .b x.code, .b x.sites]
structure Utf8AcceptRange where
  lo : Int
  hi : Int
  deriving Inhabited
def Utf8AcceptRange.enc (x : Utf8AcceptRange) : List D := [.i .u8 x.lo, .i .u8 x.hi]
def Utf8AcceptRange.encO (x : Utf8AcceptRange) : List D := [.i .u8 x.lo, .i .u8 x.hi]
structure Txn where
  Site : Int
  N : Int
  deriving Inhabited
def Txn.enc (x : Txn) : List D := [.i .i64 x.Site, .i .i64 x.N]
def Txn.encO (x : Txn) : List D := [.i .i64 x.Site, .i .i64 x.N]
structure Note where
  Txn : Txn
  Yes : Bool
  Damage : Bool
  deriving Inhabited
def Note.enc (x : Note) : List D := [.i .i64 x.Txn.Site, .i .i64 x.Txn.N, .b x.Yes, .b x.Damage]
def Note.encO (x : Note) : List D := [.i .i64 x.Txn.Site, .i .i64 x.Txn.N, .b x.Yes, .b x.Damage]
structure Label where
  Level : Int
  Cats : Int
  deriving Inhabited
def Label.enc (x : Label) : List D := [.i .i64 x.Level, .i .i64 x.Cats]
def Label.encO (x : Label) : List D := [.i .i64 x.Level, .i .i64 x.Cats]
structure Config where
  Sites : Int
  Labels : List Label
  Patience : Int
  deriving Inhabited
def Config.enc (x : Config) : List D := [.i .i64 x.Sites, .l 2 (x.Labels.map Label.enc), .i .i64 x.Patience]
def Config.encO (x : Config) : List D := [.i .i64 x.Sites, .o 2 (x.Labels.map Label.enc), .i .i64 x.Patience]
structure Item where
  Key : Int
  Value : Int
  Version : Int
  deriving Inhabited
def Item.enc (x : Item) : List D := [.i .i64 x.Key, .i .i64 x.Value, .i .i64 x.Version]
def Item.encO (x : Item) : List D := [.i .i64 x.Key, .i .i64 x.Value, .i .i64 x.Version]
structure Lock where
  Txn : Txn
  Key : Int
  Write : Bool
  Value : Int
  Ask : Int
  deriving Inhabited
def Lock.enc (x : Lock) : List D := [.i .i64 x.Txn.Site, .i .i64 x.Txn.N, .i .i64 x.Key, .b x.Write, .i .i64 x.Value, .i .i64 x.Ask]
def Lock.encO (x : Lock) : List D := [.i .i64 x.Txn.Site, .i .i64 x.Txn.N, .i .i64 x.Key, .b x.Write, .i .i64 x.Value, .i .i64 x.Ask]
structure Doubt where
  Txn : Txn
  Age : Int
  deriving Inhabited
def Doubt.enc (x : Doubt) : List D := [.i .i64 x.Txn.Site, .i .i64 x.Txn.N, .i .i64 x.Age]
def Doubt.encO (x : Doubt) : List D := [.i .i64 x.Txn.Site, .i .i64 x.Txn.N, .i .i64 x.Age]
structure Store where
  Items : List Item
  Locks : List Lock
  Doubts : List Doubt
  Over : List Txn
  deriving Inhabited
def Store.enc (x : Store) : List D := [.l 3 (x.Items.map Item.enc), .l 6 (x.Locks.map Lock.enc), .l 3 (x.Doubts.map Doubt.enc), .l 2 (x.Over.map Txn.enc)]
def Store.encO (x : Store) : List D := [.o 3 (x.Items.map Item.enc), .o 6 (x.Locks.map Lock.enc), .o 3 (x.Doubts.map Doubt.enc), .o 2 (x.Over.map Txn.enc)]
structure PartSite where
  c : Config
  l : Int
  me : Int
  stores : List Store
  deriving Inhabited
def PartSite.enc (x : PartSite) : List D := [.i .i64 x.c.Sites, .l 2 (x.c.Labels.map Label.enc), .i .i64 x.c.Patience, .i .i64 x.l, .i .i64 x.me, .l 4 (x.stores.map Store.enc)]
def PartSite.encO (x : PartSite) : List D := [.i .i64 x.c.Sites, .o 2 (x.c.Labels.map Label.enc), .i .i64 x.c.Patience, .i .i64 x.l, .i .i64 x.me, .o 4 (x.stores.map Store.enc)]
structure Message where
  Kind : Int
  From : Int
  To : Int
  Txn : Txn
  Label : Int
  Key : Int
  Value : Int
  Version : Int
  Ask : Int
  Yes : Bool
  Code : Int
  deriving Inhabited
def Message.enc (x : Message) : List D := [.i .i64 x.Kind, .i .i64 x.From, .i .i64 x.To, .i .i64 x.Txn.Site, .i .i64 x.Txn.N, .i .i64 x.Label, .i .i64 x.Key, .i .i64 x.Value, .i .i64 x.Version, .i .i64 x.Ask, .b x.Yes, .i .i64 x.Code]
def Message.encO (x : Message) : List D := [.i .i64 x.Kind, .i .i64 x.From, .i .i64 x.To, .i .i64 x.Txn.Site, .i .i64 x.Txn.N, .i .i64 x.Label, .i .i64 x.Key, .i .i64 x.Value, .i .i64 x.Version, .i .i64 x.Ask, .b x.Yes, .i .i64 x.Code]
structure Record where
  Kind : Int
  Txn : Txn
  Key : Int
  Value : Int
  Ask : Int
  Yes : Bool
  Sites : List Int
  deriving Inhabited
def Record.enc (x : Record) : List D := [.i .i64 x.Kind, .i .i64 x.Txn.Site, .i .i64 x.Txn.N, .i .i64 x.Key, .i .i64 x.Value, .i .i64 x.Ask, .b x.Yes, .l 1 (x.Sites.map encI)]
def Record.encO (x : Record) : List D := [.i .i64 x.Kind, .i .i64 x.Txn.Site, .i .i64 x.Txn.N, .i .i64 x.Key, .i .i64 x.Value, .i .i64 x.Ask, .b x.Yes, .o 1 (x.Sites.map encI)]
structure Answer where
  Store : Store
  Messages : List Message
  Records : List Record
  Notes : List Note
  deriving Inhabited
def Answer.enc (x : Answer) : List D := [.l 3 (x.Store.Items.map Item.enc), .l 6 (x.Store.Locks.map Lock.enc), .l 3 (x.Store.Doubts.map Doubt.enc), .l 2 (x.Store.Over.map Txn.enc), .l 12 (x.Messages.map Message.enc), .l 8 (x.Records.map Record.enc), .l 4 (x.Notes.map Note.enc)]
def Answer.encO (x : Answer) : List D := [.o 3 (x.Store.Items.map Item.enc), .o 6 (x.Store.Locks.map Lock.enc), .o 3 (x.Store.Doubts.map Doubt.enc), .o 2 (x.Store.Over.map Txn.enc), .o 12 (x.Messages.map Message.enc), .o 8 (x.Records.map Record.enc), .o 4 (x.Notes.map Note.enc)]
def WireParts.bx (x : WireParts) : List SC := [.d (.b x.label), .d (.b x.key), .d (.b x.value), .d (.b x.version), .d (.b x.ask), .d (.b x.yes), .d (.b x.code), .d (.b x.sites)]
def Utf8AcceptRange.bx (x : Utf8AcceptRange) : List SC := [.d (.i .u8 x.lo), .d (.i .u8 x.hi)]
def Txn.bx (x : Txn) : List SC := [.d (.i .i64 x.Site), .d (.i .i64 x.N)]
def Note.bx (x : Note) : List SC := [.d (.i .i64 x.Txn.Site), .d (.i .i64 x.Txn.N), .d (.b x.Yes), .d (.b x.Damage)]
def Label.bx (x : Label) : List SC := [.d (.i .i64 x.Level), .d (.i .i64 x.Cats)]
def Config.bx (x : Config) : List SC := [.d (.i .i64 x.Sites), .d (.l 2 (x.Labels.map Label.enc)), .d (.i .i64 x.Patience)]
def Item.bx (x : Item) : List SC := [.d (.i .i64 x.Key), .d (.i .i64 x.Value), .d (.i .i64 x.Version)]
def Lock.bx (x : Lock) : List SC := [.d (.i .i64 x.Txn.Site), .d (.i .i64 x.Txn.N), .d (.i .i64 x.Key), .d (.b x.Write), .d (.i .i64 x.Value), .d (.i .i64 x.Ask)]
def Doubt.bx (x : Doubt) : List SC := [.d (.i .i64 x.Txn.Site), .d (.i .i64 x.Txn.N), .d (.i .i64 x.Age)]
def Store.bx (x : Store) : List SC := [.d (.l 3 (x.Items.map Item.enc)), .d (.l 6 (x.Locks.map Lock.enc)), .d (.l 3 (x.Doubts.map Doubt.enc)), .d (.l 2 (x.Over.map Txn.enc))]
def PartSite.bx (x : PartSite) : List SC := [.d (.i .i64 x.c.Sites), .d (.l 2 (x.c.Labels.map Label.enc)), .d (.i .i64 x.c.Patience), .d (.i .i64 x.l), .d (.i .i64 x.me), .d (.l 4 (x.stores.map Store.enc))]
def Message.bx (x : Message) : List SC := [.d (.i .i64 x.Kind), .d (.i .i64 x.From), .d (.i .i64 x.To), .d (.i .i64 x.Txn.Site), .d (.i .i64 x.Txn.N), .d (.i .i64 x.Label), .d (.i .i64 x.Key), .d (.i .i64 x.Value), .d (.i .i64 x.Version), .d (.i .i64 x.Ask), .d (.b x.Yes), .d (.i .i64 x.Code)]
def Record.bx (x : Record) : List SC := [.d (.i .i64 x.Kind), .d (.i .i64 x.Txn.Site), .d (.i .i64 x.Txn.N), .d (.i .i64 x.Key), .d (.i .i64 x.Value), .d (.i .i64 x.Ask), .d (.b x.Yes), .d (.l 1 (x.Sites.map encI))]
def Answer.bx (x : Answer) : List SC := [.d (.l 3 (x.Store.Items.map Item.enc)), .d (.l 6 (x.Store.Locks.map Lock.enc)), .d (.l 3 (x.Store.Doubts.map Doubt.enc)), .d (.l 2 (x.Store.Over.map Txn.enc)), .d (.l 12 (x.Messages.map Message.enc)), .d (.l 8 (x.Records.map Record.enc)), .d (.l 4 (x.Notes.map Note.enc))]
attribute [go_sem] encI WireParts.enc WireParts.encO WireParts.bx Utf8AcceptRange.enc Utf8AcceptRange.encO Utf8AcceptRange.bx Txn.enc Txn.encO Txn.bx Note.enc Note.encO Note.bx Label.enc Label.encO Label.bx Config.enc Config.encO Config.bx Item.enc Item.encO Item.bx Lock.enc Lock.encO Lock.bx Doubt.enc Doubt.encO Doubt.bx Store.enc Store.encO Store.bx PartSite.enc PartSite.encO PartSite.bx Message.enc Message.encO Message.bx Record.enc Record.encO Record.bx Answer.enc Answer.encO Answer.bx
def tab_wire_messages : List WireParts := [WireParts.mk false false false false false false false false, WireParts.mk true true false false true false false false, WireParts.mk false true true false true false false false, WireParts.mk true true false true false false false false, WireParts.mk false false false false false true false false, WireParts.mk true true true true true false true false, WireParts.mk false true false false true false true false, WireParts.mk true true false true false true false false, WireParts.mk false false false false false false false false, WireParts.mk false false false false false false false false]
def tab_wire_messagesD : List D := [.b false, .b false, .b false, .b false, .b false, .b false, .b false, .b false, .b true, .b true, .b false, .b false, .b true, .b false, .b false, .b false, .b false, .b true, .b true, .b false, .b true, .b false, .b false, .b false, .b true, .b true, .b false, .b true, .b false, .b false, .b false, .b false, .b false, .b false, .b false, .b false, .b false, .b true, .b false, .b false, .b true, .b true, .b true, .b true, .b true, .b false, .b true, .b false, .b false, .b true, .b false, .b false, .b true, .b false, .b true, .b false, .b true, .b true, .b false, .b true, .b false, .b true, .b false, .b false, .b false, .b false, .b false, .b false, .b false, .b false, .b false, .b false, .b false, .b false, .b false, .b false, .b false, .b false, .b false, .b false]
theorem tab_wire_messages_rows : rowsT 8 10 tab_wire_messagesD = tab_wire_messages.map WireParts.enc := by rfl
theorem tab_wire_messages_lenD : tab_wire_messagesD.length = 80 := by rfl
theorem tab_wire_messages_len : tab_wire_messages.length = 10 := by rfl
attribute [go_sem] tab_wire_messages_rows tab_wire_messages_lenD
def reredosref_NotesCopy_L1 (p0 : List Note) (k2 : (List Note) → Option ((List Note))) : Nat → Nat → (List Note) → Option ((List Note))
 | 0, _, _ => none
 | n4 + 1, a3_1, a3_2 => (if (decide (a3_1 < p0.length)) = true then (Option.bind (p0[a3_1]?) fun x7 => (if fits 24 (a3_2.length + 1) then (reredosref_NotesCopy_L1 p0 k2 n4 (a3_1 + 1) (a3_2 ++ [x7])) else none)) else (k2 a3_2))
def reredosref_NotesCopy (p0 : List Note) : Option ((List Note)) := (withK (fun (b1_1 : List Note) => (some b1_1)) fun k2 => (reredosref_NotesCopy_L1 p0 k2 (p0.length + 1) 0 []))
def F7 : VFn := ⟨19, (.seq (.reg [vo 2 (.mv (.c (.one (.nl 4))))]) (.seq (.reg [vo 3 (.mv (.c (.one (.nl 4))))]) (.seq (.seq (.reg [mi 4 0]) (.wk (.block 0 (.loop (.seq (.seq (.reg [vm 5 4, vm 6 0, ln 7 6, bt 8 .lss 5 7]) (.cond (.t 8) .skip (.exit 0))) (.seq (.block 1 (.reg [vm 11 3, vm 12 0, vm 13 4, xa 14 4 12 13, vl 15 4 14, vo 16 (.bsl 4 1 [(zi 0), (zi 0), (.d (.b false)), (.d (.b false))] [(0, (.t 15))]), vo 17 (.app 4 24 (.t 11) (.t 16)), vm 3 17])) (.reg [vm 9 4, bk 10 .add 9 1, vm 4 10]))))))) (.seq (.reg [vm 18 3, vm 2 18]) .ret)))), [.t 2]⟩
theorem low7 : lowF Tryd.prog 7 = some F7.strip := by kernel_rfl
theorem fok7 : fOk Tryd.prog 7 = true := by kernel_rfl
theorem reredosref_NotesCopy_ok (p0 : List Note) (r : (List Note)) (h : reredosref_NotesCopy p0 = some r) : FnRO Tryd.prog G 7 [.one (.d (.l 4 (p0.map Note.enc)))] (fun rs => rs = [.one (.o 4 (r.map Note.enc))]) := by
 refine FnRO.of' low7 fok7 (by simp [F7]) ?_
 rw [reredosref_NotesCopy] at h
 replace h := Hd.mk h
 simp only [F7, go_sem]
 try simp only [*, go_sem]
 refine jn1 h (fun b1_1 => [zR 3 0 0 b1_1.length]) (fun b1_1 => [oa 4 (b1_1.map Note.enc)]) (fun k2 h => ?_) (fun b1_1 h => ?_)
 try simp only [*, go_sem]
 refine lp2 (reredosref_NotesCopy_L1 p0 k2) (fun a3_1 a3_2 => [zL 0 4 (p0.map Note.enc), zR 3 0 0 a3_2.length, zI 4 ((a3_1 : Nat) : Int)]) (fun a3_1 a3_2 => [oa 4 (a3_2.map Note.enc)]) h [] [none] (fun n4 a3_1 a3_2 h => ?_) (by intros; rw [reredosref_NotesCopy_L1])
 rw [reredosref_NotesCopy_L1] at h
 try simp only [*, go_sem]
 intro hl5
 refine oi h (fun hb6 h => ?_) (fun hb6 h => ?_)
 have := of_decide_eq_true hb6
 refine obg h (fun x7 _ hkx7 h => ?_)
 refine ck h (fun _ h => ?_)
 have := wrap_succ_max hkx7 hl5
 try simp only [*, go_sem]
 exact lc (a3_1 + 1, (a3_2 ++ [x7])) h.e [some 2]
 try simp only [*, go_sem]
 exact jc (a3_2) h.e [some 0]
 cases h.e
 simp only [*, go_sem, mA, mS]
def label_one (p0 : Label) : Option (Bool) := (withK (fun (b1_1 : Bool) => (some b1_1)) fun k2 => (if (decide (p0.Level ≥ 0)) = true then (if (decide (p0.Level ≤ 9)) = true then (if (decide (p0.Cats ≥ 0)) = true then (k2 (decide (p0.Cats ≤ 15))) else (k2 false)) else (k2 false)) else (k2 false)))
def F124 : VFn := ⟨21, (.seq (.reg [vo 1 (.boxk 2 (.t 0)), vo 2 (.mv (cb false))]) (.seq (.wk (.reg [vf 3 0 1, vs 4 3, bk 5 .geq 4 0, vm 6 5, gt 7 6 (.fa 0 (.t 1)), gt 8 6 (.ld false 1 (.t 7)), gt 9 6 (.bin .i .leq (.t 8) (ci 9)), vo 10 (.pick (.t 6) (.t 9) (cb false)), vm 11 10, gt 12 11 (.fa 1 (.t 1)), gt 13 11 (.ld false 1 (.t 12)), gt 14 11 (.bin .i .geq (.t 13) (ci 0)), vo 15 (.pick (.t 11) (.t 14) (cb false)), vm 16 15, gt 17 16 (.fa 1 (.t 1)), gt 18 16 (.ld false 1 (.t 17)), gt 19 16 (.bin .i .leq (.t 18) (ci 15)), vo 20 (.pick (.t 16) (.t 19) (cb false)), vm 2 20])) .ret)), [.t 2]⟩
theorem low124 : lowF Tryd.prog 124 = some F124.strip := by kernel_rfl
theorem fok124 : fOk Tryd.prog 124 = true := by kernel_rfl
theorem label_one_ok (p0 : Label) (r : Bool) (h : label_one p0 = some r) : FnRO Tryd.prog G 124 [.agg p0.bx] (fun rs => rs = [.one (.b r)]) := by
 refine FnRO.of' low124 fok124 (by simp [F124]) ?_
 rw [label_one] at h
 replace h := Hd.mk h
 simp only [F124, go_sem]
 try simp only [*, go_sem]
 refine jn1 h (fun b1_1 => [zB 2 b1_1]) (fun b1_1 => []) (fun k2 h => ?_) (fun b1_1 h => ?_)
 refine oi h (fun hb3 h => ?_) (fun hb3 h => ?_)
 refine oi h (fun hb4 h => ?_) (fun hb4 h => ?_)
 refine oi h (fun hb5 h => ?_) (fun hb5 h => ?_)
 try simp only [*, go_sem]
 exact jc (decide (p0.Cats ≤ 15)) h.e []
 try simp only [*, go_sem]
 exact jc (false) h.e []
 try simp only [*, go_sem]
 exact jc (false) h.e []
 try simp only [*, go_sem]
 exact jc (false) h.e []
 cases h.e
 simp only [*, go_sem, mA, mS]
def label_Check_L2 (p0 : Config) (a10_1 : Nat) (x13 : Label) (k19 : Option (Int)) : Nat → Nat → Option (Int)
 | 0, _ => none
 | n21 + 1, a20_1 => (if (decide (a20_1 < min a10_1 p0.Labels.length)) = true then (Option.bind ((p0.Labels.take a10_1)[a20_1]?) fun x23 => (if ((x23.Level == x13.Level) && (x23.Cats == x13.Cats)) = true then (some 7) else (label_Check_L2 p0 a10_1 x13 k19 n21 (a20_1 + 1)))) else k19)
def label_Check_L1 (p0 : Config) (k9 : Option (Int)) : Nat → Nat → Option (Int)
 | 0, _ => none
 | n11 + 1, a10_1 => (if (decide (a10_1 < p0.Labels.length)) = true then (Option.bind (p0.Labels[a10_1]?) fun x13 => (Option.bind (label_one x13) fun v14 => (if (!v14) = true then (some 2) else (withK (label_Check_L1 p0 k9 n11 (a10_1 + 1)) fun k19 => (label_Check_L2 p0 a10_1 x13 k19 (min a10_1 p0.Labels.length + 1) 0))))) else k9)
def label_Check (p0 : Config) : Option (Int) := (if (decide (p0.Sites < 1)) = true then (some 2) else (if (decide (p0.Sites > 4)) = true then (some 2) else (if (decide (((p0.Labels.length : Nat) : Int) < 1)) = true then (some 1) else (if (decide (((p0.Labels.length : Nat) : Int) > 6)) = true then (some 1) else (withK (if (decide (p0.Patience < 1)) = true then (some 2) else (if (decide (p0.Patience > 1048576)) = true then (some 2) else (some 0))) fun k9 => (label_Check_L1 p0 k9 (p0.Labels.length + 1) 0))))))
def F66 : VFn := ⟨58, (.seq (.reg [vo 1 (.boxk 3 (.t 0)), mi 2 0]) (.seq (.seq (.reg [vf 7 0 1, vs 8 7, bk 9 .lss 8 1, vm 10 9, gf 11 10 (.fa 0 (.t 1)), gf 12 10 (.ld false 1 (.t 11)), gf 13 10 (.bin .i .gtr (.t 12) (ci 4)), vo 14 (.pick (.t 10) (cb true) (.t 13))]) (.cond (.t 14) (.seq (.reg [mi 2 2]) .ret) .skip)) (.seq (.seq (.reg [vf 15 1 1, vs 16 15, ln 17 16, bk 18 .lss 17 1, vm 19 18, gf 20 19 (.fa 1 (.t 1)), gf 21 19 (.ld false 1 (.t 20)), gf 22 19 (.len (.t 21)), gf 23 19 (.bin .i .gtr (.t 22) (ci 6)), vo 24 (.pick (.t 19) (cb true) (.t 23))]) (.cond (.t 24) (.seq (.reg [mi 2 1]) .ret) .skip)) (.seq (.seq (.reg [vf 25 1 1, vs 26 25, ln 27 26, mi 28 0]) (.wk (.block 0 (.loop (.seq (.reg [bt 29 .lss 28 27]) (.seq (.cond (.t 29) .skip (.exit 0)) (.seq (.block 1 (.seq (.reg [vm 30 28, xa 31 2 26 28, vl 32 2 31, vo 4 (.alloc [(zi 0), (zi 0)]), vm 3 30, vu (.st 2 (.t 4) (.t 32))]) (.seq (.seq (.reg [vl 33 2 4, vo 34 (.call 124 [(.t 33)]), nt 35 34]) (.cond (.t 35) (.seq (.reg [mi 2 2]) .ret) .skip)) (.seq (.reg [vf 36 1 1, vs 37 36, vm 38 3, vo 39 (.sl 2 (.t 37) none (some (.t 38))), ln 40 39, mi 41 0]) (.wk (.block 2 (.loop (.seq (.reg [bt 42 .lss 41 40]) (.seq (.cond (.t 42) .skip (.exit 2)) (.seq (.block 3 (.seq (.reg [xa 43 2 39 41, vl 44 2 43, vo 6 (.alloc [(zi 0), (zi 0)]), vu (.st 2 (.t 6) (.t 44))]) (.seq (.reg [vl 45 2 6, vl 46 2 4, vo 47 (.eqs false [.i, .i] (.t 45) (.t 46))]) (.cond (.t 47) (.seq (.reg [mi 2 7]) .ret) .skip)))) (.reg [bk 48 .add 41 1, vm 41 48]))))))))))) (.reg [bk 49 .add 28 1, vm 28 49])))))))) (.seq (.seq (.reg [vf 50 2 1, vs 51 50, bk 52 .lss 51 1, vm 53 52, gf 54 53 (.fa 2 (.t 1)), gf 55 53 (.ld false 1 (.t 54)), gf 56 53 (.bin .i .gtr (.t 55) (ci 1048576)), vo 57 (.pick (.t 53) (cb true) (.t 56))]) (.cond (.t 57) (.seq (.reg [mi 2 2]) .ret) .skip)) (.seq (.reg [mi 2 0]) .ret)))))), [.t 2]⟩
theorem low66 : lowF Tryd.prog 66 = some F66.strip := by kernel_rfl
theorem fok66 : fOk Tryd.prog 66 = true := by kernel_rfl
theorem label_Check_ok (p0 : Config) (r : Int) (h : label_Check p0 = some r) : FnRO Tryd.prog G 66 [.agg p0.bx] (fun rs => rs = [.one (.i .i64 r)]) := by
 refine FnRO.of' low66 fok66 (by simp [F66]) ?_
 rw [label_Check] at h
 replace h := Hd.mk h
 simp only [F66, go_sem]
 refine oi h (fun hb1 h => ?_) (fun hb1 h => ?_)
 have := of_decide_eq_true hb1
 cases h.e
 simp only [*, go_sem, mA, mS]
 refine oi h (fun hb2 h => ?_) (fun hb2 h => ?_)
 cases h.e
 simp only [*, go_sem, mA, mS]
 try simp only [*, go_sem]
 intro hl3
 refine oi h (fun hb4 h => ?_) (fun hb4 h => ?_)
 cases h.e
 simp only [*, go_sem, mA, mS]
 try simp only [*, go_sem]
 intro hl5
 refine oi h (fun hb6 h => ?_) (fun hb6 h => ?_)
 cases h.e
 simp only [*, go_sem, mA, mS]
 try simp only [*, go_sem]
 intro hl7
 try simp only [*, go_sem]
 refine jn0 h ([zK 1 (Config.enc p0)]) ([]) (fun k9 h => ?_) (fun h => ?_)
 try simp only [*, go_sem]
 refine lp1 (label_Check_L1 p0 k9) (fun a10_1 => [zK 1 (Config.enc p0), zL 26 2 (p0.Labels.map Label.enc), zI 27 ((p0.Labels.length : Nat) : Int), zI 28 ((a10_1 : Nat) : Int)]) (fun a10_1 => []) h [] [] (fun n11 a10_1 h => ?_) (by intros; rw [label_Check_L1])
 rw [label_Check_L1] at h
 refine oi h (fun hb12 h => ?_) (fun hb12 h => ?_)
 have := of_decide_eq_true hb12
 refine obg h (fun x13 _ hkx13 h => ?_)
 try simp only [*, go_sem]
 refine cr h (label_one_ok G x13) (fun v14 h => ?_)
 refine oin h (fun hb15 hkhb15 h => ?_) (fun hb15 hkhb15 h => ?_)
 cases h.e
 simp only [*, go_sem, mA, mS]
 have := Nat.le_of_lt hkx13
 try simp only [*, go_sem]
 intro hl17
 try simp only [*, go_sem]
 refine jn0 h ([zK 1 (Config.enc p0), zL 26 2 (p0.Labels.map Label.enc), zI 27 ((p0.Labels.length : Nat) : Int), zI 28 ((a10_1 : Nat) : Int)]) ([]) (fun k19 h => ?_) (fun h => ?_)
 try simp only [*, go_sem]
 refine lp1 (label_Check_L2 p0 a10_1 x13 k19) (fun a20_1 => [zK 1 (Config.enc p0), zP 4 0, zL 26 2 (p0.Labels.map Label.enc), zI 27 ((p0.Labels.length : Nat) : Int), zI 28 ((a10_1 : Nat) : Int), zL 39 2 ((p0.Labels.take a10_1).map Label.enc), zI 40 ((min a10_1 p0.Labels.length : Nat) : Int), zI 41 ((a20_1 : Nat) : Int)]) (fun a20_1 => [ox x13.bx]) h [] [some 0] (fun n21 a20_1 h => ?_) (by intros; rw [label_Check_L2])
 rw [label_Check_L2] at h
 refine oi h (fun hb22 h => ?_) (fun hb22 h => ?_)
 refine obg h (fun x23 _ hkx23 h => ?_)
 try simp only [List.length_take, List.length_drop, List.length_append, List.length_set, List.length_map, List.length_cons, List.length_nil, Nat.zero_add] at hkx23
 refine oi h (fun hb24 h => ?_) (fun hb24 h => ?_)
 try simp only [*, go_sem]
 cases h.e
 simp only [*, go_sem, mA, mS]
 try simp only [*, go_sem]
 have := wrap_succ_max hkx23 hl17
 try simp only [*, go_sem]
 exact lc (a20_1 + 1) h.e [some 0]
 try simp only [*, go_sem]
 exact jc () h.e []
 have := wrap_succ_max hkx13 hl3
 try simp only [*, go_sem]
 exact lc (a10_1 + 1) h.e []
 try simp only [*, go_sem]
 exact jc () h.e []
 refine oi h (fun hb27 h => ?_) (fun hb27 h => ?_)
 have := of_decide_eq_true hb27
 cases h.e
 simp only [*, go_sem, mA, mS]
 refine oi h (fun hb28 h => ?_) (fun hb28 h => ?_)
 cases h.e
 simp only [*, go_sem, mA, mS]
 cases h.e
 simp only [*, go_sem, mA, mS]
def store_items_L1 (p0 : List Item) (k3 : Option (Bool)) : Nat → Nat → Option (Bool)
 | 0, _ => none
 | n5 + 1, a4_1 => (if (decide (a4_1 < p0.length)) = true then (Option.bind (p0[a4_1]?) fun x7 => (if (decide (x7.Key < 0)) = true then (some false) else (if (decide (x7.Key ≥ 8)) = true then (some false) else (if (decide (x7.Value < 0)) = true then (some false) else (if (decide (x7.Value > 1073741824)) = true then (some false) else (if (decide (x7.Version < 1)) = true then (some false) else (if (decide (x7.Version > 1048576)) = true then (some false) else (if (decide (((a4_1 : Nat) : Int) > 0)) = true then (if 0 ≤ IntKind.i64.wrap (((a4_1 : Nat) : Int) - 1) then (Option.bind (p0[(IntKind.i64.wrap (((a4_1 : Nat) : Int) - 1)).toNat]?) fun x15 => (if (decide (x15.Key ≥ x7.Key)) = true then (some false) else (store_items_L1 p0 k3 n5 (a4_1 + 1)))) else none) else (store_items_L1 p0 k3 n5 (a4_1 + 1)))))))))) else k3)
def store_items (p0 : List Item) : Option (Bool) := (withK (some true) fun k3 => (store_items_L1 p0 k3 (p0.length + 1) 0))
def F138 : VFn := ⟨54, (.seq (.reg [vo 2 (.mv (cb false))]) (.seq (.seq (.reg [vm 5 0, ln 6 5, mi 7 0]) (.wk (.block 0 (.loop (.seq (.reg [bt 8 .lss 7 6]) (.seq (.cond (.t 8) .skip (.exit 0)) (.seq (.block 1 (.seq (.reg [vm 9 7, xa 10 3 5 7, vl 11 3 10, vo 4 (.alloc [(zi 0), (zi 0), (zi 0)]), vm 3 9, vu (.st 3 (.t 4) (.t 11))]) (.seq (.seq (.reg [vf 12 0 4, vs 13 12, bk 14 .lss 13 0, vm 15 14, gf 16 15 (.fa 0 (.t 4)), gf 17 15 (.ld false 1 (.t 16)), gf 18 15 (.bin .i .geq (.t 17) (ci 8)), vo 19 (.pick (.t 15) (cb true) (.t 18)), vm 20 19, gf 21 20 (.fa 1 (.t 4)), gf 22 20 (.ld false 1 (.t 21)), gf 23 20 (.bin .i .lss (.t 22) (ci 0)), vo 24 (.pick (.t 20) (cb true) (.t 23)), vm 25 24, gf 26 25 (.fa 1 (.t 4)), gf 27 25 (.ld false 1 (.t 26)), gf 28 25 (.bin .i .gtr (.t 27) (ci 1073741824)), vo 29 (.pick (.t 25) (cb true) (.t 28)), vm 30 29, gf 31 30 (.fa 2 (.t 4)), gf 32 30 (.ld false 1 (.t 31)), gf 33 30 (.bin .i .lss (.t 32) (ci 1)), vo 34 (.pick (.t 30) (cb true) (.t 33)), vm 35 34, gf 36 35 (.fa 2 (.t 4)), gf 37 35 (.ld false 1 (.t 36)), gf 38 35 (.bin .i .gtr (.t 37) (ci 1048576)), vo 39 (.pick (.t 35) (cb true) (.t 38))]) (.cond (.t 39) (.seq (.reg [vo 2 (.mv (cb false))]) .ret) .skip)) (.seq (.draw [vd (vm 40 3) 0, vd (bk 41 .gtr 40 0) 1, vd (vm 42 41) 3, vd (gt 43 42 (.mv (.t 0))) 7, vd (gt 44 42 (.mv (.t 3))) 7, vd (gt 45 42 (.bin .i .sub (.t 44) (ci 1))) 23, vd (gt 46 42 (.ia 3 (.t 43) (.t 45))) 63, vd (gt 47 42 (.fa 0 (.t 46))) 127, vd (gt 48 42 (.ld false 1 (.t 47))) 255, vd (gt 49 42 (.fa 0 (.t 4))) 7, vd (gt 50 42 (.ld false 1 (.t 49))) 519, vd (gt 51 42 (.bin .i .geq (.t 48) (.t 50))) 2047, vd (vo 52 (.pick (.t 42) (.t 51) (cb false))) 4095]) (.cond (.t 52) (.seq (.reg [vo 2 (.mv (cb false))]) .ret) .skip))))) (.reg [bk 53 .add 7 1, vm 7 53])))))))) (.seq (.reg [vo 2 (.mv (cb true))]) .ret))), [.t 2]⟩
theorem low138 : lowF Tryd.prog 138 = some F138.strip := by kernel_rfl
theorem fok138 : fOk Tryd.prog 138 = true := by kernel_rfl
theorem store_items_ok (p0 : List Item) (r : Bool) (h : store_items p0 = some r) : FnRO Tryd.prog G 138 [.one (.d (.l 3 (p0.map Item.enc)))] (fun rs => rs = [.one (.b r)]) := by
 refine FnRO.of' low138 fok138 (by simp [F138]) ?_
 rw [store_items] at h
 replace h := Hd.mk h
 simp only [F138, go_sem]
 try simp only [*, go_sem]
 intro hl1
 try simp only [*, go_sem]
 refine jn0 h ([]) ([]) (fun k3 h => ?_) (fun h => ?_)
 try simp only [*, go_sem]
 refine lp1 (store_items_L1 p0 k3) (fun a4_1 => [zL 0 3 (p0.map Item.enc), zL 5 3 (p0.map Item.enc), zI 6 ((p0.length : Nat) : Int), zI 7 ((a4_1 : Nat) : Int)]) (fun a4_1 => []) h [] [] (fun n5 a4_1 h => ?_) (by intros; rw [store_items_L1])
 rw [store_items_L1] at h
 refine oi h (fun hb6 h => ?_) (fun hb6 h => ?_)
 have := of_decide_eq_true hb6
 refine obg h (fun x7 _ hkx7 h => ?_)
 refine oi h (fun hb8 h => ?_) (fun hb8 h => ?_)
 have := of_decide_eq_true hb8
 cases h.e
 simp only [*, go_sem, mA, mS]
 refine oi h (fun hb9 h => ?_) (fun hb9 h => ?_)
 cases h.e
 simp only [*, go_sem, mA, mS]
 refine oi h (fun hb10 h => ?_) (fun hb10 h => ?_)
 have := of_decide_eq_true hb10
 cases h.e
 simp only [*, go_sem, mA, mS]
 refine oi h (fun hb11 h => ?_) (fun hb11 h => ?_)
 cases h.e
 simp only [*, go_sem, mA, mS]
 refine oi h (fun hb12 h => ?_) (fun hb12 h => ?_)
 have := of_decide_eq_true hb12
 cases h.e
 simp only [*, go_sem, mA, mS]
 refine oi h (fun hb13 h => ?_) (fun hb13 h => ?_)
 cases h.e
 simp only [*, go_sem, mA, mS]
 refine oi h (fun hb14 h => ?_) (fun hb14 h => ?_)
 refine obn h (fun x15 _ _ _ _ h => ?_)
 refine oi h (fun hb17 h => ?_) (fun hb17 h => ?_)
 cases h.e
 simp only [*, go_sem, mA, mS]
 have := wrap_succ_max hkx7 hl1
 try simp only [*, go_sem]
 exact lc (a4_1 + 1) h.e []
 have := wrap_succ_max hkx7 hl1
 try simp only [*, go_sem]
 exact lc (a4_1 + 1) h.e []
 try simp only [*, go_sem]
 exact jc () h.e []
 cases h.e
 simp only [*, go_sem, mA, mS]
def store_txn (p0 : Txn) : Option (Bool) := (withK (fun (b1_1 : Bool) => (some b1_1)) fun k2 => (if (decide (p0.Site ≥ 0)) = true then (if (decide (p0.Site < 4)) = true then (if (decide (p0.N ≥ 1)) = true then (k2 (decide (p0.N ≤ 1048576))) else (k2 false)) else (k2 false)) else (k2 false)))
def F180 : VFn := ⟨21, (.seq (.reg [vo 1 (.boxk 2 (.t 0)), vo 2 (.mv (cb false))]) (.seq (.wk (.reg [vf 3 0 1, vs 4 3, bk 5 .geq 4 0, vm 6 5, gt 7 6 (.fa 0 (.t 1)), gt 8 6 (.ld false 1 (.t 7)), gt 9 6 (.bin .i .lss (.t 8) (ci 4)), vo 10 (.pick (.t 6) (.t 9) (cb false)), vm 11 10, gt 12 11 (.fa 1 (.t 1)), gt 13 11 (.ld false 1 (.t 12)), gt 14 11 (.bin .i .geq (.t 13) (ci 1)), vo 15 (.pick (.t 11) (.t 14) (cb false)), vm 16 15, gt 17 16 (.fa 1 (.t 1)), gt 18 16 (.ld false 1 (.t 17)), gt 19 16 (.bin .i .leq (.t 18) (ci 1048576)), vo 20 (.pick (.t 16) (.t 19) (cb false)), vm 2 20])) .ret)), [.t 2]⟩
theorem low180 : lowF Tryd.prog 180 = some F180.strip := by kernel_rfl
theorem fok180 : fOk Tryd.prog 180 = true := by kernel_rfl
theorem store_txn_ok (p0 : Txn) (r : Bool) (h : store_txn p0 = some r) : FnRO Tryd.prog G 180 [.agg p0.bx] (fun rs => rs = [.one (.b r)]) := by
 refine FnRO.of' low180 fok180 (by simp [F180]) ?_
 rw [store_txn] at h
 replace h := Hd.mk h
 simp only [F180, go_sem]
 try simp only [*, go_sem]
 refine jn1 h (fun b1_1 => [zB 2 b1_1]) (fun b1_1 => []) (fun k2 h => ?_) (fun b1_1 h => ?_)
 refine oi h (fun hb3 h => ?_) (fun hb3 h => ?_)
 refine oi h (fun hb4 h => ?_) (fun hb4 h => ?_)
 have := of_decide_eq_true hb4
 refine oi h (fun hb5 h => ?_) (fun hb5 h => ?_)
 try simp only [*, go_sem]
 exact jc (decide (p0.N ≤ 1048576)) h.e []
 try simp only [*, go_sem]
 exact jc (false) h.e []
 try simp only [*, go_sem]
 exact jc (false) h.e []
 try simp only [*, go_sem]
 exact jc (false) h.e []
 cases h.e
 simp only [*, go_sem, mA, mS]
def slices_Index_Txn_L1 (p0 : List Txn) (p1 : Txn) (k3 : Option (Int)) : Nat → Nat → Option (Int)
 | 0, _ => none
 | n5 + 1, a4_1 => (if (decide (a4_1 < p0.length)) = true then (Option.bind (p0[a4_1]?) fun x7 => (if ((p1.Site == x7.Site) && (p1.N == x7.N)) = true then (some ((a4_1 : Nat) : Int)) else (slices_Index_Txn_L1 p0 p1 k3 n5 (a4_1 + 1)))) else k3)
def slices_Index_Txn (p0 : List Txn) (p1 : Txn) : Option (Int) := (withK (some (-1)) fun k3 => (slices_Index_Txn_L1 p0 p1 k3 (p0.length + 1) 0))
def F186 : VFn := ⟨19, (.seq (.reg [vo 3 (.boxk 2 (.t 1)), mi 4 0]) (.seq (.seq (.reg [vm 6 0, ln 7 6, mi 8 0]) (.wk (.block 0 (.loop (.seq (.reg [bt 9 .lss 8 7]) (.seq (.cond (.t 9) .skip (.exit 0)) (.seq (.block 1 (.seq (.reg [vm 10 8, vm 5 10]) (.seq (.draw [vd (vl 11 2 3) 0, vd (vm 12 0) 0, vd (vm 13 5) 0, vd (xa 14 2 12 13) 6, vd (vl 15 2 14) 14, vd (vo 16 (.eqs false [.i, .i] (.t 11) (.t 15))) 31]) (.cond (.t 16) (.seq (.reg [vm 17 5, vm 4 17]) .ret) .skip)))) (.reg [bk 18 .add 8 1, vm 8 18])))))))) (.seq (.reg [mi 4 (-1)]) .ret))), [.t 4]⟩
theorem low186 : lowF Tryd.prog 186 = some F186.strip := by kernel_rfl
theorem fok186 : fOk Tryd.prog 186 = true := by kernel_rfl
theorem slices_Index_Txn_ok (p0 : List Txn) (p1 : Txn) (r : Int) (h : slices_Index_Txn p0 p1 = some r) : FnRO Tryd.prog G 186 [.one (.d (.l 2 (p0.map Txn.enc))), .agg p1.bx] (fun rs => rs = [.one (.i .i64 r)]) := by
 refine FnRO.of' low186 fok186 (by simp [F186]) ?_
 rw [slices_Index_Txn] at h
 replace h := Hd.mk h
 simp only [F186, go_sem]
 try simp only [*, go_sem]
 intro hl1
 try simp only [*, go_sem]
 refine jn0 h ([]) ([]) (fun k3 h => ?_) (fun h => ?_)
 try simp only [*, go_sem]
 refine lp1 (slices_Index_Txn_L1 p0 p1 k3) (fun a4_1 => [zL 0 2 (p0.map Txn.enc), zK 3 (Txn.enc p1), zI 7 ((p0.length : Nat) : Int), zI 8 ((a4_1 : Nat) : Int)]) (fun a4_1 => []) h [] [] (fun n5 a4_1 h => ?_) (by intros; rw [slices_Index_Txn_L1])
 rw [slices_Index_Txn_L1] at h
 refine oi h (fun hb6 h => ?_) (fun hb6 h => ?_)
 have := of_decide_eq_true hb6
 refine obg h (fun x7 _ hkx7 h => ?_)
 refine oi h (fun hb8 h => ?_) (fun hb8 h => ?_)
 try simp only [*, go_sem]
 cases h.e
 simp only [*, go_sem, mA, mS]
 try simp only [*, go_sem]
 have := wrap_succ_max hkx7 hl1
 try simp only [*, go_sem]
 exact lc (a4_1 + 1) h.e []
 try simp only [*, go_sem]
 exact jc () h.e []
 cases h.e
 simp only [*, go_sem, mA, mS]
def slices_Contains_Txn (p0 : List Txn) (p1 : Txn) : Option (Bool) := (Option.bind (slices_Index_Txn p0 p1) fun v1 => (some (decide (v1 ≥ 0))))
def F145 : VFn := ⟨9, (.seq (.reg [vo 3 (.boxk 2 (.t 1)), vo 4 (.mv (cb false))]) (.seq (.reg [vm 5 0, vl 6 2 3, vo 7 (.call 186 [(.t 5), (.t 6)]), bk 8 .geq 7 0, vm 4 8]) .ret)), [.t 4]⟩
theorem low145 : lowF Tryd.prog 145 = some F145.strip := by kernel_rfl
theorem fok145 : fOk Tryd.prog 145 = true := by kernel_rfl
theorem slices_Contains_Txn_ok (p0 : List Txn) (p1 : Txn) (r : Bool) (h : slices_Contains_Txn p0 p1 = some r) : FnRO Tryd.prog G 145 [.one (.d (.l 2 (p0.map Txn.enc))), .agg p1.bx] (fun rs => rs = [.one (.b r)]) := by
 refine FnRO.of' low145 fok145 (by simp [F145]) ?_
 rw [slices_Contains_Txn] at h
 replace h := Hd.mk h
 simp only [F145, go_sem]
 try simp only [*, go_sem]
 refine cr h (slices_Index_Txn_ok G p0 p1) (fun v1 h => ?_)
 cases h.e
 simp only [*, go_sem, mA, mS]
def store_doubts_1 (p0 : Lock) (p1 : Doubt) : Option (Bool) := (some ((p0.Txn.Site == p1.Txn.Site) && (p0.Txn.N == p1.Txn.N)))
def F182 : VFn := ⟨9, (.seq (.reg [vo 2 (.boxk 6 (.t 0)), vo 3 (.mv (cb false))]) (.seq (.reg [vf 4 0 2, vl 5 2 4, vf 6 0 1, vl 7 2 6, vo 8 (.eqs false [.i, .i] (.t 5) (.t 7)), vm 3 8]) .ret)), [.t 3]⟩
theorem low182 : lowF Tryd.prog 182 = some F182.strip := by kernel_rfl
theorem fok182 : fOk Tryd.prog 182 = true := by kernel_rfl
theorem store_doubts_1_ok (p0 : Lock) (p1 : Doubt) (r : Bool) (h : store_doubts_1 p0 p1 = some r) : FnRO Tryd.prog G 182 [.agg p0.bx, .one (.d (.k (Doubt.enc p1)))] (fun rs => rs = [.one (.b r)]) := by
 refine FnRO.of' low182 fok182 (by simp [F182]) ?_
 rw [store_doubts_1] at h
 replace h := Hd.mk h
 simp only [F182, go_sem]
 cases h.e
 simp only [*, go_sem, mA, mS]
def slices_IndexFunc_Lock_L1 (p0 : List Lock) (p1 : Lock → Option (Bool)) (k3 : Option (Int)) : Nat → Nat → Option (Int)
 | 0, _ => none
 | n5 + 1, a4_1 => (if (decide (a4_1 < p0.length)) = true then (Option.bind (p0[a4_1]?) fun x7 => (Option.bind (p1 x7) fun v8 => (if v8 = true then (some ((a4_1 : Nat) : Int)) else (slices_IndexFunc_Lock_L1 p0 p1 k3 n5 (a4_1 + 1))))) else k3)
def slices_IndexFunc_Lock (p0 : List Lock) (p1 : Lock → Option (Bool)) : Option (Int) := (withK (some (-1)) fun k3 => (slices_IndexFunc_Lock_L1 p0 p1 k3 (p0.length + 1) 0))
def F184 : VFn := ⟨19, (.seq (.reg [mi 4 0]) (.seq (.seq (.reg [vm 6 0, ln 7 6, mi 8 0]) (.wk (.block 0 (.loop (.seq (.reg [bt 9 .lss 8 7]) (.seq (.cond (.t 9) .skip (.exit 0)) (.seq (.block 1 (.seq (.reg [vm 10 8, vm 5 10]) (.seq (.reg [vm 11 1, vm 12 0, vm 13 5, xa 14 6 12 13, vl 15 6 14, vo 16 (.callv (.t 11) [(.t 15)])]) (.cond (.t 16) (.seq (.reg [vm 17 5, vm 4 17]) .ret) .skip)))) (.reg [bk 18 .add 8 1, vm 8 18])))))))) (.seq (.reg [mi 4 (-1)]) .ret))), [.t 4]⟩
theorem low184 : lowF Tryd.prog 184 = some F184.strip := by kernel_rfl
theorem fok184 : fOk Tryd.prog 184 = true := by kernel_rfl
theorem slices_IndexFunc_Lock_ok (p0 : List Lock) (p1 : Lock → Option (Bool)) (g_p1 : Nat) (c_p1 : List D) (h_p1 : ∀ (x0 : Lock) (r : Bool), p1 x0 = some r → FnRO Tryd.prog G g_p1 ([.agg [.d (.i .i64 x0.Txn.Site), .d (.i .i64 x0.Txn.N), .d (.i .i64 x0.Key), .d (.b x0.Write), .d (.i .i64 x0.Value), .d (.i .i64 x0.Ask)]] ++ c_p1.map fun d => .one (.d d)) (fun rs => rs = [.one (.b r)])) (r : Int) (h : slices_IndexFunc_Lock p0 p1 = some r) : FnRO Tryd.prog G 184 [.one (.d (.l 6 (p0.map Lock.enc))), .one (.d (.f g_p1 c_p1))] (fun rs => rs = [.one (.i .i64 r)]) := by
 refine FnRO.of' low184 fok184 (by simp [F184]) ?_
 rw [slices_IndexFunc_Lock] at h
 replace h := Hd.mk h
 simp only [F184, go_sem]
 try simp only [*, go_sem]
 intro hl1
 try simp only [*, go_sem]
 refine jn0 h ([]) ([]) (fun k3 h => ?_) (fun h => ?_)
 try simp only [*, go_sem]
 refine lp1 (slices_IndexFunc_Lock_L1 p0 p1 k3) (fun a4_1 => [zL 0 6 (p0.map Lock.enc), (1, .one (.d (.f g_p1 c_p1))), zI 7 ((p0.length : Nat) : Int), zI 8 ((a4_1 : Nat) : Int)]) (fun a4_1 => []) h [] [] (fun n5 a4_1 h => ?_) (by intros; rw [slices_IndexFunc_Lock_L1])
 rw [slices_IndexFunc_Lock_L1] at h
 refine oi h (fun hb6 h => ?_) (fun hb6 h => ?_)
 have := of_decide_eq_true hb6
 refine obg h (fun x7 _ hkx7 h => ?_)
 try simp only [*, go_sem]
 refine cr h (h_p1 x7) (fun v8 h => ?_)
 refine oi h (fun hb9 h => ?_) (fun hb9 h => ?_)
 cases h.e
 simp only [*, go_sem, mA, mS]
 have := wrap_succ_max hkx7 hl1
 try simp only [*, go_sem]
 exact lc (a4_1 + 1) h.e []
 try simp only [*, go_sem]
 exact jc () h.e []
 cases h.e
 simp only [*, go_sem, mA, mS]
def slices_ContainsFunc_Lock (p0 : List Lock) (p1 : Lock → Option (Bool)) : Option (Bool) := (Option.bind (slices_IndexFunc_Lock p0 p1) fun v1 => (some (decide (v1 ≥ 0))))
def F181 : VFn := ⟨9, (.seq (.reg [vo 4 (.mv (cb false))]) (.seq (.reg [vm 5 0, vm 6 1, vo 7 (.call 184 [(.t 5), (.t 6)]), bk 8 .geq 7 0, vm 4 8]) .ret)), [.t 4]⟩
theorem low181 : lowF Tryd.prog 181 = some F181.strip := by kernel_rfl
theorem fok181 : fOk Tryd.prog 181 = true := by kernel_rfl
theorem slices_ContainsFunc_Lock_ok (p0 : List Lock) (p1 : Lock → Option (Bool)) (g_p1 : Nat) (c_p1 : List D) (h_p1 : ∀ (x0 : Lock) (r : Bool), p1 x0 = some r → FnRO Tryd.prog G g_p1 ([.agg [.d (.i .i64 x0.Txn.Site), .d (.i .i64 x0.Txn.N), .d (.i .i64 x0.Key), .d (.b x0.Write), .d (.i .i64 x0.Value), .d (.i .i64 x0.Ask)]] ++ c_p1.map fun d => .one (.d d)) (fun rs => rs = [.one (.b r)])) (r : Bool) (h : slices_ContainsFunc_Lock p0 p1 = some r) : FnRO Tryd.prog G 181 [.one (.d (.l 6 (p0.map Lock.enc))), .one (.d (.f g_p1 c_p1))] (fun rs => rs = [.one (.b r)]) := by
 refine FnRO.of' low181 fok181 (by simp [F181]) ?_
 rw [slices_ContainsFunc_Lock] at h
 replace h := Hd.mk h
 simp only [F181, go_sem]
 try simp only [*, go_sem]
 refine cr h (slices_IndexFunc_Lock_ok G p0 p1 g_p1 c_p1 h_p1) (fun v1 h => ?_)
 cases h.e
 simp only [*, go_sem, mA, mS]
def store_doubts_L2 (p0 : Store) (a4_1 : Nat) (x7 : Doubt) (k20 : Option (Bool)) : Nat → Nat → Option (Bool)
 | 0, _ => none
 | n22 + 1, a21_1 => (if (decide (a21_1 < min a4_1 p0.Doubts.length)) = true then (Option.bind ((p0.Doubts.take a4_1)[a21_1]?) fun x24 => (if ((x24.Txn.Site == x7.Txn.Site) && (x24.Txn.N == x7.Txn.N)) = true then (some false) else (store_doubts_L2 p0 a4_1 x7 k20 n22 (a21_1 + 1)))) else k20)
def store_doubts_L1 (p0 : Store) (k3 : Option (Bool)) : Nat → Nat → Option (Bool)
 | 0, _ => none
 | n5 + 1, a4_1 => (if (decide (a4_1 < p0.Doubts.length)) = true then (Option.bind (p0.Doubts[a4_1]?) fun x7 => (Option.bind (store_txn x7.Txn) fun v8 => (if (!v8) = true then (some false) else (if (decide (x7.Age < 0)) = true then (some false) else (if (decide (x7.Age > 1048576)) = true then (some false) else (Option.bind (slices_Contains_Txn p0.Over x7.Txn) fun v12 => (if v12 = true then (some false) else (Option.bind (slices_ContainsFunc_Lock p0.Locks (fun y14 => store_doubts_1 y14 x7)) fun v15 => (if (!v15) = true then (some false) else (withK (store_doubts_L1 p0 k3 n5 (a4_1 + 1)) fun k20 => (store_doubts_L2 p0 a4_1 x7 k20 (min a4_1 p0.Doubts.length + 1) 0))))))))))) else k3)
def store_doubts_L3 (p0 : Store) (k30 : Option (Bool)) : Nat → Nat → Option (Bool)
 | 0, _ => none
 | n32 + 1, a31_1 => (if (decide (a31_1 < p0.Over.length)) = true then (Option.bind (p0.Over[a31_1]?) fun x34 => (Option.bind (store_txn x34) fun v35 => (if (!v35) = true then (some false) else (Option.bind (slices_Contains_Txn (p0.Over.take a31_1) x34) fun v38 => (if v38 = true then (some false) else (store_doubts_L3 p0 k30 n32 (a31_1 + 1))))))) else k30)
def store_doubts (p0 : Store) : Option (Bool) := (withK (withK (some true) fun k30 => (store_doubts_L3 p0 k30 (p0.Over.length + 1) 0)) fun k3 => (store_doubts_L1 p0 k3 (p0.Doubts.length + 1) 0))
def F139 : VFn := ⟨79, (.seq (.reg [vo 1 (.boxk 4 (.t 0)), vo 2 (.mv (cb false))]) (.seq (.seq (.reg [vf 9 2 1, vs 10 9, ln 11 10, mi 12 0]) (.wk (.block 0 (.loop (.seq (.reg [bt 13 .lss 12 11]) (.seq (.cond (.t 13) .skip (.exit 0)) (.seq (.block 1 (.seq (.reg [vm 14 12, xa 15 3 10 12, vl 16 3 15, vo 4 (.alloc [(zi 0), (zi 0), (zi 0)]), vm 3 14, vu (.st 3 (.t 4) (.t 16))]) (.seq (.seq (.reg [vf 17 0 4, vl 18 2 17, vo 19 (.call 180 [(.t 18)]), nt 20 19, vm 21 20, gf 22 21 (.fa 2 (.t 4)), gf 23 21 (.ld false 1 (.t 22)), gf 24 21 (.bin .i .lss (.t 23) (ci 0)), vo 25 (.pick (.t 21) (cb true) (.t 24)), vm 26 25, gf 27 26 (.fa 2 (.t 4)), gf 28 26 (.ld false 1 (.t 27)), gf 29 26 (.bin .i .gtr (.t 28) (ci 1048576)), vo 30 (.pick (.t 26) (cb true) (.t 29)), vm 31 30, gf 32 31 (.fa 3 (.t 1)), gf 33 31 (.ld false 1 (.t 32)), gf 34 31 (.fa 0 (.t 4)), gf 35 31 (.ld true 2 (.t 34)), gf 36 31 (.call 145 [(.t 33), (.t 35)]), vo 37 (.pick (.t 31) (cb true) (.t 36))]) (.cond (.t 37) (.seq (.reg [vo 2 (.mv (cb false))]) .ret) .skip)) (.seq (.seq (.reg [vf 38 1 1, vs 39 38, vo 40 (.mkf 182 [(.t 4)]), vo 41 (.call 181 [(.t 39), (.t 40)]), nt 42 41]) (.cond (.t 42) (.seq (.reg [vo 2 (.mv (cb false))]) .ret) .skip)) (.seq (.reg [vf 43 2 1, vs 44 43, vm 45 3, vo 46 (.sl 3 (.t 44) none (some (.t 45))), ln 47 46, mi 48 0]) (.wk (.block 2 (.loop (.seq (.reg [bt 49 .lss 48 47]) (.seq (.cond (.t 49) .skip (.exit 2)) (.seq (.block 3 (.seq (.reg [xa 50 3 46 48, vl 51 3 50, vo 6 (.alloc [(zi 0), (zi 0), (zi 0)]), vu (.st 3 (.t 6) (.t 51))]) (.seq (.reg [vf 52 0 6, vl 53 2 52, vf 54 0 4, vl 55 2 54, vo 56 (.eqs false [.i, .i] (.t 53) (.t 55))]) (.cond (.t 56) (.seq (.reg [vo 2 (.mv (cb false))]) .ret) .skip)))) (.reg [bk 57 .add 48 1, vm 48 57])))))))))))) (.reg [bk 58 .add 12 1, vm 12 58])))))))) (.seq (.seq (.reg [vf 59 3 1, vs 60 59, ln 61 60, mi 62 0]) (.wk (.block 4 (.loop (.seq (.reg [bt 63 .lss 62 61]) (.seq (.cond (.t 63) .skip (.exit 4)) (.seq (.block 5 (.seq (.reg [vm 64 62, xa 65 2 60 62, vl 66 2 65, vo 8 (.alloc [(zi 0), (zi 0)]), vm 7 64, vu (.st 2 (.t 8) (.t 66))]) (.seq (.draw [vd (vl 67 2 8) 0, vd (vo 68 (.call 180 [(.t 67)])) 1, vd (nt 69 68) 3, vd (vm 70 69) 7, vd (gf 71 70 (.fa 3 (.t 1))) 15, vd (gf 72 70 (.ld false 1 (.t 71))) 31, vd (gf 73 70 (.mv (.t 7))) 15, vd (gf 74 70 (.sl 2 (.t 72) none (some (.t 73)))) 127, vd (gf 75 70 (.ld true 2 (.t 8))) 15, vd (gf 76 70 (.call 145 [(.t 74), (.t 75)])) 511, vd (vo 77 (.pick (.t 70) (cb true) (.t 76))) 1023]) (.cond (.t 77) (.seq (.reg [vo 2 (.mv (cb false))]) .ret) .skip)))) (.reg [bk 78 .add 62 1, vm 62 78])))))))) (.seq (.reg [vo 2 (.mv (cb true))]) .ret)))), [.t 2]⟩
theorem low139 : lowF Tryd.prog 139 = some F139.strip := by kernel_rfl
theorem fok139 : fOk Tryd.prog 139 = true := by kernel_rfl
theorem store_doubts_ok (p0 : Store) (r : Bool) (h : store_doubts p0 = some r) : FnRO Tryd.prog G 139 [.agg p0.bx] (fun rs => rs = [.one (.b r)]) := by
 refine FnRO.of' low139 fok139 (by simp [F139]) ?_
 rw [store_doubts] at h
 replace h := Hd.mk h
 simp only [F139, go_sem]
 try simp only [*, go_sem]
 intro hl1
 try simp only [*, go_sem]
 refine jn0 h ([zK 1 (Store.enc p0)]) ([]) (fun k3 h => ?_) (fun h => ?_)
 try simp only [*, go_sem]
 refine lp1 (store_doubts_L1 p0 k3) (fun a4_1 => [zK 1 (Store.enc p0), zL 10 3 (p0.Doubts.map Doubt.enc), zI 11 ((p0.Doubts.length : Nat) : Int), zI 12 ((a4_1 : Nat) : Int)]) (fun a4_1 => []) h [] [] (fun n5 a4_1 h => ?_) (by intros; rw [store_doubts_L1])
 rw [store_doubts_L1] at h
 refine oi h (fun hb6 h => ?_) (fun hb6 h => ?_)
 have := of_decide_eq_true hb6
 refine obg h (fun x7 _ hkx7 h => ?_)
 try simp only [*, go_sem]
 refine cr h (store_txn_ok G x7.Txn) (fun v8 h => ?_)
 refine oin h (fun hb9 hkhb9 h => ?_) (fun hb9 hkhb9 h => ?_)
 cases h.e
 simp only [*, go_sem, mA, mS]
 refine oi h (fun hb10 h => ?_) (fun hb10 h => ?_)
 have := of_decide_eq_true hb10
 cases h.e
 simp only [*, go_sem, mA, mS]
 refine oi h (fun hb11 h => ?_) (fun hb11 h => ?_)
 cases h.e
 simp only [*, go_sem, mA, mS]
 try simp only [*, go_sem]
 refine cr h (slices_Contains_Txn_ok G p0.Over x7.Txn) (fun v12 h => ?_)
 refine oi h (fun hb13 h => ?_) (fun hb13 h => ?_)
 cases h.e
 simp only [*, go_sem, mA, mS]
 try simp only [*, go_sem]
 refine cl h (slices_ContainsFunc_Lock_ok G p0.Locks (fun y14 => store_doubts_1 y14 x7) 182 [.k [.i .i64 x7.Txn.Site, .i .i64 x7.Txn.N, .i .i64 x7.Age]] (fun y14 r h => store_doubts_1_ok G y14 x7 r h)) (fun v15 h => ?_)
 refine oin h (fun hb16 hkhb16 h => ?_) (fun hb16 hkhb16 h => ?_)
 cases h.e
 simp only [*, go_sem, mA, mS]
 have := Nat.le_of_lt hkx7
 try simp only [*, go_sem]
 intro hl18
 try simp only [*, go_sem]
 refine jn0 h ([zK 1 (Store.enc p0), zL 10 3 (p0.Doubts.map Doubt.enc), zI 11 ((p0.Doubts.length : Nat) : Int), zI 12 ((a4_1 : Nat) : Int), (22, .one (.p (.q 0 0 2))), zI 23 x7.Age, zB 24 false, (27, .one (.p (.q 0 0 2))), zI 28 x7.Age, zB 29 false, (32, .one (.p (.l 4 [(Store.enc p0)] 0 3))), zL 33 2 (p0.Over.map Txn.enc), zP 34 0, (35, .agg [zi x7.Txn.Site, zi x7.Txn.N]), zB 36 false]) ([ox x7.bx]) (fun k20 h => ?_) (fun h => ?_)
 try simp only [*, go_sem]
 refine lp1 (store_doubts_L2 p0 a4_1 x7 k20) (fun a21_1 => [zK 1 (Store.enc p0), zP 4 0, zL 10 3 (p0.Doubts.map Doubt.enc), zI 11 ((p0.Doubts.length : Nat) : Int), zI 12 ((a4_1 : Nat) : Int), (22, .one (.p (.q 0 0 2))), zI 23 x7.Age, zB 24 false, (27, .one (.p (.q 0 0 2))), zI 28 x7.Age, zB 29 false, (32, .one (.p (.l 4 [(Store.enc p0)] 0 3))), zL 33 2 (p0.Over.map Txn.enc), zP 34 0, (35, .agg [zi x7.Txn.Site, zi x7.Txn.N]), zB 36 false, zL 46 3 ((p0.Doubts.take a4_1).map Doubt.enc), zI 47 ((min a4_1 p0.Doubts.length : Nat) : Int), zI 48 ((a21_1 : Nat) : Int)]) (fun a21_1 => [ox x7.bx]) h [] [some 0] (fun n22 a21_1 h => ?_) (by intros; rw [store_doubts_L2])
 rw [store_doubts_L2] at h
 refine oi h (fun hb23 h => ?_) (fun hb23 h => ?_)
 refine obg h (fun x24 _ hkx24 h => ?_)
 try simp only [List.length_take, List.length_drop, List.length_append, List.length_set, List.length_map, List.length_cons, List.length_nil, Nat.zero_add] at hkx24
 refine oi h (fun hb25 h => ?_) (fun hb25 h => ?_)
 try simp only [*, go_sem]
 cases h.e
 simp only [*, go_sem, mA, mS]
 try simp only [*, go_sem]
 have := wrap_succ_max hkx24 hl18
 try simp only [*, go_sem]
 exact lc (a21_1 + 1) h.e [some 0]
 try simp only [*, go_sem]
 exact jc () h.e [some 0]
 have := wrap_succ_max hkx7 hl1
 try simp only [*, go_sem]
 exact lc (a4_1 + 1) h.e []
 try simp only [*, go_sem]
 exact jc () h.e []
 try simp only [*, go_sem]
 intro hl28
 try simp only [*, go_sem]
 refine jn0 h ([]) ([]) (fun k30 h => ?_) (fun h => ?_)
 try simp only [*, go_sem]
 refine lp1 (store_doubts_L3 p0 k30) (fun a31_1 => [zK 1 (Store.enc p0), zL 60 2 (p0.Over.map Txn.enc), zI 61 ((p0.Over.length : Nat) : Int), zI 62 ((a31_1 : Nat) : Int)]) (fun a31_1 => []) h [] [] (fun n32 a31_1 h => ?_) (by intros; rw [store_doubts_L3])
 rw [store_doubts_L3] at h
 refine oi h (fun hb33 h => ?_) (fun hb33 h => ?_)
 have := of_decide_eq_true hb33
 refine obg h (fun x34 _ hkx34 h => ?_)
 refine obk h (fun v35 hv35 h => ?_)
 try simp only [*, go_sem]
 refine cd (store_txn_ok G x34 v35 hv35) ?_
 refine oin h (fun hb36 hkhb36 h => ?_) (fun hb36 hkhb36 h => ?_)
 cases h.e
 simp only [*, go_sem, mA, mS]
 have := Nat.le_of_lt hkx34
 refine obk h (fun v38 hv38 h => ?_)
 try simp only [*, go_sem]
 refine cd (slices_Contains_Txn_ok G (p0.Over.take a31_1) x34 v38 hv38) ?_
 refine oi h (fun hb39 h => ?_) (fun hb39 h => ?_)
 cases h.e
 simp only [*, go_sem, mA, mS]
 have := wrap_succ_max hkx34 hl28
 try simp only [*, go_sem]
 exact lc (a31_1 + 1) h.e []
 try simp only [*, go_sem]
 exact jc () h.e []
 cases h.e
 simp only [*, go_sem, mA, mS]
def store_doubted_1 (p0 : Doubt) (p1 : Txn) : Option (Bool) := (some ((p0.Txn.Site == p1.Site) && (p0.Txn.N == p1.N)))
def F213 : VFn := ⟨8, (.seq (.reg [vo 2 (.boxk 3 (.t 0)), vo 3 (.mv (cb false))]) (.seq (.reg [vf 4 0 2, vl 5 2 4, vl 6 2 1, vo 7 (.eqs false [.i, .i] (.t 5) (.t 6)), vm 3 7]) .ret)), [.t 3]⟩
theorem low213 : lowF Tryd.prog 213 = some F213.strip := by kernel_rfl
theorem fok213 : fOk Tryd.prog 213 = true := by kernel_rfl
theorem store_doubted_1_ok (p0 : Doubt) (p1 : Txn) (r : Bool) (h : store_doubted_1 p0 p1 = some r) : FnRO Tryd.prog G 213 [.agg p0.bx, .one (.d (.k (Txn.enc p1)))] (fun rs => rs = [.one (.b r)]) := by
 refine FnRO.of' low213 fok213 (by simp [F213]) ?_
 rw [store_doubted_1] at h
 replace h := Hd.mk h
 simp only [F213, go_sem]
 cases h.e
 simp only [*, go_sem, mA, mS]
def slices_IndexFunc_Doubt_L1 (p0 : List Doubt) (p1 : Doubt → Option (Bool)) (k3 : Option (Int)) : Nat → Nat → Option (Int)
 | 0, _ => none
 | n5 + 1, a4_1 => (if (decide (a4_1 < p0.length)) = true then (Option.bind (p0[a4_1]?) fun x7 => (Option.bind (p1 x7) fun v8 => (if v8 = true then (some ((a4_1 : Nat) : Int)) else (slices_IndexFunc_Doubt_L1 p0 p1 k3 n5 (a4_1 + 1))))) else k3)
def slices_IndexFunc_Doubt (p0 : List Doubt) (p1 : Doubt → Option (Bool)) : Option (Int) := (withK (some (-1)) fun k3 => (slices_IndexFunc_Doubt_L1 p0 p1 k3 (p0.length + 1) 0))
def F193 : VFn := ⟨19, (.seq (.reg [mi 4 0]) (.seq (.seq (.reg [vm 6 0, ln 7 6, mi 8 0]) (.wk (.block 0 (.loop (.seq (.reg [bt 9 .lss 8 7]) (.seq (.cond (.t 9) .skip (.exit 0)) (.seq (.block 1 (.seq (.reg [vm 10 8, vm 5 10]) (.seq (.reg [vm 11 1, vm 12 0, vm 13 5, xa 14 3 12 13, vl 15 3 14, vo 16 (.callv (.t 11) [(.t 15)])]) (.cond (.t 16) (.seq (.reg [vm 17 5, vm 4 17]) .ret) .skip)))) (.reg [bk 18 .add 8 1, vm 8 18])))))))) (.seq (.reg [mi 4 (-1)]) .ret))), [.t 4]⟩
theorem low193 : lowF Tryd.prog 193 = some F193.strip := by kernel_rfl
theorem fok193 : fOk Tryd.prog 193 = true := by kernel_rfl
theorem slices_IndexFunc_Doubt_ok (p0 : List Doubt) (p1 : Doubt → Option (Bool)) (g_p1 : Nat) (c_p1 : List D) (h_p1 : ∀ (x0 : Doubt) (r : Bool), p1 x0 = some r → FnRO Tryd.prog G g_p1 ([.agg [.d (.i .i64 x0.Txn.Site), .d (.i .i64 x0.Txn.N), .d (.i .i64 x0.Age)]] ++ c_p1.map fun d => .one (.d d)) (fun rs => rs = [.one (.b r)])) (r : Int) (h : slices_IndexFunc_Doubt p0 p1 = some r) : FnRO Tryd.prog G 193 [.one (.d (.l 3 (p0.map Doubt.enc))), .one (.d (.f g_p1 c_p1))] (fun rs => rs = [.one (.i .i64 r)]) := by
 refine FnRO.of' low193 fok193 (by simp [F193]) ?_
 rw [slices_IndexFunc_Doubt] at h
 replace h := Hd.mk h
 simp only [F193, go_sem]
 try simp only [*, go_sem]
 intro hl1
 try simp only [*, go_sem]
 refine jn0 h ([]) ([]) (fun k3 h => ?_) (fun h => ?_)
 try simp only [*, go_sem]
 refine lp1 (slices_IndexFunc_Doubt_L1 p0 p1 k3) (fun a4_1 => [zL 0 3 (p0.map Doubt.enc), (1, .one (.d (.f g_p1 c_p1))), zI 7 ((p0.length : Nat) : Int), zI 8 ((a4_1 : Nat) : Int)]) (fun a4_1 => []) h [] [] (fun n5 a4_1 h => ?_) (by intros; rw [slices_IndexFunc_Doubt_L1])
 rw [slices_IndexFunc_Doubt_L1] at h
 refine oi h (fun hb6 h => ?_) (fun hb6 h => ?_)
 have := of_decide_eq_true hb6
 refine obg h (fun x7 _ hkx7 h => ?_)
 try simp only [*, go_sem]
 refine cr h (h_p1 x7) (fun v8 h => ?_)
 refine oi h (fun hb9 h => ?_) (fun hb9 h => ?_)
 cases h.e
 simp only [*, go_sem, mA, mS]
 have := wrap_succ_max hkx7 hl1
 try simp only [*, go_sem]
 exact lc (a4_1 + 1) h.e []
 try simp only [*, go_sem]
 exact jc () h.e []
 cases h.e
 simp only [*, go_sem, mA, mS]
def slices_ContainsFunc_Doubt (p0 : List Doubt) (p1 : Doubt → Option (Bool)) : Option (Bool) := (Option.bind (slices_IndexFunc_Doubt p0 p1) fun v1 => (some (decide (v1 ≥ 0))))
def F212 : VFn := ⟨9, (.seq (.reg [vo 4 (.mv (cb false))]) (.seq (.reg [vm 5 0, vm 6 1, vo 7 (.call 193 [(.t 5), (.t 6)]), bk 8 .geq 7 0, vm 4 8]) .ret)), [.t 4]⟩
theorem low212 : lowF Tryd.prog 212 = some F212.strip := by kernel_rfl
theorem fok212 : fOk Tryd.prog 212 = true := by kernel_rfl
theorem slices_ContainsFunc_Doubt_ok (p0 : List Doubt) (p1 : Doubt → Option (Bool)) (g_p1 : Nat) (c_p1 : List D) (h_p1 : ∀ (x0 : Doubt) (r : Bool), p1 x0 = some r → FnRO Tryd.prog G g_p1 ([.agg [.d (.i .i64 x0.Txn.Site), .d (.i .i64 x0.Txn.N), .d (.i .i64 x0.Age)]] ++ c_p1.map fun d => .one (.d d)) (fun rs => rs = [.one (.b r)])) (r : Bool) (h : slices_ContainsFunc_Doubt p0 p1 = some r) : FnRO Tryd.prog G 212 [.one (.d (.l 3 (p0.map Doubt.enc))), .one (.d (.f g_p1 c_p1))] (fun rs => rs = [.one (.b r)]) := by
 refine FnRO.of' low212 fok212 (by simp [F212]) ?_
 rw [slices_ContainsFunc_Doubt] at h
 replace h := Hd.mk h
 simp only [F212, go_sem]
 try simp only [*, go_sem]
 refine cr h (slices_IndexFunc_Doubt_ok G p0 p1 g_p1 c_p1 h_p1) (fun v1 h => ?_)
 cases h.e
 simp only [*, go_sem, mA, mS]
def store_doubted (p0 : Store) (p1 : Txn) : Option (Bool) := (Option.bind (slices_ContainsFunc_Doubt p0.Doubts (fun y1 => store_doubted_1 y1 p1)) fun v2 => (some v2))
def F183 : VFn := ⟨9, (.seq (.reg [vo 2 (.box 4 (.t 0)), vo 3 (.box 2 (.t 1)), vo 4 (.mv (cb false))]) (.seq (.reg [vf 5 2 2, vs 6 5, vo 7 (.mkf 213 [(.t 3)]), vo 8 (.call 212 [(.t 6), (.t 7)]), vm 4 8]) .ret)), [.t 4]⟩
theorem low183 : lowF Tryd.prog 183 = some F183.strip := by kernel_rfl
theorem fok183 : fOk Tryd.prog 183 = true := by kernel_rfl
theorem store_doubted_ok (p0 : Store) (p1 : Txn) (r : Bool) (h : store_doubted p0 p1 = some r) : FnRO Tryd.prog G 183 [.agg p0.bx, .agg p1.bx] (fun rs => rs = [.one (.b r)]) := by
 refine FnRO.of' low183 fok183 (by simp [F183]) ?_
 rw [store_doubted] at h
 replace h := Hd.mk h
 simp only [F183, go_sem]
 try simp only [*, go_sem]
 refine cl h (slices_ContainsFunc_Doubt_ok G p0.Doubts (fun y1 => store_doubted_1 y1 p1) 213 [.k [.i .i64 p1.Site, .i .i64 p1.N]] (fun y1 r h => store_doubted_1_ok G y1 p1 r h)) (fun v2 h => ?_)
 cases h.e
 simp only [*, go_sem, mA, mS]
def store_locks_L2 (p0 : Store) (a4_1 : Nat) (x7 : Lock) (k21 : Option (Bool)) : Nat → Nat → Option (Bool)
 | 0, _ => none
 | n23 + 1, a22_1 => (if (decide (a22_1 < min a4_1 p0.Locks.length)) = true then (Option.bind ((p0.Locks.take a4_1)[a22_1]?) fun x25 => (if (x25.Key == x7.Key) = true then (if ((x25.Txn.Site == x7.Txn.Site) && (x25.Txn.N == x7.Txn.N)) = true then (some false) else (if x25.Write = true then (some false) else (store_locks_L2 p0 a4_1 x7 k21 n23 (a22_1 + 1)))) else (store_locks_L2 p0 a4_1 x7 k21 n23 (a22_1 + 1)))) else k21)
def store_locks_L3 (p0 : Store) (a4_1 : Nat) (x7 : Lock) (k35 : Option (Bool)) : Nat → Nat → Option (Bool)
 | 0, _ => none
 | n37 + 1, a36_1 => (if (decide (a36_1 < min a4_1 p0.Locks.length)) = true then (Option.bind ((p0.Locks.take a4_1)[a36_1]?) fun x39 => (if (x39.Key == x7.Key) = true then (if ((x39.Txn.Site == x7.Txn.Site) && (x39.Txn.N == x7.Txn.N)) = true then (some false) else (if x39.Write = true then (some false) else (some false))) else (store_locks_L3 p0 a4_1 x7 k35 n37 (a36_1 + 1)))) else k35)
def store_locks_L1 (p0 : Store) (k3 : Option (Bool)) : Nat → Nat → Option (Bool)
 | 0, _ => none
 | n5 + 1, a4_1 => (if (decide (a4_1 < p0.Locks.length)) = true then (Option.bind (p0.Locks[a4_1]?) fun x7 => (Option.bind (store_doubted p0 x7.Txn) fun v8 => (if (!v8) = true then (some false) else (if (decide (x7.Key < 0)) = true then (some false) else (if (decide (x7.Key ≥ 8)) = true then (some false) else (if (decide (x7.Value < 0)) = true then (some false) else (if (decide (x7.Value > 1073741824)) = true then (some false) else (if (decide (x7.Ask < 0)) = true then (some false) else (if (decide (x7.Ask > 1048576)) = true then (some false) else (if (!x7.Write) = true then (if (IntKind.i64.wrap (x7.Value + x7.Ask) != 0) = true then (some false) else (withK (store_locks_L1 p0 k3 n5 (a4_1 + 1)) fun k21 => (store_locks_L2 p0 a4_1 x7 k21 (min a4_1 p0.Locks.length + 1) 0))) else (withK (store_locks_L1 p0 k3 n5 (a4_1 + 1)) fun k35 => (store_locks_L3 p0 a4_1 x7 k35 (min a4_1 p0.Locks.length + 1) 0)))))))))))) else k3)
def store_locks (p0 : Store) : Option (Bool) := (withK (some (decide (((p0.Locks.length : Nat) : Int) ≤ 24))) fun k3 => (store_locks_L1 p0 k3 (p0.Locks.length + 1) 0))
def F140 : VFn := ⟨98, (.seq (.reg [vo 1 (.boxk 4 (.t 0)), vo 2 (.mv (cb false))]) (.seq (.seq (.reg [vf 7 1 1, vs 8 7, ln 9 8, mi 10 0]) (.wk (.block 0 (.loop (.seq (.reg [bt 11 .lss 10 9]) (.seq (.cond (.t 11) .skip (.exit 0)) (.seq (.block 1 (.seq (.reg [vm 12 10, xa 13 6 8 10, vl 14 6 13, vo 4 (.alloc [(zi 0), (zi 0), (zi 0), (.d (.b false)), (zi 0), (zi 0)]), vm 3 12, vu (.st 6 (.t 4) (.t 14))]) (.seq (.seq (.reg [vl 15 4 1, vf 16 0 4, vl 17 2 16, vo 18 (.call 183 [(.t 15), (.t 17)]), nt 19 18, vm 20 19, gf 21 20 (.fa 2 (.t 4)), gf 22 20 (.ld false 1 (.t 21)), gf 23 20 (.bin .i .lss (.t 22) (ci 0)), vo 24 (.pick (.t 20) (cb true) (.t 23)), vm 25 24, gf 26 25 (.fa 2 (.t 4)), gf 27 25 (.ld false 1 (.t 26)), gf 28 25 (.bin .i .geq (.t 27) (ci 8)), vo 29 (.pick (.t 25) (cb true) (.t 28)), vm 30 29, gf 31 30 (.fa 4 (.t 4)), gf 32 30 (.ld false 1 (.t 31)), gf 33 30 (.bin .i .lss (.t 32) (ci 0)), vo 34 (.pick (.t 30) (cb true) (.t 33)), vm 35 34, gf 36 35 (.fa 4 (.t 4)), gf 37 35 (.ld false 1 (.t 36)), gf 38 35 (.bin .i .gtr (.t 37) (ci 1073741824)), vo 39 (.pick (.t 35) (cb true) (.t 38)), vm 40 39, gf 41 40 (.fa 5 (.t 4)), gf 42 40 (.ld false 1 (.t 41)), gf 43 40 (.bin .i .lss (.t 42) (ci 0)), vo 44 (.pick (.t 40) (cb true) (.t 43)), vm 45 44, gf 46 45 (.fa 5 (.t 4)), gf 47 45 (.ld false 1 (.t 46)), gf 48 45 (.bin .i .gtr (.t 47) (ci 1048576)), vo 49 (.pick (.t 45) (cb true) (.t 48)), vm 50 49, gf 51 50 (.fa 3 (.t 4)), gf 52 50 (.ld false 1 (.t 51)), gf 53 50 (.un .not (.t 52)), gf 54 50 (.mv (.t 53)), gt 55 54 (.fa 4 (.t 4)), gt 56 54 (.ld false 1 (.t 55)), gt 57 54 (.fa 5 (.t 4)), gt 58 54 (.ld false 1 (.t 57)), gt 59 54 (.bin .i .add (.t 56) (.t 58)), gt 60 54 (.bin .i .neq (.t 59) (ci 0)), gf 61 50 (.pick (.t 54) (.t 60) (cb false)), vo 62 (.pick (.t 50) (cb true) (.t 61))]) (.cond (.t 62) (.seq (.reg [vo 2 (.mv (cb false))]) .ret) .skip)) (.seq (.reg [vf 63 1 1, vs 64 63, vm 65 3, vo 66 (.sl 6 (.t 64) none (some (.t 65))), ln 67 66, mi 68 0]) (.wk (.block 2 (.loop (.seq (.reg [bt 69 .lss 68 67]) (.seq (.cond (.t 69) .skip (.exit 2)) (.seq (.block 3 (.seq (.reg [xa 70 6 66 68, vl 71 6 70, vo 6 (.alloc [(zi 0), (zi 0), (zi 0), (.d (.b false)), (zi 0), (zi 0)]), vu (.st 6 (.t 6) (.t 71))]) (.seq (.reg [vf 72 2 6, vs 73 72, vf 74 2 4, vs 75 74, bt 76 .eql 73 75, vm 77 76, gt 78 77 (.fa 0 (.t 6)), gt 79 77 (.ld true 2 (.t 78)), gt 80 77 (.fa 0 (.t 4)), gt 81 77 (.ld true 2 (.t 80)), gt 82 77 (.eqs false [.i, .i] (.t 79) (.t 81)), gt 83 77 (.mv (.t 82)), gf 84 83 (.fa 3 (.t 6)), gf 85 83 (.ld false 1 (.t 84)), gt 86 77 (.pick (.t 83) (cb true) (.t 85)), gt 87 77 (.mv (.t 86)), gf 88 87 (.fa 3 (.t 4)), gf 89 87 (.ld false 1 (.t 88)), gt 90 77 (.pick (.t 87) (cb true) (.t 89)), vo 91 (.pick (.t 77) (.t 90) (cb false))]) (.cond (.t 91) (.seq (.reg [vo 2 (.mv (cb false))]) .ret) .skip)))) (.reg [bk 92 .add 68 1, vm 68 92]))))))))))) (.reg [bk 93 .add 10 1, vm 10 93])))))))) (.seq (.reg [vf 94 1 1, vs 95 94, ln 96 95, bk 97 .leq 96 24, vm 2 97]) .ret))), [.t 2]⟩
theorem low140 : lowF Tryd.prog 140 = some F140.strip := by kernel_rfl
theorem fok140 : fOk Tryd.prog 140 = true := by kernel_rfl
theorem store_locks_ok (p0 : Store) (r : Bool) (h : store_locks p0 = some r) : FnRO Tryd.prog G 140 [.agg p0.bx] (fun rs => rs = [.one (.b r)]) := by
 refine FnRO.of' low140 fok140 (by simp [F140]) ?_
 rw [store_locks] at h
 replace h := Hd.mk h
 simp only [F140, go_sem]
 try simp only [*, go_sem]
 intro hl1
 try simp only [*, go_sem]
 refine jn0 h ([zK 1 (Store.enc p0)]) ([]) (fun k3 h => ?_) (fun h => ?_)
 try simp only [*, go_sem]
 refine lp1 (store_locks_L1 p0 k3) (fun a4_1 => [zK 1 (Store.enc p0), zL 8 6 (p0.Locks.map Lock.enc), zI 9 ((p0.Locks.length : Nat) : Int), zI 10 ((a4_1 : Nat) : Int)]) (fun a4_1 => []) h [] [] (fun n5 a4_1 h => ?_) (by intros; rw [store_locks_L1])
 rw [store_locks_L1] at h
 refine oi h (fun hb6 h => ?_) (fun hb6 h => ?_)
 have := of_decide_eq_true hb6
 refine obg h (fun x7 _ hkx7 h => ?_)
 try simp only [*, go_sem]
 refine cr h (store_doubted_ok G p0 x7.Txn) (fun v8 h => ?_)
 refine oin h (fun hb9 hkhb9 h => ?_) (fun hb9 hkhb9 h => ?_)
 cases h.e
 simp only [*, go_sem, mA, mS]
 refine oi h (fun hb10 h => ?_) (fun hb10 h => ?_)
 have := of_decide_eq_true hb10
 cases h.e
 simp only [*, go_sem, mA, mS]
 refine oi h (fun hb11 h => ?_) (fun hb11 h => ?_)
 cases h.e
 simp only [*, go_sem, mA, mS]
 refine oi h (fun hb12 h => ?_) (fun hb12 h => ?_)
 have := of_decide_eq_true hb12
 cases h.e
 simp only [*, go_sem, mA, mS]
 refine oi h (fun hb13 h => ?_) (fun hb13 h => ?_)
 cases h.e
 simp only [*, go_sem, mA, mS]
 refine oi h (fun hb14 h => ?_) (fun hb14 h => ?_)
 have := of_decide_eq_true hb14
 cases h.e
 simp only [*, go_sem, mA, mS]
 refine oi h (fun hb15 h => ?_) (fun hb15 h => ?_)
 cases h.e
 simp only [*, go_sem, mA, mS]
 refine oin h (fun hb16 hkhb16 h => ?_) (fun hb16 hkhb16 h => ?_)
 refine oi h (fun hb17 h => ?_) (fun hb17 h => ?_)
 cases h.e
 simp only [*, go_sem, mA, mS]
 have := Nat.le_of_lt hkx7
 try simp only [*, go_sem]
 intro hl19
 try simp only [*, go_sem]
 refine jn0 h ([zK 1 (Store.enc p0), zL 8 6 (p0.Locks.map Lock.enc), zI 9 ((p0.Locks.length : Nat) : Int), zI 10 ((a4_1 : Nat) : Int), (21, .one (.p (.q 0 0 2))), zI 22 x7.Key, zB 23 false, (26, .one (.p (.q 0 0 2))), zI 27 x7.Key, zB 28 false, (31, .one (.p (.q 0 0 4))), zI 32 x7.Value, zB 33 false, (36, .one (.p (.q 0 0 4))), zI 37 x7.Value, zB 38 false, (41, .one (.p (.q 0 0 5))), zI 42 x7.Ask, zB 43 false, (46, .one (.p (.q 0 0 5))), zI 47 x7.Ask, zB 48 false, (51, .one (.p (.q 0 0 3))), zB 52 false, zB 53 true, zB 54 true, (55, .one (.p (.q 0 0 4))), zI 56 x7.Value, (57, .one (.p (.q 0 0 5))), zI 58 x7.Ask, zI 59 (IntKind.i64.wrap (x7.Value + x7.Ask)), zB 60 false, zB 61 false]) ([ox [zi x7.Txn.Site, zi x7.Txn.N, zi x7.Key, .d (.b false), zi x7.Value, zi x7.Ask]]) (fun k21 h => ?_) (fun h => ?_)
 try simp only [*, go_sem]
 refine lp1 (store_locks_L2 p0 a4_1 x7 k21) (fun a22_1 => [zK 1 (Store.enc p0), zP 4 0, zL 8 6 (p0.Locks.map Lock.enc), zI 9 ((p0.Locks.length : Nat) : Int), zI 10 ((a4_1 : Nat) : Int), (21, .one (.p (.q 0 0 2))), zI 22 x7.Key, zB 23 false, (26, .one (.p (.q 0 0 2))), zI 27 x7.Key, zB 28 false, (31, .one (.p (.q 0 0 4))), zI 32 x7.Value, zB 33 false, (36, .one (.p (.q 0 0 4))), zI 37 x7.Value, zB 38 false, (41, .one (.p (.q 0 0 5))), zI 42 x7.Ask, zB 43 false, (46, .one (.p (.q 0 0 5))), zI 47 x7.Ask, zB 48 false, (51, .one (.p (.q 0 0 3))), zB 52 false, zB 53 true, zB 54 true, (55, .one (.p (.q 0 0 4))), zI 56 x7.Value, (57, .one (.p (.q 0 0 5))), zI 58 x7.Ask, zI 59 (IntKind.i64.wrap (x7.Value + x7.Ask)), zB 60 false, zB 61 false, zL 66 6 ((p0.Locks.take a4_1).map Lock.enc), zI 67 ((min a4_1 p0.Locks.length : Nat) : Int), zI 68 ((a22_1 : Nat) : Int)]) (fun a22_1 => [ox [zi x7.Txn.Site, zi x7.Txn.N, zi x7.Key, .d (.b false), zi x7.Value, zi x7.Ask]]) h [] [some 0] (fun n23 a22_1 h => ?_) (by intros; rw [store_locks_L2])
 rw [store_locks_L2] at h
 refine oi h (fun hb24 h => ?_) (fun hb24 h => ?_)
 refine obg h (fun x25 _ hkx25 h => ?_)
 try simp only [List.length_take, List.length_drop, List.length_append, List.length_set, List.length_map, List.length_cons, List.length_nil, Nat.zero_add] at hkx25
 refine oi h (fun hb26 h => ?_) (fun hb26 h => ?_)
 refine oi h (fun hb27 h => ?_) (fun hb27 h => ?_)
 try simp only [*, go_sem]
 cases h.e
 simp only [*, go_sem, mA, mS]
 try simp only [*, go_sem]
 refine oi h (fun hb28 h => ?_) (fun hb28 h => ?_)
 cases h.e
 simp only [*, go_sem, mA, mS]
 have := wrap_succ_max hkx25 hl19
 try simp only [*, go_sem]
 exact lc (a22_1 + 1) h.e [some 0]
 have := wrap_succ_max hkx25 hl19
 try simp only [*, go_sem]
 exact lc (a22_1 + 1) h.e [some 0]
 try simp only [*, go_sem]
 exact jc () h.e [some 0]
 have := wrap_succ_max hkx7 hl1
 try simp only [*, go_sem]
 exact lc (a4_1 + 1) h.e []
 have := Nat.le_of_lt hkx7
 try simp only [*, go_sem]
 intro hl33
 try simp only [*, go_sem]
 refine jn0 h ([zK 1 (Store.enc p0), zL 8 6 (p0.Locks.map Lock.enc), zI 9 ((p0.Locks.length : Nat) : Int), zI 10 ((a4_1 : Nat) : Int), (21, .one (.p (.q 0 0 2))), zI 22 x7.Key, zB 23 false, (26, .one (.p (.q 0 0 2))), zI 27 x7.Key, zB 28 false, (31, .one (.p (.q 0 0 4))), zI 32 x7.Value, zB 33 false, (36, .one (.p (.q 0 0 4))), zI 37 x7.Value, zB 38 false, (41, .one (.p (.q 0 0 5))), zI 42 x7.Ask, zB 43 false, (46, .one (.p (.q 0 0 5))), zI 47 x7.Ask, zB 48 false, (51, .one (.p (.q 0 0 3))), zB 52 true, zB 53 false, zB 54 false, zB 61 false]) ([ox [zi x7.Txn.Site, zi x7.Txn.N, zi x7.Key, .d (.b true), zi x7.Value, zi x7.Ask]]) (fun k35 h => ?_) (fun h => ?_)
 try simp only [*, go_sem]
 refine lp1 (store_locks_L3 p0 a4_1 x7 k35) (fun a36_1 => [zK 1 (Store.enc p0), zP 4 0, zL 8 6 (p0.Locks.map Lock.enc), zI 9 ((p0.Locks.length : Nat) : Int), zI 10 ((a4_1 : Nat) : Int), (21, .one (.p (.q 0 0 2))), zI 22 x7.Key, zB 23 false, (26, .one (.p (.q 0 0 2))), zI 27 x7.Key, zB 28 false, (31, .one (.p (.q 0 0 4))), zI 32 x7.Value, zB 33 false, (36, .one (.p (.q 0 0 4))), zI 37 x7.Value, zB 38 false, (41, .one (.p (.q 0 0 5))), zI 42 x7.Ask, zB 43 false, (46, .one (.p (.q 0 0 5))), zI 47 x7.Ask, zB 48 false, (51, .one (.p (.q 0 0 3))), zB 52 true, zB 53 false, zB 54 false, zB 61 false, zL 66 6 ((p0.Locks.take a4_1).map Lock.enc), zI 67 ((min a4_1 p0.Locks.length : Nat) : Int), zI 68 ((a36_1 : Nat) : Int)]) (fun a36_1 => [ox [zi x7.Txn.Site, zi x7.Txn.N, zi x7.Key, .d (.b true), zi x7.Value, zi x7.Ask]]) h [] [some 0] (fun n37 a36_1 h => ?_) (by intros; rw [store_locks_L3])
 rw [store_locks_L3] at h
 refine oi h (fun hb38 h => ?_) (fun hb38 h => ?_)
 refine obg h (fun x39 _ hkx39 h => ?_)
 try simp only [List.length_take, List.length_drop, List.length_append, List.length_set, List.length_map, List.length_cons, List.length_nil, Nat.zero_add] at hkx39
 refine oi h (fun hb40 h => ?_) (fun hb40 h => ?_)
 refine oi h (fun hb41 h => ?_) (fun hb41 h => ?_)
 try simp only [*, go_sem]
 cases h.e
 simp only [*, go_sem, mA, mS]
 try simp only [*, go_sem]
 refine oi h (fun hb42 h => ?_) (fun hb42 h => ?_)
 cases h.e
 simp only [*, go_sem, mA, mS]
 cases h.e
 simp only [*, go_sem, mA, mS]
 have := wrap_succ_max hkx39 hl33
 try simp only [*, go_sem]
 exact lc (a36_1 + 1) h.e [some 0]
 try simp only [*, go_sem]
 exact jc () h.e [some 0]
 have := wrap_succ_max hkx7 hl1
 try simp only [*, go_sem]
 exact lc (a4_1 + 1) h.e []
 try simp only [*, go_sem]
 exact jc () h.e []
 try simp only [*, go_sem]
 intro hl45
 cases h.e
 simp only [*, go_sem, mA, mS]
def store_Check (p0 : Store) : Option (Int) := (Option.bind (store_items p0.Items) fun v1 => (if (!v1) = true then (some 9) else (Option.bind (store_doubts p0) fun v3 => (if (!v3) = true then (some 9) else (Option.bind (store_locks p0) fun v5 => (if (!v5) = true then (some 9) else (some 0)))))))
def F73 : VFn := ⟨17, (.seq (.reg [vo 1 (.box 4 (.t 0)), mi 2 0]) (.seq (.seq (.reg [vf 3 0 1, vs 4 3, vo 5 (.call 138 [(.t 4)]), nt 6 5, vm 7 6, gf 8 7 (.ld true 4 (.t 1)), gf 9 7 (.call 139 [(.t 8)]), gf 10 7 (.un .not (.t 9)), vo 11 (.pick (.t 7) (cb true) (.t 10)), vm 12 11, gf 13 12 (.ld true 4 (.t 1)), gf 14 12 (.call 140 [(.t 13)]), gf 15 12 (.un .not (.t 14)), vo 16 (.pick (.t 12) (cb true) (.t 15))]) (.cond (.t 16) (.seq (.reg [mi 2 9]) .ret) .skip)) (.seq (.reg [mi 2 0]) .ret))), [.t 2]⟩
theorem low73 : lowF Tryd.prog 73 = some F73.strip := by kernel_rfl
theorem fok73 : fOk Tryd.prog 73 = true := by kernel_rfl
theorem store_Check_ok (p0 : Store) (r : Int) (h : store_Check p0 = some r) : FnRO Tryd.prog G 73 [.agg p0.bx] (fun rs => rs = [.one (.i .i64 r)]) := by
 refine FnRO.of' low73 fok73 (by simp [F73]) ?_
 rw [store_Check] at h
 replace h := Hd.mk h
 simp only [F73, go_sem]
 try simp only [*, go_sem]
 refine cr h (store_items_ok G p0.Items) (fun v1 h => ?_)
 refine oin h (fun hb2 hkhb2 h => ?_) (fun hb2 hkhb2 h => ?_)
 cases h.e
 simp only [*, go_sem, mA, mS]
 try simp only [*, go_sem]
 refine cr h (store_doubts_ok G p0) (fun v3 h => ?_)
 refine oin h (fun hb4 hkhb4 h => ?_) (fun hb4 hkhb4 h => ?_)
 cases h.e
 simp only [*, go_sem, mA, mS]
 try simp only [*, go_sem]
 refine cr h (store_locks_ok G p0) (fun v5 h => ?_)
 refine oin h (fun hb6 hkhb6 h => ?_) (fun hb6 hkhb6 h => ?_)
 cases h.e
 simp only [*, go_sem, mA, mS]
 cases h.e
 simp only [*, go_sem, mA, mS]
def part_site_check_L1 (p0 : PartSite) (k10 : Option (Int)) : Nat → Nat → Option (Int)
 | 0, _ => none
 | n12 + 1, a11_1 => (if (decide (a11_1 < p0.stores.length)) = true then (Option.bind (p0.stores[a11_1]?) fun x14 => (Option.bind (store_Check x14) fun v15 => (if (v15 != 0) = true then (some v15) else (part_site_check_L1 p0 k10 n12 (a11_1 + 1))))) else k10)
def part_site_check (p0 : PartSite) : Option (Int) := (Option.bind (label_Check p0.c) fun v1 => (if (v1 != 0) = true then (some v1) else (if (decide (p0.l < 0)) = true then (some 6) else (if (decide (p0.l ≥ ((p0.c.Labels.length : Nat) : Int))) = true then (some 6) else (if (decide (p0.me < 0)) = true then (some 2) else (if (decide (p0.me ≥ p0.c.Sites)) = true then (some 2) else (if (((p0.stores.length : Nat) : Int) != ((p0.c.Labels.length : Nat) : Int)) = true then (some 9) else (withK (some 0) fun k10 => (part_site_check_L1 p0 k10 (p0.stores.length + 1) 0)))))))))
def F22 : VFn := ⟨77, (.seq (.reg [mi 2 0]) (.seq (.seq (.reg [vm 7 0, vo 8 (.nilchk (.t 7)), vf 9 0 8, vl 10 3 9, vo 11 (.call 66 [(.t 10)]), vm 3 11]) (.seq (.reg [vm 12 3, bk 13 .neq 12 0]) (.cond (.t 13) (.seq (.reg [vm 14 3, vm 2 14]) .ret) .skip))) (.seq (.seq (.draw [vd (vm 15 0) 0, vd (vo 16 (.nilchk (.t 15))) 1, vd (vf 17 3 16) 3, vd (vs 18 17) 7, vd (bk 19 .lss 18 0) 15, vd (vm 20 19) 31, vd (gf 21 20 (.mv (.t 0))) 63, vd (gf 22 20 (.nilchk (.t 21))) 127, vd (gf 23 20 (.fa 3 (.t 22))) 255, vd (gf 24 20 (.ld false 1 (.t 23))) 511, vd (gf 25 20 (.mv (.t 0))) 63, vd (gf 26 20 (.nilchk (.t 25))) 1087, vd (gf 27 20 (.fa 0 (.t 26))) 3135, vd (gf 28 20 (.fa 1 (.t 27))) 7231, vd (gf 29 20 (.ld false 1 (.t 28))) 0x3c3f, vd (gf 30 20 (.len (.t 29))) 0x7c3f, vd (gf 31 20 (.bin .i .geq (.t 24) (.t 30))) 0xffff, vd (vo 32 (.pick (.t 20) (cb true) (.t 31))) 0x1ffff]) (.cond (.t 32) (.seq (.reg [mi 2 6]) .ret) .skip)) (.seq (.seq (.draw [vd (vm 33 0) 0, vd (vo 34 (.nilchk (.t 33))) 1, vd (vf 35 4 34) 3, vd (vs 36 35) 7, vd (bk 37 .lss 36 0) 15, vd (vm 38 37) 31, vd (gf 39 38 (.mv (.t 0))) 63, vd (gf 40 38 (.nilchk (.t 39))) 127, vd (gf 41 38 (.fa 4 (.t 40))) 255, vd (gf 42 38 (.ld false 1 (.t 41))) 511, vd (gf 43 38 (.mv (.t 0))) 63, vd (gf 44 38 (.nilchk (.t 43))) 1087, vd (gf 45 38 (.fa 0 (.t 44))) 3135, vd (gf 46 38 (.fa 0 (.t 45))) 7231, vd (gf 47 38 (.ld false 1 (.t 46))) 0x3c3f, vd (gf 48 38 (.bin .i .geq (.t 42) (.t 47))) 0x7fff, vd (vo 49 (.pick (.t 38) (cb true) (.t 48))) 0xffff]) (.cond (.t 49) (.seq (.reg [mi 2 2]) .ret) .skip)) (.seq (.seq (.draw [vd (vm 50 0) 0, vd (vo 51 (.nilchk (.t 50))) 1, vd (vf 52 5 51) 3, vd (vs 53 52) 7, vd (ln 54 53) 15, vd (vm 55 0) 0, vd (vo 56 (.nilchk (.t 55))) 32, vd (vf 57 0 56) 96, vd (vf 58 1 57) 224, vd (vs 59 58) 480, vd (ln 60 59) 992, vd (bt 61 .neq 54 60) 2047]) (.cond (.t 61) (.seq (.reg [mi 2 9]) .ret) .skip)) (.seq (.seq (.reg [vm 62 0, vo 63 (.nilchk (.t 62)), vf 64 5 63, vs 65 64, ln 66 65, mi 67 0]) (.wk (.block 0 (.loop (.seq (.reg [bt 68 .lss 67 66]) (.seq (.cond (.t 68) .skip (.exit 0)) (.seq (.block 1 (.seq (.reg [xa 69 4 65 67, vl 70 4 69, vo 5 (.alloc [(.nl 3), (.nl 6), (.nl 3), (.nl 2)]), vu (.st 4 (.t 5) (.t 70))]) (.seq (.reg [vl 71 4 5, vo 72 (.call 73 [(.t 71)]), vm 6 72]) (.seq (.reg [vm 73 6, bk 74 .neq 73 0]) (.cond (.t 74) (.seq (.reg [vm 75 6, vm 2 75]) .ret) .skip))))) (.reg [bk 76 .add 67 1, vm 67 76])))))))) (.seq (.reg [mi 2 0]) .ret))))))), [.t 2]⟩
theorem low22 : lowF Tryd.prog 22 = some F22.strip := by kernel_rfl
theorem fok22 : fOk Tryd.prog 22 = true := by kernel_rfl
theorem part_site_check_ok (p0 : PartSite) (r : Int) (h : part_site_check p0 = some r) : FnRO Tryd.prog G 22 [.one (.d (.k (PartSite.enc p0)))] (fun rs => rs = [.one (.i .i64 r)]) := by
 refine FnRO.of' low22 fok22 (by simp [F22]) ?_
 rw [part_site_check] at h
 replace h := Hd.mk h
 simp only [F22, go_sem]
 try simp only [*, go_sem]
 refine cr h (label_Check_ok G p0.c) (fun v1 h => ?_)
 refine oi h (fun hb2 h => ?_) (fun hb2 h => ?_)
 cases h.e
 simp only [*, go_sem, mA, mS]
 refine oi h (fun hb3 h => ?_) (fun hb3 h => ?_)
 have := of_decide_eq_true hb3
 cases h.e
 simp only [*, go_sem, mA, mS]
 refine oi h (fun hb4 h => ?_) (fun hb4 h => ?_)
 cases h.e
 simp only [*, go_sem, mA, mS]
 refine oi h (fun hb5 h => ?_) (fun hb5 h => ?_)
 have := of_decide_eq_true hb5
 cases h.e
 simp only [*, go_sem, mA, mS]
 refine oi h (fun hb6 h => ?_) (fun hb6 h => ?_)
 cases h.e
 simp only [*, go_sem, mA, mS]
 refine oi h (fun hb7 h => ?_) (fun hb7 h => ?_)
 cases h.e
 simp only [*, go_sem, mA, mS]
 try simp only [*, go_sem]
 intro hl8
 try simp only [*, go_sem]
 refine jn0 h ([]) ([]) (fun k10 h => ?_) (fun h => ?_)
 try simp only [*, go_sem]
 refine lp1 (part_site_check_L1 p0 k10) (fun a11_1 => [zL 65 4 (p0.stores.map Store.enc), zI 66 ((p0.stores.length : Nat) : Int), zI 67 ((a11_1 : Nat) : Int)]) (fun a11_1 => []) h [] [] (fun n12 a11_1 h => ?_) (by intros; rw [part_site_check_L1])
 rw [part_site_check_L1] at h
 refine oi h (fun hb13 h => ?_) (fun hb13 h => ?_)
 have := of_decide_eq_true hb13
 refine obg h (fun x14 _ hkx14 h => ?_)
 try simp only [*, go_sem]
 refine cr h (store_Check_ok G x14) (fun v15 h => ?_)
 refine oi h (fun hb16 h => ?_) (fun hb16 h => ?_)
 cases h.e
 simp only [*, go_sem, mA, mS]
 have := wrap_succ_max hkx14 hl8
 try simp only [*, go_sem]
 exact lc (a11_1 + 1) h.e []
 try simp only [*, go_sem]
 exact jc () h.e []
 cases h.e
 simp only [*, go_sem, mA, mS]
def wire_txn (p0 : Config) (p1 : Txn) : Option (Bool) := (withK (fun (b1_1 : Bool) => (some b1_1)) fun k2 => (if (decide (p1.Site ≥ 0)) = true then (if (decide (p1.Site < p0.Sites)) = true then (if (decide (p1.N ≥ 1)) = true then (k2 (decide (p1.N ≤ 1048576))) else (k2 false)) else (k2 false)) else (k2 false)))
def F74 : VFn := ⟨25, (.seq (.reg [vo 2 (.box 3 (.t 0)), vo 3 (.boxk 2 (.t 1)), vo 4 (.mv (cb false))]) (.seq (.wk (.reg [vf 5 0 3, vs 6 5, bk 7 .geq 6 0, vm 8 7, gt 9 8 (.fa 0 (.t 3)), gt 10 8 (.ld false 1 (.t 9)), gt 11 8 (.fa 0 (.t 2)), gt 12 8 (.ld false 1 (.t 11)), gt 13 8 (.bin .i .lss (.t 10) (.t 12)), vo 14 (.pick (.t 8) (.t 13) (cb false)), vm 15 14, gt 16 15 (.fa 1 (.t 3)), gt 17 15 (.ld false 1 (.t 16)), gt 18 15 (.bin .i .geq (.t 17) (ci 1)), vo 19 (.pick (.t 15) (.t 18) (cb false)), vm 20 19, gt 21 20 (.fa 1 (.t 3)), gt 22 20 (.ld false 1 (.t 21)), gt 23 20 (.bin .i .leq (.t 22) (ci 1048576)), vo 24 (.pick (.t 20) (.t 23) (cb false)), vm 4 24])) .ret)), [.t 4]⟩
theorem low74 : lowF Tryd.prog 74 = some F74.strip := by kernel_rfl
theorem fok74 : fOk Tryd.prog 74 = true := by kernel_rfl
theorem wire_txn_ok (p0 : Config) (p1 : Txn) (r : Bool) (h : wire_txn p0 p1 = some r) : FnRO Tryd.prog G 74 [.agg p0.bx, .agg p1.bx] (fun rs => rs = [.one (.b r)]) := by
 refine FnRO.of' low74 fok74 (by simp [F74]) ?_
 rw [wire_txn] at h
 replace h := Hd.mk h
 simp only [F74, go_sem]
 try simp only [*, go_sem]
 refine jn1 h (fun b1_1 => [zB 4 b1_1]) (fun b1_1 => []) (fun k2 h => ?_) (fun b1_1 h => ?_)
 refine oi h (fun hb3 h => ?_) (fun hb3 h => ?_)
 refine oi h (fun hb4 h => ?_) (fun hb4 h => ?_)
 have := of_decide_eq_true hb4
 refine oi h (fun hb5 h => ?_) (fun hb5 h => ?_)
 try simp only [*, go_sem]
 exact jc (decide (p1.N ≤ 1048576)) h.e []
 try simp only [*, go_sem]
 exact jc (false) h.e []
 try simp only [*, go_sem]
 exact jc (false) h.e []
 try simp only [*, go_sem]
 exact jc (false) h.e []
 cases h.e
 simp only [*, go_sem, mA, mS]
def wire_key (p0 : Int) : Option (Bool) := (withK (fun (b1_1 : Bool) => (some b1_1)) fun k2 => (if (decide (p0 ≥ 0)) = true then (k2 (decide (p0 < 8))) else (k2 false)))
def F75 : VFn := ⟨9, (.seq (.reg [vo 2 (.mv (cb false))]) (.seq (.wk (.reg [vm 3 0, bk 4 .geq 3 0, vm 5 4, gt 6 5 (.mv (.t 0)), gt 7 5 (.bin .i .lss (.t 6) (ci 8)), vo 8 (.pick (.t 5) (.t 7) (cb false)), vm 2 8])) .ret)), [.t 2]⟩
theorem low75 : lowF Tryd.prog 75 = some F75.strip := by kernel_rfl
theorem fok75 : fOk Tryd.prog 75 = true := by kernel_rfl
theorem wire_key_ok (p0 : Int) (r : Bool) (h : wire_key p0 = some r) : FnRO Tryd.prog G 75 [.one (.d (.i .i64 p0))] (fun rs => rs = [.one (.b r)]) := by
 refine FnRO.of' low75 fok75 (by simp [F75]) ?_
 rw [wire_key] at h
 replace h := Hd.mk h
 simp only [F75, go_sem]
 try simp only [*, go_sem]
 refine jn1 h (fun b1_1 => [zB 2 b1_1]) (fun b1_1 => []) (fun k2 h => ?_) (fun b1_1 h => ?_)
 refine oi h (fun hb3 h => ?_) (fun hb3 h => ?_)
 try simp only [*, go_sem]
 exact jc (decide (p0 < 8)) h.e []
 try simp only [*, go_sem]
 exact jc (false) h.e []
 cases h.e
 simp only [*, go_sem, mA, mS]
def wire_value (p0 : Int) : Option (Bool) := (withK (fun (b1_1 : Bool) => (some b1_1)) fun k2 => (if (decide (p0 ≥ 0)) = true then (k2 (decide (p0 ≤ 1073741824))) else (k2 false)))
def F76 : VFn := ⟨9, (.seq (.reg [vo 2 (.mv (cb false))]) (.seq (.wk (.reg [vm 3 0, bk 4 .geq 3 0, vm 5 4, gt 6 5 (.mv (.t 0)), gt 7 5 (.bin .i .leq (.t 6) (ci 1073741824)), vo 8 (.pick (.t 5) (.t 7) (cb false)), vm 2 8])) .ret)), [.t 2]⟩
theorem low76 : lowF Tryd.prog 76 = some F76.strip := by kernel_rfl
theorem fok76 : fOk Tryd.prog 76 = true := by kernel_rfl
theorem wire_value_ok (p0 : Int) (r : Bool) (h : wire_value p0 = some r) : FnRO Tryd.prog G 76 [.one (.d (.i .i64 p0))] (fun rs => rs = [.one (.b r)]) := by
 refine FnRO.of' low76 fok76 (by simp [F76]) ?_
 rw [wire_value] at h
 replace h := Hd.mk h
 simp only [F76, go_sem]
 try simp only [*, go_sem]
 refine jn1 h (fun b1_1 => [zB 2 b1_1]) (fun b1_1 => []) (fun k2 h => ?_) (fun b1_1 h => ?_)
 refine oi h (fun hb3 h => ?_) (fun hb3 h => ?_)
 try simp only [*, go_sem]
 exact jc (decide (p0 ≤ 1073741824)) h.e []
 try simp only [*, go_sem]
 exact jc (false) h.e []
 cases h.e
 simp only [*, go_sem, mA, mS]
def wire_ask (p0 : Int) : Option (Bool) := (withK (fun (b1_1 : Bool) => (some b1_1)) fun k2 => (if (decide (p0 ≥ 0)) = true then (k2 (decide (p0 ≤ 1048576))) else (k2 false)))
def F77 : VFn := ⟨9, (.seq (.reg [vo 2 (.mv (cb false))]) (.seq (.wk (.reg [vm 3 0, bk 4 .geq 3 0, vm 5 4, gt 6 5 (.mv (.t 0)), gt 7 5 (.bin .i .leq (.t 6) (ci 1048576)), vo 8 (.pick (.t 5) (.t 7) (cb false)), vm 2 8])) .ret)), [.t 2]⟩
theorem low77 : lowF Tryd.prog 77 = some F77.strip := by kernel_rfl
theorem fok77 : fOk Tryd.prog 77 = true := by kernel_rfl
theorem wire_ask_ok (p0 : Int) (r : Bool) (h : wire_ask p0 = some r) : FnRO Tryd.prog G 77 [.one (.d (.i .i64 p0))] (fun rs => rs = [.one (.b r)]) := by
 refine FnRO.of' low77 fok77 (by simp [F77]) ?_
 rw [wire_ask] at h
 replace h := Hd.mk h
 simp only [F77, go_sem]
 try simp only [*, go_sem]
 refine jn1 h (fun b1_1 => [zB 2 b1_1]) (fun b1_1 => []) (fun k2 h => ?_) (fun b1_1 h => ?_)
 refine oi h (fun hb3 h => ?_) (fun hb3 h => ?_)
 try simp only [*, go_sem]
 exact jc (decide (p0 ≤ 1048576)) h.e []
 try simp only [*, go_sem]
 exact jc (false) h.e []
 cases h.e
 simp only [*, go_sem, mA, mS]
def wire_code (p0 : Int) : Option (Bool) := (withK (fun (b1_1 : Bool) => (some b1_1)) fun k2 => (if (p0 == 0) = true then (k2 true) else (if (p0 == 11) = true then (k2 true) else (k2 (p0 == 8)))))
def F78 : VFn := ⟨13, (.seq (.reg [vo 2 (.mv (cb false))]) (.seq (.wk (.reg [vm 3 0, bk 4 .eql 3 0, vm 5 4, gf 6 5 (.mv (.t 0)), gf 7 5 (.bin .i .eql (.t 6) (ci 11)), vo 8 (.pick (.t 5) (cb true) (.t 7)), vm 9 8, gf 10 9 (.mv (.t 0)), gf 11 9 (.bin .i .eql (.t 10) (ci 8)), vo 12 (.pick (.t 9) (cb true) (.t 11)), vm 2 12])) .ret)), [.t 2]⟩
theorem low78 : lowF Tryd.prog 78 = some F78.strip := by kernel_rfl
theorem fok78 : fOk Tryd.prog 78 = true := by kernel_rfl
theorem wire_code_ok (p0 : Int) (r : Bool) (h : wire_code p0 = some r) : FnRO Tryd.prog G 78 [.one (.d (.i .i64 p0))] (fun rs => rs = [.one (.b r)]) := by
 refine FnRO.of' low78 fok78 (by simp [F78]) ?_
 rw [wire_code] at h
 replace h := Hd.mk h
 simp only [F78, go_sem]
 try simp only [*, go_sem]
 refine jn1 h (fun b1_1 => [zB 2 b1_1]) (fun b1_1 => []) (fun k2 h => ?_) (fun b1_1 h => ?_)
 refine oi h (fun hb3 h => ?_) (fun hb3 h => ?_)
 try simp only [*, go_sem]
 exact jc (true) h.e []
 refine oi h (fun hb4 h => ?_) (fun hb4 h => ?_)
 try simp only [*, go_sem]
 exact jc (true) h.e []
 try simp only [*, go_sem]
 exact jc (p0 == 8) h.e []
 cases h.e
 simp only [*, go_sem, mA, mS]
def wire_CheckMessage (p0 : Config) (p1 : Message) : Option (Int) := (Option.bind (label_Check p0) fun v1 => (if (v1 != 0) = true then (some v1) else (if (decide (p1.Kind < 1)) = true then (some 3) else (if (decide (p1.Kind > 9)) = true then (some 3) else (withK (fun (b11_1 : Bool) => (withK (fun (b20_1 : Bool) => (withK (fun (b24_1 : Bool) => (withK (fun (b32_1 : Bool) => (if b32_1 = true then (some 2) else (Option.bind (wire_code p1.Code) fun v37 => (if (!v37) = true then (some 2) else (if 0 ≤ p1.Kind then (Option.bind (tab_wire_messages[p1.Kind.toNat]?) fun x39 => (if ((((((((!x39.label) && (p1.Label != 0)) || ((!x39.key) && (p1.Key != 0))) || ((!x39.value) && (p1.Value != 0))) || ((!x39.version) && (p1.Version != 0))) || ((!x39.ask) && (p1.Ask != 0))) || ((!x39.yes) && p1.Yes)) || ((!x39.code) && (p1.Code != 0))) = true then (some 4) else (if (p1.Code != 0) = true then (if (IntKind.i64.wrap (p1.Value + p1.Version) != 0) = true then (some 4) else (some 0)) else (some 0)))) else none))))) fun k33 => (if ((b24_1 || (decide (p1.Version < 0))) || (decide (p1.Version > 1048576))) = true then (k33 true) else (Option.bind (wire_ask p1.Ask) fun v35 => (k33 (!v35)))))) fun k25 => (if b20_1 = true then (k25 true) else (Option.bind (wire_value p1.Value) fun v27 => (k25 (!v27)))))) fun k21 => (if ((b11_1 || (decide (p1.Label < 0))) || (decide (p1.Label ≥ ((p0.Labels.length : Nat) : Int)))) = true then (k21 true) else (Option.bind (wire_key p1.Key) fun v23 => (k21 (!v23)))))) fun k12 => (if ((((decide (p1.From < 0)) || (decide (p1.From ≥ p0.Sites))) || (decide (p1.To < 0))) || (decide (p1.To ≥ p0.Sites))) = true then (k12 true) else (Option.bind (wire_txn p0 p1.Txn) fun v14 => (k12 (!v14)))))))))
def F23 : VFn := ⟨180, (.seq (.reg [vo 2 (.boxk 3 (.t 0)), vo 3 (.boxk 12 (.t 1)), mi 4 0]) (.seq (.seq (.reg [vl 7 3 2, vo 8 (.call 66 [(.t 7)]), vm 5 8]) (.seq (.reg [vm 9 5, bk 10 .neq 9 0]) (.cond (.t 10) (.seq (.reg [vm 11 5, vm 4 11]) .ret) .skip))) (.seq (.seq (.reg [vf 12 0 3, vs 13 12, bk 14 .lss 13 1, vm 15 14, gf 16 15 (.fa 0 (.t 3)), gf 17 15 (.ld false 1 (.t 16)), gf 18 15 (.bin .i .gtr (.t 17) (ci 9)), vo 19 (.pick (.t 15) (cb true) (.t 18))]) (.cond (.t 19) (.seq (.reg [mi 4 3]) .ret) .skip)) (.seq (.seq (.regs [[vf 20 1 3, vs 21 20, bk 22 .lss 21 0, vm 23 22, gf 24 23 (.fa 1 (.t 3)), gf 25 23 (.ld false 1 (.t 24)), gf 26 23 (.fa 0 (.t 2)), gf 27 23 (.ld false 1 (.t 26)), gf 28 23 (.bin .i .geq (.t 25) (.t 27)), vo 29 (.pick (.t 23) (cb true) (.t 28))], [vm 30 29, gf 31 30 (.fa 2 (.t 3)), gf 32 30 (.ld false 1 (.t 31)), gf 33 30 (.bin .i .lss (.t 32) (ci 0)), vo 34 (.pick (.t 30) (cb true) (.t 33))], [vm 35 34, gf 36 35 (.fa 2 (.t 3)), gf 37 35 (.ld false 1 (.t 36)), gf 38 35 (.fa 0 (.t 2)), gf 39 35 (.ld false 1 (.t 38)), gf 40 35 (.bin .i .geq (.t 37) (.t 39)), vo 41 (.pick (.t 35) (cb true) (.t 40))], [vm 42 41, gf 43 42 (.ld true 3 (.t 2)), gf 44 42 (.fa 3 (.t 3)), gf 45 42 (.ld true 2 (.t 44)), gf 46 42 (.call 74 [(.t 43), (.t 45)]), gf 47 42 (.un .not (.t 46)), vo 48 (.pick (.t 42) (cb true) (.t 47))], [vm 49 48, gf 50 49 (.fa 5 (.t 3)), gf 51 49 (.ld false 1 (.t 50)), gf 52 49 (.bin .i .lss (.t 51) (ci 0)), vo 53 (.pick (.t 49) (cb true) (.t 52))], [vm 54 53, gf 55 54 (.fa 5 (.t 3)), gf 56 54 (.ld false 1 (.t 55)), gf 57 54 (.fa 1 (.t 2)), gf 58 54 (.ld false 1 (.t 57)), gf 59 54 (.len (.t 58)), gf 60 54 (.bin .i .geq (.t 56) (.t 59)), vo 61 (.pick (.t 54) (cb true) (.t 60))], [vm 62 61, gf 63 62 (.fa 6 (.t 3)), gf 64 62 (.ld false 1 (.t 63)), gf 65 62 (.call 75 [(.t 64)]), gf 66 62 (.un .not (.t 65)), vo 67 (.pick (.t 62) (cb true) (.t 66))], [vm 68 67, gf 69 68 (.fa 7 (.t 3)), gf 70 68 (.ld false 1 (.t 69)), gf 71 68 (.call 76 [(.t 70)]), gf 72 68 (.un .not (.t 71)), vo 73 (.pick (.t 68) (cb true) (.t 72))], [vm 74 73, gf 75 74 (.fa 8 (.t 3)), gf 76 74 (.ld false 1 (.t 75)), gf 77 74 (.bin .i .lss (.t 76) (ci 0)), vo 78 (.pick (.t 74) (cb true) (.t 77))], [vm 79 78, gf 80 79 (.fa 8 (.t 3)), gf 81 79 (.ld false 1 (.t 80)), gf 82 79 (.bin .i .gtr (.t 81) (ci 1048576)), vo 83 (.pick (.t 79) (cb true) (.t 82))], [vm 84 83, gf 85 84 (.fa 9 (.t 3)), gf 86 84 (.ld false 1 (.t 85)), gf 87 84 (.call 77 [(.t 86)]), gf 88 84 (.un .not (.t 87)), vo 89 (.pick (.t 84) (cb true) (.t 88))], [vm 90 89, gf 91 90 (.fa 11 (.t 3)), gf 92 90 (.ld false 1 (.t 91)), gf 93 90 (.call 78 [(.t 92)]), gf 94 90 (.un .not (.t 93)), vo 95 (.pick (.t 90) (cb true) (.t 94))]]) (.cond (.t 95) (.seq (.reg [mi 4 2]) .ret) .skip)) (.seq (.reg [vf 96 0 3, vs 97 96, vo 98 (.iaa 10 8 (.g 0) (.t 97)), vl 99 8 98, vo 6 (.alloc [(.d (.b false)), (.d (.b false)), (.d (.b false)), (.d (.b false)), (.d (.b false)), (.d (.b false)), (.d (.b false)), (.d (.b false))]), vu (.st 8 (.t 6) (.t 99))]) (.seq (.seq (.regs [[vf 100 0 6, vs 101 100, nt 102 101, vm 103 102, gt 104 103 (.fa 5 (.t 3)), gt 105 103 (.ld false 1 (.t 104)), gt 106 103 (.bin .i .neq (.t 105) (ci 0)), vo 107 (.pick (.t 103) (.t 106) (cb false))], [vm 108 107, gf 109 108 (.fa 1 (.t 6)), gf 110 108 (.ld false 1 (.t 109)), gf 111 108 (.un .not (.t 110)), gf 112 108 (.mv (.t 111)), gt 113 112 (.fa 6 (.t 3)), gt 114 112 (.ld false 1 (.t 113)), gt 115 112 (.bin .i .neq (.t 114) (ci 0)), gf 116 108 (.pick (.t 112) (.t 115) (cb false)), vo 117 (.pick (.t 108) (cb true) (.t 116))], [vm 118 117, gf 119 118 (.fa 2 (.t 6)), gf 120 118 (.ld false 1 (.t 119)), gf 121 118 (.un .not (.t 120)), gf 122 118 (.mv (.t 121)), gt 123 122 (.fa 7 (.t 3)), gt 124 122 (.ld false 1 (.t 123)), gt 125 122 (.bin .i .neq (.t 124) (ci 0)), gf 126 118 (.pick (.t 122) (.t 125) (cb false)), vo 127 (.pick (.t 118) (cb true) (.t 126))], [vm 128 127, gf 129 128 (.fa 3 (.t 6)), gf 130 128 (.ld false 1 (.t 129)), gf 131 128 (.un .not (.t 130)), gf 132 128 (.mv (.t 131)), gt 133 132 (.fa 8 (.t 3)), gt 134 132 (.ld false 1 (.t 133)), gt 135 132 (.bin .i .neq (.t 134) (ci 0)), gf 136 128 (.pick (.t 132) (.t 135) (cb false)), vo 137 (.pick (.t 128) (cb true) (.t 136))], [vm 138 137, gf 139 138 (.fa 4 (.t 6)), gf 140 138 (.ld false 1 (.t 139)), gf 141 138 (.un .not (.t 140)), gf 142 138 (.mv (.t 141)), gt 143 142 (.fa 9 (.t 3)), gt 144 142 (.ld false 1 (.t 143)), gt 145 142 (.bin .i .neq (.t 144) (ci 0)), gf 146 138 (.pick (.t 142) (.t 145) (cb false)), vo 147 (.pick (.t 138) (cb true) (.t 146))], [vm 148 147, gf 149 148 (.fa 5 (.t 6)), gf 150 148 (.ld false 1 (.t 149)), gf 151 148 (.un .not (.t 150)), gf 152 148 (.mv (.t 151)), gt 153 152 (.fa 10 (.t 3)), gt 154 152 (.ld false 1 (.t 153)), gf 155 148 (.pick (.t 152) (.t 154) (cb false)), vo 156 (.pick (.t 148) (cb true) (.t 155))], [vm 157 156, gf 158 157 (.fa 6 (.t 6)), gf 159 157 (.ld false 1 (.t 158)), gf 160 157 (.un .not (.t 159)), gf 161 157 (.mv (.t 160)), gt 162 161 (.fa 11 (.t 3)), gt 163 161 (.ld false 1 (.t 162)), gt 164 161 (.bin .i .neq (.t 163) (ci 0)), gf 165 157 (.pick (.t 161) (.t 164) (cb false)), vo 166 (.pick (.t 157) (cb true) (.t 165))], [vm 167 166, gf 168 167 (.fa 11 (.t 3)), gf 169 167 (.ld false 1 (.t 168)), gf 170 167 (.bin .i .neq (.t 169) (ci 0)), gf 171 167 (.mv (.t 170)), gt 172 171 (.fa 7 (.t 3)), gt 173 171 (.ld false 1 (.t 172)), gt 174 171 (.fa 8 (.t 3)), gt 175 171 (.ld false 1 (.t 174)), gt 176 171 (.bin .i .add (.t 173) (.t 175)), gt 177 171 (.bin .i .neq (.t 176) (ci 0)), gf 178 167 (.pick (.t 171) (.t 177) (cb false)), vo 179 (.pick (.t 167) (cb true) (.t 178))]]) (.cond (.t 179) (.seq (.reg [mi 4 4]) .ret) .skip)) (.seq (.reg [mi 4 0]) .ret))))))), [.t 4]⟩
theorem low23 : lowF Tryd.prog 23 = some F23.strip := by kernel_rfl
theorem fok23 : fOk Tryd.prog 23 = true := by kernel_rfl
theorem wire_CheckMessage_ok (htab_wire_messages : constG G 0 = .one (.d (.k tab_wire_messagesD))) (p0 : Config) (p1 : Message) (r : Int) (h : wire_CheckMessage p0 p1 = some r) : FnRO Tryd.prog G 23 [.agg p0.bx, .agg p1.bx] (fun rs => rs = [.one (.i .i64 r)]) := by
 refine FnRO.of' low23 fok23 (by simp [F23]) ?_
 rw [wire_CheckMessage] at h
 replace h := Hd.mk h
 simp only [F23, go_sem]
 try simp only [*, go_sem]
 refine cr h (label_Check_ok G p0) (fun v1 h => ?_)
 refine oi h (fun hb2 h => ?_) (fun hb2 h => ?_)
 cases h.e
 simp only [*, go_sem, mA, mS]
 refine oi h (fun hb3 h => ?_) (fun hb3 h => ?_)
 have := of_decide_eq_true hb3
 cases h.e
 simp only [*, go_sem, mA, mS]
 refine oi h (fun hb4 h => ?_) (fun hb4 h => ?_)
 cases h.e
 simp only [*, go_sem, mA, mS]
 try simp only [*, go_sem]
 refine regs_lk _ G _ _ (B := Bool) (fun b => b = ((decide (p1.From < 0)) || (decide (p1.From ≥ p0.Sites)))) (fun b => [zK 2 (Config.enc p0), zK 3 (Message.enc p1), zB 29 b]) (fun b => []) ?_ ?_
 refine bc (decide (p1.From < 0)) (fun hb6 => ?_) (fun hb6 => ?_)
 have := of_decide_eq_true hb6
 try simp only [*, go_sem]
 exact jb true []
 try simp only [*, go_sem]
 exact jb (decide (p1.From ≥ p0.Sites)) []
 intro b hb0
 subst hb0
 try simp only [*, go_sem]
 refine regs_lk _ G _ _ (B := Bool) (fun b => b = (((decide (p1.From < 0)) || (decide (p1.From ≥ p0.Sites))) || (decide (p1.To < 0)))) (fun b => [zK 2 (Config.enc p0), zK 3 (Message.enc p1), zB 34 b]) (fun b => []) ?_ ?_
 refine bc ((decide (p1.From < 0)) || (decide (p1.From ≥ p0.Sites))) (fun hb8 => ?_) (fun hb8 => ?_)
 try simp only [*, go_sem]
 try simp only [*, go_sem]
 exact jb true []
 try simp only [*, go_sem]
 try simp only [*, go_sem]
 exact jb (decide (p1.To < 0)) []
 intro b hb0
 subst hb0
 try simp only [*, go_sem]
 refine regs_lk _ G _ _ (B := Bool) (fun b => b = ((((decide (p1.From < 0)) || (decide (p1.From ≥ p0.Sites))) || (decide (p1.To < 0))) || (decide (p1.To ≥ p0.Sites)))) (fun b => [zK 2 (Config.enc p0), zK 3 (Message.enc p1), zB 41 b]) (fun b => []) ?_ ?_
 refine bc (((decide (p1.From < 0)) || (decide (p1.From ≥ p0.Sites))) || (decide (p1.To < 0))) (fun hb10 => ?_) (fun hb10 => ?_)
 try simp only [*, go_sem]
 try simp only [*, go_sem]
 exact jb true []
 try simp only [*, go_sem]
 try simp only [*, go_sem]
 exact jb (decide (p1.To ≥ p0.Sites)) []
 intro b hb0
 subst hb0
 try simp only [*, go_sem]
 refine rg1 h (fun b11_1 => [zK 2 (Config.enc p0), zK 3 (Message.enc p1), zB 48 b11_1]) (fun b11_1 => []) (fun k12 h => ?_) (fun b11_1 h => ?_)
 refine oi h (fun hb13 h => ?_) (fun hb13 h => ?_)
 try simp only [*, go_sem]
 try simp only [*, go_sem]
 exact jc (true) h.e []
 try simp only [*, go_sem]
 try simp only [*, go_sem]
 refine cr h (wire_txn_ok G p0 p1.Txn) (fun v14 h => ?_)
 try simp only [*, go_sem]
 exact jc (!v14) h.e []
 try simp only [*, go_sem]
 refine regs_lk _ G _ _ (B := Bool) (fun b => b = (b11_1 || (decide (p1.Label < 0)))) (fun b => [zK 2 (Config.enc p0), zK 3 (Message.enc p1), zB 53 b]) (fun b => []) ?_ ?_
 refine bc b11_1 (fun hb16 => ?_) (fun hb16 => ?_)
 try simp only [*, go_sem]
 exact jb true []
 try simp only [*, go_sem]
 exact jb (decide (p1.Label < 0)) []
 intro b hb0
 subst hb0
 try simp only [*, go_sem]
 refine regs_lk _ G _ _ (B := Bool) (fun b => b = ((b11_1 || (decide (p1.Label < 0))) || (decide (p1.Label ≥ ((p0.Labels.length : Nat) : Int))))) (fun b => [zK 3 (Message.enc p1), zB 61 b]) (fun b => []) ?_ ?_
 refine bc (b11_1 || (decide (p1.Label < 0))) (fun hb18 => ?_) (fun hb18 => ?_)
 try simp only [*, go_sem]
 try simp only [*, go_sem]
 exact jb true []
 try simp only [*, go_sem]
 try simp only [*, go_sem]
 intro hl19
 try simp only [*, go_sem]
 exact jb (decide (p1.Label ≥ ((p0.Labels.length : Nat) : Int))) []
 intro b hb0
 subst hb0
 try simp only [*, go_sem]
 refine rg1 h (fun b20_1 => [zK 3 (Message.enc p1), zB 67 b20_1]) (fun b20_1 => []) (fun k21 h => ?_) (fun b20_1 h => ?_)
 refine oi h (fun hb22 h => ?_) (fun hb22 h => ?_)
 try simp only [*, go_sem]
 try simp only [*, go_sem]
 exact jc (true) h.e []
 try simp only [*, go_sem]
 try simp only [*, go_sem]
 refine cr h (wire_key_ok G p1.Key) (fun v23 h => ?_)
 try simp only [*, go_sem]
 exact jc (!v23) h.e []
 try simp only [*, go_sem]
 refine rg1 h (fun b24_1 => [zK 3 (Message.enc p1), zB 73 b24_1]) (fun b24_1 => []) (fun k25 h => ?_) (fun b24_1 h => ?_)
 refine oi h (fun hb26 h => ?_) (fun hb26 h => ?_)
 try simp only [*, go_sem]
 exact jc (true) h.e []
 try simp only [*, go_sem]
 refine cr h (wire_value_ok G p1.Value) (fun v27 h => ?_)
 try simp only [*, go_sem]
 exact jc (!v27) h.e []
 try simp only [*, go_sem]
 refine regs_lk _ G _ _ (B := Bool) (fun b => b = (b24_1 || (decide (p1.Version < 0)))) (fun b => [zK 3 (Message.enc p1), zB 78 b]) (fun b => []) ?_ ?_
 refine bc b24_1 (fun hb29 => ?_) (fun hb29 => ?_)
 try simp only [*, go_sem]
 exact jb true []
 try simp only [*, go_sem]
 exact jb (decide (p1.Version < 0)) []
 intro b hb0
 subst hb0
 try simp only [*, go_sem]
 refine regs_lk _ G _ _ (B := Bool) (fun b => b = ((b24_1 || (decide (p1.Version < 0))) || (decide (p1.Version > 1048576)))) (fun b => [zK 3 (Message.enc p1), zB 83 b]) (fun b => []) ?_ ?_
 refine bc (b24_1 || (decide (p1.Version < 0))) (fun hb31 => ?_) (fun hb31 => ?_)
 try simp only [*, go_sem]
 try simp only [*, go_sem]
 exact jb true []
 try simp only [*, go_sem]
 try simp only [*, go_sem]
 exact jb (decide (p1.Version > 1048576)) []
 intro b hb0
 subst hb0
 try simp only [*, go_sem]
 refine rg1 h (fun b32_1 => [zK 3 (Message.enc p1), zB 89 b32_1]) (fun b32_1 => []) (fun k33 h => ?_) (fun b32_1 h => ?_)
 refine oi h (fun hb34 h => ?_) (fun hb34 h => ?_)
 try simp only [*, go_sem]
 try simp only [*, go_sem]
 exact jc (true) h.e []
 try simp only [*, go_sem]
 try simp only [*, go_sem]
 refine cr h (wire_ask_ok G p1.Ask) (fun v35 h => ?_)
 try simp only [*, go_sem]
 exact jc (!v35) h.e []
 refine oi h (fun hb36 h => ?_) (fun hb36 h => ?_)
 cases h.e
 simp only [*, go_sem, mA, mS]
 try simp only [*, go_sem]
 refine cr h (wire_code_ok G p1.Code) (fun v37 h => ?_)
 refine oin h (fun hb38 hkhb38 h => ?_) (fun hb38 hkhb38 h => ?_)
 cases h.e
 simp only [*, go_sem, mA, mS]
 refine ck h (fun _ h => ?_)
 refine obg h (fun x39 _ hkx39 h => ?_)
 rw [tab_wire_messages_len] at hkx39
 have : p1.Kind < 10 := by omega
 try simp only [*, go_sem]
 refine regs_lk _ G _ _ (B := Bool) (fun b => b = ((!x39.label) && (p1.Label != 0))) (fun b => [zK 3 (Message.enc p1), zP 6 0, zB 107 b]) (fun b => [ox x39.bx]) ?_ ?_
 refine bcn x39.label (fun hb42 hkhb42 => ?_) (fun hb42 hkhb42 => ?_)
 try simp only [*, go_sem]
 exact jb (p1.Label != 0) [some 0]
 try simp only [*, go_sem]
 exact jb false [some 0]
 intro b hb0
 subst hb0
 try simp only [*, go_sem]
 refine regs_lk _ G _ _ (B := Bool) (fun b => b = (((!x39.label) && (p1.Label != 0)) || ((!x39.key) && (p1.Key != 0)))) (fun b => [zK 3 (Message.enc p1), zP 6 0, zB 117 b]) (fun b => [ox x39.bx]) ?_ ?_
 refine bc ((!x39.label) && (p1.Label != 0)) (fun hb44 => ?_) (fun hb44 => ?_)
 try simp only [*, go_sem]
 try simp only [*, go_sem]
 exact jb true [some 0]
 try simp only [*, go_sem]
 refine bcn x39.key (fun hb45 hkhb45 => ?_) (fun hb45 hkhb45 => ?_)
 try simp only [*, go_sem]
 exact jb (p1.Key != 0) [some 0]
 try simp only [*, go_sem]
 exact jb false [some 0]
 intro b hb0
 subst hb0
 try simp only [*, go_sem]
 refine regs_lk _ G _ _ (B := Bool) (fun b => b = ((((!x39.label) && (p1.Label != 0)) || ((!x39.key) && (p1.Key != 0))) || ((!x39.value) && (p1.Value != 0)))) (fun b => [zK 3 (Message.enc p1), zP 6 0, zB 127 b]) (fun b => [ox x39.bx]) ?_ ?_
 refine bc (((!x39.label) && (p1.Label != 0)) || ((!x39.key) && (p1.Key != 0))) (fun hb47 => ?_) (fun hb47 => ?_)
 try simp only [*, go_sem]
 try simp only [*, go_sem]
 exact jb true [some 0]
 try simp only [*, go_sem]
 refine bcn x39.value (fun hb48 hkhb48 => ?_) (fun hb48 hkhb48 => ?_)
 try simp only [*, go_sem]
 exact jb (p1.Value != 0) [some 0]
 try simp only [*, go_sem]
 exact jb false [some 0]
 intro b hb0
 subst hb0
 try simp only [*, go_sem]
 refine regs_lk _ G _ _ (B := Bool) (fun b => b = (((((!x39.label) && (p1.Label != 0)) || ((!x39.key) && (p1.Key != 0))) || ((!x39.value) && (p1.Value != 0))) || ((!x39.version) && (p1.Version != 0)))) (fun b => [zK 3 (Message.enc p1), zP 6 0, zB 137 b]) (fun b => [ox x39.bx]) ?_ ?_
 refine bc ((((!x39.label) && (p1.Label != 0)) || ((!x39.key) && (p1.Key != 0))) || ((!x39.value) && (p1.Value != 0))) (fun hb50 => ?_) (fun hb50 => ?_)
 try simp only [*, go_sem]
 try simp only [*, go_sem]
 exact jb true [some 0]
 try simp only [*, go_sem]
 refine bcn x39.version (fun hb51 hkhb51 => ?_) (fun hb51 hkhb51 => ?_)
 try simp only [*, go_sem]
 exact jb (p1.Version != 0) [some 0]
 try simp only [*, go_sem]
 exact jb false [some 0]
 intro b hb0
 subst hb0
 try simp only [*, go_sem]
 refine regs_lk _ G _ _ (B := Bool) (fun b => b = ((((((!x39.label) && (p1.Label != 0)) || ((!x39.key) && (p1.Key != 0))) || ((!x39.value) && (p1.Value != 0))) || ((!x39.version) && (p1.Version != 0))) || ((!x39.ask) && (p1.Ask != 0)))) (fun b => [zK 3 (Message.enc p1), zP 6 0, zB 147 b]) (fun b => [ox x39.bx]) ?_ ?_
 refine bc (((((!x39.label) && (p1.Label != 0)) || ((!x39.key) && (p1.Key != 0))) || ((!x39.value) && (p1.Value != 0))) || ((!x39.version) && (p1.Version != 0))) (fun hb53 => ?_) (fun hb53 => ?_)
 try simp only [*, go_sem]
 try simp only [*, go_sem]
 exact jb true [some 0]
 try simp only [*, go_sem]
 refine bcn x39.ask (fun hb54 hkhb54 => ?_) (fun hb54 hkhb54 => ?_)
 try simp only [*, go_sem]
 exact jb (p1.Ask != 0) [some 0]
 try simp only [*, go_sem]
 exact jb false [some 0]
 intro b hb0
 subst hb0
 try simp only [*, go_sem]
 refine regs_lk _ G _ _ (B := Bool) (fun b => b = (((((((!x39.label) && (p1.Label != 0)) || ((!x39.key) && (p1.Key != 0))) || ((!x39.value) && (p1.Value != 0))) || ((!x39.version) && (p1.Version != 0))) || ((!x39.ask) && (p1.Ask != 0))) || ((!x39.yes) && p1.Yes))) (fun b => [zK 3 (Message.enc p1), zP 6 0, zB 156 b]) (fun b => [ox x39.bx]) ?_ ?_
 refine bc ((((((!x39.label) && (p1.Label != 0)) || ((!x39.key) && (p1.Key != 0))) || ((!x39.value) && (p1.Value != 0))) || ((!x39.version) && (p1.Version != 0))) || ((!x39.ask) && (p1.Ask != 0))) (fun hb56 => ?_) (fun hb56 => ?_)
 try simp only [*, go_sem]
 try simp only [*, go_sem]
 exact jb true [some 0]
 try simp only [*, go_sem]
 refine bcn x39.yes (fun hb57 hkhb57 => ?_) (fun hb57 hkhb57 => ?_)
 try simp only [*, go_sem]
 exact jb p1.Yes [some 0]
 try simp only [*, go_sem]
 exact jb false [some 0]
 intro b hb0
 subst hb0
 try simp only [*, go_sem]
 refine regs_lk _ G _ _ (B := Bool) (fun b => b = ((((((((!x39.label) && (p1.Label != 0)) || ((!x39.key) && (p1.Key != 0))) || ((!x39.value) && (p1.Value != 0))) || ((!x39.version) && (p1.Version != 0))) || ((!x39.ask) && (p1.Ask != 0))) || ((!x39.yes) && p1.Yes)) || ((!x39.code) && (p1.Code != 0)))) (fun b => [zK 3 (Message.enc p1), zB 166 b]) (fun b => []) ?_ ?_
 refine bc (((((((!x39.label) && (p1.Label != 0)) || ((!x39.key) && (p1.Key != 0))) || ((!x39.value) && (p1.Value != 0))) || ((!x39.version) && (p1.Version != 0))) || ((!x39.ask) && (p1.Ask != 0))) || ((!x39.yes) && p1.Yes)) (fun hb59 => ?_) (fun hb59 => ?_)
 try simp only [*, go_sem]
 try simp only [*, go_sem]
 exact jb true []
 try simp only [*, go_sem]
 refine bcn x39.code (fun hb60 hkhb60 => ?_) (fun hb60 hkhb60 => ?_)
 try simp only [*, go_sem]
 exact jb (p1.Code != 0) []
 try simp only [*, go_sem]
 exact jb false []
 intro b hb0
 subst hb0
 refine oi h (fun hb61 h => ?_) (fun hb61 h => ?_)
 try simp only [*, go_sem]
 cases h.e
 simp only [*, go_sem, mA, mS]
 try simp only [*, go_sem]
 refine oi h (fun hb62 h => ?_) (fun hb62 h => ?_)
 refine oi h (fun hb63 h => ?_) (fun hb63 h => ?_)
 cases h.e
 simp only [*, go_sem, mA, mS]
 cases h.e
 simp only [*, go_sem, mA, mS]
 cases h.e
 simp only [*, go_sem, mA, mS]
def label_Above (p0 : Label) (p1 : Label) : Option (Bool) := (withK (fun (b1_1 : Bool) => (some b1_1)) fun k2 => (if (decide (p0.Level ≥ p1.Level)) = true then (k2 (bitOp .i64 (· &&& ·) p0.Cats p1.Cats == p1.Cats)) else (k2 false)))
def F24 : VFn := ⟨20, (.seq (.reg [vo 2 (.boxk 2 (.t 0)), vo 3 (.boxk 2 (.t 1)), vo 4 (.mv (cb false))]) (.seq (.wk (.reg [vf 5 0 2, vs 6 5, vf 7 0 3, vs 8 7, bt 9 .geq 6 8, vm 10 9, gt 11 10 (.fa 1 (.t 2)), gt 12 10 (.ld false 1 (.t 11)), gt 13 10 (.fa 1 (.t 3)), gt 14 10 (.ld false 1 (.t 13)), gt 15 10 (.bin .i .and (.t 12) (.t 14)), gt 16 10 (.fa 1 (.t 3)), gt 17 10 (.ld false 1 (.t 16)), gt 18 10 (.bin .i .eql (.t 15) (.t 17)), vo 19 (.pick (.t 10) (.t 18) (cb false)), vm 4 19])) .ret)), [.t 4]⟩
theorem low24 : lowF Tryd.prog 24 = some F24.strip := by kernel_rfl
theorem fok24 : fOk Tryd.prog 24 = true := by kernel_rfl
theorem label_Above_ok (p0 : Label) (p1 : Label) (r : Bool) (h : label_Above p0 p1 = some r) : FnRO Tryd.prog G 24 [.agg p0.bx, .agg p1.bx] (fun rs => rs = [.one (.b r)]) := by
 refine FnRO.of' low24 fok24 (by simp [F24]) ?_
 rw [label_Above] at h
 replace h := Hd.mk h
 simp only [F24, go_sem]
 try simp only [*, go_sem]
 refine jn1 h (fun b1_1 => [zB 4 b1_1]) (fun b1_1 => []) (fun k2 h => ?_) (fun b1_1 h => ?_)
 refine oi h (fun hb3 h => ?_) (fun hb3 h => ?_)
 try simp only [*, go_sem]
 exact jc (bitOp .i64 (· &&& ·) p0.Cats p1.Cats == p1.Cats) h.e []
 try simp only [*, go_sem]
 exact jc (false) h.e []
 cases h.e
 simp only [*, go_sem, mA, mS]
theorem low25 : lowF Tryd.prog 25 = some (cloneV 4 24 [(zi 0), (zi 0), (.d (.b false)), (.d (.b false))]) := by kernel_rfl
theorem fok25 : fOk Tryd.prog 25 = true := by kernel_rfl
theorem clone25_ok (p0 r : List Note) (h : cloneF 24 p0 = some r) : FnRO Tryd.prog G 25 [.one (.d (.l 4 (p0.map Note.enc)))] (fun rs => rs = [.one (.o 4 (r.map Note.enc))]) := clone_ok low25 fok25 G Note.enc p0 r h
def part_site_answer (p0 : PartSite) (p1 : Message) (p2 : Int) : Option (Message) := (some (Message.mk p2 p0.me p1.From p1.Txn 0 0 0 0 0 false 0))
def F79 : VFn := ⟨17, (.seq (.reg [vo 4 (.boxk 12 (.t 1)), vo 6 (.alloc [(zi 0), (zi 0), (zi 0), (zi 0), (zi 0), (zi 0), (zi 0), (zi 0), (zi 0), (zi 0), (.d (.b false)), (zi 0)])]) (.seq (.draw [vd (vm 7 2) 0, vd (vm 8 0) 0, vd (vo 9 (.nilchk (.t 8))) 2, vd (vf 10 4 9) 6, vd (vs 11 10) 14, vd (vf 12 1 4) 0, vd (vs 13 12) 32, vd (vf 14 3 4) 0, vd (vl 15 2 14) 128, vd (vo 16 (.build [(zi 0), (zi 0), (zi 0), (zi 0), (zi 0), (zi 0), (zi 0), (zi 0), (zi 0), (zi 0), (.d (.b false)), (zi 0)] [(0, 1, (.t 7)), (1, 1, (.t 11)), (2, 1, (.t 13)), (3, 2, (.t 15))])) 511, vd (vu (.st 12 (.t 6) (.t 16))) 1023]) .ret)), [.cell 6 true 12]⟩
theorem low79 : lowF Tryd.prog 79 = some F79.strip := by kernel_rfl
theorem fok79 : fOk Tryd.prog 79 = true := by kernel_rfl
theorem part_site_answer_ok (p0 : PartSite) (p1 : Message) (p2 : Int) (r : Message) (h : part_site_answer p0 p1 p2 = some r) : FnRO Tryd.prog G 79 [.one (.d (.k (PartSite.enc p0))), .agg p1.bx, .one (.d (.i .i64 p2))] (fun rs => rs = [.agg (r.encO)]) := by
 refine FnRO.of' low79 fok79 (by simp [F79]) ?_
 rw [part_site_answer] at h
 replace h := Hd.mk h
 simp only [F79, go_sem]
 cases h.e
 simp only [*, go_sem, mA, mS]
def store_call (p0 : Store) (p1 : Txn) (p2 : Int) : Option (Int) := (Option.bind (store_Check p0) fun v1 => (if (v1 != 0) = true then (some v1) else (Option.bind (store_txn p1) fun v3 => (if (!v3) = true then (some 2) else (if (decide (p2 < 0)) = true then (some 2) else (if (decide (p2 ≥ 8)) = true then (some 2) else (some 0)))))))
def F141 : VFn := ⟨24, (.seq (.reg [vo 3 (.boxk 4 (.t 0)), vo 4 (.boxk 2 (.t 1)), mi 6 0]) (.seq (.seq (.reg [vl 8 4 3, vo 9 (.call 73 [(.t 8)]), vm 7 9]) (.seq (.reg [vm 10 7, bk 11 .neq 10 0]) (.cond (.t 11) (.seq (.reg [vm 12 7, vm 6 12]) .ret) .skip))) (.seq (.seq (.reg [vl 13 2 4, vo 14 (.call 180 [(.t 13)]), nt 15 14, vm 16 15, gf 17 16 (.mv (.t 2)), gf 18 16 (.bin .i .lss (.t 17) (ci 0)), vo 19 (.pick (.t 16) (cb true) (.t 18)), vm 20 19, gf 21 20 (.mv (.t 2)), gf 22 20 (.bin .i .geq (.t 21) (ci 8)), vo 23 (.pick (.t 20) (cb true) (.t 22))]) (.cond (.t 23) (.seq (.reg [mi 6 2]) .ret) .skip)) (.seq (.reg [mi 6 0]) .ret)))), [.t 6]⟩
theorem low141 : lowF Tryd.prog 141 = some F141.strip := by kernel_rfl
theorem fok141 : fOk Tryd.prog 141 = true := by kernel_rfl
theorem store_call_ok (p0 : Store) (p1 : Txn) (p2 : Int) (r : Int) (h : store_call p0 p1 p2 = some r) : FnRO Tryd.prog G 141 [.agg p0.bx, .agg p1.bx, .one (.d (.i .i64 p2))] (fun rs => rs = [.one (.i .i64 r)]) := by
 refine FnRO.of' low141 fok141 (by simp [F141]) ?_
 rw [store_call] at h
 replace h := Hd.mk h
 simp only [F141, go_sem]
 try simp only [*, go_sem]
 refine cr h (store_Check_ok G p0) (fun v1 h => ?_)
 refine oi h (fun hb2 h => ?_) (fun hb2 h => ?_)
 cases h.e
 simp only [*, go_sem, mA, mS]
 try simp only [*, go_sem]
 refine cr h (store_txn_ok G p1) (fun v3 h => ?_)
 refine oin h (fun hb4 hkhb4 h => ?_) (fun hb4 hkhb4 h => ?_)
 cases h.e
 simp only [*, go_sem, mA, mS]
 refine oi h (fun hb5 h => ?_) (fun hb5 h => ?_)
 have := of_decide_eq_true hb5
 cases h.e
 simp only [*, go_sem, mA, mS]
 refine oi h (fun hb6 h => ?_) (fun hb6 h => ?_)
 cases h.e
 simp only [*, go_sem, mA, mS]
 cases h.e
 simp only [*, go_sem, mA, mS]
def slices_BinarySearchFunc_int_L1 (p0 : List Item) (p1 : Int) (p2 : Item → Int → Option (Int)) (k3 : Int → Option (Int × Bool)) : Nat → Int → Int → Option (Int × Bool)
 | 0, _, _ => none
 | n5 + 1, a4_1, a4_2 => (if (decide (a4_1 < a4_2)) = true then (if 0 ≤ IntKind.i64.wrap ((IntKind.u64.wrap (IntKind.i64.wrap (a4_1 + a4_2))).fdiv (2 ^ 1)) then (Option.bind (p0[(IntKind.i64.wrap ((IntKind.u64.wrap (IntKind.i64.wrap (a4_1 + a4_2))).fdiv (2 ^ 1))).toNat]?) fun x7 => (Option.bind (p2 x7 p1) fun v9 => (withK (fun (b10_1 : Int) (b10_2 : Int) => (slices_BinarySearchFunc_int_L1 p0 p1 p2 k3 n5 b10_1 b10_2)) fun k11 => (if (decide (v9 < 0)) = true then (k11 (IntKind.i64.wrap (IntKind.i64.wrap ((IntKind.u64.wrap (IntKind.i64.wrap (a4_1 + a4_2))).fdiv (2 ^ 1)) + 1)) a4_2) else (k11 a4_1 (IntKind.i64.wrap ((IntKind.u64.wrap (IntKind.i64.wrap (a4_1 + a4_2))).fdiv (2 ^ 1)))))))) else none) else (k3 a4_1))
def slices_BinarySearchFunc_int (p0 : List Item) (p1 : Int) (p2 : Item → Int → Option (Int)) : Option (Int × Bool) := (withK (fun (b2_1 : Int) => (withK (fun (b13_1 : Bool) => (some (b2_1, b13_1))) fun k14 => (if (decide (b2_1 < ((p0.length : Nat) : Int))) = true then (if 0 ≤ b2_1 then (Option.bind (p0[b2_1.toNat]?) fun x16 => (Option.bind (p2 x16 p1) fun v18 => (k14 (v18 == 0)))) else none) else (k14 false)))) fun k3 => (slices_BinarySearchFunc_int_L1 p0 p1 p2 k3 (p0.length + 1) 0 ((p0.length : Nat) : Int)))
def F188 : VFn := ⟨49, (.seq (.reg [mi 6 0, vo 7 (.mv (cb false))]) (.seq (.reg [vm 12 0, ln 13 12, vm 8 13]) (.seq (.reg [vm 14 8, mi 9 0, vm 10 14]) (.seq (.wk (.block 0 (.loop (.seq (.seq (.reg [vm 15 9, vm 16 10, bt 17 .lss 15 16]) (.cond (.t 17) .skip (.exit 0))) (.block 1 (.seq (.reg [vm 18 9, vm 19 10, bt 20 .add 18 19, vo 21 (.cvi .u64 (.t 20)), vo 22 (.bin .i .shr (.t 21) (.c (.one (.d (.i .u64 1))))), vo 23 (.cvi .i64 (.t 22)), vm 11 23]) (.seq (.reg [vm 24 2, vm 25 0, vm 26 11, xa 27 3 25 26, vl 28 3 27, vm 29 1, vo 30 (.callv (.t 24) [(.t 28), (.t 29)]), bk 31 .lss 30 0]) (.wk (.cond (.t 31) (.reg [vm 32 11, bk 33 .add 32 1, vm 9 33]) (.reg [vm 34 11, vm 10 34])))))))))) (.seq (.wk (.reg [vm 35 9, vm 36 9, vm 37 8, bt 38 .lss 36 37, vm 39 38, gt 40 39 (.mv (.t 2)), gt 41 39 (.mv (.t 0)), gt 42 39 (.mv (.t 9)), gt 43 39 (.ia 3 (.t 41) (.t 42)), gt 44 39 (.ld true 3 (.t 43)), gt 45 39 (.mv (.t 1)), gt 46 39 (.callv (.t 40) [(.t 44), (.t 45)]), gt 47 39 (.bin .i .eql (.t 46) (ci 0)), vo 48 (.pick (.t 39) (.t 47) (cb false)), vm 6 35, vm 7 48])) .ret))))), [.t 6, .t 7]⟩
theorem low188 : lowF Tryd.prog 188 = some F188.strip := by kernel_rfl
theorem fok188 : fOk Tryd.prog 188 = true := by kernel_rfl
theorem slices_BinarySearchFunc_int_ok (p0 : List Item) (p1 : Int) (p2 : Item → Int → Option (Int)) (g_p2 : Nat) (c_p2 : List D) (h_p2 : ∀ (x0 : Item) (x1 : Int) (r : Int), p2 x0 x1 = some r → FnRO Tryd.prog G g_p2 ([.agg [.d (.i .i64 x0.Key), .d (.i .i64 x0.Value), .d (.i .i64 x0.Version)], .one (.d (.i .i64 x1))] ++ c_p2.map fun d => .one (.d d)) (fun rs => rs = [.one (.i .i64 r)])) (r : Int × Bool) (h : slices_BinarySearchFunc_int p0 p1 p2 = some r) : FnRO Tryd.prog G 188 [.one (.d (.l 3 (p0.map Item.enc))), .one (.d (.i .i64 p1)), .one (.d (.f g_p2 c_p2))] (fun rs => rs = [.one (.i .i64 r.1), .one (.b r.2)]) := by
 refine FnRO.of' low188 fok188 (by simp [F188]) ?_
 rw [slices_BinarySearchFunc_int] at h
 replace h := Hd.mk h
 simp only [F188, go_sem]
 try simp only [*, go_sem]
 intro hl1
 try simp only [*, go_sem]
 refine jn1 h (fun b2_1 => [zL 0 3 (p0.map Item.enc), zI 1 p1, (2, .one (.d (.f g_p2 c_p2))), zI 8 ((p0.length : Nat) : Int), zI 9 b2_1]) (fun b2_1 => []) (fun k3 h => ?_) (fun b2_1 h => ?_)
 try simp only [*, go_sem]
 refine lp2 (slices_BinarySearchFunc_int_L1 p0 p1 p2 k3) (fun a4_1 a4_2 => [zL 0 3 (p0.map Item.enc), zI 1 p1, (2, .one (.d (.f g_p2 c_p2))), zI 8 ((p0.length : Nat) : Int), zI 9 a4_1, zI 10 a4_2]) (fun a4_1 a4_2 => []) h [] [] (fun n5 a4_1 a4_2 h => ?_) (by intros; rw [slices_BinarySearchFunc_int_L1])
 rw [slices_BinarySearchFunc_int_L1] at h
 refine oi h (fun hb6 h => ?_) (fun hb6 h => ?_)
 have := of_decide_eq_true hb6
 refine obn h (fun x7 _ _ _ _ h => ?_)
 try simp only [*, go_sem]
 refine cr h (h_p2 x7 p1) (fun v9 h => ?_)
 try simp only [*, go_sem]
 refine jn2 h (fun b10_1 b10_2 => [zL 0 3 (p0.map Item.enc), zI 1 p1, (2, .one (.d (.f g_p2 c_p2))), zI 8 ((p0.length : Nat) : Int), zI 9 b10_1, zI 10 b10_2]) (fun b10_1 b10_2 => []) (fun k11 h => ?_) (fun b10_1 b10_2 h => ?_)
 refine oi h (fun hb12 h => ?_) (fun hb12 h => ?_)
 have := of_decide_eq_true hb12
 try simp only [*, go_sem]
 exact jc (IntKind.i64.wrap (IntKind.i64.wrap ((IntKind.u64.wrap (IntKind.i64.wrap (a4_1 + a4_2))).fdiv (2 ^ 1)) + 1), a4_2) h.e []
 try simp only [*, go_sem]
 exact jc (a4_1, IntKind.i64.wrap ((IntKind.u64.wrap (IntKind.i64.wrap (a4_1 + a4_2))).fdiv (2 ^ 1))) h.e []
 try simp only [*, go_sem]
 exact lc (b10_1, b10_2) h.e []
 try simp only [*, go_sem]
 exact jc (a4_1) h.e []
 try simp only [*, go_sem]
 refine jn1 h (fun b13_1 => [zI 6 b2_1, zB 7 b13_1]) (fun b13_1 => []) (fun k14 h => ?_) (fun b13_1 h => ?_)
 refine oi h (fun hb15 h => ?_) (fun hb15 h => ?_)
 refine obn h (fun x16 _ _ _ _ h => ?_)
 try simp only [*, go_sem]
 refine cr h (h_p2 x16 p1) (fun v18 h => ?_)
 try simp only [*, go_sem]
 exact jc (v18 == 0) h.e []
 try simp only [*, go_sem]
 exact jc (false) h.e []
 cases h.e
 simp only [*, go_sem, mA, mS]
def cmp_isNaN (p0 : Int) : Option (Bool) := (some false)
def F214 : VFn := ⟨6, (.seq (.reg [vo 2 (.mv (cb false))]) (.seq (.reg [vm 3 0, vm 4 0, bt 5 .neq 3 4, vm 2 5]) .ret)), [.t 2]⟩
theorem low214 : lowF Tryd.prog 214 = some F214.strip := by kernel_rfl
theorem fok214 : fOk Tryd.prog 214 = true := by kernel_rfl
theorem cmp_isNaN_ok (p0 : Int) (r : Bool) (h : cmp_isNaN p0 = some r) : FnRO Tryd.prog G 214 [.one (.d (.i .i64 p0))] (fun rs => rs = [.one (.b r)]) := by
 refine FnRO.of' low214 fok214 (by simp [F214]) ?_
 rw [cmp_isNaN] at h
 replace h := Hd.mk h
 simp only [F214, go_sem]
 cases h.e
 simp only [*, go_sem, mA, mS]
def cmp_Compare (p0 : Int) (p1 : Int) : Option (Int) := (Option.bind (cmp_isNaN p0) fun v1 => (Option.bind (cmp_isNaN p1) fun v2 => (if v1 = true then (if v2 = true then (some 0) else (some (-1))) else (if v2 = true then (some 1) else (if (decide (p0 < p1)) = true then (some (-1)) else (if (decide (p0 > p1)) = true then (some 1) else (some 0)))))))
def F190 : VFn := ⟨20, (.seq (.reg [mi 4 0]) (.seq (.reg [vm 7 0, vo 8 (.call 214 [(.t 7)]), vm 5 8]) (.seq (.reg [vm 9 1, vo 10 (.call 214 [(.t 9)]), vm 6 10]) (.seq (.seq (.reg [vm 11 5]) (.cond (.t 11) (.seq (.seq (.reg [vm 12 6]) (.cond (.t 12) (.seq (.reg [mi 4 0]) .ret) .skip)) (.seq (.reg [mi 4 (-1)]) .ret)) .skip)) (.seq (.seq (.reg [vm 13 6]) (.cond (.t 13) (.seq (.reg [mi 4 1]) .ret) .skip)) (.seq (.seq (.reg [vm 14 0, vm 15 1, bt 16 .lss 14 15]) (.cond (.t 16) (.seq (.reg [mi 4 (-1)]) .ret) .skip)) (.seq (.seq (.reg [vm 17 0, vm 18 1, bt 19 .gtr 17 18]) (.cond (.t 19) (.seq (.reg [mi 4 1]) .ret) .skip)) (.seq (.reg [mi 4 0]) .ret)))))))), [.t 4]⟩
theorem low190 : lowF Tryd.prog 190 = some F190.strip := by kernel_rfl
theorem fok190 : fOk Tryd.prog 190 = true := by kernel_rfl
theorem cmp_Compare_ok (p0 : Int) (p1 : Int) (r : Int) (h : cmp_Compare p0 p1 = some r) : FnRO Tryd.prog G 190 [.one (.d (.i .i64 p0)), .one (.d (.i .i64 p1))] (fun rs => rs = [.one (.i .i64 r)]) := by
 refine FnRO.of' low190 fok190 (by simp [F190]) ?_
 rw [cmp_Compare] at h
 replace h := Hd.mk h
 simp only [F190, go_sem]
 try simp only [*, go_sem]
 refine cr h (cmp_isNaN_ok G p0) (fun v1 h => ?_)
 try simp only [*, go_sem]
 refine cr h (cmp_isNaN_ok G p1) (fun v2 h => ?_)
 refine oi h (fun hb3 h => ?_) (fun hb3 h => ?_)
 refine oi h (fun hb4 h => ?_) (fun hb4 h => ?_)
 cases h.e
 simp only [*, go_sem, mA, mS]
 cases h.e
 simp only [*, go_sem, mA, mS]
 refine oi h (fun hb5 h => ?_) (fun hb5 h => ?_)
 cases h.e
 simp only [*, go_sem, mA, mS]
 refine oi h (fun hb6 h => ?_) (fun hb6 h => ?_)
 have := of_decide_eq_true hb6
 cases h.e
 simp only [*, go_sem, mA, mS]
 refine oi h (fun hb7 h => ?_) (fun hb7 h => ?_)
 cases h.e
 simp only [*, go_sem, mA, mS]
 cases h.e
 simp only [*, go_sem, mA, mS]
def store_at_1 (p0 : Item) (p1 : Int) : Option (Int) := (Option.bind (cmp_Compare p0.Key p1) fun v1 => (some v1))
def F189 : VFn := ⟨9, (.seq (.reg [vo 2 (.boxk 3 (.t 0)), mi 4 0]) (.seq (.reg [vf 5 0 2, vs 6 5, vm 7 1, vo 8 (.call 190 [(.t 6), (.t 7)]), vm 4 8]) .ret)), [.t 4]⟩
theorem low189 : lowF Tryd.prog 189 = some F189.strip := by kernel_rfl
theorem fok189 : fOk Tryd.prog 189 = true := by kernel_rfl
theorem store_at_1_ok (p0 : Item) (p1 : Int) (r : Int) (h : store_at_1 p0 p1 = some r) : FnRO Tryd.prog G 189 [.agg p0.bx, .one (.d (.i .i64 p1))] (fun rs => rs = [.one (.i .i64 r)]) := by
 refine FnRO.of' low189 fok189 (by simp [F189]) ?_
 rw [store_at_1] at h
 replace h := Hd.mk h
 simp only [F189, go_sem]
 try simp only [*, go_sem]
 refine cr h (cmp_Compare_ok G p0.Key p1) (fun v1 h => ?_)
 cases h.e
 simp only [*, go_sem, mA, mS]
def store_at (p0 : List Item) (p1 : Int) : Option (Int × Bool) := (Option.bind (slices_BinarySearchFunc_int p0 p1 (fun y1 y2 => store_at_1 y1 y2)) fun v3 => (some (v3.1, v3.2)))
def F148 : VFn := ⟨11, (.seq (.reg [mi 4 0, vo 5 (.mv (cb false))]) (.seq (.reg [vm 6 0, vm 7 1, vo 8 (.call 188 [(.t 6), (.t 7), (.fn 189)]), et 9 8 0, et 10 8 1, vm 4 9, vm 5 10]) .ret)), [.t 4, .t 5]⟩
theorem low148 : lowF Tryd.prog 148 = some F148.strip := by kernel_rfl
theorem fok148 : fOk Tryd.prog 148 = true := by kernel_rfl
theorem store_at_ok (p0 : List Item) (p1 : Int) (r : Int × Bool) (h : store_at p0 p1 = some r) : FnRO Tryd.prog G 148 [.one (.d (.l 3 (p0.map Item.enc))), .one (.d (.i .i64 p1))] (fun rs => rs = [.one (.i .i64 r.1), .one (.b r.2)]) := by
 refine FnRO.of' low148 fok148 (by simp [F148]) ?_
 rw [store_at] at h
 replace h := Hd.mk h
 simp only [F148, go_sem]
 try simp only [*, go_sem]
 refine cr h (slices_BinarySearchFunc_int_ok G p0 p1 (fun y1 y2 => store_at_1 y1 y2) 189 [] (fun y1 y2 r h => store_at_1_ok G y1 y2 r h)) (fun v3 h => ?_)
 cases h.e
 simp only [*, go_sem, mA, mS]
def store_item (p0 : Store) (p1 : Int) : Option (Item) := (Option.bind (store_at p0.Items p1) fun v1 => (if v1.2 = true then (if 0 ≤ v1.1 then (Option.bind (p0.Items[v1.1.toNat]?) fun x3 => (some x3)) else none) else (some (Item.mk p1 0 0))))
def F142 : VFn := ⟨22, (.seq (.reg [vo 2 (.box 4 (.t 0)), vo 4 (.alloc [(zi 0), (zi 0), (zi 0)])]) (.seq (.seq (.reg [vf 8 0 2, vs 9 8, vm 10 1, vo 11 (.call 148 [(.t 9), (.t 10)]), vm 7 11, et 12 7 0, et 13 7 1, vm 5 12, vm 6 13]) (.seq (.reg [vm 14 6]) (.cond (.t 14) (.seq (.reg [vf 15 0 2, vs 16 15, vm 17 5, xa 18 3 16 17, vl 19 3 18, vu (.st 3 (.t 4) (.t 19))]) .ret) .skip))) (.seq (.reg [vm 20 1, vo 21 (.build [(zi 0), (zi 0), (zi 0)] [(0, 1, (.t 20))]), vu (.st 3 (.t 4) (.t 21))]) .ret))), [.cell 4 true 3]⟩
theorem low142 : lowF Tryd.prog 142 = some F142.strip := by kernel_rfl
theorem fok142 : fOk Tryd.prog 142 = true := by kernel_rfl
theorem store_item_ok (p0 : Store) (p1 : Int) (r : Item) (h : store_item p0 p1 = some r) : FnRO Tryd.prog G 142 [.agg p0.bx, .one (.d (.i .i64 p1))] (fun rs => rs = [.agg (r.encO)]) := by
 refine FnRO.of' low142 fok142 (by simp [F142]) ?_
 rw [store_item] at h
 replace h := Hd.mk h
 simp only [F142, go_sem]
 try simp only [*, go_sem]
 refine cr h (store_at_ok G p0.Items p1) (fun v1 h => ?_)
 refine oi h (fun hb2 h => ?_) (fun hb2 h => ?_)
 refine obn h (fun x3 _ _ _ _ h => ?_)
 cases h.e
 simp only [*, go_sem, mA, mS]
 cases h.e
 simp only [*, go_sem, mA, mS]
def store_lock_1 (p0 : Lock) (p1 : Txn) (p2 : Int) : Option (Bool) := (withK (fun (b1_1 : Bool) => (some b1_1)) fun k2 => (if ((p0.Txn.Site == p1.Site) && (p0.Txn.N == p1.N)) = true then (k2 (p0.Key == p2)) else (k2 false)))
def F185 : VFn := ⟨15, (.seq (.reg [vo 3 (.boxk 6 (.t 0)), vo 4 (.mv (cb false))]) (.seq (.wk (.reg [vf 5 0 3, vl 6 2 5, vl 7 2 1, vo 8 (.eqs false [.i, .i] (.t 6) (.t 7)), vm 9 8, gt 10 9 (.fa 2 (.t 3)), gt 11 9 (.ld false 1 (.t 10)), gt 12 9 (.ld false 1 (.t 2)), gt 13 9 (.bin .i .eql (.t 11) (.t 12)), vo 14 (.pick (.t 9) (.t 13) (cb false)), vm 4 14])) .ret)), [.t 4]⟩
theorem low185 : lowF Tryd.prog 185 = some F185.strip := by kernel_rfl
theorem fok185 : fOk Tryd.prog 185 = true := by kernel_rfl
theorem store_lock_1_ok (p0 : Lock) (p1 : Txn) (p2 : Int) (r : Bool) (h : store_lock_1 p0 p1 p2 = some r) : FnRO Tryd.prog G 185 [.agg p0.bx, .one (.d (.k (Txn.enc p1))), .one (.d (.k [.i .i64 p2]))] (fun rs => rs = [.one (.b r)]) := by
 refine FnRO.of' low185 fok185 (by simp [F185]) ?_
 rw [store_lock_1] at h
 replace h := Hd.mk h
 simp only [F185, go_sem]
 try simp only [*, go_sem]
 refine jn1 h (fun b1_1 => [zB 4 b1_1]) (fun b1_1 => []) (fun k2 h => ?_) (fun b1_1 h => ?_)
 refine oi h (fun hb3 h => ?_) (fun hb3 h => ?_)
 try simp only [*, go_sem]
 try simp only [*, go_sem]
 exact jc (p0.Key == p2) h.e []
 try simp only [*, go_sem]
 try simp only [*, go_sem]
 exact jc (false) h.e []
 cases h.e
 simp only [*, go_sem, mA, mS]
def store_lock (p0 : Store) (p1 : Txn) (p2 : Int) : Option (Int) := (Option.bind (slices_IndexFunc_Lock p0.Locks (fun y1 => store_lock_1 y1 p1 p2)) fun v2 => (some v2))
def F143 : VFn := ⟨11, (.seq (.reg [vo 3 (.box 4 (.t 0)), vo 4 (.box 2 (.t 1)), vo 5 (.box 1 (.t 2)), mi 6 0]) (.seq (.reg [vf 7 1 3, vs 8 7, vo 9 (.mkf 185 [(.t 4), (.t 5)]), vo 10 (.call 184 [(.t 8), (.t 9)]), vm 6 10]) .ret)), [.t 6]⟩
theorem low143 : lowF Tryd.prog 143 = some F143.strip := by kernel_rfl
theorem fok143 : fOk Tryd.prog 143 = true := by kernel_rfl
theorem store_lock_ok (p0 : Store) (p1 : Txn) (p2 : Int) (r : Int) (h : store_lock p0 p1 p2 = some r) : FnRO Tryd.prog G 143 [.agg p0.bx, .agg p1.bx, .one (.d (.i .i64 p2))] (fun rs => rs = [.one (.i .i64 r)]) := by
 refine FnRO.of' low143 fok143 (by simp [F143]) ?_
 rw [store_lock] at h
 replace h := Hd.mk h
 simp only [F143, go_sem]
 try simp only [*, go_sem]
 refine cl h (slices_IndexFunc_Lock_ok G p0.Locks (fun y1 => store_lock_1 y1 p1 p2) 185 [.k [.i .i64 p1.Site, .i .i64 p1.N], .k [.i .i64 p2]] (fun y1 r h => store_lock_1_ok G y1 p1 p2 r h)) (fun v2 h => ?_)
 cases h.e
 simp only [*, go_sem, mA, mS]
theorem low87 : lowF Tryd.prog 87 = some (cloneV 3 24 [(zi 0), (zi 0), (zi 0)]) := by kernel_rfl
theorem fok87 : fOk Tryd.prog 87 = true := by kernel_rfl
theorem clone87_ok (p0 r : List Item) (h : cloneF 24 p0 = some r) : FnRO Tryd.prog G 87 [.one (.d (.l 3 (p0.map Item.enc)))] (fun rs => rs = [.one (.o 3 (r.map Item.enc))]) := clone_ok low87 fok87 G Item.enc p0 r h
theorem low88 : lowF Tryd.prog 88 = some (cloneV 6 48 [(zi 0), (zi 0), (zi 0), (.d (.b false)), (zi 0), (zi 0)]) := by kernel_rfl
theorem fok88 : fOk Tryd.prog 88 = true := by kernel_rfl
theorem clone88_ok (p0 r : List Lock) (h : cloneF 48 p0 = some r) : FnRO Tryd.prog G 88 [.one (.d (.l 6 (p0.map Lock.enc)))] (fun rs => rs = [.one (.o 6 (r.map Lock.enc))]) := clone_ok low88 fok88 G Lock.enc p0 r h
theorem low89 : lowF Tryd.prog 89 = some (cloneV 3 24 [(zi 0), (zi 0), (zi 0)]) := by kernel_rfl
theorem fok89 : fOk Tryd.prog 89 = true := by kernel_rfl
theorem clone89_ok (p0 r : List Doubt) (h : cloneF 24 p0 = some r) : FnRO Tryd.prog G 89 [.one (.d (.l 3 (p0.map Doubt.enc)))] (fun rs => rs = [.one (.o 3 (r.map Doubt.enc))]) := clone_ok low89 fok89 G Doubt.enc p0 r h
theorem low90 : lowF Tryd.prog 90 = some (cloneV 2 16 [(zi 0), (zi 0)]) := by kernel_rfl
theorem fok90 : fOk Tryd.prog 90 = true := by kernel_rfl
theorem clone90_ok (p0 r : List Txn) (h : cloneF 16 p0 = some r) : FnRO Tryd.prog G 90 [.one (.d (.l 2 (p0.map Txn.enc)))] (fun rs => rs = [.one (.o 2 (r.map Txn.enc))]) := clone_ok low90 fok90 G Txn.enc p0 r h
def store_own (p0 : Store) : Option (Store) := (Option.bind (cloneF 24 p0.Items) fun v1 => (Option.bind (cloneF 48 p0.Locks) fun v2 => (Option.bind (cloneF 24 p0.Doubts) fun v3 => (Option.bind (cloneF 16 p0.Over) fun v4 => (some (Store.mk v1 v2 v3 v4))))))
def F144 : VFn := ⟨16, (.seq (.reg [vo 1 (.box 4 (.t 0)), vo 2 (.alloc [(.nl 3), (.nl 6), (.nl 3), (.nl 2)])]) (.seq (.draw [vd (vf 3 0 1) 0, vd (vs 4 3) 1, vd (vo 5 (.call 87 [(.t 4)])) 3, ⟨vf 6 1 1, 0, [2], none, []⟩, ⟨vs 7 6, 8, [2], none, []⟩, vd (vo 8 (.call 88 [(.t 7)])) 31, ⟨vf 9 2 1, 0, [2, 5], none, []⟩, ⟨vs 10 9, 64, [2, 5], none, []⟩, vd (vo 11 (.call 89 [(.t 10)])) 255, ⟨vf 12 3 1, 0, [2, 5, 8], none, []⟩, ⟨vs 13 12, 512, [2, 5, 8], none, []⟩, vd (vo 14 (.call 90 [(.t 13)])) 2047, vd (vo 15 (.build [(.nl 3), (.nl 6), (.nl 3), (.nl 2)] [(0, 1, (.t 5)), (1, 1, (.t 8)), (2, 1, (.t 11)), (3, 1, (.t 14))])) 4095, vd (vu (.st 4 (.t 2) (.t 15))) 8191]) .ret)), [.cell 2 true 4]⟩
theorem low144 : lowF Tryd.prog 144 = some F144.strip := by kernel_rfl
theorem fok144 : fOk Tryd.prog 144 = true := by kernel_rfl
theorem store_own_ok (p0 : Store) (r : Store) (h : store_own p0 = some r) : FnRO Tryd.prog G 144 [.agg p0.bx] (fun rs => rs = [.agg (r.encO)]) := by
 refine FnRO.of' low144 fok144 (by simp [F144]) ?_
 rw [store_own] at h
 replace h := Hd.mk h
 simp only [F144, go_sem]
 refine obk h (fun v1 hv1 h => ?_)
 try simp only [*, go_sem]
 refine cd (clone87_ok G p0.Items v1 hv1) ?_
 refine obk h (fun v2 hv2 h => ?_)
 try simp only [*, go_sem]
 refine cd (clone88_ok G p0.Locks v2 hv2) ?_
 refine obk h (fun v3 hv3 h => ?_)
 try simp only [*, go_sem]
 refine cd (clone89_ok G p0.Doubts v3 hv3) ?_
 refine obk h (fun v4 hv4 h => ?_)
 try simp only [*, go_sem]
 refine cd (clone90_ok G p0.Over v4 hv4) ?_
 cases h.e
 simp only [*, go_sem, mA, mS]
def store_busy_1 (p0 : Lock) (p1 : Int) (p2 : Txn) (p3 : Bool) : Option (Bool) := (withK (fun (b1_1 : Bool) => (some b1_1)) fun k2 => (if (p0.Key == p1) = true then (if (!((p0.Txn.Site == p2.Site) && (p0.Txn.N == p2.N))) = true then (if p3 = true then (k2 true) else (k2 p0.Write)) else (k2 false)) else (k2 false)))
def F187 : VFn := ⟨23, (.seq (.reg [vo 4 (.boxk 6 (.t 0)), vo 5 (.mv (cb false))]) (.seq (.wk (.reg [vf 6 2 4, vs 7 6, vs 8 1, bt 9 .eql 7 8, vm 10 9, gt 11 10 (.fa 0 (.t 4)), gt 12 10 (.ld true 2 (.t 11)), gt 13 10 (.ld true 2 (.t 2)), gt 14 10 (.eqs true [.i, .i] (.t 12) (.t 13)), vo 15 (.pick (.t 10) (.t 14) (cb false)), vm 16 15, gt 17 16 (.ld false 1 (.t 3)), gt 18 16 (.mv (.t 17)), gf 19 18 (.fa 3 (.t 4)), gf 20 18 (.ld false 1 (.t 19)), gt 21 16 (.pick (.t 18) (cb true) (.t 20)), vo 22 (.pick (.t 16) (.t 21) (cb false)), vm 5 22])) .ret)), [.t 5]⟩
theorem low187 : lowF Tryd.prog 187 = some F187.strip := by kernel_rfl
theorem fok187 : fOk Tryd.prog 187 = true := by kernel_rfl
theorem store_busy_1_ok (p0 : Lock) (p1 : Int) (p2 : Txn) (p3 : Bool) (r : Bool) (h : store_busy_1 p0 p1 p2 p3 = some r) : FnRO Tryd.prog G 187 [.agg p0.bx, .one (.d (.k [.i .i64 p1])), .one (.d (.k (Txn.enc p2))), .one (.d (.k [.b p3]))] (fun rs => rs = [.one (.b r)]) := by
 refine FnRO.of' low187 fok187 (by simp [F187]) ?_
 rw [store_busy_1] at h
 replace h := Hd.mk h
 simp only [F187, go_sem]
 try simp only [*, go_sem]
 refine jn1 h (fun b1_1 => [zB 5 b1_1]) (fun b1_1 => []) (fun k2 h => ?_) (fun b1_1 h => ?_)
 refine oi h (fun hb3 h => ?_) (fun hb3 h => ?_)
 refine oin h (fun hb4 hkhb4 h => ?_) (fun hb4 hkhb4 h => ?_)
 try simp only [*, go_sem]
 refine oi h (fun hb5 h => ?_) (fun hb5 h => ?_)
 try simp only [*, go_sem]
 exact jc (true) h.e []
 try simp only [*, go_sem]
 exact jc (p0.Write) h.e []
 try simp only [*, go_sem]
 try simp only [*, go_sem]
 exact jc (false) h.e []
 try simp only [*, go_sem]
 exact jc (false) h.e []
 cases h.e
 simp only [*, go_sem, mA, mS]
def store_busy (p0 : Store) (p1 : Txn) (p2 : Int) (p3 : Bool) : Option (Bool) := (Option.bind (slices_ContainsFunc_Lock p0.Locks (fun y1 => store_busy_1 y1 p2 p1 p3)) fun v2 => (some v2))
def F146 : VFn := ⟨13, (.seq (.reg [vo 4 (.boxk 4 (.t 0)), vo 5 (.box 2 (.t 1)), vo 6 (.box 1 (.t 2)), vo 7 (.box 1 (.t 3)), vo 8 (.mv (cb false))]) (.seq (.reg [vf 9 1 4, vs 10 9, vo 11 (.mkf 187 [(.t 6), (.t 5), (.t 7)]), vo 12 (.call 181 [(.t 10), (.t 11)]), vm 8 12]) .ret)), [.t 8]⟩
theorem low146 : lowF Tryd.prog 146 = some F146.strip := by kernel_rfl
theorem fok146 : fOk Tryd.prog 146 = true := by kernel_rfl
theorem store_busy_ok (p0 : Store) (p1 : Txn) (p2 : Int) (p3 : Bool) (r : Bool) (h : store_busy p0 p1 p2 p3 = some r) : FnRO Tryd.prog G 146 [.agg p0.bx, .agg p1.bx, .one (.d (.i .i64 p2)), .one (.d (.b p3))] (fun rs => rs = [.one (.b r)]) := by
 refine FnRO.of' low146 fok146 (by simp [F146]) ?_
 rw [store_busy] at h
 replace h := Hd.mk h
 simp only [F146, go_sem]
 try simp only [*, go_sem]
 refine cl h (slices_ContainsFunc_Lock_ok G p0.Locks (fun y1 => store_busy_1 y1 p2 p1 p3) 187 [.k [.i .i64 p2], .k [.i .i64 p1.Site, .i .i64 p1.N], .k [.b p3]] (fun y1 r h => store_busy_1_ok G y1 p2 p1 p3 r h)) (fun v2 h => ?_)
 cases h.e
 simp only [*, go_sem, mA, mS]
def F147 : VFn := ⟨21, (.seq (.reg [vo 3 (.boxk 2 (.t 1))]) (.seq (.draw [vd (vm 4 0) 0, vd (vo 5 (.nilchk (.t 4))) 1, vd (vl 6 4 5) 3, vd (vl 7 2 3) 0, vd (vo 8 (.call 183 [(.t 6), (.t 7)])) 15, vd (nt 9 8) 31]) (.wk (.cond (.t 9) (.draw [vd (vm 10 0) 0, vd (vm 11 0) 0, vd (vo 12 (.nilchk (.t 11))) 2, vd (vf 13 2 12) 6, vd (vs 14 13) 14, vd (vl 15 2 3) 0, vd (vo 16 (.build [(zi 0), (zi 0), (zi 0)] [(0, 2, (.t 15))])) 32, vd (vo 17 (.bsl 3 1 [(zi 0), (zi 0), (zi 0)] [(0, (.t 16))])) 96, vd (vo 18 (.app 3 24 (.t 14) (.t 17))) 254, vd (vo 19 (.nilchk (.t 10))) 511, vd (vf 20 2 19) 1023, vd (vu (.st 1 (.t 20) (.t 18))) 2047]) .skip)))), []⟩
theorem low147 : lowF Tryd.prog 147 = some F147.strip := by kernel_rfl
theorem fok147 : fOk Tryd.prog 147 = true := by kernel_rfl
def store_Read (p0 : Store) (p1 : Txn) (p2 : Int) : Option (Store × Int × Int × Int) := (Option.bind (store_call p0 p1 p2) fun v1 => (if (v1 != 0) = true then (some ((Store.mk [] [] [] []), 0, 0, v1)) else (Option.bind (store_item p0 p2) fun v3 => (Option.bind (store_lock p0 p1 p2) fun v4 => (if (decide (v4 ≥ 0)) = true then (if 0 ≤ v4 then (Option.bind (p0.Locks[v4.toNat]?) fun x6 => (if x6.Write = true then (Option.bind (store_own p0) fun v9 => (some (v9, x6.Value, v3.Version, 0))) else (Option.bind (store_own p0) fun v10 => (some (v10, v3.Value, v3.Version, 0))))) else none) else (Option.bind (slices_Contains_Txn p0.Over p1) fun v11 => (if v11 = true then (some ((Store.mk [] [] [] []), 0, 0, 13)) else (Option.bind (store_busy p0 p1 p2 false) fun v13 => (if v13 = true then (some ((Store.mk [] [] [] []), 0, 0, 11)) else (if (((p0.Locks.length : Nat) : Int) == 24) = true then (some ((Store.mk [] [] [] []), 0, 0, 8)) else (Option.bind (store_own p0) fun v17 => (if fits 48 (v17.Locks.length + 1) then (Option.bind (store_doubted (Store.mk v17.Items (v17.Locks ++ [(Lock.mk p1 p2 false 0 0)]) v17.Doubts v17.Over) p1) fun v19 => (withK (fun (b20_1 : List Doubt) => (some ((Store.mk v17.Items (v17.Locks ++ [(Lock.mk p1 p2 false 0 0)]) b20_1 v17.Over), v3.Value, v3.Version, 0))) fun k21 => (if (!v19) = true then (if fits 24 (v17.Doubts.length + 1) then (k21 (v17.Doubts ++ [(Doubt.mk p1 0)])) else none) else (k21 v17.Doubts)))) else none))))))))))))
def F80 : VFn := ⟨88, (.seq (.reg [vo 3 (.boxk 4 (.t 0)), vo 4 (.boxk 2 (.t 1)), vo 6 (.alloc [(.nl 3), (.nl 6), (.nl 3), (.nl 2)]), mi 7 0, mi 8 0, mi 9 0]) (.seq (.seq (.reg [vl 14 4 3, vl 15 2 4, vm 16 2, vo 17 (.call 141 [(.t 14), (.t 15), (.t 16)]), vm 10 17]) (.seq (.reg [vm 18 10, bk 19 .neq 18 0]) (.cond (.t 19) (.seq (.reg [vo 20 (.build [(.nl 3), (.nl 6), (.nl 3), (.nl 2)] []), vm 21 10, vu (.st 4 (.t 6) (.t 20)), mi 7 0, mi 8 0, vm 9 21]) .ret) .skip))) (.seq (.reg [vl 22 4 3, vm 23 2, vo 24 (.call 142 [(.t 22), (.t 23)]), vo 11 (.alloc [(zi 0), (zi 0), (zi 0)]), vu (.st 3 (.t 11) (.t 24))]) (.seq (.seq (.reg [vl 25 4 3, vl 26 2 4, vm 27 2, vo 28 (.call 143 [(.t 25), (.t 26), (.t 27)]), vm 12 28]) (.seq (.reg [vm 29 12, bk 30 .geq 29 0]) (.cond (.t 30) (.seq (.seq (.reg [vf 31 1 3, vs 32 31, vm 33 12, xa 34 6 32 33, vf 35 3 34, vs 36 35]) (.cond (.t 36) (.seq (.draw [vd (vl 37 4 3) 0, vd (vo 38 (.call 144 [(.t 37)])) 1, ⟨vf 39 1 3, 0, [1], none, [0]⟩, ⟨vs 40 39, 4, [1], none, [0]⟩, ⟨vm 41 12, 0, [1], none, []⟩, ⟨xa 42 6 40 41, 28, [1], none, [0]⟩, ⟨vf 43 4 42, 60, [1], none, [0]⟩, ⟨vs 44 43, 124, [1], none, [0]⟩, ⟨vf 45 2 11, 0, [1], none, [0]⟩, ⟨vs 46 45, 256, [1], none, [0]⟩, ⟨vu (.st 4 (.t 6) (.t 38)), 3, [], (some 0), []⟩, vd (vm 7 44) 1279, vd (vm 8 46) 4095, vd (mi 9 0) 8191]) .ret) .skip)) (.seq (.draw [vd (vl 47 4 3) 0, vd (vo 48 (.call 144 [(.t 47)])) 1, ⟨vf 49 1 11, 0, [1], none, [0]⟩, ⟨vs 50 49, 4, [1], none, [0]⟩, ⟨vf 51 2 11, 0, [1], none, [0]⟩, ⟨vs 52 51, 16, [1], none, [0]⟩, ⟨vu (.st 4 (.t 6) (.t 48)), 3, [], (some 0), []⟩, vd (vm 7 50) 79, vd (vm 8 52) 255, vd (mi 9 0) 511]) .ret)) .skip))) (.seq (.block 0 (.seq (.reg [vf 54 3 3, vs 55 54, vl 56 2 4, vo 57 (.call 145 [(.t 55), (.t 56)]), vm 53 57]) (.cond (.t 53) (.seq (.reg [vo 58 (.build [(.nl 3), (.nl 6), (.nl 3), (.nl 2)] []), vu (.st 4 (.t 6) (.t 58)), mi 7 0, mi 8 0, mi 9 13]) .ret) (.seq (.reg [vl 60 4 3, vl 61 2 4, vm 62 2, vo 63 (.call 146 [(.t 60), (.t 61), (.t 62), (cb false)]), vm 59 63]) (.cond (.t 59) (.seq (.reg [vo 64 (.build [(.nl 3), (.nl 6), (.nl 3), (.nl 2)] []), vu (.st 4 (.t 6) (.t 64)), mi 7 0, mi 8 0, mi 9 11]) .ret) (.seq (.reg [vf 66 1 3, vs 67 66, ln 68 67, bk 69 .eql 68 24, vm 65 69]) (.cond (.t 65) (.seq (.reg [vo 70 (.build [(.nl 3), (.nl 6), (.nl 3), (.nl 2)] []), vu (.st 4 (.t 6) (.t 70)), mi 7 0, mi 8 0, mi 9 8]) .ret) .skip))))))) (.seq (.reg [vl 71 4 3, vo 72 (.call 144 [(.t 71)]), vo 13 (.alloc [(.nl 3), (.nl 6), (.nl 3), (.nl 2)]), vu (.st 4 (.t 13) (.t 72))]) (.seq (.reg [vf 73 1 13, vs 74 73, vl 75 2 4, vm 76 2, vo 77 (.build [(zi 0), (zi 0), (zi 0), (.d (.b false)), (zi 0), (zi 0)] [(0, 2, (.t 75)), (2, 1, (.t 76))]), vo 78 (.bsl 6 1 [(zi 0), (zi 0), (zi 0), (.d (.b false)), (zi 0), (zi 0)] [(0, (.t 77))]), vo 79 (.app 6 48 (.t 74) (.t 78)), vf 80 1 13, vu (.st 1 (.t 80) (.t 79))]) (.seq (.reg [vl 81 2 4, vo 82 (.call 147 [(.t 13), (.t 81)])]) (.seq (.draw [vd (vl 83 4 13) 0, ⟨vf 84 1 11, 0, [], none, [0]⟩, ⟨vs 85 84, 2, [], none, [0]⟩, ⟨vf 86 2 11, 0, [], none, [0]⟩, ⟨vs 87 86, 8, [], none, [0]⟩, ⟨vu (.st 4 (.t 6) (.t 83)), 1, [], (some 0), []⟩, vd (vm 7 85) 39, vd (vm 8 87) 127, vd (mi 9 0) 255]) .ret))))))))), [.cell 6 true 4, .t 7, .t 8, .t 9]⟩
theorem low80 : lowF Tryd.prog 80 = some F80.strip := by kernel_rfl
theorem fok80 : fOk Tryd.prog 80 = true := by kernel_rfl
theorem store_Read_ok (p0 : Store) (p1 : Txn) (p2 : Int) (r : Store × Int × Int × Int) (h : store_Read p0 p1 p2 = some r) : FnRO Tryd.prog G 80 [.agg p0.bx, .agg p1.bx, .one (.d (.i .i64 p2))] (fun rs => rs = [.agg (r.1.enc), .one (.i .i64 r.2.1), .one (.i .i64 r.2.2.1), .one (.i .i64 r.2.2.2)]) := by
 refine FnRO.fz ?_ rfl
 refine FnRO.of' low80 fok80 (by simp [F80]) ?_
 rw [store_Read] at h
 replace h := Hd.mk h
 simp only [F80, go_sem]
 try simp only [*, go_sem]
 refine cr h (store_call_ok G p0 p1 p2) (fun v1 h => ?_)
 refine oi h (fun hb2 h => ?_) (fun hb2 h => ?_)
 cases h.e
 simp only [*, go_sem, mA, mS]
 try simp only [*, go_sem]
 refine cr h (store_item_ok G p0 p2) (fun v3 h => ?_)
 try simp only [*, go_sem]
 refine cr h (store_lock_ok G p0 p1 p2) (fun v4 h => ?_)
 refine oi h (fun hb5 h => ?_) (fun hb5 h => ?_)
 refine obn h (fun x6 _ _ _ _ h => ?_)
 refine oi h (fun hb8 h => ?_) (fun hb8 h => ?_)
 refine obk h (fun v9 hv9 h => ?_)
 try simp only [*, go_sem]
 refine cd (FnRO.fz' (store_own_ok G p0 v9 hv9) rfl rfl) ?_
 cases h.e
 simp only [*, go_sem, mA, mS]
 refine obk h (fun v10 hv10 h => ?_)
 try simp only [*, go_sem]
 refine cd (FnRO.fz' (store_own_ok G p0 v10 hv10) rfl rfl) ?_
 cases h.e
 simp only [*, go_sem, mA, mS]
 try simp only [*, go_sem]
 refine cr h (slices_Contains_Txn_ok G p0.Over p1) (fun v11 h => ?_)
 refine oi h (fun hb12 h => ?_) (fun hb12 h => ?_)
 cases h.e
 simp only [*, go_sem, mA, mS]
 try simp only [*, go_sem]
 refine cr h (store_busy_ok G p0 p1 p2 false) (fun v13 h => ?_)
 refine oi h (fun hb14 h => ?_) (fun hb14 h => ?_)
 cases h.e
 simp only [*, go_sem, mA, mS]
 try simp only [*, go_sem]
 intro hl15
 refine oi h (fun hb16 h => ?_) (fun hb16 h => ?_)
 cases h.e
 simp only [*, go_sem, mA, mS]
 try simp only [*, go_sem]
 refine cr h (store_own_ok G p0) (fun v17 h => ?_)
 refine ck h (fun _ h => ?_)
 try simp only [*, go_sem]
 refine cx low147 fok147 ?_
 simp only [*, F147, go_sem]
 refine obk h (fun v19 hv19 h => ?_)
 try simp only [*, go_sem]
 refine cdl (store_doubted_ok G (Store.mk v17.Items (v17.Locks ++ [(Lock.mk p1 p2 false 0 0)]) v17.Doubts v17.Over) p1 v19 hv19) ?_
 try simp only [*, go_sem]
 refine jn1 h (fun b20_1 => [zP 1000006 0, zP 1000011 1, zP 1000013 2]) (fun b20_1 => [ox [.nl 3, .nl 6, .nl 3, .nl 2], ox v3.bx, ox [.r 3 0 v17.Items.length, .r 4 0 (v17.Locks.length + 1), .r 5 0 b20_1.length, .r 6 0 v17.Over.length], oa 3 (v17.Items.map Item.enc), oa 6 ((v17.Locks ++ [(Lock.mk p1 p2 false 0 0)]).map Lock.enc), oa 3 (b20_1.map Doubt.enc), oa 2 (v17.Over.map Txn.enc)]) (fun k21 h => ?_) (fun b20_1 h => ?_)
 refine oin h (fun hb22 hkhb22 h => ?_) (fun hb22 hkhb22 h => ?_)
 refine ck h (fun _ h => ?_)
 try simp only [*, go_sem]
 exact jc ((v17.Doubts ++ [(Doubt.mk p1 0)])) h.e [some 0, some 1, some 6, some 2, some 8, some 23, some 5]
 try simp only [*, go_sem]
 exact jc (v17.Doubts) h.e [some 0, some 1, some 6, some 2, some 8, some 4, some 5]
 cases h.e
 simp only [*, go_sem, mA, mS]
def store_Peek (p0 : Store) (p1 : Int) : Option (Int × Int × Int) := (Option.bind (store_call p0 (Txn.mk 0 1) p1) fun v1 => (if (v1 != 0) = true then (some (0, 0, v1)) else (Option.bind (store_busy p0 (Txn.mk 0 0) p1 false) fun v3 => (if v3 = true then (some (0, 0, 11)) else (Option.bind (store_item p0 p1) fun v5 => (some (v5.Value, v5.Version, 0)))))))
def F81 : VFn := ⟨27, (.seq (.reg [vo 2 (.boxk 4 (.t 0)), mi 4 0, mi 5 0, mi 6 0]) (.seq (.seq (.reg [vl 9 4 2, vo 10 (.build [(zi 0), (zi 0)] [(1, 1, (ci 1))]), vm 11 1, vo 12 (.call 141 [(.t 9), (.t 10), (.t 11)]), vm 7 12]) (.seq (.reg [vm 13 7, bk 14 .neq 13 0]) (.cond (.t 14) (.seq (.reg [vm 15 7, mi 4 0, mi 5 0, vm 6 15]) .ret) .skip))) (.seq (.seq (.reg [vl 16 4 2, vo 17 (.build [(zi 0), (zi 0)] []), vm 18 1, vo 19 (.call 146 [(.t 16), (.t 17), (.t 18), (cb false)])]) (.cond (.t 19) (.seq (.reg [mi 4 0, mi 5 0, mi 6 11]) .ret) .skip)) (.seq (.reg [vl 20 4 2, vm 21 1, vo 22 (.call 142 [(.t 20), (.t 21)]), vo 8 (.alloc [(zi 0), (zi 0), (zi 0)]), vu (.st 3 (.t 8) (.t 22))]) (.seq (.draw [vd (vf 23 1 8) 0, vd (vs 24 23) 1, vd (vf 25 2 8) 0, vd (vs 26 25) 4, vd (vm 4 24) 3, vd (vm 5 26) 31, vd (mi 6 0) 63]) .ret))))), [.t 4, .t 5, .t 6]⟩
theorem low81 : lowF Tryd.prog 81 = some F81.strip := by kernel_rfl
theorem fok81 : fOk Tryd.prog 81 = true := by kernel_rfl
theorem store_Peek_ok (p0 : Store) (p1 : Int) (r : Int × Int × Int) (h : store_Peek p0 p1 = some r) : FnRO Tryd.prog G 81 [.agg p0.bx, .one (.d (.i .i64 p1))] (fun rs => rs = [.one (.i .i64 r.1), .one (.i .i64 r.2.1), .one (.i .i64 r.2.2)]) := by
 refine FnRO.of' low81 fok81 (by simp [F81]) ?_
 rw [store_Peek] at h
 replace h := Hd.mk h
 simp only [F81, go_sem]
 try simp only [*, go_sem]
 refine cr h (store_call_ok G p0 (Txn.mk 0 1) p1) (fun v1 h => ?_)
 refine oi h (fun hb2 h => ?_) (fun hb2 h => ?_)
 cases h.e
 simp only [*, go_sem, mA, mS]
 try simp only [*, go_sem]
 refine cr h (store_busy_ok G p0 (Txn.mk 0 0) p1 false) (fun v3 h => ?_)
 refine oi h (fun hb4 h => ?_) (fun hb4 h => ?_)
 cases h.e
 simp only [*, go_sem, mA, mS]
 try simp only [*, go_sem]
 refine cr h (store_item_ok G p0 p1) (fun v5 h => ?_)
 cases h.e
 simp only [*, go_sem, mA, mS]
def part_refusal (p0 : Int) : Option (Bool) := (withK (fun (b1_1 : Bool) => (some b1_1)) fun k2 => (if (p0 == 11) = true then (k2 true) else (k2 (p0 == 8))))
def F82 : VFn := ⟨9, (.seq (.reg [vo 2 (.mv (cb false))]) (.seq (.wk (.reg [vm 3 0, bk 4 .eql 3 11, vm 5 4, gf 6 5 (.mv (.t 0)), gf 7 5 (.bin .i .eql (.t 6) (ci 8)), vo 8 (.pick (.t 5) (cb true) (.t 7)), vm 2 8])) .ret)), [.t 2]⟩
theorem low82 : lowF Tryd.prog 82 = some F82.strip := by kernel_rfl
theorem fok82 : fOk Tryd.prog 82 = true := by kernel_rfl
theorem part_refusal_ok (p0 : Int) (r : Bool) (h : part_refusal p0 = some r) : FnRO Tryd.prog G 82 [.one (.d (.i .i64 p0))] (fun rs => rs = [.one (.b r)]) := by
 refine FnRO.of' low82 fok82 (by simp [F82]) ?_
 rw [part_refusal] at h
 replace h := Hd.mk h
 simp only [F82, go_sem]
 try simp only [*, go_sem]
 refine jn1 h (fun b1_1 => [zB 2 b1_1]) (fun b1_1 => []) (fun k2 h => ?_) (fun b1_1 h => ?_)
 refine oi h (fun hb3 h => ?_) (fun hb3 h => ?_)
 try simp only [*, go_sem]
 exact jc (true) h.e []
 try simp only [*, go_sem]
 exact jc (p0 == 8) h.e []
 cases h.e
 simp only [*, go_sem, mA, mS]
def part_site_read (p0 : PartSite) (p1 : Message) : Option (Answer) := (Option.bind (part_site_answer p0 p1 5) fun v1 => (if 0 ≤ p0.l then (Option.bind (p0.stores[p0.l.toNat]?) fun x2 => (withK (fun (b4_1 : Int) (b4_2 : Int) (b4_3 : Int) (b4_4 : List Item) (b4_5 : List Lock) (b4_6 : List Doubt) (b4_7 : List Txn) => (Option.bind (part_refusal b4_1) fun v16 => (withK (fun (b17_1 : Int) (b17_2 : Int) (b17_3 : Int) => (some (Answer.mk (Store.mk b4_4 b4_5 b4_6 b4_7) [(Message.mk v1.Kind v1.From v1.To v1.Txn p1.Label p1.Key b17_1 b17_2 p1.Ask v1.Yes b17_3)] [] []))) fun k18 => (if v16 = true then (k18 0 0 b4_1) else (if (b4_1 != 0) = true then (some (Answer.mk (Store.mk b4_4 b4_5 b4_6 b4_7) [] [] [])) else (k18 b4_2 b4_3 v1.Code)))))) fun k5 => (if (p1.Label == p0.l) = true then (withK (Option.bind (store_Read x2 p1.Txn p1.Key) fun v9 => (withK (fun (b10_1 : List Item) (b10_2 : List Lock) (b10_3 : List Doubt) (b10_4 : List Txn) => (k5 v9.2.2.2 v9.2.1 v9.2.2.1 b10_1 b10_2 b10_3 b10_4)) fun k11 => (if (v9.2.2.2 == 0) = true then (k11 v9.1.Items v9.1.Locks v9.1.Doubts v9.1.Over) else (k11 x2.Items x2.Locks x2.Doubts x2.Over)))) fun k8 => k8) else (if 0 ≤ p1.Label then (Option.bind (p0.stores[p1.Label.toNat]?) fun x13 => (Option.bind (store_Peek x13 p1.Key) fun v15 => (k5 v15.2.2 v15.1 v15.2.1 x2.Items x2.Locks x2.Doubts x2.Over))) else none)))) else none))
def F26 : VFn := ⟨87, (.seq (.reg [vo 3 (.boxk 12 (.t 1)), vo 4 (.alloc [(.nl 3), (.nl 6), (.nl 3), (.nl 2), (.nl 12), (.nl 8), (.nl 4)])]) (.seq (.reg [vm 9 0, vl 10 12 3, vo 11 (.call 79 [(.t 9), (.t 10), (ci 5)]), vo 5 (.alloc [(zi 0), (zi 0), (zi 0), (zi 0), (zi 0), (zi 0), (zi 0), (zi 0), (zi 0), (zi 0), (.d (.b false)), (zi 0)]), vu (.st 12 (.t 5) (.t 11))]) (.seq (.draw [vd (vf 12 5 3) 0, vd (vs 13 12) 1, ⟨vf 14 6 3, 0, [], none, [1]⟩, ⟨vs 15 14, 4, [], none, [1]⟩, ⟨vf 16 9 3, 0, [], none, [1]⟩, ⟨vs 17 16, 16, [], none, [1]⟩, vd (vf 18 5 5) 3, ⟨vu (.st 1 (.t 18) (.t 13)), 67, [], (some 1), []⟩, vd (vf 19 6 5) 207, ⟨vu (.st 1 (.t 19) (.t 15)), 463, [], (some 1), []⟩, vd (vf 20 9 5) 1023, vd (vu (.st 1 (.t 20) (.t 17))) 2047]) (.seq (.draw [vd (vm 21 0) 0, vd (vo 22 (.nilchk (.t 21))) 1, vd (vf 23 5 22) 3, vd (vs 24 23) 7, vd (vm 25 0) 0, vd (vo 26 (.nilchk (.t 25))) 16, vd (vf 27 3 26) 48, vd (vs 28 27) 112, vd (xa 29 4 24 28) 255, vd (vl 30 4 29) 511, vd (vo 6 (.alloc [(.nl 3), (.nl 6), (.nl 3), (.nl 2)])) 0, vd (vu (.st 4 (.t 6) (.t 30))) 2047]) (.seq (.reg [mi 7 0]) (.seq (.seq (.draw [vd (vf 31 5 3) 0, vd (vs 32 31) 1, vd (vm 33 0) 0, vd (vo 34 (.nilchk (.t 33))) 4, vd (vf 35 3 34) 12, vd (vs 36 35) 28, vd (bt 37 .eql 32 36) 63]) (.wk (.cond (.t 37) (.seq (.reg [vo 8 (.alloc [(.nl 3), (.nl 6), (.nl 3), (.nl 2)])]) (.seq (.regs [[vl 39 4 6, vf 40 3 3, vl 41 2 40, vf 42 6 3, vs 43 42], [vo 44 (.call 80 [(.t 39), (.t 41), (.t 43)]), vm 38 44, et 45 38 0, et 46 38 1, et 47 38 2, et 48 38 3, vu (.st 4 (.t 8) (.t 45)), vf 49 7 5, vu (.st 1 (.t 49) (.t 46)), vf 50 8 5, vu (.st 1 (.t 50) (.t 47)), vm 7 48]]) (.seq (.reg [vm 51 7, bk 52 .eql 51 0]) (.wk (.cond (.t 52) (.reg [vl 53 4 8, vu (.st 4 (.t 6) (.t 53))]) .skip))))) (.draw [vd (vm 55 0) 0, vd (vo 56 (.nilchk (.t 55))) 1, vd (vf 57 5 56) 3, vd (vs 58 57) 7, vd (vf 59 5 3) 0, vd (vs 60 59) 16, vd (xa 61 4 58 60) 63, vd (vl 62 4 61) 127, vd (vf 63 6 3) 0, vd (vs 64 63) 256, vd (vo 65 (.call 81 [(.t 62), (.t 64)])) 1023, vd (vm 54 65) 2047, vd (et 66 54 0) 4095, vd (et 67 54 1) 4095, vd (et 68 54 2) 4095, vd (vf 69 7 5) 8191, vd (vu (.st 1 (.t 69) (.t 66))) 0x9fff, vd (vf 70 8 5) 0x1bfff, vd (vu (.st 1 (.t 70) (.t 67))) 0x3bfff, vd (vm 7 68) 0x7ffff])))) (.seq (.block 0 (.seq (.reg [vm 72 7, vo 73 (.call 82 [(.t 72)]), vm 71 73]) (.wk (.cond (.t 71) (.reg [vm 74 7, vf 75 11 5, vu (.st 1 (.t 75) (.t 74)), vf 76 7 5, vu (.st 1 (.t 76) (ci 0)), vf 77 8 5, vu (.st 1 (.t 77) (ci 0))]) (.seq (.reg [vm 79 7, bk 80 .neq 79 0, vm 78 80]) (.cond (.t 78) (.seq (.reg [vl 81 4 6, vo 82 (.build [(.nl 3), (.nl 6), (.nl 3), (.nl 2), (.nl 12), (.nl 8), (.nl 4)] [(0, 4, (.t 81))]), vu (.st 7 (.t 4) (.t 82))]) .ret) .skip)))))) (.seq (.reg [vl 83 4 6, vl 84 12 5, vo 85 (.bsl 12 1 [(zi 0), (zi 0), (zi 0), (zi 0), (zi 0), (zi 0), (zi 0), (zi 0), (zi 0), (zi 0), (.d (.b false)), (zi 0)] [(0, (.t 84))]), vo 86 (.build [(.nl 3), (.nl 6), (.nl 3), (.nl 2), (.nl 12), (.nl 8), (.nl 4)] [(0, 4, (.t 83)), (4, 1, (.t 85))]), vu (.st 7 (.t 4) (.t 86))]) .ret)))))))), [.cell 4 true 7]⟩
theorem low26 : lowF Tryd.prog 26 = some F26.strip := by kernel_rfl
theorem fok26 : fOk Tryd.prog 26 = true := by kernel_rfl
theorem part_site_read_ok (p0 : PartSite) (p1 : Message) (r : Answer) (h : part_site_read p0 p1 = some r) : FnRO Tryd.prog G 26 [.one (.d (.k (PartSite.enc p0))), .agg p1.bx] (fun rs => rs = [.agg (r.enc)]) := by
 refine FnRO.fz ?_ rfl
 refine FnRO.of' low26 fok26 (by simp [F26]) ?_
 rw [part_site_read] at h
 replace h := Hd.mk h
 simp only [F26, go_sem]
 try simp only [*, go_sem]
 refine cr h (part_site_answer_ok G p0 p1 5) (fun v1 h => ?_)
 refine obn h (fun x2 _ _ _ _ h => ?_)
 try simp only [*, go_sem]
 refine jn7 h (fun b4_1 b4_2 b4_3 b4_4 b4_5 b4_6 b4_7 => [zP 4 0, zP 5 1, zP 6 2, zI 7 b4_1]) (fun b4_1 b4_2 b4_3 b4_4 b4_5 b4_6 b4_7 => [ox [.nl 3, .nl 6, .nl 3, .nl 2, .nl 12, .nl 8, .nl 4], ox [zi v1.Kind, zi v1.From, zi v1.To, zi v1.Txn.Site, zi v1.Txn.N, zi p1.Label, zi p1.Key, zi b4_2, zi b4_3, zi p1.Ask, .d (.b v1.Yes), zi v1.Code], ox [.d (.l 3 (b4_4.map Item.enc)), .d (.l 6 (b4_5.map Lock.enc)), .d (.l 3 (b4_6.map Doubt.enc)), .d (.l 2 (b4_7.map Txn.enc))]]) (fun k5 h => ?_) (fun b4_1 b4_2 b4_3 b4_4 b4_5 b4_6 b4_7 h => ?_)
 refine oi h (fun hb6 h => ?_) (fun hb6 h => ?_)
 try simp only [*, go_sem]
 refine rg0 h ([zP 4 0, zP 5 1, zP 6 2, zP 8 3, (39, .agg [.d (.l 3 (x2.Items.map Item.enc)), .d (.l 6 (x2.Locks.map Lock.enc)), .d (.l 3 (x2.Doubts.map Doubt.enc)), .d (.l 2 (x2.Over.map Txn.enc))]), (41, .agg [zi p1.Txn.Site, zi p1.Txn.N]), zI 43 p1.Key]) ([ox [.nl 3, .nl 6, .nl 3, .nl 2, .nl 12, .nl 8, .nl 4], ox [zi v1.Kind, zi v1.From, zi v1.To, zi v1.Txn.Site, zi v1.Txn.N, zi p1.Label, zi p1.Key, zi v1.Value, zi v1.Version, zi p1.Ask, .d (.b v1.Yes), zi v1.Code], ox x2.bx, ox [.nl 3, .nl 6, .nl 3, .nl 2]]) (fun k8 h => ?_) (fun h => ?_)
 try simp only [*, go_sem]
 exact jc () h.e [some 0, some 1, some 24, some 33]
 try simp only [*, go_sem]
 refine cr h (store_Read_ok G x2 p1.Txn p1.Key) (fun v9 h => ?_)
 try simp only [*, go_sem]
 refine jn4 h (fun b10_1 b10_2 b10_3 b10_4 => [zP 4 0, zP 5 1, zP 6 2, zI 7 v9.2.2.2]) (fun b10_1 b10_2 b10_3 b10_4 => [ox [.nl 3, .nl 6, .nl 3, .nl 2, .nl 12, .nl 8, .nl 4], ox [zi v1.Kind, zi v1.From, zi v1.To, zi v1.Txn.Site, zi v1.Txn.N, zi p1.Label, zi p1.Key, zi v9.2.1, zi v9.2.2.1, zi p1.Ask, .d (.b v1.Yes), zi v1.Code], ox [.d (.l 3 (b10_1.map Item.enc)), .d (.l 6 (b10_2.map Lock.enc)), .d (.l 3 (b10_3.map Doubt.enc)), .d (.l 2 (b10_4.map Txn.enc))]]) (fun k11 h => ?_) (fun b10_1 b10_2 b10_3 b10_4 h => ?_)
 refine oi h (fun hb12 h => ?_) (fun hb12 h => ?_)
 try simp only [*, go_sem]
 exact jc (v9.1.Items, v9.1.Locks, v9.1.Doubts, v9.1.Over) h.e [some 0, some 1, some 2]
 try simp only [*, go_sem]
 exact jc (x2.Items, x2.Locks, x2.Doubts, x2.Over) h.e [some 0, some 1, some 2]
 try simp only [*, go_sem]
 exact jc (v9.2.2.2, v9.2.1, v9.2.2.1, b10_1, b10_2, b10_3, b10_4) h.e [some 0, some 1, some 2]
 refine obn h (fun x13 _ _ _ _ h => ?_)
 refine obk h (fun v15 hv15 h => ?_)
 try simp only [*, go_sem]
 refine cd (store_Peek_ok G x13 p1.Key v15 hv15) ?_
 try simp only [*, go_sem]
 exact jc (v15.2.2, v15.1, v15.2.1, x2.Items, x2.Locks, x2.Doubts, x2.Over) h.e [some 0, some 1, some 24]
 try simp only [*, go_sem]
 refine cr h (part_refusal_ok G b4_1) (fun v16 h => ?_)
 try simp only [*, go_sem]
 refine jn3 h (fun b17_1 b17_2 b17_3 => [zP 4 0, zP 5 1, zP 6 2]) (fun b17_1 b17_2 b17_3 => [ox [.nl 3, .nl 6, .nl 3, .nl 2, .nl 12, .nl 8, .nl 4], ox [zi v1.Kind, zi v1.From, zi v1.To, zi v1.Txn.Site, zi v1.Txn.N, zi p1.Label, zi p1.Key, zi b17_1, zi b17_2, zi p1.Ask, .d (.b v1.Yes), zi b17_3], ox [.d (.l 3 (b4_4.map Item.enc)), .d (.l 6 (b4_5.map Lock.enc)), .d (.l 3 (b4_6.map Doubt.enc)), .d (.l 2 (b4_7.map Txn.enc))]]) (fun k18 h => ?_) (fun b17_1 b17_2 b17_3 h => ?_)
 refine oi h (fun hb19 h => ?_) (fun hb19 h => ?_)
 try simp only [*, go_sem]
 exact jc (0, 0, b4_1) h.e [some 0, some 1, some 2]
 refine oi h (fun hb20 h => ?_) (fun hb20 h => ?_)
 cases h.e
 simp only [*, go_sem, mA, mS]
 try simp only [*, go_sem]
 exact jc (b4_2, b4_3, v1.Code) h.e [some 0, some 1, some 2]
 cases h.e
 simp only [*, go_sem, mA, mS]
end Go.V.Dec
