/- What Go's functions come to, as plain functions: part 1; no condition. -/
import Derived.Test.YtmplhamakfnjbaaRows
import Derived.Test.YtmplhamakfnjbaaVI
set_option linter.unusedVariables false
set_option linter.unusedSimpArgs false
namespace Go.V.Dec
open Go Go.Proofs
set_option maxRecDepth 100000
set_option maxHeartbeats 4000000
structure Txn where
  Site : Int
  N : Int
  deriving Inhabited
def Txn.enc (x : Txn) : List D := [.i .i64 x.Site, .i .i64 x.N]
def Txn.encO (x : Txn) : List D := [.i .i64 x.Site, .i .i64 x.N]
structure Note where
  Txn : Txn
  Yes : Bool
  Damage : Bool
  deriving Inhabited
def Note.enc (x : Note) : List D := [.i .i64 x.Txn.Site, .i .i64 x.Txn.N, .b x.Yes, .b x.Damage]
def Note.encO (x : Note) : List D := [.i .i64 x.Txn.Site, .i .i64 x.Txn.N, .b x.Yes, .b x.Damage]
structure Label where
  Level : Int
  Cats : Int
  deriving Inhabited
def Label.enc (x : Label) : List D := [.i .i64 x.Level, .i .i64 x.Cats]
def Label.encO (x : Label) : List D := [.i .i64 x.Level, .i .i64 x.Cats]
structure Config where
  Sites : Int
  Labels : List Label
  Patience : Int
  deriving Inhabited
def Config.enc (x : Config) : List D := [.i .i64 x.Sites, .l 2 (x.Labels.map Label.enc), .i .i64 x.Patience]
def Config.encO (x : Config) : List D := [.i .i64 x.Sites, .o 2 (x.Labels.map Label.enc), .i .i64 x.Patience]
structure Item where
  Key : Int
  Value : Int
  Version : Int
  deriving Inhabited
def Item.enc (x : Item) : List D := [.i .i64 x.Key, .i .i64 x.Value, .i .i64 x.Version]
def Item.encO (x : Item) : List D := [.i .i64 x.Key, .i .i64 x.Value, .i .i64 x.Version]
structure Lock where
  Txn : Txn
  Key : Int
  Write : Bool
  Value : Int
  Ask : Int
  deriving Inhabited
def Lock.enc (x : Lock) : List D := [.i .i64 x.Txn.Site, .i .i64 x.Txn.N, .i .i64 x.Key, .b x.Write, .i .i64 x.Value, .i .i64 x.Ask]
def Lock.encO (x : Lock) : List D := [.i .i64 x.Txn.Site, .i .i64 x.Txn.N, .i .i64 x.Key, .b x.Write, .i .i64 x.Value, .i .i64 x.Ask]
structure Doubt where
  Txn : Txn
  Age : Int
  deriving Inhabited
def Doubt.enc (x : Doubt) : List D := [.i .i64 x.Txn.Site, .i .i64 x.Txn.N, .i .i64 x.Age]
def Doubt.encO (x : Doubt) : List D := [.i .i64 x.Txn.Site, .i .i64 x.Txn.N, .i .i64 x.Age]
structure Store where
  Items : List Item
  Locks : List Lock
  Doubts : List Doubt
  Over : List Txn
  deriving Inhabited
def Store.enc (x : Store) : List D := [.l 3 (x.Items.map Item.enc), .l 6 (x.Locks.map Lock.enc), .l 3 (x.Doubts.map Doubt.enc), .l 2 (x.Over.map Txn.enc)]
def Store.encO (x : Store) : List D := [.o 3 (x.Items.map Item.enc), .o 6 (x.Locks.map Lock.enc), .o 3 (x.Doubts.map Doubt.enc), .o 2 (x.Over.map Txn.enc)]
structure Message where
  Kind : Int
  From : Int
  To : Int
  Txn : Txn
  Label : Int
  Key : Int
  Value : Int
  Version : Int
  Ask : Int
  Yes : Bool
  Code : Int
  deriving Inhabited
def Message.enc (x : Message) : List D := [.i .i64 x.Kind, .i .i64 x.From, .i .i64 x.To, .i .i64 x.Txn.Site, .i .i64 x.Txn.N, .i .i64 x.Label, .i .i64 x.Key, .i .i64 x.Value, .i .i64 x.Version, .i .i64 x.Ask, .b x.Yes, .i .i64 x.Code]
def Message.encO (x : Message) : List D := [.i .i64 x.Kind, .i .i64 x.From, .i .i64 x.To, .i .i64 x.Txn.Site, .i .i64 x.Txn.N, .i .i64 x.Label, .i .i64 x.Key, .i .i64 x.Value, .i .i64 x.Version, .i .i64 x.Ask, .b x.Yes, .i .i64 x.Code]
structure Record where
  Kind : Int
  Txn : Txn
  Key : Int
  Value : Int
  Ask : Int
  Yes : Bool
  Sites : List Int
  deriving Inhabited
def Record.enc (x : Record) : List D := [.i .i64 x.Kind, .i .i64 x.Txn.Site, .i .i64 x.Txn.N, .i .i64 x.Key, .i .i64 x.Value, .i .i64 x.Ask, .b x.Yes, .l 1 (x.Sites.map encI)]
def Record.encO (x : Record) : List D := [.i .i64 x.Kind, .i .i64 x.Txn.Site, .i .i64 x.Txn.N, .i .i64 x.Key, .i .i64 x.Value, .i .i64 x.Ask, .b x.Yes, .o 1 (x.Sites.map encI)]
structure Answer where
  Store : Store
  Messages : List Message
  Records : List Record
  Notes : List Note
  deriving Inhabited
def Answer.enc (x : Answer) : List D := [.l 3 (x.Store.Items.map Item.enc), .l 6 (x.Store.Locks.map Lock.enc), .l 3 (x.Store.Doubts.map Doubt.enc), .l 2 (x.Store.Over.map Txn.enc), .l 12 (x.Messages.map Message.enc), .l 8 (x.Records.map Record.enc), .l 4 (x.Notes.map Note.enc)]
def Answer.encO (x : Answer) : List D := [.o 3 (x.Store.Items.map Item.enc), .o 6 (x.Store.Locks.map Lock.enc), .o 3 (x.Store.Doubts.map Doubt.enc), .o 2 (x.Store.Over.map Txn.enc), .o 12 (x.Messages.map Message.enc), .o 8 (x.Records.map Record.enc), .o 4 (x.Notes.map Note.enc)]
structure PartSite where
  c : Config
  l : Int
  me : Int
  stores : List Store
  deriving Inhabited
def PartSite.enc (x : PartSite) : List D := [.i .i64 x.c.Sites, .l 2 (x.c.Labels.map Label.enc), .i .i64 x.c.Patience, .i .i64 x.l, .i .i64 x.me, .l 4 (x.stores.map Store.enc)]
def PartSite.encO (x : PartSite) : List D := [.i .i64 x.c.Sites, .o 2 (x.c.Labels.map Label.enc), .i .i64 x.c.Patience, .i .i64 x.l, .i .i64 x.me, .o 4 (x.stores.map Store.enc)]
def Txn.bx (x : Txn) : List SC := [.d (.i .i64 x.Site), .d (.i .i64 x.N)]
def Note.bx (x : Note) : List SC := [.d (.i .i64 x.Txn.Site), .d (.i .i64 x.Txn.N), .d (.b x.Yes), .d (.b x.Damage)]
def Label.bx (x : Label) : List SC := [.d (.i .i64 x.Level), .d (.i .i64 x.Cats)]
def Config.bx (x : Config) : List SC := [.d (.i .i64 x.Sites), .d (.l 2 (x.Labels.map Label.enc)), .d (.i .i64 x.Patience)]
def Item.bx (x : Item) : List SC := [.d (.i .i64 x.Key), .d (.i .i64 x.Value), .d (.i .i64 x.Version)]
def Lock.bx (x : Lock) : List SC := [.d (.i .i64 x.Txn.Site), .d (.i .i64 x.Txn.N), .d (.i .i64 x.Key), .d (.b x.Write), .d (.i .i64 x.Value), .d (.i .i64 x.Ask)]
def Doubt.bx (x : Doubt) : List SC := [.d (.i .i64 x.Txn.Site), .d (.i .i64 x.Txn.N), .d (.i .i64 x.Age)]
def Store.bx (x : Store) : List SC := [.d (.l 3 (x.Items.map Item.enc)), .d (.l 6 (x.Locks.map Lock.enc)), .d (.l 3 (x.Doubts.map Doubt.enc)), .d (.l 2 (x.Over.map Txn.enc))]
def Message.bx (x : Message) : List SC := [.d (.i .i64 x.Kind), .d (.i .i64 x.From), .d (.i .i64 x.To), .d (.i .i64 x.Txn.Site), .d (.i .i64 x.Txn.N), .d (.i .i64 x.Label), .d (.i .i64 x.Key), .d (.i .i64 x.Value), .d (.i .i64 x.Version), .d (.i .i64 x.Ask), .d (.b x.Yes), .d (.i .i64 x.Code)]
def Record.bx (x : Record) : List SC := [.d (.i .i64 x.Kind), .d (.i .i64 x.Txn.Site), .d (.i .i64 x.Txn.N), .d (.i .i64 x.Key), .d (.i .i64 x.Value), .d (.i .i64 x.Ask), .d (.b x.Yes), .d (.l 1 (x.Sites.map encI))]
def Answer.bx (x : Answer) : List SC := [.d (.l 3 (x.Store.Items.map Item.enc)), .d (.l 6 (x.Store.Locks.map Lock.enc)), .d (.l 3 (x.Store.Doubts.map Doubt.enc)), .d (.l 2 (x.Store.Over.map Txn.enc)), .d (.l 12 (x.Messages.map Message.enc)), .d (.l 8 (x.Records.map Record.enc)), .d (.l 4 (x.Notes.map Note.enc))]
def PartSite.bx (x : PartSite) : List SC := [.d (.i .i64 x.c.Sites), .d (.l 2 (x.c.Labels.map Label.enc)), .d (.i .i64 x.c.Patience), .d (.i .i64 x.l), .d (.i .i64 x.me), .d (.l 4 (x.stores.map Store.enc))]
attribute [go_sem] encI Txn.enc Txn.encO Txn.bx Note.enc Note.encO Note.bx Label.enc Label.encO Label.bx Config.enc Config.encO Config.bx Item.enc Item.encO Item.bx Lock.enc Lock.encO Lock.bx Doubt.enc Doubt.encO Doubt.bx Store.enc Store.encO Store.bx Message.enc Message.encO Message.bx Record.enc Record.encO Record.bx Answer.enc Answer.encO Answer.bx PartSite.enc PartSite.encO PartSite.bx
def reredosref_NotesCopy_L1 (p0 : List Note) (k2 : (List Note) → Option ((List Note))) : Nat → Nat → (List Note) → Option ((List Note))
 | 0, _, _ => none
 | n4 + 1, a3_1, a3_2 => (if (decide (a3_1 < p0.length)) = true then (Option.bind (p0[a3_1]?) fun x7 => (if fits 24 (a3_2.length + 1) then (reredosref_NotesCopy_L1 p0 k2 n4 (a3_1 + 1) (a3_2 ++ [x7])) else none)) else (k2 a3_2))
def reredosref_NotesCopy (p0 : List Note) : Option ((List Note)) := (withK (fun (b1_1 : List Note) => (some b1_1)) fun k2 => (reredosref_NotesCopy_L1 p0 k2 (p0.length + 1) 0 []))
def F9 : VFn := ⟨19, (.seq (.reg [vo 2 (.mv (.c (.one (.nl 4))))]) (.seq (.reg [vo 3 (.mv (.c (.one (.nl 4))))]) (.seq (.seq (.reg [vo 4 (.mv (ci 0))]) (.wk (.block 0 (.loop (.seq (.seq (.reg [vm 5 4, vm 6 0, vo 7 (.len (.t 6)), vo 8 (.bin .i .lss (.t 5) (.t 7))]) (.cond (.t 8) .skip (.exit 0))) (.seq (.block 1 (.reg [vm 11 3, vm 12 0, vm 13 4, vo 14 (.ia 4 (.t 12) (.t 13)), vo 15 (.ld true 4 (.t 14)), vo 16 (.bsl 4 1 [(zi 0), (zi 0), (.d (.b false)), (.d (.b false))] [(0, (.t 15))]), vo 17 (.app 4 24 (.t 11) (.t 16)), vm 3 17])) (.reg [vm 9 4, vo 10 (.bin .i .add (.t 9) (ci 1)), vm 4 10]))))))) (.seq (.reg [vm 18 3, vm 2 18]) .ret)))), [.t 2]⟩
theorem low9 : lowF Try.prog 9 = some F9.strip := by kernel_rfl
theorem fok9 : fOk Try.prog 9 = true := by kernel_rfl
theorem reredosref_NotesCopy_ok (G : Nat → Option (List D)) (p0 : List Note) (r : (List Note)) (h : reredosref_NotesCopy p0 = some r) : FnRO Try.prog G 9 [.one (.d (.l 4 (p0.map Note.enc)))] (fun rs => rs = [.one (.o 4 (r.map Note.enc))]) := by
 refine FnRO.of' low9 fok9 (by simp [F9]) ?_
 rw [reredosref_NotesCopy] at h
 simp only [F9, go_sem]
 obtain ⟨k2, hk2, h⟩ := withK_lk1 h
 try simp only [go_sem]
 refine join_lk Try.prog G _ _ (B := (List Note)) (fun b => k2 b = some r) (fun b => [(3, .one (.r 0 0 b.length))]) (fun b => [some (.arr 4 (b.map Note.enc) false)]) ?_ (fun b1_1 h => ?_)
 ·try simp only [go_sem]
  refine loop_lk Try.prog G _ _ (A := Nat × (List Note)) (fun n a => reredosref_NotesCopy_L1 p0 k2 n a.1 a.2 = some r) (fun a => [(0, .one (.d (.l 4 (p0.map Note.enc)))), (3, .one (.r 0 0 a.2.length)), (4, .one (.d (.i .i64 ((a.1 : Nat) : Int))))]) (fun a => [some (.arr 4 (a.2.map Note.enc) false)]) (p0.length + 1) (0, []) h (wk_c _ _ _ [none] rfl (by simp only [go_sem, List.map_append, List.map_cons, List.map_nil, Option.some.injEq, Prod.mk.injEq, SC.d.injEq, D.l.injEq, List.map_set])) (fun a h => by simp only [reredosref_NotesCopy_L1, reduceCtorEq] at h) ?_
  intro n4 a h
  obtain ⟨a3_1, a3_2⟩ := a
  try dsimp only at h
  rw [reredosref_NotesCopy_L1] at h
  try simp only [go_sem]
  intro hl5
  rcases of_if h with ⟨hb6, h⟩ | ⟨hb6, h⟩
  ·have hkhb6 := of_decide_eq_true hb6
   obtain ⟨x7, hx7, h⟩ := obi h
   have hkx7 := gtx hx7
   try simp only [List.length_take, List.length_drop, List.length_append, List.length_set, List.length_map, List.length_cons, List.length_nil, Nat.zero_add] at hkx7
   obtain ⟨hf8, h⟩ := of_chk h
   have hw9 := wrap_succ_max hkx7 hl5
   try simp only [hb6, hkhb6, hx7, hkx7, hf8, hw9, go_sem]
   exact loopQ_c (a3_1 + 1, (a3_2 ++ [x7])) h [some 2] rfl (by simp only [hb6, hkhb6, hx7, hkx7, hf8, hw9, go_sem, List.map_append, List.map_cons, List.map_nil, Option.some.injEq, Prod.mk.injEq, SC.d.injEq, D.l.injEq, List.map_set])
  ·try simp only [hb6, go_sem]
   exact joinQ_c (a3_2) h [some 0] rfl (by simp only [hb6, go_sem, List.map_append, List.map_cons, List.map_nil, Option.some.injEq, Prod.mk.injEq, SC.d.injEq, D.l.injEq, List.map_set])
 ·try dsimp only at h
  rw [hk2] at h
  simp only [Option.some.injEq] at h
  subst h
  try simp only [go_sem, List.map_append, List.map_cons, List.map_nil, List.map_set]
def label_one (p0 : Label) : Option (Bool) := (withK (fun (b1_1 : Bool) => (some b1_1)) fun k2 => (if (decide (p0.Level ≥ 0)) = true then (if (decide (p0.Level ≤ 9)) = true then (if (decide (p0.Cats ≥ 0)) = true then (k2 (decide (p0.Cats ≤ 15))) else (k2 false)) else (k2 false)) else (k2 false)))
def F50 : VFn := ⟨21, (.seq (.reg [vo 1 (.boxk 2 (.t 0)), vo 2 (.mv (cb false))]) (.seq (.wk (.reg [vo 3 (.fa 0 (.t 1)), vo 4 (.ld false 1 (.t 3)), vo 5 (.bin .i .geq (.t 4) (ci 0)), vm 6 5, ⟨(some 7), .fa 0 (.t 1), (some (6, true))⟩, ⟨(some 8), .ld false 1 (.t 7), (some (6, true))⟩, ⟨(some 9), .bin .i .leq (.t 8) (ci 9), (some (6, true))⟩, vo 10 (.pick (.t 6) (.t 9) (cb false)), vm 11 10, ⟨(some 12), .fa 1 (.t 1), (some (11, true))⟩, ⟨(some 13), .ld false 1 (.t 12), (some (11, true))⟩, ⟨(some 14), .bin .i .geq (.t 13) (ci 0), (some (11, true))⟩, vo 15 (.pick (.t 11) (.t 14) (cb false)), vm 16 15, ⟨(some 17), .fa 1 (.t 1), (some (16, true))⟩, ⟨(some 18), .ld false 1 (.t 17), (some (16, true))⟩, ⟨(some 19), .bin .i .leq (.t 18) (ci 15), (some (16, true))⟩, vo 20 (.pick (.t 16) (.t 19) (cb false)), vm 2 20])) .ret)), [.t 2]⟩
theorem low50 : lowF Try.prog 50 = some F50.strip := by kernel_rfl
theorem fok50 : fOk Try.prog 50 = true := by kernel_rfl
theorem label_one_ok (G : Nat → Option (List D)) (p0 : Label) (r : Bool) (h : label_one p0 = some r) : FnRO Try.prog G 50 [.agg [.d (.i .i64 p0.Level), .d (.i .i64 p0.Cats)]] (fun rs => rs = [.one (.b r)]) := by
 refine FnRO.of' low50 fok50 (by simp [F50]) ?_
 rw [label_one] at h
 simp only [F50, go_sem]
 obtain ⟨k2, hk2, h⟩ := withK_lk1 h
 try simp only [go_sem]
 refine join_lk Try.prog G _ _ (B := Bool) (fun b => k2 b = some r) (fun b => [(2, .one (.d (.b b)))]) (fun b => []) ?_ (fun b1_1 h => ?_)
 ·rcases of_if h with ⟨hb3, h⟩ | ⟨hb3, h⟩
  ·rcases of_if h with ⟨hb4, h⟩ | ⟨hb4, h⟩
   ·rcases of_if h with ⟨hb5, h⟩ | ⟨hb5, h⟩
    ·try simp only [hb3, hb4, hb5, go_sem]
     exact joinQ_c (decide (p0.Cats ≤ 15)) h [] rfl (by simp only [hb3, hb4, hb5, go_sem, List.map_append, List.map_cons, List.map_nil, Option.some.injEq, Prod.mk.injEq, SC.d.injEq, D.l.injEq, List.map_set])
    ·try simp only [hb3, hb4, hb5, go_sem]
     exact joinQ_c (false) h [] rfl (by simp only [hb3, hb4, hb5, go_sem, List.map_append, List.map_cons, List.map_nil, Option.some.injEq, Prod.mk.injEq, SC.d.injEq, D.l.injEq, List.map_set])
   ·try simp only [hb3, hb4, go_sem]
    exact joinQ_c (false) h [] rfl (by simp only [hb3, hb4, go_sem, List.map_append, List.map_cons, List.map_nil, Option.some.injEq, Prod.mk.injEq, SC.d.injEq, D.l.injEq, List.map_set])
  ·try simp only [hb3, go_sem]
   exact joinQ_c (false) h [] rfl (by simp only [hb3, go_sem, List.map_append, List.map_cons, List.map_nil, Option.some.injEq, Prod.mk.injEq, SC.d.injEq, D.l.injEq, List.map_set])
 ·try dsimp only at h
  rw [hk2] at h
  simp only [Option.some.injEq] at h
  subst h
  try simp only [go_sem, List.map_append, List.map_cons, List.map_nil, List.map_set]
def label_Check_L2 (p0 : Config) (a10_1 : Nat) (x13 : Label) (k19 : Option (Int)) : Nat → Nat → Option (Int)
 | 0, _ => none
 | n21 + 1, a20_1 => (if (decide (a20_1 < min a10_1 p0.Labels.length)) = true then (Option.bind ((p0.Labels.take a10_1)[a20_1]?) fun x23 => (if ((x23.Level == x13.Level) && (x23.Cats == x13.Cats)) = true then (some 7) else (label_Check_L2 p0 a10_1 x13 k19 n21 (a20_1 + 1)))) else k19)
def label_Check_L1 (p0 : Config) (k9 : Option (Int)) : Nat → Nat → Option (Int)
 | 0, _ => none
 | n11 + 1, a10_1 => (if (decide (a10_1 < p0.Labels.length)) = true then (Option.bind (p0.Labels[a10_1]?) fun x13 => (Option.bind (label_one x13) fun v14 => (if (!v14) = true then (some 2) else (withK (label_Check_L1 p0 k9 n11 (a10_1 + 1)) fun k19 => (label_Check_L2 p0 a10_1 x13 k19 (min a10_1 p0.Labels.length + 1) 0))))) else k9)
def label_Check (p0 : Config) : Option (Int) := (if (decide (p0.Sites < 1)) = true then (some 2) else (if (decide (p0.Sites > 4)) = true then (some 2) else (if (decide (((p0.Labels.length : Nat) : Int) < 1)) = true then (some 1) else (if (decide (((p0.Labels.length : Nat) : Int) > 6)) = true then (some 1) else (withK (if (decide (p0.Patience < 1)) = true then (some 2) else (if (decide (p0.Patience > 1048576)) = true then (some 2) else (some 0))) fun k9 => (label_Check_L1 p0 k9 (p0.Labels.length + 1) 0))))))
def F25 : VFn := ⟨58, (.seq (.reg [vo 1 (.boxk 3 (.t 0)), vo 2 (.mv (ci 0))]) (.seq (.seq (.reg [vo 7 (.fa 0 (.t 1)), vo 8 (.ld false 1 (.t 7)), vo 9 (.bin .i .lss (.t 8) (ci 1)), vm 10 9, ⟨(some 11), .fa 0 (.t 1), (some (10, false))⟩, ⟨(some 12), .ld false 1 (.t 11), (some (10, false))⟩, ⟨(some 13), .bin .i .gtr (.t 12) (ci 4), (some (10, false))⟩, vo 14 (.pick (.t 10) (cb true) (.t 13))]) (.cond (.t 14) (.seq (.reg [vo 2 (.mv (ci 2))]) .ret) .skip)) (.seq (.seq (.reg [vo 15 (.fa 1 (.t 1)), vo 16 (.ld false 1 (.t 15)), vo 17 (.len (.t 16)), vo 18 (.bin .i .lss (.t 17) (ci 1)), vm 19 18, ⟨(some 20), .fa 1 (.t 1), (some (19, false))⟩, ⟨(some 21), .ld false 1 (.t 20), (some (19, false))⟩, ⟨(some 22), .len (.t 21), (some (19, false))⟩, ⟨(some 23), .bin .i .gtr (.t 22) (ci 6), (some (19, false))⟩, vo 24 (.pick (.t 19) (cb true) (.t 23))]) (.cond (.t 24) (.seq (.reg [vo 2 (.mv (ci 1))]) .ret) .skip)) (.seq (.seq (.reg [vo 25 (.fa 1 (.t 1)), vo 26 (.ld false 1 (.t 25)), vo 27 (.len (.t 26)), vo 28 (.mv (ci 0))]) (.wk (.block 0 (.loop (.seq (.reg [vo 29 (.bin .i .lss (.t 28) (.t 27))]) (.seq (.cond (.t 29) .skip (.exit 0)) (.seq (.block 1 (.seq (.reg [vm 30 28, vo 31 (.ia 2 (.t 26) (.t 28)), vo 32 (.ld true 2 (.t 31)), vo 4 (.alloc [(zi 0), (zi 0)]), vm 3 30, vu (.st 2 (.t 4) (.t 32))]) (.seq (.seq (.reg [vo 33 (.ld true 2 (.t 4)), vo 34 (.call 50 [(.t 33)]), vo 35 (.un .not (.t 34))]) (.cond (.t 35) (.seq (.reg [vo 2 (.mv (ci 2))]) .ret) .skip)) (.seq (.reg [vo 36 (.fa 1 (.t 1)), vo 37 (.ld false 1 (.t 36)), vm 38 3, vo 39 (.sl 2 (.t 37) none (some (.t 38))), vo 40 (.len (.t 39)), vo 41 (.mv (ci 0))]) (.wk (.block 2 (.loop (.seq (.reg [vo 42 (.bin .i .lss (.t 41) (.t 40))]) (.seq (.cond (.t 42) .skip (.exit 2)) (.seq (.block 3 (.seq (.reg [vo 43 (.ia 2 (.t 39) (.t 41)), vo 44 (.ld true 2 (.t 43)), vo 6 (.alloc [(zi 0), (zi 0)]), vu (.st 2 (.t 6) (.t 44))]) (.seq (.reg [vo 45 (.ld true 2 (.t 6)), vo 46 (.ld true 2 (.t 4)), vo 47 (.eqs false [.i, .i] (.t 45) (.t 46))]) (.cond (.t 47) (.seq (.reg [vo 2 (.mv (ci 7))]) .ret) .skip)))) (.reg [vo 48 (.bin .i .add (.t 41) (ci 1)), vm 41 48]))))))))))) (.reg [vo 49 (.bin .i .add (.t 28) (ci 1)), vm 28 49])))))))) (.seq (.seq (.reg [vo 50 (.fa 2 (.t 1)), vo 51 (.ld false 1 (.t 50)), vo 52 (.bin .i .lss (.t 51) (ci 1)), vm 53 52, ⟨(some 54), .fa 2 (.t 1), (some (53, false))⟩, ⟨(some 55), .ld false 1 (.t 54), (some (53, false))⟩, ⟨(some 56), .bin .i .gtr (.t 55) (ci 1048576), (some (53, false))⟩, vo 57 (.pick (.t 53) (cb true) (.t 56))]) (.cond (.t 57) (.seq (.reg [vo 2 (.mv (ci 2))]) .ret) .skip)) (.seq (.reg [vo 2 (.mv (ci 0))]) .ret)))))), [.t 2]⟩
theorem low25 : lowF Try.prog 25 = some F25.strip := by kernel_rfl
theorem fok25 : fOk Try.prog 25 = true := by kernel_rfl
theorem label_Check_ok (G : Nat → Option (List D)) (p0 : Config) (r : Int) (h : label_Check p0 = some r) : FnRO Try.prog G 25 [.agg [.d (.i .i64 p0.Sites), .d (.l 2 (p0.Labels.map Label.enc)), .d (.i .i64 p0.Patience)]] (fun rs => rs = [.one (.i .i64 r)]) := by
 refine FnRO.of' low25 fok25 (by simp [F25]) ?_
 rw [label_Check] at h
 simp only [F25, go_sem]
 rcases of_if h with ⟨hb1, h⟩ | ⟨hb1, h⟩
 ·have hkhb1 := of_decide_eq_true hb1
  simp only [Option.some.injEq] at h
  subst h
  try simp only [hb1, hkhb1, go_sem, List.map_append, List.map_cons, List.map_nil, List.map_set]
 ·rcases of_if h with ⟨hb2, h⟩ | ⟨hb2, h⟩
  ·simp only [Option.some.injEq] at h
   subst h
   try simp only [hb1, hb2, go_sem, List.map_append, List.map_cons, List.map_nil, List.map_set]
  ·try simp only [hb1, hb2, go_sem]
   intro hl3
   rcases of_if h with ⟨hb4, h⟩ | ⟨hb4, h⟩
   ·simp only [Option.some.injEq] at h
    subst h
    try simp only [hb1, hb2, hb4, go_sem, List.map_append, List.map_cons, List.map_nil, List.map_set]
   ·try simp only [hb1, hb2, hb4, go_sem]
    intro hl5
    rcases of_if h with ⟨hb6, h⟩ | ⟨hb6, h⟩
    ·simp only [Option.some.injEq] at h
     subst h
     try simp only [hb1, hb2, hb4, hb6, go_sem, List.map_append, List.map_cons, List.map_nil, List.map_set]
    ·try simp only [hb1, hb2, hb4, hb6, go_sem]
     intro hl7
     obtain ⟨k9, hk9, h⟩ := withK_lk0 h
     try simp only [hb1, hb2, hb4, hb6, go_sem]
     refine join_lk Try.prog G _ _ (B := Unit) (fun b => k9 = some r) (fun b => [(1, .one (.d (.k (Config.enc p0))))]) (fun b => []) ?_ (fun b h => ?_)
     ·try simp only [hb1, hb2, hb4, hb6, go_sem]
      refine loop_lk Try.prog G _ _ (A := Nat) (fun n a => label_Check_L1 p0 k9 n a = some r) (fun a => [(1, .one (.d (.k (Config.enc p0)))), (26, .one (.d (.l 2 (p0.Labels.map Label.enc)))), (27, .one (.d (.i .i64 ((p0.Labels.length : Nat) : Int)))), (28, .one (.d (.i .i64 ((a : Nat) : Int))))]) (fun a => []) (p0.Labels.length + 1) (0) h (wk_c _ _ _ [] rfl (by simp only [hb1, hb2, hb4, hb6, go_sem, List.map_append, List.map_cons, List.map_nil, Option.some.injEq, Prod.mk.injEq, SC.d.injEq, D.l.injEq, List.map_set])) (fun a h => by simp only [label_Check_L1, reduceCtorEq] at h) ?_
      intro n11 a10_1 h
      try dsimp only at h
      rw [label_Check_L1] at h
      rcases of_if h with ⟨hb12, h⟩ | ⟨hb12, h⟩
      ·have hkhb12 := of_decide_eq_true hb12
       obtain ⟨x13, hx13, h⟩ := obi h
       have hkx13 := gtx hx13
       try simp only [List.length_take, List.length_drop, List.length_append, List.length_set, List.length_map, List.length_cons, List.length_nil, Nat.zero_add] at hkx13
       obtain ⟨v14, hv14, h⟩ := obi h
       try simp only [hb12, hkhb12, hx13, hkx13, go_sem]
       refine CallV.ro false (label_one_ok G x13 v14 hv14) rfl ?_
       rintro rs rfl
       refine ⟨.inl rfl, ?_⟩
       rcases of_if h with ⟨hb15, h⟩ | ⟨hb15, h⟩
       ·have hkhb15 := not_eq_t hb15
        simp only [Option.some.injEq] at h
        subst h
        try simp only [hb12, hkhb12, hx13, hkx13, hb15, hkhb15, go_sem, List.map_append, List.map_cons, List.map_nil, List.map_set]
       ·have hkhb15 := not_eq_f hb15
        have hle16 := Nat.le_of_lt hkx13
        try simp only [hb12, hkhb12, hx13, hkx13, hb15, hkhb15, hle16, go_sem]
        intro hl17
        obtain ⟨k19, hk19, h⟩ := withK_lk0 h
        try simp only [hb12, hkhb12, hx13, hkx13, hb15, hkhb15, hle16, go_sem]
        refine join_lk Try.prog G _ _ (B := Unit) (fun b => k19 = some r) (fun b => [(1, .one (.d (.k (Config.enc p0)))), (26, .one (.d (.l 2 (p0.Labels.map Label.enc)))), (27, .one (.d (.i .i64 ((p0.Labels.length : Nat) : Int)))), (28, .one (.d (.i .i64 ((a10_1 : Nat) : Int))))]) (fun b => []) ?_ (fun b h => ?_)
        ·try simp only [hb12, hkhb12, hx13, hkx13, hb15, hkhb15, hle16, go_sem]
         refine loop_lk Try.prog G _ _ (A := Nat) (fun n a => label_Check_L2 p0 a10_1 x13 k19 n a = some r) (fun a => [(1, .one (.d (.k (Config.enc p0)))), (4, .one (.p (.q 0 0 0))), (26, .one (.d (.l 2 (p0.Labels.map Label.enc)))), (27, .one (.d (.i .i64 ((p0.Labels.length : Nat) : Int)))), (28, .one (.d (.i .i64 ((a10_1 : Nat) : Int)))), (39, .one (.d (.l 2 ((p0.Labels.take a10_1).map Label.enc)))), (40, .one (.d (.i .i64 ((min a10_1 p0.Labels.length : Nat) : Int)))), (41, .one (.d (.i .i64 ((a : Nat) : Int))))]) (fun a => [some (.box x13.bx)]) (min a10_1 p0.Labels.length + 1) (0) h (wk_c _ _ _ [some 0] rfl (by simp only [hb12, hkhb12, hx13, hkx13, hb15, hkhb15, hle16, go_sem, List.map_append, List.map_cons, List.map_nil, Option.some.injEq, Prod.mk.injEq, SC.d.injEq, D.l.injEq, List.map_set])) (fun a h => by simp only [label_Check_L2, reduceCtorEq] at h) ?_
         intro n21 a20_1 h
         try dsimp only at h
         rw [label_Check_L2] at h
         rcases of_if h with ⟨hb22, h⟩ | ⟨hb22, h⟩
         ·obtain ⟨x23, hx23, h⟩ := obi h
          have hkx23 := gtx hx23
          try simp only [List.length_take, List.length_drop, List.length_append, List.length_set, List.length_map, List.length_cons, List.length_nil, Nat.zero_add] at hkx23
          rcases of_if h with ⟨hb24, h⟩ | ⟨hb24, h⟩
          ·try simp only [hkhb12, hx13, hkx13, hkhb15, hle16, hb22, hx23, hkx23, hb24, go_sem]
           simp only [Option.some.injEq] at h
           subst h
           try simp only [hkhb12, hx13, hkx13, hkhb15, hle16, hb22, hx23, hkx23, hb24, go_sem, List.map_append, List.map_cons, List.map_nil, List.map_set]
          ·try simp only [hkhb12, hx13, hkx13, hkhb15, hle16, hb22, hx23, hkx23, hb24, go_sem]
           have hw25 := wrap_succ_max hkx23 hl17
           try simp only [hkhb12, hx13, hkx13, hkhb15, hle16, hb22, hx23, hkx23, hb24, hw25, go_sem]
           exact loopQ_c (a20_1 + 1) h [some 0] rfl (by simp only [hkhb12, hx13, hkx13, hkhb15, hle16, hb22, hx23, hkx23, hb24, hw25, go_sem, List.map_append, List.map_cons, List.map_nil, Option.some.injEq, Prod.mk.injEq, SC.d.injEq, D.l.injEq, List.map_set])
         ·try simp only [hkhb12, hx13, hkx13, hkhb15, hle16, hb22, go_sem]
          exact joinQ_c () h [] rfl (by simp only [hkhb12, hx13, hkx13, hkhb15, hle16, hb22, go_sem, List.map_append, List.map_cons, List.map_nil, Option.some.injEq, Prod.mk.injEq, SC.d.injEq, D.l.injEq, List.map_set])
        ·try dsimp only at h
         rw [hk19] at h
         have hw26 := wrap_succ_max hkx13 hl7
         try simp only [hkhb12, hx13, hkx13, hkhb15, hle16, hw26, go_sem]
         exact loopQ_c (a10_1 + 1) h [] rfl (by simp only [hkhb12, hx13, hkx13, hkhb15, hle16, hw26, go_sem, List.map_append, List.map_cons, List.map_nil, Option.some.injEq, Prod.mk.injEq, SC.d.injEq, D.l.injEq, List.map_set])
      ·try simp only [hb12, go_sem]
       exact joinQ_c () h [] rfl (by simp only [hb12, go_sem, List.map_append, List.map_cons, List.map_nil, Option.some.injEq, Prod.mk.injEq, SC.d.injEq, D.l.injEq, List.map_set])
     ·try dsimp only at h
      rw [hk9] at h
      rcases of_if h with ⟨hb27, h⟩ | ⟨hb27, h⟩
      ·have hkhb27 := of_decide_eq_true hb27
       simp only [Option.some.injEq] at h
       subst h
       try simp only [hb27, hkhb27, go_sem, List.map_append, List.map_cons, List.map_nil, List.map_set]
      ·rcases of_if h with ⟨hb28, h⟩ | ⟨hb28, h⟩
       ·simp only [Option.some.injEq] at h
        subst h
        try simp only [hb27, hb28, go_sem, List.map_append, List.map_cons, List.map_nil, List.map_set]
       ·simp only [Option.some.injEq] at h
        subst h
        try simp only [hb27, hb28, go_sem, List.map_append, List.map_cons, List.map_nil, List.map_set]
def store_items_L1 (p0 : List Item) (k3 : Option (Bool)) : Nat → Nat → Option (Bool)
 | 0, _ => none
 | n5 + 1, a4_1 => (if (decide (a4_1 < p0.length)) = true then (Option.bind (p0[a4_1]?) fun x7 => (if (decide (x7.Key < 0)) = true then (some false) else (if (decide (x7.Key ≥ 8)) = true then (some false) else (if (decide (x7.Value < 0)) = true then (some false) else (if (decide (x7.Value > 1073741824)) = true then (some false) else (if (decide (x7.Version < 1)) = true then (some false) else (if (decide (x7.Version > 1048576)) = true then (some false) else (if (decide (((a4_1 : Nat) : Int) > 0)) = true then (if 0 ≤ IntKind.i64.wrap (((a4_1 : Nat) : Int) - 1) then (Option.bind (p0[(IntKind.i64.wrap (((a4_1 : Nat) : Int) - 1)).toNat]?) fun x15 => (if (decide (x15.Key ≥ x7.Key)) = true then (some false) else (store_items_L1 p0 k3 n5 (a4_1 + 1)))) else none) else (store_items_L1 p0 k3 n5 (a4_1 + 1)))))))))) else k3)
def store_items (p0 : List Item) : Option (Bool) := (withK (some true) fun k3 => (store_items_L1 p0 k3 (p0.length + 1) 0))
def F51 : VFn := ⟨54, (.seq (.reg [vo 2 (.mv (cb false))]) (.seq (.seq (.reg [vm 5 0, vo 6 (.len (.t 5)), vo 7 (.mv (ci 0))]) (.wk (.block 0 (.loop (.seq (.reg [vo 8 (.bin .i .lss (.t 7) (.t 6))]) (.seq (.cond (.t 8) .skip (.exit 0)) (.seq (.block 1 (.seq (.reg [vm 9 7, vo 10 (.ia 3 (.t 5) (.t 7)), vo 11 (.ld true 3 (.t 10)), vo 4 (.alloc [(zi 0), (zi 0), (zi 0)]), vm 3 9, vu (.st 3 (.t 4) (.t 11))]) (.seq (.seq (.reg [vo 12 (.fa 0 (.t 4)), vo 13 (.ld false 1 (.t 12)), vo 14 (.bin .i .lss (.t 13) (ci 0)), vm 15 14, ⟨(some 16), .fa 0 (.t 4), (some (15, false))⟩, ⟨(some 17), .ld false 1 (.t 16), (some (15, false))⟩, ⟨(some 18), .bin .i .geq (.t 17) (ci 8), (some (15, false))⟩, vo 19 (.pick (.t 15) (cb true) (.t 18)), vm 20 19, ⟨(some 21), .fa 1 (.t 4), (some (20, false))⟩, ⟨(some 22), .ld false 1 (.t 21), (some (20, false))⟩, ⟨(some 23), .bin .i .lss (.t 22) (ci 0), (some (20, false))⟩, vo 24 (.pick (.t 20) (cb true) (.t 23)), vm 25 24, ⟨(some 26), .fa 1 (.t 4), (some (25, false))⟩, ⟨(some 27), .ld false 1 (.t 26), (some (25, false))⟩, ⟨(some 28), .bin .i .gtr (.t 27) (ci 1073741824), (some (25, false))⟩, vo 29 (.pick (.t 25) (cb true) (.t 28)), vm 30 29, ⟨(some 31), .fa 2 (.t 4), (some (30, false))⟩, ⟨(some 32), .ld false 1 (.t 31), (some (30, false))⟩, ⟨(some 33), .bin .i .lss (.t 32) (ci 1), (some (30, false))⟩, vo 34 (.pick (.t 30) (cb true) (.t 33)), vm 35 34, ⟨(some 36), .fa 2 (.t 4), (some (35, false))⟩, ⟨(some 37), .ld false 1 (.t 36), (some (35, false))⟩, ⟨(some 38), .bin .i .gtr (.t 37) (ci 1048576), (some (35, false))⟩, vo 39 (.pick (.t 35) (cb true) (.t 38))]) (.cond (.t 39) (.seq (.reg [vo 2 (.mv (cb false))]) .ret) .skip)) (.seq (.draw [vd (vm 40 3) [], vd (vo 41 (.bin .i .gtr (.t 40) (ci 0))) [0], vd (vm 42 41) [1, 0], vd (⟨(some 43), .mv (.t 0), (some (42, true))⟩) [2, 1, 0], vd (⟨(some 44), .mv (.t 3), (some (42, true))⟩) [2, 1, 0], vd (⟨(some 45), .bin .i .sub (.t 44) (ci 1), (some (42, true))⟩) [4, 2, 1, 0], vd (⟨(some 46), .ia 3 (.t 43) (.t 45), (some (42, true))⟩) [3, 2, 1, 0, 5, 4], vd (⟨(some 47), .fa 0 (.t 46), (some (42, true))⟩) [6, 3, 2, 1, 0, 5, 4], vd (⟨(some 48), .ld false 1 (.t 47), (some (42, true))⟩) [7, 6, 3, 2, 1, 0, 5, 4], vd (⟨(some 49), .fa 0 (.t 4), (some (42, true))⟩) [2, 1, 0], vd (⟨(some 50), .ld false 1 (.t 49), (some (42, true))⟩) [9, 2, 1, 0], vd (⟨(some 51), .bin .i .geq (.t 48) (.t 50), (some (42, true))⟩) [8, 7, 6, 3, 2, 1, 0, 5, 4, 10, 9], vd (vo 52 (.pick (.t 42) (.t 51) (cb false))) [2, 1, 0, 11, 8, 7, 6, 3, 5, 4, 10, 9]]) (.cond (.t 52) (.seq (.reg [vo 2 (.mv (cb false))]) .ret) .skip))))) (.reg [vo 53 (.bin .i .add (.t 7) (ci 1)), vm 7 53])))))))) (.seq (.reg [vo 2 (.mv (cb true))]) .ret))), [.t 2]⟩
theorem low51 : lowF Try.prog 51 = some F51.strip := by kernel_rfl
theorem fok51 : fOk Try.prog 51 = true := by kernel_rfl
theorem store_items_ok (G : Nat → Option (List D)) (p0 : List Item) (r : Bool) (h : store_items p0 = some r) : FnRO Try.prog G 51 [.one (.d (.l 3 (p0.map Item.enc)))] (fun rs => rs = [.one (.b r)]) := by
 refine FnRO.of' low51 fok51 (by simp [F51]) ?_
 rw [store_items] at h
 simp only [F51, go_sem]
 try simp only [go_sem]
 intro hl1
 obtain ⟨k3, hk3, h⟩ := withK_lk0 h
 try simp only [go_sem]
 refine join_lk Try.prog G _ _ (B := Unit) (fun b => k3 = some r) (fun b => []) (fun b => []) ?_ (fun b h => ?_)
 ·try simp only [go_sem]
  refine loop_lk Try.prog G _ _ (A := Nat) (fun n a => store_items_L1 p0 k3 n a = some r) (fun a => [(0, .one (.d (.l 3 (p0.map Item.enc)))), (5, .one (.d (.l 3 (p0.map Item.enc)))), (6, .one (.d (.i .i64 ((p0.length : Nat) : Int)))), (7, .one (.d (.i .i64 ((a : Nat) : Int))))]) (fun a => []) (p0.length + 1) (0) h (wk_c _ _ _ [] rfl (by simp only [go_sem, List.map_append, List.map_cons, List.map_nil, Option.some.injEq, Prod.mk.injEq, SC.d.injEq, D.l.injEq, List.map_set])) (fun a h => by simp only [store_items_L1, reduceCtorEq] at h) ?_
  intro n5 a4_1 h
  try dsimp only at h
  rw [store_items_L1] at h
  rcases of_if h with ⟨hb6, h⟩ | ⟨hb6, h⟩
  ·have hkhb6 := of_decide_eq_true hb6
   obtain ⟨x7, hx7, h⟩ := obi h
   have hkx7 := gtx hx7
   try simp only [List.length_take, List.length_drop, List.length_append, List.length_set, List.length_map, List.length_cons, List.length_nil, Nat.zero_add] at hkx7
   rcases of_if h with ⟨hb8, h⟩ | ⟨hb8, h⟩
   ·have hkhb8 := of_decide_eq_true hb8
    simp only [Option.some.injEq] at h
    subst h
    try simp only [hb6, hkhb6, hx7, hkx7, hb8, hkhb8, go_sem, List.map_append, List.map_cons, List.map_nil, List.map_set]
   ·rcases of_if h with ⟨hb9, h⟩ | ⟨hb9, h⟩
    ·simp only [Option.some.injEq] at h
     subst h
     try simp only [hb6, hkhb6, hx7, hkx7, hb8, hb9, go_sem, List.map_append, List.map_cons, List.map_nil, List.map_set]
    ·rcases of_if h with ⟨hb10, h⟩ | ⟨hb10, h⟩
     ·have hkhb10 := of_decide_eq_true hb10
      simp only [Option.some.injEq] at h
      subst h
      try simp only [hb6, hkhb6, hx7, hkx7, hb8, hb9, hb10, hkhb10, go_sem, List.map_append, List.map_cons, List.map_nil, List.map_set]
     ·rcases of_if h with ⟨hb11, h⟩ | ⟨hb11, h⟩
      ·simp only [Option.some.injEq] at h
       subst h
       try simp only [hb6, hkhb6, hx7, hkx7, hb8, hb9, hb10, hb11, go_sem, List.map_append, List.map_cons, List.map_nil, List.map_set]
      ·rcases of_if h with ⟨hb12, h⟩ | ⟨hb12, h⟩
       ·have hkhb12 := of_decide_eq_true hb12
        simp only [Option.some.injEq] at h
        subst h
        try simp only [hb6, hkhb6, hx7, hkx7, hb8, hb9, hb10, hb11, hb12, hkhb12, go_sem, List.map_append, List.map_cons, List.map_nil, List.map_set]
       ·rcases of_if h with ⟨hb13, h⟩ | ⟨hb13, h⟩
        ·simp only [Option.some.injEq] at h
         subst h
         try simp only [hb6, hkhb6, hx7, hkx7, hb8, hb9, hb10, hb11, hb12, hb13, go_sem, List.map_append, List.map_cons, List.map_nil, List.map_set]
        ·rcases of_if h with ⟨hb14, h⟩ | ⟨hb14, h⟩
         ·obtain ⟨hn16, h⟩ := of_chk h
          obtain ⟨x15, hx15, h⟩ := obi h
          have hkx15 := gtx hx15
          try simp only [List.length_take, List.length_drop, List.length_append, List.length_set, List.length_map, List.length_cons, List.length_nil, Nat.zero_add] at hkx15
          have hk2x15 : IntKind.i64.wrap (((a4_1 : Nat) : Int) - 1) < ((p0.length : Nat) : Int) := by omega
          rcases of_if h with ⟨hb17, h⟩ | ⟨hb17, h⟩
          ·simp only [Option.some.injEq] at h
           subst h
           try simp only [hb6, hkhb6, hx7, hkx7, hb8, hb9, hb10, hb11, hb12, hb13, hb14, hx15, hkx15, hn16, hk2x15, hb17, go_sem, List.map_append, List.map_cons, List.map_nil, List.map_set]
          ·have hw18 := wrap_succ_max hkx7 hl1
           try simp only [hb6, hkhb6, hx7, hkx7, hb8, hb9, hb10, hb11, hb12, hb13, hb14, hx15, hkx15, hn16, hk2x15, hb17, hw18, go_sem]
           exact loopQ_c (a4_1 + 1) h [] rfl (by simp only [hb6, hkhb6, hx7, hkx7, hb8, hb9, hb10, hb11, hb12, hb13, hb14, hx15, hkx15, hn16, hk2x15, hb17, hw18, go_sem, List.map_append, List.map_cons, List.map_nil, Option.some.injEq, Prod.mk.injEq, SC.d.injEq, D.l.injEq, List.map_set])
         ·have hw19 := wrap_succ_max hkx7 hl1
          try simp only [hb6, hkhb6, hx7, hkx7, hb8, hb9, hb10, hb11, hb12, hb13, hb14, hw19, go_sem]
          exact loopQ_c (a4_1 + 1) h [] rfl (by simp only [hb6, hkhb6, hx7, hkx7, hb8, hb9, hb10, hb11, hb12, hb13, hb14, hw19, go_sem, List.map_append, List.map_cons, List.map_nil, Option.some.injEq, Prod.mk.injEq, SC.d.injEq, D.l.injEq, List.map_set])
  ·try simp only [hb6, go_sem]
   exact joinQ_c () h [] rfl (by simp only [hb6, go_sem, List.map_append, List.map_cons, List.map_nil, Option.some.injEq, Prod.mk.injEq, SC.d.injEq, D.l.injEq, List.map_set])
 ·try dsimp only at h
  rw [hk3] at h
  simp only [Option.some.injEq] at h
  subst h
  try simp only [go_sem, List.map_append, List.map_cons, List.map_nil, List.map_set]
def store_txn (p0 : Txn) : Option (Bool) := (withK (fun (b1_1 : Bool) => (some b1_1)) fun k2 => (if (decide (p0.Site ≥ 0)) = true then (if (decide (p0.Site < 4)) = true then (if (decide (p0.N ≥ 1)) = true then (k2 (decide (p0.N ≤ 1048576))) else (k2 false)) else (k2 false)) else (k2 false)))
def F57 : VFn := ⟨21, (.seq (.reg [vo 1 (.boxk 2 (.t 0)), vo 2 (.mv (cb false))]) (.seq (.wk (.reg [vo 3 (.fa 0 (.t 1)), vo 4 (.ld false 1 (.t 3)), vo 5 (.bin .i .geq (.t 4) (ci 0)), vm 6 5, ⟨(some 7), .fa 0 (.t 1), (some (6, true))⟩, ⟨(some 8), .ld false 1 (.t 7), (some (6, true))⟩, ⟨(some 9), .bin .i .lss (.t 8) (ci 4), (some (6, true))⟩, vo 10 (.pick (.t 6) (.t 9) (cb false)), vm 11 10, ⟨(some 12), .fa 1 (.t 1), (some (11, true))⟩, ⟨(some 13), .ld false 1 (.t 12), (some (11, true))⟩, ⟨(some 14), .bin .i .geq (.t 13) (ci 1), (some (11, true))⟩, vo 15 (.pick (.t 11) (.t 14) (cb false)), vm 16 15, ⟨(some 17), .fa 1 (.t 1), (some (16, true))⟩, ⟨(some 18), .ld false 1 (.t 17), (some (16, true))⟩, ⟨(some 19), .bin .i .leq (.t 18) (ci 1048576), (some (16, true))⟩, vo 20 (.pick (.t 16) (.t 19) (cb false)), vm 2 20])) .ret)), [.t 2]⟩
theorem low57 : lowF Try.prog 57 = some F57.strip := by kernel_rfl
theorem fok57 : fOk Try.prog 57 = true := by kernel_rfl
theorem store_txn_ok (G : Nat → Option (List D)) (p0 : Txn) (r : Bool) (h : store_txn p0 = some r) : FnRO Try.prog G 57 [.agg [.d (.i .i64 p0.Site), .d (.i .i64 p0.N)]] (fun rs => rs = [.one (.b r)]) := by
 refine FnRO.of' low57 fok57 (by simp [F57]) ?_
 rw [store_txn] at h
 simp only [F57, go_sem]
 obtain ⟨k2, hk2, h⟩ := withK_lk1 h
 try simp only [go_sem]
 refine join_lk Try.prog G _ _ (B := Bool) (fun b => k2 b = some r) (fun b => [(2, .one (.d (.b b)))]) (fun b => []) ?_ (fun b1_1 h => ?_)
 ·rcases of_if h with ⟨hb3, h⟩ | ⟨hb3, h⟩
  ·rcases of_if h with ⟨hb4, h⟩ | ⟨hb4, h⟩
   ·have hkhb4 := of_decide_eq_true hb4
    rcases of_if h with ⟨hb5, h⟩ | ⟨hb5, h⟩
    ·try simp only [hb3, hb4, hkhb4, hb5, go_sem]
     exact joinQ_c (decide (p0.N ≤ 1048576)) h [] rfl (by simp only [hb3, hb4, hkhb4, hb5, go_sem, List.map_append, List.map_cons, List.map_nil, Option.some.injEq, Prod.mk.injEq, SC.d.injEq, D.l.injEq, List.map_set])
    ·try simp only [hb3, hb4, hkhb4, hb5, go_sem]
     exact joinQ_c (false) h [] rfl (by simp only [hb3, hb4, hkhb4, hb5, go_sem, List.map_append, List.map_cons, List.map_nil, Option.some.injEq, Prod.mk.injEq, SC.d.injEq, D.l.injEq, List.map_set])
   ·try simp only [hb3, hb4, go_sem]
    exact joinQ_c (false) h [] rfl (by simp only [hb3, hb4, go_sem, List.map_append, List.map_cons, List.map_nil, Option.some.injEq, Prod.mk.injEq, SC.d.injEq, D.l.injEq, List.map_set])
  ·try simp only [hb3, go_sem]
   exact joinQ_c (false) h [] rfl (by simp only [hb3, go_sem, List.map_append, List.map_cons, List.map_nil, Option.some.injEq, Prod.mk.injEq, SC.d.injEq, D.l.injEq, List.map_set])
 ·try dsimp only at h
  rw [hk2] at h
  simp only [Option.some.injEq] at h
  subst h
  try simp only [go_sem, List.map_append, List.map_cons, List.map_nil, List.map_set]
def slices_Index_Txn_L1 (p0 : List Txn) (p1 : Txn) (k3 : Option (Int)) : Nat → Nat → Option (Int)
 | 0, _ => none
 | n5 + 1, a4_1 => (if (decide (a4_1 < p0.length)) = true then (Option.bind (p0[a4_1]?) fun x7 => (if ((p1.Site == x7.Site) && (p1.N == x7.N)) = true then (some ((a4_1 : Nat) : Int)) else (slices_Index_Txn_L1 p0 p1 k3 n5 (a4_1 + 1)))) else k3)
def slices_Index_Txn (p0 : List Txn) (p1 : Txn) : Option (Int) := (withK (some (-1)) fun k3 => (slices_Index_Txn_L1 p0 p1 k3 (p0.length + 1) 0))
def F65 : VFn := ⟨19, (.seq (.reg [vo 3 (.boxk 2 (.t 1)), vo 4 (.mv (ci 0))]) (.seq (.seq (.reg [vm 6 0, vo 7 (.len (.t 6)), vo 8 (.mv (ci 0))]) (.wk (.block 0 (.loop (.seq (.reg [vo 9 (.bin .i .lss (.t 8) (.t 7))]) (.seq (.cond (.t 9) .skip (.exit 0)) (.seq (.block 1 (.seq (.reg [vm 10 8, vm 5 10]) (.seq (.draw [vd (vo 11 (.ld true 2 (.t 3))) [], vd (vm 12 0) [], vd (vm 13 5) [], vd (vo 14 (.ia 2 (.t 12) (.t 13))) [1, 2], vd (vo 15 (.ld true 2 (.t 14))) [3, 1, 2], vd (vo 16 (.eqs false [.i, .i] (.t 11) (.t 15))) [0, 4, 3, 1, 2]]) (.cond (.t 16) (.seq (.reg [vm 17 5, vm 4 17]) .ret) .skip)))) (.reg [vo 18 (.bin .i .add (.t 8) (ci 1)), vm 8 18])))))))) (.seq (.reg [vo 4 (.mv (ci (-1)))]) .ret))), [.t 4]⟩
theorem low65 : lowF Try.prog 65 = some F65.strip := by kernel_rfl
theorem fok65 : fOk Try.prog 65 = true := by kernel_rfl
theorem slices_Index_Txn_ok (G : Nat → Option (List D)) (p0 : List Txn) (p1 : Txn) (r : Int) (h : slices_Index_Txn p0 p1 = some r) : FnRO Try.prog G 65 [.one (.d (.l 2 (p0.map Txn.enc))), .agg [.d (.i .i64 p1.Site), .d (.i .i64 p1.N)]] (fun rs => rs = [.one (.i .i64 r)]) := by
 refine FnRO.of' low65 fok65 (by simp [F65]) ?_
 rw [slices_Index_Txn] at h
 simp only [F65, go_sem]
 try simp only [go_sem]
 intro hl1
 obtain ⟨k3, hk3, h⟩ := withK_lk0 h
 try simp only [go_sem]
 refine join_lk Try.prog G _ _ (B := Unit) (fun b => k3 = some r) (fun b => []) (fun b => []) ?_ (fun b h => ?_)
 ·try simp only [go_sem]
  refine loop_lk Try.prog G _ _ (A := Nat) (fun n a => slices_Index_Txn_L1 p0 p1 k3 n a = some r) (fun a => [(0, .one (.d (.l 2 (p0.map Txn.enc)))), (3, .one (.d (.k (Txn.enc p1)))), (7, .one (.d (.i .i64 ((p0.length : Nat) : Int)))), (8, .one (.d (.i .i64 ((a : Nat) : Int))))]) (fun a => []) (p0.length + 1) (0) h (wk_c _ _ _ [] rfl (by simp only [go_sem, List.map_append, List.map_cons, List.map_nil, Option.some.injEq, Prod.mk.injEq, SC.d.injEq, D.l.injEq, List.map_set])) (fun a h => by simp only [slices_Index_Txn_L1, reduceCtorEq] at h) ?_
  intro n5 a4_1 h
  try dsimp only at h
  rw [slices_Index_Txn_L1] at h
  rcases of_if h with ⟨hb6, h⟩ | ⟨hb6, h⟩
  ·have hkhb6 := of_decide_eq_true hb6
   obtain ⟨x7, hx7, h⟩ := obi h
   have hkx7 := gtx hx7
   try simp only [List.length_take, List.length_drop, List.length_append, List.length_set, List.length_map, List.length_cons, List.length_nil, Nat.zero_add] at hkx7
   rcases of_if h with ⟨hb8, h⟩ | ⟨hb8, h⟩
   ·try simp only [hb6, hkhb6, hx7, hkx7, hb8, go_sem]
    simp only [Option.some.injEq] at h
    subst h
    try simp only [hb6, hkhb6, hx7, hkx7, hb8, go_sem, List.map_append, List.map_cons, List.map_nil, List.map_set]
   ·try simp only [hb6, hkhb6, hx7, hkx7, hb8, go_sem]
    have hw9 := wrap_succ_max hkx7 hl1
    try simp only [hb6, hkhb6, hx7, hkx7, hb8, hw9, go_sem]
    exact loopQ_c (a4_1 + 1) h [] rfl (by simp only [hb6, hkhb6, hx7, hkx7, hb8, hw9, go_sem, List.map_append, List.map_cons, List.map_nil, Option.some.injEq, Prod.mk.injEq, SC.d.injEq, D.l.injEq, List.map_set])
  ·try simp only [hb6, go_sem]
   exact joinQ_c () h [] rfl (by simp only [hb6, go_sem, List.map_append, List.map_cons, List.map_nil, Option.some.injEq, Prod.mk.injEq, SC.d.injEq, D.l.injEq, List.map_set])
 ·try dsimp only at h
  rw [hk3] at h
  simp only [Option.some.injEq] at h
  subst h
  try simp only [go_sem, List.map_append, List.map_cons, List.map_nil, List.map_set]
def slices_Contains_Txn (p0 : List Txn) (p1 : Txn) : Option (Bool) := (Option.bind (slices_Index_Txn p0 p1) fun v1 => (some (decide (v1 ≥ 0))))
def F46 : VFn := ⟨9, (.seq (.reg [vo 3 (.boxk 2 (.t 1)), vo 4 (.mv (cb false))]) (.seq (.reg [vm 5 0, vo 6 (.ld true 2 (.t 3)), vo 7 (.call 65 [(.t 5), (.t 6)]), vo 8 (.bin .i .geq (.t 7) (ci 0)), vm 4 8]) .ret)), [.t 4]⟩
theorem low46 : lowF Try.prog 46 = some F46.strip := by kernel_rfl
theorem fok46 : fOk Try.prog 46 = true := by kernel_rfl
theorem slices_Contains_Txn_ok (G : Nat → Option (List D)) (p0 : List Txn) (p1 : Txn) (r : Bool) (h : slices_Contains_Txn p0 p1 = some r) : FnRO Try.prog G 46 [.one (.d (.l 2 (p0.map Txn.enc))), .agg [.d (.i .i64 p1.Site), .d (.i .i64 p1.N)]] (fun rs => rs = [.one (.b r)]) := by
 refine FnRO.of' low46 fok46 (by simp [F46]) ?_
 rw [slices_Contains_Txn] at h
 simp only [F46, go_sem]
 obtain ⟨v1, hv1, h⟩ := obi h
 try simp only [go_sem]
 refine CallV.ro false (slices_Index_Txn_ok G p0 p1 v1 hv1) rfl ?_
 rintro rs rfl
 refine ⟨.inl rfl, ?_⟩
 simp only [Option.some.injEq] at h
 subst h
 try simp only [go_sem, List.map_append, List.map_cons, List.map_nil, List.map_set]
def store_doubts_1 (p0 : Lock) (p1 : Doubt) : Option (Bool) := (some ((p0.Txn.Site == p1.Txn.Site) && (p0.Txn.N == p1.Txn.N)))
def F67 : VFn := ⟨9, (.seq (.reg [vo 2 (.boxk 6 (.t 0)), vo 3 (.mv (cb false))]) (.seq (.reg [vo 4 (.fa 0 (.t 2)), vo 5 (.ld true 2 (.t 4)), vo 6 (.fa 0 (.t 1)), vo 7 (.ld true 2 (.t 6)), vo 8 (.eqs false [.i, .i] (.t 5) (.t 7)), vm 3 8]) .ret)), [.t 3]⟩
theorem low67 : lowF Try.prog 67 = some F67.strip := by kernel_rfl
theorem fok67 : fOk Try.prog 67 = true := by kernel_rfl
theorem store_doubts_1_ok (G : Nat → Option (List D)) (p0 : Lock) (p1 : Doubt) (r : Bool) (h : store_doubts_1 p0 p1 = some r) : FnRO Try.prog G 67 [.agg [.d (.i .i64 p0.Txn.Site), .d (.i .i64 p0.Txn.N), .d (.i .i64 p0.Key), .d (.b p0.Write), .d (.i .i64 p0.Value), .d (.i .i64 p0.Ask)], .one (.d (.k [.i .i64 p1.Txn.Site, .i .i64 p1.Txn.N, .i .i64 p1.Age]))] (fun rs => rs = [.one (.b r)]) := by
 refine FnRO.of' low67 fok67 (by simp [F67]) ?_
 rw [store_doubts_1] at h
 simp only [F67, go_sem]
 simp only [Option.some.injEq] at h
 subst h
 try simp only [go_sem, List.map_append, List.map_cons, List.map_nil, List.map_set]
def slices_IndexFunc_Lock_L1 (p0 : List Lock) (p1 : Lock → Option (Bool)) (k3 : Option (Int)) : Nat → Nat → Option (Int)
 | 0, _ => none
 | n5 + 1, a4_1 => (if (decide (a4_1 < p0.length)) = true then (Option.bind (p0[a4_1]?) fun x7 => (Option.bind (p1 x7) fun v8 => (if v8 = true then (some ((a4_1 : Nat) : Int)) else (slices_IndexFunc_Lock_L1 p0 p1 k3 n5 (a4_1 + 1))))) else k3)
def slices_IndexFunc_Lock (p0 : List Lock) (p1 : Lock → Option (Bool)) : Option (Int) := (withK (some (-1)) fun k3 => (slices_IndexFunc_Lock_L1 p0 p1 k3 (p0.length + 1) 0))
def F63 : VFn := ⟨19, (.seq (.reg [vo 4 (.mv (ci 0))]) (.seq (.seq (.reg [vm 6 0, vo 7 (.len (.t 6)), vo 8 (.mv (ci 0))]) (.wk (.block 0 (.loop (.seq (.reg [vo 9 (.bin .i .lss (.t 8) (.t 7))]) (.seq (.cond (.t 9) .skip (.exit 0)) (.seq (.block 1 (.seq (.reg [vm 10 8, vm 5 10]) (.seq (.reg [vm 11 1, vm 12 0, vm 13 5, vo 14 (.ia 6 (.t 12) (.t 13)), vo 15 (.ld true 6 (.t 14)), vo 16 (.callv (.t 11) [(.t 15)])]) (.cond (.t 16) (.seq (.reg [vm 17 5, vm 4 17]) .ret) .skip)))) (.reg [vo 18 (.bin .i .add (.t 8) (ci 1)), vm 8 18])))))))) (.seq (.reg [vo 4 (.mv (ci (-1)))]) .ret))), [.t 4]⟩
theorem low63 : lowF Try.prog 63 = some F63.strip := by kernel_rfl
theorem fok63 : fOk Try.prog 63 = true := by kernel_rfl
theorem slices_IndexFunc_Lock_ok (G : Nat → Option (List D)) (p0 : List Lock) (p1 : Lock → Option (Bool)) (g_p1 : Nat) (c_p1 : List D) (h_p1 : ∀ (x0 : Lock) (r : Bool), p1 x0 = some r → FnRO Try.prog G g_p1 ([.agg [.d (.i .i64 x0.Txn.Site), .d (.i .i64 x0.Txn.N), .d (.i .i64 x0.Key), .d (.b x0.Write), .d (.i .i64 x0.Value), .d (.i .i64 x0.Ask)]] ++ c_p1.map fun d => .one (.d d)) (fun rs => rs = [.one (.b r)])) (r : Int) (h : slices_IndexFunc_Lock p0 p1 = some r) : FnRO Try.prog G 63 [.one (.d (.l 6 (p0.map Lock.enc))), .one (.d (.f g_p1 c_p1))] (fun rs => rs = [.one (.i .i64 r)]) := by
 refine FnRO.of' low63 fok63 (by simp [F63]) ?_
 rw [slices_IndexFunc_Lock] at h
 simp only [F63, go_sem]
 try simp only [go_sem]
 intro hl1
 obtain ⟨k3, hk3, h⟩ := withK_lk0 h
 try simp only [go_sem]
 refine join_lk Try.prog G _ _ (B := Unit) (fun b => k3 = some r) (fun b => []) (fun b => []) ?_ (fun b h => ?_)
 ·try simp only [go_sem]
  refine loop_lk Try.prog G _ _ (A := Nat) (fun n a => slices_IndexFunc_Lock_L1 p0 p1 k3 n a = some r) (fun a => [(0, .one (.d (.l 6 (p0.map Lock.enc)))), (1, .one (.d (.f g_p1 c_p1))), (7, .one (.d (.i .i64 ((p0.length : Nat) : Int)))), (8, .one (.d (.i .i64 ((a : Nat) : Int))))]) (fun a => []) (p0.length + 1) (0) h (wk_c _ _ _ [] rfl (by simp only [go_sem, List.map_append, List.map_cons, List.map_nil, Option.some.injEq, Prod.mk.injEq, SC.d.injEq, D.l.injEq, List.map_set])) (fun a h => by simp only [slices_IndexFunc_Lock_L1, reduceCtorEq] at h) ?_
  intro n5 a4_1 h
  try dsimp only at h
  rw [slices_IndexFunc_Lock_L1] at h
  rcases of_if h with ⟨hb6, h⟩ | ⟨hb6, h⟩
  ·have hkhb6 := of_decide_eq_true hb6
   obtain ⟨x7, hx7, h⟩ := obi h
   have hkx7 := gtx hx7
   try simp only [List.length_take, List.length_drop, List.length_append, List.length_set, List.length_map, List.length_cons, List.length_nil, Nat.zero_add] at hkx7
   obtain ⟨v8, hv8, h⟩ := obi h
   try simp only [hb6, hkhb6, hx7, hkx7, go_sem]
   refine CallV.ro false (h_p1 x7 v8 hv8) (by first | rfl | simp only [hb6, hkhb6, hx7, hkx7, go_sem, inVs_caps]) ?_
   rintro rs rfl
   refine ⟨.inl rfl, ?_⟩
   rcases of_if h with ⟨hb9, h⟩ | ⟨hb9, h⟩
   ·simp only [Option.some.injEq] at h
    subst h
    try simp only [hb6, hkhb6, hx7, hkx7, hb9, go_sem, List.map_append, List.map_cons, List.map_nil, List.map_set]
   ·have hw10 := wrap_succ_max hkx7 hl1
    try simp only [hb6, hkhb6, hx7, hkx7, hb9, hw10, go_sem]
    exact loopQ_c (a4_1 + 1) h [] rfl (by simp only [hb6, hkhb6, hx7, hkx7, hb9, hw10, go_sem, List.map_append, List.map_cons, List.map_nil, Option.some.injEq, Prod.mk.injEq, SC.d.injEq, D.l.injEq, List.map_set])
  ·try simp only [hb6, go_sem]
   exact joinQ_c () h [] rfl (by simp only [hb6, go_sem, List.map_append, List.map_cons, List.map_nil, Option.some.injEq, Prod.mk.injEq, SC.d.injEq, D.l.injEq, List.map_set])
 ·try dsimp only at h
  rw [hk3] at h
  simp only [Option.some.injEq] at h
  subst h
  try simp only [go_sem, List.map_append, List.map_cons, List.map_nil, List.map_set]
def slices_ContainsFunc_Lock (p0 : List Lock) (p1 : Lock → Option (Bool)) : Option (Bool) := (Option.bind (slices_IndexFunc_Lock p0 p1) fun v1 => (some (decide (v1 ≥ 0))))
def F66 : VFn := ⟨9, (.seq (.reg [vo 4 (.mv (cb false))]) (.seq (.reg [vm 5 0, vm 6 1, vo 7 (.call 63 [(.t 5), (.t 6)]), vo 8 (.bin .i .geq (.t 7) (ci 0)), vm 4 8]) .ret)), [.t 4]⟩
theorem low66 : lowF Try.prog 66 = some F66.strip := by kernel_rfl
theorem fok66 : fOk Try.prog 66 = true := by kernel_rfl
theorem slices_ContainsFunc_Lock_ok (G : Nat → Option (List D)) (p0 : List Lock) (p1 : Lock → Option (Bool)) (g_p1 : Nat) (c_p1 : List D) (h_p1 : ∀ (x0 : Lock) (r : Bool), p1 x0 = some r → FnRO Try.prog G g_p1 ([.agg [.d (.i .i64 x0.Txn.Site), .d (.i .i64 x0.Txn.N), .d (.i .i64 x0.Key), .d (.b x0.Write), .d (.i .i64 x0.Value), .d (.i .i64 x0.Ask)]] ++ c_p1.map fun d => .one (.d d)) (fun rs => rs = [.one (.b r)])) (r : Bool) (h : slices_ContainsFunc_Lock p0 p1 = some r) : FnRO Try.prog G 66 [.one (.d (.l 6 (p0.map Lock.enc))), .one (.d (.f g_p1 c_p1))] (fun rs => rs = [.one (.b r)]) := by
 refine FnRO.of' low66 fok66 (by simp [F66]) ?_
 rw [slices_ContainsFunc_Lock] at h
 simp only [F66, go_sem]
 obtain ⟨v1, hv1, h⟩ := obi h
 try simp only [go_sem]
 refine CallV.ro false (slices_IndexFunc_Lock_ok G p0 p1 g_p1 c_p1 h_p1 v1 hv1) (by first | rfl | (simp only [go_sem, inVs_caps]; done) | simp only [go_sem, inVs_caps, List.map_append, List.map_cons, List.map_nil, List.map_set]) ?_
 rintro rs rfl
 refine ⟨.inl rfl, ?_⟩
 simp only [Option.some.injEq] at h
 subst h
 try simp only [go_sem, List.map_append, List.map_cons, List.map_nil, List.map_set]
def store_doubts_L2 (p0 : Store) (a4_1 : Nat) (x7 : Doubt) (k20 : Option (Bool)) : Nat → Nat → Option (Bool)
 | 0, _ => none
 | n22 + 1, a21_1 => (if (decide (a21_1 < min a4_1 p0.Doubts.length)) = true then (Option.bind ((p0.Doubts.take a4_1)[a21_1]?) fun x24 => (if ((x24.Txn.Site == x7.Txn.Site) && (x24.Txn.N == x7.Txn.N)) = true then (some false) else (store_doubts_L2 p0 a4_1 x7 k20 n22 (a21_1 + 1)))) else k20)
def store_doubts_L1 (p0 : Store) (k3 : Option (Bool)) : Nat → Nat → Option (Bool)
 | 0, _ => none
 | n5 + 1, a4_1 => (if (decide (a4_1 < p0.Doubts.length)) = true then (Option.bind (p0.Doubts[a4_1]?) fun x7 => (Option.bind (store_txn x7.Txn) fun v8 => (if (!v8) = true then (some false) else (if (decide (x7.Age < 0)) = true then (some false) else (if (decide (x7.Age > 1048576)) = true then (some false) else (Option.bind (slices_Contains_Txn p0.Over x7.Txn) fun v12 => (if v12 = true then (some false) else (Option.bind (slices_ContainsFunc_Lock p0.Locks (fun y14 => store_doubts_1 y14 x7)) fun v15 => (if (!v15) = true then (some false) else (withK (store_doubts_L1 p0 k3 n5 (a4_1 + 1)) fun k20 => (store_doubts_L2 p0 a4_1 x7 k20 (min a4_1 p0.Doubts.length + 1) 0))))))))))) else k3)
def store_doubts_L3 (p0 : Store) (k30 : Option (Bool)) : Nat → Nat → Option (Bool)
 | 0, _ => none
 | n32 + 1, a31_1 => (if (decide (a31_1 < p0.Over.length)) = true then (Option.bind (p0.Over[a31_1]?) fun x34 => (Option.bind (store_txn x34) fun v35 => (if (!v35) = true then (some false) else (Option.bind (slices_Contains_Txn (p0.Over.take a31_1) x34) fun v38 => (if v38 = true then (some false) else (store_doubts_L3 p0 k30 n32 (a31_1 + 1))))))) else k30)
def store_doubts (p0 : Store) : Option (Bool) := (withK (withK (some true) fun k30 => (store_doubts_L3 p0 k30 (p0.Over.length + 1) 0)) fun k3 => (store_doubts_L1 p0 k3 (p0.Doubts.length + 1) 0))
def F52 : VFn := ⟨79, (.seq (.reg [vo 1 (.boxk 4 (.t 0)), vo 2 (.mv (cb false))]) (.seq (.seq (.reg [vo 9 (.fa 2 (.t 1)), vo 10 (.ld false 1 (.t 9)), vo 11 (.len (.t 10)), vo 12 (.mv (ci 0))]) (.wk (.block 0 (.loop (.seq (.reg [vo 13 (.bin .i .lss (.t 12) (.t 11))]) (.seq (.cond (.t 13) .skip (.exit 0)) (.seq (.block 1 (.seq (.reg [vm 14 12, vo 15 (.ia 3 (.t 10) (.t 12)), vo 16 (.ld true 3 (.t 15)), vo 4 (.alloc [(zi 0), (zi 0), (zi 0)]), vm 3 14, vu (.st 3 (.t 4) (.t 16))]) (.seq (.seq (.reg [vo 17 (.fa 0 (.t 4)), vo 18 (.ld true 2 (.t 17)), vo 19 (.call 57 [(.t 18)]), vo 20 (.un .not (.t 19)), vm 21 20, ⟨(some 22), .fa 2 (.t 4), (some (21, false))⟩, ⟨(some 23), .ld false 1 (.t 22), (some (21, false))⟩, ⟨(some 24), .bin .i .lss (.t 23) (ci 0), (some (21, false))⟩, vo 25 (.pick (.t 21) (cb true) (.t 24)), vm 26 25, ⟨(some 27), .fa 2 (.t 4), (some (26, false))⟩, ⟨(some 28), .ld false 1 (.t 27), (some (26, false))⟩, ⟨(some 29), .bin .i .gtr (.t 28) (ci 1048576), (some (26, false))⟩, vo 30 (.pick (.t 26) (cb true) (.t 29)), vm 31 30, ⟨(some 32), .fa 3 (.t 1), (some (31, false))⟩, ⟨(some 33), .ld false 1 (.t 32), (some (31, false))⟩, ⟨(some 34), .fa 0 (.t 4), (some (31, false))⟩, ⟨(some 35), .ld true 2 (.t 34), (some (31, false))⟩, ⟨(some 36), .call 46 [(.t 33), (.t 35)], (some (31, false))⟩, vo 37 (.pick (.t 31) (cb true) (.t 36))]) (.cond (.t 37) (.seq (.reg [vo 2 (.mv (cb false))]) .ret) .skip)) (.seq (.seq (.reg [vo 38 (.fa 1 (.t 1)), vo 39 (.ld false 1 (.t 38)), vo 40 (.mkf 67 [(.t 4)]), vo 41 (.call 66 [(.t 39), (.t 40)]), vo 42 (.un .not (.t 41))]) (.cond (.t 42) (.seq (.reg [vo 2 (.mv (cb false))]) .ret) .skip)) (.seq (.reg [vo 43 (.fa 2 (.t 1)), vo 44 (.ld false 1 (.t 43)), vm 45 3, vo 46 (.sl 3 (.t 44) none (some (.t 45))), vo 47 (.len (.t 46)), vo 48 (.mv (ci 0))]) (.wk (.block 2 (.loop (.seq (.reg [vo 49 (.bin .i .lss (.t 48) (.t 47))]) (.seq (.cond (.t 49) .skip (.exit 2)) (.seq (.block 3 (.seq (.reg [vo 50 (.ia 3 (.t 46) (.t 48)), vo 51 (.ld true 3 (.t 50)), vo 6 (.alloc [(zi 0), (zi 0), (zi 0)]), vu (.st 3 (.t 6) (.t 51))]) (.seq (.reg [vo 52 (.fa 0 (.t 6)), vo 53 (.ld true 2 (.t 52)), vo 54 (.fa 0 (.t 4)), vo 55 (.ld true 2 (.t 54)), vo 56 (.eqs false [.i, .i] (.t 53) (.t 55))]) (.cond (.t 56) (.seq (.reg [vo 2 (.mv (cb false))]) .ret) .skip)))) (.reg [vo 57 (.bin .i .add (.t 48) (ci 1)), vm 48 57])))))))))))) (.reg [vo 58 (.bin .i .add (.t 12) (ci 1)), vm 12 58])))))))) (.seq (.seq (.reg [vo 59 (.fa 3 (.t 1)), vo 60 (.ld false 1 (.t 59)), vo 61 (.len (.t 60)), vo 62 (.mv (ci 0))]) (.wk (.block 4 (.loop (.seq (.reg [vo 63 (.bin .i .lss (.t 62) (.t 61))]) (.seq (.cond (.t 63) .skip (.exit 4)) (.seq (.block 5 (.seq (.reg [vm 64 62, vo 65 (.ia 2 (.t 60) (.t 62)), vo 66 (.ld true 2 (.t 65)), vo 8 (.alloc [(zi 0), (zi 0)]), vm 7 64, vu (.st 2 (.t 8) (.t 66))]) (.seq (.draw [vd (vo 67 (.ld true 2 (.t 8))) [], vd (vo 68 (.call 57 [(.t 67)])) [0], vd (vo 69 (.un .not (.t 68))) [1, 0], vd (vm 70 69) [2, 1, 0], vd (⟨(some 71), .fa 3 (.t 1), (some (70, false))⟩) [3, 2, 1, 0], vd (⟨(some 72), .ld false 1 (.t 71), (some (70, false))⟩) [4, 3, 2, 1, 0], vd (⟨(some 73), .mv (.t 7), (some (70, false))⟩) [3, 2, 1, 0], vd (⟨(some 74), .sl 2 (.t 72) none (some (.t 73)), (some (70, false))⟩) [5, 4, 3, 2, 1, 0, 6], vd (⟨(some 75), .ld true 2 (.t 8), (some (70, false))⟩) [3, 2, 1, 0], vd (⟨(some 76), .call 46 [(.t 74), (.t 75)], (some (70, false))⟩) [7, 5, 4, 3, 2, 1, 0, 6, 8], vd (vo 77 (.pick (.t 70) (cb true) (.t 76))) [3, 2, 1, 0, 9, 7, 5, 4, 6, 8]]) (.cond (.t 77) (.seq (.reg [vo 2 (.mv (cb false))]) .ret) .skip)))) (.reg [vo 78 (.bin .i .add (.t 62) (ci 1)), vm 62 78])))))))) (.seq (.reg [vo 2 (.mv (cb true))]) .ret)))), [.t 2]⟩
theorem low52 : lowF Try.prog 52 = some F52.strip := by kernel_rfl
theorem fok52 : fOk Try.prog 52 = true := by kernel_rfl
theorem store_doubts_ok (G : Nat → Option (List D)) (p0 : Store) (r : Bool) (h : store_doubts p0 = some r) : FnRO Try.prog G 52 [.agg [.d (.l 3 (p0.Items.map Item.enc)), .d (.l 6 (p0.Locks.map Lock.enc)), .d (.l 3 (p0.Doubts.map Doubt.enc)), .d (.l 2 (p0.Over.map Txn.enc))]] (fun rs => rs = [.one (.b r)]) := by
 refine FnRO.of' low52 fok52 (by simp [F52]) ?_
 rw [store_doubts] at h
 simp only [F52, go_sem]
 try simp only [go_sem]
 intro hl1
 obtain ⟨k3, hk3, h⟩ := withK_lk0 h
 try simp only [go_sem]
 refine join_lk Try.prog G _ _ (B := Unit) (fun b => k3 = some r) (fun b => [(1, .one (.d (.k (Store.enc p0))))]) (fun b => []) ?_ (fun b h => ?_)
 ·try simp only [go_sem]
  refine loop_lk Try.prog G _ _ (A := Nat) (fun n a => store_doubts_L1 p0 k3 n a = some r) (fun a => [(1, .one (.d (.k (Store.enc p0)))), (10, .one (.d (.l 3 (p0.Doubts.map Doubt.enc)))), (11, .one (.d (.i .i64 ((p0.Doubts.length : Nat) : Int)))), (12, .one (.d (.i .i64 ((a : Nat) : Int))))]) (fun a => []) (p0.Doubts.length + 1) (0) h (wk_c _ _ _ [] rfl (by simp only [go_sem, List.map_append, List.map_cons, List.map_nil, Option.some.injEq, Prod.mk.injEq, SC.d.injEq, D.l.injEq, List.map_set])) (fun a h => by simp only [store_doubts_L1, reduceCtorEq] at h) ?_
  intro n5 a4_1 h
  try dsimp only at h
  rw [store_doubts_L1] at h
  rcases of_if h with ⟨hb6, h⟩ | ⟨hb6, h⟩
  ·have hkhb6 := of_decide_eq_true hb6
   obtain ⟨x7, hx7, h⟩ := obi h
   have hkx7 := gtx hx7
   try simp only [List.length_take, List.length_drop, List.length_append, List.length_set, List.length_map, List.length_cons, List.length_nil, Nat.zero_add] at hkx7
   obtain ⟨v8, hv8, h⟩ := obi h
   try simp only [hb6, hkhb6, hx7, hkx7, go_sem]
   refine CallV.ro false (store_txn_ok G x7.Txn v8 hv8) rfl ?_
   rintro rs rfl
   refine ⟨.inl rfl, ?_⟩
   rcases of_if h with ⟨hb9, h⟩ | ⟨hb9, h⟩
   ·have hkhb9 := not_eq_t hb9
    simp only [Option.some.injEq] at h
    subst h
    try simp only [hb6, hkhb6, hx7, hkx7, hb9, hkhb9, go_sem, List.map_append, List.map_cons, List.map_nil, List.map_set]
   ·have hkhb9 := not_eq_f hb9
    rcases of_if h with ⟨hb10, h⟩ | ⟨hb10, h⟩
    ·have hkhb10 := of_decide_eq_true hb10
     simp only [Option.some.injEq] at h
     subst h
     try simp only [hb6, hkhb6, hx7, hkx7, hb9, hkhb9, hb10, hkhb10, go_sem, List.map_append, List.map_cons, List.map_nil, List.map_set]
    ·rcases of_if h with ⟨hb11, h⟩ | ⟨hb11, h⟩
     ·simp only [Option.some.injEq] at h
      subst h
      try simp only [hb6, hkhb6, hx7, hkx7, hb9, hkhb9, hb10, hb11, go_sem, List.map_append, List.map_cons, List.map_nil, List.map_set]
     ·obtain ⟨v12, hv12, h⟩ := obi h
      try simp only [hb6, hkhb6, hx7, hkx7, hb9, hkhb9, hb10, hb11, go_sem]
      refine CallV.ro false (slices_Contains_Txn_ok G p0.Over x7.Txn v12 hv12) rfl ?_
      rintro rs rfl
      refine ⟨.inl rfl, ?_⟩
      rcases of_if h with ⟨hb13, h⟩ | ⟨hb13, h⟩
      ·simp only [Option.some.injEq] at h
       subst h
       try simp only [hb6, hkhb6, hx7, hkx7, hb9, hkhb9, hb10, hb11, hb13, go_sem, List.map_append, List.map_cons, List.map_nil, List.map_set]
      ·obtain ⟨v15, hv15, h⟩ := obi h
       try simp only [hb6, hkhb6, hx7, hkx7, hb9, hkhb9, hb10, hb11, hb13, go_sem]
       refine CallV.ro true (slices_ContainsFunc_Lock_ok G p0.Locks (fun y14 => store_doubts_1 y14 x7) 67 [.k [.i .i64 x7.Txn.Site, .i .i64 x7.Txn.N, .i .i64 x7.Age]] (fun y14 r h => store_doubts_1_ok G y14 x7 r h) v15 hv15) (by first | rfl | (simp only [hb6, hkhb6, hx7, hkx7, hb9, hkhb9, hb10, hb11, hb13, go_sem, inVs_caps]; done) | simp only [hb6, hkhb6, hx7, hkx7, hb9, hkhb9, hb10, hb11, hb13, go_sem, inVs_caps, List.map_append, List.map_cons, List.map_nil, List.map_set]) ?_
       rintro rs rfl
       refine ⟨.inr (by simp only [hb6, hkhb6, hx7, hkx7, hb9, hkhb9, hb10, hb11, hb13, go_sem, RV.plain, D.plain, D.plain0, D.plain1, List.all_map, Function.comp_def, all_tt]), ?_⟩
       rcases of_if h with ⟨hb16, h⟩ | ⟨hb16, h⟩
       ·have hkhb16 := not_eq_t hb16
        simp only [Option.some.injEq] at h
        subst h
        try simp only [hb6, hkhb6, hx7, hkx7, hb9, hkhb9, hb10, hb11, hb13, hb16, hkhb16, go_sem, List.map_append, List.map_cons, List.map_nil, List.map_set]
       ·have hkhb16 := not_eq_f hb16
        have hle17 := Nat.le_of_lt hkx7
        try simp only [hb6, hkhb6, hx7, hkx7, hb9, hkhb9, hb10, hb11, hb13, hb16, hkhb16, hle17, go_sem]
        intro hl18
        obtain ⟨k20, hk20, h⟩ := withK_lk0 h
        try simp only [hb6, hkhb6, hx7, hkx7, hb9, hkhb9, hb10, hb11, hb13, hb16, hkhb16, hle17, go_sem]
        refine join_lk Try.prog G _ _ (B := Unit) (fun b => k20 = some r) (fun b => [(1, .one (.d (.k (Store.enc p0)))), (10, .one (.d (.l 3 (p0.Doubts.map Doubt.enc)))), (11, .one (.d (.i .i64 ((p0.Doubts.length : Nat) : Int)))), (12, .one (.d (.i .i64 ((a4_1 : Nat) : Int)))), (22, .one (.p (.q 0 0 2))), (23, .one (zi x7.Age)), (24, .one (.d (.b false))), (27, .one (.p (.q 0 0 2))), (28, .one (zi x7.Age)), (29, .one (.d (.b false))), (32, .one (.p (.l 4 [(Store.enc p0)] 0 3))), (33, .one (.d (.l 2 (p0.Over.map Txn.enc)))), (34, .one (.p (.q 0 0 0))), (35, .agg [zi x7.Txn.Site, zi x7.Txn.N]), (36, .one (.d (.b false)))]) (fun b => [some (.box x7.bx)]) ?_ (fun b h => ?_)
        ·try simp only [hb6, hkhb6, hx7, hkx7, hb9, hkhb9, hb10, hb11, hb13, hb16, hkhb16, hle17, go_sem]
         refine loop_lk Try.prog G _ _ (A := Nat) (fun n a => store_doubts_L2 p0 a4_1 x7 k20 n a = some r) (fun a => [(1, .one (.d (.k (Store.enc p0)))), (4, .one (.p (.q 0 0 0))), (10, .one (.d (.l 3 (p0.Doubts.map Doubt.enc)))), (11, .one (.d (.i .i64 ((p0.Doubts.length : Nat) : Int)))), (12, .one (.d (.i .i64 ((a4_1 : Nat) : Int)))), (22, .one (.p (.q 0 0 2))), (23, .one (zi x7.Age)), (24, .one (.d (.b false))), (27, .one (.p (.q 0 0 2))), (28, .one (zi x7.Age)), (29, .one (.d (.b false))), (32, .one (.p (.l 4 [(Store.enc p0)] 0 3))), (33, .one (.d (.l 2 (p0.Over.map Txn.enc)))), (34, .one (.p (.q 0 0 0))), (35, .agg [zi x7.Txn.Site, zi x7.Txn.N]), (36, .one (.d (.b false))), (46, .one (.d (.l 3 ((p0.Doubts.take a4_1).map Doubt.enc)))), (47, .one (.d (.i .i64 ((min a4_1 p0.Doubts.length : Nat) : Int)))), (48, .one (.d (.i .i64 ((a : Nat) : Int))))]) (fun a => [some (.box x7.bx)]) (min a4_1 p0.Doubts.length + 1) (0) h (wk_c _ _ _ [some 0] rfl (by simp only [hb6, hkhb6, hx7, hkx7, hb9, hkhb9, hb10, hb11, hb13, hb16, hkhb16, hle17, go_sem, List.map_append, List.map_cons, List.map_nil, Option.some.injEq, Prod.mk.injEq, SC.d.injEq, D.l.injEq, List.map_set])) (fun a h => by simp only [store_doubts_L2, reduceCtorEq] at h) ?_
         intro n22 a21_1 h
         try dsimp only at h
         rw [store_doubts_L2] at h
         rcases of_if h with ⟨hb23, h⟩ | ⟨hb23, h⟩
         ·obtain ⟨x24, hx24, h⟩ := obi h
          have hkx24 := gtx hx24
          try simp only [List.length_take, List.length_drop, List.length_append, List.length_set, List.length_map, List.length_cons, List.length_nil, Nat.zero_add] at hkx24
          rcases of_if h with ⟨hb25, h⟩ | ⟨hb25, h⟩
          ·try simp only [hkhb6, hx7, hkx7, hkhb9, hkhb16, hle17, hb23, hx24, hkx24, hb25, go_sem]
           simp only [Option.some.injEq] at h
           subst h
           try simp only [hkhb6, hx7, hkx7, hkhb9, hkhb16, hle17, hb23, hx24, hkx24, hb25, go_sem, List.map_append, List.map_cons, List.map_nil, List.map_set]
          ·try simp only [hkhb6, hx7, hkx7, hkhb9, hkhb16, hle17, hb23, hx24, hkx24, hb25, go_sem]
           have hw26 := wrap_succ_max hkx24 hl18
           try simp only [hkhb6, hx7, hkx7, hkhb9, hkhb16, hle17, hb23, hx24, hkx24, hb25, hw26, go_sem]
           exact loopQ_c (a21_1 + 1) h [some 0] rfl (by simp only [hkhb6, hx7, hkx7, hkhb9, hkhb16, hle17, hb23, hx24, hkx24, hb25, hw26, go_sem, List.map_append, List.map_cons, List.map_nil, Option.some.injEq, Prod.mk.injEq, SC.d.injEq, D.l.injEq, List.map_set])
         ·try simp only [hkhb6, hx7, hkx7, hkhb9, hkhb16, hle17, hb23, go_sem]
          exact joinQ_c () h [some 0] rfl (by simp only [hkhb6, hx7, hkx7, hkhb9, hkhb16, hle17, hb23, go_sem, List.map_append, List.map_cons, List.map_nil, Option.some.injEq, Prod.mk.injEq, SC.d.injEq, D.l.injEq, List.map_set])
        ·try dsimp only at h
         rw [hk20] at h
         have hw27 := wrap_succ_max hkx7 hl1
         try simp only [hkhb6, hx7, hkx7, hkhb9, hkhb16, hle17, hw27, go_sem]
         exact loopQ_c (a4_1 + 1) h [] rfl (by simp only [hkhb6, hx7, hkx7, hkhb9, hkhb16, hle17, hw27, go_sem, List.map_append, List.map_cons, List.map_nil, Option.some.injEq, Prod.mk.injEq, SC.d.injEq, D.l.injEq, List.map_set])
  ·try simp only [hb6, go_sem]
   exact joinQ_c () h [] rfl (by simp only [hb6, go_sem, List.map_append, List.map_cons, List.map_nil, Option.some.injEq, Prod.mk.injEq, SC.d.injEq, D.l.injEq, List.map_set])
 ·try dsimp only at h
  rw [hk3] at h
  try simp only [go_sem]
  intro hl28
  obtain ⟨k30, hk30, h⟩ := withK_lk0 h
  try simp only [go_sem]
  refine join_lk Try.prog G _ _ (B := Unit) (fun b => k30 = some r) (fun b => []) (fun b => []) ?_ (fun b h => ?_)
  ·try simp only [go_sem]
   refine loop_lk Try.prog G _ _ (A := Nat) (fun n a => store_doubts_L3 p0 k30 n a = some r) (fun a => [(1, .one (.d (.k (Store.enc p0)))), (60, .one (.d (.l 2 (p0.Over.map Txn.enc)))), (61, .one (.d (.i .i64 ((p0.Over.length : Nat) : Int)))), (62, .one (.d (.i .i64 ((a : Nat) : Int))))]) (fun a => []) (p0.Over.length + 1) (0) h (wk_c _ _ _ [] rfl (by simp only [go_sem, List.map_append, List.map_cons, List.map_nil, Option.some.injEq, Prod.mk.injEq, SC.d.injEq, D.l.injEq, List.map_set])) (fun a h => by simp only [store_doubts_L3, reduceCtorEq] at h) ?_
   intro n32 a31_1 h
   try dsimp only at h
   rw [store_doubts_L3] at h
   rcases of_if h with ⟨hb33, h⟩ | ⟨hb33, h⟩
   ·have hkhb33 := of_decide_eq_true hb33
    obtain ⟨x34, hx34, h⟩ := obi h
    have hkx34 := gtx hx34
    try simp only [List.length_take, List.length_drop, List.length_append, List.length_set, List.length_map, List.length_cons, List.length_nil, Nat.zero_add] at hkx34
    obtain ⟨v35, hv35, h⟩ := obi h
    try simp only [hb33, hkhb33, hx34, hkx34, go_sem]
    refine ⟨_, _, CallD.ro false (store_txn_ok G x34 v35 hv35) rfl (.inl rfl) rfl, ?_⟩
    rcases of_if h with ⟨hb36, h⟩ | ⟨hb36, h⟩
    ·have hkhb36 := not_eq_t hb36
     simp only [Option.some.injEq] at h
     subst h
     try simp only [hb33, hkhb33, hx34, hkx34, hb36, hkhb36, go_sem, List.map_append, List.map_cons, List.map_nil, List.map_set]
    ·have hkhb36 := not_eq_f hb36
     have hle37 := Nat.le_of_lt hkx34
     obtain ⟨v38, hv38, h⟩ := obi h
     try simp only [hb33, hkhb33, hx34, hkx34, hb36, hkhb36, hle37, go_sem]
     refine ⟨_, _, CallD.ro false (slices_Contains_Txn_ok G (p0.Over.take a31_1) x34 v38 hv38) rfl (.inl rfl) rfl, ?_⟩
     rcases of_if h with ⟨hb39, h⟩ | ⟨hb39, h⟩
     ·simp only [Option.some.injEq] at h
      subst h
      try simp only [hb33, hkhb33, hx34, hkx34, hb36, hkhb36, hle37, hb39, go_sem, List.map_append, List.map_cons, List.map_nil, List.map_set]
     ·have hw40 := wrap_succ_max hkx34 hl28
      try simp only [hb33, hkhb33, hx34, hkx34, hb36, hkhb36, hle37, hb39, hw40, go_sem]
      exact loopQ_c (a31_1 + 1) h [] rfl (by simp only [hb33, hkhb33, hx34, hkx34, hb36, hkhb36, hle37, hb39, hw40, go_sem, List.map_append, List.map_cons, List.map_nil, Option.some.injEq, Prod.mk.injEq, SC.d.injEq, D.l.injEq, List.map_set])
   ·try simp only [hb33, go_sem]
    exact joinQ_c () h [] rfl (by simp only [hb33, go_sem, List.map_append, List.map_cons, List.map_nil, Option.some.injEq, Prod.mk.injEq, SC.d.injEq, D.l.injEq, List.map_set])
  ·try dsimp only at h
   rw [hk30] at h
   simp only [Option.some.injEq] at h
   subst h
   try simp only [go_sem, List.map_append, List.map_cons, List.map_nil, List.map_set]
def store_doubted_1 (p0 : Doubt) (p1 : Txn) : Option (Bool) := (some ((p0.Txn.Site == p1.Site) && (p0.Txn.N == p1.N)))
def F72 : VFn := ⟨8, (.seq (.reg [vo 2 (.boxk 3 (.t 0)), vo 3 (.mv (cb false))]) (.seq (.reg [vo 4 (.fa 0 (.t 2)), vo 5 (.ld true 2 (.t 4)), vo 6 (.ld true 2 (.t 1)), vo 7 (.eqs false [.i, .i] (.t 5) (.t 6)), vm 3 7]) .ret)), [.t 3]⟩
theorem low72 : lowF Try.prog 72 = some F72.strip := by kernel_rfl
theorem fok72 : fOk Try.prog 72 = true := by kernel_rfl
theorem store_doubted_1_ok (G : Nat → Option (List D)) (p0 : Doubt) (p1 : Txn) (r : Bool) (h : store_doubted_1 p0 p1 = some r) : FnRO Try.prog G 72 [.agg [.d (.i .i64 p0.Txn.Site), .d (.i .i64 p0.Txn.N), .d (.i .i64 p0.Age)], .one (.d (.k [.i .i64 p1.Site, .i .i64 p1.N]))] (fun rs => rs = [.one (.b r)]) := by
 refine FnRO.of' low72 fok72 (by simp [F72]) ?_
 rw [store_doubted_1] at h
 simp only [F72, go_sem]
 simp only [Option.some.injEq] at h
 subst h
 try simp only [go_sem, List.map_append, List.map_cons, List.map_nil, List.map_set]
def slices_IndexFunc_Doubt_L1 (p0 : List Doubt) (p1 : Doubt → Option (Bool)) (k3 : Option (Int)) : Nat → Nat → Option (Int)
 | 0, _ => none
 | n5 + 1, a4_1 => (if (decide (a4_1 < p0.length)) = true then (Option.bind (p0[a4_1]?) fun x7 => (Option.bind (p1 x7) fun v8 => (if v8 = true then (some ((a4_1 : Nat) : Int)) else (slices_IndexFunc_Doubt_L1 p0 p1 k3 n5 (a4_1 + 1))))) else k3)
def slices_IndexFunc_Doubt (p0 : List Doubt) (p1 : Doubt → Option (Bool)) : Option (Int) := (withK (some (-1)) fun k3 => (slices_IndexFunc_Doubt_L1 p0 p1 k3 (p0.length + 1) 0))
def F64 : VFn := ⟨19, (.seq (.reg [vo 4 (.mv (ci 0))]) (.seq (.seq (.reg [vm 6 0, vo 7 (.len (.t 6)), vo 8 (.mv (ci 0))]) (.wk (.block 0 (.loop (.seq (.reg [vo 9 (.bin .i .lss (.t 8) (.t 7))]) (.seq (.cond (.t 9) .skip (.exit 0)) (.seq (.block 1 (.seq (.reg [vm 10 8, vm 5 10]) (.seq (.reg [vm 11 1, vm 12 0, vm 13 5, vo 14 (.ia 3 (.t 12) (.t 13)), vo 15 (.ld true 3 (.t 14)), vo 16 (.callv (.t 11) [(.t 15)])]) (.cond (.t 16) (.seq (.reg [vm 17 5, vm 4 17]) .ret) .skip)))) (.reg [vo 18 (.bin .i .add (.t 8) (ci 1)), vm 8 18])))))))) (.seq (.reg [vo 4 (.mv (ci (-1)))]) .ret))), [.t 4]⟩
theorem low64 : lowF Try.prog 64 = some F64.strip := by kernel_rfl
theorem fok64 : fOk Try.prog 64 = true := by kernel_rfl
theorem slices_IndexFunc_Doubt_ok (G : Nat → Option (List D)) (p0 : List Doubt) (p1 : Doubt → Option (Bool)) (g_p1 : Nat) (c_p1 : List D) (h_p1 : ∀ (x0 : Doubt) (r : Bool), p1 x0 = some r → FnRO Try.prog G g_p1 ([.agg [.d (.i .i64 x0.Txn.Site), .d (.i .i64 x0.Txn.N), .d (.i .i64 x0.Age)]] ++ c_p1.map fun d => .one (.d d)) (fun rs => rs = [.one (.b r)])) (r : Int) (h : slices_IndexFunc_Doubt p0 p1 = some r) : FnRO Try.prog G 64 [.one (.d (.l 3 (p0.map Doubt.enc))), .one (.d (.f g_p1 c_p1))] (fun rs => rs = [.one (.i .i64 r)]) := by
 refine FnRO.of' low64 fok64 (by simp [F64]) ?_
 rw [slices_IndexFunc_Doubt] at h
 simp only [F64, go_sem]
 try simp only [go_sem]
 intro hl1
 obtain ⟨k3, hk3, h⟩ := withK_lk0 h
 try simp only [go_sem]
 refine join_lk Try.prog G _ _ (B := Unit) (fun b => k3 = some r) (fun b => []) (fun b => []) ?_ (fun b h => ?_)
 ·try simp only [go_sem]
  refine loop_lk Try.prog G _ _ (A := Nat) (fun n a => slices_IndexFunc_Doubt_L1 p0 p1 k3 n a = some r) (fun a => [(0, .one (.d (.l 3 (p0.map Doubt.enc)))), (1, .one (.d (.f g_p1 c_p1))), (7, .one (.d (.i .i64 ((p0.length : Nat) : Int)))), (8, .one (.d (.i .i64 ((a : Nat) : Int))))]) (fun a => []) (p0.length + 1) (0) h (wk_c _ _ _ [] rfl (by simp only [go_sem, List.map_append, List.map_cons, List.map_nil, Option.some.injEq, Prod.mk.injEq, SC.d.injEq, D.l.injEq, List.map_set])) (fun a h => by simp only [slices_IndexFunc_Doubt_L1, reduceCtorEq] at h) ?_
  intro n5 a4_1 h
  try dsimp only at h
  rw [slices_IndexFunc_Doubt_L1] at h
  rcases of_if h with ⟨hb6, h⟩ | ⟨hb6, h⟩
  ·have hkhb6 := of_decide_eq_true hb6
   obtain ⟨x7, hx7, h⟩ := obi h
   have hkx7 := gtx hx7
   try simp only [List.length_take, List.length_drop, List.length_append, List.length_set, List.length_map, List.length_cons, List.length_nil, Nat.zero_add] at hkx7
   obtain ⟨v8, hv8, h⟩ := obi h
   try simp only [hb6, hkhb6, hx7, hkx7, go_sem]
   refine CallV.ro false (h_p1 x7 v8 hv8) (by first | rfl | simp only [hb6, hkhb6, hx7, hkx7, go_sem, inVs_caps]) ?_
   rintro rs rfl
   refine ⟨.inl rfl, ?_⟩
   rcases of_if h with ⟨hb9, h⟩ | ⟨hb9, h⟩
   ·simp only [Option.some.injEq] at h
    subst h
    try simp only [hb6, hkhb6, hx7, hkx7, hb9, go_sem, List.map_append, List.map_cons, List.map_nil, List.map_set]
   ·have hw10 := wrap_succ_max hkx7 hl1
    try simp only [hb6, hkhb6, hx7, hkx7, hb9, hw10, go_sem]
    exact loopQ_c (a4_1 + 1) h [] rfl (by simp only [hb6, hkhb6, hx7, hkx7, hb9, hw10, go_sem, List.map_append, List.map_cons, List.map_nil, Option.some.injEq, Prod.mk.injEq, SC.d.injEq, D.l.injEq, List.map_set])
  ·try simp only [hb6, go_sem]
   exact joinQ_c () h [] rfl (by simp only [hb6, go_sem, List.map_append, List.map_cons, List.map_nil, Option.some.injEq, Prod.mk.injEq, SC.d.injEq, D.l.injEq, List.map_set])
 ·try dsimp only at h
  rw [hk3] at h
  simp only [Option.some.injEq] at h
  subst h
  try simp only [go_sem, List.map_append, List.map_cons, List.map_nil, List.map_set]
def slices_ContainsFunc_Doubt (p0 : List Doubt) (p1 : Doubt → Option (Bool)) : Option (Bool) := (Option.bind (slices_IndexFunc_Doubt p0 p1) fun v1 => (some (decide (v1 ≥ 0))))
def F71 : VFn := ⟨9, (.seq (.reg [vo 4 (.mv (cb false))]) (.seq (.reg [vm 5 0, vm 6 1, vo 7 (.call 64 [(.t 5), (.t 6)]), vo 8 (.bin .i .geq (.t 7) (ci 0)), vm 4 8]) .ret)), [.t 4]⟩
theorem low71 : lowF Try.prog 71 = some F71.strip := by kernel_rfl
theorem fok71 : fOk Try.prog 71 = true := by kernel_rfl
theorem slices_ContainsFunc_Doubt_ok (G : Nat → Option (List D)) (p0 : List Doubt) (p1 : Doubt → Option (Bool)) (g_p1 : Nat) (c_p1 : List D) (h_p1 : ∀ (x0 : Doubt) (r : Bool), p1 x0 = some r → FnRO Try.prog G g_p1 ([.agg [.d (.i .i64 x0.Txn.Site), .d (.i .i64 x0.Txn.N), .d (.i .i64 x0.Age)]] ++ c_p1.map fun d => .one (.d d)) (fun rs => rs = [.one (.b r)])) (r : Bool) (h : slices_ContainsFunc_Doubt p0 p1 = some r) : FnRO Try.prog G 71 [.one (.d (.l 3 (p0.map Doubt.enc))), .one (.d (.f g_p1 c_p1))] (fun rs => rs = [.one (.b r)]) := by
 refine FnRO.of' low71 fok71 (by simp [F71]) ?_
 rw [slices_ContainsFunc_Doubt] at h
 simp only [F71, go_sem]
 obtain ⟨v1, hv1, h⟩ := obi h
 try simp only [go_sem]
 refine CallV.ro false (slices_IndexFunc_Doubt_ok G p0 p1 g_p1 c_p1 h_p1 v1 hv1) (by first | rfl | (simp only [go_sem, inVs_caps]; done) | simp only [go_sem, inVs_caps, List.map_append, List.map_cons, List.map_nil, List.map_set]) ?_
 rintro rs rfl
 refine ⟨.inl rfl, ?_⟩
 simp only [Option.some.injEq] at h
 subst h
 try simp only [go_sem, List.map_append, List.map_cons, List.map_nil, List.map_set]
def store_doubted (p0 : Store) (p1 : Txn) : Option (Bool) := (Option.bind (slices_ContainsFunc_Doubt p0.Doubts (fun y1 => store_doubted_1 y1 p1)) fun v2 => (some v2))
def F68 : VFn := ⟨9, (.seq (.reg [vo 2 (.box 4 (.t 0)), vo 3 (.box 2 (.t 1)), vo 4 (.mv (cb false))]) (.seq (.reg [vo 5 (.fa 2 (.t 2)), vo 6 (.ld false 1 (.t 5)), vo 7 (.mkf 72 [(.t 3)]), vo 8 (.call 71 [(.t 6), (.t 7)]), vm 4 8]) .ret)), [.t 4]⟩
theorem low68 : lowF Try.prog 68 = some F68.strip := by kernel_rfl
theorem fok68 : fOk Try.prog 68 = true := by kernel_rfl
theorem store_doubted_ok (G : Nat → Option (List D)) (p0 : Store) (p1 : Txn) (r : Bool) (h : store_doubted p0 p1 = some r) : FnRO Try.prog G 68 [.agg [.d (.l 3 (p0.Items.map Item.enc)), .d (.l 6 (p0.Locks.map Lock.enc)), .d (.l 3 (p0.Doubts.map Doubt.enc)), .d (.l 2 (p0.Over.map Txn.enc))], .agg [.d (.i .i64 p1.Site), .d (.i .i64 p1.N)]] (fun rs => rs = [.one (.b r)]) := by
 refine FnRO.of' low68 fok68 (by simp [F68]) ?_
 rw [store_doubted] at h
 simp only [F68, go_sem]
 obtain ⟨v2, hv2, h⟩ := obi h
 try simp only [go_sem]
 refine CallV.ro true (slices_ContainsFunc_Doubt_ok G p0.Doubts (fun y1 => store_doubted_1 y1 p1) 72 [.k [.i .i64 p1.Site, .i .i64 p1.N]] (fun y1 r h => store_doubted_1_ok G y1 p1 r h) v2 hv2) (by first | rfl | (simp only [go_sem, inVs_caps]; done) | simp only [go_sem, inVs_caps, List.map_append, List.map_cons, List.map_nil, List.map_set]) ?_
 rintro rs rfl
 refine ⟨.inr (by simp only [go_sem, RV.plain, D.plain, D.plain0, D.plain1, List.all_map, Function.comp_def, all_tt]), ?_⟩
 simp only [Option.some.injEq] at h
 subst h
 try simp only [go_sem, List.map_append, List.map_cons, List.map_nil, List.map_set]
def store_locks_L2 (p0 : Store) (a4_1 : Nat) (x7 : Lock) (k21 : Option (Bool)) : Nat → Nat → Option (Bool)
 | 0, _ => none
 | n23 + 1, a22_1 => (if (decide (a22_1 < min a4_1 p0.Locks.length)) = true then (Option.bind ((p0.Locks.take a4_1)[a22_1]?) fun x25 => (if (x25.Key == x7.Key) = true then (if ((x25.Txn.Site == x7.Txn.Site) && (x25.Txn.N == x7.Txn.N)) = true then (some false) else (if x25.Write = true then (some false) else (store_locks_L2 p0 a4_1 x7 k21 n23 (a22_1 + 1)))) else (store_locks_L2 p0 a4_1 x7 k21 n23 (a22_1 + 1)))) else k21)
def store_locks_L3 (p0 : Store) (a4_1 : Nat) (x7 : Lock) (k35 : Option (Bool)) : Nat → Nat → Option (Bool)
 | 0, _ => none
 | n37 + 1, a36_1 => (if (decide (a36_1 < min a4_1 p0.Locks.length)) = true then (Option.bind ((p0.Locks.take a4_1)[a36_1]?) fun x39 => (if (x39.Key == x7.Key) = true then (if ((x39.Txn.Site == x7.Txn.Site) && (x39.Txn.N == x7.Txn.N)) = true then (some false) else (if x39.Write = true then (some false) else (some false))) else (store_locks_L3 p0 a4_1 x7 k35 n37 (a36_1 + 1)))) else k35)
def store_locks_L1 (p0 : Store) (k3 : Option (Bool)) : Nat → Nat → Option (Bool)
 | 0, _ => none
 | n5 + 1, a4_1 => (if (decide (a4_1 < p0.Locks.length)) = true then (Option.bind (p0.Locks[a4_1]?) fun x7 => (Option.bind (store_doubted p0 x7.Txn) fun v8 => (if (!v8) = true then (some false) else (if (decide (x7.Key < 0)) = true then (some false) else (if (decide (x7.Key ≥ 8)) = true then (some false) else (if (decide (x7.Value < 0)) = true then (some false) else (if (decide (x7.Value > 1073741824)) = true then (some false) else (if (decide (x7.Ask < 0)) = true then (some false) else (if (decide (x7.Ask > 1048576)) = true then (some false) else (if (!x7.Write) = true then (if (IntKind.i64.wrap (x7.Value + x7.Ask) != 0) = true then (some false) else (withK (store_locks_L1 p0 k3 n5 (a4_1 + 1)) fun k21 => (store_locks_L2 p0 a4_1 x7 k21 (min a4_1 p0.Locks.length + 1) 0))) else (withK (store_locks_L1 p0 k3 n5 (a4_1 + 1)) fun k35 => (store_locks_L3 p0 a4_1 x7 k35 (min a4_1 p0.Locks.length + 1) 0)))))))))))) else k3)
def store_locks (p0 : Store) : Option (Bool) := (withK (some (decide (((p0.Locks.length : Nat) : Int) ≤ 24))) fun k3 => (store_locks_L1 p0 k3 (p0.Locks.length + 1) 0))
def F53 : VFn := ⟨98, (.seq (.reg [vo 1 (.boxk 4 (.t 0)), vo 2 (.mv (cb false))]) (.seq (.seq (.reg [vo 7 (.fa 1 (.t 1)), vo 8 (.ld false 1 (.t 7)), vo 9 (.len (.t 8)), vo 10 (.mv (ci 0))]) (.wk (.block 0 (.loop (.seq (.reg [vo 11 (.bin .i .lss (.t 10) (.t 9))]) (.seq (.cond (.t 11) .skip (.exit 0)) (.seq (.block 1 (.seq (.reg [vm 12 10, vo 13 (.ia 6 (.t 8) (.t 10)), vo 14 (.ld true 6 (.t 13)), vo 4 (.alloc [(zi 0), (zi 0), (zi 0), (.d (.b false)), (zi 0), (zi 0)]), vm 3 12, vu (.st 6 (.t 4) (.t 14))]) (.seq (.seq (.reg [vo 15 (.ld true 4 (.t 1)), vo 16 (.fa 0 (.t 4)), vo 17 (.ld true 2 (.t 16)), vo 18 (.call 68 [(.t 15), (.t 17)]), vo 19 (.un .not (.t 18)), vm 20 19, ⟨(some 21), .fa 2 (.t 4), (some (20, false))⟩, ⟨(some 22), .ld false 1 (.t 21), (some (20, false))⟩, ⟨(some 23), .bin .i .lss (.t 22) (ci 0), (some (20, false))⟩, vo 24 (.pick (.t 20) (cb true) (.t 23)), vm 25 24, ⟨(some 26), .fa 2 (.t 4), (some (25, false))⟩, ⟨(some 27), .ld false 1 (.t 26), (some (25, false))⟩, ⟨(some 28), .bin .i .geq (.t 27) (ci 8), (some (25, false))⟩, vo 29 (.pick (.t 25) (cb true) (.t 28)), vm 30 29, ⟨(some 31), .fa 4 (.t 4), (some (30, false))⟩, ⟨(some 32), .ld false 1 (.t 31), (some (30, false))⟩, ⟨(some 33), .bin .i .lss (.t 32) (ci 0), (some (30, false))⟩, vo 34 (.pick (.t 30) (cb true) (.t 33)), vm 35 34, ⟨(some 36), .fa 4 (.t 4), (some (35, false))⟩, ⟨(some 37), .ld false 1 (.t 36), (some (35, false))⟩, ⟨(some 38), .bin .i .gtr (.t 37) (ci 1073741824), (some (35, false))⟩, vo 39 (.pick (.t 35) (cb true) (.t 38)), vm 40 39, ⟨(some 41), .fa 5 (.t 4), (some (40, false))⟩, ⟨(some 42), .ld false 1 (.t 41), (some (40, false))⟩, ⟨(some 43), .bin .i .lss (.t 42) (ci 0), (some (40, false))⟩, vo 44 (.pick (.t 40) (cb true) (.t 43)), vm 45 44, ⟨(some 46), .fa 5 (.t 4), (some (45, false))⟩, ⟨(some 47), .ld false 1 (.t 46), (some (45, false))⟩, ⟨(some 48), .bin .i .gtr (.t 47) (ci 1048576), (some (45, false))⟩, vo 49 (.pick (.t 45) (cb true) (.t 48)), vm 50 49, ⟨(some 51), .fa 3 (.t 4), (some (50, false))⟩, ⟨(some 52), .ld false 1 (.t 51), (some (50, false))⟩, ⟨(some 53), .un .not (.t 52), (some (50, false))⟩, ⟨(some 54), .mv (.t 53), (some (50, false))⟩, ⟨(some 55), .fa 4 (.t 4), (some (54, true))⟩, ⟨(some 56), .ld false 1 (.t 55), (some (54, true))⟩, ⟨(some 57), .fa 5 (.t 4), (some (54, true))⟩, ⟨(some 58), .ld false 1 (.t 57), (some (54, true))⟩, ⟨(some 59), .bin .i .add (.t 56) (.t 58), (some (54, true))⟩, ⟨(some 60), .bin .i .neq (.t 59) (ci 0), (some (54, true))⟩, ⟨(some 61), .pick (.t 54) (.t 60) (cb false), (some (50, false))⟩, vo 62 (.pick (.t 50) (cb true) (.t 61))]) (.cond (.t 62) (.seq (.reg [vo 2 (.mv (cb false))]) .ret) .skip)) (.seq (.reg [vo 63 (.fa 1 (.t 1)), vo 64 (.ld false 1 (.t 63)), vm 65 3, vo 66 (.sl 6 (.t 64) none (some (.t 65))), vo 67 (.len (.t 66)), vo 68 (.mv (ci 0))]) (.wk (.block 2 (.loop (.seq (.reg [vo 69 (.bin .i .lss (.t 68) (.t 67))]) (.seq (.cond (.t 69) .skip (.exit 2)) (.seq (.block 3 (.seq (.reg [vo 70 (.ia 6 (.t 66) (.t 68)), vo 71 (.ld true 6 (.t 70)), vo 6 (.alloc [(zi 0), (zi 0), (zi 0), (.d (.b false)), (zi 0), (zi 0)]), vu (.st 6 (.t 6) (.t 71))]) (.seq (.reg [vo 72 (.fa 2 (.t 6)), vo 73 (.ld false 1 (.t 72)), vo 74 (.fa 2 (.t 4)), vo 75 (.ld false 1 (.t 74)), vo 76 (.bin .i .eql (.t 73) (.t 75)), vm 77 76, ⟨(some 78), .fa 0 (.t 6), (some (77, true))⟩, ⟨(some 79), .ld true 2 (.t 78), (some (77, true))⟩, ⟨(some 80), .fa 0 (.t 4), (some (77, true))⟩, ⟨(some 81), .ld true 2 (.t 80), (some (77, true))⟩, ⟨(some 82), .eqs false [.i, .i] (.t 79) (.t 81), (some (77, true))⟩, ⟨(some 83), .mv (.t 82), (some (77, true))⟩, ⟨(some 84), .fa 3 (.t 6), (some (83, false))⟩, ⟨(some 85), .ld false 1 (.t 84), (some (83, false))⟩, ⟨(some 86), .pick (.t 83) (cb true) (.t 85), (some (77, true))⟩, ⟨(some 87), .mv (.t 86), (some (77, true))⟩, ⟨(some 88), .fa 3 (.t 4), (some (87, false))⟩, ⟨(some 89), .ld false 1 (.t 88), (some (87, false))⟩, ⟨(some 90), .pick (.t 87) (cb true) (.t 89), (some (77, true))⟩, vo 91 (.pick (.t 77) (.t 90) (cb false))]) (.cond (.t 91) (.seq (.reg [vo 2 (.mv (cb false))]) .ret) .skip)))) (.reg [vo 92 (.bin .i .add (.t 68) (ci 1)), vm 68 92]))))))))))) (.reg [vo 93 (.bin .i .add (.t 10) (ci 1)), vm 10 93])))))))) (.seq (.reg [vo 94 (.fa 1 (.t 1)), vo 95 (.ld false 1 (.t 94)), vo 96 (.len (.t 95)), vo 97 (.bin .i .leq (.t 96) (ci 24)), vm 2 97]) .ret))), [.t 2]⟩
theorem low53 : lowF Try.prog 53 = some F53.strip := by kernel_rfl
theorem fok53 : fOk Try.prog 53 = true := by kernel_rfl
theorem store_locks_ok (G : Nat → Option (List D)) (p0 : Store) (r : Bool) (h : store_locks p0 = some r) : FnRO Try.prog G 53 [.agg [.d (.l 3 (p0.Items.map Item.enc)), .d (.l 6 (p0.Locks.map Lock.enc)), .d (.l 3 (p0.Doubts.map Doubt.enc)), .d (.l 2 (p0.Over.map Txn.enc))]] (fun rs => rs = [.one (.b r)]) := by
 refine FnRO.of' low53 fok53 (by simp [F53]) ?_
 rw [store_locks] at h
 simp only [F53, go_sem]
 try simp only [go_sem]
 intro hl1
 obtain ⟨k3, hk3, h⟩ := withK_lk0 h
 try simp only [go_sem]
 refine join_lk Try.prog G _ _ (B := Unit) (fun b => k3 = some r) (fun b => [(1, .one (.d (.k (Store.enc p0))))]) (fun b => []) ?_ (fun b h => ?_)
 ·try simp only [go_sem]
  refine loop_lk Try.prog G _ _ (A := Nat) (fun n a => store_locks_L1 p0 k3 n a = some r) (fun a => [(1, .one (.d (.k (Store.enc p0)))), (8, .one (.d (.l 6 (p0.Locks.map Lock.enc)))), (9, .one (.d (.i .i64 ((p0.Locks.length : Nat) : Int)))), (10, .one (.d (.i .i64 ((a : Nat) : Int))))]) (fun a => []) (p0.Locks.length + 1) (0) h (wk_c _ _ _ [] rfl (by simp only [go_sem, List.map_append, List.map_cons, List.map_nil, Option.some.injEq, Prod.mk.injEq, SC.d.injEq, D.l.injEq, List.map_set])) (fun a h => by simp only [store_locks_L1, reduceCtorEq] at h) ?_
  intro n5 a4_1 h
  try dsimp only at h
  rw [store_locks_L1] at h
  rcases of_if h with ⟨hb6, h⟩ | ⟨hb6, h⟩
  ·have hkhb6 := of_decide_eq_true hb6
   obtain ⟨x7, hx7, h⟩ := obi h
   have hkx7 := gtx hx7
   try simp only [List.length_take, List.length_drop, List.length_append, List.length_set, List.length_map, List.length_cons, List.length_nil, Nat.zero_add] at hkx7
   obtain ⟨v8, hv8, h⟩ := obi h
   try simp only [hb6, hkhb6, hx7, hkx7, go_sem]
   refine CallV.ro false (store_doubted_ok G p0 x7.Txn v8 hv8) rfl ?_
   rintro rs rfl
   refine ⟨.inl rfl, ?_⟩
   rcases of_if h with ⟨hb9, h⟩ | ⟨hb9, h⟩
   ·have hkhb9 := not_eq_t hb9
    simp only [Option.some.injEq] at h
    subst h
    try simp only [hb6, hkhb6, hx7, hkx7, hb9, hkhb9, go_sem, List.map_append, List.map_cons, List.map_nil, List.map_set]
   ·have hkhb9 := not_eq_f hb9
    rcases of_if h with ⟨hb10, h⟩ | ⟨hb10, h⟩
    ·have hkhb10 := of_decide_eq_true hb10
     simp only [Option.some.injEq] at h
     subst h
     try simp only [hb6, hkhb6, hx7, hkx7, hb9, hkhb9, hb10, hkhb10, go_sem, List.map_append, List.map_cons, List.map_nil, List.map_set]
    ·rcases of_if h with ⟨hb11, h⟩ | ⟨hb11, h⟩
     ·simp only [Option.some.injEq] at h
      subst h
      try simp only [hb6, hkhb6, hx7, hkx7, hb9, hkhb9, hb10, hb11, go_sem, List.map_append, List.map_cons, List.map_nil, List.map_set]
     ·rcases of_if h with ⟨hb12, h⟩ | ⟨hb12, h⟩
      ·have hkhb12 := of_decide_eq_true hb12
       simp only [Option.some.injEq] at h
       subst h
       try simp only [hb6, hkhb6, hx7, hkx7, hb9, hkhb9, hb10, hb11, hb12, hkhb12, go_sem, List.map_append, List.map_cons, List.map_nil, List.map_set]
      ·rcases of_if h with ⟨hb13, h⟩ | ⟨hb13, h⟩
       ·simp only [Option.some.injEq] at h
        subst h
        try simp only [hb6, hkhb6, hx7, hkx7, hb9, hkhb9, hb10, hb11, hb12, hb13, go_sem, List.map_append, List.map_cons, List.map_nil, List.map_set]
       ·rcases of_if h with ⟨hb14, h⟩ | ⟨hb14, h⟩
        ·have hkhb14 := of_decide_eq_true hb14
         simp only [Option.some.injEq] at h
         subst h
         try simp only [hb6, hkhb6, hx7, hkx7, hb9, hkhb9, hb10, hb11, hb12, hb13, hb14, hkhb14, go_sem, List.map_append, List.map_cons, List.map_nil, List.map_set]
        ·rcases of_if h with ⟨hb15, h⟩ | ⟨hb15, h⟩
         ·simp only [Option.some.injEq] at h
          subst h
          try simp only [hb6, hkhb6, hx7, hkx7, hb9, hkhb9, hb10, hb11, hb12, hb13, hb14, hb15, go_sem, List.map_append, List.map_cons, List.map_nil, List.map_set]
         ·rcases of_if h with ⟨hb16, h⟩ | ⟨hb16, h⟩
          ·have hkhb16 := not_eq_t hb16
           rcases of_if h with ⟨hb17, h⟩ | ⟨hb17, h⟩
           ·simp only [Option.some.injEq] at h
            subst h
            try simp only [hb6, hkhb6, hx7, hkx7, hb9, hkhb9, hb10, hb11, hb12, hb13, hb14, hb15, hb16, hkhb16, hb17, go_sem, List.map_append, List.map_cons, List.map_nil, List.map_set]
           ·have hle18 := Nat.le_of_lt hkx7
            try simp only [hb6, hkhb6, hx7, hkx7, hb9, hkhb9, hb10, hb11, hb12, hb13, hb14, hb15, hb16, hkhb16, hb17, hle18, go_sem]
            intro hl19
            obtain ⟨k21, hk21, h⟩ := withK_lk0 h
            try simp only [hb6, hkhb6, hx7, hkx7, hb9, hkhb9, hb10, hb11, hb12, hb13, hb14, hb15, hb16, hkhb16, hb17, hle18, go_sem]
            refine join_lk Try.prog G _ _ (B := Unit) (fun b => k21 = some r) (fun b => [(1, .one (.d (.k (Store.enc p0)))), (8, .one (.d (.l 6 (p0.Locks.map Lock.enc)))), (9, .one (.d (.i .i64 ((p0.Locks.length : Nat) : Int)))), (10, .one (.d (.i .i64 ((a4_1 : Nat) : Int)))), (21, .one (.p (.q 0 0 2))), (22, .one (zi x7.Key)), (23, .one (.d (.b false))), (26, .one (.p (.q 0 0 2))), (27, .one (zi x7.Key)), (28, .one (.d (.b false))), (31, .one (.p (.q 0 0 4))), (32, .one (zi x7.Value)), (33, .one (.d (.b false))), (36, .one (.p (.q 0 0 4))), (37, .one (zi x7.Value)), (38, .one (.d (.b false))), (41, .one (.p (.q 0 0 5))), (42, .one (zi x7.Ask)), (43, .one (.d (.b false))), (46, .one (.p (.q 0 0 5))), (47, .one (zi x7.Ask)), (48, .one (.d (.b false))), (51, .one (.p (.q 0 0 3))), (52, .one (.d (.b false))), (53, .one (.d (.b true))), (54, .one (.d (.b true))), (55, .one (.p (.q 0 0 4))), (56, .one (zi x7.Value)), (57, .one (.p (.q 0 0 5))), (58, .one (zi x7.Ask)), (59, .one (.d (.i .i64 (IntKind.i64.wrap (x7.Value + x7.Ask))))), (60, .one (.d (.b false))), (61, .one (.d (.b false)))]) (fun b => [some (.box [zi x7.Txn.Site, zi x7.Txn.N, zi x7.Key, .d (.b false), zi x7.Value, zi x7.Ask])]) ?_ (fun b h => ?_)
            ·try simp only [hb6, hkhb6, hx7, hkx7, hb9, hkhb9, hb10, hb11, hb12, hb13, hb14, hb15, hb16, hkhb16, hb17, hle18, go_sem]
             refine loop_lk Try.prog G _ _ (A := Nat) (fun n a => store_locks_L2 p0 a4_1 x7 k21 n a = some r) (fun a => [(1, .one (.d (.k (Store.enc p0)))), (4, .one (.p (.q 0 0 0))), (8, .one (.d (.l 6 (p0.Locks.map Lock.enc)))), (9, .one (.d (.i .i64 ((p0.Locks.length : Nat) : Int)))), (10, .one (.d (.i .i64 ((a4_1 : Nat) : Int)))), (21, .one (.p (.q 0 0 2))), (22, .one (zi x7.Key)), (23, .one (.d (.b false))), (26, .one (.p (.q 0 0 2))), (27, .one (zi x7.Key)), (28, .one (.d (.b false))), (31, .one (.p (.q 0 0 4))), (32, .one (zi x7.Value)), (33, .one (.d (.b false))), (36, .one (.p (.q 0 0 4))), (37, .one (zi x7.Value)), (38, .one (.d (.b false))), (41, .one (.p (.q 0 0 5))), (42, .one (zi x7.Ask)), (43, .one (.d (.b false))), (46, .one (.p (.q 0 0 5))), (47, .one (zi x7.Ask)), (48, .one (.d (.b false))), (51, .one (.p (.q 0 0 3))), (52, .one (.d (.b false))), (53, .one (.d (.b true))), (54, .one (.d (.b true))), (55, .one (.p (.q 0 0 4))), (56, .one (zi x7.Value)), (57, .one (.p (.q 0 0 5))), (58, .one (zi x7.Ask)), (59, .one (.d (.i .i64 (IntKind.i64.wrap (x7.Value + x7.Ask))))), (60, .one (.d (.b false))), (61, .one (.d (.b false))), (66, .one (.d (.l 6 ((p0.Locks.take a4_1).map Lock.enc)))), (67, .one (.d (.i .i64 ((min a4_1 p0.Locks.length : Nat) : Int)))), (68, .one (.d (.i .i64 ((a : Nat) : Int))))]) (fun a => [some (.box [zi x7.Txn.Site, zi x7.Txn.N, zi x7.Key, .d (.b false), zi x7.Value, zi x7.Ask])]) (min a4_1 p0.Locks.length + 1) (0) h (wk_c _ _ _ [some 0] rfl (by simp only [hb6, hkhb6, hx7, hkx7, hb9, hkhb9, hb10, hb11, hb12, hb13, hb14, hb15, hb16, hkhb16, hb17, hle18, go_sem, List.map_append, List.map_cons, List.map_nil, Option.some.injEq, Prod.mk.injEq, SC.d.injEq, D.l.injEq, List.map_set])) (fun a h => by simp only [store_locks_L2, reduceCtorEq] at h) ?_
             intro n23 a22_1 h
             try dsimp only at h
             rw [store_locks_L2] at h
             rcases of_if h with ⟨hb24, h⟩ | ⟨hb24, h⟩
             ·obtain ⟨x25, hx25, h⟩ := obi h
              have hkx25 := gtx hx25
              try simp only [List.length_take, List.length_drop, List.length_append, List.length_set, List.length_map, List.length_cons, List.length_nil, Nat.zero_add] at hkx25
              rcases of_if h with ⟨hb26, h⟩ | ⟨hb26, h⟩
              ·rcases of_if h with ⟨hb27, h⟩ | ⟨hb27, h⟩
               ·try simp only [hkhb6, hx7, hkx7, hkhb9, hkhb16, hle18, hb24, hx25, hkx25, hb26, hb27, go_sem]
                simp only [Option.some.injEq] at h
                subst h
                try simp only [hkhb6, hx7, hkx7, hkhb9, hkhb16, hle18, hb24, hx25, hkx25, hb26, hb27, go_sem, List.map_append, List.map_cons, List.map_nil, List.map_set]
               ·try simp only [hkhb6, hx7, hkx7, hkhb9, hkhb16, hle18, hb24, hx25, hkx25, hb26, hb27, go_sem]
                rcases of_if h with ⟨hb28, h⟩ | ⟨hb28, h⟩
                ·simp only [Option.some.injEq] at h
                 subst h
                 try simp only [hkhb6, hx7, hkx7, hkhb9, hkhb16, hle18, hb24, hx25, hkx25, hb26, hb27, hb28, go_sem, List.map_append, List.map_cons, List.map_nil, List.map_set]
                ·have hw29 := wrap_succ_max hkx25 hl19
                 try simp only [hkhb6, hx7, hkx7, hkhb9, hkhb16, hle18, hb24, hx25, hkx25, hb26, hb27, hb28, hw29, go_sem]
                 exact loopQ_c (a22_1 + 1) h [some 0] rfl (by simp only [hkhb6, hx7, hkx7, hkhb9, hkhb16, hle18, hb24, hx25, hkx25, hb26, hb27, hb28, hw29, go_sem, List.map_append, List.map_cons, List.map_nil, Option.some.injEq, Prod.mk.injEq, SC.d.injEq, D.l.injEq, List.map_set])
              ·have hw30 := wrap_succ_max hkx25 hl19
               try simp only [hkhb6, hx7, hkx7, hkhb9, hkhb16, hle18, hb24, hx25, hkx25, hb26, hw30, go_sem]
               exact loopQ_c (a22_1 + 1) h [some 0] rfl (by simp only [hkhb6, hx7, hkx7, hkhb9, hkhb16, hle18, hb24, hx25, hkx25, hb26, hw30, go_sem, List.map_append, List.map_cons, List.map_nil, Option.some.injEq, Prod.mk.injEq, SC.d.injEq, D.l.injEq, List.map_set])
             ·try simp only [hkhb6, hx7, hkx7, hkhb9, hkhb16, hle18, hb24, go_sem]
              exact joinQ_c () h [some 0] rfl (by simp only [hkhb6, hx7, hkx7, hkhb9, hkhb16, hle18, hb24, go_sem, List.map_append, List.map_cons, List.map_nil, Option.some.injEq, Prod.mk.injEq, SC.d.injEq, D.l.injEq, List.map_set])
            ·try dsimp only at h
             rw [hk21] at h
             have hw31 := wrap_succ_max hkx7 hl1
             try simp only [hkhb6, hx7, hkx7, hkhb9, hkhb16, hle18, hw31, go_sem]
             exact loopQ_c (a4_1 + 1) h [] rfl (by simp only [hkhb6, hx7, hkx7, hkhb9, hkhb16, hle18, hw31, go_sem, List.map_append, List.map_cons, List.map_nil, Option.some.injEq, Prod.mk.injEq, SC.d.injEq, D.l.injEq, List.map_set])
          ·have hkhb16 := not_eq_f hb16
           have hle32 := Nat.le_of_lt hkx7
           try simp only [hb6, hkhb6, hx7, hkx7, hb9, hkhb9, hb10, hb11, hb12, hb13, hb14, hb15, hb16, hkhb16, hle32, go_sem]
           intro hl33
           obtain ⟨k35, hk35, h⟩ := withK_lk0 h
           try simp only [hb6, hkhb6, hx7, hkx7, hb9, hkhb9, hb10, hb11, hb12, hb13, hb14, hb15, hb16, hkhb16, hle32, go_sem]
           refine join_lk Try.prog G _ _ (B := Unit) (fun b => k35 = some r) (fun b => [(1, .one (.d (.k (Store.enc p0)))), (8, .one (.d (.l 6 (p0.Locks.map Lock.enc)))), (9, .one (.d (.i .i64 ((p0.Locks.length : Nat) : Int)))), (10, .one (.d (.i .i64 ((a4_1 : Nat) : Int)))), (21, .one (.p (.q 0 0 2))), (22, .one (zi x7.Key)), (23, .one (.d (.b false))), (26, .one (.p (.q 0 0 2))), (27, .one (zi x7.Key)), (28, .one (.d (.b false))), (31, .one (.p (.q 0 0 4))), (32, .one (zi x7.Value)), (33, .one (.d (.b false))), (36, .one (.p (.q 0 0 4))), (37, .one (zi x7.Value)), (38, .one (.d (.b false))), (41, .one (.p (.q 0 0 5))), (42, .one (zi x7.Ask)), (43, .one (.d (.b false))), (46, .one (.p (.q 0 0 5))), (47, .one (zi x7.Ask)), (48, .one (.d (.b false))), (51, .one (.p (.q 0 0 3))), (52, .one (.d (.b true))), (53, .one (.d (.b false))), (54, .one (.d (.b false))), (61, .one (.d (.b false)))]) (fun b => [some (.box [zi x7.Txn.Site, zi x7.Txn.N, zi x7.Key, .d (.b true), zi x7.Value, zi x7.Ask])]) ?_ (fun b h => ?_)
           ·try simp only [hb6, hkhb6, hx7, hkx7, hb9, hkhb9, hb10, hb11, hb12, hb13, hb14, hb15, hb16, hkhb16, hle32, go_sem]
            refine loop_lk Try.prog G _ _ (A := Nat) (fun n a => store_locks_L3 p0 a4_1 x7 k35 n a = some r) (fun a => [(1, .one (.d (.k (Store.enc p0)))), (4, .one (.p (.q 0 0 0))), (8, .one (.d (.l 6 (p0.Locks.map Lock.enc)))), (9, .one (.d (.i .i64 ((p0.Locks.length : Nat) : Int)))), (10, .one (.d (.i .i64 ((a4_1 : Nat) : Int)))), (21, .one (.p (.q 0 0 2))), (22, .one (zi x7.Key)), (23, .one (.d (.b false))), (26, .one (.p (.q 0 0 2))), (27, .one (zi x7.Key)), (28, .one (.d (.b false))), (31, .one (.p (.q 0 0 4))), (32, .one (zi x7.Value)), (33, .one (.d (.b false))), (36, .one (.p (.q 0 0 4))), (37, .one (zi x7.Value)), (38, .one (.d (.b false))), (41, .one (.p (.q 0 0 5))), (42, .one (zi x7.Ask)), (43, .one (.d (.b false))), (46, .one (.p (.q 0 0 5))), (47, .one (zi x7.Ask)), (48, .one (.d (.b false))), (51, .one (.p (.q 0 0 3))), (52, .one (.d (.b true))), (53, .one (.d (.b false))), (54, .one (.d (.b false))), (61, .one (.d (.b false))), (66, .one (.d (.l 6 ((p0.Locks.take a4_1).map Lock.enc)))), (67, .one (.d (.i .i64 ((min a4_1 p0.Locks.length : Nat) : Int)))), (68, .one (.d (.i .i64 ((a : Nat) : Int))))]) (fun a => [some (.box [zi x7.Txn.Site, zi x7.Txn.N, zi x7.Key, .d (.b true), zi x7.Value, zi x7.Ask])]) (min a4_1 p0.Locks.length + 1) (0) h (wk_c _ _ _ [some 0] rfl (by simp only [hb6, hkhb6, hx7, hkx7, hb9, hkhb9, hb10, hb11, hb12, hb13, hb14, hb15, hb16, hkhb16, hle32, go_sem, List.map_append, List.map_cons, List.map_nil, Option.some.injEq, Prod.mk.injEq, SC.d.injEq, D.l.injEq, List.map_set])) (fun a h => by simp only [store_locks_L3, reduceCtorEq] at h) ?_
            intro n37 a36_1 h
            try dsimp only at h
            rw [store_locks_L3] at h
            rcases of_if h with ⟨hb38, h⟩ | ⟨hb38, h⟩
            ·obtain ⟨x39, hx39, h⟩ := obi h
             have hkx39 := gtx hx39
             try simp only [List.length_take, List.length_drop, List.length_append, List.length_set, List.length_map, List.length_cons, List.length_nil, Nat.zero_add] at hkx39
             rcases of_if h with ⟨hb40, h⟩ | ⟨hb40, h⟩
             ·rcases of_if h with ⟨hb41, h⟩ | ⟨hb41, h⟩
              ·try simp only [hkhb6, hx7, hkx7, hkhb9, hkhb16, hle32, hb38, hx39, hkx39, hb40, hb41, go_sem]
               simp only [Option.some.injEq] at h
               subst h
               try simp only [hkhb6, hx7, hkx7, hkhb9, hkhb16, hle32, hb38, hx39, hkx39, hb40, hb41, go_sem, List.map_append, List.map_cons, List.map_nil, List.map_set]
              ·try simp only [hkhb6, hx7, hkx7, hkhb9, hkhb16, hle32, hb38, hx39, hkx39, hb40, hb41, go_sem]
               rcases of_if h with ⟨hb42, h⟩ | ⟨hb42, h⟩
               ·simp only [Option.some.injEq] at h
                subst h
                try simp only [hkhb6, hx7, hkx7, hkhb9, hkhb16, hle32, hb38, hx39, hkx39, hb40, hb41, hb42, go_sem, List.map_append, List.map_cons, List.map_nil, List.map_set]
               ·simp only [Option.some.injEq] at h
                subst h
                try simp only [hkhb6, hx7, hkx7, hkhb9, hkhb16, hle32, hb38, hx39, hkx39, hb40, hb41, hb42, go_sem, List.map_append, List.map_cons, List.map_nil, List.map_set]
             ·have hw43 := wrap_succ_max hkx39 hl33
              try simp only [hkhb6, hx7, hkx7, hkhb9, hkhb16, hle32, hb38, hx39, hkx39, hb40, hw43, go_sem]
              exact loopQ_c (a36_1 + 1) h [some 0] rfl (by simp only [hkhb6, hx7, hkx7, hkhb9, hkhb16, hle32, hb38, hx39, hkx39, hb40, hw43, go_sem, List.map_append, List.map_cons, List.map_nil, Option.some.injEq, Prod.mk.injEq, SC.d.injEq, D.l.injEq, List.map_set])
            ·try simp only [hkhb6, hx7, hkx7, hkhb9, hkhb16, hle32, hb38, go_sem]
             exact joinQ_c () h [some 0] rfl (by simp only [hkhb6, hx7, hkx7, hkhb9, hkhb16, hle32, hb38, go_sem, List.map_append, List.map_cons, List.map_nil, Option.some.injEq, Prod.mk.injEq, SC.d.injEq, D.l.injEq, List.map_set])
           ·try dsimp only at h
            rw [hk35] at h
            have hw44 := wrap_succ_max hkx7 hl1
            try simp only [hkhb6, hx7, hkx7, hkhb9, hkhb16, hle32, hw44, go_sem]
            exact loopQ_c (a4_1 + 1) h [] rfl (by simp only [hkhb6, hx7, hkx7, hkhb9, hkhb16, hle32, hw44, go_sem, List.map_append, List.map_cons, List.map_nil, Option.some.injEq, Prod.mk.injEq, SC.d.injEq, D.l.injEq, List.map_set])
  ·try simp only [hb6, go_sem]
   exact joinQ_c () h [] rfl (by simp only [hb6, go_sem, List.map_append, List.map_cons, List.map_nil, Option.some.injEq, Prod.mk.injEq, SC.d.injEq, D.l.injEq, List.map_set])
 ·try dsimp only at h
  rw [hk3] at h
  try simp only [go_sem]
  intro hl45
  simp only [Option.some.injEq] at h
  subst h
  try simp only [go_sem, List.map_append, List.map_cons, List.map_nil, List.map_set]
def store_Check (p0 : Store) : Option (Int) := (Option.bind (store_items p0.Items) fun v1 => (if (!v1) = true then (some 9) else (Option.bind (store_doubts p0) fun v3 => (if (!v3) = true then (some 9) else (Option.bind (store_locks p0) fun v5 => (if (!v5) = true then (some 9) else (some 0)))))))
def F26 : VFn := ⟨17, (.seq (.reg [vo 1 (.box 4 (.t 0)), vo 2 (.mv (ci 0))]) (.seq (.seq (.reg [vo 3 (.fa 0 (.t 1)), vo 4 (.ld false 1 (.t 3)), vo 5 (.call 51 [(.t 4)]), vo 6 (.un .not (.t 5)), vm 7 6, ⟨(some 8), .ld true 4 (.t 1), (some (7, false))⟩, ⟨(some 9), .call 52 [(.t 8)], (some (7, false))⟩, ⟨(some 10), .un .not (.t 9), (some (7, false))⟩, vo 11 (.pick (.t 7) (cb true) (.t 10)), vm 12 11, ⟨(some 13), .ld true 4 (.t 1), (some (12, false))⟩, ⟨(some 14), .call 53 [(.t 13)], (some (12, false))⟩, ⟨(some 15), .un .not (.t 14), (some (12, false))⟩, vo 16 (.pick (.t 12) (cb true) (.t 15))]) (.cond (.t 16) (.seq (.reg [vo 2 (.mv (ci 9))]) .ret) .skip)) (.seq (.reg [vo 2 (.mv (ci 0))]) .ret))), [.t 2]⟩
theorem low26 : lowF Try.prog 26 = some F26.strip := by kernel_rfl
theorem fok26 : fOk Try.prog 26 = true := by kernel_rfl
theorem store_Check_ok (G : Nat → Option (List D)) (p0 : Store) (r : Int) (h : store_Check p0 = some r) : FnRO Try.prog G 26 [.agg [.d (.l 3 (p0.Items.map Item.enc)), .d (.l 6 (p0.Locks.map Lock.enc)), .d (.l 3 (p0.Doubts.map Doubt.enc)), .d (.l 2 (p0.Over.map Txn.enc))]] (fun rs => rs = [.one (.i .i64 r)]) := by
 refine FnRO.of' low26 fok26 (by simp [F26]) ?_
 rw [store_Check] at h
 simp only [F26, go_sem]
 obtain ⟨v1, hv1, h⟩ := obi h
 try simp only [go_sem]
 refine CallV.ro false (store_items_ok G p0.Items v1 hv1) rfl ?_
 rintro rs rfl
 refine ⟨.inl rfl, ?_⟩
 rcases of_if h with ⟨hb2, h⟩ | ⟨hb2, h⟩
 ·have hkhb2 := not_eq_t hb2
  simp only [Option.some.injEq] at h
  subst h
  try simp only [hb2, hkhb2, go_sem, List.map_append, List.map_cons, List.map_nil, List.map_set]
 ·have hkhb2 := not_eq_f hb2
  obtain ⟨v3, hv3, h⟩ := obi h
  try simp only [hb2, hkhb2, go_sem]
  refine CallV.ro false (store_doubts_ok G p0 v3 hv3) rfl ?_
  rintro rs rfl
  refine ⟨.inl rfl, ?_⟩
  rcases of_if h with ⟨hb4, h⟩ | ⟨hb4, h⟩
  ·have hkhb4 := not_eq_t hb4
   simp only [Option.some.injEq] at h
   subst h
   try simp only [hb2, hkhb2, hb4, hkhb4, go_sem, List.map_append, List.map_cons, List.map_nil, List.map_set]
  ·have hkhb4 := not_eq_f hb4
   obtain ⟨v5, hv5, h⟩ := obi h
   try simp only [hb2, hkhb2, hb4, hkhb4, go_sem]
   refine CallV.ro false (store_locks_ok G p0 v5 hv5) rfl ?_
   rintro rs rfl
   refine ⟨.inl rfl, ?_⟩
   rcases of_if h with ⟨hb6, h⟩ | ⟨hb6, h⟩
   ·have hkhb6 := not_eq_t hb6
    simp only [Option.some.injEq] at h
    subst h
    try simp only [hb2, hkhb2, hb4, hkhb4, hb6, hkhb6, go_sem, List.map_append, List.map_cons, List.map_nil, List.map_set]
   ·have hkhb6 := not_eq_f hb6
    simp only [Option.some.injEq] at h
    subst h
    try simp only [hb2, hkhb2, hb4, hkhb4, hb6, hkhb6, go_sem, List.map_append, List.map_cons, List.map_nil, List.map_set]
def F11 : VFn := ⟨77, (.seq (.reg [vo 2 (.mv (ci 0))]) (.seq (.seq (.reg [vm 7 0, vo 8 (.nilchk (.t 7)), vo 9 (.fa 0 (.t 8)), vo 10 (.ld true 3 (.t 9)), vo 11 (.call 25 [(.t 10)]), vm 3 11]) (.seq (.reg [vm 12 3, vo 13 (.bin .i .neq (.t 12) (ci 0))]) (.cond (.t 13) (.seq (.reg [vm 14 3, vm 2 14]) .ret) .skip))) (.seq (.seq (.draw [vd (vm 15 0) [], vd (vo 16 (.nilchk (.t 15))) [0], vd (vo 17 (.fa 3 (.t 16))) [1, 0], vd (vo 18 (.ld false 1 (.t 17))) [2, 1, 0], vd (vo 19 (.bin .i .lss (.t 18) (ci 0))) [3, 2, 1, 0], vd (vm 20 19) [4, 3, 2, 1, 0], vd (⟨(some 21), .mv (.t 0), (some (20, false))⟩) [5, 4, 3, 2, 1, 0], vd (⟨(some 22), .nilchk (.t 21), (some (20, false))⟩) [6, 5, 4, 3, 2, 1, 0], vd (⟨(some 23), .fa 3 (.t 22), (some (20, false))⟩) [7, 6, 5, 4, 3, 2, 1, 0], vd (⟨(some 24), .ld false 1 (.t 23), (some (20, false))⟩) [8, 7, 6, 5, 4, 3, 2, 1, 0], vd (⟨(some 25), .mv (.t 0), (some (20, false))⟩) [5, 4, 3, 2, 1, 0], vd (⟨(some 26), .nilchk (.t 25), (some (20, false))⟩) [10, 5, 4, 3, 2, 1, 0], vd (⟨(some 27), .fa 0 (.t 26), (some (20, false))⟩) [11, 10, 5, 4, 3, 2, 1, 0], vd (⟨(some 28), .fa 1 (.t 27), (some (20, false))⟩) [12, 11, 10, 5, 4, 3, 2, 1, 0], vd (⟨(some 29), .ld false 1 (.t 28), (some (20, false))⟩) [13, 12, 11, 10, 5, 4, 3, 2, 1, 0], vd (⟨(some 30), .len (.t 29), (some (20, false))⟩) [14, 13, 12, 11, 10, 5, 4, 3, 2, 1, 0], vd (⟨(some 31), .bin .i .geq (.t 24) (.t 30), (some (20, false))⟩) [9, 8, 7, 6, 5, 4, 3, 2, 1, 0, 15, 14, 13, 12, 11, 10], vd (vo 32 (.pick (.t 20) (cb true) (.t 31))) [5, 4, 3, 2, 1, 0, 16, 9, 8, 7, 6, 15, 14, 13, 12, 11, 10]]) (.cond (.t 32) (.seq (.reg [vo 2 (.mv (ci 6))]) .ret) .skip)) (.seq (.seq (.draw [vd (vm 33 0) [], vd (vo 34 (.nilchk (.t 33))) [0], vd (vo 35 (.fa 4 (.t 34))) [1, 0], vd (vo 36 (.ld false 1 (.t 35))) [2, 1, 0], vd (vo 37 (.bin .i .lss (.t 36) (ci 0))) [3, 2, 1, 0], vd (vm 38 37) [4, 3, 2, 1, 0], vd (⟨(some 39), .mv (.t 0), (some (38, false))⟩) [5, 4, 3, 2, 1, 0], vd (⟨(some 40), .nilchk (.t 39), (some (38, false))⟩) [6, 5, 4, 3, 2, 1, 0], vd (⟨(some 41), .fa 4 (.t 40), (some (38, false))⟩) [7, 6, 5, 4, 3, 2, 1, 0], vd (⟨(some 42), .ld false 1 (.t 41), (some (38, false))⟩) [8, 7, 6, 5, 4, 3, 2, 1, 0], vd (⟨(some 43), .mv (.t 0), (some (38, false))⟩) [5, 4, 3, 2, 1, 0], vd (⟨(some 44), .nilchk (.t 43), (some (38, false))⟩) [10, 5, 4, 3, 2, 1, 0], vd (⟨(some 45), .fa 0 (.t 44), (some (38, false))⟩) [11, 10, 5, 4, 3, 2, 1, 0], vd (⟨(some 46), .fa 0 (.t 45), (some (38, false))⟩) [12, 11, 10, 5, 4, 3, 2, 1, 0], vd (⟨(some 47), .ld false 1 (.t 46), (some (38, false))⟩) [13, 12, 11, 10, 5, 4, 3, 2, 1, 0], vd (⟨(some 48), .bin .i .geq (.t 42) (.t 47), (some (38, false))⟩) [9, 8, 7, 6, 5, 4, 3, 2, 1, 0, 14, 13, 12, 11, 10], vd (vo 49 (.pick (.t 38) (cb true) (.t 48))) [5, 4, 3, 2, 1, 0, 15, 9, 8, 7, 6, 14, 13, 12, 11, 10]]) (.cond (.t 49) (.seq (.reg [vo 2 (.mv (ci 2))]) .ret) .skip)) (.seq (.seq (.draw [vd (vm 50 0) [], vd (vo 51 (.nilchk (.t 50))) [0], vd (vo 52 (.fa 5 (.t 51))) [1, 0], vd (vo 53 (.ld false 1 (.t 52))) [2, 1, 0], vd (vo 54 (.len (.t 53))) [3, 2, 1, 0], vd (vm 55 0) [], vd (vo 56 (.nilchk (.t 55))) [5], vd (vo 57 (.fa 0 (.t 56))) [6, 5], vd (vo 58 (.fa 1 (.t 57))) [7, 6, 5], vd (vo 59 (.ld false 1 (.t 58))) [8, 7, 6, 5], vd (vo 60 (.len (.t 59))) [9, 8, 7, 6, 5], vd (vo 61 (.bin .i .neq (.t 54) (.t 60))) [4, 3, 2, 1, 0, 10, 9, 8, 7, 6, 5]]) (.cond (.t 61) (.seq (.reg [vo 2 (.mv (ci 9))]) .ret) .skip)) (.seq (.seq (.reg [vm 62 0, vo 63 (.nilchk (.t 62)), vo 64 (.fa 5 (.t 63)), vo 65 (.ld false 1 (.t 64)), vo 66 (.len (.t 65)), vo 67 (.mv (ci 0))]) (.wk (.block 0 (.loop (.seq (.reg [vo 68 (.bin .i .lss (.t 67) (.t 66))]) (.seq (.cond (.t 68) .skip (.exit 0)) (.seq (.block 1 (.seq (.reg [vo 69 (.ia 4 (.t 65) (.t 67)), vo 70 (.ld true 4 (.t 69)), vo 5 (.alloc [(.nl 3), (.nl 6), (.nl 3), (.nl 2)]), vu (.st 4 (.t 5) (.t 70))]) (.seq (.reg [vo 71 (.ld true 4 (.t 5)), vo 72 (.call 26 [(.t 71)]), vm 6 72]) (.seq (.reg [vm 73 6, vo 74 (.bin .i .neq (.t 73) (ci 0))]) (.cond (.t 74) (.seq (.reg [vm 75 6, vm 2 75]) .ret) .skip))))) (.reg [vo 76 (.bin .i .add (.t 67) (ci 1)), vm 67 76])))))))) (.seq (.reg [vo 2 (.mv (ci 0))]) .ret))))))), [.t 2]⟩
theorem low11 : lowF Try.prog 11 = some F11.strip := by kernel_rfl
theorem fok11 : fOk Try.prog 11 = true := by kernel_rfl
def store_call (p0 : Store) (p1 : Txn) (p2 : Int) : Option (Int) := (Option.bind (store_Check p0) fun v1 => (if (v1 != 0) = true then (some v1) else (Option.bind (store_txn p1) fun v3 => (if (!v3) = true then (some 2) else (if (decide (p2 < 0)) = true then (some 2) else (if (decide (p2 ≥ 8)) = true then (some 2) else (some 0)))))))
def F39 : VFn := ⟨24, (.seq (.reg [vo 3 (.boxk 4 (.t 0)), vo 4 (.boxk 2 (.t 1)), vo 6 (.mv (ci 0))]) (.seq (.seq (.reg [vo 8 (.ld true 4 (.t 3)), vo 9 (.call 26 [(.t 8)]), vm 7 9]) (.seq (.reg [vm 10 7, vo 11 (.bin .i .neq (.t 10) (ci 0))]) (.cond (.t 11) (.seq (.reg [vm 12 7, vm 6 12]) .ret) .skip))) (.seq (.seq (.reg [vo 13 (.ld true 2 (.t 4)), vo 14 (.call 57 [(.t 13)]), vo 15 (.un .not (.t 14)), vm 16 15, ⟨(some 17), .mv (.t 2), (some (16, false))⟩, ⟨(some 18), .bin .i .lss (.t 17) (ci 0), (some (16, false))⟩, vo 19 (.pick (.t 16) (cb true) (.t 18)), vm 20 19, ⟨(some 21), .mv (.t 2), (some (20, false))⟩, ⟨(some 22), .bin .i .geq (.t 21) (ci 8), (some (20, false))⟩, vo 23 (.pick (.t 20) (cb true) (.t 22))]) (.cond (.t 23) (.seq (.reg [vo 6 (.mv (ci 2))]) .ret) .skip)) (.seq (.reg [vo 6 (.mv (ci 0))]) .ret)))), [.t 6]⟩
theorem low39 : lowF Try.prog 39 = some F39.strip := by kernel_rfl
theorem fok39 : fOk Try.prog 39 = true := by kernel_rfl
theorem store_call_ok (G : Nat → Option (List D)) (p0 : Store) (p1 : Txn) (p2 : Int) (r : Int) (h : store_call p0 p1 p2 = some r) : FnRO Try.prog G 39 [.agg [.d (.l 3 (p0.Items.map Item.enc)), .d (.l 6 (p0.Locks.map Lock.enc)), .d (.l 3 (p0.Doubts.map Doubt.enc)), .d (.l 2 (p0.Over.map Txn.enc))], .agg [.d (.i .i64 p1.Site), .d (.i .i64 p1.N)], .one (.d (.i .i64 p2))] (fun rs => rs = [.one (.i .i64 r)]) := by
 refine FnRO.of' low39 fok39 (by simp [F39]) ?_
 rw [store_call] at h
 simp only [F39, go_sem]
 obtain ⟨v1, hv1, h⟩ := obi h
 try simp only [go_sem]
 refine CallV.ro false (store_Check_ok G p0 v1 hv1) rfl ?_
 rintro rs rfl
 refine ⟨.inl rfl, ?_⟩
 rcases of_if h with ⟨hb2, h⟩ | ⟨hb2, h⟩
 ·simp only [Option.some.injEq] at h
  subst h
  try simp only [hb2, go_sem, List.map_append, List.map_cons, List.map_nil, List.map_set]
 ·obtain ⟨v3, hv3, h⟩ := obi h
  try simp only [hb2, go_sem]
  refine CallV.ro false (store_txn_ok G p1 v3 hv3) rfl ?_
  rintro rs rfl
  refine ⟨.inl rfl, ?_⟩
  rcases of_if h with ⟨hb4, h⟩ | ⟨hb4, h⟩
  ·have hkhb4 := not_eq_t hb4
   simp only [Option.some.injEq] at h
   subst h
   try simp only [hb2, hb4, hkhb4, go_sem, List.map_append, List.map_cons, List.map_nil, List.map_set]
  ·have hkhb4 := not_eq_f hb4
   rcases of_if h with ⟨hb5, h⟩ | ⟨hb5, h⟩
   ·have hkhb5 := of_decide_eq_true hb5
    simp only [Option.some.injEq] at h
    subst h
    try simp only [hb2, hb4, hkhb4, hb5, hkhb5, go_sem, List.map_append, List.map_cons, List.map_nil, List.map_set]
   ·rcases of_if h with ⟨hb6, h⟩ | ⟨hb6, h⟩
    ·simp only [Option.some.injEq] at h
     subst h
     try simp only [hb2, hb4, hkhb4, hb5, hb6, go_sem, List.map_append, List.map_cons, List.map_nil, List.map_set]
    ·simp only [Option.some.injEq] at h
     subst h
     try simp only [hb2, hb4, hkhb4, hb5, hb6, go_sem, List.map_append, List.map_cons, List.map_nil, List.map_set]
def store_Writes_L1 (p0 : Store) (p1 : Txn) (k5 : Int → Option (Int × Int)) : Nat → Int → Nat → Option (Int × Int)
 | 0, _, _ => none
 | n7 + 1, a6_1, a6_2 => (if (decide (a6_2 < p0.Locks.length)) = true then (Option.bind (p0.Locks[a6_2]?) fun x9 => (if ((x9.Txn.Site == p1.Site) && (x9.Txn.N == p1.N)) = true then (withK (fun (b11_1 : Int) => (store_Writes_L1 p0 p1 k5 n7 b11_1 (a6_2 + 1))) fun k12 => (if x9.Write = true then (k12 (IntKind.i64.wrap (a6_1 + 1))) else (k12 a6_1))) else (withK (store_Writes_L1 p0 p1 k5 n7 a6_1 (a6_2 + 1)) fun k16 => k16))) else (k5 a6_1))
def store_Writes (p0 : Store) (p1 : Txn) : Option (Int × Int) := (Option.bind (store_call p0 p1 0) fun v1 => (if (v1 != 0) = true then (some (0, v1)) else (withK (fun (b4_1 : Int) => (some (b4_1, 0))) fun k5 => (store_Writes_L1 p0 p1 k5 (p0.Locks.length + 1) 0 0))))
def F20 : VFn := ⟨35, (.seq (.reg [vo 2 (.boxk 4 (.t 0)), vo 3 (.boxk 2 (.t 1)), vo 4 (.mv (ci 0)), vo 5 (.mv (ci 0))]) (.seq (.seq (.reg [vo 10 (.ld true 4 (.t 2)), vo 11 (.ld true 2 (.t 3)), vo 12 (.call 39 [(.t 10), (.t 11), (ci 0)]), vm 6 12]) (.seq (.reg [vm 13 6, vo 14 (.bin .i .neq (.t 13) (ci 0))]) (.cond (.t 14) (.seq (.reg [vm 15 6, vo 4 (.mv (ci 0)), vm 5 15]) .ret) .skip))) (.seq (.reg [vo 7 (.mv (ci 0))]) (.seq (.seq (.reg [vo 16 (.fa 1 (.t 2)), vo 17 (.ld false 1 (.t 16)), vo 18 (.len (.t 17)), vo 19 (.mv (ci 0))]) (.wk (.block 0 (.loop (.seq (.reg [vo 20 (.bin .i .lss (.t 19) (.t 18))]) (.seq (.cond (.t 20) .skip (.exit 0)) (.seq (.block 1 (.seq (.reg [vo 21 (.ia 6 (.t 17) (.t 19)), vo 22 (.ld true 6 (.t 21)), vo 9 (.alloc [(zi 0), (zi 0), (zi 0), (.d (.b false)), (zi 0), (zi 0)]), vu (.st 6 (.t 9) (.t 22))]) (.seq (.reg [vo 23 (.fa 0 (.t 9)), vo 24 (.ld true 2 (.t 23)), vo 25 (.ld true 2 (.t 3)), vo 26 (.eqs false [.i, .i] (.t 24) (.t 25)), vm 27 26, ⟨(some 28), .fa 3 (.t 9), (some (27, true))⟩, ⟨(some 29), .ld false 1 (.t 28), (some (27, true))⟩, vo 30 (.pick (.t 27) (.t 29) (cb false))]) (.wk (.cond (.t 30) (.reg [vm 31 7, vo 32 (.bin .i .add (.t 31) (ci 1)), vm 7 32]) .skip))))) (.reg [vo 33 (.bin .i .add (.t 19) (ci 1)), vm 19 33])))))))) (.seq (.reg [vm 34 7, vm 4 34, vo 5 (.mv (ci 0))]) .ret))))), [.t 4, .t 5]⟩
theorem low20 : lowF Try.prog 20 = some F20.strip := by kernel_rfl
theorem fok20 : fOk Try.prog 20 = true := by kernel_rfl
theorem store_Writes_ok (G : Nat → Option (List D)) (p0 : Store) (p1 : Txn) (r : Int × Int) (h : store_Writes p0 p1 = some r) : FnRO Try.prog G 20 [.agg [.d (.l 3 (p0.Items.map Item.enc)), .d (.l 6 (p0.Locks.map Lock.enc)), .d (.l 3 (p0.Doubts.map Doubt.enc)), .d (.l 2 (p0.Over.map Txn.enc))], .agg [.d (.i .i64 p1.Site), .d (.i .i64 p1.N)]] (fun rs => rs = [.one (.i .i64 r.1), .one (.i .i64 r.2)]) := by
 refine FnRO.of' low20 fok20 (by simp [F20]) ?_
 rw [store_Writes] at h
 simp only [F20, go_sem]
 obtain ⟨v1, hv1, h⟩ := obi h
 try simp only [go_sem]
 refine CallV.ro false (store_call_ok G p0 p1 0 v1 hv1) rfl ?_
 rintro rs rfl
 refine ⟨.inl rfl, ?_⟩
 rcases of_if h with ⟨hb2, h⟩ | ⟨hb2, h⟩
 ·simp only [Option.some.injEq] at h
  subst h
  try simp only [hb2, go_sem, List.map_append, List.map_cons, List.map_nil, List.map_set]
 ·try simp only [hb2, go_sem]
  intro hl3
  obtain ⟨k5, hk5, h⟩ := withK_lk1 h
  try simp only [hb2, go_sem]
  refine join_lk Try.prog G _ _ (B := Int) (fun b => k5 b = some r) (fun b => [(7, .one (zi b))]) (fun b => []) ?_ (fun b4_1 h => ?_)
  ·try simp only [hb2, go_sem]
   refine loop_lk Try.prog G _ _ (A := Int × Nat) (fun n a => store_Writes_L1 p0 p1 k5 n a.1 a.2 = some r) (fun a => [(3, .one (.d (.k (Txn.enc p1)))), (7, .one (zi a.1)), (17, .one (.d (.l 6 (p0.Locks.map Lock.enc)))), (18, .one (.d (.i .i64 ((p0.Locks.length : Nat) : Int)))), (19, .one (.d (.i .i64 ((a.2 : Nat) : Int))))]) (fun a => []) (p0.Locks.length + 1) (0, 0) h (wk_c _ _ _ [] rfl (by simp only [hb2, go_sem, List.map_append, List.map_cons, List.map_nil, Option.some.injEq, Prod.mk.injEq, SC.d.injEq, D.l.injEq, List.map_set])) (fun a h => by simp only [store_Writes_L1, reduceCtorEq] at h) ?_
   intro n7 a h
   obtain ⟨a6_1, a6_2⟩ := a
   try dsimp only at h
   rw [store_Writes_L1] at h
   rcases of_if h with ⟨hb8, h⟩ | ⟨hb8, h⟩
   ·have hkhb8 := of_decide_eq_true hb8
    obtain ⟨x9, hx9, h⟩ := obi h
    have hkx9 := gtx hx9
    try simp only [List.length_take, List.length_drop, List.length_append, List.length_set, List.length_map, List.length_cons, List.length_nil, Nat.zero_add] at hkx9
    rcases of_if h with ⟨hb10, h⟩ | ⟨hb10, h⟩
    ·try simp only [hb8, hkhb8, hx9, hkx9, hb10, go_sem]
     obtain ⟨k12, hk12, h⟩ := withK_lk1 h
     try simp only [hb8, hkhb8, hx9, hkx9, hb10, go_sem]
     refine join_lk Try.prog G _ _ (B := Int) (fun b => k12 b = some r) (fun b => [(3, .one (.d (.k (Txn.enc p1)))), (7, .one (zi b)), (17, .one (.d (.l 6 (p0.Locks.map Lock.enc)))), (18, .one (.d (.i .i64 ((p0.Locks.length : Nat) : Int)))), (19, .one (.d (.i .i64 ((a6_2 : Nat) : Int)))), (28, .one (.p (.q 0 0 3))), (29, .one (.d (.b x9.Write)))]) (fun b => [some (.box x9.bx)]) ?_ (fun b11_1 h => ?_)
     ·rcases of_if h with ⟨hb13, h⟩ | ⟨hb13, h⟩
      ·try simp only [hb8, hkhb8, hx9, hkx9, hb10, hb13, go_sem]
       exact joinQ_c (IntKind.i64.wrap (a6_1 + 1)) h [some 0] rfl (by simp only [hb8, hkhb8, hx9, hkx9, hb10, hb13, go_sem, List.map_append, List.map_cons, List.map_nil, Option.some.injEq, Prod.mk.injEq, SC.d.injEq, D.l.injEq, List.map_set])
      ·try simp only [hb8, hkhb8, hx9, hkx9, hb10, hb13, go_sem]
       exact joinQ_c (a6_1) h [some 0] rfl (by simp only [hb8, hkhb8, hx9, hkx9, hb10, hb13, go_sem, List.map_append, List.map_cons, List.map_nil, Option.some.injEq, Prod.mk.injEq, SC.d.injEq, D.l.injEq, List.map_set])
     ·try dsimp only at h
      rw [hk12] at h
      have hw14 := wrap_succ_max hkx9 hl3
      try simp only [hkhb8, hx9, hkx9, hw14, go_sem]
      exact loopQ_c (b11_1, a6_2 + 1) h [] rfl (by simp only [hkhb8, hx9, hkx9, hw14, go_sem, List.map_append, List.map_cons, List.map_nil, Option.some.injEq, Prod.mk.injEq, SC.d.injEq, D.l.injEq, List.map_set])
    ·try simp only [hb8, hkhb8, hx9, hkx9, hb10, go_sem]
     obtain ⟨k16, hk16, h⟩ := withK_lk0 h
     try simp only [hb8, hkhb8, hx9, hkx9, hb10, go_sem]
     refine join_lk Try.prog G _ _ (B := Unit) (fun b => k16 = some r) (fun b => [(3, .one (.d (.k (Txn.enc p1)))), (7, .one (zi a6_1)), (17, .one (.d (.l 6 (p0.Locks.map Lock.enc)))), (18, .one (.d (.i .i64 ((p0.Locks.length : Nat) : Int)))), (19, .one (.d (.i .i64 ((a6_2 : Nat) : Int))))]) (fun b => []) ?_ (fun b h => ?_)
     ·try simp only [hb8, hkhb8, hx9, hkx9, hb10, go_sem]
      exact joinQ_c () h [] rfl (by simp only [hb8, hkhb8, hx9, hkx9, hb10, go_sem, List.map_append, List.map_cons, List.map_nil, Option.some.injEq, Prod.mk.injEq, SC.d.injEq, D.l.injEq, List.map_set])
     ·try dsimp only at h
      rw [hk16] at h
      have hw17 := wrap_succ_max hkx9 hl3
      try simp only [hkhb8, hx9, hkx9, hw17, go_sem]
      exact loopQ_c (a6_1, a6_2 + 1) h [] rfl (by simp only [hkhb8, hx9, hkx9, hw17, go_sem, List.map_append, List.map_cons, List.map_nil, Option.some.injEq, Prod.mk.injEq, SC.d.injEq, D.l.injEq, List.map_set])
   ·try simp only [hb8, go_sem]
    exact joinQ_c (a6_1) h [] rfl (by simp only [hb8, go_sem, List.map_append, List.map_cons, List.map_nil, Option.some.injEq, Prod.mk.injEq, SC.d.injEq, D.l.injEq, List.map_set])
  ·try dsimp only at h
   rw [hk5] at h
   simp only [Option.some.injEq] at h
   subst h
   try simp only [go_sem, List.map_append, List.map_cons, List.map_nil, List.map_set]
theorem low28 : lowF Try.prog 28 = some (cloneV 3 24 [(zi 0), (zi 0), (zi 0)]) := by kernel_rfl
theorem fok28 : fOk Try.prog 28 = true := by kernel_rfl
theorem clone28_ok (G : Nat → Option (List D)) (p0 r : List Item) (h : cloneF 24 p0 = some r) : FnRO Try.prog G 28 [.one (.d (.l 3 (p0.map Item.enc)))] (fun rs => rs = [.one (.o 3 (r.map Item.enc))]) := clone_ok low28 fok28 G Item.enc p0 r h
theorem low29 : lowF Try.prog 29 = some (cloneV 6 48 [(zi 0), (zi 0), (zi 0), (.d (.b false)), (zi 0), (zi 0)]) := by kernel_rfl
theorem fok29 : fOk Try.prog 29 = true := by kernel_rfl
theorem clone29_ok (G : Nat → Option (List D)) (p0 r : List Lock) (h : cloneF 48 p0 = some r) : FnRO Try.prog G 29 [.one (.d (.l 6 (p0.map Lock.enc)))] (fun rs => rs = [.one (.o 6 (r.map Lock.enc))]) := clone_ok low29 fok29 G Lock.enc p0 r h
theorem low30 : lowF Try.prog 30 = some (cloneV 3 24 [(zi 0), (zi 0), (zi 0)]) := by kernel_rfl
theorem fok30 : fOk Try.prog 30 = true := by kernel_rfl
theorem clone30_ok (G : Nat → Option (List D)) (p0 r : List Doubt) (h : cloneF 24 p0 = some r) : FnRO Try.prog G 30 [.one (.d (.l 3 (p0.map Doubt.enc)))] (fun rs => rs = [.one (.o 3 (r.map Doubt.enc))]) := clone_ok low30 fok30 G Doubt.enc p0 r h
theorem low31 : lowF Try.prog 31 = some (cloneV 2 16 [(zi 0), (zi 0)]) := by kernel_rfl
theorem fok31 : fOk Try.prog 31 = true := by kernel_rfl
theorem clone31_ok (G : Nat → Option (List D)) (p0 r : List Txn) (h : cloneF 16 p0 = some r) : FnRO Try.prog G 31 [.one (.d (.l 2 (p0.map Txn.enc)))] (fun rs => rs = [.one (.o 2 (r.map Txn.enc))]) := clone_ok low31 fok31 G Txn.enc p0 r h
def store_own (p0 : Store) : Option (Store) := (Option.bind (cloneF 24 p0.Items) fun v1 => (Option.bind (cloneF 48 p0.Locks) fun v2 => (Option.bind (cloneF 24 p0.Doubts) fun v3 => (Option.bind (cloneF 16 p0.Over) fun v4 => (some (Store.mk v1 v2 v3 v4))))))
def F27 : VFn := ⟨16, (.seq (.reg [vo 1 (.box 4 (.t 0)), vo 2 (.alloc [(.nl 3), (.nl 6), (.nl 3), (.nl 2)])]) (.seq (.draw [vd (vo 3 (.fa 0 (.t 1))) [], vd (vo 4 (.ld false 1 (.t 3))) [0], vd (vo 5 (.call 28 [(.t 4)])) [1, 0], ⟨vo 6 (.fa 1 (.t 1)), [], [2], none, []⟩, ⟨vo 7 (.ld false 1 (.t 6)), [3], [2], none, []⟩, vd (vo 8 (.call 29 [(.t 7)])) [4, 3, 2, 1, 0], ⟨vo 9 (.fa 2 (.t 1)), [], [2, 5], none, []⟩, ⟨vo 10 (.ld false 1 (.t 9)), [6], [2, 5], none, []⟩, vd (vo 11 (.call 30 [(.t 10)])) [7, 6, 5, 4, 3, 2, 1, 0], ⟨vo 12 (.fa 3 (.t 1)), [], [2, 5, 8], none, []⟩, ⟨vo 13 (.ld false 1 (.t 12)), [9], [2, 5, 8], none, []⟩, vd (vo 14 (.call 31 [(.t 13)])) [10, 9, 8, 7, 6, 5, 4, 3, 2, 1, 0], vd (vo 15 (.build [(.nl 3), (.nl 6), (.nl 3), (.nl 2)] [(0, 1, (.t 5)), (1, 1, (.t 8)), (2, 1, (.t 11)), (3, 1, (.t 14))])) [2, 1, 0, 5, 4, 3, 8, 7, 6, 11, 10, 9], vd (vu (.st 4 (.t 2) (.t 15))) [12, 2, 1, 0, 5, 4, 3, 8, 7, 6, 11, 10, 9]]) .ret)), [.cell 2 true 4]⟩
theorem low27 : lowF Try.prog 27 = some F27.strip := by kernel_rfl
theorem fok27 : fOk Try.prog 27 = true := by kernel_rfl
theorem store_own_ok (G : Nat → Option (List D)) (p0 : Store) (r : Store) (h : store_own p0 = some r) : FnRO Try.prog G 27 [.agg [.d (.l 3 (p0.Items.map Item.enc)), .d (.l 6 (p0.Locks.map Lock.enc)), .d (.l 3 (p0.Doubts.map Doubt.enc)), .d (.l 2 (p0.Over.map Txn.enc))]] (fun rs => rs = [.agg (r.encO)]) := by
 refine FnRO.of' low27 fok27 (by simp [F27]) ?_
 rw [store_own] at h
 simp only [F27, go_sem]
 obtain ⟨v1, hv1, h⟩ := obi h
 try simp only [go_sem]
 refine ⟨_, _, CallD.ro false (clone28_ok G p0.Items v1 hv1) rfl (.inl rfl) rfl, ?_⟩
 obtain ⟨v2, hv2, h⟩ := obi h
 try simp only [go_sem]
 refine ⟨_, _, CallD.ro false (clone29_ok G p0.Locks v2 hv2) rfl (.inl rfl) rfl, ?_⟩
 obtain ⟨v3, hv3, h⟩ := obi h
 try simp only [go_sem]
 refine ⟨_, _, CallD.ro false (clone30_ok G p0.Doubts v3 hv3) rfl (.inl rfl) rfl, ?_⟩
 obtain ⟨v4, hv4, h⟩ := obi h
 try simp only [go_sem]
 refine ⟨_, _, CallD.ro false (clone31_ok G p0.Over v4 hv4) rfl (.inl rfl) rfl, ?_⟩
 simp only [Option.some.injEq] at h
 subst h
 try simp only [go_sem, List.map_append, List.map_cons, List.map_nil, List.map_set]
def slices_BinarySearchFunc_int_L1 (p0 : List Item) (p1 : Int) (p2 : Item → Int → Option (Int)) (k3 : Int → Option (Int × Bool)) : Nat → Int → Int → Option (Int × Bool)
 | 0, _, _ => none
 | n5 + 1, a4_1, a4_2 => (if (decide (a4_1 < a4_2)) = true then (if 0 ≤ IntKind.i64.wrap ((IntKind.u64.wrap (IntKind.i64.wrap (a4_1 + a4_2))).fdiv (2 ^ 1)) then (Option.bind (p0[(IntKind.i64.wrap ((IntKind.u64.wrap (IntKind.i64.wrap (a4_1 + a4_2))).fdiv (2 ^ 1))).toNat]?) fun x7 => (Option.bind (p2 x7 p1) fun v9 => (withK (fun (b10_1 : Int) (b10_2 : Int) => (slices_BinarySearchFunc_int_L1 p0 p1 p2 k3 n5 b10_1 b10_2)) fun k11 => (if (decide (v9 < 0)) = true then (k11 (IntKind.i64.wrap (IntKind.i64.wrap ((IntKind.u64.wrap (IntKind.i64.wrap (a4_1 + a4_2))).fdiv (2 ^ 1)) + 1)) a4_2) else (k11 a4_1 (IntKind.i64.wrap ((IntKind.u64.wrap (IntKind.i64.wrap (a4_1 + a4_2))).fdiv (2 ^ 1)))))))) else none) else (k3 a4_1))
def slices_BinarySearchFunc_int (p0 : List Item) (p1 : Int) (p2 : Item → Int → Option (Int)) : Option (Int × Bool) := (withK (fun (b2_1 : Int) => (withK (fun (b13_1 : Bool) => (some (b2_1, b13_1))) fun k14 => (if (decide (b2_1 < ((p0.length : Nat) : Int))) = true then (if 0 ≤ b2_1 then (Option.bind (p0[b2_1.toNat]?) fun x16 => (Option.bind (p2 x16 p1) fun v18 => (k14 (v18 == 0)))) else none) else (k14 false)))) fun k3 => (slices_BinarySearchFunc_int_L1 p0 p1 p2 k3 (p0.length + 1) 0 ((p0.length : Nat) : Int)))
def F58 : VFn := ⟨49, (.seq (.reg [vo 6 (.mv (ci 0)), vo 7 (.mv (cb false))]) (.seq (.reg [vm 12 0, vo 13 (.len (.t 12)), vm 8 13]) (.seq (.reg [vm 14 8, vo 9 (.mv (ci 0)), vm 10 14]) (.seq (.wk (.block 0 (.loop (.seq (.seq (.reg [vm 15 9, vm 16 10, vo 17 (.bin .i .lss (.t 15) (.t 16))]) (.cond (.t 17) .skip (.exit 0))) (.block 1 (.seq (.reg [vm 18 9, vm 19 10, vo 20 (.bin .i .add (.t 18) (.t 19)), vo 21 (.cvi .u64 (.t 20)), vo 22 (.bin .i .shr (.t 21) (.c (.one (.d (.i .u64 1))))), vo 23 (.cvi .i64 (.t 22)), vm 11 23]) (.seq (.reg [vm 24 2, vm 25 0, vm 26 11, vo 27 (.ia 3 (.t 25) (.t 26)), vo 28 (.ld true 3 (.t 27)), vm 29 1, vo 30 (.callv (.t 24) [(.t 28), (.t 29)]), vo 31 (.bin .i .lss (.t 30) (ci 0))]) (.wk (.cond (.t 31) (.reg [vm 32 11, vo 33 (.bin .i .add (.t 32) (ci 1)), vm 9 33]) (.reg [vm 34 11, vm 10 34])))))))))) (.seq (.wk (.reg [vm 35 9, vm 36 9, vm 37 8, vo 38 (.bin .i .lss (.t 36) (.t 37)), vm 39 38, ⟨(some 40), .mv (.t 2), (some (39, true))⟩, ⟨(some 41), .mv (.t 0), (some (39, true))⟩, ⟨(some 42), .mv (.t 9), (some (39, true))⟩, ⟨(some 43), .ia 3 (.t 41) (.t 42), (some (39, true))⟩, ⟨(some 44), .ld true 3 (.t 43), (some (39, true))⟩, ⟨(some 45), .mv (.t 1), (some (39, true))⟩, ⟨(some 46), .callv (.t 40) [(.t 44), (.t 45)], (some (39, true))⟩, ⟨(some 47), .bin .i .eql (.t 46) (ci 0), (some (39, true))⟩, vo 48 (.pick (.t 39) (.t 47) (cb false)), vm 6 35, vm 7 48])) .ret))))), [.t 6, .t 7]⟩
theorem low58 : lowF Try.prog 58 = some F58.strip := by kernel_rfl
theorem fok58 : fOk Try.prog 58 = true := by kernel_rfl
theorem slices_BinarySearchFunc_int_ok (G : Nat → Option (List D)) (p0 : List Item) (p1 : Int) (p2 : Item → Int → Option (Int)) (g_p2 : Nat) (c_p2 : List D) (h_p2 : ∀ (x0 : Item) (x1 : Int) (r : Int), p2 x0 x1 = some r → FnRO Try.prog G g_p2 ([.agg [.d (.i .i64 x0.Key), .d (.i .i64 x0.Value), .d (.i .i64 x0.Version)], .one (.d (.i .i64 x1))] ++ c_p2.map fun d => .one (.d d)) (fun rs => rs = [.one (.i .i64 r)])) (r : Int × Bool) (h : slices_BinarySearchFunc_int p0 p1 p2 = some r) : FnRO Try.prog G 58 [.one (.d (.l 3 (p0.map Item.enc))), .one (.d (.i .i64 p1)), .one (.d (.f g_p2 c_p2))] (fun rs => rs = [.one (.i .i64 r.1), .one (.b r.2)]) := by
 refine FnRO.of' low58 fok58 (by simp [F58]) ?_
 rw [slices_BinarySearchFunc_int] at h
 simp only [F58, go_sem]
 try simp only [go_sem]
 intro hl1
 obtain ⟨k3, hk3, h⟩ := withK_lk1 h
 try simp only [go_sem]
 refine join_lk Try.prog G _ _ (B := Int) (fun b => k3 b = some r) (fun b => [(0, .one (.d (.l 3 (p0.map Item.enc)))), (1, .one (zi p1)), (2, .one (.d (.f g_p2 c_p2))), (8, .one (.d (.i .i64 ((p0.length : Nat) : Int)))), (9, .one (zi b))]) (fun b => []) ?_ (fun b2_1 h => ?_)
 ·try simp only [go_sem]
  refine loop_lk Try.prog G _ _ (A := Int × Int) (fun n a => slices_BinarySearchFunc_int_L1 p0 p1 p2 k3 n a.1 a.2 = some r) (fun a => [(0, .one (.d (.l 3 (p0.map Item.enc)))), (1, .one (zi p1)), (2, .one (.d (.f g_p2 c_p2))), (8, .one (.d (.i .i64 ((p0.length : Nat) : Int)))), (9, .one (zi a.1)), (10, .one (zi a.2))]) (fun a => []) (p0.length + 1) (0, ((p0.length : Nat) : Int)) h (wk_c _ _ _ [] rfl (by simp only [go_sem, List.map_append, List.map_cons, List.map_nil, Option.some.injEq, Prod.mk.injEq, SC.d.injEq, D.l.injEq, List.map_set])) (fun a h => by simp only [slices_BinarySearchFunc_int_L1, reduceCtorEq] at h) ?_
  intro n5 a h
  obtain ⟨a4_1, a4_2⟩ := a
  try dsimp only at h
  rw [slices_BinarySearchFunc_int_L1] at h
  rcases of_if h with ⟨hb6, h⟩ | ⟨hb6, h⟩
  ·have hkhb6 := of_decide_eq_true hb6
   obtain ⟨hn8, h⟩ := of_chk h
   obtain ⟨x7, hx7, h⟩ := obi h
   have hkx7 := gtx hx7
   try simp only [List.length_take, List.length_drop, List.length_append, List.length_set, List.length_map, List.length_cons, List.length_nil, Nat.zero_add] at hkx7
   have hk2x7 : IntKind.i64.wrap ((IntKind.u64.wrap (IntKind.i64.wrap (a4_1 + a4_2))).fdiv (2 ^ 1)) < ((p0.length : Nat) : Int) := by omega
   obtain ⟨v9, hv9, h⟩ := obi h
   try simp only [hb6, hkhb6, hx7, hkx7, hn8, hk2x7, go_sem]
   refine CallV.ro false (h_p2 x7 p1 v9 hv9) (by first | rfl | simp only [hb6, hkhb6, hx7, hkx7, hn8, hk2x7, go_sem, inVs_caps]) ?_
   rintro rs rfl
   refine ⟨.inl rfl, ?_⟩
   obtain ⟨k11, hk11, h⟩ := withK_lk2 h
   try simp only [hb6, hkhb6, hx7, hkx7, hn8, hk2x7, go_sem]
   refine join_lk Try.prog G _ _ (B := Int × Int) (fun b => k11 b.1 b.2 = some r) (fun b => [(0, .one (.d (.l 3 (p0.map Item.enc)))), (1, .one (zi p1)), (2, .one (.d (.f g_p2 c_p2))), (8, .one (.d (.i .i64 ((p0.length : Nat) : Int)))), (9, .one (zi b.1)), (10, .one (zi b.2))]) (fun b => []) ?_ (fun b h => ?_)
   ·rcases of_if h with ⟨hb12, h⟩ | ⟨hb12, h⟩
    ·have hkhb12 := of_decide_eq_true hb12
     try simp only [hb6, hkhb6, hx7, hkx7, hn8, hk2x7, hb12, hkhb12, go_sem]
     exact joinQ_c (IntKind.i64.wrap (IntKind.i64.wrap ((IntKind.u64.wrap (IntKind.i64.wrap (a4_1 + a4_2))).fdiv (2 ^ 1)) + 1), a4_2) h [] rfl (by simp only [hb6, hkhb6, hx7, hkx7, hn8, hk2x7, hb12, hkhb12, go_sem, List.map_append, List.map_cons, List.map_nil, Option.some.injEq, Prod.mk.injEq, SC.d.injEq, D.l.injEq, List.map_set])
    ·try simp only [hb6, hkhb6, hx7, hkx7, hn8, hk2x7, hb12, go_sem]
     exact joinQ_c (a4_1, IntKind.i64.wrap ((IntKind.u64.wrap (IntKind.i64.wrap (a4_1 + a4_2))).fdiv (2 ^ 1))) h [] rfl (by simp only [hb6, hkhb6, hx7, hkx7, hn8, hk2x7, hb12, go_sem, List.map_append, List.map_cons, List.map_nil, Option.some.injEq, Prod.mk.injEq, SC.d.injEq, D.l.injEq, List.map_set])
   ·obtain ⟨b10_1, b10_2⟩ := b
    try dsimp only at h
    rw [hk11] at h
    try simp only [hkhb6, hx7, hkx7, hn8, hk2x7, go_sem]
    exact loopQ_c (b10_1, b10_2) h [] rfl (by simp only [hkhb6, hx7, hkx7, hn8, hk2x7, go_sem, List.map_append, List.map_cons, List.map_nil, Option.some.injEq, Prod.mk.injEq, SC.d.injEq, D.l.injEq, List.map_set])
  ·try simp only [hb6, go_sem]
   exact joinQ_c (a4_1) h [] rfl (by simp only [hb6, go_sem, List.map_append, List.map_cons, List.map_nil, Option.some.injEq, Prod.mk.injEq, SC.d.injEq, D.l.injEq, List.map_set])
 ·try dsimp only at h
  rw [hk3] at h
  obtain ⟨k14, hk14, h⟩ := withK_lk1 h
  try simp only [go_sem]
  refine join_lk Try.prog G _ _ (B := Bool) (fun b => k14 b = some r) (fun b => [(6, .one (zi b2_1)), (7, .one (.d (.b b)))]) (fun b => []) ?_ (fun b13_1 h => ?_)
  ·rcases of_if h with ⟨hb15, h⟩ | ⟨hb15, h⟩
   ·obtain ⟨hn17, h⟩ := of_chk h
    obtain ⟨x16, hx16, h⟩ := obi h
    have hkx16 := gtx hx16
    try simp only [List.length_take, List.length_drop, List.length_append, List.length_set, List.length_map, List.length_cons, List.length_nil, Nat.zero_add] at hkx16
    have hk2x16 : b2_1 < ((p0.length : Nat) : Int) := by omega
    obtain ⟨v18, hv18, h⟩ := obi h
    try simp only [hb15, hx16, hkx16, hn17, hk2x16, go_sem]
    refine CallV.ro false (h_p2 x16 p1 v18 hv18) (by first | rfl | simp only [hb15, hx16, hkx16, hn17, hk2x16, go_sem, inVs_caps]) ?_
    rintro rs rfl
    refine ⟨.inl rfl, ?_⟩
    try simp only [hb15, hx16, hkx16, hn17, hk2x16, go_sem]
    exact joinQ_c (v18 == 0) h [] rfl (by simp only [hb15, hx16, hkx16, hn17, hk2x16, go_sem, List.map_append, List.map_cons, List.map_nil, Option.some.injEq, Prod.mk.injEq, SC.d.injEq, D.l.injEq, List.map_set])
   ·try simp only [hb15, go_sem]
    exact joinQ_c (false) h [] rfl (by simp only [hb15, go_sem, List.map_append, List.map_cons, List.map_nil, Option.some.injEq, Prod.mk.injEq, SC.d.injEq, D.l.injEq, List.map_set])
  ·try dsimp only at h
   rw [hk14] at h
   simp only [Option.some.injEq] at h
   subst h
   try simp only [go_sem, List.map_append, List.map_cons, List.map_nil, List.map_set]
def cmp_isNaN (p0 : Int) : Option (Bool) := (some false)
def F69 : VFn := ⟨6, (.seq (.reg [vo 2 (.mv (cb false))]) (.seq (.reg [vm 3 0, vm 4 0, vo 5 (.bin .i .neq (.t 3) (.t 4)), vm 2 5]) .ret)), [.t 2]⟩
theorem low69 : lowF Try.prog 69 = some F69.strip := by kernel_rfl
theorem fok69 : fOk Try.prog 69 = true := by kernel_rfl
theorem cmp_isNaN_ok (G : Nat → Option (List D)) (p0 : Int) (r : Bool) (h : cmp_isNaN p0 = some r) : FnRO Try.prog G 69 [.one (.d (.i .i64 p0))] (fun rs => rs = [.one (.b r)]) := by
 refine FnRO.of' low69 fok69 (by simp [F69]) ?_
 rw [cmp_isNaN] at h
 simp only [F69, go_sem]
 simp only [Option.some.injEq] at h
 subst h
 try simp only [go_sem, List.map_append, List.map_cons, List.map_nil, List.map_set]
def cmp_Compare (p0 : Int) (p1 : Int) : Option (Int) := (Option.bind (cmp_isNaN p0) fun v1 => (Option.bind (cmp_isNaN p1) fun v2 => (if v1 = true then (if v2 = true then (some 0) else (some (-1))) else (if v2 = true then (some 1) else (if (decide (p0 < p1)) = true then (some (-1)) else (if (decide (p0 > p1)) = true then (some 1) else (some 0)))))))
def F60 : VFn := ⟨20, (.seq (.reg [vo 4 (.mv (ci 0))]) (.seq (.reg [vm 7 0, vo 8 (.call 69 [(.t 7)]), vm 5 8]) (.seq (.reg [vm 9 1, vo 10 (.call 69 [(.t 9)]), vm 6 10]) (.seq (.seq (.reg [vm 11 5]) (.cond (.t 11) (.seq (.seq (.reg [vm 12 6]) (.cond (.t 12) (.seq (.reg [vo 4 (.mv (ci 0))]) .ret) .skip)) (.seq (.reg [vo 4 (.mv (ci (-1)))]) .ret)) .skip)) (.seq (.seq (.reg [vm 13 6]) (.cond (.t 13) (.seq (.reg [vo 4 (.mv (ci 1))]) .ret) .skip)) (.seq (.seq (.reg [vm 14 0, vm 15 1, vo 16 (.bin .i .lss (.t 14) (.t 15))]) (.cond (.t 16) (.seq (.reg [vo 4 (.mv (ci (-1)))]) .ret) .skip)) (.seq (.seq (.reg [vm 17 0, vm 18 1, vo 19 (.bin .i .gtr (.t 17) (.t 18))]) (.cond (.t 19) (.seq (.reg [vo 4 (.mv (ci 1))]) .ret) .skip)) (.seq (.reg [vo 4 (.mv (ci 0))]) .ret)))))))), [.t 4]⟩
theorem low60 : lowF Try.prog 60 = some F60.strip := by kernel_rfl
theorem fok60 : fOk Try.prog 60 = true := by kernel_rfl
theorem cmp_Compare_ok (G : Nat → Option (List D)) (p0 : Int) (p1 : Int) (r : Int) (h : cmp_Compare p0 p1 = some r) : FnRO Try.prog G 60 [.one (.d (.i .i64 p0)), .one (.d (.i .i64 p1))] (fun rs => rs = [.one (.i .i64 r)]) := by
 refine FnRO.of' low60 fok60 (by simp [F60]) ?_
 rw [cmp_Compare] at h
 simp only [F60, go_sem]
 obtain ⟨v1, hv1, h⟩ := obi h
 try simp only [go_sem]
 refine CallV.ro false (cmp_isNaN_ok G p0 v1 hv1) rfl ?_
 rintro rs rfl
 refine ⟨.inl rfl, ?_⟩
 obtain ⟨v2, hv2, h⟩ := obi h
 try simp only [go_sem]
 refine CallV.ro false (cmp_isNaN_ok G p1 v2 hv2) rfl ?_
 rintro rs rfl
 refine ⟨.inl rfl, ?_⟩
 rcases of_if h with ⟨hb3, h⟩ | ⟨hb3, h⟩
 ·rcases of_if h with ⟨hb4, h⟩ | ⟨hb4, h⟩
  ·simp only [Option.some.injEq] at h
   subst h
   try simp only [hb3, hb4, go_sem, List.map_append, List.map_cons, List.map_nil, List.map_set]
  ·simp only [Option.some.injEq] at h
   subst h
   try simp only [hb3, hb4, go_sem, List.map_append, List.map_cons, List.map_nil, List.map_set]
 ·rcases of_if h with ⟨hb5, h⟩ | ⟨hb5, h⟩
  ·simp only [Option.some.injEq] at h
   subst h
   try simp only [hb3, hb5, go_sem, List.map_append, List.map_cons, List.map_nil, List.map_set]
  ·rcases of_if h with ⟨hb6, h⟩ | ⟨hb6, h⟩
   ·have hkhb6 := of_decide_eq_true hb6
    simp only [Option.some.injEq] at h
    subst h
    try simp only [hb3, hb5, hb6, hkhb6, go_sem, List.map_append, List.map_cons, List.map_nil, List.map_set]
   ·rcases of_if h with ⟨hb7, h⟩ | ⟨hb7, h⟩
    ·simp only [Option.some.injEq] at h
     subst h
     try simp only [hb3, hb5, hb6, hb7, go_sem, List.map_append, List.map_cons, List.map_nil, List.map_set]
    ·simp only [Option.some.injEq] at h
     subst h
     try simp only [hb3, hb5, hb6, hb7, go_sem, List.map_append, List.map_cons, List.map_nil, List.map_set]
def store_at_1 (p0 : Item) (p1 : Int) : Option (Int) := (Option.bind (cmp_Compare p0.Key p1) fun v1 => (some v1))
def F59 : VFn := ⟨9, (.seq (.reg [vo 2 (.boxk 3 (.t 0)), vo 4 (.mv (ci 0))]) (.seq (.reg [vo 5 (.fa 0 (.t 2)), vo 6 (.ld false 1 (.t 5)), vm 7 1, vo 8 (.call 60 [(.t 6), (.t 7)]), vm 4 8]) .ret)), [.t 4]⟩
theorem low59 : lowF Try.prog 59 = some F59.strip := by kernel_rfl
theorem fok59 : fOk Try.prog 59 = true := by kernel_rfl
theorem store_at_1_ok (G : Nat → Option (List D)) (p0 : Item) (p1 : Int) (r : Int) (h : store_at_1 p0 p1 = some r) : FnRO Try.prog G 59 [.agg [.d (.i .i64 p0.Key), .d (.i .i64 p0.Value), .d (.i .i64 p0.Version)], .one (.d (.i .i64 p1))] (fun rs => rs = [.one (.i .i64 r)]) := by
 refine FnRO.of' low59 fok59 (by simp [F59]) ?_
 rw [store_at_1] at h
 simp only [F59, go_sem]
 obtain ⟨v1, hv1, h⟩ := obi h
 try simp only [go_sem]
 refine CallV.ro false (cmp_Compare_ok G p0.Key p1 v1 hv1) rfl ?_
 rintro rs rfl
 refine ⟨.inl rfl, ?_⟩
 simp only [Option.some.injEq] at h
 subst h
 try simp only [go_sem, List.map_append, List.map_cons, List.map_nil, List.map_set]
def store_at (p0 : List Item) (p1 : Int) : Option (Int × Bool) := (Option.bind (slices_BinarySearchFunc_int p0 p1 (fun y1 y2 => store_at_1 y1 y2)) fun v3 => (some (v3.1, v3.2)))
def F40 : VFn := ⟨11, (.seq (.reg [vo 4 (.mv (ci 0)), vo 5 (.mv (cb false))]) (.seq (.reg [vm 6 0, vm 7 1, vo 8 (.call 58 [(.t 6), (.t 7), (.fn 59)]), vo 9 (.ext (.t 8) 0), vo 10 (.ext (.t 8) 1), vm 4 9, vm 5 10]) .ret)), [.t 4, .t 5]⟩
theorem low40 : lowF Try.prog 40 = some F40.strip := by kernel_rfl
theorem fok40 : fOk Try.prog 40 = true := by kernel_rfl
theorem store_at_ok (G : Nat → Option (List D)) (p0 : List Item) (p1 : Int) (r : Int × Bool) (h : store_at p0 p1 = some r) : FnRO Try.prog G 40 [.one (.d (.l 3 (p0.map Item.enc))), .one (.d (.i .i64 p1))] (fun rs => rs = [.one (.i .i64 r.1), .one (.b r.2)]) := by
 refine FnRO.of' low40 fok40 (by simp [F40]) ?_
 rw [store_at] at h
 simp only [F40, go_sem]
 obtain ⟨v3, hv3, h⟩ := obi h
 try simp only [go_sem]
 refine CallV.ro false (slices_BinarySearchFunc_int_ok G p0 p1 (fun y1 y2 => store_at_1 y1 y2) 59 [] (fun y1 y2 r h => store_at_1_ok G y1 y2 r h) v3 hv3) (by first | rfl | (simp only [go_sem, inVs_caps]; done) | simp only [go_sem, inVs_caps, List.map_append, List.map_cons, List.map_nil, List.map_set]) ?_
 rintro rs rfl
 refine ⟨.inl rfl, ?_⟩
 simp only [Option.some.injEq] at h
 subst h
 try simp only [go_sem, List.map_append, List.map_cons, List.map_nil, List.map_set]
theorem ovl41 : OvlOk Try.prog 61 := ⟨((Try.prog.funcs[61]?).get (by kernel_rfl)), 26, 4, 78, (Option.some_get _).symm, by kernel_rfl, by kernel_rfl, by kernel_rfl, by kernel_rfl, by kernel_rfl, by kernel_rfl, by kernel_rfl⟩
theorem ins41 : InsOk Try.prog 41 3 24 := ⟨[(zi 0), (zi 0), (zi 0)], _, 61, 62, by kernel_rfl, by kernel_rfl, ovl41, fun _ => rfl, rfl, by decide⟩
def store_End_1 (p0 : Lock) (p1 : Txn) : Option (Bool) := (some ((p0.Txn.Site == p1.Site) && (p0.Txn.N == p1.N)))
def F43 : VFn := ⟨8, (.seq (.reg [vo 2 (.boxk 6 (.t 0)), vo 3 (.mv (cb false))]) (.seq (.reg [vo 4 (.fa 0 (.t 2)), vo 5 (.ld true 2 (.t 4)), vo 6 (.ld true 2 (.t 1)), vo 7 (.eqs false [.i, .i] (.t 5) (.t 6)), vm 3 7]) .ret)), [.t 3]⟩
theorem low43 : lowF Try.prog 43 = some F43.strip := by kernel_rfl
theorem fok43 : fOk Try.prog 43 = true := by kernel_rfl
theorem store_End_1_ok (G : Nat → Option (List D)) (p0 : Lock) (p1 : Txn) (r : Bool) (h : store_End_1 p0 p1 = some r) : FnRO Try.prog G 43 [.agg [.d (.i .i64 p0.Txn.Site), .d (.i .i64 p0.Txn.N), .d (.i .i64 p0.Key), .d (.b p0.Write), .d (.i .i64 p0.Value), .d (.i .i64 p0.Ask)], .one (.d (.k [.i .i64 p1.Site, .i .i64 p1.N]))] (fun rs => rs = [.one (.b r)]) := by
 refine FnRO.of' low43 fok43 (by simp [F43]) ?_
 rw [store_End_1] at h
 simp only [F43, go_sem]
 simp only [Option.some.injEq] at h
 subst h
 try simp only [go_sem, List.map_append, List.map_cons, List.map_nil, List.map_set]
def F42 : VFn := ⟨42, (.seq (.reg [vo 4 (.mv (.c (.one (.nl 6))))]) (.seq (.reg [vm 8 0, vm 9 1, vo 10 (.call 63 [(.t 8), (.t 9)]), vm 5 10]) (.seq (.seq (.reg [vm 11 5, vo 12 (.bin .i .eql (.t 11) (ci (-1)))]) (.cond (.t 12) (.seq (.reg [vm 13 0, vm 4 13]) .ret) .skip)) (.seq (.seq (.reg [vm 14 5, vo 15 (.bin .i .add (.t 14) (ci 1)), vm 6 15]) (.wk (.block 0 (.loop (.seq (.seq (.reg [vm 16 6, vm 17 0, vo 18 (.len (.t 17)), vo 19 (.bin .i .lss (.t 16) (.t 18))]) (.cond (.t 19) .skip (.exit 0))) (.seq (.block 1 (.seq (.reg [vm 22 0, vm 23 6, vo 24 (.ia 6 (.t 22) (.t 23)), vo 25 (.ld true 6 (.t 24)), vo 7 (.alloc [(zi 0), (zi 0), (zi 0), (.d (.b false)), (zi 0), (zi 0)]), vu (.st 6 (.t 7) (.t 25))]) (.seq (.reg [vm 26 1, vo 27 (.ld true 6 (.t 7)), vo 28 (.callv (.t 26) [(.t 27)]), vo 29 (.un .not (.t 28))]) (.wk (.cond (.t 29) (.seq (.reg [vm 30 0, vm 31 5, vo 32 (.ld true 6 (.t 7)), vo 33 (.ia 6 (.t 30) (.t 31)), vu (.st 6 (.t 33) (.t 32))]) (.reg [vm 34 5, vo 35 (.bin .i .add (.t 34) (ci 1)), vm 5 35])) .skip))))) (.reg [vm 20 6, vo 21 (.bin .i .add (.t 20) (ci 1)), vm 6 21]))))))) (.seq (.reg [vm 36 0, vm 37 5, vo 38 (.sl 6 (.t 36) (some (.t 37)) none), vu (.clr 6 [(zi 0), (zi 0), (zi 0), (.d (.b false)), (zi 0), (zi 0)] (.t 38))]) (.seq (.reg [vm 39 0, vm 40 5, vo 41 (.sl 6 (.t 39) none (some (.t 40))), vm 4 41]) .ret)))))), [.t 4]⟩
theorem low42 : lowF Try.prog 42 = some F42.strip := by kernel_rfl
theorem fok42 : fOk Try.prog 42 = true := by kernel_rfl
def store_End_2 (p0 : Doubt) (p1 : Txn) : Option (Bool) := (some ((p0.Txn.Site == p1.Site) && (p0.Txn.N == p1.N)))
def F45 : VFn := ⟨8, (.seq (.reg [vo 2 (.boxk 3 (.t 0)), vo 3 (.mv (cb false))]) (.seq (.reg [vo 4 (.fa 0 (.t 2)), vo 5 (.ld true 2 (.t 4)), vo 6 (.ld true 2 (.t 1)), vo 7 (.eqs false [.i, .i] (.t 5) (.t 6)), vm 3 7]) .ret)), [.t 3]⟩
theorem low45 : lowF Try.prog 45 = some F45.strip := by kernel_rfl
theorem fok45 : fOk Try.prog 45 = true := by kernel_rfl
theorem store_End_2_ok (G : Nat → Option (List D)) (p0 : Doubt) (p1 : Txn) (r : Bool) (h : store_End_2 p0 p1 = some r) : FnRO Try.prog G 45 [.agg [.d (.i .i64 p0.Txn.Site), .d (.i .i64 p0.Txn.N), .d (.i .i64 p0.Age)], .one (.d (.k [.i .i64 p1.Site, .i .i64 p1.N]))] (fun rs => rs = [.one (.b r)]) := by
 refine FnRO.of' low45 fok45 (by simp [F45]) ?_
 rw [store_End_2] at h
 simp only [F45, go_sem]
 simp only [Option.some.injEq] at h
 subst h
 try simp only [go_sem, List.map_append, List.map_cons, List.map_nil, List.map_set]
def F44 : VFn := ⟨42, (.seq (.reg [vo 4 (.mv (.c (.one (.nl 3))))]) (.seq (.reg [vm 8 0, vm 9 1, vo 10 (.call 64 [(.t 8), (.t 9)]), vm 5 10]) (.seq (.seq (.reg [vm 11 5, vo 12 (.bin .i .eql (.t 11) (ci (-1)))]) (.cond (.t 12) (.seq (.reg [vm 13 0, vm 4 13]) .ret) .skip)) (.seq (.seq (.reg [vm 14 5, vo 15 (.bin .i .add (.t 14) (ci 1)), vm 6 15]) (.wk (.block 0 (.loop (.seq (.seq (.reg [vm 16 6, vm 17 0, vo 18 (.len (.t 17)), vo 19 (.bin .i .lss (.t 16) (.t 18))]) (.cond (.t 19) .skip (.exit 0))) (.seq (.block 1 (.seq (.reg [vm 22 0, vm 23 6, vo 24 (.ia 3 (.t 22) (.t 23)), vo 25 (.ld true 3 (.t 24)), vo 7 (.alloc [(zi 0), (zi 0), (zi 0)]), vu (.st 3 (.t 7) (.t 25))]) (.seq (.reg [vm 26 1, vo 27 (.ld true 3 (.t 7)), vo 28 (.callv (.t 26) [(.t 27)]), vo 29 (.un .not (.t 28))]) (.wk (.cond (.t 29) (.seq (.reg [vm 30 0, vm 31 5, vo 32 (.ld true 3 (.t 7)), vo 33 (.ia 3 (.t 30) (.t 31)), vu (.st 3 (.t 33) (.t 32))]) (.reg [vm 34 5, vo 35 (.bin .i .add (.t 34) (ci 1)), vm 5 35])) .skip))))) (.reg [vm 20 6, vo 21 (.bin .i .add (.t 20) (ci 1)), vm 6 21]))))))) (.seq (.reg [vm 36 0, vm 37 5, vo 38 (.sl 3 (.t 36) (some (.t 37)) none), vu (.clr 3 [(zi 0), (zi 0), (zi 0)] (.t 38))]) (.seq (.reg [vm 39 0, vm 40 5, vo 41 (.sl 3 (.t 39) none (some (.t 40))), vm 4 41]) .ret)))))), [.t 4]⟩
theorem low44 : lowF Try.prog 44 = some F44.strip := by kernel_rfl
theorem fok44 : fOk Try.prog 44 = true := by kernel_rfl
end Go.V.Dec
