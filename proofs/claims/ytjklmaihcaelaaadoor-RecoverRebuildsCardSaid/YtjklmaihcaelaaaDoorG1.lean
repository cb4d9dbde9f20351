/- What Go's functions come to, as plain functions: part 1; no condition. -/
import Derived.Test.YtjklmaihcaelaaaDoorRows
import Derived.Test.YtjklmaihcaelaaaDoorVY
set_option linter.unusedVariables false
set_option linter.unusedSimpArgs false
namespace Go.V.Dec
open Go Go.Proofs
set_option maxRecDepth 100000
set_option maxHeartbeats 4000000
variable (G : Nat → Option (List D))
structure WireParts where
  label : Bool
  key : Bool
  value : Bool
  version : Bool
  ask : Bool
  yes : Bool
  code : Bool
  sites : Bool
  deriving Inhabited
def WireParts.enc (x : WireParts) : List D := [.b x.label, .b x.key, .b x.value, .b x.version, .b x.ask, .b x.yes, .b x.code, .b x.sites]
def WireParts.encO (x : WireParts) : List D := [.b x.label, .b x.key, .b x.value, .b x.version, .b x.ask, .b x.yes, .b x.code, .b x.sites]
structure Label where
  Level : Int
  Cats : Int
  deriving Inhabited
def Label.enc (x : Label) : List D := [.i .i64 x.Level, .i .i64 x.Cats]
def Label.encO (x : Label) : List D := [.i .i64 x.Level, .i .i64 x.Cats]
structure Config where
  Sites : Int
  Labels : List Label
  Patience : Int
  deriving Inhabited
def Config.enc (x : Config) : List D := [.i .i64 x.Sites, .l 2 (x.Labels.map Label.enc), .i .i64 x.Patience]
def Config.encO (x : Config) : List D := [.i .i64 x.Sites, .o 2 (x.Labels.map Label.enc), .i .i64 x.Patience]
structure Txn where
  Site : Int
  N : Int
  deriving Inhabited
def Txn.enc (x : Txn) : List D := [.i .i64 x.Site, .i .i64 x.N]
def Txn.encO (x : Txn) : List D := [.i .i64 x.Site, .i .i64 x.N]
structure Record where
  Kind : Int
  Txn : Txn
  Key : Int
  Value : Int
  Ask : Int
  Yes : Bool
  Sites : List Int
  deriving Inhabited
def Record.enc (x : Record) : List D := [.i .i64 x.Kind, .i .i64 x.Txn.Site, .i .i64 x.Txn.N, .i .i64 x.Key, .i .i64 x.Value, .i .i64 x.Ask, .b x.Yes, .l 1 (x.Sites.map encI)]
def Record.encO (x : Record) : List D := [.i .i64 x.Kind, .i .i64 x.Txn.Site, .i .i64 x.Txn.N, .i .i64 x.Key, .i .i64 x.Value, .i .i64 x.Ask, .b x.Yes, .o 1 (x.Sites.map encI)]
structure Item where
  Key : Int
  Value : Int
  Version : Int
  deriving Inhabited
def Item.enc (x : Item) : List D := [.i .i64 x.Key, .i .i64 x.Value, .i .i64 x.Version]
def Item.encO (x : Item) : List D := [.i .i64 x.Key, .i .i64 x.Value, .i .i64 x.Version]
structure Lock where
  Txn : Txn
  Key : Int
  Write : Bool
  Value : Int
  Ask : Int
  deriving Inhabited
def Lock.enc (x : Lock) : List D := [.i .i64 x.Txn.Site, .i .i64 x.Txn.N, .i .i64 x.Key, .b x.Write, .i .i64 x.Value, .i .i64 x.Ask]
def Lock.encO (x : Lock) : List D := [.i .i64 x.Txn.Site, .i .i64 x.Txn.N, .i .i64 x.Key, .b x.Write, .i .i64 x.Value, .i .i64 x.Ask]
structure Doubt where
  Txn : Txn
  Age : Int
  deriving Inhabited
def Doubt.enc (x : Doubt) : List D := [.i .i64 x.Txn.Site, .i .i64 x.Txn.N, .i .i64 x.Age]
def Doubt.encO (x : Doubt) : List D := [.i .i64 x.Txn.Site, .i .i64 x.Txn.N, .i .i64 x.Age]
structure Store where
  Items : List Item
  Locks : List Lock
  Doubts : List Doubt
  Over : List Txn
  deriving Inhabited
def Store.enc (x : Store) : List D := [.l 3 (x.Items.map Item.enc), .l 6 (x.Locks.map Lock.enc), .l 3 (x.Doubts.map Doubt.enc), .l 2 (x.Over.map Txn.enc)]
def Store.encO (x : Store) : List D := [.o 3 (x.Items.map Item.enc), .o 6 (x.Locks.map Lock.enc), .o 3 (x.Doubts.map Doubt.enc), .o 2 (x.Over.map Txn.enc)]
structure Task where
  Write : Bool
  Label : Int
  Key : Int
  Value : Int
  Version : Int
  Ask : Int
  Done : Bool
  Sure : Bool
  deriving Inhabited
def Task.enc (x : Task) : List D := [.b x.Write, .i .i64 x.Label, .i .i64 x.Key, .i .i64 x.Value, .i .i64 x.Version, .i .i64 x.Ask, .b x.Done, .b x.Sure]
def Task.encO (x : Task) : List D := [.b x.Write, .i .i64 x.Label, .i .i64 x.Key, .i .i64 x.Value, .i .i64 x.Version, .i .i64 x.Ask, .b x.Done, .b x.Sure]
structure Job where
  N : Int
  State : Int
  Tasks : List Task
  Asked : List Int
  Asks : Int
  Age : Int
  deriving Inhabited
def Job.enc (x : Job) : List D := [.i .i64 x.N, .i .i64 x.State, .l 8 (x.Tasks.map Task.enc), .l 1 (x.Asked.map encI), .i .i64 x.Asks, .i .i64 x.Age]
def Job.encO (x : Job) : List D := [.i .i64 x.N, .i .i64 x.State, .o 8 (x.Tasks.map Task.enc), .o 1 (x.Asked.map encI), .i .i64 x.Asks, .i .i64 x.Age]
structure Desk where
  Next : Int
  Jobs : List Job
  deriving Inhabited
def Desk.enc (x : Desk) : List D := [.i .i64 x.Next, .l 6 (x.Jobs.map Job.enc)]
def Desk.encO (x : Desk) : List D := [.i .i64 x.Next, .o 6 (x.Jobs.map Job.enc)]
structure Note where
  Txn : Txn
  Yes : Bool
  Damage : Bool
  deriving Inhabited
def Note.enc (x : Note) : List D := [.i .i64 x.Txn.Site, .i .i64 x.Txn.N, .b x.Yes, .b x.Damage]
def Note.encO (x : Note) : List D := [.i .i64 x.Txn.Site, .i .i64 x.Txn.N, .b x.Yes, .b x.Damage]
structure RecoverMemory where
  me : Int
  store : Store
  desk : Desk
  notes : List Note
  deriving Inhabited
def RecoverMemory.enc (x : RecoverMemory) : List D := [.i .i64 x.me, .l 3 (x.store.Items.map Item.enc), .l 6 (x.store.Locks.map Lock.enc), .l 3 (x.store.Doubts.map Doubt.enc), .l 2 (x.store.Over.map Txn.enc), .i .i64 x.desk.Next, .l 6 (x.desk.Jobs.map Job.enc), .l 4 (x.notes.map Note.enc)]
def RecoverMemory.encO (x : RecoverMemory) : List D := [.i .i64 x.me, .o 3 (x.store.Items.map Item.enc), .o 6 (x.store.Locks.map Lock.enc), .o 3 (x.store.Doubts.map Doubt.enc), .o 2 (x.store.Over.map Txn.enc), .i .i64 x.desk.Next, .o 6 (x.desk.Jobs.map Job.enc), .o 4 (x.notes.map Note.enc)]
def WireParts.bx (x : WireParts) : List SC := [.d (.b x.label), .d (.b x.key), .d (.b x.value), .d (.b x.version), .d (.b x.ask), .d (.b x.yes), .d (.b x.code), .d (.b x.sites)]
def Label.bx (x : Label) : List SC := [.d (.i .i64 x.Level), .d (.i .i64 x.Cats)]
def Config.bx (x : Config) : List SC := [.d (.i .i64 x.Sites), .d (.l 2 (x.Labels.map Label.enc)), .d (.i .i64 x.Patience)]
def Txn.bx (x : Txn) : List SC := [.d (.i .i64 x.Site), .d (.i .i64 x.N)]
def Record.bx (x : Record) : List SC := [.d (.i .i64 x.Kind), .d (.i .i64 x.Txn.Site), .d (.i .i64 x.Txn.N), .d (.i .i64 x.Key), .d (.i .i64 x.Value), .d (.i .i64 x.Ask), .d (.b x.Yes), .d (.l 1 (x.Sites.map encI))]
def Item.bx (x : Item) : List SC := [.d (.i .i64 x.Key), .d (.i .i64 x.Value), .d (.i .i64 x.Version)]
def Lock.bx (x : Lock) : List SC := [.d (.i .i64 x.Txn.Site), .d (.i .i64 x.Txn.N), .d (.i .i64 x.Key), .d (.b x.Write), .d (.i .i64 x.Value), .d (.i .i64 x.Ask)]
def Doubt.bx (x : Doubt) : List SC := [.d (.i .i64 x.Txn.Site), .d (.i .i64 x.Txn.N), .d (.i .i64 x.Age)]
def Store.bx (x : Store) : List SC := [.d (.l 3 (x.Items.map Item.enc)), .d (.l 6 (x.Locks.map Lock.enc)), .d (.l 3 (x.Doubts.map Doubt.enc)), .d (.l 2 (x.Over.map Txn.enc))]
def Task.bx (x : Task) : List SC := [.d (.b x.Write), .d (.i .i64 x.Label), .d (.i .i64 x.Key), .d (.i .i64 x.Value), .d (.i .i64 x.Version), .d (.i .i64 x.Ask), .d (.b x.Done), .d (.b x.Sure)]
def Job.bx (x : Job) : List SC := [.d (.i .i64 x.N), .d (.i .i64 x.State), .d (.l 8 (x.Tasks.map Task.enc)), .d (.l 1 (x.Asked.map encI)), .d (.i .i64 x.Asks), .d (.i .i64 x.Age)]
def Desk.bx (x : Desk) : List SC := [.d (.i .i64 x.Next), .d (.l 6 (x.Jobs.map Job.enc))]
def Note.bx (x : Note) : List SC := [.d (.i .i64 x.Txn.Site), .d (.i .i64 x.Txn.N), .d (.b x.Yes), .d (.b x.Damage)]
def RecoverMemory.bx (x : RecoverMemory) : List SC := [.d (.i .i64 x.me), .d (.l 3 (x.store.Items.map Item.enc)), .d (.l 6 (x.store.Locks.map Lock.enc)), .d (.l 3 (x.store.Doubts.map Doubt.enc)), .d (.l 2 (x.store.Over.map Txn.enc)), .d (.i .i64 x.desk.Next), .d (.l 6 (x.desk.Jobs.map Job.enc)), .d (.l 4 (x.notes.map Note.enc))]
attribute [go_sem] encI WireParts.enc WireParts.encO WireParts.bx Label.enc Label.encO Label.bx Config.enc Config.encO Config.bx Txn.enc Txn.encO Txn.bx Record.enc Record.encO Record.bx Item.enc Item.encO Item.bx Lock.enc Lock.encO Lock.bx Doubt.enc Doubt.encO Doubt.bx Store.enc Store.encO Store.bx Task.enc Task.encO Task.bx Job.enc Job.encO Job.bx Desk.enc Desk.encO Desk.bx Note.enc Note.encO Note.bx RecoverMemory.enc RecoverMemory.encO RecoverMemory.bx
def w0i : List WireParts := [WireParts.mk false false false false false false false false, WireParts.mk false true true false true false false false, WireParts.mk false false false false false true false false, WireParts.mk false false false false false false false true, WireParts.mk false false false false false false false false, WireParts.mk false false false false false false false false, WireParts.mk false false false false false true false false]
def wy : List D := [.b false, .b false, .b false, .b false, .b false, .b false, .b false, .b false, .b false, .b true, .b true, .b false, .b true, .b false, .b false, .b false, .b false, .b false, .b false, .b false, .b false, .b true, .b false, .b false, .b false, .b false, .b false, .b false, .b false, .b false, .b false, .b true, .b false, .b false, .b false, .b false, .b false, .b false, .b false, .b false, .b false, .b false, .b false, .b false, .b false, .b false, .b false, .b false, .b false, .b false, .b false, .b false, .b false, .b true, .b false, .b false]
theorem w1f : rowsT 8 7 wy = w0i.map WireParts.enc := by rfl
theorem v1f : wy.length = 56 := by rfl
theorem u1g : w0i.length = 7 := by rfl
attribute [go_sem] w1f v1f
def z0z (p0 : Label) : Option (Bool) := (withK (fun (b1_1 : Bool) => (some b1_1)) fun k2 => (if (decide (p0.Level ≥ 0)) = true then (if (decide (p0.Level ≤ 9)) = true then (if (decide (p0.Cats ≥ 0)) = true then (k2 (decide (p0.Cats ≤ 15))) else (k2 false)) else (k2 false)) else (k2 false)))
def F39 : VFn := ⟨21, (.seq (.reg [vo 1 (.boxk 2 (.t 0)), vo 2 (.mv (cb false))]) (.seq (.wk (.reg [vf 3 0 1, vs 4 3, bk 5 .geq 4 0, vm 6 5, gt 7 6 (.fa 0 (.t 1)), gt 8 6 (.ld false 1 (.t 7)), gt 9 6 (.bin .i .leq (.t 8) (ci 9)), vo 10 (.pick (.t 6) (.t 9) (cb false)), vm 11 10, gt 12 11 (.fa 1 (.t 1)), gt 13 11 (.ld false 1 (.t 12)), gt 14 11 (.bin .i .geq (.t 13) (ci 0)), vo 15 (.pick (.t 11) (.t 14) (cb false)), vm 16 15, gt 17 16 (.fa 1 (.t 1)), gt 18 16 (.ld false 1 (.t 17)), gt 19 16 (.bin .i .leq (.t 18) (ci 15)), vo 20 (.pick (.t 16) (.t 19) (cb false)), vm 2 20])) .ret)), [.t 2]⟩
theorem low39 : lowF Tryd.prog 39 = some F39.strip := by kernel_rfl
theorem fok39 : fOk Tryd.prog 39 = true := by kernel_rfl
theorem v3p (p0 : Label) (r : Bool) (h : z0z p0 = some r) : FnRO Tryd.prog G 39 [.agg p0.bx] (fun rs => rs = [.one (.b r)]) := by
 refine FnRO.of' low39 fok39 (by simp [F39]) ?_
 rw [z0z] at h
 replace h := Hd.mk h
 simp only [F39, go_sem]
 try simp only [*, go_sem]
 refine jn1 h (fun b1_1 => [zB 2 b1_1]) (fun b1_1 => []) (fun k2 h => ?_) (fun b1_1 h => ?_)
 refine oi h (fun hb3 h => ?_) (fun hb3 h => ?_)
 refine oi h (fun hb4 h => ?_) (fun hb4 h => ?_)
 refine oi h (fun hb5 h => ?_) (fun hb5 h => ?_)
 try simp only [*, go_sem]
 exact jc (decide (p0.Cats ≤ 15)) h.e []
 try simp only [*, go_sem]
 exact jc (false) h.e []
 try simp only [*, go_sem]
 exact jc (false) h.e []
 try simp only [*, go_sem]
 exact jc (false) h.e []
 cases h.e
 simp only [*, go_sem, mA, mS]
def yt (p0 : Config) (a10_1 : Nat) (x13 : Label) (k19 : Option (Int)) : Nat → Nat → Option (Int)
 | 0, _ => none
 | n21 + 1, a20_1 => (if (decide (a20_1 < min a10_1 p0.Labels.length)) = true then (Option.bind ((p0.Labels.take a10_1)[a20_1]?) fun x23 => (if ((x23.Level == x13.Level) && (x23.Cats == x13.Cats)) = true then (some 7) else (yt p0 a10_1 x13 k19 n21 (a20_1 + 1)))) else k19)
def u0c (p0 : Config) (k9 : Option (Int)) : Nat → Nat → Option (Int)
 | 0, _ => none
 | n11 + 1, a10_1 => (if (decide (a10_1 < p0.Labels.length)) = true then (Option.bind (p0.Labels[a10_1]?) fun x13 => (Option.bind (z0z x13) fun v14 => (if (!v14) = true then (some 2) else (withK (u0c p0 k9 n11 (a10_1 + 1)) fun k19 => (yt p0 a10_1 x13 k19 (min a10_1 p0.Labels.length + 1) 0))))) else k9)
def u0k (p0 : Config) : Option (Int) := (if (decide (p0.Sites < 1)) = true then (some 2) else (if (decide (p0.Sites > 4)) = true then (some 2) else (if (decide (((p0.Labels.length : Nat) : Int) < 1)) = true then (some 1) else (if (decide (((p0.Labels.length : Nat) : Int) > 6)) = true then (some 1) else (withK (if (decide (p0.Patience < 1)) = true then (some 2) else (if (decide (p0.Patience > 1048576)) = true then (some 2) else (some 0))) fun k9 => (u0c p0 k9 (p0.Labels.length + 1) 0))))))
def F13 : VFn := ⟨58, (.seq (.reg [vo 1 (.boxk 3 (.t 0)), mi 2 0]) (.seq (.seq (.reg [vf 7 0 1, vs 8 7, bk 9 .lss 8 1, vm 10 9, gf 11 10 (.fa 0 (.t 1)), gf 12 10 (.ld false 1 (.t 11)), gf 13 10 (.bin .i .gtr (.t 12) (ci 4)), vo 14 (.pick (.t 10) (cb true) (.t 13))]) (.cond (.t 14) (.seq (.reg [mi 2 2]) .ret) .skip)) (.seq (.seq (.reg [vf 15 1 1, vs 16 15, ln 17 16, bk 18 .lss 17 1, vm 19 18, gf 20 19 (.fa 1 (.t 1)), gf 21 19 (.ld false 1 (.t 20)), gf 22 19 (.len (.t 21)), gf 23 19 (.bin .i .gtr (.t 22) (ci 6)), vo 24 (.pick (.t 19) (cb true) (.t 23))]) (.cond (.t 24) (.seq (.reg [mi 2 1]) .ret) .skip)) (.seq (.seq (.reg [vf 25 1 1, vs 26 25, ln 27 26, mi 28 0]) (.wk (.block 0 (.loop (.seq (.reg [bt 29 .lss 28 27]) (.seq (.cond (.t 29) .skip (.exit 0)) (.seq (.block 1 (.seq (.reg [vm 30 28, xa 31 2 26 28, vl 32 2 31, vo 4 (.alloc [(zi 0), (zi 0)]), vm 3 30, vu (.st 2 (.t 4) (.t 32))]) (.seq (.seq (.reg [vl 33 2 4, vo 34 (.call 39 [(.t 33)]), nt 35 34]) (.cond (.t 35) (.seq (.reg [mi 2 2]) .ret) .skip)) (.seq (.reg [vf 36 1 1, vs 37 36, vm 38 3, vo 39 (.sl 2 (.t 37) none (some (.t 38))), ln 40 39, mi 41 0]) (.wk (.block 2 (.loop (.seq (.reg [bt 42 .lss 41 40]) (.seq (.cond (.t 42) .skip (.exit 2)) (.seq (.block 3 (.seq (.reg [xa 43 2 39 41, vl 44 2 43, vo 6 (.alloc [(zi 0), (zi 0)]), vu (.st 2 (.t 6) (.t 44))]) (.seq (.reg [vl 45 2 6, vl 46 2 4, vo 47 (.eqs false [.i, .i] (.t 45) (.t 46))]) (.cond (.t 47) (.seq (.reg [mi 2 7]) .ret) .skip)))) (.reg [bk 48 .add 41 1, vm 41 48]))))))))))) (.reg [bk 49 .add 28 1, vm 28 49])))))))) (.seq (.seq (.reg [vf 50 2 1, vs 51 50, bk 52 .lss 51 1, vm 53 52, gf 54 53 (.fa 2 (.t 1)), gf 55 53 (.ld false 1 (.t 54)), gf 56 53 (.bin .i .gtr (.t 55) (ci 1048576)), vo 57 (.pick (.t 53) (cb true) (.t 56))]) (.cond (.t 57) (.seq (.reg [mi 2 2]) .ret) .skip)) (.seq (.reg [mi 2 0]) .ret)))))), [.t 2]⟩
theorem low13 : lowF Tryd.prog 13 = some F13.strip := by kernel_rfl
theorem fok13 : fOk Tryd.prog 13 = true := by kernel_rfl
theorem y1i (p0 : Config) (r : Int) (h : u0k p0 = some r) : FnRO Tryd.prog G 13 [.agg p0.bx] (fun rs => rs = [.one (.i .i64 r)]) := by
 refine FnRO.of' low13 fok13 (by simp [F13]) ?_
 rw [u0k] at h
 replace h := Hd.mk h
 simp only [F13, go_sem]
 refine oi h (fun hb1 h => ?_) (fun hb1 h => ?_)
 have := of_decide_eq_true hb1
 cases h.e
 simp only [*, go_sem, mA, mS]
 refine oi h (fun hb2 h => ?_) (fun hb2 h => ?_)
 cases h.e
 simp only [*, go_sem, mA, mS]
 try simp only [*, go_sem]
 intro hl3
 refine oi h (fun hb4 h => ?_) (fun hb4 h => ?_)
 cases h.e
 simp only [*, go_sem, mA, mS]
 try simp only [*, go_sem]
 intro hl5
 refine oi h (fun hb6 h => ?_) (fun hb6 h => ?_)
 cases h.e
 simp only [*, go_sem, mA, mS]
 try simp only [*, go_sem]
 intro hl7
 try simp only [*, go_sem]
 refine jn0 h ([zK 1 (Config.enc p0)]) ([]) (fun k9 h => ?_) (fun h => ?_)
 try simp only [*, go_sem]
 refine lp1 (u0c p0 k9) (fun a10_1 => [zK 1 (Config.enc p0), zL 26 2 (p0.Labels.map Label.enc), zI 27 ((p0.Labels.length : Nat) : Int), zI 28 ((a10_1 : Nat) : Int)]) (fun a10_1 => []) h [] [] (fun n11 a10_1 h => ?_) (by intros; rw [u0c])
 rw [u0c] at h
 refine oi h (fun hb12 h => ?_) (fun hb12 h => ?_)
 have := of_decide_eq_true hb12
 refine obg h (fun x13 _ hkx13 h => ?_)
 try simp only [*, go_sem]
 refine cr h (v3p G x13) (fun v14 h => ?_)
 refine oin h (fun hb15 hkhb15 h => ?_) (fun hb15 hkhb15 h => ?_)
 cases h.e
 simp only [*, go_sem, mA, mS]
 have := Nat.le_of_lt hkx13
 try simp only [*, go_sem]
 intro hl17
 try simp only [*, go_sem]
 refine jn0 h ([zK 1 (Config.enc p0), zL 26 2 (p0.Labels.map Label.enc), zI 27 ((p0.Labels.length : Nat) : Int), zI 28 ((a10_1 : Nat) : Int)]) ([]) (fun k19 h => ?_) (fun h => ?_)
 try simp only [*, go_sem]
 refine lp1 (yt p0 a10_1 x13 k19) (fun a20_1 => [zK 1 (Config.enc p0), zP 4 0, zL 26 2 (p0.Labels.map Label.enc), zI 27 ((p0.Labels.length : Nat) : Int), zI 28 ((a10_1 : Nat) : Int), zL 39 2 ((p0.Labels.take a10_1).map Label.enc), zI 40 ((min a10_1 p0.Labels.length : Nat) : Int), zI 41 ((a20_1 : Nat) : Int)]) (fun a20_1 => [ox x13.bx]) h [] [some 0] (fun n21 a20_1 h => ?_) (by intros; rw [yt])
 rw [yt] at h
 refine oi h (fun hb22 h => ?_) (fun hb22 h => ?_)
 refine obg h (fun x23 _ hkx23 h => ?_)
 try simp only [List.length_take, List.length_drop, List.length_append, List.length_set, List.length_map, List.length_cons, List.length_nil, Nat.zero_add] at hkx23
 refine oi h (fun hb24 h => ?_) (fun hb24 h => ?_)
 try simp only [*, go_sem]
 cases h.e
 simp only [*, go_sem, mA, mS]
 try simp only [*, go_sem]
 have := za hkx23 hl17
 try simp only [*, go_sem]
 exact lc (a20_1 + 1) h.e [some 0]
 try simp only [*, go_sem]
 exact jc () h.e []
 have := za hkx13 hl3
 try simp only [*, go_sem]
 exact lc (a10_1 + 1) h.e []
 try simp only [*, go_sem]
 exact jc () h.e []
 refine oi h (fun hb27 h => ?_) (fun hb27 h => ?_)
 have := of_decide_eq_true hb27
 cases h.e
 simp only [*, go_sem, mA, mS]
 refine oi h (fun hb28 h => ?_) (fun hb28 h => ?_)
 cases h.e
 simp only [*, go_sem, mA, mS]
 cases h.e
 simp only [*, go_sem, mA, mS]
def x1g (p0 : Config) (p1 : Txn) : Option (Bool) := (withK (fun (b1_1 : Bool) => (some b1_1)) fun k2 => (if (decide (p1.Site ≥ 0)) = true then (if (decide (p1.Site < p0.Sites)) = true then (if (decide (p1.N ≥ 1)) = true then (k2 (decide (p1.N ≤ 1048576))) else (k2 false)) else (k2 false)) else (k2 false)))
def F40 : VFn := ⟨25, (.seq (.reg [vo 2 (.box 3 (.t 0)), vo 3 (.boxk 2 (.t 1)), vo 4 (.mv (cb false))]) (.seq (.wk (.reg [vf 5 0 3, vs 6 5, bk 7 .geq 6 0, vm 8 7, gt 9 8 (.fa 0 (.t 3)), gt 10 8 (.ld false 1 (.t 9)), gt 11 8 (.fa 0 (.t 2)), gt 12 8 (.ld false 1 (.t 11)), gt 13 8 (.bin .i .lss (.t 10) (.t 12)), vo 14 (.pick (.t 8) (.t 13) (cb false)), vm 15 14, gt 16 15 (.fa 1 (.t 3)), gt 17 15 (.ld false 1 (.t 16)), gt 18 15 (.bin .i .geq (.t 17) (ci 1)), vo 19 (.pick (.t 15) (.t 18) (cb false)), vm 20 19, gt 21 20 (.fa 1 (.t 3)), gt 22 20 (.ld false 1 (.t 21)), gt 23 20 (.bin .i .leq (.t 22) (ci 1048576)), vo 24 (.pick (.t 20) (.t 23) (cb false)), vm 4 24])) .ret)), [.t 4]⟩
theorem low40 : lowF Tryd.prog 40 = some F40.strip := by kernel_rfl
theorem fok40 : fOk Tryd.prog 40 = true := by kernel_rfl
theorem x3v (p0 : Config) (p1 : Txn) (r : Bool) (h : x1g p0 p1 = some r) : FnRO Tryd.prog G 40 [.agg p0.bx, .agg p1.bx] (fun rs => rs = [.one (.b r)]) := by
 refine FnRO.of' low40 fok40 (by simp [F40]) ?_
 rw [x1g] at h
 replace h := Hd.mk h
 simp only [F40, go_sem]
 try simp only [*, go_sem]
 refine jn1 h (fun b1_1 => [zB 4 b1_1]) (fun b1_1 => []) (fun k2 h => ?_) (fun b1_1 h => ?_)
 refine oi h (fun hb3 h => ?_) (fun hb3 h => ?_)
 refine oi h (fun hb4 h => ?_) (fun hb4 h => ?_)
 have := of_decide_eq_true hb4
 refine oi h (fun hb5 h => ?_) (fun hb5 h => ?_)
 try simp only [*, go_sem]
 exact jc (decide (p1.N ≤ 1048576)) h.e []
 try simp only [*, go_sem]
 exact jc (false) h.e []
 try simp only [*, go_sem]
 exact jc (false) h.e []
 try simp only [*, go_sem]
 exact jc (false) h.e []
 cases h.e
 simp only [*, go_sem, mA, mS]
def w1g (p0 : Int) : Option (Bool) := (withK (fun (b1_1 : Bool) => (some b1_1)) fun k2 => (if (decide (p0 ≥ 0)) = true then (k2 (decide (p0 < 8))) else (k2 false)))
def F41 : VFn := ⟨9, (.seq (.reg [vo 2 (.mv (cb false))]) (.seq (.wk (.reg [vm 3 0, bk 4 .geq 3 0, vm 5 4, gt 6 5 (.mv (.t 0)), gt 7 5 (.bin .i .lss (.t 6) (ci 8)), vo 8 (.pick (.t 5) (.t 7) (cb false)), vm 2 8])) .ret)), [.t 2]⟩
theorem low41 : lowF Tryd.prog 41 = some F41.strip := by kernel_rfl
theorem fok41 : fOk Tryd.prog 41 = true := by kernel_rfl
theorem w3v (p0 : Int) (r : Bool) (h : w1g p0 = some r) : FnRO Tryd.prog G 41 [.one (.d (.i .i64 p0))] (fun rs => rs = [.one (.b r)]) := by
 refine FnRO.of' low41 fok41 (by simp [F41]) ?_
 rw [w1g] at h
 replace h := Hd.mk h
 simp only [F41, go_sem]
 try simp only [*, go_sem]
 refine jn1 h (fun b1_1 => [zB 2 b1_1]) (fun b1_1 => []) (fun k2 h => ?_) (fun b1_1 h => ?_)
 refine oi h (fun hb3 h => ?_) (fun hb3 h => ?_)
 try simp only [*, go_sem]
 exact jc (decide (p0 < 8)) h.e []
 try simp only [*, go_sem]
 exact jc (false) h.e []
 cases h.e
 simp only [*, go_sem, mA, mS]
def v0t (p0 : Int) : Option (Bool) := (withK (fun (b1_1 : Bool) => (some b1_1)) fun k2 => (if (decide (p0 ≥ 0)) = true then (k2 (decide (p0 ≤ 1073741824))) else (k2 false)))
def F42 : VFn := ⟨9, (.seq (.reg [vo 2 (.mv (cb false))]) (.seq (.wk (.reg [vm 3 0, bk 4 .geq 3 0, vm 5 4, gt 6 5 (.mv (.t 0)), gt 7 5 (.bin .i .leq (.t 6) (ci 1073741824)), vo 8 (.pick (.t 5) (.t 7) (cb false)), vm 2 8])) .ret)), [.t 2]⟩
theorem low42 : lowF Tryd.prog 42 = some F42.strip := by kernel_rfl
theorem fok42 : fOk Tryd.prog 42 = true := by kernel_rfl
theorem w3f (p0 : Int) (r : Bool) (h : v0t p0 = some r) : FnRO Tryd.prog G 42 [.one (.d (.i .i64 p0))] (fun rs => rs = [.one (.b r)]) := by
 refine FnRO.of' low42 fok42 (by simp [F42]) ?_
 rw [v0t] at h
 replace h := Hd.mk h
 simp only [F42, go_sem]
 try simp only [*, go_sem]
 refine jn1 h (fun b1_1 => [zB 2 b1_1]) (fun b1_1 => []) (fun k2 h => ?_) (fun b1_1 h => ?_)
 refine oi h (fun hb3 h => ?_) (fun hb3 h => ?_)
 try simp only [*, go_sem]
 exact jc (decide (p0 ≤ 1073741824)) h.e []
 try simp only [*, go_sem]
 exact jc (false) h.e []
 cases h.e
 simp only [*, go_sem, mA, mS]
def v1g (p0 : Int) : Option (Bool) := (withK (fun (b1_1 : Bool) => (some b1_1)) fun k2 => (if (decide (p0 ≥ 0)) = true then (k2 (decide (p0 ≤ 1048576))) else (k2 false)))
def F43 : VFn := ⟨9, (.seq (.reg [vo 2 (.mv (cb false))]) (.seq (.wk (.reg [vm 3 0, bk 4 .geq 3 0, vm 5 4, gt 6 5 (.mv (.t 0)), gt 7 5 (.bin .i .leq (.t 6) (ci 1048576)), vo 8 (.pick (.t 5) (.t 7) (cb false)), vm 2 8])) .ret)), [.t 2]⟩
theorem low43 : lowF Tryd.prog 43 = some F43.strip := by kernel_rfl
theorem fok43 : fOk Tryd.prog 43 = true := by kernel_rfl
theorem v3v (p0 : Int) (r : Bool) (h : v1g p0 = some r) : FnRO Tryd.prog G 43 [.one (.d (.i .i64 p0))] (fun rs => rs = [.one (.b r)]) := by
 refine FnRO.of' low43 fok43 (by simp [F43]) ?_
 rw [v1g] at h
 replace h := Hd.mk h
 simp only [F43, go_sem]
 try simp only [*, go_sem]
 refine jn1 h (fun b1_1 => [zB 2 b1_1]) (fun b1_1 => []) (fun k2 h => ?_) (fun b1_1 h => ?_)
 refine oi h (fun hb3 h => ?_) (fun hb3 h => ?_)
 try simp only [*, go_sem]
 exact jc (decide (p0 ≤ 1048576)) h.e []
 try simp only [*, go_sem]
 exact jc (false) h.e []
 cases h.e
 simp only [*, go_sem, mA, mS]
def wn (p0 : Config) (p1 : Record) (k19 : Option (Int)) : Nat → Nat → Option (Int)
 | 0, _ => none
 | n21 + 1, a20_1 => (if (decide (a20_1 < p1.Sites.length)) = true then (Option.bind (p1.Sites[a20_1]?) fun x23 => (if ((decide (x23 < 0)) || (decide (x23 ≥ p0.Sites))) = true then (some 2) else (if (decide (((a20_1 : Nat) : Int) > 0)) = true then (if 0 ≤ IntKind.i64.wrap (((a20_1 : Nat) : Int) - 1) then (Option.bind (p1.Sites[(IntKind.i64.wrap (((a20_1 : Nat) : Int) - 1)).toNat]?) fun x28 => (if (decide (x28 ≥ x23)) = true then (some 2) else (wn p0 p1 k19 n21 (a20_1 + 1)))) else none) else (wn p0 p1 k19 n21 (a20_1 + 1))))) else k19)
def y0c (p0 : Config) (p1 : Record) : Option (Int) := (Option.bind (u0k p0) fun v1 => (if (v1 != 0) = true then (some v1) else (if (decide (p1.Kind < 1)) = true then (some 3) else (if (decide (p1.Kind > 6)) = true then (some 3) else (withK (fun (b5_1 : Bool) => (withK (fun (b10_1 : Bool) => (if b10_1 = true then (some 2) else (Option.bind (v1g p1.Ask) fun v15 => (if (!v15) = true then (some 2) else (withK (if 0 ≤ p1.Kind then (Option.bind (w0i[p1.Kind.toNat]?) fun x33 => (if (((((!x33.key) && (p1.Key != 0)) || ((!x33.value) && (p1.Value != 0))) || ((!x33.ask) && (p1.Ask != 0))) || ((!x33.yes) && p1.Yes)) = true then (some 4) else (if (!x33.sites) = true then (if (decide (((p1.Sites.length : Nat) : Int) > 0)) = true then (some 4) else (some 0)) else (some 0)))) else none) fun k19 => (wn p0 p1 k19 (p1.Sites.length + 1) 0)))))) fun k11 => (if b5_1 = true then (k11 true) else (Option.bind (v0t p1.Value) fun v13 => (k11 (!v13)))))) fun k6 => (Option.bind (x1g p0 p1.Txn) fun v7 => (if (!v7) = true then (k6 true) else (Option.bind (w1g p1.Key) fun v9 => (k6 (!v9))))))))))
def F27 : VFn := ⟨128, (.seq (.reg [vo 2 (.box 3 (.t 0)), vo 3 (.box 8 (.t 1)), mi 4 0]) (.seq (.seq (.reg [vl 9 3 2, vo 10 (.call 13 [(.t 9)]), vm 5 10]) (.seq (.reg [vm 11 5, bk 12 .neq 11 0]) (.cond (.t 12) (.seq (.reg [vm 13 5, vm 4 13]) .ret) .skip))) (.seq (.seq (.reg [vf 14 0 3, vs 15 14, bk 16 .lss 15 1, vm 17 16, gf 18 17 (.fa 0 (.t 3)), gf 19 17 (.ld false 1 (.t 18)), gf 20 17 (.bin .i .gtr (.t 19) (ci 6)), vo 21 (.pick (.t 17) (cb true) (.t 20))]) (.cond (.t 21) (.seq (.reg [mi 4 3]) .ret) .skip)) (.seq (.seq (.regs [[vl 22 3 2, vf 23 1 3, vl 24 2 23, vo 25 (.call 40 [(.t 22), (.t 24)]), nt 26 25, vm 27 26, gf 28 27 (.fa 3 (.t 3)), gf 29 27 (.ld false 1 (.t 28)), gf 30 27 (.call 41 [(.t 29)]), gf 31 27 (.un .not (.t 30)), vo 32 (.pick (.t 27) (cb true) (.t 31))], [vm 33 32, gf 34 33 (.fa 4 (.t 3)), gf 35 33 (.ld false 1 (.t 34)), gf 36 33 (.call 42 [(.t 35)]), gf 37 33 (.un .not (.t 36)), vo 38 (.pick (.t 33) (cb true) (.t 37))], [vm 39 38, gf 40 39 (.fa 5 (.t 3)), gf 41 39 (.ld false 1 (.t 40)), gf 42 39 (.call 43 [(.t 41)]), gf 43 39 (.un .not (.t 42)), vo 44 (.pick (.t 39) (cb true) (.t 43))]]) (.cond (.t 44) (.seq (.reg [mi 4 2]) .ret) .skip)) (.seq (.seq (.reg [vf 45 7 3, vs 46 45, ln 47 46, mi 48 0]) (.wk (.block 0 (.loop (.seq (.reg [bt 49 .lss 48 47]) (.seq (.cond (.t 49) .skip (.exit 0)) (.seq (.block 1 (.seq (.reg [vm 50 48, xa 51 1 46 48, vs 52 51, vm 6 50, vm 7 52]) (.seq (.regs [[vm 53 7, bk 54 .lss 53 0, vm 55 54, gf 56 55 (.mv (.t 7)), gf 57 55 (.fa 0 (.t 2)), gf 58 55 (.ld false 1 (.t 57)), gf 59 55 (.bin .i .geq (.t 56) (.t 58)), vo 60 (.pick (.t 55) (cb true) (.t 59))], [vm 61 60, gf 62 61 (.mv (.t 6)), gf 63 61 (.bin .i .gtr (.t 62) (ci 0)), gf 64 61 (.mv (.t 63)), gt 65 64 (.fa 7 (.t 3)), gt 66 64 (.ld false 1 (.t 65)), gt 67 64 (.mv (.t 6)), gt 68 64 (.bin .i .sub (.t 67) (ci 1)), gt 69 64 (.ia 1 (.t 66) (.t 68)), gt 70 64 (.ld false 1 (.t 69)), gt 71 64 (.mv (.t 7)), gt 72 64 (.bin .i .geq (.t 70) (.t 71)), gf 73 61 (.pick (.t 64) (.t 72) (cb false)), vo 74 (.pick (.t 61) (cb true) (.t 73))]]) (.cond (.t 74) (.seq (.reg [mi 4 2]) .ret) .skip)))) (.reg [bk 75 .add 48 1, vm 48 75])))))))) (.seq (.reg [vf 76 0 3, vs 77 76, vo 78 (.iaa 7 8 (.g 1) (.t 77)), vl 79 8 78, vo 8 (.alloc [(.d (.b false)), (.d (.b false)), (.d (.b false)), (.d (.b false)), (.d (.b false)), (.d (.b false)), (.d (.b false)), (.d (.b false))]), vu (.st 8 (.t 8) (.t 79))]) (.seq (.seq (.regs [[vf 80 1 8, vs 81 80, nt 82 81, vm 83 82, gt 84 83 (.fa 3 (.t 3)), gt 85 83 (.ld false 1 (.t 84)), gt 86 83 (.bin .i .neq (.t 85) (ci 0)), vo 87 (.pick (.t 83) (.t 86) (cb false))], [vm 88 87, gf 89 88 (.fa 2 (.t 8)), gf 90 88 (.ld false 1 (.t 89)), gf 91 88 (.un .not (.t 90)), gf 92 88 (.mv (.t 91)), gt 93 92 (.fa 4 (.t 3)), gt 94 92 (.ld false 1 (.t 93)), gt 95 92 (.bin .i .neq (.t 94) (ci 0)), gf 96 88 (.pick (.t 92) (.t 95) (cb false)), vo 97 (.pick (.t 88) (cb true) (.t 96))], [vm 98 97, gf 99 98 (.fa 4 (.t 8)), gf 100 98 (.ld false 1 (.t 99)), gf 101 98 (.un .not (.t 100)), gf 102 98 (.mv (.t 101)), gt 103 102 (.fa 5 (.t 3)), gt 104 102 (.ld false 1 (.t 103)), gt 105 102 (.bin .i .neq (.t 104) (ci 0)), gf 106 98 (.pick (.t 102) (.t 105) (cb false)), vo 107 (.pick (.t 98) (cb true) (.t 106))], [vm 108 107, gf 109 108 (.fa 5 (.t 8)), gf 110 108 (.ld false 1 (.t 109)), gf 111 108 (.un .not (.t 110)), gf 112 108 (.mv (.t 111)), gt 113 112 (.fa 6 (.t 3)), gt 114 112 (.ld false 1 (.t 113)), gf 115 108 (.pick (.t 112) (.t 114) (cb false)), vo 116 (.pick (.t 108) (cb true) (.t 115))], [vm 117 116, gf 118 117 (.fa 7 (.t 8)), gf 119 117 (.ld false 1 (.t 118)), gf 120 117 (.un .not (.t 119)), gf 121 117 (.mv (.t 120)), gt 122 121 (.fa 7 (.t 3)), gt 123 121 (.ld false 1 (.t 122)), gt 124 121 (.len (.t 123)), gt 125 121 (.bin .i .gtr (.t 124) (ci 0)), gf 126 117 (.pick (.t 121) (.t 125) (cb false)), vo 127 (.pick (.t 117) (cb true) (.t 126))]]) (.cond (.t 127) (.seq (.reg [mi 4 4]) .ret) .skip)) (.seq (.reg [mi 4 0]) .ret)))))))), [.t 4]⟩
theorem low27 : lowF Tryd.prog 27 = some F27.strip := by kernel_rfl
theorem fok27 : fOk Tryd.prog 27 = true := by kernel_rfl
theorem x1q (htab_wire_records : z1j G 1 = .one (.d (.k wy))) (p0 : Config) (p1 : Record) (r : Int) (h : y0c p0 p1 = some r) : FnRO Tryd.prog G 27 [.agg p0.bx, .agg p1.bx] (fun rs => rs = [.one (.i .i64 r)]) := by
 refine FnRO.of' low27 fok27 (by simp [F27]) ?_
 rw [y0c] at h
 replace h := Hd.mk h
 simp only [F27, go_sem]
 try simp only [*, go_sem]
 refine cr h (y1i G p0) (fun v1 h => ?_)
 refine oi h (fun hb2 h => ?_) (fun hb2 h => ?_)
 cases h.e
 simp only [*, go_sem, mA, mS]
 refine oi h (fun hb3 h => ?_) (fun hb3 h => ?_)
 have := of_decide_eq_true hb3
 cases h.e
 simp only [*, go_sem, mA, mS]
 refine oi h (fun hb4 h => ?_) (fun hb4 h => ?_)
 cases h.e
 simp only [*, go_sem, mA, mS]
 try simp only [*, go_sem]
 refine rg1 h (fun b5_1 => [zP 2 0, zP 3 1, zB 32 b5_1]) (fun b5_1 => [ox p0.bx, ox p1.bx]) (fun k6 h => ?_) (fun b5_1 h => ?_)
 try simp only [*, go_sem]
 refine cr h (x3v G p0 p1.Txn) (fun v7 h => ?_)
 refine oin h (fun hb8 hkhb8 h => ?_) (fun hb8 hkhb8 h => ?_)
 try simp only [*, go_sem]
 exact jc (true) h.e [some 0, some 1]
 try simp only [*, go_sem]
 refine cr h (w3v G p1.Key) (fun v9 h => ?_)
 try simp only [*, go_sem]
 exact jc (!v9) h.e [some 0, some 1]
 try simp only [*, go_sem]
 refine rg1 h (fun b10_1 => [zP 2 0, zP 3 1, zB 38 b10_1]) (fun b10_1 => [ox p0.bx, ox p1.bx]) (fun k11 h => ?_) (fun b10_1 h => ?_)
 refine oi h (fun hb12 h => ?_) (fun hb12 h => ?_)
 try simp only [*, go_sem]
 exact jc (true) h.e [some 0, some 1]
 try simp only [*, go_sem]
 refine cr h (w3f G p1.Value) (fun v13 h => ?_)
 try simp only [*, go_sem]
 exact jc (!v13) h.e [some 0, some 1]
 refine oi h (fun hb14 h => ?_) (fun hb14 h => ?_)
 cases h.e
 simp only [*, go_sem, mA, mS]
 try simp only [*, go_sem]
 refine cr h (v3v G p1.Ask) (fun v15 h => ?_)
 refine oin h (fun hb16 hkhb16 h => ?_) (fun hb16 hkhb16 h => ?_)
 cases h.e
 simp only [*, go_sem, mA, mS]
 try simp only [*, go_sem]
 intro hl17
 try simp only [*, go_sem]
 refine jn0 h ([zP 3 0]) ([ox p1.bx]) (fun k19 h => ?_) (fun h => ?_)
 try simp only [*, go_sem]
 refine lp1 (wn p0 p1 k19) (fun a20_1 => [zP 2 0, zP 3 1, zL 46 1 (p1.Sites.map encI), zI 47 ((p1.Sites.length : Nat) : Int), zI 48 ((a20_1 : Nat) : Int)]) (fun a20_1 => [ox p0.bx, ox p1.bx]) h [] [some 0, some 1] (fun n21 a20_1 h => ?_) (by intros; rw [wn])
 rw [wn] at h
 refine oi h (fun hb22 h => ?_) (fun hb22 h => ?_)
 have := of_decide_eq_true hb22
 refine obg h (fun x23 _ hkx23 h => ?_)
 try simp only [*, go_sem]
 refine y0w _ G _ _ (B := Bool) (fun b => b = ((decide (x23 < 0)) || (decide (x23 ≥ p0.Sites)))) (fun b => [zP 2 0, zP 3 1, zI 6 ((a20_1 : Nat) : Int), zI 7 x23, zL 46 1 (p1.Sites.map encI), zI 47 ((p1.Sites.length : Nat) : Int), zI 48 ((a20_1 : Nat) : Int), zB 60 b]) (fun b => [ox p0.bx, ox p1.bx]) ?_ ?_
 refine bc (decide (x23 < 0)) (fun hb25 => ?_) (fun hb25 => ?_)
 have := of_decide_eq_true hb25
 try simp only [*, go_sem]
 exact jb true [some 0, some 1]
 try simp only [*, go_sem]
 exact jb (decide (x23 ≥ p0.Sites)) [some 0, some 1]
 intro b hb0
 subst hb0
 refine oi h (fun hb26 h => ?_) (fun hb26 h => ?_)
 try simp only [*, go_sem]
 cases h.e
 simp only [*, go_sem, mA, mS]
 try simp only [*, go_sem]
 refine oi h (fun hb27 h => ?_) (fun hb27 h => ?_)
 refine obn h (fun x28 _ _ _ _ h => ?_)
 refine oi h (fun hb30 h => ?_) (fun hb30 h => ?_)
 cases h.e
 simp only [*, go_sem, mA, mS]
 have := za hkx23 hl17
 try simp only [*, go_sem]
 exact lc (a20_1 + 1) h.e [some 0, some 1]
 have := za hkx23 hl17
 try simp only [*, go_sem]
 exact lc (a20_1 + 1) h.e [some 0, some 1]
 try simp only [*, go_sem]
 exact jc () h.e [some 1]
 refine ck h (fun _ h => ?_)
 refine obg h (fun x33 _ hkx33 h => ?_)
 rw [u1g] at hkx33
 have : p1.Kind < 7 := by omega
 try simp only [*, go_sem]
 refine y0w _ G _ _ (B := Bool) (fun b => b = ((!x33.key) && (p1.Key != 0))) (fun b => [zP 3 0, zP 8 1, zB 87 b]) (fun b => [ox p1.bx, ox x33.bx]) ?_ ?_
 refine bcn x33.key (fun hb36 hkhb36 => ?_) (fun hb36 hkhb36 => ?_)
 try simp only [*, go_sem]
 exact jb (p1.Key != 0) [some 0, some 1]
 try simp only [*, go_sem]
 exact jb false [some 0, some 1]
 intro b hb0
 subst hb0
 try simp only [*, go_sem]
 refine y0w _ G _ _ (B := Bool) (fun b => b = (((!x33.key) && (p1.Key != 0)) || ((!x33.value) && (p1.Value != 0)))) (fun b => [zP 3 0, zP 8 1, zB 97 b]) (fun b => [ox p1.bx, ox x33.bx]) ?_ ?_
 refine bc ((!x33.key) && (p1.Key != 0)) (fun hb38 => ?_) (fun hb38 => ?_)
 try simp only [*, go_sem]
 try simp only [*, go_sem]
 exact jb true [some 0, some 1]
 try simp only [*, go_sem]
 refine bcn x33.value (fun hb39 hkhb39 => ?_) (fun hb39 hkhb39 => ?_)
 try simp only [*, go_sem]
 exact jb (p1.Value != 0) [some 0, some 1]
 try simp only [*, go_sem]
 exact jb false [some 0, some 1]
 intro b hb0
 subst hb0
 try simp only [*, go_sem]
 refine y0w _ G _ _ (B := Bool) (fun b => b = ((((!x33.key) && (p1.Key != 0)) || ((!x33.value) && (p1.Value != 0))) || ((!x33.ask) && (p1.Ask != 0)))) (fun b => [zP 3 0, zP 8 1, zB 107 b]) (fun b => [ox p1.bx, ox x33.bx]) ?_ ?_
 refine bc (((!x33.key) && (p1.Key != 0)) || ((!x33.value) && (p1.Value != 0))) (fun hb41 => ?_) (fun hb41 => ?_)
 try simp only [*, go_sem]
 try simp only [*, go_sem]
 exact jb true [some 0, some 1]
 try simp only [*, go_sem]
 refine bcn x33.ask (fun hb42 hkhb42 => ?_) (fun hb42 hkhb42 => ?_)
 try simp only [*, go_sem]
 exact jb (p1.Ask != 0) [some 0, some 1]
 try simp only [*, go_sem]
 exact jb false [some 0, some 1]
 intro b hb0
 subst hb0
 try simp only [*, go_sem]
 refine y0w _ G _ _ (B := Bool) (fun b => b = (((((!x33.key) && (p1.Key != 0)) || ((!x33.value) && (p1.Value != 0))) || ((!x33.ask) && (p1.Ask != 0))) || ((!x33.yes) && p1.Yes))) (fun b => [zP 3 0, zP 8 1, zB 116 b]) (fun b => [ox p1.bx, ox x33.bx]) ?_ ?_
 refine bc ((((!x33.key) && (p1.Key != 0)) || ((!x33.value) && (p1.Value != 0))) || ((!x33.ask) && (p1.Ask != 0))) (fun hb44 => ?_) (fun hb44 => ?_)
 try simp only [*, go_sem]
 try simp only [*, go_sem]
 exact jb true [some 0, some 1]
 try simp only [*, go_sem]
 refine bcn x33.yes (fun hb45 hkhb45 => ?_) (fun hb45 hkhb45 => ?_)
 try simp only [*, go_sem]
 exact jb p1.Yes [some 0, some 1]
 try simp only [*, go_sem]
 exact jb false [some 0, some 1]
 intro b hb0
 subst hb0
 refine oi h (fun hb46 h => ?_) (fun hb46 h => ?_)
 try simp only [*, go_sem]
 cases h.e
 simp only [*, go_sem, mA, mS]
 try simp only [*, go_sem]
 refine oin h (fun hb47 hkhb47 h => ?_) (fun hb47 hkhb47 h => ?_)
 try simp only [*, go_sem]
 intro hl48
 refine oi h (fun hb49 h => ?_) (fun hb49 h => ?_)
 cases h.e
 simp only [*, go_sem, mA, mS]
 cases h.e
 simp only [*, go_sem, mA, mS]
 cases h.e
 simp only [*, go_sem, mA, mS]
def xr (p0 : List Item) (k3 : Option (Bool)) : Nat → Nat → Option (Bool)
 | 0, _ => none
 | n5 + 1, a4_1 => (if (decide (a4_1 < p0.length)) = true then (Option.bind (p0[a4_1]?) fun x7 => (if (decide (x7.Key < 0)) = true then (some false) else (if (decide (x7.Key ≥ 8)) = true then (some false) else (if (decide (x7.Value < 0)) = true then (some false) else (if (decide (x7.Value > 1073741824)) = true then (some false) else (if (decide (x7.Version < 1)) = true then (some false) else (if (decide (x7.Version > 1048576)) = true then (some false) else (if (decide (((a4_1 : Nat) : Int) > 0)) = true then (if 0 ≤ IntKind.i64.wrap (((a4_1 : Nat) : Int) - 1) then (Option.bind (p0[(IntKind.i64.wrap (((a4_1 : Nat) : Int) - 1)).toNat]?) fun x15 => (if (decide (x15.Key ≥ x7.Key)) = true then (some false) else (xr p0 k3 n5 (a4_1 + 1)))) else none) else (xr p0 k3 n5 (a4_1 + 1)))))))))) else k3)
def v0p (p0 : List Item) : Option (Bool) := (withK (some true) fun k3 => (xr p0 k3 (p0.length + 1) 0))
def F96 : VFn := ⟨54, (.seq (.reg [vo 2 (.mv (cb false))]) (.seq (.seq (.reg [vm 5 0, ln 6 5, mi 7 0]) (.wk (.block 0 (.loop (.seq (.reg [bt 8 .lss 7 6]) (.seq (.cond (.t 8) .skip (.exit 0)) (.seq (.block 1 (.seq (.reg [vm 9 7, xa 10 3 5 7, vl 11 3 10, vo 4 (.alloc [(zi 0), (zi 0), (zi 0)]), vm 3 9, vu (.st 3 (.t 4) (.t 11))]) (.seq (.seq (.reg [vf 12 0 4, vs 13 12, bk 14 .lss 13 0, vm 15 14, gf 16 15 (.fa 0 (.t 4)), gf 17 15 (.ld false 1 (.t 16)), gf 18 15 (.bin .i .geq (.t 17) (ci 8)), vo 19 (.pick (.t 15) (cb true) (.t 18)), vm 20 19, gf 21 20 (.fa 1 (.t 4)), gf 22 20 (.ld false 1 (.t 21)), gf 23 20 (.bin .i .lss (.t 22) (ci 0)), vo 24 (.pick (.t 20) (cb true) (.t 23)), vm 25 24, gf 26 25 (.fa 1 (.t 4)), gf 27 25 (.ld false 1 (.t 26)), gf 28 25 (.bin .i .gtr (.t 27) (ci 1073741824)), vo 29 (.pick (.t 25) (cb true) (.t 28)), vm 30 29, gf 31 30 (.fa 2 (.t 4)), gf 32 30 (.ld false 1 (.t 31)), gf 33 30 (.bin .i .lss (.t 32) (ci 1)), vo 34 (.pick (.t 30) (cb true) (.t 33)), vm 35 34, gf 36 35 (.fa 2 (.t 4)), gf 37 35 (.ld false 1 (.t 36)), gf 38 35 (.bin .i .gtr (.t 37) (ci 1048576)), vo 39 (.pick (.t 35) (cb true) (.t 38))]) (.cond (.t 39) (.seq (.reg [vo 2 (.mv (cb false))]) .ret) .skip)) (.seq (.draw [vd (vm 40 3) 0, vd (bk 41 .gtr 40 0) 1, vd (vm 42 41) 3, vd (gt 43 42 (.mv (.t 0))) 7, vd (gt 44 42 (.mv (.t 3))) 7, vd (gt 45 42 (.bin .i .sub (.t 44) (ci 1))) 23, vd (gt 46 42 (.ia 3 (.t 43) (.t 45))) 63, vd (gt 47 42 (.fa 0 (.t 46))) 127, vd (gt 48 42 (.ld false 1 (.t 47))) 255, vd (gt 49 42 (.fa 0 (.t 4))) 7, vd (gt 50 42 (.ld false 1 (.t 49))) 519, vd (gt 51 42 (.bin .i .geq (.t 48) (.t 50))) 2047, vd (vo 52 (.pick (.t 42) (.t 51) (cb false))) 4095]) (.cond (.t 52) (.seq (.reg [vo 2 (.mv (cb false))]) .ret) .skip))))) (.reg [bk 53 .add 7 1, vm 7 53])))))))) (.seq (.reg [vo 2 (.mv (cb true))]) .ret))), [.t 2]⟩
theorem low96 : lowF Tryd.prog 96 = some F96.strip := by kernel_rfl
theorem fok96 : fOk Tryd.prog 96 = true := by kernel_rfl
theorem z2x (p0 : List Item) (r : Bool) (h : v0p p0 = some r) : FnRO Tryd.prog G 96 [.one (.d (.l 3 (p0.map Item.enc)))] (fun rs => rs = [.one (.b r)]) := by
 refine FnRO.of' low96 fok96 (by simp [F96]) ?_
 rw [v0p] at h
 replace h := Hd.mk h
 simp only [F96, go_sem]
 try simp only [*, go_sem]
 intro hl1
 try simp only [*, go_sem]
 refine jn0 h ([]) ([]) (fun k3 h => ?_) (fun h => ?_)
 try simp only [*, go_sem]
 refine lp1 (xr p0 k3) (fun a4_1 => [zL 0 3 (p0.map Item.enc), zL 5 3 (p0.map Item.enc), zI 6 ((p0.length : Nat) : Int), zI 7 ((a4_1 : Nat) : Int)]) (fun a4_1 => []) h [] [] (fun n5 a4_1 h => ?_) (by intros; rw [xr])
 rw [xr] at h
 refine oi h (fun hb6 h => ?_) (fun hb6 h => ?_)
 have := of_decide_eq_true hb6
 refine obg h (fun x7 _ hkx7 h => ?_)
 refine oi h (fun hb8 h => ?_) (fun hb8 h => ?_)
 have := of_decide_eq_true hb8
 cases h.e
 simp only [*, go_sem, mA, mS]
 refine oi h (fun hb9 h => ?_) (fun hb9 h => ?_)
 cases h.e
 simp only [*, go_sem, mA, mS]
 refine oi h (fun hb10 h => ?_) (fun hb10 h => ?_)
 have := of_decide_eq_true hb10
 cases h.e
 simp only [*, go_sem, mA, mS]
 refine oi h (fun hb11 h => ?_) (fun hb11 h => ?_)
 cases h.e
 simp only [*, go_sem, mA, mS]
 refine oi h (fun hb12 h => ?_) (fun hb12 h => ?_)
 have := of_decide_eq_true hb12
 cases h.e
 simp only [*, go_sem, mA, mS]
 refine oi h (fun hb13 h => ?_) (fun hb13 h => ?_)
 cases h.e
 simp only [*, go_sem, mA, mS]
 refine oi h (fun hb14 h => ?_) (fun hb14 h => ?_)
 refine obn h (fun x15 _ _ _ _ h => ?_)
 refine oi h (fun hb17 h => ?_) (fun hb17 h => ?_)
 cases h.e
 simp only [*, go_sem, mA, mS]
 have := za hkx7 hl1
 try simp only [*, go_sem]
 exact lc (a4_1 + 1) h.e []
 have := za hkx7 hl1
 try simp only [*, go_sem]
 exact lc (a4_1 + 1) h.e []
 try simp only [*, go_sem]
 exact jc () h.e []
 cases h.e
 simp only [*, go_sem, mA, mS]
def y0n (p0 : Txn) : Option (Bool) := (withK (fun (b1_1 : Bool) => (some b1_1)) fun k2 => (if (decide (p0.Site ≥ 0)) = true then (if (decide (p0.Site < 4)) = true then (if (decide (p0.N ≥ 1)) = true then (k2 (decide (p0.N ≤ 1048576))) else (k2 false)) else (k2 false)) else (k2 false)))
def F77 : VFn := ⟨21, (.seq (.reg [vo 1 (.boxk 2 (.t 0)), vo 2 (.mv (cb false))]) (.seq (.wk (.reg [vf 3 0 1, vs 4 3, bk 5 .geq 4 0, vm 6 5, gt 7 6 (.fa 0 (.t 1)), gt 8 6 (.ld false 1 (.t 7)), gt 9 6 (.bin .i .lss (.t 8) (ci 4)), vo 10 (.pick (.t 6) (.t 9) (cb false)), vm 11 10, gt 12 11 (.fa 1 (.t 1)), gt 13 11 (.ld false 1 (.t 12)), gt 14 11 (.bin .i .geq (.t 13) (ci 1)), vo 15 (.pick (.t 11) (.t 14) (cb false)), vm 16 15, gt 17 16 (.fa 1 (.t 1)), gt 18 16 (.ld false 1 (.t 17)), gt 19 16 (.bin .i .leq (.t 18) (ci 1048576)), vo 20 (.pick (.t 16) (.t 19) (cb false)), vm 2 20])) .ret)), [.t 2]⟩
theorem low77 : lowF Tryd.prog 77 = some F77.strip := by kernel_rfl
theorem fok77 : fOk Tryd.prog 77 = true := by kernel_rfl
theorem y1c (p0 : Txn) (r : Bool) (h : y0n p0 = some r) : FnRO Tryd.prog G 77 [.agg p0.bx] (fun rs => rs = [.one (.b r)]) := by
 refine FnRO.of' low77 fok77 (by simp [F77]) ?_
 rw [y0n] at h
 replace h := Hd.mk h
 simp only [F77, go_sem]
 try simp only [*, go_sem]
 refine jn1 h (fun b1_1 => [zB 2 b1_1]) (fun b1_1 => []) (fun k2 h => ?_) (fun b1_1 h => ?_)
 refine oi h (fun hb3 h => ?_) (fun hb3 h => ?_)
 refine oi h (fun hb4 h => ?_) (fun hb4 h => ?_)
 have := of_decide_eq_true hb4
 refine oi h (fun hb5 h => ?_) (fun hb5 h => ?_)
 try simp only [*, go_sem]
 exact jc (decide (p0.N ≤ 1048576)) h.e []
 try simp only [*, go_sem]
 exact jc (false) h.e []
 try simp only [*, go_sem]
 exact jc (false) h.e []
 try simp only [*, go_sem]
 exact jc (false) h.e []
 cases h.e
 simp only [*, go_sem, mA, mS]
def yg (p0 : List Txn) (p1 : Txn) (k3 : Option (Int)) : Nat → Nat → Option (Int)
 | 0, _ => none
 | n5 + 1, a4_1 => (if (decide (a4_1 < p0.length)) = true then (Option.bind (p0[a4_1]?) fun x7 => (if ((p1.Site == x7.Site) && (p1.N == x7.N)) = true then (some ((a4_1 : Nat) : Int)) else (yg p0 p1 k3 n5 (a4_1 + 1)))) else k3)
def y0f (p0 : List Txn) (p1 : Txn) : Option (Int) := (withK (some (-1)) fun k3 => (yg p0 p1 k3 (p0.length + 1) 0))
def F80 : VFn := ⟨19, (.seq (.reg [vo 3 (.boxk 2 (.t 1)), mi 4 0]) (.seq (.seq (.reg [vm 6 0, ln 7 6, mi 8 0]) (.wk (.block 0 (.loop (.seq (.reg [bt 9 .lss 8 7]) (.seq (.cond (.t 9) .skip (.exit 0)) (.seq (.block 1 (.seq (.reg [vm 10 8, vm 5 10]) (.seq (.draw [vd (vl 11 2 3) 0, vd (vm 12 0) 0, vd (vm 13 5) 0, vd (xa 14 2 12 13) 6, vd (vl 15 2 14) 14, vd (vo 16 (.eqs false [.i, .i] (.t 11) (.t 15))) 31]) (.cond (.t 16) (.seq (.reg [vm 17 5, vm 4 17]) .ret) .skip)))) (.reg [bk 18 .add 8 1, vm 8 18])))))))) (.seq (.reg [mi 4 (-1)]) .ret))), [.t 4]⟩
theorem low80 : lowF Tryd.prog 80 = some F80.strip := by kernel_rfl
theorem fok80 : fOk Tryd.prog 80 = true := by kernel_rfl
theorem w1q (p0 : List Txn) (p1 : Txn) (r : Int) (h : y0f p0 p1 = some r) : FnRO Tryd.prog G 80 [.one (.d (.l 2 (p0.map Txn.enc))), .agg p1.bx] (fun rs => rs = [.one (.i .i64 r)]) := by
 refine FnRO.of' low80 fok80 (by simp [F80]) ?_
 rw [y0f] at h
 replace h := Hd.mk h
 simp only [F80, go_sem]
 try simp only [*, go_sem]
 intro hl1
 try simp only [*, go_sem]
 refine jn0 h ([]) ([]) (fun k3 h => ?_) (fun h => ?_)
 try simp only [*, go_sem]
 refine lp1 (yg p0 p1 k3) (fun a4_1 => [zL 0 2 (p0.map Txn.enc), zK 3 (Txn.enc p1), zI 7 ((p0.length : Nat) : Int), zI 8 ((a4_1 : Nat) : Int)]) (fun a4_1 => []) h [] [] (fun n5 a4_1 h => ?_) (by intros; rw [yg])
 rw [yg] at h
 refine oi h (fun hb6 h => ?_) (fun hb6 h => ?_)
 have := of_decide_eq_true hb6
 refine obg h (fun x7 _ hkx7 h => ?_)
 refine oi h (fun hb8 h => ?_) (fun hb8 h => ?_)
 try simp only [*, go_sem]
 cases h.e
 simp only [*, go_sem, mA, mS]
 try simp only [*, go_sem]
 have := za hkx7 hl1
 try simp only [*, go_sem]
 exact lc (a4_1 + 1) h.e []
 try simp only [*, go_sem]
 exact jc () h.e []
 cases h.e
 simp only [*, go_sem, mA, mS]
def vn (p0 : List Txn) (p1 : Txn) : Option (Bool) := (Option.bind (y0f p0 p1) fun v1 => (some (decide (v1 ≥ 0))))
def F63 : VFn := ⟨9, (.seq (.reg [vo 3 (.boxk 2 (.t 1)), vo 4 (.mv (cb false))]) (.seq (.reg [vm 5 0, vl 6 2 3, vo 7 (.call 80 [(.t 5), (.t 6)]), bk 8 .geq 7 0, vm 4 8]) .ret)), [.t 4]⟩
theorem low63 : lowF Tryd.prog 63 = some F63.strip := by kernel_rfl
theorem fok63 : fOk Tryd.prog 63 = true := by kernel_rfl
theorem v0b (p0 : List Txn) (p1 : Txn) (r : Bool) (h : vn p0 p1 = some r) : FnRO Tryd.prog G 63 [.one (.d (.l 2 (p0.map Txn.enc))), .agg p1.bx] (fun rs => rs = [.one (.b r)]) := by
 refine FnRO.of' low63 fok63 (by simp [F63]) ?_
 rw [vn] at h
 replace h := Hd.mk h
 simp only [F63, go_sem]
 try simp only [*, go_sem]
 refine cr h (w1q G p0 p1) (fun v1 h => ?_)
 cases h.e
 simp only [*, go_sem, mA, mS]
def z0f (p0 : Lock) (p1 : Doubt) : Option (Bool) := (some ((p0.Txn.Site == p1.Txn.Site) && (p0.Txn.N == p1.Txn.N)))
def F108 : VFn := ⟨9, (.seq (.reg [vo 2 (.boxk 6 (.t 0)), vo 3 (.mv (cb false))]) (.seq (.reg [vf 4 0 2, vl 5 2 4, vf 6 0 1, vl 7 2 6, vo 8 (.eqs false [.i, .i] (.t 5) (.t 7)), vm 3 8]) .ret)), [.t 3]⟩
theorem low108 : lowF Tryd.prog 108 = some F108.strip := by kernel_rfl
theorem fok108 : fOk Tryd.prog 108 = true := by kernel_rfl
theorem v1z (p0 : Lock) (p1 : Doubt) (r : Bool) (h : z0f p0 p1 = some r) : FnRO Tryd.prog G 108 [.agg p0.bx, .one (.d (.k (Doubt.enc p1)))] (fun rs => rs = [.one (.b r)]) := by
 refine FnRO.of' low108 fok108 (by simp [F108]) ?_
 rw [z0f] at h
 replace h := Hd.mk h
 simp only [F108, go_sem]
 cases h.e
 simp only [*, go_sem, mA, mS]
def yb (p0 : List Lock) (p1 : Lock → Option (Bool)) (k3 : Option (Int)) : Nat → Nat → Option (Int)
 | 0, _ => none
 | n5 + 1, a4_1 => (if (decide (a4_1 < p0.length)) = true then (Option.bind (p0[a4_1]?) fun x7 => (Option.bind (p1 x7) fun v8 => (if v8 = true then (some ((a4_1 : Nat) : Int)) else (yb p0 p1 k3 n5 (a4_1 + 1))))) else k3)
def wh (p0 : List Lock) (p1 : Lock → Option (Bool)) : Option (Int) := (withK (some (-1)) fun k3 => (yb p0 p1 k3 (p0.length + 1) 0))
def F78 : VFn := ⟨19, (.seq (.reg [mi 4 0]) (.seq (.seq (.reg [vm 6 0, ln 7 6, mi 8 0]) (.wk (.block 0 (.loop (.seq (.reg [bt 9 .lss 8 7]) (.seq (.cond (.t 9) .skip (.exit 0)) (.seq (.block 1 (.seq (.reg [vm 10 8, vm 5 10]) (.seq (.reg [vm 11 1, vm 12 0, vm 13 5, xa 14 6 12 13, vl 15 6 14, vo 16 (.callv (.t 11) [(.t 15)])]) (.cond (.t 16) (.seq (.reg [vm 17 5, vm 4 17]) .ret) .skip)))) (.reg [bk 18 .add 8 1, vm 8 18])))))))) (.seq (.reg [mi 4 (-1)]) .ret))), [.t 4]⟩
theorem low78 : lowF Tryd.prog 78 = some F78.strip := by kernel_rfl
theorem fok78 : fOk Tryd.prog 78 = true := by kernel_rfl
theorem w0e (p0 : List Lock) (p1 : Lock → Option (Bool)) (g_p1 : Nat) (c_p1 : List D) (h_p1 : ∀ (x0 : Lock) (r : Bool), p1 x0 = some r → FnRO Tryd.prog G g_p1 ([.agg [.d (.i .i64 x0.Txn.Site), .d (.i .i64 x0.Txn.N), .d (.i .i64 x0.Key), .d (.b x0.Write), .d (.i .i64 x0.Value), .d (.i .i64 x0.Ask)]] ++ c_p1.map fun d => .one (.d d)) (fun rs => rs = [.one (.b r)])) (r : Int) (h : wh p0 p1 = some r) : FnRO Tryd.prog G 78 [.one (.d (.l 6 (p0.map Lock.enc))), .one (.d (.f g_p1 c_p1))] (fun rs => rs = [.one (.i .i64 r)]) := by
 refine FnRO.of' low78 fok78 (by simp [F78]) ?_
 rw [wh] at h
 replace h := Hd.mk h
 simp only [F78, go_sem]
 try simp only [*, go_sem]
 intro hl1
 try simp only [*, go_sem]
 refine jn0 h ([]) ([]) (fun k3 h => ?_) (fun h => ?_)
 try simp only [*, go_sem]
 refine lp1 (yb p0 p1 k3) (fun a4_1 => [zL 0 6 (p0.map Lock.enc), (1, .one (.d (.f g_p1 c_p1))), zI 7 ((p0.length : Nat) : Int), zI 8 ((a4_1 : Nat) : Int)]) (fun a4_1 => []) h [] [] (fun n5 a4_1 h => ?_) (by intros; rw [yb])
 rw [yb] at h
 refine oi h (fun hb6 h => ?_) (fun hb6 h => ?_)
 have := of_decide_eq_true hb6
 refine obg h (fun x7 _ hkx7 h => ?_)
 try simp only [*, go_sem]
 refine cr h (h_p1 x7) (fun v8 h => ?_)
 refine oi h (fun hb9 h => ?_) (fun hb9 h => ?_)
 cases h.e
 simp only [*, go_sem, mA, mS]
 have := za hkx7 hl1
 try simp only [*, go_sem]
 exact lc (a4_1 + 1) h.e []
 try simp only [*, go_sem]
 exact jc () h.e []
 cases h.e
 simp only [*, go_sem, mA, mS]
def xm (p0 : List Lock) (p1 : Lock → Option (Bool)) : Option (Bool) := (Option.bind (wh p0 p1) fun v1 => (some (decide (v1 ≥ 0))))
def F81 : VFn := ⟨9, (.seq (.reg [vo 4 (.mv (cb false))]) (.seq (.reg [vm 5 0, vm 6 1, vo 7 (.call 78 [(.t 5), (.t 6)]), bk 8 .geq 7 0, vm 4 8]) .ret)), [.t 4]⟩
theorem low81 : lowF Tryd.prog 81 = some F81.strip := by kernel_rfl
theorem fok81 : fOk Tryd.prog 81 = true := by kernel_rfl
theorem w0h (p0 : List Lock) (p1 : Lock → Option (Bool)) (g_p1 : Nat) (c_p1 : List D) (h_p1 : ∀ (x0 : Lock) (r : Bool), p1 x0 = some r → FnRO Tryd.prog G g_p1 ([.agg [.d (.i .i64 x0.Txn.Site), .d (.i .i64 x0.Txn.N), .d (.i .i64 x0.Key), .d (.b x0.Write), .d (.i .i64 x0.Value), .d (.i .i64 x0.Ask)]] ++ c_p1.map fun d => .one (.d d)) (fun rs => rs = [.one (.b r)])) (r : Bool) (h : xm p0 p1 = some r) : FnRO Tryd.prog G 81 [.one (.d (.l 6 (p0.map Lock.enc))), .one (.d (.f g_p1 c_p1))] (fun rs => rs = [.one (.b r)]) := by
 refine FnRO.of' low81 fok81 (by simp [F81]) ?_
 rw [xm] at h
 replace h := Hd.mk h
 simp only [F81, go_sem]
 try simp only [*, go_sem]
 refine cr h (w0e G p0 p1 g_p1 c_p1 h_p1) (fun v1 h => ?_)
 cases h.e
 simp only [*, go_sem, mA, mS]
def yp (p0 : Store) (a4_1 : Nat) (x7 : Doubt) (k20 : Option (Bool)) : Nat → Nat → Option (Bool)
 | 0, _ => none
 | n22 + 1, a21_1 => (if (decide (a21_1 < min a4_1 p0.Doubts.length)) = true then (Option.bind ((p0.Doubts.take a4_1)[a21_1]?) fun x24 => (if ((x24.Txn.Site == x7.Txn.Site) && (x24.Txn.N == x7.Txn.N)) = true then (some false) else (yp p0 a4_1 x7 k20 n22 (a21_1 + 1)))) else k20)
def vv (p0 : Store) (k3 : Option (Bool)) : Nat → Nat → Option (Bool)
 | 0, _ => none
 | n5 + 1, a4_1 => (if (decide (a4_1 < p0.Doubts.length)) = true then (Option.bind (p0.Doubts[a4_1]?) fun x7 => (Option.bind (y0n x7.Txn) fun v8 => (if (!v8) = true then (some false) else (if (decide (x7.Age < 0)) = true then (some false) else (if (decide (x7.Age > 1048576)) = true then (some false) else (Option.bind (vn p0.Over x7.Txn) fun v12 => (if v12 = true then (some false) else (Option.bind (xm p0.Locks (fun y14 => z0f y14 x7)) fun v15 => (if (!v15) = true then (some false) else (withK (vv p0 k3 n5 (a4_1 + 1)) fun k20 => (yp p0 a4_1 x7 k20 (min a4_1 p0.Doubts.length + 1) 0))))))))))) else k3)
def xt (p0 : Store) (k30 : Option (Bool)) : Nat → Nat → Option (Bool)
 | 0, _ => none
 | n32 + 1, a31_1 => (if (decide (a31_1 < p0.Over.length)) = true then (Option.bind (p0.Over[a31_1]?) fun x34 => (Option.bind (y0n x34) fun v35 => (if (!v35) = true then (some false) else (Option.bind (vn (p0.Over.take a31_1) x34) fun v38 => (if v38 = true then (some false) else (xt p0 k30 n32 (a31_1 + 1))))))) else k30)
def v0l (p0 : Store) : Option (Bool) := (withK (withK (some true) fun k30 => (xt p0 k30 (p0.Over.length + 1) 0)) fun k3 => (vv p0 k3 (p0.Doubts.length + 1) 0))
def F97 : VFn := ⟨79, (.seq (.reg [vo 1 (.boxk 4 (.t 0)), vo 2 (.mv (cb false))]) (.seq (.seq (.reg [vf 9 2 1, vs 10 9, ln 11 10, mi 12 0]) (.wk (.block 0 (.loop (.seq (.reg [bt 13 .lss 12 11]) (.seq (.cond (.t 13) .skip (.exit 0)) (.seq (.block 1 (.seq (.reg [vm 14 12, xa 15 3 10 12, vl 16 3 15, vo 4 (.alloc [(zi 0), (zi 0), (zi 0)]), vm 3 14, vu (.st 3 (.t 4) (.t 16))]) (.seq (.seq (.reg [vf 17 0 4, vl 18 2 17, vo 19 (.call 77 [(.t 18)]), nt 20 19, vm 21 20, gf 22 21 (.fa 2 (.t 4)), gf 23 21 (.ld false 1 (.t 22)), gf 24 21 (.bin .i .lss (.t 23) (ci 0)), vo 25 (.pick (.t 21) (cb true) (.t 24)), vm 26 25, gf 27 26 (.fa 2 (.t 4)), gf 28 26 (.ld false 1 (.t 27)), gf 29 26 (.bin .i .gtr (.t 28) (ci 1048576)), vo 30 (.pick (.t 26) (cb true) (.t 29)), vm 31 30, gf 32 31 (.fa 3 (.t 1)), gf 33 31 (.ld false 1 (.t 32)), gf 34 31 (.fa 0 (.t 4)), gf 35 31 (.ld true 2 (.t 34)), gf 36 31 (.call 63 [(.t 33), (.t 35)]), vo 37 (.pick (.t 31) (cb true) (.t 36))]) (.cond (.t 37) (.seq (.reg [vo 2 (.mv (cb false))]) .ret) .skip)) (.seq (.seq (.reg [vf 38 1 1, vs 39 38, vo 40 (.mkf 108 [(.t 4)]), vo 41 (.call 81 [(.t 39), (.t 40)]), nt 42 41]) (.cond (.t 42) (.seq (.reg [vo 2 (.mv (cb false))]) .ret) .skip)) (.seq (.reg [vf 43 2 1, vs 44 43, vm 45 3, vo 46 (.sl 3 (.t 44) none (some (.t 45))), ln 47 46, mi 48 0]) (.wk (.block 2 (.loop (.seq (.reg [bt 49 .lss 48 47]) (.seq (.cond (.t 49) .skip (.exit 2)) (.seq (.block 3 (.seq (.reg [xa 50 3 46 48, vl 51 3 50, vo 6 (.alloc [(zi 0), (zi 0), (zi 0)]), vu (.st 3 (.t 6) (.t 51))]) (.seq (.reg [vf 52 0 6, vl 53 2 52, vf 54 0 4, vl 55 2 54, vo 56 (.eqs false [.i, .i] (.t 53) (.t 55))]) (.cond (.t 56) (.seq (.reg [vo 2 (.mv (cb false))]) .ret) .skip)))) (.reg [bk 57 .add 48 1, vm 48 57])))))))))))) (.reg [bk 58 .add 12 1, vm 12 58])))))))) (.seq (.seq (.reg [vf 59 3 1, vs 60 59, ln 61 60, mi 62 0]) (.wk (.block 4 (.loop (.seq (.reg [bt 63 .lss 62 61]) (.seq (.cond (.t 63) .skip (.exit 4)) (.seq (.block 5 (.seq (.reg [vm 64 62, xa 65 2 60 62, vl 66 2 65, vo 8 (.alloc [(zi 0), (zi 0)]), vm 7 64, vu (.st 2 (.t 8) (.t 66))]) (.seq (.draw [vd (vl 67 2 8) 0, vd (vo 68 (.call 77 [(.t 67)])) 1, vd (nt 69 68) 3, vd (vm 70 69) 7, vd (gf 71 70 (.fa 3 (.t 1))) 15, vd (gf 72 70 (.ld false 1 (.t 71))) 31, vd (gf 73 70 (.mv (.t 7))) 15, vd (gf 74 70 (.sl 2 (.t 72) none (some (.t 73)))) 127, vd (gf 75 70 (.ld true 2 (.t 8))) 15, vd (gf 76 70 (.call 63 [(.t 74), (.t 75)])) 511, vd (vo 77 (.pick (.t 70) (cb true) (.t 76))) 1023]) (.cond (.t 77) (.seq (.reg [vo 2 (.mv (cb false))]) .ret) .skip)))) (.reg [bk 78 .add 62 1, vm 62 78])))))))) (.seq (.reg [vo 2 (.mv (cb true))]) .ret)))), [.t 2]⟩
theorem low97 : lowF Tryd.prog 97 = some F97.strip := by kernel_rfl
theorem fok97 : fOk Tryd.prog 97 = true := by kernel_rfl
theorem y2n (p0 : Store) (r : Bool) (h : v0l p0 = some r) : FnRO Tryd.prog G 97 [.agg p0.bx] (fun rs => rs = [.one (.b r)]) := by
 refine FnRO.of' low97 fok97 (by simp [F97]) ?_
 rw [v0l] at h
 replace h := Hd.mk h
 simp only [F97, go_sem]
 try simp only [*, go_sem]
 intro hl1
 try simp only [*, go_sem]
 refine jn0 h ([zK 1 (Store.enc p0)]) ([]) (fun k3 h => ?_) (fun h => ?_)
 try simp only [*, go_sem]
 refine lp1 (vv p0 k3) (fun a4_1 => [zK 1 (Store.enc p0), zL 10 3 (p0.Doubts.map Doubt.enc), zI 11 ((p0.Doubts.length : Nat) : Int), zI 12 ((a4_1 : Nat) : Int)]) (fun a4_1 => []) h [] [] (fun n5 a4_1 h => ?_) (by intros; rw [vv])
 rw [vv] at h
 refine oi h (fun hb6 h => ?_) (fun hb6 h => ?_)
 have := of_decide_eq_true hb6
 refine obg h (fun x7 _ hkx7 h => ?_)
 try simp only [*, go_sem]
 refine cr h (y1c G x7.Txn) (fun v8 h => ?_)
 refine oin h (fun hb9 hkhb9 h => ?_) (fun hb9 hkhb9 h => ?_)
 cases h.e
 simp only [*, go_sem, mA, mS]
 refine oi h (fun hb10 h => ?_) (fun hb10 h => ?_)
 have := of_decide_eq_true hb10
 cases h.e
 simp only [*, go_sem, mA, mS]
 refine oi h (fun hb11 h => ?_) (fun hb11 h => ?_)
 cases h.e
 simp only [*, go_sem, mA, mS]
 try simp only [*, go_sem]
 refine cr h (v0b G p0.Over x7.Txn) (fun v12 h => ?_)
 refine oi h (fun hb13 h => ?_) (fun hb13 h => ?_)
 cases h.e
 simp only [*, go_sem, mA, mS]
 try simp only [*, go_sem]
 refine cl h (w0h G p0.Locks (fun y14 => z0f y14 x7) 108 [.k [.i .i64 x7.Txn.Site, .i .i64 x7.Txn.N, .i .i64 x7.Age]] (fun y14 r h => v1z G y14 x7 r h)) (fun v15 h => ?_)
 refine oin h (fun hb16 hkhb16 h => ?_) (fun hb16 hkhb16 h => ?_)
 cases h.e
 simp only [*, go_sem, mA, mS]
 have := Nat.le_of_lt hkx7
 try simp only [*, go_sem]
 intro hl18
 try simp only [*, go_sem]
 refine jn0 h ([zK 1 (Store.enc p0), zL 10 3 (p0.Doubts.map Doubt.enc), zI 11 ((p0.Doubts.length : Nat) : Int), zI 12 ((a4_1 : Nat) : Int), (22, .one (.p (.q 0 0 2))), zI 23 x7.Age, zB 24 false, (27, .one (.p (.q 0 0 2))), zI 28 x7.Age, zB 29 false, (32, .one (.p (.l 4 [(Store.enc p0)] 0 3))), zL 33 2 (p0.Over.map Txn.enc), zP 34 0, (35, .agg [zi x7.Txn.Site, zi x7.Txn.N]), zB 36 false]) ([ox x7.bx]) (fun k20 h => ?_) (fun h => ?_)
 try simp only [*, go_sem]
 refine lp1 (yp p0 a4_1 x7 k20) (fun a21_1 => [zK 1 (Store.enc p0), zP 4 0, zL 10 3 (p0.Doubts.map Doubt.enc), zI 11 ((p0.Doubts.length : Nat) : Int), zI 12 ((a4_1 : Nat) : Int), (22, .one (.p (.q 0 0 2))), zI 23 x7.Age, zB 24 false, (27, .one (.p (.q 0 0 2))), zI 28 x7.Age, zB 29 false, (32, .one (.p (.l 4 [(Store.enc p0)] 0 3))), zL 33 2 (p0.Over.map Txn.enc), zP 34 0, (35, .agg [zi x7.Txn.Site, zi x7.Txn.N]), zB 36 false, zL 46 3 ((p0.Doubts.take a4_1).map Doubt.enc), zI 47 ((min a4_1 p0.Doubts.length : Nat) : Int), zI 48 ((a21_1 : Nat) : Int)]) (fun a21_1 => [ox x7.bx]) h [] [some 0] (fun n22 a21_1 h => ?_) (by intros; rw [yp])
 rw [yp] at h
 refine oi h (fun hb23 h => ?_) (fun hb23 h => ?_)
 refine obg h (fun x24 _ hkx24 h => ?_)
 try simp only [List.length_take, List.length_drop, List.length_append, List.length_set, List.length_map, List.length_cons, List.length_nil, Nat.zero_add] at hkx24
 refine oi h (fun hb25 h => ?_) (fun hb25 h => ?_)
 try simp only [*, go_sem]
 cases h.e
 simp only [*, go_sem, mA, mS]
 try simp only [*, go_sem]
 have := za hkx24 hl18
 try simp only [*, go_sem]
 exact lc (a21_1 + 1) h.e [some 0]
 try simp only [*, go_sem]
 exact jc () h.e [some 0]
 have := za hkx7 hl1
 try simp only [*, go_sem]
 exact lc (a4_1 + 1) h.e []
 try simp only [*, go_sem]
 exact jc () h.e []
 try simp only [*, go_sem]
 intro hl28
 try simp only [*, go_sem]
 refine jn0 h ([]) ([]) (fun k30 h => ?_) (fun h => ?_)
 try simp only [*, go_sem]
 refine lp1 (xt p0 k30) (fun a31_1 => [zK 1 (Store.enc p0), zL 60 2 (p0.Over.map Txn.enc), zI 61 ((p0.Over.length : Nat) : Int), zI 62 ((a31_1 : Nat) : Int)]) (fun a31_1 => []) h [] [] (fun n32 a31_1 h => ?_) (by intros; rw [xt])
 rw [xt] at h
 refine oi h (fun hb33 h => ?_) (fun hb33 h => ?_)
 have := of_decide_eq_true hb33
 refine obg h (fun x34 _ hkx34 h => ?_)
 refine obk h (fun v35 hv35 h => ?_)
 try simp only [*, go_sem]
 refine cd (y1c G x34 v35 hv35) ?_
 refine oin h (fun hb36 hkhb36 h => ?_) (fun hb36 hkhb36 h => ?_)
 cases h.e
 simp only [*, go_sem, mA, mS]
 have := Nat.le_of_lt hkx34
 refine obk h (fun v38 hv38 h => ?_)
 try simp only [*, go_sem]
 refine cd (v0b G (p0.Over.take a31_1) x34 v38 hv38) ?_
 refine oi h (fun hb39 h => ?_) (fun hb39 h => ?_)
 cases h.e
 simp only [*, go_sem, mA, mS]
 have := za hkx34 hl28
 try simp only [*, go_sem]
 exact lc (a31_1 + 1) h.e []
 try simp only [*, go_sem]
 exact jc () h.e []
 cases h.e
 simp only [*, go_sem, mA, mS]
def y0g (p0 : Doubt) (p1 : Txn) : Option (Bool) := (some ((p0.Txn.Site == p1.Site) && (p0.Txn.N == p1.N)))
def F103 : VFn := ⟨8, (.seq (.reg [vo 2 (.boxk 3 (.t 0)), vo 3 (.mv (cb false))]) (.seq (.reg [vf 4 0 2, vl 5 2 4, vl 6 2 1, vo 7 (.eqs false [.i, .i] (.t 5) (.t 6)), vm 3 7]) .ret)), [.t 3]⟩
theorem low103 : lowF Tryd.prog 103 = some F103.strip := by kernel_rfl
theorem fok103 : fOk Tryd.prog 103 = true := by kernel_rfl
theorem x1s (p0 : Doubt) (p1 : Txn) (r : Bool) (h : y0g p0 p1 = some r) : FnRO Tryd.prog G 103 [.agg p0.bx, .one (.d (.k (Txn.enc p1)))] (fun rs => rs = [.one (.b r)]) := by
 refine FnRO.of' low103 fok103 (by simp [F103]) ?_
 rw [y0g] at h
 replace h := Hd.mk h
 simp only [F103, go_sem]
 cases h.e
 simp only [*, go_sem, mA, mS]
def xc (p0 : List Doubt) (p1 : Doubt → Option (Bool)) (k3 : Option (Int)) : Nat → Nat → Option (Int)
 | 0, _ => none
 | n5 + 1, a4_1 => (if (decide (a4_1 < p0.length)) = true then (Option.bind (p0[a4_1]?) fun x7 => (Option.bind (p1 x7) fun v8 => (if v8 = true then (some ((a4_1 : Nat) : Int)) else (xc p0 p1 k3 n5 (a4_1 + 1))))) else k3)
def uk (p0 : List Doubt) (p1 : Doubt → Option (Bool)) : Option (Int) := (withK (some (-1)) fun k3 => (xc p0 p1 k3 (p0.length + 1) 0))
def F106 : VFn := ⟨19, (.seq (.reg [mi 4 0]) (.seq (.seq (.reg [vm 6 0, ln 7 6, mi 8 0]) (.wk (.block 0 (.loop (.seq (.reg [bt 9 .lss 8 7]) (.seq (.cond (.t 9) .skip (.exit 0)) (.seq (.block 1 (.seq (.reg [vm 10 8, vm 5 10]) (.seq (.reg [vm 11 1, vm 12 0, vm 13 5, xa 14 3 12 13, vl 15 3 14, vo 16 (.callv (.t 11) [(.t 15)])]) (.cond (.t 16) (.seq (.reg [vm 17 5, vm 4 17]) .ret) .skip)))) (.reg [bk 18 .add 8 1, vm 8 18])))))))) (.seq (.reg [mi 4 (-1)]) .ret))), [.t 4]⟩
theorem low106 : lowF Tryd.prog 106 = some F106.strip := by kernel_rfl
theorem fok106 : fOk Tryd.prog 106 = true := by kernel_rfl
theorem y0j (p0 : List Doubt) (p1 : Doubt → Option (Bool)) (g_p1 : Nat) (c_p1 : List D) (h_p1 : ∀ (x0 : Doubt) (r : Bool), p1 x0 = some r → FnRO Tryd.prog G g_p1 ([.agg [.d (.i .i64 x0.Txn.Site), .d (.i .i64 x0.Txn.N), .d (.i .i64 x0.Age)]] ++ c_p1.map fun d => .one (.d d)) (fun rs => rs = [.one (.b r)])) (r : Int) (h : uk p0 p1 = some r) : FnRO Tryd.prog G 106 [.one (.d (.l 3 (p0.map Doubt.enc))), .one (.d (.f g_p1 c_p1))] (fun rs => rs = [.one (.i .i64 r)]) := by
 refine FnRO.of' low106 fok106 (by simp [F106]) ?_
 rw [uk] at h
 replace h := Hd.mk h
 simp only [F106, go_sem]
 try simp only [*, go_sem]
 intro hl1
 try simp only [*, go_sem]
 refine jn0 h ([]) ([]) (fun k3 h => ?_) (fun h => ?_)
 try simp only [*, go_sem]
 refine lp1 (xc p0 p1 k3) (fun a4_1 => [zL 0 3 (p0.map Doubt.enc), (1, .one (.d (.f g_p1 c_p1))), zI 7 ((p0.length : Nat) : Int), zI 8 ((a4_1 : Nat) : Int)]) (fun a4_1 => []) h [] [] (fun n5 a4_1 h => ?_) (by intros; rw [xc])
 rw [xc] at h
 refine oi h (fun hb6 h => ?_) (fun hb6 h => ?_)
 have := of_decide_eq_true hb6
 refine obg h (fun x7 _ hkx7 h => ?_)
 try simp only [*, go_sem]
 refine cr h (h_p1 x7) (fun v8 h => ?_)
 refine oi h (fun hb9 h => ?_) (fun hb9 h => ?_)
 cases h.e
 simp only [*, go_sem, mA, mS]
 have := za hkx7 hl1
 try simp only [*, go_sem]
 exact lc (a4_1 + 1) h.e []
 try simp only [*, go_sem]
 exact jc () h.e []
 cases h.e
 simp only [*, go_sem, mA, mS]
def zq (p0 : List Doubt) (p1 : Doubt → Option (Bool)) : Option (Bool) := (Option.bind (uk p0 p1) fun v1 => (some (decide (v1 ≥ 0))))
def F102 : VFn := ⟨9, (.seq (.reg [vo 4 (.mv (cb false))]) (.seq (.reg [vm 5 0, vm 6 1, vo 7 (.call 106 [(.t 5), (.t 6)]), bk 8 .geq 7 0, vm 4 8]) .ret)), [.t 4]⟩
theorem low102 : lowF Tryd.prog 102 = some F102.strip := by kernel_rfl
theorem fok102 : fOk Tryd.prog 102 = true := by kernel_rfl
theorem u0r (p0 : List Doubt) (p1 : Doubt → Option (Bool)) (g_p1 : Nat) (c_p1 : List D) (h_p1 : ∀ (x0 : Doubt) (r : Bool), p1 x0 = some r → FnRO Tryd.prog G g_p1 ([.agg [.d (.i .i64 x0.Txn.Site), .d (.i .i64 x0.Txn.N), .d (.i .i64 x0.Age)]] ++ c_p1.map fun d => .one (.d d)) (fun rs => rs = [.one (.b r)])) (r : Bool) (h : zq p0 p1 = some r) : FnRO Tryd.prog G 102 [.one (.d (.l 3 (p0.map Doubt.enc))), .one (.d (.f g_p1 c_p1))] (fun rs => rs = [.one (.b r)]) := by
 refine FnRO.of' low102 fok102 (by simp [F102]) ?_
 rw [zq] at h
 replace h := Hd.mk h
 simp only [F102, go_sem]
 try simp only [*, go_sem]
 refine cr h (y0j G p0 p1 g_p1 c_p1 h_p1) (fun v1 h => ?_)
 cases h.e
 simp only [*, go_sem, mA, mS]
def w0g (p0 : Store) (p1 : Txn) : Option (Bool) := (Option.bind (zq p0.Doubts (fun y1 => y0g y1 p1)) fun v2 => (some v2))
def F88 : VFn := ⟨9, (.seq (.reg [vo 2 (.box 4 (.t 0)), vo 3 (.box 2 (.t 1)), vo 4 (.mv (cb false))]) (.seq (.reg [vf 5 2 2, vs 6 5, vo 7 (.mkf 103 [(.t 3)]), vo 8 (.call 102 [(.t 6), (.t 7)]), vm 4 8]) .ret)), [.t 4]⟩
theorem low88 : lowF Tryd.prog 88 = some F88.strip := by kernel_rfl
theorem fok88 : fOk Tryd.prog 88 = true := by kernel_rfl
theorem x0x (p0 : Store) (p1 : Txn) (r : Bool) (h : w0g p0 p1 = some r) : FnRO Tryd.prog G 88 [.agg p0.bx, .agg p1.bx] (fun rs => rs = [.one (.b r)]) := by
 refine FnRO.of' low88 fok88 (by simp [F88]) ?_
 rw [w0g] at h
 replace h := Hd.mk h
 simp only [F88, go_sem]
 try simp only [*, go_sem]
 refine cl h (u0r G p0.Doubts (fun y1 => y0g y1 p1) 103 [.k [.i .i64 p1.Site, .i .i64 p1.N]] (fun y1 r h => x1s G y1 p1 r h)) (fun v2 h => ?_)
 cases h.e
 simp only [*, go_sem, mA, mS]
def yr (p0 : Store) (a4_1 : Nat) (x7 : Lock) (k21 : Option (Bool)) : Nat → Nat → Option (Bool)
 | 0, _ => none
 | n23 + 1, a22_1 => (if (decide (a22_1 < min a4_1 p0.Locks.length)) = true then (Option.bind ((p0.Locks.take a4_1)[a22_1]?) fun x25 => (if (x25.Key == x7.Key) = true then (if ((x25.Txn.Site == x7.Txn.Site) && (x25.Txn.N == x7.Txn.N)) = true then (some false) else (if x25.Write = true then (some false) else (yr p0 a4_1 x7 k21 n23 (a22_1 + 1)))) else (yr p0 a4_1 x7 k21 n23 (a22_1 + 1)))) else k21)
def uu (p0 : Store) (a4_1 : Nat) (x7 : Lock) (k35 : Option (Bool)) : Nat → Nat → Option (Bool)
 | 0, _ => none
 | n37 + 1, a36_1 => (if (decide (a36_1 < min a4_1 p0.Locks.length)) = true then (Option.bind ((p0.Locks.take a4_1)[a36_1]?) fun x39 => (if (x39.Key == x7.Key) = true then (if ((x39.Txn.Site == x7.Txn.Site) && (x39.Txn.N == x7.Txn.N)) = true then (some false) else (if x39.Write = true then (some false) else (some false))) else (uu p0 a4_1 x7 k35 n37 (a36_1 + 1)))) else k35)
def yv (p0 : Store) (k3 : Option (Bool)) : Nat → Nat → Option (Bool)
 | 0, _ => none
 | n5 + 1, a4_1 => (if (decide (a4_1 < p0.Locks.length)) = true then (Option.bind (p0.Locks[a4_1]?) fun x7 => (Option.bind (w0g p0 x7.Txn) fun v8 => (if (!v8) = true then (some false) else (if (decide (x7.Key < 0)) = true then (some false) else (if (decide (x7.Key ≥ 8)) = true then (some false) else (if (decide (x7.Value < 0)) = true then (some false) else (if (decide (x7.Value > 1073741824)) = true then (some false) else (if (decide (x7.Ask < 0)) = true then (some false) else (if (decide (x7.Ask > 1048576)) = true then (some false) else (if (!x7.Write) = true then (if (IntKind.i64.wrap (x7.Value + x7.Ask) != 0) = true then (some false) else (withK (yv p0 k3 n5 (a4_1 + 1)) fun k21 => (yr p0 a4_1 x7 k21 (min a4_1 p0.Locks.length + 1) 0))) else (withK (yv p0 k3 n5 (a4_1 + 1)) fun k35 => (uu p0 a4_1 x7 k35 (min a4_1 p0.Locks.length + 1) 0)))))))))))) else k3)
def w0p (p0 : Store) : Option (Bool) := (withK (some (decide (((p0.Locks.length : Nat) : Int) ≤ 24))) fun k3 => (yv p0 k3 (p0.Locks.length + 1) 0))
def F98 : VFn := ⟨98, (.seq (.reg [vo 1 (.boxk 4 (.t 0)), vo 2 (.mv (cb false))]) (.seq (.seq (.reg [vf 7 1 1, vs 8 7, ln 9 8, mi 10 0]) (.wk (.block 0 (.loop (.seq (.reg [bt 11 .lss 10 9]) (.seq (.cond (.t 11) .skip (.exit 0)) (.seq (.block 1 (.seq (.reg [vm 12 10, xa 13 6 8 10, vl 14 6 13, vo 4 (.alloc [(zi 0), (zi 0), (zi 0), (.d (.b false)), (zi 0), (zi 0)]), vm 3 12, vu (.st 6 (.t 4) (.t 14))]) (.seq (.seq (.reg [vl 15 4 1, vf 16 0 4, vl 17 2 16, vo 18 (.call 88 [(.t 15), (.t 17)]), nt 19 18, vm 20 19, gf 21 20 (.fa 2 (.t 4)), gf 22 20 (.ld false 1 (.t 21)), gf 23 20 (.bin .i .lss (.t 22) (ci 0)), vo 24 (.pick (.t 20) (cb true) (.t 23)), vm 25 24, gf 26 25 (.fa 2 (.t 4)), gf 27 25 (.ld false 1 (.t 26)), gf 28 25 (.bin .i .geq (.t 27) (ci 8)), vo 29 (.pick (.t 25) (cb true) (.t 28)), vm 30 29, gf 31 30 (.fa 4 (.t 4)), gf 32 30 (.ld false 1 (.t 31)), gf 33 30 (.bin .i .lss (.t 32) (ci 0)), vo 34 (.pick (.t 30) (cb true) (.t 33)), vm 35 34, gf 36 35 (.fa 4 (.t 4)), gf 37 35 (.ld false 1 (.t 36)), gf 38 35 (.bin .i .gtr (.t 37) (ci 1073741824)), vo 39 (.pick (.t 35) (cb true) (.t 38)), vm 40 39, gf 41 40 (.fa 5 (.t 4)), gf 42 40 (.ld false 1 (.t 41)), gf 43 40 (.bin .i .lss (.t 42) (ci 0)), vo 44 (.pick (.t 40) (cb true) (.t 43)), vm 45 44, gf 46 45 (.fa 5 (.t 4)), gf 47 45 (.ld false 1 (.t 46)), gf 48 45 (.bin .i .gtr (.t 47) (ci 1048576)), vo 49 (.pick (.t 45) (cb true) (.t 48)), vm 50 49, gf 51 50 (.fa 3 (.t 4)), gf 52 50 (.ld false 1 (.t 51)), gf 53 50 (.un .not (.t 52)), gf 54 50 (.mv (.t 53)), gt 55 54 (.fa 4 (.t 4)), gt 56 54 (.ld false 1 (.t 55)), gt 57 54 (.fa 5 (.t 4)), gt 58 54 (.ld false 1 (.t 57)), gt 59 54 (.bin .i .add (.t 56) (.t 58)), gt 60 54 (.bin .i .neq (.t 59) (ci 0)), gf 61 50 (.pick (.t 54) (.t 60) (cb false)), vo 62 (.pick (.t 50) (cb true) (.t 61))]) (.cond (.t 62) (.seq (.reg [vo 2 (.mv (cb false))]) .ret) .skip)) (.seq (.reg [vf 63 1 1, vs 64 63, vm 65 3, vo 66 (.sl 6 (.t 64) none (some (.t 65))), ln 67 66, mi 68 0]) (.wk (.block 2 (.loop (.seq (.reg [bt 69 .lss 68 67]) (.seq (.cond (.t 69) .skip (.exit 2)) (.seq (.block 3 (.seq (.reg [xa 70 6 66 68, vl 71 6 70, vo 6 (.alloc [(zi 0), (zi 0), (zi 0), (.d (.b false)), (zi 0), (zi 0)]), vu (.st 6 (.t 6) (.t 71))]) (.seq (.reg [vf 72 2 6, vs 73 72, vf 74 2 4, vs 75 74, bt 76 .eql 73 75, vm 77 76, gt 78 77 (.fa 0 (.t 6)), gt 79 77 (.ld true 2 (.t 78)), gt 80 77 (.fa 0 (.t 4)), gt 81 77 (.ld true 2 (.t 80)), gt 82 77 (.eqs false [.i, .i] (.t 79) (.t 81)), gt 83 77 (.mv (.t 82)), gf 84 83 (.fa 3 (.t 6)), gf 85 83 (.ld false 1 (.t 84)), gt 86 77 (.pick (.t 83) (cb true) (.t 85)), gt 87 77 (.mv (.t 86)), gf 88 87 (.fa 3 (.t 4)), gf 89 87 (.ld false 1 (.t 88)), gt 90 77 (.pick (.t 87) (cb true) (.t 89)), vo 91 (.pick (.t 77) (.t 90) (cb false))]) (.cond (.t 91) (.seq (.reg [vo 2 (.mv (cb false))]) .ret) .skip)))) (.reg [bk 92 .add 68 1, vm 68 92]))))))))))) (.reg [bk 93 .add 10 1, vm 10 93])))))))) (.seq (.reg [vf 94 1 1, vs 95 94, ln 96 95, bk 97 .leq 96 24, vm 2 97]) .ret))), [.t 2]⟩
theorem low98 : lowF Tryd.prog 98 = some F98.strip := by kernel_rfl
theorem fok98 : fOk Tryd.prog 98 = true := by kernel_rfl
theorem u2w (p0 : Store) (r : Bool) (h : w0p p0 = some r) : FnRO Tryd.prog G 98 [.agg p0.bx] (fun rs => rs = [.one (.b r)]) := by
 refine FnRO.of' low98 fok98 (by simp [F98]) ?_
 rw [w0p] at h
 replace h := Hd.mk h
 simp only [F98, go_sem]
 try simp only [*, go_sem]
 intro hl1
 try simp only [*, go_sem]
 refine jn0 h ([zK 1 (Store.enc p0)]) ([]) (fun k3 h => ?_) (fun h => ?_)
 try simp only [*, go_sem]
 refine lp1 (yv p0 k3) (fun a4_1 => [zK 1 (Store.enc p0), zL 8 6 (p0.Locks.map Lock.enc), zI 9 ((p0.Locks.length : Nat) : Int), zI 10 ((a4_1 : Nat) : Int)]) (fun a4_1 => []) h [] [] (fun n5 a4_1 h => ?_) (by intros; rw [yv])
 rw [yv] at h
 refine oi h (fun hb6 h => ?_) (fun hb6 h => ?_)
 have := of_decide_eq_true hb6
 refine obg h (fun x7 _ hkx7 h => ?_)
 try simp only [*, go_sem]
 refine cr h (x0x G p0 x7.Txn) (fun v8 h => ?_)
 refine oin h (fun hb9 hkhb9 h => ?_) (fun hb9 hkhb9 h => ?_)
 cases h.e
 simp only [*, go_sem, mA, mS]
 refine oi h (fun hb10 h => ?_) (fun hb10 h => ?_)
 have := of_decide_eq_true hb10
 cases h.e
 simp only [*, go_sem, mA, mS]
 refine oi h (fun hb11 h => ?_) (fun hb11 h => ?_)
 cases h.e
 simp only [*, go_sem, mA, mS]
 refine oi h (fun hb12 h => ?_) (fun hb12 h => ?_)
 have := of_decide_eq_true hb12
 cases h.e
 simp only [*, go_sem, mA, mS]
 refine oi h (fun hb13 h => ?_) (fun hb13 h => ?_)
 cases h.e
 simp only [*, go_sem, mA, mS]
 refine oi h (fun hb14 h => ?_) (fun hb14 h => ?_)
 have := of_decide_eq_true hb14
 cases h.e
 simp only [*, go_sem, mA, mS]
 refine oi h (fun hb15 h => ?_) (fun hb15 h => ?_)
 cases h.e
 simp only [*, go_sem, mA, mS]
 refine oin h (fun hb16 hkhb16 h => ?_) (fun hb16 hkhb16 h => ?_)
 refine oi h (fun hb17 h => ?_) (fun hb17 h => ?_)
 cases h.e
 simp only [*, go_sem, mA, mS]
 have := Nat.le_of_lt hkx7
 try simp only [*, go_sem]
 intro hl19
 try simp only [*, go_sem]
 refine jn0 h ([zK 1 (Store.enc p0), zL 8 6 (p0.Locks.map Lock.enc), zI 9 ((p0.Locks.length : Nat) : Int), zI 10 ((a4_1 : Nat) : Int), (21, .one (.p (.q 0 0 2))), zI 22 x7.Key, zB 23 false, (26, .one (.p (.q 0 0 2))), zI 27 x7.Key, zB 28 false, (31, .one (.p (.q 0 0 4))), zI 32 x7.Value, zB 33 false, (36, .one (.p (.q 0 0 4))), zI 37 x7.Value, zB 38 false, (41, .one (.p (.q 0 0 5))), zI 42 x7.Ask, zB 43 false, (46, .one (.p (.q 0 0 5))), zI 47 x7.Ask, zB 48 false, (51, .one (.p (.q 0 0 3))), zB 52 false, zB 53 true, zB 54 true, (55, .one (.p (.q 0 0 4))), zI 56 x7.Value, (57, .one (.p (.q 0 0 5))), zI 58 x7.Ask, zI 59 (IntKind.i64.wrap (x7.Value + x7.Ask)), zB 60 false, zB 61 false]) ([ox [zi x7.Txn.Site, zi x7.Txn.N, zi x7.Key, .d (.b false), zi x7.Value, zi x7.Ask]]) (fun k21 h => ?_) (fun h => ?_)
 try simp only [*, go_sem]
 refine lp1 (yr p0 a4_1 x7 k21) (fun a22_1 => [zK 1 (Store.enc p0), zP 4 0, zL 8 6 (p0.Locks.map Lock.enc), zI 9 ((p0.Locks.length : Nat) : Int), zI 10 ((a4_1 : Nat) : Int), (21, .one (.p (.q 0 0 2))), zI 22 x7.Key, zB 23 false, (26, .one (.p (.q 0 0 2))), zI 27 x7.Key, zB 28 false, (31, .one (.p (.q 0 0 4))), zI 32 x7.Value, zB 33 false, (36, .one (.p (.q 0 0 4))), zI 37 x7.Value, zB 38 false, (41, .one (.p (.q 0 0 5))), zI 42 x7.Ask, zB 43 false, (46, .one (.p (.q 0 0 5))), zI 47 x7.Ask, zB 48 false, (51, .one (.p (.q 0 0 3))), zB 52 false, zB 53 true, zB 54 true, (55, .one (.p (.q 0 0 4))), zI 56 x7.Value, (57, .one (.p (.q 0 0 5))), zI 58 x7.Ask, zI 59 (IntKind.i64.wrap (x7.Value + x7.Ask)), zB 60 false, zB 61 false, zL 66 6 ((p0.Locks.take a4_1).map Lock.enc), zI 67 ((min a4_1 p0.Locks.length : Nat) : Int), zI 68 ((a22_1 : Nat) : Int)]) (fun a22_1 => [ox [zi x7.Txn.Site, zi x7.Txn.N, zi x7.Key, .d (.b false), zi x7.Value, zi x7.Ask]]) h [] [some 0] (fun n23 a22_1 h => ?_) (by intros; rw [yr])
 rw [yr] at h
 refine oi h (fun hb24 h => ?_) (fun hb24 h => ?_)
 refine obg h (fun x25 _ hkx25 h => ?_)
 try simp only [List.length_take, List.length_drop, List.length_append, List.length_set, List.length_map, List.length_cons, List.length_nil, Nat.zero_add] at hkx25
 refine oi h (fun hb26 h => ?_) (fun hb26 h => ?_)
 refine oi h (fun hb27 h => ?_) (fun hb27 h => ?_)
 try simp only [*, go_sem]
 cases h.e
 simp only [*, go_sem, mA, mS]
 try simp only [*, go_sem]
 refine oi h (fun hb28 h => ?_) (fun hb28 h => ?_)
 cases h.e
 simp only [*, go_sem, mA, mS]
 have := za hkx25 hl19
 try simp only [*, go_sem]
 exact lc (a22_1 + 1) h.e [some 0]
 have := za hkx25 hl19
 try simp only [*, go_sem]
 exact lc (a22_1 + 1) h.e [some 0]
 try simp only [*, go_sem]
 exact jc () h.e [some 0]
 have := za hkx7 hl1
 try simp only [*, go_sem]
 exact lc (a4_1 + 1) h.e []
 have := Nat.le_of_lt hkx7
 try simp only [*, go_sem]
 intro hl33
 try simp only [*, go_sem]
 refine jn0 h ([zK 1 (Store.enc p0), zL 8 6 (p0.Locks.map Lock.enc), zI 9 ((p0.Locks.length : Nat) : Int), zI 10 ((a4_1 : Nat) : Int), (21, .one (.p (.q 0 0 2))), zI 22 x7.Key, zB 23 false, (26, .one (.p (.q 0 0 2))), zI 27 x7.Key, zB 28 false, (31, .one (.p (.q 0 0 4))), zI 32 x7.Value, zB 33 false, (36, .one (.p (.q 0 0 4))), zI 37 x7.Value, zB 38 false, (41, .one (.p (.q 0 0 5))), zI 42 x7.Ask, zB 43 false, (46, .one (.p (.q 0 0 5))), zI 47 x7.Ask, zB 48 false, (51, .one (.p (.q 0 0 3))), zB 52 true, zB 53 false, zB 54 false, zB 61 false]) ([ox [zi x7.Txn.Site, zi x7.Txn.N, zi x7.Key, .d (.b true), zi x7.Value, zi x7.Ask]]) (fun k35 h => ?_) (fun h => ?_)
 try simp only [*, go_sem]
 refine lp1 (uu p0 a4_1 x7 k35) (fun a36_1 => [zK 1 (Store.enc p0), zP 4 0, zL 8 6 (p0.Locks.map Lock.enc), zI 9 ((p0.Locks.length : Nat) : Int), zI 10 ((a4_1 : Nat) : Int), (21, .one (.p (.q 0 0 2))), zI 22 x7.Key, zB 23 false, (26, .one (.p (.q 0 0 2))), zI 27 x7.Key, zB 28 false, (31, .one (.p (.q 0 0 4))), zI 32 x7.Value, zB 33 false, (36, .one (.p (.q 0 0 4))), zI 37 x7.Value, zB 38 false, (41, .one (.p (.q 0 0 5))), zI 42 x7.Ask, zB 43 false, (46, .one (.p (.q 0 0 5))), zI 47 x7.Ask, zB 48 false, (51, .one (.p (.q 0 0 3))), zB 52 true, zB 53 false, zB 54 false, zB 61 false, zL 66 6 ((p0.Locks.take a4_1).map Lock.enc), zI 67 ((min a4_1 p0.Locks.length : Nat) : Int), zI 68 ((a36_1 : Nat) : Int)]) (fun a36_1 => [ox [zi x7.Txn.Site, zi x7.Txn.N, zi x7.Key, .d (.b true), zi x7.Value, zi x7.Ask]]) h [] [some 0] (fun n37 a36_1 h => ?_) (by intros; rw [uu])
 rw [uu] at h
 refine oi h (fun hb38 h => ?_) (fun hb38 h => ?_)
 refine obg h (fun x39 _ hkx39 h => ?_)
 try simp only [List.length_take, List.length_drop, List.length_append, List.length_set, List.length_map, List.length_cons, List.length_nil, Nat.zero_add] at hkx39
 refine oi h (fun hb40 h => ?_) (fun hb40 h => ?_)
 refine oi h (fun hb41 h => ?_) (fun hb41 h => ?_)
 try simp only [*, go_sem]
 cases h.e
 simp only [*, go_sem, mA, mS]
 try simp only [*, go_sem]
 refine oi h (fun hb42 h => ?_) (fun hb42 h => ?_)
 cases h.e
 simp only [*, go_sem, mA, mS]
 cases h.e
 simp only [*, go_sem, mA, mS]
 have := za hkx39 hl33
 try simp only [*, go_sem]
 exact lc (a36_1 + 1) h.e [some 0]
 try simp only [*, go_sem]
 exact jc () h.e [some 0]
 have := za hkx7 hl1
 try simp only [*, go_sem]
 exact lc (a4_1 + 1) h.e []
 try simp only [*, go_sem]
 exact jc () h.e []
 try simp only [*, go_sem]
 intro hl45
 cases h.e
 simp only [*, go_sem, mA, mS]
def y0q (p0 : Store) : Option (Int) := (Option.bind (v0p p0.Items) fun v1 => (if (!v1) = true then (some 9) else (Option.bind (v0l p0) fun v3 => (if (!v3) = true then (some 9) else (Option.bind (w0p p0) fun v5 => (if (!v5) = true then (some 9) else (some 0)))))))
def F76 : VFn := ⟨17, (.seq (.reg [vo 1 (.box 4 (.t 0)), mi 2 0]) (.seq (.seq (.reg [vf 3 0 1, vs 4 3, vo 5 (.call 96 [(.t 4)]), nt 6 5, vm 7 6, gf 8 7 (.ld true 4 (.t 1)), gf 9 7 (.call 97 [(.t 8)]), gf 10 7 (.un .not (.t 9)), vo 11 (.pick (.t 7) (cb true) (.t 10)), vm 12 11, gf 13 12 (.ld true 4 (.t 1)), gf 14 12 (.call 98 [(.t 13)]), gf 15 12 (.un .not (.t 14)), vo 16 (.pick (.t 12) (cb true) (.t 15))]) (.cond (.t 16) (.seq (.reg [mi 2 9]) .ret) .skip)) (.seq (.reg [mi 2 0]) .ret))), [.t 2]⟩
theorem low76 : lowF Tryd.prog 76 = some F76.strip := by kernel_rfl
theorem fok76 : fOk Tryd.prog 76 = true := by kernel_rfl
theorem w2x (p0 : Store) (r : Int) (h : y0q p0 = some r) : FnRO Tryd.prog G 76 [.agg p0.bx] (fun rs => rs = [.one (.i .i64 r)]) := by
 refine FnRO.of' low76 fok76 (by simp [F76]) ?_
 rw [y0q] at h
 replace h := Hd.mk h
 simp only [F76, go_sem]
 try simp only [*, go_sem]
 refine cr h (z2x G p0.Items) (fun v1 h => ?_)
 refine oin h (fun hb2 hkhb2 h => ?_) (fun hb2 hkhb2 h => ?_)
 cases h.e
 simp only [*, go_sem, mA, mS]
 try simp only [*, go_sem]
 refine cr h (y2n G p0) (fun v3 h => ?_)
 refine oin h (fun hb4 hkhb4 h => ?_) (fun hb4 hkhb4 h => ?_)
 cases h.e
 simp only [*, go_sem, mA, mS]
 try simp only [*, go_sem]
 refine cr h (u2w G p0) (fun v5 h => ?_)
 refine oin h (fun hb6 hkhb6 h => ?_) (fun hb6 hkhb6 h => ?_)
 cases h.e
 simp only [*, go_sem, mA, mS]
 cases h.e
 simp only [*, go_sem, mA, mS]
def v0n (p0 : Store) (p1 : Txn) (p2 : Int) : Option (Int) := (Option.bind (y0q p0) fun v1 => (if (v1 != 0) = true then (some v1) else (Option.bind (y0n p1) fun v3 => (if (!v3) = true then (some 2) else (if (decide (p2 < 0)) = true then (some 2) else (if (decide (p2 ≥ 8)) = true then (some 2) else (some 0)))))))
def F61 : VFn := ⟨24, (.seq (.reg [vo 3 (.boxk 4 (.t 0)), vo 4 (.boxk 2 (.t 1)), mi 6 0]) (.seq (.seq (.reg [vl 8 4 3, vo 9 (.call 76 [(.t 8)]), vm 7 9]) (.seq (.reg [vm 10 7, bk 11 .neq 10 0]) (.cond (.t 11) (.seq (.reg [vm 12 7, vm 6 12]) .ret) .skip))) (.seq (.seq (.reg [vl 13 2 4, vo 14 (.call 77 [(.t 13)]), nt 15 14, vm 16 15, gf 17 16 (.mv (.t 2)), gf 18 16 (.bin .i .lss (.t 17) (ci 0)), vo 19 (.pick (.t 16) (cb true) (.t 18)), vm 20 19, gf 21 20 (.mv (.t 2)), gf 22 20 (.bin .i .geq (.t 21) (ci 8)), vo 23 (.pick (.t 20) (cb true) (.t 22))]) (.cond (.t 23) (.seq (.reg [mi 6 2]) .ret) .skip)) (.seq (.reg [mi 6 0]) .ret)))), [.t 6]⟩
theorem low61 : lowF Tryd.prog 61 = some F61.strip := by kernel_rfl
theorem fok61 : fOk Tryd.prog 61 = true := by kernel_rfl
theorem x1r (p0 : Store) (p1 : Txn) (p2 : Int) (r : Int) (h : v0n p0 p1 p2 = some r) : FnRO Tryd.prog G 61 [.agg p0.bx, .agg p1.bx, .one (.d (.i .i64 p2))] (fun rs => rs = [.one (.i .i64 r)]) := by
 refine FnRO.of' low61 fok61 (by simp [F61]) ?_
 rw [v0n] at h
 replace h := Hd.mk h
 simp only [F61, go_sem]
 try simp only [*, go_sem]
 refine cr h (w2x G p0) (fun v1 h => ?_)
 refine oi h (fun hb2 h => ?_) (fun hb2 h => ?_)
 cases h.e
 simp only [*, go_sem, mA, mS]
 try simp only [*, go_sem]
 refine cr h (y1c G p1) (fun v3 h => ?_)
 refine oin h (fun hb4 hkhb4 h => ?_) (fun hb4 hkhb4 h => ?_)
 cases h.e
 simp only [*, go_sem, mA, mS]
 refine oi h (fun hb5 h => ?_) (fun hb5 h => ?_)
 have := of_decide_eq_true hb5
 cases h.e
 simp only [*, go_sem, mA, mS]
 refine oi h (fun hb6 h => ?_) (fun hb6 h => ?_)
 cases h.e
 simp only [*, go_sem, mA, mS]
 cases h.e
 simp only [*, go_sem, mA, mS]
def v0i (p0 : Lock) (p1 : Txn) (p2 : Int) : Option (Bool) := (withK (fun (b1_1 : Bool) => (some b1_1)) fun k2 => (if ((p0.Txn.Site == p1.Site) && (p0.Txn.N == p1.N)) = true then (k2 (p0.Key == p2)) else (k2 false)))
def F79 : VFn := ⟨15, (.seq (.reg [vo 3 (.boxk 6 (.t 0)), vo 4 (.mv (cb false))]) (.seq (.wk (.reg [vf 5 0 3, vl 6 2 5, vl 7 2 1, vo 8 (.eqs false [.i, .i] (.t 6) (.t 7)), vm 9 8, gt 10 9 (.fa 2 (.t 3)), gt 11 9 (.ld false 1 (.t 10)), gt 12 9 (.ld false 1 (.t 2)), gt 13 9 (.bin .i .eql (.t 11) (.t 12)), vo 14 (.pick (.t 9) (.t 13) (cb false)), vm 4 14])) .ret)), [.t 4]⟩
theorem low79 : lowF Tryd.prog 79 = some F79.strip := by kernel_rfl
theorem fok79 : fOk Tryd.prog 79 = true := by kernel_rfl
theorem z2n (p0 : Lock) (p1 : Txn) (p2 : Int) (r : Bool) (h : v0i p0 p1 p2 = some r) : FnRO Tryd.prog G 79 [.agg p0.bx, .one (.d (.k (Txn.enc p1))), .one (.d (.k [.i .i64 p2]))] (fun rs => rs = [.one (.b r)]) := by
 refine FnRO.of' low79 fok79 (by simp [F79]) ?_
 rw [v0i] at h
 replace h := Hd.mk h
 simp only [F79, go_sem]
 try simp only [*, go_sem]
 refine jn1 h (fun b1_1 => [zB 4 b1_1]) (fun b1_1 => []) (fun k2 h => ?_) (fun b1_1 h => ?_)
 refine oi h (fun hb3 h => ?_) (fun hb3 h => ?_)
 try simp only [*, go_sem]
 try simp only [*, go_sem]
 exact jc (p0.Key == p2) h.e []
 try simp only [*, go_sem]
 try simp only [*, go_sem]
 exact jc (false) h.e []
 cases h.e
 simp only [*, go_sem, mA, mS]
def y0u (p0 : Store) (p1 : Txn) (p2 : Int) : Option (Int) := (Option.bind (wh p0.Locks (fun y1 => v0i y1 p1 p2)) fun v2 => (some v2))
def F62 : VFn := ⟨11, (.seq (.reg [vo 3 (.box 4 (.t 0)), vo 4 (.box 2 (.t 1)), vo 5 (.box 1 (.t 2)), mi 6 0]) (.seq (.reg [vf 7 1 3, vs 8 7, vo 9 (.mkf 79 [(.t 4), (.t 5)]), vo 10 (.call 78 [(.t 8), (.t 9)]), vm 6 10]) .ret)), [.t 6]⟩
theorem low62 : lowF Tryd.prog 62 = some F62.strip := by kernel_rfl
theorem fok62 : fOk Tryd.prog 62 = true := by kernel_rfl
theorem u3f (p0 : Store) (p1 : Txn) (p2 : Int) (r : Int) (h : y0u p0 p1 p2 = some r) : FnRO Tryd.prog G 62 [.agg p0.bx, .agg p1.bx, .one (.d (.i .i64 p2))] (fun rs => rs = [.one (.i .i64 r)]) := by
 refine FnRO.of' low62 fok62 (by simp [F62]) ?_
 rw [y0u] at h
 replace h := Hd.mk h
 simp only [F62, go_sem]
 try simp only [*, go_sem]
 refine cl h (w0e G p0.Locks (fun y1 => v0i y1 p1 p2) 79 [.k [.i .i64 p1.Site, .i .i64 p1.N], .k [.i .i64 p2]] (fun y1 r h => z2n G y1 p1 p2 r h)) (fun v2 h => ?_)
 cases h.e
 simp only [*, go_sem, mA, mS]
def u0i (p0 : Lock) (p1 : Int) (p2 : Txn) (p3 : Bool) : Option (Bool) := (withK (fun (b1_1 : Bool) => (some b1_1)) fun k2 => (if (p0.Key == p1) = true then (if (!((p0.Txn.Site == p2.Site) && (p0.Txn.N == p2.N))) = true then (if p3 = true then (k2 true) else (k2 p0.Write)) else (k2 false)) else (k2 false)))
def F82 : VFn := ⟨23, (.seq (.reg [vo 4 (.boxk 6 (.t 0)), vo 5 (.mv (cb false))]) (.seq (.wk (.reg [vf 6 2 4, vs 7 6, vs 8 1, bt 9 .eql 7 8, vm 10 9, gt 11 10 (.fa 0 (.t 4)), gt 12 10 (.ld true 2 (.t 11)), gt 13 10 (.ld true 2 (.t 2)), gt 14 10 (.eqs true [.i, .i] (.t 12) (.t 13)), vo 15 (.pick (.t 10) (.t 14) (cb false)), vm 16 15, gt 17 16 (.ld false 1 (.t 3)), gt 18 16 (.mv (.t 17)), gf 19 18 (.fa 3 (.t 4)), gf 20 18 (.ld false 1 (.t 19)), gt 21 16 (.pick (.t 18) (cb true) (.t 20)), vo 22 (.pick (.t 16) (.t 21) (cb false)), vm 5 22])) .ret)), [.t 5]⟩
theorem low82 : lowF Tryd.prog 82 = some F82.strip := by kernel_rfl
theorem fok82 : fOk Tryd.prog 82 = true := by kernel_rfl
theorem x2n (p0 : Lock) (p1 : Int) (p2 : Txn) (p3 : Bool) (r : Bool) (h : u0i p0 p1 p2 p3 = some r) : FnRO Tryd.prog G 82 [.agg p0.bx, .one (.d (.k [.i .i64 p1])), .one (.d (.k (Txn.enc p2))), .one (.d (.k [.b p3]))] (fun rs => rs = [.one (.b r)]) := by
 refine FnRO.of' low82 fok82 (by simp [F82]) ?_
 rw [u0i] at h
 replace h := Hd.mk h
 simp only [F82, go_sem]
 try simp only [*, go_sem]
 refine jn1 h (fun b1_1 => [zB 5 b1_1]) (fun b1_1 => []) (fun k2 h => ?_) (fun b1_1 h => ?_)
 refine oi h (fun hb3 h => ?_) (fun hb3 h => ?_)
 refine oin h (fun hb4 hkhb4 h => ?_) (fun hb4 hkhb4 h => ?_)
 try simp only [*, go_sem]
 refine oi h (fun hb5 h => ?_) (fun hb5 h => ?_)
 try simp only [*, go_sem]
 exact jc (true) h.e []
 try simp only [*, go_sem]
 exact jc (p0.Write) h.e []
 try simp only [*, go_sem]
 try simp only [*, go_sem]
 exact jc (false) h.e []
 try simp only [*, go_sem]
 exact jc (false) h.e []
 cases h.e
 simp only [*, go_sem, mA, mS]
def w0u (p0 : Store) (p1 : Txn) (p2 : Int) (p3 : Bool) : Option (Bool) := (Option.bind (xm p0.Locks (fun y1 => u0i y1 p2 p1 p3)) fun v2 => (some v2))
def F64 : VFn := ⟨13, (.seq (.reg [vo 4 (.boxk 4 (.t 0)), vo 5 (.box 2 (.t 1)), vo 6 (.box 1 (.t 2)), vo 7 (.box 1 (.t 3)), vo 8 (.mv (cb false))]) (.seq (.reg [vf 9 1 4, vs 10 9, vo 11 (.mkf 82 [(.t 6), (.t 5), (.t 7)]), vo 12 (.call 81 [(.t 10), (.t 11)]), vm 8 12]) .ret)), [.t 8]⟩
theorem low64 : lowF Tryd.prog 64 = some F64.strip := by kernel_rfl
theorem fok64 : fOk Tryd.prog 64 = true := by kernel_rfl
theorem z3g (p0 : Store) (p1 : Txn) (p2 : Int) (p3 : Bool) (r : Bool) (h : w0u p0 p1 p2 p3 = some r) : FnRO Tryd.prog G 64 [.agg p0.bx, .agg p1.bx, .one (.d (.i .i64 p2)), .one (.d (.b p3))] (fun rs => rs = [.one (.b r)]) := by
 refine FnRO.of' low64 fok64 (by simp [F64]) ?_
 rw [w0u] at h
 replace h := Hd.mk h
 simp only [F64, go_sem]
 try simp only [*, go_sem]
 refine cl h (w0h G p0.Locks (fun y1 => u0i y1 p2 p1 p3) 82 [.k [.i .i64 p2], .k [.i .i64 p1.Site, .i .i64 p1.N], .k [.b p3]] (fun y1 r h => x2n G y1 p2 p1 p3 r h)) (fun v2 h => ?_)
 cases h.e
 simp only [*, go_sem, mA, mS]
def wc (p0 : List Item) (p1 : Int) (p2 : Item → Int → Option (Int)) (k3 : Int → Option (Int × Bool)) : Nat → Int → Int → Option (Int × Bool)
 | 0, _, _ => none
 | n5 + 1, a4_1, a4_2 => (if (decide (a4_1 < a4_2)) = true then (if 0 ≤ IntKind.i64.wrap ((IntKind.u64.wrap (IntKind.i64.wrap (a4_1 + a4_2))).fdiv (2 ^ 1)) then (Option.bind (p0[(IntKind.i64.wrap ((IntKind.u64.wrap (IntKind.i64.wrap (a4_1 + a4_2))).fdiv (2 ^ 1))).toNat]?) fun x7 => (Option.bind (p2 x7 p1) fun v9 => (withK (fun (b10_1 : Int) (b10_2 : Int) => (wc p0 p1 p2 k3 n5 b10_1 b10_2)) fun k11 => (if (decide (v9 < 0)) = true then (k11 (IntKind.i64.wrap (IntKind.i64.wrap ((IntKind.u64.wrap (IntKind.i64.wrap (a4_1 + a4_2))).fdiv (2 ^ 1)) + 1)) a4_2) else (k11 a4_1 (IntKind.i64.wrap ((IntKind.u64.wrap (IntKind.i64.wrap (a4_1 + a4_2))).fdiv (2 ^ 1)))))))) else none) else (k3 a4_1))
def xo (p0 : List Item) (p1 : Int) (p2 : Item → Int → Option (Int)) : Option (Int × Bool) := (withK (fun (b2_1 : Int) => (withK (fun (b13_1 : Bool) => (some (b2_1, b13_1))) fun k14 => (if (decide (b2_1 < ((p0.length : Nat) : Int))) = true then (if 0 ≤ b2_1 then (Option.bind (p0[b2_1.toNat]?) fun x16 => (Option.bind (p2 x16 p1) fun v18 => (k14 (v18 == 0)))) else none) else (k14 false)))) fun k3 => (wc p0 p1 p2 k3 (p0.length + 1) 0 ((p0.length : Nat) : Int)))
def F99 : VFn := ⟨49, (.seq (.reg [mi 6 0, vo 7 (.mv (cb false))]) (.seq (.reg [vm 12 0, ln 13 12, vm 8 13]) (.seq (.reg [vm 14 8, mi 9 0, vm 10 14]) (.seq (.wk (.block 0 (.loop (.seq (.seq (.reg [vm 15 9, vm 16 10, bt 17 .lss 15 16]) (.cond (.t 17) .skip (.exit 0))) (.block 1 (.seq (.reg [vm 18 9, vm 19 10, bt 20 .add 18 19, vo 21 (.cvi .u64 (.t 20)), vo 22 (.bin .i .shr (.t 21) (.c (.one (.d (.i .u64 1))))), vo 23 (.cvi .i64 (.t 22)), vm 11 23]) (.seq (.reg [vm 24 2, vm 25 0, vm 26 11, xa 27 3 25 26, vl 28 3 27, vm 29 1, vo 30 (.callv (.t 24) [(.t 28), (.t 29)]), bk 31 .lss 30 0]) (.wk (.cond (.t 31) (.reg [vm 32 11, bk 33 .add 32 1, vm 9 33]) (.reg [vm 34 11, vm 10 34])))))))))) (.seq (.wk (.reg [vm 35 9, vm 36 9, vm 37 8, bt 38 .lss 36 37, vm 39 38, gt 40 39 (.mv (.t 2)), gt 41 39 (.mv (.t 0)), gt 42 39 (.mv (.t 9)), gt 43 39 (.ia 3 (.t 41) (.t 42)), gt 44 39 (.ld true 3 (.t 43)), gt 45 39 (.mv (.t 1)), gt 46 39 (.callv (.t 40) [(.t 44), (.t 45)]), gt 47 39 (.bin .i .eql (.t 46) (ci 0)), vo 48 (.pick (.t 39) (.t 47) (cb false)), vm 6 35, vm 7 48])) .ret))))), [.t 6, .t 7]⟩
theorem low99 : lowF Tryd.prog 99 = some F99.strip := by kernel_rfl
theorem fok99 : fOk Tryd.prog 99 = true := by kernel_rfl
theorem u0n (p0 : List Item) (p1 : Int) (p2 : Item → Int → Option (Int)) (g_p2 : Nat) (c_p2 : List D) (h_p2 : ∀ (x0 : Item) (x1 : Int) (r : Int), p2 x0 x1 = some r → FnRO Tryd.prog G g_p2 ([.agg [.d (.i .i64 x0.Key), .d (.i .i64 x0.Value), .d (.i .i64 x0.Version)], .one (.d (.i .i64 x1))] ++ c_p2.map fun d => .one (.d d)) (fun rs => rs = [.one (.i .i64 r)])) (r : Int × Bool) (h : xo p0 p1 p2 = some r) : FnRO Tryd.prog G 99 [.one (.d (.l 3 (p0.map Item.enc))), .one (.d (.i .i64 p1)), .one (.d (.f g_p2 c_p2))] (fun rs => rs = [.one (.i .i64 r.1), .one (.b r.2)]) := by
 refine FnRO.of' low99 fok99 (by simp [F99]) ?_
 rw [xo] at h
 replace h := Hd.mk h
 simp only [F99, go_sem]
 try simp only [*, go_sem]
 intro hl1
 try simp only [*, go_sem]
 refine jn1 h (fun b2_1 => [zL 0 3 (p0.map Item.enc), zI 1 p1, (2, .one (.d (.f g_p2 c_p2))), zI 8 ((p0.length : Nat) : Int), zI 9 b2_1]) (fun b2_1 => []) (fun k3 h => ?_) (fun b2_1 h => ?_)
 try simp only [*, go_sem]
 refine lp2 (wc p0 p1 p2 k3) (fun a4_1 a4_2 => [zL 0 3 (p0.map Item.enc), zI 1 p1, (2, .one (.d (.f g_p2 c_p2))), zI 8 ((p0.length : Nat) : Int), zI 9 a4_1, zI 10 a4_2]) (fun a4_1 a4_2 => []) h [] [] (fun n5 a4_1 a4_2 h => ?_) (by intros; rw [wc])
 rw [wc] at h
 refine oi h (fun hb6 h => ?_) (fun hb6 h => ?_)
 have := of_decide_eq_true hb6
 refine obn h (fun x7 _ _ _ _ h => ?_)
 try simp only [*, go_sem]
 refine cr h (h_p2 x7 p1) (fun v9 h => ?_)
 try simp only [*, go_sem]
 refine jn2 h (fun b10_1 b10_2 => [zL 0 3 (p0.map Item.enc), zI 1 p1, (2, .one (.d (.f g_p2 c_p2))), zI 8 ((p0.length : Nat) : Int), zI 9 b10_1, zI 10 b10_2]) (fun b10_1 b10_2 => []) (fun k11 h => ?_) (fun b10_1 b10_2 h => ?_)
 refine oi h (fun hb12 h => ?_) (fun hb12 h => ?_)
 have := of_decide_eq_true hb12
 try simp only [*, go_sem]
 exact jc (IntKind.i64.wrap (IntKind.i64.wrap ((IntKind.u64.wrap (IntKind.i64.wrap (a4_1 + a4_2))).fdiv (2 ^ 1)) + 1), a4_2) h.e []
 try simp only [*, go_sem]
 exact jc (a4_1, IntKind.i64.wrap ((IntKind.u64.wrap (IntKind.i64.wrap (a4_1 + a4_2))).fdiv (2 ^ 1))) h.e []
 try simp only [*, go_sem]
 exact lc (b10_1, b10_2) h.e []
 try simp only [*, go_sem]
 exact jc (a4_1) h.e []
 try simp only [*, go_sem]
 refine jn1 h (fun b13_1 => [zI 6 b2_1, zB 7 b13_1]) (fun b13_1 => []) (fun k14 h => ?_) (fun b13_1 h => ?_)
 refine oi h (fun hb15 h => ?_) (fun hb15 h => ?_)
 refine obn h (fun x16 _ _ _ _ h => ?_)
 try simp only [*, go_sem]
 refine cr h (h_p2 x16 p1) (fun v18 h => ?_)
 try simp only [*, go_sem]
 exact jc (v18 == 0) h.e []
 try simp only [*, go_sem]
 exact jc (false) h.e []
 cases h.e
 simp only [*, go_sem, mA, mS]
def y0t (p0 : Int) : Option (Bool) := (some false)
def F109 : VFn := ⟨6, (.seq (.reg [vo 2 (.mv (cb false))]) (.seq (.reg [vm 3 0, vm 4 0, bt 5 .neq 3 4, vm 2 5]) .ret)), [.t 2]⟩
theorem low109 : lowF Tryd.prog 109 = some F109.strip := by kernel_rfl
theorem fok109 : fOk Tryd.prog 109 = true := by kernel_rfl
theorem w2e (p0 : Int) (r : Bool) (h : y0t p0 = some r) : FnRO Tryd.prog G 109 [.one (.d (.i .i64 p0))] (fun rs => rs = [.one (.b r)]) := by
 refine FnRO.of' low109 fok109 (by simp [F109]) ?_
 rw [y0t] at h
 replace h := Hd.mk h
 simp only [F109, go_sem]
 cases h.e
 simp only [*, go_sem, mA, mS]
def v0r (p0 : Int) (p1 : Int) : Option (Int) := (Option.bind (y0t p0) fun v1 => (Option.bind (y0t p1) fun v2 => (if v1 = true then (if v2 = true then (some 0) else (some (-1))) else (if v2 = true then (some 1) else (if (decide (p0 < p1)) = true then (some (-1)) else (if (decide (p0 > p1)) = true then (some 1) else (some 0)))))))
def F101 : VFn := ⟨20, (.seq (.reg [mi 4 0]) (.seq (.reg [vm 7 0, vo 8 (.call 109 [(.t 7)]), vm 5 8]) (.seq (.reg [vm 9 1, vo 10 (.call 109 [(.t 9)]), vm 6 10]) (.seq (.seq (.reg [vm 11 5]) (.cond (.t 11) (.seq (.seq (.reg [vm 12 6]) (.cond (.t 12) (.seq (.reg [mi 4 0]) .ret) .skip)) (.seq (.reg [mi 4 (-1)]) .ret)) .skip)) (.seq (.seq (.reg [vm 13 6]) (.cond (.t 13) (.seq (.reg [mi 4 1]) .ret) .skip)) (.seq (.seq (.reg [vm 14 0, vm 15 1, bt 16 .lss 14 15]) (.cond (.t 16) (.seq (.reg [mi 4 (-1)]) .ret) .skip)) (.seq (.seq (.reg [vm 17 0, vm 18 1, bt 19 .gtr 17 18]) (.cond (.t 19) (.seq (.reg [mi 4 1]) .ret) .skip)) (.seq (.reg [mi 4 0]) .ret)))))))), [.t 4]⟩
theorem low101 : lowF Tryd.prog 101 = some F101.strip := by kernel_rfl
theorem fok101 : fOk Tryd.prog 101 = true := by kernel_rfl
theorem x3d (p0 : Int) (p1 : Int) (r : Int) (h : v0r p0 p1 = some r) : FnRO Tryd.prog G 101 [.one (.d (.i .i64 p0)), .one (.d (.i .i64 p1))] (fun rs => rs = [.one (.i .i64 r)]) := by
 refine FnRO.of' low101 fok101 (by simp [F101]) ?_
 rw [v0r] at h
 replace h := Hd.mk h
 simp only [F101, go_sem]
 try simp only [*, go_sem]
 refine cr h (w2e G p0) (fun v1 h => ?_)
 try simp only [*, go_sem]
 refine cr h (w2e G p1) (fun v2 h => ?_)
 refine oi h (fun hb3 h => ?_) (fun hb3 h => ?_)
 refine oi h (fun hb4 h => ?_) (fun hb4 h => ?_)
 cases h.e
 simp only [*, go_sem, mA, mS]
 cases h.e
 simp only [*, go_sem, mA, mS]
 refine oi h (fun hb5 h => ?_) (fun hb5 h => ?_)
 cases h.e
 simp only [*, go_sem, mA, mS]
 refine oi h (fun hb6 h => ?_) (fun hb6 h => ?_)
 have := of_decide_eq_true hb6
 cases h.e
 simp only [*, go_sem, mA, mS]
 refine oi h (fun hb7 h => ?_) (fun hb7 h => ?_)
 cases h.e
 simp only [*, go_sem, mA, mS]
 cases h.e
 simp only [*, go_sem, mA, mS]
def wz (p0 : Item) (p1 : Int) : Option (Int) := (Option.bind (v0r p0.Key p1) fun v1 => (some v1))
def F100 : VFn := ⟨9, (.seq (.reg [vo 2 (.boxk 3 (.t 0)), mi 4 0]) (.seq (.reg [vf 5 0 2, vs 6 5, vm 7 1, vo 8 (.call 101 [(.t 6), (.t 7)]), vm 4 8]) .ret)), [.t 4]⟩
theorem low100 : lowF Tryd.prog 100 = some F100.strip := by kernel_rfl
theorem fok100 : fOk Tryd.prog 100 = true := by kernel_rfl
theorem y3g (p0 : Item) (p1 : Int) (r : Int) (h : wz p0 p1 = some r) : FnRO Tryd.prog G 100 [.agg p0.bx, .one (.d (.i .i64 p1))] (fun rs => rs = [.one (.i .i64 r)]) := by
 refine FnRO.of' low100 fok100 (by simp [F100]) ?_
 rw [wz] at h
 replace h := Hd.mk h
 simp only [F100, go_sem]
 try simp only [*, go_sem]
 refine cr h (x3d G p0.Key p1) (fun v1 h => ?_)
 cases h.e
 simp only [*, go_sem, mA, mS]
def u0p (p0 : List Item) (p1 : Int) : Option (Int × Bool) := (Option.bind (xo p0 p1 (fun y1 y2 => wz y1 y2)) fun v3 => (some (v3.1, v3.2)))
def F83 : VFn := ⟨11, (.seq (.reg [mi 4 0, vo 5 (.mv (cb false))]) (.seq (.reg [vm 6 0, vm 7 1, vo 8 (.call 99 [(.t 6), (.t 7), (.fn 100)]), et 9 8 0, et 10 8 1, vm 4 9, vm 5 10]) .ret)), [.t 4, .t 5]⟩
theorem low83 : lowF Tryd.prog 83 = some F83.strip := by kernel_rfl
theorem fok83 : fOk Tryd.prog 83 = true := by kernel_rfl
theorem w2k (p0 : List Item) (p1 : Int) (r : Int × Bool) (h : u0p p0 p1 = some r) : FnRO Tryd.prog G 83 [.one (.d (.l 3 (p0.map Item.enc))), .one (.d (.i .i64 p1))] (fun rs => rs = [.one (.i .i64 r.1), .one (.b r.2)]) := by
 refine FnRO.of' low83 fok83 (by simp [F83]) ?_
 rw [u0p] at h
 replace h := Hd.mk h
 simp only [F83, go_sem]
 try simp only [*, go_sem]
 refine cr h (u0n G p0 p1 (fun y1 y2 => wz y1 y2) 100 [] (fun y1 y2 r h => y3g G y1 y2 r h)) (fun v3 h => ?_)
 cases h.e
 simp only [*, go_sem, mA, mS]
def w0n (p0 : Store) (p1 : Int) : Option (Item) := (Option.bind (u0p p0.Items p1) fun v1 => (if v1.2 = true then (if 0 ≤ v1.1 then (Option.bind (p0.Items[v1.1.toNat]?) fun x3 => (some x3)) else none) else (some (Item.mk p1 0 0))))
def F65 : VFn := ⟨22, (.seq (.reg [vo 2 (.box 4 (.t 0)), vo 4 (.alloc [(zi 0), (zi 0), (zi 0)])]) (.seq (.seq (.reg [vf 8 0 2, vs 9 8, vm 10 1, vo 11 (.call 83 [(.t 9), (.t 10)]), vm 7 11, et 12 7 0, et 13 7 1, vm 5 12, vm 6 13]) (.seq (.reg [vm 14 6]) (.cond (.t 14) (.seq (.reg [vf 15 0 2, vs 16 15, vm 17 5, xa 18 3 16 17, vl 19 3 18, vu (.st 3 (.t 4) (.t 19))]) .ret) .skip))) (.seq (.reg [vm 20 1, vo 21 (.build [(zi 0), (zi 0), (zi 0)] [(0, 1, (.t 20))]), vu (.st 3 (.t 4) (.t 21))]) .ret))), [.cell 4 true 3]⟩
theorem low65 : lowF Tryd.prog 65 = some F65.strip := by kernel_rfl
theorem fok65 : fOk Tryd.prog 65 = true := by kernel_rfl
theorem z1r (p0 : Store) (p1 : Int) (r : Item) (h : w0n p0 p1 = some r) : FnRO Tryd.prog G 65 [.agg p0.bx, .one (.d (.i .i64 p1))] (fun rs => rs = [.agg (r.encO)]) := by
 refine FnRO.of' low65 fok65 (by simp [F65]) ?_
 rw [w0n] at h
 replace h := Hd.mk h
 simp only [F65, go_sem]
 try simp only [*, go_sem]
 refine cr h (w2k G p0.Items p1) (fun v1 h => ?_)
 refine oi h (fun hb2 h => ?_) (fun hb2 h => ?_)
 refine obn h (fun x3 _ _ _ _ h => ?_)
 cases h.e
 simp only [*, go_sem, mA, mS]
 cases h.e
 simp only [*, go_sem, mA, mS]
theorem low84 : lowF Tryd.prog 84 = some (w1e 3 24 [(zi 0), (zi 0), (zi 0)]) := by kernel_rfl
theorem fok84 : fOk Tryd.prog 84 = true := by kernel_rfl
theorem u4k (p0 r : List Item) (h : v0o 24 p0 = some r) : FnRO Tryd.prog G 84 [.one (.d (.l 3 (p0.map Item.enc)))] (fun rs => rs = [.one (.o 3 (r.map Item.enc))]) := x1j low84 fok84 G Item.enc p0 r h
theorem low85 : lowF Tryd.prog 85 = some (w1e 6 48 [(zi 0), (zi 0), (zi 0), (.d (.b false)), (zi 0), (zi 0)]) := by kernel_rfl
theorem fok85 : fOk Tryd.prog 85 = true := by kernel_rfl
theorem v4k (p0 r : List Lock) (h : v0o 48 p0 = some r) : FnRO Tryd.prog G 85 [.one (.d (.l 6 (p0.map Lock.enc)))] (fun rs => rs = [.one (.o 6 (r.map Lock.enc))]) := x1j low85 fok85 G Lock.enc p0 r h
theorem low86 : lowF Tryd.prog 86 = some (w1e 3 24 [(zi 0), (zi 0), (zi 0)]) := by kernel_rfl
theorem fok86 : fOk Tryd.prog 86 = true := by kernel_rfl
theorem w4k (p0 r : List Doubt) (h : v0o 24 p0 = some r) : FnRO Tryd.prog G 86 [.one (.d (.l 3 (p0.map Doubt.enc)))] (fun rs => rs = [.one (.o 3 (r.map Doubt.enc))]) := x1j low86 fok86 G Doubt.enc p0 r h
theorem low87 : lowF Tryd.prog 87 = some (w1e 2 16 [(zi 0), (zi 0)]) := by kernel_rfl
theorem fok87 : fOk Tryd.prog 87 = true := by kernel_rfl
theorem x4k (p0 r : List Txn) (h : v0o 16 p0 = some r) : FnRO Tryd.prog G 87 [.one (.d (.l 2 (p0.map Txn.enc)))] (fun rs => rs = [.one (.o 2 (r.map Txn.enc))]) := x1j low87 fok87 G Txn.enc p0 r h
def x0n (p0 : Store) : Option (Store) := (Option.bind (v0o 24 p0.Items) fun v1 => (Option.bind (v0o 48 p0.Locks) fun v2 => (Option.bind (v0o 24 p0.Doubts) fun v3 => (Option.bind (v0o 16 p0.Over) fun v4 => (some (Store.mk v1 v2 v3 v4))))))
def F66 : VFn := ⟨16, (.seq (.reg [vo 1 (.box 4 (.t 0)), vo 2 (.alloc [(.nl 3), (.nl 6), (.nl 3), (.nl 2)])]) (.seq (.draw [vd (vf 3 0 1) 0, vd (vs 4 3) 1, vd (vo 5 (.call 84 [(.t 4)])) 3, ⟨vf 6 1 1, 0, [2], none, []⟩, ⟨vs 7 6, 8, [2], none, []⟩, vd (vo 8 (.call 85 [(.t 7)])) 31, ⟨vf 9 2 1, 0, [2, 5], none, []⟩, ⟨vs 10 9, 64, [2, 5], none, []⟩, vd (vo 11 (.call 86 [(.t 10)])) 255, ⟨vf 12 3 1, 0, [2, 5, 8], none, []⟩, ⟨vs 13 12, 512, [2, 5, 8], none, []⟩, vd (vo 14 (.call 87 [(.t 13)])) 2047, vd (vo 15 (.build [(.nl 3), (.nl 6), (.nl 3), (.nl 2)] [(0, 1, (.t 5)), (1, 1, (.t 8)), (2, 1, (.t 11)), (3, 1, (.t 14))])) 4095, vd (vu (.st 4 (.t 2) (.t 15))) 8191]) .ret)), [.cell 2 true 4]⟩
theorem low66 : lowF Tryd.prog 66 = some F66.strip := by kernel_rfl
theorem fok66 : fOk Tryd.prog 66 = true := by kernel_rfl
theorem x1c (p0 : Store) (r : Store) (h : x0n p0 = some r) : FnRO Tryd.prog G 66 [.agg p0.bx] (fun rs => rs = [.agg (r.encO)]) := by
 refine FnRO.of' low66 fok66 (by simp [F66]) ?_
 rw [x0n] at h
 replace h := Hd.mk h
 simp only [F66, go_sem]
 refine obk h (fun v1 hv1 h => ?_)
 try simp only [*, go_sem]
 refine cd (u4k G p0.Items v1 hv1) ?_
 refine obk h (fun v2 hv2 h => ?_)
 try simp only [*, go_sem]
 refine cd (v4k G p0.Locks v2 hv2) ?_
 refine obk h (fun v3 hv3 h => ?_)
 try simp only [*, go_sem]
 refine cd (w4k G p0.Doubts v3 hv3) ?_
 refine obk h (fun v4 hv4 h => ?_)
 try simp only [*, go_sem]
 refine cd (x4k G p0.Over v4 hv4) ?_
 cases h.e
 simp only [*, go_sem, mA, mS]
def x0u (p0 : Store) (p1 : Txn) : Option (Store) := (Option.bind (w0g p0 p1) fun v1 => (withK (fun (b2_1 : List Doubt) => (some (Store.mk p0.Items p0.Locks b2_1 p0.Over))) fun k3 => (if (!v1) = true then (if fits 24 (p0.Doubts.length + 1) then (k3 (p0.Doubts ++ [(Doubt.mk p1 0)])) else none) else (k3 p0.Doubts))))
def F67 : VFn := ⟨21, (.seq (.reg [vo 3 (.boxk 2 (.t 1))]) (.seq (.draw [vd (vm 4 0) 0, vd (vo 5 (.nilchk (.t 4))) 1, vd (vl 6 4 5) 3, vd (vl 7 2 3) 0, vd (vo 8 (.call 88 [(.t 6), (.t 7)])) 15, vd (nt 9 8) 31]) (.wk (.cond (.t 9) (.draw [vd (vm 10 0) 0, vd (vm 11 0) 0, vd (vo 12 (.nilchk (.t 11))) 2, vd (vf 13 2 12) 6, vd (vs 14 13) 14, vd (vl 15 2 3) 0, vd (vo 16 (.build [(zi 0), (zi 0), (zi 0)] [(0, 2, (.t 15))])) 32, vd (vo 17 (.bsl 3 1 [(zi 0), (zi 0), (zi 0)] [(0, (.t 16))])) 96, vd (vo 18 (.app 3 24 (.t 14) (.t 17))) 254, vd (vo 19 (.nilchk (.t 10))) 511, vd (vf 20 2 19) 1023, vd (vu (.st 1 (.t 20) (.t 18))) 2047]) .skip)))), []⟩
theorem low67 : lowF Tryd.prog 67 = some F67.strip := by kernel_rfl
theorem fok67 : fOk Tryd.prog 67 = true := by kernel_rfl
theorem y1r (p0 : Store) (p1 : Txn) (r : Store) (h : x0u p0 p1 = some r) : FnX Tryd.prog G 67 [ptrX, .agg p1.bx] [.o 3 (p0.Items.map Item.enc), .o 6 (p0.Locks.map Lock.enc), .o 3 (p0.Doubts.map Doubt.enc), .o 2 (p0.Over.map Txn.enc)] (fun c rs => c = [.o 3 (r.Items.map Item.enc), .o 6 (r.Locks.map Lock.enc), .o 3 (r.Doubts.map Doubt.enc), .o 2 (r.Over.map Txn.enc)] ∧ rs = []) := by
 refine FnX.of [] low67 fok67 (by exact Nat.le_of_ble_eq_true rfl) (by exact Nat.le_of_ble_eq_true rfl) ?_
 rw [x0u] at h
 replace h := Hd.mk h
 simp only [F67, go_sem]
 refine obk h (fun v1 hv1 h => ?_)
 try simp only [*, go_sem]
 refine cdl (x0x G p0 p1 v1 hv1) ?_
 try simp only [*, go_sem]
 refine jn1 h (fun b2_1 => [zP 1000000 0]) (fun b2_1 => [ox [.r 1 0 p0.Items.length, .r 2 0 p0.Locks.length, .r 3 0 b2_1.length, .r 4 0 p0.Over.length], oa 3 (p0.Items.map Item.enc), oa 6 (p0.Locks.map Lock.enc), oa 3 (b2_1.map Doubt.enc), oa 2 (p0.Over.map Txn.enc)]) (fun k3 h => ?_) (fun b2_1 h => ?_)
 refine oin h (fun hb4 hkhb4 h => ?_) (fun hb4 hkhb4 h => ?_)
 refine ck h (fun _ h => ?_)
 try simp only [*, go_sem]
 exact jc ((p0.Doubts ++ [(Doubt.mk p1 0)])) h.e [some 0, some 1, some 2, some 19, some 4]
 try simp only [*, go_sem]
 exact jc (p0.Doubts) h.e [some 0, some 1, some 2, some 3, some 4]
 cases h.e
 try simp only [*, go_sem]
 refine etn [] ?_
 simp only [*, go_sem, mA, mS]
def z0q (p0 : Store) (p1 : Txn) (p2 : Int) (p3 : Int) (p4 : Int) : Option (Store × Int) := (Option.bind (v0n p0 p1 p2) fun v1 => (if (v1 != 0) = true then (some ((Store.mk [] [] [] []), v1)) else (if (decide (p3 < 0)) = true then (some ((Store.mk [] [] [] []), 2)) else (if (decide (p3 > 1073741824)) = true then (some ((Store.mk [] [] [] []), 2)) else (if (decide (p4 < 0)) = true then (some ((Store.mk [] [] [] []), 2)) else (if (decide (p4 > 1048576)) = true then (some ((Store.mk [] [] [] []), 2)) else (Option.bind (y0u p0 p1 p2) fun v7 => (Option.bind (vn p0.Over p1) fun v8 => (withK (fun (b9_1 : Bool) => (if b9_1 = true then (some ((Store.mk [] [] [] []), 13)) else (Option.bind (w0u p0 p1 p2 true) fun v16 => (if v16 = true then (some ((Store.mk [] [] [] []), 11)) else (if (decide (v7 < 0)) = true then (withK (fun (b20_1 : Bool) => (if b20_1 = true then (some ((Store.mk [] [] [] []), 8)) else (Option.bind (x0n p0) fun v25 => (withK (Option.bind (x0u (Store.mk v25.Items (v25.Locks ++ [(Lock.mk p1 p2 true p3 p4)]) v25.Doubts v25.Over) p1) fun v29 => (some (v29, 0))) fun k27 => (if fits 48 (v25.Locks.length + 1) then k27 else none))))) fun k21 => (if (((p0.Locks.length : Nat) : Int) == 24) = true then (k21 true) else (Option.bind (w0n p0 p2) fun v23 => (k21 (v23.Version == 1048576))))) else (withK (fun (b30_1 : Bool) => (if b30_1 = true then (some ((Store.mk [] [] [] []), 8)) else (Option.bind (x0n p0) fun v34 => (withK (fun (b35_1 : List Lock) => (Option.bind (x0u (Store.mk v34.Items b35_1 v34.Doubts v34.Over) p1) fun v41 => (some (v41, 0)))) fun k36 => (if (decide (v7 < 0)) = true then (if fits 48 (v34.Locks.length + 1) then (k36 (v34.Locks ++ [(Lock.mk p1 p2 true p3 p4)])) else none) else (if 0 ≤ v7 then (Option.bind (v34.Locks[v7.toNat]?) fun x39 => (k36 (v34.Locks.set v7.toNat (Lock.mk p1 p2 true p3 p4)))) else none)))))) fun k31 => (Option.bind (w0n p0 p2) fun v32 => (k31 (v32.Version == 1048576))))))))) fun k10 => (if v8 = true then (k10 true) else (if (decide (v7 ≥ 0)) = true then (if 0 ≤ v7 then (Option.bind (p0.Locks[v7.toNat]?) fun x13 => (k10 (decide (x13.Ask > p4)))) else none) else (k10 false))))))))))))
def F48 : VFn := ⟨105, (.seq (.reg [vo 5 (.boxk 4 (.t 0)), vo 6 (.boxk 2 (.t 1)), vo 10 (.alloc [(.nl 3), (.nl 6), (.nl 3), (.nl 2)]), mi 11 0]) (.seq (.seq (.reg [vl 16 4 5, vl 17 2 6, vm 18 2, vo 19 (.call 61 [(.t 16), (.t 17), (.t 18)]), vm 12 19]) (.seq (.reg [vm 20 12, bk 21 .neq 20 0]) (.cond (.t 21) (.seq (.reg [vo 22 (.build [(.nl 3), (.nl 6), (.nl 3), (.nl 2)] []), vm 23 12, vu (.st 4 (.t 10) (.t 22)), vm 11 23]) .ret) .skip))) (.seq (.seq (.reg [vm 24 3, bk 25 .lss 24 0, vm 26 25, gf 27 26 (.mv (.t 3)), gf 28 26 (.bin .i .gtr (.t 27) (ci 1073741824)), vo 29 (.pick (.t 26) (cb true) (.t 28)), vm 30 29, gf 31 30 (.mv (.t 4)), gf 32 30 (.bin .i .lss (.t 31) (ci 0)), vo 33 (.pick (.t 30) (cb true) (.t 32)), vm 34 33, gf 35 34 (.mv (.t 4)), gf 36 34 (.bin .i .gtr (.t 35) (ci 1048576)), vo 37 (.pick (.t 34) (cb true) (.t 36))]) (.cond (.t 37) (.seq (.reg [vo 38 (.build [(.nl 3), (.nl 6), (.nl 3), (.nl 2)] []), vu (.st 4 (.t 10) (.t 38)), mi 11 2]) .ret) .skip)) (.seq (.reg [vl 39 4 5, vl 40 2 6, vm 41 2, vo 42 (.call 62 [(.t 39), (.t 40), (.t 41)]), vm 13 42]) (.seq (.block 0 (.seq (.seq (.reg [vf 44 3 5, vs 45 44, vl 46 2 6, vo 47 (.call 63 [(.t 45), (.t 46)]), vm 43 47]) (.wk (.cond (.t 43) .skip (.reg [vm 48 13, bk 49 .geq 48 0, vm 50 49, gt 51 50 (.fa 1 (.t 5)), gt 52 50 (.ld false 1 (.t 51)), gt 53 50 (.mv (.t 13)), gt 54 50 (.ia 6 (.t 52) (.t 53)), gt 55 50 (.fa 5 (.t 54)), gt 56 50 (.ld false 1 (.t 55)), gt 57 50 (.mv (.t 4)), gt 58 50 (.bin .i .gtr (.t 56) (.t 57)), vo 59 (.pick (.t 50) (.t 58) (cb false)), vm 43 59])))) (.cond (.t 43) (.seq (.reg [vo 60 (.build [(.nl 3), (.nl 6), (.nl 3), (.nl 2)] []), vu (.st 4 (.t 10) (.t 60)), mi 11 13]) .ret) (.seq (.reg [vl 62 4 5, vl 63 2 6, vm 64 2, vo 65 (.call 64 [(.t 62), (.t 63), (.t 64), (cb true)]), vm 61 65]) (.cond (.t 61) (.seq (.reg [vo 66 (.build [(.nl 3), (.nl 6), (.nl 3), (.nl 2)] []), vu (.st 4 (.t 10) (.t 66)), mi 11 11]) .ret) (.seq (.seq (.reg [vm 68 13, bk 69 .lss 68 0, vm 70 69, gt 71 70 (.fa 1 (.t 5)), gt 72 70 (.ld false 1 (.t 71)), gt 73 70 (.len (.t 72)), gt 74 70 (.bin .i .eql (.t 73) (ci 24)), vo 75 (.pick (.t 70) (.t 74) (cb false)), vm 67 75]) (.wk (.cond (.t 67) .skip (.reg [vl 76 4 5, vm 77 2, vo 78 (.call 65 [(.t 76), (.t 77)]), vo 79 (.fl false 2 1 (.t 78)), bk 80 .eql 79 1048576, vm 67 80])))) (.cond (.t 67) (.seq (.reg [vo 81 (.build [(.nl 3), (.nl 6), (.nl 3), (.nl 2)] []), vu (.st 4 (.t 10) (.t 81)), mi 11 8]) .ret) .skip))))))) (.seq (.reg [vl 82 4 5, vo 83 (.call 66 [(.t 82)]), vo 14 (.alloc [(.nl 3), (.nl 6), (.nl 3), (.nl 2)]), vu (.st 4 (.t 14) (.t 83))]) (.seq (.reg [vl 84 2 6, vm 85 2, vm 86 3, vm 87 4, vo 88 (.build [(zi 0), (zi 0), (zi 0), (.d (.b false)), (zi 0), (zi 0)] [(0, 2, (.t 84)), (2, 1, (.t 85)), (3, 1, (cb true)), (4, 1, (.t 86)), (5, 1, (.t 87))]), vo 15 (.alloc [(zi 0), (zi 0), (zi 0), (.d (.b false)), (zi 0), (zi 0)]), vu (.st 6 (.t 15) (.t 88))]) (.seq (.seq (.reg [vm 89 13, bk 90 .lss 89 0]) (.wk (.cond (.t 90) (.reg [vf 91 1 14, vs 92 91, vl 93 6 15, vo 94 (.bsl 6 1 [(zi 0), (zi 0), (zi 0), (.d (.b false)), (zi 0), (zi 0)] [(0, (.t 93))]), vo 95 (.app 6 48 (.t 92) (.t 94)), vf 96 1 14, vu (.st 1 (.t 96) (.t 95))]) (.reg [vf 97 1 14, vs 98 97, vm 99 13, vl 100 6 15, xa 101 6 98 99, vu (.st 6 (.t 101) (.t 100))])))) (.seq (.reg [vl 102 2 6, vo 103 (.call 67 [(.t 14), (.t 102)])]) (.seq (.reg [vl 104 4 14, vu (.st 4 (.t 10) (.t 104)), mi 11 0]) .ret)))))))))), [.cell 10 true 4, .t 11]⟩
theorem low48 : lowF Tryd.prog 48 = some F48.strip := by kernel_rfl
theorem fok48 : fOk Tryd.prog 48 = true := by kernel_rfl
theorem x2x (p0 : Store) (p1 : Txn) (p2 : Int) (p3 : Int) (p4 : Int) (r : Store × Int) (h : z0q p0 p1 p2 p3 p4 = some r) : FnRO Tryd.prog G 48 [.agg p0.bx, .agg p1.bx, .one (.d (.i .i64 p2)), .one (.d (.i .i64 p3)), .one (.d (.i .i64 p4))] (fun rs => rs = [.agg (r.1.encO), .one (.i .i64 r.2)]) := by
 refine FnRO.of' low48 fok48 (by simp [F48]) ?_
 rw [z0q] at h
 replace h := Hd.mk h
 simp only [F48, go_sem]
 try simp only [*, go_sem]
 refine cr h (x1r G p0 p1 p2) (fun v1 h => ?_)
 refine oi h (fun hb2 h => ?_) (fun hb2 h => ?_)
 cases h.e
 simp only [*, go_sem, mA, mS]
 refine oi h (fun hb3 h => ?_) (fun hb3 h => ?_)
 have := of_decide_eq_true hb3
 cases h.e
 simp only [*, go_sem, mA, mS]
 refine oi h (fun hb4 h => ?_) (fun hb4 h => ?_)
 cases h.e
 simp only [*, go_sem, mA, mS]
 refine oi h (fun hb5 h => ?_) (fun hb5 h => ?_)
 have := of_decide_eq_true hb5
 cases h.e
 simp only [*, go_sem, mA, mS]
 refine oi h (fun hb6 h => ?_) (fun hb6 h => ?_)
 cases h.e
 simp only [*, go_sem, mA, mS]
 try simp only [*, go_sem]
 refine cr h (u3f G p0 p1 p2) (fun v7 h => ?_)
 try simp only [*, go_sem]
 refine cr h (v0b G p0.Over p1) (fun v8 h => ?_)
 try simp only [*, go_sem]
 refine jn1 h (fun b9_1 => [zI 2 p2, zI 3 p3, zI 4 p4, zK 5 (Store.enc p0), zK 6 (Txn.enc p1), zP 10 0, zI 13 v7, zB 43 b9_1]) (fun b9_1 => [ox [.nl 3, .nl 6, .nl 3, .nl 2]]) (fun k10 h => ?_) (fun b9_1 h => ?_)
 refine oi h (fun hb11 h => ?_) (fun hb11 h => ?_)
 try simp only [*, go_sem]
 exact jc (true) h.e [some 0]
 refine oi h (fun hb12 h => ?_) (fun hb12 h => ?_)
 refine obn h (fun x13 _ _ _ _ h => ?_)
 try simp only [*, go_sem]
 exact jc (decide (x13.Ask > p4)) h.e [some 0]
 try simp only [*, go_sem]
 exact jc (false) h.e [some 0]
 refine oi h (fun hb15 h => ?_) (fun hb15 h => ?_)
 cases h.e
 simp only [*, go_sem, mA, mS]
 try simp only [*, go_sem]
 refine cr h (z3g G p0 p1 p2 true) (fun v16 h => ?_)
 refine oi h (fun hb17 h => ?_) (fun hb17 h => ?_)
 cases h.e
 simp only [*, go_sem, mA, mS]
 refine oi h (fun hb18 h => ?_) (fun hb18 h => ?_)
 have := of_decide_eq_true hb18
 try simp only [*, go_sem]
 intro hl19
 try simp only [*, go_sem]
 refine jn1 h (fun b20_1 => [zI 2 p2, zI 3 p3, zI 4 p4, zK 5 (Store.enc p0), zK 6 (Txn.enc p1), zP 10 0, zI 13 v7, zB 67 b20_1]) (fun b20_1 => [ox [.nl 3, .nl 6, .nl 3, .nl 2]]) (fun k21 h => ?_) (fun b20_1 h => ?_)
 refine oi h (fun hb22 h => ?_) (fun hb22 h => ?_)
 try simp only [*, go_sem]
 exact jc (true) h.e [some 0]
 try simp only [*, go_sem]
 refine cr h (z1r G p0 p2) (fun v23 h => ?_)
 try simp only [*, go_sem]
 exact jc (v23.Version == 1048576) h.e [some 0]
 refine oi h (fun hb24 h => ?_) (fun hb24 h => ?_)
 cases h.e
 simp only [*, go_sem, mA, mS]
 try simp only [*, go_sem]
 refine cr h (x1c G p0) (fun v25 h => ?_)
 try simp only [*, go_sem]
 refine jn0 h ([zK 6 (Txn.enc p1), zP 10 0, zP 14 1]) ([ox [.nl 3, .nl 6, .nl 3, .nl 2], ox [.r 2 0 v25.Items.length, .r 3 0 (v25.Locks.length + 1), .r 4 0 v25.Doubts.length, .r 5 0 v25.Over.length], oa 3 (v25.Items.map Item.enc), oa 6 ((v25.Locks ++ [(Lock.mk p1 p2 true p3 p4)]).map Lock.enc), oa 3 (v25.Doubts.map Doubt.enc), oa 2 (v25.Over.map Txn.enc)]) (fun k27 h => ?_) (fun h => ?_)
 refine ck h (fun _ h => ?_)
 try simp only [*, go_sem]
 exact jc () h.e [some 0, some 5, some 1, some 8, some 3, some 4]
 try simp only [*, go_sem]
 refine ct h 1 [] [] [2, 3, 4, 5] (y1r G (Store.mk v25.Items (v25.Locks ++ [(Lock.mk p1 p2 true p3 p4)]) v25.Doubts v25.Over) p1) (fun v29 h => ?_)
 cases h.e
 simp only [*, go_sem, mA, mS]
 try simp only [*, go_sem]
 refine jn1 h (fun b30_1 => [zI 2 p2, zI 3 p3, zI 4 p4, zK 5 (Store.enc p0), zK 6 (Txn.enc p1), zP 10 0, zI 13 v7, zB 67 b30_1]) (fun b30_1 => [ox [.nl 3, .nl 6, .nl 3, .nl 2]]) (fun k31 h => ?_) (fun b30_1 h => ?_)
 try simp only [*, go_sem]
 refine cr h (z1r G p0 p2) (fun v32 h => ?_)
 try simp only [*, go_sem]
 exact jc (v32.Version == 1048576) h.e [some 0]
 refine oi h (fun hb33 h => ?_) (fun hb33 h => ?_)
 cases h.e
 simp only [*, go_sem, mA, mS]
 try simp only [*, go_sem]
 refine cr h (x1c G p0) (fun v34 h => ?_)
 try simp only [*, go_sem]
 refine jn1 h (fun b35_1 => [zK 6 (Txn.enc p1), zP 10 0, zP 14 1]) (fun b35_1 => [ox [.nl 3, .nl 6, .nl 3, .nl 2], ox [.r 2 0 v34.Items.length, .r 3 0 b35_1.length, .r 4 0 v34.Doubts.length, .r 5 0 v34.Over.length], oa 3 (v34.Items.map Item.enc), oa 6 (b35_1.map Lock.enc), oa 3 (v34.Doubts.map Doubt.enc), oa 2 (v34.Over.map Txn.enc)]) (fun k36 h => ?_) (fun b35_1 h => ?_)
 refine oi h (fun hb37 h => ?_) (fun hb37 h => ?_)
 have := of_decide_eq_true hb37
 cases hb18.symm.trans hb37
 refine obn h (fun x39 _ _ _ _ h => ?_)
 try simp only [*, go_sem]
 exact jc ((v34.Locks.set v7.toNat (Lock.mk p1 p2 true p3 p4))) h.e [some 0, some 5, some 1, some 2, some 3, some 4]
 try simp only [*, go_sem]
 refine ct h 1 [] [] [2, 3, 4, 5] (y1r G (Store.mk v34.Items b35_1 v34.Doubts v34.Over) p1) (fun v41 h => ?_)
 cases h.e
 simp only [*, go_sem, mA, mS]
theorem ovl89 : OvlOk Tryd.prog 104 := ⟨((Tryd.prog.funcs[104]?).get (by kernel_rfl)), 36, 4, 88, (Option.some_get _).symm, by kernel_rfl, by kernel_rfl, by kernel_rfl, by kernel_rfl, by kernel_rfl, by kernel_rfl, by kernel_rfl⟩
theorem ins89 : InsOk Tryd.prog 89 3 24 := ⟨[(zi 0), (zi 0), (zi 0)], _, 104, 105, by kernel_rfl, by kernel_rfl, ovl89, fun _ => rfl, rfl, by decide⟩
def u0d (p0 : Lock) (p1 : Txn) : Option (Bool) := (some ((p0.Txn.Site == p1.Site) && (p0.Txn.N == p1.N)))
def F91 : VFn := ⟨8, (.seq (.reg [vo 2 (.boxk 6 (.t 0)), vo 3 (.mv (cb false))]) (.seq (.reg [vf 4 0 2, vl 5 2 4, vl 6 2 1, vo 7 (.eqs false [.i, .i] (.t 5) (.t 6)), vm 3 7]) .ret)), [.t 3]⟩
theorem low91 : lowF Tryd.prog 91 = some F91.strip := by kernel_rfl
theorem fok91 : fOk Tryd.prog 91 = true := by kernel_rfl
theorem y1h (p0 : Lock) (p1 : Txn) (r : Bool) (h : u0d p0 p1 = some r) : FnRO Tryd.prog G 91 [.agg p0.bx, .one (.d (.k (Txn.enc p1)))] (fun rs => rs = [.one (.b r)]) := by
 refine FnRO.of' low91 fok91 (by simp [F91]) ?_
 rw [u0d] at h
 replace h := Hd.mk h
 simp only [F91, go_sem]
 cases h.e
 simp only [*, go_sem, mA, mS]
def F90 : VFn := ⟨42, (.seq (.reg [vo 4 (.mv (.c (.one (.nl 6))))]) (.seq (.reg [vm 8 0, vm 9 1, vo 10 (.call 78 [(.t 8), (.t 9)]), vm 5 10]) (.seq (.seq (.reg [vm 11 5, bk 12 .eql 11 (-1)]) (.cond (.t 12) (.seq (.reg [vm 13 0, vm 4 13]) .ret) .skip)) (.seq (.seq (.reg [vm 14 5, bk 15 .add 14 1, vm 6 15]) (.wk (.block 0 (.loop (.seq (.seq (.reg [vm 16 6, vm 17 0, ln 18 17, bt 19 .lss 16 18]) (.cond (.t 19) .skip (.exit 0))) (.seq (.block 1 (.seq (.reg [vm 22 0, vm 23 6, xa 24 6 22 23, vl 25 6 24, vo 7 (.alloc [(zi 0), (zi 0), (zi 0), (.d (.b false)), (zi 0), (zi 0)]), vu (.st 6 (.t 7) (.t 25))]) (.seq (.reg [vm 26 1, vl 27 6 7, vo 28 (.callv (.t 26) [(.t 27)]), nt 29 28]) (.wk (.cond (.t 29) (.seq (.reg [vm 30 0, vm 31 5, vl 32 6 7, xa 33 6 30 31, vu (.st 6 (.t 33) (.t 32))]) (.reg [vm 34 5, bk 35 .add 34 1, vm 5 35])) .skip))))) (.reg [vm 20 6, bk 21 .add 20 1, vm 6 21]))))))) (.seq (.reg [vm 36 0, vm 37 5, vo 38 (.sl 6 (.t 36) (some (.t 37)) none), vu (.clr 6 [(zi 0), (zi 0), (zi 0), (.d (.b false)), (zi 0), (zi 0)] (.t 38))]) (.seq (.reg [vm 39 0, vm 40 5, vo 41 (.sl 6 (.t 39) none (some (.t 40))), vm 4 41]) .ret)))))), [.t 4]⟩
theorem low90 : lowF Tryd.prog 90 = some F90.strip := by kernel_rfl
theorem fok90 : fOk Tryd.prog 90 = true := by kernel_rfl
def v0d (p0 : Doubt) (p1 : Txn) : Option (Bool) := (some ((p0.Txn.Site == p1.Site) && (p0.Txn.N == p1.N)))
def F93 : VFn := ⟨8, (.seq (.reg [vo 2 (.boxk 3 (.t 0)), vo 3 (.mv (cb false))]) (.seq (.reg [vf 4 0 2, vl 5 2 4, vl 6 2 1, vo 7 (.eqs false [.i, .i] (.t 5) (.t 6)), vm 3 7]) .ret)), [.t 3]⟩
theorem low93 : lowF Tryd.prog 93 = some F93.strip := by kernel_rfl
theorem fok93 : fOk Tryd.prog 93 = true := by kernel_rfl
theorem z1h (p0 : Doubt) (p1 : Txn) (r : Bool) (h : v0d p0 p1 = some r) : FnRO Tryd.prog G 93 [.agg p0.bx, .one (.d (.k (Txn.enc p1)))] (fun rs => rs = [.one (.b r)]) := by
 refine FnRO.of' low93 fok93 (by simp [F93]) ?_
 rw [v0d] at h
 replace h := Hd.mk h
 simp only [F93, go_sem]
 cases h.e
 simp only [*, go_sem, mA, mS]
def F92 : VFn := ⟨42, (.seq (.reg [vo 4 (.mv (.c (.one (.nl 3))))]) (.seq (.reg [vm 8 0, vm 9 1, vo 10 (.call 106 [(.t 8), (.t 9)]), vm 5 10]) (.seq (.seq (.reg [vm 11 5, bk 12 .eql 11 (-1)]) (.cond (.t 12) (.seq (.reg [vm 13 0, vm 4 13]) .ret) .skip)) (.seq (.seq (.reg [vm 14 5, bk 15 .add 14 1, vm 6 15]) (.wk (.block 0 (.loop (.seq (.seq (.reg [vm 16 6, vm 17 0, ln 18 17, bt 19 .lss 16 18]) (.cond (.t 19) .skip (.exit 0))) (.seq (.block 1 (.seq (.reg [vm 22 0, vm 23 6, xa 24 3 22 23, vl 25 3 24, vo 7 (.alloc [(zi 0), (zi 0), (zi 0)]), vu (.st 3 (.t 7) (.t 25))]) (.seq (.reg [vm 26 1, vl 27 3 7, vo 28 (.callv (.t 26) [(.t 27)]), nt 29 28]) (.wk (.cond (.t 29) (.seq (.reg [vm 30 0, vm 31 5, vl 32 3 7, xa 33 3 30 31, vu (.st 3 (.t 33) (.t 32))]) (.reg [vm 34 5, bk 35 .add 34 1, vm 5 35])) .skip))))) (.reg [vm 20 6, bk 21 .add 20 1, vm 6 21]))))))) (.seq (.reg [vm 36 0, vm 37 5, vo 38 (.sl 3 (.t 36) (some (.t 37)) none), vu (.clr 3 [(zi 0), (zi 0), (zi 0)] (.t 38))]) (.seq (.reg [vm 39 0, vm 40 5, vo 41 (.sl 3 (.t 39) none (some (.t 40))), vm 4 41]) .ret)))))), [.t 4]⟩
theorem low92 : lowF Tryd.prog 92 = some F92.strip := by kernel_rfl
theorem fok92 : fOk Tryd.prog 92 = true := by kernel_rfl
def yx (p0 : Store) (p1 : Txn) (k6 : (List Item) → Option (Store × Int)) : Nat → Bool → Nat → (List Item) → Option (Store × Int)
 | 0, _, _, _ => none
 | n8 + 1, a7_1, a7_2, a7_3 => (if (decide (a7_2 < p0.Locks.length)) = true then (Option.bind (p0.Locks[a7_2]?) fun x10 => (if (!((x10.Txn.Site == p1.Site) && (x10.Txn.N == p1.N))) = true then (yx p0 p1 k6 n8 a7_1 (a7_2 + 1) a7_3) else (if (!x10.Write) = true then (yx p0 p1 k6 n8 a7_1 (a7_2 + 1) a7_3) else (if (!a7_1) = true then (yx p0 p1 k6 n8 false (a7_2 + 1) a7_3) else (Option.bind (u0p a7_3 x10.Key) fun v17 => (withK (fun (b18_1 : List Item) => (if 0 ≤ v17.1 then (Option.bind (b18_1[v17.1.toNat]?) fun x22 => (yx p0 p1 k6 n8 true (a7_2 + 1) (b18_1.set v17.1.toNat (Item.mk x22.Key x10.Value (IntKind.i64.wrap (x22.Version + 1)))))) else none)) fun k19 => (if (!v17.2) = true then (Option.bind (x1e 24 a7_3 v17.1 (Item.mk x10.Key 0 0)) fun v21 => (k19 v21)) else (k19 a7_3)))))))) else (k6 a7_3))
def zx (p1 : Txn) (k31 : Int → (List Lock) → Option (Store × Int)) : Nat → Int → Int → (List Lock) → Option (Store × Int)
 | 0, _, _, _ => none
 | n33 + 1, a32_1, a32_2, a32_3 => (if (decide (a32_2 < ((a32_3.length : Nat) : Int))) = true then (if 0 ≤ a32_2 then (Option.bind (a32_3[a32_2.toNat]?) fun x36 => (Option.bind (u0d x36 p1) fun v38 => (withK (fun (b39_1 : Int) (b39_2 : List Lock) => (zx p1 k31 n33 b39_1 (IntKind.i64.wrap (a32_2 + 1)) b39_2)) fun k40 => (if (!v38) = true then (if 0 ≤ a32_1 then (Option.bind (a32_3[a32_1.toNat]?) fun x42 => (k40 (IntKind.i64.wrap (a32_1 + 1)) (a32_3.set a32_1.toNat x36))) else none) else (k40 a32_1 a32_3))))) else none) else (k31 a32_1 a32_3))
def uw (p1 : Txn) (k55 : Int → (List Doubt) → Option (Store × Int)) : Nat → Int → Int → (List Doubt) → Option (Store × Int)
 | 0, _, _, _ => none
 | n57 + 1, a56_1, a56_2, a56_3 => (if (decide (a56_2 < ((a56_3.length : Nat) : Int))) = true then (if 0 ≤ a56_2 then (Option.bind (a56_3[a56_2.toNat]?) fun x60 => (Option.bind (v0d x60 p1) fun v62 => (withK (fun (b63_1 : Int) (b63_2 : List Doubt) => (uw p1 k55 n57 b63_1 (IntKind.i64.wrap (a56_2 + 1)) b63_2)) fun k64 => (if (!v62) = true then (if 0 ≤ a56_1 then (Option.bind (a56_3[a56_1.toNat]?) fun x66 => (k64 (IntKind.i64.wrap (a56_1 + 1)) (a56_3.set a56_1.toNat x60))) else none) else (k64 a56_1 a56_3))))) else none) else (k55 a56_1 a56_3))
def w0x (p0 : Store) (p1 : Txn) (p2 : Bool) : Option (Store × Int) := (Option.bind (v0n p0 p1 0) fun v1 => (if (v1 != 0) = true then (some ((Store.mk [] [] [] []), v1)) else (Option.bind (x0n p0) fun v3 => (withK (fun (b5_1 : List Item) => (withK (fun (b25_1 : List Lock) => (withK (fun (b49_1 : List Doubt) => (Option.bind (vn v3.Over p1) fun v73 => (withK (fun (b74_1 : List Txn) => (some ((Store.mk b5_1 b25_1 b49_1 b74_1), 0))) fun k75 => (if (!v73) = true then (if fits 16 (v3.Over.length + 1) then (k75 (v3.Over ++ [p1])) else none) else (k75 v3.Over))))) fun k50 => (Option.bind (uk v3.Doubts (fun y51 => v0d y51 p1)) fun v52 => (if (v52 == (-1)) = true then (k50 v3.Doubts) else (withK (fun (b54_1 : Int) (b54_2 : List Doubt) => (if 0 ≤ b54_1 then (if b54_1 ≤ ((b54_2.length : Nat) : Int) then (k50 (b54_2.take b54_1.toNat)) else none) else none)) fun k55 => (uw p1 k55 (v3.Doubts.length + 1) v52 (IntKind.i64.wrap (v52 + 1)) v3.Doubts)))))) fun k26 => (Option.bind (wh v3.Locks (fun y27 => u0d y27 p1)) fun v28 => (if (v28 == (-1)) = true then (k26 v3.Locks) else (withK (fun (b30_1 : Int) (b30_2 : List Lock) => (if 0 ≤ b30_1 then (if b30_1 ≤ ((b30_2.length : Nat) : Int) then (k26 (b30_2.take b30_1.toNat)) else none) else none)) fun k31 => (zx p1 k31 (v3.Locks.length + 1) v28 (IntKind.i64.wrap (v28 + 1)) v3.Locks)))))) fun k6 => (yx p0 p1 k6 (p0.Locks.length + 1) p2 0 v3.Items)))))
def F68 : VFn := ⟨101, (.seq (.reg [vo 3 (.boxk 4 (.t 0)), vo 4 (.box 2 (.t 1)), vo 6 (.alloc [(.nl 3), (.nl 6), (.nl 3), (.nl 2)]), mi 7 0]) (.seq (.seq (.reg [vl 14 4 3, vl 15 2 4, vo 16 (.call 61 [(.t 14), (.t 15), (ci 0)]), vm 8 16]) (.seq (.reg [vm 17 8, bk 18 .neq 17 0]) (.cond (.t 18) (.seq (.reg [vo 19 (.build [(.nl 3), (.nl 6), (.nl 3), (.nl 2)] []), vm 20 8, vu (.st 4 (.t 6) (.t 19)), vm 7 20]) .ret) .skip))) (.seq (.reg [vl 21 4 3, vo 22 (.call 66 [(.t 21)]), vo 9 (.alloc [(.nl 3), (.nl 6), (.nl 3), (.nl 2)]), vu (.st 4 (.t 9) (.t 22))]) (.seq (.seq (.reg [vf 23 1 3, vs 24 23, ln 25 24, mi 26 0]) (.wk (.block 0 (.loop (.seq (.reg [bt 27 .lss 26 25]) (.seq (.cond (.t 27) .skip (.exit 0)) (.seq (.block 1 (.seq (.reg [xa 28 6 24 26, vl 29 6 28, vo 11 (.alloc [(zi 0), (zi 0), (zi 0), (.d (.b false)), (zi 0), (zi 0)]), vu (.st 6 (.t 11) (.t 29))]) (.seq (.seq (.reg [vf 30 0 11, vl 31 2 30, vl 32 2 4, vo 33 (.eqs true [.i, .i] (.t 31) (.t 32)), vm 34 33, gf 35 34 (.fa 3 (.t 11)), gf 36 34 (.ld false 1 (.t 35)), gf 37 34 (.un .not (.t 36)), vo 38 (.pick (.t 34) (cb true) (.t 37)), vm 39 38, gf 40 39 (.mv (.t 2)), gf 41 39 (.un .not (.t 40)), vo 42 (.pick (.t 39) (cb true) (.t 41))]) (.cond (.t 42) (.exit 1) .skip)) (.seq (.reg [vf 44 0 9, vs 45 44, vf 46 2 11, vs 47 46, vo 48 (.call 83 [(.t 45), (.t 47)]), vm 43 48, et 49 43 0, et 50 43 1, vm 12 49, vm 13 50]) (.seq (.seq (.reg [vm 51 13, nt 52 51]) (.wk (.cond (.t 52) (.reg [vf 53 0 9, vs 54 53, vm 55 12, vf 56 2 11, vs 57 56, vo 58 (.build [(zi 0), (zi 0), (zi 0)] [(0, 1, (.t 57))]), vo 59 (.bsl 3 1 [(zi 0), (zi 0), (zi 0)] [(0, (.t 58))]), vo 60 (.call 89 [(.t 54), (.t 55), (.t 59)]), vf 61 0 9, vu (.st 1 (.t 61) (.t 60))]) .skip))) (.seq (.reg [vf 62 0 9, vs 63 62, vm 64 12, vf 65 4 11, vs 66 65, xa 67 3 63 64, vf 68 1 67, vu (.st 1 (.t 68) (.t 66))]) (.reg [vf 69 0 9, vs 70 69, vm 71 12, xa 72 3 70 71, vf 73 2 72, vs 74 73, bk 75 .add 74 1, xa 76 3 70 71, vf 77 2 76, vu (.st 1 (.t 77) (.t 75))]))))))) (.reg [bk 78 .add 26 1, vm 26 78])))))))) (.seq (.wk (.reg [vf 79 1 9, vs 80 79, vo 81 (.mkf 91 [(.t 4)]), vo 82 (.call 90 [(.t 80), (.t 81)]), vf 83 1 9, vu (.st 1 (.t 83) (.t 82))])) (.seq (.wk (.reg [vf 84 2 9, vs 85 84, vo 86 (.mkf 93 [(.t 4)]), vo 87 (.call 92 [(.t 85), (.t 86)]), vf 88 2 9, vu (.st 1 (.t 88) (.t 87))])) (.seq (.seq (.reg [vf 89 3 9, vs 90 89, vl 91 2 4, vo 92 (.call 63 [(.t 90), (.t 91)]), nt 93 92]) (.wk (.cond (.t 93) (.reg [vf 94 3 9, vs 95 94, vl 96 2 4, vo 97 (.bsl 2 1 [(zi 0), (zi 0)] [(0, (.t 96))]), vo 98 (.app 2 16 (.t 95) (.t 97)), vf 99 3 9, vu (.st 1 (.t 99) (.t 98))]) .skip))) (.seq (.reg [vl 100 4 9, vu (.st 4 (.t 6) (.t 100)), mi 7 0]) .ret)))))))), [.cell 6 true 4, .t 7]⟩
theorem low68 : lowF Tryd.prog 68 = some F68.strip := by kernel_rfl
theorem fok68 : fOk Tryd.prog 68 = true := by kernel_rfl
theorem y3m (p0 : Store) (p1 : Txn) (p2 : Bool) (r : Store × Int) (h : w0x p0 p1 p2 = some r) : FnRO Tryd.prog G 68 [.agg p0.bx, .agg p1.bx, .one (.d (.b p2))] (fun rs => rs = [.agg (r.1.encO), .one (.i .i64 r.2)]) := by
 refine FnRO.of' low68 fok68 (by simp [F68]) ?_
 rw [w0x] at h
 replace h := Hd.mk h
 simp only [F68, go_sem]
 try simp only [*, go_sem]
 refine cr h (x1r G p0 p1 0) (fun v1 h => ?_)
 refine oi h (fun hb2 h => ?_) (fun hb2 h => ?_)
 cases h.e
 simp only [*, go_sem, mA, mS]
 try simp only [*, go_sem]
 refine cr h (x1c G p0) (fun v3 h => ?_)
 try simp only [*, go_sem]
 intro hl4
 try simp only [*, go_sem]
 refine jn1 h (fun b5_1 => [zP 4 0, zP 6 1, zP 9 2]) (fun b5_1 => [ox p1.bx, ox [.nl 3, .nl 6, .nl 3, .nl 2], ox [.r 3 0 b5_1.length, .r 4 0 v3.Locks.length, .r 5 0 v3.Doubts.length, .r 6 0 v3.Over.length], oa 3 (b5_1.map Item.enc), oa 6 (v3.Locks.map Lock.enc), oa 3 (v3.Doubts.map Doubt.enc), oa 2 (v3.Over.map Txn.enc)]) (fun k6 h => ?_) (fun b5_1 h => ?_)
 try simp only [*, go_sem]
 refine lp3 (yx p0 p1 k6) (fun a7_1 a7_2 a7_3 => [zB 2 a7_1, zP 4 0, zP 6 1, zP 9 2, zL 24 6 (p0.Locks.map Lock.enc), zI 25 ((p0.Locks.length : Nat) : Int), zI 26 ((a7_2 : Nat) : Int)]) (fun a7_1 a7_2 a7_3 => [ox p1.bx, ox [.nl 3, .nl 6, .nl 3, .nl 2], ox [.r 3 0 a7_3.length, .r 4 0 v3.Locks.length, .r 5 0 v3.Doubts.length, .r 6 0 v3.Over.length], oa 3 (a7_3.map Item.enc), oa 6 (v3.Locks.map Lock.enc), oa 3 (v3.Doubts.map Doubt.enc), oa 2 (v3.Over.map Txn.enc)]) h [] [some 0, some 1, some 6, some 2, some 3, some 4, some 5] (fun n8 a7_1 a7_2 a7_3 h => ?_) (by intros; rw [yx])
 rw [yx] at h
 refine oi h (fun hb9 h => ?_) (fun hb9 h => ?_)
 have := of_decide_eq_true hb9
 refine obg h (fun x10 _ hkx10 h => ?_)
 refine oin h (fun hb11 hkhb11 h => ?_) (fun hb11 hkhb11 h => ?_)
 try simp only [*, go_sem]
 have := za hkx10 hl4
 try simp only [*, go_sem]
 exact lc (a7_1, a7_2 + 1, a7_3) h.e [some 0, some 1, some 2, some 3, some 4, some 5, some 6]
 try simp only [*, go_sem]
 refine oin h (fun hb13 hkhb13 h => ?_) (fun hb13 hkhb13 h => ?_)
 have := za hkx10 hl4
 try simp only [*, go_sem]
 exact lc (a7_1, a7_2 + 1, a7_3) h.e [some 0, some 1, some 2, some 3, some 4, some 5, some 6]
 refine oin h (fun hb15 hkhb15 h => ?_) (fun hb15 hkhb15 h => ?_)
 have := za hkx10 hl4
 try simp only [*, go_sem]
 exact lc (false, a7_2 + 1, a7_3) h.e [some 0, some 1, some 2, some 3, some 4, some 5, some 6]
 try simp only [*, go_sem]
 refine cl h (w2k G a7_3 x10.Key) (fun v17 h => ?_)
 try simp only [*, go_sem]
 refine jn1 h (fun b18_1 => [zB 2 true, zP 4 0, zP 6 1, zP 9 2, zP 11 3, zI 12 v17.1, zL 24 6 (p0.Locks.map Lock.enc), zI 25 ((p0.Locks.length : Nat) : Int), zI 26 ((a7_2 : Nat) : Int), (35, .one (.p (.q 3 0 3))), zB 36 true, zB 37 false, zB 40 true, zB 41 false]) (fun b18_1 => [ox p1.bx, ox [.nl 3, .nl 6, .nl 3, .nl 2], ox [.r 4 0 b18_1.length, .r 5 0 v3.Locks.length, .r 6 0 v3.Doubts.length, .r 7 0 v3.Over.length], ox [zi x10.Txn.Site, zi x10.Txn.N, zi x10.Key, .d (.b true), zi x10.Value, zi x10.Ask], oa 3 (b18_1.map Item.enc), oa 6 (v3.Locks.map Lock.enc), oa 3 (v3.Doubts.map Doubt.enc), oa 2 (v3.Over.map Txn.enc)]) (fun k19 h => ?_) (fun b18_1 h => ?_)
 refine oin h (fun hb20 hkhb20 h => ?_) (fun hb20 hkhb20 h => ?_)
 refine obk h (fun v21 hv21 h => ?_)
 try simp only [*, go_sem]
 refine z2c ins89 (enc := Item.enc) (x := (Item.mk x10.Key 0 0)) hv21 (by decide) (by first | rfl | (simp only [*, go_sem]; done)) (by first | rfl | (simp only [*, go_sem]; done)) ?_
 try simp only [*, go_sem]
 exact jc (v21) h.e [some 0, some 1, some 2, some 7, some 9, some 4, some 5, some 6]
 try simp only [*, go_sem]
 exact jc (a7_3) h.e [some 0, some 1, some 2, some 7, some 3, some 4, some 5, some 6]
 refine obn h (fun x22 _ _ _ _ h => ?_)
 have := za hkx10 hl4
 try simp only [*, go_sem]
 exact lc (true, a7_2 + 1, (b18_1.set v17.1.toNat (Item.mk x22.Key x10.Value (IntKind.i64.wrap (x22.Version + 1))))) h.e [some 0, some 1, some 2, some 4, some 5, some 6, some 7]
 try simp only [*, go_sem]
 exact jc (a7_3) h.e [some 0, some 1, some 2, some 3, some 4, some 5, some 6]
 try simp only [*, go_sem]
 refine jn1 h (fun b25_1 => [zP 4 0, zP 6 1, zP 9 2]) (fun b25_1 => [ox p1.bx, ox [.nl 3, .nl 6, .nl 3, .nl 2], ox [.r 3 0 b5_1.length, .r 4 0 b25_1.length, .r 5 0 v3.Doubts.length, .r 6 0 v3.Over.length], oa 3 (b5_1.map Item.enc), oa 6 (b25_1.map Lock.enc), oa 3 (v3.Doubts.map Doubt.enc), oa 2 (v3.Over.map Txn.enc)]) (fun k26 h => ?_) (fun b25_1 h => ?_)
 try simp only [*, go_sem]
 refine cx low90 fok90 ?_
 simp only [*, F90, go_sem]
 try simp only [*, go_sem]
 refine cl h (w0e G v3.Locks (fun y27 => u0d y27 p1) 91 [.k [.i .i64 p1.Site, .i .i64 p1.N]] (fun y27 r h => y1h G y27 p1 r h)) (fun v28 h => ?_)
 refine oi h (fun hb29 h => ?_) (fun hb29 h => ?_)
 try simp only [*, go_sem]
 exact jc (v3.Locks) h.e [some 0, some 1, some 2, some 3, some 4, some 5, some 6]
 try simp only [*, go_sem]
 refine jn2 h (fun b30_1 b30_2 => [zR 0 0 0 b30_2.length, zI 5 b30_1, zP 1000004 1, zP 1000006 2, zP 1000009 3]) (fun b30_1 b30_2 => [oa 6 (b30_2.map Lock.enc), ox p1.bx, ox [.nl 3, .nl 6, .nl 3, .nl 2], ox [.r 4 0 b5_1.length, .r 0 0 b30_2.length, .r 5 0 v3.Doubts.length, .r 6 0 v3.Over.length], oa 3 (b5_1.map Item.enc), oa 3 (v3.Doubts.map Doubt.enc), oa 2 (v3.Over.map Txn.enc)]) (fun k31 h => ?_) (fun b30_1 b30_2 h => ?_)
 try simp only [*, go_sem]
 refine lp3 (zx p1 k31) (fun a32_1 a32_2 a32_3 => [zR 0 0 0 a32_3.length, (1, .one (.c 91 [.q 1 0 0])), zI 5 a32_1, zI 6 a32_2, zP 1000004 1, zP 1000006 2, zP 1000009 3]) (fun a32_1 a32_2 a32_3 => [oa 6 (a32_3.map Lock.enc), ox p1.bx, ox [.nl 3, .nl 6, .nl 3, .nl 2], ox [.r 4 0 b5_1.length, .r 0 0 a32_3.length, .r 5 0 v3.Doubts.length, .r 6 0 v3.Over.length], oa 3 (b5_1.map Item.enc), oa 3 (v3.Doubts.map Doubt.enc), oa 2 (v3.Over.map Txn.enc)]) h [] [some 4, some 0, some 1, some 2, some 3, some 5, some 6] (fun n33 a32_1 a32_2 a32_3 h => ?_) (by intros; rw [zx])
 rw [zx] at h
 try simp only [*, go_sem]
 intro hl34
 refine oi h (fun hb35 h => ?_) (fun hb35 h => ?_)
 refine obn h (fun x36 _ _ _ _ h => ?_)
 try simp only [*, go_sem]
 refine cl h (y1h G x36 p1) (fun v38 h => ?_)
 try simp only [*, go_sem]
 refine jn2 h (fun b39_1 b39_2 => [zR 0 0 0 b39_2.length, (1, .one (.c 91 [.q 1 0 0])), zI 5 b39_1, zI 6 a32_2, zP 1000004 1, zP 1000006 2, zP 1000009 3]) (fun b39_1 b39_2 => [oa 6 (b39_2.map Lock.enc), ox p1.bx, ox [.nl 3, .nl 6, .nl 3, .nl 2], ox [.r 4 0 b5_1.length, .r 0 0 b39_2.length, .r 5 0 v3.Doubts.length, .r 6 0 v3.Over.length], oa 3 (b5_1.map Item.enc), oa 3 (v3.Doubts.map Doubt.enc), oa 2 (v3.Over.map Txn.enc)]) (fun k40 h => ?_) (fun b39_1 b39_2 h => ?_)
 refine oin h (fun hb41 hkhb41 h => ?_) (fun hb41 hkhb41 h => ?_)
 refine obn h (fun x42 _ _ _ _ h => ?_)
 try simp only [*, go_sem]
 exact jc (IntKind.i64.wrap (a32_1 + 1), (a32_3.set a32_1.toNat x36)) h.e [some 0, some 1, some 2, some 3, some 4, some 5, some 6]
 try simp only [*, go_sem]
 exact jc (a32_1, a32_3) h.e [some 0, some 1, some 2, some 3, some 4, some 5, some 6]
 try simp only [*, go_sem]
 exact lc (b39_1, IntKind.i64.wrap (a32_2 + 1), b39_2) h.e [some 0, some 1, some 2, some 3, some 4, some 5, some 6]
 try simp only [*, go_sem]
 exact jc (a32_1, a32_3) h.e [some 0, some 1, some 2, some 3, some 4, some 5, some 6]
 refine ck h (fun _ h => ?_)
 refine ck h (fun _ h => ?_)
 have : b30_1.toNat + ((((b30_2.length : Nat) : Int) - b30_1).toNat) ≤ b30_2.length := by omega
 have : min b30_1.toNat b30_2.length = b30_1.toNat := by omega
 have : b30_1.toNat ≤ b30_2.length := by omega
 try simp only [*, go_sem]
 exact jc ((b30_2.take b30_1.toNat)) h.e [some 1, some 2, some 3, some 4, some 0, some 5, some 6]
 try simp only [*, go_sem]
 refine jn1 h (fun b49_1 => [zP 4 0, zP 6 1, zP 9 2]) (fun b49_1 => [ox p1.bx, ox [.nl 3, .nl 6, .nl 3, .nl 2], ox [.r 3 0 b5_1.length, .r 4 0 b25_1.length, .r 5 0 b49_1.length, .r 6 0 v3.Over.length], oa 3 (b5_1.map Item.enc), oa 6 (b25_1.map Lock.enc), oa 3 (b49_1.map Doubt.enc), oa 2 (v3.Over.map Txn.enc)]) (fun k50 h => ?_) (fun b49_1 h => ?_)
 try simp only [*, go_sem]
 refine cx low92 fok92 ?_
 simp only [*, F92, go_sem]
 try simp only [*, go_sem]
 refine cl h (y0j G v3.Doubts (fun y51 => v0d y51 p1) 93 [.k [.i .i64 p1.Site, .i .i64 p1.N]] (fun y51 r h => z1h G y51 p1 r h)) (fun v52 h => ?_)
 refine oi h (fun hb53 h => ?_) (fun hb53 h => ?_)
 try simp only [*, go_sem]
 exact jc (v3.Doubts) h.e [some 0, some 1, some 2, some 3, some 4, some 5, some 6]
 try simp only [*, go_sem]
 refine jn2 h (fun b54_1 b54_2 => [zR 0 0 0 b54_2.length, zI 5 b54_1, zP 1000004 1, zP 1000006 2, zP 1000009 3]) (fun b54_1 b54_2 => [oa 3 (b54_2.map Doubt.enc), ox p1.bx, ox [.nl 3, .nl 6, .nl 3, .nl 2], ox [.r 4 0 b5_1.length, .r 5 0 b25_1.length, .r 0 0 b54_2.length, .r 6 0 v3.Over.length], oa 3 (b5_1.map Item.enc), oa 6 (b25_1.map Lock.enc), oa 2 (v3.Over.map Txn.enc)]) (fun k55 h => ?_) (fun b54_1 b54_2 h => ?_)
 try simp only [*, go_sem]
 refine lp3 (uw p1 k55) (fun a56_1 a56_2 a56_3 => [zR 0 0 0 a56_3.length, (1, .one (.c 93 [.q 1 0 0])), zI 5 a56_1, zI 6 a56_2, zP 1000004 1, zP 1000006 2, zP 1000009 3]) (fun a56_1 a56_2 a56_3 => [oa 3 (a56_3.map Doubt.enc), ox p1.bx, ox [.nl 3, .nl 6, .nl 3, .nl 2], ox [.r 4 0 b5_1.length, .r 5 0 b25_1.length, .r 0 0 a56_3.length, .r 6 0 v3.Over.length], oa 3 (b5_1.map Item.enc), oa 6 (b25_1.map Lock.enc), oa 2 (v3.Over.map Txn.enc)]) h [] [some 5, some 0, some 1, some 2, some 3, some 4, some 6] (fun n57 a56_1 a56_2 a56_3 h => ?_) (by intros; rw [uw])
 rw [uw] at h
 try simp only [*, go_sem]
 intro hl58
 refine oi h (fun hb59 h => ?_) (fun hb59 h => ?_)
 refine obn h (fun x60 _ _ _ _ h => ?_)
 try simp only [*, go_sem]
 refine cl h (z1h G x60 p1) (fun v62 h => ?_)
 try simp only [*, go_sem]
 refine jn2 h (fun b63_1 b63_2 => [zR 0 0 0 b63_2.length, (1, .one (.c 93 [.q 1 0 0])), zI 5 b63_1, zI 6 a56_2, zP 1000004 1, zP 1000006 2, zP 1000009 3]) (fun b63_1 b63_2 => [oa 3 (b63_2.map Doubt.enc), ox p1.bx, ox [.nl 3, .nl 6, .nl 3, .nl 2], ox [.r 4 0 b5_1.length, .r 5 0 b25_1.length, .r 0 0 b63_2.length, .r 6 0 v3.Over.length], oa 3 (b5_1.map Item.enc), oa 6 (b25_1.map Lock.enc), oa 2 (v3.Over.map Txn.enc)]) (fun k64 h => ?_) (fun b63_1 b63_2 h => ?_)
 refine oin h (fun hb65 hkhb65 h => ?_) (fun hb65 hkhb65 h => ?_)
 refine obn h (fun x66 _ _ _ _ h => ?_)
 try simp only [*, go_sem]
 exact jc (IntKind.i64.wrap (a56_1 + 1), (a56_3.set a56_1.toNat x60)) h.e [some 0, some 1, some 2, some 3, some 4, some 5, some 6]
 try simp only [*, go_sem]
 exact jc (a56_1, a56_3) h.e [some 0, some 1, some 2, some 3, some 4, some 5, some 6]
 try simp only [*, go_sem]
 exact lc (b63_1, IntKind.i64.wrap (a56_2 + 1), b63_2) h.e [some 0, some 1, some 2, some 3, some 4, some 5, some 6]
 try simp only [*, go_sem]
 exact jc (a56_1, a56_3) h.e [some 0, some 1, some 2, some 3, some 4, some 5, some 6]
 refine ck h (fun _ h => ?_)
 refine ck h (fun _ h => ?_)
 have : b54_1.toNat + ((((b54_2.length : Nat) : Int) - b54_1).toNat) ≤ b54_2.length := by omega
 have : min b54_1.toNat b54_2.length = b54_1.toNat := by omega
 have : b54_1.toNat ≤ b54_2.length := by omega
 try simp only [*, go_sem]
 exact jc ((b54_2.take b54_1.toNat)) h.e [some 1, some 2, some 3, some 4, some 5, some 0, some 6]
 try simp only [*, go_sem]
 refine cl h (v0b G v3.Over p1) (fun v73 h => ?_)
 try simp only [*, go_sem]
 refine jn1 h (fun b74_1 => [zP 6 0, zP 9 1]) (fun b74_1 => [ox [.nl 3, .nl 6, .nl 3, .nl 2], ox [.r 2 0 b5_1.length, .r 3 0 b25_1.length, .r 4 0 b49_1.length, .r 5 0 b74_1.length], oa 3 (b5_1.map Item.enc), oa 6 (b25_1.map Lock.enc), oa 3 (b49_1.map Doubt.enc), oa 2 (b74_1.map Txn.enc)]) (fun k75 h => ?_) (fun b74_1 h => ?_)
 refine oin h (fun hb76 hkhb76 h => ?_) (fun hb76 hkhb76 h => ?_)
 refine ck h (fun _ h => ?_)
 try simp only [*, go_sem]
 exact jc ((v3.Over ++ [p1])) h.e [some 1, some 2, some 3, some 4, some 5, some 8]
 try simp only [*, go_sem]
 exact jc (v3.Over) h.e [some 1, some 2, some 3, some 4, some 5, some 6]
 cases h.e
 simp only [*, go_sem, mA, mS]
def ww (p0 : RecoverMemory) (p1 : Txn) (p2 : Bool) : Option (RecoverMemory) := (Option.bind (w0x p0.store p1 p2) fun v1 => (withK (fun (b2_1 : List Item) (b2_2 : List Lock) (b2_3 : List Doubt) (b2_4 : List Txn) => (some (RecoverMemory.mk p0.me (Store.mk b2_1 b2_2 b2_3 b2_4) p0.desk p0.notes))) fun k3 => (if (v1.2 == 0) = true then (k3 v1.1.Items v1.1.Locks v1.1.Doubts v1.1.Over) else (k3 p0.store.Items p0.store.Locks p0.store.Doubts p0.store.Over))))
def F49 : VFn := ⟨24, (.seq (.reg [vo 4 (.boxk 2 (.t 1))]) (.seq (.draw [vd (vm 9 0) 0, vd (vo 10 (.nilchk (.t 9))) 1, vd (vf 11 1 10) 3, vd (vl 12 4 11) 7, vd (vl 13 2 4) 0, vd (vm 14 2) 0, vd (vo 15 (.call 68 [(.t 12), (.t 13), (.t 14)])) 63, vd (vm 8 15) 127, vd (et 16 8 0) 255, vd (et 17 8 1) 255, ⟨vo 6 (.alloc [(.nl 3), (.nl 6), (.nl 3), (.nl 2)]), 0, [6], none, []⟩, vd (vu (.st 4 (.t 6) (.t 16))) 1535, vd (vm 7 17) 4095]) (.seq (.reg [vm 18 7, bk 19 .eql 18 0]) (.wk (.cond (.t 19) (.reg [vm 20 0, vl 21 4 6, vo 22 (.nilchk (.t 20)), vf 23 1 22, vu (.st 4 (.t 23) (.t 21))]) .skip))))), []⟩
theorem low49 : lowF Tryd.prog 49 = some F49.strip := by kernel_rfl
theorem fok49 : fOk Tryd.prog 49 = true := by kernel_rfl
theorem u0m (p0 : RecoverMemory) (p1 : Txn) (p2 : Bool) (r : RecoverMemory) (h : ww p0 p1 p2 = some r) : FnX Tryd.prog G 49 [ptrX, .agg p1.bx, .one (.d (.b p2))] [.i .i64 p0.me, .l 3 (p0.store.Items.map Item.enc), .l 6 (p0.store.Locks.map Lock.enc), .l 3 (p0.store.Doubts.map Doubt.enc), .l 2 (p0.store.Over.map Txn.enc), .i .i64 p0.desk.Next, .o 6 (p0.desk.Jobs.map Job.enc), .o 4 (p0.notes.map Note.enc)] (fun c rs => c = [.i .i64 r.me, .l 3 (r.store.Items.map Item.enc), .l 6 (r.store.Locks.map Lock.enc), .l 3 (r.store.Doubts.map Doubt.enc), .l 2 (r.store.Over.map Txn.enc), .i .i64 r.desk.Next, .o 6 (r.desk.Jobs.map Job.enc), .o 4 (r.notes.map Note.enc)] ∧ rs = []) := by
 refine FnX.of [0, 1, 1, 1, 1] low49 fok49 (by exact Nat.le_of_ble_eq_true rfl) (by exact Nat.le_of_ble_eq_true rfl) ?_
 rw [ww] at h
 replace h := Hd.mk h
 simp only [F49, go_sem]
 refine obk h (fun v1 hv1 h => ?_)
 try simp only [*, go_sem]
 refine cd (FnRO.fz' (y3m G p0.store p1 p2 v1 hv1) rfl rfl) ?_
 try simp only [*, go_sem]
 refine jn4 h (fun b2_1 b2_2 b2_3 b2_4 => [zP 1000000 0]) (fun b2_1 b2_2 b2_3 b2_4 => [ox [zi p0.me, .d (.l 3 (b2_1.map Item.enc)), .d (.l 6 (b2_2.map Lock.enc)), .d (.l 3 (b2_3.map Doubt.enc)), .d (.l 2 (b2_4.map Txn.enc)), zi p0.desk.Next, .r 1 0 p0.desk.Jobs.length, .r 2 0 p0.notes.length], oa 6 (p0.desk.Jobs.map Job.enc), oa 4 (p0.notes.map Note.enc)]) (fun k3 h => ?_) (fun b2_1 b2_2 b2_3 b2_4 h => ?_)
 refine oi h (fun hb4 h => ?_) (fun hb4 h => ?_)
 try simp only [*, go_sem]
 exact jc (v1.1.Items, v1.1.Locks, v1.1.Doubts, v1.1.Over) h.e [some 0, some 1, some 2]
 try simp only [*, go_sem]
 exact jc (p0.store.Items, p0.store.Locks, p0.store.Doubts, p0.store.Over) h.e [some 0, some 1, some 2]
 cases h.e
 try simp only [*, go_sem]
 refine etn [] ?_
 simp only [*, go_sem, mA, mS]
def ze (p0 : List Job) (p1 : Int) (p2 : Job → Int → Option (Int)) (k3 : Int → Option (Int × Bool)) : Nat → Int → Int → Option (Int × Bool)
 | 0, _, _ => none
 | n5 + 1, a4_1, a4_2 => (if (decide (a4_1 < a4_2)) = true then (if 0 ≤ IntKind.i64.wrap ((IntKind.u64.wrap (IntKind.i64.wrap (a4_1 + a4_2))).fdiv (2 ^ 1)) then (Option.bind (p0[(IntKind.i64.wrap ((IntKind.u64.wrap (IntKind.i64.wrap (a4_1 + a4_2))).fdiv (2 ^ 1))).toNat]?) fun x7 => (Option.bind (p2 x7 p1) fun v9 => (withK (fun (b10_1 : Int) (b10_2 : Int) => (ze p0 p1 p2 k3 n5 b10_1 b10_2)) fun k11 => (if (decide (v9 < 0)) = true then (k11 (IntKind.i64.wrap (IntKind.i64.wrap ((IntKind.u64.wrap (IntKind.i64.wrap (a4_1 + a4_2))).fdiv (2 ^ 1)) + 1)) a4_2) else (k11 a4_1 (IntKind.i64.wrap ((IntKind.u64.wrap (IntKind.i64.wrap (a4_1 + a4_2))).fdiv (2 ^ 1)))))))) else none) else (k3 a4_1))
def wm (p0 : List Job) (p1 : Int) (p2 : Job → Int → Option (Int)) : Option (Int × Bool) := (withK (fun (b2_1 : Int) => (withK (fun (b13_1 : Bool) => (some (b2_1, b13_1))) fun k14 => (if (decide (b2_1 < ((p0.length : Nat) : Int))) = true then (if 0 ≤ b2_1 then (Option.bind (p0[b2_1.toNat]?) fun x16 => (Option.bind (p2 x16 p1) fun v18 => (k14 (v18 == 0)))) else none) else (k14 false)))) fun k3 => (ze p0 p1 p2 k3 (p0.length + 1) 0 ((p0.length : Nat) : Int)))
def F69 : VFn := ⟨49, (.seq (.reg [mi 6 0, vo 7 (.mv (cb false))]) (.seq (.reg [vm 12 0, ln 13 12, vm 8 13]) (.seq (.reg [vm 14 8, mi 9 0, vm 10 14]) (.seq (.wk (.block 0 (.loop (.seq (.seq (.reg [vm 15 9, vm 16 10, bt 17 .lss 15 16]) (.cond (.t 17) .skip (.exit 0))) (.block 1 (.seq (.reg [vm 18 9, vm 19 10, bt 20 .add 18 19, vo 21 (.cvi .u64 (.t 20)), vo 22 (.bin .i .shr (.t 21) (.c (.one (.d (.i .u64 1))))), vo 23 (.cvi .i64 (.t 22)), vm 11 23]) (.seq (.reg [vm 24 2, vm 25 0, vm 26 11, xa 27 6 25 26, vl 28 6 27, vm 29 1, vo 30 (.callv (.t 24) [(.t 28), (.t 29)]), bk 31 .lss 30 0]) (.wk (.cond (.t 31) (.reg [vm 32 11, bk 33 .add 32 1, vm 9 33]) (.reg [vm 34 11, vm 10 34])))))))))) (.seq (.wk (.reg [vm 35 9, vm 36 9, vm 37 8, bt 38 .lss 36 37, vm 39 38, gt 40 39 (.mv (.t 2)), gt 41 39 (.mv (.t 0)), gt 42 39 (.mv (.t 9)), gt 43 39 (.ia 6 (.t 41) (.t 42)), gt 44 39 (.ld true 6 (.t 43)), gt 45 39 (.mv (.t 1)), gt 46 39 (.callv (.t 40) [(.t 44), (.t 45)]), gt 47 39 (.bin .i .eql (.t 46) (ci 0)), vo 48 (.pick (.t 39) (.t 47) (cb false)), vm 6 35, vm 7 48])) .ret))))), [.t 6, .t 7]⟩
theorem low69 : lowF Tryd.prog 69 = some F69.strip := by kernel_rfl
theorem fok69 : fOk Tryd.prog 69 = true := by kernel_rfl
theorem v0j (p0 : List Job) (p1 : Int) (p2 : Job → Int → Option (Int)) (g_p2 : Nat) (c_p2 : List D) (h_p2 : ∀ (x0 : Job) (x1 : Int) (r : Int), p2 x0 x1 = some r → FnRO Tryd.prog G g_p2 ([.agg [.d (.i .i64 x0.N), .d (.i .i64 x0.State), .d (.l 8 (x0.Tasks.map Task.enc)), .d (.l 1 (x0.Asked.map encI)), .d (.i .i64 x0.Asks), .d (.i .i64 x0.Age)], .one (.d (.i .i64 x1))] ++ c_p2.map fun d => .one (.d d)) (fun rs => rs = [.one (.i .i64 r)])) (r : Int × Bool) (h : wm p0 p1 p2 = some r) : FnRO Tryd.prog G 69 [.one (.d (.l 6 (p0.map Job.enc))), .one (.d (.i .i64 p1)), .one (.d (.f g_p2 c_p2))] (fun rs => rs = [.one (.i .i64 r.1), .one (.b r.2)]) := by
 refine FnRO.of' low69 fok69 (by simp [F69]) ?_
 rw [wm] at h
 replace h := Hd.mk h
 simp only [F69, go_sem]
 try simp only [*, go_sem]
 intro hl1
 try simp only [*, go_sem]
 refine jn1 h (fun b2_1 => [zL 0 6 (p0.map Job.enc), zI 1 p1, (2, .one (.d (.f g_p2 c_p2))), zI 8 ((p0.length : Nat) : Int), zI 9 b2_1]) (fun b2_1 => []) (fun k3 h => ?_) (fun b2_1 h => ?_)
 try simp only [*, go_sem]
 refine lp2 (ze p0 p1 p2 k3) (fun a4_1 a4_2 => [zL 0 6 (p0.map Job.enc), zI 1 p1, (2, .one (.d (.f g_p2 c_p2))), zI 8 ((p0.length : Nat) : Int), zI 9 a4_1, zI 10 a4_2]) (fun a4_1 a4_2 => []) h [] [] (fun n5 a4_1 a4_2 h => ?_) (by intros; rw [ze])
 rw [ze] at h
 refine oi h (fun hb6 h => ?_) (fun hb6 h => ?_)
 have := of_decide_eq_true hb6
 refine obn h (fun x7 _ _ _ _ h => ?_)
 try simp only [*, go_sem]
 refine cr h (h_p2 x7 p1) (fun v9 h => ?_)
 try simp only [*, go_sem]
 refine jn2 h (fun b10_1 b10_2 => [zL 0 6 (p0.map Job.enc), zI 1 p1, (2, .one (.d (.f g_p2 c_p2))), zI 8 ((p0.length : Nat) : Int), zI 9 b10_1, zI 10 b10_2]) (fun b10_1 b10_2 => []) (fun k11 h => ?_) (fun b10_1 b10_2 h => ?_)
 refine oi h (fun hb12 h => ?_) (fun hb12 h => ?_)
 have := of_decide_eq_true hb12
 try simp only [*, go_sem]
 exact jc (IntKind.i64.wrap (IntKind.i64.wrap ((IntKind.u64.wrap (IntKind.i64.wrap (a4_1 + a4_2))).fdiv (2 ^ 1)) + 1), a4_2) h.e []
 try simp only [*, go_sem]
 exact jc (a4_1, IntKind.i64.wrap ((IntKind.u64.wrap (IntKind.i64.wrap (a4_1 + a4_2))).fdiv (2 ^ 1))) h.e []
 try simp only [*, go_sem]
 exact lc (b10_1, b10_2) h.e []
 try simp only [*, go_sem]
 exact jc (a4_1) h.e []
 try simp only [*, go_sem]
 refine jn1 h (fun b13_1 => [zI 6 b2_1, zB 7 b13_1]) (fun b13_1 => []) (fun k14 h => ?_) (fun b13_1 h => ?_)
 refine oi h (fun hb15 h => ?_) (fun hb15 h => ?_)
 refine obn h (fun x16 _ _ _ _ h => ?_)
 try simp only [*, go_sem]
 refine cr h (h_p2 x16 p1) (fun v18 h => ?_)
 try simp only [*, go_sem]
 exact jc (v18 == 0) h.e []
 try simp only [*, go_sem]
 exact jc (false) h.e []
 cases h.e
 simp only [*, go_sem, mA, mS]
def zf (p0 : Job) (p1 : Int) : Option (Int) := (some (IntKind.i64.wrap (p0.N - p1)))
def F70 : VFn := ⟨9, (.seq (.reg [vo 2 (.box 6 (.t 0)), mi 4 0]) (.seq (.reg [vf 5 0 2, vs 6 5, vm 7 1, bt 8 .sub 6 7, vm 4 8]) .ret)), [.t 4]⟩
theorem low70 : lowF Tryd.prog 70 = some F70.strip := by kernel_rfl
theorem fok70 : fOk Tryd.prog 70 = true := by kernel_rfl
theorem z0r (p0 : Job) (p1 : Int) (r : Int) (h : zf p0 p1 = some r) : FnRO Tryd.prog G 70 [.agg p0.bx, .one (.d (.i .i64 p1))] (fun rs => rs = [.one (.i .i64 r)]) := by
 refine FnRO.of' low70 fok70 (by simp [F70]) ?_
 rw [zf] at h
 replace h := Hd.mk h
 simp only [F70, go_sem]
 cases h.e
 simp only [*, go_sem, mA, mS]
theorem low72 : lowF Tryd.prog 72 = some (w1e 1 8 [(zi 0)]) := by kernel_rfl
theorem fok72 : fOk Tryd.prog 72 = true := by kernel_rfl
theorem z4l (p0 r : List Int) (h : v0o 8 p0 = some r) : FnRO Tryd.prog G 72 [.one (.d (.l 1 (p0.map encI)))] (fun rs => rs = [.one (.o 1 (r.map encI))]) := x1j low72 fok72 G encI p0 r h
theorem ovl71 : OvlOk Tryd.prog 94 := ⟨((Tryd.prog.funcs[94]?).get (by kernel_rfl)), 42, 4, 84, (Option.some_get _).symm, by kernel_rfl, by kernel_rfl, by kernel_rfl, by kernel_rfl, by kernel_rfl, by kernel_rfl, by kernel_rfl⟩
theorem ins71 : InsOk Tryd.prog 71 6 80 := ⟨[(zi 0), (zi 0), (.nl 8), (.nl 1), (zi 0), (zi 0)], _, 94, 95, by kernel_rfl, by kernel_rfl, ovl71, fun _ => rfl, rfl, by decide⟩
end Go.V.Dec
