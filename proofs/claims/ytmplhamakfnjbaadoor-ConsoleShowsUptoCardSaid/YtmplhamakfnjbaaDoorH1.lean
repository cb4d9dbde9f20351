/- What Go's functions come to, as plain functions: part 1; no condition. -/
import Derived.Test.YtmplhamakfnjbaaDoorRows
import Derived.Test.YtmplhamakfnjbaaDoorVK
import Derived.Test.YtmplhamakfnjbaaDoorVS
set_option linter.unusedVariables false
set_option linter.unusedSimpArgs false
namespace Go.V.Dec
open Go Go.Proofs
set_option maxRecDepth 100000
set_option maxHeartbeats 4000000
variable (G : Nat → Option (List D))
structure WireParts where
  label : Bool
  key : Bool
  value : Bool
  version : Bool
  ask : Bool
  yes : Bool
  code : Bool
  sites : Bool
  deriving Inhabited
def WireParts.enc (x : WireParts) : List D := [.b x.label, .b x.key, .b x.value, .b x.version, .b x.ask, .b x.yes, .b x.code, .b x.sites]
def WireParts.encO (x : WireParts) : List D := [.b x.label, .b x.key, .b x.value, .b x.version, .b x.ask, .b x.yes, .b x.code, .b x.sites]
structure Label where
  Level : Int
  Cats : Int
  deriving Inhabited
def Label.enc (x : Label) : List D := [.i .i64 x.Level, .i .i64 x.Cats]
def Label.encO (x : Label) : List D := [.i .i64 x.Level, .i .i64 x.Cats]
structure Config where
  Sites : Int
  Labels : List Label
  Patience : Int
  deriving Inhabited
def Config.enc (x : Config) : List D := [.i .i64 x.Sites, .l 2 (x.Labels.map Label.enc), .i .i64 x.Patience]
def Config.encO (x : Config) : List D := [.i .i64 x.Sites, .o 2 (x.Labels.map Label.enc), .i .i64 x.Patience]
structure Item where
  Key : Int
  Value : Int
  Version : Int
  deriving Inhabited
def Item.enc (x : Item) : List D := [.i .i64 x.Key, .i .i64 x.Value, .i .i64 x.Version]
def Item.encO (x : Item) : List D := [.i .i64 x.Key, .i .i64 x.Value, .i .i64 x.Version]
structure Txn where
  Site : Int
  N : Int
  deriving Inhabited
def Txn.enc (x : Txn) : List D := [.i .i64 x.Site, .i .i64 x.N]
def Txn.encO (x : Txn) : List D := [.i .i64 x.Site, .i .i64 x.N]
structure Lock where
  Txn : Txn
  Key : Int
  Write : Bool
  Value : Int
  Ask : Int
  deriving Inhabited
def Lock.enc (x : Lock) : List D := [.i .i64 x.Txn.Site, .i .i64 x.Txn.N, .i .i64 x.Key, .b x.Write, .i .i64 x.Value, .i .i64 x.Ask]
def Lock.encO (x : Lock) : List D := [.i .i64 x.Txn.Site, .i .i64 x.Txn.N, .i .i64 x.Key, .b x.Write, .i .i64 x.Value, .i .i64 x.Ask]
structure Doubt where
  Txn : Txn
  Age : Int
  deriving Inhabited
def Doubt.enc (x : Doubt) : List D := [.i .i64 x.Txn.Site, .i .i64 x.Txn.N, .i .i64 x.Age]
def Doubt.encO (x : Doubt) : List D := [.i .i64 x.Txn.Site, .i .i64 x.Txn.N, .i .i64 x.Age]
structure Store where
  Items : List Item
  Locks : List Lock
  Doubts : List Doubt
  Over : List Txn
  deriving Inhabited
def Store.enc (x : Store) : List D := [.l 3 (x.Items.map Item.enc), .l 6 (x.Locks.map Lock.enc), .l 3 (x.Doubts.map Doubt.enc), .l 2 (x.Over.map Txn.enc)]
def Store.encO (x : Store) : List D := [.o 3 (x.Items.map Item.enc), .o 6 (x.Locks.map Lock.enc), .o 3 (x.Doubts.map Doubt.enc), .o 2 (x.Over.map Txn.enc)]
structure Command where
  Kind : Int
  Label : Int
  Txn : Txn
  Yes : Bool
  deriving Inhabited
def Command.enc (x : Command) : List D := [.i .i64 x.Kind, .i .i64 x.Label, .i .i64 x.Txn.Site, .i .i64 x.Txn.N, .b x.Yes]
def Command.encO (x : Command) : List D := [.i .i64 x.Kind, .i .i64 x.Label, .i .i64 x.Txn.Site, .i .i64 x.Txn.N, .b x.Yes]
structure Note where
  Txn : Txn
  Yes : Bool
  Damage : Bool
  deriving Inhabited
def Note.enc (x : Note) : List D := [.i .i64 x.Txn.Site, .i .i64 x.Txn.N, .b x.Yes, .b x.Damage]
def Note.encO (x : Note) : List D := [.i .i64 x.Txn.Site, .i .i64 x.Txn.N, .b x.Yes, .b x.Damage]
def WireParts.bx (x : WireParts) : List SC := [.d (.b x.label), .d (.b x.key), .d (.b x.value), .d (.b x.version), .d (.b x.ask), .d (.b x.yes), .d (.b x.code), .d (.b x.sites)]
def Label.bx (x : Label) : List SC := [.d (.i .i64 x.Level), .d (.i .i64 x.Cats)]
def Config.bx (x : Config) : List SC := [.d (.i .i64 x.Sites), .d (.l 2 (x.Labels.map Label.enc)), .d (.i .i64 x.Patience)]
def Item.bx (x : Item) : List SC := [.d (.i .i64 x.Key), .d (.i .i64 x.Value), .d (.i .i64 x.Version)]
def Txn.bx (x : Txn) : List SC := [.d (.i .i64 x.Site), .d (.i .i64 x.N)]
def Lock.bx (x : Lock) : List SC := [.d (.i .i64 x.Txn.Site), .d (.i .i64 x.Txn.N), .d (.i .i64 x.Key), .d (.b x.Write), .d (.i .i64 x.Value), .d (.i .i64 x.Ask)]
def Doubt.bx (x : Doubt) : List SC := [.d (.i .i64 x.Txn.Site), .d (.i .i64 x.Txn.N), .d (.i .i64 x.Age)]
def Store.bx (x : Store) : List SC := [.d (.l 3 (x.Items.map Item.enc)), .d (.l 6 (x.Locks.map Lock.enc)), .d (.l 3 (x.Doubts.map Doubt.enc)), .d (.l 2 (x.Over.map Txn.enc))]
def Command.bx (x : Command) : List SC := [.d (.i .i64 x.Kind), .d (.i .i64 x.Label), .d (.i .i64 x.Txn.Site), .d (.i .i64 x.Txn.N), .d (.b x.Yes)]
def Note.bx (x : Note) : List SC := [.d (.i .i64 x.Txn.Site), .d (.i .i64 x.Txn.N), .d (.b x.Yes), .d (.b x.Damage)]
attribute [go_sem] encI WireParts.enc WireParts.encO WireParts.bx Label.enc Label.encO Label.bx Config.enc Config.encO Config.bx Item.enc Item.encO Item.bx Txn.enc Txn.encO Txn.bx Lock.enc Lock.encO Lock.bx Doubt.enc Doubt.encO Doubt.bx Store.enc Store.encO Store.bx Command.enc Command.encO Command.bx Note.enc Note.encO Note.bx
def tab_strconv_uint64pow10D : List D := [.i .u64 1, .i .u64 10, .i .u64 100, .i .u64 1000, .i .u64 10000, .i .u64 100000, .i .u64 1000000, .i .u64 10000000, .i .u64 100000000, .i .u64 1000000000, .i .u64 10000000000, .i .u64 100000000000, .i .u64 1000000000000, .i .u64 10000000000000, .i .u64 100000000000000, .i .u64 1000000000000000, .i .u64 10000000000000000, .i .u64 100000000000000000, .i .u64 1000000000000000000, .i .u64 10000000000000000000]
def bs_7215ee9c : ByteArray := ⟨#[32]⟩
def bs_68b329da : ByteArray := ⟨#[10]⟩
def bs_4d42290a : ByteArray := ⟨#[32, 99, 111, 109, 109, 105, 116]⟩
def bs_0fc6f503 : ByteArray := ⟨#[32, 97, 98, 111, 114, 116]⟩
def bs_6d74a691 : ByteArray := ⟨#[32, 100, 97, 109, 97, 103, 101]⟩
def bs_298e1f25 : ByteArray := ⟨#[112, 114, 101, 112, 97, 114, 101, 100, 10]⟩
def bs_d9f7497c : ByteArray := ⟨#[117, 110, 107, 110, 111, 119, 110, 10]⟩
def bs_336d5ebc : ByteArray := ⟨#[45]⟩
def label_one (p0 : Label) : Option (Bool) := (withK (fun (b1_1 : Bool) => (some b1_1)) fun k2 => (if (decide (p0.Level ≥ 0)) = true then (if (decide (p0.Level ≤ 9)) = true then (if (decide (p0.Cats ≥ 0)) = true then (k2 (decide (p0.Cats ≤ 15))) else (k2 false)) else (k2 false)) else (k2 false)))
def F73 : VFn := ⟨21, (.seq (.reg [vo 1 (.boxk 2 (.t 0)), vo 2 (.mv (cb false))]) (.seq (.wk (.reg [vf 3 0 1, vs 4 3, bk 5 .geq 4 0, vm 6 5, gt 7 6 (.fa 0 (.t 1)), gt 8 6 (.ld false 1 (.t 7)), gt 9 6 (.bin .i .leq (.t 8) (ci 9)), vo 10 (.pick (.t 6) (.t 9) (cb false)), vm 11 10, gt 12 11 (.fa 1 (.t 1)), gt 13 11 (.ld false 1 (.t 12)), gt 14 11 (.bin .i .geq (.t 13) (ci 0)), vo 15 (.pick (.t 11) (.t 14) (cb false)), vm 16 15, gt 17 16 (.fa 1 (.t 1)), gt 18 16 (.ld false 1 (.t 17)), gt 19 16 (.bin .i .leq (.t 18) (ci 15)), vo 20 (.pick (.t 16) (.t 19) (cb false)), vm 2 20])) .ret)), [.t 2]⟩
theorem low73 : lowF Tryd.prog 73 = some F73.strip := by kernel_rfl
theorem fok73 : fOk Tryd.prog 73 = true := by kernel_rfl
theorem label_one_ok (p0 : Label) (r : Bool) (h : label_one p0 = some r) : FnRO Tryd.prog G 73 [.agg p0.bx] (fun rs => rs = [.one (.b r)]) := by
 refine FnRO.of' low73 fok73 (by simp [F73]) ?_
 rw [label_one] at h
 replace h := Hd.mk h
 simp only [F73, go_sem]
 try simp only [*, go_sem]
 refine jn1 h (fun b1_1 => [zB 2 b1_1]) (fun b1_1 => []) (fun k2 h => ?_) (fun b1_1 h => ?_)
 refine oi h (fun hb3 h => ?_) (fun hb3 h => ?_)
 refine oi h (fun hb4 h => ?_) (fun hb4 h => ?_)
 refine oi h (fun hb5 h => ?_) (fun hb5 h => ?_)
 try simp only [*, go_sem]
 exact jc (decide (p0.Cats ≤ 15)) h.e []
 try simp only [*, go_sem]
 exact jc (false) h.e []
 try simp only [*, go_sem]
 exact jc (false) h.e []
 try simp only [*, go_sem]
 exact jc (false) h.e []
 cases h.e
 simp only [*, go_sem, mA, mS]
def label_Check_L2 (p0 : Config) (a10_1 : Nat) (x13 : Label) (k19 : Option (Int)) : Nat → Nat → Option (Int)
 | 0, _ => none
 | n21 + 1, a20_1 => (if (decide (a20_1 < min a10_1 p0.Labels.length)) = true then (Option.bind ((p0.Labels.take a10_1)[a20_1]?) fun x23 => (if ((x23.Level == x13.Level) && (x23.Cats == x13.Cats)) = true then (some 7) else (label_Check_L2 p0 a10_1 x13 k19 n21 (a20_1 + 1)))) else k19)
def label_Check_L1 (p0 : Config) (k9 : Option (Int)) : Nat → Nat → Option (Int)
 | 0, _ => none
 | n11 + 1, a10_1 => (if (decide (a10_1 < p0.Labels.length)) = true then (Option.bind (p0.Labels[a10_1]?) fun x13 => (Option.bind (label_one x13) fun v14 => (if (!v14) = true then (some 2) else (withK (label_Check_L1 p0 k9 n11 (a10_1 + 1)) fun k19 => (label_Check_L2 p0 a10_1 x13 k19 (min a10_1 p0.Labels.length + 1) 0))))) else k9)
def label_Check (p0 : Config) : Option (Int) := (if (decide (p0.Sites < 1)) = true then (some 2) else (if (decide (p0.Sites > 4)) = true then (some 2) else (if (decide (((p0.Labels.length : Nat) : Int) < 1)) = true then (some 1) else (if (decide (((p0.Labels.length : Nat) : Int) > 6)) = true then (some 1) else (withK (if (decide (p0.Patience < 1)) = true then (some 2) else (if (decide (p0.Patience > 1048576)) = true then (some 2) else (some 0))) fun k9 => (label_Check_L1 p0 k9 (p0.Labels.length + 1) 0))))))
def F29 : VFn := ⟨58, (.seq (.reg [vo 1 (.boxk 3 (.t 0)), mi 2 0]) (.seq (.seq (.reg [vf 7 0 1, vs 8 7, bk 9 .lss 8 1, vm 10 9, gf 11 10 (.fa 0 (.t 1)), gf 12 10 (.ld false 1 (.t 11)), gf 13 10 (.bin .i .gtr (.t 12) (ci 4)), vo 14 (.pick (.t 10) (cb true) (.t 13))]) (.cond (.t 14) (.seq (.reg [mi 2 2]) .ret) .skip)) (.seq (.seq (.reg [vf 15 1 1, vs 16 15, ln 17 16, bk 18 .lss 17 1, vm 19 18, gf 20 19 (.fa 1 (.t 1)), gf 21 19 (.ld false 1 (.t 20)), gf 22 19 (.len (.t 21)), gf 23 19 (.bin .i .gtr (.t 22) (ci 6)), vo 24 (.pick (.t 19) (cb true) (.t 23))]) (.cond (.t 24) (.seq (.reg [mi 2 1]) .ret) .skip)) (.seq (.seq (.reg [vf 25 1 1, vs 26 25, ln 27 26, mi 28 0]) (.wk (.block 0 (.loop (.seq (.reg [bt 29 .lss 28 27]) (.seq (.cond (.t 29) .skip (.exit 0)) (.seq (.block 1 (.seq (.reg [vm 30 28, xa 31 2 26 28, vl 32 2 31, vo 4 (.alloc [(zi 0), (zi 0)]), vm 3 30, vu (.st 2 (.t 4) (.t 32))]) (.seq (.seq (.reg [vl 33 2 4, vo 34 (.call 73 [(.t 33)]), nt 35 34]) (.cond (.t 35) (.seq (.reg [mi 2 2]) .ret) .skip)) (.seq (.reg [vf 36 1 1, vs 37 36, vm 38 3, vo 39 (.sl 2 (.t 37) none (some (.t 38))), ln 40 39, mi 41 0]) (.wk (.block 2 (.loop (.seq (.reg [bt 42 .lss 41 40]) (.seq (.cond (.t 42) .skip (.exit 2)) (.seq (.block 3 (.seq (.reg [xa 43 2 39 41, vl 44 2 43, vo 6 (.alloc [(zi 0), (zi 0)]), vu (.st 2 (.t 6) (.t 44))]) (.seq (.reg [vl 45 2 6, vl 46 2 4, vo 47 (.eqs false [.i, .i] (.t 45) (.t 46))]) (.cond (.t 47) (.seq (.reg [mi 2 7]) .ret) .skip)))) (.reg [bk 48 .add 41 1, vm 41 48]))))))))))) (.reg [bk 49 .add 28 1, vm 28 49])))))))) (.seq (.seq (.reg [vf 50 2 1, vs 51 50, bk 52 .lss 51 1, vm 53 52, gf 54 53 (.fa 2 (.t 1)), gf 55 53 (.ld false 1 (.t 54)), gf 56 53 (.bin .i .gtr (.t 55) (ci 1048576)), vo 57 (.pick (.t 53) (cb true) (.t 56))]) (.cond (.t 57) (.seq (.reg [mi 2 2]) .ret) .skip)) (.seq (.reg [mi 2 0]) .ret)))))), [.t 2]⟩
theorem low29 : lowF Tryd.prog 29 = some F29.strip := by kernel_rfl
theorem fok29 : fOk Tryd.prog 29 = true := by kernel_rfl
theorem label_Check_ok (p0 : Config) (r : Int) (h : label_Check p0 = some r) : FnRO Tryd.prog G 29 [.agg p0.bx] (fun rs => rs = [.one (.i .i64 r)]) := by
 refine FnRO.of' low29 fok29 (by simp [F29]) ?_
 rw [label_Check] at h
 replace h := Hd.mk h
 simp only [F29, go_sem]
 refine oi h (fun hb1 h => ?_) (fun hb1 h => ?_)
 have := of_decide_eq_true hb1
 cases h.e
 simp only [*, go_sem, mA, mS]
 refine oi h (fun hb2 h => ?_) (fun hb2 h => ?_)
 cases h.e
 simp only [*, go_sem, mA, mS]
 try simp only [*, go_sem]
 intro hl3
 refine oi h (fun hb4 h => ?_) (fun hb4 h => ?_)
 cases h.e
 simp only [*, go_sem, mA, mS]
 try simp only [*, go_sem]
 intro hl5
 refine oi h (fun hb6 h => ?_) (fun hb6 h => ?_)
 cases h.e
 simp only [*, go_sem, mA, mS]
 try simp only [*, go_sem]
 intro hl7
 try simp only [*, go_sem]
 refine jn0 h ([zK 1 (Config.enc p0)]) ([]) (fun k9 h => ?_) (fun h => ?_)
 try simp only [*, go_sem]
 refine lp1 (label_Check_L1 p0 k9) (fun a10_1 => [zK 1 (Config.enc p0), zL 26 2 (p0.Labels.map Label.enc), zI 27 ((p0.Labels.length : Nat) : Int), zI 28 ((a10_1 : Nat) : Int)]) (fun a10_1 => []) h [] [] (fun n11 a10_1 h => ?_) (by intros; rw [label_Check_L1])
 rw [label_Check_L1] at h
 refine oi h (fun hb12 h => ?_) (fun hb12 h => ?_)
 have := of_decide_eq_true hb12
 refine obg h (fun x13 _ hkx13 h => ?_)
 try simp only [*, go_sem]
 refine cr h (label_one_ok G x13) (fun v14 h => ?_)
 refine oin h (fun hb15 hkhb15 h => ?_) (fun hb15 hkhb15 h => ?_)
 cases h.e
 simp only [*, go_sem, mA, mS]
 have := Nat.le_of_lt hkx13
 try simp only [*, go_sem]
 intro hl17
 try simp only [*, go_sem]
 refine jn0 h ([zK 1 (Config.enc p0), zL 26 2 (p0.Labels.map Label.enc), zI 27 ((p0.Labels.length : Nat) : Int), zI 28 ((a10_1 : Nat) : Int)]) ([]) (fun k19 h => ?_) (fun h => ?_)
 try simp only [*, go_sem]
 refine lp1 (label_Check_L2 p0 a10_1 x13 k19) (fun a20_1 => [zK 1 (Config.enc p0), zP 4 0, zL 26 2 (p0.Labels.map Label.enc), zI 27 ((p0.Labels.length : Nat) : Int), zI 28 ((a10_1 : Nat) : Int), zL 39 2 ((p0.Labels.take a10_1).map Label.enc), zI 40 ((min a10_1 p0.Labels.length : Nat) : Int), zI 41 ((a20_1 : Nat) : Int)]) (fun a20_1 => [ox x13.bx]) h [] [some 0] (fun n21 a20_1 h => ?_) (by intros; rw [label_Check_L2])
 rw [label_Check_L2] at h
 refine oi h (fun hb22 h => ?_) (fun hb22 h => ?_)
 refine obg h (fun x23 _ hkx23 h => ?_)
 try simp only [List.length_take, List.length_drop, List.length_append, List.length_set, List.length_map, List.length_cons, List.length_nil, Nat.zero_add] at hkx23
 refine oi h (fun hb24 h => ?_) (fun hb24 h => ?_)
 try simp only [*, go_sem]
 cases h.e
 simp only [*, go_sem, mA, mS]
 try simp only [*, go_sem]
 have := wrap_succ_max hkx23 hl17
 try simp only [*, go_sem]
 exact lc (a20_1 + 1) h.e [some 0]
 try simp only [*, go_sem]
 exact jc () h.e []
 have := wrap_succ_max hkx13 hl3
 try simp only [*, go_sem]
 exact lc (a10_1 + 1) h.e []
 try simp only [*, go_sem]
 exact jc () h.e []
 refine oi h (fun hb27 h => ?_) (fun hb27 h => ?_)
 have := of_decide_eq_true hb27
 cases h.e
 simp only [*, go_sem, mA, mS]
 refine oi h (fun hb28 h => ?_) (fun hb28 h => ?_)
 cases h.e
 simp only [*, go_sem, mA, mS]
 cases h.e
 simp only [*, go_sem, mA, mS]
def store_items_L1 (p0 : List Item) (k3 : Option (Bool)) : Nat → Nat → Option (Bool)
 | 0, _ => none
 | n5 + 1, a4_1 => (if (decide (a4_1 < p0.length)) = true then (Option.bind (p0[a4_1]?) fun x7 => (if (decide (x7.Key < 0)) = true then (some false) else (if (decide (x7.Key ≥ 8)) = true then (some false) else (if (decide (x7.Value < 0)) = true then (some false) else (if (decide (x7.Value > 1073741824)) = true then (some false) else (if (decide (x7.Version < 1)) = true then (some false) else (if (decide (x7.Version > 1048576)) = true then (some false) else (if (decide (((a4_1 : Nat) : Int) > 0)) = true then (if 0 ≤ IntKind.i64.wrap (((a4_1 : Nat) : Int) - 1) then (Option.bind (p0[(IntKind.i64.wrap (((a4_1 : Nat) : Int) - 1)).toNat]?) fun x15 => (if (decide (x15.Key ≥ x7.Key)) = true then (some false) else (store_items_L1 p0 k3 n5 (a4_1 + 1)))) else none) else (store_items_L1 p0 k3 n5 (a4_1 + 1)))))))))) else k3)
def store_items (p0 : List Item) : Option (Bool) := (withK (some true) fun k3 => (store_items_L1 p0 k3 (p0.length + 1) 0))
def F84 : VFn := ⟨54, (.seq (.reg [vo 2 (.mv (cb false))]) (.seq (.seq (.reg [vm 5 0, ln 6 5, mi 7 0]) (.wk (.block 0 (.loop (.seq (.reg [bt 8 .lss 7 6]) (.seq (.cond (.t 8) .skip (.exit 0)) (.seq (.block 1 (.seq (.reg [vm 9 7, xa 10 3 5 7, vl 11 3 10, vo 4 (.alloc [(zi 0), (zi 0), (zi 0)]), vm 3 9, vu (.st 3 (.t 4) (.t 11))]) (.seq (.seq (.reg [vf 12 0 4, vs 13 12, bk 14 .lss 13 0, vm 15 14, gf 16 15 (.fa 0 (.t 4)), gf 17 15 (.ld false 1 (.t 16)), gf 18 15 (.bin .i .geq (.t 17) (ci 8)), vo 19 (.pick (.t 15) (cb true) (.t 18)), vm 20 19, gf 21 20 (.fa 1 (.t 4)), gf 22 20 (.ld false 1 (.t 21)), gf 23 20 (.bin .i .lss (.t 22) (ci 0)), vo 24 (.pick (.t 20) (cb true) (.t 23)), vm 25 24, gf 26 25 (.fa 1 (.t 4)), gf 27 25 (.ld false 1 (.t 26)), gf 28 25 (.bin .i .gtr (.t 27) (ci 1073741824)), vo 29 (.pick (.t 25) (cb true) (.t 28)), vm 30 29, gf 31 30 (.fa 2 (.t 4)), gf 32 30 (.ld false 1 (.t 31)), gf 33 30 (.bin .i .lss (.t 32) (ci 1)), vo 34 (.pick (.t 30) (cb true) (.t 33)), vm 35 34, gf 36 35 (.fa 2 (.t 4)), gf 37 35 (.ld false 1 (.t 36)), gf 38 35 (.bin .i .gtr (.t 37) (ci 1048576)), vo 39 (.pick (.t 35) (cb true) (.t 38))]) (.cond (.t 39) (.seq (.reg [vo 2 (.mv (cb false))]) .ret) .skip)) (.seq (.draw [vd (vm 40 3) 0, vd (bk 41 .gtr 40 0) 1, vd (vm 42 41) 3, vd (gt 43 42 (.mv (.t 0))) 7, vd (gt 44 42 (.mv (.t 3))) 7, vd (gt 45 42 (.bin .i .sub (.t 44) (ci 1))) 23, vd (gt 46 42 (.ia 3 (.t 43) (.t 45))) 63, vd (gt 47 42 (.fa 0 (.t 46))) 127, vd (gt 48 42 (.ld false 1 (.t 47))) 255, vd (gt 49 42 (.fa 0 (.t 4))) 7, vd (gt 50 42 (.ld false 1 (.t 49))) 519, vd (gt 51 42 (.bin .i .geq (.t 48) (.t 50))) 2047, vd (vo 52 (.pick (.t 42) (.t 51) (cb false))) 4095]) (.cond (.t 52) (.seq (.reg [vo 2 (.mv (cb false))]) .ret) .skip))))) (.reg [bk 53 .add 7 1, vm 7 53])))))))) (.seq (.reg [vo 2 (.mv (cb true))]) .ret))), [.t 2]⟩
theorem low84 : lowF Tryd.prog 84 = some F84.strip := by kernel_rfl
theorem fok84 : fOk Tryd.prog 84 = true := by kernel_rfl
theorem store_items_ok (p0 : List Item) (r : Bool) (h : store_items p0 = some r) : FnRO Tryd.prog G 84 [.one (.d (.l 3 (p0.map Item.enc)))] (fun rs => rs = [.one (.b r)]) := by
 refine FnRO.of' low84 fok84 (by simp [F84]) ?_
 rw [store_items] at h
 replace h := Hd.mk h
 simp only [F84, go_sem]
 try simp only [*, go_sem]
 intro hl1
 try simp only [*, go_sem]
 refine jn0 h ([]) ([]) (fun k3 h => ?_) (fun h => ?_)
 try simp only [*, go_sem]
 refine lp1 (store_items_L1 p0 k3) (fun a4_1 => [zL 0 3 (p0.map Item.enc), zL 5 3 (p0.map Item.enc), zI 6 ((p0.length : Nat) : Int), zI 7 ((a4_1 : Nat) : Int)]) (fun a4_1 => []) h [] [] (fun n5 a4_1 h => ?_) (by intros; rw [store_items_L1])
 rw [store_items_L1] at h
 refine oi h (fun hb6 h => ?_) (fun hb6 h => ?_)
 have := of_decide_eq_true hb6
 refine obg h (fun x7 _ hkx7 h => ?_)
 refine oi h (fun hb8 h => ?_) (fun hb8 h => ?_)
 have := of_decide_eq_true hb8
 cases h.e
 simp only [*, go_sem, mA, mS]
 refine oi h (fun hb9 h => ?_) (fun hb9 h => ?_)
 cases h.e
 simp only [*, go_sem, mA, mS]
 refine oi h (fun hb10 h => ?_) (fun hb10 h => ?_)
 have := of_decide_eq_true hb10
 cases h.e
 simp only [*, go_sem, mA, mS]
 refine oi h (fun hb11 h => ?_) (fun hb11 h => ?_)
 cases h.e
 simp only [*, go_sem, mA, mS]
 refine oi h (fun hb12 h => ?_) (fun hb12 h => ?_)
 have := of_decide_eq_true hb12
 cases h.e
 simp only [*, go_sem, mA, mS]
 refine oi h (fun hb13 h => ?_) (fun hb13 h => ?_)
 cases h.e
 simp only [*, go_sem, mA, mS]
 refine oi h (fun hb14 h => ?_) (fun hb14 h => ?_)
 refine obn h (fun x15 _ _ _ _ h => ?_)
 refine oi h (fun hb17 h => ?_) (fun hb17 h => ?_)
 cases h.e
 simp only [*, go_sem, mA, mS]
 have := wrap_succ_max hkx7 hl1
 try simp only [*, go_sem]
 exact lc (a4_1 + 1) h.e []
 have := wrap_succ_max hkx7 hl1
 try simp only [*, go_sem]
 exact lc (a4_1 + 1) h.e []
 try simp only [*, go_sem]
 exact jc () h.e []
 cases h.e
 simp only [*, go_sem, mA, mS]
def store_txn (p0 : Txn) : Option (Bool) := (withK (fun (b1_1 : Bool) => (some b1_1)) fun k2 => (if (decide (p0.Site ≥ 0)) = true then (if (decide (p0.Site < 4)) = true then (if (decide (p0.N ≥ 1)) = true then (k2 (decide (p0.N ≤ 1048576))) else (k2 false)) else (k2 false)) else (k2 false)))
def F102 : VFn := ⟨21, (.seq (.reg [vo 1 (.boxk 2 (.t 0)), vo 2 (.mv (cb false))]) (.seq (.wk (.reg [vf 3 0 1, vs 4 3, bk 5 .geq 4 0, vm 6 5, gt 7 6 (.fa 0 (.t 1)), gt 8 6 (.ld false 1 (.t 7)), gt 9 6 (.bin .i .lss (.t 8) (ci 4)), vo 10 (.pick (.t 6) (.t 9) (cb false)), vm 11 10, gt 12 11 (.fa 1 (.t 1)), gt 13 11 (.ld false 1 (.t 12)), gt 14 11 (.bin .i .geq (.t 13) (ci 1)), vo 15 (.pick (.t 11) (.t 14) (cb false)), vm 16 15, gt 17 16 (.fa 1 (.t 1)), gt 18 16 (.ld false 1 (.t 17)), gt 19 16 (.bin .i .leq (.t 18) (ci 1048576)), vo 20 (.pick (.t 16) (.t 19) (cb false)), vm 2 20])) .ret)), [.t 2]⟩
theorem low102 : lowF Tryd.prog 102 = some F102.strip := by kernel_rfl
theorem fok102 : fOk Tryd.prog 102 = true := by kernel_rfl
theorem store_txn_ok (p0 : Txn) (r : Bool) (h : store_txn p0 = some r) : FnRO Tryd.prog G 102 [.agg p0.bx] (fun rs => rs = [.one (.b r)]) := by
 refine FnRO.of' low102 fok102 (by simp [F102]) ?_
 rw [store_txn] at h
 replace h := Hd.mk h
 simp only [F102, go_sem]
 try simp only [*, go_sem]
 refine jn1 h (fun b1_1 => [zB 2 b1_1]) (fun b1_1 => []) (fun k2 h => ?_) (fun b1_1 h => ?_)
 refine oi h (fun hb3 h => ?_) (fun hb3 h => ?_)
 refine oi h (fun hb4 h => ?_) (fun hb4 h => ?_)
 have := of_decide_eq_true hb4
 refine oi h (fun hb5 h => ?_) (fun hb5 h => ?_)
 try simp only [*, go_sem]
 exact jc (decide (p0.N ≤ 1048576)) h.e []
 try simp only [*, go_sem]
 exact jc (false) h.e []
 try simp only [*, go_sem]
 exact jc (false) h.e []
 try simp only [*, go_sem]
 exact jc (false) h.e []
 cases h.e
 simp only [*, go_sem, mA, mS]
def slices_Index_Txn_L1 (p0 : List Txn) (p1 : Txn) (k3 : Option (Int)) : Nat → Nat → Option (Int)
 | 0, _ => none
 | n5 + 1, a4_1 => (if (decide (a4_1 < p0.length)) = true then (Option.bind (p0[a4_1]?) fun x7 => (if ((p1.Site == x7.Site) && (p1.N == x7.N)) = true then (some ((a4_1 : Nat) : Int)) else (slices_Index_Txn_L1 p0 p1 k3 n5 (a4_1 + 1)))) else k3)
def slices_Index_Txn (p0 : List Txn) (p1 : Txn) : Option (Int) := (withK (some (-1)) fun k3 => (slices_Index_Txn_L1 p0 p1 k3 (p0.length + 1) 0))
def F113 : VFn := ⟨19, (.seq (.reg [vo 3 (.boxk 2 (.t 1)), mi 4 0]) (.seq (.seq (.reg [vm 6 0, ln 7 6, mi 8 0]) (.wk (.block 0 (.loop (.seq (.reg [bt 9 .lss 8 7]) (.seq (.cond (.t 9) .skip (.exit 0)) (.seq (.block 1 (.seq (.reg [vm 10 8, vm 5 10]) (.seq (.draw [vd (vl 11 2 3) 0, vd (vm 12 0) 0, vd (vm 13 5) 0, vd (xa 14 2 12 13) 6, vd (vl 15 2 14) 14, vd (vo 16 (.eqs false [.i, .i] (.t 11) (.t 15))) 31]) (.cond (.t 16) (.seq (.reg [vm 17 5, vm 4 17]) .ret) .skip)))) (.reg [bk 18 .add 8 1, vm 8 18])))))))) (.seq (.reg [mi 4 (-1)]) .ret))), [.t 4]⟩
theorem low113 : lowF Tryd.prog 113 = some F113.strip := by kernel_rfl
theorem fok113 : fOk Tryd.prog 113 = true := by kernel_rfl
theorem slices_Index_Txn_ok (p0 : List Txn) (p1 : Txn) (r : Int) (h : slices_Index_Txn p0 p1 = some r) : FnRO Tryd.prog G 113 [.one (.d (.l 2 (p0.map Txn.enc))), .agg p1.bx] (fun rs => rs = [.one (.i .i64 r)]) := by
 refine FnRO.of' low113 fok113 (by simp [F113]) ?_
 rw [slices_Index_Txn] at h
 replace h := Hd.mk h
 simp only [F113, go_sem]
 try simp only [*, go_sem]
 intro hl1
 try simp only [*, go_sem]
 refine jn0 h ([]) ([]) (fun k3 h => ?_) (fun h => ?_)
 try simp only [*, go_sem]
 refine lp1 (slices_Index_Txn_L1 p0 p1 k3) (fun a4_1 => [zL 0 2 (p0.map Txn.enc), zK 3 (Txn.enc p1), zI 7 ((p0.length : Nat) : Int), zI 8 ((a4_1 : Nat) : Int)]) (fun a4_1 => []) h [] [] (fun n5 a4_1 h => ?_) (by intros; rw [slices_Index_Txn_L1])
 rw [slices_Index_Txn_L1] at h
 refine oi h (fun hb6 h => ?_) (fun hb6 h => ?_)
 have := of_decide_eq_true hb6
 refine obg h (fun x7 _ hkx7 h => ?_)
 refine oi h (fun hb8 h => ?_) (fun hb8 h => ?_)
 try simp only [*, go_sem]
 cases h.e
 simp only [*, go_sem, mA, mS]
 try simp only [*, go_sem]
 have := wrap_succ_max hkx7 hl1
 try simp only [*, go_sem]
 exact lc (a4_1 + 1) h.e []
 try simp only [*, go_sem]
 exact jc () h.e []
 cases h.e
 simp only [*, go_sem, mA, mS]
def slices_Contains_Txn (p0 : List Txn) (p1 : Txn) : Option (Bool) := (Option.bind (slices_Index_Txn p0 p1) fun v1 => (some (decide (v1 ≥ 0))))
def F103 : VFn := ⟨9, (.seq (.reg [vo 3 (.boxk 2 (.t 1)), vo 4 (.mv (cb false))]) (.seq (.reg [vm 5 0, vl 6 2 3, vo 7 (.call 113 [(.t 5), (.t 6)]), bk 8 .geq 7 0, vm 4 8]) .ret)), [.t 4]⟩
theorem low103 : lowF Tryd.prog 103 = some F103.strip := by kernel_rfl
theorem fok103 : fOk Tryd.prog 103 = true := by kernel_rfl
theorem slices_Contains_Txn_ok (p0 : List Txn) (p1 : Txn) (r : Bool) (h : slices_Contains_Txn p0 p1 = some r) : FnRO Tryd.prog G 103 [.one (.d (.l 2 (p0.map Txn.enc))), .agg p1.bx] (fun rs => rs = [.one (.b r)]) := by
 refine FnRO.of' low103 fok103 (by simp [F103]) ?_
 rw [slices_Contains_Txn] at h
 replace h := Hd.mk h
 simp only [F103, go_sem]
 try simp only [*, go_sem]
 refine cr h (slices_Index_Txn_ok G p0 p1) (fun v1 h => ?_)
 cases h.e
 simp only [*, go_sem, mA, mS]
def store_doubts_1 (p0 : Lock) (p1 : Doubt) : Option (Bool) := (some ((p0.Txn.Site == p1.Txn.Site) && (p0.Txn.N == p1.Txn.N)))
def F105 : VFn := ⟨9, (.seq (.reg [vo 2 (.boxk 6 (.t 0)), vo 3 (.mv (cb false))]) (.seq (.reg [vf 4 0 2, vl 5 2 4, vf 6 0 1, vl 7 2 6, vo 8 (.eqs false [.i, .i] (.t 5) (.t 7)), vm 3 8]) .ret)), [.t 3]⟩
theorem low105 : lowF Tryd.prog 105 = some F105.strip := by kernel_rfl
theorem fok105 : fOk Tryd.prog 105 = true := by kernel_rfl
theorem store_doubts_1_ok (p0 : Lock) (p1 : Doubt) (r : Bool) (h : store_doubts_1 p0 p1 = some r) : FnRO Tryd.prog G 105 [.agg p0.bx, .one (.d (.k (Doubt.enc p1)))] (fun rs => rs = [.one (.b r)]) := by
 refine FnRO.of' low105 fok105 (by simp [F105]) ?_
 rw [store_doubts_1] at h
 replace h := Hd.mk h
 simp only [F105, go_sem]
 cases h.e
 simp only [*, go_sem, mA, mS]
def slices_IndexFunc_Lock_L1 (p0 : List Lock) (p1 : Lock → Option (Bool)) (k3 : Option (Int)) : Nat → Nat → Option (Int)
 | 0, _ => none
 | n5 + 1, a4_1 => (if (decide (a4_1 < p0.length)) = true then (Option.bind (p0[a4_1]?) fun x7 => (Option.bind (p1 x7) fun v8 => (if v8 = true then (some ((a4_1 : Nat) : Int)) else (slices_IndexFunc_Lock_L1 p0 p1 k3 n5 (a4_1 + 1))))) else k3)
def slices_IndexFunc_Lock (p0 : List Lock) (p1 : Lock → Option (Bool)) : Option (Int) := (withK (some (-1)) fun k3 => (slices_IndexFunc_Lock_L1 p0 p1 k3 (p0.length + 1) 0))
def F114 : VFn := ⟨19, (.seq (.reg [mi 4 0]) (.seq (.seq (.reg [vm 6 0, ln 7 6, mi 8 0]) (.wk (.block 0 (.loop (.seq (.reg [bt 9 .lss 8 7]) (.seq (.cond (.t 9) .skip (.exit 0)) (.seq (.block 1 (.seq (.reg [vm 10 8, vm 5 10]) (.seq (.reg [vm 11 1, vm 12 0, vm 13 5, xa 14 6 12 13, vl 15 6 14, vo 16 (.callv (.t 11) [(.t 15)])]) (.cond (.t 16) (.seq (.reg [vm 17 5, vm 4 17]) .ret) .skip)))) (.reg [bk 18 .add 8 1, vm 8 18])))))))) (.seq (.reg [mi 4 (-1)]) .ret))), [.t 4]⟩
theorem low114 : lowF Tryd.prog 114 = some F114.strip := by kernel_rfl
theorem fok114 : fOk Tryd.prog 114 = true := by kernel_rfl
theorem slices_IndexFunc_Lock_ok (p0 : List Lock) (p1 : Lock → Option (Bool)) (g_p1 : Nat) (c_p1 : List D) (h_p1 : ∀ (x0 : Lock) (r : Bool), p1 x0 = some r → FnRO Tryd.prog G g_p1 ([.agg [.d (.i .i64 x0.Txn.Site), .d (.i .i64 x0.Txn.N), .d (.i .i64 x0.Key), .d (.b x0.Write), .d (.i .i64 x0.Value), .d (.i .i64 x0.Ask)]] ++ c_p1.map fun d => .one (.d d)) (fun rs => rs = [.one (.b r)])) (r : Int) (h : slices_IndexFunc_Lock p0 p1 = some r) : FnRO Tryd.prog G 114 [.one (.d (.l 6 (p0.map Lock.enc))), .one (.d (.f g_p1 c_p1))] (fun rs => rs = [.one (.i .i64 r)]) := by
 refine FnRO.of' low114 fok114 (by simp [F114]) ?_
 rw [slices_IndexFunc_Lock] at h
 replace h := Hd.mk h
 simp only [F114, go_sem]
 try simp only [*, go_sem]
 intro hl1
 try simp only [*, go_sem]
 refine jn0 h ([]) ([]) (fun k3 h => ?_) (fun h => ?_)
 try simp only [*, go_sem]
 refine lp1 (slices_IndexFunc_Lock_L1 p0 p1 k3) (fun a4_1 => [zL 0 6 (p0.map Lock.enc), (1, .one (.d (.f g_p1 c_p1))), zI 7 ((p0.length : Nat) : Int), zI 8 ((a4_1 : Nat) : Int)]) (fun a4_1 => []) h [] [] (fun n5 a4_1 h => ?_) (by intros; rw [slices_IndexFunc_Lock_L1])
 rw [slices_IndexFunc_Lock_L1] at h
 refine oi h (fun hb6 h => ?_) (fun hb6 h => ?_)
 have := of_decide_eq_true hb6
 refine obg h (fun x7 _ hkx7 h => ?_)
 try simp only [*, go_sem]
 refine cr h (h_p1 x7) (fun v8 h => ?_)
 refine oi h (fun hb9 h => ?_) (fun hb9 h => ?_)
 cases h.e
 simp only [*, go_sem, mA, mS]
 have := wrap_succ_max hkx7 hl1
 try simp only [*, go_sem]
 exact lc (a4_1 + 1) h.e []
 try simp only [*, go_sem]
 exact jc () h.e []
 cases h.e
 simp only [*, go_sem, mA, mS]
def slices_ContainsFunc_Lock (p0 : List Lock) (p1 : Lock → Option (Bool)) : Option (Bool) := (Option.bind (slices_IndexFunc_Lock p0 p1) fun v1 => (some (decide (v1 ≥ 0))))
def F104 : VFn := ⟨9, (.seq (.reg [vo 4 (.mv (cb false))]) (.seq (.reg [vm 5 0, vm 6 1, vo 7 (.call 114 [(.t 5), (.t 6)]), bk 8 .geq 7 0, vm 4 8]) .ret)), [.t 4]⟩
theorem low104 : lowF Tryd.prog 104 = some F104.strip := by kernel_rfl
theorem fok104 : fOk Tryd.prog 104 = true := by kernel_rfl
theorem slices_ContainsFunc_Lock_ok (p0 : List Lock) (p1 : Lock → Option (Bool)) (g_p1 : Nat) (c_p1 : List D) (h_p1 : ∀ (x0 : Lock) (r : Bool), p1 x0 = some r → FnRO Tryd.prog G g_p1 ([.agg [.d (.i .i64 x0.Txn.Site), .d (.i .i64 x0.Txn.N), .d (.i .i64 x0.Key), .d (.b x0.Write), .d (.i .i64 x0.Value), .d (.i .i64 x0.Ask)]] ++ c_p1.map fun d => .one (.d d)) (fun rs => rs = [.one (.b r)])) (r : Bool) (h : slices_ContainsFunc_Lock p0 p1 = some r) : FnRO Tryd.prog G 104 [.one (.d (.l 6 (p0.map Lock.enc))), .one (.d (.f g_p1 c_p1))] (fun rs => rs = [.one (.b r)]) := by
 refine FnRO.of' low104 fok104 (by simp [F104]) ?_
 rw [slices_ContainsFunc_Lock] at h
 replace h := Hd.mk h
 simp only [F104, go_sem]
 try simp only [*, go_sem]
 refine cr h (slices_IndexFunc_Lock_ok G p0 p1 g_p1 c_p1 h_p1) (fun v1 h => ?_)
 cases h.e
 simp only [*, go_sem, mA, mS]
def store_doubts_L2 (p0 : Store) (a4_1 : Nat) (x7 : Doubt) (k20 : Option (Bool)) : Nat → Nat → Option (Bool)
 | 0, _ => none
 | n22 + 1, a21_1 => (if (decide (a21_1 < min a4_1 p0.Doubts.length)) = true then (Option.bind ((p0.Doubts.take a4_1)[a21_1]?) fun x24 => (if ((x24.Txn.Site == x7.Txn.Site) && (x24.Txn.N == x7.Txn.N)) = true then (some false) else (store_doubts_L2 p0 a4_1 x7 k20 n22 (a21_1 + 1)))) else k20)
def store_doubts_L1 (p0 : Store) (k3 : Option (Bool)) : Nat → Nat → Option (Bool)
 | 0, _ => none
 | n5 + 1, a4_1 => (if (decide (a4_1 < p0.Doubts.length)) = true then (Option.bind (p0.Doubts[a4_1]?) fun x7 => (Option.bind (store_txn x7.Txn) fun v8 => (if (!v8) = true then (some false) else (if (decide (x7.Age < 0)) = true then (some false) else (if (decide (x7.Age > 1048576)) = true then (some false) else (Option.bind (slices_Contains_Txn p0.Over x7.Txn) fun v12 => (if v12 = true then (some false) else (Option.bind (slices_ContainsFunc_Lock p0.Locks (fun y14 => store_doubts_1 y14 x7)) fun v15 => (if (!v15) = true then (some false) else (withK (store_doubts_L1 p0 k3 n5 (a4_1 + 1)) fun k20 => (store_doubts_L2 p0 a4_1 x7 k20 (min a4_1 p0.Doubts.length + 1) 0))))))))))) else k3)
def store_doubts_L3 (p0 : Store) (k30 : Option (Bool)) : Nat → Nat → Option (Bool)
 | 0, _ => none
 | n32 + 1, a31_1 => (if (decide (a31_1 < p0.Over.length)) = true then (Option.bind (p0.Over[a31_1]?) fun x34 => (Option.bind (store_txn x34) fun v35 => (if (!v35) = true then (some false) else (Option.bind (slices_Contains_Txn (p0.Over.take a31_1) x34) fun v38 => (if v38 = true then (some false) else (store_doubts_L3 p0 k30 n32 (a31_1 + 1))))))) else k30)
def store_doubts (p0 : Store) : Option (Bool) := (withK (withK (some true) fun k30 => (store_doubts_L3 p0 k30 (p0.Over.length + 1) 0)) fun k3 => (store_doubts_L1 p0 k3 (p0.Doubts.length + 1) 0))
def F85 : VFn := ⟨79, (.seq (.reg [vo 1 (.boxk 4 (.t 0)), vo 2 (.mv (cb false))]) (.seq (.seq (.reg [vf 9 2 1, vs 10 9, ln 11 10, mi 12 0]) (.wk (.block 0 (.loop (.seq (.reg [bt 13 .lss 12 11]) (.seq (.cond (.t 13) .skip (.exit 0)) (.seq (.block 1 (.seq (.reg [vm 14 12, xa 15 3 10 12, vl 16 3 15, vo 4 (.alloc [(zi 0), (zi 0), (zi 0)]), vm 3 14, vu (.st 3 (.t 4) (.t 16))]) (.seq (.seq (.reg [vf 17 0 4, vl 18 2 17, vo 19 (.call 102 [(.t 18)]), nt 20 19, vm 21 20, gf 22 21 (.fa 2 (.t 4)), gf 23 21 (.ld false 1 (.t 22)), gf 24 21 (.bin .i .lss (.t 23) (ci 0)), vo 25 (.pick (.t 21) (cb true) (.t 24)), vm 26 25, gf 27 26 (.fa 2 (.t 4)), gf 28 26 (.ld false 1 (.t 27)), gf 29 26 (.bin .i .gtr (.t 28) (ci 1048576)), vo 30 (.pick (.t 26) (cb true) (.t 29)), vm 31 30, gf 32 31 (.fa 3 (.t 1)), gf 33 31 (.ld false 1 (.t 32)), gf 34 31 (.fa 0 (.t 4)), gf 35 31 (.ld true 2 (.t 34)), gf 36 31 (.call 103 [(.t 33), (.t 35)]), vo 37 (.pick (.t 31) (cb true) (.t 36))]) (.cond (.t 37) (.seq (.reg [vo 2 (.mv (cb false))]) .ret) .skip)) (.seq (.seq (.reg [vf 38 1 1, vs 39 38, vo 40 (.mkf 105 [(.t 4)]), vo 41 (.call 104 [(.t 39), (.t 40)]), nt 42 41]) (.cond (.t 42) (.seq (.reg [vo 2 (.mv (cb false))]) .ret) .skip)) (.seq (.reg [vf 43 2 1, vs 44 43, vm 45 3, vo 46 (.sl 3 (.t 44) none (some (.t 45))), ln 47 46, mi 48 0]) (.wk (.block 2 (.loop (.seq (.reg [bt 49 .lss 48 47]) (.seq (.cond (.t 49) .skip (.exit 2)) (.seq (.block 3 (.seq (.reg [xa 50 3 46 48, vl 51 3 50, vo 6 (.alloc [(zi 0), (zi 0), (zi 0)]), vu (.st 3 (.t 6) (.t 51))]) (.seq (.reg [vf 52 0 6, vl 53 2 52, vf 54 0 4, vl 55 2 54, vo 56 (.eqs false [.i, .i] (.t 53) (.t 55))]) (.cond (.t 56) (.seq (.reg [vo 2 (.mv (cb false))]) .ret) .skip)))) (.reg [bk 57 .add 48 1, vm 48 57])))))))))))) (.reg [bk 58 .add 12 1, vm 12 58])))))))) (.seq (.seq (.reg [vf 59 3 1, vs 60 59, ln 61 60, mi 62 0]) (.wk (.block 4 (.loop (.seq (.reg [bt 63 .lss 62 61]) (.seq (.cond (.t 63) .skip (.exit 4)) (.seq (.block 5 (.seq (.reg [vm 64 62, xa 65 2 60 62, vl 66 2 65, vo 8 (.alloc [(zi 0), (zi 0)]), vm 7 64, vu (.st 2 (.t 8) (.t 66))]) (.seq (.draw [vd (vl 67 2 8) 0, vd (vo 68 (.call 102 [(.t 67)])) 1, vd (nt 69 68) 3, vd (vm 70 69) 7, vd (gf 71 70 (.fa 3 (.t 1))) 15, vd (gf 72 70 (.ld false 1 (.t 71))) 31, vd (gf 73 70 (.mv (.t 7))) 15, vd (gf 74 70 (.sl 2 (.t 72) none (some (.t 73)))) 127, vd (gf 75 70 (.ld true 2 (.t 8))) 15, vd (gf 76 70 (.call 103 [(.t 74), (.t 75)])) 511, vd (vo 77 (.pick (.t 70) (cb true) (.t 76))) 1023]) (.cond (.t 77) (.seq (.reg [vo 2 (.mv (cb false))]) .ret) .skip)))) (.reg [bk 78 .add 62 1, vm 62 78])))))))) (.seq (.reg [vo 2 (.mv (cb true))]) .ret)))), [.t 2]⟩
theorem low85 : lowF Tryd.prog 85 = some F85.strip := by kernel_rfl
theorem fok85 : fOk Tryd.prog 85 = true := by kernel_rfl
theorem store_doubts_ok (p0 : Store) (r : Bool) (h : store_doubts p0 = some r) : FnRO Tryd.prog G 85 [.agg p0.bx] (fun rs => rs = [.one (.b r)]) := by
 refine FnRO.of' low85 fok85 (by simp [F85]) ?_
 rw [store_doubts] at h
 replace h := Hd.mk h
 simp only [F85, go_sem]
 try simp only [*, go_sem]
 intro hl1
 try simp only [*, go_sem]
 refine jn0 h ([zK 1 (Store.enc p0)]) ([]) (fun k3 h => ?_) (fun h => ?_)
 try simp only [*, go_sem]
 refine lp1 (store_doubts_L1 p0 k3) (fun a4_1 => [zK 1 (Store.enc p0), zL 10 3 (p0.Doubts.map Doubt.enc), zI 11 ((p0.Doubts.length : Nat) : Int), zI 12 ((a4_1 : Nat) : Int)]) (fun a4_1 => []) h [] [] (fun n5 a4_1 h => ?_) (by intros; rw [store_doubts_L1])
 rw [store_doubts_L1] at h
 refine oi h (fun hb6 h => ?_) (fun hb6 h => ?_)
 have := of_decide_eq_true hb6
 refine obg h (fun x7 _ hkx7 h => ?_)
 try simp only [*, go_sem]
 refine cr h (store_txn_ok G x7.Txn) (fun v8 h => ?_)
 refine oin h (fun hb9 hkhb9 h => ?_) (fun hb9 hkhb9 h => ?_)
 cases h.e
 simp only [*, go_sem, mA, mS]
 refine oi h (fun hb10 h => ?_) (fun hb10 h => ?_)
 have := of_decide_eq_true hb10
 cases h.e
 simp only [*, go_sem, mA, mS]
 refine oi h (fun hb11 h => ?_) (fun hb11 h => ?_)
 cases h.e
 simp only [*, go_sem, mA, mS]
 try simp only [*, go_sem]
 refine cr h (slices_Contains_Txn_ok G p0.Over x7.Txn) (fun v12 h => ?_)
 refine oi h (fun hb13 h => ?_) (fun hb13 h => ?_)
 cases h.e
 simp only [*, go_sem, mA, mS]
 try simp only [*, go_sem]
 refine cl h (slices_ContainsFunc_Lock_ok G p0.Locks (fun y14 => store_doubts_1 y14 x7) 105 [.k [.i .i64 x7.Txn.Site, .i .i64 x7.Txn.N, .i .i64 x7.Age]] (fun y14 r h => store_doubts_1_ok G y14 x7 r h)) (fun v15 h => ?_)
 refine oin h (fun hb16 hkhb16 h => ?_) (fun hb16 hkhb16 h => ?_)
 cases h.e
 simp only [*, go_sem, mA, mS]
 have := Nat.le_of_lt hkx7
 try simp only [*, go_sem]
 intro hl18
 try simp only [*, go_sem]
 refine jn0 h ([zK 1 (Store.enc p0), zL 10 3 (p0.Doubts.map Doubt.enc), zI 11 ((p0.Doubts.length : Nat) : Int), zI 12 ((a4_1 : Nat) : Int), (22, .one (.p (.q 0 0 2))), zI 23 x7.Age, zB 24 false, (27, .one (.p (.q 0 0 2))), zI 28 x7.Age, zB 29 false, (32, .one (.p (.l 4 [(Store.enc p0)] 0 3))), zL 33 2 (p0.Over.map Txn.enc), zP 34 0, (35, .agg [zi x7.Txn.Site, zi x7.Txn.N]), zB 36 false]) ([ox x7.bx]) (fun k20 h => ?_) (fun h => ?_)
 try simp only [*, go_sem]
 refine lp1 (store_doubts_L2 p0 a4_1 x7 k20) (fun a21_1 => [zK 1 (Store.enc p0), zP 4 0, zL 10 3 (p0.Doubts.map Doubt.enc), zI 11 ((p0.Doubts.length : Nat) : Int), zI 12 ((a4_1 : Nat) : Int), (22, .one (.p (.q 0 0 2))), zI 23 x7.Age, zB 24 false, (27, .one (.p (.q 0 0 2))), zI 28 x7.Age, zB 29 false, (32, .one (.p (.l 4 [(Store.enc p0)] 0 3))), zL 33 2 (p0.Over.map Txn.enc), zP 34 0, (35, .agg [zi x7.Txn.Site, zi x7.Txn.N]), zB 36 false, zL 46 3 ((p0.Doubts.take a4_1).map Doubt.enc), zI 47 ((min a4_1 p0.Doubts.length : Nat) : Int), zI 48 ((a21_1 : Nat) : Int)]) (fun a21_1 => [ox x7.bx]) h [] [some 0] (fun n22 a21_1 h => ?_) (by intros; rw [store_doubts_L2])
 rw [store_doubts_L2] at h
 refine oi h (fun hb23 h => ?_) (fun hb23 h => ?_)
 refine obg h (fun x24 _ hkx24 h => ?_)
 try simp only [List.length_take, List.length_drop, List.length_append, List.length_set, List.length_map, List.length_cons, List.length_nil, Nat.zero_add] at hkx24
 refine oi h (fun hb25 h => ?_) (fun hb25 h => ?_)
 try simp only [*, go_sem]
 cases h.e
 simp only [*, go_sem, mA, mS]
 try simp only [*, go_sem]
 have := wrap_succ_max hkx24 hl18
 try simp only [*, go_sem]
 exact lc (a21_1 + 1) h.e [some 0]
 try simp only [*, go_sem]
 exact jc () h.e [some 0]
 have := wrap_succ_max hkx7 hl1
 try simp only [*, go_sem]
 exact lc (a4_1 + 1) h.e []
 try simp only [*, go_sem]
 exact jc () h.e []
 try simp only [*, go_sem]
 intro hl28
 try simp only [*, go_sem]
 refine jn0 h ([]) ([]) (fun k30 h => ?_) (fun h => ?_)
 try simp only [*, go_sem]
 refine lp1 (store_doubts_L3 p0 k30) (fun a31_1 => [zK 1 (Store.enc p0), zL 60 2 (p0.Over.map Txn.enc), zI 61 ((p0.Over.length : Nat) : Int), zI 62 ((a31_1 : Nat) : Int)]) (fun a31_1 => []) h [] [] (fun n32 a31_1 h => ?_) (by intros; rw [store_doubts_L3])
 rw [store_doubts_L3] at h
 refine oi h (fun hb33 h => ?_) (fun hb33 h => ?_)
 have := of_decide_eq_true hb33
 refine obg h (fun x34 _ hkx34 h => ?_)
 refine obk h (fun v35 hv35 h => ?_)
 try simp only [*, go_sem]
 refine cd (store_txn_ok G x34 v35 hv35) ?_
 refine oin h (fun hb36 hkhb36 h => ?_) (fun hb36 hkhb36 h => ?_)
 cases h.e
 simp only [*, go_sem, mA, mS]
 have := Nat.le_of_lt hkx34
 refine obk h (fun v38 hv38 h => ?_)
 try simp only [*, go_sem]
 refine cd (slices_Contains_Txn_ok G (p0.Over.take a31_1) x34 v38 hv38) ?_
 refine oi h (fun hb39 h => ?_) (fun hb39 h => ?_)
 cases h.e
 simp only [*, go_sem, mA, mS]
 have := wrap_succ_max hkx34 hl28
 try simp only [*, go_sem]
 exact lc (a31_1 + 1) h.e []
 try simp only [*, go_sem]
 exact jc () h.e []
 cases h.e
 simp only [*, go_sem, mA, mS]
def store_doubted_1 (p0 : Doubt) (p1 : Txn) : Option (Bool) := (some ((p0.Txn.Site == p1.Site) && (p0.Txn.N == p1.N)))
def F116 : VFn := ⟨8, (.seq (.reg [vo 2 (.boxk 3 (.t 0)), vo 3 (.mv (cb false))]) (.seq (.reg [vf 4 0 2, vl 5 2 4, vl 6 2 1, vo 7 (.eqs false [.i, .i] (.t 5) (.t 6)), vm 3 7]) .ret)), [.t 3]⟩
theorem low116 : lowF Tryd.prog 116 = some F116.strip := by kernel_rfl
theorem fok116 : fOk Tryd.prog 116 = true := by kernel_rfl
theorem store_doubted_1_ok (p0 : Doubt) (p1 : Txn) (r : Bool) (h : store_doubted_1 p0 p1 = some r) : FnRO Tryd.prog G 116 [.agg p0.bx, .one (.d (.k (Txn.enc p1)))] (fun rs => rs = [.one (.b r)]) := by
 refine FnRO.of' low116 fok116 (by simp [F116]) ?_
 rw [store_doubted_1] at h
 replace h := Hd.mk h
 simp only [F116, go_sem]
 cases h.e
 simp only [*, go_sem, mA, mS]
def slices_IndexFunc_Doubt_L1 (p0 : List Doubt) (p1 : Doubt → Option (Bool)) (k3 : Option (Int)) : Nat → Nat → Option (Int)
 | 0, _ => none
 | n5 + 1, a4_1 => (if (decide (a4_1 < p0.length)) = true then (Option.bind (p0[a4_1]?) fun x7 => (Option.bind (p1 x7) fun v8 => (if v8 = true then (some ((a4_1 : Nat) : Int)) else (slices_IndexFunc_Doubt_L1 p0 p1 k3 n5 (a4_1 + 1))))) else k3)
def slices_IndexFunc_Doubt (p0 : List Doubt) (p1 : Doubt → Option (Bool)) : Option (Int) := (withK (some (-1)) fun k3 => (slices_IndexFunc_Doubt_L1 p0 p1 k3 (p0.length + 1) 0))
def F122 : VFn := ⟨19, (.seq (.reg [mi 4 0]) (.seq (.seq (.reg [vm 6 0, ln 7 6, mi 8 0]) (.wk (.block 0 (.loop (.seq (.reg [bt 9 .lss 8 7]) (.seq (.cond (.t 9) .skip (.exit 0)) (.seq (.block 1 (.seq (.reg [vm 10 8, vm 5 10]) (.seq (.reg [vm 11 1, vm 12 0, vm 13 5, xa 14 3 12 13, vl 15 3 14, vo 16 (.callv (.t 11) [(.t 15)])]) (.cond (.t 16) (.seq (.reg [vm 17 5, vm 4 17]) .ret) .skip)))) (.reg [bk 18 .add 8 1, vm 8 18])))))))) (.seq (.reg [mi 4 (-1)]) .ret))), [.t 4]⟩
theorem low122 : lowF Tryd.prog 122 = some F122.strip := by kernel_rfl
theorem fok122 : fOk Tryd.prog 122 = true := by kernel_rfl
theorem slices_IndexFunc_Doubt_ok (p0 : List Doubt) (p1 : Doubt → Option (Bool)) (g_p1 : Nat) (c_p1 : List D) (h_p1 : ∀ (x0 : Doubt) (r : Bool), p1 x0 = some r → FnRO Tryd.prog G g_p1 ([.agg [.d (.i .i64 x0.Txn.Site), .d (.i .i64 x0.Txn.N), .d (.i .i64 x0.Age)]] ++ c_p1.map fun d => .one (.d d)) (fun rs => rs = [.one (.b r)])) (r : Int) (h : slices_IndexFunc_Doubt p0 p1 = some r) : FnRO Tryd.prog G 122 [.one (.d (.l 3 (p0.map Doubt.enc))), .one (.d (.f g_p1 c_p1))] (fun rs => rs = [.one (.i .i64 r)]) := by
 refine FnRO.of' low122 fok122 (by simp [F122]) ?_
 rw [slices_IndexFunc_Doubt] at h
 replace h := Hd.mk h
 simp only [F122, go_sem]
 try simp only [*, go_sem]
 intro hl1
 try simp only [*, go_sem]
 refine jn0 h ([]) ([]) (fun k3 h => ?_) (fun h => ?_)
 try simp only [*, go_sem]
 refine lp1 (slices_IndexFunc_Doubt_L1 p0 p1 k3) (fun a4_1 => [zL 0 3 (p0.map Doubt.enc), (1, .one (.d (.f g_p1 c_p1))), zI 7 ((p0.length : Nat) : Int), zI 8 ((a4_1 : Nat) : Int)]) (fun a4_1 => []) h [] [] (fun n5 a4_1 h => ?_) (by intros; rw [slices_IndexFunc_Doubt_L1])
 rw [slices_IndexFunc_Doubt_L1] at h
 refine oi h (fun hb6 h => ?_) (fun hb6 h => ?_)
 have := of_decide_eq_true hb6
 refine obg h (fun x7 _ hkx7 h => ?_)
 try simp only [*, go_sem]
 refine cr h (h_p1 x7) (fun v8 h => ?_)
 refine oi h (fun hb9 h => ?_) (fun hb9 h => ?_)
 cases h.e
 simp only [*, go_sem, mA, mS]
 have := wrap_succ_max hkx7 hl1
 try simp only [*, go_sem]
 exact lc (a4_1 + 1) h.e []
 try simp only [*, go_sem]
 exact jc () h.e []
 cases h.e
 simp only [*, go_sem, mA, mS]
def slices_ContainsFunc_Doubt (p0 : List Doubt) (p1 : Doubt → Option (Bool)) : Option (Bool) := (Option.bind (slices_IndexFunc_Doubt p0 p1) fun v1 => (some (decide (v1 ≥ 0))))
def F115 : VFn := ⟨9, (.seq (.reg [vo 4 (.mv (cb false))]) (.seq (.reg [vm 5 0, vm 6 1, vo 7 (.call 122 [(.t 5), (.t 6)]), bk 8 .geq 7 0, vm 4 8]) .ret)), [.t 4]⟩
theorem low115 : lowF Tryd.prog 115 = some F115.strip := by kernel_rfl
theorem fok115 : fOk Tryd.prog 115 = true := by kernel_rfl
theorem slices_ContainsFunc_Doubt_ok (p0 : List Doubt) (p1 : Doubt → Option (Bool)) (g_p1 : Nat) (c_p1 : List D) (h_p1 : ∀ (x0 : Doubt) (r : Bool), p1 x0 = some r → FnRO Tryd.prog G g_p1 ([.agg [.d (.i .i64 x0.Txn.Site), .d (.i .i64 x0.Txn.N), .d (.i .i64 x0.Age)]] ++ c_p1.map fun d => .one (.d d)) (fun rs => rs = [.one (.b r)])) (r : Bool) (h : slices_ContainsFunc_Doubt p0 p1 = some r) : FnRO Tryd.prog G 115 [.one (.d (.l 3 (p0.map Doubt.enc))), .one (.d (.f g_p1 c_p1))] (fun rs => rs = [.one (.b r)]) := by
 refine FnRO.of' low115 fok115 (by simp [F115]) ?_
 rw [slices_ContainsFunc_Doubt] at h
 replace h := Hd.mk h
 simp only [F115, go_sem]
 try simp only [*, go_sem]
 refine cr h (slices_IndexFunc_Doubt_ok G p0 p1 g_p1 c_p1 h_p1) (fun v1 h => ?_)
 cases h.e
 simp only [*, go_sem, mA, mS]
def store_doubted (p0 : Store) (p1 : Txn) : Option (Bool) := (Option.bind (slices_ContainsFunc_Doubt p0.Doubts (fun y1 => store_doubted_1 y1 p1)) fun v2 => (some v2))
def F106 : VFn := ⟨9, (.seq (.reg [vo 2 (.box 4 (.t 0)), vo 3 (.box 2 (.t 1)), vo 4 (.mv (cb false))]) (.seq (.reg [vf 5 2 2, vs 6 5, vo 7 (.mkf 116 [(.t 3)]), vo 8 (.call 115 [(.t 6), (.t 7)]), vm 4 8]) .ret)), [.t 4]⟩
theorem low106 : lowF Tryd.prog 106 = some F106.strip := by kernel_rfl
theorem fok106 : fOk Tryd.prog 106 = true := by kernel_rfl
theorem store_doubted_ok (p0 : Store) (p1 : Txn) (r : Bool) (h : store_doubted p0 p1 = some r) : FnRO Tryd.prog G 106 [.agg p0.bx, .agg p1.bx] (fun rs => rs = [.one (.b r)]) := by
 refine FnRO.of' low106 fok106 (by simp [F106]) ?_
 rw [store_doubted] at h
 replace h := Hd.mk h
 simp only [F106, go_sem]
 try simp only [*, go_sem]
 refine cl h (slices_ContainsFunc_Doubt_ok G p0.Doubts (fun y1 => store_doubted_1 y1 p1) 116 [.k [.i .i64 p1.Site, .i .i64 p1.N]] (fun y1 r h => store_doubted_1_ok G y1 p1 r h)) (fun v2 h => ?_)
 cases h.e
 simp only [*, go_sem, mA, mS]
def store_locks_L2 (p0 : Store) (a4_1 : Nat) (x7 : Lock) (k21 : Option (Bool)) : Nat → Nat → Option (Bool)
 | 0, _ => none
 | n23 + 1, a22_1 => (if (decide (a22_1 < min a4_1 p0.Locks.length)) = true then (Option.bind ((p0.Locks.take a4_1)[a22_1]?) fun x25 => (if (x25.Key == x7.Key) = true then (if ((x25.Txn.Site == x7.Txn.Site) && (x25.Txn.N == x7.Txn.N)) = true then (some false) else (if x25.Write = true then (some false) else (store_locks_L2 p0 a4_1 x7 k21 n23 (a22_1 + 1)))) else (store_locks_L2 p0 a4_1 x7 k21 n23 (a22_1 + 1)))) else k21)
def store_locks_L3 (p0 : Store) (a4_1 : Nat) (x7 : Lock) (k35 : Option (Bool)) : Nat → Nat → Option (Bool)
 | 0, _ => none
 | n37 + 1, a36_1 => (if (decide (a36_1 < min a4_1 p0.Locks.length)) = true then (Option.bind ((p0.Locks.take a4_1)[a36_1]?) fun x39 => (if (x39.Key == x7.Key) = true then (if ((x39.Txn.Site == x7.Txn.Site) && (x39.Txn.N == x7.Txn.N)) = true then (some false) else (if x39.Write = true then (some false) else (some false))) else (store_locks_L3 p0 a4_1 x7 k35 n37 (a36_1 + 1)))) else k35)
def store_locks_L1 (p0 : Store) (k3 : Option (Bool)) : Nat → Nat → Option (Bool)
 | 0, _ => none
 | n5 + 1, a4_1 => (if (decide (a4_1 < p0.Locks.length)) = true then (Option.bind (p0.Locks[a4_1]?) fun x7 => (Option.bind (store_doubted p0 x7.Txn) fun v8 => (if (!v8) = true then (some false) else (if (decide (x7.Key < 0)) = true then (some false) else (if (decide (x7.Key ≥ 8)) = true then (some false) else (if (decide (x7.Value < 0)) = true then (some false) else (if (decide (x7.Value > 1073741824)) = true then (some false) else (if (decide (x7.Ask < 0)) = true then (some false) else (if (decide (x7.Ask > 1048576)) = true then (some false) else (if (!x7.Write) = true then (if (IntKind.i64.wrap (x7.Value + x7.Ask) != 0) = true then (some false) else (withK (store_locks_L1 p0 k3 n5 (a4_1 + 1)) fun k21 => (store_locks_L2 p0 a4_1 x7 k21 (min a4_1 p0.Locks.length + 1) 0))) else (withK (store_locks_L1 p0 k3 n5 (a4_1 + 1)) fun k35 => (store_locks_L3 p0 a4_1 x7 k35 (min a4_1 p0.Locks.length + 1) 0)))))))))))) else k3)
def store_locks (p0 : Store) : Option (Bool) := (withK (some (decide (((p0.Locks.length : Nat) : Int) ≤ 24))) fun k3 => (store_locks_L1 p0 k3 (p0.Locks.length + 1) 0))
def F86 : VFn := ⟨98, (.seq (.reg [vo 1 (.boxk 4 (.t 0)), vo 2 (.mv (cb false))]) (.seq (.seq (.reg [vf 7 1 1, vs 8 7, ln 9 8, mi 10 0]) (.wk (.block 0 (.loop (.seq (.reg [bt 11 .lss 10 9]) (.seq (.cond (.t 11) .skip (.exit 0)) (.seq (.block 1 (.seq (.reg [vm 12 10, xa 13 6 8 10, vl 14 6 13, vo 4 (.alloc [(zi 0), (zi 0), (zi 0), (.d (.b false)), (zi 0), (zi 0)]), vm 3 12, vu (.st 6 (.t 4) (.t 14))]) (.seq (.seq (.reg [vl 15 4 1, vf 16 0 4, vl 17 2 16, vo 18 (.call 106 [(.t 15), (.t 17)]), nt 19 18, vm 20 19, gf 21 20 (.fa 2 (.t 4)), gf 22 20 (.ld false 1 (.t 21)), gf 23 20 (.bin .i .lss (.t 22) (ci 0)), vo 24 (.pick (.t 20) (cb true) (.t 23)), vm 25 24, gf 26 25 (.fa 2 (.t 4)), gf 27 25 (.ld false 1 (.t 26)), gf 28 25 (.bin .i .geq (.t 27) (ci 8)), vo 29 (.pick (.t 25) (cb true) (.t 28)), vm 30 29, gf 31 30 (.fa 4 (.t 4)), gf 32 30 (.ld false 1 (.t 31)), gf 33 30 (.bin .i .lss (.t 32) (ci 0)), vo 34 (.pick (.t 30) (cb true) (.t 33)), vm 35 34, gf 36 35 (.fa 4 (.t 4)), gf 37 35 (.ld false 1 (.t 36)), gf 38 35 (.bin .i .gtr (.t 37) (ci 1073741824)), vo 39 (.pick (.t 35) (cb true) (.t 38)), vm 40 39, gf 41 40 (.fa 5 (.t 4)), gf 42 40 (.ld false 1 (.t 41)), gf 43 40 (.bin .i .lss (.t 42) (ci 0)), vo 44 (.pick (.t 40) (cb true) (.t 43)), vm 45 44, gf 46 45 (.fa 5 (.t 4)), gf 47 45 (.ld false 1 (.t 46)), gf 48 45 (.bin .i .gtr (.t 47) (ci 1048576)), vo 49 (.pick (.t 45) (cb true) (.t 48)), vm 50 49, gf 51 50 (.fa 3 (.t 4)), gf 52 50 (.ld false 1 (.t 51)), gf 53 50 (.un .not (.t 52)), gf 54 50 (.mv (.t 53)), gt 55 54 (.fa 4 (.t 4)), gt 56 54 (.ld false 1 (.t 55)), gt 57 54 (.fa 5 (.t 4)), gt 58 54 (.ld false 1 (.t 57)), gt 59 54 (.bin .i .add (.t 56) (.t 58)), gt 60 54 (.bin .i .neq (.t 59) (ci 0)), gf 61 50 (.pick (.t 54) (.t 60) (cb false)), vo 62 (.pick (.t 50) (cb true) (.t 61))]) (.cond (.t 62) (.seq (.reg [vo 2 (.mv (cb false))]) .ret) .skip)) (.seq (.reg [vf 63 1 1, vs 64 63, vm 65 3, vo 66 (.sl 6 (.t 64) none (some (.t 65))), ln 67 66, mi 68 0]) (.wk (.block 2 (.loop (.seq (.reg [bt 69 .lss 68 67]) (.seq (.cond (.t 69) .skip (.exit 2)) (.seq (.block 3 (.seq (.reg [xa 70 6 66 68, vl 71 6 70, vo 6 (.alloc [(zi 0), (zi 0), (zi 0), (.d (.b false)), (zi 0), (zi 0)]), vu (.st 6 (.t 6) (.t 71))]) (.seq (.reg [vf 72 2 6, vs 73 72, vf 74 2 4, vs 75 74, bt 76 .eql 73 75, vm 77 76, gt 78 77 (.fa 0 (.t 6)), gt 79 77 (.ld true 2 (.t 78)), gt 80 77 (.fa 0 (.t 4)), gt 81 77 (.ld true 2 (.t 80)), gt 82 77 (.eqs false [.i, .i] (.t 79) (.t 81)), gt 83 77 (.mv (.t 82)), gf 84 83 (.fa 3 (.t 6)), gf 85 83 (.ld false 1 (.t 84)), gt 86 77 (.pick (.t 83) (cb true) (.t 85)), gt 87 77 (.mv (.t 86)), gf 88 87 (.fa 3 (.t 4)), gf 89 87 (.ld false 1 (.t 88)), gt 90 77 (.pick (.t 87) (cb true) (.t 89)), vo 91 (.pick (.t 77) (.t 90) (cb false))]) (.cond (.t 91) (.seq (.reg [vo 2 (.mv (cb false))]) .ret) .skip)))) (.reg [bk 92 .add 68 1, vm 68 92]))))))))))) (.reg [bk 93 .add 10 1, vm 10 93])))))))) (.seq (.reg [vf 94 1 1, vs 95 94, ln 96 95, bk 97 .leq 96 24, vm 2 97]) .ret))), [.t 2]⟩
theorem low86 : lowF Tryd.prog 86 = some F86.strip := by kernel_rfl
theorem fok86 : fOk Tryd.prog 86 = true := by kernel_rfl
theorem store_locks_ok (p0 : Store) (r : Bool) (h : store_locks p0 = some r) : FnRO Tryd.prog G 86 [.agg p0.bx] (fun rs => rs = [.one (.b r)]) := by
 refine FnRO.of' low86 fok86 (by simp [F86]) ?_
 rw [store_locks] at h
 replace h := Hd.mk h
 simp only [F86, go_sem]
 try simp only [*, go_sem]
 intro hl1
 try simp only [*, go_sem]
 refine jn0 h ([zK 1 (Store.enc p0)]) ([]) (fun k3 h => ?_) (fun h => ?_)
 try simp only [*, go_sem]
 refine lp1 (store_locks_L1 p0 k3) (fun a4_1 => [zK 1 (Store.enc p0), zL 8 6 (p0.Locks.map Lock.enc), zI 9 ((p0.Locks.length : Nat) : Int), zI 10 ((a4_1 : Nat) : Int)]) (fun a4_1 => []) h [] [] (fun n5 a4_1 h => ?_) (by intros; rw [store_locks_L1])
 rw [store_locks_L1] at h
 refine oi h (fun hb6 h => ?_) (fun hb6 h => ?_)
 have := of_decide_eq_true hb6
 refine obg h (fun x7 _ hkx7 h => ?_)
 try simp only [*, go_sem]
 refine cr h (store_doubted_ok G p0 x7.Txn) (fun v8 h => ?_)
 refine oin h (fun hb9 hkhb9 h => ?_) (fun hb9 hkhb9 h => ?_)
 cases h.e
 simp only [*, go_sem, mA, mS]
 refine oi h (fun hb10 h => ?_) (fun hb10 h => ?_)
 have := of_decide_eq_true hb10
 cases h.e
 simp only [*, go_sem, mA, mS]
 refine oi h (fun hb11 h => ?_) (fun hb11 h => ?_)
 cases h.e
 simp only [*, go_sem, mA, mS]
 refine oi h (fun hb12 h => ?_) (fun hb12 h => ?_)
 have := of_decide_eq_true hb12
 cases h.e
 simp only [*, go_sem, mA, mS]
 refine oi h (fun hb13 h => ?_) (fun hb13 h => ?_)
 cases h.e
 simp only [*, go_sem, mA, mS]
 refine oi h (fun hb14 h => ?_) (fun hb14 h => ?_)
 have := of_decide_eq_true hb14
 cases h.e
 simp only [*, go_sem, mA, mS]
 refine oi h (fun hb15 h => ?_) (fun hb15 h => ?_)
 cases h.e
 simp only [*, go_sem, mA, mS]
 refine oin h (fun hb16 hkhb16 h => ?_) (fun hb16 hkhb16 h => ?_)
 refine oi h (fun hb17 h => ?_) (fun hb17 h => ?_)
 cases h.e
 simp only [*, go_sem, mA, mS]
 have := Nat.le_of_lt hkx7
 try simp only [*, go_sem]
 intro hl19
 try simp only [*, go_sem]
 refine jn0 h ([zK 1 (Store.enc p0), zL 8 6 (p0.Locks.map Lock.enc), zI 9 ((p0.Locks.length : Nat) : Int), zI 10 ((a4_1 : Nat) : Int), (21, .one (.p (.q 0 0 2))), zI 22 x7.Key, zB 23 false, (26, .one (.p (.q 0 0 2))), zI 27 x7.Key, zB 28 false, (31, .one (.p (.q 0 0 4))), zI 32 x7.Value, zB 33 false, (36, .one (.p (.q 0 0 4))), zI 37 x7.Value, zB 38 false, (41, .one (.p (.q 0 0 5))), zI 42 x7.Ask, zB 43 false, (46, .one (.p (.q 0 0 5))), zI 47 x7.Ask, zB 48 false, (51, .one (.p (.q 0 0 3))), zB 52 false, zB 53 true, zB 54 true, (55, .one (.p (.q 0 0 4))), zI 56 x7.Value, (57, .one (.p (.q 0 0 5))), zI 58 x7.Ask, zI 59 (IntKind.i64.wrap (x7.Value + x7.Ask)), zB 60 false, zB 61 false]) ([ox [zi x7.Txn.Site, zi x7.Txn.N, zi x7.Key, .d (.b false), zi x7.Value, zi x7.Ask]]) (fun k21 h => ?_) (fun h => ?_)
 try simp only [*, go_sem]
 refine lp1 (store_locks_L2 p0 a4_1 x7 k21) (fun a22_1 => [zK 1 (Store.enc p0), zP 4 0, zL 8 6 (p0.Locks.map Lock.enc), zI 9 ((p0.Locks.length : Nat) : Int), zI 10 ((a4_1 : Nat) : Int), (21, .one (.p (.q 0 0 2))), zI 22 x7.Key, zB 23 false, (26, .one (.p (.q 0 0 2))), zI 27 x7.Key, zB 28 false, (31, .one (.p (.q 0 0 4))), zI 32 x7.Value, zB 33 false, (36, .one (.p (.q 0 0 4))), zI 37 x7.Value, zB 38 false, (41, .one (.p (.q 0 0 5))), zI 42 x7.Ask, zB 43 false, (46, .one (.p (.q 0 0 5))), zI 47 x7.Ask, zB 48 false, (51, .one (.p (.q 0 0 3))), zB 52 false, zB 53 true, zB 54 true, (55, .one (.p (.q 0 0 4))), zI 56 x7.Value, (57, .one (.p (.q 0 0 5))), zI 58 x7.Ask, zI 59 (IntKind.i64.wrap (x7.Value + x7.Ask)), zB 60 false, zB 61 false, zL 66 6 ((p0.Locks.take a4_1).map Lock.enc), zI 67 ((min a4_1 p0.Locks.length : Nat) : Int), zI 68 ((a22_1 : Nat) : Int)]) (fun a22_1 => [ox [zi x7.Txn.Site, zi x7.Txn.N, zi x7.Key, .d (.b false), zi x7.Value, zi x7.Ask]]) h [] [some 0] (fun n23 a22_1 h => ?_) (by intros; rw [store_locks_L2])
 rw [store_locks_L2] at h
 refine oi h (fun hb24 h => ?_) (fun hb24 h => ?_)
 refine obg h (fun x25 _ hkx25 h => ?_)
 try simp only [List.length_take, List.length_drop, List.length_append, List.length_set, List.length_map, List.length_cons, List.length_nil, Nat.zero_add] at hkx25
 refine oi h (fun hb26 h => ?_) (fun hb26 h => ?_)
 refine oi h (fun hb27 h => ?_) (fun hb27 h => ?_)
 try simp only [*, go_sem]
 cases h.e
 simp only [*, go_sem, mA, mS]
 try simp only [*, go_sem]
 refine oi h (fun hb28 h => ?_) (fun hb28 h => ?_)
 cases h.e
 simp only [*, go_sem, mA, mS]
 have := wrap_succ_max hkx25 hl19
 try simp only [*, go_sem]
 exact lc (a22_1 + 1) h.e [some 0]
 have := wrap_succ_max hkx25 hl19
 try simp only [*, go_sem]
 exact lc (a22_1 + 1) h.e [some 0]
 try simp only [*, go_sem]
 exact jc () h.e [some 0]
 have := wrap_succ_max hkx7 hl1
 try simp only [*, go_sem]
 exact lc (a4_1 + 1) h.e []
 have := Nat.le_of_lt hkx7
 try simp only [*, go_sem]
 intro hl33
 try simp only [*, go_sem]
 refine jn0 h ([zK 1 (Store.enc p0), zL 8 6 (p0.Locks.map Lock.enc), zI 9 ((p0.Locks.length : Nat) : Int), zI 10 ((a4_1 : Nat) : Int), (21, .one (.p (.q 0 0 2))), zI 22 x7.Key, zB 23 false, (26, .one (.p (.q 0 0 2))), zI 27 x7.Key, zB 28 false, (31, .one (.p (.q 0 0 4))), zI 32 x7.Value, zB 33 false, (36, .one (.p (.q 0 0 4))), zI 37 x7.Value, zB 38 false, (41, .one (.p (.q 0 0 5))), zI 42 x7.Ask, zB 43 false, (46, .one (.p (.q 0 0 5))), zI 47 x7.Ask, zB 48 false, (51, .one (.p (.q 0 0 3))), zB 52 true, zB 53 false, zB 54 false, zB 61 false]) ([ox [zi x7.Txn.Site, zi x7.Txn.N, zi x7.Key, .d (.b true), zi x7.Value, zi x7.Ask]]) (fun k35 h => ?_) (fun h => ?_)
 try simp only [*, go_sem]
 refine lp1 (store_locks_L3 p0 a4_1 x7 k35) (fun a36_1 => [zK 1 (Store.enc p0), zP 4 0, zL 8 6 (p0.Locks.map Lock.enc), zI 9 ((p0.Locks.length : Nat) : Int), zI 10 ((a4_1 : Nat) : Int), (21, .one (.p (.q 0 0 2))), zI 22 x7.Key, zB 23 false, (26, .one (.p (.q 0 0 2))), zI 27 x7.Key, zB 28 false, (31, .one (.p (.q 0 0 4))), zI 32 x7.Value, zB 33 false, (36, .one (.p (.q 0 0 4))), zI 37 x7.Value, zB 38 false, (41, .one (.p (.q 0 0 5))), zI 42 x7.Ask, zB 43 false, (46, .one (.p (.q 0 0 5))), zI 47 x7.Ask, zB 48 false, (51, .one (.p (.q 0 0 3))), zB 52 true, zB 53 false, zB 54 false, zB 61 false, zL 66 6 ((p0.Locks.take a4_1).map Lock.enc), zI 67 ((min a4_1 p0.Locks.length : Nat) : Int), zI 68 ((a36_1 : Nat) : Int)]) (fun a36_1 => [ox [zi x7.Txn.Site, zi x7.Txn.N, zi x7.Key, .d (.b true), zi x7.Value, zi x7.Ask]]) h [] [some 0] (fun n37 a36_1 h => ?_) (by intros; rw [store_locks_L3])
 rw [store_locks_L3] at h
 refine oi h (fun hb38 h => ?_) (fun hb38 h => ?_)
 refine obg h (fun x39 _ hkx39 h => ?_)
 try simp only [List.length_take, List.length_drop, List.length_append, List.length_set, List.length_map, List.length_cons, List.length_nil, Nat.zero_add] at hkx39
 refine oi h (fun hb40 h => ?_) (fun hb40 h => ?_)
 refine oi h (fun hb41 h => ?_) (fun hb41 h => ?_)
 try simp only [*, go_sem]
 cases h.e
 simp only [*, go_sem, mA, mS]
 try simp only [*, go_sem]
 refine oi h (fun hb42 h => ?_) (fun hb42 h => ?_)
 cases h.e
 simp only [*, go_sem, mA, mS]
 cases h.e
 simp only [*, go_sem, mA, mS]
 have := wrap_succ_max hkx39 hl33
 try simp only [*, go_sem]
 exact lc (a36_1 + 1) h.e [some 0]
 try simp only [*, go_sem]
 exact jc () h.e [some 0]
 have := wrap_succ_max hkx7 hl1
 try simp only [*, go_sem]
 exact lc (a4_1 + 1) h.e []
 try simp only [*, go_sem]
 exact jc () h.e []
 try simp only [*, go_sem]
 intro hl45
 cases h.e
 simp only [*, go_sem, mA, mS]
def store_Check (p0 : Store) : Option (Int) := (Option.bind (store_items p0.Items) fun v1 => (if (!v1) = true then (some 9) else (Option.bind (store_doubts p0) fun v3 => (if (!v3) = true then (some 9) else (Option.bind (store_locks p0) fun v5 => (if (!v5) = true then (some 9) else (some 0)))))))
def F40 : VFn := ⟨17, (.seq (.reg [vo 1 (.box 4 (.t 0)), mi 2 0]) (.seq (.seq (.reg [vf 3 0 1, vs 4 3, vo 5 (.call 84 [(.t 4)]), nt 6 5, vm 7 6, gf 8 7 (.ld true 4 (.t 1)), gf 9 7 (.call 85 [(.t 8)]), gf 10 7 (.un .not (.t 9)), vo 11 (.pick (.t 7) (cb true) (.t 10)), vm 12 11, gf 13 12 (.ld true 4 (.t 1)), gf 14 12 (.call 86 [(.t 13)]), gf 15 12 (.un .not (.t 14)), vo 16 (.pick (.t 12) (cb true) (.t 15))]) (.cond (.t 16) (.seq (.reg [mi 2 9]) .ret) .skip)) (.seq (.reg [mi 2 0]) .ret))), [.t 2]⟩
theorem low40 : lowF Tryd.prog 40 = some F40.strip := by kernel_rfl
theorem fok40 : fOk Tryd.prog 40 = true := by kernel_rfl
theorem store_Check_ok (p0 : Store) (r : Int) (h : store_Check p0 = some r) : FnRO Tryd.prog G 40 [.agg p0.bx] (fun rs => rs = [.one (.i .i64 r)]) := by
 refine FnRO.of' low40 fok40 (by simp [F40]) ?_
 rw [store_Check] at h
 replace h := Hd.mk h
 simp only [F40, go_sem]
 try simp only [*, go_sem]
 refine cr h (store_items_ok G p0.Items) (fun v1 h => ?_)
 refine oin h (fun hb2 hkhb2 h => ?_) (fun hb2 hkhb2 h => ?_)
 cases h.e
 simp only [*, go_sem, mA, mS]
 try simp only [*, go_sem]
 refine cr h (store_doubts_ok G p0) (fun v3 h => ?_)
 refine oin h (fun hb4 hkhb4 h => ?_) (fun hb4 hkhb4 h => ?_)
 cases h.e
 simp only [*, go_sem, mA, mS]
 try simp only [*, go_sem]
 refine cr h (store_locks_ok G p0) (fun v5 h => ?_)
 refine oin h (fun hb6 hkhb6 h => ?_) (fun hb6 hkhb6 h => ?_)
 cases h.e
 simp only [*, go_sem, mA, mS]
 cases h.e
 simp only [*, go_sem, mA, mS]
def store_call (p0 : Store) (p1 : Txn) (p2 : Int) : Option (Int) := (Option.bind (store_Check p0) fun v1 => (if (v1 != 0) = true then (some v1) else (Option.bind (store_txn p1) fun v3 => (if (!v3) = true then (some 2) else (if (decide (p2 < 0)) = true then (some 2) else (if (decide (p2 ≥ 8)) = true then (some 2) else (some 0)))))))
def F87 : VFn := ⟨24, (.seq (.reg [vo 3 (.boxk 4 (.t 0)), vo 4 (.boxk 2 (.t 1)), mi 6 0]) (.seq (.seq (.reg [vl 8 4 3, vo 9 (.call 40 [(.t 8)]), vm 7 9]) (.seq (.reg [vm 10 7, bk 11 .neq 10 0]) (.cond (.t 11) (.seq (.reg [vm 12 7, vm 6 12]) .ret) .skip))) (.seq (.seq (.reg [vl 13 2 4, vo 14 (.call 102 [(.t 13)]), nt 15 14, vm 16 15, gf 17 16 (.mv (.t 2)), gf 18 16 (.bin .i .lss (.t 17) (ci 0)), vo 19 (.pick (.t 16) (cb true) (.t 18)), vm 20 19, gf 21 20 (.mv (.t 2)), gf 22 20 (.bin .i .geq (.t 21) (ci 8)), vo 23 (.pick (.t 20) (cb true) (.t 22))]) (.cond (.t 23) (.seq (.reg [mi 6 2]) .ret) .skip)) (.seq (.reg [mi 6 0]) .ret)))), [.t 6]⟩
theorem low87 : lowF Tryd.prog 87 = some F87.strip := by kernel_rfl
theorem fok87 : fOk Tryd.prog 87 = true := by kernel_rfl
theorem store_call_ok (p0 : Store) (p1 : Txn) (p2 : Int) (r : Int) (h : store_call p0 p1 p2 = some r) : FnRO Tryd.prog G 87 [.agg p0.bx, .agg p1.bx, .one (.d (.i .i64 p2))] (fun rs => rs = [.one (.i .i64 r)]) := by
 refine FnRO.of' low87 fok87 (by simp [F87]) ?_
 rw [store_call] at h
 replace h := Hd.mk h
 simp only [F87, go_sem]
 try simp only [*, go_sem]
 refine cr h (store_Check_ok G p0) (fun v1 h => ?_)
 refine oi h (fun hb2 h => ?_) (fun hb2 h => ?_)
 cases h.e
 simp only [*, go_sem, mA, mS]
 try simp only [*, go_sem]
 refine cr h (store_txn_ok G p1) (fun v3 h => ?_)
 refine oin h (fun hb4 hkhb4 h => ?_) (fun hb4 hkhb4 h => ?_)
 cases h.e
 simp only [*, go_sem, mA, mS]
 refine oi h (fun hb5 h => ?_) (fun hb5 h => ?_)
 have := of_decide_eq_true hb5
 cases h.e
 simp only [*, go_sem, mA, mS]
 refine oi h (fun hb6 h => ?_) (fun hb6 h => ?_)
 cases h.e
 simp only [*, go_sem, mA, mS]
 cases h.e
 simp only [*, go_sem, mA, mS]
def store_Writes_L1 (p0 : Store) (p1 : Txn) (k5 : Int → Option (Int × Int)) : Nat → Int → Nat → Option (Int × Int)
 | 0, _, _ => none
 | n7 + 1, a6_1, a6_2 => (if (decide (a6_2 < p0.Locks.length)) = true then (Option.bind (p0.Locks[a6_2]?) fun x9 => (if ((x9.Txn.Site == p1.Site) && (x9.Txn.N == p1.N)) = true then (withK (fun (b11_1 : Int) => (store_Writes_L1 p0 p1 k5 n7 b11_1 (a6_2 + 1))) fun k12 => (if x9.Write = true then (k12 (IntKind.i64.wrap (a6_1 + 1))) else (k12 a6_1))) else (withK (store_Writes_L1 p0 p1 k5 n7 a6_1 (a6_2 + 1)) fun k16 => k16))) else (k5 a6_1))
def store_Writes (p0 : Store) (p1 : Txn) : Option (Int × Int) := (Option.bind (store_call p0 p1 0) fun v1 => (if (v1 != 0) = true then (some (0, v1)) else (withK (fun (b4_1 : Int) => (some (b4_1, 0))) fun k5 => (store_Writes_L1 p0 p1 k5 (p0.Locks.length + 1) 0 0))))
def F41 : VFn := ⟨35, (.seq (.reg [vo 2 (.boxk 4 (.t 0)), vo 3 (.boxk 2 (.t 1)), mi 4 0, mi 5 0]) (.seq (.seq (.reg [vl 10 4 2, vl 11 2 3, vo 12 (.call 87 [(.t 10), (.t 11), (ci 0)]), vm 6 12]) (.seq (.reg [vm 13 6, bk 14 .neq 13 0]) (.cond (.t 14) (.seq (.reg [vm 15 6, mi 4 0, vm 5 15]) .ret) .skip))) (.seq (.reg [mi 7 0]) (.seq (.seq (.reg [vf 16 1 2, vs 17 16, ln 18 17, mi 19 0]) (.wk (.block 0 (.loop (.seq (.reg [bt 20 .lss 19 18]) (.seq (.cond (.t 20) .skip (.exit 0)) (.seq (.block 1 (.seq (.reg [xa 21 6 17 19, vl 22 6 21, vo 9 (.alloc [(zi 0), (zi 0), (zi 0), (.d (.b false)), (zi 0), (zi 0)]), vu (.st 6 (.t 9) (.t 22))]) (.seq (.reg [vf 23 0 9, vl 24 2 23, vl 25 2 3, vo 26 (.eqs false [.i, .i] (.t 24) (.t 25)), vm 27 26, gt 28 27 (.fa 3 (.t 9)), gt 29 27 (.ld false 1 (.t 28)), vo 30 (.pick (.t 27) (.t 29) (cb false))]) (.wk (.cond (.t 30) (.reg [vm 31 7, bk 32 .add 31 1, vm 7 32]) .skip))))) (.reg [bk 33 .add 19 1, vm 19 33])))))))) (.seq (.reg [vm 34 7, vm 4 34, mi 5 0]) .ret))))), [.t 4, .t 5]⟩
theorem low41 : lowF Tryd.prog 41 = some F41.strip := by kernel_rfl
theorem fok41 : fOk Tryd.prog 41 = true := by kernel_rfl
theorem store_Writes_ok (p0 : Store) (p1 : Txn) (r : Int × Int) (h : store_Writes p0 p1 = some r) : FnRO Tryd.prog G 41 [.agg p0.bx, .agg p1.bx] (fun rs => rs = [.one (.i .i64 r.1), .one (.i .i64 r.2)]) := by
 refine FnRO.of' low41 fok41 (by simp [F41]) ?_
 rw [store_Writes] at h
 replace h := Hd.mk h
 simp only [F41, go_sem]
 try simp only [*, go_sem]
 refine cr h (store_call_ok G p0 p1 0) (fun v1 h => ?_)
 refine oi h (fun hb2 h => ?_) (fun hb2 h => ?_)
 cases h.e
 simp only [*, go_sem, mA, mS]
 try simp only [*, go_sem]
 intro hl3
 try simp only [*, go_sem]
 refine jn1 h (fun b4_1 => [zI 7 b4_1]) (fun b4_1 => []) (fun k5 h => ?_) (fun b4_1 h => ?_)
 try simp only [*, go_sem]
 refine lp2 (store_Writes_L1 p0 p1 k5) (fun a6_1 a6_2 => [zK 3 (Txn.enc p1), zI 7 a6_1, zL 17 6 (p0.Locks.map Lock.enc), zI 18 ((p0.Locks.length : Nat) : Int), zI 19 ((a6_2 : Nat) : Int)]) (fun a6_1 a6_2 => []) h [] [] (fun n7 a6_1 a6_2 h => ?_) (by intros; rw [store_Writes_L1])
 rw [store_Writes_L1] at h
 refine oi h (fun hb8 h => ?_) (fun hb8 h => ?_)
 have := of_decide_eq_true hb8
 refine obg h (fun x9 _ hkx9 h => ?_)
 refine oi h (fun hb10 h => ?_) (fun hb10 h => ?_)
 try simp only [*, go_sem]
 try simp only [*, go_sem]
 refine jn1 h (fun b11_1 => [zK 3 (Txn.enc p1), zI 7 b11_1, zL 17 6 (p0.Locks.map Lock.enc), zI 18 ((p0.Locks.length : Nat) : Int), zI 19 ((a6_2 : Nat) : Int), (28, .one (.p (.q 0 0 3))), zB 29 x9.Write]) (fun b11_1 => [ox x9.bx]) (fun k12 h => ?_) (fun b11_1 h => ?_)
 refine oi h (fun hb13 h => ?_) (fun hb13 h => ?_)
 try simp only [*, go_sem]
 exact jc (IntKind.i64.wrap (a6_1 + 1)) h.e [some 0]
 try simp only [*, go_sem]
 exact jc (a6_1) h.e [some 0]
 have := wrap_succ_max hkx9 hl3
 try simp only [*, go_sem]
 exact lc (b11_1, a6_2 + 1) h.e []
 try simp only [*, go_sem]
 try simp only [*, go_sem]
 refine jn0 h ([zK 3 (Txn.enc p1), zI 7 a6_1, zL 17 6 (p0.Locks.map Lock.enc), zI 18 ((p0.Locks.length : Nat) : Int), zI 19 ((a6_2 : Nat) : Int)]) ([]) (fun k16 h => ?_) (fun h => ?_)
 try simp only [*, go_sem]
 exact jc () h.e []
 have := wrap_succ_max hkx9 hl3
 try simp only [*, go_sem]
 exact lc (a6_1, a6_2 + 1) h.e []
 try simp only [*, go_sem]
 exact jc (a6_1) h.e []
 cases h.e
 simp only [*, go_sem, mA, mS]
def label_Above (p0 : Label) (p1 : Label) : Option (Bool) := (withK (fun (b1_1 : Bool) => (some b1_1)) fun k2 => (if (decide (p0.Level ≥ p1.Level)) = true then (k2 (bitOp .i64 (· &&& ·) p0.Cats p1.Cats == p1.Cats)) else (k2 false)))
def F42 : VFn := ⟨20, (.seq (.reg [vo 2 (.boxk 2 (.t 0)), vo 3 (.boxk 2 (.t 1)), vo 4 (.mv (cb false))]) (.seq (.wk (.reg [vf 5 0 2, vs 6 5, vf 7 0 3, vs 8 7, bt 9 .geq 6 8, vm 10 9, gt 11 10 (.fa 1 (.t 2)), gt 12 10 (.ld false 1 (.t 11)), gt 13 10 (.fa 1 (.t 3)), gt 14 10 (.ld false 1 (.t 13)), gt 15 10 (.bin .i .and (.t 12) (.t 14)), gt 16 10 (.fa 1 (.t 3)), gt 17 10 (.ld false 1 (.t 16)), gt 18 10 (.bin .i .eql (.t 15) (.t 17)), vo 19 (.pick (.t 10) (.t 18) (cb false)), vm 4 19])) .ret)), [.t 4]⟩
theorem low42 : lowF Tryd.prog 42 = some F42.strip := by kernel_rfl
theorem fok42 : fOk Tryd.prog 42 = true := by kernel_rfl
theorem label_Above_ok (p0 : Label) (p1 : Label) (r : Bool) (h : label_Above p0 p1 = some r) : FnRO Tryd.prog G 42 [.agg p0.bx, .agg p1.bx] (fun rs => rs = [.one (.b r)]) := by
 refine FnRO.of' low42 fok42 (by simp [F42]) ?_
 rw [label_Above] at h
 replace h := Hd.mk h
 simp only [F42, go_sem]
 try simp only [*, go_sem]
 refine jn1 h (fun b1_1 => [zB 4 b1_1]) (fun b1_1 => []) (fun k2 h => ?_) (fun b1_1 h => ?_)
 refine oi h (fun hb3 h => ?_) (fun hb3 h => ?_)
 try simp only [*, go_sem]
 exact jc (bitOp .i64 (· &&& ·) p0.Cats p1.Cats == p1.Cats) h.e []
 try simp only [*, go_sem]
 exact jc (false) h.e []
 cases h.e
 simp only [*, go_sem, mA, mS]
def console_prepared (p0 : Store) (p1 : Txn) : Option (Bool) := (Option.bind (store_Writes p0 p1) fun v1 => (withK (fun (b2_1 : Bool) => (some b2_1)) fun k3 => (if (v1.2 == 0) = true then (k3 (decide (v1.1 > 0))) else (k3 false))))
def F45 : VFn := ⟨19, (.seq (.reg [vo 2 (.box 4 (.t 0)), vo 3 (.boxk 2 (.t 1)), vo 4 (.mv (cb false))]) (.seq (.reg [vl 8 4 2, vl 9 2 3, vo 10 (.call 41 [(.t 8), (.t 9)]), vm 7 10, et 11 7 0, et 12 7 1, vm 5 11, vm 6 12]) (.seq (.wk (.reg [vm 13 6, bk 14 .eql 13 0, vm 15 14, gt 16 15 (.mv (.t 5)), gt 17 15 (.bin .i .gtr (.t 16) (ci 0)), vo 18 (.pick (.t 15) (.t 17) (cb false)), vm 4 18])) .ret))), [.t 4]⟩
theorem low45 : lowF Tryd.prog 45 = some F45.strip := by kernel_rfl
theorem fok45 : fOk Tryd.prog 45 = true := by kernel_rfl
theorem console_prepared_ok (p0 : Store) (p1 : Txn) (r : Bool) (h : console_prepared p0 p1 = some r) : FnRO Tryd.prog G 45 [.agg p0.bx, .agg p1.bx] (fun rs => rs = [.one (.b r)]) := by
 refine FnRO.of' low45 fok45 (by simp [F45]) ?_
 rw [console_prepared] at h
 replace h := Hd.mk h
 simp only [F45, go_sem]
 try simp only [*, go_sem]
 refine cr h (store_Writes_ok G p0 p1) (fun v1 h => ?_)
 try simp only [*, go_sem]
 refine jn1 h (fun b2_1 => [zB 4 b2_1]) (fun b2_1 => []) (fun k3 h => ?_) (fun b2_1 h => ?_)
 refine oi h (fun hb4 h => ?_) (fun hb4 h => ?_)
 try simp only [*, go_sem]
 exact jc (decide (v1.1 > 0)) h.e []
 try simp only [*, go_sem]
 exact jc (false) h.e []
 cases h.e
 simp only [*, go_sem, mA, mS]
theorem itoa33_ok (htab_strconv_uint64pow10 : constG G 3 = .one (.d (.k tab_strconv_uint64pow10D))) (p0 : Int) (r : ByteArray) (h : itoaF p0 = some r) : FnRO Tryd.prog G 33 [.one (.d (.i .i64 p0))] (fun rs => rs = [.one (.s r)]) := itoa_okF itoaLays rfl (by kernel_rfl) (by kernel_rfl) (by rfl) htab_strconv_uint64pow10 p0 r h
def console_words (p0 : Int) (p1 : Txn) : Option (ByteArray) := (Option.bind (itoaF p0) fun v1 => (if v1.size + bs_7215ee9c.size ≤ maxLen then (Option.bind (itoaF p1.Site) fun v3 => (if v1.size + bs_7215ee9c.size + v3.size ≤ maxLen then (if v1.size + bs_7215ee9c.size + v3.size + bs_7215ee9c.size ≤ maxLen then (Option.bind (itoaF p1.N) fun v6 => (if v1.size + bs_7215ee9c.size + v3.size + bs_7215ee9c.size + v6.size ≤ maxLen then (some ((((v1 ++ bs_7215ee9c) ++ v3) ++ bs_7215ee9c) ++ v6)) else none)) else none) else none)) else none))
def F88 : VFn := ⟨17, (.seq (.reg [vo 3 (.boxk 2 (.t 1)), vo 4 (.mv (.c (.one (.d (.s ⟨#[]⟩)))))]) (.seq (.draw [vd (vm 5 0) 0, vd (vo 6 (.call 33 [(.t 5)])) 1, vd (vo 7 (.bin .s .add (.t 6) (.c (.one (.d (.s bs_7215ee9c)))))) 3, ⟨vf 8 0 3, 0, [1], none, []⟩, ⟨vs 9 8, 8, [1], none, []⟩, vd (vo 10 (.call 33 [(.t 9)])) 27, vd (vo 11 (.bin .s .add (.t 7) (.t 10))) 63, vd (vo 12 (.bin .s .add (.t 11) (.c (.one (.d (.s bs_7215ee9c)))))) 127, ⟨vf 13 1 3, 0, [1, 5], none, []⟩, ⟨vs 14 13, 256, [1, 5], none, []⟩, vd (vo 15 (.call 33 [(.t 14)])) 827, vd (vo 16 (.bin .s .add (.t 12) (.t 15))) 2047, vd (vm 4 16) 4095]) .ret)), [.t 4]⟩
theorem low88 : lowF Tryd.prog 88 = some F88.strip := by kernel_rfl
theorem fok88 : fOk Tryd.prog 88 = true := by kernel_rfl
theorem console_words_ok (htab_strconv_uint64pow10 : constG G 3 = .one (.d (.k tab_strconv_uint64pow10D))) (p0 : Int) (p1 : Txn) (r : ByteArray) (h : console_words p0 p1 = some r) : FnRO Tryd.prog G 88 [.one (.d (.i .i64 p0)), .agg p1.bx] (fun rs => rs = [.one (.s r)]) := by
 refine FnRO.of' low88 fok88 (by simp [F88]) ?_
 rw [console_words] at h
 replace h := Hd.mk h
 simp only [F88, go_sem]
 refine obk h (fun v1 hv1 h => ?_)
 try simp only [*, go_sem]
 refine cd (itoa33_ok G htab_strconv_uint64pow10 p0 v1 hv1) ?_
 refine ck h (fun _ h => ?_)
 refine obk h (fun v3 hv3 h => ?_)
 try simp only [*, go_sem]
 refine cd (itoa33_ok G htab_strconv_uint64pow10 p1.Site v3 hv3) ?_
 refine ck h (fun _ h => ?_)
 refine ck h (fun _ h => ?_)
 refine obk h (fun v6 hv6 h => ?_)
 try simp only [*, go_sem]
 refine cd (itoa33_ok G htab_strconv_uint64pow10 p1.N v6 hv6) ?_
 refine ck h (fun _ h => ?_)
 cases h.e
 simp only [*, go_sem, mA, mS]
def F43 : VFn := ⟨32, (.seq (.reg [vo 5 (.box 4 (.t 2))]) (.seq (.reg [vf 8 2 5, vs 9 8, ln 10 9, mi 11 0]) (.wk (.block 0 (.loop (.seq (.reg [bt 12 .lss 11 10]) (.seq (.cond (.t 12) .skip (.exit 0)) (.seq (.block 1 (.seq (.reg [xa 13 3 9 11, vl 14 3 13, vo 7 (.alloc [(zi 0), (zi 0), (zi 0)]), vu (.st 3 (.t 7) (.t 14))]) (.seq (.reg [vl 15 4 5, vf 16 0 7, vl 17 2 16, vo 18 (.call 45 [(.t 15), (.t 17)])]) (.wk (.cond (.t 18) (.drawt 11 [vd (vm 19 0) 0, vd (vm 20 1) 0, vd (vf 21 0 7) 0, vd (vl 22 2 21) 4, vd (vo 23 (.call 88 [(.t 20), (.t 22)])) 14, vd (vo 24 (.bin .s .add (.t 23) (.c (.one (.d (.s bs_7215ee9c)))))) 30, ⟨vf 25 2 7, 0, [4], none, []⟩, ⟨vs 26 25, 64, [4], none, []⟩, vd (vo 27 (.call 33 [(.t 26)])) 222, vd (vo 28 (.bin .s .add (.t 24) (.t 27))) 510, vd (vo 29 (.bin .s .add (.t 28) (.c (.one (.d (.s bs_68b329da)))))) 1022, vd (vo 30 (.call 31 [(.t 19), (.t 29)])) 2047]) .skip))))) (.reg [bk 31 .add 11 1, vm 11 31]))))))))), []⟩
theorem low43 : lowF Tryd.prog 43 = some F43.strip := by kernel_rfl
theorem fok43 : fOk Tryd.prog 43 = true := by kernel_rfl
def F44 : VFn := ⟨33, (.seq (.reg [vm 8 2, ln 9 8, mi 10 0]) (.wk (.block 0 (.loop (.seq (.reg [bt 11 .lss 10 9]) (.seq (.cond (.t 11) .skip (.exit 0)) (.seq (.block 1 (.seq (.reg [xa 12 4 8 10, vl 13 4 12, vo 7 (.alloc [(zi 0), (zi 0), (.d (.b false)), (.d (.b false))]), vu (.st 4 (.t 7) (.t 13))]) (.seq (.reg [vm 14 0, vm 15 1, vf 16 0 7, vl 17 2 16, vo 18 (.call 88 [(.t 15), (.t 17)]), vo 19 (.call 31 [(.t 14), (.t 18)])]) (.seq (.seq (.reg [vf 20 2 7, vs 21 20]) (.wk (.cond (.t 21) (.reg [vm 22 0, vo 23 (.call 31 [(.t 22), (.c (.one (.d (.s bs_4d42290a))))])]) (.reg [vm 24 0, vo 25 (.call 31 [(.t 24), (.c (.one (.d (.s bs_0fc6f503))))])])))) (.seq (.seq (.reg [vf 26 3 7, vs 27 26]) (.wk (.cond (.t 27) (.reg [vm 28 0, vo 29 (.call 31 [(.t 28), (.c (.one (.d (.s bs_6d74a691))))])]) .skip))) (.reg [vm 30 0, vo 31 (.call 36 [(.t 30), (.c (.one (.d (.i .u8 10))))])])))))) (.reg [bk 32 .add 10 1, vm 10 32])))))))), []⟩
theorem low44 : lowF Tryd.prog 44 = some F44.strip := by kernel_rfl
theorem fok44 : fOk Tryd.prog 44 = true := by kernel_rfl
def console_Show_L1 (p2 : List Store) (k14 : Option (ByteArray × Int)) : Nat → Nat → Option (ByteArray × Int)
 | 0, _ => none
 | n16 + 1, a15_1 => (if (decide (a15_1 < p2.length)) = true then (Option.bind (p2[a15_1]?) fun x18 => (Option.bind (store_Check x18) fun v19 => (if (v19 != 0) = true then (some ((⟨#[]⟩ : ByteArray), v19)) else (console_Show_L1 p2 k14 n16 (a15_1 + 1))))) else k14)
def console_Show_L3 (x28 : List Note) (k31 : Option (ByteArray × Int)) : Nat → Nat → Option (ByteArray × Int)
 | 0, _ => none
 | n33 + 1, a32_1 => (if (decide (a32_1 < x28.length)) = true then (Option.bind (x28[a32_1]?) fun x35 => (Option.bind (store_Writes (Store.mk [] [] [] []) x35.Txn) fun v36 => (if (v36.2 != 0) = true then (some ((⟨#[]⟩ : ByteArray), 9)) else (console_Show_L3 x28 k31 n33 (a32_1 + 1))))) else k31)
def console_Show_L2 (p3 : List (List Note)) (k24 : Option (ByteArray × Int)) : Nat → Nat → Option (ByteArray × Int)
 | 0, _ => none
 | n26 + 1, a25_1 => (if (decide (a25_1 < p3.length)) = true then (Option.bind (p3[a25_1]?) fun x28 => (withK (console_Show_L2 p3 k24 n26 (a25_1 + 1)) fun k31 => (console_Show_L3 x28 k31 (x28.length + 1) 0))) else k24)
def console_Show_L5 (a49_1 : Nat) (x61 : Store) (k64 : (List UInt8) → Option (ByteArray × Int)) : Nat → Nat → (List UInt8) → Option (ByteArray × Int)
 | 0, _, _ => none
 | n66 + 1, a65_1, a65_2 => (if (decide (a65_1 < x61.Doubts.length)) = true then (Option.bind (x61.Doubts[a65_1]?) fun x68 => (Option.bind (console_prepared x61 x68.Txn) fun v69 => (withK (fun (b70_1 : List UInt8) => (console_Show_L5 a49_1 x61 k64 n66 (a65_1 + 1) b70_1)) fun k71 => (if v69 = true then (Option.bind (console_words ((a49_1 : Nat) : Int) x68.Txn) fun v73 => (if v73.size + bs_7215ee9c.size ≤ maxLen then (Option.bind (itoaF x68.Age) fun v75 => (if v73.size + bs_7215ee9c.size + v75.size ≤ maxLen then (if v73.size + bs_7215ee9c.size + v75.size + bs_68b329da.size ≤ maxLen then (if a65_2.length + (((v73 ++ bs_7215ee9c) ++ v75) ++ bs_68b329da).size ≤ 140737488355328 then (k71 (a65_2 ++ (((v73 ++ bs_7215ee9c) ++ v75) ++ bs_68b329da).data.toList)) else none) else none) else none)) else none)) else (k71 a65_2))))) else (k64 a65_2))
def console_Show_L6 (a49_1 : Nat) (x79 : List Note) (k82 : (List UInt8) → Option (ByteArray × Int)) : Nat → Nat → (List UInt8) → Option (ByteArray × Int)
 | 0, _, _ => none
 | n84 + 1, a83_1, a83_2 => (if (decide (a83_1 < x79.length)) = true then (Option.bind (x79[a83_1]?) fun x86 => (Option.bind (console_words ((a49_1 : Nat) : Int) x86.Txn) fun v87 => (if a83_2.length + v87.size ≤ 140737488355328 then (withK (fun (b88_1 : List UInt8) => (withK (fun (b91_1 : List UInt8) => (if (0 ≤ (10 : Int) ∧ (10 : Int) < 256) ∧ b91_1.length + 1 ≤ 140737488355328 then (console_Show_L6 a49_1 x79 k82 n84 (a83_1 + 1) (b91_1 ++ [UInt8.ofNat (Int.toNat (10 : Int))])) else none)) fun k92 => (if x86.Damage = true then (if b88_1.length + bs_6d74a691.size ≤ 140737488355328 then (k92 (b88_1 ++ bs_6d74a691.data.toList)) else none) else (k92 b88_1)))) fun k89 => (if x86.Yes = true then (if (a83_2 ++ v87.data.toList).length + bs_4d42290a.size ≤ 140737488355328 then (k89 ((a83_2 ++ v87.data.toList) ++ bs_4d42290a.data.toList)) else none) else (if (a83_2 ++ v87.data.toList).length + bs_0fc6f503.size ≤ 140737488355328 then (k89 ((a83_2 ++ v87.data.toList) ++ bs_0fc6f503.data.toList)) else none))) else none))) else (k82 a83_2))
def console_Show_L4 (p0 : Config) (p1 : Int) (p2 : List Store) (p3 : List (List Note)) (p4 : Command) (k48 : (List UInt8) → Option (ByteArray × Int)) : Nat → Nat → (List UInt8) → Option (ByteArray × Int)
 | 0, _, _ => none
 | n50 + 1, a49_1, a49_2 => (if (decide (a49_1 < p0.Labels.length)) = true then (if 0 ≤ p1 then (Option.bind (p0.Labels[p1.toNat]?) fun x52 => (Option.bind (p0.Labels[a49_1]?) fun x54 => (Option.bind (label_Above x52 x54) fun v55 => (if (!v55) = true then (console_Show_L4 p0 p1 p2 p3 p4 k48 n50 (a49_1 + 1) a49_2) else (withK (fun (b58_1 : List UInt8) => (console_Show_L4 p0 p1 p2 p3 p4 k48 n50 (a49_1 + 1) b58_1)) fun k59 => (if (p4.Kind == 1) = true then (Option.bind (p2[a49_1]?) fun x61 => (withK (fun (b63_1 : List UInt8) => (k59 b63_1)) fun k64 => (console_Show_L5 a49_1 x61 k64 (x61.Doubts.length + 1) 0 a49_2))) else (Option.bind (p3[a49_1]?) fun x79 => (withK (fun (b81_1 : List UInt8) => (k59 b81_1)) fun k82 => (console_Show_L6 a49_1 x79 k82 (x79.length + 1) 0 a49_2))))))))) else none) else (k48 a49_2))
def console_Show (p0 : Config) (p1 : Int) (p2 : List Store) (p3 : List (List Note)) (p4 : Command) : Option (ByteArray × Int) := (Option.bind (label_Check p0) fun v1 => (if (v1 != 0) = true then (some ((⟨#[]⟩ : ByteArray), v1)) else (if (decide (p1 < 0)) = true then (some ((⟨#[]⟩ : ByteArray), 6)) else (if (decide (p1 ≥ ((p0.Labels.length : Nat) : Int))) = true then (some ((⟨#[]⟩ : ByteArray), 6)) else (if (((p2.length : Nat) : Int) != ((p0.Labels.length : Nat) : Int)) = true then (some ((⟨#[]⟩ : ByteArray), 9)) else (if (((p3.length : Nat) : Int) != ((p0.Labels.length : Nat) : Int)) = true then (some ((⟨#[]⟩ : ByteArray), 9)) else (withK (withK (withK (fun (b40_1 : Bool) => (withK (fun (b43_1 : List UInt8) => (some ((⟨b43_1.toArray⟩ : ByteArray), 0))) fun k44 => (if b40_1 = true then (withK (fun (b47_1 : List UInt8) => (k44 b47_1)) fun k48 => (console_Show_L4 p0 p1 p2 p3 p4 k48 (p0.Labels.length + 1) 0 ([] : List UInt8))) else (if (p4.Kind == 2) = true then (if (decide (p4.Label ≥ 0)) = true then (if (decide (p4.Label < ((p0.Labels.length : Nat) : Int))) = true then (if 0 ≤ p1 then (Option.bind (p0.Labels[p1.toNat]?) fun x99 => (if 0 ≤ p4.Label then (Option.bind (p0.Labels[p4.Label.toNat]?) fun x101 => (Option.bind (label_Above x99 x101) fun v103 => (if v103 = true then (if 0 ≤ p4.Label then (Option.bind (p2[p4.Label.toNat]?) fun x105 => (Option.bind (console_prepared x105 p4.Txn) fun v107 => (withK (fun (b108_1 : List UInt8) => (k44 b108_1)) fun k109 => (if v107 = true then (if ([] : List UInt8).length + bs_298e1f25.size ≤ 140737488355328 then (k109 (([] : List UInt8) ++ bs_298e1f25.data.toList)) else none) else (if ([] : List UInt8).length + bs_d9f7497c.size ≤ 140737488355328 then (k109 (([] : List UInt8) ++ bs_d9f7497c.data.toList)) else none))))) else none) else (withK (k44 (([] : List UInt8) ++ bs_d9f7497c.data.toList)) fun k112 => (if ([] : List UInt8).length + bs_d9f7497c.size ≤ 140737488355328 then k112 else none))))) else none)) else none) else (withK (k44 (([] : List UInt8) ++ bs_d9f7497c.data.toList)) fun k114 => (if ([] : List UInt8).length + bs_d9f7497c.size ≤ 140737488355328 then k114 else none))) else (withK (k44 (([] : List UInt8) ++ bs_d9f7497c.data.toList)) fun k116 => (if ([] : List UInt8).length + bs_d9f7497c.size ≤ 140737488355328 then k116 else none))) else (some ((⟨#[]⟩ : ByteArray), 3)))))) fun k41 => (if (p4.Kind == 1) = true then (k41 true) else (k41 (p4.Kind == 4)))) fun k24 => (console_Show_L2 p3 k24 (p3.length + 1) 0)) fun k14 => (console_Show_L1 p2 k14 (p2.length + 1) 0))))))))
def F16 : VFn := ⟨165, (.seq (.reg [vo 5 (.box 3 (.t 0)), vo 9 (.boxk 5 (.t 4)), vo 10 (.mv (.c (.one (.d (.s ⟨#[]⟩))))), mi 11 0]) (.seq (.seq (.reg [vl 25 3 5, vo 26 (.call 29 [(.t 25)]), vm 12 26]) (.seq (.reg [vm 27 12, bk 28 .neq 27 0]) (.cond (.t 28) (.seq (.reg [vm 29 12, vo 10 (.mv (.c (.one (.d (.s ⟨#[]⟩))))), vm 11 29]) .ret) .skip))) (.seq (.seq (.reg [vm 30 1, bk 31 .lss 30 0, vm 32 31, gf 33 32 (.mv (.t 1)), gf 34 32 (.fa 1 (.t 5)), gf 35 32 (.ld false 1 (.t 34)), gf 36 32 (.len (.t 35)), gf 37 32 (.bin .i .geq (.t 33) (.t 36)), vo 38 (.pick (.t 32) (cb true) (.t 37))]) (.cond (.t 38) (.seq (.reg [vo 10 (.mv (.c (.one (.d (.s ⟨#[]⟩))))), mi 11 6]) .ret) .skip)) (.seq (.seq (.reg [vm 39 2, ln 40 39, vf 41 1 5, vs 42 41, ln 43 42, bt 44 .neq 40 43, vm 45 44, gf 46 45 (.mv (.t 3)), gf 47 45 (.len (.t 46)), gf 48 45 (.fa 1 (.t 5)), gf 49 45 (.ld false 1 (.t 48)), gf 50 45 (.len (.t 49)), gf 51 45 (.bin .i .neq (.t 47) (.t 50)), vo 52 (.pick (.t 45) (cb true) (.t 51))]) (.cond (.t 52) (.seq (.reg [vo 10 (.mv (.c (.one (.d (.s ⟨#[]⟩))))), mi 11 9]) .ret) .skip)) (.seq (.seq (.reg [vm 53 2, ln 54 53, mi 55 0]) (.wk (.block 0 (.loop (.seq (.reg [bt 56 .lss 55 54]) (.seq (.cond (.t 56) .skip (.exit 0)) (.seq (.block 1 (.seq (.reg [xa 57 4 53 55, vl 58 4 57, vo 14 (.alloc [(.nl 3), (.nl 6), (.nl 3), (.nl 2)]), vu (.st 4 (.t 14) (.t 58))]) (.seq (.reg [vl 59 4 14, vo 60 (.call 40 [(.t 59)]), vm 15 60]) (.seq (.reg [vm 61 15, bk 62 .neq 61 0]) (.cond (.t 62) (.seq (.reg [vm 63 15, vo 10 (.mv (.c (.one (.d (.s ⟨#[]⟩))))), vm 11 63]) .ret) .skip))))) (.reg [bk 64 .add 55 1, vm 55 64])))))))) (.seq (.seq (.reg [vm 65 3, ln 66 65, mi 67 0]) (.wk (.block 2 (.loop (.seq (.reg [bt 68 .lss 67 66]) (.seq (.cond (.t 68) .skip (.exit 2)) (.seq (.block 3 (.seq (.reg [xa 69 1 65 67, vs 70 69, vm 17 70]) (.seq (.reg [vm 71 17, ln 72 71, mi 73 0]) (.wk (.block 4 (.loop (.seq (.reg [bt 74 .lss 73 72]) (.seq (.cond (.t 74) .skip (.exit 4)) (.seq (.block 5 (.seq (.reg [xa 75 4 71 73, vl 76 4 75, vo 19 (.alloc [(zi 0), (zi 0), (.d (.b false)), (.d (.b false))]), vu (.st 4 (.t 19) (.t 76))]) (.seq (.reg [vo 78 (.build [(.nl 3), (.nl 6), (.nl 3), (.nl 2)] []), vf 79 0 19, vl 80 2 79, vo 81 (.call 41 [(.t 78), (.t 80)]), vm 77 81, et 82 77 0, et 83 77 1, vm 20 82, vm 21 83]) (.seq (.reg [vm 84 21, bk 85 .neq 84 0]) (.cond (.t 85) (.seq (.reg [vo 10 (.mv (.c (.one (.d (.s ⟨#[]⟩))))), mi 11 9]) .ret) .skip))))) (.reg [bk 86 .add 73 1, vm 73 86])))))))))) (.reg [bk 87 .add 67 1, vm 67 87])))))))) (.seq (.reg [vo 22 (.allocb 68 5)]) (.seq (.seq (.reg [vf 88 0 9, vs 89 88]) (.block 6 (.seq (.seq (.reg [bk 91 .eql 89 1, vm 90 91]) (.wk (.cond (.t 90) .skip (.reg [bk 92 .eql 89 4, vm 90 92])))) (.wk (.cond (.t 90) (.seq (.reg [vf 93 1 5, vs 94 93, ln 95 94, mi 96 0]) (.wk (.block 7 (.loop (.seq (.reg [bt 97 .lss 96 95]) (.seq (.cond (.t 97) .skip (.exit 7)) (.seq (.block 8 (.seq (.reg [vm 98 96, vm 23 98]) (.seq (.seq (.draw [vd (vf 99 1 5) 0, vd (vs 100 99) 1, vd (vm 101 1) 0, vd (xa 102 2 100 101) 7, vd (vl 103 2 102) 15, vd (vf 104 1 5) 0, vd (vs 105 104) 32, vd (vm 106 23) 0, vd (xa 107 2 105 106) 224, vd (vl 108 2 107) 480, vd (vo 109 (.call 42 [(.t 103), (.t 108)])) 1023, vd (nt 110 109) 2047]) (.cond (.t 110) (.exit 8) .skip)) (.seq (.reg [vf 111 0 9, vs 112 111, bk 113 .eql 112 1]) (.wk (.cond (.t 113) (.reg [vm 114 23, vm 115 2, vm 116 23, xa 117 4 115 116, vl 118 4 117, vo 119 (.call 43 [(.t 22), (.t 114), (.t 118)])]) (.reg [vm 120 23, vm 121 3, vm 122 23, xa 123 1 121 122, vs 124 123, vo 125 (.call 44 [(.t 22), (.t 120), (.t 124)])]))))))) (.reg [bk 126 .add 96 1, vm 96 126])))))))) (.seq (.reg [bk 128 .eql 89 2, vm 127 128]) (.cond (.t 127) (.seq (.reg [vf 129 1 9, vs 130 129, vm 24 130]) (.seq (.draw [vd (vm 131 24) 0, vd (bk 132 .geq 131 0) 1, vd (vm 133 132) 3, vd (gt 134 133 (.mv (.t 24))) 7, vd (gt 135 133 (.fa 1 (.t 5))) 7, vd (gt 136 133 (.ld false 1 (.t 135))) 23, vd (gt 137 133 (.len (.t 136))) 55, vd (gt 138 133 (.bin .i .lss (.t 134) (.t 137))) 127, vd (vo 139 (.pick (.t 133) (.t 138) (cb false))) 255, vd (vm 140 139) 511, vd (gt 141 140 (.fa 1 (.t 5))) 1023, vd (gt 142 140 (.ld false 1 (.t 141))) 2047, vd (gt 143 140 (.mv (.t 1))) 1023, vd (gt 144 140 (.ia 2 (.t 142) (.t 143))) 8191, vd (gt 145 140 (.ld true 2 (.t 144))) 0x3fff, vd (gt 146 140 (.fa 1 (.t 5))) 1023, vd (gt 147 140 (.ld false 1 (.t 146))) 0x83ff, vd (gt 148 140 (.mv (.t 24))) 1023, vd (gt 149 140 (.ia 2 (.t 147) (.t 148))) 0x383ff, vd (gt 150 140 (.ld true 2 (.t 149))) 0x783ff, vd (gt 151 140 (.call 42 [(.t 145), (.t 150)])) 0xfffff, vd (vo 152 (.pick (.t 140) (.t 151) (cb false))) 0x1fffff, vd (vm 153 152) 0x3fffff, vd (gt 154 153 (.mv (.t 2))) 0x7fffff, vd (gt 155 153 (.mv (.t 24))) 0x7fffff, vd (gt 156 153 (.ia 4 (.t 154) (.t 155))) 0x1ffffff, vd (gt 157 153 (.ld true 4 (.t 156))) 0x3ffffff, vd (gt 158 153 (.fa 2 (.t 9))) 0x7fffff, vd (gt 159 153 (.ld true 2 (.t 158))) 0x87fffff, vd (gt 160 153 (.call 45 [(.t 157), (.t 159)])) 0x1fffffff, vd (vo 161 (.pick (.t 153) (.t 160) (cb false))) 0x3fffffff]) (.wk (.cond (.t 161) (.reg [vo 162 (.call 31 [(.t 22), (.c (.one (.d (.s bs_298e1f25))))])]) (.reg [vo 163 (.call 31 [(.t 22), (.c (.one (.d (.s bs_d9f7497c))))])]))))) (.seq (.reg [vo 10 (.mv (.c (.one (.d (.s ⟨#[]⟩))))), mi 11 3]) .ret)))))))) (.seq (.reg [vo 164 (.call 37 [(.t 22)]), vm 10 164, mi 11 0]) .ret))))))))), [.t 10, .t 11]⟩
theorem low16 : lowF Tryd.prog 16 = some F16.strip := by kernel_rfl
theorem fok16 : fOk Tryd.prog 16 = true := by kernel_rfl
theorem console_Show_ok (htab_strconv_uint64pow10 : constG G 3 = .one (.d (.k tab_strconv_uint64pow10D))) (p0 : Config) (p1 : Int) (p2 : List Store) (p3 : List (List Note)) (p4 : Command) (r : ByteArray × Int) (h : console_Show p0 p1 p2 p3 p4 = some r) : FnRO Tryd.prog G 16 [.agg p0.bx, .one (.d (.i .i64 p1)), .one (.d (.l 4 (p2.map Store.enc))), .one (.d (.l 1 (p3.map (encL 4 Note.enc)))), .agg p4.bx] (fun rs => rs = [.one (.s r.1), .one (.i .i64 r.2)]) := by
 refine FnRO.of' low16 fok16 (by simp [F16]) ?_
 rw [console_Show] at h
 replace h := Hd.mk h
 simp only [F16, go_sem]
 try simp only [*, go_sem]
 refine cr h (label_Check_ok G p0) (fun v1 h => ?_)
 refine oi h (fun hb2 h => ?_) (fun hb2 h => ?_)
 cases h.e
 simp only [*, go_sem, mA, mS]
 refine oi h (fun hb3 h => ?_) (fun hb3 h => ?_)
 have := of_decide_eq_true hb3
 cases h.e
 simp only [*, go_sem, mA, mS]
 try simp only [*, go_sem]
 intro hl4
 refine oi h (fun hb5 h => ?_) (fun hb5 h => ?_)
 cases h.e
 simp only [*, go_sem, mA, mS]
 try simp only [*, go_sem]
 intro hl6
 try simp only [*, go_sem]
 intro hl7
 refine oi h (fun hb8 h => ?_) (fun hb8 h => ?_)
 cases h.e
 simp only [*, go_sem, mA, mS]
 try simp only [*, go_sem]
 intro hl9
 try simp only [*, go_sem]
 intro hl10
 refine oi h (fun hb11 h => ?_) (fun hb11 h => ?_)
 cases h.e
 simp only [*, go_sem, mA, mS]
 try simp only [*, go_sem]
 intro hl12
 try simp only [*, go_sem]
 refine jn0 h ([zI 1 p1, zL 2 4 (p2.map Store.enc), zL 3 1 (p3.map (encL 4 Note.enc)), zP 5 0, zK 9 (Command.enc p4)]) ([ox p0.bx]) (fun k14 h => ?_) (fun h => ?_)
 try simp only [*, go_sem]
 refine lp1 (console_Show_L1 p2 k14) (fun a15_1 => [zI 1 p1, zL 2 4 (p2.map Store.enc), zL 3 1 (p3.map (encL 4 Note.enc)), zP 5 0, zK 9 (Command.enc p4), zL 53 4 (p2.map Store.enc), zI 54 ((p2.length : Nat) : Int), zI 55 ((a15_1 : Nat) : Int)]) (fun a15_1 => [ox p0.bx]) h [] [some 0] (fun n16 a15_1 h => ?_) (by intros; rw [console_Show_L1])
 rw [console_Show_L1] at h
 refine oi h (fun hb17 h => ?_) (fun hb17 h => ?_)
 have := of_decide_eq_true hb17
 refine obg h (fun x18 _ hkx18 h => ?_)
 try simp only [*, go_sem]
 refine cr h (store_Check_ok G x18) (fun v19 h => ?_)
 refine oi h (fun hb20 h => ?_) (fun hb20 h => ?_)
 cases h.e
 simp only [*, go_sem, mA, mS]
 have := wrap_succ_max hkx18 hl6
 try simp only [*, go_sem]
 exact lc (a15_1 + 1) h.e [some 0]
 try simp only [*, go_sem]
 exact jc () h.e [some 0]
 try simp only [*, go_sem]
 intro hl22
 try simp only [*, go_sem]
 refine jn0 h ([zI 1 p1, zL 2 4 (p2.map Store.enc), zL 3 1 (p3.map (encL 4 Note.enc)), zP 5 0, zK 9 (Command.enc p4)]) ([ox p0.bx]) (fun k24 h => ?_) (fun h => ?_)
 try simp only [*, go_sem]
 refine lp1 (console_Show_L2 p3 k24) (fun a25_1 => [zI 1 p1, zL 2 4 (p2.map Store.enc), zL 3 1 (p3.map (encL 4 Note.enc)), zP 5 0, zK 9 (Command.enc p4), zL 65 1 (p3.map (encL 4 Note.enc)), zI 66 ((p3.length : Nat) : Int), zI 67 ((a25_1 : Nat) : Int)]) (fun a25_1 => [ox p0.bx]) h [] [some 0] (fun n26 a25_1 h => ?_) (by intros; rw [console_Show_L2])
 rw [console_Show_L2] at h
 refine oi h (fun hb27 h => ?_) (fun hb27 h => ?_)
 have := of_decide_eq_true hb27
 refine obg h (fun x28 _ hkx28 h => ?_)
 try simp only [*, go_sem]
 intro hl29
 try simp only [*, go_sem]
 refine jn0 h ([zI 1 p1, zL 2 4 (p2.map Store.enc), zL 3 1 (p3.map (encL 4 Note.enc)), zP 5 0, zK 9 (Command.enc p4), zL 65 1 (p3.map (encL 4 Note.enc)), zI 66 ((p3.length : Nat) : Int), zI 67 ((a25_1 : Nat) : Int)]) ([ox p0.bx]) (fun k31 h => ?_) (fun h => ?_)
 try simp only [*, go_sem]
 refine lp1 (console_Show_L3 x28 k31) (fun a32_1 => [zI 1 p1, zL 2 4 (p2.map Store.enc), zL 3 1 (p3.map (encL 4 Note.enc)), zP 5 0, zK 9 (Command.enc p4), zL 65 1 (p3.map (encL 4 Note.enc)), zI 66 ((p3.length : Nat) : Int), zI 67 ((a25_1 : Nat) : Int), zL 71 4 (x28.map Note.enc), zI 72 ((x28.length : Nat) : Int), zI 73 ((a32_1 : Nat) : Int)]) (fun a32_1 => [ox p0.bx]) h [] [some 0] (fun n33 a32_1 h => ?_) (by intros; rw [console_Show_L3])
 rw [console_Show_L3] at h
 refine oi h (fun hb34 h => ?_) (fun hb34 h => ?_)
 have := of_decide_eq_true hb34
 refine obg h (fun x35 _ hkx35 h => ?_)
 try simp only [*, go_sem]
 refine cr h (store_Writes_ok G (Store.mk [] [] [] []) x35.Txn) (fun v36 h => ?_)
 refine oi h (fun hb37 h => ?_) (fun hb37 h => ?_)
 cases h.e
 simp only [*, go_sem, mA, mS]
 have := wrap_succ_max hkx35 hl29
 try simp only [*, go_sem]
 exact lc (a32_1 + 1) h.e [some 0]
 try simp only [*, go_sem]
 exact jc () h.e [some 0]
 have := wrap_succ_max hkx28 hl9
 try simp only [*, go_sem]
 exact lc (a25_1 + 1) h.e [some 0]
 try simp only [*, go_sem]
 exact jc () h.e [some 0]
 try simp only [*, go_sem]
 refine jn1 h (fun b40_1 => [zI 1 p1, zL 2 4 (p2.map Store.enc), zL 3 1 (p3.map (encL 4 Note.enc)), zP 5 0, zK 9 (Command.enc p4), zP 22 1, zI 89 p4.Kind, zB 90 b40_1]) (fun b40_1 => [ox p0.bx, oB 68 5 ([] : List UInt8)]) (fun k41 h => ?_) (fun b40_1 h => ?_)
 refine oi h (fun hb42 h => ?_) (fun hb42 h => ?_)
 try simp only [*, go_sem]
 exact jc (true) h.e [some 0, some 1]
 try simp only [*, go_sem]
 exact jc (p4.Kind == 4) h.e [some 0, some 1]
 try simp only [*, go_sem]
 refine jn1 h (fun b43_1 => [zP 22 0]) (fun b43_1 => [oB 68 5 b43_1]) (fun k44 h => ?_) (fun b43_1 h => ?_)
 refine oi h (fun hb45 h => ?_) (fun hb45 h => ?_)
 try simp only [*, go_sem]
 intro hl46
 try simp only [*, go_sem]
 refine jn1 h (fun b47_1 => [zP 22 0]) (fun b47_1 => [oB 68 5 b47_1]) (fun k48 h => ?_) (fun b47_1 h => ?_)
 try simp only [*, go_sem]
 refine lp2 (console_Show_L4 p0 p1 p2 p3 p4 k48) (fun a49_1 a49_2 => [zI 1 p1, zL 2 4 (p2.map Store.enc), zL 3 1 (p3.map (encL 4 Note.enc)), zP 5 0, zK 9 (Command.enc p4), zP 22 1, zI 95 ((p0.Labels.length : Nat) : Int), zI 96 ((a49_1 : Nat) : Int)]) (fun a49_1 a49_2 => [ox p0.bx, oB 68 5 a49_2]) h [] [some 0, some 1] (fun n50 a49_1 a49_2 h => ?_) (by intros; rw [console_Show_L4])
 rw [console_Show_L4] at h
 refine oi h (fun hb51 h => ?_) (fun hb51 h => ?_)
 have := of_decide_eq_true hb51
 refine obn h (fun x52 _ _ _ _ h => ?_)
 refine obg h (fun x54 _ hkx54 h => ?_)
 refine obk h (fun v55 hv55 h => ?_)
 try simp only [*, go_sem]
 refine cd (label_Above_ok G x52 x54 v55 hv55) ?_
 refine oin h (fun hb56 hkhb56 h => ?_) (fun hb56 hkhb56 h => ?_)
 have := wrap_succ_max hkx54 hl4
 try simp only [*, go_sem]
 exact lc (a49_1 + 1, a49_2) h.e [some 0, some 1]
 try simp only [*, go_sem]
 refine jn1 h (fun b58_1 => [zI 1 p1, zL 2 4 (p2.map Store.enc), zL 3 1 (p3.map (encL 4 Note.enc)), zP 5 0, zK 9 (Command.enc p4), zP 22 1, zI 95 ((p0.Labels.length : Nat) : Int), zI 96 ((a49_1 : Nat) : Int)]) (fun b58_1 => [ox p0.bx, oB 68 5 b58_1]) (fun k59 h => ?_) (fun b58_1 h => ?_)
 refine oi h (fun hb60 h => ?_) (fun hb60 h => ?_)
 refine obg h (fun x61 _ _ h => ?_)
 try simp only [*, go_sem]
 refine cx low43 fok43 ?_
 simp only [*, F43, go_sem]
 try simp only [*, go_sem]
 intro hl62
 try simp only [*, go_sem]
 refine jn1 h (fun b63_1 => [zI 1000001 p1, zL 1000002 4 (p2.map Store.enc), zL 1000003 1 (p3.map (encL 4 Note.enc)), zP 1000005 0, zK 1000009 (Command.enc p4), zP 1000022 1, zI 1000095 ((p0.Labels.length : Nat) : Int), zI 1000096 ((a49_1 : Nat) : Int)]) (fun b63_1 => [ox p0.bx, oB 68 5 b63_1]) (fun k64 h => ?_) (fun b63_1 h => ?_)
 try simp only [*, go_sem]
 refine lp2 (console_Show_L5 a49_1 x61 k64) (fun a65_1 a65_2 => [zP 0 0, zI 1 ((a49_1 : Nat) : Int), zP 5 1, zL 9 3 (x61.Doubts.map Doubt.enc), zI 10 ((x61.Doubts.length : Nat) : Int), zI 11 ((a65_1 : Nat) : Int), zI 1000001 p1, zL 1000002 4 (p2.map Store.enc), zL 1000003 1 (p3.map (encL 4 Note.enc)), zP 1000005 2, zK 1000009 (Command.enc p4), zP 1000022 0, zI 1000095 ((p0.Labels.length : Nat) : Int), zI 1000096 ((a49_1 : Nat) : Int)]) (fun a65_1 a65_2 => [oB 68 5 a65_2, ox x61.bx, ox p0.bx]) h [] [some 1, some 14, some 0] (fun n66 a65_1 a65_2 h => ?_) (by intros; rw [console_Show_L5])
 rw [console_Show_L5] at h
 refine oi h (fun hb67 h => ?_) (fun hb67 h => ?_)
 have := of_decide_eq_true hb67
 refine obg h (fun x68 _ hkx68 h => ?_)
 try simp only [*, go_sem]
 refine cr h (console_prepared_ok G x61 x68.Txn) (fun v69 h => ?_)
 try simp only [*, go_sem]
 refine jn1 h (fun b70_1 => [zP 0 0, zI 1 ((a49_1 : Nat) : Int), zP 5 1, zL 9 3 (x61.Doubts.map Doubt.enc), zI 10 ((x61.Doubts.length : Nat) : Int), zI 11 ((a65_1 : Nat) : Int), zI 1000001 p1, zL 1000002 4 (p2.map Store.enc), zL 1000003 1 (p3.map (encL 4 Note.enc)), zP 1000005 2, zK 1000009 (Command.enc p4), zP 1000022 0, zI 1000095 ((p0.Labels.length : Nat) : Int), zI 1000096 ((a49_1 : Nat) : Int)]) (fun b70_1 => [oB 68 5 b70_1, ox x61.bx, ox p0.bx]) (fun k71 h => ?_) (fun b70_1 h => ?_)
 refine oi h (fun hb72 h => ?_) (fun hb72 h => ?_)
 refine obk h (fun v73 hv73 h => ?_)
 try simp only [*, go_sem]
 refine cd (console_words_ok G htab_strconv_uint64pow10 ((a49_1 : Nat) : Int) x68.Txn v73 hv73) ?_
 refine ck h (fun _ h => ?_)
 refine obk h (fun v75 hv75 h => ?_)
 try simp only [*, go_sem]
 refine cd (itoa33_ok G htab_strconv_uint64pow10 x68.Age v75 hv75) ?_
 refine ck h (fun _ h => ?_)
 refine ck h (fun _ h => ?_)
 try simp only [*, go_sem]
 refine cbs h bldOk (by first | rfl | (simp only [*, go_sem]; done)) (fun h => ?_)
 try simp only [*, go_sem]
 exact jc ((a65_2 ++ (((v73 ++ bs_7215ee9c) ++ v75) ++ bs_68b329da).data.toList)) h.e [some 0, some 1, some 2]
 try simp only [*, go_sem]
 exact jc (a65_2) h.e [some 0, some 1, some 2]
 have := wrap_succ_max hkx68 hl62
 try simp only [*, go_sem]
 exact lc (a65_1 + 1, b70_1) h.e [some 0, some 1, some 2]
 try simp only [*, go_sem]
 exact jc (a65_2) h.e [some 2, some 0]
 try simp only [*, go_sem]
 exact jc (b63_1) h.e [some 0, some 1]
 refine obg h (fun x79 _ _ h => ?_)
 try simp only [*, go_sem]
 refine cx low44 fok44 ?_
 simp only [*, F44, go_sem]
 try simp only [*, go_sem]
 intro hl80
 try simp only [*, go_sem]
 refine jn1 h (fun b81_1 => [zI 1000001 p1, zL 1000002 4 (p2.map Store.enc), zL 1000003 1 (p3.map (encL 4 Note.enc)), zP 1000005 0, zK 1000009 (Command.enc p4), zP 1000022 1, zI 1000095 ((p0.Labels.length : Nat) : Int), zI 1000096 ((a49_1 : Nat) : Int)]) (fun b81_1 => [ox p0.bx, oB 68 5 b81_1]) (fun k82 h => ?_) (fun b81_1 h => ?_)
 try simp only [*, go_sem]
 refine lp2 (console_Show_L6 a49_1 x79 k82) (fun a83_1 a83_2 => [zP 0 0, zI 1 ((a49_1 : Nat) : Int), zL 8 4 (x79.map Note.enc), zI 9 ((x79.length : Nat) : Int), zI 10 ((a83_1 : Nat) : Int), zI 1000001 p1, zL 1000002 4 (p2.map Store.enc), zL 1000003 1 (p3.map (encL 4 Note.enc)), zP 1000005 1, zK 1000009 (Command.enc p4), zP 1000022 0, zI 1000095 ((p0.Labels.length : Nat) : Int), zI 1000096 ((a49_1 : Nat) : Int)]) (fun a83_1 a83_2 => [oB 68 5 a83_2, ox p0.bx]) h [] [some 1, some 0] (fun n84 a83_1 a83_2 h => ?_) (by intros; rw [console_Show_L6])
 rw [console_Show_L6] at h
 refine oi h (fun hb85 h => ?_) (fun hb85 h => ?_)
 have := of_decide_eq_true hb85
 refine obg h (fun x86 _ hkx86 h => ?_)
 try simp only [*, go_sem]
 refine cr h (console_words_ok G htab_strconv_uint64pow10 ((a49_1 : Nat) : Int) x86.Txn) (fun v87 h => ?_)
 try simp only [*, go_sem]
 refine cbs h bldOk (by first | rfl | (simp only [*, go_sem]; done)) (fun h => ?_)
 try simp only [*, go_sem]
 refine jn1 h (fun b88_1 => [zP 0 0, zI 1 ((a49_1 : Nat) : Int), zP 7 1, zL 8 4 (x79.map Note.enc), zI 9 ((x79.length : Nat) : Int), zI 10 ((a83_1 : Nat) : Int), zI 1000001 p1, zL 1000002 4 (p2.map Store.enc), zL 1000003 1 (p3.map (encL 4 Note.enc)), zP 1000005 2, zK 1000009 (Command.enc p4), zP 1000022 0, zI 1000095 ((p0.Labels.length : Nat) : Int), zI 1000096 ((a49_1 : Nat) : Int)]) (fun b88_1 => [oB 68 5 b88_1, ox x86.bx, ox p0.bx]) (fun k89 h => ?_) (fun b88_1 h => ?_)
 refine oi h (fun hb90 h => ?_) (fun hb90 h => ?_)
 try simp only [*, go_sem]
 refine cbs h bldOk (by first | rfl | (simp only [*, go_sem]; done)) (fun h => ?_)
 try simp only [*, go_sem]
 exact jc (((a83_2 ++ v87.data.toList) ++ bs_4d42290a.data.toList)) h.e [some 0, some 2, some 1]
 try simp only [*, go_sem]
 refine cbs h bldOk (by first | rfl | (simp only [*, go_sem]; done)) (fun h => ?_)
 try simp only [*, go_sem]
 exact jc (((a83_2 ++ v87.data.toList) ++ bs_0fc6f503.data.toList)) h.e [some 0, some 2, some 1]
 try simp only [*, go_sem]
 refine jn1 h (fun b91_1 => [zP 0 0, zI 1 ((a49_1 : Nat) : Int), zL 8 4 (x79.map Note.enc), zI 9 ((x79.length : Nat) : Int), zI 10 ((a83_1 : Nat) : Int), zI 1000001 p1, zL 1000002 4 (p2.map Store.enc), zL 1000003 1 (p3.map (encL 4 Note.enc)), zP 1000005 1, zK 1000009 (Command.enc p4), zP 1000022 0, zI 1000095 ((p0.Labels.length : Nat) : Int), zI 1000096 ((a49_1 : Nat) : Int)]) (fun b91_1 => [oB 68 5 b91_1, ox p0.bx]) (fun k92 h => ?_) (fun b91_1 h => ?_)
 refine oi h (fun hb93 h => ?_) (fun hb93 h => ?_)
 try simp only [*, go_sem]
 refine cbs h bldOk (by first | rfl | (simp only [*, go_sem]; done)) (fun h => ?_)
 try simp only [*, go_sem]
 exact jc ((b88_1 ++ bs_6d74a691.data.toList)) h.e [some 0, some 2]
 try simp only [*, go_sem]
 exact jc (b88_1) h.e [some 0, some 2]
 try simp only [*, go_sem]
 refine cbb h bldOk (by first | rfl | (simp only [*, go_sem]; done)) (fun h => ?_)
 have := wrap_succ_max hkx86 hl80
 try simp only [*, go_sem]
 exact lc (a83_1 + 1, (b91_1 ++ [UInt8.ofNat (Int.toNat (10 : Int))])) h.e [some 0, some 1]
 try simp only [*, go_sem]
 exact jc (a83_2) h.e [some 1, some 0]
 try simp only [*, go_sem]
 exact jc (b81_1) h.e [some 0, some 1]
 have := wrap_succ_max hkx54 hl4
 try simp only [*, go_sem]
 exact lc (a49_1 + 1, b58_1) h.e [some 0, some 1]
 try simp only [*, go_sem]
 exact jc (a49_2) h.e [some 1]
 try simp only [*, go_sem]
 exact jc (b47_1) h.e [some 0]
 refine oi h (fun hb96 h => ?_) (fun hb96 h => ?_)
 refine oi h (fun hb97 h => ?_) (fun hb97 h => ?_)
 refine oi h (fun hb98 h => ?_) (fun hb98 h => ?_)
 refine obn h (fun x99 _ _ _ _ h => ?_)
 refine obn h (fun x101 _ _ _ _ h => ?_)
 refine obk h (fun v103 hv103 h => ?_)
 try simp only [*, go_sem]
 refine cd (label_Above_ok G x99 x101 v103 hv103) ?_
 refine oi h (fun hb104 h => ?_) (fun hb104 h => ?_)
 refine obn h (fun x105 _ _ _ _ h => ?_)
 refine obk h (fun v107 hv107 h => ?_)
 try simp only [*, go_sem]
 refine cd (console_prepared_ok G x105 p4.Txn v107 hv107) ?_
 try simp only [*, go_sem]
 refine jn1 h (fun b108_1 => [zP 22 0]) (fun b108_1 => [oB 68 5 b108_1]) (fun k109 h => ?_) (fun b108_1 h => ?_)
 refine oi h (fun hb110 h => ?_) (fun hb110 h => ?_)
 try simp only [*, go_sem]
 refine cbs h bldOk (by first | rfl | (simp only [*, go_sem]; done)) (fun h => ?_)
 try simp only [*, go_sem]
 exact jc ((([] : List UInt8) ++ bs_298e1f25.data.toList)) h.e [some 1]
 try simp only [*, go_sem]
 refine cbs h bldOk (by first | rfl | (simp only [*, go_sem]; done)) (fun h => ?_)
 try simp only [*, go_sem]
 exact jc ((([] : List UInt8) ++ bs_d9f7497c.data.toList)) h.e [some 1]
 try simp only [*, go_sem]
 exact jc (b108_1) h.e [some 0]
 try simp only [*, go_sem]
 refine jn0 h ([zP 22 0]) ([oB 68 5 (([] : List UInt8) ++ bs_d9f7497c.data.toList)]) (fun k112 h => ?_) (fun h => ?_)
 try simp only [*, go_sem]
 refine cbs h bldOk (by first | rfl | (simp only [*, go_sem]; done)) (fun h => ?_)
 try simp only [*, go_sem]
 exact jc () h.e [some 1]
 try simp only [*, go_sem]
 exact jc ((([] : List UInt8) ++ bs_d9f7497c.data.toList)) h.e [some 0]
 try simp only [*, go_sem]
 refine jn0 h ([zP 22 0]) ([oB 68 5 (([] : List UInt8) ++ bs_d9f7497c.data.toList)]) (fun k114 h => ?_) (fun h => ?_)
 try simp only [*, go_sem]
 refine cbs h bldOk (by first | rfl | (simp only [*, go_sem]; done)) (fun h => ?_)
 try simp only [*, go_sem]
 exact jc () h.e [some 1]
 try simp only [*, go_sem]
 exact jc ((([] : List UInt8) ++ bs_d9f7497c.data.toList)) h.e [some 0]
 try simp only [*, go_sem]
 refine jn0 h ([zP 22 0]) ([oB 68 5 (([] : List UInt8) ++ bs_d9f7497c.data.toList)]) (fun k116 h => ?_) (fun h => ?_)
 try simp only [*, go_sem]
 refine cbs h bldOk (by first | rfl | (simp only [*, go_sem]; done)) (fun h => ?_)
 try simp only [*, go_sem]
 exact jc () h.e [some 1]
 try simp only [*, go_sem]
 exact jc ((([] : List UInt8) ++ bs_d9f7497c.data.toList)) h.e [some 0]
 cases h.e
 simp only [*, go_sem, mA, mS]
 try simp only [*, go_sem]
 refine cbt bldOk (by first | rfl | (simp only [*, go_sem]; done)) ?_
 cases h.e
 simp only [*, go_sem, mA, mS]
def reredosref_In (p0 : Int) (p1 : Int) (p2 : Int) : Option (Bool) := (withK (fun (b1_1 : Bool) => (some b1_1)) fun k2 => (if (decide (p0 ≥ p1)) = true then (k2 (decide (p0 ≤ p2))) else (k2 false)))
def F58 : VFn := ⟨15, (.seq (.reg [vo 6 (.mv (cb false))]) (.seq (.wk (.reg [vm 7 0, vm 8 1, bt 9 .geq 7 8, vm 10 9, gt 11 10 (.mv (.t 0)), gt 12 10 (.mv (.t 2)), gt 13 10 (.bin .i .leq (.t 11) (.t 12)), vo 14 (.pick (.t 10) (.t 13) (cb false)), vm 6 14])) .ret)), [.t 6]⟩
theorem low58 : lowF Tryd.prog 58 = some F58.strip := by kernel_rfl
theorem fok58 : fOk Tryd.prog 58 = true := by kernel_rfl
theorem reredosref_In_ok (p0 : Int) (p1 : Int) (p2 : Int) (r : Bool) (h : reredosref_In p0 p1 p2 = some r) : FnRO Tryd.prog G 58 [.one (.d (.i .i64 p0)), .one (.d (.i .i64 p1)), .one (.d (.i .i64 p2))] (fun rs => rs = [.one (.b r)]) := by
 refine FnRO.of' low58 fok58 (by simp [F58]) ?_
 rw [reredosref_In] at h
 replace h := Hd.mk h
 simp only [F58, go_sem]
 try simp only [*, go_sem]
 refine jn1 h (fun b1_1 => [zB 6 b1_1]) (fun b1_1 => []) (fun k2 h => ?_) (fun b1_1 h => ?_)
 refine oi h (fun hb3 h => ?_) (fun hb3 h => ?_)
 try simp only [*, go_sem]
 exact jc (decide (p0 ≤ p2)) h.e []
 try simp only [*, go_sem]
 exact jc (false) h.e []
 cases h.e
 simp only [*, go_sem, mA, mS]
def reredosref_ConfigFault_L2 (p0 : Config) (a8_1 : Nat) (x12 : Label) (k18 : Option (Int)) : Nat → Nat → Option (Int)
 | 0, _ => none
 | n20 + 1, a19_1 => (if (decide (a19_1 < a8_1)) = true then (Option.bind (p0.Labels[a19_1]?) fun x22 => (if ((x22.Level == x12.Level) && (x22.Cats == x12.Cats)) = true then (some 7) else (reredosref_ConfigFault_L2 p0 a8_1 x12 k18 n20 (a19_1 + 1)))) else k18)
def reredosref_ConfigFault_L1 (p0 : Config) (k7 : Option (Int)) : Nat → Nat → Option (Int)
 | 0, _ => none
 | n9 + 1, a8_1 => (if (decide (a8_1 < p0.Labels.length)) = true then (Option.bind (p0.Labels[a8_1]?) fun x12 => (Option.bind (reredosref_In x12.Level 0 9) fun v13 => (if (!v13) = true then (some 2) else (Option.bind (reredosref_In x12.Cats 0 15) fun v15 => (if (!v15) = true then (some 2) else (withK (reredosref_ConfigFault_L1 p0 k7 n9 (a8_1 + 1)) fun k18 => (reredosref_ConfigFault_L2 p0 a8_1 x12 k18 (a8_1 + 1) 0))))))) else k7)
def reredosref_ConfigFault (p0 : Config) : Option (Int) := (Option.bind (reredosref_In p0.Sites 1 4) fun v1 => (if (!v1) = true then (some 2) else (Option.bind (reredosref_In ((p0.Labels.length : Nat) : Int) 1 6) fun v4 => (if (!v4) = true then (some 1) else (withK (Option.bind (reredosref_In p0.Patience 1 1048576) fun v26 => (if (!v26) = true then (some 2) else (some 0))) fun k7 => (reredosref_ConfigFault_L1 p0 k7 (p0.Labels.length + 1) 0))))))
def F26 : VFn := ⟨59, (.seq (.reg [vo 1 (.boxk 3 (.t 0)), mi 2 0]) (.seq (.seq (.reg [vf 5 0 1, vs 6 5, vo 7 (.call 58 [(.t 6), (ci 1), (ci 4)]), nt 8 7]) (.cond (.t 8) (.seq (.reg [mi 2 2]) .ret) .skip)) (.seq (.seq (.reg [vf 9 1 1, vs 10 9, ln 11 10, vo 12 (.call 58 [(.t 11), (ci 1), (ci 6)]), nt 13 12]) (.cond (.t 13) (.seq (.reg [mi 2 1]) .ret) .skip)) (.seq (.seq (.reg [mi 3 0]) (.wk (.block 0 (.loop (.seq (.seq (.reg [vm 14 3, vf 15 1 1, vs 16 15, ln 17 16, bt 18 .lss 14 17]) (.cond (.t 18) .skip (.exit 0))) (.seq (.block 1 (.seq (.seq (.reg [vf 21 1 1, vs 22 21, vm 23 3, xa 24 2 22 23, vf 25 0 24, vs 26 25, vo 27 (.call 58 [(.t 26), (ci 0), (ci 9)]), nt 28 27, vm 29 28, gf 30 29 (.fa 1 (.t 1)), gf 31 29 (.ld false 1 (.t 30)), gf 32 29 (.mv (.t 3)), gf 33 29 (.ia 2 (.t 31) (.t 32)), gf 34 29 (.fa 1 (.t 33)), gf 35 29 (.ld false 1 (.t 34)), gf 36 29 (.call 58 [(.t 35), (ci 0), (ci 15)]), gf 37 29 (.un .not (.t 36)), vo 38 (.pick (.t 29) (cb true) (.t 37))]) (.cond (.t 38) (.seq (.reg [mi 2 2]) .ret) .skip)) (.seq (.reg [mi 4 0]) (.wk (.block 2 (.loop (.seq (.seq (.reg [vm 39 4, vm 40 3, bt 41 .lss 39 40]) (.cond (.t 41) .skip (.exit 2))) (.seq (.block 3 (.seq (.draw [vd (vf 44 1 1) 0, vd (vs 45 44) 1, vd (vm 46 4) 0, vd (xa 47 2 45 46) 7, vd (vl 48 2 47) 15, vd (vf 49 1 1) 0, vd (vs 50 49) 32, vd (vm 51 3) 0, vd (xa 52 2 50 51) 224, vd (vl 53 2 52) 480, vd (vo 54 (.eqs false [.i, .i] (.t 48) (.t 53))) 1023]) (.cond (.t 54) (.seq (.reg [mi 2 7]) .ret) .skip))) (.reg [vm 42 4, bk 43 .add 42 1, vm 4 43]))))))))) (.reg [vm 19 3, bk 20 .add 19 1, vm 3 20]))))))) (.seq (.seq (.reg [vf 55 2 1, vs 56 55, vo 57 (.call 58 [(.t 56), (ci 1), (ci 1048576)]), nt 58 57]) (.cond (.t 58) (.seq (.reg [mi 2 2]) .ret) .skip)) (.seq (.reg [mi 2 0]) .ret)))))), [.t 2]⟩
theorem low26 : lowF Tryd.prog 26 = some F26.strip := by kernel_rfl
theorem fok26 : fOk Tryd.prog 26 = true := by kernel_rfl
theorem reredosref_ConfigFault_ok (p0 : Config) (r : Int) (h : reredosref_ConfigFault p0 = some r) : FnRO Tryd.prog G 26 [.agg p0.bx] (fun rs => rs = [.one (.i .i64 r)]) := by
 refine FnRO.of' low26 fok26 (by simp [F26]) ?_
 rw [reredosref_ConfigFault] at h
 replace h := Hd.mk h
 simp only [F26, go_sem]
 try simp only [*, go_sem]
 refine cr h (reredosref_In_ok G p0.Sites 1 4) (fun v1 h => ?_)
 refine oin h (fun hb2 hkhb2 h => ?_) (fun hb2 hkhb2 h => ?_)
 cases h.e
 simp only [*, go_sem, mA, mS]
 try simp only [*, go_sem]
 intro hl3
 try simp only [*, go_sem]
 refine cr h (reredosref_In_ok G ((p0.Labels.length : Nat) : Int) 1 6) (fun v4 h => ?_)
 refine oin h (fun hb5 hkhb5 h => ?_) (fun hb5 hkhb5 h => ?_)
 cases h.e
 simp only [*, go_sem, mA, mS]
 try simp only [*, go_sem]
 refine jn0 h ([zK 1 (Config.enc p0)]) ([]) (fun k7 h => ?_) (fun h => ?_)
 try simp only [*, go_sem]
 refine lp1 (reredosref_ConfigFault_L1 p0 k7) (fun a8_1 => [zK 1 (Config.enc p0), zI 3 ((a8_1 : Nat) : Int)]) (fun a8_1 => []) h [] [] (fun n9 a8_1 h => ?_) (by intros; rw [reredosref_ConfigFault_L1])
 rw [reredosref_ConfigFault_L1] at h
 try simp only [*, go_sem]
 intro hl10
 refine oi h (fun hb11 h => ?_) (fun hb11 h => ?_)
 have := of_decide_eq_true hb11
 refine obg h (fun x12 _ hkx12 h => ?_)
 try simp only [*, go_sem]
 refine cr h (reredosref_In_ok G x12.Level 0 9) (fun v13 h => ?_)
 refine oin h (fun hb14 hkhb14 h => ?_) (fun hb14 hkhb14 h => ?_)
 cases h.e
 simp only [*, go_sem, mA, mS]
 try simp only [*, go_sem]
 refine cr h (reredosref_In_ok G x12.Cats 0 15) (fun v15 h => ?_)
 refine oin h (fun hb16 hkhb16 h => ?_) (fun hb16 hkhb16 h => ?_)
 cases h.e
 simp only [*, go_sem, mA, mS]
 try simp only [*, go_sem]
 refine jn0 h ([zK 1 (Config.enc p0), zI 3 ((a8_1 : Nat) : Int), (30, .one (.p (.l 3 [(Config.enc p0)] 0 1))), zL 31 2 (p0.Labels.map Label.enc), zI 32 ((a8_1 : Nat) : Int), (33, .one (.p (.l 2 (p0.Labels.map Label.enc) a8_1 0))), (34, .one (.p (.l 2 (p0.Labels.map Label.enc) a8_1 1))), zI 35 x12.Cats, zB 36 true, zB 37 false]) ([]) (fun k18 h => ?_) (fun h => ?_)
 try simp only [*, go_sem]
 refine lp1 (reredosref_ConfigFault_L2 p0 a8_1 x12 k18) (fun a19_1 => [zK 1 (Config.enc p0), zI 3 ((a8_1 : Nat) : Int), zI 4 ((a19_1 : Nat) : Int), (30, .one (.p (.l 3 [(Config.enc p0)] 0 1))), zL 31 2 (p0.Labels.map Label.enc), zI 32 ((a8_1 : Nat) : Int), (33, .one (.p (.l 2 (p0.Labels.map Label.enc) a8_1 0))), (34, .one (.p (.l 2 (p0.Labels.map Label.enc) a8_1 1))), zI 35 x12.Cats, zB 36 true, zB 37 false]) (fun a19_1 => []) h [] [] (fun n20 a19_1 h => ?_) (by intros; rw [reredosref_ConfigFault_L2])
 rw [reredosref_ConfigFault_L2] at h
 refine oi h (fun hb21 h => ?_) (fun hb21 h => ?_)
 have := of_decide_eq_true hb21
 refine obg h (fun x22 _ hkx22 h => ?_)
 refine oi h (fun hb23 h => ?_) (fun hb23 h => ?_)
 try simp only [*, go_sem]
 cases h.e
 simp only [*, go_sem, mA, mS]
 try simp only [*, go_sem]
 have := wrap_succ_max hkx22 hl3
 try simp only [*, go_sem]
 exact lc (a19_1 + 1) h.e []
 try simp only [*, go_sem]
 exact jc () h.e []
 have := wrap_succ_max hkx12 hl3
 try simp only [*, go_sem]
 exact lc (a8_1 + 1) h.e []
 try simp only [*, go_sem]
 exact jc () h.e []
 try simp only [*, go_sem]
 refine cr h (reredosref_In_ok G p0.Patience 1 1048576) (fun v26 h => ?_)
 refine oin h (fun hb27 hkhb27 h => ?_) (fun hb27 hkhb27 h => ?_)
 cases h.e
 simp only [*, go_sem, mA, mS]
 cases h.e
 simp only [*, go_sem, mA, mS]
def reredosref_labelMay (p0 : Config) (p1 : Int) : Option (Bool) := (Option.bind (reredosref_In p1 0 (IntKind.i64.wrap (((p0.Labels.length : Nat) : Int) - 1))) fun v2 => (some v2))
def F46 : VFn := ⟨11, (.seq (.reg [vo 2 (.box 3 (.t 0)), vo 4 (.mv (cb false))]) (.seq (.reg [vm 5 1, vf 6 1 2, vs 7 6, ln 8 7, bk 9 .sub 8 1, vo 10 (.call 58 [(.t 5), (ci 0), (.t 9)]), vm 4 10]) .ret)), [.t 4]⟩
theorem low46 : lowF Tryd.prog 46 = some F46.strip := by kernel_rfl
theorem fok46 : fOk Tryd.prog 46 = true := by kernel_rfl
theorem reredosref_labelMay_ok (p0 : Config) (p1 : Int) (r : Bool) (h : reredosref_labelMay p0 p1 = some r) : FnRO Tryd.prog G 46 [.agg p0.bx, .one (.d (.i .i64 p1))] (fun rs => rs = [.one (.b r)]) := by
 refine FnRO.of' low46 fok46 (by simp [F46]) ?_
 rw [reredosref_labelMay] at h
 replace h := Hd.mk h
 simp only [F46, go_sem]
 try simp only [*, go_sem]
 intro hl1
 try simp only [*, go_sem]
 refine cr h (reredosref_In_ok G p1 0 (IntKind.i64.wrap (((p0.Labels.length : Nat) : Int) - 1))) (fun v2 h => ?_)
 cases h.e
 simp only [*, go_sem, mA, mS]
def reredosref_doubtOf_L1 (p0 : Store) (p1 : Txn) (k2 : Option (Int)) : Nat → Nat → Option (Int)
 | 0, _ => none
 | n4 + 1, a3_1 => (if (decide (a3_1 < p0.Doubts.length)) = true then (Option.bind (p0.Doubts[a3_1]?) fun x7 => (if ((x7.Txn.Site == p1.Site) && (x7.Txn.N == p1.N)) = true then (some ((a3_1 : Nat) : Int)) else (reredosref_doubtOf_L1 p0 p1 k2 n4 (a3_1 + 1)))) else k2)
def reredosref_doubtOf (p0 : Store) (p1 : Txn) : Option (Int) := (withK (some (-1)) fun k2 => (reredosref_doubtOf_L1 p0 p1 k2 (p0.Doubts.length + 1) 0))
def F89 : VFn := ⟨22, (.seq (.reg [vo 2 (.box 4 (.t 0)), vo 3 (.boxk 2 (.t 1)), mi 4 0]) (.seq (.seq (.reg [mi 5 0]) (.wk (.block 0 (.loop (.seq (.seq (.reg [vm 6 5, vf 7 2 2, vs 8 7, ln 9 8, bt 10 .lss 6 9]) (.cond (.t 10) .skip (.exit 0))) (.seq (.block 1 (.seq (.draw [vd (vf 13 2 2) 0, vd (vs 14 13) 1, vd (vm 15 5) 0, vd (xa 16 3 14 15) 7, vd (vf 17 0 16) 15, vd (vl 18 2 17) 31, vd (vl 19 2 3) 0, vd (vo 20 (.eqs false [.i, .i] (.t 18) (.t 19))) 127]) (.cond (.t 20) (.seq (.reg [vm 21 5, vm 4 21]) .ret) .skip))) (.reg [vm 11 5, bk 12 .add 11 1, vm 5 12]))))))) (.seq (.reg [mi 4 (-1)]) .ret))), [.t 4]⟩
theorem low89 : lowF Tryd.prog 89 = some F89.strip := by kernel_rfl
theorem fok89 : fOk Tryd.prog 89 = true := by kernel_rfl
theorem reredosref_doubtOf_ok (p0 : Store) (p1 : Txn) (r : Int) (h : reredosref_doubtOf p0 p1 = some r) : FnRO Tryd.prog G 89 [.agg p0.bx, .agg p1.bx] (fun rs => rs = [.one (.i .i64 r)]) := by
 refine FnRO.of' low89 fok89 (by simp [F89]) ?_
 rw [reredosref_doubtOf] at h
 replace h := Hd.mk h
 simp only [F89, go_sem]
 try simp only [*, go_sem]
 refine jn0 h ([]) ([]) (fun k2 h => ?_) (fun h => ?_)
 try simp only [*, go_sem]
 refine lp1 (reredosref_doubtOf_L1 p0 p1 k2) (fun a3_1 => [zP 2 0, zK 3 (Txn.enc p1), zI 5 ((a3_1 : Nat) : Int)]) (fun a3_1 => [ox p0.bx]) h [] [some 0] (fun n4 a3_1 h => ?_) (by intros; rw [reredosref_doubtOf_L1])
 rw [reredosref_doubtOf_L1] at h
 try simp only [*, go_sem]
 intro hl5
 refine oi h (fun hb6 h => ?_) (fun hb6 h => ?_)
 have := of_decide_eq_true hb6
 refine obg h (fun x7 _ hkx7 h => ?_)
 refine oi h (fun hb8 h => ?_) (fun hb8 h => ?_)
 try simp only [*, go_sem]
 cases h.e
 simp only [*, go_sem, mA, mS]
 try simp only [*, go_sem]
 have := wrap_succ_max hkx7 hl5
 try simp only [*, go_sem]
 exact lc (a3_1 + 1) h.e [some 0]
 try simp only [*, go_sem]
 exact jc () h.e []
 cases h.e
 simp only [*, go_sem, mA, mS]
def reredosref_plainTxn (p0 : Txn) : Option (Bool) := (withK (fun (b1_1 : Bool) => (some b1_1)) fun k2 => (Option.bind (reredosref_In p0.Site 0 3) fun v3 => (if v3 = true then (Option.bind (reredosref_In p0.N 1 1048576) fun v5 => (k2 v5)) else (k2 false))))
def F48 : VFn := ⟨11, (.seq (.reg [vo 1 (.boxk 2 (.t 0)), vo 2 (.mv (cb false))]) (.seq (.wk (.reg [vf 3 0 1, vs 4 3, vo 5 (.call 58 [(.t 4), (ci 0), (ci 3)]), vm 6 5, gt 7 6 (.fa 1 (.t 1)), gt 8 6 (.ld false 1 (.t 7)), gt 9 6 (.call 58 [(.t 8), (ci 1), (ci 1048576)]), vo 10 (.pick (.t 6) (.t 9) (cb false)), vm 2 10])) .ret)), [.t 2]⟩
theorem low48 : lowF Tryd.prog 48 = some F48.strip := by kernel_rfl
theorem fok48 : fOk Tryd.prog 48 = true := by kernel_rfl
theorem reredosref_plainTxn_ok (p0 : Txn) (r : Bool) (h : reredosref_plainTxn p0 = some r) : FnRO Tryd.prog G 48 [.agg p0.bx] (fun rs => rs = [.one (.b r)]) := by
 refine FnRO.of' low48 fok48 (by simp [F48]) ?_
 rw [reredosref_plainTxn] at h
 replace h := Hd.mk h
 simp only [F48, go_sem]
 try simp only [*, go_sem]
 refine jn1 h (fun b1_1 => [zB 2 b1_1]) (fun b1_1 => []) (fun k2 h => ?_) (fun b1_1 h => ?_)
 try simp only [*, go_sem]
 refine cr h (reredosref_In_ok G p0.Site 0 3) (fun v3 h => ?_)
 refine oi h (fun hb4 h => ?_) (fun hb4 h => ?_)
 try simp only [*, go_sem]
 refine cr h (reredosref_In_ok G p0.N 1 1048576) (fun v5 h => ?_)
 try simp only [*, go_sem]
 exact jc (v5) h.e []
 try simp only [*, go_sem]
 exact jc (false) h.e []
 cases h.e
 simp only [*, go_sem, mA, mS]
def reredosref_isOver_L1 (p0 : Store) (p1 : Txn) (k2 : Option (Bool)) : Nat → Nat → Option (Bool)
 | 0, _ => none
 | n4 + 1, a3_1 => (if (decide (a3_1 < p0.Over.length)) = true then (Option.bind (p0.Over[a3_1]?) fun x7 => (if ((x7.Site == p1.Site) && (x7.N == p1.N)) = true then (some true) else (reredosref_isOver_L1 p0 p1 k2 n4 (a3_1 + 1)))) else k2)
def reredosref_isOver (p0 : Store) (p1 : Txn) : Option (Bool) := (withK (some false) fun k2 => (reredosref_isOver_L1 p0 p1 k2 (p0.Over.length + 1) 0))
def F90 : VFn := ⟨20, (.seq (.reg [vo 2 (.box 4 (.t 0)), vo 3 (.boxk 2 (.t 1)), vo 4 (.mv (cb false))]) (.seq (.seq (.reg [mi 5 0]) (.wk (.block 0 (.loop (.seq (.seq (.reg [vm 6 5, vf 7 3 2, vs 8 7, ln 9 8, bt 10 .lss 6 9]) (.cond (.t 10) .skip (.exit 0))) (.seq (.block 1 (.seq (.draw [vd (vf 13 3 2) 0, vd (vs 14 13) 1, vd (vm 15 5) 0, vd (xa 16 2 14 15) 7, vd (vl 17 2 16) 15, vd (vl 18 2 3) 0, vd (vo 19 (.eqs false [.i, .i] (.t 17) (.t 18))) 63]) (.cond (.t 19) (.seq (.reg [vo 4 (.mv (cb true))]) .ret) .skip))) (.reg [vm 11 5, bk 12 .add 11 1, vm 5 12]))))))) (.seq (.reg [vo 4 (.mv (cb false))]) .ret))), [.t 4]⟩
theorem low90 : lowF Tryd.prog 90 = some F90.strip := by kernel_rfl
theorem fok90 : fOk Tryd.prog 90 = true := by kernel_rfl
theorem reredosref_isOver_ok (p0 : Store) (p1 : Txn) (r : Bool) (h : reredosref_isOver p0 p1 = some r) : FnRO Tryd.prog G 90 [.agg p0.bx, .agg p1.bx] (fun rs => rs = [.one (.b r)]) := by
 refine FnRO.of' low90 fok90 (by simp [F90]) ?_
 rw [reredosref_isOver] at h
 replace h := Hd.mk h
 simp only [F90, go_sem]
 try simp only [*, go_sem]
 refine jn0 h ([]) ([]) (fun k2 h => ?_) (fun h => ?_)
 try simp only [*, go_sem]
 refine lp1 (reredosref_isOver_L1 p0 p1 k2) (fun a3_1 => [zP 2 0, zK 3 (Txn.enc p1), zI 5 ((a3_1 : Nat) : Int)]) (fun a3_1 => [ox p0.bx]) h [] [some 0] (fun n4 a3_1 h => ?_) (by intros; rw [reredosref_isOver_L1])
 rw [reredosref_isOver_L1] at h
 try simp only [*, go_sem]
 intro hl5
 refine oi h (fun hb6 h => ?_) (fun hb6 h => ?_)
 have := of_decide_eq_true hb6
 refine obg h (fun x7 _ hkx7 h => ?_)
 refine oi h (fun hb8 h => ?_) (fun hb8 h => ?_)
 try simp only [*, go_sem]
 cases h.e
 simp only [*, go_sem, mA, mS]
 try simp only [*, go_sem]
 have := wrap_succ_max hkx7 hl5
 try simp only [*, go_sem]
 exact lc (a3_1 + 1) h.e [some 0]
 try simp only [*, go_sem]
 exact jc () h.e []
 cases h.e
 simp only [*, go_sem, mA, mS]
def reredosref_StoreMay_L1 (p0 : Store) (k4 : Option (Bool)) : Nat → Nat → Option (Bool)
 | 0, _ => none
 | n6 + 1, a5_1 => (if (decide (a5_1 < p0.Items.length)) = true then (Option.bind (p0.Items[a5_1]?) fun x9 => (Option.bind (reredosref_In x9.Key 0 7) fun v10 => (if (!v10) = true then (some false) else (Option.bind (reredosref_In x9.Value 0 1073741824) fun v12 => (if (!v12) = true then (some false) else (Option.bind (reredosref_In x9.Version 1 1048576) fun v14 => (if (!v14) = true then (some false) else (if (decide (((a5_1 : Nat) : Int) > 0)) = true then (if 0 ≤ IntKind.i64.wrap (((a5_1 : Nat) : Int) - 1) then (Option.bind (p0.Items[(IntKind.i64.wrap (((a5_1 : Nat) : Int) - 1)).toNat]?) fun x17 => (if (decide (x9.Key ≤ x17.Key)) = true then (some false) else (reredosref_StoreMay_L1 p0 k4 n6 (a5_1 + 1)))) else none) else (reredosref_StoreMay_L1 p0 k4 n6 (a5_1 + 1)))))))))) else k4)
def reredosref_StoreMay_L3 (p0 : Store) (a24_1 : Nat) (x28 : Lock) (k41 : Option (Bool)) : Nat → Nat → Option (Bool)
 | 0, _ => none
 | n43 + 1, a42_1 => (if (decide (a42_1 < a24_1)) = true then (Option.bind (p0.Locks[a42_1]?) fun x45 => (if (x28.Key == x45.Key) = true then (if ((x28.Txn.Site == x45.Txn.Site) && (x28.Txn.N == x45.Txn.N)) = true then (some false) else (if x45.Write = true then (some false) else (reredosref_StoreMay_L3 p0 a24_1 x28 k41 n43 (a42_1 + 1)))) else (reredosref_StoreMay_L3 p0 a24_1 x28 k41 n43 (a42_1 + 1)))) else k41)
def reredosref_StoreMay_L4 (p0 : Store) (a24_1 : Nat) (x28 : Lock) (k53 : Option (Bool)) : Nat → Nat → Option (Bool)
 | 0, _ => none
 | n55 + 1, a54_1 => (if (decide (a54_1 < a24_1)) = true then (Option.bind (p0.Locks[a54_1]?) fun x57 => (if (x28.Key == x57.Key) = true then (if ((x28.Txn.Site == x57.Txn.Site) && (x28.Txn.N == x57.Txn.N)) = true then (some false) else (some false)) else (reredosref_StoreMay_L4 p0 a24_1 x28 k53 n55 (a54_1 + 1)))) else k53)
def reredosref_StoreMay_L2 (p0 : Store) (k23 : Option (Bool)) : Nat → Nat → Option (Bool)
 | 0, _ => none
 | n25 + 1, a24_1 => (if (decide (a24_1 < p0.Locks.length)) = true then (Option.bind (p0.Locks[a24_1]?) fun x28 => (Option.bind (reredosref_doubtOf p0 x28.Txn) fun v29 => (if (decide (v29 < 0)) = true then (some false) else (Option.bind (reredosref_In x28.Key 0 7) fun v31 => (if (!v31) = true then (some false) else (Option.bind (reredosref_In x28.Value 0 1073741824) fun v33 => (if (!v33) = true then (some false) else (Option.bind (reredosref_In x28.Ask 0 1048576) fun v35 => (if (!v35) = true then (some false) else (if (!x28.Write) = true then (if (x28.Value != 0) = true then (some false) else (if (x28.Ask != 0) = true then (some false) else (withK (reredosref_StoreMay_L2 p0 k23 n25 (a24_1 + 1)) fun k41 => (reredosref_StoreMay_L3 p0 a24_1 x28 k41 (a24_1 + 1) 0)))) else (withK (reredosref_StoreMay_L2 p0 k23 n25 (a24_1 + 1)) fun k53 => (reredosref_StoreMay_L4 p0 a24_1 x28 k53 (a24_1 + 1) 0)))))))))))) else k23)
def reredosref_StoreMay_L6 (p0 : Store) (x68 : Doubt) (k70 : Bool → Option (Bool)) : Nat → Bool → Nat → Option (Bool)
 | 0, _, _ => none
 | n72 + 1, a71_1, a71_2 => (if (decide (a71_2 < p0.Locks.length)) = true then (if a71_1 = true then (reredosref_StoreMay_L6 p0 x68 k70 n72 true (a71_2 + 1)) else (Option.bind (p0.Locks[a71_2]?) fun x77 => (reredosref_StoreMay_L6 p0 x68 k70 n72 ((x77.Txn.Site == x68.Txn.Site) && (x77.Txn.N == x68.Txn.N)) (a71_2 + 1)))) else (k70 a71_1))
def reredosref_StoreMay_L5 (p0 : Store) (k63 : Option (Bool)) : Nat → Nat → Option (Bool)
 | 0, _ => none
 | n65 + 1, a64_1 => (if (decide (a64_1 < p0.Doubts.length)) = true then (Option.bind (p0.Doubts[a64_1]?) fun x68 => (withK (fun (b69_1 : Bool) => (Option.bind (reredosref_plainTxn x68.Txn) fun v79 => (if (!v79) = true then (some false) else (Option.bind (reredosref_In x68.Age 0 1048576) fun v81 => (if (!v81) = true then (some false) else (if (!b69_1) = true then (some false) else (Option.bind (reredosref_doubtOf p0 x68.Txn) fun v84 => (if (v84 != ((a64_1 : Nat) : Int)) = true then (some false) else (Option.bind (reredosref_isOver p0 x68.Txn) fun v86 => (if v86 = true then (some false) else (reredosref_StoreMay_L5 p0 k63 n65 (a64_1 + 1)))))))))))) fun k70 => (reredosref_StoreMay_L6 p0 x68 k70 (p0.Locks.length + 1) false 0))) else k63)
def reredosref_StoreMay_L8 (p0 : Store) (a91_1 : Nat) (k96 : Option (Bool)) : Nat → Nat → Option (Bool)
 | 0, _ => none
 | n98 + 1, a97_1 => (if (decide (a97_1 < a91_1)) = true then (Option.bind (p0.Over[a97_1]?) fun x100 => (Option.bind (p0.Over[a91_1]?) fun x101 => (if ((x100.Site == x101.Site) && (x100.N == x101.N)) = true then (some false) else (reredosref_StoreMay_L8 p0 a91_1 k96 n98 (a97_1 + 1))))) else k96)
def reredosref_StoreMay_L7 (p0 : Store) (k90 : Option (Bool)) : Nat → Nat → Option (Bool)
 | 0, _ => none
 | n92 + 1, a91_1 => (if (decide (a91_1 < p0.Over.length)) = true then (withK (Option.bind (p0.Over[a91_1]?) fun x104 => (Option.bind (reredosref_plainTxn x104) fun v105 => (if (!v105) = true then (some false) else (reredosref_StoreMay_L7 p0 k90 n92 (a91_1 + 1))))) fun k96 => (reredosref_StoreMay_L8 p0 a91_1 k96 (a91_1 + 1) 0)) else k90)
def reredosref_StoreMay (p0 : Store) : Option (Bool) := (if (decide (((p0.Locks.length : Nat) : Int) > 24)) = true then (some false) else (withK (withK (withK (withK (some true) fun k90 => (reredosref_StoreMay_L7 p0 k90 (p0.Over.length + 1) 0)) fun k63 => (reredosref_StoreMay_L5 p0 k63 (p0.Doubts.length + 1) 0)) fun k23 => (reredosref_StoreMay_L2 p0 k23 (p0.Locks.length + 1) 0)) fun k4 => (reredosref_StoreMay_L1 p0 k4 (p0.Items.length + 1) 0)))
def F47 : VFn := ⟨232, (.seq (.reg [vo 1 (.box 4 (.t 0)), vo 2 (.mv (cb false))]) (.seq (.seq (.reg [vf 15 1 1, vs 16 15, ln 17 16, bk 18 .gtr 17 24]) (.cond (.t 18) (.seq (.reg [vo 2 (.mv (cb false))]) .ret) .skip)) (.seq (.seq (.reg [mi 3 0]) (.wk (.block 0 (.loop (.seq (.seq (.reg [vm 19 3, vf 20 0 1, vs 21 20, ln 22 21, bt 23 .lss 19 22]) (.cond (.t 23) .skip (.exit 0))) (.seq (.block 1 (.seq (.reg [vf 26 0 1, vs 27 26, vm 28 3, xa 29 3 27 28, vl 30 3 29, vo 4 (.alloc [(zi 0), (zi 0), (zi 0)]), vu (.st 3 (.t 4) (.t 30))]) (.seq (.draw [vd (vf 31 0 4) 0, vd (vs 32 31) 1, vd (vo 33 (.call 58 [(.t 32), (ci 0), (ci 7)])) 3, vd (nt 34 33) 7, vd (vm 35 34) 15, vd (gf 36 35 (.fa 1 (.t 4))) 31, vd (gf 37 35 (.ld false 1 (.t 36))) 63, vd (gf 38 35 (.call 58 [(.t 37), (ci 0), (ci 1073741824)])) 127, vd (gf 39 35 (.un .not (.t 38))) 255, vd (vo 40 (.pick (.t 35) (cb true) (.t 39))) 511, vd (vm 41 40) 1023, vd (gf 42 41 (.fa 2 (.t 4))) 2047, vd (gf 43 41 (.ld false 1 (.t 42))) 4095, vd (gf 44 41 (.call 58 [(.t 43), (ci 1), (ci 1048576)])) 8191, vd (gf 45 41 (.un .not (.t 44))) 0x3fff, vd (vo 46 (.pick (.t 41) (cb true) (.t 45))) 0x7fff, vd (vm 47 46) 0xffff, vd (gf 48 47 (.mv (.t 3))) 0x1ffff, vd (gf 49 47 (.bin .i .gtr (.t 48) (ci 0))) 0x3ffff, vd (gf 50 47 (.mv (.t 49))) 0x7ffff, vd (gt 51 50 (.fa 0 (.t 4))) 0xfffff, vd (gt 52 50 (.ld false 1 (.t 51))) 0x1fffff, vd (gt 53 50 (.fa 0 (.t 1))) 0xfffff, vd (gt 54 50 (.ld false 1 (.t 53))) 0x4fffff, vd (gt 55 50 (.mv (.t 3))) 0xfffff, vd (gt 56 50 (.bin .i .sub (.t 55) (ci 1))) 0x10fffff, vd (gt 57 50 (.ia 3 (.t 54) (.t 56))) 0x3cfffff, vd (gt 58 50 (.fa 0 (.t 57))) 0x7cfffff, vd (gt 59 50 (.ld false 1 (.t 58))) 0xfcfffff, vd (gt 60 50 (.bin .i .leq (.t 52) (.t 59))) 0x1fffffff, vd (gf 61 47 (.pick (.t 50) (.t 60) (cb false))) 0x3fffffff, vd (vo 62 (.pick (.t 47) (cb true) (.t 61))) 0x7fffffff]) (.cond (.t 62) (.seq (.reg [vo 2 (.mv (cb false))]) .ret) .skip)))) (.reg [vm 24 3, bk 25 .add 24 1, vm 3 25]))))))) (.seq (.seq (.reg [mi 5 0]) (.wk (.block 2 (.loop (.seq (.seq (.reg [vm 63 5, vf 64 1 1, vs 65 64, ln 66 65, bt 67 .lss 63 66]) (.cond (.t 67) .skip (.exit 2))) (.seq (.block 3 (.seq (.reg [vf 70 1 1, vs 71 70, vm 72 5, xa 73 6 71 72, vl 74 6 73, vo 6 (.alloc [(zi 0), (zi 0), (zi 0), (.d (.b false)), (zi 0), (zi 0)]), vu (.st 6 (.t 6) (.t 74))]) (.seq (.seq (.reg [vl 75 4 1, vf 76 0 6, vl 77 2 76, vo 78 (.call 89 [(.t 75), (.t 77)]), bk 79 .lss 78 0, vm 80 79, gf 81 80 (.fa 2 (.t 6)), gf 82 80 (.ld false 1 (.t 81)), gf 83 80 (.call 58 [(.t 82), (ci 0), (ci 7)]), gf 84 80 (.un .not (.t 83)), vo 85 (.pick (.t 80) (cb true) (.t 84)), vm 86 85, gf 87 86 (.fa 4 (.t 6)), gf 88 86 (.ld false 1 (.t 87)), gf 89 86 (.call 58 [(.t 88), (ci 0), (ci 1073741824)]), gf 90 86 (.un .not (.t 89)), vo 91 (.pick (.t 86) (cb true) (.t 90)), vm 92 91, gf 93 92 (.fa 5 (.t 6)), gf 94 92 (.ld false 1 (.t 93)), gf 95 92 (.call 58 [(.t 94), (ci 0), (ci 1048576)]), gf 96 92 (.un .not (.t 95)), vo 97 (.pick (.t 92) (cb true) (.t 96)), vm 98 97, gf 99 98 (.fa 3 (.t 6)), gf 100 98 (.ld false 1 (.t 99)), gf 101 98 (.un .not (.t 100)), gf 102 98 (.mv (.t 101)), gt 103 102 (.fa 4 (.t 6)), gt 104 102 (.ld false 1 (.t 103)), gt 105 102 (.bin .i .neq (.t 104) (ci 0)), gt 106 102 (.mv (.t 105)), gf 107 106 (.fa 5 (.t 6)), gf 108 106 (.ld false 1 (.t 107)), gf 109 106 (.bin .i .neq (.t 108) (ci 0)), gt 110 102 (.pick (.t 106) (cb true) (.t 109)), gf 111 98 (.pick (.t 102) (.t 110) (cb false)), vo 112 (.pick (.t 98) (cb true) (.t 111))]) (.cond (.t 112) (.seq (.reg [vo 2 (.mv (cb false))]) .ret) .skip)) (.seq (.reg [mi 7 0]) (.wk (.block 4 (.loop (.seq (.seq (.reg [vm 113 7, vm 114 5, bt 115 .lss 113 114]) (.cond (.t 115) .skip (.exit 4))) (.seq (.block 5 (.seq (.reg [vf 118 1 1, vs 119 118, vm 120 7, xa 121 6 119 120, vl 122 6 121, vo 8 (.alloc [(zi 0), (zi 0), (zi 0), (.d (.b false)), (zi 0), (zi 0)]), vu (.st 6 (.t 8) (.t 122))]) (.seq (.reg [vf 123 2 6, vs 124 123, vf 125 2 8, vs 126 125, bt 127 .eql 124 126, vm 128 127, gt 129 128 (.fa 0 (.t 6)), gt 130 128 (.ld true 2 (.t 129)), gt 131 128 (.fa 0 (.t 8)), gt 132 128 (.ld true 2 (.t 131)), gt 133 128 (.eqs false [.i, .i] (.t 130) (.t 132)), gt 134 128 (.mv (.t 133)), gf 135 134 (.fa 3 (.t 6)), gf 136 134 (.ld false 1 (.t 135)), gt 137 128 (.pick (.t 134) (cb true) (.t 136)), gt 138 128 (.mv (.t 137)), gf 139 138 (.fa 3 (.t 8)), gf 140 138 (.ld false 1 (.t 139)), gt 141 128 (.pick (.t 138) (cb true) (.t 140)), vo 142 (.pick (.t 128) (.t 141) (cb false))]) (.cond (.t 142) (.seq (.reg [vo 2 (.mv (cb false))]) .ret) .skip)))) (.reg [vm 116 7, bk 117 .add 116 1, vm 7 117])))))))))) (.reg [vm 68 5, bk 69 .add 68 1, vm 5 69]))))))) (.seq (.seq (.reg [mi 9 0]) (.wk (.block 6 (.loop (.seq (.seq (.reg [vm 143 9, vf 144 2 1, vs 145 144, ln 146 145, bt 147 .lss 143 146]) (.cond (.t 147) .skip (.exit 6))) (.seq (.block 7 (.seq (.reg [vf 150 2 1, vs 151 150, vm 152 9, xa 153 3 151 152, vl 154 3 153, vo 10 (.alloc [(zi 0), (zi 0), (zi 0)]), vu (.st 3 (.t 10) (.t 154))]) (.seq (.reg [vo 11 (.mv (cb false))]) (.seq (.seq (.reg [mi 12 0]) (.wk (.block 8 (.loop (.seq (.seq (.reg [vm 155 12, vf 156 1 1, vs 157 156, ln 158 157, bt 159 .lss 155 158]) (.cond (.t 159) .skip (.exit 8))) (.seq (.block 9 (.draw [vd (vm 162 11) 0, vd (vm 163 162) 1, vd (gf 164 163 (.fa 1 (.t 1))) 3, vd (gf 165 163 (.ld false 1 (.t 164))) 7, vd (gf 166 163 (.mv (.t 12))) 3, vd (gf 167 163 (.ia 6 (.t 165) (.t 166))) 31, vd (gf 168 163 (.fa 0 (.t 167))) 63, vd (gf 169 163 (.ld true 2 (.t 168))) 127, vd (gf 170 163 (.fa 0 (.t 10))) 3, vd (gf 171 163 (.ld true 2 (.t 170))) 259, vd (gf 172 163 (.eqs false [.i, .i] (.t 169) (.t 171))) 1023, vd (vo 173 (.pick (.t 163) (cb true) (.t 172))) 2047, vd (vm 11 173) 4095])) (.reg [vm 160 12, bk 161 .add 160 1, vm 12 161]))))))) (.seq (.reg [vf 174 0 10, vl 175 2 174, vo 176 (.call 48 [(.t 175)]), nt 177 176, vm 178 177, gf 179 178 (.fa 2 (.t 10)), gf 180 178 (.ld false 1 (.t 179)), gf 181 178 (.call 58 [(.t 180), (ci 0), (ci 1048576)]), gf 182 178 (.un .not (.t 181)), vo 183 (.pick (.t 178) (cb true) (.t 182)), vm 184 183, gf 185 184 (.mv (.t 11)), gf 186 184 (.un .not (.t 185)), vo 187 (.pick (.t 184) (cb true) (.t 186)), vm 188 187, gf 189 188 (.ld true 4 (.t 1)), gf 190 188 (.fa 0 (.t 10)), gf 191 188 (.ld true 2 (.t 190)), gf 192 188 (.call 89 [(.t 189), (.t 191)]), gf 193 188 (.mv (.t 9)), gf 194 188 (.bin .i .neq (.t 192) (.t 193)), vo 195 (.pick (.t 188) (cb true) (.t 194)), vm 196 195, gf 197 196 (.ld true 4 (.t 1)), gf 198 196 (.fa 0 (.t 10)), gf 199 196 (.ld true 2 (.t 198)), gf 200 196 (.call 90 [(.t 197), (.t 199)]), vo 201 (.pick (.t 196) (cb true) (.t 200))]) (.cond (.t 201) (.seq (.reg [vo 2 (.mv (cb false))]) .ret) .skip)))))) (.reg [vm 148 9, bk 149 .add 148 1, vm 9 149]))))))) (.seq (.seq (.reg [mi 13 0]) (.wk (.block 10 (.loop (.seq (.seq (.reg [vm 202 13, vf 203 3 1, vs 204 203, ln 205 204, bt 206 .lss 202 205]) (.cond (.t 206) .skip (.exit 10))) (.seq (.block 11 (.seq (.seq (.reg [mi 14 0]) (.wk (.block 12 (.loop (.seq (.seq (.reg [vm 209 14, vm 210 13, bt 211 .lss 209 210]) (.cond (.t 211) .skip (.exit 12))) (.seq (.block 13 (.seq (.draw [vd (vf 214 3 1) 0, vd (vs 215 214) 1, vd (vm 216 14) 0, vd (xa 217 2 215 216) 7, vd (vl 218 2 217) 15, vd (vf 219 3 1) 0, vd (vs 220 219) 32, vd (vm 221 13) 0, vd (xa 222 2 220 221) 224, vd (vl 223 2 222) 480, vd (vo 224 (.eqs false [.i, .i] (.t 218) (.t 223))) 1023]) (.cond (.t 224) (.seq (.reg [vo 2 (.mv (cb false))]) .ret) .skip))) (.reg [vm 212 14, bk 213 .add 212 1, vm 14 213]))))))) (.seq (.reg [vf 225 3 1, vs 226 225, vm 227 13, xa 228 2 226 227, vl 229 2 228, vo 230 (.call 48 [(.t 229)]), nt 231 230]) (.cond (.t 231) (.seq (.reg [vo 2 (.mv (cb false))]) .ret) .skip)))) (.reg [vm 207 13, bk 208 .add 207 1, vm 13 208]))))))) (.seq (.reg [vo 2 (.mv (cb true))]) .ret))))))), [.t 2]⟩
theorem low47 : lowF Tryd.prog 47 = some F47.strip := by kernel_rfl
theorem fok47 : fOk Tryd.prog 47 = true := by kernel_rfl
theorem reredosref_StoreMay_ok (p0 : Store) (r : Bool) (h : reredosref_StoreMay p0 = some r) : FnRO Tryd.prog G 47 [.agg p0.bx] (fun rs => rs = [.one (.b r)]) := by
 refine FnRO.of' low47 fok47 (by simp [F47]) ?_
 rw [reredosref_StoreMay] at h
 replace h := Hd.mk h
 simp only [F47, go_sem]
 try simp only [*, go_sem]
 intro hl1
 refine oi h (fun hb2 h => ?_) (fun hb2 h => ?_)
 cases h.e
 simp only [*, go_sem, mA, mS]
 try simp only [*, go_sem]
 refine jn0 h ([zP 1 0]) ([ox p0.bx]) (fun k4 h => ?_) (fun h => ?_)
 try simp only [*, go_sem]
 refine lp1 (reredosref_StoreMay_L1 p0 k4) (fun a5_1 => [zP 1 0, zI 3 ((a5_1 : Nat) : Int)]) (fun a5_1 => [ox p0.bx]) h [] [some 0] (fun n6 a5_1 h => ?_) (by intros; rw [reredosref_StoreMay_L1])
 rw [reredosref_StoreMay_L1] at h
 try simp only [*, go_sem]
 intro hl7
 refine oi h (fun hb8 h => ?_) (fun hb8 h => ?_)
 have := of_decide_eq_true hb8
 refine obg h (fun x9 _ hkx9 h => ?_)
 refine obk h (fun v10 hv10 h => ?_)
 try simp only [*, go_sem]
 refine cd (reredosref_In_ok G x9.Key 0 7 v10 hv10) ?_
 refine oin h (fun hb11 hkhb11 h => ?_) (fun hb11 hkhb11 h => ?_)
 cases h.e
 simp only [*, go_sem, mA, mS]
 refine obk h (fun v12 hv12 h => ?_)
 try simp only [*, go_sem]
 refine cd (reredosref_In_ok G x9.Value 0 1073741824 v12 hv12) ?_
 refine oin h (fun hb13 hkhb13 h => ?_) (fun hb13 hkhb13 h => ?_)
 cases h.e
 simp only [*, go_sem, mA, mS]
 refine obk h (fun v14 hv14 h => ?_)
 try simp only [*, go_sem]
 refine cd (reredosref_In_ok G x9.Version 1 1048576 v14 hv14) ?_
 refine oin h (fun hb15 hkhb15 h => ?_) (fun hb15 hkhb15 h => ?_)
 cases h.e
 simp only [*, go_sem, mA, mS]
 refine oi h (fun hb16 h => ?_) (fun hb16 h => ?_)
 refine obn h (fun x17 _ _ _ _ h => ?_)
 refine oi h (fun hb19 h => ?_) (fun hb19 h => ?_)
 cases h.e
 simp only [*, go_sem, mA, mS]
 have := wrap_succ_max hkx9 hl7
 try simp only [*, go_sem]
 exact lc (a5_1 + 1) h.e [some 0]
 have := wrap_succ_max hkx9 hl7
 try simp only [*, go_sem]
 exact lc (a5_1 + 1) h.e [some 0]
 try simp only [*, go_sem]
 exact jc () h.e [some 0]
 try simp only [*, go_sem]
 refine jn0 h ([zP 1 0]) ([ox p0.bx]) (fun k23 h => ?_) (fun h => ?_)
 try simp only [*, go_sem]
 refine lp1 (reredosref_StoreMay_L2 p0 k23) (fun a24_1 => [zP 1 0, zI 5 ((a24_1 : Nat) : Int)]) (fun a24_1 => [ox p0.bx]) h [] [some 0] (fun n25 a24_1 h => ?_) (by intros; rw [reredosref_StoreMay_L2])
 rw [reredosref_StoreMay_L2] at h
 try simp only [*, go_sem]
 intro hl26
 refine oi h (fun hb27 h => ?_) (fun hb27 h => ?_)
 have := of_decide_eq_true hb27
 refine obg h (fun x28 _ hkx28 h => ?_)
 try simp only [*, go_sem]
 refine cr h (reredosref_doubtOf_ok G p0 x28.Txn) (fun v29 h => ?_)
 refine oi h (fun hb30 h => ?_) (fun hb30 h => ?_)
 have := of_decide_eq_true hb30
 cases h.e
 simp only [*, go_sem, mA, mS]
 try simp only [*, go_sem]
 refine cr h (reredosref_In_ok G x28.Key 0 7) (fun v31 h => ?_)
 refine oin h (fun hb32 hkhb32 h => ?_) (fun hb32 hkhb32 h => ?_)
 cases h.e
 simp only [*, go_sem, mA, mS]
 try simp only [*, go_sem]
 refine cr h (reredosref_In_ok G x28.Value 0 1073741824) (fun v33 h => ?_)
 refine oin h (fun hb34 hkhb34 h => ?_) (fun hb34 hkhb34 h => ?_)
 cases h.e
 simp only [*, go_sem, mA, mS]
 try simp only [*, go_sem]
 refine cr h (reredosref_In_ok G x28.Ask 0 1048576) (fun v35 h => ?_)
 refine oin h (fun hb36 hkhb36 h => ?_) (fun hb36 hkhb36 h => ?_)
 cases h.e
 simp only [*, go_sem, mA, mS]
 refine oin h (fun hb37 hkhb37 h => ?_) (fun hb37 hkhb37 h => ?_)
 refine oi h (fun hb38 h => ?_) (fun hb38 h => ?_)
 cases h.e
 simp only [*, go_sem, mA, mS]
 refine oi h (fun hb39 h => ?_) (fun hb39 h => ?_)
 cases h.e
 simp only [*, go_sem, mA, mS]
 try simp only [*, go_sem]
 refine jn0 h ([zP 1 0, zI 5 ((a24_1 : Nat) : Int), (81, .one (.p (.q 1 0 2))), zI 82 x28.Key, zB 83 true, zB 84 false, (87, .one (.p (.q 1 0 4))), zI 88 x28.Value, zB 89 true, zB 90 false, (93, .one (.p (.q 1 0 5))), zI 94 x28.Ask, zB 95 true, zB 96 false, (99, .one (.p (.q 1 0 3))), zB 100 false, zB 101 true, zB 102 true, (103, .one (.p (.q 1 0 4))), zI 104 x28.Value, zB 105 false, zB 106 false, (107, .one (.p (.q 1 0 5))), zI 108 x28.Ask, zB 109 false, zB 110 false, zB 111 false]) ([ox p0.bx, ox [zi x28.Txn.Site, zi x28.Txn.N, zi x28.Key, .d (.b false), zi x28.Value, zi x28.Ask]]) (fun k41 h => ?_) (fun h => ?_)
 try simp only [*, go_sem]
 refine lp1 (reredosref_StoreMay_L3 p0 a24_1 x28 k41) (fun a42_1 => [zP 1 0, zI 5 ((a24_1 : Nat) : Int), zP 6 1, zI 7 ((a42_1 : Nat) : Int), (81, .one (.p (.q 1 0 2))), zI 82 x28.Key, zB 83 true, zB 84 false, (87, .one (.p (.q 1 0 4))), zI 88 x28.Value, zB 89 true, zB 90 false, (93, .one (.p (.q 1 0 5))), zI 94 x28.Ask, zB 95 true, zB 96 false, (99, .one (.p (.q 1 0 3))), zB 100 false, zB 101 true, zB 102 true, (103, .one (.p (.q 1 0 4))), zI 104 x28.Value, zB 105 false, zB 106 false, (107, .one (.p (.q 1 0 5))), zI 108 x28.Ask, zB 109 false, zB 110 false, zB 111 false]) (fun a42_1 => [ox p0.bx, ox [zi x28.Txn.Site, zi x28.Txn.N, zi x28.Key, .d (.b false), zi x28.Value, zi x28.Ask]]) h [] [some 0, some 1] (fun n43 a42_1 h => ?_) (by intros; rw [reredosref_StoreMay_L3])
 rw [reredosref_StoreMay_L3] at h
 refine oi h (fun hb44 h => ?_) (fun hb44 h => ?_)
 have := of_decide_eq_true hb44
 refine obg h (fun x45 _ hkx45 h => ?_)
 refine oi h (fun hb46 h => ?_) (fun hb46 h => ?_)
 refine oi h (fun hb47 h => ?_) (fun hb47 h => ?_)
 try simp only [*, go_sem]
 cases h.e
 simp only [*, go_sem, mA, mS]
 try simp only [*, go_sem]
 refine oi h (fun hb48 h => ?_) (fun hb48 h => ?_)
 cases h.e
 simp only [*, go_sem, mA, mS]
 have := wrap_succ_max hkx45 hl1
 try simp only [*, go_sem]
 exact lc (a42_1 + 1) h.e [some 0, some 1]
 have := wrap_succ_max hkx45 hl1
 try simp only [*, go_sem]
 exact lc (a42_1 + 1) h.e [some 0, some 1]
 try simp only [*, go_sem]
 exact jc () h.e [some 0, some 1]
 have := wrap_succ_max hkx28 hl1
 try simp only [*, go_sem]
 exact lc (a24_1 + 1) h.e [some 0]
 try simp only [*, go_sem]
 refine jn0 h ([zP 1 0, zI 5 ((a24_1 : Nat) : Int), (81, .one (.p (.q 1 0 2))), zI 82 x28.Key, zB 83 true, zB 84 false, (87, .one (.p (.q 1 0 4))), zI 88 x28.Value, zB 89 true, zB 90 false, (93, .one (.p (.q 1 0 5))), zI 94 x28.Ask, zB 95 true, zB 96 false, (99, .one (.p (.q 1 0 3))), zB 100 true, zB 101 false, zB 102 false, zB 111 false]) ([ox p0.bx, ox [zi x28.Txn.Site, zi x28.Txn.N, zi x28.Key, .d (.b true), zi x28.Value, zi x28.Ask]]) (fun k53 h => ?_) (fun h => ?_)
 try simp only [*, go_sem]
 refine lp1 (reredosref_StoreMay_L4 p0 a24_1 x28 k53) (fun a54_1 => [zP 1 0, zI 5 ((a24_1 : Nat) : Int), zP 6 1, zI 7 ((a54_1 : Nat) : Int), (81, .one (.p (.q 1 0 2))), zI 82 x28.Key, zB 83 true, zB 84 false, (87, .one (.p (.q 1 0 4))), zI 88 x28.Value, zB 89 true, zB 90 false, (93, .one (.p (.q 1 0 5))), zI 94 x28.Ask, zB 95 true, zB 96 false, (99, .one (.p (.q 1 0 3))), zB 100 true, zB 101 false, zB 102 false, zB 111 false]) (fun a54_1 => [ox p0.bx, ox [zi x28.Txn.Site, zi x28.Txn.N, zi x28.Key, .d (.b true), zi x28.Value, zi x28.Ask]]) h [] [some 0, some 1] (fun n55 a54_1 h => ?_) (by intros; rw [reredosref_StoreMay_L4])
 rw [reredosref_StoreMay_L4] at h
 refine oi h (fun hb56 h => ?_) (fun hb56 h => ?_)
 have := of_decide_eq_true hb56
 refine obg h (fun x57 _ hkx57 h => ?_)
 refine oi h (fun hb58 h => ?_) (fun hb58 h => ?_)
 refine oi h (fun hb59 h => ?_) (fun hb59 h => ?_)
 try simp only [*, go_sem]
 cases h.e
 simp only [*, go_sem, mA, mS]
 try simp only [*, go_sem]
 cases h.e
 simp only [*, go_sem, mA, mS]
 have := wrap_succ_max hkx57 hl1
 try simp only [*, go_sem]
 exact lc (a54_1 + 1) h.e [some 0, some 1]
 try simp only [*, go_sem]
 exact jc () h.e [some 0, some 1]
 have := wrap_succ_max hkx28 hl1
 try simp only [*, go_sem]
 exact lc (a24_1 + 1) h.e [some 0]
 try simp only [*, go_sem]
 exact jc () h.e [some 0]
 try simp only [*, go_sem]
 refine jn0 h ([zP 1 0]) ([ox p0.bx]) (fun k63 h => ?_) (fun h => ?_)
 try simp only [*, go_sem]
 refine lp1 (reredosref_StoreMay_L5 p0 k63) (fun a64_1 => [zP 1 0, zI 9 ((a64_1 : Nat) : Int)]) (fun a64_1 => [ox p0.bx]) h [] [some 0] (fun n65 a64_1 h => ?_) (by intros; rw [reredosref_StoreMay_L5])
 rw [reredosref_StoreMay_L5] at h
 try simp only [*, go_sem]
 intro hl66
 refine oi h (fun hb67 h => ?_) (fun hb67 h => ?_)
 have := of_decide_eq_true hb67
 refine obg h (fun x68 _ hkx68 h => ?_)
 try simp only [*, go_sem]
 refine jn1 h (fun b69_1 => [zP 1 0, zI 9 ((a64_1 : Nat) : Int), zP 10 1, zB 11 b69_1]) (fun b69_1 => [ox p0.bx, ox x68.bx]) (fun k70 h => ?_) (fun b69_1 h => ?_)
 try simp only [*, go_sem]
 refine lp2 (reredosref_StoreMay_L6 p0 x68 k70) (fun a71_1 a71_2 => [zP 1 0, zI 9 ((a64_1 : Nat) : Int), zP 10 1, zB 11 a71_1, zI 12 ((a71_2 : Nat) : Int)]) (fun a71_1 a71_2 => [ox p0.bx, ox x68.bx]) h [] [some 0, some 1] (fun n72 a71_1 a71_2 h => ?_) (by intros; rw [reredosref_StoreMay_L6])
 rw [reredosref_StoreMay_L6] at h
 try simp only [*, go_sem]
 intro hl73
 refine oi h (fun hb74 h => ?_) (fun hb74 h => ?_)
 have hkhb74 := of_decide_eq_true hb74
 refine oi h (fun hb75 h => ?_) (fun hb75 h => ?_)
 have := wrap_succ_max hkhb74 hl1
 try simp only [*, go_sem]
 exact lc (true, a71_2 + 1) h.e [some 0, some 1]
 refine obg h (fun x77 _ hkx77 h => ?_)
 have := wrap_succ_max hkx77 hl1
 try simp only [*, go_sem]
 exact lc ((x77.Txn.Site == x68.Txn.Site) && (x77.Txn.N == x68.Txn.N), a71_2 + 1) h.e [some 0, some 1]
 try simp only [*, go_sem]
 exact jc (a71_1) h.e [some 0, some 1]
 try simp only [*, go_sem]
 refine cr h (reredosref_plainTxn_ok G x68.Txn) (fun v79 h => ?_)
 refine oin h (fun hb80 hkhb80 h => ?_) (fun hb80 hkhb80 h => ?_)
 cases h.e
 simp only [*, go_sem, mA, mS]
 try simp only [*, go_sem]
 refine cr h (reredosref_In_ok G x68.Age 0 1048576) (fun v81 h => ?_)
 refine oin h (fun hb82 hkhb82 h => ?_) (fun hb82 hkhb82 h => ?_)
 cases h.e
 simp only [*, go_sem, mA, mS]
 refine oin h (fun hb83 hkhb83 h => ?_) (fun hb83 hkhb83 h => ?_)
 cases h.e
 simp only [*, go_sem, mA, mS]
 try simp only [*, go_sem]
 refine cr h (reredosref_doubtOf_ok G p0 x68.Txn) (fun v84 h => ?_)
 refine oi h (fun hb85 h => ?_) (fun hb85 h => ?_)
 cases h.e
 simp only [*, go_sem, mA, mS]
 try simp only [*, go_sem]
 refine cr h (reredosref_isOver_ok G p0 x68.Txn) (fun v86 h => ?_)
 refine oi h (fun hb87 h => ?_) (fun hb87 h => ?_)
 cases h.e
 simp only [*, go_sem, mA, mS]
 have := wrap_succ_max hkx68 hl66
 try simp only [*, go_sem]
 exact lc (a64_1 + 1) h.e [some 0]
 try simp only [*, go_sem]
 exact jc () h.e [some 0]
 try simp only [*, go_sem]
 refine jn0 h ([]) ([]) (fun k90 h => ?_) (fun h => ?_)
 try simp only [*, go_sem]
 refine lp1 (reredosref_StoreMay_L7 p0 k90) (fun a91_1 => [zP 1 0, zI 13 ((a91_1 : Nat) : Int)]) (fun a91_1 => [ox p0.bx]) h [] [some 0] (fun n92 a91_1 h => ?_) (by intros; rw [reredosref_StoreMay_L7])
 rw [reredosref_StoreMay_L7] at h
 try simp only [*, go_sem]
 intro hl93
 refine oi h (fun hb94 h => ?_) (fun hb94 h => ?_)
 have := of_decide_eq_true hb94
 try simp only [*, go_sem]
 refine jn0 h ([zP 1 0, zI 13 ((a91_1 : Nat) : Int)]) ([ox p0.bx]) (fun k96 h => ?_) (fun h => ?_)
 try simp only [*, go_sem]
 refine lp1 (reredosref_StoreMay_L8 p0 a91_1 k96) (fun a97_1 => [zP 1 0, zI 13 ((a91_1 : Nat) : Int), zI 14 ((a97_1 : Nat) : Int)]) (fun a97_1 => [ox p0.bx]) h [] [some 0] (fun n98 a97_1 h => ?_) (by intros; rw [reredosref_StoreMay_L8])
 rw [reredosref_StoreMay_L8] at h
 refine oi h (fun hb99 h => ?_) (fun hb99 h => ?_)
 have := of_decide_eq_true hb99
 refine obg h (fun x100 _ hkx100 h => ?_)
 refine obg h (fun x101 _ _ h => ?_)
 refine oi h (fun hb102 h => ?_) (fun hb102 h => ?_)
 try simp only [*, go_sem]
 cases h.e
 simp only [*, go_sem, mA, mS]
 try simp only [*, go_sem]
 have := wrap_succ_max hkx100 hl93
 try simp only [*, go_sem]
 exact lc (a97_1 + 1) h.e [some 0]
 try simp only [*, go_sem]
 exact jc () h.e [some 0]
 refine obg h (fun x104 _ hkx104 h => ?_)
 try simp only [*, go_sem]
 refine cr h (reredosref_plainTxn_ok G x104) (fun v105 h => ?_)
 refine oin h (fun hb106 hkhb106 h => ?_) (fun hb106 hkhb106 h => ?_)
 cases h.e
 simp only [*, go_sem, mA, mS]
 have := wrap_succ_max hkx104 hl93
 try simp only [*, go_sem]
 exact lc (a91_1 + 1) h.e [some 0]
 try simp only [*, go_sem]
 exact jc () h.e []
 cases h.e
 simp only [*, go_sem, mA, mS]
def reredosref_Dominates (p0 : Label) (p1 : Label) : Option (Bool) := (withK (fun (b1_1 : Bool) => (some b1_1)) fun k2 => (if (decide (p0.Level ≥ p1.Level)) = true then (k2 (bitOp .i64 (· &&& ·) p0.Cats p1.Cats == p1.Cats)) else (k2 false)))
def F49 : VFn := ⟨20, (.seq (.reg [vo 2 (.boxk 2 (.t 0)), vo 3 (.boxk 2 (.t 1)), vo 4 (.mv (cb false))]) (.seq (.wk (.reg [vf 5 0 2, vs 6 5, vf 7 0 3, vs 8 7, bt 9 .geq 6 8, vm 10 9, gt 11 10 (.fa 1 (.t 2)), gt 12 10 (.ld false 1 (.t 11)), gt 13 10 (.fa 1 (.t 3)), gt 14 10 (.ld false 1 (.t 13)), gt 15 10 (.bin .i .and (.t 12) (.t 14)), gt 16 10 (.fa 1 (.t 3)), gt 17 10 (.ld false 1 (.t 16)), gt 18 10 (.bin .i .eql (.t 15) (.t 17)), vo 19 (.pick (.t 10) (.t 18) (cb false)), vm 4 19])) .ret)), [.t 4]⟩
theorem low49 : lowF Tryd.prog 49 = some F49.strip := by kernel_rfl
theorem fok49 : fOk Tryd.prog 49 = true := by kernel_rfl
theorem reredosref_Dominates_ok (p0 : Label) (p1 : Label) (r : Bool) (h : reredosref_Dominates p0 p1 = some r) : FnRO Tryd.prog G 49 [.agg p0.bx, .agg p1.bx] (fun rs => rs = [.one (.b r)]) := by
 refine FnRO.of' low49 fok49 (by simp [F49]) ?_
 rw [reredosref_Dominates] at h
 replace h := Hd.mk h
 simp only [F49, go_sem]
 try simp only [*, go_sem]
 refine jn1 h (fun b1_1 => [zB 4 b1_1]) (fun b1_1 => []) (fun k2 h => ?_) (fun b1_1 h => ?_)
 refine oi h (fun hb3 h => ?_) (fun hb3 h => ?_)
 try simp only [*, go_sem]
 exact jc (bitOp .i64 (· &&& ·) p0.Cats p1.Cats == p1.Cats) h.e []
 try simp only [*, go_sem]
 exact jc (false) h.e []
 cases h.e
 simp only [*, go_sem, mA, mS]
def reredosref_askFault (p0 : Store) (p1 : Txn) (p2 : Int) : Option (Int) := (Option.bind (reredosref_StoreMay p0) fun v1 => (if (!v1) = true then (some 9) else (Option.bind (reredosref_plainTxn p1) fun v3 => (if (!v3) = true then (some 2) else (Option.bind (reredosref_In p2 0 7) fun v5 => (if (!v5) = true then (some 2) else (some 0)))))))
def F107 : VFn := ⟨18, (.seq (.reg [vo 3 (.boxk 4 (.t 0)), vo 4 (.boxk 2 (.t 1)), mi 6 0]) (.seq (.seq (.reg [vl 7 4 3, vo 8 (.call 47 [(.t 7)]), nt 9 8]) (.cond (.t 9) (.seq (.reg [mi 6 9]) .ret) .skip)) (.seq (.seq (.reg [vl 10 2 4, vo 11 (.call 48 [(.t 10)]), nt 12 11, vm 13 12, gf 14 13 (.mv (.t 2)), gf 15 13 (.call 58 [(.t 14), (ci 0), (ci 7)]), gf 16 13 (.un .not (.t 15)), vo 17 (.pick (.t 13) (cb true) (.t 16))]) (.cond (.t 17) (.seq (.reg [mi 6 2]) .ret) .skip)) (.seq (.reg [mi 6 0]) .ret)))), [.t 6]⟩
theorem low107 : lowF Tryd.prog 107 = some F107.strip := by kernel_rfl
theorem fok107 : fOk Tryd.prog 107 = true := by kernel_rfl
theorem reredosref_askFault_ok (p0 : Store) (p1 : Txn) (p2 : Int) (r : Int) (h : reredosref_askFault p0 p1 p2 = some r) : FnRO Tryd.prog G 107 [.agg p0.bx, .agg p1.bx, .one (.d (.i .i64 p2))] (fun rs => rs = [.one (.i .i64 r)]) := by
 refine FnRO.of' low107 fok107 (by simp [F107]) ?_
 rw [reredosref_askFault] at h
 replace h := Hd.mk h
 simp only [F107, go_sem]
 try simp only [*, go_sem]
 refine cr h (reredosref_StoreMay_ok G p0) (fun v1 h => ?_)
 refine oin h (fun hb2 hkhb2 h => ?_) (fun hb2 hkhb2 h => ?_)
 cases h.e
 simp only [*, go_sem, mA, mS]
 try simp only [*, go_sem]
 refine cr h (reredosref_plainTxn_ok G p1) (fun v3 h => ?_)
 refine oin h (fun hb4 hkhb4 h => ?_) (fun hb4 hkhb4 h => ?_)
 cases h.e
 simp only [*, go_sem, mA, mS]
 try simp only [*, go_sem]
 refine cr h (reredosref_In_ok G p2 0 7) (fun v5 h => ?_)
 refine oin h (fun hb6 hkhb6 h => ?_) (fun hb6 hkhb6 h => ?_)
 cases h.e
 simp only [*, go_sem, mA, mS]
 cases h.e
 simp only [*, go_sem, mA, mS]
end Go.V.Dec
