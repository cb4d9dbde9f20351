/- What Go's functions come to, as plain functions: part 1; no condition. -/
import Derived.Test.YtjklmaihcaelaaaDoorRows
import Derived.Test.YtjklmaihcaelaaaDoorVY
set_option linter.unusedVariables false
set_option linter.unusedSimpArgs false
namespace Go.V.Dec
open Go Go.Proofs
set_option maxRecDepth 100000
set_option maxHeartbeats 4000000
variable (G : Nat → Option (List D))
structure WireParts where
  label : Bool
  key : Bool
  value : Bool
  version : Bool
  ask : Bool
  yes : Bool
  code : Bool
  sites : Bool
  deriving Inhabited
def WireParts.enc (x : WireParts) : List D := [.b x.label, .b x.key, .b x.value, .b x.version, .b x.ask, .b x.yes, .b x.code, .b x.sites]
def WireParts.encO (x : WireParts) : List D := [.b x.label, .b x.key, .b x.value, .b x.version, .b x.ask, .b x.yes, .b x.code, .b x.sites]
structure Label where
  Level : Int
  Cats : Int
  deriving Inhabited
def Label.enc (x : Label) : List D := [.i .i64 x.Level, .i .i64 x.Cats]
def Label.encO (x : Label) : List D := [.i .i64 x.Level, .i .i64 x.Cats]
structure Config where
  Sites : Int
  Labels : List Label
  Patience : Int
  deriving Inhabited
def Config.enc (x : Config) : List D := [.i .i64 x.Sites, .l 2 (x.Labels.map Label.enc), .i .i64 x.Patience]
def Config.encO (x : Config) : List D := [.i .i64 x.Sites, .o 2 (x.Labels.map Label.enc), .i .i64 x.Patience]
structure WireReader where
  rest : List Int
  fault : Int
  deriving Inhabited
def WireReader.enc (x : WireReader) : List D := [.l 1 (x.rest.map encU8), .i .i64 x.fault]
def WireReader.encO (x : WireReader) : List D := [.o 1 (x.rest.map encU8), .i .i64 x.fault]
structure Txn where
  Site : Int
  N : Int
  deriving Inhabited
def Txn.enc (x : Txn) : List D := [.i .i64 x.Site, .i .i64 x.N]
def Txn.encO (x : Txn) : List D := [.i .i64 x.Site, .i .i64 x.N]
structure Message where
  Kind : Int
  From : Int
  To : Int
  Txn : Txn
  Label : Int
  Key : Int
  Value : Int
  Version : Int
  Ask : Int
  Yes : Bool
  Code : Int
  deriving Inhabited
def Message.enc (x : Message) : List D := [.i .i64 x.Kind, .i .i64 x.From, .i .i64 x.To, .i .i64 x.Txn.Site, .i .i64 x.Txn.N, .i .i64 x.Label, .i .i64 x.Key, .i .i64 x.Value, .i .i64 x.Version, .i .i64 x.Ask, .b x.Yes, .i .i64 x.Code]
def Message.encO (x : Message) : List D := [.i .i64 x.Kind, .i .i64 x.From, .i .i64 x.To, .i .i64 x.Txn.Site, .i .i64 x.Txn.N, .i .i64 x.Label, .i .i64 x.Key, .i .i64 x.Value, .i .i64 x.Version, .i .i64 x.Ask, .b x.Yes, .i .i64 x.Code]
structure ReredosrefEye where
  b : List Int
  at_ : Int
  e : Int
  deriving Inhabited
def ReredosrefEye.enc (x : ReredosrefEye) : List D := [.l 1 (x.b.map encU8), .i .i64 x.at_, .i .i64 x.e]
def ReredosrefEye.encO (x : ReredosrefEye) : List D := [.o 1 (x.b.map encU8), .i .i64 x.at_, .i .i64 x.e]
def WireParts.bx (x : WireParts) : List SC := [.d (.b x.label), .d (.b x.key), .d (.b x.value), .d (.b x.version), .d (.b x.ask), .d (.b x.yes), .d (.b x.code), .d (.b x.sites)]
def Label.bx (x : Label) : List SC := [.d (.i .i64 x.Level), .d (.i .i64 x.Cats)]
def Config.bx (x : Config) : List SC := [.d (.i .i64 x.Sites), .d (.l 2 (x.Labels.map Label.enc)), .d (.i .i64 x.Patience)]
def WireReader.bx (x : WireReader) : List SC := [.d (.l 1 (x.rest.map encU8)), .d (.i .i64 x.fault)]
def Txn.bx (x : Txn) : List SC := [.d (.i .i64 x.Site), .d (.i .i64 x.N)]
def Message.bx (x : Message) : List SC := [.d (.i .i64 x.Kind), .d (.i .i64 x.From), .d (.i .i64 x.To), .d (.i .i64 x.Txn.Site), .d (.i .i64 x.Txn.N), .d (.i .i64 x.Label), .d (.i .i64 x.Key), .d (.i .i64 x.Value), .d (.i .i64 x.Version), .d (.i .i64 x.Ask), .d (.b x.Yes), .d (.i .i64 x.Code)]
def ReredosrefEye.bx (x : ReredosrefEye) : List SC := [.d (.l 1 (x.b.map encU8)), .d (.i .i64 x.at_), .d (.i .i64 x.e)]
attribute [go_sem] encI WireParts.enc WireParts.encO WireParts.bx Label.enc Label.encO Label.bx Config.enc Config.encO Config.bx WireReader.enc WireReader.encO WireReader.bx Txn.enc Txn.encO Txn.bx Message.enc Message.encO Message.bx ReredosrefEye.enc ReredosrefEye.encO ReredosrefEye.bx
def tab_wire_messages : List WireParts := [WireParts.mk false false false false false false false false, WireParts.mk true true false false true false false false, WireParts.mk false true true false true false false false, WireParts.mk true true false true false false false false, WireParts.mk false false false false false true false false, WireParts.mk true true true true true false true false, WireParts.mk false true false false true false true false, WireParts.mk true true false true false true false false, WireParts.mk false false false false false false false false, WireParts.mk false false false false false false false false]
def tab_wire_messagesD : List D := [.b false, .b false, .b false, .b false, .b false, .b false, .b false, .b false, .b true, .b true, .b false, .b false, .b true, .b false, .b false, .b false, .b false, .b true, .b true, .b false, .b true, .b false, .b false, .b false, .b true, .b true, .b false, .b true, .b false, .b false, .b false, .b false, .b false, .b false, .b false, .b false, .b false, .b true, .b false, .b false, .b true, .b true, .b true, .b true, .b true, .b false, .b true, .b false, .b false, .b true, .b false, .b false, .b true, .b false, .b true, .b false, .b true, .b true, .b false, .b true, .b false, .b true, .b false, .b false, .b false, .b false, .b false, .b false, .b false, .b false, .b false, .b false, .b false, .b false, .b false, .b false, .b false, .b false, .b false, .b false]
theorem tab_wire_messages_rows : rowsT 8 10 tab_wire_messagesD = tab_wire_messages.map WireParts.enc := by rfl
theorem tab_wire_messages_lenD : tab_wire_messagesD.length = 80 := by rfl
theorem tab_wire_messages_len : tab_wire_messages.length = 10 := by rfl
attribute [go_sem] tab_wire_messages_rows tab_wire_messages_lenD
def tab_wire_records : List WireParts := [WireParts.mk false false false false false false false false, WireParts.mk false true true false true false false false, WireParts.mk false false false false false true false false, WireParts.mk false false false false false false false true, WireParts.mk false false false false false false false false, WireParts.mk false false false false false false false false, WireParts.mk false false false false false true false false]
def tab_wire_recordsD : List D := [.b false, .b false, .b false, .b false, .b false, .b false, .b false, .b false, .b false, .b true, .b true, .b false, .b true, .b false, .b false, .b false, .b false, .b false, .b false, .b false, .b false, .b true, .b false, .b false, .b false, .b false, .b false, .b false, .b false, .b false, .b false, .b true, .b false, .b false, .b false, .b false, .b false, .b false, .b false, .b false, .b false, .b false, .b false, .b false, .b false, .b false, .b false, .b false, .b false, .b false, .b false, .b false, .b false, .b true, .b false, .b false]
theorem tab_wire_records_rows : rowsT 8 7 tab_wire_recordsD = tab_wire_records.map WireParts.enc := by rfl
theorem tab_wire_records_lenD : tab_wire_recordsD.length = 56 := by rfl
theorem tab_wire_records_len : tab_wire_records.length = 7 := by rfl
attribute [go_sem] tab_wire_records_rows tab_wire_records_lenD
def reredoslaw_octets (p0 : List Int) : Option ((List Int)) := (if fits 1 p0.length then (some p0) else none)
def F6 : VFn := ⟨5, (.seq (.reg [vo 2 (.mv (.c (.one (.nl 1))))]) (.seq (.reg [vm 3 0, vo 4 (.app 1 1 (.c (.one (.nl 1))) (.t 3)), vm 2 4]) .ret)), [.t 2]⟩
theorem low6 : lowF Tryd.prog 6 = some F6.strip := by kernel_rfl
theorem fok6 : fOk Tryd.prog 6 = true := by kernel_rfl
theorem reredoslaw_octets_ok (p0 : List Int) (r : (List Int)) (h : reredoslaw_octets p0 = some r) : FnRO Tryd.prog G 6 [.one (.d (.l 1 (p0.map encU8)))] (fun rs => rs = [.one (.o 1 (r.map encU8))]) := by
 refine FnRO.of' low6 fok6 (by simp [F6]) ?_
 rw [reredoslaw_octets] at h
 replace h := Hd.mk h
 simp only [F6, go_sem]
 refine ck h (fun _ h => ?_)
 cases h.e
 simp only [*, go_sem, mA, mS]
def label_one (p0 : Label) : Option (Bool) := (withK (fun (b1_1 : Bool) => (some b1_1)) fun k2 => (if (decide (p0.Level ≥ 0)) = true then (if (decide (p0.Level ≤ 9)) = true then (if (decide (p0.Cats ≥ 0)) = true then (k2 (decide (p0.Cats ≤ 15))) else (k2 false)) else (k2 false)) else (k2 false)))
def F39 : VFn := ⟨21, (.seq (.reg [vo 1 (.boxk 2 (.t 0)), vo 2 (.mv (cb false))]) (.seq (.wk (.reg [vf 3 0 1, vs 4 3, bk 5 .geq 4 0, vm 6 5, gt 7 6 (.fa 0 (.t 1)), gt 8 6 (.ld false 1 (.t 7)), gt 9 6 (.bin .i .leq (.t 8) (ci 9)), vo 10 (.pick (.t 6) (.t 9) (cb false)), vm 11 10, gt 12 11 (.fa 1 (.t 1)), gt 13 11 (.ld false 1 (.t 12)), gt 14 11 (.bin .i .geq (.t 13) (ci 0)), vo 15 (.pick (.t 11) (.t 14) (cb false)), vm 16 15, gt 17 16 (.fa 1 (.t 1)), gt 18 16 (.ld false 1 (.t 17)), gt 19 16 (.bin .i .leq (.t 18) (ci 15)), vo 20 (.pick (.t 16) (.t 19) (cb false)), vm 2 20])) .ret)), [.t 2]⟩
theorem low39 : lowF Tryd.prog 39 = some F39.strip := by kernel_rfl
theorem fok39 : fOk Tryd.prog 39 = true := by kernel_rfl
theorem label_one_ok (p0 : Label) (r : Bool) (h : label_one p0 = some r) : FnRO Tryd.prog G 39 [.agg p0.bx] (fun rs => rs = [.one (.b r)]) := by
 refine FnRO.of' low39 fok39 (by simp [F39]) ?_
 rw [label_one] at h
 replace h := Hd.mk h
 simp only [F39, go_sem]
 try simp only [*, go_sem]
 refine jn1 h (fun b1_1 => [zB 2 b1_1]) (fun b1_1 => []) (fun k2 h => ?_) (fun b1_1 h => ?_)
 refine oi h (fun hb3 h => ?_) (fun hb3 h => ?_)
 refine oi h (fun hb4 h => ?_) (fun hb4 h => ?_)
 refine oi h (fun hb5 h => ?_) (fun hb5 h => ?_)
 try simp only [*, go_sem]
 exact jc (decide (p0.Cats ≤ 15)) h.e []
 try simp only [*, go_sem]
 exact jc (false) h.e []
 try simp only [*, go_sem]
 exact jc (false) h.e []
 try simp only [*, go_sem]
 exact jc (false) h.e []
 cases h.e
 simp only [*, go_sem, mA, mS]
def label_Check_L2 (p0 : Config) (a10_1 : Nat) (x13 : Label) (k19 : Option (Int)) : Nat → Nat → Option (Int)
 | 0, _ => none
 | n21 + 1, a20_1 => (if (decide (a20_1 < min a10_1 p0.Labels.length)) = true then (Option.bind ((p0.Labels.take a10_1)[a20_1]?) fun x23 => (if ((x23.Level == x13.Level) && (x23.Cats == x13.Cats)) = true then (some 7) else (label_Check_L2 p0 a10_1 x13 k19 n21 (a20_1 + 1)))) else k19)
def label_Check_L1 (p0 : Config) (k9 : Option (Int)) : Nat → Nat → Option (Int)
 | 0, _ => none
 | n11 + 1, a10_1 => (if (decide (a10_1 < p0.Labels.length)) = true then (Option.bind (p0.Labels[a10_1]?) fun x13 => (Option.bind (label_one x13) fun v14 => (if (!v14) = true then (some 2) else (withK (label_Check_L1 p0 k9 n11 (a10_1 + 1)) fun k19 => (label_Check_L2 p0 a10_1 x13 k19 (min a10_1 p0.Labels.length + 1) 0))))) else k9)
def label_Check (p0 : Config) : Option (Int) := (if (decide (p0.Sites < 1)) = true then (some 2) else (if (decide (p0.Sites > 4)) = true then (some 2) else (if (decide (((p0.Labels.length : Nat) : Int) < 1)) = true then (some 1) else (if (decide (((p0.Labels.length : Nat) : Int) > 6)) = true then (some 1) else (withK (if (decide (p0.Patience < 1)) = true then (some 2) else (if (decide (p0.Patience > 1048576)) = true then (some 2) else (some 0))) fun k9 => (label_Check_L1 p0 k9 (p0.Labels.length + 1) 0))))))
def F13 : VFn := ⟨58, (.seq (.reg [vo 1 (.boxk 3 (.t 0)), mi 2 0]) (.seq (.seq (.reg [vf 7 0 1, vs 8 7, bk 9 .lss 8 1, vm 10 9, gf 11 10 (.fa 0 (.t 1)), gf 12 10 (.ld false 1 (.t 11)), gf 13 10 (.bin .i .gtr (.t 12) (ci 4)), vo 14 (.pick (.t 10) (cb true) (.t 13))]) (.cond (.t 14) (.seq (.reg [mi 2 2]) .ret) .skip)) (.seq (.seq (.reg [vf 15 1 1, vs 16 15, ln 17 16, bk 18 .lss 17 1, vm 19 18, gf 20 19 (.fa 1 (.t 1)), gf 21 19 (.ld false 1 (.t 20)), gf 22 19 (.len (.t 21)), gf 23 19 (.bin .i .gtr (.t 22) (ci 6)), vo 24 (.pick (.t 19) (cb true) (.t 23))]) (.cond (.t 24) (.seq (.reg [mi 2 1]) .ret) .skip)) (.seq (.seq (.reg [vf 25 1 1, vs 26 25, ln 27 26, mi 28 0]) (.wk (.block 0 (.loop (.seq (.reg [bt 29 .lss 28 27]) (.seq (.cond (.t 29) .skip (.exit 0)) (.seq (.block 1 (.seq (.reg [vm 30 28, xa 31 2 26 28, vl 32 2 31, vo 4 (.alloc [(zi 0), (zi 0)]), vm 3 30, vu (.st 2 (.t 4) (.t 32))]) (.seq (.seq (.reg [vl 33 2 4, vo 34 (.call 39 [(.t 33)]), nt 35 34]) (.cond (.t 35) (.seq (.reg [mi 2 2]) .ret) .skip)) (.seq (.reg [vf 36 1 1, vs 37 36, vm 38 3, vo 39 (.sl 2 (.t 37) none (some (.t 38))), ln 40 39, mi 41 0]) (.wk (.block 2 (.loop (.seq (.reg [bt 42 .lss 41 40]) (.seq (.cond (.t 42) .skip (.exit 2)) (.seq (.block 3 (.seq (.reg [xa 43 2 39 41, vl 44 2 43, vo 6 (.alloc [(zi 0), (zi 0)]), vu (.st 2 (.t 6) (.t 44))]) (.seq (.reg [vl 45 2 6, vl 46 2 4, vo 47 (.eqs false [.i, .i] (.t 45) (.t 46))]) (.cond (.t 47) (.seq (.reg [mi 2 7]) .ret) .skip)))) (.reg [bk 48 .add 41 1, vm 41 48]))))))))))) (.reg [bk 49 .add 28 1, vm 28 49])))))))) (.seq (.seq (.reg [vf 50 2 1, vs 51 50, bk 52 .lss 51 1, vm 53 52, gf 54 53 (.fa 2 (.t 1)), gf 55 53 (.ld false 1 (.t 54)), gf 56 53 (.bin .i .gtr (.t 55) (ci 1048576)), vo 57 (.pick (.t 53) (cb true) (.t 56))]) (.cond (.t 57) (.seq (.reg [mi 2 2]) .ret) .skip)) (.seq (.reg [mi 2 0]) .ret)))))), [.t 2]⟩
theorem low13 : lowF Tryd.prog 13 = some F13.strip := by kernel_rfl
theorem fok13 : fOk Tryd.prog 13 = true := by kernel_rfl
theorem label_Check_ok (p0 : Config) (r : Int) (h : label_Check p0 = some r) : FnRO Tryd.prog G 13 [.agg p0.bx] (fun rs => rs = [.one (.i .i64 r)]) := by
 refine FnRO.of' low13 fok13 (by simp [F13]) ?_
 rw [label_Check] at h
 replace h := Hd.mk h
 simp only [F13, go_sem]
 refine oi h (fun hb1 h => ?_) (fun hb1 h => ?_)
 have := of_decide_eq_true hb1
 cases h.e
 simp only [*, go_sem, mA, mS]
 refine oi h (fun hb2 h => ?_) (fun hb2 h => ?_)
 cases h.e
 simp only [*, go_sem, mA, mS]
 try simp only [*, go_sem]
 intro hl3
 refine oi h (fun hb4 h => ?_) (fun hb4 h => ?_)
 cases h.e
 simp only [*, go_sem, mA, mS]
 try simp only [*, go_sem]
 intro hl5
 refine oi h (fun hb6 h => ?_) (fun hb6 h => ?_)
 cases h.e
 simp only [*, go_sem, mA, mS]
 try simp only [*, go_sem]
 intro hl7
 try simp only [*, go_sem]
 refine jn0 h ([zK 1 (Config.enc p0)]) ([]) (fun k9 h => ?_) (fun h => ?_)
 try simp only [*, go_sem]
 refine lp1 (label_Check_L1 p0 k9) (fun a10_1 => [zK 1 (Config.enc p0), zL 26 2 (p0.Labels.map Label.enc), zI 27 ((p0.Labels.length : Nat) : Int), zI 28 ((a10_1 : Nat) : Int)]) (fun a10_1 => []) h [] [] (fun n11 a10_1 h => ?_) (by intros; rw [label_Check_L1])
 rw [label_Check_L1] at h
 refine oi h (fun hb12 h => ?_) (fun hb12 h => ?_)
 have := of_decide_eq_true hb12
 refine obg h (fun x13 _ hkx13 h => ?_)
 try simp only [*, go_sem]
 refine cr h (label_one_ok G x13) (fun v14 h => ?_)
 refine oin h (fun hb15 hkhb15 h => ?_) (fun hb15 hkhb15 h => ?_)
 cases h.e
 simp only [*, go_sem, mA, mS]
 have := Nat.le_of_lt hkx13
 try simp only [*, go_sem]
 intro hl17
 try simp only [*, go_sem]
 refine jn0 h ([zK 1 (Config.enc p0), zL 26 2 (p0.Labels.map Label.enc), zI 27 ((p0.Labels.length : Nat) : Int), zI 28 ((a10_1 : Nat) : Int)]) ([]) (fun k19 h => ?_) (fun h => ?_)
 try simp only [*, go_sem]
 refine lp1 (label_Check_L2 p0 a10_1 x13 k19) (fun a20_1 => [zK 1 (Config.enc p0), zP 4 0, zL 26 2 (p0.Labels.map Label.enc), zI 27 ((p0.Labels.length : Nat) : Int), zI 28 ((a10_1 : Nat) : Int), zL 39 2 ((p0.Labels.take a10_1).map Label.enc), zI 40 ((min a10_1 p0.Labels.length : Nat) : Int), zI 41 ((a20_1 : Nat) : Int)]) (fun a20_1 => [ox x13.bx]) h [] [some 0] (fun n21 a20_1 h => ?_) (by intros; rw [label_Check_L2])
 rw [label_Check_L2] at h
 refine oi h (fun hb22 h => ?_) (fun hb22 h => ?_)
 refine obg h (fun x23 _ hkx23 h => ?_)
 try simp only [List.length_take, List.length_drop, List.length_append, List.length_set, List.length_map, List.length_cons, List.length_nil, Nat.zero_add] at hkx23
 refine oi h (fun hb24 h => ?_) (fun hb24 h => ?_)
 try simp only [*, go_sem]
 cases h.e
 simp only [*, go_sem, mA, mS]
 try simp only [*, go_sem]
 have := wrap_succ_max hkx23 hl17
 try simp only [*, go_sem]
 exact lc (a20_1 + 1) h.e [some 0]
 try simp only [*, go_sem]
 exact jc () h.e []
 have := wrap_succ_max hkx13 hl3
 try simp only [*, go_sem]
 exact lc (a10_1 + 1) h.e []
 try simp only [*, go_sem]
 exact jc () h.e []
 refine oi h (fun hb27 h => ?_) (fun hb27 h => ?_)
 have := of_decide_eq_true hb27
 cases h.e
 simp only [*, go_sem, mA, mS]
 refine oi h (fun hb28 h => ?_) (fun hb28 h => ?_)
 cases h.e
 simp only [*, go_sem, mA, mS]
 cases h.e
 simp only [*, go_sem, mA, mS]
theorem low14 : lowF Tryd.prog 14 = some (cloneV 1 1 [(.d (.i .u8 0))]) := by kernel_rfl
theorem fok14 : fOk Tryd.prog 14 = true := by kernel_rfl
theorem clone14_ok (p0 r : List Int) (h : cloneF 1 p0 = some r) : FnRO Tryd.prog G 14 [.one (.d (.l 1 (p0.map encU8)))] (fun rs => rs = [.one (.o 1 (r.map encU8))]) := clone_ok low14 fok14 G encU8 p0 r h
def wire_reader_take_L1 (p0 : WireReader) (p1 : Int) (k10 : Int → Option (WireReader × Int)) : Nat → Int → Nat → Option (WireReader × Int)
 | 0, _, _ => none
 | n12 + 1, a11_1, a11_2 => (if (decide (a11_2 < min p1.toNat p0.rest.length)) = true then (Option.bind ((p0.rest.take p1.toNat)[a11_2]?) fun x14 => (wire_reader_take_L1 p0 p1 k10 n12 (bitOp .i64 (· ||| ·) (IntKind.i64.wrap (a11_1 * 2 ^ 8)) (IntKind.i64.wrap (x14))) (a11_2 + 1))) else (k10 a11_1))
def wire_reader_take (p0 : WireReader) (p1 : Int) : Option (WireReader × Int) := (if (decide (((p0.rest.length : Nat) : Int) < p1)) = true then (withK (fun (b3_1 : Int) => (some ((WireReader.mk [] b3_1), 0))) fun k4 => (if (p0.fault == 0) = true then (k4 5) else (k4 p0.fault))) else (if 0 ≤ p1 then (if p1 ≤ ((p0.rest.length : Nat) : Int) then (withK (fun (b9_1 : Int) => (some ((WireReader.mk ((p0.rest.drop p1.toNat).take ((((p0.rest.length : Nat) : Int) - p1).toNat)) p0.fault), b9_1))) fun k10 => (wire_reader_take_L1 p0 p1 k10 (min p1.toNat p0.rest.length + 1) 0 0)) else none) else none))
def F16 : VFn := ⟨53, (.seq (.reg [mi 4 0]) (.seq (.seq (.reg [vm 8 0, vo 9 (.nilchk (.t 8)), vf 10 0 9, vs 11 10, ln 12 11, vm 13 1, bt 14 .lss 12 13]) (.cond (.t 14) (.seq (.seq (.reg [vm 15 0, vo 16 (.nilchk (.t 15)), vf 17 1 16, vs 18 17, bk 19 .eql 18 0]) (.wk (.cond (.t 19) (.reg [vm 20 0, vo 21 (.nilchk (.t 20)), vf 22 1 21, vu (.st 1 (.t 22) (ci 5))]) .skip))) (.seq (.reg [vm 23 0, vo 24 (.nilchk (.t 23)), vf 25 0 24, vu (.st 1 (.t 25) (.c (.one (.nl 1))))]) (.seq (.reg [mi 4 0]) .ret))) .skip)) (.seq (.reg [mi 5 0]) (.seq (.seq (.reg [vm 26 0, vo 27 (.nilchk (.t 26)), vf 28 0 27, vs 29 28, vm 30 1, vo 31 (.sl 1 (.t 29) none (some (.t 30))), ln 32 31, mi 33 0]) (.wk (.block 0 (.loop (.seq (.reg [bt 34 .lss 33 32]) (.seq (.cond (.t 34) .skip (.exit 0)) (.seq (.block 1 (.seq (.reg [xa 35 1 31 33, vs 36 35, vm 7 36]) (.reg [vm 37 5, vo 38 (.bin .i .shl (.t 37) (.c (.one (.d (.i .u64 8))))), vm 39 7, vo 40 (.cvi .i64 (.t 39)), bt 41 .or 38 40, vm 5 41]))) (.reg [bk 42 .add 33 1, vm 33 42])))))))) (.seq (.reg [vm 43 0, vm 44 0, vo 45 (.nilchk (.t 44)), vf 46 0 45, vs 47 46, vm 48 1, vo 49 (.sl 1 (.t 47) (some (.t 48)) none), vo 50 (.nilchk (.t 43)), vf 51 0 50, vu (.st 1 (.t 51) (.t 49))]) (.seq (.reg [vm 52 5, vm 4 52]) .ret)))))), [.t 4]⟩
theorem low16 : lowF Tryd.prog 16 = some F16.strip := by kernel_rfl
theorem fok16 : fOk Tryd.prog 16 = true := by kernel_rfl
theorem wire_reader_take_ok (p0 : WireReader) (p1 : Int) (r : WireReader × Int) (h : wire_reader_take p0 p1 = some r) : FnX Tryd.prog G 16 [ptrX, .one (.d (.i .i64 p1))] [.l 1 (p0.rest.map encU8), .i .i64 p0.fault] (fun c rs => c = [.l 1 (r.1.rest.map encU8), .i .i64 r.1.fault] ∧ rs = [.one (.i .i64 r.2)]) := by
 refine FnX.of [true] low16 fok16 (by exact Nat.le_of_ble_eq_true rfl) (by exact Nat.le_of_ble_eq_true rfl) ?_
 rw [wire_reader_take] at h
 replace h := Hd.mk h
 simp only [F16, go_sem]
 try simp only [*, go_sem]
 intro hl1
 refine oi h (fun hb2 h => ?_) (fun hb2 h => ?_)
 try simp only [*, go_sem]
 refine jn1 h (fun b3_1 => [zP 0 0, zP 1000000 0]) (fun b3_1 => [ox [.d (.l 1 (p0.rest.map encU8)), zi b3_1]]) (fun k4 h => ?_) (fun b3_1 h => ?_)
 refine oi h (fun hb5 h => ?_) (fun hb5 h => ?_)
 try simp only [*, go_sem]
 exact jc (5) h.e [some 0]
 try simp only [*, go_sem]
 exact jc (p0.fault) h.e [some 0]
 cases h.e
 try simp only [*, go_sem]
 refine eti [] ?_
 simp only [*, go_sem, mA, mS]
 refine ck h (fun _ h => ?_)
 refine ck h (fun _ h => ?_)
 try simp only [*, go_sem]
 intro hl8
 try simp only [*, go_sem]
 refine jn1 h (fun b9_1 => [zP 0 0, zI 1 p1, zI 5 b9_1, zP 1000000 0]) (fun b9_1 => [ox p0.bx]) (fun k10 h => ?_) (fun b9_1 h => ?_)
 try simp only [*, go_sem]
 refine lp2 (wire_reader_take_L1 p0 p1 k10) (fun a11_1 a11_2 => [zP 0 0, zI 1 p1, zI 5 a11_1, zL 31 1 ((p0.rest.take p1.toNat).map encU8), zI 32 ((min p1.toNat p0.rest.length : Nat) : Int), zI 33 ((a11_2 : Nat) : Int), zP 1000000 0]) (fun a11_1 a11_2 => [ox p0.bx]) h [] [some 0] (fun n12 a11_1 a11_2 h => ?_) (by intros; rw [wire_reader_take_L1])
 rw [wire_reader_take_L1] at h
 refine oi h (fun hb13 h => ?_) (fun hb13 h => ?_)
 refine obg h (fun x14 _ hkx14 h => ?_)
 try simp only [List.length_take, List.length_drop, List.length_append, List.length_set, List.length_map, List.length_cons, List.length_nil, Nat.zero_add] at hkx14
 have := wrap_succ_max hkx14 hl8
 try simp only [*, go_sem]
 exact lc (bitOp .i64 (· ||| ·) (IntKind.i64.wrap (a11_1 * 2 ^ 8)) (IntKind.i64.wrap (x14)), a11_2 + 1) h.e [some 0]
 try simp only [*, go_sem]
 exact jc (a11_1) h.e [some 0]
 cases h.e
 try simp only [*, go_sem]
 refine eti [] ?_
 simp only [*, go_sem, mA, mS]
def wire_reader_kind (p0 : WireReader) (p1 : Int) : Option (WireReader × Int) := (Option.bind (wire_reader_take p0 1) fun v1 => (if (decide (v1.2 < 1)) = true then (withK (fun (b3_1 : Int) => (if (b3_1 != 0) = true then (some ((WireReader.mk v1.1.rest b3_1), 0)) else (some ((WireReader.mk v1.1.rest b3_1), v1.2)))) fun k4 => (if (v1.1.fault == 0) = true then (k4 3) else (k4 v1.1.fault))) else (if (decide (v1.2 > p1)) = true then (withK (fun (b8_1 : Int) => (if (b8_1 != 0) = true then (some ((WireReader.mk v1.1.rest b8_1), 0)) else (some ((WireReader.mk v1.1.rest b8_1), v1.2)))) fun k9 => (if (v1.1.fault == 0) = true then (k9 3) else (k9 v1.1.fault))) else (withK (if (v1.1.fault != 0) = true then (some (v1.1, 0)) else (some (v1.1, v1.2))) fun k13 => k13))))
def F15 : VFn := ⟨31, (.seq (.reg [mi 4 0]) (.seq (.reg [vm 6 0, vo 7 (.call 16 [(.t 6), (ci 1)]), vm 5 7]) (.seq (.seq (.reg [vm 8 5, bk 9 .lss 8 1, vm 10 9, gf 11 10 (.mv (.t 5)), gf 12 10 (.mv (.t 1)), gf 13 10 (.bin .i .gtr (.t 11) (.t 12)), vo 14 (.pick (.t 10) (cb true) (.t 13)), vm 15 14, gt 16 15 (.mv (.t 0)), gt 17 15 (.nilchk (.t 16)), gt 18 15 (.fa 1 (.t 17)), gt 19 15 (.ld false 1 (.t 18)), gt 20 15 (.bin .i .eql (.t 19) (ci 0)), vo 21 (.pick (.t 15) (.t 20) (cb false))]) (.wk (.cond (.t 21) (.reg [vm 22 0, vo 23 (.nilchk (.t 22)), vf 24 1 23, vu (.st 1 (.t 24) (ci 3))]) .skip))) (.seq (.seq (.reg [vm 25 0, vo 26 (.nilchk (.t 25)), vf 27 1 26, vs 28 27, bk 29 .neq 28 0]) (.cond (.t 29) (.seq (.reg [mi 4 0]) .ret) .skip)) (.seq (.reg [vm 30 5, vm 4 30]) .ret))))), [.t 4]⟩
theorem low15 : lowF Tryd.prog 15 = some F15.strip := by kernel_rfl
theorem fok15 : fOk Tryd.prog 15 = true := by kernel_rfl
theorem wire_reader_kind_ok (p0 : WireReader) (p1 : Int) (r : WireReader × Int) (h : wire_reader_kind p0 p1 = some r) : FnX Tryd.prog G 15 [ptrX, .one (.d (.i .i64 p1))] [.l 1 (p0.rest.map encU8), .i .i64 p0.fault] (fun c rs => c = [.l 1 (r.1.rest.map encU8), .i .i64 r.1.fault] ∧ rs = [.one (.i .i64 r.2)]) := by
 refine FnX.of [true] low15 fok15 (by exact Nat.le_of_ble_eq_true rfl) (by exact Nat.le_of_ble_eq_true rfl) ?_
 rw [wire_reader_kind] at h
 replace h := Hd.mk h
 simp only [F15, go_sem]
 try simp only [*, go_sem]
 refine ct h 0 [] [true] [] (wire_reader_take_ok G p0 1) (fun v1 h => ?_)
 refine oi h (fun hb2 h => ?_) (fun hb2 h => ?_)
 have := of_decide_eq_true hb2
 try simp only [*, go_sem]
 refine jn1 h (fun b3_1 => [zP 0 0, zI 5 v1.2, zP 1000000 0]) (fun b3_1 => [ox [.d (.l 1 (v1.1.rest.map encU8)), zi b3_1]]) (fun k4 h => ?_) (fun b3_1 h => ?_)
 refine oi h (fun hb5 h => ?_) (fun hb5 h => ?_)
 try simp only [*, go_sem]
 exact jc (3) h.e [some 0]
 try simp only [*, go_sem]
 exact jc (v1.1.fault) h.e [some 0]
 refine oi h (fun hb6 h => ?_) (fun hb6 h => ?_)
 cases h.e
 try simp only [*, go_sem]
 refine eti [] ?_
 simp only [*, go_sem, mA, mS]
 cases h.e
 try simp only [*, go_sem]
 refine eti [] ?_
 simp only [*, go_sem, mA, mS]
 refine oi h (fun hb7 h => ?_) (fun hb7 h => ?_)
 try simp only [*, go_sem]
 refine jn1 h (fun b8_1 => [zP 0 0, zI 5 v1.2, zP 1000000 0]) (fun b8_1 => [ox [.d (.l 1 (v1.1.rest.map encU8)), zi b8_1]]) (fun k9 h => ?_) (fun b8_1 h => ?_)
 refine oi h (fun hb10 h => ?_) (fun hb10 h => ?_)
 try simp only [*, go_sem]
 exact jc (3) h.e [some 0]
 try simp only [*, go_sem]
 exact jc (v1.1.fault) h.e [some 0]
 refine oi h (fun hb11 h => ?_) (fun hb11 h => ?_)
 cases h.e
 try simp only [*, go_sem]
 refine eti [] ?_
 simp only [*, go_sem, mA, mS]
 cases h.e
 try simp only [*, go_sem]
 refine eti [] ?_
 simp only [*, go_sem, mA, mS]
 try simp only [*, go_sem]
 refine jn0 h ([zP 0 0, zI 5 v1.2, zP 1000000 0]) ([ox v1.1.bx]) (fun k13 h => ?_) (fun h => ?_)
 try simp only [*, go_sem]
 exact jc () h.e [some 0]
 refine oi h (fun hb14 h => ?_) (fun hb14 h => ?_)
 cases h.e
 try simp only [*, go_sem]
 refine eti [] ?_
 simp only [*, go_sem, mA, mS]
 cases h.e
 try simp only [*, go_sem]
 refine eti [] ?_
 simp only [*, go_sem, mA, mS]
def wire_reader_txn (p0 : WireReader) : Option (WireReader × Txn) := (Option.bind (wire_reader_take p0 1) fun v1 => (Option.bind (wire_reader_take v1.1 3) fun v2 => (some (v2.1, (Txn.mk v1.2 v2.2)))))
def F17 : VFn := ⟨10, (.seq (.reg [vo 2 (.alloc [(zi 0), (zi 0)])]) (.seq (.reg [vm 4 0, vo 5 (.call 16 [(.t 4), (ci 1)]), vm 3 5]) (.seq (.reg [vm 6 3, vm 7 0, vo 8 (.call 16 [(.t 7), (ci 3)]), vo 9 (.build [(zi 0), (zi 0)] [(0, 1, (.t 6)), (1, 1, (.t 8))]), vu (.st 2 (.t 2) (.t 9))]) .ret))), [.cell 2 true 2]⟩
theorem low17 : lowF Tryd.prog 17 = some F17.strip := by kernel_rfl
theorem fok17 : fOk Tryd.prog 17 = true := by kernel_rfl
theorem wire_reader_txn_ok (p0 : WireReader) (r : WireReader × Txn) (h : wire_reader_txn p0 = some r) : FnX Tryd.prog G 17 [ptrX] [.l 1 (p0.rest.map encU8), .i .i64 p0.fault] (fun c rs => c = [.l 1 (r.1.rest.map encU8), .i .i64 r.1.fault] ∧ rs = [.agg (r.2.encO)]) := by
 refine FnX.of [true] low17 fok17 (by exact Nat.le_of_ble_eq_true rfl) (by exact Nat.le_of_ble_eq_true rfl) ?_
 rw [wire_reader_txn] at h
 replace h := Hd.mk h
 simp only [F17, go_sem]
 try simp only [*, go_sem]
 refine ct h 0 [] [true] [] (wire_reader_take_ok G p0 1) (fun v1 h => ?_)
 try simp only [*, go_sem]
 refine ct h 0 [] [true] [] (wire_reader_take_ok G v1.1 3) (fun v2 h => ?_)
 cases h.e
 try simp only [*, go_sem]
 refine eti [] ?_
 simp only [*, go_sem, mA, mS]
def wire_reader_bit (p0 : WireReader) : Option (WireReader × Bool) := (Option.bind (wire_reader_take p0 1) fun v1 => (if (decide (v1.2 > 1)) = true then (withK (fun (b3_1 : Int) => (some ((WireReader.mk v1.1.rest b3_1), v1.2 == 1))) fun k4 => (if (v1.1.fault == 0) = true then (k4 4) else (k4 v1.1.fault))) else (withK (some (v1.1, v1.2 == 1)) fun k7 => k7)))
def F18 : VFn := ⟨20, (.seq (.reg [vo 2 (.mv (cb false))]) (.seq (.reg [vm 4 0, vo 5 (.call 16 [(.t 4), (ci 1)]), vm 3 5]) (.seq (.seq (.reg [vm 6 3, bk 7 .gtr 6 1, vm 8 7, gt 9 8 (.mv (.t 0)), gt 10 8 (.nilchk (.t 9)), gt 11 8 (.fa 1 (.t 10)), gt 12 8 (.ld false 1 (.t 11)), gt 13 8 (.bin .i .eql (.t 12) (ci 0)), vo 14 (.pick (.t 8) (.t 13) (cb false))]) (.wk (.cond (.t 14) (.reg [vm 15 0, vo 16 (.nilchk (.t 15)), vf 17 1 16, vu (.st 1 (.t 17) (ci 4))]) .skip))) (.seq (.reg [vm 18 3, bk 19 .eql 18 1, vm 2 19]) .ret)))), [.t 2]⟩
theorem low18 : lowF Tryd.prog 18 = some F18.strip := by kernel_rfl
theorem fok18 : fOk Tryd.prog 18 = true := by kernel_rfl
theorem wire_reader_bit_ok (p0 : WireReader) (r : WireReader × Bool) (h : wire_reader_bit p0 = some r) : FnX Tryd.prog G 18 [ptrX] [.l 1 (p0.rest.map encU8), .i .i64 p0.fault] (fun c rs => c = [.l 1 (r.1.rest.map encU8), .i .i64 r.1.fault] ∧ rs = [.one (.b r.2)]) := by
 refine FnX.of [true] low18 fok18 (by exact Nat.le_of_ble_eq_true rfl) (by exact Nat.le_of_ble_eq_true rfl) ?_
 rw [wire_reader_bit] at h
 replace h := Hd.mk h
 simp only [F18, go_sem]
 try simp only [*, go_sem]
 refine ct h 0 [] [true] [] (wire_reader_take_ok G p0 1) (fun v1 h => ?_)
 refine oi h (fun hb2 h => ?_) (fun hb2 h => ?_)
 try simp only [*, go_sem]
 refine jn1 h (fun b3_1 => [zI 3 v1.2, zP 1000000 0]) (fun b3_1 => [ox [.d (.l 1 (v1.1.rest.map encU8)), zi b3_1]]) (fun k4 h => ?_) (fun b3_1 h => ?_)
 refine oi h (fun hb5 h => ?_) (fun hb5 h => ?_)
 try simp only [*, go_sem]
 exact jc (4) h.e [some 0]
 try simp only [*, go_sem]
 exact jc (v1.1.fault) h.e [some 0]
 cases h.e
 try simp only [*, go_sem]
 refine eti [] ?_
 simp only [*, go_sem, mA, mS]
 try simp only [*, go_sem]
 refine jn0 h ([zI 3 v1.2, zP 1000000 0]) ([ox v1.1.bx]) (fun k7 h => ?_) (fun h => ?_)
 try simp only [*, go_sem]
 exact jc () h.e [some 0]
 cases h.e
 try simp only [*, go_sem]
 refine eti [] ?_
 simp only [*, go_sem, mA, mS]
def wire_reader_end (p0 : WireReader) : Option (WireReader) := (if (p0.fault == 0) = true then (withK (fun (b3_1 : Int) => (some (WireReader.mk p0.rest b3_1))) fun k4 => (if (decide (((p0.rest.length : Nat) : Int) > 0)) = true then (k4 4) else (k4 p0.fault))) else (withK (some p0) fun k7 => k7))
def F19 : VFn := ⟨18, (.seq (.reg [vm 2 0, vo 3 (.nilchk (.t 2)), vf 4 1 3, vs 5 4, bk 6 .eql 5 0, vm 7 6, gt 8 7 (.mv (.t 0)), gt 9 7 (.nilchk (.t 8)), gt 10 7 (.fa 0 (.t 9)), gt 11 7 (.ld false 1 (.t 10)), gt 12 7 (.len (.t 11)), gt 13 7 (.bin .i .gtr (.t 12) (ci 0)), vo 14 (.pick (.t 7) (.t 13) (cb false))]) (.wk (.cond (.t 14) (.reg [vm 15 0, vo 16 (.nilchk (.t 15)), vf 17 1 16, vu (.st 1 (.t 17) (ci 4))]) .skip))), []⟩
theorem low19 : lowF Tryd.prog 19 = some F19.strip := by kernel_rfl
theorem fok19 : fOk Tryd.prog 19 = true := by kernel_rfl
theorem wire_reader_end_ok (p0 : WireReader) (r : WireReader) (h : wire_reader_end p0 = some r) : FnX Tryd.prog G 19 [ptrX] [.l 1 (p0.rest.map encU8), .i .i64 p0.fault] (fun c rs => c = [.l 1 (r.rest.map encU8), .i .i64 r.fault] ∧ rs = []) := by
 refine FnX.of [true] low19 fok19 (by exact Nat.le_of_ble_eq_true rfl) (by exact Nat.le_of_ble_eq_true rfl) ?_
 rw [wire_reader_end] at h
 replace h := Hd.mk h
 simp only [F19, go_sem]
 refine oi h (fun hb1 h => ?_) (fun hb1 h => ?_)
 try simp only [*, go_sem]
 intro hl2
 try simp only [*, go_sem]
 refine jn1 h (fun b3_1 => [zP 1000000 0]) (fun b3_1 => [ox [.d (.l 1 (p0.rest.map encU8)), zi b3_1]]) (fun k4 h => ?_) (fun b3_1 h => ?_)
 refine oi h (fun hb5 h => ?_) (fun hb5 h => ?_)
 try simp only [*, go_sem]
 exact jc (4) h.e [some 0]
 try simp only [*, go_sem]
 exact jc (p0.fault) h.e [some 0]
 cases h.e
 try simp only [*, go_sem]
 refine etn [] ?_
 simp only [*, go_sem, mA, mS]
 try simp only [*, go_sem]
 refine jn0 h ([zP 1000000 0]) ([ox p0.bx]) (fun k7 h => ?_) (fun h => ?_)
 try simp only [*, go_sem]
 exact jc () h.e [some 0]
 cases h.e
 try simp only [*, go_sem]
 refine etn [] ?_
 simp only [*, go_sem, mA, mS]
def wire_txn (p0 : Config) (p1 : Txn) : Option (Bool) := (withK (fun (b1_1 : Bool) => (some b1_1)) fun k2 => (if (decide (p1.Site ≥ 0)) = true then (if (decide (p1.Site < p0.Sites)) = true then (if (decide (p1.N ≥ 1)) = true then (k2 (decide (p1.N ≤ 1048576))) else (k2 false)) else (k2 false)) else (k2 false)))
def F40 : VFn := ⟨25, (.seq (.reg [vo 2 (.box 3 (.t 0)), vo 3 (.boxk 2 (.t 1)), vo 4 (.mv (cb false))]) (.seq (.wk (.reg [vf 5 0 3, vs 6 5, bk 7 .geq 6 0, vm 8 7, gt 9 8 (.fa 0 (.t 3)), gt 10 8 (.ld false 1 (.t 9)), gt 11 8 (.fa 0 (.t 2)), gt 12 8 (.ld false 1 (.t 11)), gt 13 8 (.bin .i .lss (.t 10) (.t 12)), vo 14 (.pick (.t 8) (.t 13) (cb false)), vm 15 14, gt 16 15 (.fa 1 (.t 3)), gt 17 15 (.ld false 1 (.t 16)), gt 18 15 (.bin .i .geq (.t 17) (ci 1)), vo 19 (.pick (.t 15) (.t 18) (cb false)), vm 20 19, gt 21 20 (.fa 1 (.t 3)), gt 22 20 (.ld false 1 (.t 21)), gt 23 20 (.bin .i .leq (.t 22) (ci 1048576)), vo 24 (.pick (.t 20) (.t 23) (cb false)), vm 4 24])) .ret)), [.t 4]⟩
theorem low40 : lowF Tryd.prog 40 = some F40.strip := by kernel_rfl
theorem fok40 : fOk Tryd.prog 40 = true := by kernel_rfl
theorem wire_txn_ok (p0 : Config) (p1 : Txn) (r : Bool) (h : wire_txn p0 p1 = some r) : FnRO Tryd.prog G 40 [.agg p0.bx, .agg p1.bx] (fun rs => rs = [.one (.b r)]) := by
 refine FnRO.of' low40 fok40 (by simp [F40]) ?_
 rw [wire_txn] at h
 replace h := Hd.mk h
 simp only [F40, go_sem]
 try simp only [*, go_sem]
 refine jn1 h (fun b1_1 => [zB 4 b1_1]) (fun b1_1 => []) (fun k2 h => ?_) (fun b1_1 h => ?_)
 refine oi h (fun hb3 h => ?_) (fun hb3 h => ?_)
 refine oi h (fun hb4 h => ?_) (fun hb4 h => ?_)
 have := of_decide_eq_true hb4
 refine oi h (fun hb5 h => ?_) (fun hb5 h => ?_)
 try simp only [*, go_sem]
 exact jc (decide (p1.N ≤ 1048576)) h.e []
 try simp only [*, go_sem]
 exact jc (false) h.e []
 try simp only [*, go_sem]
 exact jc (false) h.e []
 try simp only [*, go_sem]
 exact jc (false) h.e []
 cases h.e
 simp only [*, go_sem, mA, mS]
def wire_key (p0 : Int) : Option (Bool) := (withK (fun (b1_1 : Bool) => (some b1_1)) fun k2 => (if (decide (p0 ≥ 0)) = true then (k2 (decide (p0 < 8))) else (k2 false)))
def F41 : VFn := ⟨9, (.seq (.reg [vo 2 (.mv (cb false))]) (.seq (.wk (.reg [vm 3 0, bk 4 .geq 3 0, vm 5 4, gt 6 5 (.mv (.t 0)), gt 7 5 (.bin .i .lss (.t 6) (ci 8)), vo 8 (.pick (.t 5) (.t 7) (cb false)), vm 2 8])) .ret)), [.t 2]⟩
theorem low41 : lowF Tryd.prog 41 = some F41.strip := by kernel_rfl
theorem fok41 : fOk Tryd.prog 41 = true := by kernel_rfl
theorem wire_key_ok (p0 : Int) (r : Bool) (h : wire_key p0 = some r) : FnRO Tryd.prog G 41 [.one (.d (.i .i64 p0))] (fun rs => rs = [.one (.b r)]) := by
 refine FnRO.of' low41 fok41 (by simp [F41]) ?_
 rw [wire_key] at h
 replace h := Hd.mk h
 simp only [F41, go_sem]
 try simp only [*, go_sem]
 refine jn1 h (fun b1_1 => [zB 2 b1_1]) (fun b1_1 => []) (fun k2 h => ?_) (fun b1_1 h => ?_)
 refine oi h (fun hb3 h => ?_) (fun hb3 h => ?_)
 try simp only [*, go_sem]
 exact jc (decide (p0 < 8)) h.e []
 try simp only [*, go_sem]
 exact jc (false) h.e []
 cases h.e
 simp only [*, go_sem, mA, mS]
def wire_value (p0 : Int) : Option (Bool) := (withK (fun (b1_1 : Bool) => (some b1_1)) fun k2 => (if (decide (p0 ≥ 0)) = true then (k2 (decide (p0 ≤ 1073741824))) else (k2 false)))
def F42 : VFn := ⟨9, (.seq (.reg [vo 2 (.mv (cb false))]) (.seq (.wk (.reg [vm 3 0, bk 4 .geq 3 0, vm 5 4, gt 6 5 (.mv (.t 0)), gt 7 5 (.bin .i .leq (.t 6) (ci 1073741824)), vo 8 (.pick (.t 5) (.t 7) (cb false)), vm 2 8])) .ret)), [.t 2]⟩
theorem low42 : lowF Tryd.prog 42 = some F42.strip := by kernel_rfl
theorem fok42 : fOk Tryd.prog 42 = true := by kernel_rfl
theorem wire_value_ok (p0 : Int) (r : Bool) (h : wire_value p0 = some r) : FnRO Tryd.prog G 42 [.one (.d (.i .i64 p0))] (fun rs => rs = [.one (.b r)]) := by
 refine FnRO.of' low42 fok42 (by simp [F42]) ?_
 rw [wire_value] at h
 replace h := Hd.mk h
 simp only [F42, go_sem]
 try simp only [*, go_sem]
 refine jn1 h (fun b1_1 => [zB 2 b1_1]) (fun b1_1 => []) (fun k2 h => ?_) (fun b1_1 h => ?_)
 refine oi h (fun hb3 h => ?_) (fun hb3 h => ?_)
 try simp only [*, go_sem]
 exact jc (decide (p0 ≤ 1073741824)) h.e []
 try simp only [*, go_sem]
 exact jc (false) h.e []
 cases h.e
 simp only [*, go_sem, mA, mS]
def wire_ask (p0 : Int) : Option (Bool) := (withK (fun (b1_1 : Bool) => (some b1_1)) fun k2 => (if (decide (p0 ≥ 0)) = true then (k2 (decide (p0 ≤ 1048576))) else (k2 false)))
def F43 : VFn := ⟨9, (.seq (.reg [vo 2 (.mv (cb false))]) (.seq (.wk (.reg [vm 3 0, bk 4 .geq 3 0, vm 5 4, gt 6 5 (.mv (.t 0)), gt 7 5 (.bin .i .leq (.t 6) (ci 1048576)), vo 8 (.pick (.t 5) (.t 7) (cb false)), vm 2 8])) .ret)), [.t 2]⟩
theorem low43 : lowF Tryd.prog 43 = some F43.strip := by kernel_rfl
theorem fok43 : fOk Tryd.prog 43 = true := by kernel_rfl
theorem wire_ask_ok (p0 : Int) (r : Bool) (h : wire_ask p0 = some r) : FnRO Tryd.prog G 43 [.one (.d (.i .i64 p0))] (fun rs => rs = [.one (.b r)]) := by
 refine FnRO.of' low43 fok43 (by simp [F43]) ?_
 rw [wire_ask] at h
 replace h := Hd.mk h
 simp only [F43, go_sem]
 try simp only [*, go_sem]
 refine jn1 h (fun b1_1 => [zB 2 b1_1]) (fun b1_1 => []) (fun k2 h => ?_) (fun b1_1 h => ?_)
 refine oi h (fun hb3 h => ?_) (fun hb3 h => ?_)
 try simp only [*, go_sem]
 exact jc (decide (p0 ≤ 1048576)) h.e []
 try simp only [*, go_sem]
 exact jc (false) h.e []
 cases h.e
 simp only [*, go_sem, mA, mS]
def wire_code (p0 : Int) : Option (Bool) := (withK (fun (b1_1 : Bool) => (some b1_1)) fun k2 => (if (p0 == 0) = true then (k2 true) else (if (p0 == 11) = true then (k2 true) else (k2 (p0 == 8)))))
def F44 : VFn := ⟨13, (.seq (.reg [vo 2 (.mv (cb false))]) (.seq (.wk (.reg [vm 3 0, bk 4 .eql 3 0, vm 5 4, gf 6 5 (.mv (.t 0)), gf 7 5 (.bin .i .eql (.t 6) (ci 11)), vo 8 (.pick (.t 5) (cb true) (.t 7)), vm 9 8, gf 10 9 (.mv (.t 0)), gf 11 9 (.bin .i .eql (.t 10) (ci 8)), vo 12 (.pick (.t 9) (cb true) (.t 11)), vm 2 12])) .ret)), [.t 2]⟩
theorem low44 : lowF Tryd.prog 44 = some F44.strip := by kernel_rfl
theorem fok44 : fOk Tryd.prog 44 = true := by kernel_rfl
theorem wire_code_ok (p0 : Int) (r : Bool) (h : wire_code p0 = some r) : FnRO Tryd.prog G 44 [.one (.d (.i .i64 p0))] (fun rs => rs = [.one (.b r)]) := by
 refine FnRO.of' low44 fok44 (by simp [F44]) ?_
 rw [wire_code] at h
 replace h := Hd.mk h
 simp only [F44, go_sem]
 try simp only [*, go_sem]
 refine jn1 h (fun b1_1 => [zB 2 b1_1]) (fun b1_1 => []) (fun k2 h => ?_) (fun b1_1 h => ?_)
 refine oi h (fun hb3 h => ?_) (fun hb3 h => ?_)
 try simp only [*, go_sem]
 exact jc (true) h.e []
 refine oi h (fun hb4 h => ?_) (fun hb4 h => ?_)
 try simp only [*, go_sem]
 exact jc (true) h.e []
 try simp only [*, go_sem]
 exact jc (p0 == 8) h.e []
 cases h.e
 simp only [*, go_sem, mA, mS]
def wire_CheckMessage (p0 : Config) (p1 : Message) : Option (Int) := (Option.bind (label_Check p0) fun v1 => (if (v1 != 0) = true then (some v1) else (if (decide (p1.Kind < 1)) = true then (some 3) else (if (decide (p1.Kind > 9)) = true then (some 3) else (withK (fun (b11_1 : Bool) => (withK (fun (b20_1 : Bool) => (withK (fun (b24_1 : Bool) => (withK (fun (b32_1 : Bool) => (if b32_1 = true then (some 2) else (Option.bind (wire_code p1.Code) fun v37 => (if (!v37) = true then (some 2) else (if 0 ≤ p1.Kind then (Option.bind (tab_wire_messages[p1.Kind.toNat]?) fun x39 => (if ((((((((!x39.label) && (p1.Label != 0)) || ((!x39.key) && (p1.Key != 0))) || ((!x39.value) && (p1.Value != 0))) || ((!x39.version) && (p1.Version != 0))) || ((!x39.ask) && (p1.Ask != 0))) || ((!x39.yes) && p1.Yes)) || ((!x39.code) && (p1.Code != 0))) = true then (some 4) else (if (p1.Code != 0) = true then (if (IntKind.i64.wrap (p1.Value + p1.Version) != 0) = true then (some 4) else (some 0)) else (some 0)))) else none))))) fun k33 => (if ((b24_1 || (decide (p1.Version < 0))) || (decide (p1.Version > 1048576))) = true then (k33 true) else (Option.bind (wire_ask p1.Ask) fun v35 => (k33 (!v35)))))) fun k25 => (if b20_1 = true then (k25 true) else (Option.bind (wire_value p1.Value) fun v27 => (k25 (!v27)))))) fun k21 => (if ((b11_1 || (decide (p1.Label < 0))) || (decide (p1.Label ≥ ((p0.Labels.length : Nat) : Int)))) = true then (k21 true) else (Option.bind (wire_key p1.Key) fun v23 => (k21 (!v23)))))) fun k12 => (if ((((decide (p1.From < 0)) || (decide (p1.From ≥ p0.Sites))) || (decide (p1.To < 0))) || (decide (p1.To ≥ p0.Sites))) = true then (k12 true) else (Option.bind (wire_txn p0 p1.Txn) fun v14 => (k12 (!v14)))))))))
def F20 : VFn := ⟨180, (.seq (.reg [vo 2 (.boxk 3 (.t 0)), vo 3 (.boxk 12 (.t 1)), mi 4 0]) (.seq (.seq (.reg [vl 7 3 2, vo 8 (.call 13 [(.t 7)]), vm 5 8]) (.seq (.reg [vm 9 5, bk 10 .neq 9 0]) (.cond (.t 10) (.seq (.reg [vm 11 5, vm 4 11]) .ret) .skip))) (.seq (.seq (.reg [vf 12 0 3, vs 13 12, bk 14 .lss 13 1, vm 15 14, gf 16 15 (.fa 0 (.t 3)), gf 17 15 (.ld false 1 (.t 16)), gf 18 15 (.bin .i .gtr (.t 17) (ci 9)), vo 19 (.pick (.t 15) (cb true) (.t 18))]) (.cond (.t 19) (.seq (.reg [mi 4 3]) .ret) .skip)) (.seq (.seq (.regs [[vf 20 1 3, vs 21 20, bk 22 .lss 21 0, vm 23 22, gf 24 23 (.fa 1 (.t 3)), gf 25 23 (.ld false 1 (.t 24)), gf 26 23 (.fa 0 (.t 2)), gf 27 23 (.ld false 1 (.t 26)), gf 28 23 (.bin .i .geq (.t 25) (.t 27)), vo 29 (.pick (.t 23) (cb true) (.t 28))], [vm 30 29, gf 31 30 (.fa 2 (.t 3)), gf 32 30 (.ld false 1 (.t 31)), gf 33 30 (.bin .i .lss (.t 32) (ci 0)), vo 34 (.pick (.t 30) (cb true) (.t 33))], [vm 35 34, gf 36 35 (.fa 2 (.t 3)), gf 37 35 (.ld false 1 (.t 36)), gf 38 35 (.fa 0 (.t 2)), gf 39 35 (.ld false 1 (.t 38)), gf 40 35 (.bin .i .geq (.t 37) (.t 39)), vo 41 (.pick (.t 35) (cb true) (.t 40))], [vm 42 41, gf 43 42 (.ld true 3 (.t 2)), gf 44 42 (.fa 3 (.t 3)), gf 45 42 (.ld true 2 (.t 44)), gf 46 42 (.call 40 [(.t 43), (.t 45)]), gf 47 42 (.un .not (.t 46)), vo 48 (.pick (.t 42) (cb true) (.t 47))], [vm 49 48, gf 50 49 (.fa 5 (.t 3)), gf 51 49 (.ld false 1 (.t 50)), gf 52 49 (.bin .i .lss (.t 51) (ci 0)), vo 53 (.pick (.t 49) (cb true) (.t 52))], [vm 54 53, gf 55 54 (.fa 5 (.t 3)), gf 56 54 (.ld false 1 (.t 55)), gf 57 54 (.fa 1 (.t 2)), gf 58 54 (.ld false 1 (.t 57)), gf 59 54 (.len (.t 58)), gf 60 54 (.bin .i .geq (.t 56) (.t 59)), vo 61 (.pick (.t 54) (cb true) (.t 60))], [vm 62 61, gf 63 62 (.fa 6 (.t 3)), gf 64 62 (.ld false 1 (.t 63)), gf 65 62 (.call 41 [(.t 64)]), gf 66 62 (.un .not (.t 65)), vo 67 (.pick (.t 62) (cb true) (.t 66))], [vm 68 67, gf 69 68 (.fa 7 (.t 3)), gf 70 68 (.ld false 1 (.t 69)), gf 71 68 (.call 42 [(.t 70)]), gf 72 68 (.un .not (.t 71)), vo 73 (.pick (.t 68) (cb true) (.t 72))], [vm 74 73, gf 75 74 (.fa 8 (.t 3)), gf 76 74 (.ld false 1 (.t 75)), gf 77 74 (.bin .i .lss (.t 76) (ci 0)), vo 78 (.pick (.t 74) (cb true) (.t 77))], [vm 79 78, gf 80 79 (.fa 8 (.t 3)), gf 81 79 (.ld false 1 (.t 80)), gf 82 79 (.bin .i .gtr (.t 81) (ci 1048576)), vo 83 (.pick (.t 79) (cb true) (.t 82))], [vm 84 83, gf 85 84 (.fa 9 (.t 3)), gf 86 84 (.ld false 1 (.t 85)), gf 87 84 (.call 43 [(.t 86)]), gf 88 84 (.un .not (.t 87)), vo 89 (.pick (.t 84) (cb true) (.t 88))], [vm 90 89, gf 91 90 (.fa 11 (.t 3)), gf 92 90 (.ld false 1 (.t 91)), gf 93 90 (.call 44 [(.t 92)]), gf 94 90 (.un .not (.t 93)), vo 95 (.pick (.t 90) (cb true) (.t 94))]]) (.cond (.t 95) (.seq (.reg [mi 4 2]) .ret) .skip)) (.seq (.reg [vf 96 0 3, vs 97 96, vo 98 (.iaa 10 8 (.g 0) (.t 97)), vl 99 8 98, vo 6 (.alloc [(.d (.b false)), (.d (.b false)), (.d (.b false)), (.d (.b false)), (.d (.b false)), (.d (.b false)), (.d (.b false)), (.d (.b false))]), vu (.st 8 (.t 6) (.t 99))]) (.seq (.seq (.regs [[vf 100 0 6, vs 101 100, nt 102 101, vm 103 102, gt 104 103 (.fa 5 (.t 3)), gt 105 103 (.ld false 1 (.t 104)), gt 106 103 (.bin .i .neq (.t 105) (ci 0)), vo 107 (.pick (.t 103) (.t 106) (cb false))], [vm 108 107, gf 109 108 (.fa 1 (.t 6)), gf 110 108 (.ld false 1 (.t 109)), gf 111 108 (.un .not (.t 110)), gf 112 108 (.mv (.t 111)), gt 113 112 (.fa 6 (.t 3)), gt 114 112 (.ld false 1 (.t 113)), gt 115 112 (.bin .i .neq (.t 114) (ci 0)), gf 116 108 (.pick (.t 112) (.t 115) (cb false)), vo 117 (.pick (.t 108) (cb true) (.t 116))], [vm 118 117, gf 119 118 (.fa 2 (.t 6)), gf 120 118 (.ld false 1 (.t 119)), gf 121 118 (.un .not (.t 120)), gf 122 118 (.mv (.t 121)), gt 123 122 (.fa 7 (.t 3)), gt 124 122 (.ld false 1 (.t 123)), gt 125 122 (.bin .i .neq (.t 124) (ci 0)), gf 126 118 (.pick (.t 122) (.t 125) (cb false)), vo 127 (.pick (.t 118) (cb true) (.t 126))], [vm 128 127, gf 129 128 (.fa 3 (.t 6)), gf 130 128 (.ld false 1 (.t 129)), gf 131 128 (.un .not (.t 130)), gf 132 128 (.mv (.t 131)), gt 133 132 (.fa 8 (.t 3)), gt 134 132 (.ld false 1 (.t 133)), gt 135 132 (.bin .i .neq (.t 134) (ci 0)), gf 136 128 (.pick (.t 132) (.t 135) (cb false)), vo 137 (.pick (.t 128) (cb true) (.t 136))], [vm 138 137, gf 139 138 (.fa 4 (.t 6)), gf 140 138 (.ld false 1 (.t 139)), gf 141 138 (.un .not (.t 140)), gf 142 138 (.mv (.t 141)), gt 143 142 (.fa 9 (.t 3)), gt 144 142 (.ld false 1 (.t 143)), gt 145 142 (.bin .i .neq (.t 144) (ci 0)), gf 146 138 (.pick (.t 142) (.t 145) (cb false)), vo 147 (.pick (.t 138) (cb true) (.t 146))], [vm 148 147, gf 149 148 (.fa 5 (.t 6)), gf 150 148 (.ld false 1 (.t 149)), gf 151 148 (.un .not (.t 150)), gf 152 148 (.mv (.t 151)), gt 153 152 (.fa 10 (.t 3)), gt 154 152 (.ld false 1 (.t 153)), gf 155 148 (.pick (.t 152) (.t 154) (cb false)), vo 156 (.pick (.t 148) (cb true) (.t 155))], [vm 157 156, gf 158 157 (.fa 6 (.t 6)), gf 159 157 (.ld false 1 (.t 158)), gf 160 157 (.un .not (.t 159)), gf 161 157 (.mv (.t 160)), gt 162 161 (.fa 11 (.t 3)), gt 163 161 (.ld false 1 (.t 162)), gt 164 161 (.bin .i .neq (.t 163) (ci 0)), gf 165 157 (.pick (.t 161) (.t 164) (cb false)), vo 166 (.pick (.t 157) (cb true) (.t 165))], [vm 167 166, gf 168 167 (.fa 11 (.t 3)), gf 169 167 (.ld false 1 (.t 168)), gf 170 167 (.bin .i .neq (.t 169) (ci 0)), gf 171 167 (.mv (.t 170)), gt 172 171 (.fa 7 (.t 3)), gt 173 171 (.ld false 1 (.t 172)), gt 174 171 (.fa 8 (.t 3)), gt 175 171 (.ld false 1 (.t 174)), gt 176 171 (.bin .i .add (.t 173) (.t 175)), gt 177 171 (.bin .i .neq (.t 176) (ci 0)), gf 178 167 (.pick (.t 171) (.t 177) (cb false)), vo 179 (.pick (.t 167) (cb true) (.t 178))]]) (.cond (.t 179) (.seq (.reg [mi 4 4]) .ret) .skip)) (.seq (.reg [mi 4 0]) .ret))))))), [.t 4]⟩
theorem low20 : lowF Tryd.prog 20 = some F20.strip := by kernel_rfl
theorem fok20 : fOk Tryd.prog 20 = true := by kernel_rfl
theorem wire_CheckMessage_ok (htab_wire_messages : constG G 0 = .one (.d (.k tab_wire_messagesD))) (p0 : Config) (p1 : Message) (r : Int) (h : wire_CheckMessage p0 p1 = some r) : FnRO Tryd.prog G 20 [.agg p0.bx, .agg p1.bx] (fun rs => rs = [.one (.i .i64 r)]) := by
 refine FnRO.of' low20 fok20 (by simp [F20]) ?_
 rw [wire_CheckMessage] at h
 replace h := Hd.mk h
 simp only [F20, go_sem]
 try simp only [*, go_sem]
 refine cr h (label_Check_ok G p0) (fun v1 h => ?_)
 refine oi h (fun hb2 h => ?_) (fun hb2 h => ?_)
 cases h.e
 simp only [*, go_sem, mA, mS]
 refine oi h (fun hb3 h => ?_) (fun hb3 h => ?_)
 have := of_decide_eq_true hb3
 cases h.e
 simp only [*, go_sem, mA, mS]
 refine oi h (fun hb4 h => ?_) (fun hb4 h => ?_)
 cases h.e
 simp only [*, go_sem, mA, mS]
 try simp only [*, go_sem]
 refine regs_lk _ G _ _ (B := Bool) (fun b => b = ((decide (p1.From < 0)) || (decide (p1.From ≥ p0.Sites)))) (fun b => [zK 2 (Config.enc p0), zK 3 (Message.enc p1), zB 29 b]) (fun b => []) ?_ ?_
 refine bc (decide (p1.From < 0)) (fun hb6 => ?_) (fun hb6 => ?_)
 have := of_decide_eq_true hb6
 try simp only [*, go_sem]
 exact jb true []
 try simp only [*, go_sem]
 exact jb (decide (p1.From ≥ p0.Sites)) []
 intro b hb0
 subst hb0
 try simp only [*, go_sem]
 refine regs_lk _ G _ _ (B := Bool) (fun b => b = (((decide (p1.From < 0)) || (decide (p1.From ≥ p0.Sites))) || (decide (p1.To < 0)))) (fun b => [zK 2 (Config.enc p0), zK 3 (Message.enc p1), zB 34 b]) (fun b => []) ?_ ?_
 refine bc ((decide (p1.From < 0)) || (decide (p1.From ≥ p0.Sites))) (fun hb8 => ?_) (fun hb8 => ?_)
 try simp only [*, go_sem]
 try simp only [*, go_sem]
 exact jb true []
 try simp only [*, go_sem]
 try simp only [*, go_sem]
 exact jb (decide (p1.To < 0)) []
 intro b hb0
 subst hb0
 try simp only [*, go_sem]
 refine regs_lk _ G _ _ (B := Bool) (fun b => b = ((((decide (p1.From < 0)) || (decide (p1.From ≥ p0.Sites))) || (decide (p1.To < 0))) || (decide (p1.To ≥ p0.Sites)))) (fun b => [zK 2 (Config.enc p0), zK 3 (Message.enc p1), zB 41 b]) (fun b => []) ?_ ?_
 refine bc (((decide (p1.From < 0)) || (decide (p1.From ≥ p0.Sites))) || (decide (p1.To < 0))) (fun hb10 => ?_) (fun hb10 => ?_)
 try simp only [*, go_sem]
 try simp only [*, go_sem]
 exact jb true []
 try simp only [*, go_sem]
 try simp only [*, go_sem]
 exact jb (decide (p1.To ≥ p0.Sites)) []
 intro b hb0
 subst hb0
 try simp only [*, go_sem]
 refine rg1 h (fun b11_1 => [zK 2 (Config.enc p0), zK 3 (Message.enc p1), zB 48 b11_1]) (fun b11_1 => []) (fun k12 h => ?_) (fun b11_1 h => ?_)
 refine oi h (fun hb13 h => ?_) (fun hb13 h => ?_)
 try simp only [*, go_sem]
 try simp only [*, go_sem]
 exact jc (true) h.e []
 try simp only [*, go_sem]
 try simp only [*, go_sem]
 refine cr h (wire_txn_ok G p0 p1.Txn) (fun v14 h => ?_)
 try simp only [*, go_sem]
 exact jc (!v14) h.e []
 try simp only [*, go_sem]
 refine regs_lk _ G _ _ (B := Bool) (fun b => b = (b11_1 || (decide (p1.Label < 0)))) (fun b => [zK 2 (Config.enc p0), zK 3 (Message.enc p1), zB 53 b]) (fun b => []) ?_ ?_
 refine bc b11_1 (fun hb16 => ?_) (fun hb16 => ?_)
 try simp only [*, go_sem]
 exact jb true []
 try simp only [*, go_sem]
 exact jb (decide (p1.Label < 0)) []
 intro b hb0
 subst hb0
 try simp only [*, go_sem]
 refine regs_lk _ G _ _ (B := Bool) (fun b => b = ((b11_1 || (decide (p1.Label < 0))) || (decide (p1.Label ≥ ((p0.Labels.length : Nat) : Int))))) (fun b => [zK 3 (Message.enc p1), zB 61 b]) (fun b => []) ?_ ?_
 refine bc (b11_1 || (decide (p1.Label < 0))) (fun hb18 => ?_) (fun hb18 => ?_)
 try simp only [*, go_sem]
 try simp only [*, go_sem]
 exact jb true []
 try simp only [*, go_sem]
 try simp only [*, go_sem]
 intro hl19
 try simp only [*, go_sem]
 exact jb (decide (p1.Label ≥ ((p0.Labels.length : Nat) : Int))) []
 intro b hb0
 subst hb0
 try simp only [*, go_sem]
 refine rg1 h (fun b20_1 => [zK 3 (Message.enc p1), zB 67 b20_1]) (fun b20_1 => []) (fun k21 h => ?_) (fun b20_1 h => ?_)
 refine oi h (fun hb22 h => ?_) (fun hb22 h => ?_)
 try simp only [*, go_sem]
 try simp only [*, go_sem]
 exact jc (true) h.e []
 try simp only [*, go_sem]
 try simp only [*, go_sem]
 refine cr h (wire_key_ok G p1.Key) (fun v23 h => ?_)
 try simp only [*, go_sem]
 exact jc (!v23) h.e []
 try simp only [*, go_sem]
 refine rg1 h (fun b24_1 => [zK 3 (Message.enc p1), zB 73 b24_1]) (fun b24_1 => []) (fun k25 h => ?_) (fun b24_1 h => ?_)
 refine oi h (fun hb26 h => ?_) (fun hb26 h => ?_)
 try simp only [*, go_sem]
 exact jc (true) h.e []
 try simp only [*, go_sem]
 refine cr h (wire_value_ok G p1.Value) (fun v27 h => ?_)
 try simp only [*, go_sem]
 exact jc (!v27) h.e []
 try simp only [*, go_sem]
 refine regs_lk _ G _ _ (B := Bool) (fun b => b = (b24_1 || (decide (p1.Version < 0)))) (fun b => [zK 3 (Message.enc p1), zB 78 b]) (fun b => []) ?_ ?_
 refine bc b24_1 (fun hb29 => ?_) (fun hb29 => ?_)
 try simp only [*, go_sem]
 exact jb true []
 try simp only [*, go_sem]
 exact jb (decide (p1.Version < 0)) []
 intro b hb0
 subst hb0
 try simp only [*, go_sem]
 refine regs_lk _ G _ _ (B := Bool) (fun b => b = ((b24_1 || (decide (p1.Version < 0))) || (decide (p1.Version > 1048576)))) (fun b => [zK 3 (Message.enc p1), zB 83 b]) (fun b => []) ?_ ?_
 refine bc (b24_1 || (decide (p1.Version < 0))) (fun hb31 => ?_) (fun hb31 => ?_)
 try simp only [*, go_sem]
 try simp only [*, go_sem]
 exact jb true []
 try simp only [*, go_sem]
 try simp only [*, go_sem]
 exact jb (decide (p1.Version > 1048576)) []
 intro b hb0
 subst hb0
 try simp only [*, go_sem]
 refine rg1 h (fun b32_1 => [zK 3 (Message.enc p1), zB 89 b32_1]) (fun b32_1 => []) (fun k33 h => ?_) (fun b32_1 h => ?_)
 refine oi h (fun hb34 h => ?_) (fun hb34 h => ?_)
 try simp only [*, go_sem]
 try simp only [*, go_sem]
 exact jc (true) h.e []
 try simp only [*, go_sem]
 try simp only [*, go_sem]
 refine cr h (wire_ask_ok G p1.Ask) (fun v35 h => ?_)
 try simp only [*, go_sem]
 exact jc (!v35) h.e []
 refine oi h (fun hb36 h => ?_) (fun hb36 h => ?_)
 cases h.e
 simp only [*, go_sem, mA, mS]
 try simp only [*, go_sem]
 refine cr h (wire_code_ok G p1.Code) (fun v37 h => ?_)
 refine oin h (fun hb38 hkhb38 h => ?_) (fun hb38 hkhb38 h => ?_)
 cases h.e
 simp only [*, go_sem, mA, mS]
 refine ck h (fun _ h => ?_)
 refine obg h (fun x39 _ hkx39 h => ?_)
 rw [tab_wire_messages_len] at hkx39
 have : p1.Kind < 10 := by omega
 try simp only [*, go_sem]
 refine regs_lk _ G _ _ (B := Bool) (fun b => b = ((!x39.label) && (p1.Label != 0))) (fun b => [zK 3 (Message.enc p1), zP 6 0, zB 107 b]) (fun b => [ox x39.bx]) ?_ ?_
 refine bcn x39.label (fun hb42 hkhb42 => ?_) (fun hb42 hkhb42 => ?_)
 try simp only [*, go_sem]
 exact jb (p1.Label != 0) [some 0]
 try simp only [*, go_sem]
 exact jb false [some 0]
 intro b hb0
 subst hb0
 try simp only [*, go_sem]
 refine regs_lk _ G _ _ (B := Bool) (fun b => b = (((!x39.label) && (p1.Label != 0)) || ((!x39.key) && (p1.Key != 0)))) (fun b => [zK 3 (Message.enc p1), zP 6 0, zB 117 b]) (fun b => [ox x39.bx]) ?_ ?_
 refine bc ((!x39.label) && (p1.Label != 0)) (fun hb44 => ?_) (fun hb44 => ?_)
 try simp only [*, go_sem]
 try simp only [*, go_sem]
 exact jb true [some 0]
 try simp only [*, go_sem]
 refine bcn x39.key (fun hb45 hkhb45 => ?_) (fun hb45 hkhb45 => ?_)
 try simp only [*, go_sem]
 exact jb (p1.Key != 0) [some 0]
 try simp only [*, go_sem]
 exact jb false [some 0]
 intro b hb0
 subst hb0
 try simp only [*, go_sem]
 refine regs_lk _ G _ _ (B := Bool) (fun b => b = ((((!x39.label) && (p1.Label != 0)) || ((!x39.key) && (p1.Key != 0))) || ((!x39.value) && (p1.Value != 0)))) (fun b => [zK 3 (Message.enc p1), zP 6 0, zB 127 b]) (fun b => [ox x39.bx]) ?_ ?_
 refine bc (((!x39.label) && (p1.Label != 0)) || ((!x39.key) && (p1.Key != 0))) (fun hb47 => ?_) (fun hb47 => ?_)
 try simp only [*, go_sem]
 try simp only [*, go_sem]
 exact jb true [some 0]
 try simp only [*, go_sem]
 refine bcn x39.value (fun hb48 hkhb48 => ?_) (fun hb48 hkhb48 => ?_)
 try simp only [*, go_sem]
 exact jb (p1.Value != 0) [some 0]
 try simp only [*, go_sem]
 exact jb false [some 0]
 intro b hb0
 subst hb0
 try simp only [*, go_sem]
 refine regs_lk _ G _ _ (B := Bool) (fun b => b = (((((!x39.label) && (p1.Label != 0)) || ((!x39.key) && (p1.Key != 0))) || ((!x39.value) && (p1.Value != 0))) || ((!x39.version) && (p1.Version != 0)))) (fun b => [zK 3 (Message.enc p1), zP 6 0, zB 137 b]) (fun b => [ox x39.bx]) ?_ ?_
 refine bc ((((!x39.label) && (p1.Label != 0)) || ((!x39.key) && (p1.Key != 0))) || ((!x39.value) && (p1.Value != 0))) (fun hb50 => ?_) (fun hb50 => ?_)
 try simp only [*, go_sem]
 try simp only [*, go_sem]
 exact jb true [some 0]
 try simp only [*, go_sem]
 refine bcn x39.version (fun hb51 hkhb51 => ?_) (fun hb51 hkhb51 => ?_)
 try simp only [*, go_sem]
 exact jb (p1.Version != 0) [some 0]
 try simp only [*, go_sem]
 exact jb false [some 0]
 intro b hb0
 subst hb0
 try simp only [*, go_sem]
 refine regs_lk _ G _ _ (B := Bool) (fun b => b = ((((((!x39.label) && (p1.Label != 0)) || ((!x39.key) && (p1.Key != 0))) || ((!x39.value) && (p1.Value != 0))) || ((!x39.version) && (p1.Version != 0))) || ((!x39.ask) && (p1.Ask != 0)))) (fun b => [zK 3 (Message.enc p1), zP 6 0, zB 147 b]) (fun b => [ox x39.bx]) ?_ ?_
 refine bc (((((!x39.label) && (p1.Label != 0)) || ((!x39.key) && (p1.Key != 0))) || ((!x39.value) && (p1.Value != 0))) || ((!x39.version) && (p1.Version != 0))) (fun hb53 => ?_) (fun hb53 => ?_)
 try simp only [*, go_sem]
 try simp only [*, go_sem]
 exact jb true [some 0]
 try simp only [*, go_sem]
 refine bcn x39.ask (fun hb54 hkhb54 => ?_) (fun hb54 hkhb54 => ?_)
 try simp only [*, go_sem]
 exact jb (p1.Ask != 0) [some 0]
 try simp only [*, go_sem]
 exact jb false [some 0]
 intro b hb0
 subst hb0
 try simp only [*, go_sem]
 refine regs_lk _ G _ _ (B := Bool) (fun b => b = (((((((!x39.label) && (p1.Label != 0)) || ((!x39.key) && (p1.Key != 0))) || ((!x39.value) && (p1.Value != 0))) || ((!x39.version) && (p1.Version != 0))) || ((!x39.ask) && (p1.Ask != 0))) || ((!x39.yes) && p1.Yes))) (fun b => [zK 3 (Message.enc p1), zP 6 0, zB 156 b]) (fun b => [ox x39.bx]) ?_ ?_
 refine bc ((((((!x39.label) && (p1.Label != 0)) || ((!x39.key) && (p1.Key != 0))) || ((!x39.value) && (p1.Value != 0))) || ((!x39.version) && (p1.Version != 0))) || ((!x39.ask) && (p1.Ask != 0))) (fun hb56 => ?_) (fun hb56 => ?_)
 try simp only [*, go_sem]
 try simp only [*, go_sem]
 exact jb true [some 0]
 try simp only [*, go_sem]
 refine bcn x39.yes (fun hb57 hkhb57 => ?_) (fun hb57 hkhb57 => ?_)
 try simp only [*, go_sem]
 exact jb p1.Yes [some 0]
 try simp only [*, go_sem]
 exact jb false [some 0]
 intro b hb0
 subst hb0
 try simp only [*, go_sem]
 refine regs_lk _ G _ _ (B := Bool) (fun b => b = ((((((((!x39.label) && (p1.Label != 0)) || ((!x39.key) && (p1.Key != 0))) || ((!x39.value) && (p1.Value != 0))) || ((!x39.version) && (p1.Version != 0))) || ((!x39.ask) && (p1.Ask != 0))) || ((!x39.yes) && p1.Yes)) || ((!x39.code) && (p1.Code != 0)))) (fun b => [zK 3 (Message.enc p1), zB 166 b]) (fun b => []) ?_ ?_
 refine bc (((((((!x39.label) && (p1.Label != 0)) || ((!x39.key) && (p1.Key != 0))) || ((!x39.value) && (p1.Value != 0))) || ((!x39.version) && (p1.Version != 0))) || ((!x39.ask) && (p1.Ask != 0))) || ((!x39.yes) && p1.Yes)) (fun hb59 => ?_) (fun hb59 => ?_)
 try simp only [*, go_sem]
 try simp only [*, go_sem]
 exact jb true []
 try simp only [*, go_sem]
 refine bcn x39.code (fun hb60 hkhb60 => ?_) (fun hb60 hkhb60 => ?_)
 try simp only [*, go_sem]
 exact jb (p1.Code != 0) []
 try simp only [*, go_sem]
 exact jb false []
 intro b hb0
 subst hb0
 refine oi h (fun hb61 h => ?_) (fun hb61 h => ?_)
 try simp only [*, go_sem]
 cases h.e
 simp only [*, go_sem, mA, mS]
 try simp only [*, go_sem]
 refine oi h (fun hb62 h => ?_) (fun hb62 h => ?_)
 refine oi h (fun hb63 h => ?_) (fun hb63 h => ?_)
 cases h.e
 simp only [*, go_sem, mA, mS]
 cases h.e
 simp only [*, go_sem, mA, mS]
 cases h.e
 simp only [*, go_sem, mA, mS]
def wire_DecodeMessage (p0 : Config) (p1 : List Int) : Option (Message × Int) := (Option.bind (label_Check p0) fun v1 => (if (v1 != 0) = true then (some ((Message.mk 0 0 0 (Txn.mk 0 0) 0 0 0 0 0 false 0), v1)) else (Option.bind (cloneF 1 p1) fun v3 => (Option.bind (wire_reader_kind (WireReader.mk v3 0) 9) fun v4 => (if 0 ≤ v4.2 then (Option.bind (tab_wire_messages[v4.2.toNat]?) fun x5 => (Option.bind (wire_reader_take v4.1 1) fun v7 => (Option.bind (wire_reader_take v7.1 1) fun v8 => (Option.bind (wire_reader_txn v8.1) fun v9 => (withK (fun (b10_1 : List Int) (b10_2 : Int) (b10_3 : Int) => (withK (fun (b14_1 : List Int) (b14_2 : Int) (b14_3 : Int) => (withK (fun (b18_1 : List Int) (b18_2 : Int) (b18_3 : Int) => (withK (fun (b22_1 : List Int) (b22_2 : Int) (b22_3 : Int) => (withK (fun (b26_1 : List Int) (b26_2 : Int) (b26_3 : Int) => (withK (fun (b30_1 : List Int) (b30_2 : Int) (b30_3 : Bool) => (withK (fun (b34_1 : List Int) (b34_2 : Int) (b34_3 : Int) => (Option.bind (wire_reader_end (WireReader.mk b34_1 b34_2)) fun v38 => (withK (fun (b39_1 : Int) => (if (b39_1 != 0) = true then (withK (some ((Message.mk 0 0 0 (Txn.mk 0 0) 0 0 0 0 0 false 0), b39_1)) fun k45 => k45) else (some ((Message.mk v4.2 v7.2 v8.2 v9.2 b10_3 b14_3 b18_3 b22_3 b26_3 b30_3 b34_3), 0)))) fun k40 => (if (v38.fault == 0) = true then (Option.bind (wire_CheckMessage p0 (Message.mk v4.2 v7.2 v8.2 v9.2 b10_3 b14_3 b18_3 b22_3 b26_3 b30_3 b34_3)) fun v42 => (k40 v42)) else (k40 v38.fault))))) fun k35 => (if x5.code = true then (Option.bind (wire_reader_take (WireReader.mk b30_1 b30_2) 1) fun v37 => (k35 v37.1.rest v37.1.fault v37.2)) else (k35 b30_1 b30_2 0)))) fun k31 => (if x5.yes = true then (Option.bind (wire_reader_bit (WireReader.mk b26_1 b26_2)) fun v33 => (k31 v33.1.rest v33.1.fault v33.2)) else (k31 b26_1 b26_2 false)))) fun k27 => (if x5.ask = true then (Option.bind (wire_reader_take (WireReader.mk b22_1 b22_2) 3) fun v29 => (k27 v29.1.rest v29.1.fault v29.2)) else (k27 b22_1 b22_2 0)))) fun k23 => (if x5.version = true then (Option.bind (wire_reader_take (WireReader.mk b18_1 b18_2) 3) fun v25 => (k23 v25.1.rest v25.1.fault v25.2)) else (k23 b18_1 b18_2 0)))) fun k19 => (if x5.value = true then (Option.bind (wire_reader_take (WireReader.mk b14_1 b14_2) 4) fun v21 => (k19 v21.1.rest v21.1.fault v21.2)) else (k19 b14_1 b14_2 0)))) fun k15 => (if x5.key = true then (Option.bind (wire_reader_take (WireReader.mk b10_1 b10_2) 1) fun v17 => (k15 v17.1.rest v17.1.fault v17.2)) else (k15 b10_1 b10_2 0)))) fun k11 => (if x5.label = true then (Option.bind (wire_reader_take v9.1 1) fun v13 => (k11 v13.1.rest v13.1.fault v13.2)) else (k11 v9.1.rest v9.1.fault 0))))))) else none)))))
def F5 : VFn := ⟨95, (.seq (.reg [vo 2 (.box 3 (.t 0)), vo 4 (.alloc [(zi 0), (zi 0), (zi 0), (zi 0), (zi 0), (zi 0), (zi 0), (zi 0), (zi 0), (zi 0), (.d (.b false)), (zi 0)]), mi 5 0]) (.seq (.seq (.reg [vl 10 3 2, vo 11 (.call 13 [(.t 10)]), vm 6 11]) (.seq (.reg [vm 12 6, bk 13 .neq 12 0]) (.cond (.t 13) (.seq (.reg [vo 14 (.build [(zi 0), (zi 0), (zi 0), (zi 0), (zi 0), (zi 0), (zi 0), (zi 0), (zi 0), (zi 0), (.d (.b false)), (zi 0)] []), vm 15 6, vu (.st 12 (.t 4) (.t 14)), vm 5 15]) .ret) .skip))) (.seq (.reg [vm 16 1, vo 17 (.call 14 [(.t 16)]), vo 18 (.build [(.nl 1), (zi 0)] [(0, 1, (.t 17))]), vo 19 (.box 2 (.t 18)), vm 7 19]) (.seq (.reg [vm 20 7, vo 21 (.call 15 [(.t 20), (ci 9)]), vo 22 (.build [(zi 0), (zi 0), (zi 0), (zi 0), (zi 0), (zi 0), (zi 0), (zi 0), (zi 0), (zi 0), (.d (.b false)), (zi 0)] [(0, 1, (.t 21))]), vo 8 (.alloc [(zi 0), (zi 0), (zi 0), (zi 0), (zi 0), (zi 0), (zi 0), (zi 0), (zi 0), (zi 0), (.d (.b false)), (zi 0)]), vu (.st 12 (.t 8) (.t 22))]) (.seq (.reg [vf 23 0 8, vs 24 23, vo 25 (.iaa 10 8 (.g 0) (.t 24)), vl 26 8 25, vo 9 (.alloc [(.d (.b false)), (.d (.b false)), (.d (.b false)), (.d (.b false)), (.d (.b false)), (.d (.b false)), (.d (.b false)), (.d (.b false))]), vu (.st 8 (.t 9) (.t 26))]) (.seq (.reg [vm 27 7, vo 28 (.call 16 [(.t 27), (ci 1)]), vf 29 1 8, vu (.st 1 (.t 29) (.t 28))]) (.seq (.reg [vm 30 7, vo 31 (.call 16 [(.t 30), (ci 1)]), vf 32 2 8, vu (.st 1 (.t 32) (.t 31))]) (.seq (.reg [vm 33 7, vo 34 (.call 17 [(.t 33)]), vf 35 3 8, vu (.st 2 (.t 35) (.t 34))]) (.seq (.seq (.reg [vf 36 0 9, vs 37 36]) (.wk (.cond (.t 37) (.reg [vm 38 7, vo 39 (.call 16 [(.t 38), (ci 1)]), vf 40 5 8, vu (.st 1 (.t 40) (.t 39))]) .skip))) (.seq (.seq (.reg [vf 41 1 9, vs 42 41]) (.wk (.cond (.t 42) (.reg [vm 43 7, vo 44 (.call 16 [(.t 43), (ci 1)]), vf 45 6 8, vu (.st 1 (.t 45) (.t 44))]) .skip))) (.seq (.seq (.reg [vf 46 2 9, vs 47 46]) (.wk (.cond (.t 47) (.reg [vm 48 7, vo 49 (.call 16 [(.t 48), (ci 4)]), vf 50 7 8, vu (.st 1 (.t 50) (.t 49))]) .skip))) (.seq (.seq (.reg [vf 51 3 9, vs 52 51]) (.wk (.cond (.t 52) (.reg [vm 53 7, vo 54 (.call 16 [(.t 53), (ci 3)]), vf 55 8 8, vu (.st 1 (.t 55) (.t 54))]) .skip))) (.seq (.seq (.reg [vf 56 4 9, vs 57 56]) (.wk (.cond (.t 57) (.reg [vm 58 7, vo 59 (.call 16 [(.t 58), (ci 3)]), vf 60 9 8, vu (.st 1 (.t 60) (.t 59))]) .skip))) (.seq (.seq (.reg [vf 61 5 9, vs 62 61]) (.wk (.cond (.t 62) (.reg [vm 63 7, vo 64 (.call 18 [(.t 63)]), vf 65 10 8, vu (.st 1 (.t 65) (.t 64))]) .skip))) (.seq (.seq (.reg [vf 66 6 9, vs 67 66]) (.wk (.cond (.t 67) (.reg [vm 68 7, vo 69 (.call 16 [(.t 68), (ci 1)]), vf 70 11 8, vu (.st 1 (.t 70) (.t 69))]) .skip))) (.seq (.reg [vm 71 7, vo 72 (.call 19 [(.t 71)])]) (.seq (.seq (.reg [vm 73 7, vo 74 (.nilchk (.t 73)), vf 75 1 74, vs 76 75, bk 77 .eql 76 0]) (.wk (.cond (.t 77) (.reg [vm 78 7, vl 79 3 2, vl 80 12 8, vo 81 (.call 20 [(.t 79), (.t 80)]), vo 82 (.nilchk (.t 78)), vf 83 1 82, vu (.st 1 (.t 83) (.t 81))]) .skip))) (.seq (.seq (.reg [vm 84 7, vo 85 (.nilchk (.t 84)), vf 86 1 85, vs 87 86, bk 88 .neq 87 0]) (.cond (.t 88) (.seq (.wk (.orders [[vo 89 (.build [(zi 0), (zi 0), (zi 0), (zi 0), (zi 0), (zi 0), (zi 0), (zi 0), (zi 0), (zi 0), (.d (.b false)), (zi 0)] []), vm 90 7, vo 91 (.nilchk (.t 90)), vf 92 1 91, vs 93 92, vu (.st 12 (.t 4) (.t 89)), vm 5 93], [vo 89 (.build [(zi 0), (zi 0), (zi 0), (zi 0), (zi 0), (zi 0), (zi 0), (zi 0), (zi 0), (zi 0), (.d (.b false)), (zi 0)] []), vm 90 7, vo 91 (.nilchk (.t 90)), vf 92 1 91, vu (.st 12 (.t 4) (.t 89)), vs 93 92, vm 5 93], [vo 89 (.build [(zi 0), (zi 0), (zi 0), (zi 0), (zi 0), (zi 0), (zi 0), (zi 0), (zi 0), (zi 0), (.d (.b false)), (zi 0)] []), vm 90 7, vo 91 (.nilchk (.t 90)), vu (.st 12 (.t 4) (.t 89)), vf 92 1 91, vs 93 92, vm 5 93], [vo 89 (.build [(zi 0), (zi 0), (zi 0), (zi 0), (zi 0), (zi 0), (zi 0), (zi 0), (zi 0), (zi 0), (.d (.b false)), (zi 0)] []), vm 90 7, vu (.st 12 (.t 4) (.t 89)), vo 91 (.nilchk (.t 90)), vf 92 1 91, vs 93 92, vm 5 93], [vo 89 (.build [(zi 0), (zi 0), (zi 0), (zi 0), (zi 0), (zi 0), (zi 0), (zi 0), (zi 0), (zi 0), (.d (.b false)), (zi 0)] []), vu (.st 12 (.t 4) (.t 89)), vm 90 7, vo 91 (.nilchk (.t 90)), vf 92 1 91, vs 93 92, vm 5 93], [vm 90 7, vo 89 (.build [(zi 0), (zi 0), (zi 0), (zi 0), (zi 0), (zi 0), (zi 0), (zi 0), (zi 0), (zi 0), (.d (.b false)), (zi 0)] []), vo 91 (.nilchk (.t 90)), vf 92 1 91, vs 93 92, vu (.st 12 (.t 4) (.t 89)), vm 5 93], [vm 90 7, vo 89 (.build [(zi 0), (zi 0), (zi 0), (zi 0), (zi 0), (zi 0), (zi 0), (zi 0), (zi 0), (zi 0), (.d (.b false)), (zi 0)] []), vo 91 (.nilchk (.t 90)), vf 92 1 91, vu (.st 12 (.t 4) (.t 89)), vs 93 92, vm 5 93], [vm 90 7, vo 89 (.build [(zi 0), (zi 0), (zi 0), (zi 0), (zi 0), (zi 0), (zi 0), (zi 0), (zi 0), (zi 0), (.d (.b false)), (zi 0)] []), vo 91 (.nilchk (.t 90)), vu (.st 12 (.t 4) (.t 89)), vf 92 1 91, vs 93 92, vm 5 93], [vm 90 7, vo 89 (.build [(zi 0), (zi 0), (zi 0), (zi 0), (zi 0), (zi 0), (zi 0), (zi 0), (zi 0), (zi 0), (.d (.b false)), (zi 0)] []), vu (.st 12 (.t 4) (.t 89)), vo 91 (.nilchk (.t 90)), vf 92 1 91, vs 93 92, vm 5 93], [vm 90 7, vo 91 (.nilchk (.t 90)), vo 89 (.build [(zi 0), (zi 0), (zi 0), (zi 0), (zi 0), (zi 0), (zi 0), (zi 0), (zi 0), (zi 0), (.d (.b false)), (zi 0)] []), vf 92 1 91, vs 93 92, vu (.st 12 (.t 4) (.t 89)), vm 5 93], [vm 90 7, vo 91 (.nilchk (.t 90)), vo 89 (.build [(zi 0), (zi 0), (zi 0), (zi 0), (zi 0), (zi 0), (zi 0), (zi 0), (zi 0), (zi 0), (.d (.b false)), (zi 0)] []), vf 92 1 91, vu (.st 12 (.t 4) (.t 89)), vs 93 92, vm 5 93], [vm 90 7, vo 91 (.nilchk (.t 90)), vo 89 (.build [(zi 0), (zi 0), (zi 0), (zi 0), (zi 0), (zi 0), (zi 0), (zi 0), (zi 0), (zi 0), (.d (.b false)), (zi 0)] []), vu (.st 12 (.t 4) (.t 89)), vf 92 1 91, vs 93 92, vm 5 93], [vm 90 7, vo 91 (.nilchk (.t 90)), vf 92 1 91, vo 89 (.build [(zi 0), (zi 0), (zi 0), (zi 0), (zi 0), (zi 0), (zi 0), (zi 0), (zi 0), (zi 0), (.d (.b false)), (zi 0)] []), vs 93 92, vu (.st 12 (.t 4) (.t 89)), vm 5 93], [vm 90 7, vo 91 (.nilchk (.t 90)), vf 92 1 91, vo 89 (.build [(zi 0), (zi 0), (zi 0), (zi 0), (zi 0), (zi 0), (zi 0), (zi 0), (zi 0), (zi 0), (.d (.b false)), (zi 0)] []), vu (.st 12 (.t 4) (.t 89)), vs 93 92, vm 5 93], [vm 90 7, vo 91 (.nilchk (.t 90)), vf 92 1 91, vs 93 92, vo 89 (.build [(zi 0), (zi 0), (zi 0), (zi 0), (zi 0), (zi 0), (zi 0), (zi 0), (zi 0), (zi 0), (.d (.b false)), (zi 0)] []), vu (.st 12 (.t 4) (.t 89)), vm 5 93]])) .ret) .skip)) (.seq (.reg [vl 94 12 8, vu (.st 12 (.t 4) (.t 94)), mi 5 0]) .ret))))))))))))))))))), [.cell 4 true 12, .t 5]⟩
theorem low5 : lowF Tryd.prog 5 = some F5.strip := by kernel_rfl
theorem fok5 : fOk Tryd.prog 5 = true := by kernel_rfl
theorem wire_DecodeMessage_ok (htab_wire_messages : constG G 0 = .one (.d (.k tab_wire_messagesD))) (p0 : Config) (p1 : List Int) (r : Message × Int) (h : wire_DecodeMessage p0 p1 = some r) : FnRO Tryd.prog G 5 [.agg p0.bx, .one (.d (.l 1 (p1.map encU8)))] (fun rs => rs = [.agg (r.1.encO), .one (.i .i64 r.2)]) := by
 refine FnRO.of' low5 fok5 (by simp [F5]) ?_
 rw [wire_DecodeMessage] at h
 replace h := Hd.mk h
 simp only [F5, go_sem]
 try simp only [*, go_sem]
 refine cr h (label_Check_ok G p0) (fun v1 h => ?_)
 refine oi h (fun hb2 h => ?_) (fun hb2 h => ?_)
 cases h.e
 simp only [*, go_sem, mA, mS]
 try simp only [*, go_sem]
 refine cr h (clone14_ok G p1) (fun v3 h => ?_)
 try simp only [*, go_sem]
 refine ct h 3 [2] [true] [] (wire_reader_kind_ok G (WireReader.mk v3 0) 9) (fun v4 h => ?_)
 refine ck h (fun _ h => ?_)
 refine obg h (fun x5 _ hkx5 h => ?_)
 rw [tab_wire_messages_len] at hkx5
 have : v4.2 < 10 := by omega
 try simp only [*, go_sem]
 refine ct h 3 [] [true] [] (wire_reader_take_ok G v4.1 1) (fun v7 h => ?_)
 try simp only [*, go_sem]
 refine ct h 3 [] [true] [] (wire_reader_take_ok G v7.1 1) (fun v8 h => ?_)
 try simp only [*, go_sem]
 refine ct h 3 [] [true] [] (wire_reader_txn_ok G v8.1) (fun v9 h => ?_)
 try simp only [*, go_sem]
 refine jn3 h (fun b10_1 b10_2 b10_3 => [zP 2 0, zP 4 1, zP 7 2, zP 8 3, zP 9 4]) (fun b10_1 b10_2 b10_3 => [ox p0.bx, ox [zi 0, zi 0, zi 0, zi 0, zi 0, zi 0, zi 0, zi 0, zi 0, zi 0, .d (.b false), zi 0], ox [.d (.l 1 (b10_1.map encU8)), zi b10_2], ox [zi v4.2, zi v7.2, zi v8.2, zi v9.2.Site, zi v9.2.N, zi b10_3, zi 0, zi 0, zi 0, zi 0, .d (.b false), zi 0], ox x5.bx]) (fun k11 h => ?_) (fun b10_1 b10_2 b10_3 h => ?_)
 refine oi h (fun hb12 h => ?_) (fun hb12 h => ?_)
 try simp only [*, go_sem]
 refine ct h 3 [] [true] [] (wire_reader_take_ok G v9.1 1) (fun v13 h => ?_)
 try simp only [*, go_sem]
 exact jc (v13.1.rest, v13.1.fault, v13.2) h.e [some 0, some 1, some 3, some 4, some 5]
 try simp only [*, go_sem]
 exact jc (v9.1.rest, v9.1.fault, 0) h.e [some 0, some 1, some 3, some 4, some 5]
 try simp only [*, go_sem]
 refine jn3 h (fun b14_1 b14_2 b14_3 => [zP 2 0, zP 4 1, zP 7 2, zP 8 3, zP 9 4]) (fun b14_1 b14_2 b14_3 => [ox p0.bx, ox [zi 0, zi 0, zi 0, zi 0, zi 0, zi 0, zi 0, zi 0, zi 0, zi 0, .d (.b false), zi 0], ox [.d (.l 1 (b14_1.map encU8)), zi b14_2], ox [zi v4.2, zi v7.2, zi v8.2, zi v9.2.Site, zi v9.2.N, zi b10_3, zi b14_3, zi 0, zi 0, zi 0, .d (.b false), zi 0], ox x5.bx]) (fun k15 h => ?_) (fun b14_1 b14_2 b14_3 h => ?_)
 refine oi h (fun hb16 h => ?_) (fun hb16 h => ?_)
 try simp only [*, go_sem]
 refine ct h 2 [] [true] [] (wire_reader_take_ok G (WireReader.mk b10_1 b10_2) 1) (fun v17 h => ?_)
 try simp only [*, go_sem]
 exact jc (v17.1.rest, v17.1.fault, v17.2) h.e [some 0, some 1, some 2, some 3, some 4]
 try simp only [*, go_sem]
 exact jc (b10_1, b10_2, 0) h.e [some 0, some 1, some 2, some 3, some 4]
 try simp only [*, go_sem]
 refine jn3 h (fun b18_1 b18_2 b18_3 => [zP 2 0, zP 4 1, zP 7 2, zP 8 3, zP 9 4]) (fun b18_1 b18_2 b18_3 => [ox p0.bx, ox [zi 0, zi 0, zi 0, zi 0, zi 0, zi 0, zi 0, zi 0, zi 0, zi 0, .d (.b false), zi 0], ox [.d (.l 1 (b18_1.map encU8)), zi b18_2], ox [zi v4.2, zi v7.2, zi v8.2, zi v9.2.Site, zi v9.2.N, zi b10_3, zi b14_3, zi b18_3, zi 0, zi 0, .d (.b false), zi 0], ox x5.bx]) (fun k19 h => ?_) (fun b18_1 b18_2 b18_3 h => ?_)
 refine oi h (fun hb20 h => ?_) (fun hb20 h => ?_)
 try simp only [*, go_sem]
 refine ct h 2 [] [true] [] (wire_reader_take_ok G (WireReader.mk b14_1 b14_2) 4) (fun v21 h => ?_)
 try simp only [*, go_sem]
 exact jc (v21.1.rest, v21.1.fault, v21.2) h.e [some 0, some 1, some 2, some 3, some 4]
 try simp only [*, go_sem]
 exact jc (b14_1, b14_2, 0) h.e [some 0, some 1, some 2, some 3, some 4]
 try simp only [*, go_sem]
 refine jn3 h (fun b22_1 b22_2 b22_3 => [zP 2 0, zP 4 1, zP 7 2, zP 8 3, zP 9 4]) (fun b22_1 b22_2 b22_3 => [ox p0.bx, ox [zi 0, zi 0, zi 0, zi 0, zi 0, zi 0, zi 0, zi 0, zi 0, zi 0, .d (.b false), zi 0], ox [.d (.l 1 (b22_1.map encU8)), zi b22_2], ox [zi v4.2, zi v7.2, zi v8.2, zi v9.2.Site, zi v9.2.N, zi b10_3, zi b14_3, zi b18_3, zi b22_3, zi 0, .d (.b false), zi 0], ox x5.bx]) (fun k23 h => ?_) (fun b22_1 b22_2 b22_3 h => ?_)
 refine oi h (fun hb24 h => ?_) (fun hb24 h => ?_)
 try simp only [*, go_sem]
 refine ct h 2 [] [true] [] (wire_reader_take_ok G (WireReader.mk b18_1 b18_2) 3) (fun v25 h => ?_)
 try simp only [*, go_sem]
 exact jc (v25.1.rest, v25.1.fault, v25.2) h.e [some 0, some 1, some 2, some 3, some 4]
 try simp only [*, go_sem]
 exact jc (b18_1, b18_2, 0) h.e [some 0, some 1, some 2, some 3, some 4]
 try simp only [*, go_sem]
 refine jn3 h (fun b26_1 b26_2 b26_3 => [zP 2 0, zP 4 1, zP 7 2, zP 8 3, zP 9 4]) (fun b26_1 b26_2 b26_3 => [ox p0.bx, ox [zi 0, zi 0, zi 0, zi 0, zi 0, zi 0, zi 0, zi 0, zi 0, zi 0, .d (.b false), zi 0], ox [.d (.l 1 (b26_1.map encU8)), zi b26_2], ox [zi v4.2, zi v7.2, zi v8.2, zi v9.2.Site, zi v9.2.N, zi b10_3, zi b14_3, zi b18_3, zi b22_3, zi b26_3, .d (.b false), zi 0], ox x5.bx]) (fun k27 h => ?_) (fun b26_1 b26_2 b26_3 h => ?_)
 refine oi h (fun hb28 h => ?_) (fun hb28 h => ?_)
 try simp only [*, go_sem]
 refine ct h 2 [] [true] [] (wire_reader_take_ok G (WireReader.mk b22_1 b22_2) 3) (fun v29 h => ?_)
 try simp only [*, go_sem]
 exact jc (v29.1.rest, v29.1.fault, v29.2) h.e [some 0, some 1, some 2, some 3, some 4]
 try simp only [*, go_sem]
 exact jc (b22_1, b22_2, 0) h.e [some 0, some 1, some 2, some 3, some 4]
 try simp only [*, go_sem]
 refine jn3 h (fun b30_1 b30_2 b30_3 => [zP 2 0, zP 4 1, zP 7 2, zP 8 3, zP 9 4]) (fun b30_1 b30_2 b30_3 => [ox p0.bx, ox [zi 0, zi 0, zi 0, zi 0, zi 0, zi 0, zi 0, zi 0, zi 0, zi 0, .d (.b false), zi 0], ox [.d (.l 1 (b30_1.map encU8)), zi b30_2], ox [zi v4.2, zi v7.2, zi v8.2, zi v9.2.Site, zi v9.2.N, zi b10_3, zi b14_3, zi b18_3, zi b22_3, zi b26_3, .d (.b b30_3), zi 0], ox x5.bx]) (fun k31 h => ?_) (fun b30_1 b30_2 b30_3 h => ?_)
 refine oi h (fun hb32 h => ?_) (fun hb32 h => ?_)
 try simp only [*, go_sem]
 refine ct h 2 [] [true] [] (wire_reader_bit_ok G (WireReader.mk b26_1 b26_2)) (fun v33 h => ?_)
 try simp only [*, go_sem]
 exact jc (v33.1.rest, v33.1.fault, v33.2) h.e [some 0, some 1, some 2, some 3, some 4]
 try simp only [*, go_sem]
 exact jc (b26_1, b26_2, false) h.e [some 0, some 1, some 2, some 3, some 4]
 try simp only [*, go_sem]
 refine jn3 h (fun b34_1 b34_2 b34_3 => [zP 2 0, zP 4 1, zP 7 2, zP 8 3]) (fun b34_1 b34_2 b34_3 => [ox p0.bx, ox [zi 0, zi 0, zi 0, zi 0, zi 0, zi 0, zi 0, zi 0, zi 0, zi 0, .d (.b false), zi 0], ox [.d (.l 1 (b34_1.map encU8)), zi b34_2], ox [zi v4.2, zi v7.2, zi v8.2, zi v9.2.Site, zi v9.2.N, zi b10_3, zi b14_3, zi b18_3, zi b22_3, zi b26_3, .d (.b b30_3), zi b34_3]]) (fun k35 h => ?_) (fun b34_1 b34_2 b34_3 h => ?_)
 refine oi h (fun hb36 h => ?_) (fun hb36 h => ?_)
 try simp only [*, go_sem]
 refine ct h 2 [] [true] [] (wire_reader_take_ok G (WireReader.mk b30_1 b30_2) 1) (fun v37 h => ?_)
 try simp only [*, go_sem]
 exact jc (v37.1.rest, v37.1.fault, v37.2) h.e [some 0, some 1, some 2, some 3]
 try simp only [*, go_sem]
 exact jc (b30_1, b30_2, 0) h.e [some 0, some 1, some 2, some 3]
 try simp only [*, go_sem]
 refine ct h 2 [] [true] [] (wire_reader_end_ok G (WireReader.mk b34_1 b34_2)) (fun v38 h => ?_)
 try simp only [*, go_sem]
 refine jn1 h (fun b39_1 => [zP 4 0, zP 7 1, zP 8 2]) (fun b39_1 => [ox [zi 0, zi 0, zi 0, zi 0, zi 0, zi 0, zi 0, zi 0, zi 0, zi 0, .d (.b false), zi 0], ox [.d (.l 1 (v38.rest.map encU8)), zi b39_1], ox [zi v4.2, zi v7.2, zi v8.2, zi v9.2.Site, zi v9.2.N, zi b10_3, zi b14_3, zi b18_3, zi b22_3, zi b26_3, .d (.b b30_3), zi b34_3]]) (fun k40 h => ?_) (fun b39_1 h => ?_)
 refine oi h (fun hb41 h => ?_) (fun hb41 h => ?_)
 try simp only [*, go_sem]
 refine cr h (wire_CheckMessage_ok G htab_wire_messages p0 (Message.mk v4.2 v7.2 v8.2 v9.2 b10_3 b14_3 b18_3 b22_3 b26_3 b30_3 b34_3)) (fun v42 h => ?_)
 try simp only [*, go_sem]
 exact jc (v42) h.e [some 1, some 2, some 3]
 try simp only [*, go_sem]
 exact jc (v38.fault) h.e [some 1, some 2, some 3]
 refine oi h (fun hb43 h => ?_) (fun hb43 h => ?_)
 try simp only [*, go_sem]
 refine jn0 h ([zP 4 0, zI 5 b39_1]) ([ox [zi 0, zi 0, zi 0, zi 0, zi 0, zi 0, zi 0, zi 0, zi 0, zi 0, .d (.b false), zi 0]]) (fun k45 h => ?_) (fun h => ?_)
 try simp only [*, go_sem]
 refine ⟨?_, ?_, ?_, ?_, ?_, ?_, ?_, ?_, ?_, ?_, ?_, ?_, ?_, ?_, ?_⟩
 try simp only [*, go_sem]
 exact jc () h.e [some 0]
 try simp only [*, go_sem]
 exact jc () h.e [some 0]
 try simp only [*, go_sem]
 exact jc () h.e [some 0]
 try simp only [*, go_sem]
 exact jc () h.e [some 0]
 try simp only [*, go_sem]
 exact jc () h.e [some 0]
 try simp only [*, go_sem]
 exact jc () h.e [some 0]
 try simp only [*, go_sem]
 exact jc () h.e [some 0]
 try simp only [*, go_sem]
 exact jc () h.e [some 0]
 try simp only [*, go_sem]
 exact jc () h.e [some 0]
 try simp only [*, go_sem]
 exact jc () h.e [some 0]
 try simp only [*, go_sem]
 exact jc () h.e [some 0]
 try simp only [*, go_sem]
 exact jc () h.e [some 0]
 try simp only [*, go_sem]
 exact jc () h.e [some 0]
 try simp only [*, go_sem]
 exact jc () h.e [some 0]
 try simp only [*, go_sem]
 exact jc () h.e [some 0]
 cases h.e
 simp only [*, go_sem, mA, mS]
 cases h.e
 simp only [*, go_sem, mA, mS]
def reredosref_In (p0 : Int) (p1 : Int) (p2 : Int) : Option (Bool) := (withK (fun (b1_1 : Bool) => (some b1_1)) fun k2 => (if (decide (p0 ≥ p1)) = true then (k2 (decide (p0 ≤ p2))) else (k2 false)))
def F29 : VFn := ⟨15, (.seq (.reg [vo 6 (.mv (cb false))]) (.seq (.wk (.reg [vm 7 0, vm 8 1, bt 9 .geq 7 8, vm 10 9, gt 11 10 (.mv (.t 0)), gt 12 10 (.mv (.t 2)), gt 13 10 (.bin .i .leq (.t 11) (.t 12)), vo 14 (.pick (.t 10) (.t 13) (cb false)), vm 6 14])) .ret)), [.t 6]⟩
theorem low29 : lowF Tryd.prog 29 = some F29.strip := by kernel_rfl
theorem fok29 : fOk Tryd.prog 29 = true := by kernel_rfl
theorem reredosref_In_ok (p0 : Int) (p1 : Int) (p2 : Int) (r : Bool) (h : reredosref_In p0 p1 p2 = some r) : FnRO Tryd.prog G 29 [.one (.d (.i .i64 p0)), .one (.d (.i .i64 p1)), .one (.d (.i .i64 p2))] (fun rs => rs = [.one (.b r)]) := by
 refine FnRO.of' low29 fok29 (by simp [F29]) ?_
 rw [reredosref_In] at h
 replace h := Hd.mk h
 simp only [F29, go_sem]
 try simp only [*, go_sem]
 refine jn1 h (fun b1_1 => [zB 6 b1_1]) (fun b1_1 => []) (fun k2 h => ?_) (fun b1_1 h => ?_)
 refine oi h (fun hb3 h => ?_) (fun hb3 h => ?_)
 try simp only [*, go_sem]
 exact jc (decide (p0 ≤ p2)) h.e []
 try simp only [*, go_sem]
 exact jc (false) h.e []
 cases h.e
 simp only [*, go_sem, mA, mS]
def reredosref_ConfigFault_L2 (p0 : Config) (a8_1 : Nat) (x12 : Label) (k18 : Option (Int)) : Nat → Nat → Option (Int)
 | 0, _ => none
 | n20 + 1, a19_1 => (if (decide (a19_1 < a8_1)) = true then (Option.bind (p0.Labels[a19_1]?) fun x22 => (if ((x22.Level == x12.Level) && (x22.Cats == x12.Cats)) = true then (some 7) else (reredosref_ConfigFault_L2 p0 a8_1 x12 k18 n20 (a19_1 + 1)))) else k18)
def reredosref_ConfigFault_L1 (p0 : Config) (k7 : Option (Int)) : Nat → Nat → Option (Int)
 | 0, _ => none
 | n9 + 1, a8_1 => (if (decide (a8_1 < p0.Labels.length)) = true then (Option.bind (p0.Labels[a8_1]?) fun x12 => (Option.bind (reredosref_In x12.Level 0 9) fun v13 => (if (!v13) = true then (some 2) else (Option.bind (reredosref_In x12.Cats 0 15) fun v15 => (if (!v15) = true then (some 2) else (withK (reredosref_ConfigFault_L1 p0 k7 n9 (a8_1 + 1)) fun k18 => (reredosref_ConfigFault_L2 p0 a8_1 x12 k18 (a8_1 + 1) 0))))))) else k7)
def reredosref_ConfigFault (p0 : Config) : Option (Int) := (Option.bind (reredosref_In p0.Sites 1 4) fun v1 => (if (!v1) = true then (some 2) else (Option.bind (reredosref_In ((p0.Labels.length : Nat) : Int) 1 6) fun v4 => (if (!v4) = true then (some 1) else (withK (Option.bind (reredosref_In p0.Patience 1 1048576) fun v26 => (if (!v26) = true then (some 2) else (some 0))) fun k7 => (reredosref_ConfigFault_L1 p0 k7 (p0.Labels.length + 1) 0))))))
def F21 : VFn := ⟨59, (.seq (.reg [vo 1 (.boxk 3 (.t 0)), mi 2 0]) (.seq (.seq (.reg [vf 5 0 1, vs 6 5, vo 7 (.call 29 [(.t 6), (ci 1), (ci 4)]), nt 8 7]) (.cond (.t 8) (.seq (.reg [mi 2 2]) .ret) .skip)) (.seq (.seq (.reg [vf 9 1 1, vs 10 9, ln 11 10, vo 12 (.call 29 [(.t 11), (ci 1), (ci 6)]), nt 13 12]) (.cond (.t 13) (.seq (.reg [mi 2 1]) .ret) .skip)) (.seq (.seq (.reg [mi 3 0]) (.wk (.block 0 (.loop (.seq (.seq (.reg [vm 14 3, vf 15 1 1, vs 16 15, ln 17 16, bt 18 .lss 14 17]) (.cond (.t 18) .skip (.exit 0))) (.seq (.block 1 (.seq (.seq (.reg [vf 21 1 1, vs 22 21, vm 23 3, xa 24 2 22 23, vf 25 0 24, vs 26 25, vo 27 (.call 29 [(.t 26), (ci 0), (ci 9)]), nt 28 27, vm 29 28, gf 30 29 (.fa 1 (.t 1)), gf 31 29 (.ld false 1 (.t 30)), gf 32 29 (.mv (.t 3)), gf 33 29 (.ia 2 (.t 31) (.t 32)), gf 34 29 (.fa 1 (.t 33)), gf 35 29 (.ld false 1 (.t 34)), gf 36 29 (.call 29 [(.t 35), (ci 0), (ci 15)]), gf 37 29 (.un .not (.t 36)), vo 38 (.pick (.t 29) (cb true) (.t 37))]) (.cond (.t 38) (.seq (.reg [mi 2 2]) .ret) .skip)) (.seq (.reg [mi 4 0]) (.wk (.block 2 (.loop (.seq (.seq (.reg [vm 39 4, vm 40 3, bt 41 .lss 39 40]) (.cond (.t 41) .skip (.exit 2))) (.seq (.block 3 (.seq (.draw [vd (vf 44 1 1) 0, vd (vs 45 44) 1, vd (vm 46 4) 0, vd (xa 47 2 45 46) 7, vd (vl 48 2 47) 15, vd (vf 49 1 1) 0, vd (vs 50 49) 32, vd (vm 51 3) 0, vd (xa 52 2 50 51) 224, vd (vl 53 2 52) 480, vd (vo 54 (.eqs false [.i, .i] (.t 48) (.t 53))) 1023]) (.cond (.t 54) (.seq (.reg [mi 2 7]) .ret) .skip))) (.reg [vm 42 4, bk 43 .add 42 1, vm 4 43]))))))))) (.reg [vm 19 3, bk 20 .add 19 1, vm 3 20]))))))) (.seq (.seq (.reg [vf 55 2 1, vs 56 55, vo 57 (.call 29 [(.t 56), (ci 1), (ci 1048576)]), nt 58 57]) (.cond (.t 58) (.seq (.reg [mi 2 2]) .ret) .skip)) (.seq (.reg [mi 2 0]) .ret)))))), [.t 2]⟩
theorem low21 : lowF Tryd.prog 21 = some F21.strip := by kernel_rfl
theorem fok21 : fOk Tryd.prog 21 = true := by kernel_rfl
theorem reredosref_ConfigFault_ok (p0 : Config) (r : Int) (h : reredosref_ConfigFault p0 = some r) : FnRO Tryd.prog G 21 [.agg p0.bx] (fun rs => rs = [.one (.i .i64 r)]) := by
 refine FnRO.of' low21 fok21 (by simp [F21]) ?_
 rw [reredosref_ConfigFault] at h
 replace h := Hd.mk h
 simp only [F21, go_sem]
 try simp only [*, go_sem]
 refine cr h (reredosref_In_ok G p0.Sites 1 4) (fun v1 h => ?_)
 refine oin h (fun hb2 hkhb2 h => ?_) (fun hb2 hkhb2 h => ?_)
 cases h.e
 simp only [*, go_sem, mA, mS]
 try simp only [*, go_sem]
 intro hl3
 try simp only [*, go_sem]
 refine cr h (reredosref_In_ok G ((p0.Labels.length : Nat) : Int) 1 6) (fun v4 h => ?_)
 refine oin h (fun hb5 hkhb5 h => ?_) (fun hb5 hkhb5 h => ?_)
 cases h.e
 simp only [*, go_sem, mA, mS]
 try simp only [*, go_sem]
 refine jn0 h ([zK 1 (Config.enc p0)]) ([]) (fun k7 h => ?_) (fun h => ?_)
 try simp only [*, go_sem]
 refine lp1 (reredosref_ConfigFault_L1 p0 k7) (fun a8_1 => [zK 1 (Config.enc p0), zI 3 ((a8_1 : Nat) : Int)]) (fun a8_1 => []) h [] [] (fun n9 a8_1 h => ?_) (by intros; rw [reredosref_ConfigFault_L1])
 rw [reredosref_ConfigFault_L1] at h
 try simp only [*, go_sem]
 intro hl10
 refine oi h (fun hb11 h => ?_) (fun hb11 h => ?_)
 have := of_decide_eq_true hb11
 refine obg h (fun x12 _ hkx12 h => ?_)
 try simp only [*, go_sem]
 refine cr h (reredosref_In_ok G x12.Level 0 9) (fun v13 h => ?_)
 refine oin h (fun hb14 hkhb14 h => ?_) (fun hb14 hkhb14 h => ?_)
 cases h.e
 simp only [*, go_sem, mA, mS]
 try simp only [*, go_sem]
 refine cr h (reredosref_In_ok G x12.Cats 0 15) (fun v15 h => ?_)
 refine oin h (fun hb16 hkhb16 h => ?_) (fun hb16 hkhb16 h => ?_)
 cases h.e
 simp only [*, go_sem, mA, mS]
 try simp only [*, go_sem]
 refine jn0 h ([zK 1 (Config.enc p0), zI 3 ((a8_1 : Nat) : Int), (30, .one (.p (.l 3 [(Config.enc p0)] 0 1))), zL 31 2 (p0.Labels.map Label.enc), zI 32 ((a8_1 : Nat) : Int), (33, .one (.p (.l 2 (p0.Labels.map Label.enc) a8_1 0))), (34, .one (.p (.l 2 (p0.Labels.map Label.enc) a8_1 1))), zI 35 x12.Cats, zB 36 true, zB 37 false]) ([]) (fun k18 h => ?_) (fun h => ?_)
 try simp only [*, go_sem]
 refine lp1 (reredosref_ConfigFault_L2 p0 a8_1 x12 k18) (fun a19_1 => [zK 1 (Config.enc p0), zI 3 ((a8_1 : Nat) : Int), zI 4 ((a19_1 : Nat) : Int), (30, .one (.p (.l 3 [(Config.enc p0)] 0 1))), zL 31 2 (p0.Labels.map Label.enc), zI 32 ((a8_1 : Nat) : Int), (33, .one (.p (.l 2 (p0.Labels.map Label.enc) a8_1 0))), (34, .one (.p (.l 2 (p0.Labels.map Label.enc) a8_1 1))), zI 35 x12.Cats, zB 36 true, zB 37 false]) (fun a19_1 => []) h [] [] (fun n20 a19_1 h => ?_) (by intros; rw [reredosref_ConfigFault_L2])
 rw [reredosref_ConfigFault_L2] at h
 refine oi h (fun hb21 h => ?_) (fun hb21 h => ?_)
 have := of_decide_eq_true hb21
 refine obg h (fun x22 _ hkx22 h => ?_)
 refine oi h (fun hb23 h => ?_) (fun hb23 h => ?_)
 try simp only [*, go_sem]
 cases h.e
 simp only [*, go_sem, mA, mS]
 try simp only [*, go_sem]
 have := wrap_succ_max hkx22 hl3
 try simp only [*, go_sem]
 exact lc (a19_1 + 1) h.e []
 try simp only [*, go_sem]
 exact jc () h.e []
 have := wrap_succ_max hkx12 hl3
 try simp only [*, go_sem]
 exact lc (a8_1 + 1) h.e []
 try simp only [*, go_sem]
 exact jc () h.e []
 try simp only [*, go_sem]
 refine cr h (reredosref_In_ok G p0.Patience 1 1048576) (fun v26 h => ?_)
 refine oin h (fun hb27 hkhb27 h => ?_) (fun hb27 hkhb27 h => ?_)
 cases h.e
 simp only [*, go_sem, mA, mS]
 cases h.e
 simp only [*, go_sem, mA, mS]
def reredosref_eye_stop (p0 : ReredosrefEye) (p1 : Int) : Option (ReredosrefEye) := (withK (fun (b1_1 : Int) => (some (ReredosrefEye.mk p0.b p0.at_ b1_1))) fun k2 => (if (p0.e == 0) = true then (k2 p1) else (k2 p0.e)))
def F45 : VFn := ⟨13, (.seq (.reg [vm 4 0, vo 5 (.nilchk (.t 4)), vf 6 2 5, vs 7 6, bk 8 .eql 7 0]) (.wk (.cond (.t 8) (.reg [vm 9 0, vm 10 1, vo 11 (.nilchk (.t 9)), vf 12 2 11, vu (.st 1 (.t 12) (.t 10))]) .skip))), []⟩
theorem low45 : lowF Tryd.prog 45 = some F45.strip := by kernel_rfl
theorem fok45 : fOk Tryd.prog 45 = true := by kernel_rfl
theorem reredosref_eye_stop_ok (p0 : ReredosrefEye) (p1 : Int) (r : ReredosrefEye) (h : reredosref_eye_stop p0 p1 = some r) : FnX Tryd.prog G 45 [ptrX, .one (.d (.i .i64 p1))] [.l 1 (p0.b.map encU8), .i .i64 p0.at_, .i .i64 p0.e] (fun c rs => c = [.l 1 (r.b.map encU8), .i .i64 r.at_, .i .i64 r.e] ∧ rs = []) := by
 refine FnX.of [true] low45 fok45 (by exact Nat.le_of_ble_eq_true rfl) (by exact Nat.le_of_ble_eq_true rfl) ?_
 rw [reredosref_eye_stop] at h
 replace h := Hd.mk h
 simp only [F45, go_sem]
 try simp only [*, go_sem]
 refine jn1 h (fun b1_1 => [zP 1000000 0]) (fun b1_1 => [ox [.d (.l 1 (p0.b.map encU8)), zi p0.at_, zi b1_1]]) (fun k2 h => ?_) (fun b1_1 h => ?_)
 refine oi h (fun hb3 h => ?_) (fun hb3 h => ?_)
 try simp only [*, go_sem]
 exact jc (p1) h.e [some 0]
 try simp only [*, go_sem]
 exact jc (p0.e) h.e [some 0]
 cases h.e
 try simp only [*, go_sem]
 refine etn [] ?_
 simp only [*, go_sem, mA, mS]
def reredosref_eye_num_L1 (p0 : ReredosrefEye) (p1 : Int) (k8 : Int → Int → Option (ReredosrefEye × Int)) : Nat → Int → Int → Int → Option (ReredosrefEye × Int)
 | 0, _, _, _ => none
 | n10 + 1, a9_1, a9_2, a9_3 => (if (decide (a9_2 < p1)) = true then (if 0 ≤ a9_3 then (Option.bind (p0.b[a9_3.toNat]?) fun x12 => (reredosref_eye_num_L1 p0 p1 k8 n10 (IntKind.i64.wrap (IntKind.i64.wrap (256 * a9_1) + IntKind.i64.wrap (x12))) (IntKind.i64.wrap (a9_2 + 1)) (IntKind.i64.wrap (a9_3 + 1)))) else none) else (k8 a9_1 a9_3))
def reredosref_eye_num (p0 : ReredosrefEye) (p1 : Int) : Option (ReredosrefEye × Int) := (if (p0.e == 5) = true then (Option.bind (reredosref_eye_stop p0 5) fun v2 => (some ((ReredosrefEye.mk v2.b ((v2.b.length : Nat) : Int) v2.e), 0))) else (if (decide (IntKind.i64.wrap (p0.at_ + p1) > ((p0.b.length : Nat) : Int))) = true then (Option.bind (reredosref_eye_stop p0 5) fun v5 => (some ((ReredosrefEye.mk v5.b ((v5.b.length : Nat) : Int) v5.e), 0))) else (withK (fun (b7_1 : Int) (b7_2 : Int) => (some ((ReredosrefEye.mk p0.b b7_2 p0.e), b7_1))) fun k8 => (reredosref_eye_num_L1 p0 p1 k8 ((p1).toNat + 1) 0 0 p0.at_))))
def F23 : VFn := ⟨63, (.seq (.reg [mi 4 0]) (.seq (.seq (.draw [vd (vm 7 0) 0, vd (vo 8 (.nilchk (.t 7))) 1, vd (vf 9 2 8) 3, vd (vs 10 9) 7, vd (bk 11 .eql 10 5) 15, vd (vm 12 11) 31, vd (gf 13 12 (.mv (.t 0))) 63, vd (gf 14 12 (.nilchk (.t 13))) 127, vd (gf 15 12 (.fa 1 (.t 14))) 255, vd (gf 16 12 (.ld false 1 (.t 15))) 511, vd (gf 17 12 (.mv (.t 1))) 63, vd (gf 18 12 (.bin .i .add (.t 16) (.t 17))) 2047, vd (gf 19 12 (.mv (.t 0))) 63, vd (gf 20 12 (.nilchk (.t 19))) 4159, vd (gf 21 12 (.fa 0 (.t 20))) 0x303f, vd (gf 22 12 (.ld false 1 (.t 21))) 0x703f, vd (gf 23 12 (.len (.t 22))) 0xf03f, vd (gf 24 12 (.bin .i .gtr (.t 18) (.t 23))) 0x1ffff, vd (vo 25 (.pick (.t 12) (cb true) (.t 24))) 0x3ffff]) (.cond (.t 25) (.seq (.reg [vm 26 0, vo 27 (.call 45 [(.t 26), (ci 5)])]) (.seq (.reg [vm 28 0, vm 29 0, vo 30 (.nilchk (.t 29)), vf 31 0 30, vs 32 31, ln 33 32, vo 34 (.nilchk (.t 28)), vf 35 1 34, vu (.st 1 (.t 35) (.t 33))]) (.seq (.reg [mi 4 0]) .ret))) .skip)) (.seq (.reg [mi 5 0]) (.seq (.seq (.reg [mi 6 0]) (.wk (.block 0 (.loop (.seq (.seq (.reg [vm 36 6, vm 37 1, bt 38 .lss 36 37]) (.cond (.t 38) .skip (.exit 0))) (.seq (.block 1 (.seq (.draw [vd (vm 41 5) 0, vd (vo 42 (.bin .i .mul (ci 256) (.t 41))) 1, vd (vm 43 0) 0, vd (vo 44 (.nilchk (.t 43))) 4, vd (vf 45 0 44) 12, vd (vs 46 45) 28, vd (vm 47 0) 0, vd (vo 48 (.nilchk (.t 47))) 64, vd (vf 49 1 48) 192, vd (vs 50 49) 448, vd (xa 51 1 46 50) 1020, vd (vs 52 51) 2044, vd (vo 53 (.cvi .i64 (.t 52))) 4092, vd (bt 54 .add 42 53) 8191, vd (vm 5 54) 0x3fff]) (.reg [vm 55 0, vo 56 (.nilchk (.t 55)), vf 57 1 56, vs 58 57, bk 59 .add 58 1, vo 60 (.nilchk (.t 55)), vf 61 1 60, vu (.st 1 (.t 61) (.t 59))]))) (.reg [vm 39 6, bk 40 .add 39 1, vm 6 40]))))))) (.seq (.reg [vm 62 5, vm 4 62]) .ret))))), [.t 4]⟩
theorem low23 : lowF Tryd.prog 23 = some F23.strip := by kernel_rfl
theorem fok23 : fOk Tryd.prog 23 = true := by kernel_rfl
theorem reredosref_eye_num_ok (p0 : ReredosrefEye) (p1 : Int) (r : ReredosrefEye × Int) (h : reredosref_eye_num p0 p1 = some r) : FnX Tryd.prog G 23 [ptrX, .one (.d (.i .i64 p1))] [.l 1 (p0.b.map encU8), .i .i64 p0.at_, .i .i64 p0.e] (fun c rs => c = [.l 1 (r.1.b.map encU8), .i .i64 r.1.at_, .i .i64 r.1.e] ∧ rs = [.one (.i .i64 r.2)]) := by
 refine FnX.of [true] low23 fok23 (by exact Nat.le_of_ble_eq_true rfl) (by exact Nat.le_of_ble_eq_true rfl) ?_
 rw [reredosref_eye_num] at h
 replace h := Hd.mk h
 simp only [F23, go_sem]
 refine oi h (fun hb1 h => ?_) (fun hb1 h => ?_)
 try simp only [*, go_sem]
 refine ct h 0 [] [true] [] (reredosref_eye_stop_ok G p0 5) (fun v2 h => ?_)
 try simp only [*, go_sem]
 intro hl3
 cases h.e
 try simp only [*, go_sem]
 refine eti [] ?_
 simp only [*, go_sem, mA, mS]
 refine oi h (fun hb4 h => ?_) (fun hb4 h => ?_)
 try simp only [*, go_sem]
 refine ct h 0 [] [true] [] (reredosref_eye_stop_ok G p0 5) (fun v5 h => ?_)
 try simp only [*, go_sem]
 intro hl6
 cases h.e
 try simp only [*, go_sem]
 refine eti [] ?_
 simp only [*, go_sem, mA, mS]
 try simp only [*, go_sem]
 refine jn2 h (fun b7_1 b7_2 => [zI 5 b7_1, zP 1000000 0]) (fun b7_1 b7_2 => [ox [.d (.l 1 (p0.b.map encU8)), zi b7_2, zi p0.e]]) (fun k8 h => ?_) (fun b7_1 b7_2 h => ?_)
 try simp only [*, go_sem]
 refine lp3 (reredosref_eye_num_L1 p0 p1 k8) (fun a9_1 a9_2 a9_3 => [zP 0 0, zI 1 p1, zI 5 a9_1, zI 6 a9_2, zP 1000000 0]) (fun a9_1 a9_2 a9_3 => [ox [.d (.l 1 (p0.b.map encU8)), zi a9_3, zi p0.e]]) h [] [some 0] (fun n10 a9_1 a9_2 a9_3 h => ?_) (by intros; rw [reredosref_eye_num_L1])
 rw [reredosref_eye_num_L1] at h
 refine oi h (fun hb11 h => ?_) (fun hb11 h => ?_)
 have := of_decide_eq_true hb11
 refine obn h (fun x12 _ _ _ _ h => ?_)
 try simp only [*, go_sem]
 exact lc (IntKind.i64.wrap (IntKind.i64.wrap (256 * a9_1) + IntKind.i64.wrap (x12)), IntKind.i64.wrap (a9_2 + 1), IntKind.i64.wrap (a9_3 + 1)) h.e [some 0]
 try simp only [*, go_sem]
 exact jc (a9_1, a9_3) h.e [some 0]
 cases h.e
 try simp only [*, go_sem]
 refine eti [] ?_
 simp only [*, go_sem, mA, mS]
def reredosref_eye_first (p0 : ReredosrefEye) (p1 : Int) : Option (ReredosrefEye × Int) := (Option.bind (reredosref_eye_num p0 1) fun v1 => (if (v1.1.e == 0) = true then (Option.bind (reredosref_In v1.2 1 p1) fun v3 => (withK (fun (b4_1 : List Int) (b4_2 : Int) (b4_3 : Int) => (if (b4_3 != 0) = true then (some ((ReredosrefEye.mk b4_1 b4_2 b4_3), 0)) else (some ((ReredosrefEye.mk b4_1 b4_2 b4_3), v1.2)))) fun k5 => (if (!v3) = true then (Option.bind (reredosref_eye_stop v1.1 3) fun v7 => (k5 v7.b v7.at_ v7.e)) else (k5 v1.1.b v1.1.at_ v1.1.e)))) else (withK (if (v1.1.e != 0) = true then (some (v1.1, 0)) else (some (v1.1, v1.2))) fun k10 => k10)))
def F22 : VFn := ⟨27, (.seq (.reg [mi 4 0]) (.seq (.reg [vm 6 0, vo 7 (.call 23 [(.t 6), (ci 1)]), vm 5 7]) (.seq (.seq (.reg [vm 8 0, vo 9 (.nilchk (.t 8)), vf 10 2 9, vs 11 10, bk 12 .eql 11 0, vm 13 12, gt 14 13 (.mv (.t 5)), gt 15 13 (.mv (.t 1)), gt 16 13 (.call 29 [(.t 14), (ci 1), (.t 15)]), gt 17 13 (.un .not (.t 16)), vo 18 (.pick (.t 13) (.t 17) (cb false))]) (.wk (.cond (.t 18) (.reg [vm 19 0, vo 20 (.call 45 [(.t 19), (ci 3)])]) .skip))) (.seq (.seq (.reg [vm 21 0, vo 22 (.nilchk (.t 21)), vf 23 2 22, vs 24 23, bk 25 .neq 24 0]) (.cond (.t 25) (.seq (.reg [mi 4 0]) .ret) .skip)) (.seq (.reg [vm 26 5, vm 4 26]) .ret))))), [.t 4]⟩
theorem low22 : lowF Tryd.prog 22 = some F22.strip := by kernel_rfl
theorem fok22 : fOk Tryd.prog 22 = true := by kernel_rfl
theorem reredosref_eye_first_ok (p0 : ReredosrefEye) (p1 : Int) (r : ReredosrefEye × Int) (h : reredosref_eye_first p0 p1 = some r) : FnX Tryd.prog G 22 [ptrX, .one (.d (.i .i64 p1))] [.l 1 (p0.b.map encU8), .i .i64 p0.at_, .i .i64 p0.e] (fun c rs => c = [.l 1 (r.1.b.map encU8), .i .i64 r.1.at_, .i .i64 r.1.e] ∧ rs = [.one (.i .i64 r.2)]) := by
 refine FnX.of [true] low22 fok22 (by exact Nat.le_of_ble_eq_true rfl) (by exact Nat.le_of_ble_eq_true rfl) ?_
 rw [reredosref_eye_first] at h
 replace h := Hd.mk h
 simp only [F22, go_sem]
 try simp only [*, go_sem]
 refine ct h 0 [] [true] [] (reredosref_eye_num_ok G p0 1) (fun v1 h => ?_)
 refine oi h (fun hb2 h => ?_) (fun hb2 h => ?_)
 try simp only [*, go_sem]
 refine cr h (reredosref_In_ok G v1.2 1 p1) (fun v3 h => ?_)
 try simp only [*, go_sem]
 refine jn3 h (fun b4_1 b4_2 b4_3 => [zP 0 0, zI 5 v1.2, zP 1000000 0]) (fun b4_1 b4_2 b4_3 => [ox [.d (.l 1 (b4_1.map encU8)), zi b4_2, zi b4_3]]) (fun k5 h => ?_) (fun b4_1 b4_2 b4_3 h => ?_)
 refine oin h (fun hb6 hkhb6 h => ?_) (fun hb6 hkhb6 h => ?_)
 try simp only [*, go_sem]
 refine ct h 0 [] [true] [] (reredosref_eye_stop_ok G v1.1 3) (fun v7 h => ?_)
 try simp only [*, go_sem]
 exact jc (v7.b, v7.at_, v7.e) h.e [some 0]
 try simp only [*, go_sem]
 exact jc (v1.1.b, v1.1.at_, v1.1.e) h.e [some 0]
 refine oi h (fun hb8 h => ?_) (fun hb8 h => ?_)
 cases h.e
 try simp only [*, go_sem]
 refine eti [] ?_
 simp only [*, go_sem, mA, mS]
 cases h.e
 try simp only [*, go_sem]
 refine eti [] ?_
 simp only [*, go_sem, mA, mS]
 try simp only [*, go_sem]
 refine jn0 h ([zP 0 0, zI 5 v1.2, zP 1000000 0]) ([ox v1.1.bx]) (fun k10 h => ?_) (fun h => ?_)
 try simp only [*, go_sem]
 exact jc () h.e [some 0]
 refine oi h (fun hb11 h => ?_) (fun hb11 h => ?_)
 cases h.e
 try simp only [*, go_sem]
 refine eti [] ?_
 simp only [*, go_sem, mA, mS]
 cases h.e
 try simp only [*, go_sem]
 refine eti [] ?_
 simp only [*, go_sem, mA, mS]
def reredosref_eye_who (p0 : ReredosrefEye) : Option (ReredosrefEye × Txn) := (Option.bind (reredosref_eye_num p0 1) fun v1 => (Option.bind (reredosref_eye_num v1.1 3) fun v2 => (some (v2.1, (Txn.mk v1.2 v2.2)))))
def F24 : VFn := ⟨12, (.seq (.reg [vo 2 (.alloc [(zi 0), (zi 0)])]) (.seq (.reg [vm 5 0, vo 6 (.call 23 [(.t 5), (ci 1)]), vm 3 6]) (.seq (.reg [vm 7 0, vo 8 (.call 23 [(.t 7), (ci 3)]), vm 4 8]) (.seq (.reg [vm 9 3, vm 10 4, vo 11 (.build [(zi 0), (zi 0)] [(0, 1, (.t 9)), (1, 1, (.t 10))]), vu (.st 2 (.t 2) (.t 11))]) .ret)))), [.cell 2 true 2]⟩
theorem low24 : lowF Tryd.prog 24 = some F24.strip := by kernel_rfl
theorem fok24 : fOk Tryd.prog 24 = true := by kernel_rfl
theorem reredosref_eye_who_ok (p0 : ReredosrefEye) (r : ReredosrefEye × Txn) (h : reredosref_eye_who p0 = some r) : FnX Tryd.prog G 24 [ptrX] [.l 1 (p0.b.map encU8), .i .i64 p0.at_, .i .i64 p0.e] (fun c rs => c = [.l 1 (r.1.b.map encU8), .i .i64 r.1.at_, .i .i64 r.1.e] ∧ rs = [.agg (r.2.encO)]) := by
 refine FnX.of [true] low24 fok24 (by exact Nat.le_of_ble_eq_true rfl) (by exact Nat.le_of_ble_eq_true rfl) ?_
 rw [reredosref_eye_who] at h
 replace h := Hd.mk h
 simp only [F24, go_sem]
 try simp only [*, go_sem]
 refine ct h 0 [] [true] [] (reredosref_eye_num_ok G p0 1) (fun v1 h => ?_)
 try simp only [*, go_sem]
 refine ct h 0 [] [true] [] (reredosref_eye_num_ok G v1.1 3) (fun v2 h => ?_)
 cases h.e
 try simp only [*, go_sem]
 refine eti [] ?_
 simp only [*, go_sem, mA, mS]
def reredosref_eye_yes (p0 : ReredosrefEye) : Option (ReredosrefEye × Bool) := (Option.bind (reredosref_eye_num p0 1) fun v1 => (withK (fun (b2_1 : List Int) (b2_2 : Int) (b2_3 : Int) => (some ((ReredosrefEye.mk b2_1 b2_2 b2_3), v1.2 == 1))) fun k3 => (if (decide (v1.2 > 1)) = true then (Option.bind (reredosref_eye_stop v1.1 4) fun v5 => (k3 v5.b v5.at_ v5.e)) else (k3 v1.1.b v1.1.at_ v1.1.e))))
def F25 : VFn := ⟨12, (.seq (.reg [vo 2 (.mv (cb false))]) (.seq (.reg [vm 4 0, vo 5 (.call 23 [(.t 4), (ci 1)]), vm 3 5]) (.seq (.seq (.reg [vm 6 3, bk 7 .gtr 6 1]) (.wk (.cond (.t 7) (.reg [vm 8 0, vo 9 (.call 45 [(.t 8), (ci 4)])]) .skip))) (.seq (.reg [vm 10 3, bk 11 .eql 10 1, vm 2 11]) .ret)))), [.t 2]⟩
theorem low25 : lowF Tryd.prog 25 = some F25.strip := by kernel_rfl
theorem fok25 : fOk Tryd.prog 25 = true := by kernel_rfl
theorem reredosref_eye_yes_ok (p0 : ReredosrefEye) (r : ReredosrefEye × Bool) (h : reredosref_eye_yes p0 = some r) : FnX Tryd.prog G 25 [ptrX] [.l 1 (p0.b.map encU8), .i .i64 p0.at_, .i .i64 p0.e] (fun c rs => c = [.l 1 (r.1.b.map encU8), .i .i64 r.1.at_, .i .i64 r.1.e] ∧ rs = [.one (.b r.2)]) := by
 refine FnX.of [true] low25 fok25 (by exact Nat.le_of_ble_eq_true rfl) (by exact Nat.le_of_ble_eq_true rfl) ?_
 rw [reredosref_eye_yes] at h
 replace h := Hd.mk h
 simp only [F25, go_sem]
 try simp only [*, go_sem]
 refine ct h 0 [] [true] [] (reredosref_eye_num_ok G p0 1) (fun v1 h => ?_)
 try simp only [*, go_sem]
 refine jn3 h (fun b2_1 b2_2 b2_3 => [zI 3 v1.2, zP 1000000 0]) (fun b2_1 b2_2 b2_3 => [ox [.d (.l 1 (b2_1.map encU8)), zi b2_2, zi b2_3]]) (fun k3 h => ?_) (fun b2_1 b2_2 b2_3 h => ?_)
 refine oi h (fun hb4 h => ?_) (fun hb4 h => ?_)
 try simp only [*, go_sem]
 refine ct h 0 [] [true] [] (reredosref_eye_stop_ok G v1.1 4) (fun v5 h => ?_)
 try simp only [*, go_sem]
 exact jc (v5.b, v5.at_, v5.e) h.e [some 0]
 try simp only [*, go_sem]
 exact jc (v1.1.b, v1.1.at_, v1.1.e) h.e [some 0]
 cases h.e
 try simp only [*, go_sem]
 refine eti [] ?_
 simp only [*, go_sem, mA, mS]
def reredosref_txnMay (p0 : Config) (p1 : Txn) : Option (Bool) := (withK (fun (b1_1 : Bool) => (some b1_1)) fun k2 => (Option.bind (reredosref_In p1.Site 0 (IntKind.i64.wrap (p0.Sites - 1))) fun v3 => (if v3 = true then (Option.bind (reredosref_In p1.N 1 1048576) fun v5 => (k2 v5)) else (k2 false))))
def F46 : VFn := ⟨16, (.seq (.reg [vo 2 (.box 3 (.t 0)), vo 3 (.boxk 2 (.t 1)), vo 4 (.mv (cb false))]) (.seq (.wk (.reg [vf 5 0 3, vs 6 5, vf 7 0 2, vs 8 7, bk 9 .sub 8 1, vo 10 (.call 29 [(.t 6), (ci 0), (.t 9)]), vm 11 10, gt 12 11 (.fa 1 (.t 3)), gt 13 11 (.ld false 1 (.t 12)), gt 14 11 (.call 29 [(.t 13), (ci 1), (ci 1048576)]), vo 15 (.pick (.t 11) (.t 14) (cb false)), vm 4 15])) .ret)), [.t 4]⟩
theorem low46 : lowF Tryd.prog 46 = some F46.strip := by kernel_rfl
theorem fok46 : fOk Tryd.prog 46 = true := by kernel_rfl
theorem reredosref_txnMay_ok (p0 : Config) (p1 : Txn) (r : Bool) (h : reredosref_txnMay p0 p1 = some r) : FnRO Tryd.prog G 46 [.agg p0.bx, .agg p1.bx] (fun rs => rs = [.one (.b r)]) := by
 refine FnRO.of' low46 fok46 (by simp [F46]) ?_
 rw [reredosref_txnMay] at h
 replace h := Hd.mk h
 simp only [F46, go_sem]
 try simp only [*, go_sem]
 refine jn1 h (fun b1_1 => [zB 4 b1_1]) (fun b1_1 => []) (fun k2 h => ?_) (fun b1_1 h => ?_)
 try simp only [*, go_sem]
 refine cr h (reredosref_In_ok G p1.Site 0 (IntKind.i64.wrap (p0.Sites - 1))) (fun v3 h => ?_)
 refine oi h (fun hb4 h => ?_) (fun hb4 h => ?_)
 try simp only [*, go_sem]
 refine cr h (reredosref_In_ok G p1.N 1 1048576) (fun v5 h => ?_)
 try simp only [*, go_sem]
 exact jc (v5) h.e []
 try simp only [*, go_sem]
 exact jc (false) h.e []
 cases h.e
 simp only [*, go_sem, mA, mS]
def reredosref_labelMay (p0 : Config) (p1 : Int) : Option (Bool) := (Option.bind (reredosref_In p1 0 (IntKind.i64.wrap (((p0.Labels.length : Nat) : Int) - 1))) fun v2 => (some v2))
def F47 : VFn := ⟨11, (.seq (.reg [vo 2 (.box 3 (.t 0)), vo 4 (.mv (cb false))]) (.seq (.reg [vm 5 1, vf 6 1 2, vs 7 6, ln 8 7, bk 9 .sub 8 1, vo 10 (.call 29 [(.t 5), (ci 0), (.t 9)]), vm 4 10]) .ret)), [.t 4]⟩
theorem low47 : lowF Tryd.prog 47 = some F47.strip := by kernel_rfl
theorem fok47 : fOk Tryd.prog 47 = true := by kernel_rfl
theorem reredosref_labelMay_ok (p0 : Config) (p1 : Int) (r : Bool) (h : reredosref_labelMay p0 p1 = some r) : FnRO Tryd.prog G 47 [.agg p0.bx, .one (.d (.i .i64 p1))] (fun rs => rs = [.one (.b r)]) := by
 refine FnRO.of' low47 fok47 (by simp [F47]) ?_
 rw [reredosref_labelMay] at h
 replace h := Hd.mk h
 simp only [F47, go_sem]
 try simp only [*, go_sem]
 intro hl1
 try simp only [*, go_sem]
 refine cr h (reredosref_In_ok G p1 0 (IntKind.i64.wrap (((p0.Labels.length : Nat) : Int) - 1))) (fun v2 h => ?_)
 cases h.e
 simp only [*, go_sem, mA, mS]
def reredosref_MessageFault (p0 : Config) (p1 : Message) : Option (Int) := (Option.bind (reredosref_ConfigFault p0) fun v1 => (if (v1 != 0) = true then (some v1) else (Option.bind (reredosref_In p1.Kind 1 9) fun v3 => (if (!v3) = true then (some 3) else (Option.bind (reredosref_In p1.From 0 (IntKind.i64.wrap (p0.Sites - 1))) fun v5 => (if (!v5) = true then (some 2) else (Option.bind (reredosref_In p1.To 0 (IntKind.i64.wrap (p0.Sites - 1))) fun v7 => (if (!v7) = true then (some 2) else (Option.bind (reredosref_txnMay p0 p1.Txn) fun v9 => (if (!v9) = true then (some 2) else (Option.bind (reredosref_labelMay p0 p1.Label) fun v11 => (if (!v11) = true then (some 2) else (Option.bind (reredosref_In p1.Key 0 7) fun v13 => (if (!v13) = true then (some 2) else (Option.bind (reredosref_In p1.Value 0 1073741824) fun v15 => (if (!v15) = true then (some 2) else (Option.bind (reredosref_In p1.Version 0 1048576) fun v17 => (if (!v17) = true then (some 2) else (Option.bind (reredosref_In p1.Ask 0 1048576) fun v19 => (if (!v19) = true then (some 2) else (if (p1.Code != 0) = true then (if (p1.Code != 11) = true then (if (p1.Code != 8) = true then (some 2) else (withK (fun (b24_1 : Int) (b24_2 : Int) (b24_3 : Int) (b24_4 : Int) (b24_5 : Int) (b24_6 : Bool) (b24_7 : Int) => (if (!((b24_1 == p1.Label) && ((b24_2 == p1.Key) && ((b24_3 == p1.Value) && ((b24_4 == p1.Version) && ((b24_5 == p1.Ask) && ((b24_6 == p1.Yes) && (b24_7 == p1.Code)))))))) = true then (some 4) else (some 0))) fun k25 => (if (p1.Kind == 1) = true then (k25 p1.Label p1.Key 0 0 p1.Ask false 0) else (withK (fun (b27_1 : Int) (b27_2 : Int) (b27_3 : Int) (b27_4 : Int) (b27_5 : Int) (b27_6 : Bool) (b27_7 : Int) => (k25 b27_1 b27_2 b27_3 b27_4 b27_5 b27_6 b27_7)) fun k28 => (if (p1.Kind == 2) = true then (k28 0 p1.Key p1.Value 0 p1.Ask false 0) else (withK (fun (b30_1 : Int) (b30_2 : Int) (b30_3 : Int) (b30_4 : Int) (b30_5 : Int) (b30_6 : Bool) (b30_7 : Int) => (k28 b30_1 b30_2 b30_3 b30_4 b30_5 b30_6 b30_7)) fun k31 => (if (p1.Kind == 5) = true then (withK (fun (b33_1 : Int) (b33_2 : Int) => (k31 p1.Label p1.Key b33_1 b33_2 p1.Ask false p1.Code)) fun k34 => (if (p1.Code == 0) = true then (k34 p1.Value p1.Version) else (k34 0 0))) else (withK (fun (b36_1 : Int) (b36_2 : Int) (b36_3 : Int) (b36_4 : Int) (b36_5 : Bool) (b36_6 : Int) => (k31 b36_1 b36_2 0 b36_3 b36_4 b36_5 b36_6)) fun k37 => (if (p1.Kind == 6) = true then (k37 0 p1.Key 0 p1.Ask false p1.Code) else (withK (fun (b39_1 : Int) (b39_2 : Int) (b39_3 : Int) (b39_4 : Bool) => (k37 b39_1 b39_2 b39_3 0 b39_4 0)) fun k40 => (if (p1.Kind == 4) = true then (k40 0 0 0 p1.Yes) else (withK (fun (b42_1 : Int) (b42_2 : Int) (b42_3 : Int) (b42_4 : Bool) => (k40 b42_1 b42_2 b42_3 b42_4)) fun k43 => (if (p1.Kind == 3) = true then (k43 p1.Label p1.Key p1.Version false) else (withK (fun (b45_1 : Int) (b45_2 : Int) (b45_3 : Int) (b45_4 : Bool) => (k43 b45_1 b45_2 b45_3 b45_4)) fun k46 => (if (p1.Kind == 7) = true then (k46 p1.Label p1.Key p1.Version p1.Yes) else (k46 0 0 0 false)))))))))))))))) else (withK (fun (b49_1 : Int) (b49_2 : Int) (b49_3 : Int) (b49_4 : Int) (b49_5 : Int) (b49_6 : Bool) (b49_7 : Int) => (if (!((b49_1 == p1.Label) && ((b49_2 == p1.Key) && ((b49_3 == p1.Value) && ((b49_4 == p1.Version) && ((b49_5 == p1.Ask) && ((b49_6 == p1.Yes) && (b49_7 == p1.Code)))))))) = true then (some 4) else (some 0))) fun k50 => (if (p1.Kind == 1) = true then (k50 p1.Label p1.Key 0 0 p1.Ask false 0) else (withK (fun (b52_1 : Int) (b52_2 : Int) (b52_3 : Int) (b52_4 : Int) (b52_5 : Int) (b52_6 : Bool) (b52_7 : Int) => (k50 b52_1 b52_2 b52_3 b52_4 b52_5 b52_6 b52_7)) fun k53 => (if (p1.Kind == 2) = true then (k53 0 p1.Key p1.Value 0 p1.Ask false 0) else (withK (fun (b55_1 : Int) (b55_2 : Int) (b55_3 : Int) (b55_4 : Int) (b55_5 : Int) (b55_6 : Bool) (b55_7 : Int) => (k53 b55_1 b55_2 b55_3 b55_4 b55_5 b55_6 b55_7)) fun k56 => (if (p1.Kind == 5) = true then (withK (fun (b58_1 : Int) (b58_2 : Int) => (k56 p1.Label p1.Key b58_1 b58_2 p1.Ask false p1.Code)) fun k59 => (if (p1.Code == 0) = true then (k59 p1.Value p1.Version) else (k59 0 0))) else (withK (fun (b61_1 : Int) (b61_2 : Int) (b61_3 : Int) (b61_4 : Int) (b61_5 : Bool) (b61_6 : Int) => (k56 b61_1 b61_2 0 b61_3 b61_4 b61_5 b61_6)) fun k62 => (if (p1.Kind == 6) = true then (k62 0 p1.Key 0 p1.Ask false p1.Code) else (withK (fun (b64_1 : Int) (b64_2 : Int) (b64_3 : Int) (b64_4 : Bool) => (k62 b64_1 b64_2 b64_3 0 b64_4 0)) fun k65 => (if (p1.Kind == 4) = true then (k65 0 0 0 p1.Yes) else (withK (fun (b67_1 : Int) (b67_2 : Int) (b67_3 : Int) (b67_4 : Bool) => (k65 b67_1 b67_2 b67_3 b67_4)) fun k68 => (if (p1.Kind == 3) = true then (k68 p1.Label p1.Key p1.Version false) else (withK (fun (b70_1 : Int) (b70_2 : Int) (b70_3 : Int) (b70_4 : Bool) => (k68 b70_1 b70_2 b70_3 b70_4)) fun k71 => (if (p1.Kind == 7) = true then (k71 p1.Label p1.Key p1.Version p1.Yes) else (k71 0 0 0 false)))))))))))))))) else (withK (fun (b74_1 : Int) (b74_2 : Int) (b74_3 : Int) (b74_4 : Int) (b74_5 : Int) (b74_6 : Bool) (b74_7 : Int) => (if (!((b74_1 == p1.Label) && ((b74_2 == p1.Key) && ((b74_3 == p1.Value) && ((b74_4 == p1.Version) && ((b74_5 == p1.Ask) && ((b74_6 == p1.Yes) && (b74_7 == p1.Code)))))))) = true then (some 4) else (some 0))) fun k75 => (if (p1.Kind == 1) = true then (k75 p1.Label p1.Key 0 0 p1.Ask false 0) else (withK (fun (b77_1 : Int) (b77_2 : Int) (b77_3 : Int) (b77_4 : Int) (b77_5 : Int) (b77_6 : Bool) (b77_7 : Int) => (k75 b77_1 b77_2 b77_3 b77_4 b77_5 b77_6 b77_7)) fun k78 => (if (p1.Kind == 2) = true then (k78 0 p1.Key p1.Value 0 p1.Ask false 0) else (withK (fun (b80_1 : Int) (b80_2 : Int) (b80_3 : Int) (b80_4 : Int) (b80_5 : Int) (b80_6 : Bool) (b80_7 : Int) => (k78 b80_1 b80_2 b80_3 b80_4 b80_5 b80_6 b80_7)) fun k81 => (if (p1.Kind == 5) = true then (withK (fun (b83_1 : Int) (b83_2 : Int) => (k81 p1.Label p1.Key b83_1 b83_2 p1.Ask false p1.Code)) fun k84 => (if (p1.Code == 0) = true then (k84 p1.Value p1.Version) else (k84 0 0))) else (withK (fun (b86_1 : Int) (b86_2 : Int) (b86_3 : Int) (b86_4 : Int) (b86_5 : Bool) (b86_6 : Int) => (k81 b86_1 b86_2 0 b86_3 b86_4 b86_5 b86_6)) fun k87 => (if (p1.Kind == 6) = true then (k87 0 p1.Key 0 p1.Ask false p1.Code) else (withK (fun (b89_1 : Int) (b89_2 : Int) (b89_3 : Int) (b89_4 : Bool) => (k87 b89_1 b89_2 b89_3 0 b89_4 0)) fun k90 => (if (p1.Kind == 4) = true then (k90 0 0 0 p1.Yes) else (withK (fun (b92_1 : Int) (b92_2 : Int) (b92_3 : Int) (b92_4 : Bool) => (k90 b92_1 b92_2 b92_3 b92_4)) fun k93 => (if (p1.Kind == 3) = true then (k93 p1.Label p1.Key p1.Version false) else (withK (fun (b95_1 : Int) (b95_2 : Int) (b95_3 : Int) (b95_4 : Bool) => (k93 b95_1 b95_2 b95_3 b95_4)) fun k96 => (if (p1.Kind == 7) = true then (k96 p1.Label p1.Key p1.Version p1.Yes) else (k96 0 0 0 false))))))))))))))))))))))))))))))))))))
def F26 : VFn := ⟨183, (.seq (.reg [vo 2 (.boxk 3 (.t 0)), vo 3 (.boxk 12 (.t 1)), mi 4 0]) (.seq (.reg [vl 7 3 2, vo 8 (.call 21 [(.t 7)]), vm 5 8]) (.seq (.seq (.reg [vm 9 5, bk 10 .neq 9 0]) (.cond (.t 10) (.seq (.reg [vm 11 5, vm 4 11]) .ret) .skip)) (.seq (.seq (.reg [vf 12 0 3, vs 13 12, vo 14 (.call 29 [(.t 13), (ci 1), (ci 9)]), nt 15 14]) (.cond (.t 15) (.seq (.reg [mi 4 3]) .ret) .skip)) (.seq (.seq (.reg [vf 16 1 3, vs 17 16, vf 18 0 2, vs 19 18, bk 20 .sub 19 1, vo 21 (.call 29 [(.t 17), (ci 0), (.t 20)]), nt 22 21, vm 23 22, gf 24 23 (.fa 2 (.t 3)), gf 25 23 (.ld false 1 (.t 24)), gf 26 23 (.fa 0 (.t 2)), gf 27 23 (.ld false 1 (.t 26)), gf 28 23 (.bin .i .sub (.t 27) (ci 1)), gf 29 23 (.call 29 [(.t 25), (ci 0), (.t 28)]), gf 30 23 (.un .not (.t 29)), vo 31 (.pick (.t 23) (cb true) (.t 30)), vm 32 31, gf 33 32 (.ld true 3 (.t 2)), gf 34 32 (.fa 3 (.t 3)), gf 35 32 (.ld true 2 (.t 34)), gf 36 32 (.call 46 [(.t 33), (.t 35)]), gf 37 32 (.un .not (.t 36)), vo 38 (.pick (.t 32) (cb true) (.t 37)), vm 39 38, gf 40 39 (.ld true 3 (.t 2)), gf 41 39 (.fa 5 (.t 3)), gf 42 39 (.ld false 1 (.t 41)), gf 43 39 (.call 47 [(.t 40), (.t 42)]), gf 44 39 (.un .not (.t 43)), vo 45 (.pick (.t 39) (cb true) (.t 44)), vm 46 45, gf 47 46 (.fa 6 (.t 3)), gf 48 46 (.ld false 1 (.t 47)), gf 49 46 (.call 29 [(.t 48), (ci 0), (ci 7)]), gf 50 46 (.un .not (.t 49)), vo 51 (.pick (.t 46) (cb true) (.t 50)), vm 52 51, gf 53 52 (.fa 7 (.t 3)), gf 54 52 (.ld false 1 (.t 53)), gf 55 52 (.call 29 [(.t 54), (ci 0), (ci 1073741824)]), gf 56 52 (.un .not (.t 55)), vo 57 (.pick (.t 52) (cb true) (.t 56)), vm 58 57, gf 59 58 (.fa 8 (.t 3)), gf 60 58 (.ld false 1 (.t 59)), gf 61 58 (.call 29 [(.t 60), (ci 0), (ci 1048576)]), gf 62 58 (.un .not (.t 61)), vo 63 (.pick (.t 58) (cb true) (.t 62)), vm 64 63, gf 65 64 (.fa 9 (.t 3)), gf 66 64 (.ld false 1 (.t 65)), gf 67 64 (.call 29 [(.t 66), (ci 0), (ci 1048576)]), gf 68 64 (.un .not (.t 67)), vo 69 (.pick (.t 64) (cb true) (.t 68))]) (.cond (.t 69) (.seq (.reg [mi 4 2]) .ret) .skip)) (.seq (.seq (.reg [vf 70 11 3, vs 71 70, bk 72 .neq 71 0, vm 73 72, gt 74 73 (.fa 11 (.t 3)), gt 75 73 (.ld false 1 (.t 74)), gt 76 73 (.bin .i .neq (.t 75) (ci 11)), vo 77 (.pick (.t 73) (.t 76) (cb false)), vm 78 77, gt 79 78 (.fa 11 (.t 3)), gt 80 78 (.ld false 1 (.t 79)), gt 81 78 (.bin .i .neq (.t 80) (ci 8)), vo 82 (.pick (.t 78) (.t 81) (cb false))]) (.cond (.t 82) (.seq (.reg [mi 4 2]) .ret) .skip)) (.seq (.reg [vf 83 0 3, vs 84 83, vf 85 1 3, vs 86 85, vf 87 2 3, vs 88 87, vf 89 3 3, vl 90 2 89, vo 91 (.build [(zi 0), (zi 0), (zi 0), (zi 0), (zi 0), (zi 0), (zi 0), (zi 0), (zi 0), (zi 0), (.d (.b false)), (zi 0)] [(0, 1, (.t 84)), (1, 1, (.t 86)), (2, 1, (.t 88)), (3, 2, (.t 90))]), vo 6 (.alloc [(zi 0), (zi 0), (zi 0), (zi 0), (zi 0), (zi 0), (zi 0), (zi 0), (zi 0), (zi 0), (.d (.b false)), (zi 0)]), vu (.st 12 (.t 6) (.t 91))]) (.seq (.seq (.reg [vf 92 0 3, vs 93 92]) (.block 0 (.seq (.reg [bk 95 .eql 93 1, vm 94 95]) (.wk (.cond (.t 94) (.seq (.reg [vf 96 5 3, vs 97 96, vf 98 5 6, vu (.st 1 (.t 98) (.t 97))]) (.seq (.reg [vf 99 6 3, vs 100 99, vf 101 6 6, vu (.st 1 (.t 101) (.t 100))]) (.reg [vf 102 9 3, vs 103 102, vf 104 9 6, vu (.st 1 (.t 104) (.t 103))]))) (.seq (.reg [bk 106 .eql 93 2, vm 105 106]) (.wk (.cond (.t 105) (.seq (.reg [vf 107 6 3, vs 108 107, vf 109 6 6, vu (.st 1 (.t 109) (.t 108))]) (.seq (.reg [vf 110 7 3, vs 111 110, vf 112 7 6, vu (.st 1 (.t 112) (.t 111))]) (.reg [vf 113 9 3, vs 114 113, vf 115 9 6, vu (.st 1 (.t 115) (.t 114))]))) (.seq (.reg [bk 117 .eql 93 5, vm 116 117]) (.wk (.cond (.t 116) (.seq (.reg [vf 118 5 3, vs 119 118, vf 120 5 6, vu (.st 1 (.t 120) (.t 119))]) (.seq (.reg [vf 121 6 3, vs 122 121, vf 123 6 6, vu (.st 1 (.t 123) (.t 122))]) (.seq (.reg [vf 124 11 3, vs 125 124, vf 126 11 6, vu (.st 1 (.t 126) (.t 125))]) (.seq (.reg [vf 127 9 3, vs 128 127, vf 129 9 6, vu (.st 1 (.t 129) (.t 128))]) (.seq (.reg [vf 130 11 3, vs 131 130, bk 132 .eql 131 0]) (.wk (.cond (.t 132) (.seq (.reg [vf 133 7 3, vs 134 133, vf 135 7 6, vu (.st 1 (.t 135) (.t 134))]) (.reg [vf 136 8 3, vs 137 136, vf 138 8 6, vu (.st 1 (.t 138) (.t 137))])) .skip))))))) (.seq (.reg [bk 140 .eql 93 6, vm 139 140]) (.wk (.cond (.t 139) (.seq (.reg [vf 141 6 3, vs 142 141, vf 143 6 6, vu (.st 1 (.t 143) (.t 142))]) (.seq (.reg [vf 144 11 3, vs 145 144, vf 146 11 6, vu (.st 1 (.t 146) (.t 145))]) (.reg [vf 147 9 3, vs 148 147, vf 149 9 6, vu (.st 1 (.t 149) (.t 148))]))) (.seq (.reg [bk 151 .eql 93 4, vm 150 151]) (.wk (.cond (.t 150) (.reg [vf 152 10 3, vs 153 152, vf 154 10 6, vu (.st 1 (.t 154) (.t 153))]) (.seq (.reg [bk 156 .eql 93 3, vm 155 156]) (.wk (.cond (.t 155) (.seq (.reg [vf 157 5 3, vs 158 157, vf 159 5 6, vu (.st 1 (.t 159) (.t 158))]) (.seq (.reg [vf 160 6 3, vs 161 160, vf 162 6 6, vu (.st 1 (.t 162) (.t 161))]) (.reg [vf 163 8 3, vs 164 163, vf 165 8 6, vu (.st 1 (.t 165) (.t 164))]))) (.seq (.reg [bk 167 .eql 93 7, vm 166 167]) (.wk (.cond (.t 166) (.seq (.reg [vf 168 5 3, vs 169 168, vf 170 5 6, vu (.st 1 (.t 170) (.t 169))]) (.seq (.reg [vf 171 6 3, vs 172 171, vf 173 6 6, vu (.st 1 (.t 173) (.t 172))]) (.seq (.reg [vf 174 8 3, vs 175 174, vf 176 8 6, vu (.st 1 (.t 176) (.t 175))]) (.reg [vf 177 10 3, vs 178 177, vf 179 10 6, vu (.st 1 (.t 179) (.t 178))])))) .skip))))))))))))))))))))))) (.seq (.seq (.reg [vl 180 12 6, vl 181 12 3, vo 182 (.eqs true [.i, .i, .i, .i, .i, .i, .i, .i, .i, .i, .b, .i] (.t 180) (.t 181))]) (.cond (.t 182) (.seq (.reg [mi 4 4]) .ret) .skip)) (.seq (.reg [mi 4 0]) .ret)))))))))), [.t 4]⟩
theorem low26 : lowF Tryd.prog 26 = some F26.strip := by kernel_rfl
theorem fok26 : fOk Tryd.prog 26 = true := by kernel_rfl
theorem reredosref_MessageFault_ok (p0 : Config) (p1 : Message) (r : Int) (h : reredosref_MessageFault p0 p1 = some r) : FnRO Tryd.prog G 26 [.agg p0.bx, .agg p1.bx] (fun rs => rs = [.one (.i .i64 r)]) := by
 refine FnRO.of' low26 fok26 (by simp [F26]) ?_
 rw [reredosref_MessageFault] at h
 replace h := Hd.mk h
 simp only [F26, go_sem]
 try simp only [*, go_sem]
 refine cr h (reredosref_ConfigFault_ok G p0) (fun v1 h => ?_)
 refine oi h (fun hb2 h => ?_) (fun hb2 h => ?_)
 cases h.e
 simp only [*, go_sem, mA, mS]
 try simp only [*, go_sem]
 refine cr h (reredosref_In_ok G p1.Kind 1 9) (fun v3 h => ?_)
 refine oin h (fun hb4 hkhb4 h => ?_) (fun hb4 hkhb4 h => ?_)
 cases h.e
 simp only [*, go_sem, mA, mS]
 try simp only [*, go_sem]
 refine cr h (reredosref_In_ok G p1.From 0 (IntKind.i64.wrap (p0.Sites - 1))) (fun v5 h => ?_)
 refine oin h (fun hb6 hkhb6 h => ?_) (fun hb6 hkhb6 h => ?_)
 cases h.e
 simp only [*, go_sem, mA, mS]
 try simp only [*, go_sem]
 refine cr h (reredosref_In_ok G p1.To 0 (IntKind.i64.wrap (p0.Sites - 1))) (fun v7 h => ?_)
 refine oin h (fun hb8 hkhb8 h => ?_) (fun hb8 hkhb8 h => ?_)
 cases h.e
 simp only [*, go_sem, mA, mS]
 try simp only [*, go_sem]
 refine cr h (reredosref_txnMay_ok G p0 p1.Txn) (fun v9 h => ?_)
 refine oin h (fun hb10 hkhb10 h => ?_) (fun hb10 hkhb10 h => ?_)
 cases h.e
 simp only [*, go_sem, mA, mS]
 try simp only [*, go_sem]
 refine cr h (reredosref_labelMay_ok G p0 p1.Label) (fun v11 h => ?_)
 refine oin h (fun hb12 hkhb12 h => ?_) (fun hb12 hkhb12 h => ?_)
 cases h.e
 simp only [*, go_sem, mA, mS]
 try simp only [*, go_sem]
 refine cr h (reredosref_In_ok G p1.Key 0 7) (fun v13 h => ?_)
 refine oin h (fun hb14 hkhb14 h => ?_) (fun hb14 hkhb14 h => ?_)
 cases h.e
 simp only [*, go_sem, mA, mS]
 try simp only [*, go_sem]
 refine cr h (reredosref_In_ok G p1.Value 0 1073741824) (fun v15 h => ?_)
 refine oin h (fun hb16 hkhb16 h => ?_) (fun hb16 hkhb16 h => ?_)
 cases h.e
 simp only [*, go_sem, mA, mS]
 try simp only [*, go_sem]
 refine cr h (reredosref_In_ok G p1.Version 0 1048576) (fun v17 h => ?_)
 refine oin h (fun hb18 hkhb18 h => ?_) (fun hb18 hkhb18 h => ?_)
 cases h.e
 simp only [*, go_sem, mA, mS]
 try simp only [*, go_sem]
 refine cr h (reredosref_In_ok G p1.Ask 0 1048576) (fun v19 h => ?_)
 refine oin h (fun hb20 hkhb20 h => ?_) (fun hb20 hkhb20 h => ?_)
 cases h.e
 simp only [*, go_sem, mA, mS]
 refine oi h (fun hb21 h => ?_) (fun hb21 h => ?_)
 refine oi h (fun hb22 h => ?_) (fun hb22 h => ?_)
 refine oi h (fun hb23 h => ?_) (fun hb23 h => ?_)
 cases h.e
 simp only [*, go_sem, mA, mS]
 try simp only [*, go_sem]
 refine jn7 h (fun b24_1 b24_2 b24_3 b24_4 b24_5 b24_6 b24_7 => [zK 3 (Message.enc p1), zP 6 0]) (fun b24_1 b24_2 b24_3 b24_4 b24_5 b24_6 b24_7 => [ox [zi p1.Kind, zi p1.From, zi p1.To, zi p1.Txn.Site, zi p1.Txn.N, zi b24_1, zi b24_2, zi b24_3, zi b24_4, zi b24_5, .d (.b b24_6), zi b24_7]]) (fun k25 h => ?_) (fun b24_1 b24_2 b24_3 b24_4 b24_5 b24_6 b24_7 h => ?_)
 refine oi h (fun hb26 h => ?_) (fun hb26 h => ?_)
 try simp only [*, go_sem]
 exact jc (p1.Label, p1.Key, 0, 0, p1.Ask, false, 0) h.e [some 0]
 try simp only [*, go_sem]
 refine jn7 h (fun b27_1 b27_2 b27_3 b27_4 b27_5 b27_6 b27_7 => [zK 3 (Message.enc p1), zP 6 0]) (fun b27_1 b27_2 b27_3 b27_4 b27_5 b27_6 b27_7 => [ox [zi p1.Kind, zi p1.From, zi p1.To, zi p1.Txn.Site, zi p1.Txn.N, zi b27_1, zi b27_2, zi b27_3, zi b27_4, zi b27_5, .d (.b b27_6), zi b27_7]]) (fun k28 h => ?_) (fun b27_1 b27_2 b27_3 b27_4 b27_5 b27_6 b27_7 h => ?_)
 refine oi h (fun hb29 h => ?_) (fun hb29 h => ?_)
 try simp only [*, go_sem]
 exact jc (0, p1.Key, p1.Value, 0, p1.Ask, false, 0) h.e [some 0]
 try simp only [*, go_sem]
 refine jn7 h (fun b30_1 b30_2 b30_3 b30_4 b30_5 b30_6 b30_7 => [zK 3 (Message.enc p1), zP 6 0]) (fun b30_1 b30_2 b30_3 b30_4 b30_5 b30_6 b30_7 => [ox [zi p1.Kind, zi p1.From, zi p1.To, zi p1.Txn.Site, zi p1.Txn.N, zi b30_1, zi b30_2, zi b30_3, zi b30_4, zi b30_5, .d (.b b30_6), zi b30_7]]) (fun k31 h => ?_) (fun b30_1 b30_2 b30_3 b30_4 b30_5 b30_6 b30_7 h => ?_)
 refine oi h (fun hb32 h => ?_) (fun hb32 h => ?_)
 try simp only [*, go_sem]
 refine jn2 h (fun b33_1 b33_2 => [zK 3 (Message.enc p1), zP 6 0]) (fun b33_1 b33_2 => [ox [zi p1.Kind, zi p1.From, zi p1.To, zi p1.Txn.Site, zi p1.Txn.N, zi p1.Label, zi p1.Key, zi b33_1, zi b33_2, zi p1.Ask, .d (.b false), zi p1.Code]]) (fun k34 h => ?_) (fun b33_1 b33_2 h => ?_)
 refine oi h (fun hb35 h => ?_) (fun hb35 h => ?_)
 try simp only [*, go_sem]
 exact jc (p1.Value, p1.Version) h.e [some 0]
 try simp only [*, go_sem]
 exact jc (0, 0) h.e [some 0]
 try simp only [*, go_sem]
 exact jc (p1.Label, p1.Key, b33_1, b33_2, p1.Ask, false, p1.Code) h.e [some 0]
 try simp only [*, go_sem]
 refine jn6 h (fun b36_1 b36_2 b36_3 b36_4 b36_5 b36_6 => [zK 3 (Message.enc p1), zP 6 0]) (fun b36_1 b36_2 b36_3 b36_4 b36_5 b36_6 => [ox [zi p1.Kind, zi p1.From, zi p1.To, zi p1.Txn.Site, zi p1.Txn.N, zi b36_1, zi b36_2, zi 0, zi b36_3, zi b36_4, .d (.b b36_5), zi b36_6]]) (fun k37 h => ?_) (fun b36_1 b36_2 b36_3 b36_4 b36_5 b36_6 h => ?_)
 refine oi h (fun hb38 h => ?_) (fun hb38 h => ?_)
 try simp only [*, go_sem]
 exact jc (0, p1.Key, 0, p1.Ask, false, p1.Code) h.e [some 0]
 try simp only [*, go_sem]
 refine jn4 h (fun b39_1 b39_2 b39_3 b39_4 => [zK 3 (Message.enc p1), zP 6 0]) (fun b39_1 b39_2 b39_3 b39_4 => [ox [zi p1.Kind, zi p1.From, zi p1.To, zi p1.Txn.Site, zi p1.Txn.N, zi b39_1, zi b39_2, zi 0, zi b39_3, zi 0, .d (.b b39_4), zi 0]]) (fun k40 h => ?_) (fun b39_1 b39_2 b39_3 b39_4 h => ?_)
 refine oi h (fun hb41 h => ?_) (fun hb41 h => ?_)
 try simp only [*, go_sem]
 exact jc (0, 0, 0, p1.Yes) h.e [some 0]
 try simp only [*, go_sem]
 refine jn4 h (fun b42_1 b42_2 b42_3 b42_4 => [zK 3 (Message.enc p1), zP 6 0]) (fun b42_1 b42_2 b42_3 b42_4 => [ox [zi p1.Kind, zi p1.From, zi p1.To, zi p1.Txn.Site, zi p1.Txn.N, zi b42_1, zi b42_2, zi 0, zi b42_3, zi 0, .d (.b b42_4), zi 0]]) (fun k43 h => ?_) (fun b42_1 b42_2 b42_3 b42_4 h => ?_)
 refine oi h (fun hb44 h => ?_) (fun hb44 h => ?_)
 try simp only [*, go_sem]
 exact jc (p1.Label, p1.Key, p1.Version, false) h.e [some 0]
 try simp only [*, go_sem]
 refine jn4 h (fun b45_1 b45_2 b45_3 b45_4 => [zK 3 (Message.enc p1), zP 6 0]) (fun b45_1 b45_2 b45_3 b45_4 => [ox [zi p1.Kind, zi p1.From, zi p1.To, zi p1.Txn.Site, zi p1.Txn.N, zi b45_1, zi b45_2, zi 0, zi b45_3, zi 0, .d (.b b45_4), zi 0]]) (fun k46 h => ?_) (fun b45_1 b45_2 b45_3 b45_4 h => ?_)
 refine oi h (fun hb47 h => ?_) (fun hb47 h => ?_)
 try simp only [*, go_sem]
 exact jc (p1.Label, p1.Key, p1.Version, p1.Yes) h.e [some 0]
 try simp only [*, go_sem]
 exact jc (0, 0, 0, false) h.e [some 0]
 try simp only [*, go_sem]
 exact jc (b45_1, b45_2, b45_3, b45_4) h.e [some 0]
 try simp only [*, go_sem]
 exact jc (b42_1, b42_2, b42_3, b42_4) h.e [some 0]
 try simp only [*, go_sem]
 exact jc (b39_1, b39_2, b39_3, 0, b39_4, 0) h.e [some 0]
 try simp only [*, go_sem]
 exact jc (b36_1, b36_2, 0, b36_3, b36_4, b36_5, b36_6) h.e [some 0]
 try simp only [*, go_sem]
 exact jc (b30_1, b30_2, b30_3, b30_4, b30_5, b30_6, b30_7) h.e [some 0]
 try simp only [*, go_sem]
 exact jc (b27_1, b27_2, b27_3, b27_4, b27_5, b27_6, b27_7) h.e [some 0]
 refine oin h (fun hb48 hkhb48 h => ?_) (fun hb48 hkhb48 h => ?_)
 try simp only [*, go_sem]
 cases h.e
 simp only [*, go_sem, mA, mS]
 try simp only [*, go_sem]
 cases h.e
 simp only [*, go_sem, mA, mS]
 try simp only [*, go_sem]
 refine jn7 h (fun b49_1 b49_2 b49_3 b49_4 b49_5 b49_6 b49_7 => [zK 3 (Message.enc p1), zP 6 0]) (fun b49_1 b49_2 b49_3 b49_4 b49_5 b49_6 b49_7 => [ox [zi p1.Kind, zi p1.From, zi p1.To, zi p1.Txn.Site, zi p1.Txn.N, zi b49_1, zi b49_2, zi b49_3, zi b49_4, zi b49_5, .d (.b b49_6), zi b49_7]]) (fun k50 h => ?_) (fun b49_1 b49_2 b49_3 b49_4 b49_5 b49_6 b49_7 h => ?_)
 refine oi h (fun hb51 h => ?_) (fun hb51 h => ?_)
 try simp only [*, go_sem]
 exact jc (p1.Label, p1.Key, 0, 0, p1.Ask, false, 0) h.e [some 0]
 try simp only [*, go_sem]
 refine jn7 h (fun b52_1 b52_2 b52_3 b52_4 b52_5 b52_6 b52_7 => [zK 3 (Message.enc p1), zP 6 0]) (fun b52_1 b52_2 b52_3 b52_4 b52_5 b52_6 b52_7 => [ox [zi p1.Kind, zi p1.From, zi p1.To, zi p1.Txn.Site, zi p1.Txn.N, zi b52_1, zi b52_2, zi b52_3, zi b52_4, zi b52_5, .d (.b b52_6), zi b52_7]]) (fun k53 h => ?_) (fun b52_1 b52_2 b52_3 b52_4 b52_5 b52_6 b52_7 h => ?_)
 refine oi h (fun hb54 h => ?_) (fun hb54 h => ?_)
 try simp only [*, go_sem]
 exact jc (0, p1.Key, p1.Value, 0, p1.Ask, false, 0) h.e [some 0]
 try simp only [*, go_sem]
 refine jn7 h (fun b55_1 b55_2 b55_3 b55_4 b55_5 b55_6 b55_7 => [zK 3 (Message.enc p1), zP 6 0]) (fun b55_1 b55_2 b55_3 b55_4 b55_5 b55_6 b55_7 => [ox [zi p1.Kind, zi p1.From, zi p1.To, zi p1.Txn.Site, zi p1.Txn.N, zi b55_1, zi b55_2, zi b55_3, zi b55_4, zi b55_5, .d (.b b55_6), zi b55_7]]) (fun k56 h => ?_) (fun b55_1 b55_2 b55_3 b55_4 b55_5 b55_6 b55_7 h => ?_)
 refine oi h (fun hb57 h => ?_) (fun hb57 h => ?_)
 try simp only [*, go_sem]
 refine jn2 h (fun b58_1 b58_2 => [zK 3 (Message.enc p1), zP 6 0]) (fun b58_1 b58_2 => [ox [zi p1.Kind, zi p1.From, zi p1.To, zi p1.Txn.Site, zi p1.Txn.N, zi p1.Label, zi p1.Key, zi b58_1, zi b58_2, zi p1.Ask, .d (.b false), zi p1.Code]]) (fun k59 h => ?_) (fun b58_1 b58_2 h => ?_)
 refine oi h (fun hb60 h => ?_) (fun hb60 h => ?_)
 try simp only [*, go_sem]
 exact jc (p1.Value, p1.Version) h.e [some 0]
 try simp only [*, go_sem]
 exact jc (0, 0) h.e [some 0]
 try simp only [*, go_sem]
 exact jc (p1.Label, p1.Key, b58_1, b58_2, p1.Ask, false, p1.Code) h.e [some 0]
 try simp only [*, go_sem]
 refine jn6 h (fun b61_1 b61_2 b61_3 b61_4 b61_5 b61_6 => [zK 3 (Message.enc p1), zP 6 0]) (fun b61_1 b61_2 b61_3 b61_4 b61_5 b61_6 => [ox [zi p1.Kind, zi p1.From, zi p1.To, zi p1.Txn.Site, zi p1.Txn.N, zi b61_1, zi b61_2, zi 0, zi b61_3, zi b61_4, .d (.b b61_5), zi b61_6]]) (fun k62 h => ?_) (fun b61_1 b61_2 b61_3 b61_4 b61_5 b61_6 h => ?_)
 refine oi h (fun hb63 h => ?_) (fun hb63 h => ?_)
 try simp only [*, go_sem]
 exact jc (0, p1.Key, 0, p1.Ask, false, p1.Code) h.e [some 0]
 try simp only [*, go_sem]
 refine jn4 h (fun b64_1 b64_2 b64_3 b64_4 => [zK 3 (Message.enc p1), zP 6 0]) (fun b64_1 b64_2 b64_3 b64_4 => [ox [zi p1.Kind, zi p1.From, zi p1.To, zi p1.Txn.Site, zi p1.Txn.N, zi b64_1, zi b64_2, zi 0, zi b64_3, zi 0, .d (.b b64_4), zi 0]]) (fun k65 h => ?_) (fun b64_1 b64_2 b64_3 b64_4 h => ?_)
 refine oi h (fun hb66 h => ?_) (fun hb66 h => ?_)
 try simp only [*, go_sem]
 exact jc (0, 0, 0, p1.Yes) h.e [some 0]
 try simp only [*, go_sem]
 refine jn4 h (fun b67_1 b67_2 b67_3 b67_4 => [zK 3 (Message.enc p1), zP 6 0]) (fun b67_1 b67_2 b67_3 b67_4 => [ox [zi p1.Kind, zi p1.From, zi p1.To, zi p1.Txn.Site, zi p1.Txn.N, zi b67_1, zi b67_2, zi 0, zi b67_3, zi 0, .d (.b b67_4), zi 0]]) (fun k68 h => ?_) (fun b67_1 b67_2 b67_3 b67_4 h => ?_)
 refine oi h (fun hb69 h => ?_) (fun hb69 h => ?_)
 try simp only [*, go_sem]
 exact jc (p1.Label, p1.Key, p1.Version, false) h.e [some 0]
 try simp only [*, go_sem]
 refine jn4 h (fun b70_1 b70_2 b70_3 b70_4 => [zK 3 (Message.enc p1), zP 6 0]) (fun b70_1 b70_2 b70_3 b70_4 => [ox [zi p1.Kind, zi p1.From, zi p1.To, zi p1.Txn.Site, zi p1.Txn.N, zi b70_1, zi b70_2, zi 0, zi b70_3, zi 0, .d (.b b70_4), zi 0]]) (fun k71 h => ?_) (fun b70_1 b70_2 b70_3 b70_4 h => ?_)
 refine oi h (fun hb72 h => ?_) (fun hb72 h => ?_)
 try simp only [*, go_sem]
 exact jc (p1.Label, p1.Key, p1.Version, p1.Yes) h.e [some 0]
 try simp only [*, go_sem]
 exact jc (0, 0, 0, false) h.e [some 0]
 try simp only [*, go_sem]
 exact jc (b70_1, b70_2, b70_3, b70_4) h.e [some 0]
 try simp only [*, go_sem]
 exact jc (b67_1, b67_2, b67_3, b67_4) h.e [some 0]
 try simp only [*, go_sem]
 exact jc (b64_1, b64_2, b64_3, 0, b64_4, 0) h.e [some 0]
 try simp only [*, go_sem]
 exact jc (b61_1, b61_2, 0, b61_3, b61_4, b61_5, b61_6) h.e [some 0]
 try simp only [*, go_sem]
 exact jc (b55_1, b55_2, b55_3, b55_4, b55_5, b55_6, b55_7) h.e [some 0]
 try simp only [*, go_sem]
 exact jc (b52_1, b52_2, b52_3, b52_4, b52_5, b52_6, b52_7) h.e [some 0]
 refine oin h (fun hb73 hkhb73 h => ?_) (fun hb73 hkhb73 h => ?_)
 try simp only [*, go_sem]
 cases h.e
 simp only [*, go_sem, mA, mS]
 try simp only [*, go_sem]
 cases h.e
 simp only [*, go_sem, mA, mS]
 try simp only [*, go_sem]
 refine jn7 h (fun b74_1 b74_2 b74_3 b74_4 b74_5 b74_6 b74_7 => [zK 3 (Message.enc p1), zP 6 0]) (fun b74_1 b74_2 b74_3 b74_4 b74_5 b74_6 b74_7 => [ox [zi p1.Kind, zi p1.From, zi p1.To, zi p1.Txn.Site, zi p1.Txn.N, zi b74_1, zi b74_2, zi b74_3, zi b74_4, zi b74_5, .d (.b b74_6), zi b74_7]]) (fun k75 h => ?_) (fun b74_1 b74_2 b74_3 b74_4 b74_5 b74_6 b74_7 h => ?_)
 refine oi h (fun hb76 h => ?_) (fun hb76 h => ?_)
 try simp only [*, go_sem]
 exact jc (p1.Label, p1.Key, 0, 0, p1.Ask, false, 0) h.e [some 0]
 try simp only [*, go_sem]
 refine jn7 h (fun b77_1 b77_2 b77_3 b77_4 b77_5 b77_6 b77_7 => [zK 3 (Message.enc p1), zP 6 0]) (fun b77_1 b77_2 b77_3 b77_4 b77_5 b77_6 b77_7 => [ox [zi p1.Kind, zi p1.From, zi p1.To, zi p1.Txn.Site, zi p1.Txn.N, zi b77_1, zi b77_2, zi b77_3, zi b77_4, zi b77_5, .d (.b b77_6), zi b77_7]]) (fun k78 h => ?_) (fun b77_1 b77_2 b77_3 b77_4 b77_5 b77_6 b77_7 h => ?_)
 refine oi h (fun hb79 h => ?_) (fun hb79 h => ?_)
 try simp only [*, go_sem]
 exact jc (0, p1.Key, p1.Value, 0, p1.Ask, false, 0) h.e [some 0]
 try simp only [*, go_sem]
 refine jn7 h (fun b80_1 b80_2 b80_3 b80_4 b80_5 b80_6 b80_7 => [zK 3 (Message.enc p1), zP 6 0]) (fun b80_1 b80_2 b80_3 b80_4 b80_5 b80_6 b80_7 => [ox [zi p1.Kind, zi p1.From, zi p1.To, zi p1.Txn.Site, zi p1.Txn.N, zi b80_1, zi b80_2, zi b80_3, zi b80_4, zi b80_5, .d (.b b80_6), zi b80_7]]) (fun k81 h => ?_) (fun b80_1 b80_2 b80_3 b80_4 b80_5 b80_6 b80_7 h => ?_)
 refine oi h (fun hb82 h => ?_) (fun hb82 h => ?_)
 try simp only [*, go_sem]
 refine jn2 h (fun b83_1 b83_2 => [zK 3 (Message.enc p1), zP 6 0]) (fun b83_1 b83_2 => [ox [zi p1.Kind, zi p1.From, zi p1.To, zi p1.Txn.Site, zi p1.Txn.N, zi p1.Label, zi p1.Key, zi b83_1, zi b83_2, zi p1.Ask, .d (.b false), zi p1.Code]]) (fun k84 h => ?_) (fun b83_1 b83_2 h => ?_)
 refine oi h (fun hb85 h => ?_) (fun hb85 h => ?_)
 try simp only [*, go_sem]
 exact jc (p1.Value, p1.Version) h.e [some 0]
 try simp only [*, go_sem]
 exact jc (0, 0) h.e [some 0]
 try simp only [*, go_sem]
 exact jc (p1.Label, p1.Key, b83_1, b83_2, p1.Ask, false, p1.Code) h.e [some 0]
 try simp only [*, go_sem]
 refine jn6 h (fun b86_1 b86_2 b86_3 b86_4 b86_5 b86_6 => [zK 3 (Message.enc p1), zP 6 0]) (fun b86_1 b86_2 b86_3 b86_4 b86_5 b86_6 => [ox [zi p1.Kind, zi p1.From, zi p1.To, zi p1.Txn.Site, zi p1.Txn.N, zi b86_1, zi b86_2, zi 0, zi b86_3, zi b86_4, .d (.b b86_5), zi b86_6]]) (fun k87 h => ?_) (fun b86_1 b86_2 b86_3 b86_4 b86_5 b86_6 h => ?_)
 refine oi h (fun hb88 h => ?_) (fun hb88 h => ?_)
 try simp only [*, go_sem]
 exact jc (0, p1.Key, 0, p1.Ask, false, p1.Code) h.e [some 0]
 try simp only [*, go_sem]
 refine jn4 h (fun b89_1 b89_2 b89_3 b89_4 => [zK 3 (Message.enc p1), zP 6 0]) (fun b89_1 b89_2 b89_3 b89_4 => [ox [zi p1.Kind, zi p1.From, zi p1.To, zi p1.Txn.Site, zi p1.Txn.N, zi b89_1, zi b89_2, zi 0, zi b89_3, zi 0, .d (.b b89_4), zi 0]]) (fun k90 h => ?_) (fun b89_1 b89_2 b89_3 b89_4 h => ?_)
 refine oi h (fun hb91 h => ?_) (fun hb91 h => ?_)
 try simp only [*, go_sem]
 exact jc (0, 0, 0, p1.Yes) h.e [some 0]
 try simp only [*, go_sem]
 refine jn4 h (fun b92_1 b92_2 b92_3 b92_4 => [zK 3 (Message.enc p1), zP 6 0]) (fun b92_1 b92_2 b92_3 b92_4 => [ox [zi p1.Kind, zi p1.From, zi p1.To, zi p1.Txn.Site, zi p1.Txn.N, zi b92_1, zi b92_2, zi 0, zi b92_3, zi 0, .d (.b b92_4), zi 0]]) (fun k93 h => ?_) (fun b92_1 b92_2 b92_3 b92_4 h => ?_)
 refine oi h (fun hb94 h => ?_) (fun hb94 h => ?_)
 try simp only [*, go_sem]
 exact jc (p1.Label, p1.Key, p1.Version, false) h.e [some 0]
 try simp only [*, go_sem]
 refine jn4 h (fun b95_1 b95_2 b95_3 b95_4 => [zK 3 (Message.enc p1), zP 6 0]) (fun b95_1 b95_2 b95_3 b95_4 => [ox [zi p1.Kind, zi p1.From, zi p1.To, zi p1.Txn.Site, zi p1.Txn.N, zi b95_1, zi b95_2, zi 0, zi b95_3, zi 0, .d (.b b95_4), zi 0]]) (fun k96 h => ?_) (fun b95_1 b95_2 b95_3 b95_4 h => ?_)
 refine oi h (fun hb97 h => ?_) (fun hb97 h => ?_)
 try simp only [*, go_sem]
 exact jc (p1.Label, p1.Key, p1.Version, p1.Yes) h.e [some 0]
 try simp only [*, go_sem]
 exact jc (0, 0, 0, false) h.e [some 0]
 try simp only [*, go_sem]
 exact jc (b95_1, b95_2, b95_3, b95_4) h.e [some 0]
 try simp only [*, go_sem]
 exact jc (b92_1, b92_2, b92_3, b92_4) h.e [some 0]
 try simp only [*, go_sem]
 exact jc (b89_1, b89_2, b89_3, 0, b89_4, 0) h.e [some 0]
 try simp only [*, go_sem]
 exact jc (b86_1, b86_2, 0, b86_3, b86_4, b86_5, b86_6) h.e [some 0]
 try simp only [*, go_sem]
 exact jc (b80_1, b80_2, b80_3, b80_4, b80_5, b80_6, b80_7) h.e [some 0]
 try simp only [*, go_sem]
 exact jc (b77_1, b77_2, b77_3, b77_4, b77_5, b77_6, b77_7) h.e [some 0]
 refine oin h (fun hb98 hkhb98 h => ?_) (fun hb98 hkhb98 h => ?_)
 try simp only [*, go_sem]
 cases h.e
 simp only [*, go_sem, mA, mS]
 try simp only [*, go_sem]
 cases h.e
 simp only [*, go_sem, mA, mS]
end Go.V.Dec
