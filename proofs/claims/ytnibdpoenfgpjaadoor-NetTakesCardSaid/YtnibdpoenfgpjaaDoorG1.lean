/- What Go's functions come to, as plain functions: part 1; no condition. -/
import Derived.Test.YtnibdpoenfgpjaaDoorRows
import Derived.Test.YtnibdpoenfgpjaaDoorVK
set_option linter.unusedVariables false
set_option linter.unusedSimpArgs false
namespace Go.V.Dec
open Go Go.Proofs
set_option maxRecDepth 100000
set_option maxHeartbeats 4000000
variable (G : Nat → Option (List D))
structure WireParts where
  label : Bool
  key : Bool
  value : Bool
  version : Bool
  ask : Bool
  yes : Bool
  code : Bool
  sites : Bool
  deriving Inhabited
def WireParts.enc (x : WireParts) : List D := [.b x.label, .b x.key, .b x.value, .b x.version, .b x.ask, .b x.yes, .b x.code, .b x.sites]
def WireParts.encO (x : WireParts) : List D := [.b x.label, .b x.key, .b x.value, .b x.version, .b x.ask, .b x.yes, .b x.code, .b x.sites]
structure Txn where
  Site : Int
  N : Int
  deriving Inhabited
def Txn.enc (x : Txn) : List D := [.i .i64 x.Site, .i .i64 x.N]
def Txn.encO (x : Txn) : List D := [.i .i64 x.Site, .i .i64 x.N]
structure Message where
  Kind : Int
  From : Int
  To : Int
  Txn : Txn
  Label : Int
  Key : Int
  Value : Int
  Version : Int
  Ask : Int
  Yes : Bool
  Code : Int
  deriving Inhabited
def Message.enc (x : Message) : List D := [.i .i64 x.Kind, .i .i64 x.From, .i .i64 x.To, .i .i64 x.Txn.Site, .i .i64 x.Txn.N, .i .i64 x.Label, .i .i64 x.Key, .i .i64 x.Value, .i .i64 x.Version, .i .i64 x.Ask, .b x.Yes, .i .i64 x.Code]
def Message.encO (x : Message) : List D := [.i .i64 x.Kind, .i .i64 x.From, .i .i64 x.To, .i .i64 x.Txn.Site, .i .i64 x.Txn.N, .i .i64 x.Label, .i .i64 x.Key, .i .i64 x.Value, .i .i64 x.Version, .i .i64 x.Ask, .b x.Yes, .i .i64 x.Code]
structure Label where
  Level : Int
  Cats : Int
  deriving Inhabited
def Label.enc (x : Label) : List D := [.i .i64 x.Level, .i .i64 x.Cats]
def Label.encO (x : Label) : List D := [.i .i64 x.Level, .i .i64 x.Cats]
structure Config where
  Sites : Int
  Labels : List Label
  Patience : Int
  deriving Inhabited
def Config.enc (x : Config) : List D := [.i .i64 x.Sites, .l 2 (x.Labels.map Label.enc), .i .i64 x.Patience]
def Config.encO (x : Config) : List D := [.i .i64 x.Sites, .o 2 (x.Labels.map Label.enc), .i .i64 x.Patience]
def WireParts.bx (x : WireParts) : List SC := [.d (.b x.label), .d (.b x.key), .d (.b x.value), .d (.b x.version), .d (.b x.ask), .d (.b x.yes), .d (.b x.code), .d (.b x.sites)]
def Txn.bx (x : Txn) : List SC := [.d (.i .i64 x.Site), .d (.i .i64 x.N)]
def Message.bx (x : Message) : List SC := [.d (.i .i64 x.Kind), .d (.i .i64 x.From), .d (.i .i64 x.To), .d (.i .i64 x.Txn.Site), .d (.i .i64 x.Txn.N), .d (.i .i64 x.Label), .d (.i .i64 x.Key), .d (.i .i64 x.Value), .d (.i .i64 x.Version), .d (.i .i64 x.Ask), .d (.b x.Yes), .d (.i .i64 x.Code)]
def Label.bx (x : Label) : List SC := [.d (.i .i64 x.Level), .d (.i .i64 x.Cats)]
def Config.bx (x : Config) : List SC := [.d (.i .i64 x.Sites), .d (.l 2 (x.Labels.map Label.enc)), .d (.i .i64 x.Patience)]
attribute [go_sem] encI WireParts.enc WireParts.encO WireParts.bx Txn.enc Txn.encO Txn.bx Message.enc Message.encO Message.bx Label.enc Label.encO Label.bx Config.enc Config.encO Config.bx
def tab_wire_messages : List WireParts := [WireParts.mk false false false false false false false false, WireParts.mk true true false false true false false false, WireParts.mk false true true false true false false false, WireParts.mk true true false true false false false false, WireParts.mk false false false false false true false false, WireParts.mk true true true true true false true false, WireParts.mk false true false false true false true false, WireParts.mk true true false true false true false false, WireParts.mk false false false false false false false false, WireParts.mk false false false false false false false false]
def tab_wire_messagesD : List D := [.b false, .b false, .b false, .b false, .b false, .b false, .b false, .b false, .b true, .b true, .b false, .b false, .b true, .b false, .b false, .b false, .b false, .b true, .b true, .b false, .b true, .b false, .b false, .b false, .b true, .b true, .b false, .b true, .b false, .b false, .b false, .b false, .b false, .b false, .b false, .b false, .b false, .b true, .b false, .b false, .b true, .b true, .b true, .b true, .b true, .b false, .b true, .b false, .b false, .b true, .b false, .b false, .b true, .b false, .b true, .b false, .b true, .b true, .b false, .b true, .b false, .b true, .b false, .b false, .b false, .b false, .b false, .b false, .b false, .b false, .b false, .b false, .b false, .b false, .b false, .b false, .b false, .b false, .b false, .b false]
theorem tab_wire_messages_rows : rowsT 8 10 tab_wire_messagesD = tab_wire_messages.map WireParts.enc := by rfl
theorem tab_wire_messages_lenD : tab_wire_messagesD.length = 80 := by rfl
theorem tab_wire_messages_len : tab_wire_messages.length = 10 := by rfl
attribute [go_sem] tab_wire_messages_rows tab_wire_messages_lenD
def reredosref_FlyingCopy_L2 (p0 : List (List Message)) (a3_1 : Nat) (k8 : (List Message) → Option ((List (List Message)))) : Nat → Nat → (List Message) → Option ((List (List Message)))
 | 0, _, _ => none
 | n10 + 1, a9_1, a9_2 => (Option.bind (p0[a3_1]?) fun x11 => (if (decide (a9_1 < x11.length)) = true then (Option.bind (x11[a9_1]?) fun x14 => (if fits 96 (a9_2.length + 1) then (reredosref_FlyingCopy_L2 p0 a3_1 k8 n10 (a9_1 + 1) (a9_2 ++ [x14])) else none)) else (k8 a9_2)))
def reredosref_FlyingCopy_L1 (p0 : List (List Message)) (k2 : (List (List Message)) → Option ((List (List Message)))) : Nat → Nat → (List (List Message)) → Option ((List (List Message)))
 | 0, _, _ => none
 | n4 + 1, a3_1, a3_2 => (if (decide (a3_1 < p0.length)) = true then (withK (fun (b7_1 : List Message) => (if fits 24 (a3_2.length + 1) then (reredosref_FlyingCopy_L1 p0 k2 n4 (a3_1 + 1) (a3_2 ++ [b7_1])) else none)) fun k8 => (reredosref_FlyingCopy_L2 p0 a3_1 k8 (((p0[a3_1]?).getD default).length + 1) 0 [])) else (k2 a3_2))
def reredosref_FlyingCopy (p0 : List (List Message)) : Option ((List (List Message))) := (withK (fun (b1_1 : List (List Message)) => (some b1_1)) fun k2 => (reredosref_FlyingCopy_L1 p0 k2 (p0.length + 1) 0 []))
def F5 : VFn := ⟨37, (.seq (.reg [vo 2 (.mv (.c (.one (.nl 1))))]) (.seq (.reg [vo 3 (.mv (.c (.one (.nl 1))))]) (.seq (.seq (.reg [mi 4 0]) (.wk (.block 0 (.loop (.seq (.seq (.reg [vm 7 4, vm 8 0, ln 9 8, bt 10 .lss 7 9]) (.cond (.t 10) .skip (.exit 0))) (.seq (.block 1 (.seq (.reg [vo 5 (.mv (.c (.one (.nl 12))))]) (.seq (.seq (.reg [mi 6 0]) (.wk (.block 2 (.loop (.seq (.seq (.reg [vm 13 6, vm 14 0, vm 15 4, xa 16 1 14 15, vs 17 16, ln 18 17, bt 19 .lss 13 18]) (.cond (.t 19) .skip (.exit 2))) (.seq (.block 3 (.reg [vm 22 5, vm 23 0, vm 24 4, xa 25 1 23 24, vs 26 25, vm 27 6, xa 28 12 26 27, vl 29 12 28, vo 30 (.bsl 12 1 [(zi 0), (zi 0), (zi 0), (zi 0), (zi 0), (zi 0), (zi 0), (zi 0), (zi 0), (zi 0), (.d (.b false)), (zi 0)] [(0, (.t 29))]), vo 31 (.app 12 96 (.t 22) (.t 30)), vm 5 31])) (.reg [vm 20 6, bk 21 .add 20 1, vm 6 21]))))))) (.reg [vm 32 3, vm 33 5, vo 34 (.bslw 1 1 [(.nl 12)] [(0, (.t 33))]), vo 35 (.appw 1 24 (.t 32) (.t 34)), vm 3 35])))) (.reg [vm 11 4, bk 12 .add 11 1, vm 4 12]))))))) (.seq (.reg [vm 36 3, vm 2 36]) .ret)))), [.t 2]⟩
theorem low5 : lowF Tryd.prog 5 = some F5.strip := by kernel_rfl
theorem fok5 : fOk Tryd.prog 5 = true := by kernel_rfl
theorem reredosref_FlyingCopy_ok (p0 : List (List Message)) (r : (List (List Message))) (h : reredosref_FlyingCopy p0 = some r) : FnRO Tryd.prog G 5 [.one (.d (.l 1 (p0.map (encL 12 Message.enc))))] (fun rs => rs = [.one (.t 1 (r.map (encLO 12 Message.enc)))]) := by
 refine FnRO.same ?_
 refine FnRO.of' low5 fok5 (by simp [F5]) ?_
 rw [reredosref_FlyingCopy] at h
 replace h := Hd.mk h
 simp only [F5, go_sem]
 try simp only [*, go_sem]
 refine jn1 h (fun b1_1 => [zR 3 0 0 b1_1.length]) (fun b1_1 => [ot 1 (b1_1.map (encLO 12 Message.enc))]) (fun k2 h => ?_) (fun b1_1 h => ?_)
 try simp only [*, go_sem]
 refine lp2 (reredosref_FlyingCopy_L1 p0 k2) (fun a3_1 a3_2 => [zL 0 1 (p0.map (encL 12 Message.enc)), zR 3 0 0 a3_2.length, zI 4 ((a3_1 : Nat) : Int)]) (fun a3_1 a3_2 => [ot 1 (a3_2.map (encLO 12 Message.enc))]) h [] [none] (fun n4 a3_1 a3_2 h => ?_) (by intros; rw [reredosref_FlyingCopy_L1])
 rw [reredosref_FlyingCopy_L1] at h
 try simp only [*, go_sem]
 intro hl5
 refine oi h (fun hb6 h => ?_) (fun hb6 h => ?_)
 have hkhb6 := of_decide_eq_true hb6
 try simp only [*, go_sem]
 refine jn1 h (fun b7_1 => [zL 0 1 (p0.map (encL 12 Message.enc)), zR 3 0 0 a3_2.length, zI 4 ((a3_1 : Nat) : Int), zR 5 1 0 b7_1.length]) (fun b7_1 => [ot 1 (a3_2.map (encLO 12 Message.enc)), oa 12 (b7_1.map Message.enc)]) (fun k8 h => ?_) (fun b7_1 h => ?_)
 try simp only [*, go_sem]
 refine lp2 (reredosref_FlyingCopy_L2 p0 a3_1 k8) (fun a9_1 a9_2 => [zL 0 1 (p0.map (encL 12 Message.enc)), zR 3 0 0 a3_2.length, zI 4 ((a3_1 : Nat) : Int), zR 5 1 0 a9_2.length, zI 6 ((a9_1 : Nat) : Int)]) (fun a9_1 a9_2 => [ot 1 (a3_2.map (encLO 12 Message.enc)), oa 12 (a9_2.map Message.enc)]) h [] [some 0, none] (fun n10 a9_1 a9_2 h => ?_) (by intros; rw [reredosref_FlyingCopy_L2])
 rw [reredosref_FlyingCopy_L2] at h
 refine obg h (fun x11 _ _ h => ?_)
 try simp only [*, go_sem]
 intro hl12
 refine oi h (fun hb13 h => ?_) (fun hb13 h => ?_)
 have := of_decide_eq_true hb13
 refine obg h (fun x14 _ hkx14 h => ?_)
 refine ck h (fun _ h => ?_)
 have := wrap_succ_max hkx14 hl12
 try simp only [*, go_sem]
 exact lc (a9_1 + 1, (a9_2 ++ [x14])) h.e [some 0, some 3]
 try simp only [*, go_sem]
 exact jc (a9_2) h.e [some 0, some 1]
 refine ck h (fun _ h => ?_)
 have := wrap_succ_max hkhb6 hl5
 try simp only [*, go_sem]
 exact lc (a3_1 + 1, (a3_2 ++ [b7_1])) h.e [some 3]
 try simp only [*, go_sem]
 exact jc (a3_2) h.e [some 0]
 cases h.e
 simp only [*, go_sem, mA, mS]
def label_one (p0 : Label) : Option (Bool) := (withK (fun (b1_1 : Bool) => (some b1_1)) fun k2 => (if (decide (p0.Level ≥ 0)) = true then (if (decide (p0.Level ≤ 9)) = true then (if (decide (p0.Cats ≥ 0)) = true then (k2 (decide (p0.Cats ≤ 15))) else (k2 false)) else (k2 false)) else (k2 false)))
def F29 : VFn := ⟨21, (.seq (.reg [vo 1 (.boxk 2 (.t 0)), vo 2 (.mv (cb false))]) (.seq (.wk (.reg [vf 3 0 1, vs 4 3, bk 5 .geq 4 0, vm 6 5, gt 7 6 (.fa 0 (.t 1)), gt 8 6 (.ld false 1 (.t 7)), gt 9 6 (.bin .i .leq (.t 8) (ci 9)), vo 10 (.pick (.t 6) (.t 9) (cb false)), vm 11 10, gt 12 11 (.fa 1 (.t 1)), gt 13 11 (.ld false 1 (.t 12)), gt 14 11 (.bin .i .geq (.t 13) (ci 0)), vo 15 (.pick (.t 11) (.t 14) (cb false)), vm 16 15, gt 17 16 (.fa 1 (.t 1)), gt 18 16 (.ld false 1 (.t 17)), gt 19 16 (.bin .i .leq (.t 18) (ci 15)), vo 20 (.pick (.t 16) (.t 19) (cb false)), vm 2 20])) .ret)), [.t 2]⟩
theorem low29 : lowF Tryd.prog 29 = some F29.strip := by kernel_rfl
theorem fok29 : fOk Tryd.prog 29 = true := by kernel_rfl
theorem label_one_ok (p0 : Label) (r : Bool) (h : label_one p0 = some r) : FnRO Tryd.prog G 29 [.agg p0.bx] (fun rs => rs = [.one (.b r)]) := by
 refine FnRO.of' low29 fok29 (by simp [F29]) ?_
 rw [label_one] at h
 replace h := Hd.mk h
 simp only [F29, go_sem]
 try simp only [*, go_sem]
 refine jn1 h (fun b1_1 => [zB 2 b1_1]) (fun b1_1 => []) (fun k2 h => ?_) (fun b1_1 h => ?_)
 refine oi h (fun hb3 h => ?_) (fun hb3 h => ?_)
 refine oi h (fun hb4 h => ?_) (fun hb4 h => ?_)
 refine oi h (fun hb5 h => ?_) (fun hb5 h => ?_)
 try simp only [*, go_sem]
 exact jc (decide (p0.Cats ≤ 15)) h.e []
 try simp only [*, go_sem]
 exact jc (false) h.e []
 try simp only [*, go_sem]
 exact jc (false) h.e []
 try simp only [*, go_sem]
 exact jc (false) h.e []
 cases h.e
 simp only [*, go_sem, mA, mS]
def label_Check_L2 (p0 : Config) (a10_1 : Nat) (x13 : Label) (k19 : Option (Int)) : Nat → Nat → Option (Int)
 | 0, _ => none
 | n21 + 1, a20_1 => (if (decide (a20_1 < min a10_1 p0.Labels.length)) = true then (Option.bind ((p0.Labels.take a10_1)[a20_1]?) fun x23 => (if ((x23.Level == x13.Level) && (x23.Cats == x13.Cats)) = true then (some 7) else (label_Check_L2 p0 a10_1 x13 k19 n21 (a20_1 + 1)))) else k19)
def label_Check_L1 (p0 : Config) (k9 : Option (Int)) : Nat → Nat → Option (Int)
 | 0, _ => none
 | n11 + 1, a10_1 => (if (decide (a10_1 < p0.Labels.length)) = true then (Option.bind (p0.Labels[a10_1]?) fun x13 => (Option.bind (label_one x13) fun v14 => (if (!v14) = true then (some 2) else (withK (label_Check_L1 p0 k9 n11 (a10_1 + 1)) fun k19 => (label_Check_L2 p0 a10_1 x13 k19 (min a10_1 p0.Labels.length + 1) 0))))) else k9)
def label_Check (p0 : Config) : Option (Int) := (if (decide (p0.Sites < 1)) = true then (some 2) else (if (decide (p0.Sites > 4)) = true then (some 2) else (if (decide (((p0.Labels.length : Nat) : Int) < 1)) = true then (some 1) else (if (decide (((p0.Labels.length : Nat) : Int) > 6)) = true then (some 1) else (withK (if (decide (p0.Patience < 1)) = true then (some 2) else (if (decide (p0.Patience > 1048576)) = true then (some 2) else (some 0))) fun k9 => (label_Check_L1 p0 k9 (p0.Labels.length + 1) 0))))))
def F19 : VFn := ⟨58, (.seq (.reg [vo 1 (.boxk 3 (.t 0)), mi 2 0]) (.seq (.seq (.reg [vf 7 0 1, vs 8 7, bk 9 .lss 8 1, vm 10 9, gf 11 10 (.fa 0 (.t 1)), gf 12 10 (.ld false 1 (.t 11)), gf 13 10 (.bin .i .gtr (.t 12) (ci 4)), vo 14 (.pick (.t 10) (cb true) (.t 13))]) (.cond (.t 14) (.seq (.reg [mi 2 2]) .ret) .skip)) (.seq (.seq (.reg [vf 15 1 1, vs 16 15, ln 17 16, bk 18 .lss 17 1, vm 19 18, gf 20 19 (.fa 1 (.t 1)), gf 21 19 (.ld false 1 (.t 20)), gf 22 19 (.len (.t 21)), gf 23 19 (.bin .i .gtr (.t 22) (ci 6)), vo 24 (.pick (.t 19) (cb true) (.t 23))]) (.cond (.t 24) (.seq (.reg [mi 2 1]) .ret) .skip)) (.seq (.seq (.reg [vf 25 1 1, vs 26 25, ln 27 26, mi 28 0]) (.wk (.block 0 (.loop (.seq (.reg [bt 29 .lss 28 27]) (.seq (.cond (.t 29) .skip (.exit 0)) (.seq (.block 1 (.seq (.reg [vm 30 28, xa 31 2 26 28, vl 32 2 31, vo 4 (.alloc [(zi 0), (zi 0)]), vm 3 30, vu (.st 2 (.t 4) (.t 32))]) (.seq (.seq (.reg [vl 33 2 4, vo 34 (.call 29 [(.t 33)]), nt 35 34]) (.cond (.t 35) (.seq (.reg [mi 2 2]) .ret) .skip)) (.seq (.reg [vf 36 1 1, vs 37 36, vm 38 3, vo 39 (.sl 2 (.t 37) none (some (.t 38))), ln 40 39, mi 41 0]) (.wk (.block 2 (.loop (.seq (.reg [bt 42 .lss 41 40]) (.seq (.cond (.t 42) .skip (.exit 2)) (.seq (.block 3 (.seq (.reg [xa 43 2 39 41, vl 44 2 43, vo 6 (.alloc [(zi 0), (zi 0)]), vu (.st 2 (.t 6) (.t 44))]) (.seq (.reg [vl 45 2 6, vl 46 2 4, vo 47 (.eqs false [.i, .i] (.t 45) (.t 46))]) (.cond (.t 47) (.seq (.reg [mi 2 7]) .ret) .skip)))) (.reg [bk 48 .add 41 1, vm 41 48]))))))))))) (.reg [bk 49 .add 28 1, vm 28 49])))))))) (.seq (.seq (.reg [vf 50 2 1, vs 51 50, bk 52 .lss 51 1, vm 53 52, gf 54 53 (.fa 2 (.t 1)), gf 55 53 (.ld false 1 (.t 54)), gf 56 53 (.bin .i .gtr (.t 55) (ci 1048576)), vo 57 (.pick (.t 53) (cb true) (.t 56))]) (.cond (.t 57) (.seq (.reg [mi 2 2]) .ret) .skip)) (.seq (.reg [mi 2 0]) .ret)))))), [.t 2]⟩
theorem low19 : lowF Tryd.prog 19 = some F19.strip := by kernel_rfl
theorem fok19 : fOk Tryd.prog 19 = true := by kernel_rfl
theorem label_Check_ok (p0 : Config) (r : Int) (h : label_Check p0 = some r) : FnRO Tryd.prog G 19 [.agg p0.bx] (fun rs => rs = [.one (.i .i64 r)]) := by
 refine FnRO.of' low19 fok19 (by simp [F19]) ?_
 rw [label_Check] at h
 replace h := Hd.mk h
 simp only [F19, go_sem]
 refine oi h (fun hb1 h => ?_) (fun hb1 h => ?_)
 have := of_decide_eq_true hb1
 cases h.e
 simp only [*, go_sem, mA, mS]
 refine oi h (fun hb2 h => ?_) (fun hb2 h => ?_)
 cases h.e
 simp only [*, go_sem, mA, mS]
 try simp only [*, go_sem]
 intro hl3
 refine oi h (fun hb4 h => ?_) (fun hb4 h => ?_)
 cases h.e
 simp only [*, go_sem, mA, mS]
 try simp only [*, go_sem]
 intro hl5
 refine oi h (fun hb6 h => ?_) (fun hb6 h => ?_)
 cases h.e
 simp only [*, go_sem, mA, mS]
 try simp only [*, go_sem]
 intro hl7
 try simp only [*, go_sem]
 refine jn0 h ([zK 1 (Config.enc p0)]) ([]) (fun k9 h => ?_) (fun h => ?_)
 try simp only [*, go_sem]
 refine lp1 (label_Check_L1 p0 k9) (fun a10_1 => [zK 1 (Config.enc p0), zL 26 2 (p0.Labels.map Label.enc), zI 27 ((p0.Labels.length : Nat) : Int), zI 28 ((a10_1 : Nat) : Int)]) (fun a10_1 => []) h [] [] (fun n11 a10_1 h => ?_) (by intros; rw [label_Check_L1])
 rw [label_Check_L1] at h
 refine oi h (fun hb12 h => ?_) (fun hb12 h => ?_)
 have := of_decide_eq_true hb12
 refine obg h (fun x13 _ hkx13 h => ?_)
 try simp only [*, go_sem]
 refine cr h (label_one_ok G x13) (fun v14 h => ?_)
 refine oin h (fun hb15 hkhb15 h => ?_) (fun hb15 hkhb15 h => ?_)
 cases h.e
 simp only [*, go_sem, mA, mS]
 have := Nat.le_of_lt hkx13
 try simp only [*, go_sem]
 intro hl17
 try simp only [*, go_sem]
 refine jn0 h ([zK 1 (Config.enc p0), zL 26 2 (p0.Labels.map Label.enc), zI 27 ((p0.Labels.length : Nat) : Int), zI 28 ((a10_1 : Nat) : Int)]) ([]) (fun k19 h => ?_) (fun h => ?_)
 try simp only [*, go_sem]
 refine lp1 (label_Check_L2 p0 a10_1 x13 k19) (fun a20_1 => [zK 1 (Config.enc p0), zP 4 0, zL 26 2 (p0.Labels.map Label.enc), zI 27 ((p0.Labels.length : Nat) : Int), zI 28 ((a10_1 : Nat) : Int), zL 39 2 ((p0.Labels.take a10_1).map Label.enc), zI 40 ((min a10_1 p0.Labels.length : Nat) : Int), zI 41 ((a20_1 : Nat) : Int)]) (fun a20_1 => [ox x13.bx]) h [] [some 0] (fun n21 a20_1 h => ?_) (by intros; rw [label_Check_L2])
 rw [label_Check_L2] at h
 refine oi h (fun hb22 h => ?_) (fun hb22 h => ?_)
 refine obg h (fun x23 _ hkx23 h => ?_)
 try simp only [List.length_take, List.length_drop, List.length_append, List.length_set, List.length_map, List.length_cons, List.length_nil, Nat.zero_add] at hkx23
 refine oi h (fun hb24 h => ?_) (fun hb24 h => ?_)
 try simp only [*, go_sem]
 cases h.e
 simp only [*, go_sem, mA, mS]
 try simp only [*, go_sem]
 have := wrap_succ_max hkx23 hl17
 try simp only [*, go_sem]
 exact lc (a20_1 + 1) h.e [some 0]
 try simp only [*, go_sem]
 exact jc () h.e []
 have := wrap_succ_max hkx13 hl3
 try simp only [*, go_sem]
 exact lc (a10_1 + 1) h.e []
 try simp only [*, go_sem]
 exact jc () h.e []
 refine oi h (fun hb27 h => ?_) (fun hb27 h => ?_)
 have := of_decide_eq_true hb27
 cases h.e
 simp only [*, go_sem, mA, mS]
 refine oi h (fun hb28 h => ?_) (fun hb28 h => ?_)
 cases h.e
 simp only [*, go_sem, mA, mS]
 cases h.e
 simp only [*, go_sem, mA, mS]
def wire_txn (p0 : Config) (p1 : Txn) : Option (Bool) := (withK (fun (b1_1 : Bool) => (some b1_1)) fun k2 => (if (decide (p1.Site ≥ 0)) = true then (if (decide (p1.Site < p0.Sites)) = true then (if (decide (p1.N ≥ 1)) = true then (k2 (decide (p1.N ≤ 1048576))) else (k2 false)) else (k2 false)) else (k2 false)))
def F20 : VFn := ⟨25, (.seq (.reg [vo 2 (.box 3 (.t 0)), vo 3 (.boxk 2 (.t 1)), vo 4 (.mv (cb false))]) (.seq (.wk (.reg [vf 5 0 3, vs 6 5, bk 7 .geq 6 0, vm 8 7, gt 9 8 (.fa 0 (.t 3)), gt 10 8 (.ld false 1 (.t 9)), gt 11 8 (.fa 0 (.t 2)), gt 12 8 (.ld false 1 (.t 11)), gt 13 8 (.bin .i .lss (.t 10) (.t 12)), vo 14 (.pick (.t 8) (.t 13) (cb false)), vm 15 14, gt 16 15 (.fa 1 (.t 3)), gt 17 15 (.ld false 1 (.t 16)), gt 18 15 (.bin .i .geq (.t 17) (ci 1)), vo 19 (.pick (.t 15) (.t 18) (cb false)), vm 20 19, gt 21 20 (.fa 1 (.t 3)), gt 22 20 (.ld false 1 (.t 21)), gt 23 20 (.bin .i .leq (.t 22) (ci 1048576)), vo 24 (.pick (.t 20) (.t 23) (cb false)), vm 4 24])) .ret)), [.t 4]⟩
theorem low20 : lowF Tryd.prog 20 = some F20.strip := by kernel_rfl
theorem fok20 : fOk Tryd.prog 20 = true := by kernel_rfl
theorem wire_txn_ok (p0 : Config) (p1 : Txn) (r : Bool) (h : wire_txn p0 p1 = some r) : FnRO Tryd.prog G 20 [.agg p0.bx, .agg p1.bx] (fun rs => rs = [.one (.b r)]) := by
 refine FnRO.of' low20 fok20 (by simp [F20]) ?_
 rw [wire_txn] at h
 replace h := Hd.mk h
 simp only [F20, go_sem]
 try simp only [*, go_sem]
 refine jn1 h (fun b1_1 => [zB 4 b1_1]) (fun b1_1 => []) (fun k2 h => ?_) (fun b1_1 h => ?_)
 refine oi h (fun hb3 h => ?_) (fun hb3 h => ?_)
 refine oi h (fun hb4 h => ?_) (fun hb4 h => ?_)
 have := of_decide_eq_true hb4
 refine oi h (fun hb5 h => ?_) (fun hb5 h => ?_)
 try simp only [*, go_sem]
 exact jc (decide (p1.N ≤ 1048576)) h.e []
 try simp only [*, go_sem]
 exact jc (false) h.e []
 try simp only [*, go_sem]
 exact jc (false) h.e []
 try simp only [*, go_sem]
 exact jc (false) h.e []
 cases h.e
 simp only [*, go_sem, mA, mS]
def wire_key (p0 : Int) : Option (Bool) := (withK (fun (b1_1 : Bool) => (some b1_1)) fun k2 => (if (decide (p0 ≥ 0)) = true then (k2 (decide (p0 < 8))) else (k2 false)))
def F21 : VFn := ⟨9, (.seq (.reg [vo 2 (.mv (cb false))]) (.seq (.wk (.reg [vm 3 0, bk 4 .geq 3 0, vm 5 4, gt 6 5 (.mv (.t 0)), gt 7 5 (.bin .i .lss (.t 6) (ci 8)), vo 8 (.pick (.t 5) (.t 7) (cb false)), vm 2 8])) .ret)), [.t 2]⟩
theorem low21 : lowF Tryd.prog 21 = some F21.strip := by kernel_rfl
theorem fok21 : fOk Tryd.prog 21 = true := by kernel_rfl
theorem wire_key_ok (p0 : Int) (r : Bool) (h : wire_key p0 = some r) : FnRO Tryd.prog G 21 [.one (.d (.i .i64 p0))] (fun rs => rs = [.one (.b r)]) := by
 refine FnRO.of' low21 fok21 (by simp [F21]) ?_
 rw [wire_key] at h
 replace h := Hd.mk h
 simp only [F21, go_sem]
 try simp only [*, go_sem]
 refine jn1 h (fun b1_1 => [zB 2 b1_1]) (fun b1_1 => []) (fun k2 h => ?_) (fun b1_1 h => ?_)
 refine oi h (fun hb3 h => ?_) (fun hb3 h => ?_)
 try simp only [*, go_sem]
 exact jc (decide (p0 < 8)) h.e []
 try simp only [*, go_sem]
 exact jc (false) h.e []
 cases h.e
 simp only [*, go_sem, mA, mS]
def wire_value (p0 : Int) : Option (Bool) := (withK (fun (b1_1 : Bool) => (some b1_1)) fun k2 => (if (decide (p0 ≥ 0)) = true then (k2 (decide (p0 ≤ 1073741824))) else (k2 false)))
def F22 : VFn := ⟨9, (.seq (.reg [vo 2 (.mv (cb false))]) (.seq (.wk (.reg [vm 3 0, bk 4 .geq 3 0, vm 5 4, gt 6 5 (.mv (.t 0)), gt 7 5 (.bin .i .leq (.t 6) (ci 1073741824)), vo 8 (.pick (.t 5) (.t 7) (cb false)), vm 2 8])) .ret)), [.t 2]⟩
theorem low22 : lowF Tryd.prog 22 = some F22.strip := by kernel_rfl
theorem fok22 : fOk Tryd.prog 22 = true := by kernel_rfl
theorem wire_value_ok (p0 : Int) (r : Bool) (h : wire_value p0 = some r) : FnRO Tryd.prog G 22 [.one (.d (.i .i64 p0))] (fun rs => rs = [.one (.b r)]) := by
 refine FnRO.of' low22 fok22 (by simp [F22]) ?_
 rw [wire_value] at h
 replace h := Hd.mk h
 simp only [F22, go_sem]
 try simp only [*, go_sem]
 refine jn1 h (fun b1_1 => [zB 2 b1_1]) (fun b1_1 => []) (fun k2 h => ?_) (fun b1_1 h => ?_)
 refine oi h (fun hb3 h => ?_) (fun hb3 h => ?_)
 try simp only [*, go_sem]
 exact jc (decide (p0 ≤ 1073741824)) h.e []
 try simp only [*, go_sem]
 exact jc (false) h.e []
 cases h.e
 simp only [*, go_sem, mA, mS]
def wire_ask (p0 : Int) : Option (Bool) := (withK (fun (b1_1 : Bool) => (some b1_1)) fun k2 => (if (decide (p0 ≥ 0)) = true then (k2 (decide (p0 ≤ 1048576))) else (k2 false)))
def F23 : VFn := ⟨9, (.seq (.reg [vo 2 (.mv (cb false))]) (.seq (.wk (.reg [vm 3 0, bk 4 .geq 3 0, vm 5 4, gt 6 5 (.mv (.t 0)), gt 7 5 (.bin .i .leq (.t 6) (ci 1048576)), vo 8 (.pick (.t 5) (.t 7) (cb false)), vm 2 8])) .ret)), [.t 2]⟩
theorem low23 : lowF Tryd.prog 23 = some F23.strip := by kernel_rfl
theorem fok23 : fOk Tryd.prog 23 = true := by kernel_rfl
theorem wire_ask_ok (p0 : Int) (r : Bool) (h : wire_ask p0 = some r) : FnRO Tryd.prog G 23 [.one (.d (.i .i64 p0))] (fun rs => rs = [.one (.b r)]) := by
 refine FnRO.of' low23 fok23 (by simp [F23]) ?_
 rw [wire_ask] at h
 replace h := Hd.mk h
 simp only [F23, go_sem]
 try simp only [*, go_sem]
 refine jn1 h (fun b1_1 => [zB 2 b1_1]) (fun b1_1 => []) (fun k2 h => ?_) (fun b1_1 h => ?_)
 refine oi h (fun hb3 h => ?_) (fun hb3 h => ?_)
 try simp only [*, go_sem]
 exact jc (decide (p0 ≤ 1048576)) h.e []
 try simp only [*, go_sem]
 exact jc (false) h.e []
 cases h.e
 simp only [*, go_sem, mA, mS]
def wire_code (p0 : Int) : Option (Bool) := (withK (fun (b1_1 : Bool) => (some b1_1)) fun k2 => (if (p0 == 0) = true then (k2 true) else (if (p0 == 11) = true then (k2 true) else (k2 (p0 == 8)))))
def F24 : VFn := ⟨13, (.seq (.reg [vo 2 (.mv (cb false))]) (.seq (.wk (.reg [vm 3 0, bk 4 .eql 3 0, vm 5 4, gf 6 5 (.mv (.t 0)), gf 7 5 (.bin .i .eql (.t 6) (ci 11)), vo 8 (.pick (.t 5) (cb true) (.t 7)), vm 9 8, gf 10 9 (.mv (.t 0)), gf 11 9 (.bin .i .eql (.t 10) (ci 8)), vo 12 (.pick (.t 9) (cb true) (.t 11)), vm 2 12])) .ret)), [.t 2]⟩
theorem low24 : lowF Tryd.prog 24 = some F24.strip := by kernel_rfl
theorem fok24 : fOk Tryd.prog 24 = true := by kernel_rfl
theorem wire_code_ok (p0 : Int) (r : Bool) (h : wire_code p0 = some r) : FnRO Tryd.prog G 24 [.one (.d (.i .i64 p0))] (fun rs => rs = [.one (.b r)]) := by
 refine FnRO.of' low24 fok24 (by simp [F24]) ?_
 rw [wire_code] at h
 replace h := Hd.mk h
 simp only [F24, go_sem]
 try simp only [*, go_sem]
 refine jn1 h (fun b1_1 => [zB 2 b1_1]) (fun b1_1 => []) (fun k2 h => ?_) (fun b1_1 h => ?_)
 refine oi h (fun hb3 h => ?_) (fun hb3 h => ?_)
 try simp only [*, go_sem]
 exact jc (true) h.e []
 refine oi h (fun hb4 h => ?_) (fun hb4 h => ?_)
 try simp only [*, go_sem]
 exact jc (true) h.e []
 try simp only [*, go_sem]
 exact jc (p0 == 8) h.e []
 cases h.e
 simp only [*, go_sem, mA, mS]
def wire_CheckMessage (p0 : Config) (p1 : Message) : Option (Int) := (Option.bind (label_Check p0) fun v1 => (if (v1 != 0) = true then (some v1) else (if (decide (p1.Kind < 1)) = true then (some 3) else (if (decide (p1.Kind > 9)) = true then (some 3) else (withK (fun (b11_1 : Bool) => (withK (fun (b20_1 : Bool) => (withK (fun (b24_1 : Bool) => (withK (fun (b32_1 : Bool) => (if b32_1 = true then (some 2) else (Option.bind (wire_code p1.Code) fun v37 => (if (!v37) = true then (some 2) else (if 0 ≤ p1.Kind then (Option.bind (tab_wire_messages[p1.Kind.toNat]?) fun x39 => (if ((((((((!x39.label) && (p1.Label != 0)) || ((!x39.key) && (p1.Key != 0))) || ((!x39.value) && (p1.Value != 0))) || ((!x39.version) && (p1.Version != 0))) || ((!x39.ask) && (p1.Ask != 0))) || ((!x39.yes) && p1.Yes)) || ((!x39.code) && (p1.Code != 0))) = true then (some 4) else (if (p1.Code != 0) = true then (if (IntKind.i64.wrap (p1.Value + p1.Version) != 0) = true then (some 4) else (some 0)) else (some 0)))) else none))))) fun k33 => (if ((b24_1 || (decide (p1.Version < 0))) || (decide (p1.Version > 1048576))) = true then (k33 true) else (Option.bind (wire_ask p1.Ask) fun v35 => (k33 (!v35)))))) fun k25 => (if b20_1 = true then (k25 true) else (Option.bind (wire_value p1.Value) fun v27 => (k25 (!v27)))))) fun k21 => (if ((b11_1 || (decide (p1.Label < 0))) || (decide (p1.Label ≥ ((p0.Labels.length : Nat) : Int)))) = true then (k21 true) else (Option.bind (wire_key p1.Key) fun v23 => (k21 (!v23)))))) fun k12 => (if ((((decide (p1.From < 0)) || (decide (p1.From ≥ p0.Sites))) || (decide (p1.To < 0))) || (decide (p1.To ≥ p0.Sites))) = true then (k12 true) else (Option.bind (wire_txn p0 p1.Txn) fun v14 => (k12 (!v14)))))))))
def F12 : VFn := ⟨180, (.seq (.reg [vo 2 (.boxk 3 (.t 0)), vo 3 (.boxk 12 (.t 1)), mi 4 0]) (.seq (.seq (.reg [vl 7 3 2, vo 8 (.call 19 [(.t 7)]), vm 5 8]) (.seq (.reg [vm 9 5, bk 10 .neq 9 0]) (.cond (.t 10) (.seq (.reg [vm 11 5, vm 4 11]) .ret) .skip))) (.seq (.seq (.reg [vf 12 0 3, vs 13 12, bk 14 .lss 13 1, vm 15 14, gf 16 15 (.fa 0 (.t 3)), gf 17 15 (.ld false 1 (.t 16)), gf 18 15 (.bin .i .gtr (.t 17) (ci 9)), vo 19 (.pick (.t 15) (cb true) (.t 18))]) (.cond (.t 19) (.seq (.reg [mi 4 3]) .ret) .skip)) (.seq (.seq (.regs [[vf 20 1 3, vs 21 20, bk 22 .lss 21 0, vm 23 22, gf 24 23 (.fa 1 (.t 3)), gf 25 23 (.ld false 1 (.t 24)), gf 26 23 (.fa 0 (.t 2)), gf 27 23 (.ld false 1 (.t 26)), gf 28 23 (.bin .i .geq (.t 25) (.t 27)), vo 29 (.pick (.t 23) (cb true) (.t 28))], [vm 30 29, gf 31 30 (.fa 2 (.t 3)), gf 32 30 (.ld false 1 (.t 31)), gf 33 30 (.bin .i .lss (.t 32) (ci 0)), vo 34 (.pick (.t 30) (cb true) (.t 33))], [vm 35 34, gf 36 35 (.fa 2 (.t 3)), gf 37 35 (.ld false 1 (.t 36)), gf 38 35 (.fa 0 (.t 2)), gf 39 35 (.ld false 1 (.t 38)), gf 40 35 (.bin .i .geq (.t 37) (.t 39)), vo 41 (.pick (.t 35) (cb true) (.t 40))], [vm 42 41, gf 43 42 (.ld true 3 (.t 2)), gf 44 42 (.fa 3 (.t 3)), gf 45 42 (.ld true 2 (.t 44)), gf 46 42 (.call 20 [(.t 43), (.t 45)]), gf 47 42 (.un .not (.t 46)), vo 48 (.pick (.t 42) (cb true) (.t 47))], [vm 49 48, gf 50 49 (.fa 5 (.t 3)), gf 51 49 (.ld false 1 (.t 50)), gf 52 49 (.bin .i .lss (.t 51) (ci 0)), vo 53 (.pick (.t 49) (cb true) (.t 52))], [vm 54 53, gf 55 54 (.fa 5 (.t 3)), gf 56 54 (.ld false 1 (.t 55)), gf 57 54 (.fa 1 (.t 2)), gf 58 54 (.ld false 1 (.t 57)), gf 59 54 (.len (.t 58)), gf 60 54 (.bin .i .geq (.t 56) (.t 59)), vo 61 (.pick (.t 54) (cb true) (.t 60))], [vm 62 61, gf 63 62 (.fa 6 (.t 3)), gf 64 62 (.ld false 1 (.t 63)), gf 65 62 (.call 21 [(.t 64)]), gf 66 62 (.un .not (.t 65)), vo 67 (.pick (.t 62) (cb true) (.t 66))], [vm 68 67, gf 69 68 (.fa 7 (.t 3)), gf 70 68 (.ld false 1 (.t 69)), gf 71 68 (.call 22 [(.t 70)]), gf 72 68 (.un .not (.t 71)), vo 73 (.pick (.t 68) (cb true) (.t 72))], [vm 74 73, gf 75 74 (.fa 8 (.t 3)), gf 76 74 (.ld false 1 (.t 75)), gf 77 74 (.bin .i .lss (.t 76) (ci 0)), vo 78 (.pick (.t 74) (cb true) (.t 77))], [vm 79 78, gf 80 79 (.fa 8 (.t 3)), gf 81 79 (.ld false 1 (.t 80)), gf 82 79 (.bin .i .gtr (.t 81) (ci 1048576)), vo 83 (.pick (.t 79) (cb true) (.t 82))], [vm 84 83, gf 85 84 (.fa 9 (.t 3)), gf 86 84 (.ld false 1 (.t 85)), gf 87 84 (.call 23 [(.t 86)]), gf 88 84 (.un .not (.t 87)), vo 89 (.pick (.t 84) (cb true) (.t 88))], [vm 90 89, gf 91 90 (.fa 11 (.t 3)), gf 92 90 (.ld false 1 (.t 91)), gf 93 90 (.call 24 [(.t 92)]), gf 94 90 (.un .not (.t 93)), vo 95 (.pick (.t 90) (cb true) (.t 94))]]) (.cond (.t 95) (.seq (.reg [mi 4 2]) .ret) .skip)) (.seq (.reg [vf 96 0 3, vs 97 96, vo 98 (.iaa 10 8 (.g 0) (.t 97)), vl 99 8 98, vo 6 (.alloc [(.d (.b false)), (.d (.b false)), (.d (.b false)), (.d (.b false)), (.d (.b false)), (.d (.b false)), (.d (.b false)), (.d (.b false))]), vu (.st 8 (.t 6) (.t 99))]) (.seq (.seq (.regs [[vf 100 0 6, vs 101 100, nt 102 101, vm 103 102, gt 104 103 (.fa 5 (.t 3)), gt 105 103 (.ld false 1 (.t 104)), gt 106 103 (.bin .i .neq (.t 105) (ci 0)), vo 107 (.pick (.t 103) (.t 106) (cb false))], [vm 108 107, gf 109 108 (.fa 1 (.t 6)), gf 110 108 (.ld false 1 (.t 109)), gf 111 108 (.un .not (.t 110)), gf 112 108 (.mv (.t 111)), gt 113 112 (.fa 6 (.t 3)), gt 114 112 (.ld false 1 (.t 113)), gt 115 112 (.bin .i .neq (.t 114) (ci 0)), gf 116 108 (.pick (.t 112) (.t 115) (cb false)), vo 117 (.pick (.t 108) (cb true) (.t 116))], [vm 118 117, gf 119 118 (.fa 2 (.t 6)), gf 120 118 (.ld false 1 (.t 119)), gf 121 118 (.un .not (.t 120)), gf 122 118 (.mv (.t 121)), gt 123 122 (.fa 7 (.t 3)), gt 124 122 (.ld false 1 (.t 123)), gt 125 122 (.bin .i .neq (.t 124) (ci 0)), gf 126 118 (.pick (.t 122) (.t 125) (cb false)), vo 127 (.pick (.t 118) (cb true) (.t 126))], [vm 128 127, gf 129 128 (.fa 3 (.t 6)), gf 130 128 (.ld false 1 (.t 129)), gf 131 128 (.un .not (.t 130)), gf 132 128 (.mv (.t 131)), gt 133 132 (.fa 8 (.t 3)), gt 134 132 (.ld false 1 (.t 133)), gt 135 132 (.bin .i .neq (.t 134) (ci 0)), gf 136 128 (.pick (.t 132) (.t 135) (cb false)), vo 137 (.pick (.t 128) (cb true) (.t 136))], [vm 138 137, gf 139 138 (.fa 4 (.t 6)), gf 140 138 (.ld false 1 (.t 139)), gf 141 138 (.un .not (.t 140)), gf 142 138 (.mv (.t 141)), gt 143 142 (.fa 9 (.t 3)), gt 144 142 (.ld false 1 (.t 143)), gt 145 142 (.bin .i .neq (.t 144) (ci 0)), gf 146 138 (.pick (.t 142) (.t 145) (cb false)), vo 147 (.pick (.t 138) (cb true) (.t 146))], [vm 148 147, gf 149 148 (.fa 5 (.t 6)), gf 150 148 (.ld false 1 (.t 149)), gf 151 148 (.un .not (.t 150)), gf 152 148 (.mv (.t 151)), gt 153 152 (.fa 10 (.t 3)), gt 154 152 (.ld false 1 (.t 153)), gf 155 148 (.pick (.t 152) (.t 154) (cb false)), vo 156 (.pick (.t 148) (cb true) (.t 155))], [vm 157 156, gf 158 157 (.fa 6 (.t 6)), gf 159 157 (.ld false 1 (.t 158)), gf 160 157 (.un .not (.t 159)), gf 161 157 (.mv (.t 160)), gt 162 161 (.fa 11 (.t 3)), gt 163 161 (.ld false 1 (.t 162)), gt 164 161 (.bin .i .neq (.t 163) (ci 0)), gf 165 157 (.pick (.t 161) (.t 164) (cb false)), vo 166 (.pick (.t 157) (cb true) (.t 165))], [vm 167 166, gf 168 167 (.fa 11 (.t 3)), gf 169 167 (.ld false 1 (.t 168)), gf 170 167 (.bin .i .neq (.t 169) (ci 0)), gf 171 167 (.mv (.t 170)), gt 172 171 (.fa 7 (.t 3)), gt 173 171 (.ld false 1 (.t 172)), gt 174 171 (.fa 8 (.t 3)), gt 175 171 (.ld false 1 (.t 174)), gt 176 171 (.bin .i .add (.t 173) (.t 175)), gt 177 171 (.bin .i .neq (.t 176) (ci 0)), gf 178 167 (.pick (.t 171) (.t 177) (cb false)), vo 179 (.pick (.t 167) (cb true) (.t 178))]]) (.cond (.t 179) (.seq (.reg [mi 4 4]) .ret) .skip)) (.seq (.reg [mi 4 0]) .ret))))))), [.t 4]⟩
theorem low12 : lowF Tryd.prog 12 = some F12.strip := by kernel_rfl
theorem fok12 : fOk Tryd.prog 12 = true := by kernel_rfl
theorem wire_CheckMessage_ok (htab_wire_messages : constG G 0 = .one (.d (.k tab_wire_messagesD))) (p0 : Config) (p1 : Message) (r : Int) (h : wire_CheckMessage p0 p1 = some r) : FnRO Tryd.prog G 12 [.agg p0.bx, .agg p1.bx] (fun rs => rs = [.one (.i .i64 r)]) := by
 refine FnRO.of' low12 fok12 (by simp [F12]) ?_
 rw [wire_CheckMessage] at h
 replace h := Hd.mk h
 simp only [F12, go_sem]
 try simp only [*, go_sem]
 refine cr h (label_Check_ok G p0) (fun v1 h => ?_)
 refine oi h (fun hb2 h => ?_) (fun hb2 h => ?_)
 cases h.e
 simp only [*, go_sem, mA, mS]
 refine oi h (fun hb3 h => ?_) (fun hb3 h => ?_)
 have := of_decide_eq_true hb3
 cases h.e
 simp only [*, go_sem, mA, mS]
 refine oi h (fun hb4 h => ?_) (fun hb4 h => ?_)
 cases h.e
 simp only [*, go_sem, mA, mS]
 try simp only [*, go_sem]
 refine regs_lk _ G _ _ (B := Bool) (fun b => b = ((decide (p1.From < 0)) || (decide (p1.From ≥ p0.Sites)))) (fun b => [zK 2 (Config.enc p0), zK 3 (Message.enc p1), zB 29 b]) (fun b => []) ?_ ?_
 refine bc (decide (p1.From < 0)) (fun hb6 => ?_) (fun hb6 => ?_)
 have := of_decide_eq_true hb6
 try simp only [*, go_sem]
 exact jb true []
 try simp only [*, go_sem]
 exact jb (decide (p1.From ≥ p0.Sites)) []
 intro b hb0
 subst hb0
 try simp only [*, go_sem]
 refine regs_lk _ G _ _ (B := Bool) (fun b => b = (((decide (p1.From < 0)) || (decide (p1.From ≥ p0.Sites))) || (decide (p1.To < 0)))) (fun b => [zK 2 (Config.enc p0), zK 3 (Message.enc p1), zB 34 b]) (fun b => []) ?_ ?_
 refine bc ((decide (p1.From < 0)) || (decide (p1.From ≥ p0.Sites))) (fun hb8 => ?_) (fun hb8 => ?_)
 try simp only [*, go_sem]
 try simp only [*, go_sem]
 exact jb true []
 try simp only [*, go_sem]
 try simp only [*, go_sem]
 exact jb (decide (p1.To < 0)) []
 intro b hb0
 subst hb0
 try simp only [*, go_sem]
 refine regs_lk _ G _ _ (B := Bool) (fun b => b = ((((decide (p1.From < 0)) || (decide (p1.From ≥ p0.Sites))) || (decide (p1.To < 0))) || (decide (p1.To ≥ p0.Sites)))) (fun b => [zK 2 (Config.enc p0), zK 3 (Message.enc p1), zB 41 b]) (fun b => []) ?_ ?_
 refine bc (((decide (p1.From < 0)) || (decide (p1.From ≥ p0.Sites))) || (decide (p1.To < 0))) (fun hb10 => ?_) (fun hb10 => ?_)
 try simp only [*, go_sem]
 try simp only [*, go_sem]
 exact jb true []
 try simp only [*, go_sem]
 try simp only [*, go_sem]
 exact jb (decide (p1.To ≥ p0.Sites)) []
 intro b hb0
 subst hb0
 try simp only [*, go_sem]
 refine rg1 h (fun b11_1 => [zK 2 (Config.enc p0), zK 3 (Message.enc p1), zB 48 b11_1]) (fun b11_1 => []) (fun k12 h => ?_) (fun b11_1 h => ?_)
 refine oi h (fun hb13 h => ?_) (fun hb13 h => ?_)
 try simp only [*, go_sem]
 try simp only [*, go_sem]
 exact jc (true) h.e []
 try simp only [*, go_sem]
 try simp only [*, go_sem]
 refine cr h (wire_txn_ok G p0 p1.Txn) (fun v14 h => ?_)
 try simp only [*, go_sem]
 exact jc (!v14) h.e []
 try simp only [*, go_sem]
 refine regs_lk _ G _ _ (B := Bool) (fun b => b = (b11_1 || (decide (p1.Label < 0)))) (fun b => [zK 2 (Config.enc p0), zK 3 (Message.enc p1), zB 53 b]) (fun b => []) ?_ ?_
 refine bc b11_1 (fun hb16 => ?_) (fun hb16 => ?_)
 try simp only [*, go_sem]
 exact jb true []
 try simp only [*, go_sem]
 exact jb (decide (p1.Label < 0)) []
 intro b hb0
 subst hb0
 try simp only [*, go_sem]
 refine regs_lk _ G _ _ (B := Bool) (fun b => b = ((b11_1 || (decide (p1.Label < 0))) || (decide (p1.Label ≥ ((p0.Labels.length : Nat) : Int))))) (fun b => [zK 3 (Message.enc p1), zB 61 b]) (fun b => []) ?_ ?_
 refine bc (b11_1 || (decide (p1.Label < 0))) (fun hb18 => ?_) (fun hb18 => ?_)
 try simp only [*, go_sem]
 try simp only [*, go_sem]
 exact jb true []
 try simp only [*, go_sem]
 try simp only [*, go_sem]
 intro hl19
 try simp only [*, go_sem]
 exact jb (decide (p1.Label ≥ ((p0.Labels.length : Nat) : Int))) []
 intro b hb0
 subst hb0
 try simp only [*, go_sem]
 refine rg1 h (fun b20_1 => [zK 3 (Message.enc p1), zB 67 b20_1]) (fun b20_1 => []) (fun k21 h => ?_) (fun b20_1 h => ?_)
 refine oi h (fun hb22 h => ?_) (fun hb22 h => ?_)
 try simp only [*, go_sem]
 try simp only [*, go_sem]
 exact jc (true) h.e []
 try simp only [*, go_sem]
 try simp only [*, go_sem]
 refine cr h (wire_key_ok G p1.Key) (fun v23 h => ?_)
 try simp only [*, go_sem]
 exact jc (!v23) h.e []
 try simp only [*, go_sem]
 refine rg1 h (fun b24_1 => [zK 3 (Message.enc p1), zB 73 b24_1]) (fun b24_1 => []) (fun k25 h => ?_) (fun b24_1 h => ?_)
 refine oi h (fun hb26 h => ?_) (fun hb26 h => ?_)
 try simp only [*, go_sem]
 exact jc (true) h.e []
 try simp only [*, go_sem]
 refine cr h (wire_value_ok G p1.Value) (fun v27 h => ?_)
 try simp only [*, go_sem]
 exact jc (!v27) h.e []
 try simp only [*, go_sem]
 refine regs_lk _ G _ _ (B := Bool) (fun b => b = (b24_1 || (decide (p1.Version < 0)))) (fun b => [zK 3 (Message.enc p1), zB 78 b]) (fun b => []) ?_ ?_
 refine bc b24_1 (fun hb29 => ?_) (fun hb29 => ?_)
 try simp only [*, go_sem]
 exact jb true []
 try simp only [*, go_sem]
 exact jb (decide (p1.Version < 0)) []
 intro b hb0
 subst hb0
 try simp only [*, go_sem]
 refine regs_lk _ G _ _ (B := Bool) (fun b => b = ((b24_1 || (decide (p1.Version < 0))) || (decide (p1.Version > 1048576)))) (fun b => [zK 3 (Message.enc p1), zB 83 b]) (fun b => []) ?_ ?_
 refine bc (b24_1 || (decide (p1.Version < 0))) (fun hb31 => ?_) (fun hb31 => ?_)
 try simp only [*, go_sem]
 try simp only [*, go_sem]
 exact jb true []
 try simp only [*, go_sem]
 try simp only [*, go_sem]
 exact jb (decide (p1.Version > 1048576)) []
 intro b hb0
 subst hb0
 try simp only [*, go_sem]
 refine rg1 h (fun b32_1 => [zK 3 (Message.enc p1), zB 89 b32_1]) (fun b32_1 => []) (fun k33 h => ?_) (fun b32_1 h => ?_)
 refine oi h (fun hb34 h => ?_) (fun hb34 h => ?_)
 try simp only [*, go_sem]
 try simp only [*, go_sem]
 exact jc (true) h.e []
 try simp only [*, go_sem]
 try simp only [*, go_sem]
 refine cr h (wire_ask_ok G p1.Ask) (fun v35 h => ?_)
 try simp only [*, go_sem]
 exact jc (!v35) h.e []
 refine oi h (fun hb36 h => ?_) (fun hb36 h => ?_)
 cases h.e
 simp only [*, go_sem, mA, mS]
 try simp only [*, go_sem]
 refine cr h (wire_code_ok G p1.Code) (fun v37 h => ?_)
 refine oin h (fun hb38 hkhb38 h => ?_) (fun hb38 hkhb38 h => ?_)
 cases h.e
 simp only [*, go_sem, mA, mS]
 refine ck h (fun _ h => ?_)
 refine obg h (fun x39 _ hkx39 h => ?_)
 rw [tab_wire_messages_len] at hkx39
 have : p1.Kind < 10 := by omega
 try simp only [*, go_sem]
 refine regs_lk _ G _ _ (B := Bool) (fun b => b = ((!x39.label) && (p1.Label != 0))) (fun b => [zK 3 (Message.enc p1), zP 6 0, zB 107 b]) (fun b => [ox x39.bx]) ?_ ?_
 refine bcn x39.label (fun hb42 hkhb42 => ?_) (fun hb42 hkhb42 => ?_)
 try simp only [*, go_sem]
 exact jb (p1.Label != 0) [some 0]
 try simp only [*, go_sem]
 exact jb false [some 0]
 intro b hb0
 subst hb0
 try simp only [*, go_sem]
 refine regs_lk _ G _ _ (B := Bool) (fun b => b = (((!x39.label) && (p1.Label != 0)) || ((!x39.key) && (p1.Key != 0)))) (fun b => [zK 3 (Message.enc p1), zP 6 0, zB 117 b]) (fun b => [ox x39.bx]) ?_ ?_
 refine bc ((!x39.label) && (p1.Label != 0)) (fun hb44 => ?_) (fun hb44 => ?_)
 try simp only [*, go_sem]
 try simp only [*, go_sem]
 exact jb true [some 0]
 try simp only [*, go_sem]
 refine bcn x39.key (fun hb45 hkhb45 => ?_) (fun hb45 hkhb45 => ?_)
 try simp only [*, go_sem]
 exact jb (p1.Key != 0) [some 0]
 try simp only [*, go_sem]
 exact jb false [some 0]
 intro b hb0
 subst hb0
 try simp only [*, go_sem]
 refine regs_lk _ G _ _ (B := Bool) (fun b => b = ((((!x39.label) && (p1.Label != 0)) || ((!x39.key) && (p1.Key != 0))) || ((!x39.value) && (p1.Value != 0)))) (fun b => [zK 3 (Message.enc p1), zP 6 0, zB 127 b]) (fun b => [ox x39.bx]) ?_ ?_
 refine bc (((!x39.label) && (p1.Label != 0)) || ((!x39.key) && (p1.Key != 0))) (fun hb47 => ?_) (fun hb47 => ?_)
 try simp only [*, go_sem]
 try simp only [*, go_sem]
 exact jb true [some 0]
 try simp only [*, go_sem]
 refine bcn x39.value (fun hb48 hkhb48 => ?_) (fun hb48 hkhb48 => ?_)
 try simp only [*, go_sem]
 exact jb (p1.Value != 0) [some 0]
 try simp only [*, go_sem]
 exact jb false [some 0]
 intro b hb0
 subst hb0
 try simp only [*, go_sem]
 refine regs_lk _ G _ _ (B := Bool) (fun b => b = (((((!x39.label) && (p1.Label != 0)) || ((!x39.key) && (p1.Key != 0))) || ((!x39.value) && (p1.Value != 0))) || ((!x39.version) && (p1.Version != 0)))) (fun b => [zK 3 (Message.enc p1), zP 6 0, zB 137 b]) (fun b => [ox x39.bx]) ?_ ?_
 refine bc ((((!x39.label) && (p1.Label != 0)) || ((!x39.key) && (p1.Key != 0))) || ((!x39.value) && (p1.Value != 0))) (fun hb50 => ?_) (fun hb50 => ?_)
 try simp only [*, go_sem]
 try simp only [*, go_sem]
 exact jb true [some 0]
 try simp only [*, go_sem]
 refine bcn x39.version (fun hb51 hkhb51 => ?_) (fun hb51 hkhb51 => ?_)
 try simp only [*, go_sem]
 exact jb (p1.Version != 0) [some 0]
 try simp only [*, go_sem]
 exact jb false [some 0]
 intro b hb0
 subst hb0
 try simp only [*, go_sem]
 refine regs_lk _ G _ _ (B := Bool) (fun b => b = ((((((!x39.label) && (p1.Label != 0)) || ((!x39.key) && (p1.Key != 0))) || ((!x39.value) && (p1.Value != 0))) || ((!x39.version) && (p1.Version != 0))) || ((!x39.ask) && (p1.Ask != 0)))) (fun b => [zK 3 (Message.enc p1), zP 6 0, zB 147 b]) (fun b => [ox x39.bx]) ?_ ?_
 refine bc (((((!x39.label) && (p1.Label != 0)) || ((!x39.key) && (p1.Key != 0))) || ((!x39.value) && (p1.Value != 0))) || ((!x39.version) && (p1.Version != 0))) (fun hb53 => ?_) (fun hb53 => ?_)
 try simp only [*, go_sem]
 try simp only [*, go_sem]
 exact jb true [some 0]
 try simp only [*, go_sem]
 refine bcn x39.ask (fun hb54 hkhb54 => ?_) (fun hb54 hkhb54 => ?_)
 try simp only [*, go_sem]
 exact jb (p1.Ask != 0) [some 0]
 try simp only [*, go_sem]
 exact jb false [some 0]
 intro b hb0
 subst hb0
 try simp only [*, go_sem]
 refine regs_lk _ G _ _ (B := Bool) (fun b => b = (((((((!x39.label) && (p1.Label != 0)) || ((!x39.key) && (p1.Key != 0))) || ((!x39.value) && (p1.Value != 0))) || ((!x39.version) && (p1.Version != 0))) || ((!x39.ask) && (p1.Ask != 0))) || ((!x39.yes) && p1.Yes))) (fun b => [zK 3 (Message.enc p1), zP 6 0, zB 156 b]) (fun b => [ox x39.bx]) ?_ ?_
 refine bc ((((((!x39.label) && (p1.Label != 0)) || ((!x39.key) && (p1.Key != 0))) || ((!x39.value) && (p1.Value != 0))) || ((!x39.version) && (p1.Version != 0))) || ((!x39.ask) && (p1.Ask != 0))) (fun hb56 => ?_) (fun hb56 => ?_)
 try simp only [*, go_sem]
 try simp only [*, go_sem]
 exact jb true [some 0]
 try simp only [*, go_sem]
 refine bcn x39.yes (fun hb57 hkhb57 => ?_) (fun hb57 hkhb57 => ?_)
 try simp only [*, go_sem]
 exact jb p1.Yes [some 0]
 try simp only [*, go_sem]
 exact jb false [some 0]
 intro b hb0
 subst hb0
 try simp only [*, go_sem]
 refine regs_lk _ G _ _ (B := Bool) (fun b => b = ((((((((!x39.label) && (p1.Label != 0)) || ((!x39.key) && (p1.Key != 0))) || ((!x39.value) && (p1.Value != 0))) || ((!x39.version) && (p1.Version != 0))) || ((!x39.ask) && (p1.Ask != 0))) || ((!x39.yes) && p1.Yes)) || ((!x39.code) && (p1.Code != 0)))) (fun b => [zK 3 (Message.enc p1), zB 166 b]) (fun b => []) ?_ ?_
 refine bc (((((((!x39.label) && (p1.Label != 0)) || ((!x39.key) && (p1.Key != 0))) || ((!x39.value) && (p1.Value != 0))) || ((!x39.version) && (p1.Version != 0))) || ((!x39.ask) && (p1.Ask != 0))) || ((!x39.yes) && p1.Yes)) (fun hb59 => ?_) (fun hb59 => ?_)
 try simp only [*, go_sem]
 try simp only [*, go_sem]
 exact jb true []
 try simp only [*, go_sem]
 refine bcn x39.code (fun hb60 hkhb60 => ?_) (fun hb60 hkhb60 => ?_)
 try simp only [*, go_sem]
 exact jb (p1.Code != 0) []
 try simp only [*, go_sem]
 exact jb false []
 intro b hb0
 subst hb0
 refine oi h (fun hb61 h => ?_) (fun hb61 h => ?_)
 try simp only [*, go_sem]
 cases h.e
 simp only [*, go_sem, mA, mS]
 try simp only [*, go_sem]
 refine oi h (fun hb62 h => ?_) (fun hb62 h => ?_)
 refine oi h (fun hb63 h => ?_) (fun hb63 h => ?_)
 cases h.e
 simp only [*, go_sem, mA, mS]
 cases h.e
 simp only [*, go_sem, mA, mS]
 cases h.e
 simp only [*, go_sem, mA, mS]
def net_Check_L2 (p0 : Config) (a8_1 : Nat) (x11 : List Message) (k16 : Option (Int)) : Nat → Nat → Option (Int)
 | 0, _ => none
 | n18 + 1, a17_1 => (if (decide (a17_1 < x11.length)) = true then (Option.bind (x11[a17_1]?) fun x20 => (Option.bind (wire_CheckMessage p0 x20) fun v21 => (if (v21 != 0) = true then (some 9) else (if p0.Sites = 0 then none else (if (x20.From != IntKind.i64.wrap (((a8_1 : Nat) : Int).tdiv p0.Sites)) = true then (some 9) else (if p0.Sites = 0 then none else (if (x20.To != ((a8_1 : Nat) : Int).tmod p0.Sites) = true then (some 9) else (net_Check_L2 p0 a8_1 x11 k16 n18 (a17_1 + 1))))))))) else k16)
def net_Check_L1 (p0 : Config) (p1 : List (List Message)) (k7 : Option (Int)) : Nat → Nat → Option (Int)
 | 0, _ => none
 | n9 + 1, a8_1 => (if (decide (a8_1 < p1.length)) = true then (Option.bind (p1[a8_1]?) fun x11 => (if (decide (((x11.length : Nat) : Int) > 30)) = true then (some 9) else (withK (net_Check_L1 p0 p1 k7 n9 (a8_1 + 1)) fun k16 => (net_Check_L2 p0 a8_1 x11 k16 (x11.length + 1) 0)))) else k7)
def net_Check (p0 : Config) (p1 : List (List Message)) : Option (Int) := (Option.bind (label_Check p0) fun v1 => (if (v1 != 0) = true then (some v1) else (if (((p1.length : Nat) : Int) != IntKind.i64.wrap (p0.Sites * p0.Sites)) = true then (some 9) else (withK (some 0) fun k7 => (net_Check_L1 p0 p1 k7 (p1.length + 1) 0)))))
def F11 : VFn := ⟨63, (.seq (.reg [vo 2 (.box 3 (.t 0)), mi 4 0]) (.seq (.seq (.reg [vl 10 3 2, vo 11 (.call 19 [(.t 10)]), vm 5 11]) (.seq (.reg [vm 12 5, bk 13 .neq 12 0]) (.cond (.t 13) (.seq (.reg [vm 14 5, vm 4 14]) .ret) .skip))) (.seq (.seq (.reg [vm 15 1, ln 16 15, vf 17 0 2, vs 18 17, vf 19 0 2, vs 20 19, bt 21 .mul 18 20, bt 22 .neq 16 21]) (.cond (.t 22) (.seq (.reg [mi 4 9]) .ret) .skip)) (.seq (.seq (.reg [vm 23 1, ln 24 23, mi 25 0]) (.wk (.block 0 (.loop (.seq (.reg [bt 26 .lss 25 24]) (.seq (.cond (.t 26) .skip (.exit 0)) (.seq (.block 1 (.seq (.reg [vm 27 25, xa 28 1 23 25, vs 29 28, vm 6 27, vm 7 29]) (.seq (.seq (.reg [vm 30 7, ln 31 30, bk 32 .gtr 31 30]) (.cond (.t 32) (.seq (.reg [mi 4 9]) .ret) .skip)) (.seq (.reg [vm 33 7, ln 34 33, mi 35 0]) (.wk (.block 2 (.loop (.seq (.reg [bt 36 .lss 35 34]) (.seq (.cond (.t 36) .skip (.exit 2)) (.seq (.block 3 (.seq (.reg [xa 37 12 33 35, vl 38 12 37, vo 9 (.alloc [(zi 0), (zi 0), (zi 0), (zi 0), (zi 0), (zi 0), (zi 0), (zi 0), (zi 0), (zi 0), (.d (.b false)), (zi 0)]), vu (.st 12 (.t 9) (.t 38))]) (.seq (.draw [vd (vl 39 3 2) 0, vd (vl 40 12 9) 0, vd (vo 41 (.call 12 [(.t 39), (.t 40)])) 3, vd (bk 42 .neq 41 0) 7, vd (vm 43 42) 15, vd (gf 44 43 (.fa 1 (.t 9))) 31, vd (gf 45 43 (.ld false 1 (.t 44))) 63, vd (gf 46 43 (.mv (.t 6))) 31, vd (gf 47 43 (.fa 0 (.t 2))) 31, vd (gf 48 43 (.ld false 1 (.t 47))) 287, vd (gf 49 43 (.bin .i .quo (.t 46) (.t 48))) 927, vd (gf 50 43 (.bin .i .neq (.t 45) (.t 49))) 2047, vd (vo 51 (.pick (.t 43) (cb true) (.t 50))) 4095, vd (vm 52 51) 8191, vd (gf 53 52 (.fa 2 (.t 9))) 0x3fff, vd (gf 54 52 (.ld false 1 (.t 53))) 0x7fff, vd (gf 55 52 (.mv (.t 6))) 0x3fff, vd (gf 56 52 (.fa 0 (.t 2))) 0x3fff, vd (gf 57 52 (.ld false 1 (.t 56))) 0x23fff, vd (gf 58 52 (.bin .i .rem (.t 55) (.t 57))) 0x73fff, vd (gf 59 52 (.bin .i .neq (.t 54) (.t 58))) 0xfffff, vd (vo 60 (.pick (.t 52) (cb true) (.t 59))) 0x1fffff]) (.cond (.t 60) (.seq (.reg [mi 4 9]) .ret) .skip)))) (.reg [bk 61 .add 35 1, vm 35 61]))))))))))) (.reg [bk 62 .add 25 1, vm 25 62])))))))) (.seq (.reg [mi 4 0]) .ret))))), [.t 4]⟩
theorem low11 : lowF Tryd.prog 11 = some F11.strip := by kernel_rfl
theorem fok11 : fOk Tryd.prog 11 = true := by kernel_rfl
theorem net_Check_ok (htab_wire_messages : constG G 0 = .one (.d (.k tab_wire_messagesD))) (p0 : Config) (p1 : List (List Message)) (r : Int) (h : net_Check p0 p1 = some r) : FnRO Tryd.prog G 11 [.agg p0.bx, .one (.d (.l 1 (p1.map (encL 12 Message.enc))))] (fun rs => rs = [.one (.i .i64 r)]) := by
 refine FnRO.of' low11 fok11 (by simp [F11]) ?_
 rw [net_Check] at h
 replace h := Hd.mk h
 simp only [F11, go_sem]
 try simp only [*, go_sem]
 refine cr h (label_Check_ok G p0) (fun v1 h => ?_)
 refine oi h (fun hb2 h => ?_) (fun hb2 h => ?_)
 cases h.e
 simp only [*, go_sem, mA, mS]
 try simp only [*, go_sem]
 intro hl3
 refine oi h (fun hb4 h => ?_) (fun hb4 h => ?_)
 cases h.e
 simp only [*, go_sem, mA, mS]
 try simp only [*, go_sem]
 intro hl5
 try simp only [*, go_sem]
 refine jn0 h ([]) ([]) (fun k7 h => ?_) (fun h => ?_)
 try simp only [*, go_sem]
 refine lp1 (net_Check_L1 p0 p1 k7) (fun a8_1 => [zP 2 0, zL 23 1 (p1.map (encL 12 Message.enc)), zI 24 ((p1.length : Nat) : Int), zI 25 ((a8_1 : Nat) : Int)]) (fun a8_1 => [ox p0.bx]) h [] [some 0] (fun n9 a8_1 h => ?_) (by intros; rw [net_Check_L1])
 rw [net_Check_L1] at h
 refine oi h (fun hb10 h => ?_) (fun hb10 h => ?_)
 have := of_decide_eq_true hb10
 refine obg h (fun x11 _ hkx11 h => ?_)
 try simp only [*, go_sem]
 intro hl12
 refine oi h (fun hb13 h => ?_) (fun hb13 h => ?_)
 cases h.e
 simp only [*, go_sem, mA, mS]
 try simp only [*, go_sem]
 intro hl14
 try simp only [*, go_sem]
 refine jn0 h ([zP 2 0, zL 23 1 (p1.map (encL 12 Message.enc)), zI 24 ((p1.length : Nat) : Int), zI 25 ((a8_1 : Nat) : Int)]) ([ox p0.bx]) (fun k16 h => ?_) (fun h => ?_)
 try simp only [*, go_sem]
 refine lp1 (net_Check_L2 p0 a8_1 x11 k16) (fun a17_1 => [zP 2 0, zI 6 ((a8_1 : Nat) : Int), zL 23 1 (p1.map (encL 12 Message.enc)), zI 24 ((p1.length : Nat) : Int), zI 25 ((a8_1 : Nat) : Int), zL 33 12 (x11.map Message.enc), zI 34 ((x11.length : Nat) : Int), zI 35 ((a17_1 : Nat) : Int)]) (fun a17_1 => [ox p0.bx]) h [] [some 0] (fun n18 a17_1 h => ?_) (by intros; rw [net_Check_L2])
 rw [net_Check_L2] at h
 refine oi h (fun hb19 h => ?_) (fun hb19 h => ?_)
 have := of_decide_eq_true hb19
 refine obg h (fun x20 _ hkx20 h => ?_)
 refine obk h (fun v21 hv21 h => ?_)
 try simp only [*, go_sem]
 refine cd (wire_CheckMessage_ok G htab_wire_messages p0 x20 v21 hv21) ?_
 refine oi h (fun hb22 h => ?_) (fun hb22 h => ?_)
 cases h.e
 simp only [*, go_sem, mA, mS]
 refine ckn h (fun _ h => ?_)
 refine oi h (fun hb24 h => ?_) (fun hb24 h => ?_)
 cases h.e
 simp only [*, go_sem, mA, mS]
 refine ckn h (fun _ h => ?_)
 refine oi h (fun hb26 h => ?_) (fun hb26 h => ?_)
 cases h.e
 simp only [*, go_sem, mA, mS]
 have := wrap_succ_max hkx20 hl12
 try simp only [*, go_sem]
 exact lc (a17_1 + 1) h.e [some 0]
 try simp only [*, go_sem]
 exact jc () h.e [some 0]
 have := wrap_succ_max hkx11 hl3
 try simp only [*, go_sem]
 exact lc (a8_1 + 1) h.e [some 0]
 try simp only [*, go_sem]
 exact jc () h.e []
 cases h.e
 simp only [*, go_sem, mA, mS]
theorem low25 : lowF Tryd.prog 25 = some (cloneV 12 96 [(zi 0), (zi 0), (zi 0), (zi 0), (zi 0), (zi 0), (zi 0), (zi 0), (zi 0), (zi 0), (.d (.b false)), (zi 0)]) := by kernel_rfl
theorem fok25 : fOk Tryd.prog 25 = true := by kernel_rfl
theorem clone25_ok (p0 r : List Message) (h : cloneF 96 p0 = some r) : FnRO Tryd.prog G 25 [.one (.d (.l 12 (p0.map Message.enc)))] (fun rs => rs = [.one (.o 12 (r.map Message.enc))]) := clone_ok low25 fok25 G Message.enc p0 r h
def net_own_L1 (p0 : List (List Message)) (k3 : (List (List Message)) → Option ((List (List Message)))) : Nat → Nat → (List (List Message)) → Option ((List (List Message)))
 | 0, _, _ => none
 | n5 + 1, a4_1, a4_2 => (if (decide (a4_1 < p0.length)) = true then (Option.bind (p0[a4_1]?) fun x7 => (Option.bind (cloneF 96 x7) fun v8 => (if fits 24 (a4_2.length + 1) then (net_own_L1 p0 k3 n5 (a4_1 + 1) (a4_2 ++ [v8])) else none))) else (k3 a4_2))
def net_own (p0 : List (List Message)) : Option ((List (List Message))) := (withK (fun (b2_1 : List (List Message)) => (some b2_1)) fun k3 => (net_own_L1 p0 k3 (p0.length + 1) 0 []))
def F13 : VFn := ⟨19, (.seq (.reg [vo 2 (.mv (.c (.one (.nl 1))))]) (.seq (.reg [vo 3 (.mv (.c (.one (.nl 1))))]) (.seq (.seq (.reg [vm 6 0, ln 7 6, mi 8 0]) (.wk (.block 0 (.loop (.seq (.reg [bt 9 .lss 8 7]) (.seq (.cond (.t 9) .skip (.exit 0)) (.seq (.block 1 (.seq (.reg [xa 10 1 6 8, vs 11 10, vm 5 11]) (.reg [vm 12 3, vm 13 5, vo 14 (.call 25 [(.t 13)]), vo 15 (.bslw 1 1 [(.nl 12)] [(0, (.t 14))]), vo 16 (.appw 1 24 (.t 12) (.t 15)), vm 3 16]))) (.reg [bk 17 .add 8 1, vm 8 17])))))))) (.seq (.reg [vm 18 3, vm 2 18]) .ret)))), [.t 2]⟩
theorem low13 : lowF Tryd.prog 13 = some F13.strip := by kernel_rfl
theorem fok13 : fOk Tryd.prog 13 = true := by kernel_rfl
theorem net_own_ok (p0 : List (List Message)) (r : (List (List Message))) (h : net_own p0 = some r) : FnRO Tryd.prog G 13 [.one (.d (.l 1 (p0.map (encL 12 Message.enc))))] (fun rs => rs = [.one (.t 1 (r.map (encLO 12 Message.enc)))]) := by
 refine FnRO.same ?_
 refine FnRO.of' low13 fok13 (by simp [F13]) ?_
 rw [net_own] at h
 replace h := Hd.mk h
 simp only [F13, go_sem]
 try simp only [*, go_sem]
 intro hl1
 try simp only [*, go_sem]
 refine jn1 h (fun b2_1 => [zR 3 0 0 b2_1.length]) (fun b2_1 => [ot 1 (b2_1.map (encLO 12 Message.enc))]) (fun k3 h => ?_) (fun b2_1 h => ?_)
 try simp only [*, go_sem]
 refine lp2 (net_own_L1 p0 k3) (fun a4_1 a4_2 => [zR 3 0 0 a4_2.length, zL 6 1 (p0.map (encL 12 Message.enc)), zI 7 ((p0.length : Nat) : Int), zI 8 ((a4_1 : Nat) : Int)]) (fun a4_1 a4_2 => [ot 1 (a4_2.map (encLO 12 Message.enc))]) h [] [none] (fun n5 a4_1 a4_2 h => ?_) (by intros; rw [net_own_L1])
 rw [net_own_L1] at h
 refine oi h (fun hb6 h => ?_) (fun hb6 h => ?_)
 have := of_decide_eq_true hb6
 refine obg h (fun x7 _ hkx7 h => ?_)
 try simp only [*, go_sem]
 refine cr h (clone25_ok G x7) (fun v8 h => ?_)
 refine ck h (fun _ h => ?_)
 have := wrap_succ_max hkx7 hl1
 try simp only [*, go_sem]
 exact lc (a4_1 + 1, (a4_2 ++ [v8])) h.e [some 3]
 try simp only [*, go_sem]
 exact jc (a4_2) h.e [some 0]
 cases h.e
 simp only [*, go_sem, mA, mS]
theorem del17 : DelOk Tryd.prog 17 12 := ⟨96, [(zi 0), (zi 0), (zi 0), (zi 0), (zi 0), (zi 0), (zi 0), (zi 0), (zi 0), (zi 0), (.d (.b false)), (zi 0)], _, by kernel_rfl, by kernel_rfl, fun _ => rfl, rfl⟩
def net_Take (p0 : Config) (p1 : List (List Message)) (p2 : Int) (p3 : Int) (p4 : Int) (p5 : Int) : Option ((List (List Message)) × Message × Int) := (Option.bind (net_Check p0 p1) fun v1 => (if (v1 != 0) = true then (some ([], (Message.mk 0 0 0 (Txn.mk 0 0) 0 0 0 0 0 false 0), v1)) else (if (p5 != 2) = true then (if (p5 != 3) = true then (if (p5 != 4) = true then (some ([], (Message.mk 0 0 0 (Txn.mk 0 0) 0 0 0 0 0 false 0), 3)) else (if (decide (p2 < 0)) = true then (some ([], (Message.mk 0 0 0 (Txn.mk 0 0) 0 0 0 0 0 false 0), 2)) else (if (decide (p2 ≥ p0.Sites)) = true then (some ([], (Message.mk 0 0 0 (Txn.mk 0 0) 0 0 0 0 0 false 0), 2)) else (if (decide (p3 < 0)) = true then (some ([], (Message.mk 0 0 0 (Txn.mk 0 0) 0 0 0 0 0 false 0), 2)) else (if (decide (p3 ≥ p0.Sites)) = true then (some ([], (Message.mk 0 0 0 (Txn.mk 0 0) 0 0 0 0 0 false 0), 2)) else (if (decide (p4 < 0)) = true then (some ([], (Message.mk 0 0 0 (Txn.mk 0 0) 0 0 0 0 0 false 0), 2)) else (Option.bind (net_own p1) fun v11 => (if 0 ≤ IntKind.i64.wrap (IntKind.i64.wrap (p2 * p0.Sites) + p3) then (Option.bind (v11[(IntKind.i64.wrap (IntKind.i64.wrap (p2 * p0.Sites) + p3)).toNat]?) fun x12 => (if (((x12.length : Nat) : Int) == 0) = true then (some ([], (Message.mk 0 0 0 (Txn.mk 0 0) 0 0 0 0 0 false 0), 6)) else (if ((x12.length : Nat) : Int) = 0 then none else (if 0 ≤ p4.tmod ((x12.length : Nat) : Int) then (Option.bind (x12[(p4.tmod ((x12.length : Nat) : Int)).toNat]?) fun x18 => (if (p5 == 4) = true then (if (((x12.length : Nat) : Int) == 30) = true then (some ([], (Message.mk 0 0 0 (Txn.mk 0 0) 0 0 0 0 0 false 0), 8)) else (if fits 96 (x12.length + 1) then (some ((v11.set ((IntKind.i64.wrap (IntKind.i64.wrap (p2 * p0.Sites) + p3)).toNat) (x12 ++ [x18])), x18, 0)) else none)) else (Option.bind (deleteF x12 (p4.tmod ((x12.length : Nat) : Int)) (IntKind.i64.wrap (p4.tmod ((x12.length : Nat) : Int) + 1))) fun v24 => (some ((v11.set ((IntKind.i64.wrap (IntKind.i64.wrap (p2 * p0.Sites) + p3)).toNat) v24), x18, 0))))) else none)))) else none)))))))) else (if (decide (p2 < 0)) = true then (some ([], (Message.mk 0 0 0 (Txn.mk 0 0) 0 0 0 0 0 false 0), 2)) else (if (decide (p2 ≥ p0.Sites)) = true then (some ([], (Message.mk 0 0 0 (Txn.mk 0 0) 0 0 0 0 0 false 0), 2)) else (if (decide (p3 < 0)) = true then (some ([], (Message.mk 0 0 0 (Txn.mk 0 0) 0 0 0 0 0 false 0), 2)) else (if (decide (p3 ≥ p0.Sites)) = true then (some ([], (Message.mk 0 0 0 (Txn.mk 0 0) 0 0 0 0 0 false 0), 2)) else (if (decide (p4 < 0)) = true then (some ([], (Message.mk 0 0 0 (Txn.mk 0 0) 0 0 0 0 0 false 0), 2)) else (Option.bind (net_own p1) fun v30 => (if 0 ≤ IntKind.i64.wrap (IntKind.i64.wrap (p2 * p0.Sites) + p3) then (Option.bind (v30[(IntKind.i64.wrap (IntKind.i64.wrap (p2 * p0.Sites) + p3)).toNat]?) fun x31 => (if (((x31.length : Nat) : Int) == 0) = true then (some ([], (Message.mk 0 0 0 (Txn.mk 0 0) 0 0 0 0 0 false 0), 6)) else (if ((x31.length : Nat) : Int) = 0 then none else (if 0 ≤ p4.tmod ((x31.length : Nat) : Int) then (Option.bind (x31[(p4.tmod ((x31.length : Nat) : Int)).toNat]?) fun x37 => (if (p5 == 4) = true then (if (((x31.length : Nat) : Int) == 30) = true then (some ([], (Message.mk 0 0 0 (Txn.mk 0 0) 0 0 0 0 0 false 0), 8)) else (if fits 96 (x31.length + 1) then (some ((v30.set ((IntKind.i64.wrap (IntKind.i64.wrap (p2 * p0.Sites) + p3)).toNat) (x31 ++ [x37])), x37, 0)) else none)) else (Option.bind (deleteF x31 (p4.tmod ((x31.length : Nat) : Int)) (IntKind.i64.wrap (p4.tmod ((x31.length : Nat) : Int) + 1))) fun v43 => (some ((v30.set ((IntKind.i64.wrap (IntKind.i64.wrap (p2 * p0.Sites) + p3)).toNat) v43), x37, 0))))) else none)))) else none)))))))) else (if (decide (p2 < 0)) = true then (some ([], (Message.mk 0 0 0 (Txn.mk 0 0) 0 0 0 0 0 false 0), 2)) else (if (decide (p2 ≥ p0.Sites)) = true then (some ([], (Message.mk 0 0 0 (Txn.mk 0 0) 0 0 0 0 0 false 0), 2)) else (if (decide (p3 < 0)) = true then (some ([], (Message.mk 0 0 0 (Txn.mk 0 0) 0 0 0 0 0 false 0), 2)) else (if (decide (p3 ≥ p0.Sites)) = true then (some ([], (Message.mk 0 0 0 (Txn.mk 0 0) 0 0 0 0 0 false 0), 2)) else (if (decide (p4 < 0)) = true then (some ([], (Message.mk 0 0 0 (Txn.mk 0 0) 0 0 0 0 0 false 0), 2)) else (Option.bind (net_own p1) fun v49 => (if 0 ≤ IntKind.i64.wrap (IntKind.i64.wrap (p2 * p0.Sites) + p3) then (Option.bind (v49[(IntKind.i64.wrap (IntKind.i64.wrap (p2 * p0.Sites) + p3)).toNat]?) fun x50 => (if (((x50.length : Nat) : Int) == 0) = true then (some ([], (Message.mk 0 0 0 (Txn.mk 0 0) 0 0 0 0 0 false 0), 6)) else (if ((x50.length : Nat) : Int) = 0 then none else (if 0 ≤ p4.tmod ((x50.length : Nat) : Int) then (Option.bind (x50[(p4.tmod ((x50.length : Nat) : Int)).toNat]?) fun x56 => (if (p5 == 4) = true then (if (((x50.length : Nat) : Int) == 30) = true then (some ([], (Message.mk 0 0 0 (Txn.mk 0 0) 0 0 0 0 0 false 0), 8)) else (if fits 96 (x50.length + 1) then (some ((v49.set ((IntKind.i64.wrap (IntKind.i64.wrap (p2 * p0.Sites) + p3)).toNat) (x50 ++ [x56])), x56, 0)) else none)) else (Option.bind (deleteF x50 (p4.tmod ((x50.length : Nat) : Int)) (IntKind.i64.wrap (p4.tmod ((x50.length : Nat) : Int) + 1))) fun v62 => (some ((v49.set ((IntKind.i64.wrap (IntKind.i64.wrap (p2 * p0.Sites) + p3)).toNat) v62), x56, 0))))) else none)))) else none))))))))))
def F9 : VFn := ⟨126, (.seq (.reg [vo 6 (.box 3 (.t 0)), vo 12 (.mv (.c (.one (.nl 1)))), vo 13 (.alloc [(zi 0), (zi 0), (zi 0), (zi 0), (zi 0), (zi 0), (zi 0), (zi 0), (zi 0), (zi 0), (.d (.b false)), (zi 0)]), mi 14 0]) (.seq (.seq (.reg [vl 20 3 6, vm 21 1, vo 22 (.call 11 [(.t 20), (.t 21)]), vm 15 22]) (.seq (.reg [vm 23 15, bk 24 .neq 23 0]) (.cond (.t 24) (.seq (.reg [vo 25 (.build [(zi 0), (zi 0), (zi 0), (zi 0), (zi 0), (zi 0), (zi 0), (zi 0), (zi 0), (zi 0), (.d (.b false)), (zi 0)] []), vm 26 15, vo 12 (.mv (.c (.one (.nl 1)))), vu (.st 12 (.t 13) (.t 25)), vm 14 26]) .ret) .skip))) (.seq (.block 0 (.seq (.reg [vm 28 5, bk 29 .neq 28 2, vm 30 29, gt 31 30 (.mv (.t 5)), gt 32 30 (.bin .i .neq (.t 31) (ci 3)), vo 33 (.pick (.t 30) (.t 32) (cb false)), vm 34 33, gt 35 34 (.mv (.t 5)), gt 36 34 (.bin .i .neq (.t 35) (ci 4)), vo 37 (.pick (.t 34) (.t 36) (cb false)), vm 27 37]) (.cond (.t 27) (.seq (.reg [vo 38 (.build [(zi 0), (zi 0), (zi 0), (zi 0), (zi 0), (zi 0), (zi 0), (zi 0), (zi 0), (zi 0), (.d (.b false)), (zi 0)] []), vo 12 (.mv (.c (.one (.nl 1)))), vu (.st 12 (.t 13) (.t 38)), mi 14 3]) .ret) (.seq (.reg [vm 40 2, bk 41 .lss 40 0, vm 42 41, gf 43 42 (.mv (.t 2)), gf 44 42 (.fa 0 (.t 6)), gf 45 42 (.ld false 1 (.t 44)), gf 46 42 (.bin .i .geq (.t 43) (.t 45)), vo 47 (.pick (.t 42) (cb true) (.t 46)), vm 48 47, gf 49 48 (.mv (.t 3)), gf 50 48 (.bin .i .lss (.t 49) (ci 0)), vo 51 (.pick (.t 48) (cb true) (.t 50)), vm 52 51, gf 53 52 (.mv (.t 3)), gf 54 52 (.fa 0 (.t 6)), gf 55 52 (.ld false 1 (.t 54)), gf 56 52 (.bin .i .geq (.t 53) (.t 55)), vo 57 (.pick (.t 52) (cb true) (.t 56)), vm 58 57, gf 59 58 (.mv (.t 4)), gf 60 58 (.bin .i .lss (.t 59) (ci 0)), vo 61 (.pick (.t 58) (cb true) (.t 60)), vm 39 61]) (.cond (.t 39) (.seq (.reg [vo 62 (.build [(zi 0), (zi 0), (zi 0), (zi 0), (zi 0), (zi 0), (zi 0), (zi 0), (zi 0), (zi 0), (.d (.b false)), (zi 0)] []), vo 12 (.mv (.c (.one (.nl 1)))), vu (.st 12 (.t 13) (.t 62)), mi 14 2]) .ret) .skip))))) (.seq (.reg [vm 63 1, vo 64 (.call 13 [(.t 63)]), vm 16 64]) (.seq (.reg [vm 65 2, vf 66 0 6, vs 67 66, bt 68 .mul 65 67, vm 69 3, bt 70 .add 68 69, vm 17 70]) (.seq (.seq (.gho (.reg [vm 71 16, vm 72 17, xa 73 1 71 72, vs 74 73, ln 75 74, bk 76 .eql 75 0])) (.cond (.t 76) (.seq (.reg [vo 77 (.build [(zi 0), (zi 0), (zi 0), (zi 0), (zi 0), (zi 0), (zi 0), (zi 0), (zi 0), (zi 0), (.d (.b false)), (zi 0)] []), vo 12 (.mv (.c (.one (.nl 1)))), vu (.st 12 (.t 13) (.t 77)), mi 14 6]) (.gho .ret)) .skip)) (.seq (.reg [vm 78 4, vm 79 16, vm 80 17, xa 81 1 79 80, vs 82 81, ln 83 82, bt 84 .rem 78 83, vm 18 84]) (.seq (.reg [vm 85 16, vm 86 17, xa 87 1 85 86, vs 88 87, vm 89 18, xa 90 12 88 89, vl 91 12 90, vo 19 (.alloc [(zi 0), (zi 0), (zi 0), (zi 0), (zi 0), (zi 0), (zi 0), (zi 0), (zi 0), (zi 0), (.d (.b false)), (zi 0)]), vu (.st 12 (.t 19) (.t 91))]) (.seq (.seq (.reg [vm 92 5, bk 93 .eql 92 4]) (.cond (.t 93) (.seq (.seq (.reg [vm 94 16, vm 95 17, xa 96 1 94 95, vs 97 96, ln 98 97, bk 99 .eql 98 30]) (.cond (.t 99) (.seq (.reg [vo 100 (.build [(zi 0), (zi 0), (zi 0), (zi 0), (zi 0), (zi 0), (zi 0), (zi 0), (zi 0), (zi 0), (.d (.b false)), (zi 0)] []), vo 12 (.mv (.c (.one (.nl 1)))), vu (.st 12 (.t 13) (.t 100)), mi 14 8]) (.gho .ret)) .skip)) (.seq (.draw [vd (vm 101 16) 0, vd (vm 102 17) 0, vd (vm 103 16) 0, vd (vm 104 17) 0, vd (xa 105 1 103 104) 12, vd (vs 106 105) 28, vd (vl 107 12 19) 0, vd (vo 108 (.bsl 12 1 [(zi 0), (zi 0), (zi 0), (zi 0), (zi 0), (zi 0), (zi 0), (zi 0), (zi 0), (zi 0), (.d (.b false)), (zi 0)] [(0, (.t 107))])) 64, vd (vo 109 (.app 12 96 (.t 106) (.t 108))) 252, vd (xa 110 1 101 102) 511, vd (vu (.st 1 (.t 110) (.t 109))) 1023]) (.seq (.draw [vd (vm 111 16) 0, vd (vl 112 12 19) 0, vd (vm 12 111) 1, vd (vu (.st 12 (.t 13) (.t 112))) 7, vd (mi 14 0) 15]) (.gho .ret)))) .skip)) (.seq (.reg [vm 113 16, vm 114 17, vm 115 16, vm 116 17, xa 117 1 115 116, vs 118 117, vm 119 18, vm 120 18, bk 121 .add 120 1, vo 122 (.call 17 [(.t 118), (.t 119), (.t 121)]), xa 123 1 113 114, vu (.st 1 (.t 123) (.t 122))]) (.seq (.draw [vd (vm 124 16) 0, vd (vl 125 12 19) 0, vd (vm 12 124) 1, vd (vu (.st 12 (.t 13) (.t 125))) 7, vd (mi 14 0) 15]) (.gho .ret)))))))))))), [.t 12, .cell 13 true 12, .t 14]⟩
theorem low9 : lowF Tryd.prog 9 = some F9.strip := by kernel_rfl
theorem fok9 : fOk Tryd.prog 9 = true := by kernel_rfl
theorem net_Take_ok (htab_wire_messages : constG G 0 = .one (.d (.k tab_wire_messagesD))) (p0 : Config) (p1 : List (List Message)) (p2 : Int) (p3 : Int) (p4 : Int) (p5 : Int) (r : (List (List Message)) × Message × Int) (h : net_Take p0 p1 p2 p3 p4 p5 = some r) : FnRO Tryd.prog G 9 [.agg p0.bx, .one (.d (.l 1 (p1.map (encL 12 Message.enc)))), .one (.d (.i .i64 p2)), .one (.d (.i .i64 p3)), .one (.d (.i .i64 p4)), .one (.d (.i .i64 p5))] (fun rs => rs = [.one (.t 1 (r.1.map (encLO 12 Message.enc))), .agg (r.2.1.encO), .one (.i .i64 r.2.2)]) := by
 refine FnRO.same ?_
 refine FnRO.of' low9 fok9 (by simp [F9]) ?_
 rw [net_Take] at h
 replace h := Hd.mk h
 simp only [F9, go_sem]
 try simp only [*, go_sem]
 refine cr h (net_Check_ok G htab_wire_messages p0 p1) (fun v1 h => ?_)
 refine oi h (fun hb2 h => ?_) (fun hb2 h => ?_)
 cases h.e
 simp only [*, go_sem, mA, mS]
 refine oi h (fun hb3 h => ?_) (fun hb3 h => ?_)
 refine oi h (fun hb4 h => ?_) (fun hb4 h => ?_)
 refine oi h (fun hb5 h => ?_) (fun hb5 h => ?_)
 cases h.e
 simp only [*, go_sem, mA, mS]
 refine oi h (fun hb6 h => ?_) (fun hb6 h => ?_)
 have := of_decide_eq_true hb6
 cases h.e
 simp only [*, go_sem, mA, mS]
 refine oi h (fun hb7 h => ?_) (fun hb7 h => ?_)
 cases h.e
 simp only [*, go_sem, mA, mS]
 refine oi h (fun hb8 h => ?_) (fun hb8 h => ?_)
 have := of_decide_eq_true hb8
 cases h.e
 simp only [*, go_sem, mA, mS]
 refine oi h (fun hb9 h => ?_) (fun hb9 h => ?_)
 cases h.e
 simp only [*, go_sem, mA, mS]
 refine oi h (fun hb10 h => ?_) (fun hb10 h => ?_)
 have := of_decide_eq_true hb10
 cases h.e
 simp only [*, go_sem, mA, mS]
 try simp only [*, go_sem]
 refine cr h (net_own_ok G p1) (fun v11 h => ?_)
 refine obn h (fun x12 _ _ _ _ h => ?_)
 try simp only [*, go_sem]
 refine gho_lk _ G _ _ [.f 2 ((IntKind.i64.wrap (IntKind.i64.wrap (p2 * p0.Sites) + p3)).toNat)] ?_
 try simp only [*, go_sem]
 try simp only [*, go_sem]
 intro hl14
 refine oi h (fun hb15 h => ?_) (fun hb15 h => ?_)
 try simp only [*, go_sem]
 refine gho_lk _ G _ _ [.u 2] ?_
 try simp only [*, go_sem]
 cases h.e
 simp only [*, go_sem, mA, mS]
 try simp only [*, go_sem]
 intro hl16
 refine ckn h (fun _ h => ?_)
 refine obn h (fun x18 _ _ _ _ h => ?_)
 refine oi h (fun hb20 h => ?_) (fun hb20 h => ?_)
 try simp only [*, go_sem]
 intro hl21
 refine oi h (fun hb22 h => ?_) (fun hb22 h => ?_)
 try simp only [*, go_sem]
 refine gho_lk _ G _ _ [.u 2] ?_
 try simp only [*, go_sem]
 cases h.e
 simp only [*, go_sem, mA, mS]
 refine ck h (fun _ h => ?_)
 try simp only [*, go_sem]
 refine gho_lk _ G _ _ [.u 2] ?_
 try simp only [*, go_sem]
 cases h.e
 simp only [*, go_sem, mA, mS]
 refine obk h (fun v24 hv24 h => ?_)
 try simp only [*, go_sem]
 refine delete_callF del17 (enc := Message.enc) hv24 (by first | rfl | (simp only [*, go_sem]; done)) ?_
 try simp only [*, go_sem]
 refine gho_lk _ G _ _ [.u 2] ?_
 try simp only [*, go_sem]
 cases h.e
 simp only [*, go_sem, mA, mS]
 refine oi h (fun hb25 h => ?_) (fun hb25 h => ?_)
 have := of_decide_eq_true hb25
 cases h.e
 simp only [*, go_sem, mA, mS]
 refine oi h (fun hb26 h => ?_) (fun hb26 h => ?_)
 cases h.e
 simp only [*, go_sem, mA, mS]
 refine oi h (fun hb27 h => ?_) (fun hb27 h => ?_)
 have := of_decide_eq_true hb27
 cases h.e
 simp only [*, go_sem, mA, mS]
 refine oi h (fun hb28 h => ?_) (fun hb28 h => ?_)
 cases h.e
 simp only [*, go_sem, mA, mS]
 refine oi h (fun hb29 h => ?_) (fun hb29 h => ?_)
 have := of_decide_eq_true hb29
 cases h.e
 simp only [*, go_sem, mA, mS]
 try simp only [*, go_sem]
 refine cr h (net_own_ok G p1) (fun v30 h => ?_)
 refine obn h (fun x31 _ _ _ _ h => ?_)
 try simp only [*, go_sem]
 refine gho_lk _ G _ _ [.f 2 ((IntKind.i64.wrap (IntKind.i64.wrap (p2 * p0.Sites) + p3)).toNat)] ?_
 try simp only [*, go_sem]
 try simp only [*, go_sem]
 intro hl33
 refine oi h (fun hb34 h => ?_) (fun hb34 h => ?_)
 try simp only [*, go_sem]
 refine gho_lk _ G _ _ [.u 2] ?_
 try simp only [*, go_sem]
 cases h.e
 simp only [*, go_sem, mA, mS]
 try simp only [*, go_sem]
 intro hl35
 refine ckn h (fun _ h => ?_)
 refine obn h (fun x37 _ _ _ _ h => ?_)
 refine oi h (fun hb39 h => ?_) (fun hb39 h => ?_)
 try simp only [*, go_sem]
 intro hl40
 refine oi h (fun hb41 h => ?_) (fun hb41 h => ?_)
 try simp only [*, go_sem]
 refine gho_lk _ G _ _ [.u 2] ?_
 try simp only [*, go_sem]
 cases h.e
 simp only [*, go_sem, mA, mS]
 refine ck h (fun _ h => ?_)
 try simp only [*, go_sem]
 refine gho_lk _ G _ _ [.u 2] ?_
 try simp only [*, go_sem]
 cases h.e
 simp only [*, go_sem, mA, mS]
 refine obk h (fun v43 hv43 h => ?_)
 try simp only [*, go_sem]
 refine delete_callF del17 (enc := Message.enc) hv43 (by first | rfl | (simp only [*, go_sem]; done)) ?_
 try simp only [*, go_sem]
 refine gho_lk _ G _ _ [.u 2] ?_
 try simp only [*, go_sem]
 cases h.e
 simp only [*, go_sem, mA, mS]
 refine oi h (fun hb44 h => ?_) (fun hb44 h => ?_)
 have := of_decide_eq_true hb44
 cases h.e
 simp only [*, go_sem, mA, mS]
 refine oi h (fun hb45 h => ?_) (fun hb45 h => ?_)
 cases h.e
 simp only [*, go_sem, mA, mS]
 refine oi h (fun hb46 h => ?_) (fun hb46 h => ?_)
 have := of_decide_eq_true hb46
 cases h.e
 simp only [*, go_sem, mA, mS]
 refine oi h (fun hb47 h => ?_) (fun hb47 h => ?_)
 cases h.e
 simp only [*, go_sem, mA, mS]
 refine oi h (fun hb48 h => ?_) (fun hb48 h => ?_)
 have := of_decide_eq_true hb48
 cases h.e
 simp only [*, go_sem, mA, mS]
 try simp only [*, go_sem]
 refine cr h (net_own_ok G p1) (fun v49 h => ?_)
 refine obn h (fun x50 _ _ _ _ h => ?_)
 try simp only [*, go_sem]
 refine gho_lk _ G _ _ [.f 2 ((IntKind.i64.wrap (IntKind.i64.wrap (p2 * p0.Sites) + p3)).toNat)] ?_
 try simp only [*, go_sem]
 try simp only [*, go_sem]
 intro hl52
 refine oi h (fun hb53 h => ?_) (fun hb53 h => ?_)
 try simp only [*, go_sem]
 refine gho_lk _ G _ _ [.u 2] ?_
 try simp only [*, go_sem]
 cases h.e
 simp only [*, go_sem, mA, mS]
 try simp only [*, go_sem]
 intro hl54
 refine ckn h (fun _ h => ?_)
 refine obn h (fun x56 _ _ _ _ h => ?_)
 refine oi h (fun hb58 h => ?_) (fun hb58 h => ?_)
 try simp only [*, go_sem]
 intro hl59
 refine oi h (fun hb60 h => ?_) (fun hb60 h => ?_)
 try simp only [*, go_sem]
 refine gho_lk _ G _ _ [.u 2] ?_
 try simp only [*, go_sem]
 cases h.e
 simp only [*, go_sem, mA, mS]
 refine ck h (fun _ h => ?_)
 try simp only [*, go_sem]
 refine gho_lk _ G _ _ [.u 2] ?_
 try simp only [*, go_sem]
 cases h.e
 simp only [*, go_sem, mA, mS]
 refine obk h (fun v62 hv62 h => ?_)
 try simp only [*, go_sem]
 refine delete_callF del17 (enc := Message.enc) hv62 (by first | rfl | (simp only [*, go_sem]; done)) ?_
 try simp only [*, go_sem]
 refine gho_lk _ G _ _ [.u 2] ?_
 try simp only [*, go_sem]
 cases h.e
 simp only [*, go_sem, mA, mS]
def reredosref_In (p0 : Int) (p1 : Int) (p2 : Int) : Option (Bool) := (withK (fun (b1_1 : Bool) => (some b1_1)) fun k2 => (if (decide (p0 ≥ p1)) = true then (k2 (decide (p0 ≤ p2))) else (k2 false)))
def F18 : VFn := ⟨15, (.seq (.reg [vo 6 (.mv (cb false))]) (.seq (.wk (.reg [vm 7 0, vm 8 1, bt 9 .geq 7 8, vm 10 9, gt 11 10 (.mv (.t 0)), gt 12 10 (.mv (.t 2)), gt 13 10 (.bin .i .leq (.t 11) (.t 12)), vo 14 (.pick (.t 10) (.t 13) (cb false)), vm 6 14])) .ret)), [.t 6]⟩
theorem low18 : lowF Tryd.prog 18 = some F18.strip := by kernel_rfl
theorem fok18 : fOk Tryd.prog 18 = true := by kernel_rfl
theorem reredosref_In_ok (p0 : Int) (p1 : Int) (p2 : Int) (r : Bool) (h : reredosref_In p0 p1 p2 = some r) : FnRO Tryd.prog G 18 [.one (.d (.i .i64 p0)), .one (.d (.i .i64 p1)), .one (.d (.i .i64 p2))] (fun rs => rs = [.one (.b r)]) := by
 refine FnRO.of' low18 fok18 (by simp [F18]) ?_
 rw [reredosref_In] at h
 replace h := Hd.mk h
 simp only [F18, go_sem]
 try simp only [*, go_sem]
 refine jn1 h (fun b1_1 => [zB 6 b1_1]) (fun b1_1 => []) (fun k2 h => ?_) (fun b1_1 h => ?_)
 refine oi h (fun hb3 h => ?_) (fun hb3 h => ?_)
 try simp only [*, go_sem]
 exact jc (decide (p0 ≤ p2)) h.e []
 try simp only [*, go_sem]
 exact jc (false) h.e []
 cases h.e
 simp only [*, go_sem, mA, mS]
def reredosref_ConfigFault_L2 (p0 : Config) (a8_1 : Nat) (x12 : Label) (k18 : Option (Int)) : Nat → Nat → Option (Int)
 | 0, _ => none
 | n20 + 1, a19_1 => (if (decide (a19_1 < a8_1)) = true then (Option.bind (p0.Labels[a19_1]?) fun x22 => (if ((x22.Level == x12.Level) && (x22.Cats == x12.Cats)) = true then (some 7) else (reredosref_ConfigFault_L2 p0 a8_1 x12 k18 n20 (a19_1 + 1)))) else k18)
def reredosref_ConfigFault_L1 (p0 : Config) (k7 : Option (Int)) : Nat → Nat → Option (Int)
 | 0, _ => none
 | n9 + 1, a8_1 => (if (decide (a8_1 < p0.Labels.length)) = true then (Option.bind (p0.Labels[a8_1]?) fun x12 => (Option.bind (reredosref_In x12.Level 0 9) fun v13 => (if (!v13) = true then (some 2) else (Option.bind (reredosref_In x12.Cats 0 15) fun v15 => (if (!v15) = true then (some 2) else (withK (reredosref_ConfigFault_L1 p0 k7 n9 (a8_1 + 1)) fun k18 => (reredosref_ConfigFault_L2 p0 a8_1 x12 k18 (a8_1 + 1) 0))))))) else k7)
def reredosref_ConfigFault (p0 : Config) : Option (Int) := (Option.bind (reredosref_In p0.Sites 1 4) fun v1 => (if (!v1) = true then (some 2) else (Option.bind (reredosref_In ((p0.Labels.length : Nat) : Int) 1 6) fun v4 => (if (!v4) = true then (some 1) else (withK (Option.bind (reredosref_In p0.Patience 1 1048576) fun v26 => (if (!v26) = true then (some 2) else (some 0))) fun k7 => (reredosref_ConfigFault_L1 p0 k7 (p0.Labels.length + 1) 0))))))
def F26 : VFn := ⟨59, (.seq (.reg [vo 1 (.boxk 3 (.t 0)), mi 2 0]) (.seq (.seq (.reg [vf 5 0 1, vs 6 5, vo 7 (.call 18 [(.t 6), (ci 1), (ci 4)]), nt 8 7]) (.cond (.t 8) (.seq (.reg [mi 2 2]) .ret) .skip)) (.seq (.seq (.reg [vf 9 1 1, vs 10 9, ln 11 10, vo 12 (.call 18 [(.t 11), (ci 1), (ci 6)]), nt 13 12]) (.cond (.t 13) (.seq (.reg [mi 2 1]) .ret) .skip)) (.seq (.seq (.reg [mi 3 0]) (.wk (.block 0 (.loop (.seq (.seq (.reg [vm 14 3, vf 15 1 1, vs 16 15, ln 17 16, bt 18 .lss 14 17]) (.cond (.t 18) .skip (.exit 0))) (.seq (.block 1 (.seq (.seq (.reg [vf 21 1 1, vs 22 21, vm 23 3, xa 24 2 22 23, vf 25 0 24, vs 26 25, vo 27 (.call 18 [(.t 26), (ci 0), (ci 9)]), nt 28 27, vm 29 28, gf 30 29 (.fa 1 (.t 1)), gf 31 29 (.ld false 1 (.t 30)), gf 32 29 (.mv (.t 3)), gf 33 29 (.ia 2 (.t 31) (.t 32)), gf 34 29 (.fa 1 (.t 33)), gf 35 29 (.ld false 1 (.t 34)), gf 36 29 (.call 18 [(.t 35), (ci 0), (ci 15)]), gf 37 29 (.un .not (.t 36)), vo 38 (.pick (.t 29) (cb true) (.t 37))]) (.cond (.t 38) (.seq (.reg [mi 2 2]) .ret) .skip)) (.seq (.reg [mi 4 0]) (.wk (.block 2 (.loop (.seq (.seq (.reg [vm 39 4, vm 40 3, bt 41 .lss 39 40]) (.cond (.t 41) .skip (.exit 2))) (.seq (.block 3 (.seq (.draw [vd (vf 44 1 1) 0, vd (vs 45 44) 1, vd (vm 46 4) 0, vd (xa 47 2 45 46) 7, vd (vl 48 2 47) 15, vd (vf 49 1 1) 0, vd (vs 50 49) 32, vd (vm 51 3) 0, vd (xa 52 2 50 51) 224, vd (vl 53 2 52) 480, vd (vo 54 (.eqs false [.i, .i] (.t 48) (.t 53))) 1023]) (.cond (.t 54) (.seq (.reg [mi 2 7]) .ret) .skip))) (.reg [vm 42 4, bk 43 .add 42 1, vm 4 43]))))))))) (.reg [vm 19 3, bk 20 .add 19 1, vm 3 20]))))))) (.seq (.seq (.reg [vf 55 2 1, vs 56 55, vo 57 (.call 18 [(.t 56), (ci 1), (ci 1048576)]), nt 58 57]) (.cond (.t 58) (.seq (.reg [mi 2 2]) .ret) .skip)) (.seq (.reg [mi 2 0]) .ret)))))), [.t 2]⟩
theorem low26 : lowF Tryd.prog 26 = some F26.strip := by kernel_rfl
theorem fok26 : fOk Tryd.prog 26 = true := by kernel_rfl
theorem reredosref_ConfigFault_ok (p0 : Config) (r : Int) (h : reredosref_ConfigFault p0 = some r) : FnRO Tryd.prog G 26 [.agg p0.bx] (fun rs => rs = [.one (.i .i64 r)]) := by
 refine FnRO.of' low26 fok26 (by simp [F26]) ?_
 rw [reredosref_ConfigFault] at h
 replace h := Hd.mk h
 simp only [F26, go_sem]
 try simp only [*, go_sem]
 refine cr h (reredosref_In_ok G p0.Sites 1 4) (fun v1 h => ?_)
 refine oin h (fun hb2 hkhb2 h => ?_) (fun hb2 hkhb2 h => ?_)
 cases h.e
 simp only [*, go_sem, mA, mS]
 try simp only [*, go_sem]
 intro hl3
 try simp only [*, go_sem]
 refine cr h (reredosref_In_ok G ((p0.Labels.length : Nat) : Int) 1 6) (fun v4 h => ?_)
 refine oin h (fun hb5 hkhb5 h => ?_) (fun hb5 hkhb5 h => ?_)
 cases h.e
 simp only [*, go_sem, mA, mS]
 try simp only [*, go_sem]
 refine jn0 h ([zK 1 (Config.enc p0)]) ([]) (fun k7 h => ?_) (fun h => ?_)
 try simp only [*, go_sem]
 refine lp1 (reredosref_ConfigFault_L1 p0 k7) (fun a8_1 => [zK 1 (Config.enc p0), zI 3 ((a8_1 : Nat) : Int)]) (fun a8_1 => []) h [] [] (fun n9 a8_1 h => ?_) (by intros; rw [reredosref_ConfigFault_L1])
 rw [reredosref_ConfigFault_L1] at h
 try simp only [*, go_sem]
 intro hl10
 refine oi h (fun hb11 h => ?_) (fun hb11 h => ?_)
 have := of_decide_eq_true hb11
 refine obg h (fun x12 _ hkx12 h => ?_)
 try simp only [*, go_sem]
 refine cr h (reredosref_In_ok G x12.Level 0 9) (fun v13 h => ?_)
 refine oin h (fun hb14 hkhb14 h => ?_) (fun hb14 hkhb14 h => ?_)
 cases h.e
 simp only [*, go_sem, mA, mS]
 try simp only [*, go_sem]
 refine cr h (reredosref_In_ok G x12.Cats 0 15) (fun v15 h => ?_)
 refine oin h (fun hb16 hkhb16 h => ?_) (fun hb16 hkhb16 h => ?_)
 cases h.e
 simp only [*, go_sem, mA, mS]
 try simp only [*, go_sem]
 refine jn0 h ([zK 1 (Config.enc p0), zI 3 ((a8_1 : Nat) : Int), (30, .one (.p (.l 3 [(Config.enc p0)] 0 1))), zL 31 2 (p0.Labels.map Label.enc), zI 32 ((a8_1 : Nat) : Int), (33, .one (.p (.l 2 (p0.Labels.map Label.enc) a8_1 0))), (34, .one (.p (.l 2 (p0.Labels.map Label.enc) a8_1 1))), zI 35 x12.Cats, zB 36 true, zB 37 false]) ([]) (fun k18 h => ?_) (fun h => ?_)
 try simp only [*, go_sem]
 refine lp1 (reredosref_ConfigFault_L2 p0 a8_1 x12 k18) (fun a19_1 => [zK 1 (Config.enc p0), zI 3 ((a8_1 : Nat) : Int), zI 4 ((a19_1 : Nat) : Int), (30, .one (.p (.l 3 [(Config.enc p0)] 0 1))), zL 31 2 (p0.Labels.map Label.enc), zI 32 ((a8_1 : Nat) : Int), (33, .one (.p (.l 2 (p0.Labels.map Label.enc) a8_1 0))), (34, .one (.p (.l 2 (p0.Labels.map Label.enc) a8_1 1))), zI 35 x12.Cats, zB 36 true, zB 37 false]) (fun a19_1 => []) h [] [] (fun n20 a19_1 h => ?_) (by intros; rw [reredosref_ConfigFault_L2])
 rw [reredosref_ConfigFault_L2] at h
 refine oi h (fun hb21 h => ?_) (fun hb21 h => ?_)
 have := of_decide_eq_true hb21
 refine obg h (fun x22 _ hkx22 h => ?_)
 refine oi h (fun hb23 h => ?_) (fun hb23 h => ?_)
 try simp only [*, go_sem]
 cases h.e
 simp only [*, go_sem, mA, mS]
 try simp only [*, go_sem]
 have := wrap_succ_max hkx22 hl3
 try simp only [*, go_sem]
 exact lc (a19_1 + 1) h.e []
 try simp only [*, go_sem]
 exact jc () h.e []
 have := wrap_succ_max hkx12 hl3
 try simp only [*, go_sem]
 exact lc (a8_1 + 1) h.e []
 try simp only [*, go_sem]
 exact jc () h.e []
 try simp only [*, go_sem]
 refine cr h (reredosref_In_ok G p0.Patience 1 1048576) (fun v26 h => ?_)
 refine oin h (fun hb27 hkhb27 h => ?_) (fun hb27 hkhb27 h => ?_)
 cases h.e
 simp only [*, go_sem, mA, mS]
 cases h.e
 simp only [*, go_sem, mA, mS]
def reredosref_txnMay (p0 : Config) (p1 : Txn) : Option (Bool) := (withK (fun (b1_1 : Bool) => (some b1_1)) fun k2 => (Option.bind (reredosref_In p1.Site 0 (IntKind.i64.wrap (p0.Sites - 1))) fun v3 => (if v3 = true then (Option.bind (reredosref_In p1.N 1 1048576) fun v5 => (k2 v5)) else (k2 false))))
def F27 : VFn := ⟨16, (.seq (.reg [vo 2 (.box 3 (.t 0)), vo 3 (.boxk 2 (.t 1)), vo 4 (.mv (cb false))]) (.seq (.wk (.reg [vf 5 0 3, vs 6 5, vf 7 0 2, vs 8 7, bk 9 .sub 8 1, vo 10 (.call 18 [(.t 6), (ci 0), (.t 9)]), vm 11 10, gt 12 11 (.fa 1 (.t 3)), gt 13 11 (.ld false 1 (.t 12)), gt 14 11 (.call 18 [(.t 13), (ci 1), (ci 1048576)]), vo 15 (.pick (.t 11) (.t 14) (cb false)), vm 4 15])) .ret)), [.t 4]⟩
theorem low27 : lowF Tryd.prog 27 = some F27.strip := by kernel_rfl
theorem fok27 : fOk Tryd.prog 27 = true := by kernel_rfl
theorem reredosref_txnMay_ok (p0 : Config) (p1 : Txn) (r : Bool) (h : reredosref_txnMay p0 p1 = some r) : FnRO Tryd.prog G 27 [.agg p0.bx, .agg p1.bx] (fun rs => rs = [.one (.b r)]) := by
 refine FnRO.of' low27 fok27 (by simp [F27]) ?_
 rw [reredosref_txnMay] at h
 replace h := Hd.mk h
 simp only [F27, go_sem]
 try simp only [*, go_sem]
 refine jn1 h (fun b1_1 => [zB 4 b1_1]) (fun b1_1 => []) (fun k2 h => ?_) (fun b1_1 h => ?_)
 try simp only [*, go_sem]
 refine cr h (reredosref_In_ok G p1.Site 0 (IntKind.i64.wrap (p0.Sites - 1))) (fun v3 h => ?_)
 refine oi h (fun hb4 h => ?_) (fun hb4 h => ?_)
 try simp only [*, go_sem]
 refine cr h (reredosref_In_ok G p1.N 1 1048576) (fun v5 h => ?_)
 try simp only [*, go_sem]
 exact jc (v5) h.e []
 try simp only [*, go_sem]
 exact jc (false) h.e []
 cases h.e
 simp only [*, go_sem, mA, mS]
def reredosref_labelMay (p0 : Config) (p1 : Int) : Option (Bool) := (Option.bind (reredosref_In p1 0 (IntKind.i64.wrap (((p0.Labels.length : Nat) : Int) - 1))) fun v2 => (some v2))
def F28 : VFn := ⟨11, (.seq (.reg [vo 2 (.box 3 (.t 0)), vo 4 (.mv (cb false))]) (.seq (.reg [vm 5 1, vf 6 1 2, vs 7 6, ln 8 7, bk 9 .sub 8 1, vo 10 (.call 18 [(.t 5), (ci 0), (.t 9)]), vm 4 10]) .ret)), [.t 4]⟩
theorem low28 : lowF Tryd.prog 28 = some F28.strip := by kernel_rfl
theorem fok28 : fOk Tryd.prog 28 = true := by kernel_rfl
theorem reredosref_labelMay_ok (p0 : Config) (p1 : Int) (r : Bool) (h : reredosref_labelMay p0 p1 = some r) : FnRO Tryd.prog G 28 [.agg p0.bx, .one (.d (.i .i64 p1))] (fun rs => rs = [.one (.b r)]) := by
 refine FnRO.of' low28 fok28 (by simp [F28]) ?_
 rw [reredosref_labelMay] at h
 replace h := Hd.mk h
 simp only [F28, go_sem]
 try simp only [*, go_sem]
 intro hl1
 try simp only [*, go_sem]
 refine cr h (reredosref_In_ok G p1 0 (IntKind.i64.wrap (((p0.Labels.length : Nat) : Int) - 1))) (fun v2 h => ?_)
 cases h.e
 simp only [*, go_sem, mA, mS]
def reredosref_MessageFault (p0 : Config) (p1 : Message) : Option (Int) := (Option.bind (reredosref_ConfigFault p0) fun v1 => (if (v1 != 0) = true then (some v1) else (Option.bind (reredosref_In p1.Kind 1 9) fun v3 => (if (!v3) = true then (some 3) else (Option.bind (reredosref_In p1.From 0 (IntKind.i64.wrap (p0.Sites - 1))) fun v5 => (if (!v5) = true then (some 2) else (Option.bind (reredosref_In p1.To 0 (IntKind.i64.wrap (p0.Sites - 1))) fun v7 => (if (!v7) = true then (some 2) else (Option.bind (reredosref_txnMay p0 p1.Txn) fun v9 => (if (!v9) = true then (some 2) else (Option.bind (reredosref_labelMay p0 p1.Label) fun v11 => (if (!v11) = true then (some 2) else (Option.bind (reredosref_In p1.Key 0 7) fun v13 => (if (!v13) = true then (some 2) else (Option.bind (reredosref_In p1.Value 0 1073741824) fun v15 => (if (!v15) = true then (some 2) else (Option.bind (reredosref_In p1.Version 0 1048576) fun v17 => (if (!v17) = true then (some 2) else (Option.bind (reredosref_In p1.Ask 0 1048576) fun v19 => (if (!v19) = true then (some 2) else (if (p1.Code != 0) = true then (if (p1.Code != 11) = true then (if (p1.Code != 8) = true then (some 2) else (withK (fun (b24_1 : Int) (b24_2 : Int) (b24_3 : Int) (b24_4 : Int) (b24_5 : Int) (b24_6 : Bool) (b24_7 : Int) => (if (!((b24_1 == p1.Label) && ((b24_2 == p1.Key) && ((b24_3 == p1.Value) && ((b24_4 == p1.Version) && ((b24_5 == p1.Ask) && ((b24_6 == p1.Yes) && (b24_7 == p1.Code)))))))) = true then (some 4) else (some 0))) fun k25 => (if (p1.Kind == 1) = true then (k25 p1.Label p1.Key 0 0 p1.Ask false 0) else (withK (fun (b27_1 : Int) (b27_2 : Int) (b27_3 : Int) (b27_4 : Int) (b27_5 : Int) (b27_6 : Bool) (b27_7 : Int) => (k25 b27_1 b27_2 b27_3 b27_4 b27_5 b27_6 b27_7)) fun k28 => (if (p1.Kind == 2) = true then (k28 0 p1.Key p1.Value 0 p1.Ask false 0) else (withK (fun (b30_1 : Int) (b30_2 : Int) (b30_3 : Int) (b30_4 : Int) (b30_5 : Int) (b30_6 : Bool) (b30_7 : Int) => (k28 b30_1 b30_2 b30_3 b30_4 b30_5 b30_6 b30_7)) fun k31 => (if (p1.Kind == 5) = true then (withK (fun (b33_1 : Int) (b33_2 : Int) => (k31 p1.Label p1.Key b33_1 b33_2 p1.Ask false p1.Code)) fun k34 => (if (p1.Code == 0) = true then (k34 p1.Value p1.Version) else (k34 0 0))) else (withK (fun (b36_1 : Int) (b36_2 : Int) (b36_3 : Int) (b36_4 : Int) (b36_5 : Bool) (b36_6 : Int) => (k31 b36_1 b36_2 0 b36_3 b36_4 b36_5 b36_6)) fun k37 => (if (p1.Kind == 6) = true then (k37 0 p1.Key 0 p1.Ask false p1.Code) else (withK (fun (b39_1 : Int) (b39_2 : Int) (b39_3 : Int) (b39_4 : Bool) => (k37 b39_1 b39_2 b39_3 0 b39_4 0)) fun k40 => (if (p1.Kind == 4) = true then (k40 0 0 0 p1.Yes) else (withK (fun (b42_1 : Int) (b42_2 : Int) (b42_3 : Int) (b42_4 : Bool) => (k40 b42_1 b42_2 b42_3 b42_4)) fun k43 => (if (p1.Kind == 3) = true then (k43 p1.Label p1.Key p1.Version false) else (withK (fun (b45_1 : Int) (b45_2 : Int) (b45_3 : Int) (b45_4 : Bool) => (k43 b45_1 b45_2 b45_3 b45_4)) fun k46 => (if (p1.Kind == 7) = true then (k46 p1.Label p1.Key p1.Version p1.Yes) else (k46 0 0 0 false)))))))))))))))) else (withK (fun (b49_1 : Int) (b49_2 : Int) (b49_3 : Int) (b49_4 : Int) (b49_5 : Int) (b49_6 : Bool) (b49_7 : Int) => (if (!((b49_1 == p1.Label) && ((b49_2 == p1.Key) && ((b49_3 == p1.Value) && ((b49_4 == p1.Version) && ((b49_5 == p1.Ask) && ((b49_6 == p1.Yes) && (b49_7 == p1.Code)))))))) = true then (some 4) else (some 0))) fun k50 => (if (p1.Kind == 1) = true then (k50 p1.Label p1.Key 0 0 p1.Ask false 0) else (withK (fun (b52_1 : Int) (b52_2 : Int) (b52_3 : Int) (b52_4 : Int) (b52_5 : Int) (b52_6 : Bool) (b52_7 : Int) => (k50 b52_1 b52_2 b52_3 b52_4 b52_5 b52_6 b52_7)) fun k53 => (if (p1.Kind == 2) = true then (k53 0 p1.Key p1.Value 0 p1.Ask false 0) else (withK (fun (b55_1 : Int) (b55_2 : Int) (b55_3 : Int) (b55_4 : Int) (b55_5 : Int) (b55_6 : Bool) (b55_7 : Int) => (k53 b55_1 b55_2 b55_3 b55_4 b55_5 b55_6 b55_7)) fun k56 => (if (p1.Kind == 5) = true then (withK (fun (b58_1 : Int) (b58_2 : Int) => (k56 p1.Label p1.Key b58_1 b58_2 p1.Ask false p1.Code)) fun k59 => (if (p1.Code == 0) = true then (k59 p1.Value p1.Version) else (k59 0 0))) else (withK (fun (b61_1 : Int) (b61_2 : Int) (b61_3 : Int) (b61_4 : Int) (b61_5 : Bool) (b61_6 : Int) => (k56 b61_1 b61_2 0 b61_3 b61_4 b61_5 b61_6)) fun k62 => (if (p1.Kind == 6) = true then (k62 0 p1.Key 0 p1.Ask false p1.Code) else (withK (fun (b64_1 : Int) (b64_2 : Int) (b64_3 : Int) (b64_4 : Bool) => (k62 b64_1 b64_2 b64_3 0 b64_4 0)) fun k65 => (if (p1.Kind == 4) = true then (k65 0 0 0 p1.Yes) else (withK (fun (b67_1 : Int) (b67_2 : Int) (b67_3 : Int) (b67_4 : Bool) => (k65 b67_1 b67_2 b67_3 b67_4)) fun k68 => (if (p1.Kind == 3) = true then (k68 p1.Label p1.Key p1.Version false) else (withK (fun (b70_1 : Int) (b70_2 : Int) (b70_3 : Int) (b70_4 : Bool) => (k68 b70_1 b70_2 b70_3 b70_4)) fun k71 => (if (p1.Kind == 7) = true then (k71 p1.Label p1.Key p1.Version p1.Yes) else (k71 0 0 0 false)))))))))))))))) else (withK (fun (b74_1 : Int) (b74_2 : Int) (b74_3 : Int) (b74_4 : Int) (b74_5 : Int) (b74_6 : Bool) (b74_7 : Int) => (if (!((b74_1 == p1.Label) && ((b74_2 == p1.Key) && ((b74_3 == p1.Value) && ((b74_4 == p1.Version) && ((b74_5 == p1.Ask) && ((b74_6 == p1.Yes) && (b74_7 == p1.Code)))))))) = true then (some 4) else (some 0))) fun k75 => (if (p1.Kind == 1) = true then (k75 p1.Label p1.Key 0 0 p1.Ask false 0) else (withK (fun (b77_1 : Int) (b77_2 : Int) (b77_3 : Int) (b77_4 : Int) (b77_5 : Int) (b77_6 : Bool) (b77_7 : Int) => (k75 b77_1 b77_2 b77_3 b77_4 b77_5 b77_6 b77_7)) fun k78 => (if (p1.Kind == 2) = true then (k78 0 p1.Key p1.Value 0 p1.Ask false 0) else (withK (fun (b80_1 : Int) (b80_2 : Int) (b80_3 : Int) (b80_4 : Int) (b80_5 : Int) (b80_6 : Bool) (b80_7 : Int) => (k78 b80_1 b80_2 b80_3 b80_4 b80_5 b80_6 b80_7)) fun k81 => (if (p1.Kind == 5) = true then (withK (fun (b83_1 : Int) (b83_2 : Int) => (k81 p1.Label p1.Key b83_1 b83_2 p1.Ask false p1.Code)) fun k84 => (if (p1.Code == 0) = true then (k84 p1.Value p1.Version) else (k84 0 0))) else (withK (fun (b86_1 : Int) (b86_2 : Int) (b86_3 : Int) (b86_4 : Int) (b86_5 : Bool) (b86_6 : Int) => (k81 b86_1 b86_2 0 b86_3 b86_4 b86_5 b86_6)) fun k87 => (if (p1.Kind == 6) = true then (k87 0 p1.Key 0 p1.Ask false p1.Code) else (withK (fun (b89_1 : Int) (b89_2 : Int) (b89_3 : Int) (b89_4 : Bool) => (k87 b89_1 b89_2 b89_3 0 b89_4 0)) fun k90 => (if (p1.Kind == 4) = true then (k90 0 0 0 p1.Yes) else (withK (fun (b92_1 : Int) (b92_2 : Int) (b92_3 : Int) (b92_4 : Bool) => (k90 b92_1 b92_2 b92_3 b92_4)) fun k93 => (if (p1.Kind == 3) = true then (k93 p1.Label p1.Key p1.Version false) else (withK (fun (b95_1 : Int) (b95_2 : Int) (b95_3 : Int) (b95_4 : Bool) => (k93 b95_1 b95_2 b95_3 b95_4)) fun k96 => (if (p1.Kind == 7) = true then (k96 p1.Label p1.Key p1.Version p1.Yes) else (k96 0 0 0 false))))))))))))))))))))))))))))))))))))
def F15 : VFn := ⟨183, (.seq (.reg [vo 2 (.boxk 3 (.t 0)), vo 3 (.boxk 12 (.t 1)), mi 4 0]) (.seq (.reg [vl 7 3 2, vo 8 (.call 26 [(.t 7)]), vm 5 8]) (.seq (.seq (.reg [vm 9 5, bk 10 .neq 9 0]) (.cond (.t 10) (.seq (.reg [vm 11 5, vm 4 11]) .ret) .skip)) (.seq (.seq (.reg [vf 12 0 3, vs 13 12, vo 14 (.call 18 [(.t 13), (ci 1), (ci 9)]), nt 15 14]) (.cond (.t 15) (.seq (.reg [mi 4 3]) .ret) .skip)) (.seq (.seq (.reg [vf 16 1 3, vs 17 16, vf 18 0 2, vs 19 18, bk 20 .sub 19 1, vo 21 (.call 18 [(.t 17), (ci 0), (.t 20)]), nt 22 21, vm 23 22, gf 24 23 (.fa 2 (.t 3)), gf 25 23 (.ld false 1 (.t 24)), gf 26 23 (.fa 0 (.t 2)), gf 27 23 (.ld false 1 (.t 26)), gf 28 23 (.bin .i .sub (.t 27) (ci 1)), gf 29 23 (.call 18 [(.t 25), (ci 0), (.t 28)]), gf 30 23 (.un .not (.t 29)), vo 31 (.pick (.t 23) (cb true) (.t 30)), vm 32 31, gf 33 32 (.ld true 3 (.t 2)), gf 34 32 (.fa 3 (.t 3)), gf 35 32 (.ld true 2 (.t 34)), gf 36 32 (.call 27 [(.t 33), (.t 35)]), gf 37 32 (.un .not (.t 36)), vo 38 (.pick (.t 32) (cb true) (.t 37)), vm 39 38, gf 40 39 (.ld true 3 (.t 2)), gf 41 39 (.fa 5 (.t 3)), gf 42 39 (.ld false 1 (.t 41)), gf 43 39 (.call 28 [(.t 40), (.t 42)]), gf 44 39 (.un .not (.t 43)), vo 45 (.pick (.t 39) (cb true) (.t 44)), vm 46 45, gf 47 46 (.fa 6 (.t 3)), gf 48 46 (.ld false 1 (.t 47)), gf 49 46 (.call 18 [(.t 48), (ci 0), (ci 7)]), gf 50 46 (.un .not (.t 49)), vo 51 (.pick (.t 46) (cb true) (.t 50)), vm 52 51, gf 53 52 (.fa 7 (.t 3)), gf 54 52 (.ld false 1 (.t 53)), gf 55 52 (.call 18 [(.t 54), (ci 0), (ci 1073741824)]), gf 56 52 (.un .not (.t 55)), vo 57 (.pick (.t 52) (cb true) (.t 56)), vm 58 57, gf 59 58 (.fa 8 (.t 3)), gf 60 58 (.ld false 1 (.t 59)), gf 61 58 (.call 18 [(.t 60), (ci 0), (ci 1048576)]), gf 62 58 (.un .not (.t 61)), vo 63 (.pick (.t 58) (cb true) (.t 62)), vm 64 63, gf 65 64 (.fa 9 (.t 3)), gf 66 64 (.ld false 1 (.t 65)), gf 67 64 (.call 18 [(.t 66), (ci 0), (ci 1048576)]), gf 68 64 (.un .not (.t 67)), vo 69 (.pick (.t 64) (cb true) (.t 68))]) (.cond (.t 69) (.seq (.reg [mi 4 2]) .ret) .skip)) (.seq (.seq (.reg [vf 70 11 3, vs 71 70, bk 72 .neq 71 0, vm 73 72, gt 74 73 (.fa 11 (.t 3)), gt 75 73 (.ld false 1 (.t 74)), gt 76 73 (.bin .i .neq (.t 75) (ci 11)), vo 77 (.pick (.t 73) (.t 76) (cb false)), vm 78 77, gt 79 78 (.fa 11 (.t 3)), gt 80 78 (.ld false 1 (.t 79)), gt 81 78 (.bin .i .neq (.t 80) (ci 8)), vo 82 (.pick (.t 78) (.t 81) (cb false))]) (.cond (.t 82) (.seq (.reg [mi 4 2]) .ret) .skip)) (.seq (.reg [vf 83 0 3, vs 84 83, vf 85 1 3, vs 86 85, vf 87 2 3, vs 88 87, vf 89 3 3, vl 90 2 89, vo 91 (.build [(zi 0), (zi 0), (zi 0), (zi 0), (zi 0), (zi 0), (zi 0), (zi 0), (zi 0), (zi 0), (.d (.b false)), (zi 0)] [(0, 1, (.t 84)), (1, 1, (.t 86)), (2, 1, (.t 88)), (3, 2, (.t 90))]), vo 6 (.alloc [(zi 0), (zi 0), (zi 0), (zi 0), (zi 0), (zi 0), (zi 0), (zi 0), (zi 0), (zi 0), (.d (.b false)), (zi 0)]), vu (.st 12 (.t 6) (.t 91))]) (.seq (.seq (.reg [vf 92 0 3, vs 93 92]) (.block 0 (.seq (.reg [bk 95 .eql 93 1, vm 94 95]) (.wk (.cond (.t 94) (.seq (.reg [vf 96 5 3, vs 97 96, vf 98 5 6, vu (.st 1 (.t 98) (.t 97))]) (.seq (.reg [vf 99 6 3, vs 100 99, vf 101 6 6, vu (.st 1 (.t 101) (.t 100))]) (.reg [vf 102 9 3, vs 103 102, vf 104 9 6, vu (.st 1 (.t 104) (.t 103))]))) (.seq (.reg [bk 106 .eql 93 2, vm 105 106]) (.wk (.cond (.t 105) (.seq (.reg [vf 107 6 3, vs 108 107, vf 109 6 6, vu (.st 1 (.t 109) (.t 108))]) (.seq (.reg [vf 110 7 3, vs 111 110, vf 112 7 6, vu (.st 1 (.t 112) (.t 111))]) (.reg [vf 113 9 3, vs 114 113, vf 115 9 6, vu (.st 1 (.t 115) (.t 114))]))) (.seq (.reg [bk 117 .eql 93 5, vm 116 117]) (.wk (.cond (.t 116) (.seq (.reg [vf 118 5 3, vs 119 118, vf 120 5 6, vu (.st 1 (.t 120) (.t 119))]) (.seq (.reg [vf 121 6 3, vs 122 121, vf 123 6 6, vu (.st 1 (.t 123) (.t 122))]) (.seq (.reg [vf 124 11 3, vs 125 124, vf 126 11 6, vu (.st 1 (.t 126) (.t 125))]) (.seq (.reg [vf 127 9 3, vs 128 127, vf 129 9 6, vu (.st 1 (.t 129) (.t 128))]) (.seq (.reg [vf 130 11 3, vs 131 130, bk 132 .eql 131 0]) (.wk (.cond (.t 132) (.seq (.reg [vf 133 7 3, vs 134 133, vf 135 7 6, vu (.st 1 (.t 135) (.t 134))]) (.reg [vf 136 8 3, vs 137 136, vf 138 8 6, vu (.st 1 (.t 138) (.t 137))])) .skip))))))) (.seq (.reg [bk 140 .eql 93 6, vm 139 140]) (.wk (.cond (.t 139) (.seq (.reg [vf 141 6 3, vs 142 141, vf 143 6 6, vu (.st 1 (.t 143) (.t 142))]) (.seq (.reg [vf 144 11 3, vs 145 144, vf 146 11 6, vu (.st 1 (.t 146) (.t 145))]) (.reg [vf 147 9 3, vs 148 147, vf 149 9 6, vu (.st 1 (.t 149) (.t 148))]))) (.seq (.reg [bk 151 .eql 93 4, vm 150 151]) (.wk (.cond (.t 150) (.reg [vf 152 10 3, vs 153 152, vf 154 10 6, vu (.st 1 (.t 154) (.t 153))]) (.seq (.reg [bk 156 .eql 93 3, vm 155 156]) (.wk (.cond (.t 155) (.seq (.reg [vf 157 5 3, vs 158 157, vf 159 5 6, vu (.st 1 (.t 159) (.t 158))]) (.seq (.reg [vf 160 6 3, vs 161 160, vf 162 6 6, vu (.st 1 (.t 162) (.t 161))]) (.reg [vf 163 8 3, vs 164 163, vf 165 8 6, vu (.st 1 (.t 165) (.t 164))]))) (.seq (.reg [bk 167 .eql 93 7, vm 166 167]) (.wk (.cond (.t 166) (.seq (.reg [vf 168 5 3, vs 169 168, vf 170 5 6, vu (.st 1 (.t 170) (.t 169))]) (.seq (.reg [vf 171 6 3, vs 172 171, vf 173 6 6, vu (.st 1 (.t 173) (.t 172))]) (.seq (.reg [vf 174 8 3, vs 175 174, vf 176 8 6, vu (.st 1 (.t 176) (.t 175))]) (.reg [vf 177 10 3, vs 178 177, vf 179 10 6, vu (.st 1 (.t 179) (.t 178))])))) .skip))))))))))))))))))))))) (.seq (.seq (.reg [vl 180 12 6, vl 181 12 3, vo 182 (.eqs true [.i, .i, .i, .i, .i, .i, .i, .i, .i, .i, .b, .i] (.t 180) (.t 181))]) (.cond (.t 182) (.seq (.reg [mi 4 4]) .ret) .skip)) (.seq (.reg [mi 4 0]) .ret)))))))))), [.t 4]⟩
theorem low15 : lowF Tryd.prog 15 = some F15.strip := by kernel_rfl
theorem fok15 : fOk Tryd.prog 15 = true := by kernel_rfl
theorem reredosref_MessageFault_ok (p0 : Config) (p1 : Message) (r : Int) (h : reredosref_MessageFault p0 p1 = some r) : FnRO Tryd.prog G 15 [.agg p0.bx, .agg p1.bx] (fun rs => rs = [.one (.i .i64 r)]) := by
 refine FnRO.of' low15 fok15 (by simp [F15]) ?_
 rw [reredosref_MessageFault] at h
 replace h := Hd.mk h
 simp only [F15, go_sem]
 try simp only [*, go_sem]
 refine cr h (reredosref_ConfigFault_ok G p0) (fun v1 h => ?_)
 refine oi h (fun hb2 h => ?_) (fun hb2 h => ?_)
 cases h.e
 simp only [*, go_sem, mA, mS]
 try simp only [*, go_sem]
 refine cr h (reredosref_In_ok G p1.Kind 1 9) (fun v3 h => ?_)
 refine oin h (fun hb4 hkhb4 h => ?_) (fun hb4 hkhb4 h => ?_)
 cases h.e
 simp only [*, go_sem, mA, mS]
 try simp only [*, go_sem]
 refine cr h (reredosref_In_ok G p1.From 0 (IntKind.i64.wrap (p0.Sites - 1))) (fun v5 h => ?_)
 refine oin h (fun hb6 hkhb6 h => ?_) (fun hb6 hkhb6 h => ?_)
 cases h.e
 simp only [*, go_sem, mA, mS]
 try simp only [*, go_sem]
 refine cr h (reredosref_In_ok G p1.To 0 (IntKind.i64.wrap (p0.Sites - 1))) (fun v7 h => ?_)
 refine oin h (fun hb8 hkhb8 h => ?_) (fun hb8 hkhb8 h => ?_)
 cases h.e
 simp only [*, go_sem, mA, mS]
 try simp only [*, go_sem]
 refine cr h (reredosref_txnMay_ok G p0 p1.Txn) (fun v9 h => ?_)
 refine oin h (fun hb10 hkhb10 h => ?_) (fun hb10 hkhb10 h => ?_)
 cases h.e
 simp only [*, go_sem, mA, mS]
 try simp only [*, go_sem]
 refine cr h (reredosref_labelMay_ok G p0 p1.Label) (fun v11 h => ?_)
 refine oin h (fun hb12 hkhb12 h => ?_) (fun hb12 hkhb12 h => ?_)
 cases h.e
 simp only [*, go_sem, mA, mS]
 try simp only [*, go_sem]
 refine cr h (reredosref_In_ok G p1.Key 0 7) (fun v13 h => ?_)
 refine oin h (fun hb14 hkhb14 h => ?_) (fun hb14 hkhb14 h => ?_)
 cases h.e
 simp only [*, go_sem, mA, mS]
 try simp only [*, go_sem]
 refine cr h (reredosref_In_ok G p1.Value 0 1073741824) (fun v15 h => ?_)
 refine oin h (fun hb16 hkhb16 h => ?_) (fun hb16 hkhb16 h => ?_)
 cases h.e
 simp only [*, go_sem, mA, mS]
 try simp only [*, go_sem]
 refine cr h (reredosref_In_ok G p1.Version 0 1048576) (fun v17 h => ?_)
 refine oin h (fun hb18 hkhb18 h => ?_) (fun hb18 hkhb18 h => ?_)
 cases h.e
 simp only [*, go_sem, mA, mS]
 try simp only [*, go_sem]
 refine cr h (reredosref_In_ok G p1.Ask 0 1048576) (fun v19 h => ?_)
 refine oin h (fun hb20 hkhb20 h => ?_) (fun hb20 hkhb20 h => ?_)
 cases h.e
 simp only [*, go_sem, mA, mS]
 refine oi h (fun hb21 h => ?_) (fun hb21 h => ?_)
 refine oi h (fun hb22 h => ?_) (fun hb22 h => ?_)
 refine oi h (fun hb23 h => ?_) (fun hb23 h => ?_)
 cases h.e
 simp only [*, go_sem, mA, mS]
 try simp only [*, go_sem]
 refine jn7 h (fun b24_1 b24_2 b24_3 b24_4 b24_5 b24_6 b24_7 => [zK 3 (Message.enc p1), zP 6 0]) (fun b24_1 b24_2 b24_3 b24_4 b24_5 b24_6 b24_7 => [ox [zi p1.Kind, zi p1.From, zi p1.To, zi p1.Txn.Site, zi p1.Txn.N, zi b24_1, zi b24_2, zi b24_3, zi b24_4, zi b24_5, .d (.b b24_6), zi b24_7]]) (fun k25 h => ?_) (fun b24_1 b24_2 b24_3 b24_4 b24_5 b24_6 b24_7 h => ?_)
 refine oi h (fun hb26 h => ?_) (fun hb26 h => ?_)
 try simp only [*, go_sem]
 exact jc (p1.Label, p1.Key, 0, 0, p1.Ask, false, 0) h.e [some 0]
 try simp only [*, go_sem]
 refine jn7 h (fun b27_1 b27_2 b27_3 b27_4 b27_5 b27_6 b27_7 => [zK 3 (Message.enc p1), zP 6 0]) (fun b27_1 b27_2 b27_3 b27_4 b27_5 b27_6 b27_7 => [ox [zi p1.Kind, zi p1.From, zi p1.To, zi p1.Txn.Site, zi p1.Txn.N, zi b27_1, zi b27_2, zi b27_3, zi b27_4, zi b27_5, .d (.b b27_6), zi b27_7]]) (fun k28 h => ?_) (fun b27_1 b27_2 b27_3 b27_4 b27_5 b27_6 b27_7 h => ?_)
 refine oi h (fun hb29 h => ?_) (fun hb29 h => ?_)
 try simp only [*, go_sem]
 exact jc (0, p1.Key, p1.Value, 0, p1.Ask, false, 0) h.e [some 0]
 try simp only [*, go_sem]
 refine jn7 h (fun b30_1 b30_2 b30_3 b30_4 b30_5 b30_6 b30_7 => [zK 3 (Message.enc p1), zP 6 0]) (fun b30_1 b30_2 b30_3 b30_4 b30_5 b30_6 b30_7 => [ox [zi p1.Kind, zi p1.From, zi p1.To, zi p1.Txn.Site, zi p1.Txn.N, zi b30_1, zi b30_2, zi b30_3, zi b30_4, zi b30_5, .d (.b b30_6), zi b30_7]]) (fun k31 h => ?_) (fun b30_1 b30_2 b30_3 b30_4 b30_5 b30_6 b30_7 h => ?_)
 refine oi h (fun hb32 h => ?_) (fun hb32 h => ?_)
 try simp only [*, go_sem]
 refine jn2 h (fun b33_1 b33_2 => [zK 3 (Message.enc p1), zP 6 0]) (fun b33_1 b33_2 => [ox [zi p1.Kind, zi p1.From, zi p1.To, zi p1.Txn.Site, zi p1.Txn.N, zi p1.Label, zi p1.Key, zi b33_1, zi b33_2, zi p1.Ask, .d (.b false), zi p1.Code]]) (fun k34 h => ?_) (fun b33_1 b33_2 h => ?_)
 refine oi h (fun hb35 h => ?_) (fun hb35 h => ?_)
 try simp only [*, go_sem]
 exact jc (p1.Value, p1.Version) h.e [some 0]
 try simp only [*, go_sem]
 exact jc (0, 0) h.e [some 0]
 try simp only [*, go_sem]
 exact jc (p1.Label, p1.Key, b33_1, b33_2, p1.Ask, false, p1.Code) h.e [some 0]
 try simp only [*, go_sem]
 refine jn6 h (fun b36_1 b36_2 b36_3 b36_4 b36_5 b36_6 => [zK 3 (Message.enc p1), zP 6 0]) (fun b36_1 b36_2 b36_3 b36_4 b36_5 b36_6 => [ox [zi p1.Kind, zi p1.From, zi p1.To, zi p1.Txn.Site, zi p1.Txn.N, zi b36_1, zi b36_2, zi 0, zi b36_3, zi b36_4, .d (.b b36_5), zi b36_6]]) (fun k37 h => ?_) (fun b36_1 b36_2 b36_3 b36_4 b36_5 b36_6 h => ?_)
 refine oi h (fun hb38 h => ?_) (fun hb38 h => ?_)
 try simp only [*, go_sem]
 exact jc (0, p1.Key, 0, p1.Ask, false, p1.Code) h.e [some 0]
 try simp only [*, go_sem]
 refine jn4 h (fun b39_1 b39_2 b39_3 b39_4 => [zK 3 (Message.enc p1), zP 6 0]) (fun b39_1 b39_2 b39_3 b39_4 => [ox [zi p1.Kind, zi p1.From, zi p1.To, zi p1.Txn.Site, zi p1.Txn.N, zi b39_1, zi b39_2, zi 0, zi b39_3, zi 0, .d (.b b39_4), zi 0]]) (fun k40 h => ?_) (fun b39_1 b39_2 b39_3 b39_4 h => ?_)
 refine oi h (fun hb41 h => ?_) (fun hb41 h => ?_)
 try simp only [*, go_sem]
 exact jc (0, 0, 0, p1.Yes) h.e [some 0]
 try simp only [*, go_sem]
 refine jn4 h (fun b42_1 b42_2 b42_3 b42_4 => [zK 3 (Message.enc p1), zP 6 0]) (fun b42_1 b42_2 b42_3 b42_4 => [ox [zi p1.Kind, zi p1.From, zi p1.To, zi p1.Txn.Site, zi p1.Txn.N, zi b42_1, zi b42_2, zi 0, zi b42_3, zi 0, .d (.b b42_4), zi 0]]) (fun k43 h => ?_) (fun b42_1 b42_2 b42_3 b42_4 h => ?_)
 refine oi h (fun hb44 h => ?_) (fun hb44 h => ?_)
 try simp only [*, go_sem]
 exact jc (p1.Label, p1.Key, p1.Version, false) h.e [some 0]
 try simp only [*, go_sem]
 refine jn4 h (fun b45_1 b45_2 b45_3 b45_4 => [zK 3 (Message.enc p1), zP 6 0]) (fun b45_1 b45_2 b45_3 b45_4 => [ox [zi p1.Kind, zi p1.From, zi p1.To, zi p1.Txn.Site, zi p1.Txn.N, zi b45_1, zi b45_2, zi 0, zi b45_3, zi 0, .d (.b b45_4), zi 0]]) (fun k46 h => ?_) (fun b45_1 b45_2 b45_3 b45_4 h => ?_)
 refine oi h (fun hb47 h => ?_) (fun hb47 h => ?_)
 try simp only [*, go_sem]
 exact jc (p1.Label, p1.Key, p1.Version, p1.Yes) h.e [some 0]
 try simp only [*, go_sem]
 exact jc (0, 0, 0, false) h.e [some 0]
 try simp only [*, go_sem]
 exact jc (b45_1, b45_2, b45_3, b45_4) h.e [some 0]
 try simp only [*, go_sem]
 exact jc (b42_1, b42_2, b42_3, b42_4) h.e [some 0]
 try simp only [*, go_sem]
 exact jc (b39_1, b39_2, b39_3, 0, b39_4, 0) h.e [some 0]
 try simp only [*, go_sem]
 exact jc (b36_1, b36_2, 0, b36_3, b36_4, b36_5, b36_6) h.e [some 0]
 try simp only [*, go_sem]
 exact jc (b30_1, b30_2, b30_3, b30_4, b30_5, b30_6, b30_7) h.e [some 0]
 try simp only [*, go_sem]
 exact jc (b27_1, b27_2, b27_3, b27_4, b27_5, b27_6, b27_7) h.e [some 0]
 refine oin h (fun hb48 hkhb48 h => ?_) (fun hb48 hkhb48 h => ?_)
 try simp only [*, go_sem]
 cases h.e
 simp only [*, go_sem, mA, mS]
 try simp only [*, go_sem]
 cases h.e
 simp only [*, go_sem, mA, mS]
 try simp only [*, go_sem]
 refine jn7 h (fun b49_1 b49_2 b49_3 b49_4 b49_5 b49_6 b49_7 => [zK 3 (Message.enc p1), zP 6 0]) (fun b49_1 b49_2 b49_3 b49_4 b49_5 b49_6 b49_7 => [ox [zi p1.Kind, zi p1.From, zi p1.To, zi p1.Txn.Site, zi p1.Txn.N, zi b49_1, zi b49_2, zi b49_3, zi b49_4, zi b49_5, .d (.b b49_6), zi b49_7]]) (fun k50 h => ?_) (fun b49_1 b49_2 b49_3 b49_4 b49_5 b49_6 b49_7 h => ?_)
 refine oi h (fun hb51 h => ?_) (fun hb51 h => ?_)
 try simp only [*, go_sem]
 exact jc (p1.Label, p1.Key, 0, 0, p1.Ask, false, 0) h.e [some 0]
 try simp only [*, go_sem]
 refine jn7 h (fun b52_1 b52_2 b52_3 b52_4 b52_5 b52_6 b52_7 => [zK 3 (Message.enc p1), zP 6 0]) (fun b52_1 b52_2 b52_3 b52_4 b52_5 b52_6 b52_7 => [ox [zi p1.Kind, zi p1.From, zi p1.To, zi p1.Txn.Site, zi p1.Txn.N, zi b52_1, zi b52_2, zi b52_3, zi b52_4, zi b52_5, .d (.b b52_6), zi b52_7]]) (fun k53 h => ?_) (fun b52_1 b52_2 b52_3 b52_4 b52_5 b52_6 b52_7 h => ?_)
 refine oi h (fun hb54 h => ?_) (fun hb54 h => ?_)
 try simp only [*, go_sem]
 exact jc (0, p1.Key, p1.Value, 0, p1.Ask, false, 0) h.e [some 0]
 try simp only [*, go_sem]
 refine jn7 h (fun b55_1 b55_2 b55_3 b55_4 b55_5 b55_6 b55_7 => [zK 3 (Message.enc p1), zP 6 0]) (fun b55_1 b55_2 b55_3 b55_4 b55_5 b55_6 b55_7 => [ox [zi p1.Kind, zi p1.From, zi p1.To, zi p1.Txn.Site, zi p1.Txn.N, zi b55_1, zi b55_2, zi b55_3, zi b55_4, zi b55_5, .d (.b b55_6), zi b55_7]]) (fun k56 h => ?_) (fun b55_1 b55_2 b55_3 b55_4 b55_5 b55_6 b55_7 h => ?_)
 refine oi h (fun hb57 h => ?_) (fun hb57 h => ?_)
 try simp only [*, go_sem]
 refine jn2 h (fun b58_1 b58_2 => [zK 3 (Message.enc p1), zP 6 0]) (fun b58_1 b58_2 => [ox [zi p1.Kind, zi p1.From, zi p1.To, zi p1.Txn.Site, zi p1.Txn.N, zi p1.Label, zi p1.Key, zi b58_1, zi b58_2, zi p1.Ask, .d (.b false), zi p1.Code]]) (fun k59 h => ?_) (fun b58_1 b58_2 h => ?_)
 refine oi h (fun hb60 h => ?_) (fun hb60 h => ?_)
 try simp only [*, go_sem]
 exact jc (p1.Value, p1.Version) h.e [some 0]
 try simp only [*, go_sem]
 exact jc (0, 0) h.e [some 0]
 try simp only [*, go_sem]
 exact jc (p1.Label, p1.Key, b58_1, b58_2, p1.Ask, false, p1.Code) h.e [some 0]
 try simp only [*, go_sem]
 refine jn6 h (fun b61_1 b61_2 b61_3 b61_4 b61_5 b61_6 => [zK 3 (Message.enc p1), zP 6 0]) (fun b61_1 b61_2 b61_3 b61_4 b61_5 b61_6 => [ox [zi p1.Kind, zi p1.From, zi p1.To, zi p1.Txn.Site, zi p1.Txn.N, zi b61_1, zi b61_2, zi 0, zi b61_3, zi b61_4, .d (.b b61_5), zi b61_6]]) (fun k62 h => ?_) (fun b61_1 b61_2 b61_3 b61_4 b61_5 b61_6 h => ?_)
 refine oi h (fun hb63 h => ?_) (fun hb63 h => ?_)
 try simp only [*, go_sem]
 exact jc (0, p1.Key, 0, p1.Ask, false, p1.Code) h.e [some 0]
 try simp only [*, go_sem]
 refine jn4 h (fun b64_1 b64_2 b64_3 b64_4 => [zK 3 (Message.enc p1), zP 6 0]) (fun b64_1 b64_2 b64_3 b64_4 => [ox [zi p1.Kind, zi p1.From, zi p1.To, zi p1.Txn.Site, zi p1.Txn.N, zi b64_1, zi b64_2, zi 0, zi b64_3, zi 0, .d (.b b64_4), zi 0]]) (fun k65 h => ?_) (fun b64_1 b64_2 b64_3 b64_4 h => ?_)
 refine oi h (fun hb66 h => ?_) (fun hb66 h => ?_)
 try simp only [*, go_sem]
 exact jc (0, 0, 0, p1.Yes) h.e [some 0]
 try simp only [*, go_sem]
 refine jn4 h (fun b67_1 b67_2 b67_3 b67_4 => [zK 3 (Message.enc p1), zP 6 0]) (fun b67_1 b67_2 b67_3 b67_4 => [ox [zi p1.Kind, zi p1.From, zi p1.To, zi p1.Txn.Site, zi p1.Txn.N, zi b67_1, zi b67_2, zi 0, zi b67_3, zi 0, .d (.b b67_4), zi 0]]) (fun k68 h => ?_) (fun b67_1 b67_2 b67_3 b67_4 h => ?_)
 refine oi h (fun hb69 h => ?_) (fun hb69 h => ?_)
 try simp only [*, go_sem]
 exact jc (p1.Label, p1.Key, p1.Version, false) h.e [some 0]
 try simp only [*, go_sem]
 refine jn4 h (fun b70_1 b70_2 b70_3 b70_4 => [zK 3 (Message.enc p1), zP 6 0]) (fun b70_1 b70_2 b70_3 b70_4 => [ox [zi p1.Kind, zi p1.From, zi p1.To, zi p1.Txn.Site, zi p1.Txn.N, zi b70_1, zi b70_2, zi 0, zi b70_3, zi 0, .d (.b b70_4), zi 0]]) (fun k71 h => ?_) (fun b70_1 b70_2 b70_3 b70_4 h => ?_)
 refine oi h (fun hb72 h => ?_) (fun hb72 h => ?_)
 try simp only [*, go_sem]
 exact jc (p1.Label, p1.Key, p1.Version, p1.Yes) h.e [some 0]
 try simp only [*, go_sem]
 exact jc (0, 0, 0, false) h.e [some 0]
 try simp only [*, go_sem]
 exact jc (b70_1, b70_2, b70_3, b70_4) h.e [some 0]
 try simp only [*, go_sem]
 exact jc (b67_1, b67_2, b67_3, b67_4) h.e [some 0]
 try simp only [*, go_sem]
 exact jc (b64_1, b64_2, b64_3, 0, b64_4, 0) h.e [some 0]
 try simp only [*, go_sem]
 exact jc (b61_1, b61_2, 0, b61_3, b61_4, b61_5, b61_6) h.e [some 0]
 try simp only [*, go_sem]
 exact jc (b55_1, b55_2, b55_3, b55_4, b55_5, b55_6, b55_7) h.e [some 0]
 try simp only [*, go_sem]
 exact jc (b52_1, b52_2, b52_3, b52_4, b52_5, b52_6, b52_7) h.e [some 0]
 refine oin h (fun hb73 hkhb73 h => ?_) (fun hb73 hkhb73 h => ?_)
 try simp only [*, go_sem]
 cases h.e
 simp only [*, go_sem, mA, mS]
 try simp only [*, go_sem]
 cases h.e
 simp only [*, go_sem, mA, mS]
 try simp only [*, go_sem]
 refine jn7 h (fun b74_1 b74_2 b74_3 b74_4 b74_5 b74_6 b74_7 => [zK 3 (Message.enc p1), zP 6 0]) (fun b74_1 b74_2 b74_3 b74_4 b74_5 b74_6 b74_7 => [ox [zi p1.Kind, zi p1.From, zi p1.To, zi p1.Txn.Site, zi p1.Txn.N, zi b74_1, zi b74_2, zi b74_3, zi b74_4, zi b74_5, .d (.b b74_6), zi b74_7]]) (fun k75 h => ?_) (fun b74_1 b74_2 b74_3 b74_4 b74_5 b74_6 b74_7 h => ?_)
 refine oi h (fun hb76 h => ?_) (fun hb76 h => ?_)
 try simp only [*, go_sem]
 exact jc (p1.Label, p1.Key, 0, 0, p1.Ask, false, 0) h.e [some 0]
 try simp only [*, go_sem]
 refine jn7 h (fun b77_1 b77_2 b77_3 b77_4 b77_5 b77_6 b77_7 => [zK 3 (Message.enc p1), zP 6 0]) (fun b77_1 b77_2 b77_3 b77_4 b77_5 b77_6 b77_7 => [ox [zi p1.Kind, zi p1.From, zi p1.To, zi p1.Txn.Site, zi p1.Txn.N, zi b77_1, zi b77_2, zi b77_3, zi b77_4, zi b77_5, .d (.b b77_6), zi b77_7]]) (fun k78 h => ?_) (fun b77_1 b77_2 b77_3 b77_4 b77_5 b77_6 b77_7 h => ?_)
 refine oi h (fun hb79 h => ?_) (fun hb79 h => ?_)
 try simp only [*, go_sem]
 exact jc (0, p1.Key, p1.Value, 0, p1.Ask, false, 0) h.e [some 0]
 try simp only [*, go_sem]
 refine jn7 h (fun b80_1 b80_2 b80_3 b80_4 b80_5 b80_6 b80_7 => [zK 3 (Message.enc p1), zP 6 0]) (fun b80_1 b80_2 b80_3 b80_4 b80_5 b80_6 b80_7 => [ox [zi p1.Kind, zi p1.From, zi p1.To, zi p1.Txn.Site, zi p1.Txn.N, zi b80_1, zi b80_2, zi b80_3, zi b80_4, zi b80_5, .d (.b b80_6), zi b80_7]]) (fun k81 h => ?_) (fun b80_1 b80_2 b80_3 b80_4 b80_5 b80_6 b80_7 h => ?_)
 refine oi h (fun hb82 h => ?_) (fun hb82 h => ?_)
 try simp only [*, go_sem]
 refine jn2 h (fun b83_1 b83_2 => [zK 3 (Message.enc p1), zP 6 0]) (fun b83_1 b83_2 => [ox [zi p1.Kind, zi p1.From, zi p1.To, zi p1.Txn.Site, zi p1.Txn.N, zi p1.Label, zi p1.Key, zi b83_1, zi b83_2, zi p1.Ask, .d (.b false), zi p1.Code]]) (fun k84 h => ?_) (fun b83_1 b83_2 h => ?_)
 refine oi h (fun hb85 h => ?_) (fun hb85 h => ?_)
 try simp only [*, go_sem]
 exact jc (p1.Value, p1.Version) h.e [some 0]
 try simp only [*, go_sem]
 exact jc (0, 0) h.e [some 0]
 try simp only [*, go_sem]
 exact jc (p1.Label, p1.Key, b83_1, b83_2, p1.Ask, false, p1.Code) h.e [some 0]
 try simp only [*, go_sem]
 refine jn6 h (fun b86_1 b86_2 b86_3 b86_4 b86_5 b86_6 => [zK 3 (Message.enc p1), zP 6 0]) (fun b86_1 b86_2 b86_3 b86_4 b86_5 b86_6 => [ox [zi p1.Kind, zi p1.From, zi p1.To, zi p1.Txn.Site, zi p1.Txn.N, zi b86_1, zi b86_2, zi 0, zi b86_3, zi b86_4, .d (.b b86_5), zi b86_6]]) (fun k87 h => ?_) (fun b86_1 b86_2 b86_3 b86_4 b86_5 b86_6 h => ?_)
 refine oi h (fun hb88 h => ?_) (fun hb88 h => ?_)
 try simp only [*, go_sem]
 exact jc (0, p1.Key, 0, p1.Ask, false, p1.Code) h.e [some 0]
 try simp only [*, go_sem]
 refine jn4 h (fun b89_1 b89_2 b89_3 b89_4 => [zK 3 (Message.enc p1), zP 6 0]) (fun b89_1 b89_2 b89_3 b89_4 => [ox [zi p1.Kind, zi p1.From, zi p1.To, zi p1.Txn.Site, zi p1.Txn.N, zi b89_1, zi b89_2, zi 0, zi b89_3, zi 0, .d (.b b89_4), zi 0]]) (fun k90 h => ?_) (fun b89_1 b89_2 b89_3 b89_4 h => ?_)
 refine oi h (fun hb91 h => ?_) (fun hb91 h => ?_)
 try simp only [*, go_sem]
 exact jc (0, 0, 0, p1.Yes) h.e [some 0]
 try simp only [*, go_sem]
 refine jn4 h (fun b92_1 b92_2 b92_3 b92_4 => [zK 3 (Message.enc p1), zP 6 0]) (fun b92_1 b92_2 b92_3 b92_4 => [ox [zi p1.Kind, zi p1.From, zi p1.To, zi p1.Txn.Site, zi p1.Txn.N, zi b92_1, zi b92_2, zi 0, zi b92_3, zi 0, .d (.b b92_4), zi 0]]) (fun k93 h => ?_) (fun b92_1 b92_2 b92_3 b92_4 h => ?_)
 refine oi h (fun hb94 h => ?_) (fun hb94 h => ?_)
 try simp only [*, go_sem]
 exact jc (p1.Label, p1.Key, p1.Version, false) h.e [some 0]
 try simp only [*, go_sem]
 refine jn4 h (fun b95_1 b95_2 b95_3 b95_4 => [zK 3 (Message.enc p1), zP 6 0]) (fun b95_1 b95_2 b95_3 b95_4 => [ox [zi p1.Kind, zi p1.From, zi p1.To, zi p1.Txn.Site, zi p1.Txn.N, zi b95_1, zi b95_2, zi 0, zi b95_3, zi 0, .d (.b b95_4), zi 0]]) (fun k96 h => ?_) (fun b95_1 b95_2 b95_3 b95_4 h => ?_)
 refine oi h (fun hb97 h => ?_) (fun hb97 h => ?_)
 try simp only [*, go_sem]
 exact jc (p1.Label, p1.Key, p1.Version, p1.Yes) h.e [some 0]
 try simp only [*, go_sem]
 exact jc (0, 0, 0, false) h.e [some 0]
 try simp only [*, go_sem]
 exact jc (b95_1, b95_2, b95_3, b95_4) h.e [some 0]
 try simp only [*, go_sem]
 exact jc (b92_1, b92_2, b92_3, b92_4) h.e [some 0]
 try simp only [*, go_sem]
 exact jc (b89_1, b89_2, b89_3, 0, b89_4, 0) h.e [some 0]
 try simp only [*, go_sem]
 exact jc (b86_1, b86_2, 0, b86_3, b86_4, b86_5, b86_6) h.e [some 0]
 try simp only [*, go_sem]
 exact jc (b80_1, b80_2, b80_3, b80_4, b80_5, b80_6, b80_7) h.e [some 0]
 try simp only [*, go_sem]
 exact jc (b77_1, b77_2, b77_3, b77_4, b77_5, b77_6, b77_7) h.e [some 0]
 refine oin h (fun hb98 hkhb98 h => ?_) (fun hb98 hkhb98 h => ?_)
 try simp only [*, go_sem]
 cases h.e
 simp only [*, go_sem, mA, mS]
 try simp only [*, go_sem]
 cases h.e
 simp only [*, go_sem, mA, mS]
def reredosref_FlyingFault_L2 (p0 : Config) (a7_1 : Nat) (x11 : List Message) (k15 : Option (Int)) : Nat → Nat → Option (Int)
 | 0, _ => none
 | n17 + 1, a16_1 => (if (decide (a16_1 < x11.length)) = true then (Option.bind (x11[a16_1]?) fun x20 => (Option.bind (reredosref_MessageFault p0 x20) fun v21 => (if (v21 != 0) = true then (some 9) else (if (IntKind.i64.wrap (IntKind.i64.wrap (x20.From * p0.Sites) + x20.To) != ((a7_1 : Nat) : Int)) = true then (some 9) else (reredosref_FlyingFault_L2 p0 a7_1 x11 k15 n17 (a16_1 + 1)))))) else k15)
def reredosref_FlyingFault_L1 (p0 : Config) (p1 : List (List Message)) (k6 : Option (Int)) : Nat → Nat → Option (Int)
 | 0, _ => none
 | n8 + 1, a7_1 => (if (decide (a7_1 < p1.length)) = true then (Option.bind (p1[a7_1]?) fun x11 => (if (decide (((x11.length : Nat) : Int) > 30)) = true then (some 9) else (withK (reredosref_FlyingFault_L1 p0 p1 k6 n8 (a7_1 + 1)) fun k15 => (reredosref_FlyingFault_L2 p0 a7_1 x11 k15 (x11.length + 1) 0)))) else k6)
def reredosref_FlyingFault (p0 : Config) (p1 : List (List Message)) : Option (Int) := (Option.bind (reredosref_ConfigFault p0) fun v1 => (if (v1 != 0) = true then (some v1) else (if (((p1.length : Nat) : Int) != IntKind.i64.wrap (p0.Sites * p0.Sites)) = true then (some 9) else (withK (some 0) fun k6 => (reredosref_FlyingFault_L1 p0 p1 k6 (p1.length + 1) 0)))))
def F14 : VFn := ⟨66, (.seq (.reg [vo 2 (.box 3 (.t 0)), mi 4 0]) (.seq (.reg [vl 9 3 2, vo 10 (.call 26 [(.t 9)]), vm 5 10]) (.seq (.seq (.reg [vm 11 5, bk 12 .neq 11 0]) (.cond (.t 12) (.seq (.reg [vm 13 5, vm 4 13]) .ret) .skip)) (.seq (.seq (.reg [vm 14 1, ln 15 14, vf 16 0 2, vs 17 16, vf 18 0 2, vs 19 18, bt 20 .mul 17 19, bt 21 .neq 15 20]) (.cond (.t 21) (.seq (.reg [mi 4 9]) .ret) .skip)) (.seq (.seq (.reg [mi 6 0]) (.wk (.block 0 (.loop (.seq (.seq (.reg [vm 22 6, vm 23 1, ln 24 23, bt 25 .lss 22 24]) (.cond (.t 25) .skip (.exit 0))) (.seq (.block 1 (.seq (.seq (.reg [vm 28 1, vm 29 6, xa 30 1 28 29, vs 31 30, ln 32 31, bk 33 .gtr 32 30]) (.cond (.t 33) (.seq (.reg [mi 4 9]) .ret) .skip)) (.seq (.reg [mi 7 0]) (.wk (.block 2 (.loop (.seq (.seq (.reg [vm 34 7, vm 35 1, vm 36 6, xa 37 1 35 36, vs 38 37, ln 39 38, bt 40 .lss 34 39]) (.cond (.t 40) .skip (.exit 2))) (.seq (.block 3 (.seq (.reg [vm 43 1, vm 44 6, xa 45 1 43 44, vs 46 45, vm 47 7, xa 48 12 46 47, vl 49 12 48, vo 8 (.alloc [(zi 0), (zi 0), (zi 0), (zi 0), (zi 0), (zi 0), (zi 0), (zi 0), (zi 0), (zi 0), (.d (.b false)), (zi 0)]), vu (.st 12 (.t 8) (.t 49))]) (.seq (.reg [vl 50 3 2, vl 51 12 8, vo 52 (.call 15 [(.t 50), (.t 51)]), bk 53 .neq 52 0, vm 54 53, gf 55 54 (.fa 1 (.t 8)), gf 56 54 (.ld false 1 (.t 55)), gf 57 54 (.fa 0 (.t 2)), gf 58 54 (.ld false 1 (.t 57)), gf 59 54 (.bin .i .mul (.t 56) (.t 58)), gf 60 54 (.fa 2 (.t 8)), gf 61 54 (.ld false 1 (.t 60)), gf 62 54 (.bin .i .add (.t 59) (.t 61)), gf 63 54 (.mv (.t 6)), gf 64 54 (.bin .i .neq (.t 62) (.t 63)), vo 65 (.pick (.t 54) (cb true) (.t 64))]) (.cond (.t 65) (.seq (.reg [mi 4 9]) .ret) .skip)))) (.reg [vm 41 7, bk 42 .add 41 1, vm 7 42]))))))))) (.reg [vm 26 6, bk 27 .add 26 1, vm 6 27]))))))) (.seq (.reg [mi 4 0]) .ret)))))), [.t 4]⟩
theorem low14 : lowF Tryd.prog 14 = some F14.strip := by kernel_rfl
theorem fok14 : fOk Tryd.prog 14 = true := by kernel_rfl
theorem reredosref_FlyingFault_ok (p0 : Config) (p1 : List (List Message)) (r : Int) (h : reredosref_FlyingFault p0 p1 = some r) : FnRO Tryd.prog G 14 [.agg p0.bx, .one (.d (.l 1 (p1.map (encL 12 Message.enc))))] (fun rs => rs = [.one (.i .i64 r)]) := by
 refine FnRO.of' low14 fok14 (by simp [F14]) ?_
 rw [reredosref_FlyingFault] at h
 replace h := Hd.mk h
 simp only [F14, go_sem]
 try simp only [*, go_sem]
 refine cr h (reredosref_ConfigFault_ok G p0) (fun v1 h => ?_)
 refine oi h (fun hb2 h => ?_) (fun hb2 h => ?_)
 cases h.e
 simp only [*, go_sem, mA, mS]
 try simp only [*, go_sem]
 intro hl3
 refine oi h (fun hb4 h => ?_) (fun hb4 h => ?_)
 cases h.e
 simp only [*, go_sem, mA, mS]
 try simp only [*, go_sem]
 refine jn0 h ([]) ([]) (fun k6 h => ?_) (fun h => ?_)
 try simp only [*, go_sem]
 refine lp1 (reredosref_FlyingFault_L1 p0 p1 k6) (fun a7_1 => [zL 1 1 (p1.map (encL 12 Message.enc)), zP 2 0, zI 6 ((a7_1 : Nat) : Int)]) (fun a7_1 => [ox p0.bx]) h [] [some 0] (fun n8 a7_1 h => ?_) (by intros; rw [reredosref_FlyingFault_L1])
 rw [reredosref_FlyingFault_L1] at h
 try simp only [*, go_sem]
 intro hl9
 refine oi h (fun hb10 h => ?_) (fun hb10 h => ?_)
 have := of_decide_eq_true hb10
 refine obg h (fun x11 _ hkx11 h => ?_)
 try simp only [*, go_sem]
 intro hl12
 refine oi h (fun hb13 h => ?_) (fun hb13 h => ?_)
 cases h.e
 simp only [*, go_sem, mA, mS]
 try simp only [*, go_sem]
 refine jn0 h ([zL 1 1 (p1.map (encL 12 Message.enc)), zP 2 0, zI 6 ((a7_1 : Nat) : Int)]) ([ox p0.bx]) (fun k15 h => ?_) (fun h => ?_)
 try simp only [*, go_sem]
 refine lp1 (reredosref_FlyingFault_L2 p0 a7_1 x11 k15) (fun a16_1 => [zL 1 1 (p1.map (encL 12 Message.enc)), zP 2 0, zI 6 ((a7_1 : Nat) : Int), zI 7 ((a16_1 : Nat) : Int)]) (fun a16_1 => [ox p0.bx]) h [] [some 0] (fun n17 a16_1 h => ?_) (by intros; rw [reredosref_FlyingFault_L2])
 rw [reredosref_FlyingFault_L2] at h
 try simp only [*, go_sem]
 intro hl18
 refine oi h (fun hb19 h => ?_) (fun hb19 h => ?_)
 have := of_decide_eq_true hb19
 refine obg h (fun x20 _ hkx20 h => ?_)
 try simp only [*, go_sem]
 refine cr h (reredosref_MessageFault_ok G p0 x20) (fun v21 h => ?_)
 refine oi h (fun hb22 h => ?_) (fun hb22 h => ?_)
 cases h.e
 simp only [*, go_sem, mA, mS]
 refine oi h (fun hb23 h => ?_) (fun hb23 h => ?_)
 cases h.e
 simp only [*, go_sem, mA, mS]
 have := wrap_succ_max hkx20 hl12
 try simp only [*, go_sem]
 exact lc (a16_1 + 1) h.e [some 0]
 try simp only [*, go_sem]
 exact jc () h.e [some 0]
 have := wrap_succ_max hkx11 hl3
 try simp only [*, go_sem]
 exact lc (a7_1 + 1) h.e [some 0]
 try simp only [*, go_sem]
 exact jc () h.e []
 cases h.e
 simp only [*, go_sem, mA, mS]
def reredosref_TakenOf_L1 (p4 : Int) (x20 : List Message) (k38 : (List Message) → Option ((List (List Message)) × Message × Int)) : Nat → Nat → (List Message) → Option ((List (List Message)) × Message × Int)
 | 0, _, _ => none
 | n40 + 1, a39_1, a39_2 => (if (decide (a39_1 < x20.length)) = true then (if ((x20.length : Nat) : Int) = 0 then none else (withK (fun (b43_1 : List Message) => (reredosref_TakenOf_L1 p4 x20 k38 n40 (a39_1 + 1) b43_1)) fun k44 => (if (((a39_1 : Nat) : Int) != p4.tmod ((x20.length : Nat) : Int)) = true then (Option.bind (x20[a39_1]?) fun x46 => (if fits 96 (a39_2.length + 1) then (k44 (a39_2 ++ [x46])) else none)) else (k44 a39_2)))) else (k38 a39_2))
def reredosref_TakenOf_L2 (p4 : Int) (x54 : List Message) (k72 : (List Message) → Option ((List (List Message)) × Message × Int)) : Nat → Nat → (List Message) → Option ((List (List Message)) × Message × Int)
 | 0, _, _ => none
 | n74 + 1, a73_1, a73_2 => (if (decide (a73_1 < x54.length)) = true then (if ((x54.length : Nat) : Int) = 0 then none else (withK (fun (b77_1 : List Message) => (reredosref_TakenOf_L2 p4 x54 k72 n74 (a73_1 + 1) b77_1)) fun k78 => (if (((a73_1 : Nat) : Int) != p4.tmod ((x54.length : Nat) : Int)) = true then (Option.bind (x54[a73_1]?) fun x80 => (if fits 96 (a73_2.length + 1) then (k78 (a73_2 ++ [x80])) else none)) else (k78 a73_2)))) else (k72 a73_2))
def reredosref_TakenOf_L3 (p4 : Int) (x100 : List Message) (k118 : (List Message) → Option ((List (List Message)) × Message × Int)) : Nat → Nat → (List Message) → Option ((List (List Message)) × Message × Int)
 | 0, _, _ => none
 | n120 + 1, a119_1, a119_2 => (if (decide (a119_1 < x100.length)) = true then (if ((x100.length : Nat) : Int) = 0 then none else (withK (fun (b123_1 : List Message) => (reredosref_TakenOf_L3 p4 x100 k118 n120 (a119_1 + 1) b123_1)) fun k124 => (if (((a119_1 : Nat) : Int) != p4.tmod ((x100.length : Nat) : Int)) = true then (Option.bind (x100[a119_1]?) fun x126 => (if fits 96 (a119_2.length + 1) then (k124 (a119_2 ++ [x126])) else none)) else (k124 a119_2)))) else (k118 a119_2))
def reredosref_TakenOf_L4 (p4 : Int) (x134 : List Message) (k152 : (List Message) → Option ((List (List Message)) × Message × Int)) : Nat → Nat → (List Message) → Option ((List (List Message)) × Message × Int)
 | 0, _, _ => none
 | n154 + 1, a153_1, a153_2 => (if (decide (a153_1 < x134.length)) = true then (if ((x134.length : Nat) : Int) = 0 then none else (withK (fun (b157_1 : List Message) => (reredosref_TakenOf_L4 p4 x134 k152 n154 (a153_1 + 1) b157_1)) fun k158 => (if (((a153_1 : Nat) : Int) != p4.tmod ((x134.length : Nat) : Int)) = true then (Option.bind (x134[a153_1]?) fun x160 => (if fits 96 (a153_2.length + 1) then (k158 (a153_2 ++ [x160])) else none)) else (k158 a153_2)))) else (k152 a153_2))
def reredosref_TakenOf (p0 : Config) (p1 : List (List Message)) (p2 : Int) (p3 : Int) (p4 : Int) (p5 : Int) : Option ((List (List Message)) × Message × Int) := (Option.bind (reredosref_FlyingFault p0 p1) fun v1 => (if (v1 == 0) = true then (Option.bind (reredosref_In p5 2 4) fun v3 => (withK (fun (b4_1 : Int) => (if (b4_1 == 0) = true then (Option.bind (reredosref_In p2 0 (IntKind.i64.wrap (p0.Sites - 1))) fun v8 => (if (!v8) = true then (withK (some ([], (Message.mk 0 0 0 (Txn.mk 0 0) 0 0 0 0 0 false 0), 2)) fun k11 => k11) else (Option.bind (reredosref_In p3 0 (IntKind.i64.wrap (p0.Sites - 1))) fun v12 => (if (!v12) = true then (withK (some ([], (Message.mk 0 0 0 (Txn.mk 0 0) 0 0 0 0 0 false 0), 2)) fun k15 => k15) else (withK (fun (b16_1 : Int) => (if (b16_1 != 0) = true then (some ([], (Message.mk 0 0 0 (Txn.mk 0 0) 0 0 0 0 0 false 0), b16_1)) else (if 0 ≤ IntKind.i64.wrap (IntKind.i64.wrap (p2 * p0.Sites) + p3) then (Option.bind (p1[(IntKind.i64.wrap (IntKind.i64.wrap (p2 * p0.Sites) + p3)).toNat]?) fun x20 => (if (((x20.length : Nat) : Int) == 0) = true then (some ([], (Message.mk 0 0 0 (Txn.mk 0 0) 0 0 0 0 0 false 0), 6)) else (if (p5 == 4) = true then (if (decide (((x20.length : Nat) : Int) ≥ 30)) = true then (some ([], (Message.mk 0 0 0 (Txn.mk 0 0) 0 0 0 0 0 false 0), 8)) else (Option.bind (reredosref_FlyingCopy p1) fun v26 => (if ((x20.length : Nat) : Int) = 0 then none else (if 0 ≤ p4.tmod ((x20.length : Nat) : Int) then (Option.bind (x20[(p4.tmod ((x20.length : Nat) : Int)).toNat]?) fun x28 => (if 0 ≤ IntKind.i64.wrap (IntKind.i64.wrap (p2 * p0.Sites) + p3) then (Option.bind (v26[(IntKind.i64.wrap (IntKind.i64.wrap (p2 * p0.Sites) + p3)).toNat]?) fun x30 => (if fits 96 (x30.length + 1) then (some ((v26.set ((IntKind.i64.wrap (IntKind.i64.wrap (p2 * p0.Sites) + p3)).toNat) (x30 ++ [x28])), x28, 0)) else none)) else none)) else none)))) else (Option.bind (reredosref_FlyingCopy p1) fun v33 => (if ((x20.length : Nat) : Int) = 0 then none else (if 0 ≤ p4.tmod ((x20.length : Nat) : Int) then (Option.bind (x20[(p4.tmod ((x20.length : Nat) : Int)).toNat]?) fun x35 => (withK (fun (b37_1 : List Message) => (if 0 ≤ IntKind.i64.wrap (IntKind.i64.wrap (p2 * p0.Sites) + p3) then (Option.bind (v33[(IntKind.i64.wrap (IntKind.i64.wrap (p2 * p0.Sites) + p3)).toNat]?) fun x49 => (some ((v33.set ((IntKind.i64.wrap (IntKind.i64.wrap (p2 * p0.Sites) + p3)).toNat) b37_1), x35, 0))) else none)) fun k38 => (reredosref_TakenOf_L1 p4 x20 k38 (x20.length + 1) 0 []))) else none)))))) else none))) fun k17 => (if (decide (p4 < 0)) = true then (k17 2) else (k17 b4_1))))))) else (withK (if (b4_1 != 0) = true then (some ([], (Message.mk 0 0 0 (Txn.mk 0 0) 0 0 0 0 0 false 0), b4_1)) else (if 0 ≤ IntKind.i64.wrap (IntKind.i64.wrap (p2 * p0.Sites) + p3) then (Option.bind (p1[(IntKind.i64.wrap (IntKind.i64.wrap (p2 * p0.Sites) + p3)).toNat]?) fun x54 => (if (((x54.length : Nat) : Int) == 0) = true then (some ([], (Message.mk 0 0 0 (Txn.mk 0 0) 0 0 0 0 0 false 0), 6)) else (if (p5 == 4) = true then (if (decide (((x54.length : Nat) : Int) ≥ 30)) = true then (some ([], (Message.mk 0 0 0 (Txn.mk 0 0) 0 0 0 0 0 false 0), 8)) else (Option.bind (reredosref_FlyingCopy p1) fun v60 => (if ((x54.length : Nat) : Int) = 0 then none else (if 0 ≤ p4.tmod ((x54.length : Nat) : Int) then (Option.bind (x54[(p4.tmod ((x54.length : Nat) : Int)).toNat]?) fun x62 => (if 0 ≤ IntKind.i64.wrap (IntKind.i64.wrap (p2 * p0.Sites) + p3) then (Option.bind (v60[(IntKind.i64.wrap (IntKind.i64.wrap (p2 * p0.Sites) + p3)).toNat]?) fun x64 => (if fits 96 (x64.length + 1) then (some ((v60.set ((IntKind.i64.wrap (IntKind.i64.wrap (p2 * p0.Sites) + p3)).toNat) (x64 ++ [x62])), x62, 0)) else none)) else none)) else none)))) else (Option.bind (reredosref_FlyingCopy p1) fun v67 => (if ((x54.length : Nat) : Int) = 0 then none else (if 0 ≤ p4.tmod ((x54.length : Nat) : Int) then (Option.bind (x54[(p4.tmod ((x54.length : Nat) : Int)).toNat]?) fun x69 => (withK (fun (b71_1 : List Message) => (if 0 ≤ IntKind.i64.wrap (IntKind.i64.wrap (p2 * p0.Sites) + p3) then (Option.bind (v67[(IntKind.i64.wrap (IntKind.i64.wrap (p2 * p0.Sites) + p3)).toNat]?) fun x83 => (some ((v67.set ((IntKind.i64.wrap (IntKind.i64.wrap (p2 * p0.Sites) + p3)).toNat) b71_1), x69, 0))) else none)) fun k72 => (reredosref_TakenOf_L2 p4 x54 k72 (x54.length + 1) 0 []))) else none)))))) else none)) fun k52 => k52))) fun k5 => (if (!v3) = true then (k5 3) else (k5 v1)))) else (withK (if (v1 == 0) = true then (Option.bind (reredosref_In p2 0 (IntKind.i64.wrap (p0.Sites - 1))) fun v88 => (if (!v88) = true then (withK (some ([], (Message.mk 0 0 0 (Txn.mk 0 0) 0 0 0 0 0 false 0), 2)) fun k91 => k91) else (Option.bind (reredosref_In p3 0 (IntKind.i64.wrap (p0.Sites - 1))) fun v92 => (if (!v92) = true then (withK (some ([], (Message.mk 0 0 0 (Txn.mk 0 0) 0 0 0 0 0 false 0), 2)) fun k95 => k95) else (withK (fun (b96_1 : Int) => (if (b96_1 != 0) = true then (some ([], (Message.mk 0 0 0 (Txn.mk 0 0) 0 0 0 0 0 false 0), b96_1)) else (if 0 ≤ IntKind.i64.wrap (IntKind.i64.wrap (p2 * p0.Sites) + p3) then (Option.bind (p1[(IntKind.i64.wrap (IntKind.i64.wrap (p2 * p0.Sites) + p3)).toNat]?) fun x100 => (if (((x100.length : Nat) : Int) == 0) = true then (some ([], (Message.mk 0 0 0 (Txn.mk 0 0) 0 0 0 0 0 false 0), 6)) else (if (p5 == 4) = true then (if (decide (((x100.length : Nat) : Int) ≥ 30)) = true then (some ([], (Message.mk 0 0 0 (Txn.mk 0 0) 0 0 0 0 0 false 0), 8)) else (Option.bind (reredosref_FlyingCopy p1) fun v106 => (if ((x100.length : Nat) : Int) = 0 then none else (if 0 ≤ p4.tmod ((x100.length : Nat) : Int) then (Option.bind (x100[(p4.tmod ((x100.length : Nat) : Int)).toNat]?) fun x108 => (if 0 ≤ IntKind.i64.wrap (IntKind.i64.wrap (p2 * p0.Sites) + p3) then (Option.bind (v106[(IntKind.i64.wrap (IntKind.i64.wrap (p2 * p0.Sites) + p3)).toNat]?) fun x110 => (if fits 96 (x110.length + 1) then (some ((v106.set ((IntKind.i64.wrap (IntKind.i64.wrap (p2 * p0.Sites) + p3)).toNat) (x110 ++ [x108])), x108, 0)) else none)) else none)) else none)))) else (Option.bind (reredosref_FlyingCopy p1) fun v113 => (if ((x100.length : Nat) : Int) = 0 then none else (if 0 ≤ p4.tmod ((x100.length : Nat) : Int) then (Option.bind (x100[(p4.tmod ((x100.length : Nat) : Int)).toNat]?) fun x115 => (withK (fun (b117_1 : List Message) => (if 0 ≤ IntKind.i64.wrap (IntKind.i64.wrap (p2 * p0.Sites) + p3) then (Option.bind (v113[(IntKind.i64.wrap (IntKind.i64.wrap (p2 * p0.Sites) + p3)).toNat]?) fun x129 => (some ((v113.set ((IntKind.i64.wrap (IntKind.i64.wrap (p2 * p0.Sites) + p3)).toNat) b117_1), x115, 0))) else none)) fun k118 => (reredosref_TakenOf_L3 p4 x100 k118 (x100.length + 1) 0 []))) else none)))))) else none))) fun k97 => (if (decide (p4 < 0)) = true then (k97 2) else (k97 v1))))))) else (withK (if (v1 != 0) = true then (some ([], (Message.mk 0 0 0 (Txn.mk 0 0) 0 0 0 0 0 false 0), v1)) else (if 0 ≤ IntKind.i64.wrap (IntKind.i64.wrap (p2 * p0.Sites) + p3) then (Option.bind (p1[(IntKind.i64.wrap (IntKind.i64.wrap (p2 * p0.Sites) + p3)).toNat]?) fun x134 => (if (((x134.length : Nat) : Int) == 0) = true then (some ([], (Message.mk 0 0 0 (Txn.mk 0 0) 0 0 0 0 0 false 0), 6)) else (if (p5 == 4) = true then (if (decide (((x134.length : Nat) : Int) ≥ 30)) = true then (some ([], (Message.mk 0 0 0 (Txn.mk 0 0) 0 0 0 0 0 false 0), 8)) else (Option.bind (reredosref_FlyingCopy p1) fun v140 => (if ((x134.length : Nat) : Int) = 0 then none else (if 0 ≤ p4.tmod ((x134.length : Nat) : Int) then (Option.bind (x134[(p4.tmod ((x134.length : Nat) : Int)).toNat]?) fun x142 => (if 0 ≤ IntKind.i64.wrap (IntKind.i64.wrap (p2 * p0.Sites) + p3) then (Option.bind (v140[(IntKind.i64.wrap (IntKind.i64.wrap (p2 * p0.Sites) + p3)).toNat]?) fun x144 => (if fits 96 (x144.length + 1) then (some ((v140.set ((IntKind.i64.wrap (IntKind.i64.wrap (p2 * p0.Sites) + p3)).toNat) (x144 ++ [x142])), x142, 0)) else none)) else none)) else none)))) else (Option.bind (reredosref_FlyingCopy p1) fun v147 => (if ((x134.length : Nat) : Int) = 0 then none else (if 0 ≤ p4.tmod ((x134.length : Nat) : Int) then (Option.bind (x134[(p4.tmod ((x134.length : Nat) : Int)).toNat]?) fun x149 => (withK (fun (b151_1 : List Message) => (if 0 ≤ IntKind.i64.wrap (IntKind.i64.wrap (p2 * p0.Sites) + p3) then (Option.bind (v147[(IntKind.i64.wrap (IntKind.i64.wrap (p2 * p0.Sites) + p3)).toNat]?) fun x163 => (some ((v147.set ((IntKind.i64.wrap (IntKind.i64.wrap (p2 * p0.Sites) + p3)).toNat) b151_1), x149, 0))) else none)) fun k152 => (reredosref_TakenOf_L4 p4 x134 k152 (x134.length + 1) 0 []))) else none)))))) else none)) fun k132 => k132)) fun k86 => k86)))
def F10 : VFn := ⟨130, (.seq (.reg [vo 6 (.box 3 (.t 0)), vo 12 (.mv (.c (.one (.nl 1)))), vo 13 (.alloc [(zi 0), (zi 0), (zi 0), (zi 0), (zi 0), (zi 0), (zi 0), (zi 0), (zi 0), (zi 0), (.d (.b false)), (zi 0)]), mi 14 0]) (.seq (.reg [vl 22 3 6, vm 23 1, vo 24 (.call 14 [(.t 22), (.t 23)]), vm 15 24]) (.seq (.seq (.reg [vm 25 15, bk 26 .eql 25 0, vm 27 26, gt 28 27 (.mv (.t 5)), gt 29 27 (.call 18 [(.t 28), (ci 2), (ci 4)]), gt 30 27 (.un .not (.t 29)), vo 31 (.pick (.t 27) (.t 30) (cb false))]) (.wk (.cond (.t 31) (.reg [mi 15 3]) .skip))) (.seq (.seq (.reg [vm 32 15, bk 33 .eql 32 0, vm 34 33, gt 35 34 (.mv (.t 2)), gt 36 34 (.fa 0 (.t 6)), gt 37 34 (.ld false 1 (.t 36)), gt 38 34 (.bin .i .sub (.t 37) (ci 1)), gt 39 34 (.call 18 [(.t 35), (ci 0), (.t 38)]), gt 40 34 (.un .not (.t 39)), gt 41 34 (.mv (.t 40)), gf 42 41 (.mv (.t 3)), gf 43 41 (.fa 0 (.t 6)), gf 44 41 (.ld false 1 (.t 43)), gf 45 41 (.bin .i .sub (.t 44) (ci 1)), gf 46 41 (.call 18 [(.t 42), (ci 0), (.t 45)]), gf 47 41 (.un .not (.t 46)), gt 48 34 (.pick (.t 41) (cb true) (.t 47)), gt 49 34 (.mv (.t 48)), gf 50 49 (.mv (.t 4)), gf 51 49 (.bin .i .lss (.t 50) (ci 0)), gt 52 34 (.pick (.t 49) (cb true) (.t 51)), vo 53 (.pick (.t 34) (.t 52) (cb false))]) (.wk (.cond (.t 53) (.reg [mi 15 2]) .skip))) (.seq (.seq (.reg [vm 54 15, bk 55 .neq 54 0]) (.cond (.t 55) (.seq (.reg [vo 56 (.build [(zi 0), (zi 0), (zi 0), (zi 0), (zi 0), (zi 0), (zi 0), (zi 0), (zi 0), (zi 0), (.d (.b false)), (zi 0)] []), vm 57 15, vo 12 (.mv (.c (.one (.nl 1)))), vu (.st 12 (.t 13) (.t 56)), vm 14 57]) .ret) .skip)) (.seq (.reg [vm 58 2, vf 59 0 6, vs 60 59, bt 61 .mul 58 60, vm 62 3, bt 63 .add 61 62, vm 16 63]) (.seq (.reg [vm 64 1, vm 65 16, xa 66 1 64 65, vs 67 66, ln 68 67, vm 17 68]) (.seq (.seq (.reg [vm 69 17, bk 70 .eql 69 0]) (.cond (.t 70) (.seq (.reg [vo 71 (.build [(zi 0), (zi 0), (zi 0), (zi 0), (zi 0), (zi 0), (zi 0), (zi 0), (zi 0), (zi 0), (.d (.b false)), (zi 0)] []), vo 12 (.mv (.c (.one (.nl 1)))), vu (.st 12 (.t 13) (.t 71)), mi 14 6]) .ret) .skip)) (.seq (.seq (.reg [vm 72 5, bk 73 .eql 72 4, vm 74 73, gt 75 74 (.mv (.t 17)), gt 76 74 (.bin .i .geq (.t 75) (ci 30)), vo 77 (.pick (.t 74) (.t 76) (cb false))]) (.cond (.t 77) (.seq (.reg [vo 78 (.build [(zi 0), (zi 0), (zi 0), (zi 0), (zi 0), (zi 0), (zi 0), (zi 0), (zi 0), (zi 0), (.d (.b false)), (zi 0)] []), vo 12 (.mv (.c (.one (.nl 1)))), vu (.st 12 (.t 13) (.t 78)), mi 14 8]) .ret) .skip)) (.seq (.reg [vm 79 1, vo 80 (.call 5 [(.t 79)]), vm 18 80]) (.seq (.draw [vd (vm 81 1) 0, vd (vm 82 16) 0, vd (xa 83 1 81 82) 3, vd (vs 84 83) 7, vd (vm 85 4) 0, vd (vm 86 17) 0, vd (bt 87 .rem 85 86) 48, vd (xa 88 12 84 87) 127, vd (vl 89 12 88) 255, vd (vo 19 (.alloc [(zi 0), (zi 0), (zi 0), (zi 0), (zi 0), (zi 0), (zi 0), (zi 0), (zi 0), (zi 0), (.d (.b false)), (zi 0)])) 0, vd (vu (.st 12 (.t 19) (.t 89))) 1023]) (.seq (.seq (.reg [vm 90 5, bk 91 .eql 90 4]) (.cond (.t 91) (.seq (.gho (.draw [vd (vm 92 18) 0, vd (vm 93 16) 0, vd (vm 94 18) 0, vd (vm 95 16) 0, vd (xa 96 1 94 95) 12, vd (vs 97 96) 28, vd (vl 98 12 19) 0, vd (vo 99 (.bsl 12 1 [(zi 0), (zi 0), (zi 0), (zi 0), (zi 0), (zi 0), (zi 0), (zi 0), (zi 0), (zi 0), (.d (.b false)), (zi 0)] [(0, (.t 98))])) 64, vd (vo 100 (.app 12 96 (.t 97) (.t 99))) 252, vd (xa 101 1 92 93) 511, vd (vu (.st 1 (.t 101) (.t 100))) 1023])) (.seq (.draw [vd (vm 102 18) 0, vd (vl 103 12 19) 0, vd (vm 12 102) 1, vd (vu (.st 12 (.t 13) (.t 103))) 7, vd (mi 14 0) 15]) (.gho .ret))) .skip)) (.seq (.reg [vo 20 (.mv (.c (.one (.nl 12))))]) (.seq (.seq (.reg [mi 21 0]) (.wk (.block 0 (.loop (.seq (.seq (.reg [vm 104 21, vm 105 17, bt 106 .lss 104 105]) (.cond (.t 106) .skip (.exit 0))) (.seq (.block 1 (.seq (.reg [vm 109 21, vm 110 4, vm 111 17, bt 112 .rem 110 111, bt 113 .neq 109 112]) (.wk (.cond (.t 113) (.reg [vm 114 20, vm 115 1, vm 116 16, xa 117 1 115 116, vs 118 117, vm 119 21, xa 120 12 118 119, vl 121 12 120, vo 122 (.bsl 12 1 [(zi 0), (zi 0), (zi 0), (zi 0), (zi 0), (zi 0), (zi 0), (zi 0), (zi 0), (zi 0), (.d (.b false)), (zi 0)] [(0, (.t 121))]), vo 123 (.app 12 96 (.t 114) (.t 122)), vm 20 123]) .skip)))) (.reg [vm 107 21, bk 108 .add 107 1, vm 21 108]))))))) (.seq (.gho (.reg [vm 124 18, vm 125 16, vm 126 20, xa 127 1 124 125, vu (.st 1 (.t 127) (.t 126))])) (.seq (.draw [vd (vm 128 18) 0, vd (vl 129 12 19) 0, vd (vm 12 128) 1, vd (vu (.st 12 (.t 13) (.t 129))) 7, vd (mi 14 0) 15]) (.gho .ret))))))))))))))))), [.t 12, .cell 13 true 12, .t 14]⟩
theorem low10 : lowF Tryd.prog 10 = some F10.strip := by kernel_rfl
theorem fok10 : fOk Tryd.prog 10 = true := by kernel_rfl
theorem reredosref_TakenOf_ok (p0 : Config) (p1 : List (List Message)) (p2 : Int) (p3 : Int) (p4 : Int) (p5 : Int) (r : (List (List Message)) × Message × Int) (h : reredosref_TakenOf p0 p1 p2 p3 p4 p5 = some r) : FnRO Tryd.prog G 10 [.agg p0.bx, .one (.d (.l 1 (p1.map (encL 12 Message.enc)))), .one (.d (.i .i64 p2)), .one (.d (.i .i64 p3)), .one (.d (.i .i64 p4)), .one (.d (.i .i64 p5))] (fun rs => rs = [.one (.t 1 (r.1.map (encLO 12 Message.enc))), .agg (r.2.1.encO), .one (.i .i64 r.2.2)]) := by
 refine FnRO.same ?_
 refine FnRO.of' low10 fok10 (by simp [F10]) ?_
 rw [reredosref_TakenOf] at h
 replace h := Hd.mk h
 simp only [F10, go_sem]
 try simp only [*, go_sem]
 refine cr h (reredosref_FlyingFault_ok G p0 p1) (fun v1 h => ?_)
 refine oi h (fun hb2 h => ?_) (fun hb2 h => ?_)
 try simp only [*, go_sem]
 refine cr h (reredosref_In_ok G p5 2 4) (fun v3 h => ?_)
 try simp only [*, go_sem]
 refine jn1 h (fun b4_1 => [zL 1 1 (p1.map (encL 12 Message.enc)), zI 2 p2, zI 3 p3, zI 4 p4, zI 5 p5, zP 6 0, zP 13 1, zI 15 b4_1]) (fun b4_1 => [ox p0.bx, ox [zi 0, zi 0, zi 0, zi 0, zi 0, zi 0, zi 0, zi 0, zi 0, zi 0, .d (.b false), zi 0]]) (fun k5 h => ?_) (fun b4_1 h => ?_)
 refine oin h (fun hb6 hkhb6 h => ?_) (fun hb6 hkhb6 h => ?_)
 try simp only [*, go_sem]
 exact jc (3) h.e [some 0, some 1]
 try simp only [*, go_sem]
 exact jc (v1) h.e [some 0, some 1]
 refine oi h (fun hb7 h => ?_) (fun hb7 h => ?_)
 try simp only [*, go_sem]
 refine cr h (reredosref_In_ok G p2 0 (IntKind.i64.wrap (p0.Sites - 1))) (fun v8 h => ?_)
 refine oin h (fun hb9 hkhb9 h => ?_) (fun hb9 hkhb9 h => ?_)
 try simp only [*, go_sem]
 refine jn0 h ([zL 1 1 (p1.map (encL 12 Message.enc)), zI 2 p2, zI 3 p3, zI 4 p4, zI 5 p5, zP 6 0, zP 13 1, zI 15 2]) ([ox p0.bx, ox [zi 0, zi 0, zi 0, zi 0, zi 0, zi 0, zi 0, zi 0, zi 0, zi 0, .d (.b false), zi 0]]) (fun k11 h => ?_) (fun h => ?_)
 try simp only [*, go_sem]
 exact jc () h.e [some 0, some 1]
 cases h.e
 simp only [*, go_sem, mA, mS]
 try simp only [*, go_sem]
 refine cr h (reredosref_In_ok G p3 0 (IntKind.i64.wrap (p0.Sites - 1))) (fun v12 h => ?_)
 refine oin h (fun hb13 hkhb13 h => ?_) (fun hb13 hkhb13 h => ?_)
 try simp only [*, go_sem]
 refine jn0 h ([zL 1 1 (p1.map (encL 12 Message.enc)), zI 2 p2, zI 3 p3, zI 4 p4, zI 5 p5, zP 6 0, zP 13 1, zI 15 2]) ([ox p0.bx, ox [zi 0, zi 0, zi 0, zi 0, zi 0, zi 0, zi 0, zi 0, zi 0, zi 0, .d (.b false), zi 0]]) (fun k15 h => ?_) (fun h => ?_)
 try simp only [*, go_sem]
 exact jc () h.e [some 0, some 1]
 cases h.e
 simp only [*, go_sem, mA, mS]
 try simp only [*, go_sem]
 refine jn1 h (fun b16_1 => [zL 1 1 (p1.map (encL 12 Message.enc)), zI 2 p2, zI 3 p3, zI 4 p4, zI 5 p5, zP 6 0, zP 13 1, zI 15 b16_1]) (fun b16_1 => [ox p0.bx, ox [zi 0, zi 0, zi 0, zi 0, zi 0, zi 0, zi 0, zi 0, zi 0, zi 0, .d (.b false), zi 0]]) (fun k17 h => ?_) (fun b16_1 h => ?_)
 refine oi h (fun hb18 h => ?_) (fun hb18 h => ?_)
 have := of_decide_eq_true hb18
 try simp only [*, go_sem]
 exact jc (2) h.e [some 0, some 1]
 try simp only [*, go_sem]
 exact jc (b4_1) h.e [some 0, some 1]
 refine oi h (fun hb19 h => ?_) (fun hb19 h => ?_)
 cases h.e
 simp only [*, go_sem, mA, mS]
 refine obn h (fun x20 _ _ _ _ h => ?_)
 try simp only [*, go_sem]
 intro hl22
 refine oi h (fun hb23 h => ?_) (fun hb23 h => ?_)
 cases h.e
 simp only [*, go_sem, mA, mS]
 refine oi h (fun hb24 h => ?_) (fun hb24 h => ?_)
 refine oi h (fun hb25 h => ?_) (fun hb25 h => ?_)
 cases h.e
 simp only [*, go_sem, mA, mS]
 try simp only [*, go_sem]
 refine cr h (reredosref_FlyingCopy_ok G p1) (fun v26 h => ?_)
 refine ckn h (fun _ h => ?_)
 refine obn h (fun x28 _ _ _ _ h => ?_)
 try simp only [*, go_sem]
 refine gho_lk _ G _ _ [.f 2 ((IntKind.i64.wrap (IntKind.i64.wrap (p2 * p0.Sites) + p3)).toNat)] ?_
 try simp only [*, go_sem]
 refine obn h (fun x30 _ _ _ _ h => ?_)
 refine ck h (fun _ h => ?_)
 try simp only [*, go_sem]
 refine gho_lk _ G _ _ [.u 2] ?_
 try simp only [*, go_sem]
 cases h.e
 simp only [*, go_sem, mA, mS]
 try simp only [*, go_sem]
 refine cr h (reredosref_FlyingCopy_ok G p1) (fun v33 h => ?_)
 refine ckn h (fun _ h => ?_)
 refine obn h (fun x35 _ _ _ _ h => ?_)
 try simp only [*, go_sem]
 refine jn1 h (fun b37_1 => [zP 13 0, zI 16 (IntKind.i64.wrap (IntKind.i64.wrap (p2 * p0.Sites) + p3)), zR 18 1 0 v33.length, zP 19 2, zR 20 3 0 b37_1.length]) (fun b37_1 => [ox [zi 0, zi 0, zi 0, zi 0, zi 0, zi 0, zi 0, zi 0, zi 0, zi 0, .d (.b false), zi 0], ot 1 (v33.map (encLO 12 Message.enc)), ox x35.bx, oa 12 (b37_1.map Message.enc)]) (fun k38 h => ?_) (fun b37_1 h => ?_)
 try simp only [*, go_sem]
 refine lp2 (reredosref_TakenOf_L1 p4 x20 k38) (fun a39_1 a39_2 => [zL 1 1 (p1.map (encL 12 Message.enc)), zI 4 p4, zP 13 0, zI 16 (IntKind.i64.wrap (IntKind.i64.wrap (p2 * p0.Sites) + p3)), zI 17 ((x20.length : Nat) : Int), zR 18 1 0 v33.length, zP 19 2, zR 20 3 0 a39_2.length, zI 21 ((a39_1 : Nat) : Int)]) (fun a39_1 a39_2 => [ox [zi 0, zi 0, zi 0, zi 0, zi 0, zi 0, zi 0, zi 0, zi 0, zi 0, .d (.b false), zi 0], ot 1 (v33.map (encLO 12 Message.enc)), ox x35.bx, oa 12 (a39_2.map Message.enc)]) h [] [some 1, some 2, some 12, none] (fun n40 a39_1 a39_2 h => ?_) (by intros; rw [reredosref_TakenOf_L1])
 rw [reredosref_TakenOf_L1] at h
 refine oi h (fun hb41 h => ?_) (fun hb41 h => ?_)
 have hkhb41 := of_decide_eq_true hb41
 refine ckn h (fun _ h => ?_)
 try simp only [*, go_sem]
 refine jn1 h (fun b43_1 => [zL 1 1 (p1.map (encL 12 Message.enc)), zI 4 p4, zP 13 0, zI 16 (IntKind.i64.wrap (IntKind.i64.wrap (p2 * p0.Sites) + p3)), zI 17 ((x20.length : Nat) : Int), zR 18 1 0 v33.length, zP 19 2, zR 20 3 0 b43_1.length, zI 21 ((a39_1 : Nat) : Int)]) (fun b43_1 => [ox [zi 0, zi 0, zi 0, zi 0, zi 0, zi 0, zi 0, zi 0, zi 0, zi 0, .d (.b false), zi 0], ot 1 (v33.map (encLO 12 Message.enc)), ox x35.bx, oa 12 (b43_1.map Message.enc)]) (fun k44 h => ?_) (fun b43_1 h => ?_)
 refine oi h (fun hb45 h => ?_) (fun hb45 h => ?_)
 refine obg h (fun x46 _ _ h => ?_)
 refine ck h (fun _ h => ?_)
 try simp only [*, go_sem]
 exact jc ((a39_2 ++ [x46])) h.e [some 0, some 1, some 2, some 5]
 try simp only [*, go_sem]
 exact jc (a39_2) h.e [some 0, some 1, some 2, some 3]
 have := wrap_succ_max hkhb41 hl22
 try simp only [*, go_sem]
 exact lc (a39_1 + 1, b43_1) h.e [some 0, some 1, some 2, some 3]
 try simp only [*, go_sem]
 exact jc (a39_2) h.e [some 0, some 1, some 2, some 3]
 refine obn h (fun x49 _ _ _ _ h => ?_)
 try simp only [*, go_sem]
 refine gho_lk _ G _ _ [.f 1 ((IntKind.i64.wrap (IntKind.i64.wrap (p2 * p0.Sites) + p3)).toNat)] ?_
 try simp only [*, go_sem]
 try simp only [*, go_sem]
 refine gho_lk _ G _ _ [.u 1] ?_
 try simp only [*, go_sem]
 cases h.e
 simp only [*, go_sem, mA, mS]
 try simp only [*, go_sem]
 refine jn0 h ([zL 1 1 (p1.map (encL 12 Message.enc)), zI 2 p2, zI 3 p3, zI 4 p4, zI 5 p5, zP 6 0, zP 13 1, zI 15 b4_1]) ([ox p0.bx, ox [zi 0, zi 0, zi 0, zi 0, zi 0, zi 0, zi 0, zi 0, zi 0, zi 0, .d (.b false), zi 0]]) (fun k52 h => ?_) (fun h => ?_)
 try simp only [*, go_sem]
 exact jc () h.e [some 0, some 1]
 refine oi h (fun hb53 h => ?_) (fun hb53 h => ?_)
 cases h.e
 simp only [*, go_sem, mA, mS]
 refine obn h (fun x54 _ _ _ _ h => ?_)
 try simp only [*, go_sem]
 intro hl56
 refine oi h (fun hb57 h => ?_) (fun hb57 h => ?_)
 cases h.e
 simp only [*, go_sem, mA, mS]
 refine oi h (fun hb58 h => ?_) (fun hb58 h => ?_)
 refine oi h (fun hb59 h => ?_) (fun hb59 h => ?_)
 cases h.e
 simp only [*, go_sem, mA, mS]
 try simp only [*, go_sem]
 refine cr h (reredosref_FlyingCopy_ok G p1) (fun v60 h => ?_)
 refine ckn h (fun _ h => ?_)
 refine obn h (fun x62 _ _ _ _ h => ?_)
 try simp only [*, go_sem]
 refine gho_lk _ G _ _ [.f 2 ((IntKind.i64.wrap (IntKind.i64.wrap (p2 * p0.Sites) + p3)).toNat)] ?_
 try simp only [*, go_sem]
 refine obn h (fun x64 _ _ _ _ h => ?_)
 refine ck h (fun _ h => ?_)
 try simp only [*, go_sem]
 refine gho_lk _ G _ _ [.u 2] ?_
 try simp only [*, go_sem]
 cases h.e
 simp only [*, go_sem, mA, mS]
 try simp only [*, go_sem]
 refine cr h (reredosref_FlyingCopy_ok G p1) (fun v67 h => ?_)
 refine ckn h (fun _ h => ?_)
 refine obn h (fun x69 _ _ _ _ h => ?_)
 try simp only [*, go_sem]
 refine jn1 h (fun b71_1 => [zP 13 0, zI 16 (IntKind.i64.wrap (IntKind.i64.wrap (p2 * p0.Sites) + p3)), zR 18 1 0 v67.length, zP 19 2, zR 20 3 0 b71_1.length]) (fun b71_1 => [ox [zi 0, zi 0, zi 0, zi 0, zi 0, zi 0, zi 0, zi 0, zi 0, zi 0, .d (.b false), zi 0], ot 1 (v67.map (encLO 12 Message.enc)), ox x69.bx, oa 12 (b71_1.map Message.enc)]) (fun k72 h => ?_) (fun b71_1 h => ?_)
 try simp only [*, go_sem]
 refine lp2 (reredosref_TakenOf_L2 p4 x54 k72) (fun a73_1 a73_2 => [zL 1 1 (p1.map (encL 12 Message.enc)), zI 4 p4, zP 13 0, zI 16 (IntKind.i64.wrap (IntKind.i64.wrap (p2 * p0.Sites) + p3)), zI 17 ((x54.length : Nat) : Int), zR 18 1 0 v67.length, zP 19 2, zR 20 3 0 a73_2.length, zI 21 ((a73_1 : Nat) : Int)]) (fun a73_1 a73_2 => [ox [zi 0, zi 0, zi 0, zi 0, zi 0, zi 0, zi 0, zi 0, zi 0, zi 0, .d (.b false), zi 0], ot 1 (v67.map (encLO 12 Message.enc)), ox x69.bx, oa 12 (a73_2.map Message.enc)]) h [] [some 1, some 2, some 12, none] (fun n74 a73_1 a73_2 h => ?_) (by intros; rw [reredosref_TakenOf_L2])
 rw [reredosref_TakenOf_L2] at h
 refine oi h (fun hb75 h => ?_) (fun hb75 h => ?_)
 have hkhb75 := of_decide_eq_true hb75
 refine ckn h (fun _ h => ?_)
 try simp only [*, go_sem]
 refine jn1 h (fun b77_1 => [zL 1 1 (p1.map (encL 12 Message.enc)), zI 4 p4, zP 13 0, zI 16 (IntKind.i64.wrap (IntKind.i64.wrap (p2 * p0.Sites) + p3)), zI 17 ((x54.length : Nat) : Int), zR 18 1 0 v67.length, zP 19 2, zR 20 3 0 b77_1.length, zI 21 ((a73_1 : Nat) : Int)]) (fun b77_1 => [ox [zi 0, zi 0, zi 0, zi 0, zi 0, zi 0, zi 0, zi 0, zi 0, zi 0, .d (.b false), zi 0], ot 1 (v67.map (encLO 12 Message.enc)), ox x69.bx, oa 12 (b77_1.map Message.enc)]) (fun k78 h => ?_) (fun b77_1 h => ?_)
 refine oi h (fun hb79 h => ?_) (fun hb79 h => ?_)
 refine obg h (fun x80 _ _ h => ?_)
 refine ck h (fun _ h => ?_)
 try simp only [*, go_sem]
 exact jc ((a73_2 ++ [x80])) h.e [some 0, some 1, some 2, some 5]
 try simp only [*, go_sem]
 exact jc (a73_2) h.e [some 0, some 1, some 2, some 3]
 have := wrap_succ_max hkhb75 hl56
 try simp only [*, go_sem]
 exact lc (a73_1 + 1, b77_1) h.e [some 0, some 1, some 2, some 3]
 try simp only [*, go_sem]
 exact jc (a73_2) h.e [some 0, some 1, some 2, some 3]
 refine obn h (fun x83 _ _ _ _ h => ?_)
 try simp only [*, go_sem]
 refine gho_lk _ G _ _ [.f 1 ((IntKind.i64.wrap (IntKind.i64.wrap (p2 * p0.Sites) + p3)).toNat)] ?_
 try simp only [*, go_sem]
 try simp only [*, go_sem]
 refine gho_lk _ G _ _ [.u 1] ?_
 try simp only [*, go_sem]
 cases h.e
 simp only [*, go_sem, mA, mS]
 try simp only [*, go_sem]
 refine jn0 h ([zL 1 1 (p1.map (encL 12 Message.enc)), zI 2 p2, zI 3 p3, zI 4 p4, zI 5 p5, zP 6 0, zP 13 1, zI 15 v1]) ([ox p0.bx, ox [zi 0, zi 0, zi 0, zi 0, zi 0, zi 0, zi 0, zi 0, zi 0, zi 0, .d (.b false), zi 0]]) (fun k86 h => ?_) (fun h => ?_)
 try simp only [*, go_sem]
 exact jc () h.e [some 0, some 1]
 refine oi h (fun hb87 h => ?_) (fun hb87 h => ?_)
 cases hb2.symm.trans hb87
 try simp only [*, go_sem]
 refine jn0 h ([zL 1 1 (p1.map (encL 12 Message.enc)), zI 2 p2, zI 3 p3, zI 4 p4, zI 5 p5, zP 6 0, zP 13 1, zI 15 v1]) ([ox p0.bx, ox [zi 0, zi 0, zi 0, zi 0, zi 0, zi 0, zi 0, zi 0, zi 0, zi 0, .d (.b false), zi 0]]) (fun k132 h => ?_) (fun h => ?_)
 try simp only [*, go_sem]
 exact jc () h.e [some 0, some 1]
 refine oi h (fun hb133 h => ?_) (fun hb133 h => ?_)
 cases h.e
 simp only [*, go_sem, mA, mS]
 refine obn h (fun x134 _ _ _ _ h => ?_)
 try simp only [*, go_sem]
 intro hl136
 refine oi h (fun hb137 h => ?_) (fun hb137 h => ?_)
 cases h.e
 simp only [*, go_sem, mA, mS]
 refine oi h (fun hb138 h => ?_) (fun hb138 h => ?_)
 refine oi h (fun hb139 h => ?_) (fun hb139 h => ?_)
 cases h.e
 simp only [*, go_sem, mA, mS]
 try simp only [*, go_sem]
 refine cr h (reredosref_FlyingCopy_ok G p1) (fun v140 h => ?_)
 refine ckn h (fun _ h => ?_)
 refine obn h (fun x142 _ _ _ _ h => ?_)
 try simp only [*, go_sem]
 refine gho_lk _ G _ _ [.f 2 ((IntKind.i64.wrap (IntKind.i64.wrap (p2 * p0.Sites) + p3)).toNat)] ?_
 try simp only [*, go_sem]
 refine obn h (fun x144 _ _ _ _ h => ?_)
 refine ck h (fun _ h => ?_)
 try simp only [*, go_sem]
 refine gho_lk _ G _ _ [.u 2] ?_
 try simp only [*, go_sem]
 cases h.e
 simp only [*, go_sem, mA, mS]
 try simp only [*, go_sem]
 refine cr h (reredosref_FlyingCopy_ok G p1) (fun v147 h => ?_)
 refine ckn h (fun _ h => ?_)
 refine obn h (fun x149 _ _ _ _ h => ?_)
 try simp only [*, go_sem]
 refine jn1 h (fun b151_1 => [zP 13 0, zI 16 (IntKind.i64.wrap (IntKind.i64.wrap (p2 * p0.Sites) + p3)), zR 18 1 0 v147.length, zP 19 2, zR 20 3 0 b151_1.length]) (fun b151_1 => [ox [zi 0, zi 0, zi 0, zi 0, zi 0, zi 0, zi 0, zi 0, zi 0, zi 0, .d (.b false), zi 0], ot 1 (v147.map (encLO 12 Message.enc)), ox x149.bx, oa 12 (b151_1.map Message.enc)]) (fun k152 h => ?_) (fun b151_1 h => ?_)
 try simp only [*, go_sem]
 refine lp2 (reredosref_TakenOf_L4 p4 x134 k152) (fun a153_1 a153_2 => [zL 1 1 (p1.map (encL 12 Message.enc)), zI 4 p4, zP 13 0, zI 16 (IntKind.i64.wrap (IntKind.i64.wrap (p2 * p0.Sites) + p3)), zI 17 ((x134.length : Nat) : Int), zR 18 1 0 v147.length, zP 19 2, zR 20 3 0 a153_2.length, zI 21 ((a153_1 : Nat) : Int)]) (fun a153_1 a153_2 => [ox [zi 0, zi 0, zi 0, zi 0, zi 0, zi 0, zi 0, zi 0, zi 0, zi 0, .d (.b false), zi 0], ot 1 (v147.map (encLO 12 Message.enc)), ox x149.bx, oa 12 (a153_2.map Message.enc)]) h [] [some 1, some 2, some 12, none] (fun n154 a153_1 a153_2 h => ?_) (by intros; rw [reredosref_TakenOf_L4])
 rw [reredosref_TakenOf_L4] at h
 refine oi h (fun hb155 h => ?_) (fun hb155 h => ?_)
 have hkhb155 := of_decide_eq_true hb155
 refine ckn h (fun _ h => ?_)
 try simp only [*, go_sem]
 refine jn1 h (fun b157_1 => [zL 1 1 (p1.map (encL 12 Message.enc)), zI 4 p4, zP 13 0, zI 16 (IntKind.i64.wrap (IntKind.i64.wrap (p2 * p0.Sites) + p3)), zI 17 ((x134.length : Nat) : Int), zR 18 1 0 v147.length, zP 19 2, zR 20 3 0 b157_1.length, zI 21 ((a153_1 : Nat) : Int)]) (fun b157_1 => [ox [zi 0, zi 0, zi 0, zi 0, zi 0, zi 0, zi 0, zi 0, zi 0, zi 0, .d (.b false), zi 0], ot 1 (v147.map (encLO 12 Message.enc)), ox x149.bx, oa 12 (b157_1.map Message.enc)]) (fun k158 h => ?_) (fun b157_1 h => ?_)
 refine oi h (fun hb159 h => ?_) (fun hb159 h => ?_)
 refine obg h (fun x160 _ _ h => ?_)
 refine ck h (fun _ h => ?_)
 try simp only [*, go_sem]
 exact jc ((a153_2 ++ [x160])) h.e [some 0, some 1, some 2, some 5]
 try simp only [*, go_sem]
 exact jc (a153_2) h.e [some 0, some 1, some 2, some 3]
 have := wrap_succ_max hkhb155 hl136
 try simp only [*, go_sem]
 exact lc (a153_1 + 1, b157_1) h.e [some 0, some 1, some 2, some 3]
 try simp only [*, go_sem]
 exact jc (a153_2) h.e [some 0, some 1, some 2, some 3]
 refine obn h (fun x163 _ _ _ _ h => ?_)
 try simp only [*, go_sem]
 refine gho_lk _ G _ _ [.f 1 ((IntKind.i64.wrap (IntKind.i64.wrap (p2 * p0.Sites) + p3)).toNat)] ?_
 try simp only [*, go_sem]
 try simp only [*, go_sem]
 refine gho_lk _ G _ _ [.u 1] ?_
 try simp only [*, go_sem]
 cases h.e
 simp only [*, go_sem, mA, mS]
end Go.V.Dec
