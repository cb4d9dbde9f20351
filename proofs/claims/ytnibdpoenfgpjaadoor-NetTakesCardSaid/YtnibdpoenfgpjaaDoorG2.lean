/- What Go's functions come to, as plain functions: part 2; no condition. -/
import Derived.Test.YtnibdpoenfgpjaaDoorG1
set_option linter.unusedVariables false
set_option linter.unusedSimpArgs false
namespace Go.V.Dec
open Go Go.Proofs
set_option maxRecDepth 100000
set_option maxHeartbeats 4000000
variable (G : Nat → Option (List D))
def reredoslaw_sameMessages_L1 (p0 : List Message) (p1 : List Message) (k5 : Option (Bool)) : Nat → Nat → Option (Bool)
 | 0, _ => none
 | n7 + 1, a6_1 => (if (decide (a6_1 < p0.length)) = true then (Option.bind (p0[a6_1]?) fun x10 => (Option.bind (p1[a6_1]?) fun x11 => (if (!((x10.Kind == x11.Kind) && ((x10.From == x11.From) && ((x10.To == x11.To) && ((x10.Txn.Site == x11.Txn.Site) && ((x10.Txn.N == x11.Txn.N) && ((x10.Label == x11.Label) && ((x10.Key == x11.Key) && ((x10.Value == x11.Value) && ((x10.Version == x11.Version) && ((x10.Ask == x11.Ask) && ((x10.Yes == x11.Yes) && (x10.Code == x11.Code))))))))))))) = true then (some false) else (reredoslaw_sameMessages_L1 p0 p1 k5 n7 (a6_1 + 1))))) else k5)
def reredoslaw_sameMessages (p0 : List Message) (p1 : List Message) : Option (Bool) := (if (((p0.length : Nat) : Int) != ((p1.length : Nat) : Int)) = true then (some false) else (withK (some true) fun k5 => (reredoslaw_sameMessages_L1 p0 p1 k5 (p0.length + 1) 0)))
def F16 : VFn := ⟨26, (.seq (.reg [vo 4 (.mv (cb false))]) (.seq (.seq (.reg [vm 6 0, ln 7 6, vm 8 1, ln 9 8, bt 10 .neq 7 9]) (.cond (.t 10) (.seq (.reg [vo 4 (.mv (cb false))]) .ret) .skip)) (.seq (.seq (.reg [mi 5 0]) (.wk (.block 0 (.loop (.seq (.seq (.reg [vm 11 5, vm 12 0, ln 13 12, bt 14 .lss 11 13]) (.cond (.t 14) .skip (.exit 0))) (.seq (.block 1 (.seq (.draw [vd (vm 17 0) 0, vd (vm 18 5) 0, vd (xa 19 12 17 18) 3, vd (vl 20 12 19) 7, vd (vm 21 1) 0, vd (vm 22 5) 0, vd (xa 23 12 21 22) 48, vd (vl 24 12 23) 112, vd (vo 25 (.eqs true [.i, .i, .i, .i, .i, .i, .i, .i, .i, .i, .b, .i] (.t 20) (.t 24))) 255]) (.cond (.t 25) (.seq (.reg [vo 4 (.mv (cb false))]) .ret) .skip))) (.reg [vm 15 5, bk 16 .add 15 1, vm 5 16]))))))) (.seq (.reg [vo 4 (.mv (cb true))]) .ret)))), [.t 4]⟩
theorem low16 : lowF Tryd.prog 16 = some F16.strip := by kernel_rfl
theorem fok16 : fOk Tryd.prog 16 = true := by kernel_rfl
theorem reredoslaw_sameMessages_ok (p0 : List Message) (p1 : List Message) (r : Bool) (h : reredoslaw_sameMessages p0 p1 = some r) : FnRO Tryd.prog G 16 [.one (.d (.l 12 (p0.map Message.enc))), .one (.d (.l 12 (p1.map Message.enc)))] (fun rs => rs = [.one (.b r)]) := by
 refine FnRO.of' low16 fok16 (by simp [F16]) ?_
 rw [reredoslaw_sameMessages] at h
 replace h := Hd.mk h
 simp only [F16, go_sem]
 try simp only [*, go_sem]
 intro hl1
 try simp only [*, go_sem]
 intro hl2
 refine oi h (fun hb3 h => ?_) (fun hb3 h => ?_)
 cases h.e
 simp only [*, go_sem, mA, mS]
 try simp only [*, go_sem]
 refine jn0 h ([]) ([]) (fun k5 h => ?_) (fun h => ?_)
 try simp only [*, go_sem]
 refine lp1 (reredoslaw_sameMessages_L1 p0 p1 k5) (fun a6_1 => [zL 0 12 (p0.map Message.enc), zL 1 12 (p1.map Message.enc), zI 5 ((a6_1 : Nat) : Int)]) (fun a6_1 => []) h [] [] (fun n7 a6_1 h => ?_) (by intros; rw [reredoslaw_sameMessages_L1])
 rw [reredoslaw_sameMessages_L1] at h
 try simp only [*, go_sem]
 intro hl8
 refine oi h (fun hb9 h => ?_) (fun hb9 h => ?_)
 have := of_decide_eq_true hb9
 refine obg h (fun x10 _ hkx10 h => ?_)
 refine obg h (fun x11 _ _ h => ?_)
 refine oin h (fun hb12 hkhb12 h => ?_) (fun hb12 hkhb12 h => ?_)
 try simp only [*, go_sem]
 cases h.e
 simp only [*, go_sem, mA, mS]
 try simp only [*, go_sem]
 have := wrap_succ_max hkx10 hl1
 try simp only [*, go_sem]
 exact lc (a6_1 + 1) h.e []
 try simp only [*, go_sem]
 exact jc () h.e []
 cases h.e
 simp only [*, go_sem, mA, mS]
def reredoslaw_sameFlying_L1 (p0 : List (List Message)) (p1 : List (List Message)) (k5 : Option (Bool)) : Nat → Nat → Option (Bool)
 | 0, _ => none
 | n7 + 1, a6_1 => (if (decide (a6_1 < p0.length)) = true then (Option.bind (p0[a6_1]?) fun x10 => (Option.bind (p1[a6_1]?) fun x11 => (Option.bind (reredoslaw_sameMessages x10 x11) fun v12 => (if (!v12) = true then (some false) else (reredoslaw_sameFlying_L1 p0 p1 k5 n7 (a6_1 + 1)))))) else k5)
def reredoslaw_sameFlying (p0 : List (List Message)) (p1 : List (List Message)) : Option (Bool) := (if (((p0.length : Nat) : Int) != ((p1.length : Nat) : Int)) = true then (some false) else (withK (some true) fun k5 => (reredoslaw_sameFlying_L1 p0 p1 k5 (p0.length + 1) 0)))
def F8 : VFn := ⟨27, (.seq (.reg [vo 4 (.mv (cb false))]) (.seq (.seq (.reg [vm 6 0, ln 7 6, vm 8 1, ln 9 8, bt 10 .neq 7 9]) (.cond (.t 10) (.seq (.reg [vo 4 (.mv (cb false))]) .ret) .skip)) (.seq (.seq (.reg [mi 5 0]) (.wk (.block 0 (.loop (.seq (.seq (.reg [vm 11 5, vm 12 0, ln 13 12, bt 14 .lss 11 13]) (.cond (.t 14) .skip (.exit 0))) (.seq (.block 1 (.seq (.draw [vd (vm 17 0) 0, vd (vm 18 5) 0, vd (xa 19 1 17 18) 3, vd (vs 20 19) 7, vd (vm 21 1) 0, vd (vm 22 5) 0, vd (xa 23 1 21 22) 48, vd (vs 24 23) 112, vd (vo 25 (.call 16 [(.t 20), (.t 24)])) 255, vd (nt 26 25) 511]) (.cond (.t 26) (.seq (.reg [vo 4 (.mv (cb false))]) .ret) .skip))) (.reg [vm 15 5, bk 16 .add 15 1, vm 5 16]))))))) (.seq (.reg [vo 4 (.mv (cb true))]) .ret)))), [.t 4]⟩
theorem low8 : lowF Tryd.prog 8 = some F8.strip := by kernel_rfl
theorem fok8 : fOk Tryd.prog 8 = true := by kernel_rfl
theorem reredoslaw_sameFlying_ok (p0 : List (List Message)) (p1 : List (List Message)) (r : Bool) (h : reredoslaw_sameFlying p0 p1 = some r) : FnRO Tryd.prog G 8 [.one (.d (.l 1 (p0.map (encL 12 Message.enc)))), .one (.d (.l 1 (p1.map (encL 12 Message.enc))))] (fun rs => rs = [.one (.b r)]) := by
 refine FnRO.of' low8 fok8 (by simp [F8]) ?_
 rw [reredoslaw_sameFlying] at h
 replace h := Hd.mk h
 simp only [F8, go_sem]
 try simp only [*, go_sem]
 intro hl1
 try simp only [*, go_sem]
 intro hl2
 refine oi h (fun hb3 h => ?_) (fun hb3 h => ?_)
 cases h.e
 simp only [*, go_sem, mA, mS]
 try simp only [*, go_sem]
 refine jn0 h ([]) ([]) (fun k5 h => ?_) (fun h => ?_)
 try simp only [*, go_sem]
 refine lp1 (reredoslaw_sameFlying_L1 p0 p1 k5) (fun a6_1 => [zL 0 1 (p0.map (encL 12 Message.enc)), zL 1 1 (p1.map (encL 12 Message.enc)), zI 5 ((a6_1 : Nat) : Int)]) (fun a6_1 => []) h [] [] (fun n7 a6_1 h => ?_) (by intros; rw [reredoslaw_sameFlying_L1])
 rw [reredoslaw_sameFlying_L1] at h
 try simp only [*, go_sem]
 intro hl8
 refine oi h (fun hb9 h => ?_) (fun hb9 h => ?_)
 have := of_decide_eq_true hb9
 refine obg h (fun x10 _ hkx10 h => ?_)
 refine obg h (fun x11 _ _ h => ?_)
 refine obk h (fun v12 hv12 h => ?_)
 try simp only [*, go_sem]
 refine cd (reredoslaw_sameMessages_ok G x10 x11 v12 hv12) ?_
 refine oin h (fun hb13 hkhb13 h => ?_) (fun hb13 hkhb13 h => ?_)
 cases h.e
 simp only [*, go_sem, mA, mS]
 have := wrap_succ_max hkx10 hl1
 try simp only [*, go_sem]
 exact lc (a6_1 + 1) h.e []
 try simp only [*, go_sem]
 exact jc () h.e []
 cases h.e
 simp only [*, go_sem, mA, mS]
def reredoslaw_NetTakes (p0 : Config) (p1 : List (List Message)) (p2 : Int) (p3 : Int) (p4 : Int) (p5 : Int) : Option (Bool) := (Option.bind (reredosref_FlyingCopy p1) fun v1 => (Option.bind (net_Take p0 v1 p2 p3 p4 p5) fun v2 => (Option.bind (reredosref_TakenOf p0 p1 p2 p3 p4 p5) fun v3 => (withK (fun (b4_1 : Bool) => (some b4_1)) fun k5 => (if (v2.2.2 == v3.2.2) = true then (if ((v2.2.1.Kind == v3.2.1.Kind) && ((v2.2.1.From == v3.2.1.From) && ((v2.2.1.To == v3.2.1.To) && ((v2.2.1.Txn.Site == v3.2.1.Txn.Site) && ((v2.2.1.Txn.N == v3.2.1.Txn.N) && ((v2.2.1.Label == v3.2.1.Label) && ((v2.2.1.Key == v3.2.1.Key) && ((v2.2.1.Value == v3.2.1.Value) && ((v2.2.1.Version == v3.2.1.Version) && ((v2.2.1.Ask == v3.2.1.Ask) && ((v2.2.1.Yes == v3.2.1.Yes) && (v2.2.1.Code == v3.2.1.Code)))))))))))) = true then (Option.bind (reredoslaw_sameFlying v2.1 v3.1) fun v8 => (if v8 = true then (Option.bind (reredoslaw_sameFlying v1 p1) fun v10 => (k5 v10)) else (k5 false))) else (k5 false)) else (k5 false))))))
def F4 : VFn := ⟨62, (.seq (.reg [vo 6 (.box 3 (.t 0)), vo 12 (.mv (cb false))]) (.seq (.reg [vm 20 1, vo 21 (.call 5 [(.t 20)]), vm 13 21]) (.seq (.reg [vl 23 3 6, vm 24 13, vm 25 2, vm 26 3, vm 27 4, vm 28 5, vo 29 (.call 9 [(.t 23), (.t 24), (.t 25), (.t 26), (.t 27), (.t 28)]), vm 22 29, et 30 22 0, et 31 22 1, et 32 22 2, vo 15 (.alloc [(zi 0), (zi 0), (zi 0), (zi 0), (zi 0), (zi 0), (zi 0), (zi 0), (zi 0), (zi 0), (.d (.b false)), (zi 0)]), vm 14 30, vu (.st 12 (.t 15) (.t 31)), vm 16 32]) (.seq (.reg [vl 34 3 6, vm 35 1, vm 36 2, vm 37 3, vm 38 4, vm 39 5, vo 40 (.call 10 [(.t 34), (.t 35), (.t 36), (.t 37), (.t 38), (.t 39)]), vm 33 40, et 41 33 0, et 42 33 1, et 43 33 2, vo 18 (.alloc [(zi 0), (zi 0), (zi 0), (zi 0), (zi 0), (zi 0), (zi 0), (zi 0), (zi 0), (zi 0), (.d (.b false)), (zi 0)]), vm 17 41, vu (.st 12 (.t 18) (.t 42)), vm 19 43]) (.seq (.wk (.reg [vm 44 16, vm 45 19, bt 46 .eql 44 45, vm 47 46, gt 48 47 (.ld true 12 (.t 15)), gt 49 47 (.ld true 12 (.t 18)), gt 50 47 (.eqs false [.i, .i, .i, .i, .i, .i, .i, .i, .i, .i, .b, .i] (.t 48) (.t 49)), vo 51 (.pick (.t 47) (.t 50) (cb false)), vm 52 51, gt 53 52 (.mv (.t 14)), gt 54 52 (.mv (.t 17)), gt 55 52 (.call 8 [(.t 53), (.t 54)]), vo 56 (.pick (.t 52) (.t 55) (cb false)), vm 57 56, gt 58 57 (.mv (.t 13)), gt 59 57 (.mv (.t 1)), gt 60 57 (.call 8 [(.t 58), (.t 59)]), vo 61 (.pick (.t 57) (.t 60) (cb false)), vm 12 61])) .ret))))), [.t 12]⟩
theorem low4 : lowF Tryd.prog 4 = some F4.strip := by kernel_rfl
theorem fok4 : fOk Tryd.prog 4 = true := by kernel_rfl
theorem reredoslaw_NetTakes_ok (htab_wire_messages : constG G 0 = .one (.d (.k tab_wire_messagesD))) (p0 : Config) (p1 : List (List Message)) (p2 : Int) (p3 : Int) (p4 : Int) (p5 : Int) (r : Bool) (h : reredoslaw_NetTakes p0 p1 p2 p3 p4 p5 = some r) : FnRO Tryd.prog G 4 [.agg p0.bx, .one (.d (.l 1 (p1.map (encL 12 Message.enc)))), .one (.d (.i .i64 p2)), .one (.d (.i .i64 p3)), .one (.d (.i .i64 p4)), .one (.d (.i .i64 p5))] (fun rs => rs = [.one (.b r)]) := by
 refine FnRO.of' low4 fok4 (by simp [F4]) ?_
 rw [reredoslaw_NetTakes] at h
 replace h := Hd.mk h
 simp only [F4, go_sem]
 try simp only [*, go_sem]
 refine cr h (reredosref_FlyingCopy_ok G p1) (fun v1 h => ?_)
 try simp only [*, go_sem]
 refine cl h (net_Take_ok G htab_wire_messages p0 v1 p2 p3 p4 p5) (fun v2 h => ?_)
 try simp only [*, go_sem]
 refine cr h (reredosref_TakenOf_ok G p0 p1 p2 p3 p4 p5) (fun v3 h => ?_)
 try simp only [*, go_sem]
 refine jn1 h (fun b4_1 => [zB 12 b4_1]) (fun b4_1 => []) (fun k5 h => ?_) (fun b4_1 h => ?_)
 refine oi h (fun hb6 h => ?_) (fun hb6 h => ?_)
 refine oi h (fun hb7 h => ?_) (fun hb7 h => ?_)
 try simp only [*, go_sem]
 try simp only [*, go_sem]
 refine cl h (reredoslaw_sameFlying_ok G v2.1 v3.1) (fun v8 h => ?_)
 refine oi h (fun hb9 h => ?_) (fun hb9 h => ?_)
 try simp only [*, go_sem]
 refine cl h (reredoslaw_sameFlying_ok G v1 p1) (fun v10 h => ?_)
 try simp only [*, go_sem]
 exact jc (v10) h.e []
 try simp only [*, go_sem]
 exact jc (false) h.e []
 try simp only [*, go_sem]
 try simp only [*, go_sem]
 exact jc (false) h.e []
 try simp only [*, go_sem]
 exact jc (false) h.e []
 cases h.e
 simp only [*, go_sem, mA, mS]
end Go.V.Dec
