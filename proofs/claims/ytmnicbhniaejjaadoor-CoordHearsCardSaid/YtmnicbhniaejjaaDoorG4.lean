/- What Go's functions come to, as plain functions: part 4; no condition. -/
import Derived.Test.YtmnicbhniaejjaaDoorG3
set_option linter.unusedVariables false
set_option linter.unusedSimpArgs false
namespace Go.V.Dec
open Go Go.Proofs
set_option maxRecDepth 100000
set_option maxHeartbeats 4000000
variable (G : Nat → Option (List D))
def reredoslaw_sameDesk_L1 (p0 : Desk) (p1 : Desk) (k6 : Option (Bool)) : Nat → Nat → Option (Bool)
 | 0, _ => none
 | n8 + 1, a7_1 => (if (decide (a7_1 < p0.Jobs.length)) = true then (Option.bind (p0.Jobs[a7_1]?) fun x11 => (Option.bind (p1.Jobs[a7_1]?) fun x12 => (if (x11.N != x12.N) = true then (some false) else (if (x11.State != x12.State) = true then (some false) else (if (x11.Asks != x12.Asks) = true then (some false) else (if (x11.Age != x12.Age) = true then (some false) else (Option.bind (reredoslaw_sameTasks x11.Tasks x12.Tasks) fun v17 => (if (!v17) = true then (some false) else (Option.bind (reredoslaw_sameInts x11.Asked x12.Asked) fun v19 => (if (!v19) = true then (some false) else (reredoslaw_sameDesk_L1 p0 p1 k6 n8 (a7_1 + 1)))))))))))) else k6)
def reredoslaw_sameDesk (p0 : Desk) (p1 : Desk) : Option (Bool) := (if (p0.Next != p1.Next) = true then (some false) else (if (((p0.Jobs.length : Nat) : Int) != ((p1.Jobs.length : Nat) : Int)) = true then (some false) else (withK (some true) fun k6 => (reredoslaw_sameDesk_L1 p0 p1 k6 (p0.Jobs.length + 1) 0))))
def F16 : VFn := ⟨81, (.seq (.reg [vo 2 (.box 2 (.t 0)), vo 3 (.box 2 (.t 1)), vo 4 (.mv (cb false))]) (.seq (.seq (.reg [vf 8 0 2, vs 9 8, vf 10 0 3, vs 11 10, bt 12 .neq 9 11, vm 13 12, gf 14 13 (.fa 1 (.t 2)), gf 15 13 (.ld false 1 (.t 14)), gf 16 13 (.len (.t 15)), gf 17 13 (.fa 1 (.t 3)), gf 18 13 (.ld false 1 (.t 17)), gf 19 13 (.len (.t 18)), gf 20 13 (.bin .i .neq (.t 16) (.t 19)), vo 21 (.pick (.t 13) (cb true) (.t 20))]) (.cond (.t 21) (.seq (.reg [vo 4 (.mv (cb false))]) .ret) .skip)) (.seq (.seq (.reg [mi 5 0]) (.wk (.block 0 (.loop (.seq (.seq (.reg [vm 22 5, vf 23 1 2, vs 24 23, ln 25 24, bt 26 .lss 22 25]) (.cond (.t 26) .skip (.exit 0))) (.seq (.block 1 (.seq (.reg [vf 29 1 2, vs 30 29, vm 31 5, xa 32 6 30 31, vl 33 6 32, vo 6 (.alloc [(zi 0), (zi 0), (.nl 8), (.nl 1), (zi 0), (zi 0)]), vu (.st 6 (.t 6) (.t 33))]) (.seq (.reg [vf 34 1 3, vs 35 34, vm 36 5, xa 37 6 35 36, vl 38 6 37, vo 7 (.alloc [(zi 0), (zi 0), (.nl 8), (.nl 1), (zi 0), (zi 0)]), vu (.st 6 (.t 7) (.t 38))]) (.seq (.reg [vf 39 0 6, vs 40 39, vf 41 0 7, vs 42 41, bt 43 .neq 40 42, vm 44 43, gf 45 44 (.fa 1 (.t 6)), gf 46 44 (.ld false 1 (.t 45)), gf 47 44 (.fa 1 (.t 7)), gf 48 44 (.ld false 1 (.t 47)), gf 49 44 (.bin .i .neq (.t 46) (.t 48)), vo 50 (.pick (.t 44) (cb true) (.t 49)), vm 51 50, gf 52 51 (.fa 4 (.t 6)), gf 53 51 (.ld false 1 (.t 52)), gf 54 51 (.fa 4 (.t 7)), gf 55 51 (.ld false 1 (.t 54)), gf 56 51 (.bin .i .neq (.t 53) (.t 55)), vo 57 (.pick (.t 51) (cb true) (.t 56)), vm 58 57, gf 59 58 (.fa 5 (.t 6)), gf 60 58 (.ld false 1 (.t 59)), gf 61 58 (.fa 5 (.t 7)), gf 62 58 (.ld false 1 (.t 61)), gf 63 58 (.bin .i .neq (.t 60) (.t 62)), vo 64 (.pick (.t 58) (cb true) (.t 63)), vm 65 64, gf 66 65 (.fa 2 (.t 6)), gf 67 65 (.ld false 1 (.t 66)), gf 68 65 (.fa 2 (.t 7)), gf 69 65 (.ld false 1 (.t 68)), gf 70 65 (.call 59 [(.t 67), (.t 69)]), gf 71 65 (.un .not (.t 70)), vo 72 (.pick (.t 65) (cb true) (.t 71)), vm 73 72, gf 74 73 (.fa 3 (.t 6)), gf 75 73 (.ld false 1 (.t 74)), gf 76 73 (.fa 3 (.t 7)), gf 77 73 (.ld false 1 (.t 76)), gf 78 73 (.call 60 [(.t 75), (.t 77)]), gf 79 73 (.un .not (.t 78)), vo 80 (.pick (.t 73) (cb true) (.t 79))]) (.cond (.t 80) (.seq (.reg [vo 4 (.mv (cb false))]) .ret) .skip))))) (.reg [vm 27 5, bk 28 .add 27 1, vm 5 28]))))))) (.seq (.reg [vo 4 (.mv (cb true))]) .ret)))), [.t 4]⟩
theorem low16 : lowF Tryd.prog 16 = some F16.strip := by kernel_rfl
theorem fok16 : fOk Tryd.prog 16 = true := by kernel_rfl
theorem reredoslaw_sameDesk_ok (p0 : Desk) (p1 : Desk) (r : Bool) (h : reredoslaw_sameDesk p0 p1 = some r) : FnRO Tryd.prog G 16 [.agg p0.bx, .agg p1.bx] (fun rs => rs = [.one (.b r)]) := by
 refine FnRO.of' low16 fok16 (by simp [F16]) ?_
 rw [reredoslaw_sameDesk] at h
 replace h := Hd.mk h
 simp only [F16, go_sem]
 refine oi h (fun hb1 h => ?_) (fun hb1 h => ?_)
 cases h.e
 simp only [*, go_sem, mA, mS]
 try simp only [*, go_sem]
 intro hl2
 try simp only [*, go_sem]
 intro hl3
 refine oi h (fun hb4 h => ?_) (fun hb4 h => ?_)
 cases h.e
 simp only [*, go_sem, mA, mS]
 try simp only [*, go_sem]
 refine jn0 h ([]) ([]) (fun k6 h => ?_) (fun h => ?_)
 try simp only [*, go_sem]
 refine lp1 (reredoslaw_sameDesk_L1 p0 p1 k6) (fun a7_1 => [zP 2 0, zP 3 1, zI 5 ((a7_1 : Nat) : Int)]) (fun a7_1 => [ox p0.bx, ox p1.bx]) h [] [some 0, some 1] (fun n8 a7_1 h => ?_) (by intros; rw [reredoslaw_sameDesk_L1])
 rw [reredoslaw_sameDesk_L1] at h
 try simp only [*, go_sem]
 intro hl9
 refine oi h (fun hb10 h => ?_) (fun hb10 h => ?_)
 have := of_decide_eq_true hb10
 refine obg h (fun x11 _ hkx11 h => ?_)
 refine obg h (fun x12 _ _ h => ?_)
 refine oi h (fun hb13 h => ?_) (fun hb13 h => ?_)
 cases h.e
 simp only [*, go_sem, mA, mS]
 refine oi h (fun hb14 h => ?_) (fun hb14 h => ?_)
 cases h.e
 simp only [*, go_sem, mA, mS]
 refine oi h (fun hb15 h => ?_) (fun hb15 h => ?_)
 cases h.e
 simp only [*, go_sem, mA, mS]
 refine oi h (fun hb16 h => ?_) (fun hb16 h => ?_)
 cases h.e
 simp only [*, go_sem, mA, mS]
 try simp only [*, go_sem]
 refine cr h (reredoslaw_sameTasks_ok G x11.Tasks x12.Tasks) (fun v17 h => ?_)
 refine oin h (fun hb18 hkhb18 h => ?_) (fun hb18 hkhb18 h => ?_)
 cases h.e
 simp only [*, go_sem, mA, mS]
 try simp only [*, go_sem]
 refine cr h (reredoslaw_sameInts_ok G x11.Asked x12.Asked) (fun v19 h => ?_)
 refine oin h (fun hb20 hkhb20 h => ?_) (fun hb20 hkhb20 h => ?_)
 cases h.e
 simp only [*, go_sem, mA, mS]
 have := wrap_succ_max hkx11 hl2
 try simp only [*, go_sem]
 exact lc (a7_1 + 1) h.e [some 0, some 1]
 try simp only [*, go_sem]
 exact jc () h.e []
 cases h.e
 simp only [*, go_sem, mA, mS]
def reredoslaw_sameMessages_L1 (p0 : List Message) (p1 : List Message) (k5 : Option (Bool)) : Nat → Nat → Option (Bool)
 | 0, _ => none
 | n7 + 1, a6_1 => (if (decide (a6_1 < p0.length)) = true then (Option.bind (p0[a6_1]?) fun x10 => (Option.bind (p1[a6_1]?) fun x11 => (if (!((x10.Kind == x11.Kind) && ((x10.From == x11.From) && ((x10.To == x11.To) && ((x10.Txn.Site == x11.Txn.Site) && ((x10.Txn.N == x11.Txn.N) && ((x10.Label == x11.Label) && ((x10.Key == x11.Key) && ((x10.Value == x11.Value) && ((x10.Version == x11.Version) && ((x10.Ask == x11.Ask) && ((x10.Yes == x11.Yes) && (x10.Code == x11.Code))))))))))))) = true then (some false) else (reredoslaw_sameMessages_L1 p0 p1 k5 n7 (a6_1 + 1))))) else k5)
def reredoslaw_sameMessages (p0 : List Message) (p1 : List Message) : Option (Bool) := (if (((p0.length : Nat) : Int) != ((p1.length : Nat) : Int)) = true then (some false) else (withK (some true) fun k5 => (reredoslaw_sameMessages_L1 p0 p1 k5 (p0.length + 1) 0)))
def F42 : VFn := ⟨26, (.seq (.reg [vo 4 (.mv (cb false))]) (.seq (.seq (.reg [vm 6 0, ln 7 6, vm 8 1, ln 9 8, bt 10 .neq 7 9]) (.cond (.t 10) (.seq (.reg [vo 4 (.mv (cb false))]) .ret) .skip)) (.seq (.seq (.reg [mi 5 0]) (.wk (.block 0 (.loop (.seq (.seq (.reg [vm 11 5, vm 12 0, ln 13 12, bt 14 .lss 11 13]) (.cond (.t 14) .skip (.exit 0))) (.seq (.block 1 (.seq (.draw [vd (vm 17 0) 0, vd (vm 18 5) 0, vd (xa 19 12 17 18) 3, vd (vl 20 12 19) 7, vd (vm 21 1) 0, vd (vm 22 5) 0, vd (xa 23 12 21 22) 48, vd (vl 24 12 23) 112, vd (vo 25 (.eqs true [.i, .i, .i, .i, .i, .i, .i, .i, .i, .i, .b, .i] (.t 20) (.t 24))) 255]) (.cond (.t 25) (.seq (.reg [vo 4 (.mv (cb false))]) .ret) .skip))) (.reg [vm 15 5, bk 16 .add 15 1, vm 5 16]))))))) (.seq (.reg [vo 4 (.mv (cb true))]) .ret)))), [.t 4]⟩
theorem low42 : lowF Tryd.prog 42 = some F42.strip := by kernel_rfl
theorem fok42 : fOk Tryd.prog 42 = true := by kernel_rfl
theorem reredoslaw_sameMessages_ok (p0 : List Message) (p1 : List Message) (r : Bool) (h : reredoslaw_sameMessages p0 p1 = some r) : FnRO Tryd.prog G 42 [.one (.d (.l 12 (p0.map Message.enc))), .one (.d (.l 12 (p1.map Message.enc)))] (fun rs => rs = [.one (.b r)]) := by
 refine FnRO.of' low42 fok42 (by simp [F42]) ?_
 rw [reredoslaw_sameMessages] at h
 replace h := Hd.mk h
 simp only [F42, go_sem]
 try simp only [*, go_sem]
 intro hl1
 try simp only [*, go_sem]
 intro hl2
 refine oi h (fun hb3 h => ?_) (fun hb3 h => ?_)
 cases h.e
 simp only [*, go_sem, mA, mS]
 try simp only [*, go_sem]
 refine jn0 h ([]) ([]) (fun k5 h => ?_) (fun h => ?_)
 try simp only [*, go_sem]
 refine lp1 (reredoslaw_sameMessages_L1 p0 p1 k5) (fun a6_1 => [zL 0 12 (p0.map Message.enc), zL 1 12 (p1.map Message.enc), zI 5 ((a6_1 : Nat) : Int)]) (fun a6_1 => []) h [] [] (fun n7 a6_1 h => ?_) (by intros; rw [reredoslaw_sameMessages_L1])
 rw [reredoslaw_sameMessages_L1] at h
 try simp only [*, go_sem]
 intro hl8
 refine oi h (fun hb9 h => ?_) (fun hb9 h => ?_)
 have := of_decide_eq_true hb9
 refine obg h (fun x10 _ hkx10 h => ?_)
 refine obg h (fun x11 _ _ h => ?_)
 refine oin h (fun hb12 hkhb12 h => ?_) (fun hb12 hkhb12 h => ?_)
 try simp only [*, go_sem]
 cases h.e
 simp only [*, go_sem, mA, mS]
 try simp only [*, go_sem]
 have := wrap_succ_max hkx10 hl1
 try simp only [*, go_sem]
 exact lc (a6_1 + 1) h.e []
 try simp only [*, go_sem]
 exact jc () h.e []
 cases h.e
 simp only [*, go_sem, mA, mS]
def reredoslaw_sameRecord (p0 : Record) (p1 : Record) : Option (Bool) := (withK (fun (b1_1 : Bool) => (some b1_1)) fun k2 => (if (p0.Kind == p1.Kind) = true then (if ((p0.Txn.Site == p1.Txn.Site) && (p0.Txn.N == p1.Txn.N)) = true then (if (p0.Key == p1.Key) = true then (if (p0.Value == p1.Value) = true then (if (p0.Ask == p1.Ask) = true then (if (p0.Yes == p1.Yes) = true then (Option.bind (reredoslaw_sameInts p0.Sites p1.Sites) fun v9 => (k2 v9)) else (k2 false)) else (k2 false)) else (k2 false)) else (k2 false)) else (k2 false)) else (k2 false)))
def F103 : VFn := ⟨52, (.seq (.reg [vo 2 (.box 8 (.t 0)), vo 3 (.box 8 (.t 1)), vo 4 (.mv (cb false))]) (.seq (.wk (.reg [vf 5 0 2, vs 6 5, vf 7 0 3, vs 8 7, bt 9 .eql 6 8, vm 10 9, gt 11 10 (.fa 1 (.t 2)), gt 12 10 (.ld true 2 (.t 11)), gt 13 10 (.fa 1 (.t 3)), gt 14 10 (.ld true 2 (.t 13)), gt 15 10 (.eqs false [.i, .i] (.t 12) (.t 14)), vo 16 (.pick (.t 10) (.t 15) (cb false)), vm 17 16, gt 18 17 (.fa 3 (.t 2)), gt 19 17 (.ld false 1 (.t 18)), gt 20 17 (.fa 3 (.t 3)), gt 21 17 (.ld false 1 (.t 20)), gt 22 17 (.bin .i .eql (.t 19) (.t 21)), vo 23 (.pick (.t 17) (.t 22) (cb false)), vm 24 23, gt 25 24 (.fa 4 (.t 2)), gt 26 24 (.ld false 1 (.t 25)), gt 27 24 (.fa 4 (.t 3)), gt 28 24 (.ld false 1 (.t 27)), gt 29 24 (.bin .i .eql (.t 26) (.t 28)), vo 30 (.pick (.t 24) (.t 29) (cb false)), vm 31 30, gt 32 31 (.fa 5 (.t 2)), gt 33 31 (.ld false 1 (.t 32)), gt 34 31 (.fa 5 (.t 3)), gt 35 31 (.ld false 1 (.t 34)), gt 36 31 (.bin .i .eql (.t 33) (.t 35)), vo 37 (.pick (.t 31) (.t 36) (cb false)), vm 38 37, gt 39 38 (.fa 6 (.t 2)), gt 40 38 (.ld false 1 (.t 39)), gt 41 38 (.fa 6 (.t 3)), gt 42 38 (.ld false 1 (.t 41)), gt 43 38 (.bin .b .eql (.t 40) (.t 42)), vo 44 (.pick (.t 38) (.t 43) (cb false)), vm 45 44, gt 46 45 (.fa 7 (.t 2)), gt 47 45 (.ld false 1 (.t 46)), gt 48 45 (.fa 7 (.t 3)), gt 49 45 (.ld false 1 (.t 48)), gt 50 45 (.call 60 [(.t 47), (.t 49)]), vo 51 (.pick (.t 45) (.t 50) (cb false)), vm 4 51])) .ret)), [.t 4]⟩
theorem low103 : lowF Tryd.prog 103 = some F103.strip := by kernel_rfl
theorem fok103 : fOk Tryd.prog 103 = true := by kernel_rfl
theorem reredoslaw_sameRecord_ok (p0 : Record) (p1 : Record) (r : Bool) (h : reredoslaw_sameRecord p0 p1 = some r) : FnRO Tryd.prog G 103 [.agg p0.bx, .agg p1.bx] (fun rs => rs = [.one (.b r)]) := by
 refine FnRO.of' low103 fok103 (by simp [F103]) ?_
 rw [reredoslaw_sameRecord] at h
 replace h := Hd.mk h
 simp only [F103, go_sem]
 try simp only [*, go_sem]
 refine jn1 h (fun b1_1 => [zB 4 b1_1]) (fun b1_1 => []) (fun k2 h => ?_) (fun b1_1 h => ?_)
 refine oi h (fun hb3 h => ?_) (fun hb3 h => ?_)
 refine oi h (fun hb4 h => ?_) (fun hb4 h => ?_)
 try simp only [*, go_sem]
 refine oi h (fun hb5 h => ?_) (fun hb5 h => ?_)
 refine oi h (fun hb6 h => ?_) (fun hb6 h => ?_)
 refine oi h (fun hb7 h => ?_) (fun hb7 h => ?_)
 refine oi h (fun hb8 h => ?_) (fun hb8 h => ?_)
 try simp only [*, go_sem]
 refine cr h (reredoslaw_sameInts_ok G p0.Sites p1.Sites) (fun v9 h => ?_)
 try simp only [*, go_sem]
 exact jc (v9) h.e []
 try simp only [*, go_sem]
 exact jc (false) h.e []
 try simp only [*, go_sem]
 exact jc (false) h.e []
 try simp only [*, go_sem]
 exact jc (false) h.e []
 try simp only [*, go_sem]
 exact jc (false) h.e []
 try simp only [*, go_sem]
 try simp only [*, go_sem]
 exact jc (false) h.e []
 try simp only [*, go_sem]
 exact jc (false) h.e []
 cases h.e
 simp only [*, go_sem, mA, mS]
def reredoslaw_sameRecords_L1 (p0 : List Record) (p1 : List Record) (k5 : Option (Bool)) : Nat → Nat → Option (Bool)
 | 0, _ => none
 | n7 + 1, a6_1 => (if (decide (a6_1 < p0.length)) = true then (Option.bind (p0[a6_1]?) fun x10 => (Option.bind (p1[a6_1]?) fun x11 => (Option.bind (reredoslaw_sameRecord x10 x11) fun v12 => (if (!v12) = true then (some false) else (reredoslaw_sameRecords_L1 p0 p1 k5 n7 (a6_1 + 1)))))) else k5)
def reredoslaw_sameRecords (p0 : List Record) (p1 : List Record) : Option (Bool) := (if (((p0.length : Nat) : Int) != ((p1.length : Nat) : Int)) = true then (some false) else (withK (some true) fun k5 => (reredoslaw_sameRecords_L1 p0 p1 k5 (p0.length + 1) 0)))
def F43 : VFn := ⟨27, (.seq (.reg [vo 4 (.mv (cb false))]) (.seq (.seq (.reg [vm 6 0, ln 7 6, vm 8 1, ln 9 8, bt 10 .neq 7 9]) (.cond (.t 10) (.seq (.reg [vo 4 (.mv (cb false))]) .ret) .skip)) (.seq (.seq (.reg [mi 5 0]) (.wk (.block 0 (.loop (.seq (.seq (.reg [vm 11 5, vm 12 0, ln 13 12, bt 14 .lss 11 13]) (.cond (.t 14) .skip (.exit 0))) (.seq (.block 1 (.seq (.draw [vd (vm 17 0) 0, vd (vm 18 5) 0, vd (xa 19 8 17 18) 3, vd (vl 20 8 19) 7, vd (vm 21 1) 0, vd (vm 22 5) 0, vd (xa 23 8 21 22) 48, vd (vl 24 8 23) 112, vd (vo 25 (.call 103 [(.t 20), (.t 24)])) 255, vd (nt 26 25) 511]) (.cond (.t 26) (.seq (.reg [vo 4 (.mv (cb false))]) .ret) .skip))) (.reg [vm 15 5, bk 16 .add 15 1, vm 5 16]))))))) (.seq (.reg [vo 4 (.mv (cb true))]) .ret)))), [.t 4]⟩
theorem low43 : lowF Tryd.prog 43 = some F43.strip := by kernel_rfl
theorem fok43 : fOk Tryd.prog 43 = true := by kernel_rfl
theorem reredoslaw_sameRecords_ok (p0 : List Record) (p1 : List Record) (r : Bool) (h : reredoslaw_sameRecords p0 p1 = some r) : FnRO Tryd.prog G 43 [.one (.d (.l 8 (p0.map Record.enc))), .one (.d (.l 8 (p1.map Record.enc)))] (fun rs => rs = [.one (.b r)]) := by
 refine FnRO.of' low43 fok43 (by simp [F43]) ?_
 rw [reredoslaw_sameRecords] at h
 replace h := Hd.mk h
 simp only [F43, go_sem]
 try simp only [*, go_sem]
 intro hl1
 try simp only [*, go_sem]
 intro hl2
 refine oi h (fun hb3 h => ?_) (fun hb3 h => ?_)
 cases h.e
 simp only [*, go_sem, mA, mS]
 try simp only [*, go_sem]
 refine jn0 h ([]) ([]) (fun k5 h => ?_) (fun h => ?_)
 try simp only [*, go_sem]
 refine lp1 (reredoslaw_sameRecords_L1 p0 p1 k5) (fun a6_1 => [zL 0 8 (p0.map Record.enc), zL 1 8 (p1.map Record.enc), zI 5 ((a6_1 : Nat) : Int)]) (fun a6_1 => []) h [] [] (fun n7 a6_1 h => ?_) (by intros; rw [reredoslaw_sameRecords_L1])
 rw [reredoslaw_sameRecords_L1] at h
 try simp only [*, go_sem]
 intro hl8
 refine oi h (fun hb9 h => ?_) (fun hb9 h => ?_)
 have := of_decide_eq_true hb9
 refine obg h (fun x10 _ hkx10 h => ?_)
 refine obg h (fun x11 _ _ h => ?_)
 refine obk h (fun v12 hv12 h => ?_)
 try simp only [*, go_sem]
 refine cd (reredoslaw_sameRecord_ok G x10 x11 v12 hv12) ?_
 refine oin h (fun hb13 hkhb13 h => ?_) (fun hb13 hkhb13 h => ?_)
 cases h.e
 simp only [*, go_sem, mA, mS]
 have := wrap_succ_max hkx10 hl1
 try simp only [*, go_sem]
 exact lc (a6_1 + 1) h.e []
 try simp only [*, go_sem]
 exact jc () h.e []
 cases h.e
 simp only [*, go_sem, mA, mS]
def reredoslaw_sameReplies_L1 (p0 : List Reply) (p1 : List Reply) (k5 : Option (Bool)) : Nat → Nat → Option (Bool)
 | 0, _ => none
 | n7 + 1, a6_1 => (if (decide (a6_1 < p0.length)) = true then (Option.bind (p0[a6_1]?) fun x10 => (Option.bind (p1[a6_1]?) fun x11 => (if (!((x10.Site == x11.Site) && ((x10.Kind == x11.Kind) && ((x10.N == x11.N) && ((x10.Key == x11.Key) && ((x10.Value == x11.Value) && (x10.Code == x11.Code))))))) = true then (some false) else (reredoslaw_sameReplies_L1 p0 p1 k5 n7 (a6_1 + 1))))) else k5)
def reredoslaw_sameReplies (p0 : List Reply) (p1 : List Reply) : Option (Bool) := (if (((p0.length : Nat) : Int) != ((p1.length : Nat) : Int)) = true then (some false) else (withK (some true) fun k5 => (reredoslaw_sameReplies_L1 p0 p1 k5 (p0.length + 1) 0)))
def F58 : VFn := ⟨26, (.seq (.reg [vo 4 (.mv (cb false))]) (.seq (.seq (.reg [vm 6 0, ln 7 6, vm 8 1, ln 9 8, bt 10 .neq 7 9]) (.cond (.t 10) (.seq (.reg [vo 4 (.mv (cb false))]) .ret) .skip)) (.seq (.seq (.reg [mi 5 0]) (.wk (.block 0 (.loop (.seq (.seq (.reg [vm 11 5, vm 12 0, ln 13 12, bt 14 .lss 11 13]) (.cond (.t 14) .skip (.exit 0))) (.seq (.block 1 (.seq (.draw [vd (vm 17 0) 0, vd (vm 18 5) 0, vd (xa 19 6 17 18) 3, vd (vl 20 6 19) 7, vd (vm 21 1) 0, vd (vm 22 5) 0, vd (xa 23 6 21 22) 48, vd (vl 24 6 23) 112, vd (vo 25 (.eqs true [.i, .i, .i, .i, .i, .i] (.t 20) (.t 24))) 255]) (.cond (.t 25) (.seq (.reg [vo 4 (.mv (cb false))]) .ret) .skip))) (.reg [vm 15 5, bk 16 .add 15 1, vm 5 16]))))))) (.seq (.reg [vo 4 (.mv (cb true))]) .ret)))), [.t 4]⟩
theorem low58 : lowF Tryd.prog 58 = some F58.strip := by kernel_rfl
theorem fok58 : fOk Tryd.prog 58 = true := by kernel_rfl
theorem reredoslaw_sameReplies_ok (p0 : List Reply) (p1 : List Reply) (r : Bool) (h : reredoslaw_sameReplies p0 p1 = some r) : FnRO Tryd.prog G 58 [.one (.d (.l 6 (p0.map Reply.enc))), .one (.d (.l 6 (p1.map Reply.enc)))] (fun rs => rs = [.one (.b r)]) := by
 refine FnRO.of' low58 fok58 (by simp [F58]) ?_
 rw [reredoslaw_sameReplies] at h
 replace h := Hd.mk h
 simp only [F58, go_sem]
 try simp only [*, go_sem]
 intro hl1
 try simp only [*, go_sem]
 intro hl2
 refine oi h (fun hb3 h => ?_) (fun hb3 h => ?_)
 cases h.e
 simp only [*, go_sem, mA, mS]
 try simp only [*, go_sem]
 refine jn0 h ([]) ([]) (fun k5 h => ?_) (fun h => ?_)
 try simp only [*, go_sem]
 refine lp1 (reredoslaw_sameReplies_L1 p0 p1 k5) (fun a6_1 => [zL 0 6 (p0.map Reply.enc), zL 1 6 (p1.map Reply.enc), zI 5 ((a6_1 : Nat) : Int)]) (fun a6_1 => []) h [] [] (fun n7 a6_1 h => ?_) (by intros; rw [reredoslaw_sameReplies_L1])
 rw [reredoslaw_sameReplies_L1] at h
 try simp only [*, go_sem]
 intro hl8
 refine oi h (fun hb9 h => ?_) (fun hb9 h => ?_)
 have := of_decide_eq_true hb9
 refine obg h (fun x10 _ hkx10 h => ?_)
 refine obg h (fun x11 _ _ h => ?_)
 refine oin h (fun hb12 hkhb12 h => ?_) (fun hb12 hkhb12 h => ?_)
 try simp only [*, go_sem]
 cases h.e
 simp only [*, go_sem, mA, mS]
 try simp only [*, go_sem]
 have := wrap_succ_max hkx10 hl1
 try simp only [*, go_sem]
 exact lc (a6_1 + 1) h.e []
 try simp only [*, go_sem]
 exact jc () h.e []
 cases h.e
 simp only [*, go_sem, mA, mS]
def reredoslaw_sameTurn (p0 : Turn) (p1 : Turn) : Option (Bool) := (withK (fun (b1_1 : Bool) => (some b1_1)) fun k2 => (if (p0.Sure == p1.Sure) = true then (if (p0.Committed == p1.Committed) = true then (Option.bind (reredoslaw_sameDesk p0.Desk p1.Desk) fun v5 => (if v5 = true then (Option.bind (reredoslaw_sameMessages p0.Messages p1.Messages) fun v7 => (if v7 = true then (Option.bind (reredoslaw_sameRecords p0.Records p1.Records) fun v9 => (if v9 = true then (Option.bind (reredoslaw_sameReplies p0.Replies p1.Replies) fun v11 => (k2 v11)) else (k2 false))) else (k2 false))) else (k2 false))) else (k2 false)) else (k2 false)))
def F15 : VFn := ⟨45, (.seq (.reg [vo 2 (.box 7 (.t 0)), vo 3 (.box 7 (.t 1)), vo 4 (.mv (cb false))]) (.seq (.wk (.reg [vf 5 5 2, vs 6 5, vf 7 5 3, vs 8 7, bt 9 .eql 6 8, vm 10 9, gt 11 10 (.fa 6 (.t 2)), gt 12 10 (.ld false 1 (.t 11)), gt 13 10 (.fa 6 (.t 3)), gt 14 10 (.ld false 1 (.t 13)), gt 15 10 (.bin .i .eql (.t 12) (.t 14)), vo 16 (.pick (.t 10) (.t 15) (cb false)), vm 17 16, gt 18 17 (.fa 0 (.t 2)), gt 19 17 (.ld true 2 (.t 18)), gt 20 17 (.fa 0 (.t 3)), gt 21 17 (.ld true 2 (.t 20)), gt 22 17 (.call 16 [(.t 19), (.t 21)]), vo 23 (.pick (.t 17) (.t 22) (cb false)), vm 24 23, gt 25 24 (.fa 2 (.t 2)), gt 26 24 (.ld false 1 (.t 25)), gt 27 24 (.fa 2 (.t 3)), gt 28 24 (.ld false 1 (.t 27)), gt 29 24 (.call 42 [(.t 26), (.t 28)]), vo 30 (.pick (.t 24) (.t 29) (cb false)), vm 31 30, gt 32 31 (.fa 3 (.t 2)), gt 33 31 (.ld false 1 (.t 32)), gt 34 31 (.fa 3 (.t 3)), gt 35 31 (.ld false 1 (.t 34)), gt 36 31 (.call 43 [(.t 33), (.t 35)]), vo 37 (.pick (.t 31) (.t 36) (cb false)), vm 38 37, gt 39 38 (.fa 4 (.t 2)), gt 40 38 (.ld false 1 (.t 39)), gt 41 38 (.fa 4 (.t 3)), gt 42 38 (.ld false 1 (.t 41)), gt 43 38 (.call 58 [(.t 40), (.t 42)]), vo 44 (.pick (.t 38) (.t 43) (cb false)), vm 4 44])) .ret)), [.t 4]⟩
theorem low15 : lowF Tryd.prog 15 = some F15.strip := by kernel_rfl
theorem fok15 : fOk Tryd.prog 15 = true := by kernel_rfl
theorem reredoslaw_sameTurn_ok (p0 : Turn) (p1 : Turn) (r : Bool) (h : reredoslaw_sameTurn p0 p1 = some r) : FnRO Tryd.prog G 15 [.agg p0.bx, .agg p1.bx] (fun rs => rs = [.one (.b r)]) := by
 refine FnRO.of' low15 fok15 (by simp [F15]) ?_
 rw [reredoslaw_sameTurn] at h
 replace h := Hd.mk h
 simp only [F15, go_sem]
 try simp only [*, go_sem]
 refine jn1 h (fun b1_1 => [zB 4 b1_1]) (fun b1_1 => []) (fun k2 h => ?_) (fun b1_1 h => ?_)
 refine oi h (fun hb3 h => ?_) (fun hb3 h => ?_)
 refine oi h (fun hb4 h => ?_) (fun hb4 h => ?_)
 try simp only [*, go_sem]
 refine cr h (reredoslaw_sameDesk_ok G p0.Desk p1.Desk) (fun v5 h => ?_)
 refine oi h (fun hb6 h => ?_) (fun hb6 h => ?_)
 try simp only [*, go_sem]
 refine cr h (reredoslaw_sameMessages_ok G p0.Messages p1.Messages) (fun v7 h => ?_)
 refine oi h (fun hb8 h => ?_) (fun hb8 h => ?_)
 try simp only [*, go_sem]
 refine cr h (reredoslaw_sameRecords_ok G p0.Records p1.Records) (fun v9 h => ?_)
 refine oi h (fun hb10 h => ?_) (fun hb10 h => ?_)
 try simp only [*, go_sem]
 refine cr h (reredoslaw_sameReplies_ok G p0.Replies p1.Replies) (fun v11 h => ?_)
 try simp only [*, go_sem]
 exact jc (v11) h.e []
 try simp only [*, go_sem]
 exact jc (false) h.e []
 try simp only [*, go_sem]
 exact jc (false) h.e []
 try simp only [*, go_sem]
 exact jc (false) h.e []
 try simp only [*, go_sem]
 exact jc (false) h.e []
 try simp only [*, go_sem]
 exact jc (false) h.e []
 cases h.e
 simp only [*, go_sem, mA, mS]
def reredoslaw_CoordHears (p0 : Config) (p1 : Int) (p2 : Int) (p3 : Desk) (p4 : Message) : Option (Bool) := (Option.bind (reredosref_DeskCopy p3) fun v1 => (Option.bind (coord_Hear p0 p1 p2 v1 p4) fun v2 => (Option.bind (reredosref_CoordHeard p0 p1 p2 p3 p4) fun v3 => (withK (fun (b4_1 : Bool) => (some b4_1)) fun k5 => (if (v2.2 == v3.2) = true then (Option.bind (reredoslaw_sameTurn v2.1 v3.1) fun v7 => (if v7 = true then (Option.bind (reredoslaw_sameDesk v1 p3) fun v9 => (k5 v9)) else (k5 false))) else (k5 false))))))
def F4 : VFn := ⟨49, (.seq (.reg [vo 5 (.box 3 (.t 0)), vo 8 (.box 2 (.t 3)), vo 9 (.boxk 12 (.t 4)), vo 10 (.mv (cb false))]) (.seq (.reg [vl 16 2 8, vo 17 (.call 12 [(.t 16)]), vo 11 (.alloc [(zi 0), (.nl 6)]), vu (.st 2 (.t 11) (.t 17))]) (.seq (.gho (.reg [vl 19 3 5, vm 20 1, vm 21 2, vl 22 2 11, vl 23 12 9, vo 24 (.call 13 [(.t 19), (.t 20), (.t 21), (.t 22), (.t 23)]), vm 18 24, et 25 18 0, et 26 18 1, vo 12 (.alloc [(zi 0), (.nl 6), (.nl 12), (.nl 8), (.nl 6), (zi 0), (zi 0)]), vu (.st 7 (.t 12) (.t 25)), vm 13 26])) (.seq (.reg [vl 28 3 5, vm 29 1, vm 30 2, vl 31 2 8, vl 32 12 9, vo 33 (.call 14 [(.t 28), (.t 29), (.t 30), (.t 31), (.t 32)]), vm 27 33, et 34 27 0, et 35 27 1, vo 14 (.alloc [(zi 0), (.nl 6), (.nl 12), (.nl 8), (.nl 6), (zi 0), (zi 0)]), vu (.st 7 (.t 14) (.t 34)), vm 15 35]) (.seq (.wk (.reg [vm 36 13, vm 37 15, bt 38 .eql 36 37, vm 39 38, gt 40 39 (.ld true 7 (.t 12)), gt 41 39 (.ld true 7 (.t 14)), gt 42 39 (.call 15 [(.t 40), (.t 41)]), vo 43 (.pick (.t 39) (.t 42) (cb false)), vm 44 43, gt 45 44 (.ld true 2 (.t 11)), gt 46 44 (.ld true 2 (.t 8)), gt 47 44 (.call 16 [(.t 45), (.t 46)]), vo 48 (.pick (.t 44) (.t 47) (cb false)), vm 10 48])) .ret))))), [.t 10]⟩
theorem low4 : lowF Tryd.prog 4 = some F4.strip := by kernel_rfl
theorem fok4 : fOk Tryd.prog 4 = true := by kernel_rfl
theorem reredoslaw_CoordHears_ok (htab_wire_messages : constG G 0 = .one (.d (.k tab_wire_messagesD))) (p0 : Config) (p1 : Int) (p2 : Int) (p3 : Desk) (p4 : Message) (r : Bool) (h : reredoslaw_CoordHears p0 p1 p2 p3 p4 = some r) : FnRO Tryd.prog G 4 [.agg p0.bx, .one (.d (.i .i64 p1)), .one (.d (.i .i64 p2)), .agg p3.bx, .agg p4.bx] (fun rs => rs = [.one (.b r)]) := by
 refine FnRO.of' low4 fok4 (by simp [F4]) ?_
 rw [reredoslaw_CoordHears] at h
 replace h := Hd.mk h
 simp only [F4, go_sem]
 try simp only [*, go_sem]
 refine cr h (reredosref_DeskCopy_ok G p3) (fun v1 h => ?_)
 try simp only [*, go_sem]
 refine gho_lk _ G _ _ [.z 2] ?_
 try simp only [*, go_sem]
 try simp only [*, go_sem]
 refine cr h (coord_Hear_ok G htab_wire_messages p0 p1 p2 v1 p4) (fun v2 h => ?_)
 try simp only [*, go_sem]
 refine cr h (reredosref_CoordHeard_ok G p0 p1 p2 p3 p4) (fun v3 h => ?_)
 try simp only [*, go_sem]
 refine jn1 h (fun b4_1 => [zB 10 b4_1]) (fun b4_1 => []) (fun k5 h => ?_) (fun b4_1 h => ?_)
 refine oi h (fun hb6 h => ?_) (fun hb6 h => ?_)
 try simp only [*, go_sem]
 refine cl h (reredoslaw_sameTurn_ok G v2.1 v3.1) (fun v7 h => ?_)
 refine oi h (fun hb8 h => ?_) (fun hb8 h => ?_)
 try simp only [*, go_sem]
 refine cr h (reredoslaw_sameDesk_ok G v1 p3) (fun v9 h => ?_)
 try simp only [*, go_sem]
 exact jc (v9) h.e []
 try simp only [*, go_sem]
 exact jc (false) h.e []
 try simp only [*, go_sem]
 exact jc (false) h.e []
 cases h.e
 simp only [*, go_sem, mA, mS]
end Go.V.Dec
