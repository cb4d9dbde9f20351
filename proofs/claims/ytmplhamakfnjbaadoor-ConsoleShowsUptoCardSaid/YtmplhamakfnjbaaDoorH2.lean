/- What Go's functions come to, as plain functions: part 2; no condition. -/
import Derived.Test.YtmplhamakfnjbaaDoorH1
set_option linter.unusedVariables false
set_option linter.unusedSimpArgs false
namespace Go.V.Dec
open Go Go.Proofs
set_option maxRecDepth 100000
set_option maxHeartbeats 4000000
variable (G : Nat → Option (List D))
def reredosref_WritesOf_L1 (p0 : Store) (p1 : Txn) (k4 : Int → Option (Int × Int)) : Nat → Int → Nat → Option (Int × Int)
 | 0, _, _ => none
 | n6 + 1, a5_1, a5_2 => (if (decide (a5_2 < p0.Locks.length)) = true then (Option.bind (p0.Locks[a5_2]?) fun x9 => (if ((x9.Txn.Site == p1.Site) && (x9.Txn.N == p1.N)) = true then (withK (fun (b11_1 : Int) => (reredosref_WritesOf_L1 p0 p1 k4 n6 b11_1 (a5_2 + 1))) fun k12 => (if x9.Write = true then (k12 (IntKind.i64.wrap (a5_1 + 1))) else (k12 a5_1))) else (withK (reredosref_WritesOf_L1 p0 p1 k4 n6 a5_1 (a5_2 + 1)) fun k16 => k16))) else (k4 a5_1))
def reredosref_WritesOf (p0 : Store) (p1 : Txn) : Option (Int × Int) := (Option.bind (reredosref_askFault p0 p1 0) fun v1 => (if (v1 != 0) = true then (some (0, v1)) else (withK (fun (b3_1 : Int) => (some (b3_1, 0))) fun k4 => (reredosref_WritesOf_L1 p0 p1 k4 (p0.Locks.length + 1) 0 0))))
def F91 : VFn := ⟨41, (.seq (.reg [vo 2 (.boxk 4 (.t 0)), vo 3 (.boxk 2 (.t 1)), mi 4 0, mi 5 0]) (.seq (.reg [vl 9 4 2, vl 10 2 3, vo 11 (.call 107 [(.t 9), (.t 10), (ci 0)]), vm 6 11]) (.seq (.seq (.reg [vm 12 6, bk 13 .neq 12 0]) (.cond (.t 13) (.seq (.reg [vm 14 6, mi 4 0, vm 5 14]) .ret) .skip)) (.seq (.reg [mi 7 0]) (.seq (.seq (.reg [mi 8 0]) (.wk (.block 0 (.loop (.seq (.seq (.reg [vm 15 8, vf 16 1 2, vs 17 16, ln 18 17, bt 19 .lss 15 18]) (.cond (.t 19) .skip (.exit 0))) (.seq (.block 1 (.seq (.draw [vd (vf 22 1 2) 0, vd (vs 23 22) 1, vd (vm 24 8) 0, vd (xa 25 6 23 24) 7, vd (vf 26 0 25) 15, vd (vl 27 2 26) 31, vd (vl 28 2 3) 0, vd (vo 29 (.eqs false [.i, .i] (.t 27) (.t 28))) 127, vd (vm 30 29) 255, vd (gt 31 30 (.fa 1 (.t 2))) 511, vd (gt 32 30 (.ld false 1 (.t 31))) 1023, vd (gt 33 30 (.mv (.t 8))) 511, vd (gt 34 30 (.ia 6 (.t 32) (.t 33))) 4095, vd (gt 35 30 (.fa 3 (.t 34))) 8191, vd (gt 36 30 (.ld false 1 (.t 35))) 0x3fff, vd (vo 37 (.pick (.t 30) (.t 36) (cb false))) 0x7fff]) (.wk (.cond (.t 37) (.reg [vm 38 7, bk 39 .add 38 1, vm 7 39]) .skip)))) (.reg [vm 20 8, bk 21 .add 20 1, vm 8 21]))))))) (.seq (.reg [vm 40 7, vm 4 40, mi 5 0]) .ret)))))), [.t 4, .t 5]⟩
theorem low91 : lowF Tryd.prog 91 = some F91.strip := by kernel_rfl
theorem fok91 : fOk Tryd.prog 91 = true := by kernel_rfl
theorem reredosref_WritesOf_ok (p0 : Store) (p1 : Txn) (r : Int × Int) (h : reredosref_WritesOf p0 p1 = some r) : FnRO Tryd.prog G 91 [.agg p0.bx, .agg p1.bx] (fun rs => rs = [.one (.i .i64 r.1), .one (.i .i64 r.2)]) := by
 refine FnRO.of' low91 fok91 (by simp [F91]) ?_
 rw [reredosref_WritesOf] at h
 replace h := Hd.mk h
 simp only [F91, go_sem]
 try simp only [*, go_sem]
 refine cr h (reredosref_askFault_ok G p0 p1 0) (fun v1 h => ?_)
 refine oi h (fun hb2 h => ?_) (fun hb2 h => ?_)
 cases h.e
 simp only [*, go_sem, mA, mS]
 try simp only [*, go_sem]
 refine jn1 h (fun b3_1 => [zI 7 b3_1]) (fun b3_1 => []) (fun k4 h => ?_) (fun b3_1 h => ?_)
 try simp only [*, go_sem]
 refine lp2 (reredosref_WritesOf_L1 p0 p1 k4) (fun a5_1 a5_2 => [zK 2 (Store.enc p0), zK 3 (Txn.enc p1), zI 7 a5_1, zI 8 ((a5_2 : Nat) : Int)]) (fun a5_1 a5_2 => []) h [] [] (fun n6 a5_1 a5_2 h => ?_) (by intros; rw [reredosref_WritesOf_L1])
 rw [reredosref_WritesOf_L1] at h
 try simp only [*, go_sem]
 intro hl7
 refine oi h (fun hb8 h => ?_) (fun hb8 h => ?_)
 have := of_decide_eq_true hb8
 refine obg h (fun x9 _ hkx9 h => ?_)
 refine oi h (fun hb10 h => ?_) (fun hb10 h => ?_)
 try simp only [*, go_sem]
 try simp only [*, go_sem]
 refine jn1 h (fun b11_1 => [zK 2 (Store.enc p0), zK 3 (Txn.enc p1), zI 7 b11_1, zI 8 ((a5_2 : Nat) : Int), (31, .one (.p (.l 4 [(Store.enc p0)] 0 1))), zL 32 6 (p0.Locks.map Lock.enc), zI 33 ((a5_2 : Nat) : Int), (34, .one (.p (.l 6 (p0.Locks.map Lock.enc) a5_2 0))), (35, .one (.p (.l 6 (p0.Locks.map Lock.enc) a5_2 3))), zB 36 x9.Write]) (fun b11_1 => []) (fun k12 h => ?_) (fun b11_1 h => ?_)
 refine oi h (fun hb13 h => ?_) (fun hb13 h => ?_)
 try simp only [*, go_sem]
 exact jc (IntKind.i64.wrap (a5_1 + 1)) h.e []
 try simp only [*, go_sem]
 exact jc (a5_1) h.e []
 have := wrap_succ_max hkx9 hl7
 try simp only [*, go_sem]
 exact lc (b11_1, a5_2 + 1) h.e []
 try simp only [*, go_sem]
 try simp only [*, go_sem]
 refine jn0 h ([zK 2 (Store.enc p0), zK 3 (Txn.enc p1), zI 7 a5_1, zI 8 ((a5_2 : Nat) : Int)]) ([]) (fun k16 h => ?_) (fun h => ?_)
 try simp only [*, go_sem]
 exact jc () h.e []
 have := wrap_succ_max hkx9 hl7
 try simp only [*, go_sem]
 exact lc (a5_1, a5_2 + 1) h.e []
 try simp only [*, go_sem]
 exact jc (a5_1) h.e []
 cases h.e
 simp only [*, go_sem, mA, mS]
def reredosref_preparedAt (p0 : Store) (p1 : Txn) : Option (Bool) := (Option.bind (reredosref_WritesOf p0 p1) fun v1 => (withK (fun (b2_1 : Bool) => (some b2_1)) fun k3 => (if (v1.2 == 0) = true then (k3 (decide (v1.1 > 0))) else (k3 false))))
def F50 : VFn := ⟨19, (.seq (.reg [vo 2 (.box 4 (.t 0)), vo 3 (.boxk 2 (.t 1)), vo 4 (.mv (cb false))]) (.seq (.reg [vl 8 4 2, vl 9 2 3, vo 10 (.call 91 [(.t 8), (.t 9)]), vm 7 10, et 11 7 0, et 12 7 1, vm 5 11, vm 6 12]) (.seq (.wk (.reg [vm 13 6, bk 14 .eql 13 0, vm 15 14, gt 16 15 (.mv (.t 5)), gt 17 15 (.bin .i .gtr (.t 16) (ci 0)), vo 18 (.pick (.t 15) (.t 17) (cb false)), vm 4 18])) .ret))), [.t 4]⟩
theorem low50 : lowF Tryd.prog 50 = some F50.strip := by kernel_rfl
theorem fok50 : fOk Tryd.prog 50 = true := by kernel_rfl
theorem reredosref_preparedAt_ok (p0 : Store) (p1 : Txn) (r : Bool) (h : reredosref_preparedAt p0 p1 = some r) : FnRO Tryd.prog G 50 [.agg p0.bx, .agg p1.bx] (fun rs => rs = [.one (.b r)]) := by
 refine FnRO.of' low50 fok50 (by simp [F50]) ?_
 rw [reredosref_preparedAt] at h
 replace h := Hd.mk h
 simp only [F50, go_sem]
 try simp only [*, go_sem]
 refine cr h (reredosref_WritesOf_ok G p0 p1) (fun v1 h => ?_)
 try simp only [*, go_sem]
 refine jn1 h (fun b2_1 => [zB 4 b2_1]) (fun b2_1 => []) (fun k3 h => ?_) (fun b2_1 h => ?_)
 refine oi h (fun hb4 h => ?_) (fun hb4 h => ?_)
 try simp only [*, go_sem]
 exact jc (decide (v1.1 > 0)) h.e []
 try simp only [*, go_sem]
 exact jc (false) h.e []
 cases h.e
 simp only [*, go_sem, mA, mS]
def reredosref_Dec_R : Nat → Int → Option (ByteArray)
 | 0, _ => none
 | fu + 1, p0 => (if (decide (p0 < 0)) = true then (withK (fun (b2_1 : ByteArray) => (if bs_336d5ebc.size + b2_1.size ≤ maxLen then (some (bs_336d5ebc ++ b2_1)) else none)) fun k3 => (Option.bind (reredosref_Dec_R fu (IntKind.i64.wrap (0 - p0))) fun v4 => (k3 v4))) else (if (decide (p0 < 10)) = true then (some (strOfNums [IntKind.u8.wrap (IntKind.i64.wrap (48 + p0))])) else (Option.bind (reredosref_Dec_R fu (IntKind.i64.wrap (p0.tdiv 10))) fun v7 => (if v7.size + (strOfNums [IntKind.u8.wrap (IntKind.i64.wrap (48 + p0.tmod 10))]).size ≤ maxLen then (some (v7 ++ (strOfNums [IntKind.u8.wrap (IntKind.i64.wrap (48 + p0.tmod 10))]))) else none))))
def reredosref_Dec (p0 : Int) : Option (ByteArray) := reredosref_Dec_R 24 p0
def F51 : VFn := ⟨26, (.seq (.reg [vo 2 (.mv (.c (.one (.d (.s ⟨#[]⟩)))))]) (.seq (.seq (.reg [vm 3 0, bk 4 .lss 3 0]) (.cond (.t 4) (.seq (.regs [[vm 5 0, vo 6 (.un .neg (.t 5)), vo 7 (.call 51 [(.t 6)])], [vo 8 (.bin .s .add (.c (.one (.d (.s bs_336d5ebc)))) (.t 7)), vm 2 8]]) .ret) .skip)) (.seq (.seq (.reg [vm 9 0, bk 10 .lss 9 10]) (.cond (.t 10) (.seq (.reg [vm 11 0, vo 12 (.bin .i .add (ci 48) (.t 11)), vo 13 (.cvi .u8 (.t 12)), vo 14 (.bsl 1 1 [(.d (.i .u8 0))] [(0, (.t 13))]), vo 15 (.b2s (.t 14)), vm 2 15]) .ret) .skip)) (.seq (.draw [vd (vm 16 0) 0, vd (bk 17 .quo 16 10) 1, vd (vo 18 (.call 51 [(.t 17)])) 3, ⟨vm 19 0, 0, [2], none, []⟩, ⟨bk 20 .rem 19 10, 8, [2], none, []⟩, ⟨vo 21 (.bin .i .add (ci 48) (.t 20)), 24, [2], none, []⟩, ⟨vo 22 (.cvi .u8 (.t 21)), 56, [2], none, []⟩, ⟨vo 23 (.bsl 1 1 [(.d (.i .u8 0))] [(0, (.t 22))]), 120, [2], none, []⟩, ⟨vo 24 (.b2s (.t 23)), 248, [2], none, []⟩, vd (vo 25 (.bin .s .add (.t 18) (.t 24))) 511, vd (vm 2 25) 1023]) .ret)))), [.t 2]⟩
theorem low51 : lowF Tryd.prog 51 = some F51.strip := by kernel_rfl
theorem fok51 : fOk Tryd.prog 51 = true := by kernel_rfl
theorem reredosref_Dec_R_ok (fu : Nat) (p0 : Int) (r : ByteArray) (h : reredosref_Dec_R fu p0 = some r) : FnRO Tryd.prog G 51 [.one (.d (.i .i64 p0))] (fun rs => rs = [.one (.s r)]) := by
 induction fu generalizing p0 r with
 | zero => cases h
 | succ fu ih0 =>
  have ih := fun (_ : Nat → Option (List D)) => ih0
  refine FnRO.of' low51 fok51 (by simp [F51]) ?_
  rw [reredosref_Dec_R] at h
  replace h := Hd.mk h
  clear ih0
  simp only [F51, go_sem]
  refine oi h (fun hb1 h => ?_) (fun hb1 h => ?_)
  have := of_decide_eq_true hb1
  try simp only [*, go_sem]
  refine rg1 h (fun b2_1 => [(7, .one (.d (.s b2_1)))]) (fun b2_1 => []) (fun k3 h => ?_) (fun b2_1 h => ?_)
  try simp only [*, go_sem]
  refine cr h (ih G (IntKind.i64.wrap (0 - p0))) (fun v4 h => ?_)
  try simp only [*, go_sem]
  exact jc (v4) h.e []
  refine ck h (fun _ h => ?_)
  cases h.e
  simp only [*, go_sem, mA, mS]
  refine oi h (fun hb6 h => ?_) (fun hb6 h => ?_)
  have := of_decide_eq_true hb6
  cases h.e
  simp only [*, go_sem, mA, mS]
  refine obk h (fun v7 hv7 h => ?_)
  try simp only [*, go_sem]
  refine cd (ih G (IntKind.i64.wrap (p0.tdiv 10)) v7 hv7) ?_
  refine ck h (fun _ h => ?_)
  cases h.e
  simp only [*, go_sem, mA, mS]
theorem reredosref_Dec_ok (p0 : Int) (r : ByteArray) (h : reredosref_Dec p0 = some r) : FnRO Tryd.prog G 51 [.one (.d (.i .i64 p0))] (fun rs => rs = [.one (.s r)]) := reredosref_Dec_R_ok G 24 p0 r h
def reredosref_ShownOf_L1 (p2 : List Store) (k17 : Int → Option (ByteArray × Int)) : Nat → Int → Int → Option (ByteArray × Int)
 | 0, _, _ => none
 | n19 + 1, a18_1, a18_2 => (withK (if 0 ≤ a18_2 then (Option.bind (p2[a18_2.toNat]?) fun x25 => (Option.bind (reredosref_StoreMay x25) fun v27 => (withK (fun (b28_1 : Int) => (reredosref_ShownOf_L1 p2 k17 n19 b28_1 (IntKind.i64.wrap (a18_2 + 1)))) fun k29 => (if (!v27) = true then (k29 9) else (k29 a18_1))))) else none) fun k21 => (if (decide (a18_2 < ((p2.length : Nat) : Int))) = true then (if (a18_1 == 0) = true then k21 else (k17 a18_1)) else (k17 a18_1)))
def reredosref_ShownOf_L3 (p3 : List (List Note)) (a33_2 : Int) (k41 : Int → Option (ByteArray × Int)) : Nat → Int → Nat → Option (ByteArray × Int)
 | 0, _, _ => none
 | n43 + 1, a42_1, a42_2 => (if 0 ≤ a33_2 then (Option.bind (p3[a33_2.toNat]?) fun x44 => (if (decide (a42_2 < x44.length)) = true then (Option.bind (x44[a42_2]?) fun x48 => (Option.bind (reredosref_plainTxn x48.Txn) fun v49 => (withK (fun (b50_1 : Int) => (reredosref_ShownOf_L3 p3 a33_2 k41 n43 b50_1 (a42_2 + 1))) fun k51 => (if (!v49) = true then (k51 9) else (k51 a42_1))))) else (k41 a42_1))) else none)
def reredosref_ShownOf_L2 (p3 : List (List Note)) (k32 : Int → Option (ByteArray × Int)) : Nat → Int → Int → Option (ByteArray × Int)
 | 0, _, _ => none
 | n34 + 1, a33_1, a33_2 => (withK (withK (fun (b40_1 : Int) => (reredosref_ShownOf_L2 p3 k32 n34 b40_1 (IntKind.i64.wrap (a33_2 + 1)))) fun k41 => (reredosref_ShownOf_L3 p3 a33_2 k41 (((p3[a33_2.toNat]?).getD default).length + 1) a33_1 0)) fun k36 => (if (decide (a33_2 < ((p3.length : Nat) : Int))) = true then (if (a33_1 == 0) = true then k36 else (k32 a33_1)) else (k32 a33_1)))
def reredosref_ShownOf_L5 (p2 : List Store) (p4 : Command) (a78_2 : Nat) (k89 : ByteArray → Option (ByteArray × Int)) : Nat → ByteArray → Int → Option (ByteArray × Int)
 | 0, _, _ => none
 | n91 + 1, a90_1, a90_2 => (withK (Option.bind (p2[a78_2]?) fun x98 => (if 0 ≤ a90_2 then (Option.bind (x98.Doubts[a90_2.toNat]?) fun x99 => (Option.bind (reredosref_preparedAt x98 x99.Txn) fun v101 => (withK (fun (b102_1 : ByteArray) => (reredosref_ShownOf_L5 p2 p4 a78_2 k89 n91 b102_1 (IntKind.i64.wrap (a90_2 + 1)))) fun k103 => (if v101 = true then (Option.bind (reredosref_Dec ((a78_2 : Nat) : Int)) fun v105 => (if a90_1.size + v105.size ≤ maxLen then (if a90_1.size + v105.size + bs_7215ee9c.size ≤ maxLen then (Option.bind (reredosref_Dec x99.Txn.Site) fun v108 => (if a90_1.size + v105.size + bs_7215ee9c.size + v108.size ≤ maxLen then (if a90_1.size + v105.size + bs_7215ee9c.size + v108.size + bs_7215ee9c.size ≤ maxLen then (Option.bind (reredosref_Dec x99.Txn.N) fun v111 => (if a90_1.size + v105.size + bs_7215ee9c.size + v108.size + bs_7215ee9c.size + v111.size ≤ maxLen then (if a90_1.size + v105.size + bs_7215ee9c.size + v108.size + bs_7215ee9c.size + v111.size + bs_7215ee9c.size ≤ maxLen then (Option.bind (reredosref_Dec x99.Age) fun v114 => (if a90_1.size + v105.size + bs_7215ee9c.size + v108.size + bs_7215ee9c.size + v111.size + bs_7215ee9c.size + v114.size ≤ maxLen then (if a90_1.size + v105.size + bs_7215ee9c.size + v108.size + bs_7215ee9c.size + v111.size + bs_7215ee9c.size + v114.size + bs_68b329da.size ≤ maxLen then (k103 ((((((((a90_1 ++ v105) ++ bs_7215ee9c) ++ v108) ++ bs_7215ee9c) ++ v111) ++ bs_7215ee9c) ++ v114) ++ bs_68b329da)) else none) else none)) else none) else none)) else none) else none)) else none) else none)) else (k103 a90_1))))) else none)) fun k93 => (Option.bind (p2[a78_2]?) fun x94 => (if (decide (a90_2 < ((x94.Doubts.length : Nat) : Int))) = true then (if (p4.Kind == 1) = true then k93 else (k89 a90_1)) else (k89 a90_1))))
def reredosref_ShownOf_L6 (p3 : List (List Note)) (p4 : Command) (a78_2 : Nat) (k118 : ByteArray → Option (ByteArray × Int)) : Nat → ByteArray → Int → Option (ByteArray × Int)
 | 0, _, _ => none
 | n120 + 1, a119_1, a119_2 => (withK (Option.bind (p3[a78_2]?) fun x127 => (if 0 ≤ a119_2 then (Option.bind (x127[a119_2.toNat]?) fun x128 => (Option.bind (reredosref_Dec ((a78_2 : Nat) : Int)) fun v130 => (if a119_1.size + v130.size ≤ maxLen then (if a119_1.size + v130.size + bs_7215ee9c.size ≤ maxLen then (Option.bind (reredosref_Dec x128.Txn.Site) fun v133 => (if a119_1.size + v130.size + bs_7215ee9c.size + v133.size ≤ maxLen then (if a119_1.size + v130.size + bs_7215ee9c.size + v133.size + bs_7215ee9c.size ≤ maxLen then (Option.bind (reredosref_Dec x128.Txn.N) fun v136 => (if a119_1.size + v130.size + bs_7215ee9c.size + v133.size + bs_7215ee9c.size + v136.size ≤ maxLen then (withK (fun (b138_1 : ByteArray) => (withK (fun (b143_1 : ByteArray) => (if b143_1.size + bs_68b329da.size ≤ maxLen then (reredosref_ShownOf_L6 p3 p4 a78_2 k118 n120 (b143_1 ++ bs_68b329da) (IntKind.i64.wrap (a119_2 + 1))) else none)) fun k144 => (if x128.Damage = true then (if b138_1.size + bs_6d74a691.size ≤ maxLen then (k144 (b138_1 ++ bs_6d74a691)) else none) else (k144 b138_1)))) fun k139 => (if x128.Yes = true then (if a119_1.size + v130.size + bs_7215ee9c.size + v133.size + bs_7215ee9c.size + v136.size + bs_4d42290a.size ≤ maxLen then (k139 ((((((a119_1 ++ v130) ++ bs_7215ee9c) ++ v133) ++ bs_7215ee9c) ++ v136) ++ bs_4d42290a)) else none) else (if a119_1.size + v130.size + bs_7215ee9c.size + v133.size + bs_7215ee9c.size + v136.size + bs_0fc6f503.size ≤ maxLen then (k139 ((((((a119_1 ++ v130) ++ bs_7215ee9c) ++ v133) ++ bs_7215ee9c) ++ v136) ++ bs_0fc6f503)) else none))) else none)) else none) else none)) else none) else none))) else none)) fun k122 => (Option.bind (p3[a78_2]?) fun x123 => (if (decide (a119_2 < ((x123.length : Nat) : Int))) = true then (if (p4.Kind == 4) = true then k122 else (k118 a119_1)) else (k118 a119_1))))
def reredosref_ShownOf_L4 (p0 : Config) (p1 : Int) (p2 : List Store) (p3 : List (List Note)) (p4 : Command) (k77 : ByteArray → Option (ByteArray × Int)) : Nat → ByteArray → Nat → Option (ByteArray × Int)
 | 0, _, _ => none
 | n79 + 1, a78_1, a78_2 => (if (decide (a78_2 < p0.Labels.length)) = true then (if 0 ≤ p1 then (Option.bind (p0.Labels[p1.toNat]?) fun x82 => (Option.bind (p0.Labels[a78_2]?) fun x84 => (Option.bind (reredosref_Dominates x82 x84) fun v85 => (if (!v85) = true then (reredosref_ShownOf_L4 p0 p1 p2 p3 p4 k77 n79 a78_1 (a78_2 + 1)) else (withK (fun (b88_1 : ByteArray) => (withK (fun (b117_1 : ByteArray) => (reredosref_ShownOf_L4 p0 p1 p2 p3 p4 k77 n79 b117_1 (a78_2 + 1))) fun k118 => (reredosref_ShownOf_L6 p3 p4 a78_2 k118 (((p3[a78_2]?).getD default).length + 1) b88_1 0))) fun k89 => (reredosref_ShownOf_L5 p2 p4 a78_2 k89 ((((p2[a78_2]?).getD default).Doubts).length + 1) a78_1 0)))))) else none) else (k77 a78_1))
def reredosref_ShownOf (p0 : Config) (p1 : Int) (p2 : List Store) (p3 : List (List Note)) (p4 : Command) : Option (ByteArray × Int) := (Option.bind (reredosref_ConfigFault p0) fun v1 => (withK (fun (b2_1 : Int) => (withK (fun (b7_1 : Int) => (withK (fun (b16_1 : Int) => (withK (fun (b31_1 : Int) => (withK (fun (b54_1 : Int) => (if (b54_1 != 0) = true then (some ((⟨#[]⟩ : ByteArray), b54_1)) else (if (p4.Kind == 2) = true then (withK (some (bs_d9f7497c, 0)) fun k63 => (Option.bind (reredosref_labelMay p0 p4.Label) fun v64 => (if v64 = true then (if 0 ≤ p1 then (Option.bind (p0.Labels[p1.toNat]?) fun x66 => (if 0 ≤ p4.Label then (Option.bind (p0.Labels[p4.Label.toNat]?) fun x68 => (Option.bind (reredosref_Dominates x66 x68) fun v70 => (if v70 = true then (if 0 ≤ p4.Label then (Option.bind (p2[p4.Label.toNat]?) fun x72 => (Option.bind (reredosref_preparedAt x72 p4.Txn) fun v74 => (if v74 = true then (some (bs_298e1f25, 0)) else k63))) else none) else k63))) else none)) else none) else k63))) else (withK (fun (b76_1 : ByteArray) => (some (b76_1, 0))) fun k77 => (reredosref_ShownOf_L4 p0 p1 p2 p3 p4 k77 (p0.Labels.length + 1) (⟨#[]⟩ : ByteArray) 0))))) fun k55 => (if (b31_1 == 0) = true then (if (p4.Kind != 1) = true then (if (p4.Kind != 2) = true then (if (p4.Kind != 4) = true then (k55 3) else (k55 b31_1)) else (k55 b31_1)) else (k55 b31_1)) else (k55 b31_1)))) fun k32 => (reredosref_ShownOf_L2 p3 k32 (p3.length + 1) b16_1 0))) fun k17 => (reredosref_ShownOf_L1 p2 k17 (p2.length + 1) b7_1 0))) fun k8 => (if (b2_1 == 0) = true then (if (((p2.length : Nat) : Int) != ((p0.Labels.length : Nat) : Int)) = true then (k8 9) else (if (((p3.length : Nat) : Int) != ((p0.Labels.length : Nat) : Int)) = true then (k8 9) else (k8 b2_1))) else (k8 b2_1)))) fun k3 => (if (v1 == 0) = true then (Option.bind (reredosref_labelMay p0 p1) fun v5 => (if (!v5) = true then (k3 6) else (k3 v1))) else (k3 v1))))
def F17 : VFn := ⟨267, (.seq (.reg [vo 5 (.box 3 (.t 0)), vo 9 (.boxk 5 (.t 4)), vo 10 (.mv (.c (.one (.d (.s ⟨#[]⟩))))), mi 11 0]) (.seq (.reg [vl 22 3 5, vo 23 (.call 26 [(.t 22)]), vm 12 23]) (.seq (.wk (.seq (.reg [vm 24 12, bk 25 .eql 24 0, vm 26 25, gt 27 26 (.ld true 3 (.t 5)), gt 28 26 (.mv (.t 1)), gt 29 26 (.call 46 [(.t 27), (.t 28)]), gt 30 26 (.un .not (.t 29)), vo 31 (.pick (.t 26) (.t 30) (cb false))]) (.cond (.t 31) (.reg [mi 12 6]) .skip))) (.seq (.wk (.seq (.reg [vm 32 12, bk 33 .eql 32 0, vm 34 33, gt 35 34 (.mv (.t 2)), gt 36 34 (.len (.t 35)), gt 37 34 (.fa 1 (.t 5)), gt 38 34 (.ld false 1 (.t 37)), gt 39 34 (.len (.t 38)), gt 40 34 (.bin .i .neq (.t 36) (.t 39)), gt 41 34 (.mv (.t 40)), gf 42 41 (.mv (.t 3)), gf 43 41 (.len (.t 42)), gf 44 41 (.fa 1 (.t 5)), gf 45 41 (.ld false 1 (.t 44)), gf 46 41 (.len (.t 45)), gf 47 41 (.bin .i .neq (.t 43) (.t 46)), gt 48 34 (.pick (.t 41) (cb true) (.t 47)), vo 49 (.pick (.t 34) (.t 48) (cb false))]) (.cond (.t 49) (.reg [mi 12 9]) .skip))) (.seq (.seq (.reg [mi 13 0]) (.wk (.block 0 (.loop (.seq (.wk (.seq (.reg [vm 50 13, vm 51 2, ln 52 51, bt 53 .lss 50 52, vm 54 53, gt 55 54 (.mv (.t 12)), gt 56 54 (.bin .i .eql (.t 55) (ci 0)), vo 57 (.pick (.t 54) (.t 56) (cb false))]) (.cond (.t 57) .skip (.exit 0)))) (.seq (.block 1 (.seq (.reg [vm 60 2, vm 61 13, xa 62 4 60 61, vl 63 4 62, vo 64 (.call 47 [(.t 63)]), nt 65 64]) (.wk (.cond (.t 65) (.reg [mi 12 9]) .skip)))) (.reg [vm 58 13, bk 59 .add 58 1, vm 13 59]))))))) (.seq (.seq (.reg [mi 14 0]) (.wk (.block 2 (.loop (.seq (.wk (.seq (.reg [vm 66 14, vm 67 3, ln 68 67, bt 69 .lss 66 68, vm 70 69, gt 71 70 (.mv (.t 12)), gt 72 70 (.bin .i .eql (.t 71) (ci 0)), vo 73 (.pick (.t 70) (.t 72) (cb false))]) (.cond (.t 73) .skip (.exit 2)))) (.seq (.block 3 (.seq (.reg [mi 15 0]) (.wk (.block 4 (.loop (.seq (.seq (.reg [vm 76 15, vm 77 3, vm 78 14, xa 79 1 77 78, vs 80 79, ln 81 80, bt 82 .lss 76 81]) (.cond (.t 82) .skip (.exit 4))) (.seq (.block 5 (.seq (.reg [vm 85 3, vm 86 14, xa 87 1 85 86, vs 88 87, vm 89 15, xa 90 4 88 89, vf 91 0 90, vl 92 2 91, vo 93 (.call 48 [(.t 92)]), nt 94 93]) (.wk (.cond (.t 94) (.reg [mi 12 9]) .skip)))) (.reg [vm 83 15, bk 84 .add 83 1, vm 15 84])))))))) (.reg [vm 74 14, bk 75 .add 74 1, vm 14 75]))))))) (.seq (.wk (.seq (.reg [vm 95 12, bk 96 .eql 95 0, vm 97 96, gt 98 97 (.fa 0 (.t 9)), gt 99 97 (.ld false 1 (.t 98)), gt 100 97 (.bin .i .neq (.t 99) (ci 1)), vo 101 (.pick (.t 97) (.t 100) (cb false)), vm 102 101, gt 103 102 (.fa 0 (.t 9)), gt 104 102 (.ld false 1 (.t 103)), gt 105 102 (.bin .i .neq (.t 104) (ci 2)), vo 106 (.pick (.t 102) (.t 105) (cb false)), vm 107 106, gt 108 107 (.fa 0 (.t 9)), gt 109 107 (.ld false 1 (.t 108)), gt 110 107 (.bin .i .neq (.t 109) (ci 4)), vo 111 (.pick (.t 107) (.t 110) (cb false))]) (.cond (.t 111) (.reg [mi 12 3]) .skip))) (.seq (.seq (.reg [vm 112 12, bk 113 .neq 112 0]) (.cond (.t 113) (.seq (.reg [vm 114 12, vo 10 (.mv (.c (.one (.d (.s ⟨#[]⟩))))), vm 11 114]) .ret) .skip)) (.seq (.seq (.reg [vf 115 0 9, vs 116 115, bk 117 .eql 116 2]) (.cond (.t 117) (.seq (.wk (.seq (.draw [vd (vl 118 3 5) 0, vd (vf 119 1 9) 0, vd (vs 120 119) 2, vd (vo 121 (.call 46 [(.t 118), (.t 120)])) 7, vd (vm 122 121) 15, vd (gt 123 122 (.fa 1 (.t 5))) 31, vd (gt 124 122 (.ld false 1 (.t 123))) 63, vd (gt 125 122 (.mv (.t 1))) 31, vd (gt 126 122 (.ia 2 (.t 124) (.t 125))) 255, vd (gt 127 122 (.ld true 2 (.t 126))) 511, vd (gt 128 122 (.fa 1 (.t 5))) 31, vd (gt 129 122 (.ld false 1 (.t 128))) 1055, vd (gt 130 122 (.fa 1 (.t 9))) 31, vd (gt 131 122 (.ld false 1 (.t 130))) 4127, vd (gt 132 122 (.ia 2 (.t 129) (.t 131))) 0x3c1f, vd (gt 133 122 (.ld true 2 (.t 132))) 0x7c1f, vd (gt 134 122 (.call 49 [(.t 127), (.t 133)])) 0xffff, vd (vo 135 (.pick (.t 122) (.t 134) (cb false))) 0x1ffff, vd (vm 136 135) 0x3ffff, vd (gt 137 136 (.mv (.t 2))) 0x7ffff, vd (gt 138 136 (.fa 1 (.t 9))) 0x7ffff, vd (gt 139 136 (.ld false 1 (.t 138))) 0x17ffff, vd (gt 140 136 (.ia 4 (.t 137) (.t 139))) 0x3fffff, vd (gt 141 136 (.ld true 4 (.t 140))) 0x7fffff, vd (gt 142 136 (.fa 2 (.t 9))) 0x7ffff, vd (gt 143 136 (.ld true 2 (.t 142))) 0x107ffff, vd (gt 144 136 (.call 50 [(.t 141), (.t 143)])) 0x3ffffff, vd (vo 145 (.pick (.t 136) (.t 144) (cb false))) 0x7ffffff]) (.cond (.t 145) (.seq (.reg [vo 10 (.mv (.c (.one (.d (.s bs_298e1f25))))), mi 11 0]) .ret) .skip))) (.seq (.reg [vo 10 (.mv (.c (.one (.d (.s bs_d9f7497c))))), mi 11 0]) .ret)) .skip)) (.seq (.reg [vo 16 (.mv (.c (.one (.d (.s ⟨#[]⟩)))))]) (.seq (.seq (.reg [mi 17 0]) (.wk (.block 6 (.loop (.seq (.seq (.reg [vm 146 17, vf 147 1 5, vs 148 147, ln 149 148, bt 150 .lss 146 149]) (.cond (.t 150) .skip (.exit 6))) (.seq (.block 7 (.seq (.seq (.draw [vd (vf 153 1 5) 0, vd (vs 154 153) 1, vd (vm 155 1) 0, vd (xa 156 2 154 155) 7, vd (vl 157 2 156) 15, vd (vf 158 1 5) 0, vd (vs 159 158) 32, vd (vm 160 17) 0, vd (xa 161 2 159 160) 224, vd (vl 162 2 161) 480, vd (vo 163 (.call 49 [(.t 157), (.t 162)])) 1023, vd (nt 164 163) 2047]) (.cond (.t 164) (.exit 7) .skip)) (.seq (.seq (.reg [mi 18 0]) (.wk (.block 8 (.loop (.seq (.wk (.seq (.reg [vm 165 18, vm 166 2, vm 167 17, xa 168 4 166 167, vf 169 2 168, vs 170 169, ln 171 170, bt 172 .lss 165 171, vm 173 172, gt 174 173 (.fa 0 (.t 9)), gt 175 173 (.ld false 1 (.t 174)), gt 176 173 (.bin .i .eql (.t 175) (ci 1)), vo 177 (.pick (.t 173) (.t 176) (cb false))]) (.cond (.t 177) .skip (.exit 8)))) (.seq (.block 9 (.seq (.reg [vm 180 2, vm 181 17, xa 182 4 180 181, vf 183 2 182, vs 184 183, vm 185 18, xa 186 3 184 185, vl 187 3 186, vo 19 (.alloc [(zi 0), (zi 0), (zi 0)]), vu (.st 3 (.t 19) (.t 187))]) (.seq (.draw [vd (vm 188 2) 0, vd (vm 189 17) 0, vd (xa 190 4 188 189) 3, vd (vl 191 4 190) 7, vd (vf 192 0 19) 0, vd (vl 193 2 192) 16, vd (vo 194 (.call 50 [(.t 191), (.t 193)])) 63]) (.wk (.cond (.t 194) (.draw [vd (vm 195 16) 0, vd (vm 196 17) 0, vd (vo 197 (.call 51 [(.t 196)])) 2, vd (vo 198 (.bin .s .add (.t 195) (.t 197))) 7, vd (vo 199 (.bin .s .add (.t 198) (.c (.one (.d (.s bs_7215ee9c)))))) 15, ⟨vf 200 0 19, 0, [2], none, []⟩, ⟨vf 201 0 200, 32, [2], none, []⟩, ⟨vs 202 201, 96, [2], none, []⟩, vd (vo 203 (.call 51 [(.t 202)])) 230, vd (vo 204 (.bin .s .add (.t 199) (.t 203))) 511, vd (vo 205 (.bin .s .add (.t 204) (.c (.one (.d (.s bs_7215ee9c)))))) 1023, ⟨vf 206 0 19, 0, [2, 8], none, []⟩, ⟨vf 207 1 206, 2048, [2, 8], none, []⟩, ⟨vs 208 207, 6144, [2, 8], none, []⟩, vd (vo 209 (.call 51 [(.t 208)])) 0x39e6, vd (vo 210 (.bin .s .add (.t 205) (.t 209))) 0x7fff, vd (vo 211 (.bin .s .add (.t 210) (.c (.one (.d (.s bs_7215ee9c)))))) 0xffff, ⟨vf 212 2 19, 0, [2, 8, 14], none, []⟩, ⟨vs 213 212, 0x20000, [2, 8, 14], none, []⟩, vd (vo 214 (.call 51 [(.t 213)])) 0x679e6, vd (vo 215 (.bin .s .add (.t 211) (.t 214))) 0xfffff, vd (vo 216 (.bin .s .add (.t 215) (.c (.one (.d (.s bs_68b329da)))))) 0x1fffff, vd (vm 16 216) 0x3fffff]) .skip))))) (.reg [vm 178 18, bk 179 .add 178 1, vm 18 179]))))))) (.seq (.reg [mi 20 0]) (.wk (.block 10 (.loop (.seq (.wk (.seq (.reg [vm 217 20, vm 218 3, vm 219 17, xa 220 1 218 219, vs 221 220, ln 222 221, bt 223 .lss 217 222, vm 224 223, gt 225 224 (.fa 0 (.t 9)), gt 226 224 (.ld false 1 (.t 225)), gt 227 224 (.bin .i .eql (.t 226) (ci 4)), vo 228 (.pick (.t 224) (.t 227) (cb false))]) (.cond (.t 228) .skip (.exit 10)))) (.seq (.block 11 (.seq (.reg [vm 231 3, vm 232 17, xa 233 1 231 232, vs 234 233, vm 235 20, xa 236 4 234 235, vl 237 4 236, vo 21 (.alloc [(zi 0), (zi 0), (.d (.b false)), (.d (.b false))]), vu (.st 4 (.t 21) (.t 237))]) (.seq (.draw [vd (vm 238 16) 0, vd (vm 239 17) 0, vd (vo 240 (.call 51 [(.t 239)])) 2, vd (vo 241 (.bin .s .add (.t 238) (.t 240))) 7, vd (vo 242 (.bin .s .add (.t 241) (.c (.one (.d (.s bs_7215ee9c)))))) 15, ⟨vf 243 0 21, 0, [2], none, []⟩, ⟨vf 244 0 243, 32, [2], none, []⟩, ⟨vs 245 244, 96, [2], none, []⟩, vd (vo 246 (.call 51 [(.t 245)])) 230, vd (vo 247 (.bin .s .add (.t 242) (.t 246))) 511, vd (vo 248 (.bin .s .add (.t 247) (.c (.one (.d (.s bs_7215ee9c)))))) 1023, ⟨vf 249 0 21, 0, [2, 8], none, []⟩, ⟨vf 250 1 249, 2048, [2, 8], none, []⟩, ⟨vs 251 250, 6144, [2, 8], none, []⟩, vd (vo 252 (.call 51 [(.t 251)])) 0x39e6, vd (vo 253 (.bin .s .add (.t 248) (.t 252))) 0x7fff, vd (vm 16 253) 0xffff]) (.seq (.seq (.reg [vf 254 2 21, vs 255 254]) (.wk (.cond (.t 255) (.reg [vm 256 16, vo 257 (.bin .s .add (.t 256) (.c (.one (.d (.s bs_4d42290a))))), vm 16 257]) (.reg [vm 258 16, vo 259 (.bin .s .add (.t 258) (.c (.one (.d (.s bs_0fc6f503))))), vm 16 259])))) (.seq (.seq (.reg [vf 260 3 21, vs 261 260]) (.wk (.cond (.t 261) (.reg [vm 262 16, vo 263 (.bin .s .add (.t 262) (.c (.one (.d (.s bs_6d74a691))))), vm 16 263]) .skip))) (.reg [vm 264 16, vo 265 (.bin .s .add (.t 264) (.c (.one (.d (.s bs_68b329da))))), vm 16 265])))))) (.reg [vm 229 20, bk 230 .add 229 1, vm 20 230])))))))))) (.reg [vm 151 17, bk 152 .add 151 1, vm 17 152]))))))) (.seq (.reg [vm 266 16, vm 10 266, mi 11 0]) .ret)))))))))))), [.t 10, .t 11]⟩
theorem low17 : lowF Tryd.prog 17 = some F17.strip := by kernel_rfl
theorem fok17 : fOk Tryd.prog 17 = true := by kernel_rfl
theorem reredosref_ShownOf_ok (p0 : Config) (p1 : Int) (p2 : List Store) (p3 : List (List Note)) (p4 : Command) (r : ByteArray × Int) (h : reredosref_ShownOf p0 p1 p2 p3 p4 = some r) : FnRO Tryd.prog G 17 [.agg p0.bx, .one (.d (.i .i64 p1)), .one (.d (.l 4 (p2.map Store.enc))), .one (.d (.l 1 (p3.map (encL 4 Note.enc)))), .agg p4.bx] (fun rs => rs = [.one (.s r.1), .one (.i .i64 r.2)]) := by
 refine FnRO.of' low17 fok17 (by simp [F17]) ?_
 rw [reredosref_ShownOf] at h
 replace h := Hd.mk h
 simp only [F17, go_sem]
 try simp only [*, go_sem]
 refine cr h (reredosref_ConfigFault_ok G p0) (fun v1 h => ?_)
 try simp only [*, go_sem]
 refine jn1 h (fun b2_1 => [zI 1 p1, zL 2 4 (p2.map Store.enc), zL 3 1 (p3.map (encL 4 Note.enc)), zP 5 0, zK 9 (Command.enc p4), zI 12 b2_1]) (fun b2_1 => [ox p0.bx]) (fun k3 h => ?_) (fun b2_1 h => ?_)
 refine oi h (fun hb4 h => ?_) (fun hb4 h => ?_)
 try simp only [*, go_sem]
 refine cr h (reredosref_labelMay_ok G p0 p1) (fun v5 h => ?_)
 refine oin h (fun hb6 hkhb6 h => ?_) (fun hb6 hkhb6 h => ?_)
 try simp only [*, go_sem]
 exact jc (6) h.e [some 0]
 try simp only [*, go_sem]
 exact jc (v1) h.e [some 0]
 try simp only [*, go_sem]
 exact jc (v1) h.e [some 0]
 try simp only [*, go_sem]
 refine jn1 h (fun b7_1 => [zI 1 p1, zL 2 4 (p2.map Store.enc), zL 3 1 (p3.map (encL 4 Note.enc)), zP 5 0, zK 9 (Command.enc p4), zI 12 b7_1]) (fun b7_1 => [ox p0.bx]) (fun k8 h => ?_) (fun b7_1 h => ?_)
 refine oi h (fun hb9 h => ?_) (fun hb9 h => ?_)
 try simp only [*, go_sem]
 intro hl10
 try simp only [*, go_sem]
 intro hl11
 refine oi h (fun hb12 h => ?_) (fun hb12 h => ?_)
 try simp only [*, go_sem]
 exact jc (9) h.e [some 0]
 try simp only [*, go_sem]
 intro hl13
 try simp only [*, go_sem]
 intro hl14
 refine oi h (fun hb15 h => ?_) (fun hb15 h => ?_)
 try simp only [*, go_sem]
 exact jc (9) h.e [some 0]
 try simp only [*, go_sem]
 exact jc (b2_1) h.e [some 0]
 try simp only [*, go_sem]
 exact jc (b2_1) h.e [some 0]
 try simp only [*, go_sem]
 refine jn1 h (fun b16_1 => [zI 1 p1, zL 2 4 (p2.map Store.enc), zL 3 1 (p3.map (encL 4 Note.enc)), zP 5 0, zK 9 (Command.enc p4), zI 12 b16_1]) (fun b16_1 => [ox p0.bx]) (fun k17 h => ?_) (fun b16_1 h => ?_)
 try simp only [*, go_sem]
 refine lp2 (reredosref_ShownOf_L1 p2 k17) (fun a18_1 a18_2 => [zI 1 p1, zL 2 4 (p2.map Store.enc), zL 3 1 (p3.map (encL 4 Note.enc)), zP 5 0, zK 9 (Command.enc p4), zI 12 a18_1, zI 13 a18_2]) (fun a18_1 a18_2 => [ox p0.bx]) h [] [some 0] (fun n19 a18_1 a18_2 h => ?_) (by intros; rw [reredosref_ShownOf_L1])
 rw [reredosref_ShownOf_L1] at h
 try simp only [*, go_sem]
 refine jn0 h ([zI 1 p1, zL 2 4 (p2.map Store.enc), zL 3 1 (p3.map (encL 4 Note.enc)), zP 5 0, zK 9 (Command.enc p4), zI 12 a18_1, zI 13 a18_2, zI 55 a18_1, zB 56 true]) ([ox p0.bx]) (fun k21 h => ?_) (fun h => ?_)
 try simp only [*, go_sem]
 intro hl22
 refine oi h (fun hb23 h => ?_) (fun hb23 h => ?_)
 refine oi h (fun hb24 h => ?_) (fun hb24 h => ?_)
 try simp only [*, go_sem]
 exact jc () h.e [some 0]
 try simp only [*, go_sem]
 exact jc (a18_1) h.e [some 0]
 try simp only [*, go_sem]
 exact jc (a18_1) h.e [some 0]
 refine obn h (fun x25 _ _ _ _ h => ?_)
 try simp only [*, go_sem]
 refine cr h (reredosref_StoreMay_ok G x25) (fun v27 h => ?_)
 try simp only [*, go_sem]
 refine jn1 h (fun b28_1 => [zI 1 p1, zL 2 4 (p2.map Store.enc), zL 3 1 (p3.map (encL 4 Note.enc)), zP 5 0, zK 9 (Command.enc p4), zI 12 b28_1, zI 13 a18_2, zI 55 a18_1, zB 56 true]) (fun b28_1 => [ox p0.bx]) (fun k29 h => ?_) (fun b28_1 h => ?_)
 refine oin h (fun hb30 hkhb30 h => ?_) (fun hb30 hkhb30 h => ?_)
 try simp only [*, go_sem]
 exact jc (9) h.e [some 0]
 try simp only [*, go_sem]
 exact jc (a18_1) h.e [some 0]
 try simp only [*, go_sem]
 exact lc (b28_1, IntKind.i64.wrap (a18_2 + 1)) h.e [some 0]
 try simp only [*, go_sem]
 refine jn1 h (fun b31_1 => [zI 1 p1, zL 2 4 (p2.map Store.enc), zL 3 1 (p3.map (encL 4 Note.enc)), zP 5 0, zK 9 (Command.enc p4), zI 12 b31_1]) (fun b31_1 => [ox p0.bx]) (fun k32 h => ?_) (fun b31_1 h => ?_)
 try simp only [*, go_sem]
 refine lp2 (reredosref_ShownOf_L2 p3 k32) (fun a33_1 a33_2 => [zI 1 p1, zL 2 4 (p2.map Store.enc), zL 3 1 (p3.map (encL 4 Note.enc)), zP 5 0, zK 9 (Command.enc p4), zI 12 a33_1, zI 14 a33_2]) (fun a33_1 a33_2 => [ox p0.bx]) h [] [some 0] (fun n34 a33_1 a33_2 h => ?_) (by intros; rw [reredosref_ShownOf_L2])
 rw [reredosref_ShownOf_L2] at h
 try simp only [*, go_sem]
 refine jn0 h ([zI 1 p1, zL 2 4 (p2.map Store.enc), zL 3 1 (p3.map (encL 4 Note.enc)), zP 5 0, zK 9 (Command.enc p4), zI 12 a33_1, zI 14 a33_2, zI 71 a33_1, zB 72 true]) ([ox p0.bx]) (fun k36 h => ?_) (fun h => ?_)
 try simp only [*, go_sem]
 intro hl37
 refine oi h (fun hb38 h => ?_) (fun hb38 h => ?_)
 refine oi h (fun hb39 h => ?_) (fun hb39 h => ?_)
 try simp only [*, go_sem]
 exact jc () h.e [some 0]
 try simp only [*, go_sem]
 exact jc (a33_1) h.e [some 0]
 try simp only [*, go_sem]
 exact jc (a33_1) h.e [some 0]
 try simp only [*, go_sem]
 refine jn1 h (fun b40_1 => [zI 1 p1, zL 2 4 (p2.map Store.enc), zL 3 1 (p3.map (encL 4 Note.enc)), zP 5 0, zK 9 (Command.enc p4), zI 12 b40_1, zI 14 a33_2, zI 71 a33_1, zB 72 true]) (fun b40_1 => [ox p0.bx]) (fun k41 h => ?_) (fun b40_1 h => ?_)
 try simp only [*, go_sem]
 refine lp2 (reredosref_ShownOf_L3 p3 a33_2 k41) (fun a42_1 a42_2 => [zI 1 p1, zL 2 4 (p2.map Store.enc), zL 3 1 (p3.map (encL 4 Note.enc)), zP 5 0, zK 9 (Command.enc p4), zI 12 a42_1, zI 14 a33_2, zI 15 ((a42_2 : Nat) : Int), zI 71 a33_1, zB 72 true]) (fun a42_1 a42_2 => [ox p0.bx]) h [] [some 0] (fun n43 a42_1 a42_2 h => ?_) (by intros; rw [reredosref_ShownOf_L3])
 rw [reredosref_ShownOf_L3] at h
 refine obn h (fun x44 _ _ _ _ h => ?_)
 try simp only [*, go_sem]
 intro hl46
 refine oi h (fun hb47 h => ?_) (fun hb47 h => ?_)
 have := of_decide_eq_true hb47
 refine obg h (fun x48 _ hkx48 h => ?_)
 try simp only [*, go_sem]
 refine cr h (reredosref_plainTxn_ok G x48.Txn) (fun v49 h => ?_)
 try simp only [*, go_sem]
 refine jn1 h (fun b50_1 => [zI 1 p1, zL 2 4 (p2.map Store.enc), zL 3 1 (p3.map (encL 4 Note.enc)), zP 5 0, zK 9 (Command.enc p4), zI 12 b50_1, zI 14 a33_2, zI 15 ((a42_2 : Nat) : Int), zI 71 a33_1, zB 72 true]) (fun b50_1 => [ox p0.bx]) (fun k51 h => ?_) (fun b50_1 h => ?_)
 refine oin h (fun hb52 hkhb52 h => ?_) (fun hb52 hkhb52 h => ?_)
 try simp only [*, go_sem]
 exact jc (9) h.e [some 0]
 try simp only [*, go_sem]
 exact jc (a42_1) h.e [some 0]
 have := wrap_succ_max hkx48 hl46
 try simp only [*, go_sem]
 exact lc (b50_1, a42_2 + 1) h.e [some 0]
 try simp only [*, go_sem]
 exact jc (a42_1) h.e [some 0]
 try simp only [*, go_sem]
 exact lc (b40_1, IntKind.i64.wrap (a33_2 + 1)) h.e [some 0]
 try simp only [*, go_sem]
 refine jn1 h (fun b54_1 => [zI 1 p1, zL 2 4 (p2.map Store.enc), zL 3 1 (p3.map (encL 4 Note.enc)), zP 5 0, zK 9 (Command.enc p4), zI 12 b54_1]) (fun b54_1 => [ox p0.bx]) (fun k55 h => ?_) (fun b54_1 h => ?_)
 refine oi h (fun hb56 h => ?_) (fun hb56 h => ?_)
 refine oi h (fun hb57 h => ?_) (fun hb57 h => ?_)
 refine oi h (fun hb58 h => ?_) (fun hb58 h => ?_)
 refine oi h (fun hb59 h => ?_) (fun hb59 h => ?_)
 try simp only [*, go_sem]
 exact jc (3) h.e [some 0]
 try simp only [*, go_sem]
 exact jc (b31_1) h.e [some 0]
 try simp only [*, go_sem]
 exact jc (b31_1) h.e [some 0]
 try simp only [*, go_sem]
 exact jc (b31_1) h.e [some 0]
 try simp only [*, go_sem]
 exact jc (b31_1) h.e [some 0]
 refine oi h (fun hb60 h => ?_) (fun hb60 h => ?_)
 cases h.e
 simp only [*, go_sem, mA, mS]
 refine oi h (fun hb61 h => ?_) (fun hb61 h => ?_)
 try simp only [*, go_sem]
 refine jn0 h ([]) ([]) (fun k63 h => ?_) (fun h => ?_)
 refine obk h (fun v64 hv64 h => ?_)
 try simp only [*, go_sem]
 refine cd (reredosref_labelMay_ok G p0 p4.Label v64 hv64) ?_
 refine oi h (fun hb65 h => ?_) (fun hb65 h => ?_)
 refine obn h (fun x66 _ _ _ _ h => ?_)
 refine obn h (fun x68 _ _ _ _ h => ?_)
 refine obk h (fun v70 hv70 h => ?_)
 try simp only [*, go_sem]
 refine cd (reredosref_Dominates_ok G x66 x68 v70 hv70) ?_
 refine oi h (fun hb71 h => ?_) (fun hb71 h => ?_)
 refine obn h (fun x72 _ _ _ _ h => ?_)
 refine obk h (fun v74 hv74 h => ?_)
 try simp only [*, go_sem]
 refine cd (reredosref_preparedAt_ok G x72 p4.Txn v74 hv74) ?_
 refine oi h (fun hb75 h => ?_) (fun hb75 h => ?_)
 cases h.e
 simp only [*, go_sem, mA, mS]
 try simp only [*, go_sem]
 exact jc () h.e []
 try simp only [*, go_sem]
 exact jc () h.e []
 try simp only [*, go_sem]
 exact jc () h.e []
 cases h.e
 simp only [*, go_sem, mA, mS]
 try simp only [*, go_sem]
 refine jn1 h (fun b76_1 => [(16, .one (.d (.s b76_1)))]) (fun b76_1 => []) (fun k77 h => ?_) (fun b76_1 h => ?_)
 try simp only [*, go_sem]
 refine lp2 (reredosref_ShownOf_L4 p0 p1 p2 p3 p4 k77) (fun a78_1 a78_2 => [zI 1 p1, zL 2 4 (p2.map Store.enc), zL 3 1 (p3.map (encL 4 Note.enc)), zP 5 0, zK 9 (Command.enc p4), (16, .one (.d (.s a78_1))), zI 17 ((a78_2 : Nat) : Int)]) (fun a78_1 a78_2 => [ox p0.bx]) h [] [some 0] (fun n79 a78_1 a78_2 h => ?_) (by intros; rw [reredosref_ShownOf_L4])
 rw [reredosref_ShownOf_L4] at h
 try simp only [*, go_sem]
 intro hl80
 refine oi h (fun hb81 h => ?_) (fun hb81 h => ?_)
 have := of_decide_eq_true hb81
 refine obn h (fun x82 _ _ _ _ h => ?_)
 refine obg h (fun x84 _ hkx84 h => ?_)
 refine obk h (fun v85 hv85 h => ?_)
 try simp only [*, go_sem]
 refine cd (reredosref_Dominates_ok G x82 x84 v85 hv85) ?_
 refine oin h (fun hb86 hkhb86 h => ?_) (fun hb86 hkhb86 h => ?_)
 have := wrap_succ_max hkx84 hl80
 try simp only [*, go_sem]
 exact lc (a78_1, a78_2 + 1) h.e [some 0]
 try simp only [*, go_sem]
 refine jn1 h (fun b88_1 => [zI 1 p1, zL 2 4 (p2.map Store.enc), zL 3 1 (p3.map (encL 4 Note.enc)), zP 5 0, zK 9 (Command.enc p4), (16, .one (.d (.s b88_1))), zI 17 ((a78_2 : Nat) : Int)]) (fun b88_1 => [ox p0.bx]) (fun k89 h => ?_) (fun b88_1 h => ?_)
 try simp only [*, go_sem]
 refine lp2 (reredosref_ShownOf_L5 p2 p4 a78_2 k89) (fun a90_1 a90_2 => [zI 1 p1, zL 2 4 (p2.map Store.enc), zL 3 1 (p3.map (encL 4 Note.enc)), zP 5 0, zK 9 (Command.enc p4), (16, .one (.d (.s a90_1))), zI 17 ((a78_2 : Nat) : Int), zI 18 a90_2]) (fun a90_1 a90_2 => [ox p0.bx]) h [] [some 0] (fun n91 a90_1 a90_2 h => ?_) (by intros; rw [reredosref_ShownOf_L5])
 rw [reredosref_ShownOf_L5] at h
 try simp only [*, go_sem]
 refine jn0 h ([zI 1 p1, zL 2 4 (p2.map Store.enc), zL 3 1 (p3.map (encL 4 Note.enc)), zP 5 0, zK 9 (Command.enc p4), (16, .one (.d (.s a90_1))), zI 17 ((a78_2 : Nat) : Int), zI 18 a90_2, (174, .one (.p (.l 5 [(Command.enc p4)] 0 0))), zI 175 p4.Kind, zB 176 true]) ([ox p0.bx]) (fun k93 h => ?_) (fun h => ?_)
 refine obg h (fun x94 _ _ h => ?_)
 try simp only [*, go_sem]
 intro hl95
 refine oi h (fun hb96 h => ?_) (fun hb96 h => ?_)
 refine oi h (fun hb97 h => ?_) (fun hb97 h => ?_)
 try simp only [*, go_sem]
 exact jc () h.e [some 0]
 try simp only [*, go_sem]
 exact jc (a90_1) h.e [some 0]
 try simp only [*, go_sem]
 exact jc (a90_1) h.e [some 0]
 refine obg h (fun x98 _ _ h => ?_)
 refine obn h (fun x99 _ _ _ _ h => ?_)
 refine obk h (fun v101 hv101 h => ?_)
 try simp only [*, go_sem]
 refine cd (reredosref_preparedAt_ok G x98 x99.Txn v101 hv101) ?_
 try simp only [*, go_sem]
 refine jn1 h (fun b102_1 => [zI 1 p1, zL 2 4 (p2.map Store.enc), zL 3 1 (p3.map (encL 4 Note.enc)), zP 5 0, zK 9 (Command.enc p4), (16, .one (.d (.s b102_1))), zI 17 ((a78_2 : Nat) : Int), zI 18 a90_2, (174, .one (.p (.l 5 [(Command.enc p4)] 0 0))), zI 175 p4.Kind, zB 176 true]) (fun b102_1 => [ox p0.bx]) (fun k103 h => ?_) (fun b102_1 h => ?_)
 refine oi h (fun hb104 h => ?_) (fun hb104 h => ?_)
 refine obk h (fun v105 hv105 h => ?_)
 try simp only [*, go_sem]
 refine cd (reredosref_Dec_ok G ((a78_2 : Nat) : Int) v105 hv105) ?_
 refine ck h (fun _ h => ?_)
 refine ck h (fun _ h => ?_)
 refine obk h (fun v108 hv108 h => ?_)
 try simp only [*, go_sem]
 refine cd (reredosref_Dec_ok G x99.Txn.Site v108 hv108) ?_
 refine ck h (fun _ h => ?_)
 refine ck h (fun _ h => ?_)
 refine obk h (fun v111 hv111 h => ?_)
 try simp only [*, go_sem]
 refine cd (reredosref_Dec_ok G x99.Txn.N v111 hv111) ?_
 refine ck h (fun _ h => ?_)
 refine ck h (fun _ h => ?_)
 refine obk h (fun v114 hv114 h => ?_)
 try simp only [*, go_sem]
 refine cd (reredosref_Dec_ok G x99.Age v114 hv114) ?_
 refine ck h (fun _ h => ?_)
 refine ck h (fun _ h => ?_)
 try simp only [*, go_sem]
 exact jc (((((((((a90_1 ++ v105) ++ bs_7215ee9c) ++ v108) ++ bs_7215ee9c) ++ v111) ++ bs_7215ee9c) ++ v114) ++ bs_68b329da)) h.e [some 0]
 try simp only [*, go_sem]
 exact jc (a90_1) h.e [some 0]
 try simp only [*, go_sem]
 exact lc (b102_1, IntKind.i64.wrap (a90_2 + 1)) h.e [some 0]
 try simp only [*, go_sem]
 refine jn1 h (fun b117_1 => [zI 1 p1, zL 2 4 (p2.map Store.enc), zL 3 1 (p3.map (encL 4 Note.enc)), zP 5 0, zK 9 (Command.enc p4), (16, .one (.d (.s b117_1))), zI 17 ((a78_2 : Nat) : Int)]) (fun b117_1 => [ox p0.bx]) (fun k118 h => ?_) (fun b117_1 h => ?_)
 try simp only [*, go_sem]
 refine lp2 (reredosref_ShownOf_L6 p3 p4 a78_2 k118) (fun a119_1 a119_2 => [zI 1 p1, zL 2 4 (p2.map Store.enc), zL 3 1 (p3.map (encL 4 Note.enc)), zP 5 0, zK 9 (Command.enc p4), (16, .one (.d (.s a119_1))), zI 17 ((a78_2 : Nat) : Int), zI 20 a119_2]) (fun a119_1 a119_2 => [ox p0.bx]) h [] [some 0] (fun n120 a119_1 a119_2 h => ?_) (by intros; rw [reredosref_ShownOf_L6])
 rw [reredosref_ShownOf_L6] at h
 try simp only [*, go_sem]
 refine jn0 h ([zI 1 p1, zL 2 4 (p2.map Store.enc), zL 3 1 (p3.map (encL 4 Note.enc)), zP 5 0, zK 9 (Command.enc p4), (16, .one (.d (.s a119_1))), zI 17 ((a78_2 : Nat) : Int), zI 20 a119_2, (225, .one (.p (.l 5 [(Command.enc p4)] 0 0))), zI 226 p4.Kind, zB 227 true]) ([ox p0.bx]) (fun k122 h => ?_) (fun h => ?_)
 refine obg h (fun x123 _ _ h => ?_)
 try simp only [*, go_sem]
 intro hl124
 refine oi h (fun hb125 h => ?_) (fun hb125 h => ?_)
 refine oi h (fun hb126 h => ?_) (fun hb126 h => ?_)
 try simp only [*, go_sem]
 exact jc () h.e [some 0]
 try simp only [*, go_sem]
 exact jc (a119_1) h.e [some 0]
 try simp only [*, go_sem]
 exact jc (a119_1) h.e [some 0]
 refine obg h (fun x127 _ _ h => ?_)
 refine obn h (fun x128 _ _ _ _ h => ?_)
 refine obk h (fun v130 hv130 h => ?_)
 try simp only [*, go_sem]
 refine cd (reredosref_Dec_ok G ((a78_2 : Nat) : Int) v130 hv130) ?_
 refine ck h (fun _ h => ?_)
 refine ck h (fun _ h => ?_)
 refine obk h (fun v133 hv133 h => ?_)
 try simp only [*, go_sem]
 refine cd (reredosref_Dec_ok G x128.Txn.Site v133 hv133) ?_
 refine ck h (fun _ h => ?_)
 refine ck h (fun _ h => ?_)
 refine obk h (fun v136 hv136 h => ?_)
 try simp only [*, go_sem]
 refine cd (reredosref_Dec_ok G x128.Txn.N v136 hv136) ?_
 refine ck h (fun _ h => ?_)
 try simp only [*, go_sem]
 refine jn1 h (fun b138_1 => [zI 1 p1, zL 2 4 (p2.map Store.enc), zL 3 1 (p3.map (encL 4 Note.enc)), zP 5 0, zK 9 (Command.enc p4), (16, .one (.d (.s b138_1))), zI 17 ((a78_2 : Nat) : Int), zI 20 a119_2, zP 21 1, (225, .one (.p (.l 5 [(Command.enc p4)] 0 0))), zI 226 p4.Kind, zB 227 true]) (fun b138_1 => [ox p0.bx, ox x128.bx]) (fun k139 h => ?_) (fun b138_1 h => ?_)
 refine oi h (fun hb140 h => ?_) (fun hb140 h => ?_)
 refine ck h (fun _ h => ?_)
 try simp only [*, go_sem]
 exact jc (((((((a119_1 ++ v130) ++ bs_7215ee9c) ++ v133) ++ bs_7215ee9c) ++ v136) ++ bs_4d42290a)) h.e [some 0, some 1]
 refine ck h (fun _ h => ?_)
 try simp only [*, go_sem]
 exact jc (((((((a119_1 ++ v130) ++ bs_7215ee9c) ++ v133) ++ bs_7215ee9c) ++ v136) ++ bs_0fc6f503)) h.e [some 0, some 1]
 try simp only [*, go_sem]
 refine jn1 h (fun b143_1 => [zI 1 p1, zL 2 4 (p2.map Store.enc), zL 3 1 (p3.map (encL 4 Note.enc)), zP 5 0, zK 9 (Command.enc p4), (16, .one (.d (.s b143_1))), zI 17 ((a78_2 : Nat) : Int), zI 20 a119_2, (225, .one (.p (.l 5 [(Command.enc p4)] 0 0))), zI 226 p4.Kind, zB 227 true]) (fun b143_1 => [ox p0.bx]) (fun k144 h => ?_) (fun b143_1 h => ?_)
 refine oi h (fun hb145 h => ?_) (fun hb145 h => ?_)
 refine ck h (fun _ h => ?_)
 try simp only [*, go_sem]
 exact jc ((b138_1 ++ bs_6d74a691)) h.e [some 0]
 try simp only [*, go_sem]
 exact jc (b138_1) h.e [some 0]
 refine ck h (fun _ h => ?_)
 try simp only [*, go_sem]
 exact lc ((b143_1 ++ bs_68b329da), IntKind.i64.wrap (a119_2 + 1)) h.e [some 0]
 have := wrap_succ_max hkx84 hl80
 try simp only [*, go_sem]
 exact lc (b117_1, a78_2 + 1) h.e [some 0]
 try simp only [*, go_sem]
 exact jc (a78_1) h.e []
 cases h.e
 simp only [*, go_sem, mA, mS]
def reredoslaw_ConsoleShows (p0 : Config) (p1 : Int) (p2 : List Store) (p3 : List (List Note)) (p4 : Command) : Option (Bool) := (if fits 96 p2.length then (if fits 24 p3.length then (Option.bind (console_Show p0 p1 p2 p3 p4) fun v3 => (Option.bind (reredosref_ShownOf p0 p1 p2 p3 p4) fun v4 => (withK (fun (b5_1 : Bool) => (some b5_1)) fun k6 => (if (v3.1.toList == v4.1.toList) = true then (k6 (v3.2 == v4.2)) else (k6 false))))) else none) else none)
def F6 : VFn := ⟨43, (.seq (.reg [vo 5 (.box 3 (.t 0)), vo 9 (.boxk 5 (.t 4)), vo 10 (.mv (cb false))]) (.seq (.draw [vd (vl 16 3 5) 0, vd (vm 17 1) 0, vd (vm 18 2) 0, vd (vo 19 (.appf 4 96 4 (.t 18))) 4, ⟨vm 20 3, 0, [3], none, []⟩, vd (vo 21 (.appf 1 24 1 (.t 20))) 28, ⟨vl 22 5 9, 0, [3, 5], none, []⟩, vd (vo 23 (.call 16 [(.t 16), (.t 17), (.t 19), (.t 21), (.t 22)])) 127, vd (vm 15 23) 255, vd (et 24 15 0) 511, vd (et 25 15 1) 511, vd (vm 11 24) 1023, vd (vm 12 25) 4095]) (.seq (.reg [vl 27 3 5, vm 28 1, vm 29 2, vm 30 3, vl 31 5 9, vo 32 (.call 17 [(.t 27), (.t 28), (.t 29), (.t 30), (.t 31)]), vm 26 32, et 33 26 0, et 34 26 1, vm 13 33, vm 14 34]) (.seq (.wk (.reg [vm 35 11, vm 36 13, vo 37 (.bin .s .eql (.t 35) (.t 36)), vm 38 37, gt 39 38 (.mv (.t 12)), gt 40 38 (.mv (.t 14)), gt 41 38 (.bin .i .eql (.t 39) (.t 40)), vo 42 (.pick (.t 38) (.t 41) (cb false)), vm 10 42])) .ret)))), [.t 10]⟩
theorem low6 : lowF Tryd.prog 6 = some F6.strip := by kernel_rfl
theorem fok6 : fOk Tryd.prog 6 = true := by kernel_rfl
theorem reredoslaw_ConsoleShows_ok (htab_strconv_uint64pow10 : constG G 3 = .one (.d (.k tab_strconv_uint64pow10D))) (p0 : Config) (p1 : Int) (p2 : List Store) (p3 : List (List Note)) (p4 : Command) (r : Bool) (h : reredoslaw_ConsoleShows p0 p1 p2 p3 p4 = some r) : FnRO Tryd.prog G 6 [.agg p0.bx, .one (.d (.i .i64 p1)), .one (.d (.l 4 (p2.map Store.enc))), .one (.d (.l 1 (p3.map (encL 4 Note.enc)))), .agg p4.bx] (fun rs => rs = [.one (.b r)]) := by
 refine FnRO.of' low6 fok6 (by simp [F6]) ?_
 rw [reredoslaw_ConsoleShows] at h
 replace h := Hd.mk h
 simp only [F6, go_sem]
 refine ck h (fun _ h => ?_)
 refine ck h (fun _ h => ?_)
 refine obk h (fun v3 hv3 h => ?_)
 try simp only [*, go_sem]
 refine cd (console_Show_ok G htab_strconv_uint64pow10 p0 p1 p2 p3 p4 v3 hv3) ?_
 try simp only [*, go_sem]
 refine cr h (reredosref_ShownOf_ok G p0 p1 p2 p3 p4) (fun v4 h => ?_)
 try simp only [*, go_sem]
 refine jn1 h (fun b5_1 => [zB 10 b5_1]) (fun b5_1 => []) (fun k6 h => ?_) (fun b5_1 h => ?_)
 refine oi h (fun hb7 h => ?_) (fun hb7 h => ?_)
 try simp only [*, go_sem]
 exact jc (v3.2 == v4.2) h.e []
 try simp only [*, go_sem]
 exact jc (false) h.e []
 cases h.e
 simp only [*, go_sem, mA, mS]
end Go.V.Dec
