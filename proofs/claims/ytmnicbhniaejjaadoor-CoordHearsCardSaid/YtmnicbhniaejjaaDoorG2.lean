/- What Go's functions come to, as plain functions: part 2; no condition. -/
import Derived.Test.YtmnicbhniaejjaaDoorG1
set_option linter.unusedVariables false
set_option linter.unusedSimpArgs false
namespace Go.V.Dec
open Go Go.Proofs
set_option maxRecDepth 100000
set_option maxHeartbeats 4000000
variable (G : Nat → Option (List D))
def coord_work_answered (p0 : CoordWork) (p1 : Int) (p2 : Message) (p3 : Bool) : Option (CoordWork) := (if 0 ≤ p1 then (Option.bind (p0.turn.Desk.Jobs[p1.toNat]?) fun x1 => (if (decide (IntKind.i64.wrap (((x1.Tasks.length : Nat) : Int) - 1) < 0)) = true then (some (CoordWork.mk p0.c p0.l p0.me (Turn.mk (Desk.mk p0.turn.Desk.Next (p0.turn.Desk.Jobs.set p1.toNat x1)) p0.turn.Messages p0.turn.Records p0.turn.Replies p0.turn.Sure p0.turn.Committed))) else (if 0 ≤ IntKind.i64.wrap (((x1.Tasks.length : Nat) : Int) - 1) then (Option.bind (x1.Tasks[(IntKind.i64.wrap (((x1.Tasks.length : Nat) : Int) - 1)).toNat]?) fun x5 => (withK (withK (fun (b21_1 : Nat) => (if fits 48 (p0.turn.Replies.length + 1) then (withK (withK (fun (b34_1 : List Job) => (some (CoordWork.mk p0.c p0.l p0.me (Turn.mk (Desk.mk p0.turn.Desk.Next b34_1) p0.turn.Messages p0.turn.Records (p0.turn.Replies ++ [(Reply.mk p0.me ((b21_1 : Nat) : Int) x1.N p2.Key p2.Value p2.Code)]) p0.turn.Sure p0.turn.Committed)))) fun k35 => (if (!p3) = true then (k35 (p0.turn.Desk.Jobs.set p1.toNat (Job.mk x1.N x1.State (x1.Tasks.set ((IntKind.i64.wrap (((x1.Tasks.length : Nat) : Int) - 1)).toNat) (Task.mk x5.Write x5.Label x5.Key p2.Value p2.Version x5.Ask true x5.Sure)) x1.Asked x1.Asks 0))) else (k35 (p0.turn.Desk.Jobs.set p1.toNat (Job.mk x1.N x1.State (x1.Tasks.set ((IntKind.i64.wrap (((x1.Tasks.length : Nat) : Int) - 1)).toNat) (Task.mk x5.Write x5.Label x5.Key x5.Value x5.Version x5.Ask true x5.Sure)) x1.Asked x1.Asks 0))))) fun k26 => (if (p2.Code != 0) = true then (if p3 = true then (Option.bind (coord_work_end (CoordWork.mk p0.c p0.l p0.me (Turn.mk (Desk.mk p0.turn.Desk.Next (p0.turn.Desk.Jobs.set p1.toNat (Job.mk x1.N x1.State x1.Tasks x1.Asked x1.Asks 0))) p0.turn.Messages p0.turn.Records (p0.turn.Replies ++ [(Reply.mk p0.me ((b21_1 : Nat) : Int) x1.N p2.Key p2.Value p2.Code)]) p0.turn.Sure p0.turn.Committed)) p1) fun v29 => (some v29)) else (if 0 ≤ IntKind.i64.wrap (((x1.Tasks.length : Nat) : Int) - 1) then (if IntKind.i64.wrap (((x1.Tasks.length : Nat) : Int) - 1) ≤ ((x1.Tasks.length : Nat) : Int) then (some (CoordWork.mk p0.c p0.l p0.me (Turn.mk (Desk.mk p0.turn.Desk.Next (p0.turn.Desk.Jobs.set p1.toNat (Job.mk x1.N x1.State (x1.Tasks.take ((IntKind.i64.wrap (((x1.Tasks.length : Nat) : Int) - 1)).toNat)) x1.Asked x1.Asks 0))) p0.turn.Messages p0.turn.Records (p0.turn.Replies ++ [(Reply.mk p0.me ((b21_1 : Nat) : Int) x1.N p2.Key p2.Value p2.Code)]) p0.turn.Sure p0.turn.Committed))) else none) else none)) else k26)) else none)) fun k22 => (if p3 = true then (k22 3) else (k22 2))) fun k8 => (if x5.Done = true then (some (CoordWork.mk p0.c p0.l p0.me (Turn.mk (Desk.mk p0.turn.Desk.Next (p0.turn.Desk.Jobs.set p1.toNat x1)) p0.turn.Messages p0.turn.Records p0.turn.Replies p0.turn.Sure p0.turn.Committed))) else (if (x5.Ask != p2.Ask) = true then (some (CoordWork.mk p0.c p0.l p0.me (Turn.mk (Desk.mk p0.turn.Desk.Next (p0.turn.Desk.Jobs.set p1.toNat x1)) p0.turn.Messages p0.turn.Records p0.turn.Replies p0.turn.Sure p0.turn.Committed))) else (if (!(x5.Write == p3)) = true then (some (CoordWork.mk p0.c p0.l p0.me (Turn.mk (Desk.mk p0.turn.Desk.Next (p0.turn.Desk.Jobs.set p1.toNat x1)) p0.turn.Messages p0.turn.Records p0.turn.Replies p0.turn.Sure p0.turn.Committed))) else (if (x5.Key != p2.Key) = true then (some (CoordWork.mk p0.c p0.l p0.me (Turn.mk (Desk.mk p0.turn.Desk.Next (p0.turn.Desk.Jobs.set p1.toNat x1)) p0.turn.Messages p0.turn.Records p0.turn.Replies p0.turn.Sure p0.turn.Committed))) else (if (!p3) = true then (if (x5.Label != p2.Label) = true then (some (CoordWork.mk p0.c p0.l p0.me (Turn.mk (Desk.mk p0.turn.Desk.Next (p0.turn.Desk.Jobs.set p1.toNat x1)) p0.turn.Messages p0.turn.Records p0.turn.Replies p0.turn.Sure p0.turn.Committed))) else (if p0.c.Sites = 0 then none else (if (p2.From != x5.Key.tmod p0.c.Sites) = true then (some (CoordWork.mk p0.c p0.l p0.me (Turn.mk (Desk.mk p0.turn.Desk.Next (p0.turn.Desk.Jobs.set p1.toNat x1)) p0.turn.Messages p0.turn.Records p0.turn.Replies p0.turn.Sure p0.turn.Committed))) else k8))) else (if p0.c.Sites = 0 then none else (if (p2.From != x5.Key.tmod p0.c.Sites) = true then (some (CoordWork.mk p0.c p0.l p0.me (Turn.mk (Desk.mk p0.turn.Desk.Next (p0.turn.Desk.Jobs.set p1.toNat x1)) p0.turn.Messages p0.turn.Records p0.turn.Replies p0.turn.Sure p0.turn.Committed))) else k8))))))))) else none))) else none)
def F49 : VFn := ⟨147, (.seq (.reg [vo 6 (.boxk 12 (.t 2))]) (.seq (.reg [vm 12 0, vo 13 (.nilchk (.t 12)), vf 14 5 13, vf 15 0 14, vf 16 1 15, vs 17 16, vm 18 1, xa 19 6 17 18, vm 8 19]) (.seq (.gho (.reg [vm 20 8, vo 21 (.nilchk (.t 20)), vf 22 2 21, vs 23 22, ln 24 23, bk 25 .sub 24 1, vm 9 25])) (.seq (.seq (.reg [vm 26 9, bk 27 .lss 26 0]) (.cond (.t 27) (.gho .ret) .skip)) (.seq (.reg [vm 28 8, vo 29 (.nilchk (.t 28)), vf 30 2 29, vs 31 30, vm 32 9, xa 33 8 31 32, vm 10 33]) (.seq (.wk (.seq (.draw [vd (vm 34 10) 0, vd (vo 35 (.nilchk (.t 34))) 1, vd (vf 36 6 35) 3, vd (vs 37 36) 7, vd (vm 38 37) 15, vd (gf 39 38 (.mv (.t 10))) 31, vd (gf 40 38 (.nilchk (.t 39))) 63, vd (gf 41 38 (.fa 5 (.t 40))) 127, vd (gf 42 38 (.ld false 1 (.t 41))) 255, vd (gf 43 38 (.fa 9 (.t 6))) 31, vd (gf 44 38 (.ld false 1 (.t 43))) 543, vd (gf 45 38 (.bin .i .neq (.t 42) (.t 44))) 2047, vd (vo 46 (.pick (.t 38) (cb true) (.t 45))) 4095, vd (vm 47 46) 8191, vd (gf 48 47 (.mv (.t 10))) 0x3fff, vd (gf 49 47 (.nilchk (.t 48))) 0x7fff, vd (gf 50 47 (.fa 0 (.t 49))) 0xffff, vd (gf 51 47 (.ld false 1 (.t 50))) 0x1ffff, vd (gf 52 47 (.mv (.t 3))) 0x3fff, vd (gf 53 47 (.bin .b .neq (.t 51) (.t 52))) 0x7ffff, vd (vo 54 (.pick (.t 47) (cb true) (.t 53))) 0xfffff, vd (vm 55 54) 0x1fffff, vd (gf 56 55 (.mv (.t 10))) 0x3fffff, vd (gf 57 55 (.nilchk (.t 56))) 0x7fffff, vd (gf 58 55 (.fa 2 (.t 57))) 0xffffff, vd (gf 59 55 (.ld false 1 (.t 58))) 0x1ffffff, vd (gf 60 55 (.fa 6 (.t 6))) 0x3fffff, vd (gf 61 55 (.ld false 1 (.t 60))) 0x43fffff, vd (gf 62 55 (.bin .i .neq (.t 59) (.t 61))) 0xfffffff, vd (vo 63 (.pick (.t 55) (cb true) (.t 62))) 0x1fffffff, vd (vm 64 63) 0x3fffffff, vd (gf 65 64 (.mv (.t 3))) 0x7fffffff, vd (gf 66 64 (.un .not (.t 65))) 0xffffffff, vd (gf 67 64 (.mv (.t 66))) 0x1ffffffff, vd (gt 68 67 (.mv (.t 10))) 0x3ffffffff, vd (gt 69 67 (.nilchk (.t 68))) 0x7ffffffff, vd (gt 70 67 (.fa 1 (.t 69))) 0xfffffffff, vd (gt 71 67 (.ld false 1 (.t 70))) 0x1fffffffff, vd (gt 72 67 (.fa 5 (.t 6))) 0x3ffffffff, vd (gt 73 67 (.ld false 1 (.t 72))) 0x43ffffffff, vd (gt 74 67 (.bin .i .neq (.t 71) (.t 73))) 0xffffffffff, vd (gf 75 64 (.pick (.t 67) (.t 74) (cb false))) 0x1ffffffffff, vd (vo 76 (.pick (.t 64) (cb true) (.t 75))) 0x3ffffffffff, vd (vm 77 76) 0x7ffffffffff, vd (gf 78 77 (.fa 1 (.t 6))) 0xfffffffffff, vd (gf 79 77 (.ld false 1 (.t 78))) 0x1fffffffffff, vd (gf 80 77 (.mv (.t 10))) 0xfffffffffff, vd (gf 81 77 (.nilchk (.t 80))) 0x4fffffffffff, vd (gf 82 77 (.fa 2 (.t 81))) 0xcfffffffffff, vd (gf 83 77 (.ld false 1 (.t 82))) 0x1cfffffffffff, vd (gf 84 77 (.mv (.t 0))) 0xfffffffffff, vd (gf 85 77 (.nilchk (.t 84))) 0x40fffffffffff, vd (gf 86 77 (.fa 0 (.t 85))) 0xc0fffffffffff, vd (gf 87 77 (.fa 0 (.t 86))) 0x1c0fffffffffff, vd (gf 88 77 (.ld false 1 (.t 87))) 0x3c0fffffffffff, vd (gf 89 77 (.bin .i .rem (.t 83) (.t 88))) 0x7fcfffffffffff, vd (gf 90 77 (.bin .i .neq (.t 79) (.t 89))) 0xffffffffffffff, vd (vo 91 (.pick (.t 77) (cb true) (.t 90))) 0x1ffffffffffffff]) (.cond (.t 91) (.gho .ret) .skip))) (.seq (.reg [mi 11 2]) (.seq (.seq (.reg [vm 92 3]) (.wk (.cond (.t 92) (.reg [mi 11 3]) .skip))) (.seq (.drawt 12 [vd (vm 93 0) 0, vd (vm 94 11) 0, vd (vm 95 8) 0, vd (vo 96 (.nilchk (.t 95))) 4, vd (vf 97 0 96) 12, vd (vs 98 97) 28, vd (vf 99 6 6) 0, vd (vs 100 99) 64, vd (vf 101 7 6) 0, vd (vs 102 101) 256, vd (vf 103 11 6) 0, vd (vs 104 103) 1024, vd (vo 105 (.call 110 [(.t 93), (.t 94), (.t 98), (.t 100), (.t 102), (.t 104)])) 4095]) (.seq (.reg [vm 106 8, vo 107 (.nilchk (.t 106)), vf 108 5 107, vu (.st 1 (.t 108) (ci 0))]) (.seq (.block 0 (.wk (.seq (.reg [vf 110 11 6, vs 111 110, bk 112 .neq 111 0, vm 113 112, gt 114 113 (.mv (.t 3)), vo 115 (.pick (.t 113) (.t 114) (cb false)), vm 109 115]) (.cond (.t 109) (.seq (.gho (.reg [vm 116 0, vm 117 1, vo 118 (.call 111 [(.t 116), (.t 117)])])) .ret) (.seq (.reg [vf 120 11 6, vs 121 120, bk 122 .neq 121 0, vm 119 122]) (.cond (.t 119) (.seq (.reg [vm 123 8, vm 124 8, vo 125 (.nilchk (.t 124)), vf 126 2 125, vs 127 126, vm 128 9, vo 129 (.sl 8 (.t 127) none (some (.t 128))), vo 130 (.nilchk (.t 123)), vf 131 2 130, vu (.st 1 (.t 131) (.t 129))]) (.gho .ret)) .skip)))))) (.seq (.reg [vm 132 10, vo 133 (.nilchk (.t 132)), vf 134 6 133, vu (.st 1 (.t 134) (cb true))]) (.seq (.reg [vm 135 3, nt 136 135]) (.wk (.cond (.t 136) (.draw [vd (vm 137 10) 0, vd (vm 138 10) 0, vd (vf 139 7 6) 0, vd (vs 140 139) 4, ⟨vf 141 8 6, 0, [], none, [0]⟩, ⟨vs 142 141, 16, [], none, [0]⟩, vd (vo 143 (.nilchk (.t 137))) 13, vd (vf 144 3 143) 77, ⟨vu (.st 1 (.t 144) (.t 140)), 205, [], (some 0), []⟩, vd (vo 145 (.nilchk (.t 138))) 511, vd (vf 146 4 145) 1023, vd (vu (.st 1 (.t 146) (.t 142))) 2047]) .skip))))))))))))))), []⟩
theorem low49 : lowF Tryd.prog 49 = some F49.strip := by kernel_rfl
theorem fok49 : fOk Tryd.prog 49 = true := by kernel_rfl
theorem coord_work_answered_ok (p0 : CoordWork) (p1 : Int) (p2 : Message) (p3 : Bool) (r : CoordWork) (h : coord_work_answered p0 p1 p2 p3 = some r) : FnX Tryd.prog G 49 [ptrX, .one (.d (.i .i64 p1)), .agg p2.bx, .one (.d (.b p3))] [.i .i64 p0.c.Sites, .l 2 (p0.c.Labels.map Label.enc), .i .i64 p0.c.Patience, .i .i64 p0.l, .i .i64 p0.me, .i .i64 p0.turn.Desk.Next, .t 6 (p0.turn.Desk.Jobs.map Job.encO), .o 12 (p0.turn.Messages.map Message.enc), .o 8 (p0.turn.Records.map Record.enc), .o 6 (p0.turn.Replies.map Reply.enc), .i .i64 p0.turn.Sure, .i .i64 p0.turn.Committed] (fun c rs => c = [.i .i64 r.c.Sites, .l 2 (r.c.Labels.map Label.enc), .i .i64 r.c.Patience, .i .i64 r.l, .i .i64 r.me, .i .i64 r.turn.Desk.Next, .t 6 (r.turn.Desk.Jobs.map Job.encO), .o 12 (r.turn.Messages.map Message.enc), .o 8 (r.turn.Records.map Record.enc), .o 6 (r.turn.Replies.map Reply.enc), .i .i64 r.turn.Sure, .i .i64 r.turn.Committed] ∧ rs = []) := by
 refine FnX.of [0, 1, 0, 0, 0, 0, 2] low49 fok49 (by exact Nat.le_of_ble_eq_true rfl) (by exact Nat.le_of_ble_eq_true rfl) ?_
 rw [coord_work_answered] at h
 replace h := Hd.mk h
 simp only [F49, go_sem]
 refine obn h (fun x1 _ _ _ _ h => ?_)
 try simp only [*, go_sem]
 refine gho_lk _ G _ _ [.f 1 p1.toNat] ?_
 try simp only [*, go_sem]
 try simp only [*, go_sem]
 intro hl3
 refine oi h (fun hb4 h => ?_) (fun hb4 h => ?_)
 try simp only [*, go_sem]
 refine gho_lk _ G _ _ [.u 1] ?_
 try simp only [*, go_sem]
 cases h.e
 try simp only [*, go_sem]
 refine eti [] ?_
 simp only [*, go_sem, mA, mS]
 refine obn h (fun x5 _ _ _ _ h => ?_)
 try simp only [*, go_sem]
 refine jn0 h ([zP 0 0, zI 1 p1, zB 3 p3, zK 6 (Message.enc p2), (8, .one (.p (.q 1 p1.toNat 0))), zI 9 (IntKind.i64.wrap (((x1.Tasks.length : Nat) : Int) - 1)), (10, .one (.p (.q 2 ((IntKind.i64.wrap (((x1.Tasks.length : Nat) : Int) - 1)).toNat) 0))), zP 1000000 0]) ([ox [zi p0.c.Sites, .d (.l 2 (p0.c.Labels.map Label.enc)), zi p0.c.Patience, zi p0.l, zi p0.me, zi p0.turn.Desk.Next, .r 1 0 p0.turn.Desk.Jobs.length, .r 3 0 p0.turn.Messages.length, .r 4 0 p0.turn.Records.length, .r 5 0 p0.turn.Replies.length, zi p0.turn.Sure, zi p0.turn.Committed], og 6 (p0.turn.Desk.Jobs.map Job.encO) p1.toNat [zi x1.N, zi x1.State, .r 2 0 x1.Tasks.length, .r 6 0 x1.Asked.length, zi x1.Asks, zi x1.Age], oa 8 (x1.Tasks.map Task.enc), oa 12 (p0.turn.Messages.map Message.enc), oa 8 (p0.turn.Records.map Record.enc), oa 6 (p0.turn.Replies.map Reply.enc), oa 1 (x1.Asked.map encI)]) (fun k8 h => ?_) (fun h => ?_)
 refine oi h (fun hb9 h => ?_) (fun hb9 h => ?_)
 try simp only [*, go_sem]
 refine gho_lk _ G _ _ [.u 1] ?_
 try simp only [*, go_sem]
 cases h.e
 try simp only [*, go_sem]
 refine eti [] ?_
 simp only [*, go_sem, mA, mS]
 refine oi h (fun hb10 h => ?_) (fun hb10 h => ?_)
 try simp only [*, go_sem]
 refine gho_lk _ G _ _ [.u 1] ?_
 try simp only [*, go_sem]
 cases h.e
 try simp only [*, go_sem]
 refine eti [] ?_
 simp only [*, go_sem, mA, mS]
 refine oin h (fun hb11 hkhb11 h => ?_) (fun hb11 hkhb11 h => ?_)
 try simp only [*, go_sem]
 refine gho_lk _ G _ _ [.u 1] ?_
 try simp only [*, go_sem]
 cases h.e
 try simp only [*, go_sem]
 refine eti [] ?_
 simp only [*, go_sem, mA, mS]
 refine oi h (fun hb12 h => ?_) (fun hb12 h => ?_)
 try simp only [*, go_sem]
 refine gho_lk _ G _ _ [.u 1] ?_
 try simp only [*, go_sem]
 cases h.e
 try simp only [*, go_sem]
 refine eti [] ?_
 simp only [*, go_sem, mA, mS]
 refine oin h (fun hb13 hkhb13 h => ?_) (fun hb13 hkhb13 h => ?_)
 have hq19 := hkhb11
 try simp only [hkhb13, beq_true, beq_false, Bool.not_eq_true', Bool.not_eq_false'] at hq19
 refine oi h (fun hb14 h => ?_) (fun hb14 h => ?_)
 try simp only [*, go_sem]
 refine gho_lk _ G _ _ [.u 1] ?_
 try simp only [*, go_sem]
 cases h.e
 try simp only [*, go_sem]
 refine eti [] ?_
 simp only [*, go_sem, mA, mS]
 refine ckn h (fun _ h => ?_)
 refine oi h (fun hb16 h => ?_) (fun hb16 h => ?_)
 try simp only [*, go_sem]
 refine gho_lk _ G _ _ [.u 1] ?_
 try simp only [*, go_sem]
 cases h.e
 try simp only [*, go_sem]
 refine eti [] ?_
 simp only [*, go_sem, mA, mS]
 try simp only [*, go_sem]
 exact jc () h.e [some 0, some 1, some 5, some 2, some 3, some 4, some 6]
 have hq20 := hkhb11
 try simp only [hkhb13, beq_true, beq_false, Bool.not_eq_true', Bool.not_eq_false'] at hq20
 refine ckn h (fun _ h => ?_)
 refine oi h (fun hb18 h => ?_) (fun hb18 h => ?_)
 try simp only [*, go_sem]
 refine gho_lk _ G _ _ [.u 1] ?_
 try simp only [*, go_sem]
 cases h.e
 try simp only [*, go_sem]
 refine eti [] ?_
 simp only [*, go_sem, mA, mS]
 try simp only [*, go_sem]
 exact jc () h.e [some 0, some 1, some 5, some 2, some 3, some 4, some 6]
 try simp only [*, go_sem]
 refine jn1 h (fun b21_1 => [zP 0 0, zI 1 p1, zB 3 p3, zK 6 (Message.enc p2), (8, .one (.p (.q 1 p1.toNat 0))), zI 9 (IntKind.i64.wrap (((x1.Tasks.length : Nat) : Int) - 1)), (10, .one (.p (.q 2 ((IntKind.i64.wrap (((x1.Tasks.length : Nat) : Int) - 1)).toNat) 0))), zI 11 ((b21_1 : Nat) : Int), zP 1000000 0]) (fun b21_1 => [ox [zi p0.c.Sites, .d (.l 2 (p0.c.Labels.map Label.enc)), zi p0.c.Patience, zi p0.l, zi p0.me, zi p0.turn.Desk.Next, .r 1 0 p0.turn.Desk.Jobs.length, .r 3 0 p0.turn.Messages.length, .r 4 0 p0.turn.Records.length, .r 5 0 p0.turn.Replies.length, zi p0.turn.Sure, zi p0.turn.Committed], og 6 (p0.turn.Desk.Jobs.map Job.encO) p1.toNat [zi x1.N, zi x1.State, .r 2 0 x1.Tasks.length, .r 6 0 x1.Asked.length, zi x1.Asks, zi x1.Age], oa 8 (x1.Tasks.map Task.enc), oa 12 (p0.turn.Messages.map Message.enc), oa 8 (p0.turn.Records.map Record.enc), oa 6 (p0.turn.Replies.map Reply.enc), oa 1 (x1.Asked.map encI)]) (fun k22 h => ?_) (fun b21_1 h => ?_)
 refine oi h (fun hb23 h => ?_) (fun hb23 h => ?_)
 try simp only [*, go_sem]
 exact jc (3) h.e [some 0, some 1, some 2, some 3, some 4, some 5, some 6]
 try simp only [*, go_sem]
 exact jc (2) h.e [some 0, some 1, some 2, some 3, some 4, some 5, some 6]
 try simp only [*, go_sem]
 refine cx low110 fok110 ?_
 simp only [*, F110, go_sem]
 try simp only [*, go_sem]
 refine gho_lk _ G _ _ [] ?_
 try simp only [*, go_sem]
 refine ck h (fun _ h => ?_)
 try simp only [*, go_sem]
 refine jn0 h ([zB 3 p3, zK 6 (Message.enc p2), (10, .one (.p (.q 0 ((IntKind.i64.wrap (((x1.Tasks.length : Nat) : Int) - 1)).toNat) 0))), zP 1000000 1]) ([oa 8 (x1.Tasks.map Task.enc), ox [zi p0.c.Sites, .d (.l 2 (p0.c.Labels.map Label.enc)), zi p0.c.Patience, zi p0.l, zi p0.me, zi p0.turn.Desk.Next, .r 2 0 p0.turn.Desk.Jobs.length, .r 3 0 p0.turn.Messages.length, .r 4 0 p0.turn.Records.length, .r 5 0 (p0.turn.Replies.length + 1), zi p0.turn.Sure, zi p0.turn.Committed], og 6 (p0.turn.Desk.Jobs.map Job.encO) p1.toNat [zi x1.N, zi x1.State, .r 0 0 x1.Tasks.length, .r 6 0 x1.Asked.length, zi x1.Asks, zi 0], oa 12 (p0.turn.Messages.map Message.enc), oa 8 (p0.turn.Records.map Record.enc), oa 6 ((p0.turn.Replies ++ [(Reply.mk p0.me ((b21_1 : Nat) : Int) x1.N p2.Key p2.Value p2.Code)]).map Reply.enc), oa 1 (x1.Asked.map encI)]) (fun k26 h => ?_) (fun h => ?_)
 refine oi h (fun hb27 h => ?_) (fun hb27 h => ?_)
 refine oi h (fun hb28 h => ?_) (fun hb28 h => ?_)
 try simp only [*, go_sem]
 refine gho_lk _ G _ _ [.u 1] ?_
 try simp only [*, go_sem]
 try simp only [*, go_sem]
 refine ct h 0 [] [0, 1, 0, 0, 0, 0, 2] [1, 3, 4, 36] (coord_work_end_ok G (CoordWork.mk p0.c p0.l p0.me (Turn.mk (Desk.mk p0.turn.Desk.Next (p0.turn.Desk.Jobs.set p1.toNat (Job.mk x1.N x1.State x1.Tasks x1.Asked x1.Asks 0))) p0.turn.Messages p0.turn.Records (p0.turn.Replies ++ [(Reply.mk p0.me ((b21_1 : Nat) : Int) x1.N p2.Key p2.Value p2.Code)]) p0.turn.Sure p0.turn.Committed)) p1) (fun v29 h => ?_)
 cases h.e
 try simp only [*, go_sem]
 refine eti [] ?_
 simp only [*, go_sem, mA, mS]
 refine ck h (fun _ h => ?_)
 refine ck h (fun _ h => ?_)
 have : min ((IntKind.i64.wrap (((x1.Tasks.length : Nat) : Int) - 1)).toNat) x1.Tasks.length = (IntKind.i64.wrap (((x1.Tasks.length : Nat) : Int) - 1)).toNat := by omega
 have : (IntKind.i64.wrap (((x1.Tasks.length : Nat) : Int) - 1)).toNat ≤ x1.Tasks.length := by omega
 try simp only [*, go_sem]
 refine gho_lk _ G _ _ [.u 1] ?_
 try simp only [*, go_sem]
 cases h.e
 try simp only [*, go_sem]
 refine eti [] ?_
 simp only [*, go_sem, mA, mS]
 try simp only [*, go_sem]
 exact jc () h.e [some 2, some 0, some 1, some 3, some 4, some 36, some 6]
 try simp only [*, go_sem]
 refine jn1 h (fun b34_1 => [zP 1000000 0]) (fun b34_1 => [ox [zi p0.c.Sites, .d (.l 2 (p0.c.Labels.map Label.enc)), zi p0.c.Patience, zi p0.l, zi p0.me, zi p0.turn.Desk.Next, .r 1 0 b34_1.length, .r 2 0 p0.turn.Messages.length, .r 3 0 p0.turn.Records.length, .r 4 0 (p0.turn.Replies.length + 1), zi p0.turn.Sure, zi p0.turn.Committed], ot 6 (b34_1.map Job.encO), oa 12 (p0.turn.Messages.map Message.enc), oa 8 (p0.turn.Records.map Record.enc), oa 6 ((p0.turn.Replies ++ [(Reply.mk p0.me ((b21_1 : Nat) : Int) x1.N p2.Key p2.Value p2.Code)]).map Reply.enc)]) (fun k35 h => ?_) (fun b34_1 h => ?_)
 refine oin h (fun hb36 hkhb36 h => ?_) (fun hb36 hkhb36 h => ?_)
 try simp only [*, go_sem]
 exact jf [.u 2] ((p0.turn.Desk.Jobs.set p1.toNat (Job.mk x1.N x1.State (x1.Tasks.set ((IntKind.i64.wrap (((x1.Tasks.length : Nat) : Int) - 1)).toNat) (Task.mk x5.Write x5.Label x5.Key p2.Value p2.Version x5.Ask true x5.Sure)) x1.Asked x1.Asks 0))) h.e [some 1, some 2, some 3, some 4, some 5]
 try simp only [*, go_sem]
 exact jf [.u 2] ((p0.turn.Desk.Jobs.set p1.toNat (Job.mk x1.N x1.State (x1.Tasks.set ((IntKind.i64.wrap (((x1.Tasks.length : Nat) : Int) - 1)).toNat) (Task.mk x5.Write x5.Label x5.Key x5.Value x5.Version x5.Ask true x5.Sure)) x1.Asked x1.Asks 0))) h.e [some 1, some 2, some 3, some 4, some 5]
 cases h.e
 try simp only [*, go_sem]
 refine etn [] ?_
 simp only [*, go_sem, mA, mS]
def slices_IndexFunc_Task_L1 (p0 : List Task) (p1 : Task → Option (Bool)) (k3 : Option (Int)) : Nat → Nat → Option (Int)
 | 0, _ => none
 | n5 + 1, a4_1 => (if (decide (a4_1 < p0.length)) = true then (Option.bind (p0[a4_1]?) fun x7 => (Option.bind (p1 x7) fun v8 => (if v8 = true then (some ((a4_1 : Nat) : Int)) else (slices_IndexFunc_Task_L1 p0 p1 k3 n5 (a4_1 + 1))))) else k3)
def slices_IndexFunc_Task (p0 : List Task) (p1 : Task → Option (Bool)) : Option (Int) := (withK (some (-1)) fun k3 => (slices_IndexFunc_Task_L1 p0 p1 k3 (p0.length + 1) 0))
def F196 : VFn := ⟨19, (.seq (.reg [mi 4 0]) (.seq (.seq (.reg [vm 6 0, ln 7 6, mi 8 0]) (.wk (.block 0 (.loop (.seq (.reg [bt 9 .lss 8 7]) (.seq (.cond (.t 9) .skip (.exit 0)) (.seq (.block 1 (.seq (.reg [vm 10 8, vm 5 10]) (.seq (.reg [vm 11 1, vm 12 0, vm 13 5, xa 14 8 12 13, vl 15 8 14, vo 16 (.callv (.t 11) [(.t 15)])]) (.cond (.t 16) (.seq (.reg [vm 17 5, vm 4 17]) .ret) .skip)))) (.reg [bk 18 .add 8 1, vm 8 18])))))))) (.seq (.reg [mi 4 (-1)]) .ret))), [.t 4]⟩
theorem low196 : lowF Tryd.prog 196 = some F196.strip := by kernel_rfl
theorem fok196 : fOk Tryd.prog 196 = true := by kernel_rfl
theorem slices_IndexFunc_Task_ok (p0 : List Task) (p1 : Task → Option (Bool)) (g_p1 : Nat) (c_p1 : List D) (h_p1 : ∀ (x0 : Task) (r : Bool), p1 x0 = some r → FnRO Tryd.prog G g_p1 ([.agg [.d (.b x0.Write), .d (.i .i64 x0.Label), .d (.i .i64 x0.Key), .d (.i .i64 x0.Value), .d (.i .i64 x0.Version), .d (.i .i64 x0.Ask), .d (.b x0.Done), .d (.b x0.Sure)]] ++ c_p1.map fun d => .one (.d d)) (fun rs => rs = [.one (.b r)])) (r : Int) (h : slices_IndexFunc_Task p0 p1 = some r) : FnRO Tryd.prog G 196 [.one (.d (.l 8 (p0.map Task.enc))), .one (.d (.f g_p1 c_p1))] (fun rs => rs = [.one (.i .i64 r)]) := by
 refine FnRO.of' low196 fok196 (by simp [F196]) ?_
 rw [slices_IndexFunc_Task] at h
 replace h := Hd.mk h
 simp only [F196, go_sem]
 try simp only [*, go_sem]
 intro hl1
 try simp only [*, go_sem]
 refine jn0 h ([]) ([]) (fun k3 h => ?_) (fun h => ?_)
 try simp only [*, go_sem]
 refine lp1 (slices_IndexFunc_Task_L1 p0 p1 k3) (fun a4_1 => [zL 0 8 (p0.map Task.enc), (1, .one (.d (.f g_p1 c_p1))), zI 7 ((p0.length : Nat) : Int), zI 8 ((a4_1 : Nat) : Int)]) (fun a4_1 => []) h [] [] (fun n5 a4_1 h => ?_) (by intros; rw [slices_IndexFunc_Task_L1])
 rw [slices_IndexFunc_Task_L1] at h
 refine oi h (fun hb6 h => ?_) (fun hb6 h => ?_)
 have := of_decide_eq_true hb6
 refine obg h (fun x7 _ hkx7 h => ?_)
 try simp only [*, go_sem]
 refine cr h (h_p1 x7) (fun v8 h => ?_)
 refine oi h (fun hb9 h => ?_) (fun hb9 h => ?_)
 cases h.e
 simp only [*, go_sem, mA, mS]
 have := wrap_succ_max hkx7 hl1
 try simp only [*, go_sem]
 exact lc (a4_1 + 1) h.e []
 try simp only [*, go_sem]
 exact jc () h.e []
 cases h.e
 simp only [*, go_sem, mA, mS]
def slices_ContainsFunc_Task (p0 : List Task) (p1 : Task → Option (Bool)) : Option (Bool) := (Option.bind (slices_IndexFunc_Task p0 p1) fun v1 => (some (decide (v1 ≥ 0))))
def F160 : VFn := ⟨9, (.seq (.reg [vo 4 (.mv (cb false))]) (.seq (.reg [vm 5 0, vm 6 1, vo 7 (.call 196 [(.t 5), (.t 6)]), bk 8 .geq 7 0, vm 4 8]) .ret)), [.t 4]⟩
theorem low160 : lowF Tryd.prog 160 = some F160.strip := by kernel_rfl
theorem fok160 : fOk Tryd.prog 160 = true := by kernel_rfl
theorem slices_ContainsFunc_Task_ok (p0 : List Task) (p1 : Task → Option (Bool)) (g_p1 : Nat) (c_p1 : List D) (h_p1 : ∀ (x0 : Task) (r : Bool), p1 x0 = some r → FnRO Tryd.prog G g_p1 ([.agg [.d (.b x0.Write), .d (.i .i64 x0.Label), .d (.i .i64 x0.Key), .d (.i .i64 x0.Value), .d (.i .i64 x0.Version), .d (.i .i64 x0.Ask), .d (.b x0.Done), .d (.b x0.Sure)]] ++ c_p1.map fun d => .one (.d d)) (fun rs => rs = [.one (.b r)])) (r : Bool) (h : slices_ContainsFunc_Task p0 p1 = some r) : FnRO Tryd.prog G 160 [.one (.d (.l 8 (p0.map Task.enc))), .one (.d (.f g_p1 c_p1))] (fun rs => rs = [.one (.b r)]) := by
 refine FnRO.of' low160 fok160 (by simp [F160]) ?_
 rw [slices_ContainsFunc_Task] at h
 replace h := Hd.mk h
 simp only [F160, go_sem]
 try simp only [*, go_sem]
 refine cr h (slices_IndexFunc_Task_ok G p0 p1 g_p1 c_p1 h_p1) (fun v1 h => ?_)
 cases h.e
 simp only [*, go_sem, mA, mS]
def coord_work_commit_1 (p0 : Task) : Option (Bool) := (some p0.Write)
def F161 : VFn := ⟨5, (.seq (.reg [vo 1 (.boxk 8 (.t 0)), vo 2 (.mv (cb false))]) (.seq (.reg [vf 3 0 1, vs 4 3, vm 2 4]) .ret)), [.t 2]⟩
theorem low161 : lowF Tryd.prog 161 = some F161.strip := by kernel_rfl
theorem fok161 : fOk Tryd.prog 161 = true := by kernel_rfl
theorem coord_work_commit_1_ok (p0 : Task) (r : Bool) (h : coord_work_commit_1 p0 = some r) : FnRO Tryd.prog G 161 [.agg p0.bx] (fun rs => rs = [.one (.b r)]) := by
 refine FnRO.of' low161 fok161 (by simp [F161]) ?_
 rw [coord_work_commit_1] at h
 replace h := Hd.mk h
 simp only [F161, go_sem]
 cases h.e
 simp only [*, go_sem, mA, mS]
def F115 : VFn := ⟨28, (.gho (.draw [vd (vm 8 0) 0, vd (vm 9 0) 0, vd (vo 10 (.nilchk (.t 9))) 2, vd (vf 11 5 10) 6, vd (vf 12 3 11) 14, vd (vs 13 12) 30, vd (vm 14 1) 0, vd (vm 15 0) 0, vd (vo 16 (.nilchk (.t 15))) 128, vd (vf 17 4 16) 384, vd (vs 18 17) 896, vd (vm 19 2) 0, vd (vo 20 (.build [(zi 0), (zi 0)] [(0, 1, (.t 18)), (1, 1, (.t 19))])) 3968, vd (vm 21 3) 0, vd (vo 22 (.build [(zi 0), (zi 0), (zi 0), (zi 0), (zi 0), (zi 0), (.d (.b false)), (.nl 1)] [(0, 1, (.t 14)), (1, 2, (.t 20)), (7, 1, (.t 21))])) 0x3fc0, vd (vo 23 (.bsl 8 1 [(zi 0), (zi 0), (zi 0), (zi 0), (zi 0), (zi 0), (.d (.b false)), (.nl 1)] [(0, (.t 22))])) 0x7fc0, vd (vo 24 (.app 8 80 (.t 13) (.t 23))) 0xfffe, vd (vo 25 (.nilchk (.t 8))) 0x1ffff, vd (vf 26 5 25) 0x3ffff, vd (vf 27 3 26) 0x7ffff, vd (vu (.st 1 (.t 27) (.t 24))) 0xfffff])), []⟩
theorem low115 : lowF Tryd.prog 115 = some F115.strip := by kernel_rfl
theorem fok115 : fOk Tryd.prog 115 = true := by kernel_rfl
def F162 : VFn := ⟨21, (.seq (.gho (.reg [vo 3 (.box 6 (.t 1))])) (.seq (.gho (.reg [vf 6 3 3, vs 7 6, ln 8 7, mi 9 0])) (.wk (.block 0 (.loop (.seq (.gho (.reg [bt 10 .lss 9 8])) (.seq (.cond (.t 10) .skip (.exit 0)) (.seq (.block 1 (.seq (.gho (.reg [xa 11 1 7 9, vs 12 11, vm 5 12])) (.gho (.reg [vm 13 0, vm 14 5, vf 15 0 3, vs 16 15, vo 17 (.call 108 [(.t 13), (ci 4), (.t 14), (.t 16)]), vo 18 (.nilchk (.t 17)), vf 19 10 18, vu (.st 1 (.t 19) (cb true))])))) (.gho (.reg [bk 20 .add 9 1, vm 9 20])))))))))), []⟩
theorem low162 : lowF Tryd.prog 162 = some F162.strip := by kernel_rfl
theorem fok162 : fOk Tryd.prog 162 = true := by kernel_rfl
def coord_work_commit_L1 (p0 : CoordWork) (x1 : Job) (k5 : (List Int) → Option (CoordWork)) : Nat → Nat → (List Int) → Option (CoordWork)
 | 0, _, _ => none
 | n7 + 1, a6_1, a6_2 => (if (decide (a6_1 < x1.Tasks.length)) = true then (Option.bind (x1.Tasks[a6_1]?) fun x9 => (if p0.c.Sites = 0 then none else (if (x9.Label == p0.l) = true then (Option.bind (slices_Contains_int a6_2 (x9.Key.tmod p0.c.Sites)) fun v12 => (withK (fun (b13_1 : Bool) (b13_2 : List Int) => (coord_work_commit_L1 p0 x1 k5 n7 (a6_1 + 1) b13_2)) fun k14 => (if (!v12) = true then (if fits 8 (a6_2.length + 1) then (k14 true (a6_2 ++ [x9.Key.tmod p0.c.Sites])) else none) else (k14 false a6_2)))) else (withK (coord_work_commit_L1 p0 x1 k5 n7 (a6_1 + 1) a6_2) fun k19 => k19)))) else (k5 a6_2))
def coord_work_commit_L4 (k35 : (List Int) → Option (CoordWork)) : Nat → Int → (List Int) → Option (CoordWork)
 | 0, _, _ => none
 | n37 + 1, a36_1, a36_2 => (if (decide (a36_1 > 0)) = true then (if 0 ≤ a36_1 then (Option.bind (a36_2[a36_1.toNat]?) fun x39 => (if 0 ≤ IntKind.i64.wrap (a36_1 - 1) then (Option.bind (a36_2[(IntKind.i64.wrap (a36_1 - 1)).toNat]?) fun x41 => (Option.bind (cmp_Less x39 x41) fun v43 => (if v43 = true then (if 0 ≤ IntKind.i64.wrap (a36_1 - 1) then (Option.bind ((a36_2.set a36_1.toNat x41)[(IntKind.i64.wrap (a36_1 - 1)).toNat]?) fun x45 => (coord_work_commit_L4 k35 n37 (IntKind.i64.wrap (a36_1 - 1)) ((a36_2.set a36_1.toNat x41).set ((IntKind.i64.wrap (a36_1 - 1)).toNat) x39))) else none) else (k35 a36_2)))) else none)) else none) else (k35 a36_2))
def coord_work_commit_L3 (b4_1 : List Int) (k30 : (List Int) → Option (CoordWork)) : Nat → Nat → (List Int) → Option (CoordWork)
 | 0, _, _ => none
 | n32 + 1, a31_1, a31_2 => (if (decide (a31_1 < b4_1.length)) = true then (withK (fun (b34_1 : List Int) => (coord_work_commit_L3 b4_1 k30 n32 (a31_1 + 1) b34_1)) fun k35 => (coord_work_commit_L4 k35 ((((a31_1 : Nat) : Int)).toNat + 1) ((a31_1 : Nat) : Int) a31_2)) else (k30 a31_2))
def coord_work_commit_L2 (b4_1 : List Int) (k23 : (List Int) → Option (CoordWork)) : Nat → Option (CoordWork)
 | 0 => none
 | n26 + 1 => (if (decide (IntKind.i64.wrap (((b4_1.length : Nat) : Int)) ≤ 12)) = true then (withK (fun (b29_1 : List Int) => (k23 b29_1)) fun k30 => (coord_work_commit_L3 b4_1 k30 (b4_1.length + 1) 1 b4_1)) else none)
def coord_work_commit_L5 (p0 : CoordWork) (x1 : Job) (b22_1 : List Int) (k62 : (List Message) → Option (CoordWork)) : Nat → Nat → (List Message) → Option (CoordWork)
 | 0, _, _ => none
 | n64 + 1, a63_1, a63_2 => (if (decide (a63_1 < b22_1.length)) = true then (Option.bind (b22_1[a63_1]?) fun x66 => (if fits 96 (a63_2.length + 1) then (coord_work_commit_L5 p0 x1 b22_1 k62 n64 (a63_1 + 1) (a63_2 ++ [(Message.mk 4 p0.me x66 (Txn.mk p0.me x1.N) 0 0 0 0 0 true 0)])) else none)) else (k62 a63_2))
def coord_work_commit (p0 : CoordWork) (p1 : Int) : Option (CoordWork) := (if 0 ≤ p1 then (Option.bind (p0.turn.Desk.Jobs[p1.toNat]?) fun x1 => (withK (fun (b4_1 : List Int) => (withK (fun (b22_1 : List Int) => (if fits 48 (p0.turn.Replies.length + 1) then (if (((b22_1.length : Nat) : Int) == 0) = true then (Option.bind (deleteF (p0.turn.Desk.Jobs.set p1.toNat x1) p1 (IntKind.i64.wrap (p1 + 1))) fun v52 => (some (CoordWork.mk p0.c p0.l p0.me (Turn.mk (Desk.mk p0.turn.Desk.Next v52) p0.turn.Messages p0.turn.Records (p0.turn.Replies ++ [(Reply.mk p0.me 4 x1.N 0 0 0)]) p0.turn.Sure x1.N)))) else (Option.bind (slices_ContainsFunc_Task x1.Tasks (fun y53 => coord_work_commit_1 y53)) fun v54 => (withK (fun (b55_1 : List Record) => (withK (fun (b61_1 : List Message) => (some (CoordWork.mk p0.c p0.l p0.me (Turn.mk (Desk.mk p0.turn.Desk.Next (p0.turn.Desk.Jobs.set p1.toNat (Job.mk x1.N 3 x1.Tasks b22_1 x1.Asks 0))) b61_1 b55_1 (p0.turn.Replies ++ [(Reply.mk p0.me 4 x1.N 0 0 0)]) p0.turn.Sure x1.N)))) fun k62 => (coord_work_commit_L5 p0 x1 b22_1 k62 (b22_1.length + 1) 0 p0.turn.Messages))) fun k56 => (if v54 = true then (Option.bind (cloneF 8 b22_1) fun v58 => (if fits 80 (p0.turn.Records.length + 1) then (k56 (p0.turn.Records ++ [(Record.mk 3 (Txn.mk p0.me x1.N) 0 0 0 false v58)])) else none)) else (k56 p0.turn.Records))))) else none)) fun k23 => (Option.bind (math_bits_Len (IntKind.u64.wrap (((b4_1.length : Nat) : Int)))) fun v24 => (coord_work_commit_L2 b4_1 k23 1)))) fun k5 => (coord_work_commit_L1 p0 x1 k5 (x1.Tasks.length + 1) 0 []))) else none)
def F112 : VFn := ⟨67, (.seq (.reg [vm 6 0, vo 7 (.nilchk (.t 6)), vf 8 5 7, vf 9 0 8, vf 10 1 9, vs 11 10, vm 12 1, xa 13 6 11 12, vm 4 13]) (.seq (.gho (.reg [vm 14 0, vm 15 4, vo 16 (.nilchk (.t 15)), vl 17 6 16, vo 18 (.call 159 [(.t 14), (.t 17)]), vm 5 18])) (.seq (.reg [vm 19 0, vm 20 4, vo 21 (.nilchk (.t 20)), vf 22 0 21, vs 23 22, vo 24 (.nilchk (.t 19)), vf 25 5 24, vf 26 6 25, vu (.st 1 (.t 26) (.t 23))]) (.seq (.reg [vm 27 0, vm 28 4, vo 29 (.nilchk (.t 28)), vf 30 0 29, vs 31 30, vo 32 (.call 110 [(.t 27), (ci 4), (.t 31), (ci 0), (ci 0), (ci 0)])]) (.seq (.seq (.reg [vm 33 5, ln 34 33, bk 35 .eql 34 0]) (.cond (.t 35) (.seq (.reg [vm 36 0, vm 37 1, vo 38 (.call 116 [(.t 36), (.t 37)])]) .ret) .skip)) (.seq (.seq (.reg [vm 39 4, vo 40 (.nilchk (.t 39)), vf 41 2 40, vs 42 41, vo 43 (.call 160 [(.t 42), (.fn 161)])]) (.wk (.cond (.t 43) (.drawt 7 [vd (vm 44 0) 0, vd (vm 45 4) 0, vd (vo 46 (.nilchk (.t 45))) 2, vd (vf 47 0 46) 6, vd (vs 48 47) 14, vd (vm 49 5) 0, vd (vo 50 (.call 157 [(.t 49)])) 32, vd (vo 51 (.call 115 [(.t 44), (ci 3), (.t 48), (.t 50)])) 127]) .skip))) (.seq (.reg [vm 52 4, vm 53 4, vm 54 4, vm 55 5, vo 56 (.nilchk (.t 52)), vf 57 1 56, vu (.st 1 (.t 57) (ci 3)), vo 58 (.nilchk (.t 53)), vf 59 3 58, vu (.st 1 (.t 59) (.t 55)), vo 60 (.nilchk (.t 54)), vf 61 5 60, vu (.st 1 (.t 61) (ci 0))]) (.reg [vm 62 0, vm 63 4, vo 64 (.nilchk (.t 63)), vl 65 6 64, vo 66 (.call 162 [(.t 62), (.t 65)])])))))))), []⟩
theorem low112 : lowF Tryd.prog 112 = some F112.strip := by kernel_rfl
theorem fok112 : fOk Tryd.prog 112 = true := by kernel_rfl
theorem coord_work_commit_ok (p0 : CoordWork) (p1 : Int) (r : CoordWork) (h : coord_work_commit p0 p1 = some r) : FnX Tryd.prog G 112 [ptrX, .one (.d (.i .i64 p1))] [.i .i64 p0.c.Sites, .l 2 (p0.c.Labels.map Label.enc), .i .i64 p0.c.Patience, .i .i64 p0.l, .i .i64 p0.me, .i .i64 p0.turn.Desk.Next, .t 6 (p0.turn.Desk.Jobs.map Job.encO), .o 12 (p0.turn.Messages.map Message.enc), .o 8 (p0.turn.Records.map Record.enc), .o 6 (p0.turn.Replies.map Reply.enc), .i .i64 p0.turn.Sure, .i .i64 p0.turn.Committed] (fun c rs => c = [.i .i64 r.c.Sites, .l 2 (r.c.Labels.map Label.enc), .i .i64 r.c.Patience, .i .i64 r.l, .i .i64 r.me, .i .i64 r.turn.Desk.Next, .t 6 (r.turn.Desk.Jobs.map Job.encO), .o 12 (r.turn.Messages.map Message.enc), .o 8 (r.turn.Records.map Record.enc), .o 6 (r.turn.Replies.map Reply.enc), .i .i64 r.turn.Sure, .i .i64 r.turn.Committed] ∧ rs = []) := by
 refine FnX.of [0, 1, 0, 0, 0, 0, 2] low112 fok112 (by exact Nat.le_of_ble_eq_true rfl) (by exact Nat.le_of_ble_eq_true rfl) ?_
 rw [coord_work_commit] at h
 replace h := Hd.mk h
 simp only [F112, go_sem]
 refine obn h (fun x1 _ _ _ _ h => ?_)
 try simp only [*, go_sem]
 refine gho_lk _ G _ _ [.f 1 p1.toNat] ?_
 try simp only [*, go_sem]
 try simp only [*, go_sem]
 refine cx low159 fok159 ?_
 simp only [*, F159, go_sem]
 try simp only [*, go_sem]
 intro hl3
 try simp only [*, go_sem]
 refine jn1 h (fun b4_1 => [zR 5 0 0 b4_1.length, zP 1000000 1, zI 1000001 p1, (1000004, .one (.p (.q 2 p1.toNat 0))), zP 2000000 1]) (fun b4_1 => [oa 1 (b4_1.map encI), ox [zi p0.c.Sites, .d (.l 2 (p0.c.Labels.map Label.enc)), zi p0.c.Patience, zi p0.l, zi p0.me, zi p0.turn.Desk.Next, .r 2 0 p0.turn.Desk.Jobs.length, .r 3 0 p0.turn.Messages.length, .r 4 0 p0.turn.Records.length, .r 5 0 p0.turn.Replies.length, zi p0.turn.Sure, zi p0.turn.Committed], og 6 (p0.turn.Desk.Jobs.map Job.encO) p1.toNat [zi x1.N, zi x1.State, .r 6 0 x1.Tasks.length, .r 7 0 x1.Asked.length, zi x1.Asks, zi x1.Age], oa 12 (p0.turn.Messages.map Message.enc), oa 8 (p0.turn.Records.map Record.enc), oa 6 (p0.turn.Replies.map Reply.enc), oa 8 (x1.Tasks.map Task.enc), oa 1 (x1.Asked.map encI)]) (fun k5 h => ?_) (fun b4_1 h => ?_)
 try simp only [*, go_sem]
 refine lp2 (coord_work_commit_L1 p0 x1 k5) (fun a6_1 a6_2 => [zP 0 0, zR 5 1 0 a6_2.length, zR 10 2 0 x1.Tasks.length, zI 11 ((x1.Tasks.length : Nat) : Int), zI 12 ((a6_1 : Nat) : Int), zP 1000000 0, zI 1000001 p1, (1000004, .one (.p (.q 3 p1.toNat 0))), zP 2000000 0]) (fun a6_1 a6_2 => [ox [zi p0.c.Sites, .d (.l 2 (p0.c.Labels.map Label.enc)), zi p0.c.Patience, zi p0.l, zi p0.me, zi p0.turn.Desk.Next, .r 3 0 p0.turn.Desk.Jobs.length, .r 4 0 p0.turn.Messages.length, .r 5 0 p0.turn.Records.length, .r 6 0 p0.turn.Replies.length, zi p0.turn.Sure, zi p0.turn.Committed], oa 1 (a6_2.map encI), oa 8 (x1.Tasks.map Task.enc), og 6 (p0.turn.Desk.Jobs.map Job.encO) p1.toNat [zi x1.N, zi x1.State, .r 2 0 x1.Tasks.length, .r 7 0 x1.Asked.length, zi x1.Asks, zi x1.Age], oa 12 (p0.turn.Messages.map Message.enc), oa 8 (p0.turn.Records.map Record.enc), oa 6 (p0.turn.Replies.map Reply.enc), oa 1 (x1.Asked.map encI)]) h [] [some 0, none, some 5, some 1, some 2, some 3, some 4, some 6] (fun n7 a6_1 a6_2 h => ?_) (by intros; rw [coord_work_commit_L1])
 rw [coord_work_commit_L1] at h
 refine oi h (fun hb8 h => ?_) (fun hb8 h => ?_)
 have := of_decide_eq_true hb8
 refine obg h (fun x9 _ hkx9 h => ?_)
 refine ckn h (fun _ h => ?_)
 refine oi h (fun hb11 h => ?_) (fun hb11 h => ?_)
 refine obk h (fun v12 hv12 h => ?_)
 try simp only [*, go_sem]
 refine cdl (slices_Contains_int_ok G a6_2 (x9.Key.tmod p0.c.Sites) v12 hv12) ?_
 try simp only [*, go_sem]
 refine jn2 h (fun b13_1 b13_2 => [zP 0 0, zR 5 1 0 b13_2.length, zR 10 2 0 x1.Tasks.length, zI 11 ((x1.Tasks.length : Nat) : Int), zI 12 ((a6_1 : Nat) : Int), zI 33 (x9.Key.tmod p0.c.Sites), zB 34 v12, zB 35 b13_1, zP 1000000 0, zI 1000001 p1, (1000004, .one (.p (.q 3 p1.toNat 0))), zP 2000000 0]) (fun b13_1 b13_2 => [ox [zi p0.c.Sites, .d (.l 2 (p0.c.Labels.map Label.enc)), zi p0.c.Patience, zi p0.l, zi p0.me, zi p0.turn.Desk.Next, .r 3 0 p0.turn.Desk.Jobs.length, .r 4 0 p0.turn.Messages.length, .r 5 0 p0.turn.Records.length, .r 6 0 p0.turn.Replies.length, zi p0.turn.Sure, zi p0.turn.Committed], oa 1 (b13_2.map encI), oa 8 (x1.Tasks.map Task.enc), og 6 (p0.turn.Desk.Jobs.map Job.encO) p1.toNat [zi x1.N, zi x1.State, .r 2 0 x1.Tasks.length, .r 7 0 x1.Asked.length, zi x1.Asks, zi x1.Age], oa 12 (p0.turn.Messages.map Message.enc), oa 8 (p0.turn.Records.map Record.enc), oa 6 (p0.turn.Replies.map Reply.enc), oa 1 (x1.Asked.map encI)]) (fun k14 h => ?_) (fun b13_1 b13_2 h => ?_)
 refine oin h (fun hb15 hkhb15 h => ?_) (fun hb15 hkhb15 h => ?_)
 refine ck h (fun _ h => ?_)
 try simp only [*, go_sem]
 exact jc (true, (a6_2 ++ [x9.Key.tmod p0.c.Sites])) h.e [some 0, some 32, some 2, some 3, some 4, some 5, some 6, some 7]
 try simp only [*, go_sem]
 exact jc (false, a6_2) h.e [some 0, some 1, some 2, some 3, some 4, some 5, some 6, some 7]
 have := wrap_succ_max hkx9 hl3
 try simp only [*, go_sem]
 exact lc (a6_1 + 1, b13_2) h.e [some 0, some 1, some 2, some 3, some 4, some 5, some 6, some 7]
 try simp only [*, go_sem]
 refine jn0 h ([zP 0 0, zR 5 1 0 a6_2.length, zR 10 2 0 x1.Tasks.length, zI 11 ((x1.Tasks.length : Nat) : Int), zI 12 ((a6_1 : Nat) : Int), zP 1000000 0, zI 1000001 p1, (1000004, .one (.p (.q 3 p1.toNat 0))), zP 2000000 0]) ([ox [zi p0.c.Sites, .d (.l 2 (p0.c.Labels.map Label.enc)), zi p0.c.Patience, zi p0.l, zi p0.me, zi p0.turn.Desk.Next, .r 3 0 p0.turn.Desk.Jobs.length, .r 4 0 p0.turn.Messages.length, .r 5 0 p0.turn.Records.length, .r 6 0 p0.turn.Replies.length, zi p0.turn.Sure, zi p0.turn.Committed], oa 1 (a6_2.map encI), oa 8 (x1.Tasks.map Task.enc), og 6 (p0.turn.Desk.Jobs.map Job.encO) p1.toNat [zi x1.N, zi x1.State, .r 2 0 x1.Tasks.length, .r 7 0 x1.Asked.length, zi x1.Asks, zi x1.Age], oa 12 (p0.turn.Messages.map Message.enc), oa 8 (p0.turn.Records.map Record.enc), oa 6 (p0.turn.Replies.map Reply.enc), oa 1 (x1.Asked.map encI)]) (fun k19 h => ?_) (fun h => ?_)
 try simp only [*, go_sem]
 exact jc () h.e [some 0, some 1, some 2, some 3, some 4, some 5, some 6, some 7]
 have := wrap_succ_max hkx9 hl3
 try simp only [*, go_sem]
 exact lc (a6_1 + 1, a6_2) h.e [some 0, some 1, some 2, some 3, some 4, some 5, some 6, some 7]
 try simp only [*, go_sem]
 exact jc (a6_2) h.e [some 1, some 0, some 3, some 4, some 5, some 6, some 2, some 7]
 try simp only [*, go_sem]
 refine cx low195 fok195 ?_
 simp only [*, F195, go_sem]
 try simp only [*, go_sem]
 intro hl21
 try simp only [*, go_sem]
 refine jn1 h (fun b22_1 => [zR 1000005 0 0 b22_1.length, zP 2000000 1, zI 2000001 p1, (2000004, .one (.p (.q 2 p1.toNat 0))), zP 3000000 1]) (fun b22_1 => [oa 1 (b22_1.map encI), ox [zi p0.c.Sites, .d (.l 2 (p0.c.Labels.map Label.enc)), zi p0.c.Patience, zi p0.l, zi p0.me, zi p0.turn.Desk.Next, .r 2 0 p0.turn.Desk.Jobs.length, .r 3 0 p0.turn.Messages.length, .r 4 0 p0.turn.Records.length, .r 5 0 p0.turn.Replies.length, zi p0.turn.Sure, zi p0.turn.Committed], og 6 (p0.turn.Desk.Jobs.map Job.encO) p1.toNat [zi x1.N, zi x1.State, .r 6 0 x1.Tasks.length, .r 7 0 x1.Asked.length, zi x1.Asks, zi x1.Age], oa 12 (p0.turn.Messages.map Message.enc), oa 8 (p0.turn.Records.map Record.enc), oa 6 (p0.turn.Replies.map Reply.enc), oa 8 (x1.Tasks.map Task.enc), oa 1 (x1.Asked.map encI)]) (fun k23 h => ?_) (fun b22_1 h => ?_)
 try simp only [*, go_sem]
 refine cr h (math_bits_Len_ok G (IntKind.u64.wrap (((b4_1.length : Nat) : Int)))) (fun v24 h => ?_)
 try simp only [*, go_sem]
 refine cx low216 fok216 ?_
 simp only [*, F216, go_sem]
 refine jz ?_
 try simp only [*, go_sem]
 refine lp0 (coord_work_commit_L2 b4_1 k23) ([zR 0 0 0 b4_1.length, zI 1 0, zI 2 ((b4_1.length : Nat) : Int), zI 3 v24, zB 8 true, zB 9 true, zR 2000005 0 0 b4_1.length, zP 3000000 1, zI 3000001 p1, (3000004, .one (.p (.q 2 p1.toNat 0))), zP 4000000 1]) ([oa 1 (b4_1.map encI), ox [zi p0.c.Sites, .d (.l 2 (p0.c.Labels.map Label.enc)), zi p0.c.Patience, zi p0.l, zi p0.me, zi p0.turn.Desk.Next, .r 2 0 p0.turn.Desk.Jobs.length, .r 3 0 p0.turn.Messages.length, .r 4 0 p0.turn.Records.length, .r 5 0 p0.turn.Replies.length, zi p0.turn.Sure, zi p0.turn.Committed], og 6 (p0.turn.Desk.Jobs.map Job.encO) p1.toNat [zi x1.N, zi x1.State, .r 6 0 x1.Tasks.length, .r 7 0 x1.Asked.length, zi x1.Asks, zi x1.Age], oa 12 (p0.turn.Messages.map Message.enc), oa 8 (p0.turn.Records.map Record.enc), oa 6 (p0.turn.Replies.map Reply.enc), oa 8 (x1.Tasks.map Task.enc), oa 1 (x1.Asked.map encI)]) h [] [some 0, some 1, some 2, some 3, some 4, some 5, some 6, some 7] (fun n26 h => ?_) (by intros; rw [coord_work_commit_L2])
 rw [coord_work_commit_L2] at h
 refine oi h (fun hb27 h => ?_) (fun hb27 h => ?_)
 try simp only [*, go_sem]
 refine cx low229 fok229 ?_
 simp only [*, F229, go_sem]
 have : IntKind.i64.wrap (0 + 1) = 1 := by decide
 have : IntKind.i64.wrap 1 = 1 := by decide
 try simp only [*, go_sem]
 refine jn1 h (fun b29_1 => [zR 3000005 0 0 b29_1.length, zP 4000000 1, zI 4000001 p1, (4000004, .one (.p (.q 2 p1.toNat 0))), zP 5000000 1]) (fun b29_1 => [oa 1 (b29_1.map encI), ox [zi p0.c.Sites, .d (.l 2 (p0.c.Labels.map Label.enc)), zi p0.c.Patience, zi p0.l, zi p0.me, zi p0.turn.Desk.Next, .r 2 0 p0.turn.Desk.Jobs.length, .r 3 0 p0.turn.Messages.length, .r 4 0 p0.turn.Records.length, .r 5 0 p0.turn.Replies.length, zi p0.turn.Sure, zi p0.turn.Committed], og 6 (p0.turn.Desk.Jobs.map Job.encO) p1.toNat [zi x1.N, zi x1.State, .r 6 0 x1.Tasks.length, .r 7 0 x1.Asked.length, zi x1.Asks, zi x1.Age], oa 12 (p0.turn.Messages.map Message.enc), oa 8 (p0.turn.Records.map Record.enc), oa 6 (p0.turn.Replies.map Reply.enc), oa 8 (x1.Tasks.map Task.enc), oa 1 (x1.Asked.map encI)]) (fun k30 h => ?_) (fun b29_1 h => ?_)
 try simp only [*, go_sem]
 refine lp2 (coord_work_commit_L3 b4_1 k30) (fun a31_1 a31_2 => [zR 0 0 0 a31_2.length, zI 1 0, zI 2 ((b4_1.length : Nat) : Int), zI 6 ((a31_1 : Nat) : Int), zR 3000005 0 0 a31_2.length, zP 4000000 1, zI 4000001 p1, (4000004, .one (.p (.q 2 p1.toNat 0))), zP 5000000 1]) (fun a31_1 a31_2 => [oa 1 (a31_2.map encI), ox [zi p0.c.Sites, .d (.l 2 (p0.c.Labels.map Label.enc)), zi p0.c.Patience, zi p0.l, zi p0.me, zi p0.turn.Desk.Next, .r 2 0 p0.turn.Desk.Jobs.length, .r 3 0 p0.turn.Messages.length, .r 4 0 p0.turn.Records.length, .r 5 0 p0.turn.Replies.length, zi p0.turn.Sure, zi p0.turn.Committed], og 6 (p0.turn.Desk.Jobs.map Job.encO) p1.toNat [zi x1.N, zi x1.State, .r 6 0 x1.Tasks.length, .r 7 0 x1.Asked.length, zi x1.Asks, zi x1.Age], oa 12 (p0.turn.Messages.map Message.enc), oa 8 (p0.turn.Records.map Record.enc), oa 6 (p0.turn.Replies.map Reply.enc), oa 8 (x1.Tasks.map Task.enc), oa 1 (x1.Asked.map encI)]) h [] [some 0, some 1, some 2, some 3, some 4, some 5, some 6, some 7] (fun n32 a31_1 a31_2 h => ?_) (by intros; rw [coord_work_commit_L3])
 rw [coord_work_commit_L3] at h
 refine oi h (fun hb33 h => ?_) (fun hb33 h => ?_)
 have hkhb33 := of_decide_eq_true hb33
 try simp only [*, go_sem]
 refine jn1 h (fun b34_1 => [zR 0 0 0 b34_1.length, zI 1 0, zI 2 ((b4_1.length : Nat) : Int), zI 6 ((a31_1 : Nat) : Int), zR 3000005 0 0 b34_1.length, zP 4000000 1, zI 4000001 p1, (4000004, .one (.p (.q 2 p1.toNat 0))), zP 5000000 1]) (fun b34_1 => [oa 1 (b34_1.map encI), ox [zi p0.c.Sites, .d (.l 2 (p0.c.Labels.map Label.enc)), zi p0.c.Patience, zi p0.l, zi p0.me, zi p0.turn.Desk.Next, .r 2 0 p0.turn.Desk.Jobs.length, .r 3 0 p0.turn.Messages.length, .r 4 0 p0.turn.Records.length, .r 5 0 p0.turn.Replies.length, zi p0.turn.Sure, zi p0.turn.Committed], og 6 (p0.turn.Desk.Jobs.map Job.encO) p1.toNat [zi x1.N, zi x1.State, .r 6 0 x1.Tasks.length, .r 7 0 x1.Asked.length, zi x1.Asks, zi x1.Age], oa 12 (p0.turn.Messages.map Message.enc), oa 8 (p0.turn.Records.map Record.enc), oa 6 (p0.turn.Replies.map Reply.enc), oa 8 (x1.Tasks.map Task.enc), oa 1 (x1.Asked.map encI)]) (fun k35 h => ?_) (fun b34_1 h => ?_)
 try simp only [*, go_sem]
 refine lp2 (coord_work_commit_L4 k35) (fun a36_1 a36_2 => [zR 0 0 0 a36_2.length, zI 1 0, zI 2 ((b4_1.length : Nat) : Int), zI 6 ((a31_1 : Nat) : Int), zI 7 a36_1, zR 3000005 0 0 a36_2.length, zP 4000000 1, zI 4000001 p1, (4000004, .one (.p (.q 2 p1.toNat 0))), zP 5000000 1]) (fun a36_1 a36_2 => [oa 1 (a36_2.map encI), ox [zi p0.c.Sites, .d (.l 2 (p0.c.Labels.map Label.enc)), zi p0.c.Patience, zi p0.l, zi p0.me, zi p0.turn.Desk.Next, .r 2 0 p0.turn.Desk.Jobs.length, .r 3 0 p0.turn.Messages.length, .r 4 0 p0.turn.Records.length, .r 5 0 p0.turn.Replies.length, zi p0.turn.Sure, zi p0.turn.Committed], og 6 (p0.turn.Desk.Jobs.map Job.encO) p1.toNat [zi x1.N, zi x1.State, .r 6 0 x1.Tasks.length, .r 7 0 x1.Asked.length, zi x1.Asks, zi x1.Age], oa 12 (p0.turn.Messages.map Message.enc), oa 8 (p0.turn.Records.map Record.enc), oa 6 (p0.turn.Replies.map Reply.enc), oa 8 (x1.Tasks.map Task.enc), oa 1 (x1.Asked.map encI)]) h [] [some 0, some 1, some 2, some 3, some 4, some 5, some 6, some 7] (fun n37 a36_1 a36_2 h => ?_) (by intros; rw [coord_work_commit_L4])
 rw [coord_work_commit_L4] at h
 refine oi h (fun hb38 h => ?_) (fun hb38 h => ?_)
 refine obn h (fun x39 _ _ _ _ h => ?_)
 refine obn h (fun x41 _ _ _ _ h => ?_)
 refine obk h (fun v43 hv43 h => ?_)
 try simp only [*, go_sem]
 refine cd (cmp_Less_ok G x39 x41 v43 hv43) ?_
 refine oi h (fun hb44 h => ?_) (fun hb44 h => ?_)
 refine ck h (fun _ h => ?_)
 refine obg h (fun x45 hx45 hkx45 h => ?_)
 try simp only [List.length_take, List.length_drop, List.length_append, List.length_set, List.length_map, List.length_cons, List.length_nil, Nat.zero_add] at hkx45
 have : IntKind.i64.wrap (a36_1 - 1) < ((a36_2.length : Nat) : Int) := by omega
 have : ((a36_2.map encI).set a36_1.toNat [.i .i64 x41])[(IntKind.i64.wrap (a36_1 - 1)).toNat]? = some [.i .i64 x45] := by rw [show ([.i .i64 x41] : List D) = encI x41 from rfl, ← List.map_set, List.getElem?_map, hx45]; rfl
 try simp only [*, go_sem]
 exact lc (IntKind.i64.wrap (a36_1 - 1), ((a36_2.set a36_1.toNat x41).set ((IntKind.i64.wrap (a36_1 - 1)).toNat) x39)) h.e [some 0, some 1, some 2, some 3, some 4, some 5, some 6, some 7]
 try simp only [*, go_sem]
 exact jc (a36_2) h.e [some 0, some 1, some 2, some 3, some 4, some 5, some 6, some 7]
 try simp only [*, go_sem]
 exact jc (a36_2) h.e [some 0, some 1, some 2, some 3, some 4, some 5, some 6, some 7]
 have := wrap_succ_max hkhb33 hl21
 try simp only [*, go_sem]
 exact lc (a31_1 + 1, b34_1) h.e [some 0, some 1, some 2, some 3, some 4, some 5, some 6, some 7]
 try simp only [*, go_sem]
 exact jc (a31_2) h.e [some 0, some 1, some 2, some 3, some 4, some 5, some 6, some 7]
 try simp only [*, go_sem]
 exact jc (b29_1) h.e [some 0, some 1, some 2, some 3, some 4, some 5, some 6, some 7]
 cases h.e
 try simp only [*, go_sem]
 refine cx low110 fok110 ?_
 simp only [*, F110, go_sem]
 try simp only [*, go_sem]
 refine gho_lk _ G _ _ [] ?_
 try simp only [*, go_sem]
 refine ck h (fun _ h => ?_)
 try simp only [*, go_sem]
 intro hl50
 refine oi h (fun hb51 h => ?_) (fun hb51 h => ?_)
 try simp only [*, go_sem]
 refine cx low116 fok116 ?_
 simp only [*, F116, go_sem]
 try simp only [*, go_sem]
 refine gho_lk _ G _ _ [.u 2] ?_
 try simp only [*, go_sem]
 refine obk h (fun v52 hv52 h => ?_)
 try simp only [*, go_sem]
 refine delete_callFT (p0.turn.Desk.Jobs.set p1.toNat x1) del164 (enc := Job.encO) hv52 (by first | rfl | (simp only [*, go_sem]; done) | (simp only [*, go_sem, List.map_set, List.map_append, List.map_cons, List.map_nil]; done)) (by first | rfl | simp only [List.length_take, List.length_drop, List.length_append, List.length_set, List.length_map, List.length_cons, List.length_nil, Nat.zero_add, List.length_set]) ?_
 cases h.e
 try simp only [*, go_sem]
 refine eti [] ?_
 simp only [*, go_sem, mA, mS]
 try simp only [*, go_sem]
 refine cl h (slices_ContainsFunc_Task_ok G x1.Tasks (fun y53 => coord_work_commit_1 y53) 161 [] (fun y53 r h => coord_work_commit_1_ok G y53 r h)) (fun v54 h => ?_)
 try simp only [*, go_sem]
 refine jn1 h (fun b55_1 => [zP 0 0, (4, .one (.p (.q 1 p1.toNat 0))), zR 5 2 0 b22_1.length, zP 1000000 0]) (fun b55_1 => [ox [zi p0.c.Sites, .d (.l 2 (p0.c.Labels.map Label.enc)), zi p0.c.Patience, zi p0.l, zi p0.me, zi p0.turn.Desk.Next, .r 1 0 p0.turn.Desk.Jobs.length, .r 3 0 p0.turn.Messages.length, .r 4 0 b55_1.length, .r 5 0 (p0.turn.Replies.length + 1), zi p0.turn.Sure, zi x1.N], og 6 (p0.turn.Desk.Jobs.map Job.encO) p1.toNat [zi x1.N, zi x1.State, .r 6 0 x1.Tasks.length, .r 7 0 x1.Asked.length, zi x1.Asks, zi x1.Age], oa 1 (b22_1.map encI), oa 12 (p0.turn.Messages.map Message.enc), oa 8 (b55_1.map Record.enc), oa 6 ((p0.turn.Replies ++ [(Reply.mk p0.me 4 x1.N 0 0 0)]).map Reply.enc), oa 8 (x1.Tasks.map Task.enc), oa 1 (x1.Asked.map encI)]) (fun k56 h => ?_) (fun b55_1 h => ?_)
 refine oi h (fun hb57 h => ?_) (fun hb57 h => ?_)
 refine obk h (fun v58 hv58 h => ?_)
 try simp only [*, go_sem]
 refine cdl (clone157_ok G b22_1 v58 hv58) ?_
 try simp only [*, go_sem]
 refine cx low115 fok115 ?_
 simp only [*, F115, go_sem]
 try simp only [*, go_sem]
 refine gho_lk _ G _ _ [.z 36] ?_
 try simp only [*, go_sem]
 refine ck h (fun _ h => ?_)
 try simp only [*, go_sem]
 exact jc ((p0.turn.Records ++ [(Record.mk 3 (Txn.mk p0.me x1.N) 0 0 0 false v58)])) h.e [some 1, some 2, some 0, some 3, some 53, some 25, some 6, some 7]
 try simp only [*, go_sem]
 exact jc (p0.turn.Records) h.e [some 1, some 2, some 0, some 3, some 4, some 25, some 6, some 7]
 try simp only [*, go_sem]
 refine cx low162 fok162 ?_
 simp only [*, F162, go_sem]
 try simp only [*, go_sem]
 refine gho_lk _ G _ _ [] ?_
 try simp only [*, go_sem]
 try simp only [*, go_sem]
 refine gho_lk _ G _ _ [] ?_
 try simp only [*, go_sem]
 try simp only [*, go_sem]
 intro hl60
 try simp only [*, go_sem]
 refine jn1 h (fun b61_1 => [zP 2000000 0]) (fun b61_1 => [ox [zi p0.c.Sites, .d (.l 2 (p0.c.Labels.map Label.enc)), zi p0.c.Patience, zi p0.l, zi p0.me, zi p0.turn.Desk.Next, .r 1 0 p0.turn.Desk.Jobs.length, .r 2 0 b61_1.length, .r 3 0 b55_1.length, .r 4 0 (p0.turn.Replies.length + 1), zi p0.turn.Sure, zi x1.N], ot 6 ((p0.turn.Desk.Jobs.set p1.toNat (Job.mk x1.N 3 x1.Tasks b22_1 x1.Asks 0)).map Job.encO), oa 12 (b61_1.map Message.enc), oa 8 (b55_1.map Record.enc), oa 6 ((p0.turn.Replies ++ [(Reply.mk p0.me 4 x1.N 0 0 0)]).map Reply.enc)]) (fun k62 h => ?_) (fun b61_1 h => ?_)
 try simp only [*, go_sem]
 refine lp2 (coord_work_commit_L5 p0 x1 b22_1 k62) (fun a63_1 a63_2 => [zP 0 0, zP 3 1, zR 7 2 0 b22_1.length, zI 8 ((b22_1.length : Nat) : Int), zI 9 ((a63_1 : Nat) : Int), zP 2000000 0]) (fun a63_1 a63_2 => [ox [zi p0.c.Sites, .d (.l 2 (p0.c.Labels.map Label.enc)), zi p0.c.Patience, zi p0.l, zi p0.me, zi p0.turn.Desk.Next, .r 3 0 p0.turn.Desk.Jobs.length, .r 4 0 a63_2.length, .r 5 0 b55_1.length, .r 6 0 (p0.turn.Replies.length + 1), zi p0.turn.Sure, zi x1.N], ox [zi x1.N, zi 3, .r 7 0 x1.Tasks.length, .r 2 0 b22_1.length, zi x1.Asks, zi 0], oa 1 (b22_1.map encI), og 6 (p0.turn.Desk.Jobs.map Job.encO) p1.toNat [zi x1.N, zi 3, .r 7 0 x1.Tasks.length, .r 2 0 b22_1.length, zi x1.Asks, zi 0], oa 12 (a63_2.map Message.enc), oa 8 (b55_1.map Record.enc), oa 6 ((p0.turn.Replies ++ [(Reply.mk p0.me 4 x1.N 0 0 0)]).map Reply.enc), oa 8 (x1.Tasks.map Task.enc)]) h [] [some 0, some 8, some 2, some 1, some 3, some 4, some 5, some 6] (fun n64 a63_1 a63_2 h => ?_) (by intros; rw [coord_work_commit_L5])
 rw [coord_work_commit_L5] at h
 try simp only [*, go_sem]
 refine gho_lk _ G _ _ [] ?_
 try simp only [*, go_sem]
 refine oi h (fun hb65 h => ?_) (fun hb65 h => ?_)
 have := of_decide_eq_true hb65
 refine obg h (fun x66 _ hkx66 h => ?_)
 try simp only [*, go_sem]
 refine gho_lk _ G _ _ [] ?_
 try simp only [*, go_sem]
 try simp only [*, go_sem]
 refine gho_lk _ G _ _ [] ?_
 try simp only [*, go_sem]
 try simp only [*, go_sem]
 refine cx low108 fok108 ?_
 simp only [*, F108, go_sem]
 try simp only [*, go_sem]
 refine gho_lk _ G _ _ [] ?_
 try simp only [*, go_sem]
 try simp only [*, go_sem]
 refine gho_lk _ G _ _ [] ?_
 try simp only [*, go_sem]
 refine ck h (fun hf67 h => ?_)
 try simp only [*, go_sem]
 refine gho_lk _ G _ _ [] ?_
 try simp only [*, go_sem]
 have : IntKind.i64.wrap (((a63_2.length + 1 : Nat) : Int) - 1) = ((a63_2.length : Nat) : Int) := wrap_pred hf67.2
 have : (a63_2 ++ [(Message.mk 4 p0.me x66 (Txn.mk p0.me x1.N) 0 0 0 0 0 false 0)])[a63_2.length]? = some (Message.mk 4 p0.me x66 (Txn.mk p0.me x1.N) 0 0 0 0 0 false 0) := List.getElem?_concat_length
 have : a63_2.length < a63_2.length + 1 := Nat.lt_succ_self _
 try simp only [*, go_sem]
 refine gho_lk _ G _ _ [] ?_
 try simp only [*, go_sem]
 try simp only [*, go_sem]
 refine gho_lk _ G _ _ [] ?_
 try simp only [*, go_sem]
 have := wrap_succ_max hkx66 hl50
 try simp only [*, go_sem]
 exact lc (a63_1 + 1, (a63_2 ++ [(Message.mk 4 p0.me x66 (Txn.mk p0.me x1.N) 0 0 0 0 0 true 0)])) h.e [some 0, some 1, some 2, some 3, some 28, some 5, some 6, some 7]
 try simp only [*, go_sem]
 exact jf [.u 3] (a63_2) h.e [some 0, some 3, some 4, some 5, some 6]
 cases h.e
 try simp only [*, go_sem]
 refine etn [] ?_
 simp only [*, go_sem, mA, mS]
def coord_work_sure_L1 (p2 : Message) (x1 : Job) (k10 : Bool → Bool → (List Task) → Option (CoordWork)) : Nat → Bool → Bool → Nat → (List Task) → Option (CoordWork)
 | 0, _, _, _, _ => none
 | n12 + 1, a11_1, a11_2, a11_3, a11_4 => (if (decide (a11_3 < x1.Tasks.length)) = true then (Option.bind (a11_4[a11_3]?) fun x14 => (withK (fun (b15_1 : Bool) (b15_2 : List Task) => (if a11_2 = true then (coord_work_sure_L1 p2 x1 k10 n12 b15_1 true (a11_3 + 1) b15_2) else (Option.bind (b15_2[a11_3]?) fun x24 => (if (!x24.Write) = true then (coord_work_sure_L1 p2 x1 k10 n12 b15_1 (!x24.Sure) (a11_3 + 1) b15_2) else (coord_work_sure_L1 p2 x1 k10 n12 b15_1 false (a11_3 + 1) b15_2))))) fun k16 => (if (!x14.Write) = true then (if (x14.Label == p2.Label) = true then (if (x14.Key == p2.Key) = true then (if (x14.Version == p2.Version) = true then (if x14.Sure = true then (k16 true (a11_4.set a11_3 (Task.mk x14.Write x14.Label x14.Key x14.Value x14.Version x14.Ask x14.Done true))) else (k16 true (a11_4.set a11_3 (Task.mk x14.Write x14.Label x14.Key x14.Value x14.Version x14.Ask x14.Done p2.Yes)))) else (k16 a11_1 a11_4)) else (k16 a11_1 a11_4)) else (k16 a11_1 a11_4)) else (k16 a11_1 a11_4)))) else (k10 a11_1 a11_2 a11_4))
def coord_work_sure (p0 : CoordWork) (p1 : Int) (p2 : Message) : Option (CoordWork) := (if 0 ≤ p1 then (Option.bind (p0.turn.Desk.Jobs[p1.toNat]?) fun x1 => (withK (withK (fun (b9_1 : Bool) (b9_2 : Bool) (b9_3 : List Task) => (withK (fun (b28_1 : Int) (b28_2 : List Label) (b28_3 : Int) (b28_4 : Int) (b28_5 : Int) (b28_6 : Int) (b28_7 : Int) (b28_8 : Int) (b28_9 : List Job) (b28_10 : List Message) (b28_11 : List Record) (b28_12 : List Reply) => (some (CoordWork.mk (Config.mk b28_1 b28_2 b28_3) b28_4 b28_5 (Turn.mk (Desk.mk b28_6 b28_9) b28_10 b28_11 b28_12 b28_7 b28_8)))) fun k29 => (if (!b9_1) = true then (k29 p0.c.Sites p0.c.Labels p0.c.Patience p0.l p0.me p0.turn.Desk.Next p0.turn.Sure p0.turn.Committed (p0.turn.Desk.Jobs.set p1.toNat (Job.mk x1.N x1.State b9_3 x1.Asked x1.Asks x1.Age)) p0.turn.Messages p0.turn.Records p0.turn.Replies) else (withK (fun (b31_1 : Int) (b31_2 : List Label) (b31_3 : Int) (b31_4 : Int) (b31_5 : Int) (b31_6 : Int) (b31_7 : Int) (b31_8 : Int) (b31_9 : List Job) (b31_10 : List Message) (b31_11 : List Record) (b31_12 : List Reply) => (k29 b31_1 b31_2 b31_3 b31_4 b31_5 b31_6 b31_7 b31_8 b31_9 b31_10 b31_11 b31_12)) fun k32 => (if (!p2.Yes) = true then (if fits 48 (p0.turn.Replies.length + 1) then (Option.bind (coord_work_end (CoordWork.mk p0.c p0.l p0.me (Turn.mk (Desk.mk p0.turn.Desk.Next (p0.turn.Desk.Jobs.set p1.toNat (Job.mk x1.N x1.State b9_3 x1.Asked x1.Asks x1.Age))) p0.turn.Messages p0.turn.Records (p0.turn.Replies ++ [(Reply.mk p0.me 4 x1.N 0 0 11)]) p0.turn.Sure p0.turn.Committed)) p1) fun v35 => (k32 v35.c.Sites v35.c.Labels v35.c.Patience v35.l v35.me v35.turn.Desk.Next v35.turn.Sure v35.turn.Committed v35.turn.Desk.Jobs v35.turn.Messages v35.turn.Records v35.turn.Replies)) else none) else (withK (fun (b36_1 : Int) (b36_2 : List Label) (b36_3 : Int) (b36_4 : Int) (b36_5 : Int) (b36_6 : Int) (b36_7 : Int) (b36_8 : Int) (b36_9 : List Job) (b36_10 : List Message) (b36_11 : List Record) (b36_12 : List Reply) => (k32 b36_1 b36_2 b36_3 b36_4 b36_5 b36_6 b36_7 b36_8 b36_9 b36_10 b36_11 b36_12)) fun k37 => (if (!b9_2) = true then (Option.bind (coord_work_commit (CoordWork.mk p0.c p0.l p0.me (Turn.mk (Desk.mk p0.turn.Desk.Next (p0.turn.Desk.Jobs.set p1.toNat (Job.mk x1.N x1.State b9_3 x1.Asked x1.Asks x1.Age))) p0.turn.Messages p0.turn.Records p0.turn.Replies p0.turn.Sure p0.turn.Committed)) p1) fun v39 => (k37 v39.c.Sites v39.c.Labels v39.c.Patience v39.l v39.me v39.turn.Desk.Next v39.turn.Sure v39.turn.Committed v39.turn.Desk.Jobs v39.turn.Messages v39.turn.Records v39.turn.Replies)) else (k37 p0.c.Sites p0.c.Labels p0.c.Patience p0.l p0.me p0.turn.Desk.Next p0.turn.Sure p0.turn.Committed (p0.turn.Desk.Jobs.set p1.toNat (Job.mk x1.N x1.State b9_3 x1.Asked x1.Asks x1.Age)) p0.turn.Messages p0.turn.Records p0.turn.Replies)))))))) fun k10 => (coord_work_sure_L1 p2 x1 k10 (x1.Tasks.length + 1) false false 0 x1.Tasks)) fun k4 => (if (x1.State != 2) = true then (some p0) else (if p0.c.Sites = 0 then none else (if (p2.From != p2.Key.tmod p0.c.Sites) = true then (some p0) else k4))))) else none)
def F50 : VFn := ⟨132, (.seq (.reg [vo 5 (.boxk 12 (.t 2))]) (.seq (.reg [vm 11 0, vo 12 (.nilchk (.t 11)), vf 13 5 12, vf 14 0 13, vf 15 1 14, vs 16 15, vm 17 1, xa 18 6 16 17, vm 6 18]) (.seq (.wk (.seq (.draw [vd (vm 19 6) 0, vd (vo 20 (.nilchk (.t 19))) 1, vd (vf 21 1 20) 3, vd (vs 22 21) 7, vd (bk 23 .neq 22 2) 15, vd (vm 24 23) 31, vd (gf 25 24 (.fa 1 (.t 5))) 63, vd (gf 26 24 (.ld false 1 (.t 25))) 127, vd (gf 27 24 (.fa 6 (.t 5))) 63, vd (gf 28 24 (.ld false 1 (.t 27))) 319, vd (gf 29 24 (.mv (.t 0))) 63, vd (gf 30 24 (.nilchk (.t 29))) 1087, vd (gf 31 24 (.fa 0 (.t 30))) 3135, vd (gf 32 24 (.fa 0 (.t 31))) 7231, vd (gf 33 24 (.ld false 1 (.t 32))) 0x3c3f, vd (gf 34 24 (.bin .i .rem (.t 28) (.t 33))) 0x7f3f, vd (gf 35 24 (.bin .i .neq (.t 26) (.t 34))) 0xffff, vd (vo 36 (.pick (.t 24) (cb true) (.t 35))) 0x1ffff]) (.cond (.t 36) .ret .skip))) (.seq (.reg [vo 7 (.mv (cb false)), vo 8 (.mv (cb false))]) (.seq (.seq (.gho (.reg [vm 37 6, vo 38 (.nilchk (.t 37)), vf 39 2 38, vs 40 39, ln 41 40, mi 42 0])) (.wk (.block 0 (.loop (.seq (.reg [bt 43 .lss 42 41]) (.seq (.cond (.t 43) .skip (.exit 0)) (.seq (.block 1 (.seq (.reg [vm 44 42, vm 9 44]) (.seq (.reg [vm 45 6, vo 46 (.nilchk (.t 45)), vf 47 2 46, vs 48 47, vm 49 9, xa 50 8 48 49, vm 10 50]) (.seq (.wk (.seq (.draw [vd (vm 51 10) 0, vd (vo 52 (.nilchk (.t 51))) 1, vd (vf 53 0 52) 3, vd (vs 54 53) 7, vd (nt 55 54) 15, vd (vm 56 55) 31, vd (gt 57 56 (.mv (.t 10))) 63, vd (gt 58 56 (.nilchk (.t 57))) 127, vd (gt 59 56 (.fa 1 (.t 58))) 255, vd (gt 60 56 (.ld false 1 (.t 59))) 511, vd (gt 61 56 (.fa 5 (.t 5))) 63, vd (gt 62 56 (.ld false 1 (.t 61))) 1087, vd (gt 63 56 (.bin .i .eql (.t 60) (.t 62))) 4095, vd (vo 64 (.pick (.t 56) (.t 63) (cb false))) 8191, vd (vm 65 64) 0x3fff, vd (gt 66 65 (.mv (.t 10))) 0x7fff, vd (gt 67 65 (.nilchk (.t 66))) 0xffff, vd (gt 68 65 (.fa 2 (.t 67))) 0x1ffff, vd (gt 69 65 (.ld false 1 (.t 68))) 0x3ffff, vd (gt 70 65 (.fa 6 (.t 5))) 0x7fff, vd (gt 71 65 (.ld false 1 (.t 70))) 0x87fff, vd (gt 72 65 (.bin .i .eql (.t 69) (.t 71))) 0x1fffff, vd (vo 73 (.pick (.t 65) (.t 72) (cb false))) 0x3fffff, vd (vm 74 73) 0x7fffff, vd (gt 75 74 (.mv (.t 10))) 0xffffff, vd (gt 76 74 (.nilchk (.t 75))) 0x1ffffff, vd (gt 77 74 (.fa 4 (.t 76))) 0x3ffffff, vd (gt 78 74 (.ld false 1 (.t 77))) 0x7ffffff, vd (gt 79 74 (.fa 8 (.t 5))) 0xffffff, vd (gt 80 74 (.ld false 1 (.t 79))) 0x10ffffff, vd (gt 81 74 (.bin .i .eql (.t 78) (.t 80))) 0x3fffffff, vd (vo 82 (.pick (.t 74) (.t 81) (cb false))) 0x7fffffff]) (.cond (.t 82) (.seq (.reg [vo 7 (.mv (cb true))]) (.reg [vm 83 10, vm 84 10, vo 85 (.nilchk (.t 84)), vf 86 7 85, vs 87 86, vm 88 87, gf 89 88 (.fa 10 (.t 5)), gf 90 88 (.ld false 1 (.t 89)), vo 91 (.pick (.t 88) (cb true) (.t 90)), vo 92 (.nilchk (.t 83)), vf 93 7 92, vu (.st 1 (.t 93) (.t 91))])) .skip))) (.reg [vm 94 8, vm 95 94, gf 96 95 (.mv (.t 10)), gf 97 95 (.nilchk (.t 96)), gf 98 95 (.fa 0 (.t 97)), gf 99 95 (.ld false 1 (.t 98)), gf 100 95 (.un .not (.t 99)), gf 101 95 (.mv (.t 100)), gt 102 101 (.mv (.t 10)), gt 103 101 (.nilchk (.t 102)), gt 104 101 (.fa 7 (.t 103)), gt 105 101 (.ld false 1 (.t 104)), gt 106 101 (.un .not (.t 105)), gf 107 95 (.pick (.t 101) (.t 106) (cb false)), vo 108 (.pick (.t 95) (cb true) (.t 107)), vm 8 108]))))) (.reg [bk 109 .add 42 1, vm 42 109])))))))) (.block 2 (.seq (.reg [vm 111 7, nt 112 111, vm 110 112]) (.wk (.cond (.t 110) .skip (.seq (.reg [vf 114 10 5, vs 115 114, nt 116 115, vm 113 116]) (.wk (.cond (.t 113) (.seq (.reg [vm 117 0, vm 118 6, vo 119 (.nilchk (.t 118)), vf 120 0 119, vs 121 120, vo 122 (.call 110 [(.t 117), (ci 4), (.t 121), (ci 0), (ci 0), (ci 11)])]) (.gho (.reg [vm 123 0, vm 124 1, vo 125 (.call 111 [(.t 123), (.t 124)])]))) (.seq (.reg [vm 127 8, nt 128 127, vm 126 128]) (.wk (.cond (.t 126) (.gho (.reg [vm 129 0, vm 130 1, vo 131 (.call 112 [(.t 129), (.t 130)])])) .skip))))))))))))))), []⟩
theorem low50 : lowF Tryd.prog 50 = some F50.strip := by kernel_rfl
theorem fok50 : fOk Tryd.prog 50 = true := by kernel_rfl
theorem coord_work_sure_ok (p0 : CoordWork) (p1 : Int) (p2 : Message) (r : CoordWork) (h : coord_work_sure p0 p1 p2 = some r) : FnX Tryd.prog G 50 [ptrX, .one (.d (.i .i64 p1)), .agg p2.bx] [.i .i64 p0.c.Sites, .l 2 (p0.c.Labels.map Label.enc), .i .i64 p0.c.Patience, .i .i64 p0.l, .i .i64 p0.me, .i .i64 p0.turn.Desk.Next, .t 6 (p0.turn.Desk.Jobs.map Job.encO), .o 12 (p0.turn.Messages.map Message.enc), .o 8 (p0.turn.Records.map Record.enc), .o 6 (p0.turn.Replies.map Reply.enc), .i .i64 p0.turn.Sure, .i .i64 p0.turn.Committed] (fun c rs => c = [.i .i64 r.c.Sites, .l 2 (r.c.Labels.map Label.enc), .i .i64 r.c.Patience, .i .i64 r.l, .i .i64 r.me, .i .i64 r.turn.Desk.Next, .t 6 (r.turn.Desk.Jobs.map Job.encO), .o 12 (r.turn.Messages.map Message.enc), .o 8 (r.turn.Records.map Record.enc), .o 6 (r.turn.Replies.map Reply.enc), .i .i64 r.turn.Sure, .i .i64 r.turn.Committed] ∧ rs = []) := by
 refine FnX.of [0, 1, 0, 0, 0, 0, 2] low50 fok50 (by exact Nat.le_of_ble_eq_true rfl) (by exact Nat.le_of_ble_eq_true rfl) ?_
 rw [coord_work_sure] at h
 replace h := Hd.mk h
 simp only [F50, go_sem]
 refine obn h (fun x1 _ _ _ _ h => ?_)
 try simp only [*, go_sem]
 refine jn0 h ([zP 0 0, zI 1 p1, zK 5 (Message.enc p2), (6, .one (.p (.q 1 p1.toNat 0))), zP 1000000 0]) ([ox [zi p0.c.Sites, .d (.l 2 (p0.c.Labels.map Label.enc)), zi p0.c.Patience, zi p0.l, zi p0.me, zi p0.turn.Desk.Next, .r 1 0 p0.turn.Desk.Jobs.length, .r 2 0 p0.turn.Messages.length, .r 3 0 p0.turn.Records.length, .r 4 0 p0.turn.Replies.length, zi p0.turn.Sure, zi p0.turn.Committed], ot 6 (p0.turn.Desk.Jobs.map Job.encO), oa 12 (p0.turn.Messages.map Message.enc), oa 8 (p0.turn.Records.map Record.enc), oa 6 (p0.turn.Replies.map Reply.enc)]) (fun k4 h => ?_) (fun h => ?_)
 refine oi h (fun hb5 h => ?_) (fun hb5 h => ?_)
 cases h.e
 try simp only [*, go_sem]
 refine eti [] ?_
 simp only [*, go_sem, mA, mS]
 refine ckn h (fun _ h => ?_)
 refine oi h (fun hb7 h => ?_) (fun hb7 h => ?_)
 cases h.e
 try simp only [*, go_sem]
 refine eti [] ?_
 simp only [*, go_sem, mA, mS]
 try simp only [*, go_sem]
 exact jc () h.e [some 0, some 1, some 2, some 3, some 4]
 try simp only [*, go_sem]
 refine gho_lk _ G _ _ [.f 1 p1.toNat] ?_
 try simp only [*, go_sem]
 try simp only [*, go_sem]
 intro hl8
 try simp only [*, go_sem]
 refine jn3 h (fun b9_1 b9_2 b9_3 => [zP 0 0, zI 1 p1, zK 5 (Message.enc p2), (6, .one (.p (.q 1 p1.toNat 0))), zB 7 b9_1, zB 8 b9_2, zP 1000000 0]) (fun b9_1 b9_2 b9_3 => [ox [zi p0.c.Sites, .d (.l 2 (p0.c.Labels.map Label.enc)), zi p0.c.Patience, zi p0.l, zi p0.me, zi p0.turn.Desk.Next, .r 1 0 p0.turn.Desk.Jobs.length, .r 2 0 p0.turn.Messages.length, .r 3 0 p0.turn.Records.length, .r 4 0 p0.turn.Replies.length, zi p0.turn.Sure, zi p0.turn.Committed], og 6 (p0.turn.Desk.Jobs.map Job.encO) p1.toNat [zi x1.N, zi x1.State, .r 5 0 b9_3.length, .r 6 0 x1.Asked.length, zi x1.Asks, zi x1.Age], oa 12 (p0.turn.Messages.map Message.enc), oa 8 (p0.turn.Records.map Record.enc), oa 6 (p0.turn.Replies.map Reply.enc), oa 8 (b9_3.map Task.enc), oa 1 (x1.Asked.map encI)]) (fun k10 h => ?_) (fun b9_1 b9_2 b9_3 h => ?_)
 try simp only [*, go_sem]
 refine lp4 (coord_work_sure_L1 p2 x1 k10) (fun a11_1 a11_2 a11_3 a11_4 => [zP 0 0, zI 1 p1, zK 5 (Message.enc p2), (6, .one (.p (.q 1 p1.toNat 0))), zB 7 a11_1, zB 8 a11_2, zI 41 ((x1.Tasks.length : Nat) : Int), zI 42 ((a11_3 : Nat) : Int), zP 1000000 0]) (fun a11_1 a11_2 a11_3 a11_4 => [ox [zi p0.c.Sites, .d (.l 2 (p0.c.Labels.map Label.enc)), zi p0.c.Patience, zi p0.l, zi p0.me, zi p0.turn.Desk.Next, .r 1 0 p0.turn.Desk.Jobs.length, .r 2 0 p0.turn.Messages.length, .r 3 0 p0.turn.Records.length, .r 4 0 p0.turn.Replies.length, zi p0.turn.Sure, zi p0.turn.Committed], og 6 (p0.turn.Desk.Jobs.map Job.encO) p1.toNat [zi x1.N, zi x1.State, .r 5 0 a11_4.length, .r 6 0 x1.Asked.length, zi x1.Asks, zi x1.Age], oa 12 (p0.turn.Messages.map Message.enc), oa 8 (p0.turn.Records.map Record.enc), oa 6 (p0.turn.Replies.map Reply.enc), oa 8 (a11_4.map Task.enc), oa 1 (x1.Asked.map encI)]) h [] [some 0, some 1, some 2, some 3, some 4, some 5, some 6] (fun n12 a11_1 a11_2 a11_3 a11_4 h => ?_) (by intros; rw [coord_work_sure_L1])
 rw [coord_work_sure_L1] at h
 refine oi h (fun hb13 h => ?_) (fun hb13 h => ?_)
 have hkhb13 := of_decide_eq_true hb13
 refine obg h (fun x14 _ _ h => ?_)
 try simp only [*, go_sem]
 refine jn2 h (fun b15_1 b15_2 => [zP 0 0, zI 1 p1, zK 5 (Message.enc p2), (6, .one (.p (.q 1 p1.toNat 0))), zB 7 b15_1, zB 8 a11_2, (10, .one (.p (.q 2 a11_3 0))), zI 41 ((x1.Tasks.length : Nat) : Int), zI 42 ((a11_3 : Nat) : Int), zP 1000000 0]) (fun b15_1 b15_2 => [ox [zi p0.c.Sites, .d (.l 2 (p0.c.Labels.map Label.enc)), zi p0.c.Patience, zi p0.l, zi p0.me, zi p0.turn.Desk.Next, .r 1 0 p0.turn.Desk.Jobs.length, .r 3 0 p0.turn.Messages.length, .r 4 0 p0.turn.Records.length, .r 5 0 p0.turn.Replies.length, zi p0.turn.Sure, zi p0.turn.Committed], og 6 (p0.turn.Desk.Jobs.map Job.encO) p1.toNat [zi x1.N, zi x1.State, .r 2 0 b15_2.length, .r 6 0 x1.Asked.length, zi x1.Asks, zi x1.Age], oa 8 (b15_2.map Task.enc), oa 12 (p0.turn.Messages.map Message.enc), oa 8 (p0.turn.Records.map Record.enc), oa 6 (p0.turn.Replies.map Reply.enc), oa 1 (x1.Asked.map encI)]) (fun k16 h => ?_) (fun b15_1 b15_2 h => ?_)
 refine oin h (fun hb17 hkhb17 h => ?_) (fun hb17 hkhb17 h => ?_)
 refine oi h (fun hb18 h => ?_) (fun hb18 h => ?_)
 refine oi h (fun hb19 h => ?_) (fun hb19 h => ?_)
 refine oi h (fun hb20 h => ?_) (fun hb20 h => ?_)
 refine oi h (fun hb21 h => ?_) (fun hb21 h => ?_)
 try simp only [*, go_sem]
 exact jc (true, (a11_4.set a11_3 (Task.mk x14.Write x14.Label x14.Key x14.Value x14.Version x14.Ask x14.Done true))) h.e [some 0, some 1, some 5, some 2, some 3, some 4, some 6]
 try simp only [*, go_sem]
 exact jc (true, (a11_4.set a11_3 (Task.mk x14.Write x14.Label x14.Key x14.Value x14.Version x14.Ask x14.Done p2.Yes))) h.e [some 0, some 1, some 5, some 2, some 3, some 4, some 6]
 try simp only [*, go_sem]
 exact jc (a11_1, a11_4) h.e [some 0, some 1, some 5, some 2, some 3, some 4, some 6]
 try simp only [*, go_sem]
 exact jc (a11_1, a11_4) h.e [some 0, some 1, some 5, some 2, some 3, some 4, some 6]
 try simp only [*, go_sem]
 exact jc (a11_1, a11_4) h.e [some 0, some 1, some 5, some 2, some 3, some 4, some 6]
 try simp only [*, go_sem]
 exact jc (a11_1, a11_4) h.e [some 0, some 1, some 5, some 2, some 3, some 4, some 6]
 refine oi h (fun hb22 h => ?_) (fun hb22 h => ?_)
 have := wrap_succ_max hkhb13 hl8
 try simp only [*, go_sem]
 exact lc (b15_1, true, a11_3 + 1, b15_2) h.e [some 0, some 1, some 3, some 4, some 5, some 2, some 6]
 refine obg h (fun x24 _ _ h => ?_)
 refine oin h (fun hb25 hkhb25 h => ?_) (fun hb25 hkhb25 h => ?_)
 have := wrap_succ_max hkhb13 hl8
 try simp only [*, go_sem]
 exact lc (b15_1, !x24.Sure, a11_3 + 1, b15_2) h.e [some 0, some 1, some 3, some 4, some 5, some 2, some 6]
 have := wrap_succ_max hkhb13 hl8
 try simp only [*, go_sem]
 exact lc (b15_1, false, a11_3 + 1, b15_2) h.e [some 0, some 1, some 3, some 4, some 5, some 2, some 6]
 try simp only [*, go_sem]
 exact jc (a11_1, a11_2, a11_4) h.e [some 0, some 1, some 2, some 3, some 4, some 5, some 6]
 try simp only [*, go_sem]
 refine jn12 h (fun b28_1 b28_2 b28_3 b28_4 b28_5 b28_6 b28_7 b28_8 b28_9 b28_10 b28_11 b28_12 => [zP 1000000 0]) (fun b28_1 b28_2 b28_3 b28_4 b28_5 b28_6 b28_7 b28_8 b28_9 b28_10 b28_11 b28_12 => [ox [zi b28_1, .d (.l 2 (b28_2.map Label.enc)), zi b28_3, zi b28_4, zi b28_5, zi b28_6, .r 1 0 b28_9.length, .r 2 0 b28_10.length, .r 3 0 b28_11.length, .r 4 0 b28_12.length, zi b28_7, zi b28_8], ot 6 (b28_9.map Job.encO), oa 12 (b28_10.map Message.enc), oa 8 (b28_11.map Record.enc), oa 6 (b28_12.map Reply.enc)]) (fun k29 h => ?_) (fun b28_1 b28_2 b28_3 b28_4 b28_5 b28_6 b28_7 b28_8 b28_9 b28_10 b28_11 b28_12 h => ?_)
 refine oin h (fun hb30 hkhb30 h => ?_) (fun hb30 hkhb30 h => ?_)
 try simp only [*, go_sem]
 exact jf [.u 1] (p0.c.Sites, p0.c.Labels, p0.c.Patience, p0.l, p0.me, p0.turn.Desk.Next, p0.turn.Sure, p0.turn.Committed, (p0.turn.Desk.Jobs.set p1.toNat (Job.mk x1.N x1.State b9_3 x1.Asked x1.Asks x1.Age)), p0.turn.Messages, p0.turn.Records, p0.turn.Replies) h.e [some 0, some 1, some 2, some 3, some 4]
 try simp only [*, go_sem]
 refine jn12 h (fun b31_1 b31_2 b31_3 b31_4 b31_5 b31_6 b31_7 b31_8 b31_9 b31_10 b31_11 b31_12 => [zP 1000000 0]) (fun b31_1 b31_2 b31_3 b31_4 b31_5 b31_6 b31_7 b31_8 b31_9 b31_10 b31_11 b31_12 => [ox [zi b31_1, .d (.l 2 (b31_2.map Label.enc)), zi b31_3, zi b31_4, zi b31_5, zi b31_6, .r 1 0 b31_9.length, .r 2 0 b31_10.length, .r 3 0 b31_11.length, .r 4 0 b31_12.length, zi b31_7, zi b31_8], ot 6 (b31_9.map Job.encO), oa 12 (b31_10.map Message.enc), oa 8 (b31_11.map Record.enc), oa 6 (b31_12.map Reply.enc)]) (fun k32 h => ?_) (fun b31_1 b31_2 b31_3 b31_4 b31_5 b31_6 b31_7 b31_8 b31_9 b31_10 b31_11 b31_12 h => ?_)
 refine oin h (fun hb33 hkhb33 h => ?_) (fun hb33 hkhb33 h => ?_)
 try simp only [*, go_sem]
 refine cx low110 fok110 ?_
 simp only [*, F110, go_sem]
 try simp only [*, go_sem]
 refine gho_lk _ G _ _ [] ?_
 try simp only [*, go_sem]
 refine ck h (fun _ h => ?_)
 try simp only [*, go_sem]
 refine gho_lk _ G _ _ [.u 1] ?_
 try simp only [*, go_sem]
 try simp only [*, go_sem]
 refine ct h 0 [] [0, 1, 0, 0, 0, 0, 2] [1, 2, 3, 24] (coord_work_end_ok G (CoordWork.mk p0.c p0.l p0.me (Turn.mk (Desk.mk p0.turn.Desk.Next (p0.turn.Desk.Jobs.set p1.toNat (Job.mk x1.N x1.State b9_3 x1.Asked x1.Asks x1.Age))) p0.turn.Messages p0.turn.Records (p0.turn.Replies ++ [(Reply.mk p0.me 4 x1.N 0 0 11)]) p0.turn.Sure p0.turn.Committed)) p1) (fun v35 h => ?_)
 try simp only [*, go_sem]
 exact jc (v35.c.Sites, v35.c.Labels, v35.c.Patience, v35.l, v35.me, v35.turn.Desk.Next, v35.turn.Sure, v35.turn.Committed, v35.turn.Desk.Jobs, v35.turn.Messages, v35.turn.Records, v35.turn.Replies) h.e [some 0, some 29, some 30, some 31, some 32]
 try simp only [*, go_sem]
 refine jn12 h (fun b36_1 b36_2 b36_3 b36_4 b36_5 b36_6 b36_7 b36_8 b36_9 b36_10 b36_11 b36_12 => [zP 1000000 0]) (fun b36_1 b36_2 b36_3 b36_4 b36_5 b36_6 b36_7 b36_8 b36_9 b36_10 b36_11 b36_12 => [ox [zi b36_1, .d (.l 2 (b36_2.map Label.enc)), zi b36_3, zi b36_4, zi b36_5, zi b36_6, .r 1 0 b36_9.length, .r 2 0 b36_10.length, .r 3 0 b36_11.length, .r 4 0 b36_12.length, zi b36_7, zi b36_8], ot 6 (b36_9.map Job.encO), oa 12 (b36_10.map Message.enc), oa 8 (b36_11.map Record.enc), oa 6 (b36_12.map Reply.enc)]) (fun k37 h => ?_) (fun b36_1 b36_2 b36_3 b36_4 b36_5 b36_6 b36_7 b36_8 b36_9 b36_10 b36_11 b36_12 h => ?_)
 refine oin h (fun hb38 hkhb38 h => ?_) (fun hb38 hkhb38 h => ?_)
 try simp only [*, go_sem]
 refine gho_lk _ G _ _ [.u 1] ?_
 try simp only [*, go_sem]
 try simp only [*, go_sem]
 refine ct h 0 [] [0, 1, 0, 0, 0, 0, 2] [1, 2, 3, 4] (coord_work_commit_ok G (CoordWork.mk p0.c p0.l p0.me (Turn.mk (Desk.mk p0.turn.Desk.Next (p0.turn.Desk.Jobs.set p1.toNat (Job.mk x1.N x1.State b9_3 x1.Asked x1.Asks x1.Age))) p0.turn.Messages p0.turn.Records p0.turn.Replies p0.turn.Sure p0.turn.Committed)) p1) (fun v39 h => ?_)
 try simp only [*, go_sem]
 exact jc (v39.c.Sites, v39.c.Labels, v39.c.Patience, v39.l, v39.me, v39.turn.Desk.Next, v39.turn.Sure, v39.turn.Committed, v39.turn.Desk.Jobs, v39.turn.Messages, v39.turn.Records, v39.turn.Replies) h.e [some 0, some 7, some 8, some 9, some 10]
 try simp only [*, go_sem]
 exact jf [.u 1] (p0.c.Sites, p0.c.Labels, p0.c.Patience, p0.l, p0.me, p0.turn.Desk.Next, p0.turn.Sure, p0.turn.Committed, (p0.turn.Desk.Jobs.set p1.toNat (Job.mk x1.N x1.State b9_3 x1.Asked x1.Asks x1.Age)), p0.turn.Messages, p0.turn.Records, p0.turn.Replies) h.e [some 0, some 1, some 2, some 3, some 4]
 try simp only [*, go_sem]
 exact jc (b36_1, b36_2, b36_3, b36_4, b36_5, b36_6, b36_7, b36_8, b36_9, b36_10, b36_11, b36_12) h.e [some 0, some 1, some 2, some 3, some 4]
 try simp only [*, go_sem]
 exact jc (b31_1, b31_2, b31_3, b31_4, b31_5, b31_6, b31_7, b31_8, b31_9, b31_10, b31_11, b31_12) h.e [some 0, some 1, some 2, some 3, some 4]
 cases h.e
 try simp only [*, go_sem]
 refine etn [] ?_
 simp only [*, go_sem, mA, mS]
def coord_work_acked_1 (p0 : Int) (p1 : Message) : Option (Bool) := (some (p0 == p1.From))
def F114 : VFn := ⟨8, (.seq (.reg [vo 3 (.mv (cb false))]) (.seq (.reg [vm 4 0, vf 5 1 1, vs 6 5, bt 7 .eql 4 6, vm 3 7]) .ret)), [.t 3]⟩
theorem low114 : lowF Tryd.prog 114 = some F114.strip := by kernel_rfl
theorem fok114 : fOk Tryd.prog 114 = true := by kernel_rfl
theorem coord_work_acked_1_ok (p0 : Int) (p1 : Message) (r : Bool) (h : coord_work_acked_1 p0 p1 = some r) : FnRO Tryd.prog G 114 [.one (.d (.i .i64 p0)), .one (.d (.k (Message.enc p1)))] (fun rs => rs = [.one (.b r)]) := by
 refine FnRO.of' low114 fok114 (by simp [F114]) ?_
 rw [coord_work_acked_1] at h
 replace h := Hd.mk h
 simp only [F114, go_sem]
 cases h.e
 simp only [*, go_sem, mA, mS]
def slices_IndexFunc_int_L1 (p0 : List Int) (p1 : Int → Option (Bool)) (k3 : Option (Int)) : Nat → Nat → Option (Int)
 | 0, _ => none
 | n5 + 1, a4_1 => (if (decide (a4_1 < p0.length)) = true then (Option.bind (p0[a4_1]?) fun x7 => (Option.bind (p1 x7) fun v8 => (if v8 = true then (some ((a4_1 : Nat) : Int)) else (slices_IndexFunc_int_L1 p0 p1 k3 n5 (a4_1 + 1))))) else k3)
def slices_IndexFunc_int (p0 : List Int) (p1 : Int → Option (Bool)) : Option (Int) := (withK (some (-1)) fun k3 => (slices_IndexFunc_int_L1 p0 p1 k3 (p0.length + 1) 0))
def F163 : VFn := ⟨19, (.seq (.reg [mi 4 0]) (.seq (.seq (.reg [vm 6 0, ln 7 6, mi 8 0]) (.wk (.block 0 (.loop (.seq (.reg [bt 9 .lss 8 7]) (.seq (.cond (.t 9) .skip (.exit 0)) (.seq (.block 1 (.seq (.reg [vm 10 8, vm 5 10]) (.seq (.reg [vm 11 1, vm 12 0, vm 13 5, xa 14 1 12 13, vs 15 14, vo 16 (.callv (.t 11) [(.t 15)])]) (.cond (.t 16) (.seq (.reg [vm 17 5, vm 4 17]) .ret) .skip)))) (.reg [bk 18 .add 8 1, vm 8 18])))))))) (.seq (.reg [mi 4 (-1)]) .ret))), [.t 4]⟩
theorem low163 : lowF Tryd.prog 163 = some F163.strip := by kernel_rfl
theorem fok163 : fOk Tryd.prog 163 = true := by kernel_rfl
theorem slices_IndexFunc_int_ok (p0 : List Int) (p1 : Int → Option (Bool)) (g_p1 : Nat) (c_p1 : List D) (h_p1 : ∀ (x0 : Int) (r : Bool), p1 x0 = some r → FnRO Tryd.prog G g_p1 ([.one (.d (.i .i64 x0))] ++ c_p1.map fun d => .one (.d d)) (fun rs => rs = [.one (.b r)])) (r : Int) (h : slices_IndexFunc_int p0 p1 = some r) : FnRO Tryd.prog G 163 [.one (.d (.l 1 (p0.map encI))), .one (.d (.f g_p1 c_p1))] (fun rs => rs = [.one (.i .i64 r)]) := by
 refine FnRO.of' low163 fok163 (by simp [F163]) ?_
 rw [slices_IndexFunc_int] at h
 replace h := Hd.mk h
 simp only [F163, go_sem]
 try simp only [*, go_sem]
 intro hl1
 try simp only [*, go_sem]
 refine jn0 h ([]) ([]) (fun k3 h => ?_) (fun h => ?_)
 try simp only [*, go_sem]
 refine lp1 (slices_IndexFunc_int_L1 p0 p1 k3) (fun a4_1 => [zL 0 1 (p0.map encI), (1, .one (.d (.f g_p1 c_p1))), zI 7 ((p0.length : Nat) : Int), zI 8 ((a4_1 : Nat) : Int)]) (fun a4_1 => []) h [] [] (fun n5 a4_1 h => ?_) (by intros; rw [slices_IndexFunc_int_L1])
 rw [slices_IndexFunc_int_L1] at h
 refine oi h (fun hb6 h => ?_) (fun hb6 h => ?_)
 have := of_decide_eq_true hb6
 refine obg h (fun x7 _ hkx7 h => ?_)
 try simp only [*, go_sem]
 refine cr h (h_p1 x7) (fun v8 h => ?_)
 refine oi h (fun hb9 h => ?_) (fun hb9 h => ?_)
 cases h.e
 simp only [*, go_sem, mA, mS]
 have := wrap_succ_max hkx7 hl1
 try simp only [*, go_sem]
 exact lc (a4_1 + 1) h.e []
 try simp only [*, go_sem]
 exact jc () h.e []
 cases h.e
 simp only [*, go_sem, mA, mS]
def F113 : VFn := ⟨42, (.seq (.reg [vo 4 (.mv (.c (.one (.nl 1))))]) (.seq (.reg [vm 8 0, vm 9 1, vo 10 (.call 163 [(.t 8), (.t 9)]), vm 5 10]) (.seq (.seq (.reg [vm 11 5, bk 12 .eql 11 (-1)]) (.cond (.t 12) (.seq (.reg [vm 13 0, vm 4 13]) .ret) .skip)) (.seq (.seq (.reg [vm 14 5, bk 15 .add 14 1, vm 6 15]) (.wk (.block 0 (.loop (.seq (.seq (.reg [vm 16 6, vm 17 0, ln 18 17, bt 19 .lss 16 18]) (.cond (.t 19) .skip (.exit 0))) (.seq (.block 1 (.seq (.reg [vm 22 0, vm 23 6, xa 24 1 22 23, vs 25 24, vm 7 25]) (.seq (.reg [vm 26 1, vm 27 7, vo 28 (.callv (.t 26) [(.t 27)]), nt 29 28]) (.wk (.cond (.t 29) (.seq (.reg [vm 30 0, vm 31 5, vm 32 7, xa 33 1 30 31, vu (.st 1 (.t 33) (.t 32))]) (.reg [vm 34 5, bk 35 .add 34 1, vm 5 35])) .skip))))) (.reg [vm 20 6, bk 21 .add 20 1, vm 6 21]))))))) (.seq (.reg [vm 36 0, vm 37 5, vo 38 (.sl 1 (.t 36) (some (.t 37)) none), vu (.clr 1 [(zi 0)] (.t 38))]) (.seq (.reg [vm 39 0, vm 40 5, vo 41 (.sl 1 (.t 39) none (some (.t 40))), vm 4 41]) .ret)))))), [.t 4]⟩
theorem low113 : lowF Tryd.prog 113 = some F113.strip := by kernel_rfl
theorem fok113 : fOk Tryd.prog 113 = true := by kernel_rfl
def coord_work_acked_L1 (p2 : Message) (k10 : Int → (List Int) → Option (CoordWork)) : Nat → Int → Int → (List Int) → Option (CoordWork)
 | 0, _, _, _ => none
 | n12 + 1, a11_1, a11_2, a11_3 => (if (decide (a11_2 < ((a11_3.length : Nat) : Int))) = true then (if 0 ≤ a11_2 then (Option.bind (a11_3[a11_2.toNat]?) fun x15 => (Option.bind (coord_work_acked_1 x15 p2) fun v17 => (withK (fun (b18_1 : Int) (b18_2 : List Int) => (coord_work_acked_L1 p2 k10 n12 b18_1 (IntKind.i64.wrap (a11_2 + 1)) b18_2)) fun k19 => (if (!v17) = true then (if 0 ≤ a11_1 then (Option.bind (a11_3[a11_1.toNat]?) fun x21 => (k19 (IntKind.i64.wrap (a11_1 + 1)) (a11_3.set a11_1.toNat x15))) else none) else (k19 a11_1 a11_3))))) else none) else (k10 a11_1 a11_3))
def coord_work_acked (p0 : CoordWork) (p1 : Int) (p2 : Message) : Option (CoordWork) := (if 0 ≤ p1 then (Option.bind (p0.turn.Desk.Jobs[p1.toNat]?) fun x1 => (if (x1.State != 3) = true then (some p0) else (withK (fun (b4_1 : List Int) => (withK (fun (b29_1 : List Job) (b29_2 : List Record) => (some (CoordWork.mk p0.c p0.l p0.me (Turn.mk (Desk.mk p0.turn.Desk.Next b29_1) p0.turn.Messages b29_2 p0.turn.Replies p0.turn.Sure p0.turn.Committed)))) fun k30 => (if (((b4_1.length : Nat) : Int) == 0) = true then (if fits 80 (p0.turn.Records.length + 1) then (Option.bind (deleteF (p0.turn.Desk.Jobs.set p1.toNat (Job.mk x1.N x1.State x1.Tasks b4_1 x1.Asks x1.Age)) p1 (IntKind.i64.wrap (p1 + 1))) fun v33 => (k30 v33 (p0.turn.Records ++ [(Record.mk 4 (Txn.mk p0.me x1.N) 0 0 0 false [])]))) else none) else (k30 (p0.turn.Desk.Jobs.set p1.toNat (Job.mk x1.N x1.State x1.Tasks b4_1 x1.Asks x1.Age)) p0.turn.Records)))) fun k5 => (Option.bind (slices_IndexFunc_int x1.Asked (fun y6 => coord_work_acked_1 y6 p2)) fun v7 => (if (v7 == (-1)) = true then (k5 x1.Asked) else (withK (fun (b9_1 : Int) (b9_2 : List Int) => (if 0 ≤ b9_1 then (if b9_1 ≤ ((b9_2.length : Nat) : Int) then (k5 (b9_2.take b9_1.toNat)) else none) else none)) fun k10 => (coord_work_acked_L1 p2 k10 (x1.Asked.length + 1) v7 (IntKind.i64.wrap (v7 + 1)) x1.Asked))))))) else none)
def F51 : VFn := ⟨44, (.seq (.reg [vo 5 (.box 12 (.t 2))]) (.seq (.reg [vm 7 0, vo 8 (.nilchk (.t 7)), vf 9 5 8, vf 10 0 9, vf 11 1 10, vs 12 11, vm 13 1, xa 14 6 12 13, vm 6 14]) (.seq (.seq (.reg [vm 15 6, vo 16 (.nilchk (.t 15)), vf 17 1 16, vs 18 17, bk 19 .neq 18 3]) (.cond (.t 19) .ret .skip)) (.seq (.wk (.gho (.reg [vm 20 6, vm 21 6, vo 22 (.nilchk (.t 21)), vf 23 3 22, vs 24 23, vo 25 (.mkf 114 [(.t 5)]), vo 26 (.call 113 [(.t 24), (.t 25)]), vo 27 (.nilchk (.t 20)), vf 28 3 27, vu (.st 1 (.t 28) (.t 26))]))) (.seq (.reg [vm 29 6, vo 30 (.nilchk (.t 29)), vf 31 3 30, vs 32 31, ln 33 32, bk 34 .eql 33 0]) (.wk (.cond (.t 34) (.seq (.reg [vm 35 0, vm 36 6, vo 37 (.nilchk (.t 36)), vf 38 0 37, vs 39 38, vo 40 (.call 115 [(.t 35), (ci 4), (.t 39), (.c (.one (.nl 1)))])]) (.reg [vm 41 0, vm 42 1, vo 43 (.call 116 [(.t 41), (.t 42)])])) .skip))))))), []⟩
theorem low51 : lowF Tryd.prog 51 = some F51.strip := by kernel_rfl
theorem fok51 : fOk Tryd.prog 51 = true := by kernel_rfl
theorem coord_work_acked_ok (p0 : CoordWork) (p1 : Int) (p2 : Message) (r : CoordWork) (h : coord_work_acked p0 p1 p2 = some r) : FnX Tryd.prog G 51 [ptrX, .one (.d (.i .i64 p1)), .agg p2.bx] [.i .i64 p0.c.Sites, .l 2 (p0.c.Labels.map Label.enc), .i .i64 p0.c.Patience, .i .i64 p0.l, .i .i64 p0.me, .i .i64 p0.turn.Desk.Next, .t 6 (p0.turn.Desk.Jobs.map Job.encO), .o 12 (p0.turn.Messages.map Message.enc), .o 8 (p0.turn.Records.map Record.enc), .o 6 (p0.turn.Replies.map Reply.enc), .i .i64 p0.turn.Sure, .i .i64 p0.turn.Committed] (fun c rs => c = [.i .i64 r.c.Sites, .l 2 (r.c.Labels.map Label.enc), .i .i64 r.c.Patience, .i .i64 r.l, .i .i64 r.me, .i .i64 r.turn.Desk.Next, .t 6 (r.turn.Desk.Jobs.map Job.encO), .o 12 (r.turn.Messages.map Message.enc), .o 8 (r.turn.Records.map Record.enc), .o 6 (r.turn.Replies.map Reply.enc), .i .i64 r.turn.Sure, .i .i64 r.turn.Committed] ∧ rs = []) := by
 refine FnX.of [0, 1, 0, 0, 0, 0, 2] low51 fok51 (by exact Nat.le_of_ble_eq_true rfl) (by exact Nat.le_of_ble_eq_true rfl) ?_
 rw [coord_work_acked] at h
 replace h := Hd.mk h
 simp only [F51, go_sem]
 refine obn h (fun x1 _ _ _ _ h => ?_)
 refine oi h (fun hb3 h => ?_) (fun hb3 h => ?_)
 cases h.e
 try simp only [*, go_sem]
 refine eti [] ?_
 simp only [*, go_sem, mA, mS]
 try simp only [*, go_sem]
 refine jn1 h (fun b4_1 => [zP 0 0, zI 1 p1, (6, .one (.p (.q 1 p1.toNat 0))), zP 1000000 0]) (fun b4_1 => [ox [zi p0.c.Sites, .d (.l 2 (p0.c.Labels.map Label.enc)), zi p0.c.Patience, zi p0.l, zi p0.me, zi p0.turn.Desk.Next, .r 1 0 p0.turn.Desk.Jobs.length, .r 2 0 p0.turn.Messages.length, .r 3 0 p0.turn.Records.length, .r 4 0 p0.turn.Replies.length, zi p0.turn.Sure, zi p0.turn.Committed], og 6 (p0.turn.Desk.Jobs.map Job.encO) p1.toNat [zi x1.N, zi x1.State, .r 5 0 x1.Tasks.length, .r 6 0 b4_1.length, zi x1.Asks, zi x1.Age], oa 12 (p0.turn.Messages.map Message.enc), oa 8 (p0.turn.Records.map Record.enc), oa 6 (p0.turn.Replies.map Reply.enc), oa 8 (x1.Tasks.map Task.enc), oa 1 (b4_1.map encI)]) (fun k5 h => ?_) (fun b4_1 h => ?_)
 try simp only [*, go_sem]
 refine gho_lk _ G _ _ [.f 1 p1.toNat] ?_
 try simp only [*, go_sem]
 try simp only [*, go_sem]
 refine cx low113 fok113 ?_
 simp only [*, F113, go_sem]
 try simp only [*, go_sem]
 refine cl h (slices_IndexFunc_int_ok G x1.Asked (fun y6 => coord_work_acked_1 y6 p2) 114 [.k [.i .i64 p2.Kind, .i .i64 p2.From, .i .i64 p2.To, .i .i64 p2.Txn.Site, .i .i64 p2.Txn.N, .i .i64 p2.Label, .i .i64 p2.Key, .i .i64 p2.Value, .i .i64 p2.Version, .i .i64 p2.Ask, .b p2.Yes, .i .i64 p2.Code]] (fun y6 r h => coord_work_acked_1_ok G y6 p2 r h)) (fun v7 h => ?_)
 refine oi h (fun hb8 h => ?_) (fun hb8 h => ?_)
 try simp only [*, go_sem]
 exact jc (x1.Asked) h.e [some 0, some 1, some 2, some 3, some 4, some 6, some 7]
 try simp only [*, go_sem]
 refine jn2 h (fun b9_1 b9_2 => [zR 0 0 0 b9_2.length, zI 5 b9_1, zP 1000000 1, zI 1000001 p1, (1000006, .one (.p (.q 2 p1.toNat 0))), (1000020, .one (.p (.q 2 p1.toNat 0))), zP 2000000 1]) (fun b9_1 b9_2 => [oa 1 (b9_2.map encI), ox [zi p0.c.Sites, .d (.l 2 (p0.c.Labels.map Label.enc)), zi p0.c.Patience, zi p0.l, zi p0.me, zi p0.turn.Desk.Next, .r 2 0 p0.turn.Desk.Jobs.length, .r 3 0 p0.turn.Messages.length, .r 4 0 p0.turn.Records.length, .r 5 0 p0.turn.Replies.length, zi p0.turn.Sure, zi p0.turn.Committed], og 6 (p0.turn.Desk.Jobs.map Job.encO) p1.toNat [zi x1.N, zi x1.State, .r 6 0 x1.Tasks.length, .r 0 0 b9_2.length, zi x1.Asks, zi x1.Age], oa 12 (p0.turn.Messages.map Message.enc), oa 8 (p0.turn.Records.map Record.enc), oa 6 (p0.turn.Replies.map Reply.enc), oa 8 (x1.Tasks.map Task.enc)]) (fun k10 h => ?_) (fun b9_1 b9_2 h => ?_)
 try simp only [*, go_sem]
 refine lp3 (coord_work_acked_L1 p2 k10) (fun a11_1 a11_2 a11_3 => [zR 0 0 0 a11_3.length, (1, .one (.c 114 [.q 1 0 0])), zI 5 a11_1, zI 6 a11_2, zP 1000000 2, zI 1000001 p1, (1000006, .one (.p (.q 3 p1.toNat 0))), (1000020, .one (.p (.q 3 p1.toNat 0))), zP 2000000 2]) (fun a11_1 a11_2 a11_3 => [oa 1 (a11_3.map encI), ox p2.bx, ox [zi p0.c.Sites, .d (.l 2 (p0.c.Labels.map Label.enc)), zi p0.c.Patience, zi p0.l, zi p0.me, zi p0.turn.Desk.Next, .r 3 0 p0.turn.Desk.Jobs.length, .r 4 0 p0.turn.Messages.length, .r 5 0 p0.turn.Records.length, .r 6 0 p0.turn.Replies.length, zi p0.turn.Sure, zi p0.turn.Committed], og 6 (p0.turn.Desk.Jobs.map Job.encO) p1.toNat [zi x1.N, zi x1.State, .r 7 0 x1.Tasks.length, .r 0 0 a11_3.length, zi x1.Asks, zi x1.Age], oa 12 (p0.turn.Messages.map Message.enc), oa 8 (p0.turn.Records.map Record.enc), oa 6 (p0.turn.Replies.map Reply.enc), oa 8 (x1.Tasks.map Task.enc)]) h [] [some 7, some 5, some 0, some 1, some 2, some 3, some 4, some 6] (fun n12 a11_1 a11_2 a11_3 h => ?_) (by intros; rw [coord_work_acked_L1])
 rw [coord_work_acked_L1] at h
 try simp only [*, go_sem]
 intro hl13
 refine oi h (fun hb14 h => ?_) (fun hb14 h => ?_)
 refine obn h (fun x15 _ _ _ _ h => ?_)
 try simp only [*, go_sem]
 refine cl h (coord_work_acked_1_ok G x15 p2) (fun v17 h => ?_)
 try simp only [*, go_sem]
 refine jn2 h (fun b18_1 b18_2 => [zR 0 0 0 b18_2.length, (1, .one (.c 114 [.q 1 0 0])), zI 5 b18_1, zI 6 a11_2, zP 1000000 2, zI 1000001 p1, (1000006, .one (.p (.q 3 p1.toNat 0))), (1000020, .one (.p (.q 3 p1.toNat 0))), zP 2000000 2]) (fun b18_1 b18_2 => [oa 1 (b18_2.map encI), ox p2.bx, ox [zi p0.c.Sites, .d (.l 2 (p0.c.Labels.map Label.enc)), zi p0.c.Patience, zi p0.l, zi p0.me, zi p0.turn.Desk.Next, .r 3 0 p0.turn.Desk.Jobs.length, .r 4 0 p0.turn.Messages.length, .r 5 0 p0.turn.Records.length, .r 6 0 p0.turn.Replies.length, zi p0.turn.Sure, zi p0.turn.Committed], og 6 (p0.turn.Desk.Jobs.map Job.encO) p1.toNat [zi x1.N, zi x1.State, .r 7 0 x1.Tasks.length, .r 0 0 b18_2.length, zi x1.Asks, zi x1.Age], oa 12 (p0.turn.Messages.map Message.enc), oa 8 (p0.turn.Records.map Record.enc), oa 6 (p0.turn.Replies.map Reply.enc), oa 8 (x1.Tasks.map Task.enc)]) (fun k19 h => ?_) (fun b18_1 b18_2 h => ?_)
 refine oin h (fun hb20 hkhb20 h => ?_) (fun hb20 hkhb20 h => ?_)
 refine obn h (fun x21 _ _ _ _ h => ?_)
 try simp only [*, go_sem]
 exact jc (IntKind.i64.wrap (a11_1 + 1), (a11_3.set a11_1.toNat x15)) h.e [some 0, some 1, some 2, some 3, some 4, some 5, some 6, some 7]
 try simp only [*, go_sem]
 exact jc (a11_1, a11_3) h.e [some 0, some 1, some 2, some 3, some 4, some 5, some 6, some 7]
 try simp only [*, go_sem]
 exact lc (b18_1, IntKind.i64.wrap (a11_2 + 1), b18_2) h.e [some 0, some 1, some 2, some 3, some 4, some 5, some 6, some 7]
 try simp only [*, go_sem]
 exact jc (a11_1, a11_3) h.e [some 0, some 2, some 3, some 4, some 5, some 6, some 7]
 refine ck h (fun _ h => ?_)
 refine ck h (fun _ h => ?_)
 have : b9_1.toNat + ((((b9_2.length : Nat) : Int) - b9_1).toNat) ≤ b9_2.length := by omega
 have : min b9_1.toNat b9_2.length = b9_1.toNat := by omega
 have : b9_1.toNat ≤ b9_2.length := by omega
 try simp only [*, go_sem]
 exact jc ((b9_2.take b9_1.toNat)) h.e [some 1, some 2, some 3, some 4, some 5, some 6, some 0]
 try simp only [*, go_sem]
 intro hl28
 try simp only [*, go_sem]
 refine jn2 h (fun b29_1 b29_2 => [zP 1000000 0]) (fun b29_1 b29_2 => [ox [zi p0.c.Sites, .d (.l 2 (p0.c.Labels.map Label.enc)), zi p0.c.Patience, zi p0.l, zi p0.me, zi p0.turn.Desk.Next, .r 1 0 b29_1.length, .r 2 0 p0.turn.Messages.length, .r 3 0 b29_2.length, .r 4 0 p0.turn.Replies.length, zi p0.turn.Sure, zi p0.turn.Committed], ot 6 (b29_1.map Job.encO), oa 12 (p0.turn.Messages.map Message.enc), oa 8 (b29_2.map Record.enc), oa 6 (p0.turn.Replies.map Reply.enc)]) (fun k30 h => ?_) (fun b29_1 b29_2 h => ?_)
 refine oi h (fun hb31 h => ?_) (fun hb31 h => ?_)
 try simp only [*, go_sem]
 refine cx low115 fok115 ?_
 simp only [*, F115, go_sem]
 try simp only [*, go_sem]
 refine gho_lk _ G _ _ [] ?_
 try simp only [*, go_sem]
 refine ck h (fun _ h => ?_)
 try simp only [*, go_sem]
 refine cx low116 fok116 ?_
 simp only [*, F116, go_sem]
 try simp only [*, go_sem]
 refine gho_lk _ G _ _ [.u 1] ?_
 try simp only [*, go_sem]
 refine obk h (fun v33 hv33 h => ?_)
 try simp only [*, go_sem]
 refine delete_callFT (p0.turn.Desk.Jobs.set p1.toNat (Job.mk x1.N x1.State x1.Tasks b4_1 x1.Asks x1.Age)) del164 (enc := Job.encO) hv33 (by first | rfl | (simp only [*, go_sem]; done) | (simp only [*, go_sem, List.map_set, List.map_append, List.map_cons, List.map_nil]; done)) (by first | rfl | simp only [List.length_take, List.length_drop, List.length_append, List.length_set, List.length_map, List.length_cons, List.length_nil, Nat.zero_add, List.length_set]) ?_
 try simp only [*, go_sem]
 exact jc (v33, (p0.turn.Records ++ [(Record.mk 4 (Txn.mk p0.me x1.N) 0 0 0 false [])])) h.e [some 0, some 28, some 2, some 23, some 4]
 try simp only [*, go_sem]
 exact jf [.u 1] ((p0.turn.Desk.Jobs.set p1.toNat (Job.mk x1.N x1.State x1.Tasks b4_1 x1.Asks x1.Age)), p0.turn.Records) h.e [some 0, some 1, some 2, some 3, some 4]
 cases h.e
 try simp only [*, go_sem]
 refine etn [] ?_
 simp only [*, go_sem, mA, mS]
def coord_Hear (p0 : Config) (p1 : Int) (p2 : Int) (p3 : Desk) (p4 : Message) : Option (Turn × Int) := (Option.bind (coord_Check p0 p3) fun v1 => (if (v1 != 0) = true then (some ((Turn.mk (Desk.mk 0 []) [] [] [] 0 0), v1)) else (withK (withK (Option.bind (coord_own p3) fun v12 => (Option.bind (wire_CheckMessage p0 p4) fun v13 => (if (v13 != 0) = true then (some ((Turn.mk (Desk.mk 0 []) [] [] [] 0 0), v13)) else (withK (if (decide (p4.Kind < 5)) = true then (some ((Turn.mk (Desk.mk 0 []) [] [] [] 0 0), 3)) else (Option.bind (coord_work_place (CoordWork.mk p0 p1 p2 (Turn.mk v12 [] [] [] 0 0)) p4.Txn.N) fun v20 => (withK (fun (b21_1 : Int) (b21_2 : List Label) (b21_3 : Int) (b21_4 : Int) (b21_5 : Int) (b21_6 : Int) (b21_7 : Int) (b21_8 : Int) (b21_9 : List Job) (b21_10 : List Message) (b21_11 : List Record) (b21_12 : List Reply) => (some ((Turn.mk (Desk.mk b21_6 b21_9) b21_10 b21_11 b21_12 b21_7 b21_8), 0))) fun k22 => (if (p4.Kind == 9) = true then (Option.bind (coord_work_asked (CoordWork.mk p0 p1 p2 (Turn.mk v12 [] [] [] 0 0)) v20 p4) fun v24 => (k22 v24.c.Sites v24.c.Labels v24.c.Patience v24.l v24.me v24.turn.Desk.Next v24.turn.Sure v24.turn.Committed v24.turn.Desk.Jobs v24.turn.Messages v24.turn.Records v24.turn.Replies)) else (withK (fun (b25_1 : Int) (b25_2 : List Label) (b25_3 : Int) (b25_4 : Int) (b25_5 : Int) (b25_6 : Int) (b25_7 : Int) (b25_8 : Int) (b25_9 : List Job) (b25_10 : List Message) (b25_11 : List Record) (b25_12 : List Reply) => (k22 b25_1 b25_2 b25_3 b25_4 b25_5 b25_6 b25_7 b25_8 b25_9 b25_10 b25_11 b25_12)) fun k26 => (if (decide (v20 < 0)) = true then (k26 p0.Sites p0.Labels p0.Patience p1 p2 v12.Next 0 0 v12.Jobs [] [] []) else (withK (fun (b28_1 : Int) (b28_2 : List Label) (b28_3 : Int) (b28_4 : Int) (b28_5 : Int) (b28_6 : Int) (b28_7 : Int) (b28_8 : Int) (b28_9 : List Job) (b28_10 : List Message) (b28_11 : List Record) (b28_12 : List Reply) => (k26 b28_1 b28_2 b28_3 b28_4 b28_5 b28_6 b28_7 b28_8 b28_9 b28_10 b28_11 b28_12)) fun k29 => (if (p4.Kind == 5) = true then (Option.bind (coord_work_answered (CoordWork.mk p0 p1 p2 (Turn.mk v12 [] [] [] 0 0)) v20 p4 false) fun v31 => (k29 v31.c.Sites v31.c.Labels v31.c.Patience v31.l v31.me v31.turn.Desk.Next v31.turn.Sure v31.turn.Committed v31.turn.Desk.Jobs v31.turn.Messages v31.turn.Records v31.turn.Replies)) else (withK (fun (b32_1 : Int) (b32_2 : List Label) (b32_3 : Int) (b32_4 : Int) (b32_5 : Int) (b32_6 : Int) (b32_7 : Int) (b32_8 : Int) (b32_9 : List Job) (b32_10 : List Message) (b32_11 : List Record) (b32_12 : List Reply) => (k29 b32_1 b32_2 b32_3 b32_4 b32_5 b32_6 b32_7 b32_8 b32_9 b32_10 b32_11 b32_12)) fun k33 => (if (p4.Kind == 6) = true then (Option.bind (coord_work_answered (CoordWork.mk p0 p1 p2 (Turn.mk v12 [] [] [] 0 0)) v20 p4 true) fun v35 => (k33 v35.c.Sites v35.c.Labels v35.c.Patience v35.l v35.me v35.turn.Desk.Next v35.turn.Sure v35.turn.Committed v35.turn.Desk.Jobs v35.turn.Messages v35.turn.Records v35.turn.Replies)) else (withK (fun (b36_1 : Int) (b36_2 : List Label) (b36_3 : Int) (b36_4 : Int) (b36_5 : Int) (b36_6 : Int) (b36_7 : Int) (b36_8 : Int) (b36_9 : List Job) (b36_10 : List Message) (b36_11 : List Record) (b36_12 : List Reply) => (k33 b36_1 b36_2 b36_3 b36_4 b36_5 b36_6 b36_7 b36_8 b36_9 b36_10 b36_11 b36_12)) fun k37 => (if (p4.Kind == 7) = true then (Option.bind (coord_work_sure (CoordWork.mk p0 p1 p2 (Turn.mk v12 [] [] [] 0 0)) v20 p4) fun v39 => (k37 v39.c.Sites v39.c.Labels v39.c.Patience v39.l v39.me v39.turn.Desk.Next v39.turn.Sure v39.turn.Committed v39.turn.Desk.Jobs v39.turn.Messages v39.turn.Records v39.turn.Replies)) else (Option.bind (coord_work_acked (CoordWork.mk p0 p1 p2 (Turn.mk v12 [] [] [] 0 0)) v20 p4) fun v40 => (k37 v40.c.Sites v40.c.Labels v40.c.Patience v40.l v40.me v40.turn.Desk.Next v40.turn.Sure v40.turn.Committed v40.turn.Desk.Jobs v40.turn.Messages v40.turn.Records v40.turn.Replies)))))))))))))) fun k16 => (if (p4.To != p2) = true then (some ((Turn.mk (Desk.mk 0 []) [] [] [] 0 0), 2)) else (if (p4.Txn.Site != p2) = true then (some ((Turn.mk (Desk.mk 0 []) [] [] [] 0 0), 2)) else k16)))))) fun k9 => (if (decide (p2 < 0)) = true then (some ((Turn.mk (Desk.mk 0 []) [] [] [] 0 0), 2)) else (if (decide (p2 ≥ p0.Sites)) = true then (some ((Turn.mk (Desk.mk 0 []) [] [] [] 0 0), 2)) else k9))) fun k4 => (if (decide (p1 < 0)) = true then (some ((Turn.mk (Desk.mk 0 []) [] [] [] 0 0), 6)) else (if (decide (p1 ≥ ((p0.Labels.length : Nat) : Int))) = true then (some ((Turn.mk (Desk.mk 0 []) [] [] [] 0 0), 6)) else k4)))))
def F13 : VFn := ⟨99, (.seq (.reg [vo 5 (.box 3 (.t 0)), vo 8 (.box 2 (.t 3)), vo 9 (.boxk 12 (.t 4)), vo 10 (.alloc [(zi 0), (.nl 6), (.nl 12), (.nl 8), (.nl 6), (zi 0), (zi 0)]), mi 11 0]) (.seq (.reg [vl 17 3 5, vm 18 1, vm 19 2, vl 20 2 8, vo 21 (.call 46 [(.t 17), (.t 18), (.t 19), (.t 20)]), vm 16 21, et 22 16 0, et 23 16 1, vm 12 22, vm 13 23]) (.seq (.seq (.reg [vm 24 13, bk 25 .neq 24 0]) (.cond (.t 25) (.seq (.reg [vo 26 (.build [(zi 0), (.nl 6), (.nl 12), (.nl 8), (.nl 6), (zi 0), (zi 0)] []), vm 27 13, vu (.st 7 (.t 10) (.t 26)), vm 11 27]) .ret) .skip)) (.seq (.seq (.reg [vl 28 3 5, vl 29 12 9, vo 30 (.call 23 [(.t 28), (.t 29)]), vm 14 30]) (.seq (.reg [vm 31 14, bk 32 .neq 31 0]) (.cond (.t 32) (.seq (.reg [vo 33 (.build [(zi 0), (.nl 6), (.nl 12), (.nl 8), (.nl 6), (zi 0), (zi 0)] []), vm 34 14, vu (.st 7 (.t 10) (.t 33)), vm 11 34]) .ret) .skip))) (.seq (.wk (.seq (.reg [vf 35 2 9, vs 36 35, vm 37 2, bt 38 .neq 36 37, vm 39 38, gf 40 39 (.fa 3 (.t 9)), gf 41 39 (.fa 0 (.t 40)), gf 42 39 (.ld false 1 (.t 41)), gf 43 39 (.mv (.t 2)), gf 44 39 (.bin .i .neq (.t 42) (.t 43)), vo 45 (.pick (.t 39) (cb true) (.t 44))]) (.cond (.t 45) (.seq (.reg [vo 46 (.build [(zi 0), (.nl 6), (.nl 12), (.nl 8), (.nl 6), (zi 0), (zi 0)] []), vu (.st 7 (.t 10) (.t 46)), mi 11 2]) .ret) .skip))) (.seq (.seq (.reg [vf 47 0 9, vs 48 47, bk 49 .lss 48 5]) (.cond (.t 49) (.seq (.reg [vo 50 (.build [(zi 0), (.nl 6), (.nl 12), (.nl 8), (.nl 6), (zi 0), (zi 0)] []), vu (.st 7 (.t 10) (.t 50)), mi 11 3]) .ret) .skip)) (.seq (.reg [vm 51 12, vf 52 3 9, vf 53 1 52, vs 54 53, vo 55 (.call 47 [(.t 51), (.t 54)]), vm 15 55]) (.seq (.block 0 (.seq (.reg [vf 61 0 9, vs 62 61, bk 63 .eql 62 9, vm 60 63]) (.wk (.cond (.t 60) (.reg [vm 64 12, vm 65 15, vl 66 12 9, vo 67 (.call 48 [(.t 64), (.t 65), (.t 66)])]) (.seq (.reg [vm 69 15, bk 70 .lss 69 0, vm 68 70]) (.wk (.cond (.t 68) .skip (.seq (.reg [vf 72 0 9, vs 73 72, bk 74 .eql 73 5, vm 71 74]) (.wk (.cond (.t 71) (.reg [vm 75 12, vm 76 15, vl 77 12 9, vo 78 (.call 49 [(.t 75), (.t 76), (.t 77), (cb false)])]) (.seq (.reg [vf 80 0 9, vs 81 80, bk 82 .eql 81 6, vm 79 82]) (.wk (.cond (.t 79) (.reg [vm 83 12, vm 84 15, vl 85 12 9, vo 86 (.call 49 [(.t 83), (.t 84), (.t 85), (cb true)])]) (.seq (.reg [vf 88 0 9, vs 89 88, bk 90 .eql 89 7, vm 87 90]) (.wk (.cond (.t 87) (.reg [vm 91 12, vm 92 15, vl 93 12 9, vo 94 (.call 50 [(.t 91), (.t 92), (.t 93)])]) (.reg [vm 56 12, vm 57 15, vl 58 12 9, vo 59 (.call 51 [(.t 56), (.t 57), (.t 58)])]))))))))))))))))) (.seq (.reg [vm 95 12, vo 96 (.nilchk (.t 95)), vf 97 5 96, vl 98 7 97, vu (.st 7 (.t 10) (.t 98)), mi 11 0]) .ret))))))))), [.cell 10 true 7, .t 11]⟩
theorem low13 : lowF Tryd.prog 13 = some F13.strip := by kernel_rfl
theorem fok13 : fOk Tryd.prog 13 = true := by kernel_rfl
theorem coord_Hear_ok (htab_wire_messages : constG G 0 = .one (.d (.k tab_wire_messagesD))) (p0 : Config) (p1 : Int) (p2 : Int) (p3 : Desk) (p4 : Message) (r : Turn × Int) (h : coord_Hear p0 p1 p2 p3 p4 = some r) : FnRO Tryd.prog G 13 [.agg p0.bx, .one (.d (.i .i64 p1)), .one (.d (.i .i64 p2)), .agg p3.bx, .agg p4.bx] (fun rs => rs = [.agg [.i .i64 r.1.Desk.Next, .t 6 (r.1.Desk.Jobs.map Job.encO), .o 12 (r.1.Messages.map Message.enc), .o 8 (r.1.Records.map Record.enc), .o 6 (r.1.Replies.map Reply.enc), .i .i64 r.1.Sure, .i .i64 r.1.Committed], .one (.i .i64 r.2)]) := by
 refine FnRO.same ?_
 refine FnRO.of' low13 fok13 (by simp [F13]) ?_
 rw [coord_Hear] at h
 replace h := Hd.mk h
 simp only [F13, go_sem]
 try simp only [*, go_sem]
 refine cx low46 fok46 ?_
 simp only [*, F46, go_sem]
 try simp only [*, go_sem]
 refine gho_lk _ G _ _ [] ?_
 try simp only [*, go_sem]
 try simp only [*, go_sem]
 refine gho_lk _ G _ _ [] ?_
 try simp only [*, go_sem]
 try simp only [*, go_sem]
 refine cr h (coord_Check_ok G p0 p3) (fun v1 h => ?_)
 try simp only [*, go_sem]
 refine gho_lk _ G _ _ [] ?_
 try simp only [*, go_sem]
 refine oi h (fun hb2 h => ?_) (fun hb2 h => ?_)
 try simp only [*, go_sem]
 refine gho_lk _ G _ _ [] ?_
 try simp only [*, go_sem]
 try simp only [*, go_sem]
 refine gho_lk _ G _ _ [] ?_
 try simp only [*, go_sem]
 cases h.e
 simp only [*, go_sem, mA, mS]
 try simp only [*, go_sem]
 refine jn0 h ([zI 1 p1, zI 2 p2, zP 4 0, zP 7 1, zI 1000002 p2, zP 1000005 2, zK 1000009 (Message.enc p4), zP 1000010 3]) ([ox p0.bx, ox p3.bx, ox p0.bx, ox [zi 0, .nl 6, .nl 12, .nl 8, .nl 6, zi 0, zi 0]]) (fun k4 h => ?_) (fun h => ?_)
 try simp only [*, go_sem]
 refine gho_lk _ G _ _ [] ?_
 try simp only [*, go_sem]
 refine oi h (fun hb5 h => ?_) (fun hb5 h => ?_)
 have := of_decide_eq_true hb5
 try simp only [*, go_sem]
 refine gho_lk _ G _ _ [] ?_
 try simp only [*, go_sem]
 try simp only [*, go_sem]
 refine gho_lk _ G _ _ [] ?_
 try simp only [*, go_sem]
 cases h.e
 simp only [*, go_sem, mA, mS]
 try simp only [*, go_sem]
 intro hl6
 refine oi h (fun hb7 h => ?_) (fun hb7 h => ?_)
 try simp only [*, go_sem]
 refine gho_lk _ G _ _ [] ?_
 try simp only [*, go_sem]
 try simp only [*, go_sem]
 refine gho_lk _ G _ _ [] ?_
 try simp only [*, go_sem]
 cases h.e
 simp only [*, go_sem, mA, mS]
 try simp only [*, go_sem]
 exact jc () h.e [some 3, some 4, some 0, some 2]
 try simp only [*, go_sem]
 refine jn0 h ([zI 1 p1, zI 2 p2, zP 4 0, zP 7 1, zI 1000002 p2, zP 1000005 2, zK 1000009 (Message.enc p4), zP 1000010 3]) ([ox p0.bx, ox p3.bx, ox p0.bx, ox [zi 0, .nl 6, .nl 12, .nl 8, .nl 6, zi 0, zi 0]]) (fun k9 h => ?_) (fun h => ?_)
 try simp only [*, go_sem]
 refine gho_lk _ G _ _ [] ?_
 try simp only [*, go_sem]
 refine oi h (fun hb10 h => ?_) (fun hb10 h => ?_)
 have := of_decide_eq_true hb10
 try simp only [*, go_sem]
 refine gho_lk _ G _ _ [] ?_
 try simp only [*, go_sem]
 try simp only [*, go_sem]
 refine gho_lk _ G _ _ [] ?_
 try simp only [*, go_sem]
 cases h.e
 simp only [*, go_sem, mA, mS]
 refine oi h (fun hb11 h => ?_) (fun hb11 h => ?_)
 try simp only [*, go_sem]
 refine gho_lk _ G _ _ [] ?_
 try simp only [*, go_sem]
 try simp only [*, go_sem]
 refine gho_lk _ G _ _ [] ?_
 try simp only [*, go_sem]
 cases h.e
 simp only [*, go_sem, mA, mS]
 try simp only [*, go_sem]
 exact jc () h.e [some 0, some 1, some 2, some 3]
 try simp only [*, go_sem]
 refine gho_lk _ G _ _ [] ?_
 try simp only [*, go_sem]
 refine obk h (fun v12 hv12 h => ?_)
 try simp only [*, go_sem]
 refine cdx (some (.tre 6 (v12.Jobs.map Job.encO) none)) (.agg [.d (.i .i64 v12.Next), .r 8 0 v12.Jobs.length]) (coord_own_ok G p3 v12 hv12) ?_
 try simp only [*, go_sem]
 refine gho_lk _ G _ _ [] ?_
 try simp only [*, go_sem]
 try simp only [*, go_sem]
 refine cr h (wire_CheckMessage_ok G htab_wire_messages p0 p4) (fun v13 h => ?_)
 refine oi h (fun hb14 h => ?_) (fun hb14 h => ?_)
 cases h.e
 simp only [*, go_sem, mA, mS]
 try simp only [*, go_sem]
 refine jn0 h ([zK 9 (Message.enc p4), zP 10 0, zP 12 1]) ([ox [zi 0, .nl 6, .nl 12, .nl 8, .nl 6, zi 0, zi 0], ox [zi p0.Sites, .d (.l 2 (p0.Labels.map Label.enc)), zi p0.Patience, zi p1, zi p2, zi v12.Next, .r 2 0 v12.Jobs.length, .nl 12, .nl 8, .nl 6, zi 0, zi 0], ot 6 (v12.Jobs.map Job.encO)]) (fun k16 h => ?_) (fun h => ?_)
 refine oi h (fun hb17 h => ?_) (fun hb17 h => ?_)
 cases h.e
 simp only [*, go_sem, mA, mS]
 refine oi h (fun hb18 h => ?_) (fun hb18 h => ?_)
 cases h.e
 simp only [*, go_sem, mA, mS]
 try simp only [*, go_sem]
 exact jc () h.e [some 3, some 11, some 8]
 refine oi h (fun hb19 h => ?_) (fun hb19 h => ?_)
 have := of_decide_eq_true hb19
 cases h.e
 simp only [*, go_sem, mA, mS]
 try simp only [*, go_sem]
 refine cl h (coord_work_place_ok G (CoordWork.mk p0 p1 p2 (Turn.mk v12 [] [] [] 0 0)) p4.Txn.N) (fun v20 h => ?_)
 try simp only [*, go_sem]
 refine jn12 h (fun b21_1 b21_2 b21_3 b21_4 b21_5 b21_6 b21_7 b21_8 b21_9 b21_10 b21_11 b21_12 => [zP 10 0, zP 12 1]) (fun b21_1 b21_2 b21_3 b21_4 b21_5 b21_6 b21_7 b21_8 b21_9 b21_10 b21_11 b21_12 => [ox [zi 0, .nl 6, .nl 12, .nl 8, .nl 6, zi 0, zi 0], ox [zi b21_1, .d (.l 2 (b21_2.map Label.enc)), zi b21_3, zi b21_4, zi b21_5, zi b21_6, .r 2 0 b21_9.length, .r 3 0 b21_10.length, .r 4 0 b21_11.length, .r 5 0 b21_12.length, zi b21_7, zi b21_8], ot 6 (b21_9.map Job.encO), oa 12 (b21_10.map Message.enc), oa 8 (b21_11.map Record.enc), oa 6 (b21_12.map Reply.enc)]) (fun k22 h => ?_) (fun b21_1 b21_2 b21_3 b21_4 b21_5 b21_6 b21_7 b21_8 b21_9 b21_10 b21_11 b21_12 h => ?_)
 refine oi h (fun hb23 h => ?_) (fun hb23 h => ?_)
 try simp only [*, go_sem]
 refine ct h 1 [] [0, 1, 0, 0, 0, 0, 2] [2] (coord_work_asked_ok G (CoordWork.mk p0 p1 p2 (Turn.mk v12 [] [] [] 0 0)) v20 p4) (fun v24 h => ?_)
 try simp only [*, go_sem]
 exact jc (v24.c.Sites, v24.c.Labels, v24.c.Patience, v24.l, v24.me, v24.turn.Desk.Next, v24.turn.Sure, v24.turn.Committed, v24.turn.Desk.Jobs, v24.turn.Messages, v24.turn.Records, v24.turn.Replies) h.e [some 0, some 1, some 3, some 4, some 5, some 6]
 try simp only [*, go_sem]
 refine jn12 h (fun b25_1 b25_2 b25_3 b25_4 b25_5 b25_6 b25_7 b25_8 b25_9 b25_10 b25_11 b25_12 => [zP 10 0, zP 12 1]) (fun b25_1 b25_2 b25_3 b25_4 b25_5 b25_6 b25_7 b25_8 b25_9 b25_10 b25_11 b25_12 => [ox [zi 0, .nl 6, .nl 12, .nl 8, .nl 6, zi 0, zi 0], ox [zi b25_1, .d (.l 2 (b25_2.map Label.enc)), zi b25_3, zi b25_4, zi b25_5, zi b25_6, .r 2 0 b25_9.length, .r 3 0 b25_10.length, .r 4 0 b25_11.length, .r 5 0 b25_12.length, zi b25_7, zi b25_8], ot 6 (b25_9.map Job.encO), oa 12 (b25_10.map Message.enc), oa 8 (b25_11.map Record.enc), oa 6 (b25_12.map Reply.enc)]) (fun k26 h => ?_) (fun b25_1 b25_2 b25_3 b25_4 b25_5 b25_6 b25_7 b25_8 b25_9 b25_10 b25_11 b25_12 h => ?_)
 refine oi h (fun hb27 h => ?_) (fun hb27 h => ?_)
 have := of_decide_eq_true hb27
 try simp only [*, go_sem]
 exact jc (p0.Sites, p0.Labels, p0.Patience, p1, p2, v12.Next, 0, 0, v12.Jobs, [], [], []) h.e [some 0, some 1, some 2, none, none, none]
 try simp only [*, go_sem]
 refine jn12 h (fun b28_1 b28_2 b28_3 b28_4 b28_5 b28_6 b28_7 b28_8 b28_9 b28_10 b28_11 b28_12 => [zP 10 0, zP 12 1]) (fun b28_1 b28_2 b28_3 b28_4 b28_5 b28_6 b28_7 b28_8 b28_9 b28_10 b28_11 b28_12 => [ox [zi 0, .nl 6, .nl 12, .nl 8, .nl 6, zi 0, zi 0], ox [zi b28_1, .d (.l 2 (b28_2.map Label.enc)), zi b28_3, zi b28_4, zi b28_5, zi b28_6, .r 2 0 b28_9.length, .r 3 0 b28_10.length, .r 4 0 b28_11.length, .r 5 0 b28_12.length, zi b28_7, zi b28_8], ot 6 (b28_9.map Job.encO), oa 12 (b28_10.map Message.enc), oa 8 (b28_11.map Record.enc), oa 6 (b28_12.map Reply.enc)]) (fun k29 h => ?_) (fun b28_1 b28_2 b28_3 b28_4 b28_5 b28_6 b28_7 b28_8 b28_9 b28_10 b28_11 b28_12 h => ?_)
 refine oi h (fun hb30 h => ?_) (fun hb30 h => ?_)
 try simp only [*, go_sem]
 refine ct h 1 [] [0, 1, 0, 0, 0, 0, 2] [2] (coord_work_answered_ok G (CoordWork.mk p0 p1 p2 (Turn.mk v12 [] [] [] 0 0)) v20 p4 false) (fun v31 h => ?_)
 try simp only [*, go_sem]
 exact jc (v31.c.Sites, v31.c.Labels, v31.c.Patience, v31.l, v31.me, v31.turn.Desk.Next, v31.turn.Sure, v31.turn.Committed, v31.turn.Desk.Jobs, v31.turn.Messages, v31.turn.Records, v31.turn.Replies) h.e [some 0, some 1, some 3, some 4, some 5, some 6]
 try simp only [*, go_sem]
 refine jn12 h (fun b32_1 b32_2 b32_3 b32_4 b32_5 b32_6 b32_7 b32_8 b32_9 b32_10 b32_11 b32_12 => [zP 10 0, zP 12 1]) (fun b32_1 b32_2 b32_3 b32_4 b32_5 b32_6 b32_7 b32_8 b32_9 b32_10 b32_11 b32_12 => [ox [zi 0, .nl 6, .nl 12, .nl 8, .nl 6, zi 0, zi 0], ox [zi b32_1, .d (.l 2 (b32_2.map Label.enc)), zi b32_3, zi b32_4, zi b32_5, zi b32_6, .r 2 0 b32_9.length, .r 3 0 b32_10.length, .r 4 0 b32_11.length, .r 5 0 b32_12.length, zi b32_7, zi b32_8], ot 6 (b32_9.map Job.encO), oa 12 (b32_10.map Message.enc), oa 8 (b32_11.map Record.enc), oa 6 (b32_12.map Reply.enc)]) (fun k33 h => ?_) (fun b32_1 b32_2 b32_3 b32_4 b32_5 b32_6 b32_7 b32_8 b32_9 b32_10 b32_11 b32_12 h => ?_)
 refine oi h (fun hb34 h => ?_) (fun hb34 h => ?_)
 try simp only [*, go_sem]
 refine ct h 1 [] [0, 1, 0, 0, 0, 0, 2] [2] (coord_work_answered_ok G (CoordWork.mk p0 p1 p2 (Turn.mk v12 [] [] [] 0 0)) v20 p4 true) (fun v35 h => ?_)
 try simp only [*, go_sem]
 exact jc (v35.c.Sites, v35.c.Labels, v35.c.Patience, v35.l, v35.me, v35.turn.Desk.Next, v35.turn.Sure, v35.turn.Committed, v35.turn.Desk.Jobs, v35.turn.Messages, v35.turn.Records, v35.turn.Replies) h.e [some 0, some 1, some 3, some 4, some 5, some 6]
 try simp only [*, go_sem]
 refine jn12 h (fun b36_1 b36_2 b36_3 b36_4 b36_5 b36_6 b36_7 b36_8 b36_9 b36_10 b36_11 b36_12 => [zP 10 0, zP 12 1]) (fun b36_1 b36_2 b36_3 b36_4 b36_5 b36_6 b36_7 b36_8 b36_9 b36_10 b36_11 b36_12 => [ox [zi 0, .nl 6, .nl 12, .nl 8, .nl 6, zi 0, zi 0], ox [zi b36_1, .d (.l 2 (b36_2.map Label.enc)), zi b36_3, zi b36_4, zi b36_5, zi b36_6, .r 2 0 b36_9.length, .r 3 0 b36_10.length, .r 4 0 b36_11.length, .r 5 0 b36_12.length, zi b36_7, zi b36_8], ot 6 (b36_9.map Job.encO), oa 12 (b36_10.map Message.enc), oa 8 (b36_11.map Record.enc), oa 6 (b36_12.map Reply.enc)]) (fun k37 h => ?_) (fun b36_1 b36_2 b36_3 b36_4 b36_5 b36_6 b36_7 b36_8 b36_9 b36_10 b36_11 b36_12 h => ?_)
 refine oi h (fun hb38 h => ?_) (fun hb38 h => ?_)
 try simp only [*, go_sem]
 refine ct h 1 [] [0, 1, 0, 0, 0, 0, 2] [2] (coord_work_sure_ok G (CoordWork.mk p0 p1 p2 (Turn.mk v12 [] [] [] 0 0)) v20 p4) (fun v39 h => ?_)
 try simp only [*, go_sem]
 exact jc (v39.c.Sites, v39.c.Labels, v39.c.Patience, v39.l, v39.me, v39.turn.Desk.Next, v39.turn.Sure, v39.turn.Committed, v39.turn.Desk.Jobs, v39.turn.Messages, v39.turn.Records, v39.turn.Replies) h.e [some 0, some 1, some 3, some 4, some 5, some 6]
 try simp only [*, go_sem]
 refine ct h 1 [] [0, 1, 0, 0, 0, 0, 2] [2] (coord_work_acked_ok G (CoordWork.mk p0 p1 p2 (Turn.mk v12 [] [] [] 0 0)) v20 p4) (fun v40 h => ?_)
 try simp only [*, go_sem]
 exact jc (v40.c.Sites, v40.c.Labels, v40.c.Patience, v40.l, v40.me, v40.turn.Desk.Next, v40.turn.Sure, v40.turn.Committed, v40.turn.Desk.Jobs, v40.turn.Messages, v40.turn.Records, v40.turn.Replies) h.e [some 0, some 1, some 3, some 4, some 5, some 6]
 try simp only [*, go_sem]
 exact jc (b36_1, b36_2, b36_3, b36_4, b36_5, b36_6, b36_7, b36_8, b36_9, b36_10, b36_11, b36_12) h.e [some 0, some 1, some 2, some 3, some 4, some 5]
 try simp only [*, go_sem]
 exact jc (b32_1, b32_2, b32_3, b32_4, b32_5, b32_6, b32_7, b32_8, b32_9, b32_10, b32_11, b32_12) h.e [some 0, some 1, some 2, some 3, some 4, some 5]
 try simp only [*, go_sem]
 exact jc (b28_1, b28_2, b28_3, b28_4, b28_5, b28_6, b28_7, b28_8, b28_9, b28_10, b28_11, b28_12) h.e [some 0, some 1, some 2, some 3, some 4, some 5]
 try simp only [*, go_sem]
 exact jc (b25_1, b25_2, b25_3, b25_4, b25_5, b25_6, b25_7, b25_8, b25_9, b25_10, b25_11, b25_12) h.e [some 0, some 1, some 2, some 3, some 4, some 5]
 cases h.e
 simp only [*, go_sem, mA, mS]
def reredosref_In (p0 : Int) (p1 : Int) (p2 : Int) : Option (Bool) := (withK (fun (b1_1 : Bool) => (some b1_1)) fun k2 => (if (decide (p0 ≥ p1)) = true then (k2 (decide (p0 ≤ p2))) else (k2 false)))
def F92 : VFn := ⟨15, (.seq (.reg [vo 6 (.mv (cb false))]) (.seq (.wk (.reg [vm 7 0, vm 8 1, bt 9 .geq 7 8, vm 10 9, gt 11 10 (.mv (.t 0)), gt 12 10 (.mv (.t 2)), gt 13 10 (.bin .i .leq (.t 11) (.t 12)), vo 14 (.pick (.t 10) (.t 13) (cb false)), vm 6 14])) .ret)), [.t 6]⟩
theorem low92 : lowF Tryd.prog 92 = some F92.strip := by kernel_rfl
theorem fok92 : fOk Tryd.prog 92 = true := by kernel_rfl
theorem reredosref_In_ok (p0 : Int) (p1 : Int) (p2 : Int) (r : Bool) (h : reredosref_In p0 p1 p2 = some r) : FnRO Tryd.prog G 92 [.one (.d (.i .i64 p0)), .one (.d (.i .i64 p1)), .one (.d (.i .i64 p2))] (fun rs => rs = [.one (.b r)]) := by
 refine FnRO.of' low92 fok92 (by simp [F92]) ?_
 rw [reredosref_In] at h
 replace h := Hd.mk h
 simp only [F92, go_sem]
 try simp only [*, go_sem]
 refine jn1 h (fun b1_1 => [zB 6 b1_1]) (fun b1_1 => []) (fun k2 h => ?_) (fun b1_1 h => ?_)
 refine oi h (fun hb3 h => ?_) (fun hb3 h => ?_)
 try simp only [*, go_sem]
 exact jc (decide (p0 ≤ p2)) h.e []
 try simp only [*, go_sem]
 exact jc (false) h.e []
 cases h.e
 simp only [*, go_sem, mA, mS]
def reredosref_ConfigFault_L2 (p0 : Config) (a8_1 : Nat) (x12 : Label) (k18 : Option (Int)) : Nat → Nat → Option (Int)
 | 0, _ => none
 | n20 + 1, a19_1 => (if (decide (a19_1 < a8_1)) = true then (Option.bind (p0.Labels[a19_1]?) fun x22 => (if ((x22.Level == x12.Level) && (x22.Cats == x12.Cats)) = true then (some 7) else (reredosref_ConfigFault_L2 p0 a8_1 x12 k18 n20 (a19_1 + 1)))) else k18)
def reredosref_ConfigFault_L1 (p0 : Config) (k7 : Option (Int)) : Nat → Nat → Option (Int)
 | 0, _ => none
 | n9 + 1, a8_1 => (if (decide (a8_1 < p0.Labels.length)) = true then (Option.bind (p0.Labels[a8_1]?) fun x12 => (Option.bind (reredosref_In x12.Level 0 9) fun v13 => (if (!v13) = true then (some 2) else (Option.bind (reredosref_In x12.Cats 0 15) fun v15 => (if (!v15) = true then (some 2) else (withK (reredosref_ConfigFault_L1 p0 k7 n9 (a8_1 + 1)) fun k18 => (reredosref_ConfigFault_L2 p0 a8_1 x12 k18 (a8_1 + 1) 0))))))) else k7)
def reredosref_ConfigFault (p0 : Config) : Option (Int) := (Option.bind (reredosref_In p0.Sites 1 4) fun v1 => (if (!v1) = true then (some 2) else (Option.bind (reredosref_In ((p0.Labels.length : Nat) : Int) 1 6) fun v4 => (if (!v4) = true then (some 1) else (withK (Option.bind (reredosref_In p0.Patience 1 1048576) fun v26 => (if (!v26) = true then (some 2) else (some 0))) fun k7 => (reredosref_ConfigFault_L1 p0 k7 (p0.Labels.length + 1) 0))))))
def F70 : VFn := ⟨59, (.seq (.reg [vo 1 (.boxk 3 (.t 0)), mi 2 0]) (.seq (.seq (.reg [vf 5 0 1, vs 6 5, vo 7 (.call 92 [(.t 6), (ci 1), (ci 4)]), nt 8 7]) (.cond (.t 8) (.seq (.reg [mi 2 2]) .ret) .skip)) (.seq (.seq (.reg [vf 9 1 1, vs 10 9, ln 11 10, vo 12 (.call 92 [(.t 11), (ci 1), (ci 6)]), nt 13 12]) (.cond (.t 13) (.seq (.reg [mi 2 1]) .ret) .skip)) (.seq (.seq (.reg [mi 3 0]) (.wk (.block 0 (.loop (.seq (.seq (.reg [vm 14 3, vf 15 1 1, vs 16 15, ln 17 16, bt 18 .lss 14 17]) (.cond (.t 18) .skip (.exit 0))) (.seq (.block 1 (.seq (.seq (.reg [vf 21 1 1, vs 22 21, vm 23 3, xa 24 2 22 23, vf 25 0 24, vs 26 25, vo 27 (.call 92 [(.t 26), (ci 0), (ci 9)]), nt 28 27, vm 29 28, gf 30 29 (.fa 1 (.t 1)), gf 31 29 (.ld false 1 (.t 30)), gf 32 29 (.mv (.t 3)), gf 33 29 (.ia 2 (.t 31) (.t 32)), gf 34 29 (.fa 1 (.t 33)), gf 35 29 (.ld false 1 (.t 34)), gf 36 29 (.call 92 [(.t 35), (ci 0), (ci 15)]), gf 37 29 (.un .not (.t 36)), vo 38 (.pick (.t 29) (cb true) (.t 37))]) (.cond (.t 38) (.seq (.reg [mi 2 2]) .ret) .skip)) (.seq (.reg [mi 4 0]) (.wk (.block 2 (.loop (.seq (.seq (.reg [vm 39 4, vm 40 3, bt 41 .lss 39 40]) (.cond (.t 41) .skip (.exit 2))) (.seq (.block 3 (.seq (.draw [vd (vf 44 1 1) 0, vd (vs 45 44) 1, vd (vm 46 4) 0, vd (xa 47 2 45 46) 7, vd (vl 48 2 47) 15, vd (vf 49 1 1) 0, vd (vs 50 49) 32, vd (vm 51 3) 0, vd (xa 52 2 50 51) 224, vd (vl 53 2 52) 480, vd (vo 54 (.eqs false [.i, .i] (.t 48) (.t 53))) 1023]) (.cond (.t 54) (.seq (.reg [mi 2 7]) .ret) .skip))) (.reg [vm 42 4, bk 43 .add 42 1, vm 4 43]))))))))) (.reg [vm 19 3, bk 20 .add 19 1, vm 3 20]))))))) (.seq (.seq (.reg [vf 55 2 1, vs 56 55, vo 57 (.call 92 [(.t 56), (ci 1), (ci 1048576)]), nt 58 57]) (.cond (.t 58) (.seq (.reg [mi 2 2]) .ret) .skip)) (.seq (.reg [mi 2 0]) .ret)))))), [.t 2]⟩
theorem low70 : lowF Tryd.prog 70 = some F70.strip := by kernel_rfl
theorem fok70 : fOk Tryd.prog 70 = true := by kernel_rfl
theorem reredosref_ConfigFault_ok (p0 : Config) (r : Int) (h : reredosref_ConfigFault p0 = some r) : FnRO Tryd.prog G 70 [.agg p0.bx] (fun rs => rs = [.one (.i .i64 r)]) := by
 refine FnRO.of' low70 fok70 (by simp [F70]) ?_
 rw [reredosref_ConfigFault] at h
 replace h := Hd.mk h
 simp only [F70, go_sem]
 try simp only [*, go_sem]
 refine cr h (reredosref_In_ok G p0.Sites 1 4) (fun v1 h => ?_)
 refine oin h (fun hb2 hkhb2 h => ?_) (fun hb2 hkhb2 h => ?_)
 cases h.e
 simp only [*, go_sem, mA, mS]
 try simp only [*, go_sem]
 intro hl3
 try simp only [*, go_sem]
 refine cr h (reredosref_In_ok G ((p0.Labels.length : Nat) : Int) 1 6) (fun v4 h => ?_)
 refine oin h (fun hb5 hkhb5 h => ?_) (fun hb5 hkhb5 h => ?_)
 cases h.e
 simp only [*, go_sem, mA, mS]
 try simp only [*, go_sem]
 refine jn0 h ([zK 1 (Config.enc p0)]) ([]) (fun k7 h => ?_) (fun h => ?_)
 try simp only [*, go_sem]
 refine lp1 (reredosref_ConfigFault_L1 p0 k7) (fun a8_1 => [zK 1 (Config.enc p0), zI 3 ((a8_1 : Nat) : Int)]) (fun a8_1 => []) h [] [] (fun n9 a8_1 h => ?_) (by intros; rw [reredosref_ConfigFault_L1])
 rw [reredosref_ConfigFault_L1] at h
 try simp only [*, go_sem]
 intro hl10
 refine oi h (fun hb11 h => ?_) (fun hb11 h => ?_)
 have := of_decide_eq_true hb11
 refine obg h (fun x12 _ hkx12 h => ?_)
 try simp only [*, go_sem]
 refine cr h (reredosref_In_ok G x12.Level 0 9) (fun v13 h => ?_)
 refine oin h (fun hb14 hkhb14 h => ?_) (fun hb14 hkhb14 h => ?_)
 cases h.e
 simp only [*, go_sem, mA, mS]
 try simp only [*, go_sem]
 refine cr h (reredosref_In_ok G x12.Cats 0 15) (fun v15 h => ?_)
 refine oin h (fun hb16 hkhb16 h => ?_) (fun hb16 hkhb16 h => ?_)
 cases h.e
 simp only [*, go_sem, mA, mS]
 try simp only [*, go_sem]
 refine jn0 h ([zK 1 (Config.enc p0), zI 3 ((a8_1 : Nat) : Int), (30, .one (.p (.l 3 [(Config.enc p0)] 0 1))), zL 31 2 (p0.Labels.map Label.enc), zI 32 ((a8_1 : Nat) : Int), (33, .one (.p (.l 2 (p0.Labels.map Label.enc) a8_1 0))), (34, .one (.p (.l 2 (p0.Labels.map Label.enc) a8_1 1))), zI 35 x12.Cats, zB 36 true, zB 37 false]) ([]) (fun k18 h => ?_) (fun h => ?_)
 try simp only [*, go_sem]
 refine lp1 (reredosref_ConfigFault_L2 p0 a8_1 x12 k18) (fun a19_1 => [zK 1 (Config.enc p0), zI 3 ((a8_1 : Nat) : Int), zI 4 ((a19_1 : Nat) : Int), (30, .one (.p (.l 3 [(Config.enc p0)] 0 1))), zL 31 2 (p0.Labels.map Label.enc), zI 32 ((a8_1 : Nat) : Int), (33, .one (.p (.l 2 (p0.Labels.map Label.enc) a8_1 0))), (34, .one (.p (.l 2 (p0.Labels.map Label.enc) a8_1 1))), zI 35 x12.Cats, zB 36 true, zB 37 false]) (fun a19_1 => []) h [] [] (fun n20 a19_1 h => ?_) (by intros; rw [reredosref_ConfigFault_L2])
 rw [reredosref_ConfigFault_L2] at h
 refine oi h (fun hb21 h => ?_) (fun hb21 h => ?_)
 have := of_decide_eq_true hb21
 refine obg h (fun x22 _ hkx22 h => ?_)
 refine oi h (fun hb23 h => ?_) (fun hb23 h => ?_)
 try simp only [*, go_sem]
 cases h.e
 simp only [*, go_sem, mA, mS]
 try simp only [*, go_sem]
 have := wrap_succ_max hkx22 hl3
 try simp only [*, go_sem]
 exact lc (a19_1 + 1) h.e []
 try simp only [*, go_sem]
 exact jc () h.e []
 have := wrap_succ_max hkx12 hl3
 try simp only [*, go_sem]
 exact lc (a8_1 + 1) h.e []
 try simp only [*, go_sem]
 exact jc () h.e []
 try simp only [*, go_sem]
 refine cr h (reredosref_In_ok G p0.Patience 1 1048576) (fun v26 h => ?_)
 refine oin h (fun hb27 hkhb27 h => ?_) (fun hb27 hkhb27 h => ?_)
 cases h.e
 simp only [*, go_sem, mA, mS]
 cases h.e
 simp only [*, go_sem, mA, mS]
def reredosref_labelMay (p0 : Config) (p1 : Int) : Option (Bool) := (Option.bind (reredosref_In p1 0 (IntKind.i64.wrap (((p0.Labels.length : Nat) : Int) - 1))) fun v2 => (some v2))
def F91 : VFn := ⟨11, (.seq (.reg [vo 2 (.box 3 (.t 0)), vo 4 (.mv (cb false))]) (.seq (.reg [vm 5 1, vf 6 1 2, vs 7 6, ln 8 7, bk 9 .sub 8 1, vo 10 (.call 92 [(.t 5), (ci 0), (.t 9)]), vm 4 10]) .ret)), [.t 4]⟩
theorem low91 : lowF Tryd.prog 91 = some F91.strip := by kernel_rfl
theorem fok91 : fOk Tryd.prog 91 = true := by kernel_rfl
theorem reredosref_labelMay_ok (p0 : Config) (p1 : Int) (r : Bool) (h : reredosref_labelMay p0 p1 = some r) : FnRO Tryd.prog G 91 [.agg p0.bx, .one (.d (.i .i64 p1))] (fun rs => rs = [.one (.b r)]) := by
 refine FnRO.of' low91 fok91 (by simp [F91]) ?_
 rw [reredosref_labelMay] at h
 replace h := Hd.mk h
 simp only [F91, go_sem]
 try simp only [*, go_sem]
 intro hl1
 try simp only [*, go_sem]
 refine cr h (reredosref_In_ok G p1 0 (IntKind.i64.wrap (((p0.Labels.length : Nat) : Int) - 1))) (fun v2 h => ?_)
 cases h.e
 simp only [*, go_sem, mA, mS]
def reredosref_taskMay (p0 : Config) (p1 : Task) : Option (Bool) := (Option.bind (reredosref_labelMay p0 p1.Label) fun v1 => (if (!v1) = true then (some false) else (Option.bind (reredosref_In p1.Key 0 7) fun v3 => (if (!v3) = true then (some false) else (Option.bind (reredosref_In p1.Value 0 1073741824) fun v5 => (if (!v5) = true then (some false) else (Option.bind (reredosref_In p1.Version 0 1048576) fun v7 => (if (!v7) = true then (some false) else (Option.bind (reredosref_In p1.Ask 1 1048576) fun v9 => (if (!v9) = true then (some false) else (if p1.Done = true then (some true) else (withK (fun (b12_1 : Bool) => (some b12_1)) fun k13 => (if (!p1.Sure) = true then (if p1.Write = true then (k13 true) else (if (p1.Value == 0) = true then (k13 (p1.Version == 0)) else (k13 false))) else (k13 false))))))))))))))
def F197 : VFn := ⟨53, (.seq (.reg [vo 2 (.box 3 (.t 0)), vo 3 (.boxk 8 (.t 1)), vo 4 (.mv (cb false))]) (.seq (.seq (.reg [vl 5 3 2, vf 6 1 3, vs 7 6, vo 8 (.call 91 [(.t 5), (.t 7)]), nt 9 8, vm 10 9, gf 11 10 (.fa 2 (.t 3)), gf 12 10 (.ld false 1 (.t 11)), gf 13 10 (.call 92 [(.t 12), (ci 0), (ci 7)]), gf 14 10 (.un .not (.t 13)), vo 15 (.pick (.t 10) (cb true) (.t 14)), vm 16 15, gf 17 16 (.fa 3 (.t 3)), gf 18 16 (.ld false 1 (.t 17)), gf 19 16 (.call 92 [(.t 18), (ci 0), (ci 1073741824)]), gf 20 16 (.un .not (.t 19)), vo 21 (.pick (.t 16) (cb true) (.t 20)), vm 22 21, gf 23 22 (.fa 4 (.t 3)), gf 24 22 (.ld false 1 (.t 23)), gf 25 22 (.call 92 [(.t 24), (ci 0), (ci 1048576)]), gf 26 22 (.un .not (.t 25)), vo 27 (.pick (.t 22) (cb true) (.t 26)), vm 28 27, gf 29 28 (.fa 5 (.t 3)), gf 30 28 (.ld false 1 (.t 29)), gf 31 28 (.call 92 [(.t 30), (ci 1), (ci 1048576)]), gf 32 28 (.un .not (.t 31)), vo 33 (.pick (.t 28) (cb true) (.t 32))]) (.cond (.t 33) (.seq (.reg [vo 4 (.mv (cb false))]) .ret) .skip)) (.seq (.seq (.reg [vf 34 6 3, vs 35 34]) (.cond (.t 35) (.seq (.reg [vo 4 (.mv (cb true))]) .ret) .skip)) (.seq (.wk (.reg [vf 36 7 3, vs 37 36, nt 38 37, vm 39 38, gt 40 39 (.fa 0 (.t 3)), gt 41 39 (.ld false 1 (.t 40)), gt 42 39 (.mv (.t 41)), gf 43 42 (.fa 3 (.t 3)), gf 44 42 (.ld false 1 (.t 43)), gf 45 42 (.bin .i .eql (.t 44) (ci 0)), gf 46 42 (.mv (.t 45)), gt 47 46 (.fa 4 (.t 3)), gt 48 46 (.ld false 1 (.t 47)), gt 49 46 (.bin .i .eql (.t 48) (ci 0)), gf 50 42 (.pick (.t 46) (.t 49) (cb false)), gt 51 39 (.pick (.t 42) (cb true) (.t 50)), vo 52 (.pick (.t 39) (.t 51) (cb false)), vm 4 52])) .ret)))), [.t 4]⟩
theorem low197 : lowF Tryd.prog 197 = some F197.strip := by kernel_rfl
theorem fok197 : fOk Tryd.prog 197 = true := by kernel_rfl
theorem reredosref_taskMay_ok (p0 : Config) (p1 : Task) (r : Bool) (h : reredosref_taskMay p0 p1 = some r) : FnRO Tryd.prog G 197 [.agg p0.bx, .agg p1.bx] (fun rs => rs = [.one (.b r)]) := by
 refine FnRO.of' low197 fok197 (by simp [F197]) ?_
 rw [reredosref_taskMay] at h
 replace h := Hd.mk h
 simp only [F197, go_sem]
 try simp only [*, go_sem]
 refine cr h (reredosref_labelMay_ok G p0 p1.Label) (fun v1 h => ?_)
 refine oin h (fun hb2 hkhb2 h => ?_) (fun hb2 hkhb2 h => ?_)
 cases h.e
 simp only [*, go_sem, mA, mS]
 try simp only [*, go_sem]
 refine cr h (reredosref_In_ok G p1.Key 0 7) (fun v3 h => ?_)
 refine oin h (fun hb4 hkhb4 h => ?_) (fun hb4 hkhb4 h => ?_)
 cases h.e
 simp only [*, go_sem, mA, mS]
 try simp only [*, go_sem]
 refine cr h (reredosref_In_ok G p1.Value 0 1073741824) (fun v5 h => ?_)
 refine oin h (fun hb6 hkhb6 h => ?_) (fun hb6 hkhb6 h => ?_)
 cases h.e
 simp only [*, go_sem, mA, mS]
 try simp only [*, go_sem]
 refine cr h (reredosref_In_ok G p1.Version 0 1048576) (fun v7 h => ?_)
 refine oin h (fun hb8 hkhb8 h => ?_) (fun hb8 hkhb8 h => ?_)
 cases h.e
 simp only [*, go_sem, mA, mS]
 try simp only [*, go_sem]
 refine cr h (reredosref_In_ok G p1.Ask 1 1048576) (fun v9 h => ?_)
 refine oin h (fun hb10 hkhb10 h => ?_) (fun hb10 hkhb10 h => ?_)
 cases h.e
 simp only [*, go_sem, mA, mS]
 refine oi h (fun hb11 h => ?_) (fun hb11 h => ?_)
 cases h.e
 simp only [*, go_sem, mA, mS]
 try simp only [*, go_sem]
 refine jn1 h (fun b12_1 => [zB 4 b12_1]) (fun b12_1 => []) (fun k13 h => ?_) (fun b12_1 h => ?_)
 refine oin h (fun hb14 hkhb14 h => ?_) (fun hb14 hkhb14 h => ?_)
 refine oi h (fun hb15 h => ?_) (fun hb15 h => ?_)
 try simp only [*, go_sem]
 exact jc (true) h.e []
 refine oi h (fun hb16 h => ?_) (fun hb16 h => ?_)
 try simp only [*, go_sem]
 exact jc (p1.Version == 0) h.e []
 try simp only [*, go_sem]
 exact jc (false) h.e []
 try simp only [*, go_sem]
 exact jc (false) h.e []
 cases h.e
 simp only [*, go_sem, mA, mS]
def reredosref_jobMay_L1 (p0 : Config) (p2 : Job) (k12 : Option (Bool)) : Nat → Nat → Option (Bool)
 | 0, _ => none
 | n14 + 1, a13_1 => (if (decide (a13_1 < p2.Tasks.length)) = true then (Option.bind (p2.Tasks[a13_1]?) fun x17 => (Option.bind (reredosref_taskMay p0 x17) fun v18 => (if (!v18) = true then (some false) else (if (decide (x17.Ask > p2.Asks)) = true then (some false) else (if (decide (((a13_1 : Nat) : Int) > 0)) = true then (if 0 ≤ IntKind.i64.wrap (((a13_1 : Nat) : Int) - 1) then (Option.bind (p2.Tasks[(IntKind.i64.wrap (((a13_1 : Nat) : Int) - 1)).toNat]?) fun x22 => (if (decide (x17.Ask ≤ x22.Ask)) = true then (some false) else (if (!x17.Done) = true then (if (decide (((a13_1 : Nat) : Int) < IntKind.i64.wrap (((p2.Tasks.length : Nat) : Int) - 1))) = true then (some false) else (if (p2.State != 1) = true then (some false) else (reredosref_jobMay_L1 p0 p2 k12 n14 (a13_1 + 1)))) else (reredosref_jobMay_L1 p0 p2 k12 n14 (a13_1 + 1))))) else none) else (if (!x17.Done) = true then (if (decide (((a13_1 : Nat) : Int) < IntKind.i64.wrap (((p2.Tasks.length : Nat) : Int) - 1))) = true then (some false) else (if (p2.State != 1) = true then (some false) else (reredosref_jobMay_L1 p0 p2 k12 n14 (a13_1 + 1)))) else (reredosref_jobMay_L1 p0 p2 k12 n14 (a13_1 + 1)))))))) else k12)
def reredosref_jobMay_L2 (p0 : Config) (p2 : Job) (k38 : Option (Bool)) : Nat → Nat → Option (Bool)
 | 0, _ => none
 | n40 + 1, a39_1 => (if (decide (a39_1 < p2.Asked.length)) = true then (Option.bind (p2.Asked[a39_1]?) fun x43 => (Option.bind (reredosref_In x43 0 (IntKind.i64.wrap (p0.Sites - 1))) fun v44 => (if (!v44) = true then (some false) else (if (decide (((a39_1 : Nat) : Int) > 0)) = true then (if 0 ≤ IntKind.i64.wrap (((a39_1 : Nat) : Int) - 1) then (Option.bind (p2.Asked[(IntKind.i64.wrap (((a39_1 : Nat) : Int) - 1)).toNat]?) fun x47 => (if (decide (x43 ≤ x47)) = true then (some false) else (reredosref_jobMay_L2 p0 p2 k38 n40 (a39_1 + 1)))) else none) else (reredosref_jobMay_L2 p0 p2 k38 n40 (a39_1 + 1)))))) else k38)
def reredosref_jobMay (p0 : Config) (p1 : Int) (p2 : Job) : Option (Bool) := (Option.bind (reredosref_In p2.N 1 (IntKind.i64.wrap (p1 - 1))) fun v1 => (if (!v1) = true then (some false) else (Option.bind (reredosref_In p2.Age 0 1048576) fun v3 => (if (!v3) = true then (some false) else (Option.bind (reredosref_In p2.State 1 3) fun v5 => (if (!v5) = true then (some false) else (if (decide (((p2.Tasks.length : Nat) : Int) > 10)) = true then (some false) else (Option.bind (reredosref_In p2.Asks 0 1048576) fun v9 => (if (!v9) = true then (some false) else (withK (withK (some ((p2.State == 3) == (decide (((p2.Asked.length : Nat) : Int) > 0)))) fun k38 => (reredosref_jobMay_L2 p0 p2 k38 (p2.Asked.length + 1) 0)) fun k12 => (reredosref_jobMay_L1 p0 p2 k12 (p2.Tasks.length + 1) 0)))))))))))
def F165 : VFn := ⟨148, (.seq (.reg [vo 3 (.box 3 (.t 0)), vo 5 (.box 6 (.t 2)), vo 6 (.mv (cb false))]) (.seq (.seq (.reg [vf 9 0 5, vs 10 9, vm 11 1, bk 12 .sub 11 1, vo 13 (.call 92 [(.t 10), (ci 1), (.t 12)]), nt 14 13, vm 15 14, gf 16 15 (.fa 5 (.t 5)), gf 17 15 (.ld false 1 (.t 16)), gf 18 15 (.call 92 [(.t 17), (ci 0), (ci 1048576)]), gf 19 15 (.un .not (.t 18)), vo 20 (.pick (.t 15) (cb true) (.t 19)), vm 21 20, gf 22 21 (.fa 1 (.t 5)), gf 23 21 (.ld false 1 (.t 22)), gf 24 21 (.call 92 [(.t 23), (ci 1), (ci 3)]), gf 25 21 (.un .not (.t 24)), vo 26 (.pick (.t 21) (cb true) (.t 25)), vm 27 26, gf 28 27 (.fa 2 (.t 5)), gf 29 27 (.ld false 1 (.t 28)), gf 30 27 (.len (.t 29)), gf 31 27 (.bin .i .gtr (.t 30) (ci 10)), vo 32 (.pick (.t 27) (cb true) (.t 31)), vm 33 32, gf 34 33 (.fa 4 (.t 5)), gf 35 33 (.ld false 1 (.t 34)), gf 36 33 (.call 92 [(.t 35), (ci 0), (ci 1048576)]), gf 37 33 (.un .not (.t 36)), vo 38 (.pick (.t 33) (cb true) (.t 37))]) (.cond (.t 38) (.seq (.reg [vo 6 (.mv (cb false))]) .ret) .skip)) (.seq (.seq (.reg [mi 7 0]) (.wk (.block 0 (.loop (.seq (.seq (.reg [vm 39 7, vf 40 2 5, vs 41 40, ln 42 41, bt 43 .lss 39 42]) (.cond (.t 43) .skip (.exit 0))) (.seq (.block 1 (.seq (.seq (.draw [vd (vl 46 3 3) 0, vd (vf 47 2 5) 0, vd (vs 48 47) 2, vd (vm 49 7) 0, vd (xa 50 8 48 49) 14, vd (vl 51 8 50) 30, vd (vo 52 (.call 197 [(.t 46), (.t 51)])) 63, vd (nt 53 52) 127, vd (vm 54 53) 255, vd (gf 55 54 (.fa 2 (.t 5))) 511, vd (gf 56 54 (.ld false 1 (.t 55))) 1023, vd (gf 57 54 (.mv (.t 7))) 511, vd (gf 58 54 (.ia 8 (.t 56) (.t 57))) 4095, vd (gf 59 54 (.fa 5 (.t 58))) 8191, vd (gf 60 54 (.ld false 1 (.t 59))) 0x3fff, vd (gf 61 54 (.fa 4 (.t 5))) 511, vd (gf 62 54 (.ld false 1 (.t 61))) 0x81ff, vd (gf 63 54 (.bin .i .gtr (.t 60) (.t 62))) 0x1ffff, vd (vo 64 (.pick (.t 54) (cb true) (.t 63))) 0x3ffff, vd (vm 65 64) 0x7ffff, vd (gf 66 65 (.mv (.t 7))) 0xfffff, vd (gf 67 65 (.bin .i .gtr (.t 66) (ci 0))) 0x1fffff, vd (gf 68 65 (.mv (.t 67))) 0x3fffff, vd (gt 69 68 (.fa 2 (.t 5))) 0x7fffff, vd (gt 70 68 (.ld false 1 (.t 69))) 0xffffff, vd (gt 71 68 (.mv (.t 7))) 0x7fffff, vd (gt 72 68 (.ia 8 (.t 70) (.t 71))) 0x3ffffff, vd (gt 73 68 (.fa 5 (.t 72))) 0x7ffffff, vd (gt 74 68 (.ld false 1 (.t 73))) 0xfffffff, vd (gt 75 68 (.fa 2 (.t 5))) 0x7fffff, vd (gt 76 68 (.ld false 1 (.t 75))) 0x207fffff, vd (gt 77 68 (.mv (.t 7))) 0x7fffff, vd (gt 78 68 (.bin .i .sub (.t 77) (ci 1))) 0x807fffff, vd (gt 79 68 (.ia 8 (.t 76) (.t 78))) 0x1e07fffff, vd (gt 80 68 (.fa 5 (.t 79))) 0x3e07fffff, vd (gt 81 68 (.ld false 1 (.t 80))) 0x7e07fffff, vd (gt 82 68 (.bin .i .leq (.t 74) (.t 81))) 0xfffffffff, vd (gf 83 65 (.pick (.t 68) (.t 82) (cb false))) 0x1fffffffff, vd (vo 84 (.pick (.t 65) (cb true) (.t 83))) 0x3fffffffff]) (.cond (.t 84) (.seq (.reg [vo 6 (.mv (cb false))]) .ret) .skip)) (.seq (.reg [vf 85 2 5, vs 86 85, vm 87 7, xa 88 8 86 87, vf 89 6 88, vs 90 89, nt 91 90, vm 92 91, gt 93 92 (.mv (.t 7)), gt 94 92 (.fa 2 (.t 5)), gt 95 92 (.ld false 1 (.t 94)), gt 96 92 (.len (.t 95)), gt 97 92 (.bin .i .sub (.t 96) (ci 1)), gt 98 92 (.bin .i .lss (.t 93) (.t 97)), gt 99 92 (.mv (.t 98)), gf 100 99 (.fa 1 (.t 5)), gf 101 99 (.ld false 1 (.t 100)), gf 102 99 (.bin .i .neq (.t 101) (ci 1)), gt 103 92 (.pick (.t 99) (cb true) (.t 102)), vo 104 (.pick (.t 92) (.t 103) (cb false))]) (.cond (.t 104) (.seq (.reg [vo 6 (.mv (cb false))]) .ret) .skip)))) (.reg [vm 44 7, bk 45 .add 44 1, vm 7 45]))))))) (.seq (.seq (.reg [mi 8 0]) (.wk (.block 2 (.loop (.seq (.seq (.reg [vm 105 8, vf 106 3 5, vs 107 106, ln 108 107, bt 109 .lss 105 108]) (.cond (.t 109) .skip (.exit 2))) (.seq (.block 3 (.seq (.draw [vd (vf 112 3 5) 0, vd (vs 113 112) 1, vd (vm 114 8) 0, vd (xa 115 1 113 114) 7, vd (vs 116 115) 15, vd (vf 117 0 3) 0, vd (vs 118 117) 32, vd (bk 119 .sub 118 1) 96, vd (vo 120 (.call 92 [(.t 116), (ci 0), (.t 119)])) 255, vd (nt 121 120) 511, vd (vm 122 121) 1023, vd (gf 123 122 (.mv (.t 8))) 2047, vd (gf 124 122 (.bin .i .gtr (.t 123) (ci 0))) 4095, vd (gf 125 122 (.mv (.t 124))) 8191, vd (gt 126 125 (.fa 3 (.t 5))) 0x3fff, vd (gt 127 125 (.ld false 1 (.t 126))) 0x7fff, vd (gt 128 125 (.mv (.t 8))) 0x3fff, vd (gt 129 125 (.ia 1 (.t 127) (.t 128))) 0x1ffff, vd (gt 130 125 (.ld false 1 (.t 129))) 0x3ffff, vd (gt 131 125 (.fa 3 (.t 5))) 0x3fff, vd (gt 132 125 (.ld false 1 (.t 131))) 0x83fff, vd (gt 133 125 (.mv (.t 8))) 0x3fff, vd (gt 134 125 (.bin .i .sub (.t 133) (ci 1))) 0x203fff, vd (gt 135 125 (.ia 1 (.t 132) (.t 134))) 0x783fff, vd (gt 136 125 (.ld false 1 (.t 135))) 0xf83fff, vd (gt 137 125 (.bin .i .leq (.t 130) (.t 136))) 0x1ffffff, vd (gf 138 122 (.pick (.t 125) (.t 137) (cb false))) 0x3ffffff, vd (vo 139 (.pick (.t 122) (cb true) (.t 138))) 0x7ffffff]) (.cond (.t 139) (.seq (.reg [vo 6 (.mv (cb false))]) .ret) .skip))) (.reg [vm 110 8, bk 111 .add 110 1, vm 8 111]))))))) (.seq (.reg [vf 140 1 5, vs 141 140, bk 142 .eql 141 3, vf 143 3 5, vs 144 143, ln 145 144, bk 146 .gtr 145 0, vo 147 (.bin .b .eql (.t 142) (.t 146)), vm 6 147]) .ret))))), [.t 6]⟩
theorem low165 : lowF Tryd.prog 165 = some F165.strip := by kernel_rfl
theorem fok165 : fOk Tryd.prog 165 = true := by kernel_rfl
theorem reredosref_jobMay_ok (p0 : Config) (p1 : Int) (p2 : Job) (r : Bool) (h : reredosref_jobMay p0 p1 p2 = some r) : FnRO Tryd.prog G 165 [.agg p0.bx, .one (.d (.i .i64 p1)), .agg p2.bx] (fun rs => rs = [.one (.b r)]) := by
 refine FnRO.of' low165 fok165 (by simp [F165]) ?_
 rw [reredosref_jobMay] at h
 replace h := Hd.mk h
 simp only [F165, go_sem]
 try simp only [*, go_sem]
 refine cr h (reredosref_In_ok G p2.N 1 (IntKind.i64.wrap (p1 - 1))) (fun v1 h => ?_)
 refine oin h (fun hb2 hkhb2 h => ?_) (fun hb2 hkhb2 h => ?_)
 cases h.e
 simp only [*, go_sem, mA, mS]
 try simp only [*, go_sem]
 refine cr h (reredosref_In_ok G p2.Age 0 1048576) (fun v3 h => ?_)
 refine oin h (fun hb4 hkhb4 h => ?_) (fun hb4 hkhb4 h => ?_)
 cases h.e
 simp only [*, go_sem, mA, mS]
 try simp only [*, go_sem]
 refine cr h (reredosref_In_ok G p2.State 1 3) (fun v5 h => ?_)
 refine oin h (fun hb6 hkhb6 h => ?_) (fun hb6 hkhb6 h => ?_)
 cases h.e
 simp only [*, go_sem, mA, mS]
 try simp only [*, go_sem]
 intro hl7
 refine oi h (fun hb8 h => ?_) (fun hb8 h => ?_)
 cases h.e
 simp only [*, go_sem, mA, mS]
 try simp only [*, go_sem]
 refine cr h (reredosref_In_ok G p2.Asks 0 1048576) (fun v9 h => ?_)
 refine oin h (fun hb10 hkhb10 h => ?_) (fun hb10 hkhb10 h => ?_)
 cases h.e
 simp only [*, go_sem, mA, mS]
 try simp only [*, go_sem]
 refine jn0 h ([zP 3 0, zP 5 1]) ([ox p0.bx, ox p2.bx]) (fun k12 h => ?_) (fun h => ?_)
 try simp only [*, go_sem]
 refine lp1 (reredosref_jobMay_L1 p0 p2 k12) (fun a13_1 => [zP 3 0, zP 5 1, zI 7 ((a13_1 : Nat) : Int)]) (fun a13_1 => [ox p0.bx, ox p2.bx]) h [] [some 0, some 1] (fun n14 a13_1 h => ?_) (by intros; rw [reredosref_jobMay_L1])
 rw [reredosref_jobMay_L1] at h
 try simp only [*, go_sem]
 intro hl15
 refine oi h (fun hb16 h => ?_) (fun hb16 h => ?_)
 have := of_decide_eq_true hb16
 refine obg h (fun x17 _ hkx17 h => ?_)
 refine obk h (fun v18 hv18 h => ?_)
 try simp only [*, go_sem]
 refine cd (reredosref_taskMay_ok G p0 x17 v18 hv18) ?_
 refine oin h (fun hb19 hkhb19 h => ?_) (fun hb19 hkhb19 h => ?_)
 cases h.e
 simp only [*, go_sem, mA, mS]
 refine oi h (fun hb20 h => ?_) (fun hb20 h => ?_)
 cases h.e
 simp only [*, go_sem, mA, mS]
 refine oi h (fun hb21 h => ?_) (fun hb21 h => ?_)
 refine obn h (fun x22 _ _ _ _ h => ?_)
 refine oi h (fun hb24 h => ?_) (fun hb24 h => ?_)
 cases h.e
 simp only [*, go_sem, mA, mS]
 refine oin h (fun hb25 hkhb25 h => ?_) (fun hb25 hkhb25 h => ?_)
 try simp only [*, go_sem]
 intro hl26
 refine oi h (fun hb27 h => ?_) (fun hb27 h => ?_)
 cases h.e
 simp only [*, go_sem, mA, mS]
 refine oi h (fun hb28 h => ?_) (fun hb28 h => ?_)
 cases h.e
 simp only [*, go_sem, mA, mS]
 have := wrap_succ_max hkx17 hl7
 try simp only [*, go_sem]
 exact lc (a13_1 + 1) h.e [some 0, some 1]
 have := wrap_succ_max hkx17 hl7
 try simp only [*, go_sem]
 exact lc (a13_1 + 1) h.e [some 0, some 1]
 refine oin h (fun hb31 hkhb31 h => ?_) (fun hb31 hkhb31 h => ?_)
 try simp only [*, go_sem]
 intro hl32
 refine oi h (fun hb33 h => ?_) (fun hb33 h => ?_)
 cases h.e
 simp only [*, go_sem, mA, mS]
 refine oi h (fun hb34 h => ?_) (fun hb34 h => ?_)
 cases h.e
 simp only [*, go_sem, mA, mS]
 have := wrap_succ_max hkx17 hl7
 try simp only [*, go_sem]
 exact lc (a13_1 + 1) h.e [some 0, some 1]
 have := wrap_succ_max hkx17 hl7
 try simp only [*, go_sem]
 exact lc (a13_1 + 1) h.e [some 0, some 1]
 try simp only [*, go_sem]
 exact jc () h.e [some 0, some 1]
 try simp only [*, go_sem]
 refine jn0 h ([zP 5 0]) ([ox p2.bx]) (fun k38 h => ?_) (fun h => ?_)
 try simp only [*, go_sem]
 refine lp1 (reredosref_jobMay_L2 p0 p2 k38) (fun a39_1 => [zP 3 0, zP 5 1, zI 8 ((a39_1 : Nat) : Int)]) (fun a39_1 => [ox p0.bx, ox p2.bx]) h [] [some 0, some 1] (fun n40 a39_1 h => ?_) (by intros; rw [reredosref_jobMay_L2])
 rw [reredosref_jobMay_L2] at h
 try simp only [*, go_sem]
 intro hl41
 refine oi h (fun hb42 h => ?_) (fun hb42 h => ?_)
 have := of_decide_eq_true hb42
 refine obg h (fun x43 _ hkx43 h => ?_)
 refine obk h (fun v44 hv44 h => ?_)
 try simp only [*, go_sem]
 refine cd (reredosref_In_ok G x43 0 (IntKind.i64.wrap (p0.Sites - 1)) v44 hv44) ?_
 refine oin h (fun hb45 hkhb45 h => ?_) (fun hb45 hkhb45 h => ?_)
 cases h.e
 simp only [*, go_sem, mA, mS]
 refine oi h (fun hb46 h => ?_) (fun hb46 h => ?_)
 refine obn h (fun x47 _ _ _ _ h => ?_)
 refine oi h (fun hb49 h => ?_) (fun hb49 h => ?_)
 cases h.e
 simp only [*, go_sem, mA, mS]
 have := wrap_succ_max hkx43 hl41
 try simp only [*, go_sem]
 exact lc (a39_1 + 1) h.e [some 0, some 1]
 have := wrap_succ_max hkx43 hl41
 try simp only [*, go_sem]
 exact lc (a39_1 + 1) h.e [some 0, some 1]
 try simp only [*, go_sem]
 exact jc () h.e [some 1]
 try simp only [*, go_sem]
 intro hl52
 cases h.e
 simp only [*, go_sem, mA, mS]
def reredosref_DeskFault_L1 (p0 : Config) (p1 : Desk) (k8 : Option (Int)) : Nat → Nat → Option (Int)
 | 0, _ => none
 | n10 + 1, a9_1 => (if (decide (a9_1 < p1.Jobs.length)) = true then (Option.bind (p1.Jobs[a9_1]?) fun x13 => (Option.bind (reredosref_jobMay p0 p1.Next x13) fun v14 => (if (!v14) = true then (some 9) else (if (decide (((a9_1 : Nat) : Int) > 0)) = true then (if 0 ≤ IntKind.i64.wrap (((a9_1 : Nat) : Int) - 1) then (Option.bind (p1.Jobs[(IntKind.i64.wrap (((a9_1 : Nat) : Int) - 1)).toNat]?) fun x17 => (if (decide (x13.N ≤ x17.N)) = true then (some 9) else (reredosref_DeskFault_L1 p0 p1 k8 n10 (a9_1 + 1)))) else none) else (reredosref_DeskFault_L1 p0 p1 k8 n10 (a9_1 + 1)))))) else k8)
def reredosref_DeskFault (p0 : Config) (p1 : Desk) : Option (Int) := (Option.bind (reredosref_ConfigFault p0) fun v1 => (if (v1 != 0) = true then (some v1) else (Option.bind (reredosref_In p1.Next 1 1048577) fun v3 => (if (!v3) = true then (some 9) else (if (decide (((p1.Jobs.length : Nat) : Int) > 6)) = true then (some 9) else (withK (some 0) fun k8 => (reredosref_DeskFault_L1 p0 p1 k8 (p1.Jobs.length + 1) 0)))))))
def F117 : VFn := ⟨59, (.seq (.reg [vo 2 (.box 3 (.t 0)), vo 3 (.box 2 (.t 1)), mi 4 0]) (.seq (.reg [vl 7 3 2, vo 8 (.call 70 [(.t 7)]), vm 5 8]) (.seq (.seq (.reg [vm 9 5, bk 10 .neq 9 0]) (.cond (.t 10) (.seq (.reg [vm 11 5, vm 4 11]) .ret) .skip)) (.seq (.seq (.reg [vf 12 0 3, vs 13 12, vo 14 (.call 92 [(.t 13), (ci 1), (ci 1048577)]), nt 15 14, vm 16 15, gf 17 16 (.fa 1 (.t 3)), gf 18 16 (.ld false 1 (.t 17)), gf 19 16 (.len (.t 18)), gf 20 16 (.bin .i .gtr (.t 19) (ci 6)), vo 21 (.pick (.t 16) (cb true) (.t 20))]) (.cond (.t 21) (.seq (.reg [mi 4 9]) .ret) .skip)) (.seq (.seq (.reg [mi 6 0]) (.wk (.block 0 (.loop (.seq (.seq (.reg [vm 22 6, vf 23 1 3, vs 24 23, ln 25 24, bt 26 .lss 22 25]) (.cond (.t 26) .skip (.exit 0))) (.seq (.block 1 (.seq (.draw [vd (vl 29 3 2) 0, vd (vf 30 0 3) 0, vd (vs 31 30) 2, vd (vf 32 1 3) 0, vd (vs 33 32) 8, vd (vm 34 6) 0, vd (xa 35 6 33 34) 56, vd (vl 36 6 35) 120, vd (vo 37 (.call 165 [(.t 29), (.t 31), (.t 36)])) 255, vd (nt 38 37) 511, vd (vm 39 38) 1023, vd (gf 40 39 (.mv (.t 6))) 2047, vd (gf 41 39 (.bin .i .gtr (.t 40) (ci 0))) 4095, vd (gf 42 39 (.mv (.t 41))) 8191, vd (gt 43 42 (.fa 1 (.t 3))) 0x3fff, vd (gt 44 42 (.ld false 1 (.t 43))) 0x7fff, vd (gt 45 42 (.mv (.t 6))) 0x3fff, vd (gt 46 42 (.ia 6 (.t 44) (.t 45))) 0x1ffff, vd (gt 47 42 (.fa 0 (.t 46))) 0x3ffff, vd (gt 48 42 (.ld false 1 (.t 47))) 0x7ffff, vd (gt 49 42 (.fa 1 (.t 3))) 0x3fff, vd (gt 50 42 (.ld false 1 (.t 49))) 0x103fff, vd (gt 51 42 (.mv (.t 6))) 0x3fff, vd (gt 52 42 (.bin .i .sub (.t 51) (ci 1))) 0x403fff, vd (gt 53 42 (.ia 6 (.t 50) (.t 52))) 0xf03fff, vd (gt 54 42 (.fa 0 (.t 53))) 0x1f03fff, vd (gt 55 42 (.ld false 1 (.t 54))) 0x3f03fff, vd (gt 56 42 (.bin .i .leq (.t 48) (.t 55))) 0x7ffffff, vd (gf 57 39 (.pick (.t 42) (.t 56) (cb false))) 0xfffffff, vd (vo 58 (.pick (.t 39) (cb true) (.t 57))) 0x1fffffff]) (.cond (.t 58) (.seq (.reg [mi 4 9]) .ret) .skip))) (.reg [vm 27 6, bk 28 .add 27 1, vm 6 28]))))))) (.seq (.reg [mi 4 0]) .ret)))))), [.t 4]⟩
theorem low117 : lowF Tryd.prog 117 = some F117.strip := by kernel_rfl
theorem fok117 : fOk Tryd.prog 117 = true := by kernel_rfl
theorem reredosref_DeskFault_ok (p0 : Config) (p1 : Desk) (r : Int) (h : reredosref_DeskFault p0 p1 = some r) : FnRO Tryd.prog G 117 [.agg p0.bx, .agg p1.bx] (fun rs => rs = [.one (.i .i64 r)]) := by
 refine FnRO.of' low117 fok117 (by simp [F117]) ?_
 rw [reredosref_DeskFault] at h
 replace h := Hd.mk h
 simp only [F117, go_sem]
 try simp only [*, go_sem]
 refine cr h (reredosref_ConfigFault_ok G p0) (fun v1 h => ?_)
 refine oi h (fun hb2 h => ?_) (fun hb2 h => ?_)
 cases h.e
 simp only [*, go_sem, mA, mS]
 try simp only [*, go_sem]
 refine cr h (reredosref_In_ok G p1.Next 1 1048577) (fun v3 h => ?_)
 refine oin h (fun hb4 hkhb4 h => ?_) (fun hb4 hkhb4 h => ?_)
 cases h.e
 simp only [*, go_sem, mA, mS]
 try simp only [*, go_sem]
 intro hl5
 refine oi h (fun hb6 h => ?_) (fun hb6 h => ?_)
 cases h.e
 simp only [*, go_sem, mA, mS]
 try simp only [*, go_sem]
 refine jn0 h ([]) ([]) (fun k8 h => ?_) (fun h => ?_)
 try simp only [*, go_sem]
 refine lp1 (reredosref_DeskFault_L1 p0 p1 k8) (fun a9_1 => [zP 2 0, zP 3 1, zI 6 ((a9_1 : Nat) : Int)]) (fun a9_1 => [ox p0.bx, ox p1.bx]) h [] [some 0, some 1] (fun n10 a9_1 h => ?_) (by intros; rw [reredosref_DeskFault_L1])
 rw [reredosref_DeskFault_L1] at h
 try simp only [*, go_sem]
 intro hl11
 refine oi h (fun hb12 h => ?_) (fun hb12 h => ?_)
 have := of_decide_eq_true hb12
 refine obg h (fun x13 _ hkx13 h => ?_)
 refine obk h (fun v14 hv14 h => ?_)
 try simp only [*, go_sem]
 refine cd (reredosref_jobMay_ok G p0 p1.Next x13 v14 hv14) ?_
 refine oin h (fun hb15 hkhb15 h => ?_) (fun hb15 hkhb15 h => ?_)
 cases h.e
 simp only [*, go_sem, mA, mS]
 refine oi h (fun hb16 h => ?_) (fun hb16 h => ?_)
 refine obn h (fun x17 _ _ _ _ h => ?_)
 refine oi h (fun hb19 h => ?_) (fun hb19 h => ?_)
 cases h.e
 simp only [*, go_sem, mA, mS]
 have := wrap_succ_max hkx13 hl5
 try simp only [*, go_sem]
 exact lc (a9_1 + 1) h.e [some 0, some 1]
 have := wrap_succ_max hkx13 hl5
 try simp only [*, go_sem]
 exact lc (a9_1 + 1) h.e [some 0, some 1]
 try simp only [*, go_sem]
 exact jc () h.e []
 cases h.e
 simp only [*, go_sem, mA, mS]
end Go.V.Dec
