/- What Go's functions come to, as plain functions: part 2; no condition. -/
import Derived.Test.YtjklmaihcaelaaaG1
set_option linter.unusedVariables false
set_option linter.unusedSimpArgs false
namespace Go.V.Dec
open Go Go.Proofs
set_option maxRecDepth 100000
set_option maxHeartbeats 4000000
variable (G : Nat → Option (List D))
def coord_work_committing_L1 (p0 : CoordWork) (x1 : Job) (k5 : Bool → (List Message) → Option (CoordWork)) : Nat → Bool → Nat → (List Message) → Option (CoordWork)
 | 0, _, _, _ => none
 | n7 + 1, a6_1, a6_2, a6_3 => (if (decide (a6_2 < x1.Tasks.length)) = true then (Option.bind (x1.Tasks[a6_2]?) fun x9 => (if x9.Write = true then (coord_work_committing_L1 p0 x1 k5 n7 a6_1 (a6_2 + 1) a6_3) else (if x9.Sure = true then (coord_work_committing_L1 p0 x1 k5 n7 a6_1 (a6_2 + 1) a6_3) else (if p0.c.Sites = 0 then none else (if fits 96 (a6_3.length + 1) then (coord_work_committing_L1 p0 x1 k5 n7 true (a6_2 + 1) (a6_3 ++ [(Message.mk 3 p0.me (x9.Key.tmod p0.c.Sites) (Txn.mk p0.me x1.N) x9.Label x9.Key 0 x9.Version 0 false 0)])) else none))))) else (k5 a6_1 a6_3))
def coord_work_committing (p0 : CoordWork) (p1 : Int) : Option (CoordWork) := (if 0 ≤ p1 then (Option.bind (p0.turn.Desk.Jobs[p1.toNat]?) fun x1 => (withK (fun (b4_1 : Bool) (b4_2 : List Message) => (if b4_1 = true then (some (CoordWork.mk p0.c p0.l p0.me (Turn.mk (Desk.mk p0.turn.Desk.Next (p0.turn.Desk.Jobs.set p1.toNat (Job.mk x1.N 2 x1.Tasks x1.Asked x1.Asks 0))) b4_2 p0.turn.Records p0.turn.Replies x1.N p0.turn.Committed))) else (Option.bind (coord_work_commit (CoordWork.mk p0.c p0.l p0.me (Turn.mk (Desk.mk p0.turn.Desk.Next (p0.turn.Desk.Jobs.set p1.toNat x1)) b4_2 p0.turn.Records p0.turn.Replies x1.N p0.turn.Committed)) p1) fun v21 => (some v21)))) fun k5 => (coord_work_committing_L1 p0 x1 k5 (x1.Tasks.length + 1) false 0 p0.turn.Messages))) else none)
def F30 : VFn := ⟨33, (.seq (.reg [vm 5 0, vo 6 (.nilchk (.t 5)), vf 7 5 6, vf 8 0 7, vf 9 1 8, vs 10 9, vm 11 1, xa 12 6 10 11, vm 4 12]) (.seq (.reg [vm 13 0, vm 14 4, vo 15 (.nilchk (.t 14)), vf 16 0 15, vs 17 16, vo 18 (.nilchk (.t 13)), vf 19 5 18, vf 20 5 19, vu (.st 1 (.t 20) (.t 17))]) (.seq (.seq (.reg [vm 21 0, vm 22 1, vo 23 (.call 49 [(.t 21), (.t 22)])]) (.cond (.t 23) (.seq (.reg [vm 24 4, vm 25 4, vo 26 (.nilchk (.t 24)), vf 27 1 26, vu (.st 1 (.t 27) (ci 2)), vo 28 (.nilchk (.t 25)), vf 29 5 28, vu (.st 1 (.t 29) (ci 0))]) (.gho .ret)) .skip)) (.gho (.reg [vm 30 0, vm 31 1, vo 32 (.call 50 [(.t 30), (.t 31)])]))))), []⟩
theorem low30 : lowF Try.prog 30 = some F30.strip := by kernel_rfl
theorem fok30 : fOk Try.prog 30 = true := by kernel_rfl
theorem coord_work_committing_ok (p0 : CoordWork) (p1 : Int) (r : CoordWork) (h : coord_work_committing p0 p1 = some r) : FnX Try.prog G 30 [ptrX, .one (.d (.i .i64 p1))] [.i .i64 p0.c.Sites, .l 2 (p0.c.Labels.map Label.enc), .i .i64 p0.c.Patience, .i .i64 p0.l, .i .i64 p0.me, .i .i64 p0.turn.Desk.Next, .t 6 (p0.turn.Desk.Jobs.map Job.encO), .o 12 (p0.turn.Messages.map Message.enc), .o 8 (p0.turn.Records.map Record.enc), .o 6 (p0.turn.Replies.map Reply.enc), .i .i64 p0.turn.Sure, .i .i64 p0.turn.Committed] (fun c rs => c = [.i .i64 r.c.Sites, .l 2 (r.c.Labels.map Label.enc), .i .i64 r.c.Patience, .i .i64 r.l, .i .i64 r.me, .i .i64 r.turn.Desk.Next, .t 6 (r.turn.Desk.Jobs.map Job.encO), .o 12 (r.turn.Messages.map Message.enc), .o 8 (r.turn.Records.map Record.enc), .o 6 (r.turn.Replies.map Reply.enc), .i .i64 r.turn.Sure, .i .i64 r.turn.Committed] ∧ rs = []) := by
 refine FnX.of [0, 1, 0, 0, 0, 0, 2] low30 fok30 (by exact Nat.le_of_ble_eq_true rfl) (by exact Nat.le_of_ble_eq_true rfl) ?_
 rw [coord_work_committing] at h
 replace h := Hd.mk h
 simp only [F30, go_sem]
 refine obn h (fun x1 _ _ _ _ h => ?_)
 try simp only [*, go_sem]
 refine cx low49 fok49 ?_
 simp only [*, F49, go_sem]
 try simp only [*, go_sem]
 refine gho_lk _ G _ _ [] ?_
 try simp only [*, go_sem]
 try simp only [*, go_sem]
 refine gho_lk _ G _ _ [] ?_
 try simp only [*, go_sem]
 try simp only [*, go_sem]
 refine gho_lk _ G _ _ [] ?_
 try simp only [*, go_sem]
 try simp only [*, go_sem]
 refine gho_lk _ G _ _ [.f 1 p1.toNat] ?_
 try simp only [*, go_sem]
 try simp only [*, go_sem]
 intro hl3
 try simp only [*, go_sem]
 refine jn2 h (fun b4_1 b4_2 => [zB 6 b4_1, zP 1000000 0, zI 1000001 p1, (1000004, .one (.p (.q 1 p1.toNat 0))), zP 2000000 0]) (fun b4_1 b4_2 => [ox [zi p0.c.Sites, .d (.l 2 (p0.c.Labels.map Label.enc)), zi p0.c.Patience, zi p0.l, zi p0.me, zi p0.turn.Desk.Next, .r 1 0 p0.turn.Desk.Jobs.length, .r 2 0 b4_2.length, .r 3 0 p0.turn.Records.length, .r 4 0 p0.turn.Replies.length, zi x1.N, zi p0.turn.Committed], og 6 (p0.turn.Desk.Jobs.map Job.encO) p1.toNat [zi x1.N, zi x1.State, .r 5 0 x1.Tasks.length, .r 6 0 x1.Asked.length, zi x1.Asks, zi x1.Age], oa 12 (b4_2.map Message.enc), oa 8 (p0.turn.Records.map Record.enc), oa 6 (p0.turn.Replies.map Reply.enc), oa 8 (x1.Tasks.map Task.enc), oa 1 (x1.Asked.map encI)]) (fun k5 h => ?_) (fun b4_1 b4_2 h => ?_)
 try simp only [*, go_sem]
 refine lp3 (coord_work_committing_L1 p0 x1 k5) (fun a6_1 a6_2 a6_3 => [zP 0 0, (5, .one (.p (.q 1 p1.toNat 0))), zB 6 a6_1, zR 21 2 0 x1.Tasks.length, zI 22 ((x1.Tasks.length : Nat) : Int), zI 23 ((a6_2 : Nat) : Int), zP 1000000 0, zI 1000001 p1, (1000004, .one (.p (.q 1 p1.toNat 0))), zP 2000000 0]) (fun a6_1 a6_2 a6_3 => [ox [zi p0.c.Sites, .d (.l 2 (p0.c.Labels.map Label.enc)), zi p0.c.Patience, zi p0.l, zi p0.me, zi p0.turn.Desk.Next, .r 1 0 p0.turn.Desk.Jobs.length, .r 3 0 a6_3.length, .r 4 0 p0.turn.Records.length, .r 5 0 p0.turn.Replies.length, zi x1.N, zi p0.turn.Committed], og 6 (p0.turn.Desk.Jobs.map Job.encO) p1.toNat [zi x1.N, zi x1.State, .r 2 0 x1.Tasks.length, .r 6 0 x1.Asked.length, zi x1.Asks, zi x1.Age], oa 8 (x1.Tasks.map Task.enc), oa 12 (a6_3.map Message.enc), oa 8 (p0.turn.Records.map Record.enc), oa 6 (p0.turn.Replies.map Reply.enc), oa 1 (x1.Asked.map encI)]) h [] [some 0, some 1, some 5, some 2, some 3, some 4, some 6] (fun n7 a6_1 a6_2 a6_3 h => ?_) (by intros; rw [coord_work_committing_L1])
 rw [coord_work_committing_L1] at h
 try simp only [*, go_sem]
 refine gho_lk _ G _ _ [] ?_
 try simp only [*, go_sem]
 refine oi h (fun hb8 h => ?_) (fun hb8 h => ?_)
 have := of_decide_eq_true hb8
 refine obg h (fun x9 _ hkx9 h => ?_)
 try simp only [*, go_sem]
 refine gho_lk _ G _ _ [] ?_
 try simp only [*, go_sem]
 try simp only [*, go_sem]
 refine gho_lk _ G _ _ [] ?_
 try simp only [*, go_sem]
 refine oi h (fun hb10 h => ?_) (fun hb10 h => ?_)
 try simp only [*, go_sem]
 refine gho_lk _ G _ _ [] ?_
 try simp only [*, go_sem]
 have := wrap_succ_max hkx9 hl3
 try simp only [*, go_sem]
 exact lc (a6_1, a6_2 + 1, a6_3) h.e [some 0, some 1, some 2, some 3, some 4, some 5, some 6]
 refine oi h (fun hb12 h => ?_) (fun hb12 h => ?_)
 try simp only [*, go_sem]
 refine gho_lk _ G _ _ [] ?_
 try simp only [*, go_sem]
 have := wrap_succ_max hkx9 hl3
 try simp only [*, go_sem]
 exact lc (a6_1, a6_2 + 1, a6_3) h.e [some 0, some 1, some 2, some 3, some 4, some 5, some 6]
 try simp only [*, go_sem]
 refine gho_lk _ G _ _ [] ?_
 try simp only [*, go_sem]
 try simp only [*, go_sem]
 refine gho_lk _ G _ _ [] ?_
 try simp only [*, go_sem]
 refine ckn h (fun _ h => ?_)
 try simp only [*, go_sem]
 refine cx low48 fok48 ?_
 simp only [*, F48, go_sem]
 try simp only [*, go_sem]
 refine gho_lk _ G _ _ [] ?_
 try simp only [*, go_sem]
 try simp only [*, go_sem]
 refine gho_lk _ G _ _ [] ?_
 try simp only [*, go_sem]
 refine ck h (fun hf15 h => ?_)
 try simp only [*, go_sem]
 refine gho_lk _ G _ _ [] ?_
 try simp only [*, go_sem]
 have : IntKind.i64.wrap (((a6_3.length + 1 : Nat) : Int) - 1) = ((a6_3.length : Nat) : Int) := wrap_pred hf15.2
 have : (a6_3 ++ [(Message.mk 3 p0.me (x9.Key.tmod p0.c.Sites) (Txn.mk p0.me x1.N) 0 0 0 0 0 false 0)])[a6_3.length]? = some (Message.mk 3 p0.me (x9.Key.tmod p0.c.Sites) (Txn.mk p0.me x1.N) 0 0 0 0 0 false 0) := List.getElem?_concat_length
 have : a6_3.length < a6_3.length + 1 := Nat.lt_succ_self _
 try simp only [*, go_sem]
 refine gho_lk _ G _ _ [] ?_
 try simp only [*, go_sem]
 try simp only [*, go_sem]
 refine gho_lk _ G _ _ [] ?_
 try simp only [*, go_sem]
 try simp only [*, go_sem]
 refine gho_lk _ G _ _ [] ?_
 try simp only [*, go_sem]
 have := wrap_succ_max hkx9 hl3
 try simp only [*, go_sem]
 exact lc (true, a6_2 + 1, (a6_3 ++ [(Message.mk 3 p0.me (x9.Key.tmod p0.c.Sites) (Txn.mk p0.me x1.N) x9.Label x9.Key 0 x9.Version 0 false 0)])) h.e [some 0, some 1, some 2, some 41, some 4, some 5, some 6]
 try simp only [*, go_sem]
 exact jc (a6_1, a6_3) h.e [some 0, some 1, some 3, some 4, some 5, some 2, some 6]
 try simp only [*, go_sem]
 refine gho_lk _ G _ _ [] ?_
 try simp only [*, go_sem]
 try simp only [*, go_sem]
 refine gho_lk _ G _ _ [] ?_
 try simp only [*, go_sem]
 refine oi h (fun hb20 h => ?_) (fun hb20 h => ?_)
 try simp only [*, go_sem]
 refine gho_lk _ G _ _ [.u 1] ?_
 try simp only [*, go_sem]
 cases h.e
 try simp only [*, go_sem]
 refine eti [] ?_
 simp only [*, go_sem, mA, mS]
 try simp only [*, go_sem]
 refine gho_lk _ G _ _ [.u 1] ?_
 try simp only [*, go_sem]
 try simp only [*, go_sem]
 refine ct h 0 [] [0, 1, 0, 0, 0, 0, 2] [1, 2, 3, 4] (coord_work_commit_ok G (CoordWork.mk p0.c p0.l p0.me (Turn.mk (Desk.mk p0.turn.Desk.Next (p0.turn.Desk.Jobs.set p1.toNat x1)) b4_2 p0.turn.Records p0.turn.Replies x1.N p0.turn.Committed)) p1) (fun v21 h => ?_)
 cases h.e
 try simp only [*, go_sem]
 refine etn [] ?_
 simp only [*, go_sem, mA, mS]
def coord_work_end_L1 (p0 : CoordWork) (x1 : Job) (k5 : (List Int) → Option (CoordWork)) : Nat → Nat → (List Int) → Option (CoordWork)
 | 0, _, _ => none
 | n7 + 1, a6_1, a6_2 => (if (decide (a6_1 < x1.Tasks.length)) = true then (Option.bind (x1.Tasks[a6_1]?) fun x9 => (if p0.c.Sites = 0 then none else (if (x9.Label == p0.l) = true then (Option.bind (slices_Contains_int a6_2 (x9.Key.tmod p0.c.Sites)) fun v12 => (withK (fun (b13_1 : Bool) (b13_2 : List Int) => (coord_work_end_L1 p0 x1 k5 n7 (a6_1 + 1) b13_2)) fun k14 => (if (!v12) = true then (if fits 8 (a6_2.length + 1) then (k14 true (a6_2 ++ [x9.Key.tmod p0.c.Sites])) else none) else (k14 false a6_2)))) else (withK (coord_work_end_L1 p0 x1 k5 n7 (a6_1 + 1) a6_2) fun k19 => k19)))) else (k5 a6_2))
def coord_work_end_L4 (k35 : (List Int) → Option (CoordWork)) : Nat → Int → (List Int) → Option (CoordWork)
 | 0, _, _ => none
 | n37 + 1, a36_1, a36_2 => (if (decide (a36_1 > 0)) = true then (if 0 ≤ a36_1 then (Option.bind (a36_2[a36_1.toNat]?) fun x39 => (if 0 ≤ IntKind.i64.wrap (a36_1 - 1) then (Option.bind (a36_2[(IntKind.i64.wrap (a36_1 - 1)).toNat]?) fun x41 => (Option.bind (cmp_Less x39 x41) fun v43 => (if v43 = true then (if 0 ≤ IntKind.i64.wrap (a36_1 - 1) then (Option.bind ((a36_2.set a36_1.toNat x41)[(IntKind.i64.wrap (a36_1 - 1)).toNat]?) fun x45 => (coord_work_end_L4 k35 n37 (IntKind.i64.wrap (a36_1 - 1)) ((a36_2.set a36_1.toNat x41).set ((IntKind.i64.wrap (a36_1 - 1)).toNat) x39))) else none) else (k35 a36_2)))) else none)) else none) else (k35 a36_2))
def coord_work_end_L3 (b4_1 : List Int) (k30 : (List Int) → Option (CoordWork)) : Nat → Nat → (List Int) → Option (CoordWork)
 | 0, _, _ => none
 | n32 + 1, a31_1, a31_2 => (if (decide (a31_1 < b4_1.length)) = true then (withK (fun (b34_1 : List Int) => (coord_work_end_L3 b4_1 k30 n32 (a31_1 + 1) b34_1)) fun k35 => (coord_work_end_L4 k35 ((((a31_1 : Nat) : Int)).toNat + 1) ((a31_1 : Nat) : Int) a31_2)) else (k30 a31_2))
def coord_work_end_L2 (b4_1 : List Int) (k23 : (List Int) → Option (CoordWork)) : Nat → Option (CoordWork)
 | 0 => none
 | n26 + 1 => (if (decide (IntKind.i64.wrap (((b4_1.length : Nat) : Int)) ≤ 12)) = true then (withK (fun (b29_1 : List Int) => (k23 b29_1)) fun k30 => (coord_work_end_L3 b4_1 k30 (b4_1.length + 1) 1 b4_1)) else none)
def coord_work_end_L5 (p0 : CoordWork) (x1 : Job) (b22_1 : List Int) (k51 : (List Message) → Option (CoordWork)) : Nat → Nat → (List Message) → Option (CoordWork)
 | 0, _, _ => none
 | n53 + 1, a52_1, a52_2 => (if (decide (a52_1 < b22_1.length)) = true then (Option.bind (b22_1[a52_1]?) fun x55 => (if fits 96 (a52_2.length + 1) then (coord_work_end_L5 p0 x1 b22_1 k51 n53 (a52_1 + 1) (a52_2 ++ [(Message.mk 4 p0.me x55 (Txn.mk p0.me x1.N) 0 0 0 0 0 false 0)])) else none)) else (k51 a52_2))
def coord_work_end (p0 : CoordWork) (p1 : Int) : Option (CoordWork) := (if 0 ≤ p1 then (Option.bind (p0.turn.Desk.Jobs[p1.toNat]?) fun x1 => (withK (fun (b4_1 : List Int) => (withK (fun (b22_1 : List Int) => (withK (fun (b50_1 : List Message) => (Option.bind (deleteF (p0.turn.Desk.Jobs.set p1.toNat x1) p1 (IntKind.i64.wrap (p1 + 1))) fun v61 => (some (CoordWork.mk p0.c p0.l p0.me (Turn.mk (Desk.mk p0.turn.Desk.Next v61) b50_1 p0.turn.Records p0.turn.Replies p0.turn.Sure p0.turn.Committed))))) fun k51 => (coord_work_end_L5 p0 x1 b22_1 k51 (b22_1.length + 1) 0 p0.turn.Messages))) fun k23 => (Option.bind (math_bits_Len (IntKind.u64.wrap (((b4_1.length : Nat) : Int)))) fun v24 => (coord_work_end_L2 b4_1 k23 1)))) fun k5 => (coord_work_end_L1 p0 x1 k5 (x1.Tasks.length + 1) 0 []))) else none)
def F31 : VFn := ⟨33, (.seq (.gho (.reg [vm 7 0, vo 8 (.nilchk (.t 7)), vf 9 5 8, vf 10 0 9, vf 11 1 10, vs 12 11, vm 13 1, xa 14 6 12 13, vl 15 6 14, vo 4 (.alloc [(zi 0), (zi 0), (.nl 8), (.nl 1), (zi 0), (zi 0)]), vu (.st 6 (.t 4) (.t 15))])) (.seq (.seq (.reg [vm 16 0, vl 17 6 4, vo 18 (.call 51 [(.t 16), (.t 17)]), ln 19 18, mi 20 0]) (.wk (.block 0 (.loop (.seq (.reg [bt 21 .lss 20 19]) (.seq (.cond (.t 21) .skip (.exit 0)) (.seq (.block 1 (.seq (.reg [xa 22 1 18 20, vs 23 22, vm 6 23]) (.reg [vm 24 0, vm 25 6, vf 26 0 4, vs 27 26, vo 28 (.call 48 [(.t 24), (ci 4), (.t 25), (.t 27)])]))) (.reg [bk 29 .add 20 1, vm 20 29])))))))) (.reg [vm 30 0, vm 31 1, vo 32 (.call 52 [(.t 30), (.t 31)])]))), []⟩
theorem low31 : lowF Try.prog 31 = some F31.strip := by kernel_rfl
theorem fok31 : fOk Try.prog 31 = true := by kernel_rfl
theorem coord_work_end_ok (p0 : CoordWork) (p1 : Int) (r : CoordWork) (h : coord_work_end p0 p1 = some r) : FnX Try.prog G 31 [ptrX, .one (.d (.i .i64 p1))] [.i .i64 p0.c.Sites, .l 2 (p0.c.Labels.map Label.enc), .i .i64 p0.c.Patience, .i .i64 p0.l, .i .i64 p0.me, .i .i64 p0.turn.Desk.Next, .t 6 (p0.turn.Desk.Jobs.map Job.encO), .o 12 (p0.turn.Messages.map Message.enc), .o 8 (p0.turn.Records.map Record.enc), .o 6 (p0.turn.Replies.map Reply.enc), .i .i64 p0.turn.Sure, .i .i64 p0.turn.Committed] (fun c rs => c = [.i .i64 r.c.Sites, .l 2 (r.c.Labels.map Label.enc), .i .i64 r.c.Patience, .i .i64 r.l, .i .i64 r.me, .i .i64 r.turn.Desk.Next, .t 6 (r.turn.Desk.Jobs.map Job.encO), .o 12 (r.turn.Messages.map Message.enc), .o 8 (r.turn.Records.map Record.enc), .o 6 (r.turn.Replies.map Reply.enc), .i .i64 r.turn.Sure, .i .i64 r.turn.Committed] ∧ rs = []) := by
 refine FnX.of [0, 1, 0, 0, 0, 0, 2] low31 fok31 (by exact Nat.le_of_ble_eq_true rfl) (by exact Nat.le_of_ble_eq_true rfl) ?_
 rw [coord_work_end] at h
 replace h := Hd.mk h
 simp only [F31, go_sem]
 refine obn h (fun x1 _ _ _ _ h => ?_)
 try simp only [*, go_sem]
 refine gho_lk _ G _ _ [.f 1 p1.toNat] ?_
 try simp only [*, go_sem]
 try simp only [*, go_sem]
 refine cx low51 fok51 ?_
 simp only [*, F51, go_sem]
 try simp only [*, go_sem]
 intro hl3
 try simp only [*, go_sem]
 refine jn1 h (fun b4_1 => [zR 5 0 0 b4_1.length, zP 1000000 1, zI 1000001 p1, zP 1000004 2, zP 2000000 1]) (fun b4_1 => [oa 1 (b4_1.map encI), ox [zi p0.c.Sites, .d (.l 2 (p0.c.Labels.map Label.enc)), zi p0.c.Patience, zi p0.l, zi p0.me, zi p0.turn.Desk.Next, .r 3 0 p0.turn.Desk.Jobs.length, .r 4 0 p0.turn.Messages.length, .r 5 0 p0.turn.Records.length, .r 6 0 p0.turn.Replies.length, zi p0.turn.Sure, zi p0.turn.Committed], ox [zi x1.N, zi x1.State, .r 7 0 x1.Tasks.length, .r 8 0 x1.Asked.length, zi x1.Asks, zi x1.Age], og 6 (p0.turn.Desk.Jobs.map Job.encO) p1.toNat [zi x1.N, zi x1.State, .r 7 0 x1.Tasks.length, .r 8 0 x1.Asked.length, zi x1.Asks, zi x1.Age], oa 12 (p0.turn.Messages.map Message.enc), oa 8 (p0.turn.Records.map Record.enc), oa 6 (p0.turn.Replies.map Reply.enc), oa 8 (x1.Tasks.map Task.enc), oa 1 (x1.Asked.map encI)]) (fun k5 h => ?_) (fun b4_1 h => ?_)
 try simp only [*, go_sem]
 refine lp2 (coord_work_end_L1 p0 x1 k5) (fun a6_1 a6_2 => [zP 0 0, zR 5 1 0 a6_2.length, zR 10 2 0 x1.Tasks.length, zI 11 ((x1.Tasks.length : Nat) : Int), zI 12 ((a6_1 : Nat) : Int), zP 1000000 0, zI 1000001 p1, zP 1000004 3, zP 2000000 0]) (fun a6_1 a6_2 => [ox [zi p0.c.Sites, .d (.l 2 (p0.c.Labels.map Label.enc)), zi p0.c.Patience, zi p0.l, zi p0.me, zi p0.turn.Desk.Next, .r 4 0 p0.turn.Desk.Jobs.length, .r 5 0 p0.turn.Messages.length, .r 6 0 p0.turn.Records.length, .r 7 0 p0.turn.Replies.length, zi p0.turn.Sure, zi p0.turn.Committed], oa 1 (a6_2.map encI), oa 8 (x1.Tasks.map Task.enc), ox [zi x1.N, zi x1.State, .r 2 0 x1.Tasks.length, .r 8 0 x1.Asked.length, zi x1.Asks, zi x1.Age], og 6 (p0.turn.Desk.Jobs.map Job.encO) p1.toNat [zi x1.N, zi x1.State, .r 2 0 x1.Tasks.length, .r 8 0 x1.Asked.length, zi x1.Asks, zi x1.Age], oa 12 (p0.turn.Messages.map Message.enc), oa 8 (p0.turn.Records.map Record.enc), oa 6 (p0.turn.Replies.map Reply.enc), oa 1 (x1.Asked.map encI)]) h [] [some 0, none, some 5, some 7, some 1, some 2, some 3, some 4, some 6] (fun n7 a6_1 a6_2 h => ?_) (by intros; rw [coord_work_end_L1])
 rw [coord_work_end_L1] at h
 refine oi h (fun hb8 h => ?_) (fun hb8 h => ?_)
 have := of_decide_eq_true hb8
 refine obg h (fun x9 _ hkx9 h => ?_)
 refine ckn h (fun _ h => ?_)
 refine oi h (fun hb11 h => ?_) (fun hb11 h => ?_)
 refine obk h (fun v12 hv12 h => ?_)
 try simp only [*, go_sem]
 refine cdl (slices_Contains_int_ok G a6_2 (x9.Key.tmod p0.c.Sites) v12 hv12) ?_
 try simp only [*, go_sem]
 refine jn2 h (fun b13_1 b13_2 => [zP 0 0, zR 5 1 0 b13_2.length, zR 10 2 0 x1.Tasks.length, zI 11 ((x1.Tasks.length : Nat) : Int), zI 12 ((a6_1 : Nat) : Int), zI 33 (x9.Key.tmod p0.c.Sites), zB 34 v12, zB 35 b13_1, zP 1000000 0, zI 1000001 p1, zP 1000004 3, zP 2000000 0]) (fun b13_1 b13_2 => [ox [zi p0.c.Sites, .d (.l 2 (p0.c.Labels.map Label.enc)), zi p0.c.Patience, zi p0.l, zi p0.me, zi p0.turn.Desk.Next, .r 4 0 p0.turn.Desk.Jobs.length, .r 5 0 p0.turn.Messages.length, .r 6 0 p0.turn.Records.length, .r 7 0 p0.turn.Replies.length, zi p0.turn.Sure, zi p0.turn.Committed], oa 1 (b13_2.map encI), oa 8 (x1.Tasks.map Task.enc), ox [zi x1.N, zi x1.State, .r 2 0 x1.Tasks.length, .r 8 0 x1.Asked.length, zi x1.Asks, zi x1.Age], og 6 (p0.turn.Desk.Jobs.map Job.encO) p1.toNat [zi x1.N, zi x1.State, .r 2 0 x1.Tasks.length, .r 8 0 x1.Asked.length, zi x1.Asks, zi x1.Age], oa 12 (p0.turn.Messages.map Message.enc), oa 8 (p0.turn.Records.map Record.enc), oa 6 (p0.turn.Replies.map Reply.enc), oa 1 (x1.Asked.map encI)]) (fun k14 h => ?_) (fun b13_1 b13_2 h => ?_)
 refine oin h (fun hb15 hkhb15 h => ?_) (fun hb15 hkhb15 h => ?_)
 refine ck h (fun _ h => ?_)
 try simp only [*, go_sem]
 exact jc (true, (a6_2 ++ [x9.Key.tmod p0.c.Sites])) h.e [some 0, some 33, some 2, some 3, some 4, some 5, some 6, some 7, some 8]
 try simp only [*, go_sem]
 exact jc (false, a6_2) h.e [some 0, some 1, some 2, some 3, some 4, some 5, some 6, some 7, some 8]
 have := wrap_succ_max hkx9 hl3
 try simp only [*, go_sem]
 exact lc (a6_1 + 1, b13_2) h.e [some 0, some 1, some 2, some 3, some 4, some 5, some 6, some 7, some 8]
 try simp only [*, go_sem]
 refine jn0 h ([zP 0 0, zR 5 1 0 a6_2.length, zR 10 2 0 x1.Tasks.length, zI 11 ((x1.Tasks.length : Nat) : Int), zI 12 ((a6_1 : Nat) : Int), zP 1000000 0, zI 1000001 p1, zP 1000004 3, zP 2000000 0]) ([ox [zi p0.c.Sites, .d (.l 2 (p0.c.Labels.map Label.enc)), zi p0.c.Patience, zi p0.l, zi p0.me, zi p0.turn.Desk.Next, .r 4 0 p0.turn.Desk.Jobs.length, .r 5 0 p0.turn.Messages.length, .r 6 0 p0.turn.Records.length, .r 7 0 p0.turn.Replies.length, zi p0.turn.Sure, zi p0.turn.Committed], oa 1 (a6_2.map encI), oa 8 (x1.Tasks.map Task.enc), ox [zi x1.N, zi x1.State, .r 2 0 x1.Tasks.length, .r 8 0 x1.Asked.length, zi x1.Asks, zi x1.Age], og 6 (p0.turn.Desk.Jobs.map Job.encO) p1.toNat [zi x1.N, zi x1.State, .r 2 0 x1.Tasks.length, .r 8 0 x1.Asked.length, zi x1.Asks, zi x1.Age], oa 12 (p0.turn.Messages.map Message.enc), oa 8 (p0.turn.Records.map Record.enc), oa 6 (p0.turn.Replies.map Reply.enc), oa 1 (x1.Asked.map encI)]) (fun k19 h => ?_) (fun h => ?_)
 try simp only [*, go_sem]
 exact jc () h.e [some 0, some 1, some 2, some 3, some 4, some 5, some 6, some 7, some 8]
 have := wrap_succ_max hkx9 hl3
 try simp only [*, go_sem]
 exact lc (a6_1 + 1, a6_2) h.e [some 0, some 1, some 2, some 3, some 4, some 5, some 6, some 7, some 8]
 try simp only [*, go_sem]
 exact jc (a6_2) h.e [some 1, some 0, some 3, some 4, some 5, some 6, some 7, some 2, some 8]
 try simp only [*, go_sem]
 refine cx low63 fok63 ?_
 simp only [*, F63, go_sem]
 try simp only [*, go_sem]
 intro hl21
 try simp only [*, go_sem]
 refine jn1 h (fun b22_1 => [zR 1000005 0 0 b22_1.length, zP 2000000 1, zI 2000001 p1, zP 2000004 2, zP 3000000 1]) (fun b22_1 => [oa 1 (b22_1.map encI), ox [zi p0.c.Sites, .d (.l 2 (p0.c.Labels.map Label.enc)), zi p0.c.Patience, zi p0.l, zi p0.me, zi p0.turn.Desk.Next, .r 3 0 p0.turn.Desk.Jobs.length, .r 4 0 p0.turn.Messages.length, .r 5 0 p0.turn.Records.length, .r 6 0 p0.turn.Replies.length, zi p0.turn.Sure, zi p0.turn.Committed], ox [zi x1.N, zi x1.State, .r 7 0 x1.Tasks.length, .r 8 0 x1.Asked.length, zi x1.Asks, zi x1.Age], og 6 (p0.turn.Desk.Jobs.map Job.encO) p1.toNat [zi x1.N, zi x1.State, .r 7 0 x1.Tasks.length, .r 8 0 x1.Asked.length, zi x1.Asks, zi x1.Age], oa 12 (p0.turn.Messages.map Message.enc), oa 8 (p0.turn.Records.map Record.enc), oa 6 (p0.turn.Replies.map Reply.enc), oa 8 (x1.Tasks.map Task.enc), oa 1 (x1.Asked.map encI)]) (fun k23 h => ?_) (fun b22_1 h => ?_)
 try simp only [*, go_sem]
 refine cr h (math_bits_Len_ok G (IntKind.u64.wrap (((b4_1.length : Nat) : Int)))) (fun v24 h => ?_)
 try simp only [*, go_sem]
 refine cx low70 fok70 ?_
 simp only [*, F70, go_sem]
 refine jz ?_
 try simp only [*, go_sem]
 refine lp0 (coord_work_end_L2 b4_1 k23) ([zR 0 0 0 b4_1.length, zI 1 0, zI 2 ((b4_1.length : Nat) : Int), zI 3 v24, zB 8 true, zB 9 true, zR 2000005 0 0 b4_1.length, zP 3000000 1, zI 3000001 p1, zP 3000004 2, zP 4000000 1]) ([oa 1 (b4_1.map encI), ox [zi p0.c.Sites, .d (.l 2 (p0.c.Labels.map Label.enc)), zi p0.c.Patience, zi p0.l, zi p0.me, zi p0.turn.Desk.Next, .r 3 0 p0.turn.Desk.Jobs.length, .r 4 0 p0.turn.Messages.length, .r 5 0 p0.turn.Records.length, .r 6 0 p0.turn.Replies.length, zi p0.turn.Sure, zi p0.turn.Committed], ox [zi x1.N, zi x1.State, .r 7 0 x1.Tasks.length, .r 8 0 x1.Asked.length, zi x1.Asks, zi x1.Age], og 6 (p0.turn.Desk.Jobs.map Job.encO) p1.toNat [zi x1.N, zi x1.State, .r 7 0 x1.Tasks.length, .r 8 0 x1.Asked.length, zi x1.Asks, zi x1.Age], oa 12 (p0.turn.Messages.map Message.enc), oa 8 (p0.turn.Records.map Record.enc), oa 6 (p0.turn.Replies.map Reply.enc), oa 8 (x1.Tasks.map Task.enc), oa 1 (x1.Asked.map encI)]) h [] [some 0, some 1, some 2, some 3, some 4, some 5, some 6, some 7, some 8] (fun n26 h => ?_) (by intros; rw [coord_work_end_L2])
 rw [coord_work_end_L2] at h
 refine oi h (fun hb27 h => ?_) (fun hb27 h => ?_)
 try simp only [*, go_sem]
 refine cx low72 fok72 ?_
 simp only [*, F72, go_sem]
 have : IntKind.i64.wrap (0 + 1) = 1 := by decide
 have : IntKind.i64.wrap 1 = 1 := by decide
 try simp only [*, go_sem]
 refine jn1 h (fun b29_1 => [zR 3000005 0 0 b29_1.length, zP 4000000 1, zI 4000001 p1, zP 4000004 2, zP 5000000 1]) (fun b29_1 => [oa 1 (b29_1.map encI), ox [zi p0.c.Sites, .d (.l 2 (p0.c.Labels.map Label.enc)), zi p0.c.Patience, zi p0.l, zi p0.me, zi p0.turn.Desk.Next, .r 3 0 p0.turn.Desk.Jobs.length, .r 4 0 p0.turn.Messages.length, .r 5 0 p0.turn.Records.length, .r 6 0 p0.turn.Replies.length, zi p0.turn.Sure, zi p0.turn.Committed], ox [zi x1.N, zi x1.State, .r 7 0 x1.Tasks.length, .r 8 0 x1.Asked.length, zi x1.Asks, zi x1.Age], og 6 (p0.turn.Desk.Jobs.map Job.encO) p1.toNat [zi x1.N, zi x1.State, .r 7 0 x1.Tasks.length, .r 8 0 x1.Asked.length, zi x1.Asks, zi x1.Age], oa 12 (p0.turn.Messages.map Message.enc), oa 8 (p0.turn.Records.map Record.enc), oa 6 (p0.turn.Replies.map Reply.enc), oa 8 (x1.Tasks.map Task.enc), oa 1 (x1.Asked.map encI)]) (fun k30 h => ?_) (fun b29_1 h => ?_)
 try simp only [*, go_sem]
 refine lp2 (coord_work_end_L3 b4_1 k30) (fun a31_1 a31_2 => [zR 0 0 0 a31_2.length, zI 1 0, zI 2 ((b4_1.length : Nat) : Int), zI 6 ((a31_1 : Nat) : Int), zR 3000005 0 0 a31_2.length, zP 4000000 1, zI 4000001 p1, zP 4000004 2, zP 5000000 1]) (fun a31_1 a31_2 => [oa 1 (a31_2.map encI), ox [zi p0.c.Sites, .d (.l 2 (p0.c.Labels.map Label.enc)), zi p0.c.Patience, zi p0.l, zi p0.me, zi p0.turn.Desk.Next, .r 3 0 p0.turn.Desk.Jobs.length, .r 4 0 p0.turn.Messages.length, .r 5 0 p0.turn.Records.length, .r 6 0 p0.turn.Replies.length, zi p0.turn.Sure, zi p0.turn.Committed], ox [zi x1.N, zi x1.State, .r 7 0 x1.Tasks.length, .r 8 0 x1.Asked.length, zi x1.Asks, zi x1.Age], og 6 (p0.turn.Desk.Jobs.map Job.encO) p1.toNat [zi x1.N, zi x1.State, .r 7 0 x1.Tasks.length, .r 8 0 x1.Asked.length, zi x1.Asks, zi x1.Age], oa 12 (p0.turn.Messages.map Message.enc), oa 8 (p0.turn.Records.map Record.enc), oa 6 (p0.turn.Replies.map Reply.enc), oa 8 (x1.Tasks.map Task.enc), oa 1 (x1.Asked.map encI)]) h [] [some 0, some 1, some 2, some 3, some 4, some 5, some 6, some 7, some 8] (fun n32 a31_1 a31_2 h => ?_) (by intros; rw [coord_work_end_L3])
 rw [coord_work_end_L3] at h
 refine oi h (fun hb33 h => ?_) (fun hb33 h => ?_)
 have hkhb33 := of_decide_eq_true hb33
 try simp only [*, go_sem]
 refine jn1 h (fun b34_1 => [zR 0 0 0 b34_1.length, zI 1 0, zI 2 ((b4_1.length : Nat) : Int), zI 6 ((a31_1 : Nat) : Int), zR 3000005 0 0 b34_1.length, zP 4000000 1, zI 4000001 p1, zP 4000004 2, zP 5000000 1]) (fun b34_1 => [oa 1 (b34_1.map encI), ox [zi p0.c.Sites, .d (.l 2 (p0.c.Labels.map Label.enc)), zi p0.c.Patience, zi p0.l, zi p0.me, zi p0.turn.Desk.Next, .r 3 0 p0.turn.Desk.Jobs.length, .r 4 0 p0.turn.Messages.length, .r 5 0 p0.turn.Records.length, .r 6 0 p0.turn.Replies.length, zi p0.turn.Sure, zi p0.turn.Committed], ox [zi x1.N, zi x1.State, .r 7 0 x1.Tasks.length, .r 8 0 x1.Asked.length, zi x1.Asks, zi x1.Age], og 6 (p0.turn.Desk.Jobs.map Job.encO) p1.toNat [zi x1.N, zi x1.State, .r 7 0 x1.Tasks.length, .r 8 0 x1.Asked.length, zi x1.Asks, zi x1.Age], oa 12 (p0.turn.Messages.map Message.enc), oa 8 (p0.turn.Records.map Record.enc), oa 6 (p0.turn.Replies.map Reply.enc), oa 8 (x1.Tasks.map Task.enc), oa 1 (x1.Asked.map encI)]) (fun k35 h => ?_) (fun b34_1 h => ?_)
 try simp only [*, go_sem]
 refine lp2 (coord_work_end_L4 k35) (fun a36_1 a36_2 => [zR 0 0 0 a36_2.length, zI 1 0, zI 2 ((b4_1.length : Nat) : Int), zI 6 ((a31_1 : Nat) : Int), zI 7 a36_1, zR 3000005 0 0 a36_2.length, zP 4000000 1, zI 4000001 p1, zP 4000004 2, zP 5000000 1]) (fun a36_1 a36_2 => [oa 1 (a36_2.map encI), ox [zi p0.c.Sites, .d (.l 2 (p0.c.Labels.map Label.enc)), zi p0.c.Patience, zi p0.l, zi p0.me, zi p0.turn.Desk.Next, .r 3 0 p0.turn.Desk.Jobs.length, .r 4 0 p0.turn.Messages.length, .r 5 0 p0.turn.Records.length, .r 6 0 p0.turn.Replies.length, zi p0.turn.Sure, zi p0.turn.Committed], ox [zi x1.N, zi x1.State, .r 7 0 x1.Tasks.length, .r 8 0 x1.Asked.length, zi x1.Asks, zi x1.Age], og 6 (p0.turn.Desk.Jobs.map Job.encO) p1.toNat [zi x1.N, zi x1.State, .r 7 0 x1.Tasks.length, .r 8 0 x1.Asked.length, zi x1.Asks, zi x1.Age], oa 12 (p0.turn.Messages.map Message.enc), oa 8 (p0.turn.Records.map Record.enc), oa 6 (p0.turn.Replies.map Reply.enc), oa 8 (x1.Tasks.map Task.enc), oa 1 (x1.Asked.map encI)]) h [] [some 0, some 1, some 2, some 3, some 4, some 5, some 6, some 7, some 8] (fun n37 a36_1 a36_2 h => ?_) (by intros; rw [coord_work_end_L4])
 rw [coord_work_end_L4] at h
 refine oi h (fun hb38 h => ?_) (fun hb38 h => ?_)
 refine obn h (fun x39 _ _ _ _ h => ?_)
 refine obn h (fun x41 _ _ _ _ h => ?_)
 refine obk h (fun v43 hv43 h => ?_)
 try simp only [*, go_sem]
 refine cd (cmp_Less_ok G x39 x41 v43 hv43) ?_
 refine oi h (fun hb44 h => ?_) (fun hb44 h => ?_)
 refine ck h (fun _ h => ?_)
 refine obg h (fun x45 hx45 hkx45 h => ?_)
 try simp only [List.length_take, List.length_drop, List.length_append, List.length_set, List.length_map, List.length_cons, List.length_nil, Nat.zero_add] at hkx45
 have : IntKind.i64.wrap (a36_1 - 1) < ((a36_2.length : Nat) : Int) := by omega
 have : ((a36_2.map encI).set a36_1.toNat [.i .i64 x41])[(IntKind.i64.wrap (a36_1 - 1)).toNat]? = some [.i .i64 x45] := by rw [show ([.i .i64 x41] : List D) = encI x41 from rfl, ← List.map_set, List.getElem?_map, hx45]; rfl
 try simp only [*, go_sem]
 exact lc (IntKind.i64.wrap (a36_1 - 1), ((a36_2.set a36_1.toNat x41).set ((IntKind.i64.wrap (a36_1 - 1)).toNat) x39)) h.e [some 0, some 1, some 2, some 3, some 4, some 5, some 6, some 7, some 8]
 try simp only [*, go_sem]
 exact jc (a36_2) h.e [some 0, some 1, some 2, some 3, some 4, some 5, some 6, some 7, some 8]
 try simp only [*, go_sem]
 exact jc (a36_2) h.e [some 0, some 1, some 2, some 3, some 4, some 5, some 6, some 7, some 8]
 have := wrap_succ_max hkhb33 hl21
 try simp only [*, go_sem]
 exact lc (a31_1 + 1, b34_1) h.e [some 0, some 1, some 2, some 3, some 4, some 5, some 6, some 7, some 8]
 try simp only [*, go_sem]
 exact jc (a31_2) h.e [some 0, some 1, some 2, some 3, some 4, some 5, some 6, some 7, some 8]
 try simp only [*, go_sem]
 exact jc (b29_1) h.e [some 0, some 1, some 2, some 3, some 4, some 5, some 6, some 7, some 8]
 cases h.e
 try simp only [*, go_sem]
 intro hl49
 try simp only [*, go_sem]
 refine jn1 h (fun b50_1 => [zP 0 0, zI 1 p1, zP 1000000 0]) (fun b50_1 => [ox [zi p0.c.Sites, .d (.l 2 (p0.c.Labels.map Label.enc)), zi p0.c.Patience, zi p0.l, zi p0.me, zi p0.turn.Desk.Next, .r 1 0 p0.turn.Desk.Jobs.length, .r 2 0 b50_1.length, .r 3 0 p0.turn.Records.length, .r 4 0 p0.turn.Replies.length, zi p0.turn.Sure, zi p0.turn.Committed], ot 6 ((p0.turn.Desk.Jobs.set p1.toNat x1).map Job.encO), oa 12 (b50_1.map Message.enc), oa 8 (p0.turn.Records.map Record.enc), oa 6 (p0.turn.Replies.map Reply.enc)]) (fun k51 h => ?_) (fun b50_1 h => ?_)
 try simp only [*, go_sem]
 refine lp2 (coord_work_end_L5 p0 x1 b22_1 k51) (fun a52_1 a52_2 => [zP 0 0, zI 1 p1, zP 4 1, zR 18 2 0 b22_1.length, zI 19 ((b22_1.length : Nat) : Int), zI 20 ((a52_1 : Nat) : Int), zP 1000000 0]) (fun a52_1 a52_2 => [ox [zi p0.c.Sites, .d (.l 2 (p0.c.Labels.map Label.enc)), zi p0.c.Patience, zi p0.l, zi p0.me, zi p0.turn.Desk.Next, .r 3 0 p0.turn.Desk.Jobs.length, .r 4 0 a52_2.length, .r 5 0 p0.turn.Records.length, .r 6 0 p0.turn.Replies.length, zi p0.turn.Sure, zi p0.turn.Committed], ox [zi x1.N, zi x1.State, .r 7 0 x1.Tasks.length, .r 8 0 x1.Asked.length, zi x1.Asks, zi x1.Age], oa 1 (b22_1.map encI), og 6 (p0.turn.Desk.Jobs.map Job.encO) p1.toNat [zi x1.N, zi x1.State, .r 7 0 x1.Tasks.length, .r 8 0 x1.Asked.length, zi x1.Asks, zi x1.Age], oa 12 (a52_2.map Message.enc), oa 8 (p0.turn.Records.map Record.enc), oa 6 (p0.turn.Replies.map Reply.enc), oa 8 (x1.Tasks.map Task.enc), oa 1 (x1.Asked.map encI)]) h [] [some 1, some 2, some 0, some 3, some 4, some 5, some 6, some 7, some 8] (fun n53 a52_1 a52_2 h => ?_) (by intros; rw [coord_work_end_L5])
 rw [coord_work_end_L5] at h
 refine oi h (fun hb54 h => ?_) (fun hb54 h => ?_)
 have := of_decide_eq_true hb54
 refine obg h (fun x55 _ hkx55 h => ?_)
 try simp only [*, go_sem]
 refine cx low48 fok48 ?_
 simp only [*, F48, go_sem]
 try simp only [*, go_sem]
 refine gho_lk _ G _ _ [] ?_
 try simp only [*, go_sem]
 try simp only [*, go_sem]
 refine gho_lk _ G _ _ [] ?_
 try simp only [*, go_sem]
 refine ck h (fun hf56 h => ?_)
 try simp only [*, go_sem]
 refine gho_lk _ G _ _ [] ?_
 try simp only [*, go_sem]
 have : IntKind.i64.wrap (((a52_2.length + 1 : Nat) : Int) - 1) = ((a52_2.length : Nat) : Int) := wrap_pred hf56.2
 have : (a52_2 ++ [(Message.mk 4 p0.me x55 (Txn.mk p0.me x1.N) 0 0 0 0 0 false 0)])[a52_2.length]? = some (Message.mk 4 p0.me x55 (Txn.mk p0.me x1.N) 0 0 0 0 0 false 0) := List.getElem?_concat_length
 have : a52_2.length < a52_2.length + 1 := Nat.lt_succ_self _
 try simp only [*, go_sem]
 refine gho_lk _ G _ _ [] ?_
 try simp only [*, go_sem]
 have := wrap_succ_max hkx55 hl49
 try simp only [*, go_sem]
 exact lc (a52_1 + 1, (a52_2 ++ [(Message.mk 4 p0.me x55 (Txn.mk p0.me x1.N) 0 0 0 0 0 false 0)])) h.e [some 0, some 1, some 2, some 3, some 29, some 5, some 6, some 7, some 8]
 try simp only [*, go_sem]
 exact jf [.u 3] (a52_2) h.e [some 0, some 3, some 4, some 5, some 6]
 try simp only [*, go_sem]
 refine cx low52 fok52 ?_
 simp only [*, F52, go_sem]
 try simp only [*, go_sem]
 refine gho_lk _ G _ _ [] ?_
 try simp only [*, go_sem]
 refine obk h (fun v61 hv61 h => ?_)
 try simp only [*, go_sem]
 refine delete_callFT (p0.turn.Desk.Jobs.set p1.toNat x1) del64 (enc := Job.encO) hv61 (by first | rfl | (simp only [*, go_sem]; done) | (simp only [*, go_sem, List.map_set, List.map_append, List.map_cons, List.map_nil]; done)) (by first | rfl | simp only [List.length_take, List.length_drop, List.length_append, List.length_set, List.length_map, List.length_cons, List.length_nil, Nat.zero_add, List.length_set]) ?_
 cases h.e
 try simp only [*, go_sem]
 refine etn [] ?_
 simp only [*, go_sem, mA, mS]
def coord_Call (p0 : Config) (p1 : Int) (p2 : Int) (p3 : Desk) (p4 : Int) (p5 : Call) : Option (Turn × Int) := (Option.bind (coord_Check p0 p3) fun v1 => (if (v1 != 0) = true then (some ((Turn.mk (Desk.mk 0 []) [] [] [] 0 0), v1)) else (withK (withK (Option.bind (coord_own p3) fun v12 => (if (decide (p5.Kind < 1)) = true then (some ((Turn.mk (Desk.mk 0 []) [] [] [] 0 0), 3)) else (if (decide (p5.Kind > 5)) = true then (some ((Turn.mk (Desk.mk 0 []) [] [] [] 0 0), 3)) else (if (p5.Kind == 1) = true then (Option.bind (coord_work_begun (CoordWork.mk p0 p1 p2 (Turn.mk v12 [] [] [] 0 0)) p4) fun v16 => (some (v16.turn, 0))) else (Option.bind (coord_work_refuse (CoordWork.mk p0 p1 p2 (Turn.mk v12 [] [] [] 0 0)) p5) fun v17 => (if (v17 != 0) = true then (some ((Turn.mk v12 [] [] [(Reply.mk p2 p5.Kind p5.N p5.Key 0 v17)] 0 0), 0)) else (Option.bind (coord_work_place (CoordWork.mk p0 p1 p2 (Turn.mk v12 [] [] [] 0 0)) p5.N) fun v20 => (withK (fun (b21_1 : Int) (b21_2 : List Label) (b21_3 : Int) (b21_4 : Int) (b21_5 : Int) (b21_6 : Int) (b21_7 : Int) (b21_8 : Int) (b21_9 : List Job) (b21_10 : List Message) (b21_11 : List Record) (b21_12 : List Reply) => (some ((Turn.mk (Desk.mk b21_6 b21_9) b21_10 b21_11 b21_12 b21_7 b21_8), 0))) fun k22 => (if (p5.Kind == 2) = true then (Option.bind (coord_work_task (CoordWork.mk p0 p1 p2 (Turn.mk v12 [] [] [] 0 0)) v20 (Task.mk false p5.Label p5.Key 0 0 0 false false)) fun v24 => (k22 v24.c.Sites v24.c.Labels v24.c.Patience v24.l v24.me v24.turn.Desk.Next v24.turn.Sure v24.turn.Committed v24.turn.Desk.Jobs v24.turn.Messages v24.turn.Records v24.turn.Replies)) else (withK (fun (b25_1 : Int) (b25_2 : List Label) (b25_3 : Int) (b25_4 : Int) (b25_5 : Int) (b25_6 : Int) (b25_7 : Int) (b25_8 : Int) (b25_9 : List Job) (b25_10 : List Message) (b25_11 : List Record) (b25_12 : List Reply) => (k22 b25_1 b25_2 b25_3 b25_4 b25_5 b25_6 b25_7 b25_8 b25_9 b25_10 b25_11 b25_12)) fun k26 => (if (p5.Kind == 3) = true then (Option.bind (coord_work_task (CoordWork.mk p0 p1 p2 (Turn.mk v12 [] [] [] 0 0)) v20 (Task.mk true p1 p5.Key p5.Value 0 0 false false)) fun v28 => (k26 v28.c.Sites v28.c.Labels v28.c.Patience v28.l v28.me v28.turn.Desk.Next v28.turn.Sure v28.turn.Committed v28.turn.Desk.Jobs v28.turn.Messages v28.turn.Records v28.turn.Replies)) else (withK (fun (b29_1 : Int) (b29_2 : List Label) (b29_3 : Int) (b29_4 : Int) (b29_5 : Int) (b29_6 : Int) (b29_7 : Int) (b29_8 : Int) (b29_9 : List Job) (b29_10 : List Message) (b29_11 : List Record) (b29_12 : List Reply) => (k26 b29_1 b29_2 b29_3 b29_4 b29_5 b29_6 b29_7 b29_8 b29_9 b29_10 b29_11 b29_12)) fun k30 => (if (p5.Kind == 4) = true then (Option.bind (coord_work_committing (CoordWork.mk p0 p1 p2 (Turn.mk v12 [] [] [] 0 0)) v20) fun v32 => (k30 v32.c.Sites v32.c.Labels v32.c.Patience v32.l v32.me v32.turn.Desk.Next v32.turn.Sure v32.turn.Committed v32.turn.Desk.Jobs v32.turn.Messages v32.turn.Records v32.turn.Replies)) else (Option.bind (coord_work_end (CoordWork.mk p0 p1 p2 (Turn.mk v12 [] [] [] 0 0)) v20) fun v33 => (if fits 48 (v33.turn.Replies.length + 1) then (k30 v33.c.Sites v33.c.Labels v33.c.Patience v33.l v33.me v33.turn.Desk.Next v33.turn.Sure v33.turn.Committed v33.turn.Desk.Jobs v33.turn.Messages v33.turn.Records (v33.turn.Replies ++ [(Reply.mk v33.me 5 p5.N 0 0 0)])) else none))))))))))))))) fun k9 => (if (decide (p2 < 0)) = true then (some ((Turn.mk (Desk.mk 0 []) [] [] [] 0 0), 2)) else (if (decide (p2 ≥ p0.Sites)) = true then (some ((Turn.mk (Desk.mk 0 []) [] [] [] 0 0), 2)) else k9))) fun k4 => (if (decide (p1 < 0)) = true then (some ((Turn.mk (Desk.mk 0 []) [] [] [] 0 0), 6)) else (if (decide (p1 ≥ ((p0.Labels.length : Nat) : Int))) = true then (some ((Turn.mk (Desk.mk 0 []) [] [] [] 0 0), 6)) else k4)))))
def F10 : VFn := ⟨110, (.seq (.reg [vo 6 (.box 3 (.t 0)), vo 9 (.box 2 (.t 3)), vo 11 (.boxk 5 (.t 5)), vo 12 (.alloc [(zi 0), (.nl 6), (.nl 12), (.nl 8), (.nl 6), (zi 0), (zi 0)]), mi 13 0]) (.seq (.reg [vl 19 3 6, vm 20 1, vm 21 2, vl 22 2 9, vo 23 (.call 14 [(.t 19), (.t 20), (.t 21), (.t 22)]), vm 18 23, et 24 18 0, et 25 18 1, vm 14 24, vm 15 25]) (.seq (.seq (.reg [vm 26 15, bk 27 .neq 26 0]) (.cond (.t 27) (.seq (.reg [vo 28 (.build [(zi 0), (.nl 6), (.nl 12), (.nl 8), (.nl 6), (zi 0), (zi 0)] []), vm 29 15, vu (.st 7 (.t 12) (.t 28)), vm 13 29]) .ret) .skip)) (.seq (.seq (.reg [vf 30 0 11, vs 31 30, bk 32 .lss 31 1, vm 33 32, gf 34 33 (.fa 0 (.t 11)), gf 35 33 (.ld false 1 (.t 34)), gf 36 33 (.bin .i .gtr (.t 35) (ci 5)), vo 37 (.pick (.t 33) (cb true) (.t 36))]) (.cond (.t 37) (.seq (.reg [vo 38 (.build [(zi 0), (.nl 6), (.nl 12), (.nl 8), (.nl 6), (zi 0), (zi 0)] []), vu (.st 7 (.t 12) (.t 38)), mi 13 3]) .ret) .skip)) (.seq (.seq (.reg [vf 39 0 11, vs 40 39, bk 41 .eql 40 1]) (.cond (.t 41) (.seq (.reg [vm 42 14, vm 43 4, vo 44 (.call 26 [(.t 42), (.t 43)])]) (.seq (.reg [vm 45 14, vo 46 (.nilchk (.t 45)), vf 47 5 46, vl 48 7 47, vu (.st 7 (.t 12) (.t 48)), mi 13 0]) .ret)) .skip)) (.seq (.seq (.reg [vm 49 14, vl 50 5 11, vo 51 (.call 27 [(.t 49), (.t 50)]), vm 16 51]) (.seq (.reg [vm 52 16, bk 53 .neq 52 0]) (.cond (.t 53) (.seq (.reg [vm 54 14, vf 55 0 11, vs 56 55, vf 57 1 11, vs 58 57, vf 59 3 11, vs 60 59, vm 61 16, vo 62 (.call 28 [(.t 54), (.t 56), (.t 58), (.t 60), (ci 0), (.t 61)])]) (.seq (.reg [vm 63 14, vo 64 (.nilchk (.t 63)), vf 65 5 64, vl 66 7 65, vu (.st 7 (.t 12) (.t 66)), mi 13 0]) .ret)) .skip))) (.seq (.reg [vm 67 14, vf 68 1 11, vs 69 68, vo 70 (.call 15 [(.t 67), (.t 69)]), vm 17 70]) (.seq (.seq (.reg [vf 71 0 11, vs 72 71]) (.block 0 (.seq (.reg [bk 81 .eql 72 2, vm 80 81]) (.wk (.cond (.t 80) (.reg [vm 82 14, vm 83 17, vf 84 2 11, vs 85 84, vf 86 3 11, vs 87 86, vo 88 (.build [(.d (.b false)), (zi 0), (zi 0), (zi 0), (zi 0), (zi 0), (.d (.b false)), (.d (.b false))] [(1, 1, (.t 85)), (2, 1, (.t 87))]), vo 89 (.call 29 [(.t 82), (.t 83), (.t 88)])]) (.seq (.reg [bk 91 .eql 72 3, vm 90 91]) (.wk (.cond (.t 90) (.reg [vm 92 14, vm 93 17, vm 94 1, vf 95 3 11, vs 96 95, vf 97 4 11, vs 98 97, vo 99 (.build [(.d (.b false)), (zi 0), (zi 0), (zi 0), (zi 0), (zi 0), (.d (.b false)), (.d (.b false))] [(0, 1, (cb true)), (1, 1, (.t 94)), (2, 1, (.t 96)), (3, 1, (.t 98))]), vo 100 (.call 29 [(.t 92), (.t 93), (.t 99)])]) (.seq (.reg [bk 102 .eql 72 4, vm 101 102]) (.wk (.cond (.t 101) (.reg [vm 103 14, vm 104 17, vo 105 (.call 30 [(.t 103), (.t 104)])]) (.seq (.reg [vm 73 14, vm 74 17, vo 75 (.call 31 [(.t 73), (.t 74)])]) (.reg [vm 76 14, vf 77 1 11, vs 78 77, vo 79 (.call 28 [(.t 76), (ci 5), (.t 78), (ci 0), (ci 0), (ci 0)])]))))))))))))) (.seq (.reg [vm 106 14, vo 107 (.nilchk (.t 106)), vf 108 5 107, vl 109 7 108, vu (.st 7 (.t 12) (.t 109)), mi 13 0]) .ret))))))))), [.cell 12 true 7, .t 13]⟩
theorem low10 : lowF Try.prog 10 = some F10.strip := by kernel_rfl
theorem fok10 : fOk Try.prog 10 = true := by kernel_rfl
theorem coord_Call_ok (p0 : Config) (p1 : Int) (p2 : Int) (p3 : Desk) (p4 : Int) (p5 : Call) (r : Turn × Int) (h : coord_Call p0 p1 p2 p3 p4 p5 = some r) : FnRO Try.prog G 10 [.agg p0.bx, .one (.d (.i .i64 p1)), .one (.d (.i .i64 p2)), .agg p3.bx, .one (.d (.i .i64 p4)), .agg p5.bx] (fun rs => rs = [.agg [.i .i64 r.1.Desk.Next, .t 6 (r.1.Desk.Jobs.map Job.encO), .o 12 (r.1.Messages.map Message.enc), .o 8 (r.1.Records.map Record.enc), .o 6 (r.1.Replies.map Reply.enc), .i .i64 r.1.Sure, .i .i64 r.1.Committed], .one (.i .i64 r.2)]) := by
 refine FnRO.same ?_
 refine FnRO.of' low10 fok10 (by simp [F10]) ?_
 rw [coord_Call] at h
 replace h := Hd.mk h
 simp only [F10, go_sem]
 try simp only [*, go_sem]
 refine cx low14 fok14 ?_
 simp only [*, F14, go_sem]
 try simp only [*, go_sem]
 refine gho_lk _ G _ _ [] ?_
 try simp only [*, go_sem]
 try simp only [*, go_sem]
 refine gho_lk _ G _ _ [] ?_
 try simp only [*, go_sem]
 try simp only [*, go_sem]
 refine cr h (coord_Check_ok G p0 p3) (fun v1 h => ?_)
 try simp only [*, go_sem]
 refine gho_lk _ G _ _ [] ?_
 try simp only [*, go_sem]
 refine oi h (fun hb2 h => ?_) (fun hb2 h => ?_)
 try simp only [*, go_sem]
 refine gho_lk _ G _ _ [] ?_
 try simp only [*, go_sem]
 try simp only [*, go_sem]
 refine gho_lk _ G _ _ [] ?_
 try simp only [*, go_sem]
 cases h.e
 simp only [*, go_sem, mA, mS]
 try simp only [*, go_sem]
 refine jn0 h ([zI 1 p1, zI 2 p2, zP 4 0, zP 7 1, zI 1000001 p1, zI 1000004 p4, zK 1000011 (Call.enc p5), zP 1000012 2]) ([ox p0.bx, ox p3.bx, ox [zi 0, .nl 6, .nl 12, .nl 8, .nl 6, zi 0, zi 0]]) (fun k4 h => ?_) (fun h => ?_)
 try simp only [*, go_sem]
 refine gho_lk _ G _ _ [] ?_
 try simp only [*, go_sem]
 refine oi h (fun hb5 h => ?_) (fun hb5 h => ?_)
 have := of_decide_eq_true hb5
 try simp only [*, go_sem]
 refine gho_lk _ G _ _ [] ?_
 try simp only [*, go_sem]
 try simp only [*, go_sem]
 refine gho_lk _ G _ _ [] ?_
 try simp only [*, go_sem]
 cases h.e
 simp only [*, go_sem, mA, mS]
 try simp only [*, go_sem]
 intro hl6
 refine oi h (fun hb7 h => ?_) (fun hb7 h => ?_)
 try simp only [*, go_sem]
 refine gho_lk _ G _ _ [] ?_
 try simp only [*, go_sem]
 try simp only [*, go_sem]
 refine gho_lk _ G _ _ [] ?_
 try simp only [*, go_sem]
 cases h.e
 simp only [*, go_sem, mA, mS]
 try simp only [*, go_sem]
 exact jc () h.e [some 3, some 4, some 2]
 try simp only [*, go_sem]
 refine jn0 h ([zI 1 p1, zI 2 p2, zP 4 0, zP 7 1, zI 1000001 p1, zI 1000004 p4, zK 1000011 (Call.enc p5), zP 1000012 2]) ([ox p0.bx, ox p3.bx, ox [zi 0, .nl 6, .nl 12, .nl 8, .nl 6, zi 0, zi 0]]) (fun k9 h => ?_) (fun h => ?_)
 try simp only [*, go_sem]
 refine gho_lk _ G _ _ [] ?_
 try simp only [*, go_sem]
 refine oi h (fun hb10 h => ?_) (fun hb10 h => ?_)
 have := of_decide_eq_true hb10
 try simp only [*, go_sem]
 refine gho_lk _ G _ _ [] ?_
 try simp only [*, go_sem]
 try simp only [*, go_sem]
 refine gho_lk _ G _ _ [] ?_
 try simp only [*, go_sem]
 cases h.e
 simp only [*, go_sem, mA, mS]
 refine oi h (fun hb11 h => ?_) (fun hb11 h => ?_)
 try simp only [*, go_sem]
 refine gho_lk _ G _ _ [] ?_
 try simp only [*, go_sem]
 try simp only [*, go_sem]
 refine gho_lk _ G _ _ [] ?_
 try simp only [*, go_sem]
 cases h.e
 simp only [*, go_sem, mA, mS]
 try simp only [*, go_sem]
 exact jc () h.e [some 0, some 1, some 2]
 try simp only [*, go_sem]
 refine gho_lk _ G _ _ [] ?_
 try simp only [*, go_sem]
 refine obk h (fun v12 hv12 h => ?_)
 try simp only [*, go_sem]
 refine cdx (some (.tre 6 (v12.Jobs.map Job.encO) none)) (.agg [.d (.i .i64 v12.Next), .r 7 0 v12.Jobs.length]) (coord_own_ok G p3 v12 hv12) ?_
 try simp only [*, go_sem]
 refine gho_lk _ G _ _ [] ?_
 try simp only [*, go_sem]
 refine oi h (fun hb13 h => ?_) (fun hb13 h => ?_)
 have := of_decide_eq_true hb13
 cases h.e
 simp only [*, go_sem, mA, mS]
 refine oi h (fun hb14 h => ?_) (fun hb14 h => ?_)
 cases h.e
 simp only [*, go_sem, mA, mS]
 refine oi h (fun hb15 h => ?_) (fun hb15 h => ?_)
 try simp only [*, go_sem]
 refine ct h 10 [] [0, 1, 0, 0, 0, 0, 2] [7] (coord_work_begun_ok G (CoordWork.mk p0 p1 p2 (Turn.mk v12 [] [] [] 0 0)) p4) (fun v16 h => ?_)
 cases h.e
 simp only [*, go_sem, mA, mS]
 try simp only [*, go_sem]
 refine cl h (coord_work_refuse_ok G (CoordWork.mk p0 p1 p2 (Turn.mk v12 [] [] [] 0 0)) p5) (fun v17 h => ?_)
 refine oi h (fun hb18 h => ?_) (fun hb18 h => ?_)
 try simp only [*, go_sem]
 refine cx low28 fok28 ?_
 simp only [*, F28, go_sem]
 try simp only [*, go_sem]
 refine gho_lk _ G _ _ [] ?_
 try simp only [*, go_sem]
 have : fits 48 1 := by decide
 cases h.e
 simp only [*, go_sem, mA, mS]
 try simp only [*, go_sem]
 refine cl h (coord_work_place_ok G (CoordWork.mk p0 p1 p2 (Turn.mk v12 [] [] [] 0 0)) p5.N) (fun v20 h => ?_)
 try simp only [*, go_sem]
 refine jn12 h (fun b21_1 b21_2 b21_3 b21_4 b21_5 b21_6 b21_7 b21_8 b21_9 b21_10 b21_11 b21_12 => [zP 12 0, zP 14 1]) (fun b21_1 b21_2 b21_3 b21_4 b21_5 b21_6 b21_7 b21_8 b21_9 b21_10 b21_11 b21_12 => [ox [zi 0, .nl 6, .nl 12, .nl 8, .nl 6, zi 0, zi 0], ox [zi b21_1, .d (.l 2 (b21_2.map Label.enc)), zi b21_3, zi b21_4, zi b21_5, zi b21_6, .r 2 0 b21_9.length, .r 3 0 b21_10.length, .r 4 0 b21_11.length, .r 5 0 b21_12.length, zi b21_7, zi b21_8], ot 6 (b21_9.map Job.encO), oa 12 (b21_10.map Message.enc), oa 8 (b21_11.map Record.enc), oa 6 (b21_12.map Reply.enc)]) (fun k22 h => ?_) (fun b21_1 b21_2 b21_3 b21_4 b21_5 b21_6 b21_7 b21_8 b21_9 b21_10 b21_11 b21_12 h => ?_)
 refine oi h (fun hb23 h => ?_) (fun hb23 h => ?_)
 try simp only [*, go_sem]
 refine ct h 10 [] [0, 1, 0, 0, 0, 0, 2] [7] (coord_work_task_ok G (CoordWork.mk p0 p1 p2 (Turn.mk v12 [] [] [] 0 0)) v20 (Task.mk false p5.Label p5.Key 0 0 0 false false)) (fun v24 h => ?_)
 try simp only [*, go_sem]
 exact jc (v24.c.Sites, v24.c.Labels, v24.c.Patience, v24.l, v24.me, v24.turn.Desk.Next, v24.turn.Sure, v24.turn.Committed, v24.turn.Desk.Jobs, v24.turn.Messages, v24.turn.Records, v24.turn.Replies) h.e [some 2, some 10, some 13, some 14, some 15, some 16]
 try simp only [*, go_sem]
 refine jn12 h (fun b25_1 b25_2 b25_3 b25_4 b25_5 b25_6 b25_7 b25_8 b25_9 b25_10 b25_11 b25_12 => [zP 12 0, zP 14 1]) (fun b25_1 b25_2 b25_3 b25_4 b25_5 b25_6 b25_7 b25_8 b25_9 b25_10 b25_11 b25_12 => [ox [zi 0, .nl 6, .nl 12, .nl 8, .nl 6, zi 0, zi 0], ox [zi b25_1, .d (.l 2 (b25_2.map Label.enc)), zi b25_3, zi b25_4, zi b25_5, zi b25_6, .r 2 0 b25_9.length, .r 3 0 b25_10.length, .r 4 0 b25_11.length, .r 5 0 b25_12.length, zi b25_7, zi b25_8], ot 6 (b25_9.map Job.encO), oa 12 (b25_10.map Message.enc), oa 8 (b25_11.map Record.enc), oa 6 (b25_12.map Reply.enc)]) (fun k26 h => ?_) (fun b25_1 b25_2 b25_3 b25_4 b25_5 b25_6 b25_7 b25_8 b25_9 b25_10 b25_11 b25_12 h => ?_)
 refine oi h (fun hb27 h => ?_) (fun hb27 h => ?_)
 try simp only [*, go_sem]
 refine ct h 10 [] [0, 1, 0, 0, 0, 0, 2] [7] (coord_work_task_ok G (CoordWork.mk p0 p1 p2 (Turn.mk v12 [] [] [] 0 0)) v20 (Task.mk true p1 p5.Key p5.Value 0 0 false false)) (fun v28 h => ?_)
 try simp only [*, go_sem]
 exact jc (v28.c.Sites, v28.c.Labels, v28.c.Patience, v28.l, v28.me, v28.turn.Desk.Next, v28.turn.Sure, v28.turn.Committed, v28.turn.Desk.Jobs, v28.turn.Messages, v28.turn.Records, v28.turn.Replies) h.e [some 2, some 10, some 13, some 14, some 15, some 16]
 try simp only [*, go_sem]
 refine jn12 h (fun b29_1 b29_2 b29_3 b29_4 b29_5 b29_6 b29_7 b29_8 b29_9 b29_10 b29_11 b29_12 => [zP 12 0, zP 14 1]) (fun b29_1 b29_2 b29_3 b29_4 b29_5 b29_6 b29_7 b29_8 b29_9 b29_10 b29_11 b29_12 => [ox [zi 0, .nl 6, .nl 12, .nl 8, .nl 6, zi 0, zi 0], ox [zi b29_1, .d (.l 2 (b29_2.map Label.enc)), zi b29_3, zi b29_4, zi b29_5, zi b29_6, .r 2 0 b29_9.length, .r 3 0 b29_10.length, .r 4 0 b29_11.length, .r 5 0 b29_12.length, zi b29_7, zi b29_8], ot 6 (b29_9.map Job.encO), oa 12 (b29_10.map Message.enc), oa 8 (b29_11.map Record.enc), oa 6 (b29_12.map Reply.enc)]) (fun k30 h => ?_) (fun b29_1 b29_2 b29_3 b29_4 b29_5 b29_6 b29_7 b29_8 b29_9 b29_10 b29_11 b29_12 h => ?_)
 refine oi h (fun hb31 h => ?_) (fun hb31 h => ?_)
 try simp only [*, go_sem]
 refine ct h 10 [] [0, 1, 0, 0, 0, 0, 2] [7] (coord_work_committing_ok G (CoordWork.mk p0 p1 p2 (Turn.mk v12 [] [] [] 0 0)) v20) (fun v32 h => ?_)
 try simp only [*, go_sem]
 exact jc (v32.c.Sites, v32.c.Labels, v32.c.Patience, v32.l, v32.me, v32.turn.Desk.Next, v32.turn.Sure, v32.turn.Committed, v32.turn.Desk.Jobs, v32.turn.Messages, v32.turn.Records, v32.turn.Replies) h.e [some 2, some 10, some 13, some 14, some 15, some 16]
 try simp only [*, go_sem]
 refine ct h 10 [] [0, 1, 0, 0, 0, 0, 2] [7] (coord_work_end_ok G (CoordWork.mk p0 p1 p2 (Turn.mk v12 [] [] [] 0 0)) v20) (fun v33 h => ?_)
 try simp only [*, go_sem]
 refine cx low28 fok28 ?_
 simp only [*, F28, go_sem]
 try simp only [*, go_sem]
 refine gho_lk _ G _ _ [] ?_
 try simp only [*, go_sem]
 refine ck h (fun _ h => ?_)
 try simp only [*, go_sem]
 exact jc (v33.c.Sites, v33.c.Labels, v33.c.Patience, v33.l, v33.me, v33.turn.Desk.Next, v33.turn.Sure, v33.turn.Committed, v33.turn.Desk.Jobs, v33.turn.Messages, v33.turn.Records, (v33.turn.Replies ++ [(Reply.mk v33.me 5 p5.N 0 0 0)])) h.e [some 2, some 10, some 13, some 14, some 15, some 34]
 try simp only [*, go_sem]
 exact jc (b29_1, b29_2, b29_3, b29_4, b29_5, b29_6, b29_7, b29_8, b29_9, b29_10, b29_11, b29_12) h.e [some 0, some 1, some 2, some 3, some 4, some 5]
 try simp only [*, go_sem]
 exact jc (b25_1, b25_2, b25_3, b25_4, b25_5, b25_6, b25_7, b25_8, b25_9, b25_10, b25_11, b25_12) h.e [some 0, some 1, some 2, some 3, some 4, some 5]
 cases h.e
 simp only [*, go_sem, mA, mS]
def reredosref_In (p0 : Int) (p1 : Int) (p2 : Int) : Option (Bool) := (withK (fun (b1_1 : Bool) => (some b1_1)) fun k2 => (if (decide (p0 ≥ p1)) = true then (k2 (decide (p0 ≤ p2))) else (k2 false)))
def F32 : VFn := ⟨15, (.seq (.reg [vo 6 (.mv (cb false))]) (.seq (.wk (.reg [vm 7 0, vm 8 1, bt 9 .geq 7 8, vm 10 9, gt 11 10 (.mv (.t 0)), gt 12 10 (.mv (.t 2)), gt 13 10 (.bin .i .leq (.t 11) (.t 12)), vo 14 (.pick (.t 10) (.t 13) (cb false)), vm 6 14])) .ret)), [.t 6]⟩
theorem low32 : lowF Try.prog 32 = some F32.strip := by kernel_rfl
theorem fok32 : fOk Try.prog 32 = true := by kernel_rfl
theorem reredosref_In_ok (p0 : Int) (p1 : Int) (p2 : Int) (r : Bool) (h : reredosref_In p0 p1 p2 = some r) : FnRO Try.prog G 32 [.one (.d (.i .i64 p0)), .one (.d (.i .i64 p1)), .one (.d (.i .i64 p2))] (fun rs => rs = [.one (.b r)]) := by
 refine FnRO.of' low32 fok32 (by simp [F32]) ?_
 rw [reredosref_In] at h
 replace h := Hd.mk h
 simp only [F32, go_sem]
 try simp only [*, go_sem]
 refine jn1 h (fun b1_1 => [zB 6 b1_1]) (fun b1_1 => []) (fun k2 h => ?_) (fun b1_1 h => ?_)
 refine oi h (fun hb3 h => ?_) (fun hb3 h => ?_)
 try simp only [*, go_sem]
 exact jc (decide (p0 ≤ p2)) h.e []
 try simp only [*, go_sem]
 exact jc (false) h.e []
 cases h.e
 simp only [*, go_sem, mA, mS]
def reredosref_ConfigFault_L2 (p0 : Config) (a8_1 : Nat) (x12 : Label) (k18 : Option (Int)) : Nat → Nat → Option (Int)
 | 0, _ => none
 | n20 + 1, a19_1 => (if (decide (a19_1 < a8_1)) = true then (Option.bind (p0.Labels[a19_1]?) fun x22 => (if ((x22.Level == x12.Level) && (x22.Cats == x12.Cats)) = true then (some 7) else (reredosref_ConfigFault_L2 p0 a8_1 x12 k18 n20 (a19_1 + 1)))) else k18)
def reredosref_ConfigFault_L1 (p0 : Config) (k7 : Option (Int)) : Nat → Nat → Option (Int)
 | 0, _ => none
 | n9 + 1, a8_1 => (if (decide (a8_1 < p0.Labels.length)) = true then (Option.bind (p0.Labels[a8_1]?) fun x12 => (Option.bind (reredosref_In x12.Level 0 9) fun v13 => (if (!v13) = true then (some 2) else (Option.bind (reredosref_In x12.Cats 0 15) fun v15 => (if (!v15) = true then (some 2) else (withK (reredosref_ConfigFault_L1 p0 k7 n9 (a8_1 + 1)) fun k18 => (reredosref_ConfigFault_L2 p0 a8_1 x12 k18 (a8_1 + 1) 0))))))) else k7)
def reredosref_ConfigFault (p0 : Config) : Option (Int) := (Option.bind (reredosref_In p0.Sites 1 4) fun v1 => (if (!v1) = true then (some 2) else (Option.bind (reredosref_In ((p0.Labels.length : Nat) : Int) 1 6) fun v4 => (if (!v4) = true then (some 1) else (withK (Option.bind (reredosref_In p0.Patience 1 1048576) fun v26 => (if (!v26) = true then (some 2) else (some 0))) fun k7 => (reredosref_ConfigFault_L1 p0 k7 (p0.Labels.length + 1) 0))))))
def F58 : VFn := ⟨59, (.seq (.reg [vo 1 (.boxk 3 (.t 0)), mi 2 0]) (.seq (.seq (.reg [vf 5 0 1, vs 6 5, vo 7 (.call 32 [(.t 6), (ci 1), (ci 4)]), nt 8 7]) (.cond (.t 8) (.seq (.reg [mi 2 2]) .ret) .skip)) (.seq (.seq (.reg [vf 9 1 1, vs 10 9, ln 11 10, vo 12 (.call 32 [(.t 11), (ci 1), (ci 6)]), nt 13 12]) (.cond (.t 13) (.seq (.reg [mi 2 1]) .ret) .skip)) (.seq (.seq (.reg [mi 3 0]) (.wk (.block 0 (.loop (.seq (.seq (.reg [vm 14 3, vf 15 1 1, vs 16 15, ln 17 16, bt 18 .lss 14 17]) (.cond (.t 18) .skip (.exit 0))) (.seq (.block 1 (.seq (.seq (.reg [vf 21 1 1, vs 22 21, vm 23 3, xa 24 2 22 23, vf 25 0 24, vs 26 25, vo 27 (.call 32 [(.t 26), (ci 0), (ci 9)]), nt 28 27, vm 29 28, gf 30 29 (.fa 1 (.t 1)), gf 31 29 (.ld false 1 (.t 30)), gf 32 29 (.mv (.t 3)), gf 33 29 (.ia 2 (.t 31) (.t 32)), gf 34 29 (.fa 1 (.t 33)), gf 35 29 (.ld false 1 (.t 34)), gf 36 29 (.call 32 [(.t 35), (ci 0), (ci 15)]), gf 37 29 (.un .not (.t 36)), vo 38 (.pick (.t 29) (cb true) (.t 37))]) (.cond (.t 38) (.seq (.reg [mi 2 2]) .ret) .skip)) (.seq (.reg [mi 4 0]) (.wk (.block 2 (.loop (.seq (.seq (.reg [vm 39 4, vm 40 3, bt 41 .lss 39 40]) (.cond (.t 41) .skip (.exit 2))) (.seq (.block 3 (.seq (.draw [vd (vf 44 1 1) 0, vd (vs 45 44) 1, vd (vm 46 4) 0, vd (xa 47 2 45 46) 7, vd (vl 48 2 47) 15, vd (vf 49 1 1) 0, vd (vs 50 49) 32, vd (vm 51 3) 0, vd (xa 52 2 50 51) 224, vd (vl 53 2 52) 480, vd (vo 54 (.eqs false [.i, .i] (.t 48) (.t 53))) 1023]) (.cond (.t 54) (.seq (.reg [mi 2 7]) .ret) .skip))) (.reg [vm 42 4, bk 43 .add 42 1, vm 4 43]))))))))) (.reg [vm 19 3, bk 20 .add 19 1, vm 3 20]))))))) (.seq (.seq (.reg [vf 55 2 1, vs 56 55, vo 57 (.call 32 [(.t 56), (ci 1), (ci 1048576)]), nt 58 57]) (.cond (.t 58) (.seq (.reg [mi 2 2]) .ret) .skip)) (.seq (.reg [mi 2 0]) .ret)))))), [.t 2]⟩
theorem low58 : lowF Try.prog 58 = some F58.strip := by kernel_rfl
theorem fok58 : fOk Try.prog 58 = true := by kernel_rfl
theorem reredosref_ConfigFault_ok (p0 : Config) (r : Int) (h : reredosref_ConfigFault p0 = some r) : FnRO Try.prog G 58 [.agg p0.bx] (fun rs => rs = [.one (.i .i64 r)]) := by
 refine FnRO.of' low58 fok58 (by simp [F58]) ?_
 rw [reredosref_ConfigFault] at h
 replace h := Hd.mk h
 simp only [F58, go_sem]
 try simp only [*, go_sem]
 refine cr h (reredosref_In_ok G p0.Sites 1 4) (fun v1 h => ?_)
 refine oin h (fun hb2 hkhb2 h => ?_) (fun hb2 hkhb2 h => ?_)
 cases h.e
 simp only [*, go_sem, mA, mS]
 try simp only [*, go_sem]
 intro hl3
 try simp only [*, go_sem]
 refine cr h (reredosref_In_ok G ((p0.Labels.length : Nat) : Int) 1 6) (fun v4 h => ?_)
 refine oin h (fun hb5 hkhb5 h => ?_) (fun hb5 hkhb5 h => ?_)
 cases h.e
 simp only [*, go_sem, mA, mS]
 try simp only [*, go_sem]
 refine jn0 h ([zK 1 (Config.enc p0)]) ([]) (fun k7 h => ?_) (fun h => ?_)
 try simp only [*, go_sem]
 refine lp1 (reredosref_ConfigFault_L1 p0 k7) (fun a8_1 => [zK 1 (Config.enc p0), zI 3 ((a8_1 : Nat) : Int)]) (fun a8_1 => []) h [] [] (fun n9 a8_1 h => ?_) (by intros; rw [reredosref_ConfigFault_L1])
 rw [reredosref_ConfigFault_L1] at h
 try simp only [*, go_sem]
 intro hl10
 refine oi h (fun hb11 h => ?_) (fun hb11 h => ?_)
 have := of_decide_eq_true hb11
 refine obg h (fun x12 _ hkx12 h => ?_)
 try simp only [*, go_sem]
 refine cr h (reredosref_In_ok G x12.Level 0 9) (fun v13 h => ?_)
 refine oin h (fun hb14 hkhb14 h => ?_) (fun hb14 hkhb14 h => ?_)
 cases h.e
 simp only [*, go_sem, mA, mS]
 try simp only [*, go_sem]
 refine cr h (reredosref_In_ok G x12.Cats 0 15) (fun v15 h => ?_)
 refine oin h (fun hb16 hkhb16 h => ?_) (fun hb16 hkhb16 h => ?_)
 cases h.e
 simp only [*, go_sem, mA, mS]
 try simp only [*, go_sem]
 refine jn0 h ([zK 1 (Config.enc p0), zI 3 ((a8_1 : Nat) : Int), (30, .one (.p (.l 3 [(Config.enc p0)] 0 1))), zL 31 2 (p0.Labels.map Label.enc), zI 32 ((a8_1 : Nat) : Int), (33, .one (.p (.l 2 (p0.Labels.map Label.enc) a8_1 0))), (34, .one (.p (.l 2 (p0.Labels.map Label.enc) a8_1 1))), zI 35 x12.Cats, zB 36 true, zB 37 false]) ([]) (fun k18 h => ?_) (fun h => ?_)
 try simp only [*, go_sem]
 refine lp1 (reredosref_ConfigFault_L2 p0 a8_1 x12 k18) (fun a19_1 => [zK 1 (Config.enc p0), zI 3 ((a8_1 : Nat) : Int), zI 4 ((a19_1 : Nat) : Int), (30, .one (.p (.l 3 [(Config.enc p0)] 0 1))), zL 31 2 (p0.Labels.map Label.enc), zI 32 ((a8_1 : Nat) : Int), (33, .one (.p (.l 2 (p0.Labels.map Label.enc) a8_1 0))), (34, .one (.p (.l 2 (p0.Labels.map Label.enc) a8_1 1))), zI 35 x12.Cats, zB 36 true, zB 37 false]) (fun a19_1 => []) h [] [] (fun n20 a19_1 h => ?_) (by intros; rw [reredosref_ConfigFault_L2])
 rw [reredosref_ConfigFault_L2] at h
 refine oi h (fun hb21 h => ?_) (fun hb21 h => ?_)
 have := of_decide_eq_true hb21
 refine obg h (fun x22 _ hkx22 h => ?_)
 refine oi h (fun hb23 h => ?_) (fun hb23 h => ?_)
 try simp only [*, go_sem]
 cases h.e
 simp only [*, go_sem, mA, mS]
 try simp only [*, go_sem]
 have := wrap_succ_max hkx22 hl3
 try simp only [*, go_sem]
 exact lc (a19_1 + 1) h.e []
 try simp only [*, go_sem]
 exact jc () h.e []
 have := wrap_succ_max hkx12 hl3
 try simp only [*, go_sem]
 exact lc (a8_1 + 1) h.e []
 try simp only [*, go_sem]
 exact jc () h.e []
 try simp only [*, go_sem]
 refine cr h (reredosref_In_ok G p0.Patience 1 1048576) (fun v26 h => ?_)
 refine oin h (fun hb27 hkhb27 h => ?_) (fun hb27 hkhb27 h => ?_)
 cases h.e
 simp only [*, go_sem, mA, mS]
 cases h.e
 simp only [*, go_sem, mA, mS]
def reredosref_labelMay (p0 : Config) (p1 : Int) : Option (Bool) := (Option.bind (reredosref_In p1 0 (IntKind.i64.wrap (((p0.Labels.length : Nat) : Int) - 1))) fun v2 => (some v2))
def F42 : VFn := ⟨11, (.seq (.reg [vo 2 (.box 3 (.t 0)), vo 4 (.mv (cb false))]) (.seq (.reg [vm 5 1, vf 6 1 2, vs 7 6, ln 8 7, bk 9 .sub 8 1, vo 10 (.call 32 [(.t 5), (ci 0), (.t 9)]), vm 4 10]) .ret)), [.t 4]⟩
theorem low42 : lowF Try.prog 42 = some F42.strip := by kernel_rfl
theorem fok42 : fOk Try.prog 42 = true := by kernel_rfl
theorem reredosref_labelMay_ok (p0 : Config) (p1 : Int) (r : Bool) (h : reredosref_labelMay p0 p1 = some r) : FnRO Try.prog G 42 [.agg p0.bx, .one (.d (.i .i64 p1))] (fun rs => rs = [.one (.b r)]) := by
 refine FnRO.of' low42 fok42 (by simp [F42]) ?_
 rw [reredosref_labelMay] at h
 replace h := Hd.mk h
 simp only [F42, go_sem]
 try simp only [*, go_sem]
 intro hl1
 try simp only [*, go_sem]
 refine cr h (reredosref_In_ok G p1 0 (IntKind.i64.wrap (((p0.Labels.length : Nat) : Int) - 1))) (fun v2 h => ?_)
 cases h.e
 simp only [*, go_sem, mA, mS]
def reredosref_taskMay (p0 : Config) (p1 : Task) : Option (Bool) := (Option.bind (reredosref_labelMay p0 p1.Label) fun v1 => (if (!v1) = true then (some false) else (Option.bind (reredosref_In p1.Key 0 7) fun v3 => (if (!v3) = true then (some false) else (Option.bind (reredosref_In p1.Value 0 1073741824) fun v5 => (if (!v5) = true then (some false) else (Option.bind (reredosref_In p1.Version 0 1048576) fun v7 => (if (!v7) = true then (some false) else (Option.bind (reredosref_In p1.Ask 1 1048576) fun v9 => (if (!v9) = true then (some false) else (if p1.Done = true then (some true) else (withK (fun (b12_1 : Bool) => (some b12_1)) fun k13 => (if (!p1.Sure) = true then (if p1.Write = true then (k13 true) else (if (p1.Value == 0) = true then (k13 (p1.Version == 0)) else (k13 false))) else (k13 false))))))))))))))
def F67 : VFn := ⟨53, (.seq (.reg [vo 2 (.box 3 (.t 0)), vo 3 (.boxk 8 (.t 1)), vo 4 (.mv (cb false))]) (.seq (.seq (.reg [vl 5 3 2, vf 6 1 3, vs 7 6, vo 8 (.call 42 [(.t 5), (.t 7)]), nt 9 8, vm 10 9, gf 11 10 (.fa 2 (.t 3)), gf 12 10 (.ld false 1 (.t 11)), gf 13 10 (.call 32 [(.t 12), (ci 0), (ci 7)]), gf 14 10 (.un .not (.t 13)), vo 15 (.pick (.t 10) (cb true) (.t 14)), vm 16 15, gf 17 16 (.fa 3 (.t 3)), gf 18 16 (.ld false 1 (.t 17)), gf 19 16 (.call 32 [(.t 18), (ci 0), (ci 1073741824)]), gf 20 16 (.un .not (.t 19)), vo 21 (.pick (.t 16) (cb true) (.t 20)), vm 22 21, gf 23 22 (.fa 4 (.t 3)), gf 24 22 (.ld false 1 (.t 23)), gf 25 22 (.call 32 [(.t 24), (ci 0), (ci 1048576)]), gf 26 22 (.un .not (.t 25)), vo 27 (.pick (.t 22) (cb true) (.t 26)), vm 28 27, gf 29 28 (.fa 5 (.t 3)), gf 30 28 (.ld false 1 (.t 29)), gf 31 28 (.call 32 [(.t 30), (ci 1), (ci 1048576)]), gf 32 28 (.un .not (.t 31)), vo 33 (.pick (.t 28) (cb true) (.t 32))]) (.cond (.t 33) (.seq (.reg [vo 4 (.mv (cb false))]) .ret) .skip)) (.seq (.seq (.reg [vf 34 6 3, vs 35 34]) (.cond (.t 35) (.seq (.reg [vo 4 (.mv (cb true))]) .ret) .skip)) (.seq (.wk (.reg [vf 36 7 3, vs 37 36, nt 38 37, vm 39 38, gt 40 39 (.fa 0 (.t 3)), gt 41 39 (.ld false 1 (.t 40)), gt 42 39 (.mv (.t 41)), gf 43 42 (.fa 3 (.t 3)), gf 44 42 (.ld false 1 (.t 43)), gf 45 42 (.bin .i .eql (.t 44) (ci 0)), gf 46 42 (.mv (.t 45)), gt 47 46 (.fa 4 (.t 3)), gt 48 46 (.ld false 1 (.t 47)), gt 49 46 (.bin .i .eql (.t 48) (ci 0)), gf 50 42 (.pick (.t 46) (.t 49) (cb false)), gt 51 39 (.pick (.t 42) (cb true) (.t 50)), vo 52 (.pick (.t 39) (.t 51) (cb false)), vm 4 52])) .ret)))), [.t 4]⟩
theorem low67 : lowF Try.prog 67 = some F67.strip := by kernel_rfl
theorem fok67 : fOk Try.prog 67 = true := by kernel_rfl
theorem reredosref_taskMay_ok (p0 : Config) (p1 : Task) (r : Bool) (h : reredosref_taskMay p0 p1 = some r) : FnRO Try.prog G 67 [.agg p0.bx, .agg p1.bx] (fun rs => rs = [.one (.b r)]) := by
 refine FnRO.of' low67 fok67 (by simp [F67]) ?_
 rw [reredosref_taskMay] at h
 replace h := Hd.mk h
 simp only [F67, go_sem]
 try simp only [*, go_sem]
 refine cr h (reredosref_labelMay_ok G p0 p1.Label) (fun v1 h => ?_)
 refine oin h (fun hb2 hkhb2 h => ?_) (fun hb2 hkhb2 h => ?_)
 cases h.e
 simp only [*, go_sem, mA, mS]
 try simp only [*, go_sem]
 refine cr h (reredosref_In_ok G p1.Key 0 7) (fun v3 h => ?_)
 refine oin h (fun hb4 hkhb4 h => ?_) (fun hb4 hkhb4 h => ?_)
 cases h.e
 simp only [*, go_sem, mA, mS]
 try simp only [*, go_sem]
 refine cr h (reredosref_In_ok G p1.Value 0 1073741824) (fun v5 h => ?_)
 refine oin h (fun hb6 hkhb6 h => ?_) (fun hb6 hkhb6 h => ?_)
 cases h.e
 simp only [*, go_sem, mA, mS]
 try simp only [*, go_sem]
 refine cr h (reredosref_In_ok G p1.Version 0 1048576) (fun v7 h => ?_)
 refine oin h (fun hb8 hkhb8 h => ?_) (fun hb8 hkhb8 h => ?_)
 cases h.e
 simp only [*, go_sem, mA, mS]
 try simp only [*, go_sem]
 refine cr h (reredosref_In_ok G p1.Ask 1 1048576) (fun v9 h => ?_)
 refine oin h (fun hb10 hkhb10 h => ?_) (fun hb10 hkhb10 h => ?_)
 cases h.e
 simp only [*, go_sem, mA, mS]
 refine oi h (fun hb11 h => ?_) (fun hb11 h => ?_)
 cases h.e
 simp only [*, go_sem, mA, mS]
 try simp only [*, go_sem]
 refine jn1 h (fun b12_1 => [zB 4 b12_1]) (fun b12_1 => []) (fun k13 h => ?_) (fun b12_1 h => ?_)
 refine oin h (fun hb14 hkhb14 h => ?_) (fun hb14 hkhb14 h => ?_)
 refine oi h (fun hb15 h => ?_) (fun hb15 h => ?_)
 try simp only [*, go_sem]
 exact jc (true) h.e []
 refine oi h (fun hb16 h => ?_) (fun hb16 h => ?_)
 try simp only [*, go_sem]
 exact jc (p1.Version == 0) h.e []
 try simp only [*, go_sem]
 exact jc (false) h.e []
 try simp only [*, go_sem]
 exact jc (false) h.e []
 cases h.e
 simp only [*, go_sem, mA, mS]
def reredosref_jobMay_L1 (p0 : Config) (p2 : Job) (k12 : Option (Bool)) : Nat → Nat → Option (Bool)
 | 0, _ => none
 | n14 + 1, a13_1 => (if (decide (a13_1 < p2.Tasks.length)) = true then (Option.bind (p2.Tasks[a13_1]?) fun x17 => (Option.bind (reredosref_taskMay p0 x17) fun v18 => (if (!v18) = true then (some false) else (if (decide (x17.Ask > p2.Asks)) = true then (some false) else (if (decide (((a13_1 : Nat) : Int) > 0)) = true then (if 0 ≤ IntKind.i64.wrap (((a13_1 : Nat) : Int) - 1) then (Option.bind (p2.Tasks[(IntKind.i64.wrap (((a13_1 : Nat) : Int) - 1)).toNat]?) fun x22 => (if (decide (x17.Ask ≤ x22.Ask)) = true then (some false) else (if (!x17.Done) = true then (if (decide (((a13_1 : Nat) : Int) < IntKind.i64.wrap (((p2.Tasks.length : Nat) : Int) - 1))) = true then (some false) else (if (p2.State != 1) = true then (some false) else (reredosref_jobMay_L1 p0 p2 k12 n14 (a13_1 + 1)))) else (reredosref_jobMay_L1 p0 p2 k12 n14 (a13_1 + 1))))) else none) else (if (!x17.Done) = true then (if (decide (((a13_1 : Nat) : Int) < IntKind.i64.wrap (((p2.Tasks.length : Nat) : Int) - 1))) = true then (some false) else (if (p2.State != 1) = true then (some false) else (reredosref_jobMay_L1 p0 p2 k12 n14 (a13_1 + 1)))) else (reredosref_jobMay_L1 p0 p2 k12 n14 (a13_1 + 1)))))))) else k12)
def reredosref_jobMay_L2 (p0 : Config) (p2 : Job) (k38 : Option (Bool)) : Nat → Nat → Option (Bool)
 | 0, _ => none
 | n40 + 1, a39_1 => (if (decide (a39_1 < p2.Asked.length)) = true then (Option.bind (p2.Asked[a39_1]?) fun x43 => (Option.bind (reredosref_In x43 0 (IntKind.i64.wrap (p0.Sites - 1))) fun v44 => (if (!v44) = true then (some false) else (if (decide (((a39_1 : Nat) : Int) > 0)) = true then (if 0 ≤ IntKind.i64.wrap (((a39_1 : Nat) : Int) - 1) then (Option.bind (p2.Asked[(IntKind.i64.wrap (((a39_1 : Nat) : Int) - 1)).toNat]?) fun x47 => (if (decide (x43 ≤ x47)) = true then (some false) else (reredosref_jobMay_L2 p0 p2 k38 n40 (a39_1 + 1)))) else none) else (reredosref_jobMay_L2 p0 p2 k38 n40 (a39_1 + 1)))))) else k38)
def reredosref_jobMay (p0 : Config) (p1 : Int) (p2 : Job) : Option (Bool) := (Option.bind (reredosref_In p2.N 1 (IntKind.i64.wrap (p1 - 1))) fun v1 => (if (!v1) = true then (some false) else (Option.bind (reredosref_In p2.Age 0 1048576) fun v3 => (if (!v3) = true then (some false) else (Option.bind (reredosref_In p2.State 1 3) fun v5 => (if (!v5) = true then (some false) else (if (decide (((p2.Tasks.length : Nat) : Int) > 10)) = true then (some false) else (Option.bind (reredosref_In p2.Asks 0 1048576) fun v9 => (if (!v9) = true then (some false) else (withK (withK (some ((p2.State == 3) == (decide (((p2.Asked.length : Nat) : Int) > 0)))) fun k38 => (reredosref_jobMay_L2 p0 p2 k38 (p2.Asked.length + 1) 0)) fun k12 => (reredosref_jobMay_L1 p0 p2 k12 (p2.Tasks.length + 1) 0)))))))))))
def F59 : VFn := ⟨148, (.seq (.reg [vo 3 (.box 3 (.t 0)), vo 5 (.box 6 (.t 2)), vo 6 (.mv (cb false))]) (.seq (.seq (.reg [vf 9 0 5, vs 10 9, vm 11 1, bk 12 .sub 11 1, vo 13 (.call 32 [(.t 10), (ci 1), (.t 12)]), nt 14 13, vm 15 14, gf 16 15 (.fa 5 (.t 5)), gf 17 15 (.ld false 1 (.t 16)), gf 18 15 (.call 32 [(.t 17), (ci 0), (ci 1048576)]), gf 19 15 (.un .not (.t 18)), vo 20 (.pick (.t 15) (cb true) (.t 19)), vm 21 20, gf 22 21 (.fa 1 (.t 5)), gf 23 21 (.ld false 1 (.t 22)), gf 24 21 (.call 32 [(.t 23), (ci 1), (ci 3)]), gf 25 21 (.un .not (.t 24)), vo 26 (.pick (.t 21) (cb true) (.t 25)), vm 27 26, gf 28 27 (.fa 2 (.t 5)), gf 29 27 (.ld false 1 (.t 28)), gf 30 27 (.len (.t 29)), gf 31 27 (.bin .i .gtr (.t 30) (ci 10)), vo 32 (.pick (.t 27) (cb true) (.t 31)), vm 33 32, gf 34 33 (.fa 4 (.t 5)), gf 35 33 (.ld false 1 (.t 34)), gf 36 33 (.call 32 [(.t 35), (ci 0), (ci 1048576)]), gf 37 33 (.un .not (.t 36)), vo 38 (.pick (.t 33) (cb true) (.t 37))]) (.cond (.t 38) (.seq (.reg [vo 6 (.mv (cb false))]) .ret) .skip)) (.seq (.seq (.reg [mi 7 0]) (.wk (.block 0 (.loop (.seq (.seq (.reg [vm 39 7, vf 40 2 5, vs 41 40, ln 42 41, bt 43 .lss 39 42]) (.cond (.t 43) .skip (.exit 0))) (.seq (.block 1 (.seq (.seq (.draw [vd (vl 46 3 3) 0, vd (vf 47 2 5) 0, vd (vs 48 47) 2, vd (vm 49 7) 0, vd (xa 50 8 48 49) 14, vd (vl 51 8 50) 30, vd (vo 52 (.call 67 [(.t 46), (.t 51)])) 63, vd (nt 53 52) 127, vd (vm 54 53) 255, vd (gf 55 54 (.fa 2 (.t 5))) 511, vd (gf 56 54 (.ld false 1 (.t 55))) 1023, vd (gf 57 54 (.mv (.t 7))) 511, vd (gf 58 54 (.ia 8 (.t 56) (.t 57))) 4095, vd (gf 59 54 (.fa 5 (.t 58))) 8191, vd (gf 60 54 (.ld false 1 (.t 59))) 0x3fff, vd (gf 61 54 (.fa 4 (.t 5))) 511, vd (gf 62 54 (.ld false 1 (.t 61))) 0x81ff, vd (gf 63 54 (.bin .i .gtr (.t 60) (.t 62))) 0x1ffff, vd (vo 64 (.pick (.t 54) (cb true) (.t 63))) 0x3ffff, vd (vm 65 64) 0x7ffff, vd (gf 66 65 (.mv (.t 7))) 0xfffff, vd (gf 67 65 (.bin .i .gtr (.t 66) (ci 0))) 0x1fffff, vd (gf 68 65 (.mv (.t 67))) 0x3fffff, vd (gt 69 68 (.fa 2 (.t 5))) 0x7fffff, vd (gt 70 68 (.ld false 1 (.t 69))) 0xffffff, vd (gt 71 68 (.mv (.t 7))) 0x7fffff, vd (gt 72 68 (.ia 8 (.t 70) (.t 71))) 0x3ffffff, vd (gt 73 68 (.fa 5 (.t 72))) 0x7ffffff, vd (gt 74 68 (.ld false 1 (.t 73))) 0xfffffff, vd (gt 75 68 (.fa 2 (.t 5))) 0x7fffff, vd (gt 76 68 (.ld false 1 (.t 75))) 0x207fffff, vd (gt 77 68 (.mv (.t 7))) 0x7fffff, vd (gt 78 68 (.bin .i .sub (.t 77) (ci 1))) 0x807fffff, vd (gt 79 68 (.ia 8 (.t 76) (.t 78))) 0x1e07fffff, vd (gt 80 68 (.fa 5 (.t 79))) 0x3e07fffff, vd (gt 81 68 (.ld false 1 (.t 80))) 0x7e07fffff, vd (gt 82 68 (.bin .i .leq (.t 74) (.t 81))) 0xfffffffff, vd (gf 83 65 (.pick (.t 68) (.t 82) (cb false))) 0x1fffffffff, vd (vo 84 (.pick (.t 65) (cb true) (.t 83))) 0x3fffffffff]) (.cond (.t 84) (.seq (.reg [vo 6 (.mv (cb false))]) .ret) .skip)) (.seq (.reg [vf 85 2 5, vs 86 85, vm 87 7, xa 88 8 86 87, vf 89 6 88, vs 90 89, nt 91 90, vm 92 91, gt 93 92 (.mv (.t 7)), gt 94 92 (.fa 2 (.t 5)), gt 95 92 (.ld false 1 (.t 94)), gt 96 92 (.len (.t 95)), gt 97 92 (.bin .i .sub (.t 96) (ci 1)), gt 98 92 (.bin .i .lss (.t 93) (.t 97)), gt 99 92 (.mv (.t 98)), gf 100 99 (.fa 1 (.t 5)), gf 101 99 (.ld false 1 (.t 100)), gf 102 99 (.bin .i .neq (.t 101) (ci 1)), gt 103 92 (.pick (.t 99) (cb true) (.t 102)), vo 104 (.pick (.t 92) (.t 103) (cb false))]) (.cond (.t 104) (.seq (.reg [vo 6 (.mv (cb false))]) .ret) .skip)))) (.reg [vm 44 7, bk 45 .add 44 1, vm 7 45]))))))) (.seq (.seq (.reg [mi 8 0]) (.wk (.block 2 (.loop (.seq (.seq (.reg [vm 105 8, vf 106 3 5, vs 107 106, ln 108 107, bt 109 .lss 105 108]) (.cond (.t 109) .skip (.exit 2))) (.seq (.block 3 (.seq (.draw [vd (vf 112 3 5) 0, vd (vs 113 112) 1, vd (vm 114 8) 0, vd (xa 115 1 113 114) 7, vd (vs 116 115) 15, vd (vf 117 0 3) 0, vd (vs 118 117) 32, vd (bk 119 .sub 118 1) 96, vd (vo 120 (.call 32 [(.t 116), (ci 0), (.t 119)])) 255, vd (nt 121 120) 511, vd (vm 122 121) 1023, vd (gf 123 122 (.mv (.t 8))) 2047, vd (gf 124 122 (.bin .i .gtr (.t 123) (ci 0))) 4095, vd (gf 125 122 (.mv (.t 124))) 8191, vd (gt 126 125 (.fa 3 (.t 5))) 0x3fff, vd (gt 127 125 (.ld false 1 (.t 126))) 0x7fff, vd (gt 128 125 (.mv (.t 8))) 0x3fff, vd (gt 129 125 (.ia 1 (.t 127) (.t 128))) 0x1ffff, vd (gt 130 125 (.ld false 1 (.t 129))) 0x3ffff, vd (gt 131 125 (.fa 3 (.t 5))) 0x3fff, vd (gt 132 125 (.ld false 1 (.t 131))) 0x83fff, vd (gt 133 125 (.mv (.t 8))) 0x3fff, vd (gt 134 125 (.bin .i .sub (.t 133) (ci 1))) 0x203fff, vd (gt 135 125 (.ia 1 (.t 132) (.t 134))) 0x783fff, vd (gt 136 125 (.ld false 1 (.t 135))) 0xf83fff, vd (gt 137 125 (.bin .i .leq (.t 130) (.t 136))) 0x1ffffff, vd (gf 138 122 (.pick (.t 125) (.t 137) (cb false))) 0x3ffffff, vd (vo 139 (.pick (.t 122) (cb true) (.t 138))) 0x7ffffff]) (.cond (.t 139) (.seq (.reg [vo 6 (.mv (cb false))]) .ret) .skip))) (.reg [vm 110 8, bk 111 .add 110 1, vm 8 111]))))))) (.seq (.reg [vf 140 1 5, vs 141 140, bk 142 .eql 141 3, vf 143 3 5, vs 144 143, ln 145 144, bk 146 .gtr 145 0, vo 147 (.bin .b .eql (.t 142) (.t 146)), vm 6 147]) .ret))))), [.t 6]⟩
theorem low59 : lowF Try.prog 59 = some F59.strip := by kernel_rfl
theorem fok59 : fOk Try.prog 59 = true := by kernel_rfl
theorem reredosref_jobMay_ok (p0 : Config) (p1 : Int) (p2 : Job) (r : Bool) (h : reredosref_jobMay p0 p1 p2 = some r) : FnRO Try.prog G 59 [.agg p0.bx, .one (.d (.i .i64 p1)), .agg p2.bx] (fun rs => rs = [.one (.b r)]) := by
 refine FnRO.of' low59 fok59 (by simp [F59]) ?_
 rw [reredosref_jobMay] at h
 replace h := Hd.mk h
 simp only [F59, go_sem]
 try simp only [*, go_sem]
 refine cr h (reredosref_In_ok G p2.N 1 (IntKind.i64.wrap (p1 - 1))) (fun v1 h => ?_)
 refine oin h (fun hb2 hkhb2 h => ?_) (fun hb2 hkhb2 h => ?_)
 cases h.e
 simp only [*, go_sem, mA, mS]
 try simp only [*, go_sem]
 refine cr h (reredosref_In_ok G p2.Age 0 1048576) (fun v3 h => ?_)
 refine oin h (fun hb4 hkhb4 h => ?_) (fun hb4 hkhb4 h => ?_)
 cases h.e
 simp only [*, go_sem, mA, mS]
 try simp only [*, go_sem]
 refine cr h (reredosref_In_ok G p2.State 1 3) (fun v5 h => ?_)
 refine oin h (fun hb6 hkhb6 h => ?_) (fun hb6 hkhb6 h => ?_)
 cases h.e
 simp only [*, go_sem, mA, mS]
 try simp only [*, go_sem]
 intro hl7
 refine oi h (fun hb8 h => ?_) (fun hb8 h => ?_)
 cases h.e
 simp only [*, go_sem, mA, mS]
 try simp only [*, go_sem]
 refine cr h (reredosref_In_ok G p2.Asks 0 1048576) (fun v9 h => ?_)
 refine oin h (fun hb10 hkhb10 h => ?_) (fun hb10 hkhb10 h => ?_)
 cases h.e
 simp only [*, go_sem, mA, mS]
 try simp only [*, go_sem]
 refine jn0 h ([zP 3 0, zP 5 1]) ([ox p0.bx, ox p2.bx]) (fun k12 h => ?_) (fun h => ?_)
 try simp only [*, go_sem]
 refine lp1 (reredosref_jobMay_L1 p0 p2 k12) (fun a13_1 => [zP 3 0, zP 5 1, zI 7 ((a13_1 : Nat) : Int)]) (fun a13_1 => [ox p0.bx, ox p2.bx]) h [] [some 0, some 1] (fun n14 a13_1 h => ?_) (by intros; rw [reredosref_jobMay_L1])
 rw [reredosref_jobMay_L1] at h
 try simp only [*, go_sem]
 intro hl15
 refine oi h (fun hb16 h => ?_) (fun hb16 h => ?_)
 have := of_decide_eq_true hb16
 refine obg h (fun x17 _ hkx17 h => ?_)
 refine obk h (fun v18 hv18 h => ?_)
 try simp only [*, go_sem]
 refine cd (reredosref_taskMay_ok G p0 x17 v18 hv18) ?_
 refine oin h (fun hb19 hkhb19 h => ?_) (fun hb19 hkhb19 h => ?_)
 cases h.e
 simp only [*, go_sem, mA, mS]
 refine oi h (fun hb20 h => ?_) (fun hb20 h => ?_)
 cases h.e
 simp only [*, go_sem, mA, mS]
 refine oi h (fun hb21 h => ?_) (fun hb21 h => ?_)
 refine obn h (fun x22 _ _ _ _ h => ?_)
 refine oi h (fun hb24 h => ?_) (fun hb24 h => ?_)
 cases h.e
 simp only [*, go_sem, mA, mS]
 refine oin h (fun hb25 hkhb25 h => ?_) (fun hb25 hkhb25 h => ?_)
 try simp only [*, go_sem]
 intro hl26
 refine oi h (fun hb27 h => ?_) (fun hb27 h => ?_)
 cases h.e
 simp only [*, go_sem, mA, mS]
 refine oi h (fun hb28 h => ?_) (fun hb28 h => ?_)
 cases h.e
 simp only [*, go_sem, mA, mS]
 have := wrap_succ_max hkx17 hl7
 try simp only [*, go_sem]
 exact lc (a13_1 + 1) h.e [some 0, some 1]
 have := wrap_succ_max hkx17 hl7
 try simp only [*, go_sem]
 exact lc (a13_1 + 1) h.e [some 0, some 1]
 refine oin h (fun hb31 hkhb31 h => ?_) (fun hb31 hkhb31 h => ?_)
 try simp only [*, go_sem]
 intro hl32
 refine oi h (fun hb33 h => ?_) (fun hb33 h => ?_)
 cases h.e
 simp only [*, go_sem, mA, mS]
 refine oi h (fun hb34 h => ?_) (fun hb34 h => ?_)
 cases h.e
 simp only [*, go_sem, mA, mS]
 have := wrap_succ_max hkx17 hl7
 try simp only [*, go_sem]
 exact lc (a13_1 + 1) h.e [some 0, some 1]
 have := wrap_succ_max hkx17 hl7
 try simp only [*, go_sem]
 exact lc (a13_1 + 1) h.e [some 0, some 1]
 try simp only [*, go_sem]
 exact jc () h.e [some 0, some 1]
 try simp only [*, go_sem]
 refine jn0 h ([zP 5 0]) ([ox p2.bx]) (fun k38 h => ?_) (fun h => ?_)
 try simp only [*, go_sem]
 refine lp1 (reredosref_jobMay_L2 p0 p2 k38) (fun a39_1 => [zP 3 0, zP 5 1, zI 8 ((a39_1 : Nat) : Int)]) (fun a39_1 => [ox p0.bx, ox p2.bx]) h [] [some 0, some 1] (fun n40 a39_1 h => ?_) (by intros; rw [reredosref_jobMay_L2])
 rw [reredosref_jobMay_L2] at h
 try simp only [*, go_sem]
 intro hl41
 refine oi h (fun hb42 h => ?_) (fun hb42 h => ?_)
 have := of_decide_eq_true hb42
 refine obg h (fun x43 _ hkx43 h => ?_)
 refine obk h (fun v44 hv44 h => ?_)
 try simp only [*, go_sem]
 refine cd (reredosref_In_ok G x43 0 (IntKind.i64.wrap (p0.Sites - 1)) v44 hv44) ?_
 refine oin h (fun hb45 hkhb45 h => ?_) (fun hb45 hkhb45 h => ?_)
 cases h.e
 simp only [*, go_sem, mA, mS]
 refine oi h (fun hb46 h => ?_) (fun hb46 h => ?_)
 refine obn h (fun x47 _ _ _ _ h => ?_)
 refine oi h (fun hb49 h => ?_) (fun hb49 h => ?_)
 cases h.e
 simp only [*, go_sem, mA, mS]
 have := wrap_succ_max hkx43 hl41
 try simp only [*, go_sem]
 exact lc (a39_1 + 1) h.e [some 0, some 1]
 have := wrap_succ_max hkx43 hl41
 try simp only [*, go_sem]
 exact lc (a39_1 + 1) h.e [some 0, some 1]
 try simp only [*, go_sem]
 exact jc () h.e [some 1]
 try simp only [*, go_sem]
 intro hl52
 cases h.e
 simp only [*, go_sem, mA, mS]
def reredosref_DeskFault_L1 (p0 : Config) (p1 : Desk) (k8 : Option (Int)) : Nat → Nat → Option (Int)
 | 0, _ => none
 | n10 + 1, a9_1 => (if (decide (a9_1 < p1.Jobs.length)) = true then (Option.bind (p1.Jobs[a9_1]?) fun x13 => (Option.bind (reredosref_jobMay p0 p1.Next x13) fun v14 => (if (!v14) = true then (some 9) else (if (decide (((a9_1 : Nat) : Int) > 0)) = true then (if 0 ≤ IntKind.i64.wrap (((a9_1 : Nat) : Int) - 1) then (Option.bind (p1.Jobs[(IntKind.i64.wrap (((a9_1 : Nat) : Int) - 1)).toNat]?) fun x17 => (if (decide (x13.N ≤ x17.N)) = true then (some 9) else (reredosref_DeskFault_L1 p0 p1 k8 n10 (a9_1 + 1)))) else none) else (reredosref_DeskFault_L1 p0 p1 k8 n10 (a9_1 + 1)))))) else k8)
def reredosref_DeskFault (p0 : Config) (p1 : Desk) : Option (Int) := (Option.bind (reredosref_ConfigFault p0) fun v1 => (if (v1 != 0) = true then (some v1) else (Option.bind (reredosref_In p1.Next 1 1048577) fun v3 => (if (!v3) = true then (some 9) else (if (decide (((p1.Jobs.length : Nat) : Int) > 6)) = true then (some 9) else (withK (some 0) fun k8 => (reredosref_DeskFault_L1 p0 p1 k8 (p1.Jobs.length + 1) 0)))))))
def F41 : VFn := ⟨59, (.seq (.reg [vo 2 (.box 3 (.t 0)), vo 3 (.box 2 (.t 1)), mi 4 0]) (.seq (.reg [vl 7 3 2, vo 8 (.call 58 [(.t 7)]), vm 5 8]) (.seq (.seq (.reg [vm 9 5, bk 10 .neq 9 0]) (.cond (.t 10) (.seq (.reg [vm 11 5, vm 4 11]) .ret) .skip)) (.seq (.seq (.reg [vf 12 0 3, vs 13 12, vo 14 (.call 32 [(.t 13), (ci 1), (ci 1048577)]), nt 15 14, vm 16 15, gf 17 16 (.fa 1 (.t 3)), gf 18 16 (.ld false 1 (.t 17)), gf 19 16 (.len (.t 18)), gf 20 16 (.bin .i .gtr (.t 19) (ci 6)), vo 21 (.pick (.t 16) (cb true) (.t 20))]) (.cond (.t 21) (.seq (.reg [mi 4 9]) .ret) .skip)) (.seq (.seq (.reg [mi 6 0]) (.wk (.block 0 (.loop (.seq (.seq (.reg [vm 22 6, vf 23 1 3, vs 24 23, ln 25 24, bt 26 .lss 22 25]) (.cond (.t 26) .skip (.exit 0))) (.seq (.block 1 (.seq (.draw [vd (vl 29 3 2) 0, vd (vf 30 0 3) 0, vd (vs 31 30) 2, vd (vf 32 1 3) 0, vd (vs 33 32) 8, vd (vm 34 6) 0, vd (xa 35 6 33 34) 56, vd (vl 36 6 35) 120, vd (vo 37 (.call 59 [(.t 29), (.t 31), (.t 36)])) 255, vd (nt 38 37) 511, vd (vm 39 38) 1023, vd (gf 40 39 (.mv (.t 6))) 2047, vd (gf 41 39 (.bin .i .gtr (.t 40) (ci 0))) 4095, vd (gf 42 39 (.mv (.t 41))) 8191, vd (gt 43 42 (.fa 1 (.t 3))) 0x3fff, vd (gt 44 42 (.ld false 1 (.t 43))) 0x7fff, vd (gt 45 42 (.mv (.t 6))) 0x3fff, vd (gt 46 42 (.ia 6 (.t 44) (.t 45))) 0x1ffff, vd (gt 47 42 (.fa 0 (.t 46))) 0x3ffff, vd (gt 48 42 (.ld false 1 (.t 47))) 0x7ffff, vd (gt 49 42 (.fa 1 (.t 3))) 0x3fff, vd (gt 50 42 (.ld false 1 (.t 49))) 0x103fff, vd (gt 51 42 (.mv (.t 6))) 0x3fff, vd (gt 52 42 (.bin .i .sub (.t 51) (ci 1))) 0x403fff, vd (gt 53 42 (.ia 6 (.t 50) (.t 52))) 0xf03fff, vd (gt 54 42 (.fa 0 (.t 53))) 0x1f03fff, vd (gt 55 42 (.ld false 1 (.t 54))) 0x3f03fff, vd (gt 56 42 (.bin .i .leq (.t 48) (.t 55))) 0x7ffffff, vd (gf 57 39 (.pick (.t 42) (.t 56) (cb false))) 0xfffffff, vd (vo 58 (.pick (.t 39) (cb true) (.t 57))) 0x1fffffff]) (.cond (.t 58) (.seq (.reg [mi 4 9]) .ret) .skip))) (.reg [vm 27 6, bk 28 .add 27 1, vm 6 28]))))))) (.seq (.reg [mi 4 0]) .ret)))))), [.t 4]⟩
theorem low41 : lowF Try.prog 41 = some F41.strip := by kernel_rfl
theorem fok41 : fOk Try.prog 41 = true := by kernel_rfl
theorem reredosref_DeskFault_ok (p0 : Config) (p1 : Desk) (r : Int) (h : reredosref_DeskFault p0 p1 = some r) : FnRO Try.prog G 41 [.agg p0.bx, .agg p1.bx] (fun rs => rs = [.one (.i .i64 r)]) := by
 refine FnRO.of' low41 fok41 (by simp [F41]) ?_
 rw [reredosref_DeskFault] at h
 replace h := Hd.mk h
 simp only [F41, go_sem]
 try simp only [*, go_sem]
 refine cr h (reredosref_ConfigFault_ok G p0) (fun v1 h => ?_)
 refine oi h (fun hb2 h => ?_) (fun hb2 h => ?_)
 cases h.e
 simp only [*, go_sem, mA, mS]
 try simp only [*, go_sem]
 refine cr h (reredosref_In_ok G p1.Next 1 1048577) (fun v3 h => ?_)
 refine oin h (fun hb4 hkhb4 h => ?_) (fun hb4 hkhb4 h => ?_)
 cases h.e
 simp only [*, go_sem, mA, mS]
 try simp only [*, go_sem]
 intro hl5
 refine oi h (fun hb6 h => ?_) (fun hb6 h => ?_)
 cases h.e
 simp only [*, go_sem, mA, mS]
 try simp only [*, go_sem]
 refine jn0 h ([]) ([]) (fun k8 h => ?_) (fun h => ?_)
 try simp only [*, go_sem]
 refine lp1 (reredosref_DeskFault_L1 p0 p1 k8) (fun a9_1 => [zP 2 0, zP 3 1, zI 6 ((a9_1 : Nat) : Int)]) (fun a9_1 => [ox p0.bx, ox p1.bx]) h [] [some 0, some 1] (fun n10 a9_1 h => ?_) (by intros; rw [reredosref_DeskFault_L1])
 rw [reredosref_DeskFault_L1] at h
 try simp only [*, go_sem]
 intro hl11
 refine oi h (fun hb12 h => ?_) (fun hb12 h => ?_)
 have := of_decide_eq_true hb12
 refine obg h (fun x13 _ hkx13 h => ?_)
 refine obk h (fun v14 hv14 h => ?_)
 try simp only [*, go_sem]
 refine cd (reredosref_jobMay_ok G p0 p1.Next x13 v14 hv14) ?_
 refine oin h (fun hb15 hkhb15 h => ?_) (fun hb15 hkhb15 h => ?_)
 cases h.e
 simp only [*, go_sem, mA, mS]
 refine oi h (fun hb16 h => ?_) (fun hb16 h => ?_)
 refine obn h (fun x17 _ _ _ _ h => ?_)
 refine oi h (fun hb19 h => ?_) (fun hb19 h => ?_)
 cases h.e
 simp only [*, go_sem, mA, mS]
 have := wrap_succ_max hkx13 hl5
 try simp only [*, go_sem]
 exact lc (a9_1 + 1) h.e [some 0, some 1]
 have := wrap_succ_max hkx13 hl5
 try simp only [*, go_sem]
 exact lc (a9_1 + 1) h.e [some 0, some 1]
 try simp only [*, go_sem]
 exact jc () h.e []
 cases h.e
 simp only [*, go_sem, mA, mS]
def reredosref_deskFault (p0 : Config) (p1 : Int) (p2 : Int) (p3 : Desk) : Option (Int) := (Option.bind (reredosref_DeskFault p0 p3) fun v1 => (withK (fun (b2_1 : Int) => (withK (fun (b7_1 : Int) => (some b7_1)) fun k8 => (if (b2_1 == 0) = true then (Option.bind (reredosref_In p2 0 (IntKind.i64.wrap (p0.Sites - 1))) fun v10 => (if (!v10) = true then (k8 2) else (k8 b2_1))) else (k8 b2_1)))) fun k3 => (if (v1 == 0) = true then (Option.bind (reredosref_labelMay p0 p1) fun v5 => (if (!v5) = true then (k3 6) else (k3 v1))) else (k3 v1))))
def F17 : VFn := ⟨32, (.seq (.reg [vo 4 (.box 3 (.t 0)), vo 7 (.box 2 (.t 3)), mi 8 0]) (.seq (.reg [vl 10 3 4, vl 11 2 7, vo 12 (.call 41 [(.t 10), (.t 11)]), vm 9 12]) (.seq (.wk (.seq (.reg [vm 13 9, bk 14 .eql 13 0, vm 15 14, gt 16 15 (.ld true 3 (.t 4)), gt 17 15 (.mv (.t 1)), gt 18 15 (.call 42 [(.t 16), (.t 17)]), gt 19 15 (.un .not (.t 18)), vo 20 (.pick (.t 15) (.t 19) (cb false))]) (.cond (.t 20) (.reg [mi 9 6]) .skip))) (.seq (.wk (.seq (.reg [vm 21 9, bk 22 .eql 21 0, vm 23 22, gt 24 23 (.mv (.t 2)), gt 25 23 (.fa 0 (.t 4)), gt 26 23 (.ld false 1 (.t 25)), gt 27 23 (.bin .i .sub (.t 26) (ci 1)), gt 28 23 (.call 32 [(.t 24), (ci 0), (.t 27)]), gt 29 23 (.un .not (.t 28)), vo 30 (.pick (.t 23) (.t 29) (cb false))]) (.cond (.t 30) (.reg [mi 9 2]) .skip))) (.seq (.reg [vm 31 9, vm 8 31]) .ret))))), [.t 8]⟩
theorem low17 : lowF Try.prog 17 = some F17.strip := by kernel_rfl
theorem fok17 : fOk Try.prog 17 = true := by kernel_rfl
theorem reredosref_deskFault_ok (p0 : Config) (p1 : Int) (p2 : Int) (p3 : Desk) (r : Int) (h : reredosref_deskFault p0 p1 p2 p3 = some r) : FnRO Try.prog G 17 [.agg p0.bx, .one (.d (.i .i64 p1)), .one (.d (.i .i64 p2)), .agg p3.bx] (fun rs => rs = [.one (.i .i64 r)]) := by
 refine FnRO.of' low17 fok17 (by simp [F17]) ?_
 rw [reredosref_deskFault] at h
 replace h := Hd.mk h
 simp only [F17, go_sem]
 try simp only [*, go_sem]
 refine cr h (reredosref_DeskFault_ok G p0 p3) (fun v1 h => ?_)
 try simp only [*, go_sem]
 refine jn1 h (fun b2_1 => [zI 2 p2, zP 4 0, zI 9 b2_1]) (fun b2_1 => [ox p0.bx]) (fun k3 h => ?_) (fun b2_1 h => ?_)
 refine oi h (fun hb4 h => ?_) (fun hb4 h => ?_)
 try simp only [*, go_sem]
 refine cr h (reredosref_labelMay_ok G p0 p1) (fun v5 h => ?_)
 refine oin h (fun hb6 hkhb6 h => ?_) (fun hb6 hkhb6 h => ?_)
 try simp only [*, go_sem]
 exact jc (6) h.e [some 0]
 try simp only [*, go_sem]
 exact jc (v1) h.e [some 0]
 try simp only [*, go_sem]
 exact jc (v1) h.e [some 0]
 try simp only [*, go_sem]
 refine jn1 h (fun b7_1 => [zI 9 b7_1]) (fun b7_1 => []) (fun k8 h => ?_) (fun b7_1 h => ?_)
 refine oi h (fun hb9 h => ?_) (fun hb9 h => ?_)
 try simp only [*, go_sem]
 refine cr h (reredosref_In_ok G p2 0 (IntKind.i64.wrap (p0.Sites - 1))) (fun v10 h => ?_)
 refine oin h (fun hb11 hkhb11 h => ?_) (fun hb11 hkhb11 h => ?_)
 try simp only [*, go_sem]
 exact jc (2) h.e []
 try simp only [*, go_sem]
 exact jc (b2_1) h.e []
 try simp only [*, go_sem]
 exact jc (b2_1) h.e []
 cases h.e
 simp only [*, go_sem, mA, mS]
def reredosref_jobAt_L1 (p0 : Desk) (p1 : Int) (k2 : Option (Int)) : Nat → Nat → Option (Int)
 | 0, _ => none
 | n4 + 1, a3_1 => (if (decide (a3_1 < p0.Jobs.length)) = true then (Option.bind (p0.Jobs[a3_1]?) fun x7 => (if (x7.N == p1) = true then (some ((a3_1 : Nat) : Int)) else (reredosref_jobAt_L1 p0 p1 k2 n4 (a3_1 + 1)))) else k2)
def reredosref_jobAt (p0 : Desk) (p1 : Int) : Option (Int) := (withK (some (-1)) fun k2 => (reredosref_jobAt_L1 p0 p1 k2 (p0.Jobs.length + 1) 0))
def F18 : VFn := ⟨22, (.seq (.reg [vo 2 (.box 2 (.t 0)), mi 4 0]) (.seq (.seq (.reg [mi 5 0]) (.wk (.block 0 (.loop (.seq (.seq (.reg [vm 6 5, vf 7 1 2, vs 8 7, ln 9 8, bt 10 .lss 6 9]) (.cond (.t 10) .skip (.exit 0))) (.seq (.block 1 (.seq (.reg [vf 13 1 2, vs 14 13, vm 15 5, xa 16 6 14 15, vf 17 0 16, vs 18 17, vm 19 1, bt 20 .eql 18 19]) (.cond (.t 20) (.seq (.reg [vm 21 5, vm 4 21]) .ret) .skip))) (.reg [vm 11 5, bk 12 .add 11 1, vm 5 12]))))))) (.seq (.reg [mi 4 (-1)]) .ret))), [.t 4]⟩
theorem low18 : lowF Try.prog 18 = some F18.strip := by kernel_rfl
theorem fok18 : fOk Try.prog 18 = true := by kernel_rfl
theorem reredosref_jobAt_ok (p0 : Desk) (p1 : Int) (r : Int) (h : reredosref_jobAt p0 p1 = some r) : FnRO Try.prog G 18 [.agg p0.bx, .one (.d (.i .i64 p1))] (fun rs => rs = [.one (.i .i64 r)]) := by
 refine FnRO.of' low18 fok18 (by simp [F18]) ?_
 rw [reredosref_jobAt] at h
 replace h := Hd.mk h
 simp only [F18, go_sem]
 try simp only [*, go_sem]
 refine jn0 h ([]) ([]) (fun k2 h => ?_) (fun h => ?_)
 try simp only [*, go_sem]
 refine lp1 (reredosref_jobAt_L1 p0 p1 k2) (fun a3_1 => [zI 1 p1, zP 2 0, zI 5 ((a3_1 : Nat) : Int)]) (fun a3_1 => [ox p0.bx]) h [] [some 0] (fun n4 a3_1 h => ?_) (by intros; rw [reredosref_jobAt_L1])
 rw [reredosref_jobAt_L1] at h
 try simp only [*, go_sem]
 intro hl5
 refine oi h (fun hb6 h => ?_) (fun hb6 h => ?_)
 have := of_decide_eq_true hb6
 refine obg h (fun x7 _ hkx7 h => ?_)
 refine oi h (fun hb8 h => ?_) (fun hb8 h => ?_)
 cases h.e
 simp only [*, go_sem, mA, mS]
 have := wrap_succ_max hkx7 hl5
 try simp only [*, go_sem]
 exact lc (a3_1 + 1) h.e [some 0]
 try simp only [*, go_sem]
 exact jc () h.e []
 cases h.e
 simp only [*, go_sem, mA, mS]
def reredosref_Dominates (p0 : Label) (p1 : Label) : Option (Bool) := (withK (fun (b1_1 : Bool) => (some b1_1)) fun k2 => (if (decide (p0.Level ≥ p1.Level)) = true then (k2 (bitOp .i64 (· &&& ·) p0.Cats p1.Cats == p1.Cats)) else (k2 false)))
def F53 : VFn := ⟨20, (.seq (.reg [vo 2 (.boxk 2 (.t 0)), vo 3 (.boxk 2 (.t 1)), vo 4 (.mv (cb false))]) (.seq (.wk (.reg [vf 5 0 2, vs 6 5, vf 7 0 3, vs 8 7, bt 9 .geq 6 8, vm 10 9, gt 11 10 (.fa 1 (.t 2)), gt 12 10 (.ld false 1 (.t 11)), gt 13 10 (.fa 1 (.t 3)), gt 14 10 (.ld false 1 (.t 13)), gt 15 10 (.bin .i .and (.t 12) (.t 14)), gt 16 10 (.fa 1 (.t 3)), gt 17 10 (.ld false 1 (.t 16)), gt 18 10 (.bin .i .eql (.t 15) (.t 17)), vo 19 (.pick (.t 10) (.t 18) (cb false)), vm 4 19])) .ret)), [.t 4]⟩
theorem low53 : lowF Try.prog 53 = some F53.strip := by kernel_rfl
theorem fok53 : fOk Try.prog 53 = true := by kernel_rfl
theorem reredosref_Dominates_ok (p0 : Label) (p1 : Label) (r : Bool) (h : reredosref_Dominates p0 p1 = some r) : FnRO Try.prog G 53 [.agg p0.bx, .agg p1.bx] (fun rs => rs = [.one (.b r)]) := by
 refine FnRO.of' low53 fok53 (by simp [F53]) ?_
 rw [reredosref_Dominates] at h
 replace h := Hd.mk h
 simp only [F53, go_sem]
 try simp only [*, go_sem]
 refine jn1 h (fun b1_1 => [zB 4 b1_1]) (fun b1_1 => []) (fun k2 h => ?_) (fun b1_1 h => ?_)
 refine oi h (fun hb3 h => ?_) (fun hb3 h => ?_)
 try simp only [*, go_sem]
 exact jc (bitOp .i64 (· &&& ·) p0.Cats p1.Cats == p1.Cats) h.e []
 try simp only [*, go_sem]
 exact jc (false) h.e []
 cases h.e
 simp only [*, go_sem, mA, mS]
def reredosref_callFault (p0 : Config) (p1 : Int) (p2 : Desk) (p3 : Call) : Option (Int) := (Option.bind (reredosref_jobAt p2 p3.N) fun v1 => (if (decide (v1 < 0)) = true then (some 6) else (if 0 ≤ v1 then (Option.bind (p2.Jobs[v1.toNat]?) fun x3 => (if (x3.State != 1) = true then (some 13) else (withK (withK (withK (withK (withK (some 0) fun k36 => (if (decide (((x3.Tasks.length : Nat) : Int) ≥ 10)) = true then (some 8) else (if (decide (x3.Asks ≥ 1048576)) = true then (some 8) else k36))) fun k25 => (if (p3.Kind == 2) = true then (Option.bind (reredosref_labelMay p0 p3.Label) fun v27 => (if (!v27) = true then (some 10) else (if 0 ≤ p1 then (Option.bind (p0.Labels[p1.toNat]?) fun x29 => (if 0 ≤ p3.Label then (Option.bind (p0.Labels[p3.Label.toNat]?) fun x31 => (Option.bind (reredosref_Dominates x29 x31) fun v33 => (if (!v33) = true then (some 10) else k25))) else none)) else none))) else k25)) fun k19 => (Option.bind (reredosref_In p3.Key 0 7) fun v20 => (if (!v20) = true then (some 2) else (Option.bind (reredosref_In p3.Value 0 1073741824) fun v22 => (if (!v22) = true then (some 2) else k19))))) fun k15 => (if (p3.Kind == 4) = true then (some 0) else (if (p3.Kind == 5) = true then (some 0) else k15))) fun k7 => (if (decide (((x3.Tasks.length : Nat) : Int) > 0)) = true then (if 0 ≤ IntKind.i64.wrap (((x3.Tasks.length : Nat) : Int) - 1) then (Option.bind (x3.Tasks[(IntKind.i64.wrap (((x3.Tasks.length : Nat) : Int) - 1)).toNat]?) fun x11 => (if (!x11.Done) = true then (some 14) else k7)) else none) else k7)))) else none)))
def F33 : VFn := ⟨93, (.seq (.reg [vo 4 (.box 3 (.t 0)), vo 6 (.box 2 (.t 2)), vo 7 (.boxk 5 (.t 3)), mi 8 0]) (.seq (.reg [vl 11 2 6, vf 12 1 7, vs 13 12, vo 14 (.call 18 [(.t 11), (.t 13)]), vm 9 14]) (.seq (.seq (.reg [vm 15 9, bk 16 .lss 15 0]) (.cond (.t 16) (.seq (.reg [mi 8 6]) .ret) .skip)) (.seq (.reg [vf 17 1 6, vs 18 17, vm 19 9, xa 20 6 18 19, vl 21 6 20, vo 10 (.alloc [(zi 0), (zi 0), (.nl 8), (.nl 1), (zi 0), (zi 0)]), vu (.st 6 (.t 10) (.t 21))]) (.seq (.seq (.reg [vf 22 1 10, vs 23 22, bk 24 .neq 23 1]) (.cond (.t 24) (.seq (.reg [mi 8 13]) .ret) .skip)) (.seq (.wk (.seq (.reg [vf 25 2 10, vs 26 25, ln 27 26, bk 28 .gtr 27 0, vm 29 28, gt 30 29 (.fa 2 (.t 10)), gt 31 29 (.ld false 1 (.t 30)), gt 32 29 (.fa 2 (.t 10)), gt 33 29 (.ld false 1 (.t 32)), gt 34 29 (.len (.t 33)), gt 35 29 (.bin .i .sub (.t 34) (ci 1)), gt 36 29 (.ia 8 (.t 31) (.t 35)), gt 37 29 (.fa 6 (.t 36)), gt 38 29 (.ld false 1 (.t 37)), gt 39 29 (.un .not (.t 38)), vo 40 (.pick (.t 29) (.t 39) (cb false))]) (.cond (.t 40) (.seq (.reg [mi 8 14]) .ret) .skip))) (.seq (.wk (.seq (.reg [vf 41 0 7, vs 42 41, bk 43 .eql 42 4, vm 44 43, gf 45 44 (.fa 0 (.t 7)), gf 46 44 (.ld false 1 (.t 45)), gf 47 44 (.bin .i .eql (.t 46) (ci 5)), vo 48 (.pick (.t 44) (cb true) (.t 47))]) (.cond (.t 48) (.seq (.reg [mi 8 0]) .ret) .skip))) (.seq (.wk (.seq (.reg [vf 49 3 7, vs 50 49, vo 51 (.call 32 [(.t 50), (ci 0), (ci 7)]), nt 52 51, vm 53 52, gf 54 53 (.fa 4 (.t 7)), gf 55 53 (.ld false 1 (.t 54)), gf 56 53 (.call 32 [(.t 55), (ci 0), (ci 1073741824)]), gf 57 53 (.un .not (.t 56)), vo 58 (.pick (.t 53) (cb true) (.t 57))]) (.cond (.t 58) (.seq (.reg [mi 8 2]) .ret) .skip))) (.seq (.wk (.seq (.draw [vd (vf 59 0 7) 0, vd (vs 60 59) 1, vd (bk 61 .eql 60 2) 3, vd (vm 62 61) 7, vd (gt 63 62 (.ld true 3 (.t 4))) 15, vd (gt 64 62 (.fa 2 (.t 7))) 15, vd (gt 65 62 (.ld false 1 (.t 64))) 47, vd (gt 66 62 (.call 42 [(.t 63), (.t 65)])) 127, vd (gt 67 62 (.un .not (.t 66))) 255, vd (gt 68 62 (.mv (.t 67))) 511, vd (gf 69 68 (.fa 1 (.t 4))) 1023, vd (gf 70 68 (.ld false 1 (.t 69))) 2047, vd (gf 71 68 (.mv (.t 1))) 1023, vd (gf 72 68 (.ia 2 (.t 70) (.t 71))) 8191, vd (gf 73 68 (.ld true 2 (.t 72))) 0x3fff, vd (gf 74 68 (.fa 1 (.t 4))) 1023, vd (gf 75 68 (.ld false 1 (.t 74))) 0x83ff, vd (gf 76 68 (.fa 2 (.t 7))) 1023, vd (gf 77 68 (.ld false 1 (.t 76))) 0x203ff, vd (gf 78 68 (.ia 2 (.t 75) (.t 77))) 0x783ff, vd (gf 79 68 (.ld true 2 (.t 78))) 0xf83ff, vd (gf 80 68 (.call 53 [(.t 73), (.t 79)])) 0x1fffff, vd (gf 81 68 (.un .not (.t 80))) 0x3fffff, vd (gt 82 62 (.pick (.t 68) (cb true) (.t 81))) 0x7fffff, vd (vo 83 (.pick (.t 62) (.t 82) (cb false))) 0xffffff]) (.cond (.t 83) (.seq (.reg [mi 8 10]) .ret) .skip))) (.seq (.wk (.seq (.reg [vf 84 2 10, vs 85 84, ln 86 85, bk 87 .geq 86 10, vm 88 87, gf 89 88 (.fa 4 (.t 10)), gf 90 88 (.ld false 1 (.t 89)), gf 91 88 (.bin .i .geq (.t 90) (ci 1048576)), vo 92 (.pick (.t 88) (cb true) (.t 91))]) (.cond (.t 92) (.seq (.reg [mi 8 8]) .ret) .skip))) (.seq (.reg [mi 8 0]) .ret))))))))))), [.t 8]⟩
theorem low33 : lowF Try.prog 33 = some F33.strip := by kernel_rfl
theorem fok33 : fOk Try.prog 33 = true := by kernel_rfl
theorem reredosref_callFault_ok (p0 : Config) (p1 : Int) (p2 : Desk) (p3 : Call) (r : Int) (h : reredosref_callFault p0 p1 p2 p3 = some r) : FnRO Try.prog G 33 [.agg p0.bx, .one (.d (.i .i64 p1)), .agg p2.bx, .agg p3.bx] (fun rs => rs = [.one (.i .i64 r)]) := by
 refine FnRO.of' low33 fok33 (by simp [F33]) ?_
 rw [reredosref_callFault] at h
 replace h := Hd.mk h
 simp only [F33, go_sem]
 try simp only [*, go_sem]
 refine cr h (reredosref_jobAt_ok G p2 p3.N) (fun v1 h => ?_)
 refine oi h (fun hb2 h => ?_) (fun hb2 h => ?_)
 have := of_decide_eq_true hb2
 cases h.e
 simp only [*, go_sem, mA, mS]
 refine obn h (fun x3 _ _ _ _ h => ?_)
 refine oi h (fun hb5 h => ?_) (fun hb5 h => ?_)
 cases h.e
 simp only [*, go_sem, mA, mS]
 try simp only [*, go_sem]
 refine jn0 h ([zI 1 p1, zP 4 0, zK 7 (Call.enc p3), zP 10 1]) ([ox p0.bx, ox x3.bx]) (fun k7 h => ?_) (fun h => ?_)
 try simp only [*, go_sem]
 intro hl8
 refine oi h (fun hb9 h => ?_) (fun hb9 h => ?_)
 try simp only [*, go_sem]
 intro hl10
 refine obn h (fun x11 _ _ _ _ h => ?_)
 refine oin h (fun hb13 hkhb13 h => ?_) (fun hb13 hkhb13 h => ?_)
 cases h.e
 simp only [*, go_sem, mA, mS]
 try simp only [*, go_sem]
 exact jc () h.e [some 0, some 2]
 try simp only [*, go_sem]
 exact jc () h.e [some 0, some 2]
 try simp only [*, go_sem]
 refine jn0 h ([zI 1 p1, zP 4 0, zK 7 (Call.enc p3), zP 10 1]) ([ox p0.bx, ox x3.bx]) (fun k15 h => ?_) (fun h => ?_)
 refine oi h (fun hb16 h => ?_) (fun hb16 h => ?_)
 cases h.e
 simp only [*, go_sem, mA, mS]
 refine oi h (fun hb17 h => ?_) (fun hb17 h => ?_)
 cases h.e
 simp only [*, go_sem, mA, mS]
 try simp only [*, go_sem]
 exact jc () h.e [some 0, some 1]
 try simp only [*, go_sem]
 refine jn0 h ([zI 1 p1, zP 4 0, zK 7 (Call.enc p3), zP 10 1]) ([ox p0.bx, ox x3.bx]) (fun k19 h => ?_) (fun h => ?_)
 try simp only [*, go_sem]
 refine cr h (reredosref_In_ok G p3.Key 0 7) (fun v20 h => ?_)
 refine oin h (fun hb21 hkhb21 h => ?_) (fun hb21 hkhb21 h => ?_)
 cases h.e
 simp only [*, go_sem, mA, mS]
 try simp only [*, go_sem]
 refine cr h (reredosref_In_ok G p3.Value 0 1073741824) (fun v22 h => ?_)
 refine oin h (fun hb23 hkhb23 h => ?_) (fun hb23 hkhb23 h => ?_)
 cases h.e
 simp only [*, go_sem, mA, mS]
 try simp only [*, go_sem]
 exact jc () h.e [some 0, some 1]
 try simp only [*, go_sem]
 refine jn0 h ([zP 10 0]) ([ox x3.bx]) (fun k25 h => ?_) (fun h => ?_)
 refine oi h (fun hb26 h => ?_) (fun hb26 h => ?_)
 refine obk h (fun v27 hv27 h => ?_)
 try simp only [*, go_sem]
 refine cd (reredosref_labelMay_ok G p0 p3.Label v27 hv27) ?_
 refine oin h (fun hb28 hkhb28 h => ?_) (fun hb28 hkhb28 h => ?_)
 cases h.e
 simp only [*, go_sem, mA, mS]
 refine obn h (fun x29 _ _ _ _ h => ?_)
 refine obn h (fun x31 _ _ _ _ h => ?_)
 refine obk h (fun v33 hv33 h => ?_)
 try simp only [*, go_sem]
 refine cd (reredosref_Dominates_ok G x29 x31 v33 hv33) ?_
 refine oin h (fun hb34 hkhb34 h => ?_) (fun hb34 hkhb34 h => ?_)
 cases h.e
 simp only [*, go_sem, mA, mS]
 try simp only [*, go_sem]
 exact jc () h.e [some 1]
 try simp only [*, go_sem]
 exact jc () h.e [some 1]
 try simp only [*, go_sem]
 refine jn0 h ([]) ([]) (fun k36 h => ?_) (fun h => ?_)
 try simp only [*, go_sem]
 intro hl37
 refine oi h (fun hb38 h => ?_) (fun hb38 h => ?_)
 cases h.e
 simp only [*, go_sem, mA, mS]
 refine oi h (fun hb39 h => ?_) (fun hb39 h => ?_)
 cases h.e
 simp only [*, go_sem, mA, mS]
 try simp only [*, go_sem]
 exact jc () h.e []
 cases h.e
 simp only [*, go_sem, mA, mS]
def reredosref_about (p0 : Int) (p1 : Int) (p2 : Int) (p3 : Int) : Option (Message) := (some (Message.mk p1 p0 p2 (Txn.mk p0 p3) 0 0 0 0 0 false 0))
def F34 : VFn := ⟨16, (.seq (.reg [vo 8 (.alloc [(zi 0), (zi 0), (zi 0), (zi 0), (zi 0), (zi 0), (zi 0), (zi 0), (zi 0), (zi 0), (.d (.b false)), (zi 0)])]) (.seq (.reg [vm 9 1, vm 10 0, vm 11 2, vm 12 0, vm 13 3, vo 14 (.build [(zi 0), (zi 0)] [(0, 1, (.t 12)), (1, 1, (.t 13))]), vo 15 (.build [(zi 0), (zi 0), (zi 0), (zi 0), (zi 0), (zi 0), (zi 0), (zi 0), (zi 0), (zi 0), (.d (.b false)), (zi 0)] [(0, 1, (.t 9)), (1, 1, (.t 10)), (2, 1, (.t 11)), (3, 2, (.t 14))]), vu (.st 12 (.t 8) (.t 15))]) .ret)), [.cell 8 true 12]⟩
theorem low34 : lowF Try.prog 34 = some F34.strip := by kernel_rfl
theorem fok34 : fOk Try.prog 34 = true := by kernel_rfl
theorem reredosref_about_ok (p0 : Int) (p1 : Int) (p2 : Int) (p3 : Int) (r : Message) (h : reredosref_about p0 p1 p2 p3 = some r) : FnRO Try.prog G 34 [.one (.d (.i .i64 p0)), .one (.d (.i .i64 p1)), .one (.d (.i .i64 p2)), .one (.d (.i .i64 p3))] (fun rs => rs = [.agg (r.encO)]) := by
 refine FnRO.of' low34 fok34 (by simp [F34]) ?_
 rw [reredosref_about] at h
 replace h := Hd.mk h
 simp only [F34, go_sem]
 cases h.e
 simp only [*, go_sem, mA, mS]
def reredosref_hands_L2 (p0 : Config) (p1 : Int) (p2 : Job) (a3_1 : Int) (k7 : Bool → Option ((List Int))) : Nat → Bool → Nat → Option ((List Int))
 | 0, _, _ => none
 | n9 + 1, a8_1, a8_2 => (if (decide (a8_2 < p2.Tasks.length)) = true then (if a8_1 = true then (reredosref_hands_L2 p0 p1 p2 a3_1 k7 n9 true (a8_2 + 1)) else (Option.bind (p2.Tasks[a8_2]?) fun x14 => (if (x14.Label == p1) = true then (if p0.Sites = 0 then none else (reredosref_hands_L2 p0 p1 p2 a3_1 k7 n9 (x14.Key.tmod p0.Sites == a3_1) (a8_2 + 1))) else (reredosref_hands_L2 p0 p1 p2 a3_1 k7 n9 false (a8_2 + 1))))) else (k7 a8_1))
def reredosref_hands_L1 (p0 : Config) (p1 : Int) (p2 : Job) (k2 : (List Int) → Option ((List Int))) : Nat → Int → (List Int) → Option ((List Int))
 | 0, _, _ => none
 | n4 + 1, a3_1, a3_2 => (if (decide (a3_1 < p0.Sites)) = true then (withK (fun (b6_1 : Bool) => (withK (fun (b19_1 : List Int) => (reredosref_hands_L1 p0 p1 p2 k2 n4 (IntKind.i64.wrap (a3_1 + 1)) b19_1)) fun k20 => (if b6_1 = true then (if fits 8 (a3_2.length + 1) then (k20 (a3_2 ++ [a3_1])) else none) else (k20 a3_2)))) fun k7 => (reredosref_hands_L2 p0 p1 p2 a3_1 k7 (p2.Tasks.length + 1) false 0)) else (k2 a3_2))
def reredosref_hands (p0 : Config) (p1 : Int) (p2 : Job) : Option ((List Int)) := (withK (fun (b1_1 : List Int) => (some b1_1)) fun k2 => (reredosref_hands_L1 p0 p1 p2 k2 ((p0.Sites).toNat + 1) 0 []))
def F43 : VFn := ⟨54, (.seq (.reg [vo 3 (.box 3 (.t 0)), vo 5 (.box 6 (.t 2)), vo 6 (.mv (.c (.one (.nl 1))))]) (.seq (.reg [vo 7 (.mv (.c (.one (.nl 1))))]) (.seq (.seq (.reg [mi 8 0]) (.wk (.block 0 (.loop (.seq (.seq (.reg [vm 11 8, vf 12 0 3, vs 13 12, bt 14 .lss 11 13]) (.cond (.t 14) .skip (.exit 0))) (.seq (.block 1 (.seq (.reg [vo 9 (.mv (cb false))]) (.seq (.seq (.reg [mi 10 0]) (.wk (.block 2 (.loop (.seq (.seq (.reg [vm 17 10, vf 18 2 5, vs 19 18, ln 20 19, bt 21 .lss 17 20]) (.cond (.t 21) .skip (.exit 2))) (.seq (.block 3 (.draw [vd (vm 24 9) 0, vd (vm 25 24) 1, vd (gf 26 25 (.fa 2 (.t 5))) 3, vd (gf 27 25 (.ld false 1 (.t 26))) 7, vd (gf 28 25 (.mv (.t 10))) 3, vd (gf 29 25 (.ia 8 (.t 27) (.t 28))) 31, vd (gf 30 25 (.fa 1 (.t 29))) 63, vd (gf 31 25 (.ld false 1 (.t 30))) 127, vd (gf 32 25 (.mv (.t 1))) 3, vd (gf 33 25 (.bin .i .eql (.t 31) (.t 32))) 511, vd (gf 34 25 (.mv (.t 33))) 1023, vd (gt 35 34 (.fa 2 (.t 5))) 2047, vd (gt 36 34 (.ld false 1 (.t 35))) 4095, vd (gt 37 34 (.mv (.t 10))) 2047, vd (gt 38 34 (.ia 8 (.t 36) (.t 37))) 0x3fff, vd (gt 39 34 (.fa 2 (.t 38))) 0x7fff, vd (gt 40 34 (.ld false 1 (.t 39))) 0xffff, vd (gt 41 34 (.fa 0 (.t 3))) 2047, vd (gt 42 34 (.ld false 1 (.t 41))) 0x207ff, vd (gt 43 34 (.bin .i .rem (.t 40) (.t 42))) 0x7ffff, vd (gt 44 34 (.mv (.t 8))) 2047, vd (gt 45 34 (.bin .i .eql (.t 43) (.t 44))) 0x1fffff, vd (gf 46 25 (.pick (.t 34) (.t 45) (cb false))) 0x3fffff, vd (vo 47 (.pick (.t 25) (cb true) (.t 46))) 0x7fffff, vd (vm 9 47) 0xffffff])) (.reg [vm 22 10, bk 23 .add 22 1, vm 10 23]))))))) (.seq (.reg [vm 48 9]) (.wk (.cond (.t 48) (.reg [vm 49 7, vm 50 8, vo 51 (.bsl 1 1 [(zi 0)] [(0, (.t 50))]), vo 52 (.app 1 8 (.t 49) (.t 51)), vm 7 52]) .skip)))))) (.reg [vm 15 8, bk 16 .add 15 1, vm 8 16]))))))) (.seq (.reg [vm 53 7, vm 6 53]) .ret)))), [.t 6]⟩
theorem low43 : lowF Try.prog 43 = some F43.strip := by kernel_rfl
theorem fok43 : fOk Try.prog 43 = true := by kernel_rfl
theorem reredosref_hands_ok (p0 : Config) (p1 : Int) (p2 : Job) (r : (List Int)) (h : reredosref_hands p0 p1 p2 = some r) : FnRO Try.prog G 43 [.agg p0.bx, .one (.d (.i .i64 p1)), .agg p2.bx] (fun rs => rs = [.one (.o 1 (r.map encI))]) := by
 refine FnRO.of' low43 fok43 (by simp [F43]) ?_
 rw [reredosref_hands] at h
 replace h := Hd.mk h
 simp only [F43, go_sem]
 try simp only [*, go_sem]
 refine jn1 h (fun b1_1 => [zR 7 0 0 b1_1.length]) (fun b1_1 => [oa 1 (b1_1.map encI)]) (fun k2 h => ?_) (fun b1_1 h => ?_)
 try simp only [*, go_sem]
 refine lp2 (reredosref_hands_L1 p0 p1 p2 k2) (fun a3_1 a3_2 => [zI 1 p1, zP 3 0, zP 5 1, zR 7 2 0 a3_2.length, zI 8 a3_1]) (fun a3_1 a3_2 => [ox p0.bx, ox p2.bx, oa 1 (a3_2.map encI)]) h [] [some 0, some 1, none] (fun n4 a3_1 a3_2 h => ?_) (by intros; rw [reredosref_hands_L1])
 rw [reredosref_hands_L1] at h
 refine oi h (fun hb5 h => ?_) (fun hb5 h => ?_)
 have := of_decide_eq_true hb5
 try simp only [*, go_sem]
 refine jn1 h (fun b6_1 => [zI 1 p1, zP 3 0, zP 5 1, zR 7 2 0 a3_2.length, zI 8 a3_1, zB 9 b6_1]) (fun b6_1 => [ox p0.bx, ox p2.bx, oa 1 (a3_2.map encI)]) (fun k7 h => ?_) (fun b6_1 h => ?_)
 try simp only [*, go_sem]
 refine lp2 (reredosref_hands_L2 p0 p1 p2 a3_1 k7) (fun a8_1 a8_2 => [zI 1 p1, zP 3 0, zP 5 1, zR 7 2 0 a3_2.length, zI 8 a3_1, zB 9 a8_1, zI 10 ((a8_2 : Nat) : Int)]) (fun a8_1 a8_2 => [ox p0.bx, ox p2.bx, oa 1 (a3_2.map encI)]) h [] [some 0, some 1, some 2] (fun n9 a8_1 a8_2 h => ?_) (by intros; rw [reredosref_hands_L2])
 rw [reredosref_hands_L2] at h
 try simp only [*, go_sem]
 intro hl10
 refine oi h (fun hb11 h => ?_) (fun hb11 h => ?_)
 have hkhb11 := of_decide_eq_true hb11
 refine oi h (fun hb12 h => ?_) (fun hb12 h => ?_)
 have := wrap_succ_max hkhb11 hl10
 try simp only [*, go_sem]
 exact lc (true, a8_2 + 1) h.e [some 0, some 1, some 2]
 refine obg h (fun x14 _ hkx14 h => ?_)
 refine oi h (fun hb15 h => ?_) (fun hb15 h => ?_)
 refine ckn h (fun _ h => ?_)
 have := wrap_succ_max hkx14 hl10
 try simp only [*, go_sem]
 exact lc (x14.Key.tmod p0.Sites == a3_1, a8_2 + 1) h.e [some 0, some 1, some 2]
 have := wrap_succ_max hkx14 hl10
 try simp only [*, go_sem]
 exact lc (false, a8_2 + 1) h.e [some 0, some 1, some 2]
 try simp only [*, go_sem]
 exact jc (a8_1) h.e [some 0, some 1, some 2]
 try simp only [*, go_sem]
 refine jn1 h (fun b19_1 => [zI 1 p1, zP 3 0, zP 5 1, zR 7 2 0 b19_1.length, zI 8 a3_1]) (fun b19_1 => [ox p0.bx, ox p2.bx, oa 1 (b19_1.map encI)]) (fun k20 h => ?_) (fun b19_1 h => ?_)
 refine oi h (fun hb21 h => ?_) (fun hb21 h => ?_)
 refine ck h (fun _ h => ?_)
 try simp only [*, go_sem]
 exact jc ((a3_2 ++ [a3_1])) h.e [some 0, some 1, some 4]
 try simp only [*, go_sem]
 exact jc (a3_2) h.e [some 0, some 1, some 2]
 try simp only [*, go_sem]
 exact lc (IntKind.i64.wrap (a3_1 + 1), b19_1) h.e [some 0, some 1, some 2]
 try simp only [*, go_sem]
 exact jc (a3_2) h.e [some 2]
 cases h.e
 simp only [*, go_sem, mA, mS]
def reredosref_without_L1 (p0 : List Job) (p1 : Int) (k2 : (List Job) → Option ((List Job))) : Nat → Nat → (List Job) → Option ((List Job))
 | 0, _, _ => none
 | n4 + 1, a3_1, a3_2 => (if (decide (a3_1 < p0.length)) = true then (withK (fun (b7_1 : List Job) => (reredosref_without_L1 p0 p1 k2 n4 (a3_1 + 1) b7_1)) fun k8 => (if (((a3_1 : Nat) : Int) != p1) = true then (withK (fun (b10_1 : Int) (b10_2 : Int) (b10_3 : List Task) (b10_4 : List Int) (b10_5 : Int) (b10_6 : Int) => (if fits 80 (a3_2.length + 1) then (k8 (a3_2 ++ [(Job.mk b10_1 b10_2 b10_3 b10_4 b10_5 b10_6)])) else none)) fun k11 => (Option.bind (p0[a3_1]?) fun x12 => (k11 x12.N x12.State x12.Tasks x12.Asked x12.Asks x12.Age))) else (k8 a3_2))) else (k2 a3_2))
def reredosref_without (p0 : List Job) (p1 : Int) : Option ((List Job)) := (withK (fun (b1_1 : List Job) => (some b1_1)) fun k2 => (reredosref_without_L1 p0 p1 k2 (p0.length + 1) 0 []))
def F44 : VFn := ⟨24, (.seq (.reg [vo 4 (.mv (.c (.one (.nl 6))))]) (.seq (.reg [vo 5 (.mv (.c (.one (.nl 6))))]) (.seq (.seq (.reg [mi 6 0]) (.wk (.block 0 (.loop (.seq (.seq (.reg [vm 7 6, vm 8 0, ln 9 8, bt 10 .lss 7 9]) (.cond (.t 10) .skip (.exit 0))) (.seq (.block 1 (.seq (.reg [vm 13 6, vm 14 1, bt 15 .neq 13 14]) (.wk (.cond (.t 15) (.regs [[vm 16 5, vm 17 0, vm 18 6, xa 19 6 17 18, vl 20 6 19], [vo 21 (.bsl 6 1 [(zi 0), (zi 0), (.nl 8), (.nl 1), (zi 0), (zi 0)] [(0, (.t 20))]), vo 22 (.app 6 80 (.t 16) (.t 21)), vm 5 22]]) .skip)))) (.reg [vm 11 6, bk 12 .add 11 1, vm 6 12]))))))) (.seq (.reg [vm 23 5, vm 4 23]) .ret)))), [.t 4]⟩
theorem low44 : lowF Try.prog 44 = some F44.strip := by kernel_rfl
theorem fok44 : fOk Try.prog 44 = true := by kernel_rfl
theorem reredosref_without_ok (p0 : List Job) (p1 : Int) (r : (List Job)) (h : reredosref_without p0 p1 = some r) : FnRO Try.prog G 44 [.one (.d (.l 6 (p0.map Job.enc))), .one (.d (.i .i64 p1))] (fun rs => rs = [.one (.o 6 (r.map Job.enc))]) := by
 refine FnRO.of' low44 fok44 (by simp [F44]) ?_
 rw [reredosref_without] at h
 replace h := Hd.mk h
 simp only [F44, go_sem]
 try simp only [*, go_sem]
 refine jn1 h (fun b1_1 => [zR 5 0 0 b1_1.length]) (fun b1_1 => [oa 6 (b1_1.map Job.enc)]) (fun k2 h => ?_) (fun b1_1 h => ?_)
 try simp only [*, go_sem]
 refine lp2 (reredosref_without_L1 p0 p1 k2) (fun a3_1 a3_2 => [zL 0 6 (p0.map Job.enc), zI 1 p1, zR 5 0 0 a3_2.length, zI 6 ((a3_1 : Nat) : Int)]) (fun a3_1 a3_2 => [oa 6 (a3_2.map Job.enc)]) h [] [none] (fun n4 a3_1 a3_2 h => ?_) (by intros; rw [reredosref_without_L1])
 rw [reredosref_without_L1] at h
 try simp only [*, go_sem]
 intro hl5
 refine oi h (fun hb6 h => ?_) (fun hb6 h => ?_)
 have hkhb6 := of_decide_eq_true hb6
 try simp only [*, go_sem]
 refine jn1 h (fun b7_1 => [zL 0 6 (p0.map Job.enc), zI 1 p1, zR 5 0 0 b7_1.length, zI 6 ((a3_1 : Nat) : Int)]) (fun b7_1 => [oa 6 (b7_1.map Job.enc)]) (fun k8 h => ?_) (fun b7_1 h => ?_)
 refine oi h (fun hb9 h => ?_) (fun hb9 h => ?_)
 try simp only [*, go_sem]
 refine rg6 h (fun b10_1 b10_2 b10_3 b10_4 b10_5 b10_6 => [zL 0 6 (p0.map Job.enc), zI 1 p1, zI 6 ((a3_1 : Nat) : Int), zR 16 0 0 a3_2.length, (20, .agg [zi b10_1, zi b10_2, .d (.l 8 (b10_3.map Task.enc)), .d (.l 1 (b10_4.map encI)), zi b10_5, zi b10_6])]) (fun b10_1 b10_2 b10_3 b10_4 b10_5 b10_6 => [oa 6 (a3_2.map Job.enc)]) (fun k11 h => ?_) (fun b10_1 b10_2 b10_3 b10_4 b10_5 b10_6 h => ?_)
 refine obg h (fun x12 _ _ h => ?_)
 try simp only [*, go_sem]
 exact jc (x12.N, x12.State, x12.Tasks, x12.Asked, x12.Asks, x12.Age) h.e [some 0]
 refine ck h (fun _ h => ?_)
 try simp only [*, go_sem]
 exact jc ((a3_2 ++ [(Job.mk b10_1 b10_2 b10_3 b10_4 b10_5 b10_6)])) h.e [some 2]
 try simp only [*, go_sem]
 exact jc (a3_2) h.e [some 0]
 have := wrap_succ_max hkhb6 hl5
 try simp only [*, go_sem]
 exact lc (a3_1 + 1, b7_1) h.e [some 0]
 try simp only [*, go_sem]
 exact jc (a3_2) h.e [some 0]
 cases h.e
 simp only [*, go_sem, mA, mS]
def F19 : VFn := ⟨35, (.seq (.gho (.reg [vo 5 (.box 6 (.t 2))])) (.seq (.gho (.reg [mi 6 0])) (.wk (.block 0 (.loop (.seq (.seq (.gho (.reg [vm 8 6, vf 9 3 5, vs 10 9, ln 11 10, bt 12 .lss 8 11])) (.cond (.t 12) .skip (.exit 0))) (.seq (.block 1 (.seq (.gho (.draw [vd (vm 15 0) 0, vd (vf 16 3 5) 0, vd (vs 17 16) 2, vd (vm 18 6) 0, vd (xa 19 1 17 18) 14, vd (vs 20 19) 30, vd (vf 21 0 5) 0, vd (vs 22 21) 64, vd (vo 23 (.call 34 [(.t 15), (ci 4), (.t 20), (.t 22)])) 255, ⟨vo 7 (.alloc [(zi 0), (zi 0), (zi 0), (zi 0), (zi 0), (zi 0), (zi 0), (zi 0), (zi 0), (zi 0), (.d (.b false)), (zi 0)]), 0, [8], none, []⟩, vd (vu (.st 12 (.t 7) (.t 23))) 1023])) (.seq (.gho (.reg [vf 24 10 7, vu (.st 1 (.t 24) (cb true))])) (.gho (.draw [vd (vm 25 1) 0, vd (vm 26 1) 0, vd (vo 27 (.nilchk (.t 26))) 2, vd (vf 28 2 27) 6, vd (vs 29 28) 14, vd (vl 30 12 7) 0, vd (vo 31 (.bsl 12 1 [(zi 0), (zi 0), (zi 0), (zi 0), (zi 0), (zi 0), (zi 0), (zi 0), (zi 0), (zi 0), (.d (.b false)), (zi 0)] [(0, (.t 30))])) 32, vd (vo 32 (.app 12 96 (.t 29) (.t 31))) 126, vd (vo 33 (.nilchk (.t 25))) 255, vd (vf 34 2 33) 511, vd (vu (.st 1 (.t 34) (.t 32))) 1023]))))) (.gho (.reg [vm 13 6, bk 14 .add 13 1, vm 6 14]))))))))), []⟩
theorem low19 : lowF Try.prog 19 = some F19.strip := by kernel_rfl
theorem fok19 : fOk Try.prog 19 = true := by kernel_rfl
def reredosref_committed_L1 (x1 : Job) (k9 : Bool → Option (Turn)) : Nat → Bool → Nat → Option (Turn)
 | 0, _, _ => none
 | n11 + 1, a10_1, a10_2 => (if (decide (a10_2 < x1.Tasks.length)) = true then (if a10_1 = true then (reredosref_committed_L1 x1 k9 n11 true (a10_2 + 1)) else (Option.bind (x1.Tasks[a10_2]?) fun x16 => (reredosref_committed_L1 x1 k9 n11 x16.Write (a10_2 + 1)))) else (k9 a10_1))
def reredosref_committed_L2 (p2 : Int) (x1 : Job) (v3 : (List Int)) (k24 : (List Message) → Option (Turn)) : Nat → Nat → (List Message) → Option (Turn)
 | 0, _, _ => none
 | n26 + 1, a25_1, a25_2 => (if (decide (a25_1 < v3.length)) = true then (Option.bind (v3[a25_1]?) fun x29 => (Option.bind (reredosref_about p2 4 x29 x1.N) fun v30 => (if fits 96 (a25_2.length + 1) then (reredosref_committed_L2 p2 x1 v3 k24 n26 (a25_1 + 1) (a25_2 ++ [(Message.mk v30.Kind v30.From v30.To v30.Txn v30.Label v30.Key v30.Value v30.Version v30.Ask true v30.Code)])) else none))) else (k24 a25_2))
def reredosref_committed (p0 : Config) (p1 : Int) (p2 : Int) (p3 : Turn) (p4 : Int) : Option (Turn) := (if 0 ≤ p4 then (Option.bind (p3.Desk.Jobs[p4.toNat]?) fun x1 => (Option.bind (reredosref_hands p0 p1 x1) fun v3 => (if fits 48 (p3.Replies.length + 1) then (if (((v3.length : Nat) : Int) == 0) = true then (Option.bind (reredosref_without (p3.Desk.Jobs.set p4.toNat x1) p4) fun v7 => (some (Turn.mk (Desk.mk p3.Desk.Next v7) p3.Messages p3.Records (p3.Replies ++ [(Reply.mk p2 4 x1.N 0 0 0)]) p3.Sure x1.N))) else (withK (fun (b8_1 : Bool) => (withK (fun (b18_1 : List Record) => (withK (fun (b23_1 : List Message) => (some (Turn.mk (Desk.mk p3.Desk.Next (p3.Desk.Jobs.set p4.toNat (Job.mk x1.N 3 x1.Tasks v3 x1.Asks 0))) b23_1 b18_1 (p3.Replies ++ [(Reply.mk p2 4 x1.N 0 0 0)]) p3.Sure x1.N))) fun k24 => (reredosref_committed_L2 p2 x1 v3 k24 (v3.length + 1) 0 p3.Messages))) fun k19 => (if b8_1 = true then (Option.bind (reredosref_intsCopy v3) fun v21 => (if fits 80 (p3.Records.length + 1) then (k19 (p3.Records ++ [(Record.mk 3 (Txn.mk p2 x1.N) 0 0 0 false v21)])) else none)) else (k19 p3.Records)))) fun k9 => (reredosref_committed_L1 x1 k9 (x1.Tasks.length + 1) false 0))) else none))) else none)
def F35 : VFn := ⟨107, (.seq (.reg [vo 5 (.box 3 (.t 0))]) (.seq (.gho (.reg [vm 14 3, vo 15 (.nilchk (.t 14)), vf 16 0 15, vf 17 1 16, vs 18 17, vm 19 4, xa 20 6 18 19, vl 21 6 20, vo 10 (.alloc [(zi 0), (zi 0), (.nl 8), (.nl 1), (zi 0), (zi 0)]), vu (.st 6 (.t 10) (.t 21))])) (.seq (.reg [vl 22 3 5, vm 23 1, vl 24 6 10, vo 25 (.call 43 [(.t 22), (.t 23), (.t 24)]), vm 11 25]) (.seq (.reg [vm 26 3, vf 27 0 10, vs 28 27, vo 29 (.nilchk (.t 26)), vf 30 6 29, vu (.st 1 (.t 30) (.t 28))]) (.seq (.draw [vd (vm 31 3) 0, vd (vm 32 3) 0, vd (vo 33 (.nilchk (.t 32))) 2, vd (vf 34 4 33) 6, vd (vs 35 34) 14, vd (vm 36 2) 0, vd (vf 37 0 10) 0, vd (vs 38 37) 64, vd (vo 39 (.build [(zi 0), (zi 0), (zi 0), (zi 0), (zi 0), (zi 0)] [(0, 1, (.t 36)), (1, 1, (ci 4)), (2, 1, (.t 38))])) 224, vd (vo 40 (.bsl 6 1 [(zi 0), (zi 0), (zi 0), (zi 0), (zi 0), (zi 0)] [(0, (.t 39))])) 480, vd (vo 41 (.app 6 48 (.t 35) (.t 40))) 1022, vd (vo 42 (.nilchk (.t 31))) 2047, vd (vf 43 4 42) 4095, vd (vu (.st 1 (.t 43) (.t 41))) 8191]) (.seq (.seq (.reg [vm 44 11, ln 45 44, bk 46 .eql 45 0]) (.cond (.t 46) (.seq (.gho (.reg [vm 47 3, vm 48 3, vo 49 (.nilchk (.t 48)), vf 50 0 49, vf 51 1 50, vs 52 51, vm 53 4, vo 54 (.call 44 [(.t 52), (.t 53)]), vo 55 (.nilchk (.t 47)), vf 56 0 55, vf 57 1 56, vu (.st 1 (.t 57) (.t 54))])) .ret) .skip)) (.seq (.reg [vo 12 (.mv (cb false))]) (.seq (.seq (.reg [mi 13 0]) (.wk (.block 0 (.loop (.seq (.seq (.reg [vm 58 13, vf 59 2 10, vs 60 59, ln 61 60, bt 62 .lss 58 61]) (.cond (.t 62) .skip (.exit 0))) (.seq (.block 1 (.reg [vm 65 12, vm 66 65, gf 67 66 (.fa 2 (.t 10)), gf 68 66 (.ld false 1 (.t 67)), gf 69 66 (.mv (.t 13)), gf 70 66 (.ia 8 (.t 68) (.t 69)), gf 71 66 (.fa 0 (.t 70)), gf 72 66 (.ld false 1 (.t 71)), vo 73 (.pick (.t 66) (cb true) (.t 72)), vm 12 73])) (.reg [vm 63 13, bk 64 .add 63 1, vm 13 64]))))))) (.seq (.seq (.reg [vm 74 12]) (.wk (.cond (.t 74) (.draw [vd (vm 75 3) 0, vd (vm 76 3) 0, vd (vo 77 (.nilchk (.t 76))) 2, vd (vf 78 3 77) 6, vd (vs 79 78) 14, vd (vm 80 2) 0, vd (vf 81 0 10) 0, vd (vs 82 81) 64, vd (vo 83 (.build [(zi 0), (zi 0)] [(0, 1, (.t 80)), (1, 1, (.t 82))])) 224, vd (vm 84 11) 0, vd (vo 85 (.call 13 [(.t 84)])) 512, vd (vo 86 (.build [(zi 0), (zi 0), (zi 0), (zi 0), (zi 0), (zi 0), (.d (.b false)), (.nl 1)] [(0, 1, (ci 3)), (1, 2, (.t 83)), (7, 1, (.t 85))])) 2016, vd (vo 87 (.bsl 8 1 [(zi 0), (zi 0), (zi 0), (zi 0), (zi 0), (zi 0), (.d (.b false)), (.nl 1)] [(0, (.t 86))])) 4064, vd (vo 88 (.app 8 80 (.t 79) (.t 87))) 8190, vd (vo 89 (.nilchk (.t 75))) 0x3fff, vd (vf 90 3 89) 0x7fff, vd (vu (.st 1 (.t 90) (.t 88))) 0xffff]) .skip))) (.seq (.reg [vf 91 1 10, vu (.st 1 (.t 91) (ci 3))]) (.seq (.reg [vm 92 11, vf 93 3 10, vu (.st 1 (.t 93) (.t 92))]) (.seq (.reg [vf 94 5 10, vu (.st 1 (.t 94) (ci 0))]) (.seq (.draw [vd (vm 95 3) 0, vd (vo 96 (.nilchk (.t 95))) 1, vd (vf 97 0 96) 3, vd (vf 98 1 97) 7, vd (vs 99 98) 15, vd (vm 100 4) 0, vd (vl 101 6 10) 0, vd (xa 102 6 99 100) 127, vd (vu (.st 6 (.t 102) (.t 101))) 255]) (.reg [vm 103 2, vm 104 3, vl 105 6 10, vo 106 (.call 19 [(.t 103), (.t 104), (.t 105)])])))))))))))))), []⟩
theorem low35 : lowF Try.prog 35 = some F35.strip := by kernel_rfl
theorem fok35 : fOk Try.prog 35 = true := by kernel_rfl
theorem reredosref_committed_ok (p0 : Config) (p1 : Int) (p2 : Int) (p3 : Turn) (p4 : Int) (r : Turn) (h : reredosref_committed p0 p1 p2 p3 p4 = some r) : FnX Try.prog G 35 [.agg p0.bx, .one (.d (.i .i64 p1)), .one (.d (.i .i64 p2)), ptrX, .one (.d (.i .i64 p4))] [.i .i64 p3.Desk.Next, .t 6 (p3.Desk.Jobs.map Job.encO), .o 12 (p3.Messages.map Message.enc), .o 8 (p3.Records.map Record.enc), .o 6 (p3.Replies.map Reply.enc), .i .i64 p3.Sure, .i .i64 p3.Committed] (fun c rs => c = [.i .i64 r.Desk.Next, .l 6 (r.Desk.Jobs.map Job.enc), .o 12 (r.Messages.map Message.enc), .o 8 (r.Records.map Record.enc), .o 6 (r.Replies.map Reply.enc), .i .i64 r.Sure, .i .i64 r.Committed] ∧ rs = []) := by
 refine FnX.of [0, 1] low35 fok35 (by exact Nat.le_of_ble_eq_true rfl) (by exact Nat.le_of_ble_eq_true rfl) ?_
 rw [reredosref_committed] at h
 replace h := Hd.mk h
 simp only [F35, go_sem]
 refine obn h (fun x1 _ _ _ _ h => ?_)
 try simp only [*, go_sem]
 refine gho_lk _ G _ _ [.f 1 p4.toNat] ?_
 try simp only [*, go_sem]
 try simp only [*, go_sem]
 refine cl h (reredosref_hands_ok G p0 p1 x1) (fun v3 h => ?_)
 refine ck h (fun _ h => ?_)
 try simp only [*, go_sem]
 intro hl5
 refine oi h (fun hb6 h => ?_) (fun hb6 h => ?_)
 try simp only [*, go_sem]
 refine gho_lk _ G _ _ [.u 1, .z 1] ?_
 try simp only [*, go_sem]
 try simp only [*, go_sem]
 refine cr h (reredosref_without_ok G (p3.Desk.Jobs.set p4.toNat x1) p4) (fun v7 h => ?_)
 cases h.e
 try simp only [*, go_sem]
 refine eti [.z 24] ?_
 simp only [*, go_sem, mA, mS]
 try simp only [*, go_sem]
 refine jn1 h (fun b8_1 => [zI 2 p2, zP 3 0, zI 4 p4, zP 10 1, zR 11 2 0 v3.length, zB 12 b8_1, zP 1000000 0]) (fun b8_1 => [ox [zi p3.Desk.Next, .r 3 0 p3.Desk.Jobs.length, .r 4 0 p3.Messages.length, .r 5 0 p3.Records.length, .r 6 0 (p3.Replies.length + 1), zi p3.Sure, zi x1.N], ox [zi x1.N, zi x1.State, .r 7 0 x1.Tasks.length, .r 8 0 x1.Asked.length, zi x1.Asks, zi x1.Age], oa 1 (v3.map encI), og 6 (p3.Desk.Jobs.map Job.encO) p4.toNat [zi x1.N, zi x1.State, .r 7 0 x1.Tasks.length, .r 8 0 x1.Asked.length, zi x1.Asks, zi x1.Age], oa 12 (p3.Messages.map Message.enc), oa 8 (p3.Records.map Record.enc), oa 6 ((p3.Replies ++ [(Reply.mk p2 4 x1.N 0 0 0)]).map Reply.enc), oa 8 (x1.Tasks.map Task.enc), oa 1 (x1.Asked.map encI)]) (fun k9 h => ?_) (fun b8_1 h => ?_)
 try simp only [*, go_sem]
 refine lp2 (reredosref_committed_L1 x1 k9) (fun a10_1 a10_2 => [zI 2 p2, zP 3 0, zI 4 p4, zP 10 1, zR 11 2 0 v3.length, zB 12 a10_1, zI 13 ((a10_2 : Nat) : Int), zP 1000000 0]) (fun a10_1 a10_2 => [ox [zi p3.Desk.Next, .r 3 0 p3.Desk.Jobs.length, .r 4 0 p3.Messages.length, .r 5 0 p3.Records.length, .r 6 0 (p3.Replies.length + 1), zi p3.Sure, zi x1.N], ox [zi x1.N, zi x1.State, .r 7 0 x1.Tasks.length, .r 8 0 x1.Asked.length, zi x1.Asks, zi x1.Age], oa 1 (v3.map encI), og 6 (p3.Desk.Jobs.map Job.encO) p4.toNat [zi x1.N, zi x1.State, .r 7 0 x1.Tasks.length, .r 8 0 x1.Asked.length, zi x1.Asks, zi x1.Age], oa 12 (p3.Messages.map Message.enc), oa 8 (p3.Records.map Record.enc), oa 6 ((p3.Replies ++ [(Reply.mk p2 4 x1.N 0 0 0)]).map Reply.enc), oa 8 (x1.Tasks.map Task.enc), oa 1 (x1.Asked.map encI)]) h [] [some 0, some 8, some 9, some 1, some 2, some 3, some 20, some 6, some 7] (fun n11 a10_1 a10_2 h => ?_) (by intros; rw [reredosref_committed_L1])
 rw [reredosref_committed_L1] at h
 try simp only [*, go_sem]
 intro hl12
 refine oi h (fun hb13 h => ?_) (fun hb13 h => ?_)
 have hkhb13 := of_decide_eq_true hb13
 refine oi h (fun hb14 h => ?_) (fun hb14 h => ?_)
 have := wrap_succ_max hkhb13 hl12
 try simp only [*, go_sem]
 exact lc (true, a10_2 + 1) h.e [some 0, some 1, some 2, some 3, some 4, some 5, some 6, some 7, some 8]
 refine obg h (fun x16 _ hkx16 h => ?_)
 have := wrap_succ_max hkx16 hl12
 try simp only [*, go_sem]
 exact lc (x16.Write, a10_2 + 1) h.e [some 0, some 1, some 2, some 3, some 4, some 5, some 6, some 7, some 8]
 try simp only [*, go_sem]
 exact jc (a10_1) h.e [some 0, some 1, some 2, some 3, some 4, some 5, some 6, some 7, some 8]
 try simp only [*, go_sem]
 refine jn1 h (fun b18_1 => [zI 2 p2, zP 3 0, zI 4 p4, zP 10 1, zR 11 2 0 v3.length, zP 1000000 0]) (fun b18_1 => [ox [zi p3.Desk.Next, .r 3 0 p3.Desk.Jobs.length, .r 4 0 p3.Messages.length, .r 5 0 b18_1.length, .r 6 0 (p3.Replies.length + 1), zi p3.Sure, zi x1.N], ox [zi x1.N, zi x1.State, .r 7 0 x1.Tasks.length, .r 8 0 x1.Asked.length, zi x1.Asks, zi x1.Age], oa 1 (v3.map encI), og 6 (p3.Desk.Jobs.map Job.encO) p4.toNat [zi x1.N, zi x1.State, .r 7 0 x1.Tasks.length, .r 8 0 x1.Asked.length, zi x1.Asks, zi x1.Age], oa 12 (p3.Messages.map Message.enc), oa 8 (b18_1.map Record.enc), oa 6 ((p3.Replies ++ [(Reply.mk p2 4 x1.N 0 0 0)]).map Reply.enc), oa 8 (x1.Tasks.map Task.enc), oa 1 (x1.Asked.map encI)]) (fun k19 h => ?_) (fun b18_1 h => ?_)
 refine oi h (fun hb20 h => ?_) (fun hb20 h => ?_)
 refine obk h (fun v21 hv21 h => ?_)
 try simp only [*, go_sem]
 refine cdz (reredosref_intsCopy_ok G v3 v21 hv21) ?_
 refine ck h (fun _ h => ?_)
 try simp only [*, go_sem]
 exact jc ((p3.Records ++ [(Record.mk 3 (Txn.mk p2 x1.N) 0 0 0 false v21)])) h.e [some 0, some 1, some 2, some 3, some 4, some 22, some 6, some 7, some 8]
 try simp only [*, go_sem]
 exact jc (p3.Records) h.e [some 0, some 1, some 2, some 3, some 4, some 5, some 6, some 7, some 8]
 try simp only [*, go_sem]
 refine cx low19 fok19 ?_
 simp only [*, F19, go_sem]
 try simp only [*, go_sem]
 refine gho_lk _ G _ _ [] ?_
 try simp only [*, go_sem]
 try simp only [*, go_sem]
 refine gho_lk _ G _ _ [] ?_
 try simp only [*, go_sem]
 try simp only [*, go_sem]
 refine jn1 h (fun b23_1 => [zP 2000000 0]) (fun b23_1 => [ox [zi p3.Desk.Next, .r 1 0 p3.Desk.Jobs.length, .r 2 0 b23_1.length, .r 3 0 b18_1.length, .r 4 0 (p3.Replies.length + 1), zi p3.Sure, zi x1.N], ot 6 ((p3.Desk.Jobs.set p4.toNat (Job.mk x1.N 3 x1.Tasks v3 x1.Asks 0)).map Job.encO), oa 12 (b23_1.map Message.enc), oa 8 (b18_1.map Record.enc), oa 6 ((p3.Replies ++ [(Reply.mk p2 4 x1.N 0 0 0)]).map Reply.enc)]) (fun k24 h => ?_) (fun b23_1 h => ?_)
 try simp only [*, go_sem]
 refine lp2 (reredosref_committed_L2 p2 x1 v3 k24) (fun a25_1 a25_2 => [zI 0 p2, zP 1 0, zP 5 1, zI 6 ((a25_1 : Nat) : Int), zP 2000000 0]) (fun a25_1 a25_2 => [ox [zi p3.Desk.Next, .r 2 0 p3.Desk.Jobs.length, .r 3 0 a25_2.length, .r 4 0 b18_1.length, .r 5 0 (p3.Replies.length + 1), zi p3.Sure, zi x1.N], ox [zi x1.N, zi 3, .r 6 0 x1.Tasks.length, .r 7 0 v3.length, zi x1.Asks, zi 0], og 6 (p3.Desk.Jobs.map Job.encO) p4.toNat [zi x1.N, zi 3, .r 6 0 x1.Tasks.length, .r 7 0 v3.length, zi x1.Asks, zi 0], oa 12 (a25_2.map Message.enc), oa 8 (b18_1.map Record.enc), oa 6 ((p3.Replies ++ [(Reply.mk p2 4 x1.N 0 0 0)]).map Reply.enc), oa 8 (x1.Tasks.map Task.enc), oa 1 (v3.map encI)]) h [] [some 0, some 18, some 3, some 4, some 5, some 6, some 7, some 2] (fun n26 a25_1 a25_2 h => ?_) (by intros; rw [reredosref_committed_L2])
 rw [reredosref_committed_L2] at h
 try simp only [*, go_sem]
 refine gho_lk _ G _ _ [] ?_
 try simp only [*, go_sem]
 try simp only [*, go_sem]
 intro hl27
 refine oi h (fun hb28 h => ?_) (fun hb28 h => ?_)
 have := of_decide_eq_true hb28
 try simp only [*, go_sem]
 refine gho_lk _ G _ _ [] ?_
 try simp only [*, go_sem]
 refine obg h (fun x29 _ hkx29 h => ?_)
 refine obk h (fun v30 hv30 h => ?_)
 try simp only [*, go_sem]
 refine cd (reredosref_about_ok G p2 4 x29 x1.N v30 hv30) ?_
 try simp only [*, go_sem]
 refine gho_lk _ G _ _ [] ?_
 try simp only [*, go_sem]
 try simp only [*, go_sem]
 refine gho_lk _ G _ _ [] ?_
 try simp only [*, go_sem]
 refine ck h (fun _ h => ?_)
 try simp only [*, go_sem]
 refine gho_lk _ G _ _ [] ?_
 try simp only [*, go_sem]
 have := wrap_succ_max hkx29 hl5
 try simp only [*, go_sem]
 exact lc (a25_1 + 1, (a25_2 ++ [(Message.mk v30.Kind v30.From v30.To v30.Txn v30.Label v30.Key v30.Value v30.Version v30.Ask true v30.Code)])) h.e [some 0, some 1, some 2, some 26, some 4, some 5, some 6, some 7]
 try simp only [*, go_sem]
 exact jf [.u 2] (a25_2) h.e [some 0, some 2, some 3, some 4, some 5]
 cases h.e
 try simp only [*, go_sem]
 refine etn [.z 1] ?_
 simp only [*, go_sem, mA, mS]
def reredosref_ended_L1 (p2 : Int) (x1 : Job) (v3 : (List Int)) (k5 : (List Message) → Option (Turn)) : Nat → Nat → (List Message) → Option (Turn)
 | 0, _, _ => none
 | n7 + 1, a6_1, a6_2 => (if (decide (a6_1 < v3.length)) = true then (Option.bind (v3[a6_1]?) fun x10 => (Option.bind (reredosref_about p2 4 x10 x1.N) fun v11 => (if fits 96 (a6_2.length + 1) then (reredosref_ended_L1 p2 x1 v3 k5 n7 (a6_1 + 1) (a6_2 ++ [v11])) else none))) else (k5 a6_2))
def reredosref_ended (p0 : Config) (p1 : Int) (p2 : Int) (p3 : Turn) (p4 : Int) : Option (Turn) := (if 0 ≤ p4 then (Option.bind (p3.Desk.Jobs[p4.toNat]?) fun x1 => (Option.bind (reredosref_hands p0 p1 x1) fun v3 => (withK (fun (b4_1 : List Message) => (Option.bind (reredosref_without (p3.Desk.Jobs.set p4.toNat x1) p4) fun v14 => (some (Turn.mk (Desk.mk p3.Desk.Next v14) b4_1 p3.Records p3.Replies p3.Sure p3.Committed)))) fun k5 => (reredosref_ended_L1 p2 x1 v3 k5 (v3.length + 1) 0 p3.Messages)))) else none)
def F20 : VFn := ⟨59, (.seq (.reg [vo 5 (.box 3 (.t 0))]) (.seq (.gho (.reg [vm 13 3, vo 14 (.nilchk (.t 13)), vf 15 0 14, vf 16 1 15, vs 17 16, vm 18 4, xa 19 6 17 18, vl 20 6 19, vo 10 (.alloc [(zi 0), (zi 0), (.nl 8), (.nl 1), (zi 0), (zi 0)]), vu (.st 6 (.t 10) (.t 20))])) (.seq (.reg [vl 21 3 5, vm 22 1, vl 23 6 10, vo 24 (.call 43 [(.t 21), (.t 22), (.t 23)]), vm 11 24]) (.seq (.seq (.reg [mi 12 0]) (.wk (.block 0 (.loop (.seq (.seq (.reg [vm 25 12, vm 26 11, ln 27 26, bt 28 .lss 25 27]) (.cond (.t 28) .skip (.exit 0))) (.seq (.block 1 (.draw [vd (vm 31 3) 0, vd (vm 32 3) 0, vd (vo 33 (.nilchk (.t 32))) 2, vd (vf 34 2 33) 6, vd (vs 35 34) 14, vd (vm 36 2) 0, vd (vm 37 11) 0, vd (vm 38 12) 0, vd (xa 39 1 37 38) 192, vd (vs 40 39) 448, vd (vf 41 0 10) 0, vd (vs 42 41) 1024, vd (vo 43 (.call 34 [(.t 36), (ci 4), (.t 40), (.t 42)])) 4064, vd (vo 44 (.bsl 12 1 [(zi 0), (zi 0), (zi 0), (zi 0), (zi 0), (zi 0), (zi 0), (zi 0), (zi 0), (zi 0), (.d (.b false)), (zi 0)] [(0, (.t 43))])) 8160, vd (vo 45 (.app 12 96 (.t 35) (.t 44))) 0x3ffe, vd (vo 46 (.nilchk (.t 31))) 0x7fff, vd (vf 47 2 46) 0xffff, vd (vu (.st 1 (.t 47) (.t 45))) 0x1ffff])) (.reg [vm 29 12, bk 30 .add 29 1, vm 12 30]))))))) (.gho (.reg [vm 48 3, vm 49 3, vo 50 (.nilchk (.t 49)), vf 51 0 50, vf 52 1 51, vs 53 52, vm 54 4, vo 55 (.call 44 [(.t 53), (.t 54)]), vo 56 (.nilchk (.t 48)), vf 57 0 56, vf 58 1 57, vu (.st 1 (.t 58) (.t 55))])))))), []⟩
theorem low20 : lowF Try.prog 20 = some F20.strip := by kernel_rfl
theorem fok20 : fOk Try.prog 20 = true := by kernel_rfl
theorem reredosref_ended_ok (p0 : Config) (p1 : Int) (p2 : Int) (p3 : Turn) (p4 : Int) (r : Turn) (h : reredosref_ended p0 p1 p2 p3 p4 = some r) : FnX Try.prog G 20 [.agg p0.bx, .one (.d (.i .i64 p1)), .one (.d (.i .i64 p2)), ptrX, .one (.d (.i .i64 p4))] [.i .i64 p3.Desk.Next, .t 6 (p3.Desk.Jobs.map Job.encO), .o 12 (p3.Messages.map Message.enc), .o 8 (p3.Records.map Record.enc), .o 6 (p3.Replies.map Reply.enc), .i .i64 p3.Sure, .i .i64 p3.Committed] (fun c rs => c = [.i .i64 r.Desk.Next, .o 6 (r.Desk.Jobs.map Job.enc), .o 12 (r.Messages.map Message.enc), .o 8 (r.Records.map Record.enc), .o 6 (r.Replies.map Reply.enc), .i .i64 r.Sure, .i .i64 r.Committed] ∧ rs = []) := by
 refine FnX.of [] low20 fok20 (by exact Nat.le_of_ble_eq_true rfl) (by exact Nat.le_of_ble_eq_true rfl) ?_
 rw [reredosref_ended] at h
 replace h := Hd.mk h
 simp only [F20, go_sem]
 refine obn h (fun x1 _ _ _ _ h => ?_)
 try simp only [*, go_sem]
 refine gho_lk _ G _ _ [.f 1 p4.toNat] ?_
 try simp only [*, go_sem]
 try simp only [*, go_sem]
 refine cl h (reredosref_hands_ok G p0 p1 x1) (fun v3 h => ?_)
 try simp only [*, go_sem]
 refine jn1 h (fun b4_1 => [zP 3 0, zI 4 p4, zP 1000000 0]) (fun b4_1 => [ox [zi p3.Desk.Next, .r 1 0 p3.Desk.Jobs.length, .r 2 0 b4_1.length, .r 3 0 p3.Records.length, .r 4 0 p3.Replies.length, zi p3.Sure, zi p3.Committed], ot 6 ((p3.Desk.Jobs.set p4.toNat x1).map Job.encO), oa 12 (b4_1.map Message.enc), oa 8 (p3.Records.map Record.enc), oa 6 (p3.Replies.map Reply.enc)]) (fun k5 h => ?_) (fun b4_1 h => ?_)
 try simp only [*, go_sem]
 refine lp2 (reredosref_ended_L1 p2 x1 v3 k5) (fun a6_1 a6_2 => [zI 2 p2, zP 3 0, zI 4 p4, zP 10 1, zR 11 2 0 v3.length, zI 12 ((a6_1 : Nat) : Int), zP 1000000 0]) (fun a6_1 a6_2 => [ox [zi p3.Desk.Next, .r 3 0 p3.Desk.Jobs.length, .r 4 0 a6_2.length, .r 5 0 p3.Records.length, .r 6 0 p3.Replies.length, zi p3.Sure, zi p3.Committed], ox [zi x1.N, zi x1.State, .r 7 0 x1.Tasks.length, .r 8 0 x1.Asked.length, zi x1.Asks, zi x1.Age], oa 1 (v3.map encI), og 6 (p3.Desk.Jobs.map Job.encO) p4.toNat [zi x1.N, zi x1.State, .r 7 0 x1.Tasks.length, .r 8 0 x1.Asked.length, zi x1.Asks, zi x1.Age], oa 12 (a6_2.map Message.enc), oa 8 (p3.Records.map Record.enc), oa 6 (p3.Replies.map Reply.enc), oa 8 (x1.Tasks.map Task.enc), oa 1 (x1.Asked.map encI)]) h [] [some 0, some 8, some 9, some 1, some 2, some 3, some 4, some 6, some 7] (fun n7 a6_1 a6_2 h => ?_) (by intros; rw [reredosref_ended_L1])
 rw [reredosref_ended_L1] at h
 try simp only [*, go_sem]
 intro hl8
 refine oi h (fun hb9 h => ?_) (fun hb9 h => ?_)
 have := of_decide_eq_true hb9
 refine obg h (fun x10 _ hkx10 h => ?_)
 refine obk h (fun v11 hv11 h => ?_)
 try simp only [*, go_sem]
 refine cd (reredosref_about_ok G p2 4 x10 x1.N v11 hv11) ?_
 refine ck h (fun _ h => ?_)
 have := wrap_succ_max hkx10 hl8
 try simp only [*, go_sem]
 exact lc (a6_1 + 1, (a6_2 ++ [v11])) h.e [some 0, some 1, some 2, some 3, some 23, some 5, some 6, some 7, some 8]
 try simp only [*, go_sem]
 exact jf [.u 3] (a6_2) h.e [some 0, some 3, some 4, some 5, some 6]
 try simp only [*, go_sem]
 refine gho_lk _ G _ _ [.z 1] ?_
 try simp only [*, go_sem]
 try simp only [*, go_sem]
 refine cr h (reredosref_without_ok G (p3.Desk.Jobs.set p4.toNat x1) p4) (fun v14 h => ?_)
 cases h.e
 try simp only [*, go_sem]
 refine etn [] ?_
 simp only [*, go_sem, mA, mS]
end Go.V.Dec
