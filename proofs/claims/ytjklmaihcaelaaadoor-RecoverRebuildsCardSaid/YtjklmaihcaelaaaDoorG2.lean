/- What Go's functions come to, as plain functions: part 2; no condition. -/
import Derived.Test.YtjklmaihcaelaaaDoorG1
set_option linter.unusedVariables false
set_option linter.unusedSimpArgs false
namespace Go.V.Dec
open Go Go.Proofs
set_option maxRecDepth 100000
set_option maxHeartbeats 4000000
variable (G : Nat → Option (List D))
def vr (p0 : RecoverMemory) (p1 : Record) : Option (RecoverMemory) := (Option.bind (wm p0.desk.Jobs p1.Txn.N (fun y1 y2 => zf y1 y2)) fun v3 => (if v3.2 = true then (some p0) else (if (p1.Txn.Site != p0.me) = true then (some p0) else (if (decide (p1.Txn.N ≥ p0.desk.Next)) = true then (some p0) else (if (((p1.Sites.length : Nat) : Int) == 0) = true then (some p0) else (if (((p0.desk.Jobs.length : Nat) : Int) == 6) = true then (some p0) else (Option.bind (v0o 8 p1.Sites) fun v10 => (Option.bind (x1e 80 p0.desk.Jobs v3.1 (Job.mk p1.Txn.N 3 [] v10 0 0)) fun v11 => (some (RecoverMemory.mk p0.me p0.store (Desk.mk p0.desk.Next v11) p0.notes))))))))))
def F50 : VFn := ⟨73, (.seq (.reg [vo 3 (.box 8 (.t 1))]) (.seq (.reg [vm 7 0, vo 8 (.nilchk (.t 7)), vf 9 5 8, vm 4 9]) (.seq (.draw [vd (vm 11 4) 0, vd (vo 12 (.nilchk (.t 11))) 1, vd (vf 13 1 12) 3, vd (vs 14 13) 7, vd (vf 15 1 3) 0, vd (vf 16 1 15) 16, vd (vs 17 16) 48, vd (vo 18 (.call 69 [(.t 14), (.t 17), (.fn 70)])) 127, vd (vm 10 18) 255, vd (et 19 10 0) 511, vd (et 20 10 1) 511, vd (vm 5 19) 1023, vd (vm 6 20) 4095]) (.seq (.seq (.draw [vd (vm 21 6) 0, vd (vm 22 21) 1, vd (gf 23 22 (.fa 1 (.t 3))) 3, vd (gf 24 22 (.fa 0 (.t 23))) 7, vd (gf 25 22 (.ld false 1 (.t 24))) 15, vd (gf 26 22 (.mv (.t 0))) 3, vd (gf 27 22 (.nilchk (.t 26))) 35, vd (gf 28 22 (.fa 0 (.t 27))) 99, vd (gf 29 22 (.ld false 1 (.t 28))) 227, vd (gf 30 22 (.bin .i .neq (.t 25) (.t 29))) 511, vd (vo 31 (.pick (.t 22) (cb true) (.t 30))) 1023, vd (vm 32 31) 2047, vd (gf 33 32 (.fa 1 (.t 3))) 4095, vd (gf 34 32 (.fa 1 (.t 33))) 8191, vd (gf 35 32 (.ld false 1 (.t 34))) 0x3fff, vd (gf 36 32 (.mv (.t 4))) 4095, vd (gf 37 32 (.nilchk (.t 36))) 0x8fff, vd (gf 38 32 (.fa 0 (.t 37))) 0x18fff, vd (gf 39 32 (.ld false 1 (.t 38))) 0x38fff, vd (gf 40 32 (.bin .i .geq (.t 35) (.t 39))) 0x7ffff, vd (vo 41 (.pick (.t 32) (cb true) (.t 40))) 0xfffff, vd (vm 42 41) 0x1fffff, vd (gf 43 42 (.fa 7 (.t 3))) 0x3fffff, vd (gf 44 42 (.ld false 1 (.t 43))) 0x7fffff, vd (gf 45 42 (.len (.t 44))) 0xffffff, vd (gf 46 42 (.bin .i .eql (.t 45) (ci 0))) 0x1ffffff, vd (vo 47 (.pick (.t 42) (cb true) (.t 46))) 0x3ffffff, vd (vm 48 47) 0x7ffffff, vd (gf 49 48 (.mv (.t 4))) 0xfffffff, vd (gf 50 48 (.nilchk (.t 49))) 0x1fffffff, vd (gf 51 48 (.fa 1 (.t 50))) 0x3fffffff, vd (gf 52 48 (.ld false 1 (.t 51))) 0x7fffffff, vd (gf 53 48 (.len (.t 52))) 0xffffffff, vd (gf 54 48 (.bin .i .eql (.t 53) (ci 6))) 0x1ffffffff, vd (vo 55 (.pick (.t 48) (cb true) (.t 54))) 0x3ffffffff]) (.cond (.t 55) .ret .skip)) (.pre (.drawt 1014 [vd (vm 56 4) 0, vd (vm 57 4) 0, vd (vo 58 (.nilchk (.t 57))) 2, vd (vf 59 1 58) 6, vd (vs 60 59) 14, vd (vm 61 5) 0, vd (vf 62 1 3) 0, vd (vf 63 1 62) 64, vd (vs 64 63) 192, vd (vf 65 7 3) 0, vd (vs 66 65) 512, vd (vo 67 (.call 72 [(.t 66)])) 1536, vd (vo 68 (.build [(zi 0), (zi 0), (.nl 8), (.nl 1), (zi 0), (zi 0)] [(0, 1, (.t 64)), (1, 1, (ci 3)), (3, 1, (.t 67))])) 4032, vd (vo 69 (.bsl 6 1 [(zi 0), (zi 0), (.nl 8), (.nl 1), (zi 0), (zi 0)] [(0, (.t 68))])) 8128, vd (vo 70 (.call 71 [(.t 60), (.t 61), (.t 69)])) 0x3ffe, vd (vo 71 (.nilchk (.t 56))) 0x7fff, vd (vf 72 1 71) 0xffff, vd (vu (.st 1 (.t 72) (.t 70))) 0x1ffff])))))), []⟩
theorem low50 : lowF Tryd.prog 50 = some F50.strip := by kernel_rfl
theorem fok50 : fOk Tryd.prog 50 = true := by kernel_rfl
theorem w0s (p0 : RecoverMemory) (p1 : Record) (r : RecoverMemory) (h : vr p0 p1 = some r) : FnX Tryd.prog G 50 [ptrX, .agg p1.bx] [.i .i64 p0.me, .l 3 (p0.store.Items.map Item.enc), .l 6 (p0.store.Locks.map Lock.enc), .l 3 (p0.store.Doubts.map Doubt.enc), .l 2 (p0.store.Over.map Txn.enc), .i .i64 p0.desk.Next, .o 6 (p0.desk.Jobs.map Job.enc), .o 4 (p0.notes.map Note.enc)] (fun c rs => c = [.i .i64 r.me, .l 3 (r.store.Items.map Item.enc), .l 6 (r.store.Locks.map Lock.enc), .l 3 (r.store.Doubts.map Doubt.enc), .l 2 (r.store.Over.map Txn.enc), .i .i64 r.desk.Next, .o 6 (r.desk.Jobs.map Job.enc), .o 4 (r.notes.map Note.enc)] ∧ rs = []) := by
 refine FnX.of [0, 1, 1, 1, 1] low50 fok50 (by exact Nat.le_of_ble_eq_true rfl) (by exact Nat.le_of_ble_eq_true rfl) ?_
 rw [vr] at h
 replace h := Hd.mk h
 simp only [F50, go_sem]
 refine obk h (fun v3 hv3 h => ?_)
 try simp only [*, go_sem]
 refine cdl (v0j G p0.desk.Jobs p1.Txn.N (fun y1 y2 => zf y1 y2) 70 [] (fun y1 y2 r h => z0r G y1 y2 r h) v3 hv3) ?_
 refine oi h (fun hb4 h => ?_) (fun hb4 h => ?_)
 cases h.e
 try simp only [*, go_sem]
 refine eti [] ?_
 simp only [*, go_sem, mA, mS]
 refine oi h (fun hb5 h => ?_) (fun hb5 h => ?_)
 cases h.e
 try simp only [*, go_sem]
 refine eti [] ?_
 simp only [*, go_sem, mA, mS]
 refine oi h (fun hb6 h => ?_) (fun hb6 h => ?_)
 cases h.e
 try simp only [*, go_sem]
 refine eti [] ?_
 simp only [*, go_sem, mA, mS]
 refine oi h (fun hb7 h => ?_) (fun hb7 h => ?_)
 cases h.e
 try simp only [*, go_sem]
 refine eti [] ?_
 simp only [*, go_sem, mA, mS]
 refine oi h (fun hb8 h => ?_) (fun hb8 h => ?_)
 cases h.e
 try simp only [*, go_sem]
 refine eti [] ?_
 simp only [*, go_sem, mA, mS]
 try simp only [*, go_sem]
 refine z5g Tryd.prog G _ _ [zP 3 0, (4, .one (.p (.q 1 0 5))), zI 5 v3.1, zP 1000000 1] [ox p1.bx, ox [zi p0.me, .d (.l 3 (p0.store.Items.map Item.enc)), .d (.l 6 (p0.store.Locks.map Lock.enc)), .d (.l 3 (p0.store.Doubts.map Doubt.enc)), .d (.l 2 (p0.store.Over.map Txn.enc)), zi p0.desk.Next, .r 2 0 p0.desk.Jobs.length, .r 3 0 p0.notes.length], oa 6 (p0.desk.Jobs.map Job.enc), oa 4 (p0.notes.map Note.enc)] [] [some 3, some 0, some 1, some 2] rfl (by simp only [*, go_sem, List.map_append, List.map_cons, List.map_nil, Option.some.injEq, Prod.mk.injEq, SC.d.injEq, D.l.injEq, List.map_set]) (by simp only [*, go_sem, List.map_append, List.map_cons, List.map_nil, Option.some.injEq, Prod.mk.injEq, SC.d.injEq, D.l.injEq, List.map_set]) ?_
 refine obk h (fun v10 hv10 h => ?_)
 try simp only [*, go_sem]
 refine cd (FnRO.fz' (z4l G p1.Sites v10 hv10) rfl rfl) ?_
 refine obk h (fun v11 hv11 h => ?_)
 try simp only [*, go_sem]
 refine z2c ins71 (enc := Job.enc) (x := (Job.mk p1.Txn.N 3 [] v10 0 0)) hv11 (by decide) (by first | rfl | (simp only [*, go_sem]; done)) (by first | rfl | (simp only [*, go_sem]; done)) ?_
 cases h.e
 try simp only [*, go_sem]
 refine etn [] ?_
 simp only [*, go_sem, mA, mS]
def ym (p0 : Job) (p1 : Record) (p2 : RecoverMemory) : Option (Bool) := (some ((p1.Txn.Site == p2.me) && (p1.Txn.N == p0.N)))
def F52 : VFn := ⟨15, (.seq (.reg [vo 3 (.box 6 (.t 0)), vo 4 (.mv (cb false))]) (.seq (.draw [vd (vf 5 1 1) 0, vd (vl 6 2 5) 1, vd (vs 7 2) 0, vd (vo 8 (.nilchk (.t 7))) 4, vd (vf 9 0 8) 12, vd (vs 10 9) 28, vd (vf 11 0 3) 0, vd (vs 12 11) 64, vd (vo 13 (.build [(zi 0), (zi 0)] [(0, 1, (.t 10)), (1, 1, (.t 12))])) 252, vd (vo 14 (.eqs false [.i, .i] (.t 6) (.t 13))) 511, vd (vm 4 14) 1023]) .ret)), [.t 4]⟩
theorem low52 : lowF Tryd.prog 52 = some F52.strip := by kernel_rfl
theorem fok52 : fOk Tryd.prog 52 = true := by kernel_rfl
theorem v0k (p0 : Job) (p1 : Record) (p2 : RecoverMemory) (r : Bool) (h : ym p0 p1 p2 = some r) : FnRO Tryd.prog G 52 [.agg p0.bx, .one (.d (.k (Record.enc p1))), .one (.d (.k [.k [.i .i64 p2.me, .l 3 (p2.store.Items.map Item.enc), .l 6 (p2.store.Locks.map Lock.enc), .l 3 (p2.store.Doubts.map Doubt.enc), .l 2 (p2.store.Over.map Txn.enc), .i .i64 p2.desk.Next, .l 6 (p2.desk.Jobs.map Job.enc), .l 4 (p2.notes.map Note.enc)]]))] (fun rs => rs = [.one (.b r)]) := by
 refine FnRO.of' low52 fok52 (by simp [F52]) ?_
 rw [ym] at h
 replace h := Hd.mk h
 simp only [F52, go_sem]
 cases h.e
 simp only [*, go_sem, mA, mS]
def yd (p0 : List Job) (p1 : Job → Option (Bool)) (k3 : Option (Int)) : Nat → Nat → Option (Int)
 | 0, _ => none
 | n5 + 1, a4_1 => (if (decide (a4_1 < p0.length)) = true then (Option.bind (p0[a4_1]?) fun x7 => (Option.bind (p1 x7) fun v8 => (if v8 = true then (some ((a4_1 : Nat) : Int)) else (yd p0 p1 k3 n5 (a4_1 + 1))))) else k3)
def wo (p0 : List Job) (p1 : Job → Option (Bool)) : Option (Int) := (withK (some (-1)) fun k3 => (yd p0 p1 k3 (p0.length + 1) 0))
def F73 : VFn := ⟨19, (.seq (.reg [mi 4 0]) (.seq (.seq (.reg [vm 6 0, ln 7 6, mi 8 0]) (.wk (.block 0 (.loop (.seq (.reg [bt 9 .lss 8 7]) (.seq (.cond (.t 9) .skip (.exit 0)) (.seq (.block 1 (.seq (.reg [vm 10 8, vm 5 10]) (.seq (.reg [vm 11 1, vm 12 0, vm 13 5, xa 14 6 12 13, vl 15 6 14, vo 16 (.callv (.t 11) [(.t 15)])]) (.cond (.t 16) (.seq (.reg [vm 17 5, vm 4 17]) .ret) .skip)))) (.reg [bk 18 .add 8 1, vm 8 18])))))))) (.seq (.reg [mi 4 (-1)]) .ret))), [.t 4]⟩
theorem low73 : lowF Tryd.prog 73 = some F73.strip := by kernel_rfl
theorem fok73 : fOk Tryd.prog 73 = true := by kernel_rfl
theorem v0x (p0 : List Job) (p1 : Job → Option (Bool)) (g_p1 : Nat) (c_p1 : List D) (h_p1 : ∀ (x0 : Job) (r : Bool), p1 x0 = some r → FnRO Tryd.prog G g_p1 ([.agg [.d (.i .i64 x0.N), .d (.i .i64 x0.State), .d (.l 8 (x0.Tasks.map Task.enc)), .d (.l 1 (x0.Asked.map encI)), .d (.i .i64 x0.Asks), .d (.i .i64 x0.Age)]] ++ c_p1.map fun d => .one (.d d)) (fun rs => rs = [.one (.b r)])) (r : Int) (h : wo p0 p1 = some r) : FnRO Tryd.prog G 73 [.one (.d (.l 6 (p0.map Job.enc))), .one (.d (.f g_p1 c_p1))] (fun rs => rs = [.one (.i .i64 r)]) := by
 refine FnRO.of' low73 fok73 (by simp [F73]) ?_
 rw [wo] at h
 replace h := Hd.mk h
 simp only [F73, go_sem]
 try simp only [*, go_sem]
 intro hl1
 try simp only [*, go_sem]
 refine jn0 h ([]) ([]) (fun k3 h => ?_) (fun h => ?_)
 try simp only [*, go_sem]
 refine lp1 (yd p0 p1 k3) (fun a4_1 => [zL 0 6 (p0.map Job.enc), (1, .one (.d (.f g_p1 c_p1))), zI 7 ((p0.length : Nat) : Int), zI 8 ((a4_1 : Nat) : Int)]) (fun a4_1 => []) h [] [] (fun n5 a4_1 h => ?_) (by intros; rw [yd])
 rw [yd] at h
 refine oi h (fun hb6 h => ?_) (fun hb6 h => ?_)
 have := of_decide_eq_true hb6
 refine obg h (fun x7 _ hkx7 h => ?_)
 try simp only [*, go_sem]
 refine cr h (h_p1 x7) (fun v8 h => ?_)
 refine oi h (fun hb9 h => ?_) (fun hb9 h => ?_)
 cases h.e
 simp only [*, go_sem, mA, mS]
 have := za hkx7 hl1
 try simp only [*, go_sem]
 exact lc (a4_1 + 1) h.e []
 try simp only [*, go_sem]
 exact jc () h.e []
 cases h.e
 simp only [*, go_sem, mA, mS]
def F51 : VFn := ⟨42, (.seq (.reg [vo 4 (.mv (.c (.one (.nl 6))))]) (.seq (.reg [vm 8 0, vm 9 1, vo 10 (.call 73 [(.t 8), (.t 9)]), vm 5 10]) (.seq (.seq (.reg [vm 11 5, bk 12 .eql 11 (-1)]) (.cond (.t 12) (.seq (.reg [vm 13 0, vm 4 13]) .ret) .skip)) (.seq (.seq (.reg [vm 14 5, bk 15 .add 14 1, vm 6 15]) (.wk (.block 0 (.loop (.seq (.seq (.reg [vm 16 6, vm 17 0, ln 18 17, bt 19 .lss 16 18]) (.cond (.t 19) .skip (.exit 0))) (.seq (.block 1 (.seq (.reg [vm 22 0, vm 23 6, xa 24 6 22 23, vl 25 6 24, vo 7 (.alloc [(zi 0), (zi 0), (.nl 8), (.nl 1), (zi 0), (zi 0)]), vu (.st 6 (.t 7) (.t 25))]) (.seq (.reg [vm 26 1, vl 27 6 7, vo 28 (.callv (.t 26) [(.t 27)]), nt 29 28]) (.wk (.cond (.t 29) (.seq (.reg [vm 30 0, vm 31 5, vl 32 6 7, xa 33 6 30 31, vu (.st 6 (.t 33) (.t 32))]) (.reg [vm 34 5, bk 35 .add 34 1, vm 5 35])) .skip))))) (.reg [vm 20 6, bk 21 .add 20 1, vm 6 21]))))))) (.seq (.reg [vm 36 0, vm 37 5, vo 38 (.sl 6 (.t 36) (some (.t 37)) none), vu (.clr 6 [(zi 0), (zi 0), (.nl 8), (.nl 1), (zi 0), (zi 0)] (.t 38))]) (.seq (.reg [vm 39 0, vm 40 5, vo 41 (.sl 6 (.t 39) none (some (.t 40))), vm 4 41]) .ret)))))), [.t 4]⟩
theorem low51 : lowF Tryd.prog 51 = some F51.strip := by kernel_rfl
theorem fok51 : fOk Tryd.prog 51 = true := by kernel_rfl
def yi (p1 : Record) (v11 : RecoverMemory) (k14 : (List Note) → Option (RecoverMemory)) : Nat → Nat → (List Note) → Option (RecoverMemory)
 | 0, _, _ => none
 | n16 + 1, a15_1, a15_2 => (if (decide (a15_1 < v11.notes.length)) = true then (Option.bind (a15_2[a15_1]?) fun x18 => (if ((x18.Txn.Site == p1.Txn.Site) && (x18.Txn.N == p1.Txn.N)) = true then (withK (fun (b20_1 : Bool) (b20_2 : List Note) => (yi p1 v11 k14 n16 (a15_1 + 1) b20_2)) fun k21 => (if (!(x18.Yes == p1.Yes)) = true then (k21 true (a15_2.set a15_1 (Note.mk x18.Txn x18.Yes true))) else (k21 false a15_2))) else (withK (yi p1 v11 k14 n16 (a15_1 + 1) a15_2) fun k25 => k25))) else (k14 a15_2))
def uh (p0 : RecoverMemory) (p1 : Record) (k43 : Int → (List Job) → Option (RecoverMemory)) : Nat → Int → Int → (List Job) → Option (RecoverMemory)
 | 0, _, _, _ => none
 | n45 + 1, a44_1, a44_2, a44_3 => (if (decide (a44_2 < ((a44_3.length : Nat) : Int))) = true then (if 0 ≤ a44_2 then (Option.bind (a44_3[a44_2.toNat]?) fun x48 => (Option.bind (ym x48 p1 (RecoverMemory.mk p0.me p0.store (Desk.mk p0.desk.Next a44_3) p0.notes)) fun v50 => (withK (fun (b51_1 : Int) (b51_2 : List Job) => (uh p0 p1 k43 n45 b51_1 (IntKind.i64.wrap (a44_2 + 1)) b51_2)) fun k52 => (if (!v50) = true then (if 0 ≤ a44_1 then (Option.bind (a44_3[a44_1.toNat]?) fun x54 => (k52 (IntKind.i64.wrap (a44_1 + 1)) (a44_3.set a44_1.toNat x48))) else none) else (k52 a44_1 a44_3))))) else none) else (k43 a44_1 a44_3))
def v0c (p0 : RecoverMemory) (p1 : Record) : Option (RecoverMemory) := (withK (fun (b1_1 : Int) (b1_2 : List Item) (b1_3 : List Lock) (b1_4 : List Doubt) (b1_5 : List Txn) (b1_6 : Int) (b1_7 : List Job) (b1_8 : List Note) => (some (RecoverMemory.mk b1_1 (Store.mk b1_2 b1_3 b1_4 b1_5) (Desk.mk b1_6 b1_7) b1_8))) fun k2 => (if (p1.Kind == 1) = true then (Option.bind (z0q p0.store p1.Txn p1.Key p1.Value p1.Ask) fun v4 => (withK (fun (b5_1 : List Item) (b5_2 : List Lock) (b5_3 : List Doubt) (b5_4 : List Txn) => (k2 p0.me b5_1 b5_2 b5_3 b5_4 p0.desk.Next p0.desk.Jobs p0.notes)) fun k6 => (if (v4.2 == 0) = true then (k6 v4.1.Items v4.1.Locks v4.1.Doubts v4.1.Over) else (k6 p0.store.Items p0.store.Locks p0.store.Doubts p0.store.Over)))) else (withK (fun (b8_1 : Int) (b8_2 : List Item) (b8_3 : List Lock) (b8_4 : List Doubt) (b8_5 : List Txn) (b8_6 : Int) (b8_7 : List Job) (b8_8 : List Note) => (k2 b8_1 b8_2 b8_3 b8_4 b8_5 b8_6 b8_7 b8_8)) fun k9 => (if (p1.Kind == 2) = true then (Option.bind (ww p0 p1.Txn p1.Yes) fun v11 => (withK (fun (b13_1 : List Note) => (k9 v11.me v11.store.Items v11.store.Locks v11.store.Doubts v11.store.Over v11.desk.Next v11.desk.Jobs b13_1)) fun k14 => (yi p1 v11 k14 (v11.notes.length + 1) 0 v11.notes))) else (withK (fun (b27_1 : Int) (b27_2 : List Item) (b27_3 : List Lock) (b27_4 : List Doubt) (b27_5 : List Txn) (b27_6 : Int) (b27_7 : List Job) (b27_8 : List Note) => (k9 b27_1 b27_2 b27_3 b27_4 b27_5 b27_6 b27_7 b27_8)) fun k28 => (if (p1.Kind == 6) = true then (Option.bind (ww p0 p1.Txn p1.Yes) fun v30 => (if fits 24 (v30.notes.length + 1) then (k28 v30.me v30.store.Items v30.store.Locks v30.store.Doubts v30.store.Over v30.desk.Next v30.desk.Jobs (v30.notes ++ [(Note.mk p1.Txn p1.Yes false)])) else none)) else (withK (fun (b32_1 : Int) (b32_2 : List Item) (b32_3 : List Lock) (b32_4 : List Doubt) (b32_5 : List Txn) (b32_6 : Int) (b32_7 : List Job) (b32_8 : List Note) => (k28 b32_1 b32_2 b32_3 b32_4 b32_5 b32_6 b32_7 b32_8)) fun k33 => (if (p1.Kind == 3) = true then (Option.bind (vr p0 p1) fun v35 => (k33 v35.me v35.store.Items v35.store.Locks v35.store.Doubts v35.store.Over v35.desk.Next v35.desk.Jobs v35.notes)) else (withK (fun (b36_1 : Int) (b36_2 : List Job) => (k33 p0.me p0.store.Items p0.store.Locks p0.store.Doubts p0.store.Over b36_1 b36_2 p0.notes)) fun k37 => (if (p1.Kind == 4) = true then (Option.bind (wo p0.desk.Jobs (fun y39 => ym y39 p1 p0)) fun v40 => (if (v40 == (-1)) = true then (k37 p0.desk.Next p0.desk.Jobs) else (withK (fun (b42_1 : Int) (b42_2 : List Job) => (if 0 ≤ b42_1 then (if b42_1 ≤ ((b42_2.length : Nat) : Int) then (k37 p0.desk.Next (b42_2.take b42_1.toNat)) else none) else none)) fun k43 => (uh p0 p1 k43 (p0.desk.Jobs.length + 1) v40 (IntKind.i64.wrap (v40 + 1)) p0.desk.Jobs)))) else (withK (fun (b61_1 : Int) => (k37 b61_1 p0.desk.Jobs)) fun k62 => (if (p1.Kind == 5) = true then (withK (fun (b64_1 : Int) => (k62 b64_1)) fun k65 => (if (p1.Txn.Site == p0.me) = true then (k65 (if IntKind.i64.wrap (p1.Txn.N + 1) > p0.desk.Next then IntKind.i64.wrap (p1.Txn.N + 1) else p0.desk.Next)) else (k65 p0.desk.Next))) else (k62 p0.desk.Next)))))))))))))
def F28 : VFn := ⟨136, (.seq (.reg [vo 2 (.box 1 (.t 0)), vo 3 (.box 8 (.t 1))]) (.seq (.reg [vf 8 0 3, vs 9 8]) (.block 0 (.seq (.reg [bk 11 .eql 9 1, vm 10 11]) (.wk (.cond (.t 10) (.seq (.draw [vd (vs 13 2) 0, vd (vo 14 (.nilchk (.t 13))) 1, vd (vf 15 1 14) 3, vd (vl 16 4 15) 7, vd (vf 17 1 3) 0, vd (vl 18 2 17) 16, vd (vf 19 3 3) 0, vd (vs 20 19) 64, vd (vf 21 4 3) 0, vd (vs 22 21) 256, vd (vf 23 5 3) 0, vd (vs 24 23) 1024, vd (vo 25 (.call 48 [(.t 16), (.t 18), (.t 20), (.t 22), (.t 24)])) 4095, vd (vm 12 25) 8191, vd (et 26 12 0) 0x3fff, vd (et 27 12 1) 0x3fff, ⟨vo 4 (.alloc [(.nl 3), (.nl 6), (.nl 3), (.nl 2)]), 0, [12], none, []⟩, vd (vu (.st 4 (.t 4) (.t 26))) 0x17fff, vd (vm 5 27) 0x3ffff]) (.seq (.reg [vm 28 5, bk 29 .eql 28 0]) (.wk (.cond (.t 29) (.reg [vs 30 2, vl 31 4 4, vo 32 (.nilchk (.t 30)), vf 33 1 32, vu (.st 4 (.t 33) (.t 31))]) .skip)))) (.seq (.reg [bk 35 .eql 9 2, vm 34 35]) (.wk (.cond (.t 34) (.seq (.reg [vs 36 2, vf 37 1 3, vl 38 2 37, vf 39 6 3, vs 40 39, vo 41 (.call 49 [(.t 36), (.t 38), (.t 40)])]) (.seq (.reg [vs 42 2, vo 43 (.nilchk (.t 42)), vf 44 7 43, vs 45 44, ln 46 45, mi 47 0]) (.wk (.block 1 (.loop (.seq (.reg [bt 48 .lss 47 46]) (.seq (.cond (.t 48) .skip (.exit 1)) (.seq (.block 2 (.seq (.reg [vm 49 47, xa 50 4 45 47, vl 51 4 50, vo 7 (.alloc [(zi 0), (zi 0), (.d (.b false)), (.d (.b false))]), vm 6 49, vu (.st 4 (.t 7) (.t 51))]) (.seq (.reg [vf 52 0 7, vl 53 2 52, vf 54 1 3, vl 55 2 54, vo 56 (.eqs false [.i, .i] (.t 53) (.t 55)), vm 57 56, gt 58 57 (.fa 2 (.t 7)), gt 59 57 (.ld false 1 (.t 58)), gt 60 57 (.fa 6 (.t 3)), gt 61 57 (.ld false 1 (.t 60)), gt 62 57 (.bin .b .neq (.t 59) (.t 61)), vo 63 (.pick (.t 57) (.t 62) (cb false))]) (.wk (.cond (.t 63) (.reg [vs 64 2, vo 65 (.nilchk (.t 64)), vf 66 7 65, vs 67 66, vm 68 6, xa 69 4 67 68, vf 70 3 69, vu (.st 1 (.t 70) (cb true))]) .skip))))) (.reg [bk 71 .add 47 1, vm 47 71]))))))))) (.seq (.reg [bk 73 .eql 9 6, vm 72 73]) (.wk (.cond (.t 72) (.seq (.reg [vs 74 2, vf 75 1 3, vl 76 2 75, vf 77 6 3, vs 78 77, vo 79 (.call 49 [(.t 74), (.t 76), (.t 78)])]) (.draw [⟨vs 80 2, 0, [], none, [6]⟩, vd (vs 81 2) 0, vd (vo 82 (.nilchk (.t 81))) 2, vd (vf 83 7 82) 6, vd (vs 84 83) 14, vd (vf 85 1 3) 0, vd (vl 86 2 85) 32, vd (vf 87 6 3) 0, vd (vs 88 87) 128, vd (vo 89 (.build [(zi 0), (zi 0), (.d (.b false)), (.d (.b false))] [(0, 2, (.t 86)), (2, 1, (.t 88))])) 480, vd (vo 90 (.bsl 4 1 [(zi 0), (zi 0), (.d (.b false)), (.d (.b false))] [(0, (.t 89))])) 992, ⟨vo 91 (.app 4 24 (.t 84) (.t 90)), 2046, [], (some 6), []⟩, vd (vo 92 (.nilchk (.t 80))) 4095, vd (vf 93 7 92) 8191, vd (vu (.st 1 (.t 93) (.t 91))) 0x3fff])) (.seq (.reg [bk 95 .eql 9 3, vm 94 95]) (.wk (.cond (.t 94) (.reg [vs 96 2, vl 97 8 3, vo 98 (.call 50 [(.t 96), (.t 97)])]) (.seq (.reg [bk 100 .eql 9 4, vm 99 100]) (.wk (.cond (.t 99) (.drawt 1007 [vd (vs 101 2) 0, vd (vs 102 2) 0, vd (vo 103 (.nilchk (.t 102))) 2, vd (vf 104 5 103) 6, vd (vf 105 1 104) 14, vd (vs 106 105) 30, vd (vo 107 (.mkf 52 [(.t 3), (.t 2)])) 0, vd (vo 108 (.call 51 [(.t 106), (.t 107)])) 126, vd (vo 109 (.nilchk (.t 101))) 255, vd (vf 110 5 109) 511, vd (vf 111 1 110) 1023, vd (vu (.st 1 (.t 111) (.t 108))) 2047]) (.seq (.reg [bk 113 .eql 9 5, vm 112 113]) (.wk (.cond (.t 112) (.seq (.draw [vd (vf 114 1 3) 0, vd (vf 115 0 114) 1, vd (vs 116 115) 3, vd (vs 117 2) 0, vd (vo 118 (.nilchk (.t 117))) 8, vd (vf 119 0 118) 24, vd (vs 120 119) 56, vd (bt 121 .eql 116 120) 127]) (.wk (.cond (.t 121) (.draw [vd (vs 122 2) 0, vd (vs 123 2) 0, vd (vo 124 (.nilchk (.t 123))) 2, vd (vf 125 5 124) 6, vd (vf 126 0 125) 14, vd (vs 127 126) 30, vd (vf 128 1 3) 0, vd (vf 129 1 128) 64, vd (vs 130 129) 192, vd (bk 131 .add 130 1) 448, vd (vo 132 (.mm true (.t 127) (.t 131))) 1022, vd (vo 133 (.nilchk (.t 122))) 2047, vd (vf 134 5 133) 4095, vd (vf 135 0 134) 8191, vd (vu (.st 1 (.t 135) (.t 132))) 0x3fff]) .skip))) .skip))))))))))))))))))))), []⟩
theorem low28 : lowF Tryd.prog 28 = some F28.strip := by kernel_rfl
theorem fok28 : fOk Tryd.prog 28 = true := by kernel_rfl
theorem y1g (p0 : RecoverMemory) (p1 : Record) (r : RecoverMemory) (h : v0c p0 p1 = some r) : FnX Tryd.prog G 28 [ptrX, .agg p1.bx] [.i .i64 p0.me, .l 3 (p0.store.Items.map Item.enc), .l 6 (p0.store.Locks.map Lock.enc), .l 3 (p0.store.Doubts.map Doubt.enc), .l 2 (p0.store.Over.map Txn.enc), .i .i64 p0.desk.Next, .o 6 (p0.desk.Jobs.map Job.enc), .o 4 (p0.notes.map Note.enc)] (fun c rs => c = [.i .i64 r.me, .l 3 (r.store.Items.map Item.enc), .l 6 (r.store.Locks.map Lock.enc), .l 3 (r.store.Doubts.map Doubt.enc), .l 2 (r.store.Over.map Txn.enc), .i .i64 r.desk.Next, .o 6 (r.desk.Jobs.map Job.enc), .o 4 (r.notes.map Note.enc)] ∧ rs = []) := by
 refine FnX.of [0, 1, 1, 1, 1] low28 fok28 (by exact Nat.le_of_ble_eq_true rfl) (by exact Nat.le_of_ble_eq_true rfl) ?_
 rw [v0c] at h
 replace h := Hd.mk h
 simp only [F28, go_sem]
 try simp only [*, go_sem]
 refine jn8 h (fun b1_1 b1_2 b1_3 b1_4 b1_5 b1_6 b1_7 b1_8 => [zP 1000000 0]) (fun b1_1 b1_2 b1_3 b1_4 b1_5 b1_6 b1_7 b1_8 => [ox [zi b1_1, .d (.l 3 (b1_2.map Item.enc)), .d (.l 6 (b1_3.map Lock.enc)), .d (.l 3 (b1_4.map Doubt.enc)), .d (.l 2 (b1_5.map Txn.enc)), zi b1_6, .r 1 0 b1_7.length, .r 2 0 b1_8.length], oa 6 (b1_7.map Job.enc), oa 4 (b1_8.map Note.enc)]) (fun k2 h => ?_) (fun b1_1 b1_2 b1_3 b1_4 b1_5 b1_6 b1_7 b1_8 h => ?_)
 refine oi h (fun hb3 h => ?_) (fun hb3 h => ?_)
 refine obk h (fun v4 hv4 h => ?_)
 try simp only [*, go_sem]
 refine cd (FnRO.fz' (x2x G p0.store p1.Txn p1.Key p1.Value p1.Ask v4 hv4) rfl rfl) ?_
 try simp only [*, go_sem]
 refine jn4 h (fun b5_1 b5_2 b5_3 b5_4 => [zP 1000000 0]) (fun b5_1 b5_2 b5_3 b5_4 => [ox [zi p0.me, .d (.l 3 (b5_1.map Item.enc)), .d (.l 6 (b5_2.map Lock.enc)), .d (.l 3 (b5_3.map Doubt.enc)), .d (.l 2 (b5_4.map Txn.enc)), zi p0.desk.Next, .r 1 0 p0.desk.Jobs.length, .r 2 0 p0.notes.length], oa 6 (p0.desk.Jobs.map Job.enc), oa 4 (p0.notes.map Note.enc)]) (fun k6 h => ?_) (fun b5_1 b5_2 b5_3 b5_4 h => ?_)
 refine oi h (fun hb7 h => ?_) (fun hb7 h => ?_)
 try simp only [*, go_sem]
 exact jc (v4.1.Items, v4.1.Locks, v4.1.Doubts, v4.1.Over) h.e [some 0, some 1, some 2]
 try simp only [*, go_sem]
 exact jc (p0.store.Items, p0.store.Locks, p0.store.Doubts, p0.store.Over) h.e [some 0, some 1, some 2]
 try simp only [*, go_sem]
 exact jc (p0.me, b5_1, b5_2, b5_3, b5_4, p0.desk.Next, p0.desk.Jobs, p0.notes) h.e [some 0, some 1, some 2]
 try simp only [*, go_sem]
 refine jn8 h (fun b8_1 b8_2 b8_3 b8_4 b8_5 b8_6 b8_7 b8_8 => [zP 1000000 0]) (fun b8_1 b8_2 b8_3 b8_4 b8_5 b8_6 b8_7 b8_8 => [ox [zi b8_1, .d (.l 3 (b8_2.map Item.enc)), .d (.l 6 (b8_3.map Lock.enc)), .d (.l 3 (b8_4.map Doubt.enc)), .d (.l 2 (b8_5.map Txn.enc)), zi b8_6, .r 1 0 b8_7.length, .r 2 0 b8_8.length], oa 6 (b8_7.map Job.enc), oa 4 (b8_8.map Note.enc)]) (fun k9 h => ?_) (fun b8_1 b8_2 b8_3 b8_4 b8_5 b8_6 b8_7 b8_8 h => ?_)
 refine oi h (fun hb10 h => ?_) (fun hb10 h => ?_)
 try simp only [*, go_sem]
 refine ct h 0 [] [0, 1, 1, 1, 1] [1, 2] (u0m G p0 p1.Txn p1.Yes) (fun v11 h => ?_)
 try simp only [*, go_sem]
 intro hl12
 try simp only [*, go_sem]
 refine jn1 h (fun b13_1 => [zP 1000000 0]) (fun b13_1 => [ox [zi v11.me, .d (.l 3 (v11.store.Items.map Item.enc)), .d (.l 6 (v11.store.Locks.map Lock.enc)), .d (.l 3 (v11.store.Doubts.map Doubt.enc)), .d (.l 2 (v11.store.Over.map Txn.enc)), zi v11.desk.Next, .r 1 0 v11.desk.Jobs.length, .r 2 0 b13_1.length], oa 6 (v11.desk.Jobs.map Job.enc), oa 4 (b13_1.map Note.enc)]) (fun k14 h => ?_) (fun b13_1 h => ?_)
 try simp only [*, go_sem]
 refine lp2 (yi p1 v11 k14) (fun a15_1 a15_2 => [zP 2 0, zP 3 1, zR 45 2 0 a15_2.length, zI 46 ((v11.notes.length : Nat) : Int), zI 47 ((a15_1 : Nat) : Int), zP 1000000 3]) (fun a15_1 a15_2 => [ox [.p (.q 3 0 0)], ox p1.bx, oa 4 (a15_2.map Note.enc), ox [zi v11.me, .d (.l 3 (v11.store.Items.map Item.enc)), .d (.l 6 (v11.store.Locks.map Lock.enc)), .d (.l 3 (v11.store.Doubts.map Doubt.enc)), .d (.l 2 (v11.store.Over.map Txn.enc)), zi v11.desk.Next, .r 4 0 v11.desk.Jobs.length, .r 2 0 a15_2.length], oa 6 (v11.desk.Jobs.map Job.enc)]) h [] [some 3, some 4, some 6, some 0, some 5] (fun n16 a15_1 a15_2 h => ?_) (by intros; rw [yi])
 rw [yi] at h
 refine oi h (fun hb17 h => ?_) (fun hb17 h => ?_)
 have hkhb17 := of_decide_eq_true hb17
 refine obg h (fun x18 _ _ h => ?_)
 refine oi h (fun hb19 h => ?_) (fun hb19 h => ?_)
 try simp only [*, go_sem]
 try simp only [*, go_sem]
 refine jn2 h (fun b20_1 b20_2 => [zP 2 0, zP 3 1, zR 45 2 0 b20_2.length, zI 46 ((v11.notes.length : Nat) : Int), zI 47 ((a15_1 : Nat) : Int), (58, .one (.p (.q 3 0 2))), zB 59 x18.Yes, (60, .one (.p (.q 1 0 6))), zB 61 p1.Yes, zB 62 b20_1, zP 1000000 4]) (fun b20_1 b20_2 => [ox [.p (.q 4 0 0)], ox p1.bx, oa 4 (b20_2.map Note.enc), ox x18.bx, ox [zi v11.me, .d (.l 3 (v11.store.Items.map Item.enc)), .d (.l 6 (v11.store.Locks.map Lock.enc)), .d (.l 3 (v11.store.Doubts.map Doubt.enc)), .d (.l 2 (v11.store.Over.map Txn.enc)), zi v11.desk.Next, .r 5 0 v11.desk.Jobs.length, .r 2 0 b20_2.length], oa 6 (v11.desk.Jobs.map Job.enc)]) (fun k21 h => ?_) (fun b20_1 b20_2 h => ?_)
 refine oin h (fun hb22 hkhb22 h => ?_) (fun hb22 hkhb22 h => ?_)
 try simp only [*, go_sem]
 exact jc (true, (a15_2.set a15_1 (Note.mk x18.Txn x18.Yes true))) h.e [some 0, some 1, some 2, some 5, some 3, some 4]
 try simp only [*, go_sem]
 exact jc (false, a15_2) h.e [some 0, some 1, some 2, some 5, some 3, some 4]
 have := za hkhb17 hl12
 try simp only [*, go_sem]
 exact lc (a15_1 + 1, b20_2) h.e [some 0, some 1, some 2, some 4, some 5]
 try simp only [*, go_sem]
 try simp only [*, go_sem]
 refine jn0 h ([zP 2 0, zP 3 1, zR 45 2 0 a15_2.length, zI 46 ((v11.notes.length : Nat) : Int), zI 47 ((a15_1 : Nat) : Int), zP 1000000 3]) ([ox [.p (.q 3 0 0)], ox p1.bx, oa 4 (a15_2.map Note.enc), ox [zi v11.me, .d (.l 3 (v11.store.Items.map Item.enc)), .d (.l 6 (v11.store.Locks.map Lock.enc)), .d (.l 3 (v11.store.Doubts.map Doubt.enc)), .d (.l 2 (v11.store.Over.map Txn.enc)), zi v11.desk.Next, .r 4 0 v11.desk.Jobs.length, .r 2 0 a15_2.length], oa 6 (v11.desk.Jobs.map Job.enc)]) (fun k25 h => ?_) (fun h => ?_)
 try simp only [*, go_sem]
 exact jc () h.e [some 0, some 1, some 2, some 3, some 4]
 have := za hkhb17 hl12
 try simp only [*, go_sem]
 exact lc (a15_1 + 1, a15_2) h.e [some 0, some 1, some 2, some 3, some 4]
 try simp only [*, go_sem]
 exact jc (a15_2) h.e [some 3, some 4, some 2]
 try simp only [*, go_sem]
 exact jc (v11.me, v11.store.Items, v11.store.Locks, v11.store.Doubts, v11.store.Over, v11.desk.Next, v11.desk.Jobs, b13_1) h.e [some 0, some 1, some 2]
 try simp only [*, go_sem]
 refine jn8 h (fun b27_1 b27_2 b27_3 b27_4 b27_5 b27_6 b27_7 b27_8 => [zP 1000000 0]) (fun b27_1 b27_2 b27_3 b27_4 b27_5 b27_6 b27_7 b27_8 => [ox [zi b27_1, .d (.l 3 (b27_2.map Item.enc)), .d (.l 6 (b27_3.map Lock.enc)), .d (.l 3 (b27_4.map Doubt.enc)), .d (.l 2 (b27_5.map Txn.enc)), zi b27_6, .r 1 0 b27_7.length, .r 2 0 b27_8.length], oa 6 (b27_7.map Job.enc), oa 4 (b27_8.map Note.enc)]) (fun k28 h => ?_) (fun b27_1 b27_2 b27_3 b27_4 b27_5 b27_6 b27_7 b27_8 h => ?_)
 refine oi h (fun hb29 h => ?_) (fun hb29 h => ?_)
 try simp only [*, go_sem]
 refine ct h 0 [] [0, 1, 1, 1, 1] [1, 2] (u0m G p0 p1.Txn p1.Yes) (fun v30 h => ?_)
 refine ck h (fun _ h => ?_)
 try simp only [*, go_sem]
 exact jc (v30.me, v30.store.Items, v30.store.Locks, v30.store.Doubts, v30.store.Over, v30.desk.Next, v30.desk.Jobs, (v30.notes ++ [(Note.mk p1.Txn p1.Yes false)])) h.e [some 0, some 5, some 18]
 try simp only [*, go_sem]
 refine jn8 h (fun b32_1 b32_2 b32_3 b32_4 b32_5 b32_6 b32_7 b32_8 => [zP 1000000 0]) (fun b32_1 b32_2 b32_3 b32_4 b32_5 b32_6 b32_7 b32_8 => [ox [zi b32_1, .d (.l 3 (b32_2.map Item.enc)), .d (.l 6 (b32_3.map Lock.enc)), .d (.l 3 (b32_4.map Doubt.enc)), .d (.l 2 (b32_5.map Txn.enc)), zi b32_6, .r 1 0 b32_7.length, .r 2 0 b32_8.length], oa 6 (b32_7.map Job.enc), oa 4 (b32_8.map Note.enc)]) (fun k33 h => ?_) (fun b32_1 b32_2 b32_3 b32_4 b32_5 b32_6 b32_7 b32_8 h => ?_)
 refine oi h (fun hb34 h => ?_) (fun hb34 h => ?_)
 try simp only [*, go_sem]
 refine ct h 0 [] [0, 1, 1, 1, 1] [1, 2] (w0s G p0 p1) (fun v35 h => ?_)
 try simp only [*, go_sem]
 exact jc (v35.me, v35.store.Items, v35.store.Locks, v35.store.Doubts, v35.store.Over, v35.desk.Next, v35.desk.Jobs, v35.notes) h.e [some 0, some 5, some 6]
 try simp only [*, go_sem]
 refine jn2 h (fun b36_1 b36_2 => [zP 1000000 0]) (fun b36_1 b36_2 => [ox [zi p0.me, .d (.l 3 (p0.store.Items.map Item.enc)), .d (.l 6 (p0.store.Locks.map Lock.enc)), .d (.l 3 (p0.store.Doubts.map Doubt.enc)), .d (.l 2 (p0.store.Over.map Txn.enc)), zi b36_1, .r 1 0 b36_2.length, .r 2 0 p0.notes.length], oa 6 (b36_2.map Job.enc), oa 4 (p0.notes.map Note.enc)]) (fun k37 h => ?_) (fun b36_1 b36_2 h => ?_)
 refine oi h (fun hb38 h => ?_) (fun hb38 h => ?_)
 try simp only [*, go_sem]
 refine cx low51 fok51 ?_
 simp only [*, F51, go_sem]
 try simp only [*, go_sem]
 refine cl h (v0x G p0.desk.Jobs (fun y39 => ym y39 p1 p0) 52 [.k [.i .i64 p1.Kind, .i .i64 p1.Txn.Site, .i .i64 p1.Txn.N, .i .i64 p1.Key, .i .i64 p1.Value, .i .i64 p1.Ask, .b p1.Yes, .l 1 (p1.Sites.map encI)], .k [.k [.i .i64 p0.me, .l 3 (p0.store.Items.map Item.enc), .l 6 (p0.store.Locks.map Lock.enc), .l 3 (p0.store.Doubts.map Doubt.enc), .l 2 (p0.store.Over.map Txn.enc), .i .i64 p0.desk.Next, .l 6 (p0.desk.Jobs.map Job.enc), .l 4 (p0.notes.map Note.enc)]]] (fun y39 r h => v0k G y39 p1 p0 r h)) (fun v40 h => ?_)
 refine oi h (fun hb41 h => ?_) (fun hb41 h => ?_)
 try simp only [*, go_sem]
 exact jc (p0.desk.Next, p0.desk.Jobs) h.e [some 0, some 1, some 2]
 try simp only [*, go_sem]
 refine jn2 h (fun b42_1 b42_2 => [zR 0 0 0 b42_2.length, zI 5 b42_1, zP 1000002 1, zP 1000101 2, zP 2000000 2]) (fun b42_1 b42_2 => [oa 6 (b42_2.map Job.enc), ox [.p (.q 2 0 0)], ox [zi p0.me, .d (.l 3 (p0.store.Items.map Item.enc)), .d (.l 6 (p0.store.Locks.map Lock.enc)), .d (.l 3 (p0.store.Doubts.map Doubt.enc)), .d (.l 2 (p0.store.Over.map Txn.enc)), zi p0.desk.Next, .r 0 0 b42_2.length, .r 3 0 p0.notes.length], oa 4 (p0.notes.map Note.enc)]) (fun k43 h => ?_) (fun b42_1 b42_2 h => ?_)
 try simp only [*, go_sem]
 refine lp3 (uh p0 p1 k43) (fun a44_1 a44_2 a44_3 => [zR 0 0 0 a44_3.length, (1, .one (.c 52 [.q 1 0 0, .q 2 0 0])), zI 5 a44_1, zI 6 a44_2, zP 1000002 2, zP 1000101 3, zP 2000000 3]) (fun a44_1 a44_2 a44_3 => [oa 6 (a44_3.map Job.enc), ox p1.bx, ox [.p (.q 3 0 0)], ox [zi p0.me, .d (.l 3 (p0.store.Items.map Item.enc)), .d (.l 6 (p0.store.Locks.map Lock.enc)), .d (.l 3 (p0.store.Doubts.map Doubt.enc)), .d (.l 2 (p0.store.Over.map Txn.enc)), zi p0.desk.Next, .r 0 0 a44_3.length, .r 4 0 p0.notes.length], oa 4 (p0.notes.map Note.enc)]) h [] [some 1, some 4, some 3, some 0, some 2] (fun n45 a44_1 a44_2 a44_3 h => ?_) (by intros; rw [uh])
 rw [uh] at h
 try simp only [*, go_sem]
 intro hl46
 refine oi h (fun hb47 h => ?_) (fun hb47 h => ?_)
 refine obn h (fun x48 _ _ _ _ h => ?_)
 try simp only [*, go_sem]
 refine cl h (v0k G x48 p1 (RecoverMemory.mk p0.me p0.store (Desk.mk p0.desk.Next a44_3) p0.notes)) (fun v50 h => ?_)
 try simp only [*, go_sem]
 refine jn2 h (fun b51_1 b51_2 => [zR 0 0 0 b51_2.length, (1, .one (.c 52 [.q 1 0 0, .q 2 0 0])), zI 5 b51_1, zI 6 a44_2, zP 1000002 2, zP 1000101 3, zP 2000000 3]) (fun b51_1 b51_2 => [oa 6 (b51_2.map Job.enc), ox p1.bx, ox [.p (.q 3 0 0)], ox [zi p0.me, .d (.l 3 (p0.store.Items.map Item.enc)), .d (.l 6 (p0.store.Locks.map Lock.enc)), .d (.l 3 (p0.store.Doubts.map Doubt.enc)), .d (.l 2 (p0.store.Over.map Txn.enc)), zi p0.desk.Next, .r 0 0 b51_2.length, .r 4 0 p0.notes.length], oa 4 (p0.notes.map Note.enc)]) (fun k52 h => ?_) (fun b51_1 b51_2 h => ?_)
 refine oin h (fun hb53 hkhb53 h => ?_) (fun hb53 hkhb53 h => ?_)
 refine obn h (fun x54 _ _ _ _ h => ?_)
 try simp only [*, go_sem]
 exact jc (IntKind.i64.wrap (a44_1 + 1), (a44_3.set a44_1.toNat x48)) h.e [some 0, some 1, some 2, some 3, some 4]
 try simp only [*, go_sem]
 exact jc (a44_1, a44_3) h.e [some 0, some 1, some 2, some 3, some 4]
 try simp only [*, go_sem]
 exact lc (b51_1, IntKind.i64.wrap (a44_2 + 1), b51_2) h.e [some 0, some 1, some 2, some 3, some 4]
 try simp only [*, go_sem]
 exact jc (a44_1, a44_3) h.e [some 0, some 2, some 3, some 4]
 refine ck h (fun _ h => ?_)
 refine ck h (fun _ h => ?_)
 have : b42_1.toNat + ((((b42_2.length : Nat) : Int) - b42_1).toNat) ≤ b42_2.length := by omega
 have : min b42_1.toNat b42_2.length = b42_1.toNat := by omega
 have : b42_1.toNat ≤ b42_2.length := by omega
 try simp only [*, go_sem]
 exact jc (p0.desk.Next, (b42_2.take b42_1.toNat)) h.e [some 2, some 0, some 3]
 try simp only [*, go_sem]
 refine jn1 h (fun b61_1 => [zP 1000000 0]) (fun b61_1 => [ox [zi p0.me, .d (.l 3 (p0.store.Items.map Item.enc)), .d (.l 6 (p0.store.Locks.map Lock.enc)), .d (.l 3 (p0.store.Doubts.map Doubt.enc)), .d (.l 2 (p0.store.Over.map Txn.enc)), zi b61_1, .r 1 0 p0.desk.Jobs.length, .r 2 0 p0.notes.length], oa 6 (p0.desk.Jobs.map Job.enc), oa 4 (p0.notes.map Note.enc)]) (fun k62 h => ?_) (fun b61_1 h => ?_)
 refine oi h (fun hb63 h => ?_) (fun hb63 h => ?_)
 try simp only [*, go_sem]
 refine jn1 h (fun b64_1 => [zP 1000000 0]) (fun b64_1 => [ox [zi p0.me, .d (.l 3 (p0.store.Items.map Item.enc)), .d (.l 6 (p0.store.Locks.map Lock.enc)), .d (.l 3 (p0.store.Doubts.map Doubt.enc)), .d (.l 2 (p0.store.Over.map Txn.enc)), zi b64_1, .r 1 0 p0.desk.Jobs.length, .r 2 0 p0.notes.length], oa 6 (p0.desk.Jobs.map Job.enc), oa 4 (p0.notes.map Note.enc)]) (fun k65 h => ?_) (fun b64_1 h => ?_)
 refine oi h (fun hb66 h => ?_) (fun hb66 h => ?_)
 try simp only [*, go_sem]
 exact jc ((if IntKind.i64.wrap (p1.Txn.N + 1) > p0.desk.Next then IntKind.i64.wrap (p1.Txn.N + 1) else p0.desk.Next)) h.e [some 0, some 1, some 2]
 try simp only [*, go_sem]
 exact jc (p0.desk.Next) h.e [some 0, some 1, some 2]
 try simp only [*, go_sem]
 exact jc (b64_1) h.e [some 0, some 1, some 2]
 try simp only [*, go_sem]
 exact jc (p0.desk.Next) h.e [some 0, some 1, some 2]
 try simp only [*, go_sem]
 exact jc (b61_1, p0.desk.Jobs) h.e [some 0, some 1, some 2]
 try simp only [*, go_sem]
 exact jc (p0.me, p0.store.Items, p0.store.Locks, p0.store.Doubts, p0.store.Over, b36_1, b36_2, p0.notes) h.e [some 0, some 1, some 2]
 try simp only [*, go_sem]
 exact jc (b32_1, b32_2, b32_3, b32_4, b32_5, b32_6, b32_7, b32_8) h.e [some 0, some 1, some 2]
 try simp only [*, go_sem]
 exact jc (b27_1, b27_2, b27_3, b27_4, b27_5, b27_6, b27_7, b27_8) h.e [some 0, some 1, some 2]
 try simp only [*, go_sem]
 exact jc (b8_1, b8_2, b8_3, b8_4, b8_5, b8_6, b8_7, b8_8) h.e [some 0, some 1, some 2]
 cases h.e
 try simp only [*, go_sem]
 refine etn [] ?_
 simp only [*, go_sem, mA, mS]
def ut (p0 : Config) (p2 : List Record) (k7 : Option (Store × Desk × (List Note) × Int)) : Nat → Nat → Option (Store × Desk × (List Note) × Int)
 | 0, _ => none
 | n9 + 1, a8_1 => (if (decide (a8_1 < p2.length)) = true then (Option.bind (p2[a8_1]?) fun x11 => (Option.bind (y0c p0 x11) fun v12 => (if (v12 != 0) = true then (some ((Store.mk [] [] [] []), (Desk.mk 0 []), [], v12)) else (ut p0 p2 k7 n9 (a8_1 + 1))))) else k7)
def zp (p2 : List Record) (k17 : Int → (List Item) → (List Lock) → (List Doubt) → (List Txn) → Int → (List Job) → (List Note) → Option (Store × Desk × (List Note) × Int)) : Nat → Nat → Int → (List Item) → (List Lock) → (List Doubt) → (List Txn) → Int → (List Job) → (List Note) → Option (Store × Desk × (List Note) × Int)
 | 0, _, _, _, _, _, _, _, _, _ => none
 | n19 + 1, a18_1, a18_2, a18_3, a18_4, a18_5, a18_6, a18_7, a18_8, a18_9 => (if (decide (a18_1 < p2.length)) = true then (Option.bind (p2[a18_1]?) fun x21 => (Option.bind (v0c (RecoverMemory.mk a18_2 (Store.mk a18_3 a18_4 a18_5 a18_6) (Desk.mk a18_7 a18_8) a18_9) x21) fun v22 => (zp p2 k17 n19 (a18_1 + 1) v22.me v22.store.Items v22.store.Locks v22.store.Doubts v22.store.Over v22.desk.Next v22.desk.Jobs v22.notes))) else (k17 a18_2 a18_3 a18_4 a18_5 a18_6 a18_7 a18_8 a18_9))
def x0g (p0 : Config) (p1 : Int) (p2 : List Record) : Option (Store × Desk × (List Note) × Int) := (Option.bind (u0k p0) fun v1 => (if (v1 != 0) = true then (some ((Store.mk [] [] [] []), (Desk.mk 0 []), [], v1)) else (if (decide (p1 < 0)) = true then (some ((Store.mk [] [] [] []), (Desk.mk 0 []), [], 2)) else (if (decide (p1 ≥ p0.Sites)) = true then (some ((Store.mk [] [] [] []), (Desk.mk 0 []), [], 2)) else (withK (withK (fun (b16_1 : Int) (b16_2 : List Item) (b16_3 : List Lock) (b16_4 : List Doubt) (b16_5 : List Txn) (b16_6 : Int) (b16_7 : List Job) (b16_8 : List Note) => (some ((Store.mk b16_2 b16_3 b16_4 b16_5), (Desk.mk b16_6 b16_7), b16_8, 0))) fun k17 => (zp p2 k17 (p2.length + 1) 0 p1 [] [] [] [] 1 [] [])) fun k7 => (ut p0 p2 k7 (p2.length + 1) 0))))))
def F8 : VFn := ⟨75, (.seq (.reg [vo 3 (.box 3 (.t 0)), vo 6 (.alloc [(.nl 3), (.nl 6), (.nl 3), (.nl 2)]), vo 7 (.alloc [(zi 0), (.nl 6)]), vo 8 (.mv (.c (.one (.nl 4)))), mi 9 0]) (.seq (.seq (.reg [vl 17 3 3, vo 18 (.call 13 [(.t 17)]), vm 10 18]) (.seq (.reg [vm 19 10, bk 20 .neq 19 0]) (.cond (.t 20) (.seq (.reg [vo 21 (.build [(.nl 3), (.nl 6), (.nl 3), (.nl 2)] []), vo 22 (.build [(zi 0), (.nl 6)] []), vm 23 10, vu (.st 4 (.t 6) (.t 21)), vu (.st 2 (.t 7) (.t 22)), vo 8 (.mv (.c (.one (.nl 4)))), vm 9 23]) .ret) .skip))) (.seq (.seq (.reg [vm 24 1, bk 25 .lss 24 0, vm 26 25, gf 27 26 (.mv (.t 1)), gf 28 26 (.fa 0 (.t 3)), gf 29 26 (.ld false 1 (.t 28)), gf 30 26 (.bin .i .geq (.t 27) (.t 29)), vo 31 (.pick (.t 26) (cb true) (.t 30))]) (.cond (.t 31) (.seq (.reg [vo 32 (.build [(.nl 3), (.nl 6), (.nl 3), (.nl 2)] []), vo 33 (.build [(zi 0), (.nl 6)] []), vu (.st 4 (.t 6) (.t 32)), vu (.st 2 (.t 7) (.t 33)), vo 8 (.mv (.c (.one (.nl 4)))), mi 9 2]) .ret) .skip)) (.seq (.seq (.reg [vm 34 2, ln 35 34, mi 36 0]) (.wk (.block 0 (.loop (.seq (.reg [bt 37 .lss 36 35]) (.seq (.cond (.t 37) .skip (.exit 0)) (.seq (.block 1 (.seq (.reg [xa 38 8 34 36, vl 39 8 38, vo 12 (.alloc [(zi 0), (zi 0), (zi 0), (zi 0), (zi 0), (zi 0), (.d (.b false)), (.nl 1)]), vu (.st 8 (.t 12) (.t 39))]) (.seq (.reg [vl 40 3 3, vl 41 8 12, vo 42 (.call 27 [(.t 40), (.t 41)]), vm 13 42]) (.seq (.reg [vm 43 13, bk 44 .neq 43 0]) (.cond (.t 44) (.seq (.reg [vo 45 (.build [(.nl 3), (.nl 6), (.nl 3), (.nl 2)] []), vo 46 (.build [(zi 0), (.nl 6)] []), vm 47 13, vu (.st 4 (.t 6) (.t 45)), vu (.st 2 (.t 7) (.t 46)), vo 8 (.mv (.c (.one (.nl 4)))), vm 9 47]) .ret) .skip))))) (.reg [bk 48 .add 36 1, vm 36 48])))))))) (.seq (.reg [vm 49 1, vo 50 (.build [(zi 0), (.nl 6)] [(0, 1, (ci 1))]), vo 51 (.build [(zi 0), (.nl 3), (.nl 6), (.nl 3), (.nl 2), (zi 0), (.nl 6), (.nl 4)] [(0, 1, (.t 49)), (5, 2, (.t 50))]), vo 52 (.box 8 (.t 51)), vm 14 52]) (.seq (.seq (.reg [vm 53 2, ln 54 53, mi 55 0]) (.wk (.block 2 (.loop (.seq (.reg [bt 56 .lss 55 54]) (.seq (.cond (.t 56) .skip (.exit 2)) (.seq (.block 3 (.seq (.reg [xa 57 8 53 55, vl 58 8 57, vo 16 (.alloc [(zi 0), (zi 0), (zi 0), (zi 0), (zi 0), (zi 0), (.d (.b false)), (.nl 1)]), vu (.st 8 (.t 16) (.t 58))]) (.reg [vm 59 14, vl 60 8 16, vo 61 (.call 28 [(.t 59), (.t 60)])]))) (.reg [bk 62 .add 55 1, vm 55 62])))))))) (.seq (.draw [vd (vm 63 14) 0, vd (vo 64 (.nilchk (.t 63))) 1, vd (vf 65 1 64) 3, vd (vl 66 4 65) 7, vd (vm 67 14) 0, ⟨vo 68 (.nilchk (.t 67)), 16, [], none, [0]⟩, ⟨vf 69 5 68, 48, [], none, [0]⟩, ⟨vl 70 2 69, 112, [], none, [0]⟩, vd (vm 71 14) 0, ⟨vo 72 (.nilchk (.t 71)), 256, [], none, [0, 1]⟩, ⟨vf 73 7 72, 768, [], none, [0, 1]⟩, ⟨vs 74 73, 1792, [], none, [0, 1]⟩, ⟨vu (.st 4 (.t 6) (.t 66)), 15, [], (some 0), []⟩, ⟨vu (.st 2 (.t 7) (.t 70)), 4351, [], (some 1), []⟩, vd (vm 8 74) 0x3fff, vd (mi 9 0) 0x7fff]) .ret))))))), [.cell 6 true 4, .cell 7 true 2, .t 8, .t 9]⟩
theorem low8 : lowF Tryd.prog 8 = some F8.strip := by kernel_rfl
theorem fok8 : fOk Tryd.prog 8 = true := by kernel_rfl
theorem u1s (htab_wire_records : z1j G 1 = .one (.d (.k wy))) (p0 : Config) (p1 : Int) (p2 : List Record) (r : Store × Desk × (List Note) × Int) (h : x0g p0 p1 p2 = some r) : FnRO Tryd.prog G 8 [.agg p0.bx, .one (.d (.i .i64 p1)), .one (.d (.l 8 (p2.map Record.enc)))] (fun rs => rs = [.agg (r.1.enc), .agg (r.2.1.enc), .one (.l 4 (r.2.2.1.map Note.enc)), .one (.i .i64 r.2.2.2)]) := by
 refine FnRO.fz ?_ rfl
 refine FnRO.of' low8 fok8 (by simp [F8]) ?_
 rw [x0g] at h
 replace h := Hd.mk h
 simp only [F8, go_sem]
 try simp only [*, go_sem]
 refine cr h (y1i G p0) (fun v1 h => ?_)
 refine oi h (fun hb2 h => ?_) (fun hb2 h => ?_)
 cases h.e
 simp only [*, go_sem, mA, mS]
 refine oi h (fun hb3 h => ?_) (fun hb3 h => ?_)
 have := of_decide_eq_true hb3
 cases h.e
 simp only [*, go_sem, mA, mS]
 refine oi h (fun hb4 h => ?_) (fun hb4 h => ?_)
 cases h.e
 simp only [*, go_sem, mA, mS]
 try simp only [*, go_sem]
 intro hl5
 try simp only [*, go_sem]
 refine jn0 h ([zI 1 p1, zL 2 8 (p2.map Record.enc), zP 6 0, zP 7 1]) ([ox [.nl 3, .nl 6, .nl 3, .nl 2], ox [zi 0, .nl 6]]) (fun k7 h => ?_) (fun h => ?_)
 try simp only [*, go_sem]
 refine lp1 (ut p0 p2 k7) (fun a8_1 => [zI 1 p1, zL 2 8 (p2.map Record.enc), zP 3 0, zP 6 1, zP 7 2, zL 34 8 (p2.map Record.enc), zI 35 ((p2.length : Nat) : Int), zI 36 ((a8_1 : Nat) : Int)]) (fun a8_1 => [ox p0.bx, ox [.nl 3, .nl 6, .nl 3, .nl 2], ox [zi 0, .nl 6]]) h [] [some 0, some 1, some 2] (fun n9 a8_1 h => ?_) (by intros; rw [ut])
 rw [ut] at h
 refine oi h (fun hb10 h => ?_) (fun hb10 h => ?_)
 have := of_decide_eq_true hb10
 refine obg h (fun x11 _ hkx11 h => ?_)
 try simp only [*, go_sem]
 refine cr h (x1q G htab_wire_records p0 x11) (fun v12 h => ?_)
 refine oi h (fun hb13 h => ?_) (fun hb13 h => ?_)
 cases h.e
 simp only [*, go_sem, mA, mS]
 have := za hkx11 hl5
 try simp only [*, go_sem]
 exact lc (a8_1 + 1) h.e [some 0, some 1, some 2]
 try simp only [*, go_sem]
 exact jc () h.e [some 1, some 2]
 try simp only [*, go_sem]
 intro hl15
 try simp only [*, go_sem]
 refine jn8 h (fun b16_1 b16_2 b16_3 b16_4 b16_5 b16_6 b16_7 b16_8 => [zP 6 0, zP 7 1, zP 14 2]) (fun b16_1 b16_2 b16_3 b16_4 b16_5 b16_6 b16_7 b16_8 => [ox [.nl 3, .nl 6, .nl 3, .nl 2], ox [zi 0, .nl 6], ox [zi b16_1, .d (.l 3 (b16_2.map Item.enc)), .d (.l 6 (b16_3.map Lock.enc)), .d (.l 3 (b16_4.map Doubt.enc)), .d (.l 2 (b16_5.map Txn.enc)), zi b16_6, .r 3 0 b16_7.length, .r 4 0 b16_8.length], oa 6 (b16_7.map Job.enc), oa 4 (b16_8.map Note.enc)]) (fun k17 h => ?_) (fun b16_1 b16_2 b16_3 b16_4 b16_5 b16_6 b16_7 b16_8 h => ?_)
 try simp only [*, go_sem]
 refine lp9 (zp p2 k17) (fun a18_1 a18_2 a18_3 a18_4 a18_5 a18_6 a18_7 a18_8 a18_9 => [zP 6 0, zP 7 1, zP 14 2, zL 53 8 (p2.map Record.enc), zI 54 ((p2.length : Nat) : Int), zI 55 ((a18_1 : Nat) : Int)]) (fun a18_1 a18_2 a18_3 a18_4 a18_5 a18_6 a18_7 a18_8 a18_9 => [ox [.nl 3, .nl 6, .nl 3, .nl 2], ox [zi 0, .nl 6], ox [zi a18_2, .d (.l 3 (a18_3.map Item.enc)), .d (.l 6 (a18_4.map Lock.enc)), .d (.l 3 (a18_5.map Doubt.enc)), .d (.l 2 (a18_6.map Txn.enc)), zi a18_7, .r 3 0 a18_8.length, .r 4 0 a18_9.length], oa 6 (a18_8.map Job.enc), oa 4 (a18_9.map Note.enc)]) h [] [some 0, some 1, some 2, none, none] (fun n19 a18_1 a18_2 a18_3 a18_4 a18_5 a18_6 a18_7 a18_8 a18_9 h => ?_) (by intros; rw [zp])
 rw [zp] at h
 refine oi h (fun hb20 h => ?_) (fun hb20 h => ?_)
 have := of_decide_eq_true hb20
 refine obg h (fun x21 _ hkx21 h => ?_)
 try simp only [*, go_sem]
 refine ct h 2 [] [0, 1, 1, 1, 1] [3, 4] (y1g G (RecoverMemory.mk a18_2 (Store.mk a18_3 a18_4 a18_5 a18_6) (Desk.mk a18_7 a18_8) a18_9) x21) (fun v22 h => ?_)
 have := za hkx21 hl5
 try simp only [*, go_sem]
 exact lc (a18_1 + 1, v22.me, v22.store.Items, v22.store.Locks, v22.store.Doubts, v22.store.Over, v22.desk.Next, v22.desk.Jobs, v22.notes) h.e [some 0, some 1, some 2, some 6, some 7]
 try simp only [*, go_sem]
 exact jc (a18_2, a18_3, a18_4, a18_5, a18_6, a18_7, a18_8, a18_9) h.e [some 0, some 1, some 2, some 3, some 4]
 cases h.e
 simp only [*, go_sem, mA, mS]
def xb (p0 : Int) (p1 : Int) (p2 : Int) : Option (Bool) := (withK (fun (b1_1 : Bool) => (some b1_1)) fun k2 => (if (decide (p0 ≥ p1)) = true then (k2 (decide (p0 ≤ p2))) else (k2 false)))
def F29 : VFn := ⟨15, (.seq (.reg [vo 6 (.mv (cb false))]) (.seq (.wk (.reg [vm 7 0, vm 8 1, bt 9 .geq 7 8, vm 10 9, gt 11 10 (.mv (.t 0)), gt 12 10 (.mv (.t 2)), gt 13 10 (.bin .i .leq (.t 11) (.t 12)), vo 14 (.pick (.t 10) (.t 13) (cb false)), vm 6 14])) .ret)), [.t 6]⟩
theorem low29 : lowF Tryd.prog 29 = some F29.strip := by kernel_rfl
theorem fok29 : fOk Tryd.prog 29 = true := by kernel_rfl
theorem zb (p0 : Int) (p1 : Int) (p2 : Int) (r : Bool) (h : xb p0 p1 p2 = some r) : FnRO Tryd.prog G 29 [.one (.d (.i .i64 p0)), .one (.d (.i .i64 p1)), .one (.d (.i .i64 p2))] (fun rs => rs = [.one (.b r)]) := by
 refine FnRO.of' low29 fok29 (by simp [F29]) ?_
 rw [xb] at h
 replace h := Hd.mk h
 simp only [F29, go_sem]
 try simp only [*, go_sem]
 refine jn1 h (fun b1_1 => [zB 6 b1_1]) (fun b1_1 => []) (fun k2 h => ?_) (fun b1_1 h => ?_)
 refine oi h (fun hb3 h => ?_) (fun hb3 h => ?_)
 try simp only [*, go_sem]
 exact jc (decide (p0 ≤ p2)) h.e []
 try simp only [*, go_sem]
 exact jc (false) h.e []
 cases h.e
 simp only [*, go_sem, mA, mS]
def ye (p0 : Config) (a8_1 : Nat) (x12 : Label) (k18 : Option (Int)) : Nat → Nat → Option (Int)
 | 0, _ => none
 | n20 + 1, a19_1 => (if (decide (a19_1 < a8_1)) = true then (Option.bind (p0.Labels[a19_1]?) fun x22 => (if ((x22.Level == x12.Level) && (x22.Cats == x12.Cats)) = true then (some 7) else (ye p0 a8_1 x12 k18 n20 (a19_1 + 1)))) else k18)
def zd (p0 : Config) (k7 : Option (Int)) : Nat → Nat → Option (Int)
 | 0, _ => none
 | n9 + 1, a8_1 => (if (decide (a8_1 < p0.Labels.length)) = true then (Option.bind (p0.Labels[a8_1]?) fun x12 => (Option.bind (xb x12.Level 0 9) fun v13 => (if (!v13) = true then (some 2) else (Option.bind (xb x12.Cats 0 15) fun v15 => (if (!v15) = true then (some 2) else (withK (zd p0 k7 n9 (a8_1 + 1)) fun k18 => (ye p0 a8_1 x12 k18 (a8_1 + 1) 0))))))) else k7)
def xl (p0 : Config) : Option (Int) := (Option.bind (xb p0.Sites 1 4) fun v1 => (if (!v1) = true then (some 2) else (Option.bind (xb ((p0.Labels.length : Nat) : Int) 1 6) fun v4 => (if (!v4) = true then (some 1) else (withK (Option.bind (xb p0.Patience 1 1048576) fun v26 => (if (!v26) = true then (some 2) else (some 0))) fun k7 => (zd p0 k7 (p0.Labels.length + 1) 0))))))
def F21 : VFn := ⟨59, (.seq (.reg [vo 1 (.boxk 3 (.t 0)), mi 2 0]) (.seq (.seq (.reg [vf 5 0 1, vs 6 5, vo 7 (.call 29 [(.t 6), (ci 1), (ci 4)]), nt 8 7]) (.cond (.t 8) (.seq (.reg [mi 2 2]) .ret) .skip)) (.seq (.seq (.reg [vf 9 1 1, vs 10 9, ln 11 10, vo 12 (.call 29 [(.t 11), (ci 1), (ci 6)]), nt 13 12]) (.cond (.t 13) (.seq (.reg [mi 2 1]) .ret) .skip)) (.seq (.seq (.reg [mi 3 0]) (.wk (.block 0 (.loop (.seq (.seq (.reg [vm 14 3, vf 15 1 1, vs 16 15, ln 17 16, bt 18 .lss 14 17]) (.cond (.t 18) .skip (.exit 0))) (.seq (.block 1 (.seq (.seq (.reg [vf 21 1 1, vs 22 21, vm 23 3, xa 24 2 22 23, vf 25 0 24, vs 26 25, vo 27 (.call 29 [(.t 26), (ci 0), (ci 9)]), nt 28 27, vm 29 28, gf 30 29 (.fa 1 (.t 1)), gf 31 29 (.ld false 1 (.t 30)), gf 32 29 (.mv (.t 3)), gf 33 29 (.ia 2 (.t 31) (.t 32)), gf 34 29 (.fa 1 (.t 33)), gf 35 29 (.ld false 1 (.t 34)), gf 36 29 (.call 29 [(.t 35), (ci 0), (ci 15)]), gf 37 29 (.un .not (.t 36)), vo 38 (.pick (.t 29) (cb true) (.t 37))]) (.cond (.t 38) (.seq (.reg [mi 2 2]) .ret) .skip)) (.seq (.reg [mi 4 0]) (.wk (.block 2 (.loop (.seq (.seq (.reg [vm 39 4, vm 40 3, bt 41 .lss 39 40]) (.cond (.t 41) .skip (.exit 2))) (.seq (.block 3 (.seq (.draw [vd (vf 44 1 1) 0, vd (vs 45 44) 1, vd (vm 46 4) 0, vd (xa 47 2 45 46) 7, vd (vl 48 2 47) 15, vd (vf 49 1 1) 0, vd (vs 50 49) 32, vd (vm 51 3) 0, vd (xa 52 2 50 51) 224, vd (vl 53 2 52) 480, vd (vo 54 (.eqs false [.i, .i] (.t 48) (.t 53))) 1023]) (.cond (.t 54) (.seq (.reg [mi 2 7]) .ret) .skip))) (.reg [vm 42 4, bk 43 .add 42 1, vm 4 43]))))))))) (.reg [vm 19 3, bk 20 .add 19 1, vm 3 20]))))))) (.seq (.seq (.reg [vf 55 2 1, vs 56 55, vo 57 (.call 29 [(.t 56), (ci 1), (ci 1048576)]), nt 58 57]) (.cond (.t 58) (.seq (.reg [mi 2 2]) .ret) .skip)) (.seq (.reg [mi 2 0]) .ret)))))), [.t 2]⟩
theorem low21 : lowF Tryd.prog 21 = some F21.strip := by kernel_rfl
theorem fok21 : fOk Tryd.prog 21 = true := by kernel_rfl
theorem x0j (p0 : Config) (r : Int) (h : xl p0 = some r) : FnRO Tryd.prog G 21 [.agg p0.bx] (fun rs => rs = [.one (.i .i64 r)]) := by
 refine FnRO.of' low21 fok21 (by simp [F21]) ?_
 rw [xl] at h
 replace h := Hd.mk h
 simp only [F21, go_sem]
 try simp only [*, go_sem]
 refine cr h (zb G p0.Sites 1 4) (fun v1 h => ?_)
 refine oin h (fun hb2 hkhb2 h => ?_) (fun hb2 hkhb2 h => ?_)
 cases h.e
 simp only [*, go_sem, mA, mS]
 try simp only [*, go_sem]
 intro hl3
 try simp only [*, go_sem]
 refine cr h (zb G ((p0.Labels.length : Nat) : Int) 1 6) (fun v4 h => ?_)
 refine oin h (fun hb5 hkhb5 h => ?_) (fun hb5 hkhb5 h => ?_)
 cases h.e
 simp only [*, go_sem, mA, mS]
 try simp only [*, go_sem]
 refine jn0 h ([zK 1 (Config.enc p0)]) ([]) (fun k7 h => ?_) (fun h => ?_)
 try simp only [*, go_sem]
 refine lp1 (zd p0 k7) (fun a8_1 => [zK 1 (Config.enc p0), zI 3 ((a8_1 : Nat) : Int)]) (fun a8_1 => []) h [] [] (fun n9 a8_1 h => ?_) (by intros; rw [zd])
 rw [zd] at h
 try simp only [*, go_sem]
 intro hl10
 refine oi h (fun hb11 h => ?_) (fun hb11 h => ?_)
 have := of_decide_eq_true hb11
 refine obg h (fun x12 _ hkx12 h => ?_)
 try simp only [*, go_sem]
 refine cr h (zb G x12.Level 0 9) (fun v13 h => ?_)
 refine oin h (fun hb14 hkhb14 h => ?_) (fun hb14 hkhb14 h => ?_)
 cases h.e
 simp only [*, go_sem, mA, mS]
 try simp only [*, go_sem]
 refine cr h (zb G x12.Cats 0 15) (fun v15 h => ?_)
 refine oin h (fun hb16 hkhb16 h => ?_) (fun hb16 hkhb16 h => ?_)
 cases h.e
 simp only [*, go_sem, mA, mS]
 try simp only [*, go_sem]
 refine jn0 h ([zK 1 (Config.enc p0), zI 3 ((a8_1 : Nat) : Int), (30, .one (.p (.l 3 [(Config.enc p0)] 0 1))), zL 31 2 (p0.Labels.map Label.enc), zI 32 ((a8_1 : Nat) : Int), (33, .one (.p (.l 2 (p0.Labels.map Label.enc) a8_1 0))), (34, .one (.p (.l 2 (p0.Labels.map Label.enc) a8_1 1))), zI 35 x12.Cats, zB 36 true, zB 37 false]) ([]) (fun k18 h => ?_) (fun h => ?_)
 try simp only [*, go_sem]
 refine lp1 (ye p0 a8_1 x12 k18) (fun a19_1 => [zK 1 (Config.enc p0), zI 3 ((a8_1 : Nat) : Int), zI 4 ((a19_1 : Nat) : Int), (30, .one (.p (.l 3 [(Config.enc p0)] 0 1))), zL 31 2 (p0.Labels.map Label.enc), zI 32 ((a8_1 : Nat) : Int), (33, .one (.p (.l 2 (p0.Labels.map Label.enc) a8_1 0))), (34, .one (.p (.l 2 (p0.Labels.map Label.enc) a8_1 1))), zI 35 x12.Cats, zB 36 true, zB 37 false]) (fun a19_1 => []) h [] [] (fun n20 a19_1 h => ?_) (by intros; rw [ye])
 rw [ye] at h
 refine oi h (fun hb21 h => ?_) (fun hb21 h => ?_)
 have := of_decide_eq_true hb21
 refine obg h (fun x22 _ hkx22 h => ?_)
 refine oi h (fun hb23 h => ?_) (fun hb23 h => ?_)
 try simp only [*, go_sem]
 cases h.e
 simp only [*, go_sem, mA, mS]
 try simp only [*, go_sem]
 have := za hkx22 hl3
 try simp only [*, go_sem]
 exact lc (a19_1 + 1) h.e []
 try simp only [*, go_sem]
 exact jc () h.e []
 have := za hkx12 hl3
 try simp only [*, go_sem]
 exact lc (a8_1 + 1) h.e []
 try simp only [*, go_sem]
 exact jc () h.e []
 try simp only [*, go_sem]
 refine cr h (zb G p0.Patience 1 1048576) (fun v26 h => ?_)
 refine oin h (fun hb27 hkhb27 h => ?_) (fun hb27 hkhb27 h => ?_)
 cases h.e
 simp only [*, go_sem, mA, mS]
 cases h.e
 simp only [*, go_sem, mA, mS]
def z0e (p0 : Config) (p1 : Txn) : Option (Bool) := (withK (fun (b1_1 : Bool) => (some b1_1)) fun k2 => (Option.bind (xb p1.Site 0 (IntKind.i64.wrap (p0.Sites - 1))) fun v3 => (if v3 = true then (Option.bind (xb p1.N 1 1048576) fun v5 => (k2 v5)) else (k2 false))))
def F46 : VFn := ⟨16, (.seq (.reg [vo 2 (.box 3 (.t 0)), vo 3 (.boxk 2 (.t 1)), vo 4 (.mv (cb false))]) (.seq (.wk (.reg [vf 5 0 3, vs 6 5, vf 7 0 2, vs 8 7, bk 9 .sub 8 1, vo 10 (.call 29 [(.t 6), (ci 0), (.t 9)]), vm 11 10, gt 12 11 (.fa 1 (.t 3)), gt 13 11 (.ld false 1 (.t 12)), gt 14 11 (.call 29 [(.t 13), (ci 1), (ci 1048576)]), vo 15 (.pick (.t 11) (.t 14) (cb false)), vm 4 15])) .ret)), [.t 4]⟩
theorem low46 : lowF Tryd.prog 46 = some F46.strip := by kernel_rfl
theorem fok46 : fOk Tryd.prog 46 = true := by kernel_rfl
theorem x1h (p0 : Config) (p1 : Txn) (r : Bool) (h : z0e p0 p1 = some r) : FnRO Tryd.prog G 46 [.agg p0.bx, .agg p1.bx] (fun rs => rs = [.one (.b r)]) := by
 refine FnRO.of' low46 fok46 (by simp [F46]) ?_
 rw [z0e] at h
 replace h := Hd.mk h
 simp only [F46, go_sem]
 try simp only [*, go_sem]
 refine jn1 h (fun b1_1 => [zB 4 b1_1]) (fun b1_1 => []) (fun k2 h => ?_) (fun b1_1 h => ?_)
 try simp only [*, go_sem]
 refine cr h (zb G p1.Site 0 (IntKind.i64.wrap (p0.Sites - 1))) (fun v3 h => ?_)
 refine oi h (fun hb4 h => ?_) (fun hb4 h => ?_)
 try simp only [*, go_sem]
 refine cr h (zb G p1.N 1 1048576) (fun v5 h => ?_)
 try simp only [*, go_sem]
 exact jc (v5) h.e []
 try simp only [*, go_sem]
 exact jc (false) h.e []
 cases h.e
 simp only [*, go_sem, mA, mS]
def wb (p0 : Config) (p1 : Record) (k14 : Option (Int)) : Nat → Nat → Option (Int)
 | 0, _ => none
 | n16 + 1, a15_1 => (if (decide (a15_1 < p1.Sites.length)) = true then (Option.bind (p1.Sites[a15_1]?) fun x19 => (Option.bind (xb x19 0 (IntKind.i64.wrap (p0.Sites - 1))) fun v20 => (if (!v20) = true then (some 2) else (if (decide (((a15_1 : Nat) : Int) > 0)) = true then (if 0 ≤ IntKind.i64.wrap (((a15_1 : Nat) : Int) - 1) then (Option.bind (p1.Sites[(IntKind.i64.wrap (((a15_1 : Nat) : Int) - 1)).toNat]?) fun x23 => (if (decide (x19 ≤ x23)) = true then (some 2) else (wb p0 p1 k14 n16 (a15_1 + 1)))) else none) else (wb p0 p1 k14 n16 (a15_1 + 1)))))) else k14)
def zh (p0 : Config) (p1 : Record) : Option (Int) := (Option.bind (xl p0) fun v1 => (if (v1 != 0) = true then (some v1) else (Option.bind (xb p1.Kind 1 6) fun v3 => (if (!v3) = true then (some 3) else (Option.bind (z0e p0 p1.Txn) fun v5 => (if (!v5) = true then (some 2) else (Option.bind (xb p1.Key 0 7) fun v7 => (if (!v7) = true then (some 2) else (Option.bind (xb p1.Value 0 1073741824) fun v9 => (if (!v9) = true then (some 2) else (Option.bind (xb p1.Ask 0 1048576) fun v11 => (if (!v11) = true then (some 2) else (withK (if (p1.Kind != 1) = true then (if (p1.Key != 0) = true then (some 4) else (if (p1.Value != 0) = true then (some 4) else (if (p1.Ask != 0) = true then (some 4) else (if (p1.Kind != 2) = true then (if (p1.Kind != 6) = true then (if p1.Yes = true then (some 4) else (if (p1.Kind != 3) = true then (if (decide (((p1.Sites.length : Nat) : Int) > 0)) = true then (some 4) else (some 0)) else (some 0))) else (if (p1.Kind != 3) = true then (if (decide (((p1.Sites.length : Nat) : Int) > 0)) = true then (some 4) else (some 0)) else (some 0))) else (if (p1.Kind != 3) = true then (if (decide (((p1.Sites.length : Nat) : Int) > 0)) = true then (some 4) else (some 0)) else (some 0)))))) else (if (p1.Kind != 2) = true then (if (p1.Kind != 6) = true then (if p1.Yes = true then (some 4) else (if (p1.Kind != 3) = true then (if (decide (((p1.Sites.length : Nat) : Int) > 0)) = true then (some 4) else (some 0)) else (some 0))) else (if (p1.Kind != 3) = true then (if (decide (((p1.Sites.length : Nat) : Int) > 0)) = true then (some 4) else (some 0)) else (some 0))) else (if (p1.Kind != 3) = true then (if (decide (((p1.Sites.length : Nat) : Int) > 0)) = true then (some 4) else (some 0)) else (some 0)))) fun k14 => (wb p0 p1 k14 (p1.Sites.length + 1) 0))))))))))))))
def F30 : VFn := ⟨117, (.seq (.reg [vo 2 (.box 3 (.t 0)), vo 3 (.box 8 (.t 1)), mi 4 0]) (.seq (.reg [vl 7 3 2, vo 8 (.call 21 [(.t 7)]), vm 5 8]) (.seq (.seq (.reg [vm 9 5, bk 10 .neq 9 0]) (.cond (.t 10) (.seq (.reg [vm 11 5, vm 4 11]) .ret) .skip)) (.seq (.seq (.reg [vf 12 0 3, vs 13 12, vo 14 (.call 29 [(.t 13), (ci 1), (ci 6)]), nt 15 14]) (.cond (.t 15) (.seq (.reg [mi 4 3]) .ret) .skip)) (.seq (.seq (.reg [vl 16 3 2, vf 17 1 3, vl 18 2 17, vo 19 (.call 46 [(.t 16), (.t 18)]), nt 20 19, vm 21 20, gf 22 21 (.fa 3 (.t 3)), gf 23 21 (.ld false 1 (.t 22)), gf 24 21 (.call 29 [(.t 23), (ci 0), (ci 7)]), gf 25 21 (.un .not (.t 24)), vo 26 (.pick (.t 21) (cb true) (.t 25)), vm 27 26, gf 28 27 (.fa 4 (.t 3)), gf 29 27 (.ld false 1 (.t 28)), gf 30 27 (.call 29 [(.t 29), (ci 0), (ci 1073741824)]), gf 31 27 (.un .not (.t 30)), vo 32 (.pick (.t 27) (cb true) (.t 31)), vm 33 32, gf 34 33 (.fa 5 (.t 3)), gf 35 33 (.ld false 1 (.t 34)), gf 36 33 (.call 29 [(.t 35), (ci 0), (ci 1048576)]), gf 37 33 (.un .not (.t 36)), vo 38 (.pick (.t 33) (cb true) (.t 37))]) (.cond (.t 38) (.seq (.reg [mi 4 2]) .ret) .skip)) (.seq (.seq (.reg [mi 6 0]) (.wk (.block 0 (.loop (.seq (.seq (.reg [vm 39 6, vf 40 7 3, vs 41 40, ln 42 41, bt 43 .lss 39 42]) (.cond (.t 43) .skip (.exit 0))) (.seq (.block 1 (.seq (.draw [vd (vf 46 7 3) 0, vd (vs 47 46) 1, vd (vm 48 6) 0, vd (xa 49 1 47 48) 7, vd (vs 50 49) 15, vd (vf 51 0 2) 0, vd (vs 52 51) 32, vd (bk 53 .sub 52 1) 96, vd (vo 54 (.call 29 [(.t 50), (ci 0), (.t 53)])) 255, vd (nt 55 54) 511, vd (vm 56 55) 1023, vd (gf 57 56 (.mv (.t 6))) 2047, vd (gf 58 56 (.bin .i .gtr (.t 57) (ci 0))) 4095, vd (gf 59 56 (.mv (.t 58))) 8191, vd (gt 60 59 (.fa 7 (.t 3))) 0x3fff, vd (gt 61 59 (.ld false 1 (.t 60))) 0x7fff, vd (gt 62 59 (.mv (.t 6))) 0x3fff, vd (gt 63 59 (.ia 1 (.t 61) (.t 62))) 0x1ffff, vd (gt 64 59 (.ld false 1 (.t 63))) 0x3ffff, vd (gt 65 59 (.fa 7 (.t 3))) 0x3fff, vd (gt 66 59 (.ld false 1 (.t 65))) 0x83fff, vd (gt 67 59 (.mv (.t 6))) 0x3fff, vd (gt 68 59 (.bin .i .sub (.t 67) (ci 1))) 0x203fff, vd (gt 69 59 (.ia 1 (.t 66) (.t 68))) 0x783fff, vd (gt 70 59 (.ld false 1 (.t 69))) 0xf83fff, vd (gt 71 59 (.bin .i .leq (.t 64) (.t 70))) 0x1ffffff, vd (gf 72 56 (.pick (.t 59) (.t 71) (cb false))) 0x3ffffff, vd (vo 73 (.pick (.t 56) (cb true) (.t 72))) 0x7ffffff]) (.cond (.t 73) (.seq (.reg [mi 4 2]) .ret) .skip))) (.reg [vm 44 6, bk 45 .add 44 1, vm 6 45]))))))) (.seq (.seq (.reg [vf 74 0 3, vs 75 74, bk 76 .neq 75 1, vm 77 76, gt 78 77 (.fa 3 (.t 3)), gt 79 77 (.ld false 1 (.t 78)), gt 80 77 (.bin .i .neq (.t 79) (ci 0)), gt 81 77 (.mv (.t 80)), gf 82 81 (.fa 4 (.t 3)), gf 83 81 (.ld false 1 (.t 82)), gf 84 81 (.bin .i .neq (.t 83) (ci 0)), gt 85 77 (.pick (.t 81) (cb true) (.t 84)), gt 86 77 (.mv (.t 85)), gf 87 86 (.fa 5 (.t 3)), gf 88 86 (.ld false 1 (.t 87)), gf 89 86 (.bin .i .neq (.t 88) (ci 0)), gt 90 77 (.pick (.t 86) (cb true) (.t 89)), vo 91 (.pick (.t 77) (.t 90) (cb false)), vm 92 91, gf 93 92 (.fa 0 (.t 3)), gf 94 92 (.ld false 1 (.t 93)), gf 95 92 (.bin .i .neq (.t 94) (ci 2)), gf 96 92 (.mv (.t 95)), gt 97 96 (.fa 0 (.t 3)), gt 98 96 (.ld false 1 (.t 97)), gt 99 96 (.bin .i .neq (.t 98) (ci 6)), gf 100 92 (.pick (.t 96) (.t 99) (cb false)), gf 101 92 (.mv (.t 100)), gt 102 101 (.fa 6 (.t 3)), gt 103 101 (.ld false 1 (.t 102)), gf 104 92 (.pick (.t 101) (.t 103) (cb false)), vo 105 (.pick (.t 92) (cb true) (.t 104)), vm 106 105, gf 107 106 (.fa 0 (.t 3)), gf 108 106 (.ld false 1 (.t 107)), gf 109 106 (.bin .i .neq (.t 108) (ci 3)), gf 110 106 (.mv (.t 109)), gt 111 110 (.fa 7 (.t 3)), gt 112 110 (.ld false 1 (.t 111)), gt 113 110 (.len (.t 112)), gt 114 110 (.bin .i .gtr (.t 113) (ci 0)), gf 115 106 (.pick (.t 110) (.t 114) (cb false)), vo 116 (.pick (.t 106) (cb true) (.t 115))]) (.cond (.t 116) (.seq (.reg [mi 4 4]) .ret) .skip)) (.seq (.reg [mi 4 0]) .ret)))))))), [.t 4]⟩
theorem low30 : lowF Tryd.prog 30 = some F30.strip := by kernel_rfl
theorem fok30 : fOk Tryd.prog 30 = true := by kernel_rfl
theorem y0v (p0 : Config) (p1 : Record) (r : Int) (h : zh p0 p1 = some r) : FnRO Tryd.prog G 30 [.agg p0.bx, .agg p1.bx] (fun rs => rs = [.one (.i .i64 r)]) := by
 refine FnRO.of' low30 fok30 (by simp [F30]) ?_
 rw [zh] at h
 replace h := Hd.mk h
 simp only [F30, go_sem]
 try simp only [*, go_sem]
 refine cr h (x0j G p0) (fun v1 h => ?_)
 refine oi h (fun hb2 h => ?_) (fun hb2 h => ?_)
 cases h.e
 simp only [*, go_sem, mA, mS]
 try simp only [*, go_sem]
 refine cr h (zb G p1.Kind 1 6) (fun v3 h => ?_)
 refine oin h (fun hb4 hkhb4 h => ?_) (fun hb4 hkhb4 h => ?_)
 cases h.e
 simp only [*, go_sem, mA, mS]
 try simp only [*, go_sem]
 refine cr h (x1h G p0 p1.Txn) (fun v5 h => ?_)
 refine oin h (fun hb6 hkhb6 h => ?_) (fun hb6 hkhb6 h => ?_)
 cases h.e
 simp only [*, go_sem, mA, mS]
 try simp only [*, go_sem]
 refine cr h (zb G p1.Key 0 7) (fun v7 h => ?_)
 refine oin h (fun hb8 hkhb8 h => ?_) (fun hb8 hkhb8 h => ?_)
 cases h.e
 simp only [*, go_sem, mA, mS]
 try simp only [*, go_sem]
 refine cr h (zb G p1.Value 0 1073741824) (fun v9 h => ?_)
 refine oin h (fun hb10 hkhb10 h => ?_) (fun hb10 hkhb10 h => ?_)
 cases h.e
 simp only [*, go_sem, mA, mS]
 try simp only [*, go_sem]
 refine cr h (zb G p1.Ask 0 1048576) (fun v11 h => ?_)
 refine oin h (fun hb12 hkhb12 h => ?_) (fun hb12 hkhb12 h => ?_)
 cases h.e
 simp only [*, go_sem, mA, mS]
 try simp only [*, go_sem]
 refine jn0 h ([zP 3 0]) ([ox p1.bx]) (fun k14 h => ?_) (fun h => ?_)
 try simp only [*, go_sem]
 refine lp1 (wb p0 p1 k14) (fun a15_1 => [zP 2 0, zP 3 1, zI 6 ((a15_1 : Nat) : Int)]) (fun a15_1 => [ox p0.bx, ox p1.bx]) h [] [some 0, some 1] (fun n16 a15_1 h => ?_) (by intros; rw [wb])
 rw [wb] at h
 try simp only [*, go_sem]
 intro hl17
 refine oi h (fun hb18 h => ?_) (fun hb18 h => ?_)
 have := of_decide_eq_true hb18
 refine obg h (fun x19 _ hkx19 h => ?_)
 refine obk h (fun v20 hv20 h => ?_)
 try simp only [*, go_sem]
 refine cd (zb G x19 0 (IntKind.i64.wrap (p0.Sites - 1)) v20 hv20) ?_
 refine oin h (fun hb21 hkhb21 h => ?_) (fun hb21 hkhb21 h => ?_)
 cases h.e
 simp only [*, go_sem, mA, mS]
 refine oi h (fun hb22 h => ?_) (fun hb22 h => ?_)
 refine obn h (fun x23 _ _ _ _ h => ?_)
 refine oi h (fun hb25 h => ?_) (fun hb25 h => ?_)
 cases h.e
 simp only [*, go_sem, mA, mS]
 have := za hkx19 hl17
 try simp only [*, go_sem]
 exact lc (a15_1 + 1) h.e [some 0, some 1]
 have := za hkx19 hl17
 try simp only [*, go_sem]
 exact lc (a15_1 + 1) h.e [some 0, some 1]
 try simp only [*, go_sem]
 exact jc () h.e [some 1]
 refine oi h (fun hb28 h => ?_) (fun hb28 h => ?_)
 refine oi h (fun hb29 h => ?_) (fun hb29 h => ?_)
 cases h.e
 simp only [*, go_sem, mA, mS]
 refine oi h (fun hb30 h => ?_) (fun hb30 h => ?_)
 cases h.e
 simp only [*, go_sem, mA, mS]
 refine oi h (fun hb31 h => ?_) (fun hb31 h => ?_)
 cases h.e
 simp only [*, go_sem, mA, mS]
 refine oi h (fun hb32 h => ?_) (fun hb32 h => ?_)
 refine oi h (fun hb33 h => ?_) (fun hb33 h => ?_)
 refine oi h (fun hb34 h => ?_) (fun hb34 h => ?_)
 cases h.e
 simp only [*, go_sem, mA, mS]
 refine oi h (fun hb35 h => ?_) (fun hb35 h => ?_)
 try simp only [*, go_sem]
 intro hl36
 refine oi h (fun hb37 h => ?_) (fun hb37 h => ?_)
 cases h.e
 simp only [*, go_sem, mA, mS]
 cases h.e
 simp only [*, go_sem, mA, mS]
 cases h.e
 simp only [*, go_sem, mA, mS]
 refine oi h (fun hb38 h => ?_) (fun hb38 h => ?_)
 try simp only [*, go_sem]
 intro hl39
 refine oi h (fun hb40 h => ?_) (fun hb40 h => ?_)
 cases h.e
 simp only [*, go_sem, mA, mS]
 cases h.e
 simp only [*, go_sem, mA, mS]
 cases h.e
 simp only [*, go_sem, mA, mS]
 refine oi h (fun hb41 h => ?_) (fun hb41 h => ?_)
 try simp only [*, go_sem]
 intro hl42
 refine oi h (fun hb43 h => ?_) (fun hb43 h => ?_)
 cases h.e
 simp only [*, go_sem, mA, mS]
 cases h.e
 simp only [*, go_sem, mA, mS]
 cases h.e
 simp only [*, go_sem, mA, mS]
 refine oi h (fun hb44 h => ?_) (fun hb44 h => ?_)
 refine oi h (fun hb45 h => ?_) (fun hb45 h => ?_)
 refine oi h (fun hb46 h => ?_) (fun hb46 h => ?_)
 cases h.e
 simp only [*, go_sem, mA, mS]
 refine oi h (fun hb47 h => ?_) (fun hb47 h => ?_)
 try simp only [*, go_sem]
 intro hl48
 refine oi h (fun hb49 h => ?_) (fun hb49 h => ?_)
 cases h.e
 simp only [*, go_sem, mA, mS]
 cases h.e
 simp only [*, go_sem, mA, mS]
 cases h.e
 simp only [*, go_sem, mA, mS]
 refine oi h (fun hb50 h => ?_) (fun hb50 h => ?_)
 try simp only [*, go_sem]
 intro hl51
 refine oi h (fun hb52 h => ?_) (fun hb52 h => ?_)
 cases h.e
 simp only [*, go_sem, mA, mS]
 cases h.e
 simp only [*, go_sem, mA, mS]
 cases h.e
 simp only [*, go_sem, mA, mS]
 refine oi h (fun hb53 h => ?_) (fun hb53 h => ?_)
 try simp only [*, go_sem]
 intro hl54
 refine oi h (fun hb55 h => ?_) (fun hb55 h => ?_)
 cases h.e
 simp only [*, go_sem, mA, mS]
 cases h.e
 simp only [*, go_sem, mA, mS]
 cases h.e
 simp only [*, go_sem, mA, mS]
def we (p0 : Store) (p1 : Txn) (k2 : Option (Int)) : Nat → Nat → Option (Int)
 | 0, _ => none
 | n4 + 1, a3_1 => (if (decide (a3_1 < p0.Doubts.length)) = true then (Option.bind (p0.Doubts[a3_1]?) fun x7 => (if ((x7.Txn.Site == p1.Site) && (x7.Txn.N == p1.N)) = true then (some ((a3_1 : Nat) : Int)) else (we p0 p1 k2 n4 (a3_1 + 1)))) else k2)
def yc (p0 : Store) (p1 : Txn) : Option (Int) := (withK (some (-1)) fun k2 => (we p0 p1 k2 (p0.Doubts.length + 1) 0))
def F59 : VFn := ⟨22, (.seq (.reg [vo 2 (.box 4 (.t 0)), vo 3 (.boxk 2 (.t 1)), mi 4 0]) (.seq (.seq (.reg [mi 5 0]) (.wk (.block 0 (.loop (.seq (.seq (.reg [vm 6 5, vf 7 2 2, vs 8 7, ln 9 8, bt 10 .lss 6 9]) (.cond (.t 10) .skip (.exit 0))) (.seq (.block 1 (.seq (.draw [vd (vf 13 2 2) 0, vd (vs 14 13) 1, vd (vm 15 5) 0, vd (xa 16 3 14 15) 7, vd (vf 17 0 16) 15, vd (vl 18 2 17) 31, vd (vl 19 2 3) 0, vd (vo 20 (.eqs false [.i, .i] (.t 18) (.t 19))) 127]) (.cond (.t 20) (.seq (.reg [vm 21 5, vm 4 21]) .ret) .skip))) (.reg [vm 11 5, bk 12 .add 11 1, vm 5 12]))))))) (.seq (.reg [mi 4 (-1)]) .ret))), [.t 4]⟩
theorem low59 : lowF Tryd.prog 59 = some F59.strip := by kernel_rfl
theorem fok59 : fOk Tryd.prog 59 = true := by kernel_rfl
theorem vh (p0 : Store) (p1 : Txn) (r : Int) (h : yc p0 p1 = some r) : FnRO Tryd.prog G 59 [.agg p0.bx, .agg p1.bx] (fun rs => rs = [.one (.i .i64 r)]) := by
 refine FnRO.of' low59 fok59 (by simp [F59]) ?_
 rw [yc] at h
 replace h := Hd.mk h
 simp only [F59, go_sem]
 try simp only [*, go_sem]
 refine jn0 h ([]) ([]) (fun k2 h => ?_) (fun h => ?_)
 try simp only [*, go_sem]
 refine lp1 (we p0 p1 k2) (fun a3_1 => [zP 2 0, zK 3 (Txn.enc p1), zI 5 ((a3_1 : Nat) : Int)]) (fun a3_1 => [ox p0.bx]) h [] [some 0] (fun n4 a3_1 h => ?_) (by intros; rw [we])
 rw [we] at h
 try simp only [*, go_sem]
 intro hl5
 refine oi h (fun hb6 h => ?_) (fun hb6 h => ?_)
 have := of_decide_eq_true hb6
 refine obg h (fun x7 _ hkx7 h => ?_)
 refine oi h (fun hb8 h => ?_) (fun hb8 h => ?_)
 try simp only [*, go_sem]
 cases h.e
 simp only [*, go_sem, mA, mS]
 try simp only [*, go_sem]
 have := za hkx7 hl5
 try simp only [*, go_sem]
 exact lc (a3_1 + 1) h.e [some 0]
 try simp only [*, go_sem]
 exact jc () h.e []
 cases h.e
 simp only [*, go_sem, mA, mS]
def yq (p0 : Txn) : Option (Bool) := (withK (fun (b1_1 : Bool) => (some b1_1)) fun k2 => (Option.bind (xb p0.Site 0 3) fun v3 => (if v3 = true then (Option.bind (xb p0.N 1 1048576) fun v5 => (k2 v5)) else (k2 false))))
def F75 : VFn := ⟨11, (.seq (.reg [vo 1 (.boxk 2 (.t 0)), vo 2 (.mv (cb false))]) (.seq (.wk (.reg [vf 3 0 1, vs 4 3, vo 5 (.call 29 [(.t 4), (ci 0), (ci 3)]), vm 6 5, gt 7 6 (.fa 1 (.t 1)), gt 8 6 (.ld false 1 (.t 7)), gt 9 6 (.call 29 [(.t 8), (ci 1), (ci 1048576)]), vo 10 (.pick (.t 6) (.t 9) (cb false)), vm 2 10])) .ret)), [.t 2]⟩
theorem low75 : lowF Tryd.prog 75 = some F75.strip := by kernel_rfl
theorem fok75 : fOk Tryd.prog 75 = true := by kernel_rfl
theorem w0f (p0 : Txn) (r : Bool) (h : yq p0 = some r) : FnRO Tryd.prog G 75 [.agg p0.bx] (fun rs => rs = [.one (.b r)]) := by
 refine FnRO.of' low75 fok75 (by simp [F75]) ?_
 rw [yq] at h
 replace h := Hd.mk h
 simp only [F75, go_sem]
 try simp only [*, go_sem]
 refine jn1 h (fun b1_1 => [zB 2 b1_1]) (fun b1_1 => []) (fun k2 h => ?_) (fun b1_1 h => ?_)
 try simp only [*, go_sem]
 refine cr h (zb G p0.Site 0 3) (fun v3 h => ?_)
 refine oi h (fun hb4 h => ?_) (fun hb4 h => ?_)
 try simp only [*, go_sem]
 refine cr h (zb G p0.N 1 1048576) (fun v5 h => ?_)
 try simp only [*, go_sem]
 exact jc (v5) h.e []
 try simp only [*, go_sem]
 exact jc (false) h.e []
 cases h.e
 simp only [*, go_sem, mA, mS]
def uf (p0 : Store) (p1 : Txn) (k2 : Option (Bool)) : Nat → Nat → Option (Bool)
 | 0, _ => none
 | n4 + 1, a3_1 => (if (decide (a3_1 < p0.Over.length)) = true then (Option.bind (p0.Over[a3_1]?) fun x7 => (if ((x7.Site == p1.Site) && (x7.N == p1.N)) = true then (some true) else (uf p0 p1 k2 n4 (a3_1 + 1)))) else k2)
def zr (p0 : Store) (p1 : Txn) : Option (Bool) := (withK (some false) fun k2 => (uf p0 p1 k2 (p0.Over.length + 1) 0))
def F56 : VFn := ⟨20, (.seq (.reg [vo 2 (.box 4 (.t 0)), vo 3 (.boxk 2 (.t 1)), vo 4 (.mv (cb false))]) (.seq (.seq (.reg [mi 5 0]) (.wk (.block 0 (.loop (.seq (.seq (.reg [vm 6 5, vf 7 3 2, vs 8 7, ln 9 8, bt 10 .lss 6 9]) (.cond (.t 10) .skip (.exit 0))) (.seq (.block 1 (.seq (.draw [vd (vf 13 3 2) 0, vd (vs 14 13) 1, vd (vm 15 5) 0, vd (xa 16 2 14 15) 7, vd (vl 17 2 16) 15, vd (vl 18 2 3) 0, vd (vo 19 (.eqs false [.i, .i] (.t 17) (.t 18))) 63]) (.cond (.t 19) (.seq (.reg [vo 4 (.mv (cb true))]) .ret) .skip))) (.reg [vm 11 5, bk 12 .add 11 1, vm 5 12]))))))) (.seq (.reg [vo 4 (.mv (cb false))]) .ret))), [.t 4]⟩
theorem low56 : lowF Tryd.prog 56 = some F56.strip := by kernel_rfl
theorem fok56 : fOk Tryd.prog 56 = true := by kernel_rfl
theorem y0e (p0 : Store) (p1 : Txn) (r : Bool) (h : zr p0 p1 = some r) : FnRO Tryd.prog G 56 [.agg p0.bx, .agg p1.bx] (fun rs => rs = [.one (.b r)]) := by
 refine FnRO.of' low56 fok56 (by simp [F56]) ?_
 rw [zr] at h
 replace h := Hd.mk h
 simp only [F56, go_sem]
 try simp only [*, go_sem]
 refine jn0 h ([]) ([]) (fun k2 h => ?_) (fun h => ?_)
 try simp only [*, go_sem]
 refine lp1 (uf p0 p1 k2) (fun a3_1 => [zP 2 0, zK 3 (Txn.enc p1), zI 5 ((a3_1 : Nat) : Int)]) (fun a3_1 => [ox p0.bx]) h [] [some 0] (fun n4 a3_1 h => ?_) (by intros; rw [uf])
 rw [uf] at h
 try simp only [*, go_sem]
 intro hl5
 refine oi h (fun hb6 h => ?_) (fun hb6 h => ?_)
 have := of_decide_eq_true hb6
 refine obg h (fun x7 _ hkx7 h => ?_)
 refine oi h (fun hb8 h => ?_) (fun hb8 h => ?_)
 try simp only [*, go_sem]
 cases h.e
 simp only [*, go_sem, mA, mS]
 try simp only [*, go_sem]
 have := za hkx7 hl5
 try simp only [*, go_sem]
 exact lc (a3_1 + 1) h.e [some 0]
 try simp only [*, go_sem]
 exact jc () h.e []
 cases h.e
 simp only [*, go_sem, mA, mS]
def ue (p0 : Store) (k4 : Option (Bool)) : Nat → Nat → Option (Bool)
 | 0, _ => none
 | n6 + 1, a5_1 => (if (decide (a5_1 < p0.Items.length)) = true then (Option.bind (p0.Items[a5_1]?) fun x9 => (Option.bind (xb x9.Key 0 7) fun v10 => (if (!v10) = true then (some false) else (Option.bind (xb x9.Value 0 1073741824) fun v12 => (if (!v12) = true then (some false) else (Option.bind (xb x9.Version 1 1048576) fun v14 => (if (!v14) = true then (some false) else (if (decide (((a5_1 : Nat) : Int) > 0)) = true then (if 0 ≤ IntKind.i64.wrap (((a5_1 : Nat) : Int) - 1) then (Option.bind (p0.Items[(IntKind.i64.wrap (((a5_1 : Nat) : Int) - 1)).toNat]?) fun x17 => (if (decide (x9.Key ≤ x17.Key)) = true then (some false) else (ue p0 k4 n6 (a5_1 + 1)))) else none) else (ue p0 k4 n6 (a5_1 + 1)))))))))) else k4)
def vg (p0 : Store) (a24_1 : Nat) (x28 : Lock) (k41 : Option (Bool)) : Nat → Nat → Option (Bool)
 | 0, _ => none
 | n43 + 1, a42_1 => (if (decide (a42_1 < a24_1)) = true then (Option.bind (p0.Locks[a42_1]?) fun x45 => (if (x28.Key == x45.Key) = true then (if ((x28.Txn.Site == x45.Txn.Site) && (x28.Txn.N == x45.Txn.N)) = true then (some false) else (if x45.Write = true then (some false) else (vg p0 a24_1 x28 k41 n43 (a42_1 + 1)))) else (vg p0 a24_1 x28 k41 n43 (a42_1 + 1)))) else k41)
def vi (p0 : Store) (a24_1 : Nat) (x28 : Lock) (k53 : Option (Bool)) : Nat → Nat → Option (Bool)
 | 0, _ => none
 | n55 + 1, a54_1 => (if (decide (a54_1 < a24_1)) = true then (Option.bind (p0.Locks[a54_1]?) fun x57 => (if (x28.Key == x57.Key) = true then (if ((x28.Txn.Site == x57.Txn.Site) && (x28.Txn.N == x57.Txn.N)) = true then (some false) else (some false)) else (vi p0 a24_1 x28 k53 n55 (a54_1 + 1)))) else k53)
def ug (p0 : Store) (k23 : Option (Bool)) : Nat → Nat → Option (Bool)
 | 0, _ => none
 | n25 + 1, a24_1 => (if (decide (a24_1 < p0.Locks.length)) = true then (Option.bind (p0.Locks[a24_1]?) fun x28 => (Option.bind (yc p0 x28.Txn) fun v29 => (if (decide (v29 < 0)) = true then (some false) else (Option.bind (xb x28.Key 0 7) fun v31 => (if (!v31) = true then (some false) else (Option.bind (xb x28.Value 0 1073741824) fun v33 => (if (!v33) = true then (some false) else (Option.bind (xb x28.Ask 0 1048576) fun v35 => (if (!v35) = true then (some false) else (if (!x28.Write) = true then (if (x28.Value != 0) = true then (some false) else (if (x28.Ask != 0) = true then (some false) else (withK (ug p0 k23 n25 (a24_1 + 1)) fun k41 => (vg p0 a24_1 x28 k41 (a24_1 + 1) 0)))) else (withK (ug p0 k23 n25 (a24_1 + 1)) fun k53 => (vi p0 a24_1 x28 k53 (a24_1 + 1) 0)))))))))))) else k23)
def yl (p0 : Store) (x68 : Doubt) (k70 : Bool → Option (Bool)) : Nat → Bool → Nat → Option (Bool)
 | 0, _, _ => none
 | n72 + 1, a71_1, a71_2 => (if (decide (a71_2 < p0.Locks.length)) = true then (if a71_1 = true then (yl p0 x68 k70 n72 true (a71_2 + 1)) else (Option.bind (p0.Locks[a71_2]?) fun x77 => (yl p0 x68 k70 n72 ((x77.Txn.Site == x68.Txn.Site) && (x77.Txn.N == x68.Txn.N)) (a71_2 + 1)))) else (k70 a71_1))
def wi (p0 : Store) (k63 : Option (Bool)) : Nat → Nat → Option (Bool)
 | 0, _ => none
 | n65 + 1, a64_1 => (if (decide (a64_1 < p0.Doubts.length)) = true then (Option.bind (p0.Doubts[a64_1]?) fun x68 => (withK (fun (b69_1 : Bool) => (Option.bind (yq x68.Txn) fun v79 => (if (!v79) = true then (some false) else (Option.bind (xb x68.Age 0 1048576) fun v81 => (if (!v81) = true then (some false) else (if (!b69_1) = true then (some false) else (Option.bind (yc p0 x68.Txn) fun v84 => (if (v84 != ((a64_1 : Nat) : Int)) = true then (some false) else (Option.bind (zr p0 x68.Txn) fun v86 => (if v86 = true then (some false) else (wi p0 k63 n65 (a64_1 + 1)))))))))))) fun k70 => (yl p0 x68 k70 (p0.Locks.length + 1) false 0))) else k63)
def wg (p0 : Store) (a91_1 : Nat) (k96 : Option (Bool)) : Nat → Nat → Option (Bool)
 | 0, _ => none
 | n98 + 1, a97_1 => (if (decide (a97_1 < a91_1)) = true then (Option.bind (p0.Over[a97_1]?) fun x100 => (Option.bind (p0.Over[a91_1]?) fun x101 => (if ((x100.Site == x101.Site) && (x100.N == x101.N)) = true then (some false) else (wg p0 a91_1 k96 n98 (a97_1 + 1))))) else k96)
def xi (p0 : Store) (k90 : Option (Bool)) : Nat → Nat → Option (Bool)
 | 0, _ => none
 | n92 + 1, a91_1 => (if (decide (a91_1 < p0.Over.length)) = true then (withK (Option.bind (p0.Over[a91_1]?) fun x104 => (Option.bind (yq x104) fun v105 => (if (!v105) = true then (some false) else (xi p0 k90 n92 (a91_1 + 1))))) fun k96 => (wg p0 a91_1 k96 (a91_1 + 1) 0)) else k90)
def z0b (p0 : Store) : Option (Bool) := (if (decide (((p0.Locks.length : Nat) : Int) > 24)) = true then (some false) else (withK (withK (withK (withK (some true) fun k90 => (xi p0 k90 (p0.Over.length + 1) 0)) fun k63 => (wi p0 k63 (p0.Doubts.length + 1) 0)) fun k23 => (ug p0 k23 (p0.Locks.length + 1) 0)) fun k4 => (ue p0 k4 (p0.Items.length + 1) 0)))
def F74 : VFn := ⟨232, (.seq (.reg [vo 1 (.box 4 (.t 0)), vo 2 (.mv (cb false))]) (.seq (.seq (.reg [vf 15 1 1, vs 16 15, ln 17 16, bk 18 .gtr 17 24]) (.cond (.t 18) (.seq (.reg [vo 2 (.mv (cb false))]) .ret) .skip)) (.seq (.seq (.reg [mi 3 0]) (.wk (.block 0 (.loop (.seq (.seq (.reg [vm 19 3, vf 20 0 1, vs 21 20, ln 22 21, bt 23 .lss 19 22]) (.cond (.t 23) .skip (.exit 0))) (.seq (.block 1 (.seq (.reg [vf 26 0 1, vs 27 26, vm 28 3, xa 29 3 27 28, vl 30 3 29, vo 4 (.alloc [(zi 0), (zi 0), (zi 0)]), vu (.st 3 (.t 4) (.t 30))]) (.seq (.draw [vd (vf 31 0 4) 0, vd (vs 32 31) 1, vd (vo 33 (.call 29 [(.t 32), (ci 0), (ci 7)])) 3, vd (nt 34 33) 7, vd (vm 35 34) 15, vd (gf 36 35 (.fa 1 (.t 4))) 31, vd (gf 37 35 (.ld false 1 (.t 36))) 63, vd (gf 38 35 (.call 29 [(.t 37), (ci 0), (ci 1073741824)])) 127, vd (gf 39 35 (.un .not (.t 38))) 255, vd (vo 40 (.pick (.t 35) (cb true) (.t 39))) 511, vd (vm 41 40) 1023, vd (gf 42 41 (.fa 2 (.t 4))) 2047, vd (gf 43 41 (.ld false 1 (.t 42))) 4095, vd (gf 44 41 (.call 29 [(.t 43), (ci 1), (ci 1048576)])) 8191, vd (gf 45 41 (.un .not (.t 44))) 0x3fff, vd (vo 46 (.pick (.t 41) (cb true) (.t 45))) 0x7fff, vd (vm 47 46) 0xffff, vd (gf 48 47 (.mv (.t 3))) 0x1ffff, vd (gf 49 47 (.bin .i .gtr (.t 48) (ci 0))) 0x3ffff, vd (gf 50 47 (.mv (.t 49))) 0x7ffff, vd (gt 51 50 (.fa 0 (.t 4))) 0xfffff, vd (gt 52 50 (.ld false 1 (.t 51))) 0x1fffff, vd (gt 53 50 (.fa 0 (.t 1))) 0xfffff, vd (gt 54 50 (.ld false 1 (.t 53))) 0x4fffff, vd (gt 55 50 (.mv (.t 3))) 0xfffff, vd (gt 56 50 (.bin .i .sub (.t 55) (ci 1))) 0x10fffff, vd (gt 57 50 (.ia 3 (.t 54) (.t 56))) 0x3cfffff, vd (gt 58 50 (.fa 0 (.t 57))) 0x7cfffff, vd (gt 59 50 (.ld false 1 (.t 58))) 0xfcfffff, vd (gt 60 50 (.bin .i .leq (.t 52) (.t 59))) 0x1fffffff, vd (gf 61 47 (.pick (.t 50) (.t 60) (cb false))) 0x3fffffff, vd (vo 62 (.pick (.t 47) (cb true) (.t 61))) 0x7fffffff]) (.cond (.t 62) (.seq (.reg [vo 2 (.mv (cb false))]) .ret) .skip)))) (.reg [vm 24 3, bk 25 .add 24 1, vm 3 25]))))))) (.seq (.seq (.reg [mi 5 0]) (.wk (.block 2 (.loop (.seq (.seq (.reg [vm 63 5, vf 64 1 1, vs 65 64, ln 66 65, bt 67 .lss 63 66]) (.cond (.t 67) .skip (.exit 2))) (.seq (.block 3 (.seq (.reg [vf 70 1 1, vs 71 70, vm 72 5, xa 73 6 71 72, vl 74 6 73, vo 6 (.alloc [(zi 0), (zi 0), (zi 0), (.d (.b false)), (zi 0), (zi 0)]), vu (.st 6 (.t 6) (.t 74))]) (.seq (.seq (.reg [vl 75 4 1, vf 76 0 6, vl 77 2 76, vo 78 (.call 59 [(.t 75), (.t 77)]), bk 79 .lss 78 0, vm 80 79, gf 81 80 (.fa 2 (.t 6)), gf 82 80 (.ld false 1 (.t 81)), gf 83 80 (.call 29 [(.t 82), (ci 0), (ci 7)]), gf 84 80 (.un .not (.t 83)), vo 85 (.pick (.t 80) (cb true) (.t 84)), vm 86 85, gf 87 86 (.fa 4 (.t 6)), gf 88 86 (.ld false 1 (.t 87)), gf 89 86 (.call 29 [(.t 88), (ci 0), (ci 1073741824)]), gf 90 86 (.un .not (.t 89)), vo 91 (.pick (.t 86) (cb true) (.t 90)), vm 92 91, gf 93 92 (.fa 5 (.t 6)), gf 94 92 (.ld false 1 (.t 93)), gf 95 92 (.call 29 [(.t 94), (ci 0), (ci 1048576)]), gf 96 92 (.un .not (.t 95)), vo 97 (.pick (.t 92) (cb true) (.t 96)), vm 98 97, gf 99 98 (.fa 3 (.t 6)), gf 100 98 (.ld false 1 (.t 99)), gf 101 98 (.un .not (.t 100)), gf 102 98 (.mv (.t 101)), gt 103 102 (.fa 4 (.t 6)), gt 104 102 (.ld false 1 (.t 103)), gt 105 102 (.bin .i .neq (.t 104) (ci 0)), gt 106 102 (.mv (.t 105)), gf 107 106 (.fa 5 (.t 6)), gf 108 106 (.ld false 1 (.t 107)), gf 109 106 (.bin .i .neq (.t 108) (ci 0)), gt 110 102 (.pick (.t 106) (cb true) (.t 109)), gf 111 98 (.pick (.t 102) (.t 110) (cb false)), vo 112 (.pick (.t 98) (cb true) (.t 111))]) (.cond (.t 112) (.seq (.reg [vo 2 (.mv (cb false))]) .ret) .skip)) (.seq (.reg [mi 7 0]) (.wk (.block 4 (.loop (.seq (.seq (.reg [vm 113 7, vm 114 5, bt 115 .lss 113 114]) (.cond (.t 115) .skip (.exit 4))) (.seq (.block 5 (.seq (.reg [vf 118 1 1, vs 119 118, vm 120 7, xa 121 6 119 120, vl 122 6 121, vo 8 (.alloc [(zi 0), (zi 0), (zi 0), (.d (.b false)), (zi 0), (zi 0)]), vu (.st 6 (.t 8) (.t 122))]) (.seq (.reg [vf 123 2 6, vs 124 123, vf 125 2 8, vs 126 125, bt 127 .eql 124 126, vm 128 127, gt 129 128 (.fa 0 (.t 6)), gt 130 128 (.ld true 2 (.t 129)), gt 131 128 (.fa 0 (.t 8)), gt 132 128 (.ld true 2 (.t 131)), gt 133 128 (.eqs false [.i, .i] (.t 130) (.t 132)), gt 134 128 (.mv (.t 133)), gf 135 134 (.fa 3 (.t 6)), gf 136 134 (.ld false 1 (.t 135)), gt 137 128 (.pick (.t 134) (cb true) (.t 136)), gt 138 128 (.mv (.t 137)), gf 139 138 (.fa 3 (.t 8)), gf 140 138 (.ld false 1 (.t 139)), gt 141 128 (.pick (.t 138) (cb true) (.t 140)), vo 142 (.pick (.t 128) (.t 141) (cb false))]) (.cond (.t 142) (.seq (.reg [vo 2 (.mv (cb false))]) .ret) .skip)))) (.reg [vm 116 7, bk 117 .add 116 1, vm 7 117])))))))))) (.reg [vm 68 5, bk 69 .add 68 1, vm 5 69]))))))) (.seq (.seq (.reg [mi 9 0]) (.wk (.block 6 (.loop (.seq (.seq (.reg [vm 143 9, vf 144 2 1, vs 145 144, ln 146 145, bt 147 .lss 143 146]) (.cond (.t 147) .skip (.exit 6))) (.seq (.block 7 (.seq (.reg [vf 150 2 1, vs 151 150, vm 152 9, xa 153 3 151 152, vl 154 3 153, vo 10 (.alloc [(zi 0), (zi 0), (zi 0)]), vu (.st 3 (.t 10) (.t 154))]) (.seq (.reg [vo 11 (.mv (cb false))]) (.seq (.seq (.reg [mi 12 0]) (.wk (.block 8 (.loop (.seq (.seq (.reg [vm 155 12, vf 156 1 1, vs 157 156, ln 158 157, bt 159 .lss 155 158]) (.cond (.t 159) .skip (.exit 8))) (.seq (.block 9 (.draw [vd (vm 162 11) 0, vd (vm 163 162) 1, vd (gf 164 163 (.fa 1 (.t 1))) 3, vd (gf 165 163 (.ld false 1 (.t 164))) 7, vd (gf 166 163 (.mv (.t 12))) 3, vd (gf 167 163 (.ia 6 (.t 165) (.t 166))) 31, vd (gf 168 163 (.fa 0 (.t 167))) 63, vd (gf 169 163 (.ld true 2 (.t 168))) 127, vd (gf 170 163 (.fa 0 (.t 10))) 3, vd (gf 171 163 (.ld true 2 (.t 170))) 259, vd (gf 172 163 (.eqs false [.i, .i] (.t 169) (.t 171))) 1023, vd (vo 173 (.pick (.t 163) (cb true) (.t 172))) 2047, vd (vm 11 173) 4095])) (.reg [vm 160 12, bk 161 .add 160 1, vm 12 161]))))))) (.seq (.reg [vf 174 0 10, vl 175 2 174, vo 176 (.call 75 [(.t 175)]), nt 177 176, vm 178 177, gf 179 178 (.fa 2 (.t 10)), gf 180 178 (.ld false 1 (.t 179)), gf 181 178 (.call 29 [(.t 180), (ci 0), (ci 1048576)]), gf 182 178 (.un .not (.t 181)), vo 183 (.pick (.t 178) (cb true) (.t 182)), vm 184 183, gf 185 184 (.mv (.t 11)), gf 186 184 (.un .not (.t 185)), vo 187 (.pick (.t 184) (cb true) (.t 186)), vm 188 187, gf 189 188 (.ld true 4 (.t 1)), gf 190 188 (.fa 0 (.t 10)), gf 191 188 (.ld true 2 (.t 190)), gf 192 188 (.call 59 [(.t 189), (.t 191)]), gf 193 188 (.mv (.t 9)), gf 194 188 (.bin .i .neq (.t 192) (.t 193)), vo 195 (.pick (.t 188) (cb true) (.t 194)), vm 196 195, gf 197 196 (.ld true 4 (.t 1)), gf 198 196 (.fa 0 (.t 10)), gf 199 196 (.ld true 2 (.t 198)), gf 200 196 (.call 56 [(.t 197), (.t 199)]), vo 201 (.pick (.t 196) (cb true) (.t 200))]) (.cond (.t 201) (.seq (.reg [vo 2 (.mv (cb false))]) .ret) .skip)))))) (.reg [vm 148 9, bk 149 .add 148 1, vm 9 149]))))))) (.seq (.seq (.reg [mi 13 0]) (.wk (.block 10 (.loop (.seq (.seq (.reg [vm 202 13, vf 203 3 1, vs 204 203, ln 205 204, bt 206 .lss 202 205]) (.cond (.t 206) .skip (.exit 10))) (.seq (.block 11 (.seq (.seq (.reg [mi 14 0]) (.wk (.block 12 (.loop (.seq (.seq (.reg [vm 209 14, vm 210 13, bt 211 .lss 209 210]) (.cond (.t 211) .skip (.exit 12))) (.seq (.block 13 (.seq (.draw [vd (vf 214 3 1) 0, vd (vs 215 214) 1, vd (vm 216 14) 0, vd (xa 217 2 215 216) 7, vd (vl 218 2 217) 15, vd (vf 219 3 1) 0, vd (vs 220 219) 32, vd (vm 221 13) 0, vd (xa 222 2 220 221) 224, vd (vl 223 2 222) 480, vd (vo 224 (.eqs false [.i, .i] (.t 218) (.t 223))) 1023]) (.cond (.t 224) (.seq (.reg [vo 2 (.mv (cb false))]) .ret) .skip))) (.reg [vm 212 14, bk 213 .add 212 1, vm 14 213]))))))) (.seq (.reg [vf 225 3 1, vs 226 225, vm 227 13, xa 228 2 226 227, vl 229 2 228, vo 230 (.call 75 [(.t 229)]), nt 231 230]) (.cond (.t 231) (.seq (.reg [vo 2 (.mv (cb false))]) .ret) .skip)))) (.reg [vm 207 13, bk 208 .add 207 1, vm 13 208]))))))) (.seq (.reg [vo 2 (.mv (cb true))]) .ret))))))), [.t 2]⟩
theorem low74 : lowF Tryd.prog 74 = some F74.strip := by kernel_rfl
theorem fok74 : fOk Tryd.prog 74 = true := by kernel_rfl
theorem u1c (p0 : Store) (r : Bool) (h : z0b p0 = some r) : FnRO Tryd.prog G 74 [.agg p0.bx] (fun rs => rs = [.one (.b r)]) := by
 refine FnRO.of' low74 fok74 (by simp [F74]) ?_
 rw [z0b] at h
 replace h := Hd.mk h
 simp only [F74, go_sem]
 try simp only [*, go_sem]
 intro hl1
 refine oi h (fun hb2 h => ?_) (fun hb2 h => ?_)
 cases h.e
 simp only [*, go_sem, mA, mS]
 try simp only [*, go_sem]
 refine jn0 h ([zP 1 0]) ([ox p0.bx]) (fun k4 h => ?_) (fun h => ?_)
 try simp only [*, go_sem]
 refine lp1 (ue p0 k4) (fun a5_1 => [zP 1 0, zI 3 ((a5_1 : Nat) : Int)]) (fun a5_1 => [ox p0.bx]) h [] [some 0] (fun n6 a5_1 h => ?_) (by intros; rw [ue])
 rw [ue] at h
 try simp only [*, go_sem]
 intro hl7
 refine oi h (fun hb8 h => ?_) (fun hb8 h => ?_)
 have := of_decide_eq_true hb8
 refine obg h (fun x9 _ hkx9 h => ?_)
 refine obk h (fun v10 hv10 h => ?_)
 try simp only [*, go_sem]
 refine cd (zb G x9.Key 0 7 v10 hv10) ?_
 refine oin h (fun hb11 hkhb11 h => ?_) (fun hb11 hkhb11 h => ?_)
 cases h.e
 simp only [*, go_sem, mA, mS]
 refine obk h (fun v12 hv12 h => ?_)
 try simp only [*, go_sem]
 refine cd (zb G x9.Value 0 1073741824 v12 hv12) ?_
 refine oin h (fun hb13 hkhb13 h => ?_) (fun hb13 hkhb13 h => ?_)
 cases h.e
 simp only [*, go_sem, mA, mS]
 refine obk h (fun v14 hv14 h => ?_)
 try simp only [*, go_sem]
 refine cd (zb G x9.Version 1 1048576 v14 hv14) ?_
 refine oin h (fun hb15 hkhb15 h => ?_) (fun hb15 hkhb15 h => ?_)
 cases h.e
 simp only [*, go_sem, mA, mS]
 refine oi h (fun hb16 h => ?_) (fun hb16 h => ?_)
 refine obn h (fun x17 _ _ _ _ h => ?_)
 refine oi h (fun hb19 h => ?_) (fun hb19 h => ?_)
 cases h.e
 simp only [*, go_sem, mA, mS]
 have := za hkx9 hl7
 try simp only [*, go_sem]
 exact lc (a5_1 + 1) h.e [some 0]
 have := za hkx9 hl7
 try simp only [*, go_sem]
 exact lc (a5_1 + 1) h.e [some 0]
 try simp only [*, go_sem]
 exact jc () h.e [some 0]
 try simp only [*, go_sem]
 refine jn0 h ([zP 1 0]) ([ox p0.bx]) (fun k23 h => ?_) (fun h => ?_)
 try simp only [*, go_sem]
 refine lp1 (ug p0 k23) (fun a24_1 => [zP 1 0, zI 5 ((a24_1 : Nat) : Int)]) (fun a24_1 => [ox p0.bx]) h [] [some 0] (fun n25 a24_1 h => ?_) (by intros; rw [ug])
 rw [ug] at h
 try simp only [*, go_sem]
 intro hl26
 refine oi h (fun hb27 h => ?_) (fun hb27 h => ?_)
 have := of_decide_eq_true hb27
 refine obg h (fun x28 _ hkx28 h => ?_)
 try simp only [*, go_sem]
 refine cr h (vh G p0 x28.Txn) (fun v29 h => ?_)
 refine oi h (fun hb30 h => ?_) (fun hb30 h => ?_)
 have := of_decide_eq_true hb30
 cases h.e
 simp only [*, go_sem, mA, mS]
 try simp only [*, go_sem]
 refine cr h (zb G x28.Key 0 7) (fun v31 h => ?_)
 refine oin h (fun hb32 hkhb32 h => ?_) (fun hb32 hkhb32 h => ?_)
 cases h.e
 simp only [*, go_sem, mA, mS]
 try simp only [*, go_sem]
 refine cr h (zb G x28.Value 0 1073741824) (fun v33 h => ?_)
 refine oin h (fun hb34 hkhb34 h => ?_) (fun hb34 hkhb34 h => ?_)
 cases h.e
 simp only [*, go_sem, mA, mS]
 try simp only [*, go_sem]
 refine cr h (zb G x28.Ask 0 1048576) (fun v35 h => ?_)
 refine oin h (fun hb36 hkhb36 h => ?_) (fun hb36 hkhb36 h => ?_)
 cases h.e
 simp only [*, go_sem, mA, mS]
 refine oin h (fun hb37 hkhb37 h => ?_) (fun hb37 hkhb37 h => ?_)
 refine oi h (fun hb38 h => ?_) (fun hb38 h => ?_)
 cases h.e
 simp only [*, go_sem, mA, mS]
 refine oi h (fun hb39 h => ?_) (fun hb39 h => ?_)
 cases h.e
 simp only [*, go_sem, mA, mS]
 try simp only [*, go_sem]
 refine jn0 h ([zP 1 0, zI 5 ((a24_1 : Nat) : Int), (81, .one (.p (.q 1 0 2))), zI 82 x28.Key, zB 83 true, zB 84 false, (87, .one (.p (.q 1 0 4))), zI 88 x28.Value, zB 89 true, zB 90 false, (93, .one (.p (.q 1 0 5))), zI 94 x28.Ask, zB 95 true, zB 96 false, (99, .one (.p (.q 1 0 3))), zB 100 false, zB 101 true, zB 102 true, (103, .one (.p (.q 1 0 4))), zI 104 x28.Value, zB 105 false, zB 106 false, (107, .one (.p (.q 1 0 5))), zI 108 x28.Ask, zB 109 false, zB 110 false, zB 111 false]) ([ox p0.bx, ox [zi x28.Txn.Site, zi x28.Txn.N, zi x28.Key, .d (.b false), zi x28.Value, zi x28.Ask]]) (fun k41 h => ?_) (fun h => ?_)
 try simp only [*, go_sem]
 refine lp1 (vg p0 a24_1 x28 k41) (fun a42_1 => [zP 1 0, zI 5 ((a24_1 : Nat) : Int), zP 6 1, zI 7 ((a42_1 : Nat) : Int), (81, .one (.p (.q 1 0 2))), zI 82 x28.Key, zB 83 true, zB 84 false, (87, .one (.p (.q 1 0 4))), zI 88 x28.Value, zB 89 true, zB 90 false, (93, .one (.p (.q 1 0 5))), zI 94 x28.Ask, zB 95 true, zB 96 false, (99, .one (.p (.q 1 0 3))), zB 100 false, zB 101 true, zB 102 true, (103, .one (.p (.q 1 0 4))), zI 104 x28.Value, zB 105 false, zB 106 false, (107, .one (.p (.q 1 0 5))), zI 108 x28.Ask, zB 109 false, zB 110 false, zB 111 false]) (fun a42_1 => [ox p0.bx, ox [zi x28.Txn.Site, zi x28.Txn.N, zi x28.Key, .d (.b false), zi x28.Value, zi x28.Ask]]) h [] [some 0, some 1] (fun n43 a42_1 h => ?_) (by intros; rw [vg])
 rw [vg] at h
 refine oi h (fun hb44 h => ?_) (fun hb44 h => ?_)
 have := of_decide_eq_true hb44
 refine obg h (fun x45 _ hkx45 h => ?_)
 refine oi h (fun hb46 h => ?_) (fun hb46 h => ?_)
 refine oi h (fun hb47 h => ?_) (fun hb47 h => ?_)
 try simp only [*, go_sem]
 cases h.e
 simp only [*, go_sem, mA, mS]
 try simp only [*, go_sem]
 refine oi h (fun hb48 h => ?_) (fun hb48 h => ?_)
 cases h.e
 simp only [*, go_sem, mA, mS]
 have := za hkx45 hl1
 try simp only [*, go_sem]
 exact lc (a42_1 + 1) h.e [some 0, some 1]
 have := za hkx45 hl1
 try simp only [*, go_sem]
 exact lc (a42_1 + 1) h.e [some 0, some 1]
 try simp only [*, go_sem]
 exact jc () h.e [some 0, some 1]
 have := za hkx28 hl1
 try simp only [*, go_sem]
 exact lc (a24_1 + 1) h.e [some 0]
 try simp only [*, go_sem]
 refine jn0 h ([zP 1 0, zI 5 ((a24_1 : Nat) : Int), (81, .one (.p (.q 1 0 2))), zI 82 x28.Key, zB 83 true, zB 84 false, (87, .one (.p (.q 1 0 4))), zI 88 x28.Value, zB 89 true, zB 90 false, (93, .one (.p (.q 1 0 5))), zI 94 x28.Ask, zB 95 true, zB 96 false, (99, .one (.p (.q 1 0 3))), zB 100 true, zB 101 false, zB 102 false, zB 111 false]) ([ox p0.bx, ox [zi x28.Txn.Site, zi x28.Txn.N, zi x28.Key, .d (.b true), zi x28.Value, zi x28.Ask]]) (fun k53 h => ?_) (fun h => ?_)
 try simp only [*, go_sem]
 refine lp1 (vi p0 a24_1 x28 k53) (fun a54_1 => [zP 1 0, zI 5 ((a24_1 : Nat) : Int), zP 6 1, zI 7 ((a54_1 : Nat) : Int), (81, .one (.p (.q 1 0 2))), zI 82 x28.Key, zB 83 true, zB 84 false, (87, .one (.p (.q 1 0 4))), zI 88 x28.Value, zB 89 true, zB 90 false, (93, .one (.p (.q 1 0 5))), zI 94 x28.Ask, zB 95 true, zB 96 false, (99, .one (.p (.q 1 0 3))), zB 100 true, zB 101 false, zB 102 false, zB 111 false]) (fun a54_1 => [ox p0.bx, ox [zi x28.Txn.Site, zi x28.Txn.N, zi x28.Key, .d (.b true), zi x28.Value, zi x28.Ask]]) h [] [some 0, some 1] (fun n55 a54_1 h => ?_) (by intros; rw [vi])
 rw [vi] at h
 refine oi h (fun hb56 h => ?_) (fun hb56 h => ?_)
 have := of_decide_eq_true hb56
 refine obg h (fun x57 _ hkx57 h => ?_)
 refine oi h (fun hb58 h => ?_) (fun hb58 h => ?_)
 refine oi h (fun hb59 h => ?_) (fun hb59 h => ?_)
 try simp only [*, go_sem]
 cases h.e
 simp only [*, go_sem, mA, mS]
 try simp only [*, go_sem]
 cases h.e
 simp only [*, go_sem, mA, mS]
 have := za hkx57 hl1
 try simp only [*, go_sem]
 exact lc (a54_1 + 1) h.e [some 0, some 1]
 try simp only [*, go_sem]
 exact jc () h.e [some 0, some 1]
 have := za hkx28 hl1
 try simp only [*, go_sem]
 exact lc (a24_1 + 1) h.e [some 0]
 try simp only [*, go_sem]
 exact jc () h.e [some 0]
 try simp only [*, go_sem]
 refine jn0 h ([zP 1 0]) ([ox p0.bx]) (fun k63 h => ?_) (fun h => ?_)
 try simp only [*, go_sem]
 refine lp1 (wi p0 k63) (fun a64_1 => [zP 1 0, zI 9 ((a64_1 : Nat) : Int)]) (fun a64_1 => [ox p0.bx]) h [] [some 0] (fun n65 a64_1 h => ?_) (by intros; rw [wi])
 rw [wi] at h
 try simp only [*, go_sem]
 intro hl66
 refine oi h (fun hb67 h => ?_) (fun hb67 h => ?_)
 have := of_decide_eq_true hb67
 refine obg h (fun x68 _ hkx68 h => ?_)
 try simp only [*, go_sem]
 refine jn1 h (fun b69_1 => [zP 1 0, zI 9 ((a64_1 : Nat) : Int), zP 10 1, zB 11 b69_1]) (fun b69_1 => [ox p0.bx, ox x68.bx]) (fun k70 h => ?_) (fun b69_1 h => ?_)
 try simp only [*, go_sem]
 refine lp2 (yl p0 x68 k70) (fun a71_1 a71_2 => [zP 1 0, zI 9 ((a64_1 : Nat) : Int), zP 10 1, zB 11 a71_1, zI 12 ((a71_2 : Nat) : Int)]) (fun a71_1 a71_2 => [ox p0.bx, ox x68.bx]) h [] [some 0, some 1] (fun n72 a71_1 a71_2 h => ?_) (by intros; rw [yl])
 rw [yl] at h
 try simp only [*, go_sem]
 intro hl73
 refine oi h (fun hb74 h => ?_) (fun hb74 h => ?_)
 have hkhb74 := of_decide_eq_true hb74
 refine oi h (fun hb75 h => ?_) (fun hb75 h => ?_)
 have := za hkhb74 hl1
 try simp only [*, go_sem]
 exact lc (true, a71_2 + 1) h.e [some 0, some 1]
 refine obg h (fun x77 _ hkx77 h => ?_)
 have := za hkx77 hl1
 try simp only [*, go_sem]
 exact lc ((x77.Txn.Site == x68.Txn.Site) && (x77.Txn.N == x68.Txn.N), a71_2 + 1) h.e [some 0, some 1]
 try simp only [*, go_sem]
 exact jc (a71_1) h.e [some 0, some 1]
 try simp only [*, go_sem]
 refine cr h (w0f G x68.Txn) (fun v79 h => ?_)
 refine oin h (fun hb80 hkhb80 h => ?_) (fun hb80 hkhb80 h => ?_)
 cases h.e
 simp only [*, go_sem, mA, mS]
 try simp only [*, go_sem]
 refine cr h (zb G x68.Age 0 1048576) (fun v81 h => ?_)
 refine oin h (fun hb82 hkhb82 h => ?_) (fun hb82 hkhb82 h => ?_)
 cases h.e
 simp only [*, go_sem, mA, mS]
 refine oin h (fun hb83 hkhb83 h => ?_) (fun hb83 hkhb83 h => ?_)
 cases h.e
 simp only [*, go_sem, mA, mS]
 try simp only [*, go_sem]
 refine cr h (vh G p0 x68.Txn) (fun v84 h => ?_)
 refine oi h (fun hb85 h => ?_) (fun hb85 h => ?_)
 cases h.e
 simp only [*, go_sem, mA, mS]
 try simp only [*, go_sem]
 refine cr h (y0e G p0 x68.Txn) (fun v86 h => ?_)
 refine oi h (fun hb87 h => ?_) (fun hb87 h => ?_)
 cases h.e
 simp only [*, go_sem, mA, mS]
 have := za hkx68 hl66
 try simp only [*, go_sem]
 exact lc (a64_1 + 1) h.e [some 0]
 try simp only [*, go_sem]
 exact jc () h.e [some 0]
 try simp only [*, go_sem]
 refine jn0 h ([]) ([]) (fun k90 h => ?_) (fun h => ?_)
 try simp only [*, go_sem]
 refine lp1 (xi p0 k90) (fun a91_1 => [zP 1 0, zI 13 ((a91_1 : Nat) : Int)]) (fun a91_1 => [ox p0.bx]) h [] [some 0] (fun n92 a91_1 h => ?_) (by intros; rw [xi])
 rw [xi] at h
 try simp only [*, go_sem]
 intro hl93
 refine oi h (fun hb94 h => ?_) (fun hb94 h => ?_)
 have := of_decide_eq_true hb94
 try simp only [*, go_sem]
 refine jn0 h ([zP 1 0, zI 13 ((a91_1 : Nat) : Int)]) ([ox p0.bx]) (fun k96 h => ?_) (fun h => ?_)
 try simp only [*, go_sem]
 refine lp1 (wg p0 a91_1 k96) (fun a97_1 => [zP 1 0, zI 13 ((a91_1 : Nat) : Int), zI 14 ((a97_1 : Nat) : Int)]) (fun a97_1 => [ox p0.bx]) h [] [some 0] (fun n98 a97_1 h => ?_) (by intros; rw [wg])
 rw [wg] at h
 refine oi h (fun hb99 h => ?_) (fun hb99 h => ?_)
 have := of_decide_eq_true hb99
 refine obg h (fun x100 _ hkx100 h => ?_)
 refine obg h (fun x101 _ _ h => ?_)
 refine oi h (fun hb102 h => ?_) (fun hb102 h => ?_)
 try simp only [*, go_sem]
 cases h.e
 simp only [*, go_sem, mA, mS]
 try simp only [*, go_sem]
 have := za hkx100 hl93
 try simp only [*, go_sem]
 exact lc (a97_1 + 1) h.e [some 0]
 try simp only [*, go_sem]
 exact jc () h.e [some 0]
 refine obg h (fun x104 _ hkx104 h => ?_)
 try simp only [*, go_sem]
 refine cr h (w0f G x104) (fun v105 h => ?_)
 refine oin h (fun hb106 hkhb106 h => ?_) (fun hb106 hkhb106 h => ?_)
 cases h.e
 simp only [*, go_sem, mA, mS]
 have := za hkx104 hl93
 try simp only [*, go_sem]
 exact lc (a91_1 + 1) h.e [some 0]
 try simp only [*, go_sem]
 exact jc () h.e []
 cases h.e
 simp only [*, go_sem, mA, mS]
def xv (p0 : Store) (p1 : Txn) (p2 : Int) : Option (Int) := (Option.bind (z0b p0) fun v1 => (if (!v1) = true then (some 9) else (Option.bind (yq p1) fun v3 => (if (!v3) = true then (some 2) else (Option.bind (xb p2 0 7) fun v5 => (if (!v5) = true then (some 2) else (some 0)))))))
def F53 : VFn := ⟨18, (.seq (.reg [vo 3 (.boxk 4 (.t 0)), vo 4 (.boxk 2 (.t 1)), mi 6 0]) (.seq (.seq (.reg [vl 7 4 3, vo 8 (.call 74 [(.t 7)]), nt 9 8]) (.cond (.t 9) (.seq (.reg [mi 6 9]) .ret) .skip)) (.seq (.seq (.reg [vl 10 2 4, vo 11 (.call 75 [(.t 10)]), nt 12 11, vm 13 12, gf 14 13 (.mv (.t 2)), gf 15 13 (.call 29 [(.t 14), (ci 0), (ci 7)]), gf 16 13 (.un .not (.t 15)), vo 17 (.pick (.t 13) (cb true) (.t 16))]) (.cond (.t 17) (.seq (.reg [mi 6 2]) .ret) .skip)) (.seq (.reg [mi 6 0]) .ret)))), [.t 6]⟩
theorem low53 : lowF Tryd.prog 53 = some F53.strip := by kernel_rfl
theorem fok53 : fOk Tryd.prog 53 = true := by kernel_rfl
theorem z0m (p0 : Store) (p1 : Txn) (p2 : Int) (r : Int) (h : xv p0 p1 p2 = some r) : FnRO Tryd.prog G 53 [.agg p0.bx, .agg p1.bx, .one (.d (.i .i64 p2))] (fun rs => rs = [.one (.i .i64 r)]) := by
 refine FnRO.of' low53 fok53 (by simp [F53]) ?_
 rw [xv] at h
 replace h := Hd.mk h
 simp only [F53, go_sem]
 try simp only [*, go_sem]
 refine cr h (u1c G p0) (fun v1 h => ?_)
 refine oin h (fun hb2 hkhb2 h => ?_) (fun hb2 hkhb2 h => ?_)
 cases h.e
 simp only [*, go_sem, mA, mS]
 try simp only [*, go_sem]
 refine cr h (w0f G p1) (fun v3 h => ?_)
 refine oin h (fun hb4 hkhb4 h => ?_) (fun hb4 hkhb4 h => ?_)
 cases h.e
 simp only [*, go_sem, mA, mS]
 try simp only [*, go_sem]
 refine cr h (zb G p2 0 7) (fun v5 h => ?_)
 refine oin h (fun hb6 hkhb6 h => ?_) (fun hb6 hkhb6 h => ?_)
 cases h.e
 simp only [*, go_sem, mA, mS]
 cases h.e
 simp only [*, go_sem, mA, mS]
def yh (p0 : Store) (p1 : Txn) (p2 : Int) (k2 : Int → Int → Option (Int × Int)) : Nat → Int → Int → Nat → Option (Int × Int)
 | 0, _, _, _ => none
 | n4 + 1, a3_1, a3_2, a3_3 => (if (decide (a3_3 < p0.Locks.length)) = true then (Option.bind (p0.Locks[a3_3]?) fun x7 => (if (x7.Key == p2) = true then (withK (fun (b9_1 : Int) (b9_2 : Int) (b9_3 : Bool) => (yh p0 p1 p2 k2 n4 b9_1 b9_2 (a3_3 + 1))) fun k10 => (if (!((x7.Txn.Site == p1.Site) && (x7.Txn.N == p1.N))) = true then (withK (fun (b12_1 : Int) => (k10 (IntKind.i64.wrap (a3_1 + 1)) b12_1 true)) fun k13 => (if x7.Write = true then (k13 (IntKind.i64.wrap (a3_2 + 1))) else (k13 a3_2))) else (k10 a3_1 a3_2 false))) else (withK (yh p0 p1 p2 k2 n4 a3_1 a3_2 (a3_3 + 1)) fun k17 => k17))) else (k2 a3_1 a3_2))
def uy (p0 : Store) (p1 : Txn) (p2 : Int) : Option (Int × Int) := (withK (fun (b1_1 : Int) (b1_2 : Int) => (some (b1_1, b1_2))) fun k2 => (yh p0 p1 p2 k2 (p0.Locks.length + 1) 0 0 0))
def F54 : VFn := ⟨48, (.seq (.reg [vo 3 (.boxk 4 (.t 0)), vo 4 (.boxk 2 (.t 1)), mi 6 0, mi 7 0]) (.seq (.reg [mi 8 0]) (.seq (.reg [mi 9 0]) (.seq (.seq (.reg [mi 10 0]) (.wk (.block 0 (.loop (.seq (.seq (.reg [vm 11 10, vf 12 1 3, vs 13 12, ln 14 13, bt 15 .lss 11 14]) (.cond (.t 15) .skip (.exit 0))) (.seq (.block 1 (.seq (.draw [vd (vf 18 1 3) 0, vd (vs 19 18) 1, vd (vm 20 10) 0, vd (xa 21 6 19 20) 7, vd (vf 22 2 21) 15, vd (vs 23 22) 31, vd (vm 24 2) 0, vd (bt 25 .eql 23 24) 127, vd (vm 26 25) 255, vd (gt 27 26 (.fa 1 (.t 3))) 511, vd (gt 28 26 (.ld false 1 (.t 27))) 1023, vd (gt 29 26 (.mv (.t 10))) 511, vd (gt 30 26 (.ia 6 (.t 28) (.t 29))) 4095, vd (gt 31 26 (.fa 0 (.t 30))) 8191, vd (gt 32 26 (.ld true 2 (.t 31))) 0x3fff, vd (gt 33 26 (.ld true 2 (.t 4))) 511, vd (gt 34 26 (.eqs true [.i, .i] (.t 32) (.t 33))) 0xffff, vd (vo 35 (.pick (.t 26) (.t 34) (cb false))) 0x1ffff]) (.wk (.cond (.t 35) (.seq (.reg [vm 36 8, bk 37 .add 36 1, vm 8 37]) (.seq (.reg [vf 38 1 3, vs 39 38, vm 40 10, xa 41 6 39 40, vf 42 3 41, vs 43 42]) (.wk (.cond (.t 43) (.reg [vm 44 9, bk 45 .add 44 1, vm 9 45]) .skip)))) .skip)))) (.reg [vm 16 10, bk 17 .add 16 1, vm 10 17]))))))) (.seq (.reg [vm 46 8, vm 47 9, vm 6 46, vm 7 47]) .ret))))), [.t 6, .t 7]⟩
theorem low54 : lowF Tryd.prog 54 = some F54.strip := by kernel_rfl
theorem fok54 : fOk Tryd.prog 54 = true := by kernel_rfl
theorem w0q (p0 : Store) (p1 : Txn) (p2 : Int) (r : Int × Int) (h : uy p0 p1 p2 = some r) : FnRO Tryd.prog G 54 [.agg p0.bx, .agg p1.bx, .one (.d (.i .i64 p2))] (fun rs => rs = [.one (.i .i64 r.1), .one (.i .i64 r.2)]) := by
 refine FnRO.of' low54 fok54 (by simp [F54]) ?_
 rw [uy] at h
 replace h := Hd.mk h
 simp only [F54, go_sem]
 try simp only [*, go_sem]
 refine jn2 h (fun b1_1 b1_2 => [zI 8 b1_1, zI 9 b1_2]) (fun b1_1 b1_2 => []) (fun k2 h => ?_) (fun b1_1 b1_2 h => ?_)
 try simp only [*, go_sem]
 refine lp3 (yh p0 p1 p2 k2) (fun a3_1 a3_2 a3_3 => [zI 2 p2, zK 3 (Store.enc p0), zK 4 (Txn.enc p1), zI 8 a3_1, zI 9 a3_2, zI 10 ((a3_3 : Nat) : Int)]) (fun a3_1 a3_2 a3_3 => []) h [] [] (fun n4 a3_1 a3_2 a3_3 h => ?_) (by intros; rw [yh])
 rw [yh] at h
 try simp only [*, go_sem]
 intro hl5
 refine oi h (fun hb6 h => ?_) (fun hb6 h => ?_)
 have := of_decide_eq_true hb6
 refine obg h (fun x7 _ hkx7 h => ?_)
 refine oi h (fun hb8 h => ?_) (fun hb8 h => ?_)
 try simp only [*, go_sem]
 refine jn3 h (fun b9_1 b9_2 b9_3 => [zI 2 p2, zK 3 (Store.enc p0), zK 4 (Txn.enc p1), zI 8 b9_1, zI 9 b9_2, zI 10 ((a3_3 : Nat) : Int), (27, .one (.p (.l 4 [(Store.enc p0)] 0 1))), zL 28 6 (p0.Locks.map Lock.enc), zI 29 ((a3_3 : Nat) : Int), (30, .one (.p (.l 6 (p0.Locks.map Lock.enc) a3_3 0))), (31, .one (.p (.l 6 (p0.Locks.map Lock.enc) a3_3 0))), (32, .agg [zi x7.Txn.Site, zi x7.Txn.N]), (33, .agg [zi p1.Site, zi p1.N]), zB 34 b9_3]) (fun b9_1 b9_2 b9_3 => []) (fun k10 h => ?_) (fun b9_1 b9_2 b9_3 h => ?_)
 refine oin h (fun hb11 hkhb11 h => ?_) (fun hb11 hkhb11 h => ?_)
 try simp only [*, go_sem]
 try simp only [*, go_sem]
 refine jn1 h (fun b12_1 => [zI 2 p2, zK 3 (Store.enc p0), zK 4 (Txn.enc p1), zI 8 (IntKind.i64.wrap (a3_1 + 1)), zI 9 b12_1, zI 10 ((a3_3 : Nat) : Int), (27, .one (.p (.l 4 [(Store.enc p0)] 0 1))), zL 28 6 (p0.Locks.map Lock.enc), zI 29 ((a3_3 : Nat) : Int), (30, .one (.p (.l 6 (p0.Locks.map Lock.enc) a3_3 0))), (31, .one (.p (.l 6 (p0.Locks.map Lock.enc) a3_3 0))), (32, .agg [zi x7.Txn.Site, zi x7.Txn.N]), (33, .agg [zi p1.Site, zi p1.N]), zB 34 true]) (fun b12_1 => []) (fun k13 h => ?_) (fun b12_1 h => ?_)
 refine oi h (fun hb14 h => ?_) (fun hb14 h => ?_)
 try simp only [*, go_sem]
 exact jc (IntKind.i64.wrap (a3_2 + 1)) h.e []
 try simp only [*, go_sem]
 exact jc (a3_2) h.e []
 try simp only [*, go_sem]
 exact jc (IntKind.i64.wrap (a3_1 + 1), b12_1, true) h.e []
 try simp only [*, go_sem]
 try simp only [*, go_sem]
 exact jc (a3_1, a3_2, false) h.e []
 have := za hkx7 hl5
 try simp only [*, go_sem]
 exact lc (b9_1, b9_2, a3_3 + 1) h.e []
 try simp only [*, go_sem]
 refine jn0 h ([zI 2 p2, zK 3 (Store.enc p0), zK 4 (Txn.enc p1), zI 8 a3_1, zI 9 a3_2, zI 10 ((a3_3 : Nat) : Int)]) ([]) (fun k17 h => ?_) (fun h => ?_)
 try simp only [*, go_sem]
 exact jc () h.e []
 have := za hkx7 hl5
 try simp only [*, go_sem]
 exact lc (a3_1, a3_2, a3_3 + 1) h.e []
 try simp only [*, go_sem]
 exact jc (a3_1, a3_2) h.e []
 cases h.e
 simp only [*, go_sem, mA, mS]
def ub (p0 : Store) (p1 : Txn) (p2 : Int) (k2 : Option (Int)) : Nat → Nat → Option (Int)
 | 0, _ => none
 | n4 + 1, a3_1 => (if (decide (a3_1 < p0.Locks.length)) = true then (Option.bind (p0.Locks[a3_1]?) fun x7 => (if ((x7.Txn.Site == p1.Site) && (x7.Txn.N == p1.N)) = true then (if (x7.Key == p2) = true then (some ((a3_1 : Nat) : Int)) else (ub p0 p1 p2 k2 n4 (a3_1 + 1))) else (ub p0 p1 p2 k2 n4 (a3_1 + 1)))) else k2)
def uq (p0 : Store) (p1 : Txn) (p2 : Int) : Option (Int) := (withK (some (-1)) fun k2 => (ub p0 p1 p2 k2 (p0.Locks.length + 1) 0))
def F55 : VFn := ⟨34, (.seq (.reg [vo 3 (.box 4 (.t 0)), vo 4 (.boxk 2 (.t 1)), mi 6 0]) (.seq (.seq (.reg [mi 7 0]) (.wk (.block 0 (.loop (.seq (.seq (.reg [vm 8 7, vf 9 1 3, vs 10 9, ln 11 10, bt 12 .lss 8 11]) (.cond (.t 12) .skip (.exit 0))) (.seq (.block 1 (.seq (.draw [vd (vf 15 1 3) 0, vd (vs 16 15) 1, vd (vm 17 7) 0, vd (xa 18 6 16 17) 7, vd (vf 19 0 18) 15, vd (vl 20 2 19) 31, vd (vl 21 2 4) 0, vd (vo 22 (.eqs false [.i, .i] (.t 20) (.t 21))) 127, vd (vm 23 22) 255, vd (gt 24 23 (.fa 1 (.t 3))) 511, vd (gt 25 23 (.ld false 1 (.t 24))) 1023, vd (gt 26 23 (.mv (.t 7))) 511, vd (gt 27 23 (.ia 6 (.t 25) (.t 26))) 4095, vd (gt 28 23 (.fa 2 (.t 27))) 8191, vd (gt 29 23 (.ld false 1 (.t 28))) 0x3fff, vd (gt 30 23 (.mv (.t 2))) 511, vd (gt 31 23 (.bin .i .eql (.t 29) (.t 30))) 0xffff, vd (vo 32 (.pick (.t 23) (.t 31) (cb false))) 0x1ffff]) (.cond (.t 32) (.seq (.reg [vm 33 7, vm 6 33]) .ret) .skip))) (.reg [vm 13 7, bk 14 .add 13 1, vm 7 14]))))))) (.seq (.reg [mi 6 (-1)]) .ret))), [.t 6]⟩
theorem low55 : lowF Tryd.prog 55 = some F55.strip := by kernel_rfl
theorem fok55 : fOk Tryd.prog 55 = true := by kernel_rfl
theorem v0q (p0 : Store) (p1 : Txn) (p2 : Int) (r : Int) (h : uq p0 p1 p2 = some r) : FnRO Tryd.prog G 55 [.agg p0.bx, .agg p1.bx, .one (.d (.i .i64 p2))] (fun rs => rs = [.one (.i .i64 r)]) := by
 refine FnRO.of' low55 fok55 (by simp [F55]) ?_
 rw [uq] at h
 replace h := Hd.mk h
 simp only [F55, go_sem]
 try simp only [*, go_sem]
 refine jn0 h ([]) ([]) (fun k2 h => ?_) (fun h => ?_)
 try simp only [*, go_sem]
 refine lp1 (ub p0 p1 p2 k2) (fun a3_1 => [zI 2 p2, zP 3 0, zK 4 (Txn.enc p1), zI 7 ((a3_1 : Nat) : Int)]) (fun a3_1 => [ox p0.bx]) h [] [some 0] (fun n4 a3_1 h => ?_) (by intros; rw [ub])
 rw [ub] at h
 try simp only [*, go_sem]
 intro hl5
 refine oi h (fun hb6 h => ?_) (fun hb6 h => ?_)
 have := of_decide_eq_true hb6
 refine obg h (fun x7 _ hkx7 h => ?_)
 refine oi h (fun hb8 h => ?_) (fun hb8 h => ?_)
 try simp only [*, go_sem]
 refine oi h (fun hb9 h => ?_) (fun hb9 h => ?_)
 cases h.e
 simp only [*, go_sem, mA, mS]
 have := za hkx7 hl5
 try simp only [*, go_sem]
 exact lc (a3_1 + 1) h.e [some 0]
 try simp only [*, go_sem]
 have := za hkx7 hl5
 try simp only [*, go_sem]
 exact lc (a3_1 + 1) h.e [some 0]
 try simp only [*, go_sem]
 exact jc () h.e []
 cases h.e
 simp only [*, go_sem, mA, mS]
def wd (p0 : Store) (p1 : Int) (k2 : Option (Item)) : Nat → Nat → Option (Item)
 | 0, _ => none
 | n4 + 1, a3_1 => (if (decide (a3_1 < p0.Items.length)) = true then (Option.bind (p0.Items[a3_1]?) fun x7 => (if (x7.Key == p1) = true then (some x7) else (wd p0 p1 k2 n4 (a3_1 + 1)))) else k2)
def ve (p0 : Store) (p1 : Int) : Option (Item) := (withK (some (Item.mk p1 0 0)) fun k2 => (wd p0 p1 k2 (p0.Items.length + 1) 0))
def F57 : VFn := ⟨28, (.seq (.reg [vo 2 (.box 4 (.t 0)), vo 4 (.alloc [(zi 0), (zi 0), (zi 0)])]) (.seq (.seq (.reg [mi 5 0]) (.wk (.block 0 (.loop (.seq (.seq (.reg [vm 6 5, vf 7 0 2, vs 8 7, ln 9 8, bt 10 .lss 6 9]) (.cond (.t 10) .skip (.exit 0))) (.seq (.block 1 (.seq (.reg [vf 13 0 2, vs 14 13, vm 15 5, xa 16 3 14 15, vf 17 0 16, vs 18 17, vm 19 1, bt 20 .eql 18 19]) (.cond (.t 20) (.seq (.reg [vf 21 0 2, vs 22 21, vm 23 5, xa 24 3 22 23, vl 25 3 24, vu (.st 3 (.t 4) (.t 25))]) .ret) .skip))) (.reg [vm 11 5, bk 12 .add 11 1, vm 5 12]))))))) (.seq (.reg [vm 26 1, vo 27 (.build [(zi 0), (zi 0), (zi 0)] [(0, 1, (.t 26))]), vu (.st 3 (.t 4) (.t 27))]) .ret))), [.cell 4 true 3]⟩
theorem low57 : lowF Tryd.prog 57 = some F57.strip := by kernel_rfl
theorem fok57 : fOk Tryd.prog 57 = true := by kernel_rfl
theorem zn (p0 : Store) (p1 : Int) (r : Item) (h : ve p0 p1 = some r) : FnRO Tryd.prog G 57 [.agg p0.bx, .one (.d (.i .i64 p1))] (fun rs => rs = [.agg (r.encO)]) := by
 refine FnRO.of' low57 fok57 (by simp [F57]) ?_
 rw [ve] at h
 replace h := Hd.mk h
 simp only [F57, go_sem]
 try simp only [*, go_sem]
 refine jn0 h ([zI 1 p1, zP 4 0]) ([ox [zi 0, zi 0, zi 0]]) (fun k2 h => ?_) (fun h => ?_)
 try simp only [*, go_sem]
 refine lp1 (wd p0 p1 k2) (fun a3_1 => [zI 1 p1, zP 2 0, zP 4 1, zI 5 ((a3_1 : Nat) : Int)]) (fun a3_1 => [ox p0.bx, ox [zi 0, zi 0, zi 0]]) h [] [some 0, some 1] (fun n4 a3_1 h => ?_) (by intros; rw [wd])
 rw [wd] at h
 try simp only [*, go_sem]
 intro hl5
 refine oi h (fun hb6 h => ?_) (fun hb6 h => ?_)
 have := of_decide_eq_true hb6
 refine obg h (fun x7 _ hkx7 h => ?_)
 refine oi h (fun hb8 h => ?_) (fun hb8 h => ?_)
 cases h.e
 simp only [*, go_sem, mA, mS]
 have := za hkx7 hl5
 try simp only [*, go_sem]
 exact lc (a3_1 + 1) h.e [some 0, some 1]
 try simp only [*, go_sem]
 exact jc () h.e [some 1]
 cases h.e
 simp only [*, go_sem, mA, mS]
def vj (p0 : Store) (k2 : (List Item) → Option (Store)) : Nat → Nat → (List Item) → Option (Store)
 | 0, _, _ => none
 | n4 + 1, a3_1, a3_2 => (if (decide (a3_1 < p0.Items.length)) = true then (Option.bind (p0.Items[a3_1]?) fun x7 => (if fits 24 (a3_2.length + 1) then (vj p0 k2 n4 (a3_1 + 1) (a3_2 ++ [x7])) else none)) else (k2 a3_2))
def wj (p0 : Store) (k11 : (List Lock) → Option (Store)) : Nat → Nat → (List Lock) → Option (Store)
 | 0, _, _ => none
 | n13 + 1, a12_1, a12_2 => (if (decide (a12_1 < p0.Locks.length)) = true then (Option.bind (p0.Locks[a12_1]?) fun x16 => (if fits 48 (a12_2.length + 1) then (wj p0 k11 n13 (a12_1 + 1) (a12_2 ++ [x16])) else none)) else (k11 a12_2))
def xj (p0 : Store) (k20 : (List Doubt) → Option (Store)) : Nat → Nat → (List Doubt) → Option (Store)
 | 0, _, _ => none
 | n22 + 1, a21_1, a21_2 => (if (decide (a21_1 < p0.Doubts.length)) = true then (Option.bind (p0.Doubts[a21_1]?) fun x25 => (if fits 24 (a21_2.length + 1) then (xj p0 k20 n22 (a21_1 + 1) (a21_2 ++ [x25])) else none)) else (k20 a21_2))
def yj (p0 : Store) (k29 : (List Txn) → Option (Store)) : Nat → Nat → (List Txn) → Option (Store)
 | 0, _, _ => none
 | n31 + 1, a30_1, a30_2 => (if (decide (a30_1 < p0.Over.length)) = true then (Option.bind (p0.Over[a30_1]?) fun x34 => (if fits 16 (a30_2.length + 1) then (yj p0 k29 n31 (a30_1 + 1) (a30_2 ++ [x34])) else none)) else (k29 a30_2))
def xe (p0 : Store) : Option (Store) := (withK (fun (b1_1 : List Item) => (withK (fun (b10_1 : List Lock) => (withK (fun (b19_1 : List Doubt) => (withK (fun (b28_1 : List Txn) => (some (Store.mk b1_1 b10_1 b19_1 b28_1))) fun k29 => (yj p0 k29 (p0.Over.length + 1) 0 []))) fun k20 => (xj p0 k20 (p0.Doubts.length + 1) 0 []))) fun k11 => (wj p0 k11 (p0.Locks.length + 1) 0 []))) fun k2 => (vj p0 k2 (p0.Items.length + 1) 0 []))
def F58 : VFn := ⟨78, (.seq (.reg [vo 1 (.box 4 (.t 0)), vo 2 (.alloc [(.nl 3), (.nl 6), (.nl 3), (.nl 2)])]) (.seq (.reg [vo 8 (.build [(.nl 3), (.nl 6), (.nl 3), (.nl 2)] []), vo 3 (.alloc [(.nl 3), (.nl 6), (.nl 3), (.nl 2)]), vu (.st 4 (.t 3) (.t 8))]) (.seq (.seq (.reg [mi 4 0]) (.wk (.block 0 (.loop (.seq (.seq (.reg [vm 9 4, vf 10 0 1, vs 11 10, ln 12 11, bt 13 .lss 9 12]) (.cond (.t 13) .skip (.exit 0))) (.seq (.block 1 (.draw [vd (vf 16 0 3) 0, vd (vs 17 16) 1, vd (vf 18 0 1) 0, vd (vs 19 18) 4, vd (vm 20 4) 0, vd (xa 21 3 19 20) 28, vd (vl 22 3 21) 60, vd (vo 23 (.bsl 3 1 [(zi 0), (zi 0), (zi 0)] [(0, (.t 22))])) 124, vd (vo 24 (.app 3 24 (.t 17) (.t 23))) 255, vd (vf 25 0 3) 511, vd (vu (.st 1 (.t 25) (.t 24))) 1023])) (.reg [vm 14 4, bk 15 .add 14 1, vm 4 15]))))))) (.seq (.seq (.reg [mi 5 0]) (.wk (.block 2 (.loop (.seq (.seq (.reg [vm 26 5, vf 27 1 1, vs 28 27, ln 29 28, bt 30 .lss 26 29]) (.cond (.t 30) .skip (.exit 2))) (.seq (.block 3 (.draw [vd (vf 33 1 3) 0, vd (vs 34 33) 1, vd (vf 35 1 1) 0, vd (vs 36 35) 4, vd (vm 37 5) 0, vd (xa 38 6 36 37) 28, vd (vl 39 6 38) 60, vd (vo 40 (.bsl 6 1 [(zi 0), (zi 0), (zi 0), (.d (.b false)), (zi 0), (zi 0)] [(0, (.t 39))])) 124, vd (vo 41 (.app 6 48 (.t 34) (.t 40))) 255, vd (vf 42 1 3) 511, vd (vu (.st 1 (.t 42) (.t 41))) 1023])) (.reg [vm 31 5, bk 32 .add 31 1, vm 5 32]))))))) (.seq (.seq (.reg [mi 6 0]) (.wk (.block 4 (.loop (.seq (.seq (.reg [vm 43 6, vf 44 2 1, vs 45 44, ln 46 45, bt 47 .lss 43 46]) (.cond (.t 47) .skip (.exit 4))) (.seq (.block 5 (.draw [vd (vf 50 2 3) 0, vd (vs 51 50) 1, vd (vf 52 2 1) 0, vd (vs 53 52) 4, vd (vm 54 6) 0, vd (xa 55 3 53 54) 28, vd (vl 56 3 55) 60, vd (vo 57 (.bsl 3 1 [(zi 0), (zi 0), (zi 0)] [(0, (.t 56))])) 124, vd (vo 58 (.app 3 24 (.t 51) (.t 57))) 255, vd (vf 59 2 3) 511, vd (vu (.st 1 (.t 59) (.t 58))) 1023])) (.reg [vm 48 6, bk 49 .add 48 1, vm 6 49]))))))) (.seq (.seq (.reg [mi 7 0]) (.wk (.block 6 (.loop (.seq (.seq (.reg [vm 60 7, vf 61 3 1, vs 62 61, ln 63 62, bt 64 .lss 60 63]) (.cond (.t 64) .skip (.exit 6))) (.seq (.block 7 (.draw [vd (vf 67 3 3) 0, vd (vs 68 67) 1, vd (vf 69 3 1) 0, vd (vs 70 69) 4, vd (vm 71 7) 0, vd (xa 72 2 70 71) 28, vd (vl 73 2 72) 60, vd (vo 74 (.bsl 2 1 [(zi 0), (zi 0)] [(0, (.t 73))])) 124, vd (vo 75 (.app 2 16 (.t 68) (.t 74))) 255, vd (vf 76 3 3) 511, vd (vu (.st 1 (.t 76) (.t 75))) 1023])) (.reg [vm 65 7, bk 66 .add 65 1, vm 7 66]))))))) (.seq (.reg [vl 77 4 3, vu (.st 4 (.t 2) (.t 77))]) .ret))))))), [.cell 2 true 4]⟩
theorem low58 : lowF Tryd.prog 58 = some F58.strip := by kernel_rfl
theorem fok58 : fOk Tryd.prog 58 = true := by kernel_rfl
theorem xh (p0 : Store) (r : Store) (h : xe p0 = some r) : FnRO Tryd.prog G 58 [.agg p0.bx] (fun rs => rs = [.agg (r.encO)]) := by
 refine FnRO.of' low58 fok58 (by simp [F58]) ?_
 rw [xe] at h
 replace h := Hd.mk h
 simp only [F58, go_sem]
 try simp only [*, go_sem]
 refine jn1 h (fun b1_1 => [zP 1 0, zP 2 1, zP 3 2]) (fun b1_1 => [ox p0.bx, ox [.nl 3, .nl 6, .nl 3, .nl 2], ox [.r 3 0 b1_1.length, .nl 6, .nl 3, .nl 2], oa 3 (b1_1.map Item.enc)]) (fun k2 h => ?_) (fun b1_1 h => ?_)
 try simp only [*, go_sem]
 refine lp2 (vj p0 k2) (fun a3_1 a3_2 => [zP 1 0, zP 2 1, zP 3 2, zI 4 ((a3_1 : Nat) : Int)]) (fun a3_1 a3_2 => [ox p0.bx, ox [.nl 3, .nl 6, .nl 3, .nl 2], ox [.r 3 0 a3_2.length, .nl 6, .nl 3, .nl 2], oa 3 (a3_2.map Item.enc)]) h [] [some 0, some 1, some 2, none] (fun n4 a3_1 a3_2 h => ?_) (by intros; rw [vj])
 rw [vj] at h
 try simp only [*, go_sem]
 intro hl5
 refine oi h (fun hb6 h => ?_) (fun hb6 h => ?_)
 have := of_decide_eq_true hb6
 refine obg h (fun x7 _ hkx7 h => ?_)
 refine ck h (fun _ h => ?_)
 have := za hkx7 hl5
 try simp only [*, go_sem]
 exact lc (a3_1 + 1, (a3_2 ++ [x7])) h.e [some 0, some 1, some 2, some 12]
 try simp only [*, go_sem]
 exact jc (a3_2) h.e [some 0, some 1, some 2, some 3]
 try simp only [*, go_sem]
 refine jn1 h (fun b10_1 => [zP 1 0, zP 2 1, zP 3 2]) (fun b10_1 => [ox p0.bx, ox [.nl 3, .nl 6, .nl 3, .nl 2], ox [.r 3 0 b1_1.length, .r 4 0 b10_1.length, .nl 3, .nl 2], oa 3 (b1_1.map Item.enc), oa 6 (b10_1.map Lock.enc)]) (fun k11 h => ?_) (fun b10_1 h => ?_)
 try simp only [*, go_sem]
 refine lp2 (wj p0 k11) (fun a12_1 a12_2 => [zP 1 0, zP 2 1, zP 3 2, zI 5 ((a12_1 : Nat) : Int)]) (fun a12_1 a12_2 => [ox p0.bx, ox [.nl 3, .nl 6, .nl 3, .nl 2], ox [.r 3 0 b1_1.length, .r 4 0 a12_2.length, .nl 3, .nl 2], oa 3 (b1_1.map Item.enc), oa 6 (a12_2.map Lock.enc)]) h [] [some 0, some 1, some 2, some 3, none] (fun n13 a12_1 a12_2 h => ?_) (by intros; rw [wj])
 rw [wj] at h
 try simp only [*, go_sem]
 intro hl14
 refine oi h (fun hb15 h => ?_) (fun hb15 h => ?_)
 have := of_decide_eq_true hb15
 refine obg h (fun x16 _ hkx16 h => ?_)
 refine ck h (fun _ h => ?_)
 have := za hkx16 hl14
 try simp only [*, go_sem]
 exact lc (a12_1 + 1, (a12_2 ++ [x16])) h.e [some 0, some 1, some 2, some 3, some 13]
 try simp only [*, go_sem]
 exact jc (a12_2) h.e [some 0, some 1, some 2, some 3, some 4]
 try simp only [*, go_sem]
 refine jn1 h (fun b19_1 => [zP 1 0, zP 2 1, zP 3 2]) (fun b19_1 => [ox p0.bx, ox [.nl 3, .nl 6, .nl 3, .nl 2], ox [.r 3 0 b1_1.length, .r 4 0 b10_1.length, .r 5 0 b19_1.length, .nl 2], oa 3 (b1_1.map Item.enc), oa 6 (b10_1.map Lock.enc), oa 3 (b19_1.map Doubt.enc)]) (fun k20 h => ?_) (fun b19_1 h => ?_)
 try simp only [*, go_sem]
 refine lp2 (xj p0 k20) (fun a21_1 a21_2 => [zP 1 0, zP 2 1, zP 3 2, zI 6 ((a21_1 : Nat) : Int)]) (fun a21_1 a21_2 => [ox p0.bx, ox [.nl 3, .nl 6, .nl 3, .nl 2], ox [.r 3 0 b1_1.length, .r 4 0 b10_1.length, .r 5 0 a21_2.length, .nl 2], oa 3 (b1_1.map Item.enc), oa 6 (b10_1.map Lock.enc), oa 3 (a21_2.map Doubt.enc)]) h [] [some 0, some 1, some 2, some 3, some 4, none] (fun n22 a21_1 a21_2 h => ?_) (by intros; rw [xj])
 rw [xj] at h
 try simp only [*, go_sem]
 intro hl23
 refine oi h (fun hb24 h => ?_) (fun hb24 h => ?_)
 have := of_decide_eq_true hb24
 refine obg h (fun x25 _ hkx25 h => ?_)
 refine ck h (fun _ h => ?_)
 have := za hkx25 hl23
 try simp only [*, go_sem]
 exact lc (a21_1 + 1, (a21_2 ++ [x25])) h.e [some 0, some 1, some 2, some 3, some 4, some 14]
 try simp only [*, go_sem]
 exact jc (a21_2) h.e [some 0, some 1, some 2, some 3, some 4, some 5]
 try simp only [*, go_sem]
 refine jn1 h (fun b28_1 => [zP 2 0, zP 3 1]) (fun b28_1 => [ox [.nl 3, .nl 6, .nl 3, .nl 2], ox [.r 2 0 b1_1.length, .r 3 0 b10_1.length, .r 4 0 b19_1.length, .r 5 0 b28_1.length], oa 3 (b1_1.map Item.enc), oa 6 (b10_1.map Lock.enc), oa 3 (b19_1.map Doubt.enc), oa 2 (b28_1.map Txn.enc)]) (fun k29 h => ?_) (fun b28_1 h => ?_)
 try simp only [*, go_sem]
 refine lp2 (yj p0 k29) (fun a30_1 a30_2 => [zP 1 0, zP 2 1, zP 3 2, zI 7 ((a30_1 : Nat) : Int)]) (fun a30_1 a30_2 => [ox p0.bx, ox [.nl 3, .nl 6, .nl 3, .nl 2], ox [.r 3 0 b1_1.length, .r 4 0 b10_1.length, .r 5 0 b19_1.length, .r 6 0 a30_2.length], oa 3 (b1_1.map Item.enc), oa 6 (b10_1.map Lock.enc), oa 3 (b19_1.map Doubt.enc), oa 2 (a30_2.map Txn.enc)]) h [] [some 0, some 1, some 2, some 3, some 4, some 5, none] (fun n31 a30_1 a30_2 h => ?_) (by intros; rw [yj])
 rw [yj] at h
 try simp only [*, go_sem]
 intro hl32
 refine oi h (fun hb33 h => ?_) (fun hb33 h => ?_)
 have := of_decide_eq_true hb33
 refine obg h (fun x34 _ hkx34 h => ?_)
 refine ck h (fun _ h => ?_)
 have := za hkx34 hl32
 try simp only [*, go_sem]
 exact lc (a30_1 + 1, (a30_2 ++ [x34])) h.e [some 0, some 1, some 2, some 3, some 4, some 5, some 15]
 try simp only [*, go_sem]
 exact jc (a30_2) h.e [some 1, some 2, some 3, some 4, some 5, some 6]
 cases h.e
 simp only [*, go_sem, mA, mS]
end Go.V.Dec
