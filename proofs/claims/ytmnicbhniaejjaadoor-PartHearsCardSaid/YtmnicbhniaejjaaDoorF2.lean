/- What Go's functions come to, as plain functions: part 2; no condition. -/
import Derived.Test.YtmnicbhniaejjaaDoorF1
set_option linter.unusedVariables false
set_option linter.unusedSimpArgs false
namespace Go.V.Dec
open Go Go.Proofs
set_option maxRecDepth 100000
set_option maxHeartbeats 4000000
variable (G : Nat → Option (List D))
def store_Write (p0 : Store) (p1 : Txn) (p2 : Int) (p3 : Int) (p4 : Int) : Option (Store × Int) := (Option.bind (store_call p0 p1 p2) fun v1 => (if (v1 != 0) = true then (some ((Store.mk [] [] [] []), v1)) else (if (decide (p3 < 0)) = true then (some ((Store.mk [] [] [] []), 2)) else (if (decide (p3 > 1073741824)) = true then (some ((Store.mk [] [] [] []), 2)) else (if (decide (p4 < 0)) = true then (some ((Store.mk [] [] [] []), 2)) else (if (decide (p4 > 1048576)) = true then (some ((Store.mk [] [] [] []), 2)) else (Option.bind (store_lock p0 p1 p2) fun v7 => (Option.bind (slices_Contains_Txn p0.Over p1) fun v8 => (withK (fun (b9_1 : Bool) => (if b9_1 = true then (some ((Store.mk [] [] [] []), 13)) else (Option.bind (store_busy p0 p1 p2 true) fun v16 => (if v16 = true then (some ((Store.mk [] [] [] []), 11)) else (if (decide (v7 < 0)) = true then (withK (fun (b20_1 : Bool) => (if b20_1 = true then (some ((Store.mk [] [] [] []), 8)) else (Option.bind (store_own p0) fun v25 => (withK (Option.bind (store_doubted (Store.mk v25.Items (v25.Locks ++ [(Lock.mk p1 p2 true p3 p4)]) v25.Doubts v25.Over) p1) fun v29 => (withK (fun (b30_1 : List Doubt) => (some ((Store.mk v25.Items (v25.Locks ++ [(Lock.mk p1 p2 true p3 p4)]) b30_1 v25.Over), 0))) fun k31 => (if (!v29) = true then (if fits 24 (v25.Doubts.length + 1) then (k31 (v25.Doubts ++ [(Doubt.mk p1 0)])) else none) else (k31 v25.Doubts)))) fun k27 => (if fits 48 (v25.Locks.length + 1) then k27 else none))))) fun k21 => (if (((p0.Locks.length : Nat) : Int) == 24) = true then (k21 true) else (Option.bind (store_item p0 p2) fun v23 => (k21 (v23.Version == 1048576))))) else (withK (fun (b34_1 : Bool) => (if b34_1 = true then (some ((Store.mk [] [] [] []), 8)) else (Option.bind (store_own p0) fun v38 => (withK (fun (b39_1 : List Lock) => (Option.bind (store_doubted (Store.mk v38.Items b39_1 v38.Doubts v38.Over) p1) fun v45 => (withK (fun (b46_1 : List Doubt) => (some ((Store.mk v38.Items b39_1 b46_1 v38.Over), 0))) fun k47 => (if (!v45) = true then (if fits 24 (v38.Doubts.length + 1) then (k47 (v38.Doubts ++ [(Doubt.mk p1 0)])) else none) else (k47 v38.Doubts))))) fun k40 => (if (decide (v7 < 0)) = true then (if fits 48 (v38.Locks.length + 1) then (k40 (v38.Locks ++ [(Lock.mk p1 p2 true p3 p4)])) else none) else (if 0 ≤ v7 then (Option.bind (v38.Locks[v7.toNat]?) fun x43 => (k40 (v38.Locks.set v7.toNat (Lock.mk p1 p2 true p3 p4)))) else none)))))) fun k35 => (Option.bind (store_item p0 p2) fun v36 => (k35 (v36.Version == 1048576))))))))) fun k10 => (if v8 = true then (k10 true) else (if (decide (v7 ≥ 0)) = true then (if 0 ≤ v7 then (Option.bind (p0.Locks[v7.toNat]?) fun x13 => (k10 (decide (x13.Ask > p4)))) else none) else (k10 false))))))))))))
def F83 : VFn := ⟨105, (.seq (.reg [vo 5 (.boxk 4 (.t 0)), vo 6 (.boxk 2 (.t 1)), vo 10 (.alloc [(.nl 3), (.nl 6), (.nl 3), (.nl 2)]), mi 11 0]) (.seq (.seq (.reg [vl 16 4 5, vl 17 2 6, vm 18 2, vo 19 (.call 141 [(.t 16), (.t 17), (.t 18)]), vm 12 19]) (.seq (.reg [vm 20 12, bk 21 .neq 20 0]) (.cond (.t 21) (.seq (.reg [vo 22 (.build [(.nl 3), (.nl 6), (.nl 3), (.nl 2)] []), vm 23 12, vu (.st 4 (.t 10) (.t 22)), vm 11 23]) .ret) .skip))) (.seq (.seq (.reg [vm 24 3, bk 25 .lss 24 0, vm 26 25, gf 27 26 (.mv (.t 3)), gf 28 26 (.bin .i .gtr (.t 27) (ci 1073741824)), vo 29 (.pick (.t 26) (cb true) (.t 28)), vm 30 29, gf 31 30 (.mv (.t 4)), gf 32 30 (.bin .i .lss (.t 31) (ci 0)), vo 33 (.pick (.t 30) (cb true) (.t 32)), vm 34 33, gf 35 34 (.mv (.t 4)), gf 36 34 (.bin .i .gtr (.t 35) (ci 1048576)), vo 37 (.pick (.t 34) (cb true) (.t 36))]) (.cond (.t 37) (.seq (.reg [vo 38 (.build [(.nl 3), (.nl 6), (.nl 3), (.nl 2)] []), vu (.st 4 (.t 10) (.t 38)), mi 11 2]) .ret) .skip)) (.seq (.reg [vl 39 4 5, vl 40 2 6, vm 41 2, vo 42 (.call 143 [(.t 39), (.t 40), (.t 41)]), vm 13 42]) (.seq (.block 0 (.seq (.seq (.reg [vf 44 3 5, vs 45 44, vl 46 2 6, vo 47 (.call 145 [(.t 45), (.t 46)]), vm 43 47]) (.wk (.cond (.t 43) .skip (.reg [vm 48 13, bk 49 .geq 48 0, vm 50 49, gt 51 50 (.fa 1 (.t 5)), gt 52 50 (.ld false 1 (.t 51)), gt 53 50 (.mv (.t 13)), gt 54 50 (.ia 6 (.t 52) (.t 53)), gt 55 50 (.fa 5 (.t 54)), gt 56 50 (.ld false 1 (.t 55)), gt 57 50 (.mv (.t 4)), gt 58 50 (.bin .i .gtr (.t 56) (.t 57)), vo 59 (.pick (.t 50) (.t 58) (cb false)), vm 43 59])))) (.cond (.t 43) (.seq (.reg [vo 60 (.build [(.nl 3), (.nl 6), (.nl 3), (.nl 2)] []), vu (.st 4 (.t 10) (.t 60)), mi 11 13]) .ret) (.seq (.reg [vl 62 4 5, vl 63 2 6, vm 64 2, vo 65 (.call 146 [(.t 62), (.t 63), (.t 64), (cb true)]), vm 61 65]) (.cond (.t 61) (.seq (.reg [vo 66 (.build [(.nl 3), (.nl 6), (.nl 3), (.nl 2)] []), vu (.st 4 (.t 10) (.t 66)), mi 11 11]) .ret) (.seq (.seq (.reg [vm 68 13, bk 69 .lss 68 0, vm 70 69, gt 71 70 (.fa 1 (.t 5)), gt 72 70 (.ld false 1 (.t 71)), gt 73 70 (.len (.t 72)), gt 74 70 (.bin .i .eql (.t 73) (ci 24)), vo 75 (.pick (.t 70) (.t 74) (cb false)), vm 67 75]) (.wk (.cond (.t 67) .skip (.reg [vl 76 4 5, vm 77 2, vo 78 (.call 142 [(.t 76), (.t 77)]), vo 79 (.fl false 2 1 (.t 78)), bk 80 .eql 79 1048576, vm 67 80])))) (.cond (.t 67) (.seq (.reg [vo 81 (.build [(.nl 3), (.nl 6), (.nl 3), (.nl 2)] []), vu (.st 4 (.t 10) (.t 81)), mi 11 8]) .ret) .skip))))))) (.seq (.reg [vl 82 4 5, vo 83 (.call 144 [(.t 82)]), vo 14 (.alloc [(.nl 3), (.nl 6), (.nl 3), (.nl 2)]), vu (.st 4 (.t 14) (.t 83))]) (.seq (.reg [vl 84 2 6, vm 85 2, vm 86 3, vm 87 4, vo 88 (.build [(zi 0), (zi 0), (zi 0), (.d (.b false)), (zi 0), (zi 0)] [(0, 2, (.t 84)), (2, 1, (.t 85)), (3, 1, (cb true)), (4, 1, (.t 86)), (5, 1, (.t 87))]), vo 15 (.alloc [(zi 0), (zi 0), (zi 0), (.d (.b false)), (zi 0), (zi 0)]), vu (.st 6 (.t 15) (.t 88))]) (.seq (.seq (.reg [vm 89 13, bk 90 .lss 89 0]) (.wk (.cond (.t 90) (.reg [vf 91 1 14, vs 92 91, vl 93 6 15, vo 94 (.bsl 6 1 [(zi 0), (zi 0), (zi 0), (.d (.b false)), (zi 0), (zi 0)] [(0, (.t 93))]), vo 95 (.app 6 48 (.t 92) (.t 94)), vf 96 1 14, vu (.st 1 (.t 96) (.t 95))]) (.reg [vf 97 1 14, vs 98 97, vm 99 13, vl 100 6 15, xa 101 6 98 99, vu (.st 6 (.t 101) (.t 100))])))) (.seq (.reg [vl 102 2 6, vo 103 (.call 147 [(.t 14), (.t 102)])]) (.seq (.reg [vl 104 4 14, vu (.st 4 (.t 10) (.t 104)), mi 11 0]) .ret)))))))))), [.cell 10 true 4, .t 11]⟩
theorem low83 : lowF Tryd.prog 83 = some F83.strip := by kernel_rfl
theorem fok83 : fOk Tryd.prog 83 = true := by kernel_rfl
theorem store_Write_ok (p0 : Store) (p1 : Txn) (p2 : Int) (p3 : Int) (p4 : Int) (r : Store × Int) (h : store_Write p0 p1 p2 p3 p4 = some r) : FnRO Tryd.prog G 83 [.agg p0.bx, .agg p1.bx, .one (.d (.i .i64 p2)), .one (.d (.i .i64 p3)), .one (.d (.i .i64 p4))] (fun rs => rs = [.agg (r.1.encO), .one (.i .i64 r.2)]) := by
 refine FnRO.of' low83 fok83 (by simp [F83]) ?_
 rw [store_Write] at h
 replace h := Hd.mk h
 simp only [F83, go_sem]
 try simp only [*, go_sem]
 refine cr h (store_call_ok G p0 p1 p2) (fun v1 h => ?_)
 refine oi h (fun hb2 h => ?_) (fun hb2 h => ?_)
 cases h.e
 simp only [*, go_sem, mA, mS]
 refine oi h (fun hb3 h => ?_) (fun hb3 h => ?_)
 have := of_decide_eq_true hb3
 cases h.e
 simp only [*, go_sem, mA, mS]
 refine oi h (fun hb4 h => ?_) (fun hb4 h => ?_)
 cases h.e
 simp only [*, go_sem, mA, mS]
 refine oi h (fun hb5 h => ?_) (fun hb5 h => ?_)
 have := of_decide_eq_true hb5
 cases h.e
 simp only [*, go_sem, mA, mS]
 refine oi h (fun hb6 h => ?_) (fun hb6 h => ?_)
 cases h.e
 simp only [*, go_sem, mA, mS]
 try simp only [*, go_sem]
 refine cr h (store_lock_ok G p0 p1 p2) (fun v7 h => ?_)
 try simp only [*, go_sem]
 refine cr h (slices_Contains_Txn_ok G p0.Over p1) (fun v8 h => ?_)
 try simp only [*, go_sem]
 refine jn1 h (fun b9_1 => [zI 2 p2, zI 3 p3, zI 4 p4, zK 5 (Store.enc p0), zK 6 (Txn.enc p1), zP 10 0, zI 13 v7, zB 43 b9_1]) (fun b9_1 => [ox [.nl 3, .nl 6, .nl 3, .nl 2]]) (fun k10 h => ?_) (fun b9_1 h => ?_)
 refine oi h (fun hb11 h => ?_) (fun hb11 h => ?_)
 try simp only [*, go_sem]
 exact jc (true) h.e [some 0]
 refine oi h (fun hb12 h => ?_) (fun hb12 h => ?_)
 refine obn h (fun x13 _ _ _ _ h => ?_)
 try simp only [*, go_sem]
 exact jc (decide (x13.Ask > p4)) h.e [some 0]
 try simp only [*, go_sem]
 exact jc (false) h.e [some 0]
 refine oi h (fun hb15 h => ?_) (fun hb15 h => ?_)
 cases h.e
 simp only [*, go_sem, mA, mS]
 try simp only [*, go_sem]
 refine cr h (store_busy_ok G p0 p1 p2 true) (fun v16 h => ?_)
 refine oi h (fun hb17 h => ?_) (fun hb17 h => ?_)
 cases h.e
 simp only [*, go_sem, mA, mS]
 refine oi h (fun hb18 h => ?_) (fun hb18 h => ?_)
 have := of_decide_eq_true hb18
 try simp only [*, go_sem]
 intro hl19
 try simp only [*, go_sem]
 refine jn1 h (fun b20_1 => [zI 2 p2, zI 3 p3, zI 4 p4, zK 5 (Store.enc p0), zK 6 (Txn.enc p1), zP 10 0, zI 13 v7, zB 67 b20_1]) (fun b20_1 => [ox [.nl 3, .nl 6, .nl 3, .nl 2]]) (fun k21 h => ?_) (fun b20_1 h => ?_)
 refine oi h (fun hb22 h => ?_) (fun hb22 h => ?_)
 try simp only [*, go_sem]
 exact jc (true) h.e [some 0]
 try simp only [*, go_sem]
 refine cr h (store_item_ok G p0 p2) (fun v23 h => ?_)
 try simp only [*, go_sem]
 exact jc (v23.Version == 1048576) h.e [some 0]
 refine oi h (fun hb24 h => ?_) (fun hb24 h => ?_)
 cases h.e
 simp only [*, go_sem, mA, mS]
 try simp only [*, go_sem]
 refine cr h (store_own_ok G p0) (fun v25 h => ?_)
 try simp only [*, go_sem]
 refine jn0 h ([zK 6 (Txn.enc p1), zP 10 0, zP 14 1]) ([ox [.nl 3, .nl 6, .nl 3, .nl 2], ox [.r 2 0 v25.Items.length, .r 3 0 (v25.Locks.length + 1), .r 4 0 v25.Doubts.length, .r 5 0 v25.Over.length], oa 3 (v25.Items.map Item.enc), oa 6 ((v25.Locks ++ [(Lock.mk p1 p2 true p3 p4)]).map Lock.enc), oa 3 (v25.Doubts.map Doubt.enc), oa 2 (v25.Over.map Txn.enc)]) (fun k27 h => ?_) (fun h => ?_)
 refine ck h (fun _ h => ?_)
 try simp only [*, go_sem]
 exact jc () h.e [some 0, some 5, some 1, some 8, some 3, some 4]
 try simp only [*, go_sem]
 refine cx low147 fok147 ?_
 simp only [*, F147, go_sem]
 refine obk h (fun v29 hv29 h => ?_)
 try simp only [*, go_sem]
 refine cdl (store_doubted_ok G (Store.mk v25.Items (v25.Locks ++ [(Lock.mk p1 p2 true p3 p4)]) v25.Doubts v25.Over) p1 v29 hv29) ?_
 try simp only [*, go_sem]
 refine jn1 h (fun b30_1 => [zP 1000010 0, zP 1000014 1]) (fun b30_1 => [ox [.nl 3, .nl 6, .nl 3, .nl 2], ox [.r 2 0 v25.Items.length, .r 3 0 (v25.Locks.length + 1), .r 4 0 b30_1.length, .r 5 0 v25.Over.length], oa 3 (v25.Items.map Item.enc), oa 6 ((v25.Locks ++ [(Lock.mk p1 p2 true p3 p4)]).map Lock.enc), oa 3 (b30_1.map Doubt.enc), oa 2 (v25.Over.map Txn.enc)]) (fun k31 h => ?_) (fun b30_1 h => ?_)
 refine oin h (fun hb32 hkhb32 h => ?_) (fun hb32 hkhb32 h => ?_)
 refine ck h (fun _ h => ?_)
 try simp only [*, go_sem]
 exact jc ((v25.Doubts ++ [(Doubt.mk p1 0)])) h.e [some 0, some 1, some 2, some 3, some 20, some 5]
 try simp only [*, go_sem]
 exact jc (v25.Doubts) h.e [some 0, some 1, some 2, some 3, some 4, some 5]
 cases h.e
 simp only [*, go_sem, mA, mS]
 try simp only [*, go_sem]
 refine jn1 h (fun b34_1 => [zI 2 p2, zI 3 p3, zI 4 p4, zK 5 (Store.enc p0), zK 6 (Txn.enc p1), zP 10 0, zI 13 v7, zB 67 b34_1]) (fun b34_1 => [ox [.nl 3, .nl 6, .nl 3, .nl 2]]) (fun k35 h => ?_) (fun b34_1 h => ?_)
 try simp only [*, go_sem]
 refine cr h (store_item_ok G p0 p2) (fun v36 h => ?_)
 try simp only [*, go_sem]
 exact jc (v36.Version == 1048576) h.e [some 0]
 refine oi h (fun hb37 h => ?_) (fun hb37 h => ?_)
 cases h.e
 simp only [*, go_sem, mA, mS]
 try simp only [*, go_sem]
 refine cr h (store_own_ok G p0) (fun v38 h => ?_)
 try simp only [*, go_sem]
 refine jn1 h (fun b39_1 => [zK 6 (Txn.enc p1), zP 10 0, zP 14 1]) (fun b39_1 => [ox [.nl 3, .nl 6, .nl 3, .nl 2], ox [.r 2 0 v38.Items.length, .r 3 0 b39_1.length, .r 4 0 v38.Doubts.length, .r 5 0 v38.Over.length], oa 3 (v38.Items.map Item.enc), oa 6 (b39_1.map Lock.enc), oa 3 (v38.Doubts.map Doubt.enc), oa 2 (v38.Over.map Txn.enc)]) (fun k40 h => ?_) (fun b39_1 h => ?_)
 refine oi h (fun hb41 h => ?_) (fun hb41 h => ?_)
 have := of_decide_eq_true hb41
 cases hb18.symm.trans hb41
 refine obn h (fun x43 _ _ _ _ h => ?_)
 try simp only [*, go_sem]
 exact jc ((v38.Locks.set v7.toNat (Lock.mk p1 p2 true p3 p4))) h.e [some 0, some 5, some 1, some 2, some 3, some 4]
 try simp only [*, go_sem]
 refine cx low147 fok147 ?_
 simp only [*, F147, go_sem]
 refine obk h (fun v45 hv45 h => ?_)
 try simp only [*, go_sem]
 refine cdl (store_doubted_ok G (Store.mk v38.Items b39_1 v38.Doubts v38.Over) p1 v45 hv45) ?_
 try simp only [*, go_sem]
 refine jn1 h (fun b46_1 => [zP 1000010 0, zP 1000014 1]) (fun b46_1 => [ox [.nl 3, .nl 6, .nl 3, .nl 2], ox [.r 2 0 v38.Items.length, .r 3 0 b39_1.length, .r 4 0 b46_1.length, .r 5 0 v38.Over.length], oa 3 (v38.Items.map Item.enc), oa 6 (b39_1.map Lock.enc), oa 3 (b46_1.map Doubt.enc), oa 2 (v38.Over.map Txn.enc)]) (fun k47 h => ?_) (fun b46_1 h => ?_)
 refine oin h (fun hb48 hkhb48 h => ?_) (fun hb48 hkhb48 h => ?_)
 refine ck h (fun _ h => ?_)
 try simp only [*, go_sem]
 exact jc ((v38.Doubts ++ [(Doubt.mk p1 0)])) h.e [some 0, some 1, some 2, some 3, some 20, some 5]
 try simp only [*, go_sem]
 exact jc (v38.Doubts) h.e [some 0, some 1, some 2, some 3, some 4, some 5]
 cases h.e
 simp only [*, go_sem, mA, mS]
def part_site_write (p0 : PartSite) (p1 : Message) (p2 : Int) : Option (Answer) := (Option.bind (part_site_answer p0 p1 6) fun v1 => (withK (if 0 ≤ p0.l then (Option.bind (p0.stores[p0.l.toNat]?) fun x4 => (Option.bind (store_Write x4 p1.Txn p1.Key p1.Value p1.Ask) fun v6 => (if (v6.2 == 0) = true then (withK (fun (b8_1 : Int) => (Option.bind (part_refusal b8_1) fun v11 => (if v11 = true then (some (Answer.mk x4 [(Message.mk v1.Kind v1.From v1.To v1.Txn v1.Label p1.Key v1.Value v1.Version p1.Ask v1.Yes b8_1)] [] [])) else (if (b8_1 != 0) = true then (some (Answer.mk x4 [] [] [])) else (withK (some (Answer.mk v6.1 [(Message.mk v1.Kind v1.From v1.To v1.Txn v1.Label p1.Key v1.Value v1.Version p1.Ask v1.Yes v1.Code)] [(Record.mk 1 p1.Txn p1.Key p1.Value p1.Ask false [])] [])) fun k15 => k15))))) fun k9 => (if (decide (p2 < 500)) = true then (k9 8) else (k9 v6.2))) else (withK (Option.bind (part_refusal v6.2) fun v18 => (if v18 = true then (some (Answer.mk x4 [(Message.mk v1.Kind v1.From v1.To v1.Txn v1.Label p1.Key v1.Value v1.Version p1.Ask v1.Yes v6.2)] [] [])) else (if (v6.2 != 0) = true then (some (Answer.mk x4 [] [] [])) else (withK (some (Answer.mk v6.1 [(Message.mk v1.Kind v1.From v1.To v1.Txn v1.Label p1.Key v1.Value v1.Version p1.Ask v1.Yes v1.Code)] [(Record.mk 1 p1.Txn p1.Key p1.Value p1.Ask false [])] [])) fun k22 => k22)))) fun k17 => k17)))) else none) fun k3 => k3))
def F27 : VFn := ⟨93, (.seq (.reg [vo 4 (.boxk 12 (.t 1)), vo 6 (.alloc [(.nl 3), (.nl 6), (.nl 3), (.nl 2), (.nl 12), (.nl 8), (.nl 4)])]) (.seq (.reg [vm 10 0, vl 11 12 4, vo 12 (.call 79 [(.t 10), (.t 11), (ci 6)]), vo 7 (.alloc [(zi 0), (zi 0), (zi 0), (zi 0), (zi 0), (zi 0), (zi 0), (zi 0), (zi 0), (zi 0), (.d (.b false)), (zi 0)]), vu (.st 12 (.t 7) (.t 12))]) (.seq (.wk (.orders [[vf 13 6 4, vs 14 13, vf 15 9 4, vs 16 15, vf 17 6 7, vu (.st 1 (.t 17) (.t 14)), vf 18 9 7, vu (.st 1 (.t 18) (.t 16))], [vf 13 6 4, vs 14 13, vf 15 9 4, vf 17 6 7, vs 16 15, vu (.st 1 (.t 17) (.t 14)), vf 18 9 7, vu (.st 1 (.t 18) (.t 16))], [vf 13 6 4, vs 14 13, vf 15 9 4, vf 17 6 7, vu (.st 1 (.t 17) (.t 14)), vs 16 15, vf 18 9 7, vu (.st 1 (.t 18) (.t 16))], [vf 13 6 4, vs 14 13, vf 17 6 7, vf 15 9 4, vs 16 15, vu (.st 1 (.t 17) (.t 14)), vf 18 9 7, vu (.st 1 (.t 18) (.t 16))], [vf 13 6 4, vs 14 13, vf 17 6 7, vf 15 9 4, vu (.st 1 (.t 17) (.t 14)), vs 16 15, vf 18 9 7, vu (.st 1 (.t 18) (.t 16))], [vf 13 6 4, vs 14 13, vf 17 6 7, vu (.st 1 (.t 17) (.t 14)), vf 15 9 4, vs 16 15, vf 18 9 7, vu (.st 1 (.t 18) (.t 16))], [vf 13 6 4, vf 15 9 4, vs 14 13, vs 16 15, vf 17 6 7, vu (.st 1 (.t 17) (.t 14)), vf 18 9 7, vu (.st 1 (.t 18) (.t 16))], [vf 13 6 4, vf 15 9 4, vs 14 13, vf 17 6 7, vs 16 15, vu (.st 1 (.t 17) (.t 14)), vf 18 9 7, vu (.st 1 (.t 18) (.t 16))], [vf 13 6 4, vf 15 9 4, vs 14 13, vf 17 6 7, vu (.st 1 (.t 17) (.t 14)), vs 16 15, vf 18 9 7, vu (.st 1 (.t 18) (.t 16))], [vf 13 6 4, vf 15 9 4, vs 16 15, vs 14 13, vf 17 6 7, vu (.st 1 (.t 17) (.t 14)), vf 18 9 7, vu (.st 1 (.t 18) (.t 16))], [vf 15 9 4, vf 13 6 4, vs 14 13, vs 16 15, vf 17 6 7, vu (.st 1 (.t 17) (.t 14)), vf 18 9 7, vu (.st 1 (.t 18) (.t 16))], [vf 15 9 4, vf 13 6 4, vs 14 13, vf 17 6 7, vs 16 15, vu (.st 1 (.t 17) (.t 14)), vf 18 9 7, vu (.st 1 (.t 18) (.t 16))], [vf 15 9 4, vf 13 6 4, vs 14 13, vf 17 6 7, vu (.st 1 (.t 17) (.t 14)), vs 16 15, vf 18 9 7, vu (.st 1 (.t 18) (.t 16))], [vf 15 9 4, vf 13 6 4, vs 16 15, vs 14 13, vf 17 6 7, vu (.st 1 (.t 17) (.t 14)), vf 18 9 7, vu (.st 1 (.t 18) (.t 16))], [vf 15 9 4, vs 16 15, vf 13 6 4, vs 14 13, vf 17 6 7, vu (.st 1 (.t 17) (.t 14)), vf 18 9 7, vu (.st 1 (.t 18) (.t 16))]])) (.seq (.draw [vd (vm 20 0) 0, vd (vo 21 (.nilchk (.t 20))) 1, vd (vf 22 5 21) 3, vd (vs 23 22) 7, vd (vm 24 0) 0, vd (vo 25 (.nilchk (.t 24))) 16, vd (vf 26 3 25) 48, vd (vs 27 26) 112, vd (xa 28 4 23 27) 255, vd (vl 29 4 28) 511, vd (vf 30 3 4) 0, vd (vl 31 2 30) 1024, vd (vf 32 6 4) 0, vd (vs 33 32) 4096, vd (vf 34 7 4) 0, vd (vs 35 34) 0x4000, vd (vf 36 9 4) 0, vd (vs 37 36) 0x10000, vd (vo 38 (.call 83 [(.t 29), (.t 31), (.t 33), (.t 35), (.t 37)])) 0x3ffff, vd (vm 19 38) 0x7ffff, vd (et 39 19 0) 0xfffff, vd (et 40 19 1) 0xfffff, ⟨vo 8 (.alloc [(.nl 3), (.nl 6), (.nl 3), (.nl 2)]), 0, [18], none, []⟩, vd (vu (.st 4 (.t 8) (.t 39))) 0x5fffff, vd (vm 9 40) 0xffffff]) (.seq (.seq (.reg [vm 41 9, bk 42 .eql 41 0, vm 43 42, gt 44 43 (.mv (.t 2)), gt 45 43 (.bin .i .lss (.t 44) (ci 500)), vo 46 (.pick (.t 43) (.t 45) (cb false))]) (.wk (.cond (.t 46) (.reg [mi 9 8]) .skip))) (.seq (.block 0 (.seq (.reg [vm 48 9, vo 49 (.call 82 [(.t 48)]), vm 47 49]) (.cond (.t 47) (.seq (.reg [vm 50 9, vf 51 11 7, vu (.st 1 (.t 51) (.t 50))]) (.seq (.draw [vd (vm 52 0) 0, vd (vo 53 (.nilchk (.t 52))) 1, vd (vf 54 5 53) 3, vd (vs 55 54) 7, vd (vm 56 0) 0, vd (vo 57 (.nilchk (.t 56))) 16, vd (vf 58 3 57) 48, vd (vs 59 58) 112, vd (xa 60 4 55 59) 255, vd (vl 61 4 60) 511, vd (vl 62 12 7) 0, vd (vo 63 (.bsl 12 1 [(zi 0), (zi 0), (zi 0), (zi 0), (zi 0), (zi 0), (zi 0), (zi 0), (zi 0), (zi 0), (.d (.b false)), (zi 0)] [(0, (.t 62))])) 1024, vd (vo 64 (.build [(.nl 3), (.nl 6), (.nl 3), (.nl 2), (.nl 12), (.nl 8), (.nl 4)] [(0, 4, (.t 61)), (4, 1, (.t 63))])) 4095, vd (vu (.st 7 (.t 6) (.t 64))) 8191]) .ret)) (.seq (.reg [vm 66 9, bk 67 .neq 66 0, vm 65 67]) (.cond (.t 65) (.seq (.draw [vd (vm 68 0) 0, vd (vo 69 (.nilchk (.t 68))) 1, vd (vf 70 5 69) 3, vd (vs 71 70) 7, vd (vm 72 0) 0, vd (vo 73 (.nilchk (.t 72))) 16, vd (vf 74 3 73) 48, vd (vs 75 74) 112, vd (xa 76 4 71 75) 255, vd (vl 77 4 76) 511, vd (vo 78 (.build [(.nl 3), (.nl 6), (.nl 3), (.nl 2), (.nl 12), (.nl 8), (.nl 4)] [(0, 4, (.t 77))])) 1023, vd (vu (.st 7 (.t 6) (.t 78))) 2047]) .ret) .skip))))) (.seq (.regs [[vl 79 4 8, vl 80 12 7, vo 81 (.bsl 12 1 [(zi 0), (zi 0), (zi 0), (zi 0), (zi 0), (zi 0), (zi 0), (zi 0), (zi 0), (zi 0), (.d (.b false)), (zi 0)] [(0, (.t 80))]), vf 82 3 4, vl 83 2 82, vf 84 6 4, vs 85 84, vf 86 7 4, vs 87 86, vf 88 9 4, vs 89 88, vo 90 (.build [(zi 0), (zi 0), (zi 0), (zi 0), (zi 0), (zi 0), (.d (.b false)), (.nl 1)] [(0, 1, (ci 1)), (1, 2, (.t 83)), (3, 1, (.t 85)), (4, 1, (.t 87)), (5, 1, (.t 89))])], [vo 91 (.bsl 8 1 [(zi 0), (zi 0), (zi 0), (zi 0), (zi 0), (zi 0), (.d (.b false)), (.nl 1)] [(0, (.t 90))]), vo 92 (.build [(.nl 3), (.nl 6), (.nl 3), (.nl 2), (.nl 12), (.nl 8), (.nl 4)] [(0, 4, (.t 79)), (4, 1, (.t 81)), (5, 1, (.t 91))]), vu (.st 7 (.t 6) (.t 92))]]) .ret))))))), [.cell 6 true 7]⟩
theorem low27 : lowF Tryd.prog 27 = some F27.strip := by kernel_rfl
theorem fok27 : fOk Tryd.prog 27 = true := by kernel_rfl
theorem part_site_write_ok (p0 : PartSite) (p1 : Message) (p2 : Int) (r : Answer) (h : part_site_write p0 p1 p2 = some r) : FnRO Tryd.prog G 27 [.one (.d (.k (PartSite.enc p0))), .agg p1.bx, .one (.d (.i .i64 p2))] (fun rs => rs = [.agg (r.enc)]) := by
 refine FnRO.fz ?_ rfl
 refine FnRO.of' low27 fok27 (by simp [F27]) ?_
 rw [part_site_write] at h
 replace h := Hd.mk h
 simp only [F27, go_sem]
 try simp only [*, go_sem]
 refine cr h (part_site_answer_ok G p0 p1 6) (fun v1 h => ?_)
 try simp only [*, go_sem]
 refine jn0 h ([zK 0 (PartSite.enc p0), zI 2 p2, zK 4 (Message.enc p1), zP 6 0, zP 7 1]) ([ox [.nl 3, .nl 6, .nl 3, .nl 2, .nl 12, .nl 8, .nl 4], ox [zi v1.Kind, zi v1.From, zi v1.To, zi v1.Txn.Site, zi v1.Txn.N, zi v1.Label, zi p1.Key, zi v1.Value, zi v1.Version, zi p1.Ask, .d (.b v1.Yes), zi v1.Code]]) (fun k3 h => ?_) (fun h => ?_)
 try simp only [*, go_sem]
 refine ⟨?_, ?_, ?_, ?_, ?_, ?_, ?_, ?_, ?_, ?_, ?_, ?_, ?_, ?_, ?_⟩
 try simp only [*, go_sem]
 exact jc () h.e [some 0, some 1]
 try simp only [*, go_sem]
 exact jc () h.e [some 0, some 1]
 try simp only [*, go_sem]
 exact jc () h.e [some 0, some 1]
 try simp only [*, go_sem]
 exact jc () h.e [some 0, some 1]
 try simp only [*, go_sem]
 exact jc () h.e [some 0, some 1]
 try simp only [*, go_sem]
 exact jc () h.e [some 0, some 1]
 try simp only [*, go_sem]
 exact jc () h.e [some 0, some 1]
 try simp only [*, go_sem]
 exact jc () h.e [some 0, some 1]
 try simp only [*, go_sem]
 exact jc () h.e [some 0, some 1]
 try simp only [*, go_sem]
 exact jc () h.e [some 0, some 1]
 try simp only [*, go_sem]
 exact jc () h.e [some 0, some 1]
 try simp only [*, go_sem]
 exact jc () h.e [some 0, some 1]
 try simp only [*, go_sem]
 exact jc () h.e [some 0, some 1]
 try simp only [*, go_sem]
 exact jc () h.e [some 0, some 1]
 try simp only [*, go_sem]
 exact jc () h.e [some 0, some 1]
 refine obn h (fun x4 _ _ _ _ h => ?_)
 refine obk h (fun v6 hv6 h => ?_)
 try simp only [*, go_sem]
 refine cd (FnRO.fz' (store_Write_ok G x4 p1.Txn p1.Key p1.Value p1.Ask v6 hv6) rfl rfl) ?_
 refine oi h (fun hb7 h => ?_) (fun hb7 h => ?_)
 try simp only [*, go_sem]
 refine jn1 h (fun b8_1 => [zK 0 (PartSite.enc p0), zK 4 (Message.enc p1), zP 6 0, zP 7 1, zP 8 2, zI 9 b8_1]) (fun b8_1 => [ox [.nl 3, .nl 6, .nl 3, .nl 2, .nl 12, .nl 8, .nl 4], ox [zi v1.Kind, zi v1.From, zi v1.To, zi v1.Txn.Site, zi v1.Txn.N, zi v1.Label, zi p1.Key, zi v1.Value, zi v1.Version, zi p1.Ask, .d (.b v1.Yes), zi v1.Code], ox v6.1.bx]) (fun k9 h => ?_) (fun b8_1 h => ?_)
 refine oi h (fun hb10 h => ?_) (fun hb10 h => ?_)
 have := of_decide_eq_true hb10
 try simp only [*, go_sem]
 exact jc (8) h.e [some 0, some 1, some 24]
 try simp only [*, go_sem]
 exact jc (v6.2) h.e [some 0, some 1, some 24]
 try simp only [*, go_sem]
 refine cr h (part_refusal_ok G b8_1) (fun v11 h => ?_)
 refine oi h (fun hb12 h => ?_) (fun hb12 h => ?_)
 cases h.e
 simp only [*, go_sem, mA, mS]
 refine oi h (fun hb13 h => ?_) (fun hb13 h => ?_)
 cases h.e
 simp only [*, go_sem, mA, mS]
 try simp only [*, go_sem]
 refine rg0 h ([zP 6 0, (79, .agg [.d (.l 3 (v6.1.Items.map Item.enc)), .d (.l 6 (v6.1.Locks.map Lock.enc)), .d (.l 3 (v6.1.Doubts.map Doubt.enc)), .d (.l 2 (v6.1.Over.map Txn.enc))]), zR 81 1 0 1, (90, .agg [zi 1, zi p1.Txn.Site, zi p1.Txn.N, zi p1.Key, zi p1.Value, zi p1.Ask, .d (.b false), .nl 1])]) ([ox [.nl 3, .nl 6, .nl 3, .nl 2, .nl 12, .nl 8, .nl 4], oa 12 ([(Message.mk v1.Kind v1.From v1.To v1.Txn v1.Label p1.Key v1.Value v1.Version p1.Ask v1.Yes v1.Code)].map Message.enc)]) (fun k15 h => ?_) (fun h => ?_)
 try simp only [*, go_sem]
 exact jc () h.e [some 0, some 3]
 cases h.e
 simp only [*, go_sem, mA, mS]
 try simp only [*, go_sem]
 refine jn0 h ([zK 0 (PartSite.enc p0), zK 4 (Message.enc p1), zP 6 0, zP 7 1, zP 8 2, zI 9 v6.2]) ([ox [.nl 3, .nl 6, .nl 3, .nl 2, .nl 12, .nl 8, .nl 4], ox [zi v1.Kind, zi v1.From, zi v1.To, zi v1.Txn.Site, zi v1.Txn.N, zi v1.Label, zi p1.Key, zi v1.Value, zi v1.Version, zi p1.Ask, .d (.b v1.Yes), zi v1.Code], ox v6.1.bx]) (fun k17 h => ?_) (fun h => ?_)
 try simp only [*, go_sem]
 exact jc () h.e [some 0, some 1, some 24]
 try simp only [*, go_sem]
 refine cr h (part_refusal_ok G v6.2) (fun v18 h => ?_)
 refine oi h (fun hb19 h => ?_) (fun hb19 h => ?_)
 cases h.e
 simp only [*, go_sem, mA, mS]
 refine oi h (fun hb20 h => ?_) (fun hb20 h => ?_)
 cases h.e
 simp only [*, go_sem, mA, mS]
 try simp only [*, go_sem]
 refine rg0 h ([zP 6 0, (79, .agg [.d (.l 3 (v6.1.Items.map Item.enc)), .d (.l 6 (v6.1.Locks.map Lock.enc)), .d (.l 3 (v6.1.Doubts.map Doubt.enc)), .d (.l 2 (v6.1.Over.map Txn.enc))]), zR 81 1 0 1, (90, .agg [zi 1, zi p1.Txn.Site, zi p1.Txn.N, zi p1.Key, zi p1.Value, zi p1.Ask, .d (.b false), .nl 1])]) ([ox [.nl 3, .nl 6, .nl 3, .nl 2, .nl 12, .nl 8, .nl 4], oa 12 ([(Message.mk v1.Kind v1.From v1.To v1.Txn v1.Label p1.Key v1.Value v1.Version p1.Ask v1.Yes v1.Code)].map Message.enc)]) (fun k22 h => ?_) (fun h => ?_)
 try simp only [*, go_sem]
 exact jc () h.e [some 0, some 3]
 cases h.e
 simp only [*, go_sem, mA, mS]
def store_Still (p0 : Store) (p1 : Txn) (p2 : Int) (p3 : Int) : Option (Bool × Int) := (Option.bind (store_call p0 p1 p2) fun v1 => (if (v1 != 0) = true then (some (false, v1)) else (withK (fun (b3_1 : Bool) => (some (b3_1, 0))) fun k4 => (Option.bind (store_lock p0 p1 p2) fun v5 => (if (decide (v5 ≥ 0)) = true then (Option.bind (store_item p0 p2) fun v7 => (k4 (v7.Version == p3))) else (k4 false))))))
def F84 : VFn := ⟨31, (.seq (.reg [vo 4 (.boxk 4 (.t 0)), vo 5 (.boxk 2 (.t 1)), vo 8 (.mv (cb false)), mi 9 0]) (.seq (.seq (.reg [vl 11 4 4, vl 12 2 5, vm 13 2, vo 14 (.call 141 [(.t 11), (.t 12), (.t 13)]), vm 10 14]) (.seq (.reg [vm 15 10, bk 16 .neq 15 0]) (.cond (.t 16) (.seq (.reg [vm 17 10, vo 8 (.mv (cb false)), vm 9 17]) .ret) .skip))) (.seq (.wk (.reg [vl 18 4 4, vl 19 2 5, vm 20 2, vo 21 (.call 143 [(.t 18), (.t 19), (.t 20)]), bk 22 .geq 21 0, vm 23 22, gt 24 23 (.ld true 4 (.t 4)), gt 25 23 (.mv (.t 2)), gt 26 23 (.call 142 [(.t 24), (.t 25)]), gt 27 23 (.fl false 2 1 (.t 26)), gt 28 23 (.mv (.t 3)), gt 29 23 (.bin .i .eql (.t 27) (.t 28)), vo 30 (.pick (.t 23) (.t 29) (cb false)), vm 8 30, mi 9 0])) .ret))), [.t 8, .t 9]⟩
theorem low84 : lowF Tryd.prog 84 = some F84.strip := by kernel_rfl
theorem fok84 : fOk Tryd.prog 84 = true := by kernel_rfl
theorem store_Still_ok (p0 : Store) (p1 : Txn) (p2 : Int) (p3 : Int) (r : Bool × Int) (h : store_Still p0 p1 p2 p3 = some r) : FnRO Tryd.prog G 84 [.agg p0.bx, .agg p1.bx, .one (.d (.i .i64 p2)), .one (.d (.i .i64 p3))] (fun rs => rs = [.one (.b r.1), .one (.i .i64 r.2)]) := by
 refine FnRO.of' low84 fok84 (by simp [F84]) ?_
 rw [store_Still] at h
 replace h := Hd.mk h
 simp only [F84, go_sem]
 try simp only [*, go_sem]
 refine cr h (store_call_ok G p0 p1 p2) (fun v1 h => ?_)
 refine oi h (fun hb2 h => ?_) (fun hb2 h => ?_)
 cases h.e
 simp only [*, go_sem, mA, mS]
 try simp only [*, go_sem]
 refine jn1 h (fun b3_1 => [zB 8 b3_1, zI 9 0]) (fun b3_1 => []) (fun k4 h => ?_) (fun b3_1 h => ?_)
 try simp only [*, go_sem]
 refine cr h (store_lock_ok G p0 p1 p2) (fun v5 h => ?_)
 refine oi h (fun hb6 h => ?_) (fun hb6 h => ?_)
 try simp only [*, go_sem]
 refine cr h (store_item_ok G p0 p2) (fun v7 h => ?_)
 try simp only [*, go_sem]
 exact jc (v7.Version == p3) h.e []
 try simp only [*, go_sem]
 exact jc (false) h.e []
 cases h.e
 simp only [*, go_sem, mA, mS]
def part_site_still (p0 : PartSite) (p1 : Message) : Option (Answer) := (Option.bind (part_site_answer p0 p1 7) fun v1 => (withK (fun (b2_1 : Bool) => (if 0 ≤ p0.l then (Option.bind (p0.stores[p0.l.toNat]?) fun x12 => (some (Answer.mk x12 [(Message.mk v1.Kind v1.From v1.To v1.Txn p1.Label p1.Key v1.Value p1.Version v1.Ask b2_1 v1.Code)] [] []))) else none)) fun k3 => (if (p1.Label == p0.l) = true then (if 0 ≤ p0.l then (Option.bind (p0.stores[p0.l.toNat]?) fun x5 => (Option.bind (store_Still x5 p1.Txn p1.Key p1.Version) fun v7 => (k3 v7.1))) else none) else (if 0 ≤ p1.Label then (Option.bind (p0.stores[p1.Label.toNat]?) fun x8 => (Option.bind (store_Peek x8 p1.Key) fun v10 => (if (v10.2.2 == 0) = true then (k3 (v10.2.1 == p1.Version)) else (k3 false)))) else none))))
def F28 : VFn := ⟨86, (.seq (.reg [vo 3 (.boxk 12 (.t 1)), vo 4 (.alloc [(.nl 3), (.nl 6), (.nl 3), (.nl 2), (.nl 12), (.nl 8), (.nl 4)])]) (.seq (.reg [vm 9 0, vl 10 12 3, vo 11 (.call 79 [(.t 9), (.t 10), (ci 7)]), vo 5 (.alloc [(zi 0), (zi 0), (zi 0), (zi 0), (zi 0), (zi 0), (zi 0), (zi 0), (zi 0), (zi 0), (.d (.b false)), (zi 0)]), vu (.st 12 (.t 5) (.t 11))]) (.seq (.draw [vd (vf 12 5 3) 0, vd (vs 13 12) 1, ⟨vf 14 6 3, 0, [], none, [1]⟩, ⟨vs 15 14, 4, [], none, [1]⟩, ⟨vf 16 8 3, 0, [], none, [1]⟩, ⟨vs 17 16, 16, [], none, [1]⟩, vd (vf 18 5 5) 3, ⟨vu (.st 1 (.t 18) (.t 13)), 67, [], (some 1), []⟩, vd (vf 19 6 5) 207, ⟨vu (.st 1 (.t 19) (.t 15)), 463, [], (some 1), []⟩, vd (vf 20 8 5) 1023, vd (vu (.st 1 (.t 20) (.t 17))) 2047]) (.seq (.seq (.draw [vd (vf 21 5 3) 0, vd (vs 22 21) 1, vd (vm 23 0) 0, vd (vo 24 (.nilchk (.t 23))) 4, vd (vf 25 3 24) 12, vd (vs 26 25) 28, vd (bt 27 .eql 22 26) 63]) (.wk (.cond (.t 27) (.draw [vd (vm 29 0) 0, vd (vo 30 (.nilchk (.t 29))) 1, vd (vf 31 5 30) 3, vd (vs 32 31) 7, vd (vm 33 0) 0, vd (vo 34 (.nilchk (.t 33))) 16, vd (vf 35 3 34) 48, vd (vs 36 35) 112, vd (xa 37 4 32 36) 255, vd (vl 38 4 37) 511, vd (vf 39 3 3) 0, vd (vl 40 2 39) 1024, vd (vf 41 6 3) 0, vd (vs 42 41) 4096, vd (vf 43 8 3) 0, vd (vs 44 43) 0x4000, vd (vo 45 (.call 84 [(.t 38), (.t 40), (.t 42), (.t 44)])) 0xffff, vd (vm 28 45) 0x1ffff, vd (et 46 28 0) 0x3ffff, vd (et 47 28 1) 0x3ffff, vd (vf 48 10 5) 0x7ffff, vd (vu (.st 1 (.t 48) (.t 46))) 0x17ffff]) (.seq (.draw [vd (vm 50 0) 0, vd (vo 51 (.nilchk (.t 50))) 1, vd (vf 52 5 51) 3, vd (vs 53 52) 7, vd (vf 54 5 3) 0, vd (vs 55 54) 16, vd (xa 56 4 53 55) 63, vd (vl 57 4 56) 127, vd (vf 58 6 3) 0, vd (vs 59 58) 256, vd (vo 60 (.call 81 [(.t 57), (.t 59)])) 1023, vd (vm 49 60) 2047, vd (et 61 49 0) 4095, vd (et 62 49 1) 4095, vd (et 63 49 2) 4095, vd (vm 6 61) 8191, vd (vm 7 62) 0xbfff, vd (vm 8 63) 0x1ffff]) (.reg [vm 64 8, bk 65 .eql 64 0, vm 66 65, gt 67 66 (.mv (.t 7)), gt 68 66 (.fa 8 (.t 3)), gt 69 66 (.ld false 1 (.t 68)), gt 70 66 (.bin .i .eql (.t 67) (.t 69)), vo 71 (.pick (.t 66) (.t 70) (cb false)), vf 72 10 5, vu (.st 1 (.t 72) (.t 71))]))))) (.seq (.draw [vd (vm 73 0) 0, vd (vo 74 (.nilchk (.t 73))) 1, vd (vf 75 5 74) 3, vd (vs 76 75) 7, vd (vm 77 0) 0, vd (vo 78 (.nilchk (.t 77))) 16, vd (vf 79 3 78) 48, vd (vs 80 79) 112, vd (xa 81 4 76 80) 255, vd (vl 82 4 81) 511, vd (vl 83 12 5) 0, vd (vo 84 (.bsl 12 1 [(zi 0), (zi 0), (zi 0), (zi 0), (zi 0), (zi 0), (zi 0), (zi 0), (zi 0), (zi 0), (.d (.b false)), (zi 0)] [(0, (.t 83))])) 1024, vd (vo 85 (.build [(.nl 3), (.nl 6), (.nl 3), (.nl 2), (.nl 12), (.nl 8), (.nl 4)] [(0, 4, (.t 82)), (4, 1, (.t 84))])) 4095, vd (vu (.st 7 (.t 4) (.t 85))) 8191]) .ret))))), [.cell 4 true 7]⟩
theorem low28 : lowF Tryd.prog 28 = some F28.strip := by kernel_rfl
theorem fok28 : fOk Tryd.prog 28 = true := by kernel_rfl
theorem part_site_still_ok (p0 : PartSite) (p1 : Message) (r : Answer) (h : part_site_still p0 p1 = some r) : FnRO Tryd.prog G 28 [.one (.d (.k (PartSite.enc p0))), .agg p1.bx] (fun rs => rs = [.agg (r.enc)]) := by
 refine FnRO.fz ?_ rfl
 refine FnRO.of' low28 fok28 (by simp [F28]) ?_
 rw [part_site_still] at h
 replace h := Hd.mk h
 simp only [F28, go_sem]
 try simp only [*, go_sem]
 refine cr h (part_site_answer_ok G p0 p1 7) (fun v1 h => ?_)
 try simp only [*, go_sem]
 refine jn1 h (fun b2_1 => [zK 0 (PartSite.enc p0), zP 4 0, zP 5 1]) (fun b2_1 => [ox [.nl 3, .nl 6, .nl 3, .nl 2, .nl 12, .nl 8, .nl 4], ox [zi v1.Kind, zi v1.From, zi v1.To, zi v1.Txn.Site, zi v1.Txn.N, zi p1.Label, zi p1.Key, zi v1.Value, zi p1.Version, zi v1.Ask, .d (.b b2_1), zi v1.Code]]) (fun k3 h => ?_) (fun b2_1 h => ?_)
 refine oi h (fun hb4 h => ?_) (fun hb4 h => ?_)
 refine obn h (fun x5 _ _ _ _ h => ?_)
 refine obk h (fun v7 hv7 h => ?_)
 try simp only [*, go_sem]
 refine cd (store_Still_ok G x5 p1.Txn p1.Key p1.Version v7 hv7) ?_
 try simp only [*, go_sem]
 exact jc (v7.1) h.e [some 0, some 1]
 refine obn h (fun x8 _ _ _ _ h => ?_)
 refine obk h (fun v10 hv10 h => ?_)
 try simp only [*, go_sem]
 refine cd (store_Peek_ok G x8 p1.Key v10 hv10) ?_
 refine oi h (fun hb11 h => ?_) (fun hb11 h => ?_)
 try simp only [*, go_sem]
 exact jc (v10.2.1 == p1.Version) h.e [some 0, some 1]
 try simp only [*, go_sem]
 exact jc (false) h.e [some 0, some 1]
 refine obn h (fun x12 _ _ _ _ h => ?_)
 cases h.e
 simp only [*, go_sem, mA, mS]
def store_Writes_L1 (p0 : Store) (p1 : Txn) (k5 : Int → Option (Int × Int)) : Nat → Int → Nat → Option (Int × Int)
 | 0, _, _ => none
 | n7 + 1, a6_1, a6_2 => (if (decide (a6_2 < p0.Locks.length)) = true then (Option.bind (p0.Locks[a6_2]?) fun x9 => (if ((x9.Txn.Site == p1.Site) && (x9.Txn.N == p1.N)) = true then (withK (fun (b11_1 : Int) => (store_Writes_L1 p0 p1 k5 n7 b11_1 (a6_2 + 1))) fun k12 => (if x9.Write = true then (k12 (IntKind.i64.wrap (a6_1 + 1))) else (k12 a6_1))) else (withK (store_Writes_L1 p0 p1 k5 n7 a6_1 (a6_2 + 1)) fun k16 => k16))) else (k5 a6_1))
def store_Writes (p0 : Store) (p1 : Txn) : Option (Int × Int) := (Option.bind (store_call p0 p1 0) fun v1 => (if (v1 != 0) = true then (some (0, v1)) else (withK (fun (b4_1 : Int) => (some (b4_1, 0))) fun k5 => (store_Writes_L1 p0 p1 k5 (p0.Locks.length + 1) 0 0))))
def F85 : VFn := ⟨35, (.seq (.reg [vo 2 (.boxk 4 (.t 0)), vo 3 (.boxk 2 (.t 1)), mi 4 0, mi 5 0]) (.seq (.seq (.reg [vl 10 4 2, vl 11 2 3, vo 12 (.call 141 [(.t 10), (.t 11), (ci 0)]), vm 6 12]) (.seq (.reg [vm 13 6, bk 14 .neq 13 0]) (.cond (.t 14) (.seq (.reg [vm 15 6, mi 4 0, vm 5 15]) .ret) .skip))) (.seq (.reg [mi 7 0]) (.seq (.seq (.reg [vf 16 1 2, vs 17 16, ln 18 17, mi 19 0]) (.wk (.block 0 (.loop (.seq (.reg [bt 20 .lss 19 18]) (.seq (.cond (.t 20) .skip (.exit 0)) (.seq (.block 1 (.seq (.reg [xa 21 6 17 19, vl 22 6 21, vo 9 (.alloc [(zi 0), (zi 0), (zi 0), (.d (.b false)), (zi 0), (zi 0)]), vu (.st 6 (.t 9) (.t 22))]) (.seq (.reg [vf 23 0 9, vl 24 2 23, vl 25 2 3, vo 26 (.eqs false [.i, .i] (.t 24) (.t 25)), vm 27 26, gt 28 27 (.fa 3 (.t 9)), gt 29 27 (.ld false 1 (.t 28)), vo 30 (.pick (.t 27) (.t 29) (cb false))]) (.wk (.cond (.t 30) (.reg [vm 31 7, bk 32 .add 31 1, vm 7 32]) .skip))))) (.reg [bk 33 .add 19 1, vm 19 33])))))))) (.seq (.reg [vm 34 7, vm 4 34, mi 5 0]) .ret))))), [.t 4, .t 5]⟩
theorem low85 : lowF Tryd.prog 85 = some F85.strip := by kernel_rfl
theorem fok85 : fOk Tryd.prog 85 = true := by kernel_rfl
theorem store_Writes_ok (p0 : Store) (p1 : Txn) (r : Int × Int) (h : store_Writes p0 p1 = some r) : FnRO Tryd.prog G 85 [.agg p0.bx, .agg p1.bx] (fun rs => rs = [.one (.i .i64 r.1), .one (.i .i64 r.2)]) := by
 refine FnRO.of' low85 fok85 (by simp [F85]) ?_
 rw [store_Writes] at h
 replace h := Hd.mk h
 simp only [F85, go_sem]
 try simp only [*, go_sem]
 refine cr h (store_call_ok G p0 p1 0) (fun v1 h => ?_)
 refine oi h (fun hb2 h => ?_) (fun hb2 h => ?_)
 cases h.e
 simp only [*, go_sem, mA, mS]
 try simp only [*, go_sem]
 intro hl3
 try simp only [*, go_sem]
 refine jn1 h (fun b4_1 => [zI 7 b4_1]) (fun b4_1 => []) (fun k5 h => ?_) (fun b4_1 h => ?_)
 try simp only [*, go_sem]
 refine lp2 (store_Writes_L1 p0 p1 k5) (fun a6_1 a6_2 => [zK 3 (Txn.enc p1), zI 7 a6_1, zL 17 6 (p0.Locks.map Lock.enc), zI 18 ((p0.Locks.length : Nat) : Int), zI 19 ((a6_2 : Nat) : Int)]) (fun a6_1 a6_2 => []) h [] [] (fun n7 a6_1 a6_2 h => ?_) (by intros; rw [store_Writes_L1])
 rw [store_Writes_L1] at h
 refine oi h (fun hb8 h => ?_) (fun hb8 h => ?_)
 have := of_decide_eq_true hb8
 refine obg h (fun x9 _ hkx9 h => ?_)
 refine oi h (fun hb10 h => ?_) (fun hb10 h => ?_)
 try simp only [*, go_sem]
 try simp only [*, go_sem]
 refine jn1 h (fun b11_1 => [zK 3 (Txn.enc p1), zI 7 b11_1, zL 17 6 (p0.Locks.map Lock.enc), zI 18 ((p0.Locks.length : Nat) : Int), zI 19 ((a6_2 : Nat) : Int), (28, .one (.p (.q 0 0 3))), zB 29 x9.Write]) (fun b11_1 => [ox x9.bx]) (fun k12 h => ?_) (fun b11_1 h => ?_)
 refine oi h (fun hb13 h => ?_) (fun hb13 h => ?_)
 try simp only [*, go_sem]
 exact jc (IntKind.i64.wrap (a6_1 + 1)) h.e [some 0]
 try simp only [*, go_sem]
 exact jc (a6_1) h.e [some 0]
 have := wrap_succ_max hkx9 hl3
 try simp only [*, go_sem]
 exact lc (b11_1, a6_2 + 1) h.e []
 try simp only [*, go_sem]
 try simp only [*, go_sem]
 refine jn0 h ([zK 3 (Txn.enc p1), zI 7 a6_1, zL 17 6 (p0.Locks.map Lock.enc), zI 18 ((p0.Locks.length : Nat) : Int), zI 19 ((a6_2 : Nat) : Int)]) ([]) (fun k16 h => ?_) (fun h => ?_)
 try simp only [*, go_sem]
 exact jc () h.e []
 have := wrap_succ_max hkx9 hl3
 try simp only [*, go_sem]
 exact lc (a6_1, a6_2 + 1) h.e []
 try simp only [*, go_sem]
 exact jc (a6_1) h.e []
 cases h.e
 simp only [*, go_sem, mA, mS]
theorem ovl149 : OvlOk Tryd.prog 191 := ⟨((Tryd.prog.funcs[191]?).get (by kernel_rfl)), 33, 4, 154, (Option.some_get _).symm, by kernel_rfl, by kernel_rfl, by kernel_rfl, by kernel_rfl, by kernel_rfl, by kernel_rfl, by kernel_rfl⟩
theorem ins149 : InsOk Tryd.prog 149 3 24 := ⟨[(zi 0), (zi 0), (zi 0)], _, 191, 192, by kernel_rfl, by kernel_rfl, ovl149, fun _ => rfl, rfl, by decide⟩
def store_End_1 (p0 : Lock) (p1 : Txn) : Option (Bool) := (some ((p0.Txn.Site == p1.Site) && (p0.Txn.N == p1.N)))
def F151 : VFn := ⟨8, (.seq (.reg [vo 2 (.boxk 6 (.t 0)), vo 3 (.mv (cb false))]) (.seq (.reg [vf 4 0 2, vl 5 2 4, vl 6 2 1, vo 7 (.eqs false [.i, .i] (.t 5) (.t 6)), vm 3 7]) .ret)), [.t 3]⟩
theorem low151 : lowF Tryd.prog 151 = some F151.strip := by kernel_rfl
theorem fok151 : fOk Tryd.prog 151 = true := by kernel_rfl
theorem store_End_1_ok (p0 : Lock) (p1 : Txn) (r : Bool) (h : store_End_1 p0 p1 = some r) : FnRO Tryd.prog G 151 [.agg p0.bx, .one (.d (.k (Txn.enc p1)))] (fun rs => rs = [.one (.b r)]) := by
 refine FnRO.of' low151 fok151 (by simp [F151]) ?_
 rw [store_End_1] at h
 replace h := Hd.mk h
 simp only [F151, go_sem]
 cases h.e
 simp only [*, go_sem, mA, mS]
def F150 : VFn := ⟨42, (.seq (.reg [vo 4 (.mv (.c (.one (.nl 6))))]) (.seq (.reg [vm 8 0, vm 9 1, vo 10 (.call 184 [(.t 8), (.t 9)]), vm 5 10]) (.seq (.seq (.reg [vm 11 5, bk 12 .eql 11 (-1)]) (.cond (.t 12) (.seq (.reg [vm 13 0, vm 4 13]) .ret) .skip)) (.seq (.seq (.reg [vm 14 5, bk 15 .add 14 1, vm 6 15]) (.wk (.block 0 (.loop (.seq (.seq (.reg [vm 16 6, vm 17 0, ln 18 17, bt 19 .lss 16 18]) (.cond (.t 19) .skip (.exit 0))) (.seq (.block 1 (.seq (.reg [vm 22 0, vm 23 6, xa 24 6 22 23, vl 25 6 24, vo 7 (.alloc [(zi 0), (zi 0), (zi 0), (.d (.b false)), (zi 0), (zi 0)]), vu (.st 6 (.t 7) (.t 25))]) (.seq (.reg [vm 26 1, vl 27 6 7, vo 28 (.callv (.t 26) [(.t 27)]), nt 29 28]) (.wk (.cond (.t 29) (.seq (.reg [vm 30 0, vm 31 5, vl 32 6 7, xa 33 6 30 31, vu (.st 6 (.t 33) (.t 32))]) (.reg [vm 34 5, bk 35 .add 34 1, vm 5 35])) .skip))))) (.reg [vm 20 6, bk 21 .add 20 1, vm 6 21]))))))) (.seq (.reg [vm 36 0, vm 37 5, vo 38 (.sl 6 (.t 36) (some (.t 37)) none), vu (.clr 6 [(zi 0), (zi 0), (zi 0), (.d (.b false)), (zi 0), (zi 0)] (.t 38))]) (.seq (.reg [vm 39 0, vm 40 5, vo 41 (.sl 6 (.t 39) none (some (.t 40))), vm 4 41]) .ret)))))), [.t 4]⟩
theorem low150 : lowF Tryd.prog 150 = some F150.strip := by kernel_rfl
theorem fok150 : fOk Tryd.prog 150 = true := by kernel_rfl
def store_End_2 (p0 : Doubt) (p1 : Txn) : Option (Bool) := (some ((p0.Txn.Site == p1.Site) && (p0.Txn.N == p1.N)))
def F153 : VFn := ⟨8, (.seq (.reg [vo 2 (.boxk 3 (.t 0)), vo 3 (.mv (cb false))]) (.seq (.reg [vf 4 0 2, vl 5 2 4, vl 6 2 1, vo 7 (.eqs false [.i, .i] (.t 5) (.t 6)), vm 3 7]) .ret)), [.t 3]⟩
theorem low153 : lowF Tryd.prog 153 = some F153.strip := by kernel_rfl
theorem fok153 : fOk Tryd.prog 153 = true := by kernel_rfl
theorem store_End_2_ok (p0 : Doubt) (p1 : Txn) (r : Bool) (h : store_End_2 p0 p1 = some r) : FnRO Tryd.prog G 153 [.agg p0.bx, .one (.d (.k (Txn.enc p1)))] (fun rs => rs = [.one (.b r)]) := by
 refine FnRO.of' low153 fok153 (by simp [F153]) ?_
 rw [store_End_2] at h
 replace h := Hd.mk h
 simp only [F153, go_sem]
 cases h.e
 simp only [*, go_sem, mA, mS]
def F152 : VFn := ⟨42, (.seq (.reg [vo 4 (.mv (.c (.one (.nl 3))))]) (.seq (.reg [vm 8 0, vm 9 1, vo 10 (.call 193 [(.t 8), (.t 9)]), vm 5 10]) (.seq (.seq (.reg [vm 11 5, bk 12 .eql 11 (-1)]) (.cond (.t 12) (.seq (.reg [vm 13 0, vm 4 13]) .ret) .skip)) (.seq (.seq (.reg [vm 14 5, bk 15 .add 14 1, vm 6 15]) (.wk (.block 0 (.loop (.seq (.seq (.reg [vm 16 6, vm 17 0, ln 18 17, bt 19 .lss 16 18]) (.cond (.t 19) .skip (.exit 0))) (.seq (.block 1 (.seq (.reg [vm 22 0, vm 23 6, xa 24 3 22 23, vl 25 3 24, vo 7 (.alloc [(zi 0), (zi 0), (zi 0)]), vu (.st 3 (.t 7) (.t 25))]) (.seq (.reg [vm 26 1, vl 27 3 7, vo 28 (.callv (.t 26) [(.t 27)]), nt 29 28]) (.wk (.cond (.t 29) (.seq (.reg [vm 30 0, vm 31 5, vl 32 3 7, xa 33 3 30 31, vu (.st 3 (.t 33) (.t 32))]) (.reg [vm 34 5, bk 35 .add 34 1, vm 5 35])) .skip))))) (.reg [vm 20 6, bk 21 .add 20 1, vm 6 21]))))))) (.seq (.reg [vm 36 0, vm 37 5, vo 38 (.sl 3 (.t 36) (some (.t 37)) none), vu (.clr 3 [(zi 0), (zi 0), (zi 0)] (.t 38))]) (.seq (.reg [vm 39 0, vm 40 5, vo 41 (.sl 3 (.t 39) none (some (.t 40))), vm 4 41]) .ret)))))), [.t 4]⟩
theorem low152 : lowF Tryd.prog 152 = some F152.strip := by kernel_rfl
theorem fok152 : fOk Tryd.prog 152 = true := by kernel_rfl
def store_End_L1 (p0 : Store) (p1 : Txn) (k6 : (List Item) → Option (Store × Int)) : Nat → Bool → Nat → (List Item) → Option (Store × Int)
 | 0, _, _, _ => none
 | n8 + 1, a7_1, a7_2, a7_3 => (if (decide (a7_2 < p0.Locks.length)) = true then (Option.bind (p0.Locks[a7_2]?) fun x10 => (if (!((x10.Txn.Site == p1.Site) && (x10.Txn.N == p1.N))) = true then (store_End_L1 p0 p1 k6 n8 a7_1 (a7_2 + 1) a7_3) else (if (!x10.Write) = true then (store_End_L1 p0 p1 k6 n8 a7_1 (a7_2 + 1) a7_3) else (if (!a7_1) = true then (store_End_L1 p0 p1 k6 n8 false (a7_2 + 1) a7_3) else (Option.bind (store_at a7_3 x10.Key) fun v17 => (withK (fun (b18_1 : List Item) => (if 0 ≤ v17.1 then (Option.bind (b18_1[v17.1.toNat]?) fun x22 => (store_End_L1 p0 p1 k6 n8 true (a7_2 + 1) (b18_1.set v17.1.toNat (Item.mk ((Item.mk x22.Key x10.Value x22.Version).Key) ((Item.mk x22.Key x10.Value x22.Version).Value) (IntKind.i64.wrap ((Item.mk x22.Key x10.Value x22.Version).Version + 1)))))) else none)) fun k19 => (if (!v17.2) = true then (Option.bind (insertF 24 a7_3 v17.1 (Item.mk x10.Key 0 0)) fun v21 => (k19 v21)) else (k19 a7_3)))))))) else (k6 a7_3))
def store_End_L2 (p1 : Txn) (k31 : Int → (List Lock) → Option (Store × Int)) : Nat → Int → Int → (List Lock) → Option (Store × Int)
 | 0, _, _, _ => none
 | n33 + 1, a32_1, a32_2, a32_3 => (if (decide (a32_2 < ((a32_3.length : Nat) : Int))) = true then (if 0 ≤ a32_2 then (Option.bind (a32_3[a32_2.toNat]?) fun x36 => (Option.bind (store_End_1 x36 p1) fun v38 => (withK (fun (b39_1 : Int) (b39_2 : List Lock) => (store_End_L2 p1 k31 n33 b39_1 (IntKind.i64.wrap (a32_2 + 1)) b39_2)) fun k40 => (if (!v38) = true then (if 0 ≤ a32_1 then (Option.bind (a32_3[a32_1.toNat]?) fun x42 => (k40 (IntKind.i64.wrap (a32_1 + 1)) (a32_3.set a32_1.toNat x36))) else none) else (k40 a32_1 a32_3))))) else none) else (k31 a32_1 a32_3))
def store_End_L3 (p1 : Txn) (k54 : Int → (List Doubt) → Option (Store × Int)) : Nat → Int → Int → (List Doubt) → Option (Store × Int)
 | 0, _, _, _ => none
 | n56 + 1, a55_1, a55_2, a55_3 => (if (decide (a55_2 < ((a55_3.length : Nat) : Int))) = true then (if 0 ≤ a55_2 then (Option.bind (a55_3[a55_2.toNat]?) fun x59 => (Option.bind (store_End_2 x59 p1) fun v61 => (withK (fun (b62_1 : Int) (b62_2 : List Doubt) => (store_End_L3 p1 k54 n56 b62_1 (IntKind.i64.wrap (a55_2 + 1)) b62_2)) fun k63 => (if (!v61) = true then (if 0 ≤ a55_1 then (Option.bind (a55_3[a55_1.toNat]?) fun x65 => (k63 (IntKind.i64.wrap (a55_1 + 1)) (a55_3.set a55_1.toNat x59))) else none) else (k63 a55_1 a55_3))))) else none) else (k54 a55_1 a55_3))
def store_End (p0 : Store) (p1 : Txn) (p2 : Bool) : Option (Store × Int) := (Option.bind (store_call p0 p1 0) fun v1 => (if (v1 != 0) = true then (some ((Store.mk [] [] [] []), v1)) else (Option.bind (store_own p0) fun v3 => (withK (fun (b5_1 : List Item) => (withK (fun (b25_1 : List Lock) => (withK (fun (b48_1 : List Doubt) => (Option.bind (slices_Contains_Txn v3.Over p1) fun v71 => (withK (fun (b72_1 : List Txn) => (some ((Store.mk b5_1 b25_1 b48_1 b72_1), 0))) fun k73 => (if (!v71) = true then (if fits 16 (v3.Over.length + 1) then (k73 (v3.Over ++ [p1])) else none) else (k73 v3.Over))))) fun k49 => (Option.bind (slices_IndexFunc_Doubt v3.Doubts (fun y50 => store_End_2 y50 p1)) fun v51 => (if (v51 == (-1)) = true then (k49 v3.Doubts) else (withK (fun (b53_1 : Int) (b53_2 : List Doubt) => (if 0 ≤ b53_1 then (if b53_1 ≤ ((b53_2.length : Nat) : Int) then (k49 (b53_2.take b53_1.toNat)) else none) else none)) fun k54 => (store_End_L3 p1 k54 (v3.Doubts.length + 1) v51 (IntKind.i64.wrap (v51 + 1)) v3.Doubts)))))) fun k26 => (Option.bind (slices_IndexFunc_Lock v3.Locks (fun y27 => store_End_1 y27 p1)) fun v28 => (if (v28 == (-1)) = true then (k26 v3.Locks) else (withK (fun (b30_1 : Int) (b30_2 : List Lock) => (if 0 ≤ b30_1 then (if b30_1 ≤ ((b30_2.length : Nat) : Int) then (k26 (b30_2.take b30_1.toNat)) else none) else none)) fun k31 => (store_End_L2 p1 k31 (v3.Locks.length + 1) v28 (IntKind.i64.wrap (v28 + 1)) v3.Locks)))))) fun k6 => (store_End_L1 p0 p1 k6 (p0.Locks.length + 1) p2 0 v3.Items)))))
def F86 : VFn := ⟨101, (.seq (.reg [vo 3 (.boxk 4 (.t 0)), vo 4 (.box 2 (.t 1)), vo 6 (.alloc [(.nl 3), (.nl 6), (.nl 3), (.nl 2)]), mi 7 0]) (.seq (.seq (.reg [vl 14 4 3, vl 15 2 4, vo 16 (.call 141 [(.t 14), (.t 15), (ci 0)]), vm 8 16]) (.seq (.reg [vm 17 8, bk 18 .neq 17 0]) (.cond (.t 18) (.seq (.reg [vo 19 (.build [(.nl 3), (.nl 6), (.nl 3), (.nl 2)] []), vm 20 8, vu (.st 4 (.t 6) (.t 19)), vm 7 20]) .ret) .skip))) (.seq (.reg [vl 21 4 3, vo 22 (.call 144 [(.t 21)]), vo 9 (.alloc [(.nl 3), (.nl 6), (.nl 3), (.nl 2)]), vu (.st 4 (.t 9) (.t 22))]) (.seq (.seq (.reg [vf 23 1 3, vs 24 23, ln 25 24, mi 26 0]) (.wk (.block 0 (.loop (.seq (.reg [bt 27 .lss 26 25]) (.seq (.cond (.t 27) .skip (.exit 0)) (.seq (.block 1 (.seq (.reg [xa 28 6 24 26, vl 29 6 28, vo 11 (.alloc [(zi 0), (zi 0), (zi 0), (.d (.b false)), (zi 0), (zi 0)]), vu (.st 6 (.t 11) (.t 29))]) (.seq (.seq (.reg [vf 30 0 11, vl 31 2 30, vl 32 2 4, vo 33 (.eqs true [.i, .i] (.t 31) (.t 32)), vm 34 33, gf 35 34 (.fa 3 (.t 11)), gf 36 34 (.ld false 1 (.t 35)), gf 37 34 (.un .not (.t 36)), vo 38 (.pick (.t 34) (cb true) (.t 37)), vm 39 38, gf 40 39 (.mv (.t 2)), gf 41 39 (.un .not (.t 40)), vo 42 (.pick (.t 39) (cb true) (.t 41))]) (.cond (.t 42) (.exit 1) .skip)) (.seq (.reg [vf 44 0 9, vs 45 44, vf 46 2 11, vs 47 46, vo 48 (.call 148 [(.t 45), (.t 47)]), vm 43 48, et 49 43 0, et 50 43 1, vm 12 49, vm 13 50]) (.seq (.seq (.reg [vm 51 13, nt 52 51]) (.wk (.cond (.t 52) (.reg [vf 53 0 9, vs 54 53, vm 55 12, vf 56 2 11, vs 57 56, vo 58 (.build [(zi 0), (zi 0), (zi 0)] [(0, 1, (.t 57))]), vo 59 (.bsl 3 1 [(zi 0), (zi 0), (zi 0)] [(0, (.t 58))]), vo 60 (.call 149 [(.t 54), (.t 55), (.t 59)]), vf 61 0 9, vu (.st 1 (.t 61) (.t 60))]) .skip))) (.seq (.reg [vf 62 0 9, vs 63 62, vm 64 12, vf 65 4 11, vs 66 65, xa 67 3 63 64, vf 68 1 67, vu (.st 1 (.t 68) (.t 66))]) (.reg [vf 69 0 9, vs 70 69, vm 71 12, xa 72 3 70 71, vf 73 2 72, vs 74 73, bk 75 .add 74 1, xa 76 3 70 71, vf 77 2 76, vu (.st 1 (.t 77) (.t 75))]))))))) (.reg [bk 78 .add 26 1, vm 26 78])))))))) (.seq (.wk (.reg [vf 79 1 9, vs 80 79, vo 81 (.mkf 151 [(.t 4)]), vo 82 (.call 150 [(.t 80), (.t 81)]), vf 83 1 9, vu (.st 1 (.t 83) (.t 82))])) (.seq (.wk (.reg [vf 84 2 9, vs 85 84, vo 86 (.mkf 153 [(.t 4)]), vo 87 (.call 152 [(.t 85), (.t 86)]), vf 88 2 9, vu (.st 1 (.t 88) (.t 87))])) (.seq (.seq (.reg [vf 89 3 9, vs 90 89, vl 91 2 4, vo 92 (.call 145 [(.t 90), (.t 91)]), nt 93 92]) (.wk (.cond (.t 93) (.reg [vf 94 3 9, vs 95 94, vl 96 2 4, vo 97 (.bsl 2 1 [(zi 0), (zi 0)] [(0, (.t 96))]), vo 98 (.app 2 16 (.t 95) (.t 97)), vf 99 3 9, vu (.st 1 (.t 99) (.t 98))]) .skip))) (.seq (.reg [vl 100 4 9, vu (.st 4 (.t 6) (.t 100)), mi 7 0]) .ret)))))))), [.cell 6 true 4, .t 7]⟩
theorem low86 : lowF Tryd.prog 86 = some F86.strip := by kernel_rfl
theorem fok86 : fOk Tryd.prog 86 = true := by kernel_rfl
theorem store_End_ok (p0 : Store) (p1 : Txn) (p2 : Bool) (r : Store × Int) (h : store_End p0 p1 p2 = some r) : FnRO Tryd.prog G 86 [.agg p0.bx, .agg p1.bx, .one (.d (.b p2))] (fun rs => rs = [.agg (r.1.encO), .one (.i .i64 r.2)]) := by
 refine FnRO.of' low86 fok86 (by simp [F86]) ?_
 rw [store_End] at h
 replace h := Hd.mk h
 simp only [F86, go_sem]
 try simp only [*, go_sem]
 refine cr h (store_call_ok G p0 p1 0) (fun v1 h => ?_)
 refine oi h (fun hb2 h => ?_) (fun hb2 h => ?_)
 cases h.e
 simp only [*, go_sem, mA, mS]
 try simp only [*, go_sem]
 refine cr h (store_own_ok G p0) (fun v3 h => ?_)
 try simp only [*, go_sem]
 intro hl4
 try simp only [*, go_sem]
 refine jn1 h (fun b5_1 => [zP 4 0, zP 6 1, zP 9 2]) (fun b5_1 => [ox p1.bx, ox [.nl 3, .nl 6, .nl 3, .nl 2], ox [.r 3 0 b5_1.length, .r 4 0 v3.Locks.length, .r 5 0 v3.Doubts.length, .r 6 0 v3.Over.length], oa 3 (b5_1.map Item.enc), oa 6 (v3.Locks.map Lock.enc), oa 3 (v3.Doubts.map Doubt.enc), oa 2 (v3.Over.map Txn.enc)]) (fun k6 h => ?_) (fun b5_1 h => ?_)
 try simp only [*, go_sem]
 refine lp3 (store_End_L1 p0 p1 k6) (fun a7_1 a7_2 a7_3 => [zB 2 a7_1, zP 4 0, zP 6 1, zP 9 2, zL 24 6 (p0.Locks.map Lock.enc), zI 25 ((p0.Locks.length : Nat) : Int), zI 26 ((a7_2 : Nat) : Int)]) (fun a7_1 a7_2 a7_3 => [ox p1.bx, ox [.nl 3, .nl 6, .nl 3, .nl 2], ox [.r 3 0 a7_3.length, .r 4 0 v3.Locks.length, .r 5 0 v3.Doubts.length, .r 6 0 v3.Over.length], oa 3 (a7_3.map Item.enc), oa 6 (v3.Locks.map Lock.enc), oa 3 (v3.Doubts.map Doubt.enc), oa 2 (v3.Over.map Txn.enc)]) h [] [some 0, some 1, some 6, some 2, some 3, some 4, some 5] (fun n8 a7_1 a7_2 a7_3 h => ?_) (by intros; rw [store_End_L1])
 rw [store_End_L1] at h
 refine oi h (fun hb9 h => ?_) (fun hb9 h => ?_)
 have := of_decide_eq_true hb9
 refine obg h (fun x10 _ hkx10 h => ?_)
 refine oin h (fun hb11 hkhb11 h => ?_) (fun hb11 hkhb11 h => ?_)
 try simp only [*, go_sem]
 have := wrap_succ_max hkx10 hl4
 try simp only [*, go_sem]
 exact lc (a7_1, a7_2 + 1, a7_3) h.e [some 0, some 1, some 2, some 3, some 4, some 5, some 6]
 try simp only [*, go_sem]
 refine oin h (fun hb13 hkhb13 h => ?_) (fun hb13 hkhb13 h => ?_)
 have := wrap_succ_max hkx10 hl4
 try simp only [*, go_sem]
 exact lc (a7_1, a7_2 + 1, a7_3) h.e [some 0, some 1, some 2, some 3, some 4, some 5, some 6]
 refine oin h (fun hb15 hkhb15 h => ?_) (fun hb15 hkhb15 h => ?_)
 have := wrap_succ_max hkx10 hl4
 try simp only [*, go_sem]
 exact lc (false, a7_2 + 1, a7_3) h.e [some 0, some 1, some 2, some 3, some 4, some 5, some 6]
 try simp only [*, go_sem]
 refine cl h (store_at_ok G a7_3 x10.Key) (fun v17 h => ?_)
 try simp only [*, go_sem]
 refine jn1 h (fun b18_1 => [zB 2 true, zP 4 0, zP 6 1, zP 9 2, zP 11 3, zI 12 v17.1, zL 24 6 (p0.Locks.map Lock.enc), zI 25 ((p0.Locks.length : Nat) : Int), zI 26 ((a7_2 : Nat) : Int), (35, .one (.p (.q 3 0 3))), zB 36 true, zB 37 false, zB 40 true, zB 41 false]) (fun b18_1 => [ox p1.bx, ox [.nl 3, .nl 6, .nl 3, .nl 2], ox [.r 4 0 b18_1.length, .r 5 0 v3.Locks.length, .r 6 0 v3.Doubts.length, .r 7 0 v3.Over.length], ox [zi x10.Txn.Site, zi x10.Txn.N, zi x10.Key, .d (.b true), zi x10.Value, zi x10.Ask], oa 3 (b18_1.map Item.enc), oa 6 (v3.Locks.map Lock.enc), oa 3 (v3.Doubts.map Doubt.enc), oa 2 (v3.Over.map Txn.enc)]) (fun k19 h => ?_) (fun b18_1 h => ?_)
 refine oin h (fun hb20 hkhb20 h => ?_) (fun hb20 hkhb20 h => ?_)
 refine obk h (fun v21 hv21 h => ?_)
 try simp only [*, go_sem]
 refine insert_callF ins149 (enc := Item.enc) (x := (Item.mk x10.Key 0 0)) hv21 (by decide) (by first | rfl | (simp only [*, go_sem]; done)) (by first | rfl | (simp only [*, go_sem]; done)) ?_
 try simp only [*, go_sem]
 exact jc (v21) h.e [some 0, some 1, some 2, some 7, some 9, some 4, some 5, some 6]
 try simp only [*, go_sem]
 exact jc (a7_3) h.e [some 0, some 1, some 2, some 7, some 3, some 4, some 5, some 6]
 refine obn h (fun x22 _ _ _ _ h => ?_)
 have := wrap_succ_max hkx10 hl4
 try simp only [*, go_sem]
 exact lc (true, a7_2 + 1, (b18_1.set v17.1.toNat (Item.mk ((Item.mk x22.Key x10.Value x22.Version).Key) ((Item.mk x22.Key x10.Value x22.Version).Value) (IntKind.i64.wrap ((Item.mk x22.Key x10.Value x22.Version).Version + 1))))) h.e [some 0, some 1, some 2, some 4, some 5, some 6, some 7]
 try simp only [*, go_sem]
 exact jc (a7_3) h.e [some 0, some 1, some 2, some 3, some 4, some 5, some 6]
 try simp only [*, go_sem]
 refine jn1 h (fun b25_1 => [zP 4 0, zP 6 1, zP 9 2]) (fun b25_1 => [ox p1.bx, ox [.nl 3, .nl 6, .nl 3, .nl 2], ox [.r 3 0 b5_1.length, .r 4 0 b25_1.length, .r 5 0 v3.Doubts.length, .r 6 0 v3.Over.length], oa 3 (b5_1.map Item.enc), oa 6 (b25_1.map Lock.enc), oa 3 (v3.Doubts.map Doubt.enc), oa 2 (v3.Over.map Txn.enc)]) (fun k26 h => ?_) (fun b25_1 h => ?_)
 try simp only [*, go_sem]
 refine cx low150 fok150 ?_
 simp only [*, F150, go_sem]
 try simp only [*, go_sem]
 refine cl h (slices_IndexFunc_Lock_ok G v3.Locks (fun y27 => store_End_1 y27 p1) 151 [.k [.i .i64 p1.Site, .i .i64 p1.N]] (fun y27 r h => store_End_1_ok G y27 p1 r h)) (fun v28 h => ?_)
 refine oi h (fun hb29 h => ?_) (fun hb29 h => ?_)
 try simp only [*, go_sem]
 exact jc (v3.Locks) h.e [some 0, some 1, some 2, some 3, some 4, some 5, some 6]
 try simp only [*, go_sem]
 refine jn2 h (fun b30_1 b30_2 => [zR 0 0 0 b30_2.length, zI 5 b30_1, zP 1000004 1, zP 1000006 2, zP 1000009 3]) (fun b30_1 b30_2 => [oa 6 (b30_2.map Lock.enc), ox p1.bx, ox [.nl 3, .nl 6, .nl 3, .nl 2], ox [.r 4 0 b5_1.length, .r 0 0 b30_2.length, .r 5 0 v3.Doubts.length, .r 6 0 v3.Over.length], oa 3 (b5_1.map Item.enc), oa 3 (v3.Doubts.map Doubt.enc), oa 2 (v3.Over.map Txn.enc)]) (fun k31 h => ?_) (fun b30_1 b30_2 h => ?_)
 try simp only [*, go_sem]
 refine lp3 (store_End_L2 p1 k31) (fun a32_1 a32_2 a32_3 => [zR 0 0 0 a32_3.length, (1, .one (.c 151 [.q 1 0 0])), zI 5 a32_1, zI 6 a32_2, zP 1000004 1, zP 1000006 2, zP 1000009 3]) (fun a32_1 a32_2 a32_3 => [oa 6 (a32_3.map Lock.enc), ox p1.bx, ox [.nl 3, .nl 6, .nl 3, .nl 2], ox [.r 4 0 b5_1.length, .r 0 0 a32_3.length, .r 5 0 v3.Doubts.length, .r 6 0 v3.Over.length], oa 3 (b5_1.map Item.enc), oa 3 (v3.Doubts.map Doubt.enc), oa 2 (v3.Over.map Txn.enc)]) h [] [some 4, some 0, some 1, some 2, some 3, some 5, some 6] (fun n33 a32_1 a32_2 a32_3 h => ?_) (by intros; rw [store_End_L2])
 rw [store_End_L2] at h
 try simp only [*, go_sem]
 intro hl34
 refine oi h (fun hb35 h => ?_) (fun hb35 h => ?_)
 refine obn h (fun x36 _ _ _ _ h => ?_)
 try simp only [*, go_sem]
 refine cl h (store_End_1_ok G x36 p1) (fun v38 h => ?_)
 try simp only [*, go_sem]
 refine jn2 h (fun b39_1 b39_2 => [zR 0 0 0 b39_2.length, (1, .one (.c 151 [.q 1 0 0])), zI 5 b39_1, zI 6 a32_2, zP 1000004 1, zP 1000006 2, zP 1000009 3]) (fun b39_1 b39_2 => [oa 6 (b39_2.map Lock.enc), ox p1.bx, ox [.nl 3, .nl 6, .nl 3, .nl 2], ox [.r 4 0 b5_1.length, .r 0 0 b39_2.length, .r 5 0 v3.Doubts.length, .r 6 0 v3.Over.length], oa 3 (b5_1.map Item.enc), oa 3 (v3.Doubts.map Doubt.enc), oa 2 (v3.Over.map Txn.enc)]) (fun k40 h => ?_) (fun b39_1 b39_2 h => ?_)
 refine oin h (fun hb41 hkhb41 h => ?_) (fun hb41 hkhb41 h => ?_)
 refine obn h (fun x42 _ _ _ _ h => ?_)
 try simp only [*, go_sem]
 exact jc (IntKind.i64.wrap (a32_1 + 1), (a32_3.set a32_1.toNat x36)) h.e [some 0, some 1, some 2, some 3, some 4, some 5, some 6]
 try simp only [*, go_sem]
 exact jc (a32_1, a32_3) h.e [some 0, some 1, some 2, some 3, some 4, some 5, some 6]
 try simp only [*, go_sem]
 exact lc (b39_1, IntKind.i64.wrap (a32_2 + 1), b39_2) h.e [some 0, some 1, some 2, some 3, some 4, some 5, some 6]
 try simp only [*, go_sem]
 exact jc (a32_1, a32_3) h.e [some 0, some 1, some 2, some 3, some 4, some 5, some 6]
 refine ck h (fun _ h => ?_)
 refine ck h (fun _ h => ?_)
 have : b30_1.toNat + ((((b30_2.length : Nat) : Int) - b30_1).toNat) ≤ b30_2.length := by omega
 have : min b30_1.toNat b30_2.length = b30_1.toNat := by omega
 try simp only [*, go_sem]
 exact jc ((b30_2.take b30_1.toNat)) h.e [some 1, some 2, some 3, some 4, some 0, some 5, some 6]
 try simp only [*, go_sem]
 refine jn1 h (fun b48_1 => [zP 4 0, zP 6 1, zP 9 2]) (fun b48_1 => [ox p1.bx, ox [.nl 3, .nl 6, .nl 3, .nl 2], ox [.r 3 0 b5_1.length, .r 4 0 b25_1.length, .r 5 0 b48_1.length, .r 6 0 v3.Over.length], oa 3 (b5_1.map Item.enc), oa 6 (b25_1.map Lock.enc), oa 3 (b48_1.map Doubt.enc), oa 2 (v3.Over.map Txn.enc)]) (fun k49 h => ?_) (fun b48_1 h => ?_)
 try simp only [*, go_sem]
 refine cx low152 fok152 ?_
 simp only [*, F152, go_sem]
 try simp only [*, go_sem]
 refine cl h (slices_IndexFunc_Doubt_ok G v3.Doubts (fun y50 => store_End_2 y50 p1) 153 [.k [.i .i64 p1.Site, .i .i64 p1.N]] (fun y50 r h => store_End_2_ok G y50 p1 r h)) (fun v51 h => ?_)
 refine oi h (fun hb52 h => ?_) (fun hb52 h => ?_)
 try simp only [*, go_sem]
 exact jc (v3.Doubts) h.e [some 0, some 1, some 2, some 3, some 4, some 5, some 6]
 try simp only [*, go_sem]
 refine jn2 h (fun b53_1 b53_2 => [zR 0 0 0 b53_2.length, zI 5 b53_1, zP 1000004 1, zP 1000006 2, zP 1000009 3]) (fun b53_1 b53_2 => [oa 3 (b53_2.map Doubt.enc), ox p1.bx, ox [.nl 3, .nl 6, .nl 3, .nl 2], ox [.r 4 0 b5_1.length, .r 5 0 b25_1.length, .r 0 0 b53_2.length, .r 6 0 v3.Over.length], oa 3 (b5_1.map Item.enc), oa 6 (b25_1.map Lock.enc), oa 2 (v3.Over.map Txn.enc)]) (fun k54 h => ?_) (fun b53_1 b53_2 h => ?_)
 try simp only [*, go_sem]
 refine lp3 (store_End_L3 p1 k54) (fun a55_1 a55_2 a55_3 => [zR 0 0 0 a55_3.length, (1, .one (.c 153 [.q 1 0 0])), zI 5 a55_1, zI 6 a55_2, zP 1000004 1, zP 1000006 2, zP 1000009 3]) (fun a55_1 a55_2 a55_3 => [oa 3 (a55_3.map Doubt.enc), ox p1.bx, ox [.nl 3, .nl 6, .nl 3, .nl 2], ox [.r 4 0 b5_1.length, .r 5 0 b25_1.length, .r 0 0 a55_3.length, .r 6 0 v3.Over.length], oa 3 (b5_1.map Item.enc), oa 6 (b25_1.map Lock.enc), oa 2 (v3.Over.map Txn.enc)]) h [] [some 5, some 0, some 1, some 2, some 3, some 4, some 6] (fun n56 a55_1 a55_2 a55_3 h => ?_) (by intros; rw [store_End_L3])
 rw [store_End_L3] at h
 try simp only [*, go_sem]
 intro hl57
 refine oi h (fun hb58 h => ?_) (fun hb58 h => ?_)
 refine obn h (fun x59 _ _ _ _ h => ?_)
 try simp only [*, go_sem]
 refine cl h (store_End_2_ok G x59 p1) (fun v61 h => ?_)
 try simp only [*, go_sem]
 refine jn2 h (fun b62_1 b62_2 => [zR 0 0 0 b62_2.length, (1, .one (.c 153 [.q 1 0 0])), zI 5 b62_1, zI 6 a55_2, zP 1000004 1, zP 1000006 2, zP 1000009 3]) (fun b62_1 b62_2 => [oa 3 (b62_2.map Doubt.enc), ox p1.bx, ox [.nl 3, .nl 6, .nl 3, .nl 2], ox [.r 4 0 b5_1.length, .r 5 0 b25_1.length, .r 0 0 b62_2.length, .r 6 0 v3.Over.length], oa 3 (b5_1.map Item.enc), oa 6 (b25_1.map Lock.enc), oa 2 (v3.Over.map Txn.enc)]) (fun k63 h => ?_) (fun b62_1 b62_2 h => ?_)
 refine oin h (fun hb64 hkhb64 h => ?_) (fun hb64 hkhb64 h => ?_)
 refine obn h (fun x65 _ _ _ _ h => ?_)
 try simp only [*, go_sem]
 exact jc (IntKind.i64.wrap (a55_1 + 1), (a55_3.set a55_1.toNat x59)) h.e [some 0, some 1, some 2, some 3, some 4, some 5, some 6]
 try simp only [*, go_sem]
 exact jc (a55_1, a55_3) h.e [some 0, some 1, some 2, some 3, some 4, some 5, some 6]
 try simp only [*, go_sem]
 exact lc (b62_1, IntKind.i64.wrap (a55_2 + 1), b62_2) h.e [some 0, some 1, some 2, some 3, some 4, some 5, some 6]
 try simp only [*, go_sem]
 exact jc (a55_1, a55_3) h.e [some 0, some 1, some 2, some 3, some 4, some 5, some 6]
 refine ck h (fun _ h => ?_)
 refine ck h (fun _ h => ?_)
 have : b53_1.toNat + ((((b53_2.length : Nat) : Int) - b53_1).toNat) ≤ b53_2.length := by omega
 have : min b53_1.toNat b53_2.length = b53_1.toNat := by omega
 try simp only [*, go_sem]
 exact jc ((b53_2.take b53_1.toNat)) h.e [some 1, some 2, some 3, some 4, some 5, some 0, some 6]
 try simp only [*, go_sem]
 refine cl h (slices_Contains_Txn_ok G v3.Over p1) (fun v71 h => ?_)
 try simp only [*, go_sem]
 refine jn1 h (fun b72_1 => [zP 6 0, zP 9 1]) (fun b72_1 => [ox [.nl 3, .nl 6, .nl 3, .nl 2], ox [.r 2 0 b5_1.length, .r 3 0 b25_1.length, .r 4 0 b48_1.length, .r 5 0 b72_1.length], oa 3 (b5_1.map Item.enc), oa 6 (b25_1.map Lock.enc), oa 3 (b48_1.map Doubt.enc), oa 2 (b72_1.map Txn.enc)]) (fun k73 h => ?_) (fun b72_1 h => ?_)
 refine oin h (fun hb74 hkhb74 h => ?_) (fun hb74 hkhb74 h => ?_)
 refine ck h (fun _ h => ?_)
 try simp only [*, go_sem]
 exact jc ((v3.Over ++ [p1])) h.e [some 1, some 2, some 3, some 4, some 5, some 8]
 try simp only [*, go_sem]
 exact jc (v3.Over) h.e [some 1, some 2, some 3, some 4, some 5, some 6]
 cases h.e
 simp only [*, go_sem, mA, mS]
def F29 : VFn := ⟨97, (.seq (.reg [vo 4 (.boxk 12 (.t 1)), vo 6 (.alloc [(.nl 3), (.nl 6), (.nl 3), (.nl 2), (.nl 12), (.nl 8), (.nl 4)])]) (.seq (.draw [vd (vm 16 0) 0, vd (vo 17 (.nilchk (.t 16))) 1, vd (vf 18 5 17) 3, vd (vs 19 18) 7, vd (vm 20 0) 0, vd (vo 21 (.nilchk (.t 20))) 16, vd (vf 22 3 21) 48, vd (vs 23 22) 112, vd (xa 24 4 19 23) 255, vd (vl 25 4 24) 511, vd (vf 26 3 4) 0, vd (vl 27 2 26) 1024, vd (vo 28 (.call 85 [(.t 25), (.t 27)])) 4095, vd (vm 15 28) 8191, vd (et 29 15 0) 0x3fff, vd (et 30 15 1) 0x3fff, vd (vm 7 29) 0x7fff, vd (vm 8 30) 0x1ffff]) (.seq (.draw [vd (vm 32 0) 0, vd (vo 33 (.nilchk (.t 32))) 1, vd (vf 34 5 33) 3, vd (vs 35 34) 7, vd (vm 36 0) 0, vd (vo 37 (.nilchk (.t 36))) 16, vd (vf 38 3 37) 48, vd (vs 39 38) 112, vd (xa 40 4 35 39) 255, vd (vl 41 4 40) 511, vd (vf 42 3 4) 0, vd (vl 43 2 42) 1024, vd (vf 44 10 4) 0, vd (vs 45 44) 4096, vd (vo 46 (.call 86 [(.t 41), (.t 43), (.t 45)])) 0x3fff, vd (vm 31 46) 0x7fff, vd (et 47 31 0) 0xffff, vd (et 48 31 1) 0xffff, ⟨vo 9 (.alloc [(.nl 3), (.nl 6), (.nl 3), (.nl 2)]), 0, [14], none, []⟩, vd (vu (.st 4 (.t 9) (.t 47))) 0x5ffff, vd (vm 10 48) 0xfffff]) (.seq (.draw [vd (vl 49 4 9) 0, vd (vm 50 0) 0, vd (vl 51 12 4) 0, vd (vo 52 (.call 79 [(.t 50), (.t 51), (ci 8)])) 6, vd (vo 53 (.bsl 12 1 [(zi 0), (zi 0), (zi 0), (zi 0), (zi 0), (zi 0), (zi 0), (zi 0), (zi 0), (zi 0), (.d (.b false)), (zi 0)] [(0, (.t 52))])) 14, vd (vo 54 (.build [(.nl 3), (.nl 6), (.nl 3), (.nl 2), (.nl 12), (.nl 8), (.nl 4)] [(0, 4, (.t 49)), (4, 1, (.t 53))])) 31, ⟨vo 11 (.alloc [(.nl 3), (.nl 6), (.nl 3), (.nl 2), (.nl 12), (.nl 8), (.nl 4)]), 0, [3, 4], none, []⟩, vd (vu (.st 7 (.t 11) (.t 54))) 127]) (.seq (.reg [vo 12 (.mv (cb false))]) (.seq (.seq (.reg [vm 55 2, ln 56 55, mi 57 0]) (.wk (.block 0 (.loop (.seq (.reg [bt 58 .lss 57 56]) (.seq (.cond (.t 58) .skip (.exit 0)) (.seq (.block 1 (.seq (.reg [vm 59 57, xa 60 4 55 57, vl 61 4 60, vo 14 (.alloc [(zi 0), (zi 0), (.d (.b false)), (.d (.b false))]), vm 13 59, vu (.st 4 (.t 14) (.t 61))]) (.seq (.reg [vf 62 0 14, vl 63 2 62, vf 64 3 4, vl 65 2 64, vo 66 (.eqs false [.i, .i] (.t 63) (.t 65)), vm 67 66, gt 68 67 (.fa 2 (.t 14)), gt 69 67 (.ld false 1 (.t 68)), gt 70 67 (.fa 10 (.t 4)), gt 71 67 (.ld false 1 (.t 70)), gt 72 67 (.bin .b .neq (.t 69) (.t 71)), vo 73 (.pick (.t 67) (.t 72) (cb false)), vm 74 73, gt 75 74 (.fa 3 (.t 14)), gt 76 74 (.ld false 1 (.t 75)), gt 77 74 (.un .not (.t 76)), vo 78 (.pick (.t 74) (.t 77) (cb false))]) (.wk (.cond (.t 78) (.reg [vm 79 2, vm 80 13, xa 81 4 79 80, vf 82 3 81, vu (.st 1 (.t 82) (cb true)), vo 12 (.mv (cb true))]) .skip))))) (.reg [bk 83 .add 57 1, vm 57 83])))))))) (.seq (.seq (.reg [vm 84 7, bk 85 .gtr 84 0, vm 86 85, gf 87 86 (.mv (.t 12)), vo 88 (.pick (.t 86) (cb true) (.t 87))]) (.wk (.cond (.t 88) (.regs [[vf 89 3 4, vl 90 2 89, vf 91 10 4, vs 92 91, vo 93 (.build [(zi 0), (zi 0), (zi 0), (zi 0), (zi 0), (zi 0), (.d (.b false)), (.nl 1)] [(0, 1, (ci 2)), (1, 2, (.t 90)), (6, 1, (.t 92))])], [vo 94 (.bsl 8 1 [(zi 0), (zi 0), (zi 0), (zi 0), (zi 0), (zi 0), (.d (.b false)), (.nl 1)] [(0, (.t 93))]), vf 95 5 11, vu (.st 1 (.t 95) (.t 94))]]) .skip))) (.seq (.reg [vl 96 7 11, vu (.st 7 (.t 6) (.t 96))]) .ret)))))))), [.cell 6 true 7]⟩
theorem low29 : lowF Tryd.prog 29 = some F29.strip := by kernel_rfl
theorem fok29 : fOk Tryd.prog 29 = true := by kernel_rfl
def part_own (p0 : Answer) (p1 : List Note) : Option (Answer) := (Option.bind (cloneF 24 p0.Store.Items) fun v1 => (Option.bind (cloneF 48 p0.Store.Locks) fun v2 => (Option.bind (cloneF 24 p0.Store.Doubts) fun v3 => (Option.bind (cloneF 16 p0.Store.Over) fun v4 => (some (Answer.mk (Store.mk v1 v2 v3 v4) p0.Messages p0.Records p1))))))
def F30 : VFn := ⟨25, (.seq (.reg [vo 2 (.box 7 (.t 0)), vo 4 (.alloc [(.nl 3), (.nl 6), (.nl 3), (.nl 2), (.nl 12), (.nl 8), (.nl 4)])]) (.seq (.reg [vf 6 0 2, vl 7 4 6, vo 5 (.alloc [(.nl 3), (.nl 6), (.nl 3), (.nl 2)]), vu (.st 4 (.t 5) (.t 7))]) (.seq (.draw [vd (vf 8 0 5) 0, vd (vs 9 8) 1, vd (vo 10 (.call 87 [(.t 9)])) 3, ⟨vf 11 1 5, 0, [2], none, []⟩, ⟨vs 12 11, 8, [2], none, []⟩, vd (vo 13 (.call 88 [(.t 12)])) 31, ⟨vf 14 2 5, 0, [2, 5], none, []⟩, ⟨vs 15 14, 64, [2, 5], none, []⟩, vd (vo 16 (.call 89 [(.t 15)])) 255, ⟨vf 17 3 5, 0, [2, 5, 8], none, []⟩, ⟨vs 18 17, 512, [2, 5, 8], none, []⟩, vd (vo 19 (.call 90 [(.t 18)])) 2047, vd (vo 20 (.build [(.nl 3), (.nl 6), (.nl 3), (.nl 2)] [(0, 1, (.t 10)), (1, 1, (.t 13)), (2, 1, (.t 16)), (3, 1, (.t 19))])) 4095, vd (vf 21 0 2) 8191, vd (vu (.st 4 (.t 21) (.t 20))) 0x3fff]) (.seq (.reg [vm 22 1, vf 23 6 2, vu (.st 1 (.t 23) (.t 22))]) (.seq (.reg [vl 24 7 2, vu (.st 7 (.t 4) (.t 24))]) .ret))))), [.cell 4 true 7]⟩
theorem low30 : lowF Tryd.prog 30 = some F30.strip := by kernel_rfl
theorem fok30 : fOk Tryd.prog 30 = true := by kernel_rfl
theorem part_own_ok (p0 : Answer) (p1 : List Note) (r : Answer) (h : part_own p0 p1 = some r) : FnRO Tryd.prog G 30 [.agg p0.bx, .one (.d (.l 4 (p1.map Note.enc)))] (fun rs => rs = [.agg (r.enc)]) := by
 refine FnRO.fz ?_ rfl
 refine FnRO.of' low30 fok30 (by simp [F30]) ?_
 rw [part_own] at h
 replace h := Hd.mk h
 simp only [F30, go_sem]
 refine obk h (fun v1 hv1 h => ?_)
 try simp only [*, go_sem]
 refine cd (clone87_ok G p0.Store.Items v1 hv1) ?_
 refine obk h (fun v2 hv2 h => ?_)
 try simp only [*, go_sem]
 refine cd (clone88_ok G p0.Store.Locks v2 hv2) ?_
 refine obk h (fun v3 hv3 h => ?_)
 try simp only [*, go_sem]
 refine cd (clone89_ok G p0.Store.Doubts v3 hv3) ?_
 refine obk h (fun v4 hv4 h => ?_)
 try simp only [*, go_sem]
 refine cd (clone90_ok G p0.Store.Over v4 hv4) ?_
 cases h.e
 simp only [*, go_sem, mA, mS]
def part_Hear_L1 (p6 : Message) (v18 : List Note) (k45 : Bool → (List Note) → Option (Answer × Int)) : Nat → Bool → Nat → (List Note) → Option (Answer × Int)
 | 0, _, _, _ => none
 | n47 + 1, a46_1, a46_2, a46_3 => (if (decide (a46_2 < v18.length)) = true then (Option.bind (a46_3[a46_2]?) fun x49 => (if ((x49.Txn.Site == p6.Txn.Site) && (x49.Txn.N == p6.Txn.N)) = true then (if (!(x49.Yes == p6.Yes)) = true then (withK (fun (b52_1 : Bool) (b52_2 : Bool) (b52_3 : List Note) => (part_Hear_L1 p6 v18 k45 n47 b52_1 (a46_2 + 1) b52_3)) fun k53 => (if (!x49.Damage) = true then (k53 true true (a46_3.set a46_2 (Note.mk x49.Txn x49.Yes true))) else (k53 a46_1 false a46_3))) else (withK (part_Hear_L1 p6 v18 k45 n47 a46_1 (a46_2 + 1) a46_3) fun k57 => k57)) else (withK (part_Hear_L1 p6 v18 k45 n47 a46_1 (a46_2 + 1) a46_3) fun k60 => k60))) else (k45 a46_1 a46_3))
def part_Hear (p0 : Config) (p1 : Int) (p2 : Int) (p3 : List Store) (p4 : List Note) (p5 : Int) (p6 : Message) : Option (Answer × Int) := (Option.bind (part_site_check (PartSite.mk p0 p1 p2 p3)) fun v1 => (if (v1 != 0) = true then (some ((Answer.mk (Store.mk [] [] [] []) [] [] []), v1)) else (Option.bind (wire_CheckMessage p0 p6) fun v3 => (if (v3 != 0) = true then (some ((Answer.mk (Store.mk [] [] [] []) [] [] []), v3)) else (if (p6.To != p2) = true then (some ((Answer.mk (Store.mk [] [] [] []) [] [] []), 2)) else (withK (fun (b6_1 : Bool) => (withK (Option.bind (cloneF 24 p4) fun v18 => (withK (fun (b19_1 : List Note) (b19_2 : List Item) (b19_3 : List Lock) (b19_4 : List Doubt) (b19_5 : List Txn) (b19_6 : List Message) (b19_7 : List Record) (b19_8 : List Note) => (withK (Option.bind (part_own (Answer.mk (Store.mk b19_2 b19_3 b19_4 b19_5) b19_6 b19_7 b19_8) b19_1) fun v74 => (some (v74, 0))) fun k73 => k73)) fun k20 => (if (p6.Kind == 1) = true then (withK (Option.bind (part_site_read (PartSite.mk p0 p1 p2 p3) p6) fun v24 => (k20 v18 v24.Store.Items v24.Store.Locks v24.Store.Doubts v24.Store.Over v24.Messages v24.Records v24.Notes)) fun k23 => k23) else (withK (fun (b25_1 : List Note) (b25_2 : List Item) (b25_3 : List Lock) (b25_4 : List Doubt) (b25_5 : List Txn) (b25_6 : List Message) (b25_7 : List Record) (b25_8 : List Note) => (k20 b25_1 b25_2 b25_3 b25_4 b25_5 b25_6 b25_7 b25_8)) fun k26 => (if (p6.Kind == 2) = true then (withK (Option.bind (part_site_write (PartSite.mk p0 p1 p2 p3) p6 p5) fun v30 => (k26 v18 v30.Store.Items v30.Store.Locks v30.Store.Doubts v30.Store.Over v30.Messages v30.Records v30.Notes)) fun k29 => k29) else (withK (fun (b31_1 : List Note) (b31_2 : List Item) (b31_3 : List Lock) (b31_4 : List Doubt) (b31_5 : List Txn) (b31_6 : List Message) (b31_7 : List Record) (b31_8 : List Note) => (k26 b31_1 b31_2 b31_3 b31_4 b31_5 b31_6 b31_7 b31_8)) fun k32 => (if (p6.Kind == 3) = true then (withK (Option.bind (part_site_still (PartSite.mk p0 p1 p2 p3) p6) fun v36 => (k32 v18 v36.Store.Items v36.Store.Locks v36.Store.Doubts v36.Store.Over v36.Messages v36.Records v36.Notes)) fun k35 => k35) else (if (p6.Kind == 4) = true then (if 0 ≤ p1 then (Option.bind (p3[p1.toNat]?) fun x38 => (Option.bind (store_Writes x38 p6.Txn) fun v40 => (Option.bind (store_End x38 p6.Txn p6.Yes) fun v41 => (Option.bind (part_site_answer (PartSite.mk p0 p1 p2 p3) p6 8) fun v42 => (withK (fun (b44_1 : Bool) (b44_2 : List Note) => (if (decide (v40.1 > 0)) = true then (withK (k32 b44_2 v41.1.Items v41.1.Locks v41.1.Doubts v41.1.Over [v42] [(Record.mk 2 p6.Txn 0 0 0 p6.Yes [])] []) fun k64 => (withK k64 fun k66 => k66)) else (withK (fun (b67_1 : List Record) => (k32 b44_2 v41.1.Items v41.1.Locks v41.1.Doubts v41.1.Over [v42] b67_1 [])) fun k68 => (if b44_1 = true then (withK (k68 [(Record.mk 2 p6.Txn 0 0 0 p6.Yes [])]) fun k71 => k71) else (k68 []))))) fun k45 => (part_Hear_L1 p6 v18 k45 (v18.length + 1) false 0 v18)))))) else none) else (some ((Answer.mk (Store.mk [] [] [] []) [] [] []), 3)))))))))) fun k10 => (if b6_1 = true then (if 0 ≤ p1 then (Option.bind (p0.Labels[p1.toNat]?) fun x12 => (if 0 ≤ p6.Label then (Option.bind (p0.Labels[p6.Label.toNat]?) fun x14 => (Option.bind (label_Above x12 x14) fun v16 => (if (!v16) = true then (some ((Answer.mk (Store.mk [] [] [] []) [] [] []), 10)) else k10))) else none)) else none) else k10))) fun k7 => (if (p6.Kind == 1) = true then (k7 true) else (k7 (p6.Kind == 3)))))))))
def F8 : VFn := ⟨101, (.seq (.reg [vo 7 (.boxk 3 (.t 0)), vo 13 (.boxk 12 (.t 6)), vo 14 (.alloc [(.nl 3), (.nl 6), (.nl 3), (.nl 2), (.nl 12), (.nl 8), (.nl 4)]), mi 15 0]) (.seq (.reg [vl 22 3 7, vm 23 1, vm 24 2, vm 25 3, vo 26 (.build [(zi 0), (.nl 2), (zi 0), (zi 0), (zi 0), (.nl 4)] [(0, 3, (.t 22)), (3, 1, (.t 23)), (4, 1, (.t 24)), (5, 1, (.t 25))]), vo 27 (.boxk 6 (.t 26)), vm 16 27]) (.seq (.seq (.reg [vm 28 16, vo 29 (.call 22 [(.t 28)]), vm 17 29]) (.seq (.reg [vm 30 17, bk 31 .neq 30 0]) (.cond (.t 31) (.seq (.reg [vo 32 (.build [(.nl 3), (.nl 6), (.nl 3), (.nl 2), (.nl 12), (.nl 8), (.nl 4)] []), vm 33 17, vu (.st 7 (.t 14) (.t 32)), vm 15 33]) .ret) .skip))) (.seq (.seq (.reg [vl 34 3 7, vl 35 12 13, vo 36 (.call 23 [(.t 34), (.t 35)]), vm 18 36]) (.seq (.reg [vm 37 18, bk 38 .neq 37 0]) (.cond (.t 38) (.seq (.reg [vo 39 (.build [(.nl 3), (.nl 6), (.nl 3), (.nl 2), (.nl 12), (.nl 8), (.nl 4)] []), vm 40 18, vu (.st 7 (.t 14) (.t 39)), vm 15 40]) .ret) .skip))) (.seq (.seq (.reg [vf 41 2 13, vs 42 41, vm 43 2, bt 44 .neq 42 43]) (.cond (.t 44) (.seq (.reg [vo 45 (.build [(.nl 3), (.nl 6), (.nl 3), (.nl 2), (.nl 12), (.nl 8), (.nl 4)] []), vu (.st 7 (.t 14) (.t 45)), mi 15 2]) .ret) .skip)) (.seq (.wk (.reg [vf 46 0 13, vs 47 46, bk 48 .eql 47 1, vm 49 48, gf 50 49 (.fa 0 (.t 13)), gf 51 49 (.ld false 1 (.t 50)), gf 52 49 (.bin .i .eql (.t 51) (ci 3)), vo 53 (.pick (.t 49) (cb true) (.t 52)), vm 19 53])) (.seq (.wk (.seq (.draw [vd (vm 54 19) 0, vd (vm 55 54) 1, vd (gt 56 55 (.fa 1 (.t 7))) 3, vd (gt 57 55 (.ld false 1 (.t 56))) 7, vd (gt 58 55 (.mv (.t 1))) 3, vd (gt 59 55 (.ia 2 (.t 57) (.t 58))) 31, vd (gt 60 55 (.ld true 2 (.t 59))) 63, vd (gt 61 55 (.fa 1 (.t 7))) 3, vd (gt 62 55 (.ld false 1 (.t 61))) 131, vd (gt 63 55 (.fa 5 (.t 13))) 3, vd (gt 64 55 (.ld false 1 (.t 63))) 515, vd (gt 65 55 (.ia 2 (.t 62) (.t 64))) 1923, vd (gt 66 55 (.ld true 2 (.t 65))) 3971, vd (gt 67 55 (.call 24 [(.t 60), (.t 66)])) 8191, vd (gt 68 55 (.un .not (.t 67))) 0x3fff, vd (vo 69 (.pick (.t 55) (.t 68) (cb false))) 0x7fff]) (.cond (.t 69) (.seq (.reg [vo 70 (.build [(.nl 3), (.nl 6), (.nl 3), (.nl 2), (.nl 12), (.nl 8), (.nl 4)] []), vu (.st 7 (.t 14) (.t 70)), mi 15 10]) .ret) .skip))) (.seq (.reg [vm 71 4, vo 72 (.call 25 [(.t 71)]), vm 20 72]) (.seq (.reg [vo 21 (.alloc [(.nl 3), (.nl 6), (.nl 3), (.nl 2), (.nl 12), (.nl 8), (.nl 4)])]) (.seq (.seq (.reg [vf 73 0 13, vs 74 73]) (.block 0 (.seq (.reg [bk 77 .eql 74 1, vm 76 77]) (.wk (.cond (.t 76) (.regs [[vm 78 16, vl 79 12 13], [vo 80 (.call 26 [(.t 78), (.t 79)]), vu (.st 7 (.t 21) (.t 80))]]) (.seq (.reg [bk 82 .eql 74 2, vm 81 82]) (.wk (.cond (.t 81) (.regs [[vm 83 16, vl 84 12 13, vm 85 5], [vo 86 (.call 27 [(.t 83), (.t 84), (.t 85)]), vu (.st 7 (.t 21) (.t 86))]]) (.seq (.reg [bk 88 .eql 74 3, vm 87 88]) (.wk (.cond (.t 87) (.regs [[vm 89 16, vl 90 12 13], [vo 91 (.call 28 [(.t 89), (.t 90)]), vu (.st 7 (.t 21) (.t 91))]]) (.seq (.reg [bk 93 .eql 74 4, vm 92 93]) (.cond (.t 92) (.reg [vm 94 16, vl 95 12 13, vm 96 20, vo 97 (.call 29 [(.t 94), (.t 95), (.t 96)]), vu (.st 7 (.t 21) (.t 97))]) (.seq (.reg [vo 75 (.build [(.nl 3), (.nl 6), (.nl 3), (.nl 2), (.nl 12), (.nl 8), (.nl 4)] []), vu (.st 7 (.t 14) (.t 75)), mi 15 3]) .ret)))))))))))))) (.seq (.regs [[vl 98 7 21, vm 99 20], [vo 100 (.call 30 [(.t 98), (.t 99)]), vu (.st 7 (.t 14) (.t 100)), mi 15 0]]) .ret))))))))))), [.cell 14 true 7, .t 15]⟩
theorem low8 : lowF Tryd.prog 8 = some F8.strip := by kernel_rfl
theorem fok8 : fOk Tryd.prog 8 = true := by kernel_rfl
theorem part_Hear_ok (htab_wire_messages : constG G 0 = .one (.d (.k tab_wire_messagesD))) (p0 : Config) (p1 : Int) (p2 : Int) (p3 : List Store) (p4 : List Note) (p5 : Int) (p6 : Message) (r : Answer × Int) (h : part_Hear p0 p1 p2 p3 p4 p5 p6 = some r) : FnRO Tryd.prog G 8 [.agg p0.bx, .one (.d (.i .i64 p1)), .one (.d (.i .i64 p2)), .one (.d (.l 4 (p3.map Store.enc))), .one (.d (.l 4 (p4.map Note.enc))), .one (.d (.i .i64 p5)), .agg p6.bx] (fun rs => rs = [.agg (r.1.enc), .one (.i .i64 r.2)]) := by
 refine FnRO.fz ?_ rfl
 refine FnRO.of' low8 fok8 (by simp [F8]) ?_
 rw [part_Hear] at h
 replace h := Hd.mk h
 simp only [F8, go_sem]
 try simp only [*, go_sem]
 refine cr h (part_site_check_ok G (PartSite.mk p0 p1 p2 p3)) (fun v1 h => ?_)
 refine oi h (fun hb2 h => ?_) (fun hb2 h => ?_)
 cases h.e
 simp only [*, go_sem, mA, mS]
 try simp only [*, go_sem]
 refine cr h (wire_CheckMessage_ok G htab_wire_messages p0 p6) (fun v3 h => ?_)
 refine oi h (fun hb4 h => ?_) (fun hb4 h => ?_)
 cases h.e
 simp only [*, go_sem, mA, mS]
 refine oi h (fun hb5 h => ?_) (fun hb5 h => ?_)
 cases h.e
 simp only [*, go_sem, mA, mS]
 try simp only [*, go_sem]
 refine jn1 h (fun b6_1 => [zI 1 p1, zL 4 4 (p4.map Note.enc), zI 5 p5, zK 7 (Config.enc p0), zK 13 (Message.enc p6), zP 14 0, (16, .one (.d (.k [.i .i64 p0.Sites, .l 2 (p0.Labels.map Label.enc), .i .i64 p0.Patience, .i .i64 p1, .i .i64 p2, .l 4 (p3.map Store.enc)]))), zB 19 b6_1]) (fun b6_1 => [ox [.nl 3, .nl 6, .nl 3, .nl 2, .nl 12, .nl 8, .nl 4]]) (fun k7 h => ?_) (fun b6_1 h => ?_)
 refine oi h (fun hb8 h => ?_) (fun hb8 h => ?_)
 try simp only [*, go_sem]
 exact jc (true) h.e [some 0]
 try simp only [*, go_sem]
 exact jc (p6.Kind == 3) h.e [some 0]
 try simp only [*, go_sem]
 refine jn0 h ([zL 4 4 (p4.map Note.enc), zI 5 p5, zK 13 (Message.enc p6), zP 14 0, (16, .one (.d (.k [.i .i64 p0.Sites, .l 2 (p0.Labels.map Label.enc), .i .i64 p0.Patience, .i .i64 p1, .i .i64 p2, .l 4 (p3.map Store.enc)])))]) ([ox [.nl 3, .nl 6, .nl 3, .nl 2, .nl 12, .nl 8, .nl 4]]) (fun k10 h => ?_) (fun h => ?_)
 refine oi h (fun hb11 h => ?_) (fun hb11 h => ?_)
 refine obn h (fun x12 _ _ _ _ h => ?_)
 refine obn h (fun x14 _ _ _ _ h => ?_)
 refine obk h (fun v16 hv16 h => ?_)
 try simp only [*, go_sem]
 refine cd (label_Above_ok G x12 x14 v16 hv16) ?_
 refine oin h (fun hb17 hkhb17 h => ?_) (fun hb17 hkhb17 h => ?_)
 cases h.e
 simp only [*, go_sem, mA, mS]
 try simp only [*, go_sem]
 exact jc () h.e [some 0]
 try simp only [*, go_sem]
 exact jc () h.e [some 0]
 try simp only [*, go_sem]
 refine cr h (clone25_ok G p4) (fun v18 h => ?_)
 try simp only [*, go_sem]
 refine jn8 h (fun b19_1 b19_2 b19_3 b19_4 b19_5 b19_6 b19_7 b19_8 => [zP 14 0, zR 20 1 0 b19_1.length, zP 21 2]) (fun b19_1 b19_2 b19_3 b19_4 b19_5 b19_6 b19_7 b19_8 => [ox [.nl 3, .nl 6, .nl 3, .nl 2, .nl 12, .nl 8, .nl 4], oa 4 (b19_1.map Note.enc), ox [.d (.l 3 (b19_2.map Item.enc)), .d (.l 6 (b19_3.map Lock.enc)), .d (.l 3 (b19_4.map Doubt.enc)), .d (.l 2 (b19_5.map Txn.enc)), .d (.l 12 (b19_6.map Message.enc)), .d (.l 8 (b19_7.map Record.enc)), .d (.l 4 (b19_8.map Note.enc))]]) (fun k20 h => ?_) (fun b19_1 b19_2 b19_3 b19_4 b19_5 b19_6 b19_7 b19_8 h => ?_)
 refine oi h (fun hb21 h => ?_) (fun hb21 h => ?_)
 try simp only [*, go_sem]
 refine rg0 h ([zP 14 0, zR 20 1 0 v18.length, zP 21 2, (78, .one (.d (.k [.i .i64 p0.Sites, .l 2 (p0.Labels.map Label.enc), .i .i64 p0.Patience, .i .i64 p1, .i .i64 p2, .l 4 (p3.map Store.enc)]))), (79, .agg [zi p6.Kind, zi p6.From, zi p6.To, zi p6.Txn.Site, zi p6.Txn.N, zi p6.Label, zi p6.Key, zi p6.Value, zi p6.Version, zi p6.Ask, .d (.b p6.Yes), zi p6.Code])]) ([ox [.nl 3, .nl 6, .nl 3, .nl 2, .nl 12, .nl 8, .nl 4], oa 4 (v18.map Note.enc), ox [.nl 3, .nl 6, .nl 3, .nl 2, .nl 12, .nl 8, .nl 4]]) (fun k23 h => ?_) (fun h => ?_)
 try simp only [*, go_sem]
 exact jc () h.e [some 0, some 1, some 2]
 try simp only [*, go_sem]
 refine cr h (part_site_read_ok G (PartSite.mk p0 p1 p2 p3) p6) (fun v24 h => ?_)
 try simp only [*, go_sem]
 exact jc (v18, v24.Store.Items, v24.Store.Locks, v24.Store.Doubts, v24.Store.Over, v24.Messages, v24.Records, v24.Notes) h.e [some 0, some 1, some 2]
 try simp only [*, go_sem]
 refine jn8 h (fun b25_1 b25_2 b25_3 b25_4 b25_5 b25_6 b25_7 b25_8 => [zP 14 0, zR 20 1 0 b25_1.length, zP 21 2]) (fun b25_1 b25_2 b25_3 b25_4 b25_5 b25_6 b25_7 b25_8 => [ox [.nl 3, .nl 6, .nl 3, .nl 2, .nl 12, .nl 8, .nl 4], oa 4 (b25_1.map Note.enc), ox [.d (.l 3 (b25_2.map Item.enc)), .d (.l 6 (b25_3.map Lock.enc)), .d (.l 3 (b25_4.map Doubt.enc)), .d (.l 2 (b25_5.map Txn.enc)), .d (.l 12 (b25_6.map Message.enc)), .d (.l 8 (b25_7.map Record.enc)), .d (.l 4 (b25_8.map Note.enc))]]) (fun k26 h => ?_) (fun b25_1 b25_2 b25_3 b25_4 b25_5 b25_6 b25_7 b25_8 h => ?_)
 refine oi h (fun hb27 h => ?_) (fun hb27 h => ?_)
 try simp only [*, go_sem]
 refine rg0 h ([zP 14 0, zR 20 1 0 v18.length, zP 21 2, (83, .one (.d (.k [.i .i64 p0.Sites, .l 2 (p0.Labels.map Label.enc), .i .i64 p0.Patience, .i .i64 p1, .i .i64 p2, .l 4 (p3.map Store.enc)]))), (84, .agg [zi p6.Kind, zi p6.From, zi p6.To, zi p6.Txn.Site, zi p6.Txn.N, zi p6.Label, zi p6.Key, zi p6.Value, zi p6.Version, zi p6.Ask, .d (.b p6.Yes), zi p6.Code]), zI 85 p5]) ([ox [.nl 3, .nl 6, .nl 3, .nl 2, .nl 12, .nl 8, .nl 4], oa 4 (v18.map Note.enc), ox [.nl 3, .nl 6, .nl 3, .nl 2, .nl 12, .nl 8, .nl 4]]) (fun k29 h => ?_) (fun h => ?_)
 try simp only [*, go_sem]
 exact jc () h.e [some 0, some 1, some 2]
 try simp only [*, go_sem]
 refine cr h (part_site_write_ok G (PartSite.mk p0 p1 p2 p3) p6 p5) (fun v30 h => ?_)
 try simp only [*, go_sem]
 exact jc (v18, v30.Store.Items, v30.Store.Locks, v30.Store.Doubts, v30.Store.Over, v30.Messages, v30.Records, v30.Notes) h.e [some 0, some 1, some 2]
 try simp only [*, go_sem]
 refine jn8 h (fun b31_1 b31_2 b31_3 b31_4 b31_5 b31_6 b31_7 b31_8 => [zP 14 0, zR 20 1 0 b31_1.length, zP 21 2]) (fun b31_1 b31_2 b31_3 b31_4 b31_5 b31_6 b31_7 b31_8 => [ox [.nl 3, .nl 6, .nl 3, .nl 2, .nl 12, .nl 8, .nl 4], oa 4 (b31_1.map Note.enc), ox [.d (.l 3 (b31_2.map Item.enc)), .d (.l 6 (b31_3.map Lock.enc)), .d (.l 3 (b31_4.map Doubt.enc)), .d (.l 2 (b31_5.map Txn.enc)), .d (.l 12 (b31_6.map Message.enc)), .d (.l 8 (b31_7.map Record.enc)), .d (.l 4 (b31_8.map Note.enc))]]) (fun k32 h => ?_) (fun b31_1 b31_2 b31_3 b31_4 b31_5 b31_6 b31_7 b31_8 h => ?_)
 refine oi h (fun hb33 h => ?_) (fun hb33 h => ?_)
 try simp only [*, go_sem]
 refine rg0 h ([zP 14 0, zR 20 1 0 v18.length, zP 21 2, (89, .one (.d (.k [.i .i64 p0.Sites, .l 2 (p0.Labels.map Label.enc), .i .i64 p0.Patience, .i .i64 p1, .i .i64 p2, .l 4 (p3.map Store.enc)]))), (90, .agg [zi p6.Kind, zi p6.From, zi p6.To, zi p6.Txn.Site, zi p6.Txn.N, zi p6.Label, zi p6.Key, zi p6.Value, zi p6.Version, zi p6.Ask, .d (.b p6.Yes), zi p6.Code])]) ([ox [.nl 3, .nl 6, .nl 3, .nl 2, .nl 12, .nl 8, .nl 4], oa 4 (v18.map Note.enc), ox [.nl 3, .nl 6, .nl 3, .nl 2, .nl 12, .nl 8, .nl 4]]) (fun k35 h => ?_) (fun h => ?_)
 try simp only [*, go_sem]
 exact jc () h.e [some 0, some 1, some 2]
 try simp only [*, go_sem]
 refine cr h (part_site_still_ok G (PartSite.mk p0 p1 p2 p3) p6) (fun v36 h => ?_)
 try simp only [*, go_sem]
 exact jc (v18, v36.Store.Items, v36.Store.Locks, v36.Store.Doubts, v36.Store.Over, v36.Messages, v36.Records, v36.Notes) h.e [some 0, some 1, some 2]
 refine oi h (fun hb37 h => ?_) (fun hb37 h => ?_)
 try simp only [*, go_sem]
 refine cx low29 fok29 ?_
 simp only [*, F29, go_sem]
 refine obn h (fun x38 _ _ _ _ h => ?_)
 refine obk h (fun v40 hv40 h => ?_)
 try simp only [*, go_sem]
 refine cd (store_Writes_ok G x38 p6.Txn v40 hv40) ?_
 refine obk h (fun v41 hv41 h => ?_)
 try simp only [*, go_sem]
 refine cd (FnRO.fz' (store_End_ok G x38 p6.Txn p6.Yes v41 hv41) rfl rfl) ?_
 refine obk h (fun v42 hv42 h => ?_)
 try simp only [*, go_sem]
 refine cd (part_site_answer_ok G (PartSite.mk p0 p1 p2 p3) p6 8 v42 hv42) ?_
 try simp only [*, go_sem]
 intro hl43
 try simp only [*, go_sem]
 refine jn2 h (fun b44_1 b44_2 => [zK 4 (Message.enc p6), zP 6 0, zI 7 v40.1, zP 11 1, zB 12 b44_1, zP 1000014 2, zR 1000020 3 0 b44_2.length, zP 1000021 4]) (fun b44_1 b44_2 => [ox [.nl 3, .nl 6, .nl 3, .nl 2, .nl 12, .nl 8, .nl 4], ox [.d (.l 3 (v41.1.Items.map Item.enc)), .d (.l 6 (v41.1.Locks.map Lock.enc)), .d (.l 3 (v41.1.Doubts.map Doubt.enc)), .d (.l 2 (v41.1.Over.map Txn.enc)), .r 5 0 1, .nl 8, .nl 4], ox [.nl 3, .nl 6, .nl 3, .nl 2, .nl 12, .nl 8, .nl 4], oa 4 (b44_2.map Note.enc), ox [.nl 3, .nl 6, .nl 3, .nl 2, .nl 12, .nl 8, .nl 4], oa 12 ([v42].map Message.enc)]) (fun k45 h => ?_) (fun b44_1 b44_2 h => ?_)
 try simp only [*, go_sem]
 refine lp3 (part_Hear_L1 p6 v18 k45) (fun a46_1 a46_2 a46_3 => [zR 2 0 0 a46_3.length, zK 4 (Message.enc p6), zP 6 1, zI 7 v40.1, zP 11 2, zB 12 a46_1, zR 55 0 0 a46_3.length, zI 56 ((v18.length : Nat) : Int), zI 57 ((a46_2 : Nat) : Int), zP 1000014 3, zR 1000020 0 0 a46_3.length, zP 1000021 4]) (fun a46_1 a46_2 a46_3 => [oa 4 (a46_3.map Note.enc), ox [.nl 3, .nl 6, .nl 3, .nl 2, .nl 12, .nl 8, .nl 4], ox [.d (.l 3 (v41.1.Items.map Item.enc)), .d (.l 6 (v41.1.Locks.map Lock.enc)), .d (.l 3 (v41.1.Doubts.map Doubt.enc)), .d (.l 2 (v41.1.Over.map Txn.enc)), .r 5 0 1, .nl 8, .nl 4], ox [.nl 3, .nl 6, .nl 3, .nl 2, .nl 12, .nl 8, .nl 4], ox [.nl 3, .nl 6, .nl 3, .nl 2, .nl 12, .nl 8, .nl 4], oa 12 ([v42].map Message.enc)]) h [] [some 1, some 3, some 49, some 0, some 2, some 47] (fun n47 a46_1 a46_2 a46_3 h => ?_) (by intros; rw [part_Hear_L1])
 rw [part_Hear_L1] at h
 refine oi h (fun hb48 h => ?_) (fun hb48 h => ?_)
 have hkhb48 := of_decide_eq_true hb48
 refine obg h (fun x49 _ _ h => ?_)
 refine oi h (fun hb50 h => ?_) (fun hb50 h => ?_)
 try simp only [*, go_sem]
 refine oin h (fun hb51 hkhb51 h => ?_) (fun hb51 hkhb51 h => ?_)
 try simp only [*, go_sem]
 refine jn3 h (fun b52_1 b52_2 b52_3 => [zR 2 0 0 b52_3.length, zK 4 (Message.enc p6), zP 6 1, zI 7 v40.1, zP 11 2, zB 12 b52_1, zR 55 0 0 b52_3.length, zI 56 ((v18.length : Nat) : Int), zI 57 ((a46_2 : Nat) : Int), (68, .one (.p (.q 3 0 2))), zB 69 x49.Yes, (70, .one (.p (.l 12 [(Message.enc p6)] 0 10))), zB 71 p6.Yes, zB 72 true, (75, .one (.p (.q 3 0 3))), zB 76 x49.Damage, zB 77 b52_2, zP 1000014 4, zR 1000020 0 0 b52_3.length, zP 1000021 5]) (fun b52_1 b52_2 b52_3 => [oa 4 (b52_3.map Note.enc), ox [.nl 3, .nl 6, .nl 3, .nl 2, .nl 12, .nl 8, .nl 4], ox [.d (.l 3 (v41.1.Items.map Item.enc)), .d (.l 6 (v41.1.Locks.map Lock.enc)), .d (.l 3 (v41.1.Doubts.map Doubt.enc)), .d (.l 2 (v41.1.Over.map Txn.enc)), .r 6 0 1, .nl 8, .nl 4], ox x49.bx, ox [.nl 3, .nl 6, .nl 3, .nl 2, .nl 12, .nl 8, .nl 4], ox [.nl 3, .nl 6, .nl 3, .nl 2, .nl 12, .nl 8, .nl 4], oa 12 ([v42].map Message.enc)]) (fun k53 h => ?_) (fun b52_1 b52_2 b52_3 h => ?_)
 refine oin h (fun hb54 hkhb54 h => ?_) (fun hb54 hkhb54 h => ?_)
 try simp only [*, go_sem]
 exact jc (true, true, (a46_3.set a46_2 (Note.mk x49.Txn x49.Yes true))) h.e [some 0, some 1, some 2, some 6, some 3, some 4, some 5]
 try simp only [*, go_sem]
 exact jc (a46_1, false, a46_3) h.e [some 0, some 1, some 2, some 6, some 3, some 4, some 5]
 have := wrap_succ_max hkhb48 hl43
 try simp only [*, go_sem]
 exact lc (b52_1, a46_2 + 1, b52_3) h.e [some 0, some 1, some 2, some 4, some 5, some 6]
 try simp only [*, go_sem]
 refine jn0 h ([zR 2 0 0 a46_3.length, zK 4 (Message.enc p6), zP 6 1, zI 7 v40.1, zP 11 2, zB 12 a46_1, zR 55 0 0 a46_3.length, zI 56 ((v18.length : Nat) : Int), zI 57 ((a46_2 : Nat) : Int), (68, .one (.p (.q 3 0 2))), zB 69 x49.Yes, (70, .one (.p (.l 12 [(Message.enc p6)] 0 10))), zB 71 p6.Yes, zB 72 false, zP 1000014 4, zR 1000020 0 0 a46_3.length, zP 1000021 5]) ([oa 4 (a46_3.map Note.enc), ox [.nl 3, .nl 6, .nl 3, .nl 2, .nl 12, .nl 8, .nl 4], ox [.d (.l 3 (v41.1.Items.map Item.enc)), .d (.l 6 (v41.1.Locks.map Lock.enc)), .d (.l 3 (v41.1.Doubts.map Doubt.enc)), .d (.l 2 (v41.1.Over.map Txn.enc)), .r 6 0 1, .nl 8, .nl 4], ox x49.bx, ox [.nl 3, .nl 6, .nl 3, .nl 2, .nl 12, .nl 8, .nl 4], ox [.nl 3, .nl 6, .nl 3, .nl 2, .nl 12, .nl 8, .nl 4], oa 12 ([v42].map Message.enc)]) (fun k57 h => ?_) (fun h => ?_)
 try simp only [*, go_sem]
 exact jc () h.e [some 0, some 1, some 2, some 6, some 3, some 4, some 5]
 have := wrap_succ_max hkhb48 hl43
 try simp only [*, go_sem]
 exact lc (a46_1, a46_2 + 1, a46_3) h.e [some 0, some 1, some 2, some 4, some 5, some 6]
 try simp only [*, go_sem]
 try simp only [*, go_sem]
 refine jn0 h ([zR 2 0 0 a46_3.length, zK 4 (Message.enc p6), zP 6 1, zI 7 v40.1, zP 11 2, zB 12 a46_1, zR 55 0 0 a46_3.length, zI 56 ((v18.length : Nat) : Int), zI 57 ((a46_2 : Nat) : Int), zP 1000014 3, zR 1000020 0 0 a46_3.length, zP 1000021 4]) ([oa 4 (a46_3.map Note.enc), ox [.nl 3, .nl 6, .nl 3, .nl 2, .nl 12, .nl 8, .nl 4], ox [.d (.l 3 (v41.1.Items.map Item.enc)), .d (.l 6 (v41.1.Locks.map Lock.enc)), .d (.l 3 (v41.1.Doubts.map Doubt.enc)), .d (.l 2 (v41.1.Over.map Txn.enc)), .r 5 0 1, .nl 8, .nl 4], ox [.nl 3, .nl 6, .nl 3, .nl 2, .nl 12, .nl 8, .nl 4], ox [.nl 3, .nl 6, .nl 3, .nl 2, .nl 12, .nl 8, .nl 4], oa 12 ([v42].map Message.enc)]) (fun k60 h => ?_) (fun h => ?_)
 try simp only [*, go_sem]
 exact jc () h.e [some 0, some 1, some 2, some 3, some 4, some 5]
 have := wrap_succ_max hkhb48 hl43
 try simp only [*, go_sem]
 exact lc (a46_1, a46_2 + 1, a46_3) h.e [some 0, some 1, some 2, some 3, some 4, some 5]
 try simp only [*, go_sem]
 exact jc (a46_1, a46_3) h.e [some 1, some 2, some 3, some 0, some 4, some 5]
 refine oi h (fun hb62 h => ?_) (fun hb62 h => ?_)
 try simp only [*, go_sem]
 refine jn0 h ([zP 6 0, zP 11 1, zP 1000014 2, zR 1000020 3 0 b44_2.length, zP 1000021 4]) ([ox [.nl 3, .nl 6, .nl 3, .nl 2, .nl 12, .nl 8, .nl 4], ox [.d (.l 3 (v41.1.Items.map Item.enc)), .d (.l 6 (v41.1.Locks.map Lock.enc)), .d (.l 3 (v41.1.Doubts.map Doubt.enc)), .d (.l 2 (v41.1.Over.map Txn.enc)), .r 5 0 1, .r 6 0 1, .nl 4], ox [.nl 3, .nl 6, .nl 3, .nl 2, .nl 12, .nl 8, .nl 4], oa 4 (b44_2.map Note.enc), ox [.nl 3, .nl 6, .nl 3, .nl 2, .nl 12, .nl 8, .nl 4], oa 12 ([v42].map Message.enc), oa 8 ([(Record.mk 2 p6.Txn 0 0 0 p6.Yes [])].map Record.enc)]) (fun k64 h => ?_) (fun h => ?_)
 try simp only [*, go_sem]
 refine rg0 h ([zP 6 0, zP 11 1, (93, .agg [zi 2, zi p6.Txn.Site, zi p6.Txn.N, zi 0, zi 0, zi 0, .d (.b p6.Yes), .nl 1]), zP 1000014 2, zR 1000020 3 0 b44_2.length, zP 1000021 4]) ([ox [.nl 3, .nl 6, .nl 3, .nl 2, .nl 12, .nl 8, .nl 4], ox [.d (.l 3 (v41.1.Items.map Item.enc)), .d (.l 6 (v41.1.Locks.map Lock.enc)), .d (.l 3 (v41.1.Doubts.map Doubt.enc)), .d (.l 2 (v41.1.Over.map Txn.enc)), .r 5 0 1, .nl 8, .nl 4], ox [.nl 3, .nl 6, .nl 3, .nl 2, .nl 12, .nl 8, .nl 4], oa 4 (b44_2.map Note.enc), ox [.nl 3, .nl 6, .nl 3, .nl 2, .nl 12, .nl 8, .nl 4], oa 12 ([v42].map Message.enc)]) (fun k66 h => ?_) (fun h => ?_)
 try simp only [*, go_sem]
 exact jc () h.e [some 0, some 1, some 2, some 3, some 4, some 5]
 try simp only [*, go_sem]
 exact jc () h.e [some 0, some 1, some 2, some 3, some 4, some 5, some 6]
 try simp only [*, go_sem]
 exact jf [5, 6] (b44_2, v41.1.Items, v41.1.Locks, v41.1.Doubts, v41.1.Over, [v42], [(Record.mk 2 p6.Txn 0 0 0 p6.Yes [])], []) h.e [some 2, some 3, some 4]
 try simp only [*, go_sem]
 refine jn1 h (fun b67_1 => [zP 6 0, zP 11 1, zP 1000014 2, zR 1000020 3 0 b44_2.length, zP 1000021 4]) (fun b67_1 => [ox [.nl 3, .nl 6, .nl 3, .nl 2, .nl 12, .nl 8, .nl 4], ox [.d (.l 3 (v41.1.Items.map Item.enc)), .d (.l 6 (v41.1.Locks.map Lock.enc)), .d (.l 3 (v41.1.Doubts.map Doubt.enc)), .d (.l 2 (v41.1.Over.map Txn.enc)), .r 5 0 1, .r 6 0 b67_1.length, .nl 4], ox [.nl 3, .nl 6, .nl 3, .nl 2, .nl 12, .nl 8, .nl 4], oa 4 (b44_2.map Note.enc), ox [.nl 3, .nl 6, .nl 3, .nl 2, .nl 12, .nl 8, .nl 4], oa 12 ([v42].map Message.enc), oa 8 (b67_1.map Record.enc)]) (fun k68 h => ?_) (fun b67_1 h => ?_)
 refine oi h (fun hb69 h => ?_) (fun hb69 h => ?_)
 try simp only [*, go_sem]
 refine rg0 h ([zP 6 0, zP 11 1, (93, .agg [zi 2, zi p6.Txn.Site, zi p6.Txn.N, zi 0, zi 0, zi 0, .d (.b p6.Yes), .nl 1]), zP 1000014 2, zR 1000020 3 0 b44_2.length, zP 1000021 4]) ([ox [.nl 3, .nl 6, .nl 3, .nl 2, .nl 12, .nl 8, .nl 4], ox [.d (.l 3 (v41.1.Items.map Item.enc)), .d (.l 6 (v41.1.Locks.map Lock.enc)), .d (.l 3 (v41.1.Doubts.map Doubt.enc)), .d (.l 2 (v41.1.Over.map Txn.enc)), .r 5 0 1, .nl 8, .nl 4], ox [.nl 3, .nl 6, .nl 3, .nl 2, .nl 12, .nl 8, .nl 4], oa 4 (b44_2.map Note.enc), ox [.nl 3, .nl 6, .nl 3, .nl 2, .nl 12, .nl 8, .nl 4], oa 12 ([v42].map Message.enc)]) (fun k71 h => ?_) (fun h => ?_)
 try simp only [*, go_sem]
 exact jc () h.e [some 0, some 1, some 2, some 3, some 4, some 5]
 try simp only [*, go_sem]
 exact jc ([(Record.mk 2 p6.Txn 0 0 0 p6.Yes [])]) h.e [some 0, some 1, some 2, some 3, some 4, some 5, some 6]
 try simp only [*, go_sem]
 exact jc ([]) h.e [some 0, some 1, some 2, some 3, some 4, some 5, none]
 try simp only [*, go_sem]
 exact jf [5, 6] (b44_2, v41.1.Items, v41.1.Locks, v41.1.Doubts, v41.1.Over, [v42], b67_1, []) h.e [some 2, some 3, some 4]
 cases h.e
 simp only [*, go_sem, mA, mS]
 try simp only [*, go_sem]
 exact jc (b31_1, b31_2, b31_3, b31_4, b31_5, b31_6, b31_7, b31_8) h.e [some 0, some 1, some 2]
 try simp only [*, go_sem]
 exact jc (b25_1, b25_2, b25_3, b25_4, b25_5, b25_6, b25_7, b25_8) h.e [some 0, some 1, some 2]
 try simp only [*, go_sem]
 refine rg0 h ([zP 14 0, (98, .agg [.d (.l 3 (b19_2.map Item.enc)), .d (.l 6 (b19_3.map Lock.enc)), .d (.l 3 (b19_4.map Doubt.enc)), .d (.l 2 (b19_5.map Txn.enc)), .d (.l 12 (b19_6.map Message.enc)), .d (.l 8 (b19_7.map Record.enc)), .d (.l 4 (b19_8.map Note.enc))]), zR 99 1 0 b19_1.length]) ([ox [.nl 3, .nl 6, .nl 3, .nl 2, .nl 12, .nl 8, .nl 4], oz 4 (b19_1.map Note.enc)]) (fun k73 h => ?_) (fun h => ?_)
 try simp only [*, go_sem]
 exact jf [1, 1] () h.e [some 0, some 1]
 try simp only [*, go_sem]
 refine cr h (part_own_ok G (Answer.mk (Store.mk b19_2 b19_3 b19_4 b19_5) b19_6 b19_7 b19_8) b19_1) (fun v74 h => ?_)
 cases h.e
 simp only [*, go_sem, mA, mS]
def reredosref_In (p0 : Int) (p1 : Int) (p2 : Int) : Option (Bool) := (withK (fun (b1_1 : Bool) => (some b1_1)) fun k2 => (if (decide (p0 ≥ p1)) = true then (k2 (decide (p0 ≤ p2))) else (k2 false)))
def F92 : VFn := ⟨15, (.seq (.reg [vo 6 (.mv (cb false))]) (.seq (.wk (.reg [vm 7 0, vm 8 1, bt 9 .geq 7 8, vm 10 9, gt 11 10 (.mv (.t 0)), gt 12 10 (.mv (.t 2)), gt 13 10 (.bin .i .leq (.t 11) (.t 12)), vo 14 (.pick (.t 10) (.t 13) (cb false)), vm 6 14])) .ret)), [.t 6]⟩
theorem low92 : lowF Tryd.prog 92 = some F92.strip := by kernel_rfl
theorem fok92 : fOk Tryd.prog 92 = true := by kernel_rfl
theorem reredosref_In_ok (p0 : Int) (p1 : Int) (p2 : Int) (r : Bool) (h : reredosref_In p0 p1 p2 = some r) : FnRO Tryd.prog G 92 [.one (.d (.i .i64 p0)), .one (.d (.i .i64 p1)), .one (.d (.i .i64 p2))] (fun rs => rs = [.one (.b r)]) := by
 refine FnRO.of' low92 fok92 (by simp [F92]) ?_
 rw [reredosref_In] at h
 replace h := Hd.mk h
 simp only [F92, go_sem]
 try simp only [*, go_sem]
 refine jn1 h (fun b1_1 => [zB 6 b1_1]) (fun b1_1 => []) (fun k2 h => ?_) (fun b1_1 h => ?_)
 refine oi h (fun hb3 h => ?_) (fun hb3 h => ?_)
 try simp only [*, go_sem]
 exact jc (decide (p0 ≤ p2)) h.e []
 try simp only [*, go_sem]
 exact jc (false) h.e []
 cases h.e
 simp only [*, go_sem, mA, mS]
def reredosref_ConfigFault_L2 (p0 : Config) (a8_1 : Nat) (x12 : Label) (k18 : Option (Int)) : Nat → Nat → Option (Int)
 | 0, _ => none
 | n20 + 1, a19_1 => (if (decide (a19_1 < a8_1)) = true then (Option.bind (p0.Labels[a19_1]?) fun x22 => (if ((x22.Level == x12.Level) && (x22.Cats == x12.Cats)) = true then (some 7) else (reredosref_ConfigFault_L2 p0 a8_1 x12 k18 n20 (a19_1 + 1)))) else k18)
def reredosref_ConfigFault_L1 (p0 : Config) (k7 : Option (Int)) : Nat → Nat → Option (Int)
 | 0, _ => none
 | n9 + 1, a8_1 => (if (decide (a8_1 < p0.Labels.length)) = true then (Option.bind (p0.Labels[a8_1]?) fun x12 => (Option.bind (reredosref_In x12.Level 0 9) fun v13 => (if (!v13) = true then (some 2) else (Option.bind (reredosref_In x12.Cats 0 15) fun v15 => (if (!v15) = true then (some 2) else (withK (reredosref_ConfigFault_L1 p0 k7 n9 (a8_1 + 1)) fun k18 => (reredosref_ConfigFault_L2 p0 a8_1 x12 k18 (a8_1 + 1) 0))))))) else k7)
def reredosref_ConfigFault (p0 : Config) : Option (Int) := (Option.bind (reredosref_In p0.Sites 1 4) fun v1 => (if (!v1) = true then (some 2) else (Option.bind (reredosref_In ((p0.Labels.length : Nat) : Int) 1 6) fun v4 => (if (!v4) = true then (some 1) else (withK (Option.bind (reredosref_In p0.Patience 1 1048576) fun v26 => (if (!v26) = true then (some 2) else (some 0))) fun k7 => (reredosref_ConfigFault_L1 p0 k7 (p0.Labels.length + 1) 0))))))
def F70 : VFn := ⟨59, (.seq (.reg [vo 1 (.boxk 3 (.t 0)), mi 2 0]) (.seq (.seq (.reg [vf 5 0 1, vs 6 5, vo 7 (.call 92 [(.t 6), (ci 1), (ci 4)]), nt 8 7]) (.cond (.t 8) (.seq (.reg [mi 2 2]) .ret) .skip)) (.seq (.seq (.reg [vf 9 1 1, vs 10 9, ln 11 10, vo 12 (.call 92 [(.t 11), (ci 1), (ci 6)]), nt 13 12]) (.cond (.t 13) (.seq (.reg [mi 2 1]) .ret) .skip)) (.seq (.seq (.reg [mi 3 0]) (.wk (.block 0 (.loop (.seq (.seq (.reg [vm 14 3, vf 15 1 1, vs 16 15, ln 17 16, bt 18 .lss 14 17]) (.cond (.t 18) .skip (.exit 0))) (.seq (.block 1 (.seq (.seq (.reg [vf 21 1 1, vs 22 21, vm 23 3, xa 24 2 22 23, vf 25 0 24, vs 26 25, vo 27 (.call 92 [(.t 26), (ci 0), (ci 9)]), nt 28 27, vm 29 28, gf 30 29 (.fa 1 (.t 1)), gf 31 29 (.ld false 1 (.t 30)), gf 32 29 (.mv (.t 3)), gf 33 29 (.ia 2 (.t 31) (.t 32)), gf 34 29 (.fa 1 (.t 33)), gf 35 29 (.ld false 1 (.t 34)), gf 36 29 (.call 92 [(.t 35), (ci 0), (ci 15)]), gf 37 29 (.un .not (.t 36)), vo 38 (.pick (.t 29) (cb true) (.t 37))]) (.cond (.t 38) (.seq (.reg [mi 2 2]) .ret) .skip)) (.seq (.reg [mi 4 0]) (.wk (.block 2 (.loop (.seq (.seq (.reg [vm 39 4, vm 40 3, bt 41 .lss 39 40]) (.cond (.t 41) .skip (.exit 2))) (.seq (.block 3 (.seq (.draw [vd (vf 44 1 1) 0, vd (vs 45 44) 1, vd (vm 46 4) 0, vd (xa 47 2 45 46) 7, vd (vl 48 2 47) 15, vd (vf 49 1 1) 0, vd (vs 50 49) 32, vd (vm 51 3) 0, vd (xa 52 2 50 51) 224, vd (vl 53 2 52) 480, vd (vo 54 (.eqs false [.i, .i] (.t 48) (.t 53))) 1023]) (.cond (.t 54) (.seq (.reg [mi 2 7]) .ret) .skip))) (.reg [vm 42 4, bk 43 .add 42 1, vm 4 43]))))))))) (.reg [vm 19 3, bk 20 .add 19 1, vm 3 20]))))))) (.seq (.seq (.reg [vf 55 2 1, vs 56 55, vo 57 (.call 92 [(.t 56), (ci 1), (ci 1048576)]), nt 58 57]) (.cond (.t 58) (.seq (.reg [mi 2 2]) .ret) .skip)) (.seq (.reg [mi 2 0]) .ret)))))), [.t 2]⟩
theorem low70 : lowF Tryd.prog 70 = some F70.strip := by kernel_rfl
theorem fok70 : fOk Tryd.prog 70 = true := by kernel_rfl
theorem reredosref_ConfigFault_ok (p0 : Config) (r : Int) (h : reredosref_ConfigFault p0 = some r) : FnRO Tryd.prog G 70 [.agg p0.bx] (fun rs => rs = [.one (.i .i64 r)]) := by
 refine FnRO.of' low70 fok70 (by simp [F70]) ?_
 rw [reredosref_ConfigFault] at h
 replace h := Hd.mk h
 simp only [F70, go_sem]
 try simp only [*, go_sem]
 refine cr h (reredosref_In_ok G p0.Sites 1 4) (fun v1 h => ?_)
 refine oin h (fun hb2 hkhb2 h => ?_) (fun hb2 hkhb2 h => ?_)
 cases h.e
 simp only [*, go_sem, mA, mS]
 try simp only [*, go_sem]
 intro hl3
 try simp only [*, go_sem]
 refine cr h (reredosref_In_ok G ((p0.Labels.length : Nat) : Int) 1 6) (fun v4 h => ?_)
 refine oin h (fun hb5 hkhb5 h => ?_) (fun hb5 hkhb5 h => ?_)
 cases h.e
 simp only [*, go_sem, mA, mS]
 try simp only [*, go_sem]
 refine jn0 h ([zK 1 (Config.enc p0)]) ([]) (fun k7 h => ?_) (fun h => ?_)
 try simp only [*, go_sem]
 refine lp1 (reredosref_ConfigFault_L1 p0 k7) (fun a8_1 => [zK 1 (Config.enc p0), zI 3 ((a8_1 : Nat) : Int)]) (fun a8_1 => []) h [] [] (fun n9 a8_1 h => ?_) (by intros; rw [reredosref_ConfigFault_L1])
 rw [reredosref_ConfigFault_L1] at h
 try simp only [*, go_sem]
 intro hl10
 refine oi h (fun hb11 h => ?_) (fun hb11 h => ?_)
 have := of_decide_eq_true hb11
 refine obg h (fun x12 _ hkx12 h => ?_)
 try simp only [*, go_sem]
 refine cr h (reredosref_In_ok G x12.Level 0 9) (fun v13 h => ?_)
 refine oin h (fun hb14 hkhb14 h => ?_) (fun hb14 hkhb14 h => ?_)
 cases h.e
 simp only [*, go_sem, mA, mS]
 try simp only [*, go_sem]
 refine cr h (reredosref_In_ok G x12.Cats 0 15) (fun v15 h => ?_)
 refine oin h (fun hb16 hkhb16 h => ?_) (fun hb16 hkhb16 h => ?_)
 cases h.e
 simp only [*, go_sem, mA, mS]
 try simp only [*, go_sem]
 refine jn0 h ([zK 1 (Config.enc p0), zI 3 ((a8_1 : Nat) : Int), (30, .one (.p (.l 3 [(Config.enc p0)] 0 1))), zL 31 2 (p0.Labels.map Label.enc), zI 32 ((a8_1 : Nat) : Int), (33, .one (.p (.l 2 (p0.Labels.map Label.enc) a8_1 0))), (34, .one (.p (.l 2 (p0.Labels.map Label.enc) a8_1 1))), zI 35 x12.Cats, zB 36 true, zB 37 false]) ([]) (fun k18 h => ?_) (fun h => ?_)
 try simp only [*, go_sem]
 refine lp1 (reredosref_ConfigFault_L2 p0 a8_1 x12 k18) (fun a19_1 => [zK 1 (Config.enc p0), zI 3 ((a8_1 : Nat) : Int), zI 4 ((a19_1 : Nat) : Int), (30, .one (.p (.l 3 [(Config.enc p0)] 0 1))), zL 31 2 (p0.Labels.map Label.enc), zI 32 ((a8_1 : Nat) : Int), (33, .one (.p (.l 2 (p0.Labels.map Label.enc) a8_1 0))), (34, .one (.p (.l 2 (p0.Labels.map Label.enc) a8_1 1))), zI 35 x12.Cats, zB 36 true, zB 37 false]) (fun a19_1 => []) h [] [] (fun n20 a19_1 h => ?_) (by intros; rw [reredosref_ConfigFault_L2])
 rw [reredosref_ConfigFault_L2] at h
 refine oi h (fun hb21 h => ?_) (fun hb21 h => ?_)
 have := of_decide_eq_true hb21
 refine obg h (fun x22 _ hkx22 h => ?_)
 refine oi h (fun hb23 h => ?_) (fun hb23 h => ?_)
 try simp only [*, go_sem]
 cases h.e
 simp only [*, go_sem, mA, mS]
 try simp only [*, go_sem]
 have := wrap_succ_max hkx22 hl3
 try simp only [*, go_sem]
 exact lc (a19_1 + 1) h.e []
 try simp only [*, go_sem]
 exact jc () h.e []
 have := wrap_succ_max hkx12 hl3
 try simp only [*, go_sem]
 exact lc (a8_1 + 1) h.e []
 try simp only [*, go_sem]
 exact jc () h.e []
 try simp only [*, go_sem]
 refine cr h (reredosref_In_ok G p0.Patience 1 1048576) (fun v26 h => ?_)
 refine oin h (fun hb27 hkhb27 h => ?_) (fun hb27 hkhb27 h => ?_)
 cases h.e
 simp only [*, go_sem, mA, mS]
 cases h.e
 simp only [*, go_sem, mA, mS]
def reredosref_labelMay (p0 : Config) (p1 : Int) : Option (Bool) := (Option.bind (reredosref_In p1 0 (IntKind.i64.wrap (((p0.Labels.length : Nat) : Int) - 1))) fun v2 => (some v2))
def F91 : VFn := ⟨11, (.seq (.reg [vo 2 (.box 3 (.t 0)), vo 4 (.mv (cb false))]) (.seq (.reg [vm 5 1, vf 6 1 2, vs 7 6, ln 8 7, bk 9 .sub 8 1, vo 10 (.call 92 [(.t 5), (ci 0), (.t 9)]), vm 4 10]) .ret)), [.t 4]⟩
theorem low91 : lowF Tryd.prog 91 = some F91.strip := by kernel_rfl
theorem fok91 : fOk Tryd.prog 91 = true := by kernel_rfl
theorem reredosref_labelMay_ok (p0 : Config) (p1 : Int) (r : Bool) (h : reredosref_labelMay p0 p1 = some r) : FnRO Tryd.prog G 91 [.agg p0.bx, .one (.d (.i .i64 p1))] (fun rs => rs = [.one (.b r)]) := by
 refine FnRO.of' low91 fok91 (by simp [F91]) ?_
 rw [reredosref_labelMay] at h
 replace h := Hd.mk h
 simp only [F91, go_sem]
 try simp only [*, go_sem]
 intro hl1
 try simp only [*, go_sem]
 refine cr h (reredosref_In_ok G p1 0 (IntKind.i64.wrap (((p0.Labels.length : Nat) : Int) - 1))) (fun v2 h => ?_)
 cases h.e
 simp only [*, go_sem, mA, mS]
def reredosref_doubtOf_L1 (p0 : Store) (p1 : Txn) (k2 : Option (Int)) : Nat → Nat → Option (Int)
 | 0, _ => none
 | n4 + 1, a3_1 => (if (decide (a3_1 < p0.Doubts.length)) = true then (Option.bind (p0.Doubts[a3_1]?) fun x7 => (if ((x7.Txn.Site == p1.Site) && (x7.Txn.N == p1.N)) = true then (some ((a3_1 : Nat) : Int)) else (reredosref_doubtOf_L1 p0 p1 k2 n4 (a3_1 + 1)))) else k2)
def reredosref_doubtOf (p0 : Store) (p1 : Txn) : Option (Int) := (withK (some (-1)) fun k2 => (reredosref_doubtOf_L1 p0 p1 k2 (p0.Doubts.length + 1) 0))
def F100 : VFn := ⟨22, (.seq (.reg [vo 2 (.box 4 (.t 0)), vo 3 (.boxk 2 (.t 1)), mi 4 0]) (.seq (.seq (.reg [mi 5 0]) (.wk (.block 0 (.loop (.seq (.seq (.reg [vm 6 5, vf 7 2 2, vs 8 7, ln 9 8, bt 10 .lss 6 9]) (.cond (.t 10) .skip (.exit 0))) (.seq (.block 1 (.seq (.draw [vd (vf 13 2 2) 0, vd (vs 14 13) 1, vd (vm 15 5) 0, vd (xa 16 3 14 15) 7, vd (vf 17 0 16) 15, vd (vl 18 2 17) 31, vd (vl 19 2 3) 0, vd (vo 20 (.eqs false [.i, .i] (.t 18) (.t 19))) 127]) (.cond (.t 20) (.seq (.reg [vm 21 5, vm 4 21]) .ret) .skip))) (.reg [vm 11 5, bk 12 .add 11 1, vm 5 12]))))))) (.seq (.reg [mi 4 (-1)]) .ret))), [.t 4]⟩
theorem low100 : lowF Tryd.prog 100 = some F100.strip := by kernel_rfl
theorem fok100 : fOk Tryd.prog 100 = true := by kernel_rfl
theorem reredosref_doubtOf_ok (p0 : Store) (p1 : Txn) (r : Int) (h : reredosref_doubtOf p0 p1 = some r) : FnRO Tryd.prog G 100 [.agg p0.bx, .agg p1.bx] (fun rs => rs = [.one (.i .i64 r)]) := by
 refine FnRO.of' low100 fok100 (by simp [F100]) ?_
 rw [reredosref_doubtOf] at h
 replace h := Hd.mk h
 simp only [F100, go_sem]
 try simp only [*, go_sem]
 refine jn0 h ([]) ([]) (fun k2 h => ?_) (fun h => ?_)
 try simp only [*, go_sem]
 refine lp1 (reredosref_doubtOf_L1 p0 p1 k2) (fun a3_1 => [zP 2 0, zK 3 (Txn.enc p1), zI 5 ((a3_1 : Nat) : Int)]) (fun a3_1 => [ox p0.bx]) h [] [some 0] (fun n4 a3_1 h => ?_) (by intros; rw [reredosref_doubtOf_L1])
 rw [reredosref_doubtOf_L1] at h
 try simp only [*, go_sem]
 intro hl5
 refine oi h (fun hb6 h => ?_) (fun hb6 h => ?_)
 have := of_decide_eq_true hb6
 refine obg h (fun x7 _ hkx7 h => ?_)
 refine oi h (fun hb8 h => ?_) (fun hb8 h => ?_)
 try simp only [*, go_sem]
 cases h.e
 simp only [*, go_sem, mA, mS]
 try simp only [*, go_sem]
 have := wrap_succ_max hkx7 hl5
 try simp only [*, go_sem]
 exact lc (a3_1 + 1) h.e [some 0]
 try simp only [*, go_sem]
 exact jc () h.e []
 cases h.e
 simp only [*, go_sem, mA, mS]
def reredosref_plainTxn (p0 : Txn) : Option (Bool) := (withK (fun (b1_1 : Bool) => (some b1_1)) fun k2 => (Option.bind (reredosref_In p0.Site 0 3) fun v3 => (if v3 = true then (Option.bind (reredosref_In p0.N 1 1048576) fun v5 => (k2 v5)) else (k2 false))))
def F154 : VFn := ⟨11, (.seq (.reg [vo 1 (.boxk 2 (.t 0)), vo 2 (.mv (cb false))]) (.seq (.wk (.reg [vf 3 0 1, vs 4 3, vo 5 (.call 92 [(.t 4), (ci 0), (ci 3)]), vm 6 5, gt 7 6 (.fa 1 (.t 1)), gt 8 6 (.ld false 1 (.t 7)), gt 9 6 (.call 92 [(.t 8), (ci 1), (ci 1048576)]), vo 10 (.pick (.t 6) (.t 9) (cb false)), vm 2 10])) .ret)), [.t 2]⟩
theorem low154 : lowF Tryd.prog 154 = some F154.strip := by kernel_rfl
theorem fok154 : fOk Tryd.prog 154 = true := by kernel_rfl
theorem reredosref_plainTxn_ok (p0 : Txn) (r : Bool) (h : reredosref_plainTxn p0 = some r) : FnRO Tryd.prog G 154 [.agg p0.bx] (fun rs => rs = [.one (.b r)]) := by
 refine FnRO.of' low154 fok154 (by simp [F154]) ?_
 rw [reredosref_plainTxn] at h
 replace h := Hd.mk h
 simp only [F154, go_sem]
 try simp only [*, go_sem]
 refine jn1 h (fun b1_1 => [zB 2 b1_1]) (fun b1_1 => []) (fun k2 h => ?_) (fun b1_1 h => ?_)
 try simp only [*, go_sem]
 refine cr h (reredosref_In_ok G p0.Site 0 3) (fun v3 h => ?_)
 refine oi h (fun hb4 h => ?_) (fun hb4 h => ?_)
 try simp only [*, go_sem]
 refine cr h (reredosref_In_ok G p0.N 1 1048576) (fun v5 h => ?_)
 try simp only [*, go_sem]
 exact jc (v5) h.e []
 try simp only [*, go_sem]
 exact jc (false) h.e []
 cases h.e
 simp only [*, go_sem, mA, mS]
def reredosref_isOver_L1 (p0 : Store) (p1 : Txn) (k2 : Option (Bool)) : Nat → Nat → Option (Bool)
 | 0, _ => none
 | n4 + 1, a3_1 => (if (decide (a3_1 < p0.Over.length)) = true then (Option.bind (p0.Over[a3_1]?) fun x7 => (if ((x7.Site == p1.Site) && (x7.N == p1.N)) = true then (some true) else (reredosref_isOver_L1 p0 p1 k2 n4 (a3_1 + 1)))) else k2)
def reredosref_isOver (p0 : Store) (p1 : Txn) : Option (Bool) := (withK (some false) fun k2 => (reredosref_isOver_L1 p0 p1 k2 (p0.Over.length + 1) 0))
def F99 : VFn := ⟨20, (.seq (.reg [vo 2 (.box 4 (.t 0)), vo 3 (.boxk 2 (.t 1)), vo 4 (.mv (cb false))]) (.seq (.seq (.reg [mi 5 0]) (.wk (.block 0 (.loop (.seq (.seq (.reg [vm 6 5, vf 7 3 2, vs 8 7, ln 9 8, bt 10 .lss 6 9]) (.cond (.t 10) .skip (.exit 0))) (.seq (.block 1 (.seq (.draw [vd (vf 13 3 2) 0, vd (vs 14 13) 1, vd (vm 15 5) 0, vd (xa 16 2 14 15) 7, vd (vl 17 2 16) 15, vd (vl 18 2 3) 0, vd (vo 19 (.eqs false [.i, .i] (.t 17) (.t 18))) 63]) (.cond (.t 19) (.seq (.reg [vo 4 (.mv (cb true))]) .ret) .skip))) (.reg [vm 11 5, bk 12 .add 11 1, vm 5 12]))))))) (.seq (.reg [vo 4 (.mv (cb false))]) .ret))), [.t 4]⟩
theorem low99 : lowF Tryd.prog 99 = some F99.strip := by kernel_rfl
theorem fok99 : fOk Tryd.prog 99 = true := by kernel_rfl
theorem reredosref_isOver_ok (p0 : Store) (p1 : Txn) (r : Bool) (h : reredosref_isOver p0 p1 = some r) : FnRO Tryd.prog G 99 [.agg p0.bx, .agg p1.bx] (fun rs => rs = [.one (.b r)]) := by
 refine FnRO.of' low99 fok99 (by simp [F99]) ?_
 rw [reredosref_isOver] at h
 replace h := Hd.mk h
 simp only [F99, go_sem]
 try simp only [*, go_sem]
 refine jn0 h ([]) ([]) (fun k2 h => ?_) (fun h => ?_)
 try simp only [*, go_sem]
 refine lp1 (reredosref_isOver_L1 p0 p1 k2) (fun a3_1 => [zP 2 0, zK 3 (Txn.enc p1), zI 5 ((a3_1 : Nat) : Int)]) (fun a3_1 => [ox p0.bx]) h [] [some 0] (fun n4 a3_1 h => ?_) (by intros; rw [reredosref_isOver_L1])
 rw [reredosref_isOver_L1] at h
 try simp only [*, go_sem]
 intro hl5
 refine oi h (fun hb6 h => ?_) (fun hb6 h => ?_)
 have := of_decide_eq_true hb6
 refine obg h (fun x7 _ hkx7 h => ?_)
 refine oi h (fun hb8 h => ?_) (fun hb8 h => ?_)
 try simp only [*, go_sem]
 cases h.e
 simp only [*, go_sem, mA, mS]
 try simp only [*, go_sem]
 have := wrap_succ_max hkx7 hl5
 try simp only [*, go_sem]
 exact lc (a3_1 + 1) h.e [some 0]
 try simp only [*, go_sem]
 exact jc () h.e []
 cases h.e
 simp only [*, go_sem, mA, mS]
def reredosref_StoreMay_L1 (p0 : Store) (k4 : Option (Bool)) : Nat → Nat → Option (Bool)
 | 0, _ => none
 | n6 + 1, a5_1 => (if (decide (a5_1 < p0.Items.length)) = true then (Option.bind (p0.Items[a5_1]?) fun x9 => (Option.bind (reredosref_In x9.Key 0 7) fun v10 => (if (!v10) = true then (some false) else (Option.bind (reredosref_In x9.Value 0 1073741824) fun v12 => (if (!v12) = true then (some false) else (Option.bind (reredosref_In x9.Version 1 1048576) fun v14 => (if (!v14) = true then (some false) else (if (decide (((a5_1 : Nat) : Int) > 0)) = true then (if 0 ≤ IntKind.i64.wrap (((a5_1 : Nat) : Int) - 1) then (Option.bind (p0.Items[(IntKind.i64.wrap (((a5_1 : Nat) : Int) - 1)).toNat]?) fun x17 => (if (decide (x9.Key ≤ x17.Key)) = true then (some false) else (reredosref_StoreMay_L1 p0 k4 n6 (a5_1 + 1)))) else none) else (reredosref_StoreMay_L1 p0 k4 n6 (a5_1 + 1)))))))))) else k4)
def reredosref_StoreMay_L3 (p0 : Store) (a24_1 : Nat) (x28 : Lock) (k41 : Option (Bool)) : Nat → Nat → Option (Bool)
 | 0, _ => none
 | n43 + 1, a42_1 => (if (decide (a42_1 < a24_1)) = true then (Option.bind (p0.Locks[a42_1]?) fun x45 => (if (x28.Key == x45.Key) = true then (if ((x28.Txn.Site == x45.Txn.Site) && (x28.Txn.N == x45.Txn.N)) = true then (some false) else (if x45.Write = true then (some false) else (reredosref_StoreMay_L3 p0 a24_1 x28 k41 n43 (a42_1 + 1)))) else (reredosref_StoreMay_L3 p0 a24_1 x28 k41 n43 (a42_1 + 1)))) else k41)
def reredosref_StoreMay_L4 (p0 : Store) (a24_1 : Nat) (x28 : Lock) (k53 : Option (Bool)) : Nat → Nat → Option (Bool)
 | 0, _ => none
 | n55 + 1, a54_1 => (if (decide (a54_1 < a24_1)) = true then (Option.bind (p0.Locks[a54_1]?) fun x57 => (if (x28.Key == x57.Key) = true then (if ((x28.Txn.Site == x57.Txn.Site) && (x28.Txn.N == x57.Txn.N)) = true then (some false) else (some false)) else (reredosref_StoreMay_L4 p0 a24_1 x28 k53 n55 (a54_1 + 1)))) else k53)
def reredosref_StoreMay_L2 (p0 : Store) (k23 : Option (Bool)) : Nat → Nat → Option (Bool)
 | 0, _ => none
 | n25 + 1, a24_1 => (if (decide (a24_1 < p0.Locks.length)) = true then (Option.bind (p0.Locks[a24_1]?) fun x28 => (Option.bind (reredosref_doubtOf p0 x28.Txn) fun v29 => (if (decide (v29 < 0)) = true then (some false) else (Option.bind (reredosref_In x28.Key 0 7) fun v31 => (if (!v31) = true then (some false) else (Option.bind (reredosref_In x28.Value 0 1073741824) fun v33 => (if (!v33) = true then (some false) else (Option.bind (reredosref_In x28.Ask 0 1048576) fun v35 => (if (!v35) = true then (some false) else (if (!x28.Write) = true then (if (x28.Value != 0) = true then (some false) else (if (x28.Ask != 0) = true then (some false) else (withK (reredosref_StoreMay_L2 p0 k23 n25 (a24_1 + 1)) fun k41 => (reredosref_StoreMay_L3 p0 a24_1 x28 k41 (a24_1 + 1) 0)))) else (withK (reredosref_StoreMay_L2 p0 k23 n25 (a24_1 + 1)) fun k53 => (reredosref_StoreMay_L4 p0 a24_1 x28 k53 (a24_1 + 1) 0)))))))))))) else k23)
def reredosref_StoreMay_L6 (p0 : Store) (x68 : Doubt) (k70 : Bool → Option (Bool)) : Nat → Bool → Nat → Option (Bool)
 | 0, _, _ => none
 | n72 + 1, a71_1, a71_2 => (if (decide (a71_2 < p0.Locks.length)) = true then (if a71_1 = true then (reredosref_StoreMay_L6 p0 x68 k70 n72 true (a71_2 + 1)) else (Option.bind (p0.Locks[a71_2]?) fun x77 => (reredosref_StoreMay_L6 p0 x68 k70 n72 ((x77.Txn.Site == x68.Txn.Site) && (x77.Txn.N == x68.Txn.N)) (a71_2 + 1)))) else (k70 a71_1))
def reredosref_StoreMay_L5 (p0 : Store) (k63 : Option (Bool)) : Nat → Nat → Option (Bool)
 | 0, _ => none
 | n65 + 1, a64_1 => (if (decide (a64_1 < p0.Doubts.length)) = true then (Option.bind (p0.Doubts[a64_1]?) fun x68 => (withK (fun (b69_1 : Bool) => (Option.bind (reredosref_plainTxn x68.Txn) fun v79 => (if (!v79) = true then (some false) else (Option.bind (reredosref_In x68.Age 0 1048576) fun v81 => (if (!v81) = true then (some false) else (if (!b69_1) = true then (some false) else (Option.bind (reredosref_doubtOf p0 x68.Txn) fun v84 => (if (v84 != ((a64_1 : Nat) : Int)) = true then (some false) else (Option.bind (reredosref_isOver p0 x68.Txn) fun v86 => (if v86 = true then (some false) else (reredosref_StoreMay_L5 p0 k63 n65 (a64_1 + 1)))))))))))) fun k70 => (reredosref_StoreMay_L6 p0 x68 k70 (p0.Locks.length + 1) false 0))) else k63)
def reredosref_StoreMay_L8 (p0 : Store) (a91_1 : Nat) (k96 : Option (Bool)) : Nat → Nat → Option (Bool)
 | 0, _ => none
 | n98 + 1, a97_1 => (if (decide (a97_1 < a91_1)) = true then (Option.bind (p0.Over[a97_1]?) fun x100 => (Option.bind (p0.Over[a91_1]?) fun x101 => (if ((x100.Site == x101.Site) && (x100.N == x101.N)) = true then (some false) else (reredosref_StoreMay_L8 p0 a91_1 k96 n98 (a97_1 + 1))))) else k96)
def reredosref_StoreMay_L7 (p0 : Store) (k90 : Option (Bool)) : Nat → Nat → Option (Bool)
 | 0, _ => none
 | n92 + 1, a91_1 => (if (decide (a91_1 < p0.Over.length)) = true then (withK (Option.bind (p0.Over[a91_1]?) fun x104 => (Option.bind (reredosref_plainTxn x104) fun v105 => (if (!v105) = true then (some false) else (reredosref_StoreMay_L7 p0 k90 n92 (a91_1 + 1))))) fun k96 => (reredosref_StoreMay_L8 p0 a91_1 k96 (a91_1 + 1) 0)) else k90)
def reredosref_StoreMay (p0 : Store) : Option (Bool) := (if (decide (((p0.Locks.length : Nat) : Int) > 24)) = true then (some false) else (withK (withK (withK (withK (some true) fun k90 => (reredosref_StoreMay_L7 p0 k90 (p0.Over.length + 1) 0)) fun k63 => (reredosref_StoreMay_L5 p0 k63 (p0.Doubts.length + 1) 0)) fun k23 => (reredosref_StoreMay_L2 p0 k23 (p0.Locks.length + 1) 0)) fun k4 => (reredosref_StoreMay_L1 p0 k4 (p0.Items.length + 1) 0)))
def F93 : VFn := ⟨232, (.seq (.reg [vo 1 (.box 4 (.t 0)), vo 2 (.mv (cb false))]) (.seq (.seq (.reg [vf 15 1 1, vs 16 15, ln 17 16, bk 18 .gtr 17 24]) (.cond (.t 18) (.seq (.reg [vo 2 (.mv (cb false))]) .ret) .skip)) (.seq (.seq (.reg [mi 3 0]) (.wk (.block 0 (.loop (.seq (.seq (.reg [vm 19 3, vf 20 0 1, vs 21 20, ln 22 21, bt 23 .lss 19 22]) (.cond (.t 23) .skip (.exit 0))) (.seq (.block 1 (.seq (.reg [vf 26 0 1, vs 27 26, vm 28 3, xa 29 3 27 28, vl 30 3 29, vo 4 (.alloc [(zi 0), (zi 0), (zi 0)]), vu (.st 3 (.t 4) (.t 30))]) (.seq (.draw [vd (vf 31 0 4) 0, vd (vs 32 31) 1, vd (vo 33 (.call 92 [(.t 32), (ci 0), (ci 7)])) 3, vd (nt 34 33) 7, vd (vm 35 34) 15, vd (gf 36 35 (.fa 1 (.t 4))) 31, vd (gf 37 35 (.ld false 1 (.t 36))) 63, vd (gf 38 35 (.call 92 [(.t 37), (ci 0), (ci 1073741824)])) 127, vd (gf 39 35 (.un .not (.t 38))) 255, vd (vo 40 (.pick (.t 35) (cb true) (.t 39))) 511, vd (vm 41 40) 1023, vd (gf 42 41 (.fa 2 (.t 4))) 2047, vd (gf 43 41 (.ld false 1 (.t 42))) 4095, vd (gf 44 41 (.call 92 [(.t 43), (ci 1), (ci 1048576)])) 8191, vd (gf 45 41 (.un .not (.t 44))) 0x3fff, vd (vo 46 (.pick (.t 41) (cb true) (.t 45))) 0x7fff, vd (vm 47 46) 0xffff, vd (gf 48 47 (.mv (.t 3))) 0x1ffff, vd (gf 49 47 (.bin .i .gtr (.t 48) (ci 0))) 0x3ffff, vd (gf 50 47 (.mv (.t 49))) 0x7ffff, vd (gt 51 50 (.fa 0 (.t 4))) 0xfffff, vd (gt 52 50 (.ld false 1 (.t 51))) 0x1fffff, vd (gt 53 50 (.fa 0 (.t 1))) 0xfffff, vd (gt 54 50 (.ld false 1 (.t 53))) 0x4fffff, vd (gt 55 50 (.mv (.t 3))) 0xfffff, vd (gt 56 50 (.bin .i .sub (.t 55) (ci 1))) 0x10fffff, vd (gt 57 50 (.ia 3 (.t 54) (.t 56))) 0x3cfffff, vd (gt 58 50 (.fa 0 (.t 57))) 0x7cfffff, vd (gt 59 50 (.ld false 1 (.t 58))) 0xfcfffff, vd (gt 60 50 (.bin .i .leq (.t 52) (.t 59))) 0x1fffffff, vd (gf 61 47 (.pick (.t 50) (.t 60) (cb false))) 0x3fffffff, vd (vo 62 (.pick (.t 47) (cb true) (.t 61))) 0x7fffffff]) (.cond (.t 62) (.seq (.reg [vo 2 (.mv (cb false))]) .ret) .skip)))) (.reg [vm 24 3, bk 25 .add 24 1, vm 3 25]))))))) (.seq (.seq (.reg [mi 5 0]) (.wk (.block 2 (.loop (.seq (.seq (.reg [vm 63 5, vf 64 1 1, vs 65 64, ln 66 65, bt 67 .lss 63 66]) (.cond (.t 67) .skip (.exit 2))) (.seq (.block 3 (.seq (.reg [vf 70 1 1, vs 71 70, vm 72 5, xa 73 6 71 72, vl 74 6 73, vo 6 (.alloc [(zi 0), (zi 0), (zi 0), (.d (.b false)), (zi 0), (zi 0)]), vu (.st 6 (.t 6) (.t 74))]) (.seq (.seq (.reg [vl 75 4 1, vf 76 0 6, vl 77 2 76, vo 78 (.call 100 [(.t 75), (.t 77)]), bk 79 .lss 78 0, vm 80 79, gf 81 80 (.fa 2 (.t 6)), gf 82 80 (.ld false 1 (.t 81)), gf 83 80 (.call 92 [(.t 82), (ci 0), (ci 7)]), gf 84 80 (.un .not (.t 83)), vo 85 (.pick (.t 80) (cb true) (.t 84)), vm 86 85, gf 87 86 (.fa 4 (.t 6)), gf 88 86 (.ld false 1 (.t 87)), gf 89 86 (.call 92 [(.t 88), (ci 0), (ci 1073741824)]), gf 90 86 (.un .not (.t 89)), vo 91 (.pick (.t 86) (cb true) (.t 90)), vm 92 91, gf 93 92 (.fa 5 (.t 6)), gf 94 92 (.ld false 1 (.t 93)), gf 95 92 (.call 92 [(.t 94), (ci 0), (ci 1048576)]), gf 96 92 (.un .not (.t 95)), vo 97 (.pick (.t 92) (cb true) (.t 96)), vm 98 97, gf 99 98 (.fa 3 (.t 6)), gf 100 98 (.ld false 1 (.t 99)), gf 101 98 (.un .not (.t 100)), gf 102 98 (.mv (.t 101)), gt 103 102 (.fa 4 (.t 6)), gt 104 102 (.ld false 1 (.t 103)), gt 105 102 (.bin .i .neq (.t 104) (ci 0)), gt 106 102 (.mv (.t 105)), gf 107 106 (.fa 5 (.t 6)), gf 108 106 (.ld false 1 (.t 107)), gf 109 106 (.bin .i .neq (.t 108) (ci 0)), gt 110 102 (.pick (.t 106) (cb true) (.t 109)), gf 111 98 (.pick (.t 102) (.t 110) (cb false)), vo 112 (.pick (.t 98) (cb true) (.t 111))]) (.cond (.t 112) (.seq (.reg [vo 2 (.mv (cb false))]) .ret) .skip)) (.seq (.reg [mi 7 0]) (.wk (.block 4 (.loop (.seq (.seq (.reg [vm 113 7, vm 114 5, bt 115 .lss 113 114]) (.cond (.t 115) .skip (.exit 4))) (.seq (.block 5 (.seq (.reg [vf 118 1 1, vs 119 118, vm 120 7, xa 121 6 119 120, vl 122 6 121, vo 8 (.alloc [(zi 0), (zi 0), (zi 0), (.d (.b false)), (zi 0), (zi 0)]), vu (.st 6 (.t 8) (.t 122))]) (.seq (.reg [vf 123 2 6, vs 124 123, vf 125 2 8, vs 126 125, bt 127 .eql 124 126, vm 128 127, gt 129 128 (.fa 0 (.t 6)), gt 130 128 (.ld true 2 (.t 129)), gt 131 128 (.fa 0 (.t 8)), gt 132 128 (.ld true 2 (.t 131)), gt 133 128 (.eqs false [.i, .i] (.t 130) (.t 132)), gt 134 128 (.mv (.t 133)), gf 135 134 (.fa 3 (.t 6)), gf 136 134 (.ld false 1 (.t 135)), gt 137 128 (.pick (.t 134) (cb true) (.t 136)), gt 138 128 (.mv (.t 137)), gf 139 138 (.fa 3 (.t 8)), gf 140 138 (.ld false 1 (.t 139)), gt 141 128 (.pick (.t 138) (cb true) (.t 140)), vo 142 (.pick (.t 128) (.t 141) (cb false))]) (.cond (.t 142) (.seq (.reg [vo 2 (.mv (cb false))]) .ret) .skip)))) (.reg [vm 116 7, bk 117 .add 116 1, vm 7 117])))))))))) (.reg [vm 68 5, bk 69 .add 68 1, vm 5 69]))))))) (.seq (.seq (.reg [mi 9 0]) (.wk (.block 6 (.loop (.seq (.seq (.reg [vm 143 9, vf 144 2 1, vs 145 144, ln 146 145, bt 147 .lss 143 146]) (.cond (.t 147) .skip (.exit 6))) (.seq (.block 7 (.seq (.reg [vf 150 2 1, vs 151 150, vm 152 9, xa 153 3 151 152, vl 154 3 153, vo 10 (.alloc [(zi 0), (zi 0), (zi 0)]), vu (.st 3 (.t 10) (.t 154))]) (.seq (.reg [vo 11 (.mv (cb false))]) (.seq (.seq (.reg [mi 12 0]) (.wk (.block 8 (.loop (.seq (.seq (.reg [vm 155 12, vf 156 1 1, vs 157 156, ln 158 157, bt 159 .lss 155 158]) (.cond (.t 159) .skip (.exit 8))) (.seq (.block 9 (.draw [vd (vm 162 11) 0, vd (vm 163 162) 1, vd (gf 164 163 (.fa 1 (.t 1))) 3, vd (gf 165 163 (.ld false 1 (.t 164))) 7, vd (gf 166 163 (.mv (.t 12))) 3, vd (gf 167 163 (.ia 6 (.t 165) (.t 166))) 31, vd (gf 168 163 (.fa 0 (.t 167))) 63, vd (gf 169 163 (.ld true 2 (.t 168))) 127, vd (gf 170 163 (.fa 0 (.t 10))) 3, vd (gf 171 163 (.ld true 2 (.t 170))) 259, vd (gf 172 163 (.eqs false [.i, .i] (.t 169) (.t 171))) 1023, vd (vo 173 (.pick (.t 163) (cb true) (.t 172))) 2047, vd (vm 11 173) 4095])) (.reg [vm 160 12, bk 161 .add 160 1, vm 12 161]))))))) (.seq (.reg [vf 174 0 10, vl 175 2 174, vo 176 (.call 154 [(.t 175)]), nt 177 176, vm 178 177, gf 179 178 (.fa 2 (.t 10)), gf 180 178 (.ld false 1 (.t 179)), gf 181 178 (.call 92 [(.t 180), (ci 0), (ci 1048576)]), gf 182 178 (.un .not (.t 181)), vo 183 (.pick (.t 178) (cb true) (.t 182)), vm 184 183, gf 185 184 (.mv (.t 11)), gf 186 184 (.un .not (.t 185)), vo 187 (.pick (.t 184) (cb true) (.t 186)), vm 188 187, gf 189 188 (.ld true 4 (.t 1)), gf 190 188 (.fa 0 (.t 10)), gf 191 188 (.ld true 2 (.t 190)), gf 192 188 (.call 100 [(.t 189), (.t 191)]), gf 193 188 (.mv (.t 9)), gf 194 188 (.bin .i .neq (.t 192) (.t 193)), vo 195 (.pick (.t 188) (cb true) (.t 194)), vm 196 195, gf 197 196 (.ld true 4 (.t 1)), gf 198 196 (.fa 0 (.t 10)), gf 199 196 (.ld true 2 (.t 198)), gf 200 196 (.call 99 [(.t 197), (.t 199)]), vo 201 (.pick (.t 196) (cb true) (.t 200))]) (.cond (.t 201) (.seq (.reg [vo 2 (.mv (cb false))]) .ret) .skip)))))) (.reg [vm 148 9, bk 149 .add 148 1, vm 9 149]))))))) (.seq (.seq (.reg [mi 13 0]) (.wk (.block 10 (.loop (.seq (.seq (.reg [vm 202 13, vf 203 3 1, vs 204 203, ln 205 204, bt 206 .lss 202 205]) (.cond (.t 206) .skip (.exit 10))) (.seq (.block 11 (.seq (.seq (.reg [mi 14 0]) (.wk (.block 12 (.loop (.seq (.seq (.reg [vm 209 14, vm 210 13, bt 211 .lss 209 210]) (.cond (.t 211) .skip (.exit 12))) (.seq (.block 13 (.seq (.draw [vd (vf 214 3 1) 0, vd (vs 215 214) 1, vd (vm 216 14) 0, vd (xa 217 2 215 216) 7, vd (vl 218 2 217) 15, vd (vf 219 3 1) 0, vd (vs 220 219) 32, vd (vm 221 13) 0, vd (xa 222 2 220 221) 224, vd (vl 223 2 222) 480, vd (vo 224 (.eqs false [.i, .i] (.t 218) (.t 223))) 1023]) (.cond (.t 224) (.seq (.reg [vo 2 (.mv (cb false))]) .ret) .skip))) (.reg [vm 212 14, bk 213 .add 212 1, vm 14 213]))))))) (.seq (.reg [vf 225 3 1, vs 226 225, vm 227 13, xa 228 2 226 227, vl 229 2 228, vo 230 (.call 154 [(.t 229)]), nt 231 230]) (.cond (.t 231) (.seq (.reg [vo 2 (.mv (cb false))]) .ret) .skip)))) (.reg [vm 207 13, bk 208 .add 207 1, vm 13 208]))))))) (.seq (.reg [vo 2 (.mv (cb true))]) .ret))))))), [.t 2]⟩
theorem low93 : lowF Tryd.prog 93 = some F93.strip := by kernel_rfl
theorem fok93 : fOk Tryd.prog 93 = true := by kernel_rfl
theorem reredosref_StoreMay_ok (p0 : Store) (r : Bool) (h : reredosref_StoreMay p0 = some r) : FnRO Tryd.prog G 93 [.agg p0.bx] (fun rs => rs = [.one (.b r)]) := by
 refine FnRO.of' low93 fok93 (by simp [F93]) ?_
 rw [reredosref_StoreMay] at h
 replace h := Hd.mk h
 simp only [F93, go_sem]
 try simp only [*, go_sem]
 intro hl1
 refine oi h (fun hb2 h => ?_) (fun hb2 h => ?_)
 cases h.e
 simp only [*, go_sem, mA, mS]
 try simp only [*, go_sem]
 refine jn0 h ([zP 1 0]) ([ox p0.bx]) (fun k4 h => ?_) (fun h => ?_)
 try simp only [*, go_sem]
 refine lp1 (reredosref_StoreMay_L1 p0 k4) (fun a5_1 => [zP 1 0, zI 3 ((a5_1 : Nat) : Int)]) (fun a5_1 => [ox p0.bx]) h [] [some 0] (fun n6 a5_1 h => ?_) (by intros; rw [reredosref_StoreMay_L1])
 rw [reredosref_StoreMay_L1] at h
 try simp only [*, go_sem]
 intro hl7
 refine oi h (fun hb8 h => ?_) (fun hb8 h => ?_)
 have := of_decide_eq_true hb8
 refine obg h (fun x9 _ hkx9 h => ?_)
 refine obk h (fun v10 hv10 h => ?_)
 try simp only [*, go_sem]
 refine cd (reredosref_In_ok G x9.Key 0 7 v10 hv10) ?_
 refine oin h (fun hb11 hkhb11 h => ?_) (fun hb11 hkhb11 h => ?_)
 cases h.e
 simp only [*, go_sem, mA, mS]
 refine obk h (fun v12 hv12 h => ?_)
 try simp only [*, go_sem]
 refine cd (reredosref_In_ok G x9.Value 0 1073741824 v12 hv12) ?_
 refine oin h (fun hb13 hkhb13 h => ?_) (fun hb13 hkhb13 h => ?_)
 cases h.e
 simp only [*, go_sem, mA, mS]
 refine obk h (fun v14 hv14 h => ?_)
 try simp only [*, go_sem]
 refine cd (reredosref_In_ok G x9.Version 1 1048576 v14 hv14) ?_
 refine oin h (fun hb15 hkhb15 h => ?_) (fun hb15 hkhb15 h => ?_)
 cases h.e
 simp only [*, go_sem, mA, mS]
 refine oi h (fun hb16 h => ?_) (fun hb16 h => ?_)
 refine obn h (fun x17 _ _ _ _ h => ?_)
 refine oi h (fun hb19 h => ?_) (fun hb19 h => ?_)
 cases h.e
 simp only [*, go_sem, mA, mS]
 have := wrap_succ_max hkx9 hl7
 try simp only [*, go_sem]
 exact lc (a5_1 + 1) h.e [some 0]
 have := wrap_succ_max hkx9 hl7
 try simp only [*, go_sem]
 exact lc (a5_1 + 1) h.e [some 0]
 try simp only [*, go_sem]
 exact jc () h.e [some 0]
 try simp only [*, go_sem]
 refine jn0 h ([zP 1 0]) ([ox p0.bx]) (fun k23 h => ?_) (fun h => ?_)
 try simp only [*, go_sem]
 refine lp1 (reredosref_StoreMay_L2 p0 k23) (fun a24_1 => [zP 1 0, zI 5 ((a24_1 : Nat) : Int)]) (fun a24_1 => [ox p0.bx]) h [] [some 0] (fun n25 a24_1 h => ?_) (by intros; rw [reredosref_StoreMay_L2])
 rw [reredosref_StoreMay_L2] at h
 try simp only [*, go_sem]
 intro hl26
 refine oi h (fun hb27 h => ?_) (fun hb27 h => ?_)
 have := of_decide_eq_true hb27
 refine obg h (fun x28 _ hkx28 h => ?_)
 try simp only [*, go_sem]
 refine cr h (reredosref_doubtOf_ok G p0 x28.Txn) (fun v29 h => ?_)
 refine oi h (fun hb30 h => ?_) (fun hb30 h => ?_)
 have := of_decide_eq_true hb30
 cases h.e
 simp only [*, go_sem, mA, mS]
 try simp only [*, go_sem]
 refine cr h (reredosref_In_ok G x28.Key 0 7) (fun v31 h => ?_)
 refine oin h (fun hb32 hkhb32 h => ?_) (fun hb32 hkhb32 h => ?_)
 cases h.e
 simp only [*, go_sem, mA, mS]
 try simp only [*, go_sem]
 refine cr h (reredosref_In_ok G x28.Value 0 1073741824) (fun v33 h => ?_)
 refine oin h (fun hb34 hkhb34 h => ?_) (fun hb34 hkhb34 h => ?_)
 cases h.e
 simp only [*, go_sem, mA, mS]
 try simp only [*, go_sem]
 refine cr h (reredosref_In_ok G x28.Ask 0 1048576) (fun v35 h => ?_)
 refine oin h (fun hb36 hkhb36 h => ?_) (fun hb36 hkhb36 h => ?_)
 cases h.e
 simp only [*, go_sem, mA, mS]
 refine oin h (fun hb37 hkhb37 h => ?_) (fun hb37 hkhb37 h => ?_)
 refine oi h (fun hb38 h => ?_) (fun hb38 h => ?_)
 cases h.e
 simp only [*, go_sem, mA, mS]
 refine oi h (fun hb39 h => ?_) (fun hb39 h => ?_)
 cases h.e
 simp only [*, go_sem, mA, mS]
 try simp only [*, go_sem]
 refine jn0 h ([zP 1 0, zI 5 ((a24_1 : Nat) : Int), (81, .one (.p (.q 1 0 2))), zI 82 x28.Key, zB 83 true, zB 84 false, (87, .one (.p (.q 1 0 4))), zI 88 x28.Value, zB 89 true, zB 90 false, (93, .one (.p (.q 1 0 5))), zI 94 x28.Ask, zB 95 true, zB 96 false, (99, .one (.p (.q 1 0 3))), zB 100 false, zB 101 true, zB 102 true, (103, .one (.p (.q 1 0 4))), zI 104 x28.Value, zB 105 false, zB 106 false, (107, .one (.p (.q 1 0 5))), zI 108 x28.Ask, zB 109 false, zB 110 false, zB 111 false]) ([ox p0.bx, ox [zi x28.Txn.Site, zi x28.Txn.N, zi x28.Key, .d (.b false), zi x28.Value, zi x28.Ask]]) (fun k41 h => ?_) (fun h => ?_)
 try simp only [*, go_sem]
 refine lp1 (reredosref_StoreMay_L3 p0 a24_1 x28 k41) (fun a42_1 => [zP 1 0, zI 5 ((a24_1 : Nat) : Int), zP 6 1, zI 7 ((a42_1 : Nat) : Int), (81, .one (.p (.q 1 0 2))), zI 82 x28.Key, zB 83 true, zB 84 false, (87, .one (.p (.q 1 0 4))), zI 88 x28.Value, zB 89 true, zB 90 false, (93, .one (.p (.q 1 0 5))), zI 94 x28.Ask, zB 95 true, zB 96 false, (99, .one (.p (.q 1 0 3))), zB 100 false, zB 101 true, zB 102 true, (103, .one (.p (.q 1 0 4))), zI 104 x28.Value, zB 105 false, zB 106 false, (107, .one (.p (.q 1 0 5))), zI 108 x28.Ask, zB 109 false, zB 110 false, zB 111 false]) (fun a42_1 => [ox p0.bx, ox [zi x28.Txn.Site, zi x28.Txn.N, zi x28.Key, .d (.b false), zi x28.Value, zi x28.Ask]]) h [] [some 0, some 1] (fun n43 a42_1 h => ?_) (by intros; rw [reredosref_StoreMay_L3])
 rw [reredosref_StoreMay_L3] at h
 refine oi h (fun hb44 h => ?_) (fun hb44 h => ?_)
 have := of_decide_eq_true hb44
 refine obg h (fun x45 _ hkx45 h => ?_)
 refine oi h (fun hb46 h => ?_) (fun hb46 h => ?_)
 refine oi h (fun hb47 h => ?_) (fun hb47 h => ?_)
 try simp only [*, go_sem]
 cases h.e
 simp only [*, go_sem, mA, mS]
 try simp only [*, go_sem]
 refine oi h (fun hb48 h => ?_) (fun hb48 h => ?_)
 cases h.e
 simp only [*, go_sem, mA, mS]
 have := wrap_succ_max hkx45 hl1
 try simp only [*, go_sem]
 exact lc (a42_1 + 1) h.e [some 0, some 1]
 have := wrap_succ_max hkx45 hl1
 try simp only [*, go_sem]
 exact lc (a42_1 + 1) h.e [some 0, some 1]
 try simp only [*, go_sem]
 exact jc () h.e [some 0, some 1]
 have := wrap_succ_max hkx28 hl1
 try simp only [*, go_sem]
 exact lc (a24_1 + 1) h.e [some 0]
 try simp only [*, go_sem]
 refine jn0 h ([zP 1 0, zI 5 ((a24_1 : Nat) : Int), (81, .one (.p (.q 1 0 2))), zI 82 x28.Key, zB 83 true, zB 84 false, (87, .one (.p (.q 1 0 4))), zI 88 x28.Value, zB 89 true, zB 90 false, (93, .one (.p (.q 1 0 5))), zI 94 x28.Ask, zB 95 true, zB 96 false, (99, .one (.p (.q 1 0 3))), zB 100 true, zB 101 false, zB 102 false, zB 111 false]) ([ox p0.bx, ox [zi x28.Txn.Site, zi x28.Txn.N, zi x28.Key, .d (.b true), zi x28.Value, zi x28.Ask]]) (fun k53 h => ?_) (fun h => ?_)
 try simp only [*, go_sem]
 refine lp1 (reredosref_StoreMay_L4 p0 a24_1 x28 k53) (fun a54_1 => [zP 1 0, zI 5 ((a24_1 : Nat) : Int), zP 6 1, zI 7 ((a54_1 : Nat) : Int), (81, .one (.p (.q 1 0 2))), zI 82 x28.Key, zB 83 true, zB 84 false, (87, .one (.p (.q 1 0 4))), zI 88 x28.Value, zB 89 true, zB 90 false, (93, .one (.p (.q 1 0 5))), zI 94 x28.Ask, zB 95 true, zB 96 false, (99, .one (.p (.q 1 0 3))), zB 100 true, zB 101 false, zB 102 false, zB 111 false]) (fun a54_1 => [ox p0.bx, ox [zi x28.Txn.Site, zi x28.Txn.N, zi x28.Key, .d (.b true), zi x28.Value, zi x28.Ask]]) h [] [some 0, some 1] (fun n55 a54_1 h => ?_) (by intros; rw [reredosref_StoreMay_L4])
 rw [reredosref_StoreMay_L4] at h
 refine oi h (fun hb56 h => ?_) (fun hb56 h => ?_)
 have := of_decide_eq_true hb56
 refine obg h (fun x57 _ hkx57 h => ?_)
 refine oi h (fun hb58 h => ?_) (fun hb58 h => ?_)
 refine oi h (fun hb59 h => ?_) (fun hb59 h => ?_)
 try simp only [*, go_sem]
 cases h.e
 simp only [*, go_sem, mA, mS]
 try simp only [*, go_sem]
 cases h.e
 simp only [*, go_sem, mA, mS]
 have := wrap_succ_max hkx57 hl1
 try simp only [*, go_sem]
 exact lc (a54_1 + 1) h.e [some 0, some 1]
 try simp only [*, go_sem]
 exact jc () h.e [some 0, some 1]
 have := wrap_succ_max hkx28 hl1
 try simp only [*, go_sem]
 exact lc (a24_1 + 1) h.e [some 0]
 try simp only [*, go_sem]
 exact jc () h.e [some 0]
 try simp only [*, go_sem]
 refine jn0 h ([zP 1 0]) ([ox p0.bx]) (fun k63 h => ?_) (fun h => ?_)
 try simp only [*, go_sem]
 refine lp1 (reredosref_StoreMay_L5 p0 k63) (fun a64_1 => [zP 1 0, zI 9 ((a64_1 : Nat) : Int)]) (fun a64_1 => [ox p0.bx]) h [] [some 0] (fun n65 a64_1 h => ?_) (by intros; rw [reredosref_StoreMay_L5])
 rw [reredosref_StoreMay_L5] at h
 try simp only [*, go_sem]
 intro hl66
 refine oi h (fun hb67 h => ?_) (fun hb67 h => ?_)
 have := of_decide_eq_true hb67
 refine obg h (fun x68 _ hkx68 h => ?_)
 try simp only [*, go_sem]
 refine jn1 h (fun b69_1 => [zP 1 0, zI 9 ((a64_1 : Nat) : Int), zP 10 1, zB 11 b69_1]) (fun b69_1 => [ox p0.bx, ox x68.bx]) (fun k70 h => ?_) (fun b69_1 h => ?_)
 try simp only [*, go_sem]
 refine lp2 (reredosref_StoreMay_L6 p0 x68 k70) (fun a71_1 a71_2 => [zP 1 0, zI 9 ((a64_1 : Nat) : Int), zP 10 1, zB 11 a71_1, zI 12 ((a71_2 : Nat) : Int)]) (fun a71_1 a71_2 => [ox p0.bx, ox x68.bx]) h [] [some 0, some 1] (fun n72 a71_1 a71_2 h => ?_) (by intros; rw [reredosref_StoreMay_L6])
 rw [reredosref_StoreMay_L6] at h
 try simp only [*, go_sem]
 intro hl73
 refine oi h (fun hb74 h => ?_) (fun hb74 h => ?_)
 have hkhb74 := of_decide_eq_true hb74
 refine oi h (fun hb75 h => ?_) (fun hb75 h => ?_)
 have := wrap_succ_max hkhb74 hl1
 try simp only [*, go_sem]
 exact lc (true, a71_2 + 1) h.e [some 0, some 1]
 refine obg h (fun x77 _ hkx77 h => ?_)
 have := wrap_succ_max hkx77 hl1
 try simp only [*, go_sem]
 exact lc ((x77.Txn.Site == x68.Txn.Site) && (x77.Txn.N == x68.Txn.N), a71_2 + 1) h.e [some 0, some 1]
 try simp only [*, go_sem]
 exact jc (a71_1) h.e [some 0, some 1]
 try simp only [*, go_sem]
 refine cr h (reredosref_plainTxn_ok G x68.Txn) (fun v79 h => ?_)
 refine oin h (fun hb80 hkhb80 h => ?_) (fun hb80 hkhb80 h => ?_)
 cases h.e
 simp only [*, go_sem, mA, mS]
 try simp only [*, go_sem]
 refine cr h (reredosref_In_ok G x68.Age 0 1048576) (fun v81 h => ?_)
 refine oin h (fun hb82 hkhb82 h => ?_) (fun hb82 hkhb82 h => ?_)
 cases h.e
 simp only [*, go_sem, mA, mS]
 refine oin h (fun hb83 hkhb83 h => ?_) (fun hb83 hkhb83 h => ?_)
 cases h.e
 simp only [*, go_sem, mA, mS]
 try simp only [*, go_sem]
 refine cr h (reredosref_doubtOf_ok G p0 x68.Txn) (fun v84 h => ?_)
 refine oi h (fun hb85 h => ?_) (fun hb85 h => ?_)
 cases h.e
 simp only [*, go_sem, mA, mS]
 try simp only [*, go_sem]
 refine cr h (reredosref_isOver_ok G p0 x68.Txn) (fun v86 h => ?_)
 refine oi h (fun hb87 h => ?_) (fun hb87 h => ?_)
 cases h.e
 simp only [*, go_sem, mA, mS]
 have := wrap_succ_max hkx68 hl66
 try simp only [*, go_sem]
 exact lc (a64_1 + 1) h.e [some 0]
 try simp only [*, go_sem]
 exact jc () h.e [some 0]
 try simp only [*, go_sem]
 refine jn0 h ([]) ([]) (fun k90 h => ?_) (fun h => ?_)
 try simp only [*, go_sem]
 refine lp1 (reredosref_StoreMay_L7 p0 k90) (fun a91_1 => [zP 1 0, zI 13 ((a91_1 : Nat) : Int)]) (fun a91_1 => [ox p0.bx]) h [] [some 0] (fun n92 a91_1 h => ?_) (by intros; rw [reredosref_StoreMay_L7])
 rw [reredosref_StoreMay_L7] at h
 try simp only [*, go_sem]
 intro hl93
 refine oi h (fun hb94 h => ?_) (fun hb94 h => ?_)
 have := of_decide_eq_true hb94
 try simp only [*, go_sem]
 refine jn0 h ([zP 1 0, zI 13 ((a91_1 : Nat) : Int)]) ([ox p0.bx]) (fun k96 h => ?_) (fun h => ?_)
 try simp only [*, go_sem]
 refine lp1 (reredosref_StoreMay_L8 p0 a91_1 k96) (fun a97_1 => [zP 1 0, zI 13 ((a91_1 : Nat) : Int), zI 14 ((a97_1 : Nat) : Int)]) (fun a97_1 => [ox p0.bx]) h [] [some 0] (fun n98 a97_1 h => ?_) (by intros; rw [reredosref_StoreMay_L8])
 rw [reredosref_StoreMay_L8] at h
 refine oi h (fun hb99 h => ?_) (fun hb99 h => ?_)
 have := of_decide_eq_true hb99
 refine obg h (fun x100 _ hkx100 h => ?_)
 refine obg h (fun x101 _ _ h => ?_)
 refine oi h (fun hb102 h => ?_) (fun hb102 h => ?_)
 try simp only [*, go_sem]
 cases h.e
 simp only [*, go_sem, mA, mS]
 try simp only [*, go_sem]
 have := wrap_succ_max hkx100 hl93
 try simp only [*, go_sem]
 exact lc (a97_1 + 1) h.e [some 0]
 try simp only [*, go_sem]
 exact jc () h.e [some 0]
 refine obg h (fun x104 _ hkx104 h => ?_)
 try simp only [*, go_sem]
 refine cr h (reredosref_plainTxn_ok G x104) (fun v105 h => ?_)
 refine oin h (fun hb106 hkhb106 h => ?_) (fun hb106 hkhb106 h => ?_)
 cases h.e
 simp only [*, go_sem, mA, mS]
 have := wrap_succ_max hkx104 hl93
 try simp only [*, go_sem]
 exact lc (a91_1 + 1) h.e [some 0]
 try simp only [*, go_sem]
 exact jc () h.e []
 cases h.e
 simp only [*, go_sem, mA, mS]
def reredosref_siteFault_L1 (p3 : List Store) (k11 : Option (Int)) : Nat → Nat → Option (Int)
 | 0, _ => none
 | n13 + 1, a12_1 => (if (decide (a12_1 < p3.length)) = true then (Option.bind (p3[a12_1]?) fun x16 => (Option.bind (reredosref_StoreMay x16) fun v17 => (if (!v17) = true then (some 9) else (reredosref_siteFault_L1 p3 k11 n13 (a12_1 + 1))))) else k11)
def reredosref_siteFault (p0 : Config) (p1 : Int) (p2 : Int) (p3 : List Store) : Option (Int) := (Option.bind (reredosref_ConfigFault p0) fun v1 => (if (v1 != 0) = true then (some v1) else (Option.bind (reredosref_labelMay p0 p1) fun v3 => (if (!v3) = true then (some 6) else (Option.bind (reredosref_In p2 0 (IntKind.i64.wrap (p0.Sites - 1))) fun v5 => (if (!v5) = true then (some 2) else (if (((p3.length : Nat) : Int) != ((p0.Labels.length : Nat) : Int)) = true then (some 9) else (withK (some 0) fun k11 => (reredosref_siteFault_L1 p3 k11 (p3.length + 1) 0)))))))))
def F31 : VFn := ⟨44, (.seq (.reg [vo 4 (.boxk 3 (.t 0)), mi 8 0]) (.seq (.reg [vl 11 3 4, vo 12 (.call 70 [(.t 11)]), vm 9 12]) (.seq (.seq (.reg [vm 13 9, bk 14 .neq 13 0]) (.cond (.t 14) (.seq (.reg [vm 15 9, vm 8 15]) .ret) .skip)) (.seq (.seq (.reg [vl 16 3 4, vm 17 1, vo 18 (.call 91 [(.t 16), (.t 17)]), nt 19 18]) (.cond (.t 19) (.seq (.reg [mi 8 6]) .ret) .skip)) (.seq (.seq (.reg [vm 20 2, vf 21 0 4, vs 22 21, bk 23 .sub 22 1, vo 24 (.call 92 [(.t 20), (ci 0), (.t 23)]), nt 25 24]) (.cond (.t 25) (.seq (.reg [mi 8 2]) .ret) .skip)) (.seq (.seq (.reg [vm 26 3, ln 27 26, vf 28 1 4, vs 29 28, ln 30 29, bt 31 .neq 27 30]) (.cond (.t 31) (.seq (.reg [mi 8 9]) .ret) .skip)) (.seq (.seq (.reg [mi 10 0]) (.wk (.block 0 (.loop (.seq (.seq (.reg [vm 32 10, vm 33 3, ln 34 33, bt 35 .lss 32 34]) (.cond (.t 35) .skip (.exit 0))) (.seq (.block 1 (.seq (.reg [vm 38 3, vm 39 10, xa 40 4 38 39, vl 41 4 40, vo 42 (.call 93 [(.t 41)]), nt 43 42]) (.cond (.t 43) (.seq (.reg [mi 8 9]) .ret) .skip))) (.reg [vm 36 10, bk 37 .add 36 1, vm 10 37]))))))) (.seq (.reg [mi 8 0]) .ret)))))))), [.t 8]⟩
theorem low31 : lowF Tryd.prog 31 = some F31.strip := by kernel_rfl
theorem fok31 : fOk Tryd.prog 31 = true := by kernel_rfl
theorem reredosref_siteFault_ok (p0 : Config) (p1 : Int) (p2 : Int) (p3 : List Store) (r : Int) (h : reredosref_siteFault p0 p1 p2 p3 = some r) : FnRO Tryd.prog G 31 [.agg p0.bx, .one (.d (.i .i64 p1)), .one (.d (.i .i64 p2)), .one (.d (.l 4 (p3.map Store.enc)))] (fun rs => rs = [.one (.i .i64 r)]) := by
 refine FnRO.of' low31 fok31 (by simp [F31]) ?_
 rw [reredosref_siteFault] at h
 replace h := Hd.mk h
 simp only [F31, go_sem]
 try simp only [*, go_sem]
 refine cr h (reredosref_ConfigFault_ok G p0) (fun v1 h => ?_)
 refine oi h (fun hb2 h => ?_) (fun hb2 h => ?_)
 cases h.e
 simp only [*, go_sem, mA, mS]
 try simp only [*, go_sem]
 refine cr h (reredosref_labelMay_ok G p0 p1) (fun v3 h => ?_)
 refine oin h (fun hb4 hkhb4 h => ?_) (fun hb4 hkhb4 h => ?_)
 cases h.e
 simp only [*, go_sem, mA, mS]
 try simp only [*, go_sem]
 refine cr h (reredosref_In_ok G p2 0 (IntKind.i64.wrap (p0.Sites - 1))) (fun v5 h => ?_)
 refine oin h (fun hb6 hkhb6 h => ?_) (fun hb6 hkhb6 h => ?_)
 cases h.e
 simp only [*, go_sem, mA, mS]
 try simp only [*, go_sem]
 intro hl7
 try simp only [*, go_sem]
 intro hl8
 refine oi h (fun hb9 h => ?_) (fun hb9 h => ?_)
 cases h.e
 simp only [*, go_sem, mA, mS]
 try simp only [*, go_sem]
 refine jn0 h ([]) ([]) (fun k11 h => ?_) (fun h => ?_)
 try simp only [*, go_sem]
 refine lp1 (reredosref_siteFault_L1 p3 k11) (fun a12_1 => [zL 3 4 (p3.map Store.enc), zI 10 ((a12_1 : Nat) : Int)]) (fun a12_1 => []) h [] [] (fun n13 a12_1 h => ?_) (by intros; rw [reredosref_siteFault_L1])
 rw [reredosref_siteFault_L1] at h
 try simp only [*, go_sem]
 intro hl14
 refine oi h (fun hb15 h => ?_) (fun hb15 h => ?_)
 have := of_decide_eq_true hb15
 refine obg h (fun x16 _ hkx16 h => ?_)
 try simp only [*, go_sem]
 refine cr h (reredosref_StoreMay_ok G x16) (fun v17 h => ?_)
 refine oin h (fun hb18 hkhb18 h => ?_) (fun hb18 hkhb18 h => ?_)
 cases h.e
 simp only [*, go_sem, mA, mS]
 have := wrap_succ_max hkx16 hl7
 try simp only [*, go_sem]
 exact lc (a12_1 + 1) h.e []
 try simp only [*, go_sem]
 exact jc () h.e []
 cases h.e
 simp only [*, go_sem, mA, mS]
def reredosref_txnMay (p0 : Config) (p1 : Txn) : Option (Bool) := (withK (fun (b1_1 : Bool) => (some b1_1)) fun k2 => (Option.bind (reredosref_In p1.Site 0 (IntKind.i64.wrap (p0.Sites - 1))) fun v3 => (if v3 = true then (Option.bind (reredosref_In p1.N 1 1048576) fun v5 => (k2 v5)) else (k2 false))))
def F94 : VFn := ⟨16, (.seq (.reg [vo 2 (.box 3 (.t 0)), vo 3 (.boxk 2 (.t 1)), vo 4 (.mv (cb false))]) (.seq (.wk (.reg [vf 5 0 3, vs 6 5, vf 7 0 2, vs 8 7, bk 9 .sub 8 1, vo 10 (.call 92 [(.t 6), (ci 0), (.t 9)]), vm 11 10, gt 12 11 (.fa 1 (.t 3)), gt 13 11 (.ld false 1 (.t 12)), gt 14 11 (.call 92 [(.t 13), (ci 1), (ci 1048576)]), vo 15 (.pick (.t 11) (.t 14) (cb false)), vm 4 15])) .ret)), [.t 4]⟩
theorem low94 : lowF Tryd.prog 94 = some F94.strip := by kernel_rfl
theorem fok94 : fOk Tryd.prog 94 = true := by kernel_rfl
theorem reredosref_txnMay_ok (p0 : Config) (p1 : Txn) (r : Bool) (h : reredosref_txnMay p0 p1 = some r) : FnRO Tryd.prog G 94 [.agg p0.bx, .agg p1.bx] (fun rs => rs = [.one (.b r)]) := by
 refine FnRO.of' low94 fok94 (by simp [F94]) ?_
 rw [reredosref_txnMay] at h
 replace h := Hd.mk h
 simp only [F94, go_sem]
 try simp only [*, go_sem]
 refine jn1 h (fun b1_1 => [zB 4 b1_1]) (fun b1_1 => []) (fun k2 h => ?_) (fun b1_1 h => ?_)
 try simp only [*, go_sem]
 refine cr h (reredosref_In_ok G p1.Site 0 (IntKind.i64.wrap (p0.Sites - 1))) (fun v3 h => ?_)
 refine oi h (fun hb4 h => ?_) (fun hb4 h => ?_)
 try simp only [*, go_sem]
 refine cr h (reredosref_In_ok G p1.N 1 1048576) (fun v5 h => ?_)
 try simp only [*, go_sem]
 exact jc (v5) h.e []
 try simp only [*, go_sem]
 exact jc (false) h.e []
 cases h.e
 simp only [*, go_sem, mA, mS]
end Go.V.Dec
