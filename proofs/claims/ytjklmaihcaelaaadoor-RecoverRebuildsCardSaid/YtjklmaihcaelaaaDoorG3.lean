/- What Go's functions come to, as plain functions: part 3; no condition. -/
import Derived.Test.YtjklmaihcaelaaaDoorG2
set_option linter.unusedVariables false
set_option linter.unusedSimpArgs false
namespace Go.V.Dec
open Go Go.Proofs
set_option maxRecDepth 100000
set_option maxHeartbeats 4000000
variable (G : Nat → Option (List D))
def ui (p0 : Store) (p1 : Txn) (p2 : Int) (p3 : Int) (p4 : Int) : Option (Store × Int) := (Option.bind (xv p0 p1 p2) fun v1 => (if (v1 == 0) = true then (Option.bind (xb p3 0 1073741824) fun v3 => (if (!v3) = true then (withK (some ((Store.mk [] [] [] []), 2)) fun k6 => k6) else (Option.bind (xb p4 0 1048576) fun v7 => (withK (fun (b8_1 : Int) => (if (b8_1 != 0) = true then (some ((Store.mk [] [] [] []), b8_1)) else (Option.bind (uy p0 p1 p2) fun v12 => (Option.bind (uq p0 p1 p2) fun v13 => (Option.bind (zr p0 p1) fun v14 => (if v14 = true then (some ((Store.mk [] [] [] []), 13)) else (if (decide (v13 ≥ 0)) = true then (if 0 ≤ v13 then (Option.bind (p0.Locks[v13.toNat]?) fun x17 => (if (decide (x17.Ask > p4)) = true then (some ((Store.mk [] [] [] []), 13)) else (if (decide (v12.1 > 0)) = true then (some ((Store.mk [] [] [] []), 11)) else (if (decide (v13 < 0)) = true then (if (decide (((p0.Locks.length : Nat) : Int) ≥ 24)) = true then (some ((Store.mk [] [] [] []), 8)) else (Option.bind (ve p0 p2) fun v24 => (if (decide (v24.Version ≥ 1048576)) = true then (some ((Store.mk [] [] [] []), 8)) else (Option.bind (xe p0) fun v26 => (withK (Option.bind (yc p0 p1) fun v33 => (withK (fun (b34_1 : List Doubt) => (some ((Store.mk v26.Items (v26.Locks ++ [(Lock.mk p1 p2 true p3 p4)]) b34_1 v26.Over), 0))) fun k35 => (if (decide (v33 < 0)) = true then (if fits 24 (v26.Doubts.length + 1) then (k35 (v26.Doubts ++ [(Doubt.mk p1 0)])) else none) else (k35 v26.Doubts)))) fun k28 => (if fits 48 (v26.Locks.length + 1) then k28 else none)))))) else (Option.bind (ve p0 p2) fun v38 => (if (decide (v38.Version ≥ 1048576)) = true then (some ((Store.mk [] [] [] []), 8)) else (Option.bind (xe p0) fun v40 => (withK (if 0 ≤ v13 then (Option.bind (v40.Locks[v13.toNat]?) fun x43 => (Option.bind (yc p0 p1) fun v45 => (withK (fun (b46_1 : List Doubt) => (some ((Store.mk v40.Items (v40.Locks.set v13.toNat (Lock.mk p1 p2 true p3 p4)) b46_1 v40.Over), 0))) fun k47 => (if (decide (v45 < 0)) = true then (if fits 24 (v40.Doubts.length + 1) then (k47 (v40.Doubts ++ [(Doubt.mk p1 0)])) else none) else (k47 v40.Doubts))))) else none) fun k42 => k42)))))))) else none) else (if (decide (v12.1 > 0)) = true then (some ((Store.mk [] [] [] []), 11)) else (if (decide (v13 < 0)) = true then (if (decide (((p0.Locks.length : Nat) : Int) ≥ 24)) = true then (some ((Store.mk [] [] [] []), 8)) else (Option.bind (ve p0 p2) fun v54 => (if (decide (v54.Version ≥ 1048576)) = true then (some ((Store.mk [] [] [] []), 8)) else (Option.bind (xe p0) fun v56 => (withK (Option.bind (yc p0 p1) fun v63 => (withK (fun (b64_1 : List Doubt) => (some ((Store.mk v56.Items (v56.Locks ++ [(Lock.mk p1 p2 true p3 p4)]) b64_1 v56.Over), 0))) fun k65 => (if (decide (v63 < 0)) = true then (if fits 24 (v56.Doubts.length + 1) then (k65 (v56.Doubts ++ [(Doubt.mk p1 0)])) else none) else (k65 v56.Doubts)))) fun k58 => (if fits 48 (v56.Locks.length + 1) then k58 else none)))))) else (Option.bind (ve p0 p2) fun v68 => (if (decide (v68.Version ≥ 1048576)) = true then (some ((Store.mk [] [] [] []), 8)) else (Option.bind (xe p0) fun v70 => (withK (if 0 ≤ v13 then (Option.bind (v70.Locks[v13.toNat]?) fun x73 => (Option.bind (yc p0 p1) fun v75 => (withK (fun (b76_1 : List Doubt) => (some ((Store.mk v70.Items (v70.Locks.set v13.toNat (Lock.mk p1 p2 true p3 p4)) b76_1 v70.Over), 0))) fun k77 => (if (decide (v75 < 0)) = true then (if fits 24 (v70.Doubts.length + 1) then (k77 (v70.Doubts ++ [(Doubt.mk p1 0)])) else none) else (k77 v70.Doubts))))) else none) fun k72 => k72))))))))))))) fun k9 => (if (!v7) = true then (k9 2) else (k9 v1)))))) else (withK (if (v1 != 0) = true then (some ((Store.mk [] [] [] []), v1)) else (Option.bind (uy p0 p1 p2) fun v83 => (Option.bind (uq p0 p1 p2) fun v84 => (Option.bind (zr p0 p1) fun v85 => (if v85 = true then (some ((Store.mk [] [] [] []), 13)) else (if (decide (v84 ≥ 0)) = true then (if 0 ≤ v84 then (Option.bind (p0.Locks[v84.toNat]?) fun x88 => (if (decide (x88.Ask > p4)) = true then (some ((Store.mk [] [] [] []), 13)) else (if (decide (v83.1 > 0)) = true then (some ((Store.mk [] [] [] []), 11)) else (if (decide (v84 < 0)) = true then (if (decide (((p0.Locks.length : Nat) : Int) ≥ 24)) = true then (some ((Store.mk [] [] [] []), 8)) else (Option.bind (ve p0 p2) fun v95 => (if (decide (v95.Version ≥ 1048576)) = true then (some ((Store.mk [] [] [] []), 8)) else (Option.bind (xe p0) fun v97 => (withK (Option.bind (yc p0 p1) fun v104 => (withK (fun (b105_1 : List Doubt) => (some ((Store.mk v97.Items (v97.Locks ++ [(Lock.mk p1 p2 true p3 p4)]) b105_1 v97.Over), 0))) fun k106 => (if (decide (v104 < 0)) = true then (if fits 24 (v97.Doubts.length + 1) then (k106 (v97.Doubts ++ [(Doubt.mk p1 0)])) else none) else (k106 v97.Doubts)))) fun k99 => (if fits 48 (v97.Locks.length + 1) then k99 else none)))))) else (Option.bind (ve p0 p2) fun v109 => (if (decide (v109.Version ≥ 1048576)) = true then (some ((Store.mk [] [] [] []), 8)) else (Option.bind (xe p0) fun v111 => (withK (if 0 ≤ v84 then (Option.bind (v111.Locks[v84.toNat]?) fun x114 => (Option.bind (yc p0 p1) fun v116 => (withK (fun (b117_1 : List Doubt) => (some ((Store.mk v111.Items (v111.Locks.set v84.toNat (Lock.mk p1 p2 true p3 p4)) b117_1 v111.Over), 0))) fun k118 => (if (decide (v116 < 0)) = true then (if fits 24 (v111.Doubts.length + 1) then (k118 (v111.Doubts ++ [(Doubt.mk p1 0)])) else none) else (k118 v111.Doubts))))) else none) fun k113 => k113)))))))) else none) else (if (decide (v83.1 > 0)) = true then (some ((Store.mk [] [] [] []), 11)) else (if (decide (v84 < 0)) = true then (if (decide (((p0.Locks.length : Nat) : Int) ≥ 24)) = true then (some ((Store.mk [] [] [] []), 8)) else (Option.bind (ve p0 p2) fun v125 => (if (decide (v125.Version ≥ 1048576)) = true then (some ((Store.mk [] [] [] []), 8)) else (Option.bind (xe p0) fun v127 => (withK (Option.bind (yc p0 p1) fun v134 => (withK (fun (b135_1 : List Doubt) => (some ((Store.mk v127.Items (v127.Locks ++ [(Lock.mk p1 p2 true p3 p4)]) b135_1 v127.Over), 0))) fun k136 => (if (decide (v134 < 0)) = true then (if fits 24 (v127.Doubts.length + 1) then (k136 (v127.Doubts ++ [(Doubt.mk p1 0)])) else none) else (k136 v127.Doubts)))) fun k129 => (if fits 48 (v127.Locks.length + 1) then k129 else none)))))) else (Option.bind (ve p0 p2) fun v139 => (if (decide (v139.Version ≥ 1048576)) = true then (some ((Store.mk [] [] [] []), 8)) else (Option.bind (xe p0) fun v141 => (withK (if 0 ≤ v84 then (Option.bind (v141.Locks[v84.toNat]?) fun x144 => (Option.bind (yc p0 p1) fun v146 => (withK (fun (b147_1 : List Doubt) => (some ((Store.mk v141.Items (v141.Locks.set v84.toNat (Lock.mk p1 p2 true p3 p4)) b147_1 v141.Over), 0))) fun k148 => (if (decide (v146 < 0)) = true then (if fits 24 (v141.Doubts.length + 1) then (k148 (v141.Doubts ++ [(Doubt.mk p1 0)])) else none) else (k148 v141.Doubts))))) else none) fun k143 => k143)))))))))))) fun k81 => k81)))
def F31 : VFn := ⟨119, (.seq (.reg [vo 5 (.boxk 4 (.t 0)), vo 6 (.boxk 2 (.t 1)), vo 10 (.alloc [(.nl 3), (.nl 6), (.nl 3), (.nl 2)]), mi 11 0]) (.seq (.reg [vl 17 4 5, vl 18 2 6, vm 19 2, vo 20 (.call 53 [(.t 17), (.t 18), (.t 19)]), vm 12 20]) (.seq (.seq (.reg [vm 21 12, bk 22 .eql 21 0, vm 23 22, gt 24 23 (.mv (.t 3)), gt 25 23 (.call 29 [(.t 24), (ci 0), (ci 1073741824)]), gt 26 23 (.un .not (.t 25)), gt 27 23 (.mv (.t 26)), gf 28 27 (.mv (.t 4)), gf 29 27 (.call 29 [(.t 28), (ci 0), (ci 1048576)]), gf 30 27 (.un .not (.t 29)), gt 31 23 (.pick (.t 27) (cb true) (.t 30)), vo 32 (.pick (.t 23) (.t 31) (cb false))]) (.wk (.cond (.t 32) (.reg [mi 12 2]) .skip))) (.seq (.seq (.reg [vm 33 12, bk 34 .neq 33 0]) (.cond (.t 34) (.seq (.reg [vo 35 (.build [(.nl 3), (.nl 6), (.nl 3), (.nl 2)] []), vm 36 12, vu (.st 4 (.t 10) (.t 35)), vm 11 36]) .ret) .skip)) (.seq (.reg [vl 38 4 5, vl 39 2 6, vm 40 2, vo 41 (.call 54 [(.t 38), (.t 39), (.t 40)]), vm 37 41, et 42 37 0, et 43 37 1, vm 13 42, vm 14 43]) (.seq (.reg [vl 44 4 5, vl 45 2 6, vm 46 2, vo 47 (.call 55 [(.t 44), (.t 45), (.t 46)]), vm 15 47]) (.seq (.seq (.reg [vl 48 4 5, vl 49 2 6, vo 50 (.call 56 [(.t 48), (.t 49)]), vm 51 50, gf 52 51 (.mv (.t 15)), gf 53 51 (.bin .i .geq (.t 52) (ci 0)), gf 54 51 (.mv (.t 53)), gt 55 54 (.fa 1 (.t 5)), gt 56 54 (.ld false 1 (.t 55)), gt 57 54 (.mv (.t 15)), gt 58 54 (.ia 6 (.t 56) (.t 57)), gt 59 54 (.fa 5 (.t 58)), gt 60 54 (.ld false 1 (.t 59)), gt 61 54 (.mv (.t 4)), gt 62 54 (.bin .i .gtr (.t 60) (.t 61)), gf 63 51 (.pick (.t 54) (.t 62) (cb false)), vo 64 (.pick (.t 51) (cb true) (.t 63))]) (.cond (.t 64) (.seq (.reg [vo 65 (.build [(.nl 3), (.nl 6), (.nl 3), (.nl 2)] []), vu (.st 4 (.t 10) (.t 65)), mi 11 13]) .ret) .skip)) (.seq (.seq (.reg [vm 66 13, bk 67 .gtr 66 0]) (.cond (.t 67) (.seq (.reg [vo 68 (.build [(.nl 3), (.nl 6), (.nl 3), (.nl 2)] []), vu (.st 4 (.t 10) (.t 68)), mi 11 11]) .ret) .skip)) (.seq (.seq (.reg [vm 69 15, bk 70 .lss 69 0, vm 71 70, gt 72 71 (.fa 1 (.t 5)), gt 73 71 (.ld false 1 (.t 72)), gt 74 71 (.len (.t 73)), gt 75 71 (.bin .i .geq (.t 74) (ci 24)), vo 76 (.pick (.t 71) (.t 75) (cb false)), vm 77 76, gf 78 77 (.ld true 4 (.t 5)), gf 79 77 (.mv (.t 2)), gf 80 77 (.call 57 [(.t 78), (.t 79)]), gf 81 77 (.fl false 2 1 (.t 80)), gf 82 77 (.bin .i .geq (.t 81) (ci 1048576)), vo 83 (.pick (.t 77) (cb true) (.t 82))]) (.cond (.t 83) (.seq (.reg [vo 84 (.build [(.nl 3), (.nl 6), (.nl 3), (.nl 2)] []), vu (.st 4 (.t 10) (.t 84)), mi 11 8]) .ret) .skip)) (.seq (.reg [vl 85 4 5, vo 86 (.call 58 [(.t 85)]), vo 16 (.alloc [(.nl 3), (.nl 6), (.nl 3), (.nl 2)]), vu (.st 4 (.t 16) (.t 86))]) (.seq (.seq (.reg [vm 87 15, bk 88 .lss 87 0]) (.wk (.cond (.t 88) (.seq (.reg [vf 89 1 16, vs 90 89, ln 91 90, vm 15 91]) (.reg [vf 92 1 16, vs 93 92, vo 94 (.build [(zi 0), (zi 0), (zi 0), (.d (.b false)), (zi 0), (zi 0)] []), vo 95 (.bsl 6 1 [(zi 0), (zi 0), (zi 0), (.d (.b false)), (zi 0), (zi 0)] [(0, (.t 94))]), vo 96 (.app 6 48 (.t 93) (.t 95)), vf 97 1 16, vu (.st 1 (.t 97) (.t 96))])) .skip))) (.seq (.reg [vf 98 1 16, vs 99 98, vm 100 15, vl 101 2 6, vm 102 2, vm 103 3, vm 104 4, vo 105 (.build [(zi 0), (zi 0), (zi 0), (.d (.b false)), (zi 0), (zi 0)] [(0, 2, (.t 101)), (2, 1, (.t 102)), (3, 1, (cb true)), (4, 1, (.t 103)), (5, 1, (.t 104))]), xa 106 6 99 100, vu (.st 6 (.t 106) (.t 105))]) (.seq (.seq (.reg [vl 107 4 5, vl 108 2 6, vo 109 (.call 59 [(.t 107), (.t 108)]), bk 110 .lss 109 0]) (.wk (.cond (.t 110) (.reg [vf 111 2 16, vs 112 111, vl 113 2 6, vo 114 (.build [(zi 0), (zi 0), (zi 0)] [(0, 2, (.t 113))]), vo 115 (.bsl 3 1 [(zi 0), (zi 0), (zi 0)] [(0, (.t 114))]), vo 116 (.app 3 24 (.t 112) (.t 115)), vf 117 2 16, vu (.st 1 (.t 117) (.t 116))]) .skip))) (.seq (.reg [vl 118 4 16, vu (.st 4 (.t 10) (.t 118)), mi 11 0]) .ret)))))))))))))), [.cell 10 true 4, .t 11]⟩
theorem low31 : lowF Tryd.prog 31 = some F31.strip := by kernel_rfl
theorem fok31 : fOk Tryd.prog 31 = true := by kernel_rfl
theorem z1g (p0 : Store) (p1 : Txn) (p2 : Int) (p3 : Int) (p4 : Int) (r : Store × Int) (h : ui p0 p1 p2 p3 p4 = some r) : FnRO Tryd.prog G 31 [.agg p0.bx, .agg p1.bx, .one (.d (.i .i64 p2)), .one (.d (.i .i64 p3)), .one (.d (.i .i64 p4))] (fun rs => rs = [.agg (r.1.encO), .one (.i .i64 r.2)]) := by
 refine FnRO.of' low31 fok31 (by simp [F31]) ?_
 rw [ui] at h
 replace h := Hd.mk h
 simp only [F31, go_sem]
 try simp only [*, go_sem]
 refine cr h (z0m G p0 p1 p2) (fun v1 h => ?_)
 refine oi h (fun hb2 h => ?_) (fun hb2 h => ?_)
 try simp only [*, go_sem]
 refine cr h (zb G p3 0 1073741824) (fun v3 h => ?_)
 refine oin h (fun hb4 hkhb4 h => ?_) (fun hb4 hkhb4 h => ?_)
 try simp only [*, go_sem]
 refine jn0 h ([zI 2 p2, zI 3 p3, zI 4 p4, zK 5 (Store.enc p0), zK 6 (Txn.enc p1), zP 10 0, zI 12 2]) ([ox [.nl 3, .nl 6, .nl 3, .nl 2]]) (fun k6 h => ?_) (fun h => ?_)
 try simp only [*, go_sem]
 exact jc () h.e [some 0]
 cases h.e
 simp only [*, go_sem, mA, mS]
 try simp only [*, go_sem]
 refine cr h (zb G p4 0 1048576) (fun v7 h => ?_)
 try simp only [*, go_sem]
 refine jn1 h (fun b8_1 => [zI 2 p2, zI 3 p3, zI 4 p4, zK 5 (Store.enc p0), zK 6 (Txn.enc p1), zP 10 0, zI 12 b8_1]) (fun b8_1 => [ox [.nl 3, .nl 6, .nl 3, .nl 2]]) (fun k9 h => ?_) (fun b8_1 h => ?_)
 refine oin h (fun hb10 hkhb10 h => ?_) (fun hb10 hkhb10 h => ?_)
 try simp only [*, go_sem]
 exact jc (2) h.e [some 0]
 try simp only [*, go_sem]
 exact jc (v1) h.e [some 0]
 refine oi h (fun hb11 h => ?_) (fun hb11 h => ?_)
 cases h.e
 simp only [*, go_sem, mA, mS]
 try simp only [*, go_sem]
 refine cr h (w0q G p0 p1 p2) (fun v12 h => ?_)
 try simp only [*, go_sem]
 refine cr h (v0q G p0 p1 p2) (fun v13 h => ?_)
 try simp only [*, go_sem]
 refine cr h (y0e G p0 p1) (fun v14 h => ?_)
 refine oi h (fun hb15 h => ?_) (fun hb15 h => ?_)
 cases h.e
 simp only [*, go_sem, mA, mS]
 refine oi h (fun hb16 h => ?_) (fun hb16 h => ?_)
 refine obn h (fun x17 _ _ _ _ h => ?_)
 refine oi h (fun hb19 h => ?_) (fun hb19 h => ?_)
 cases h.e
 simp only [*, go_sem, mA, mS]
 refine oi h (fun hb20 h => ?_) (fun hb20 h => ?_)
 cases h.e
 simp only [*, go_sem, mA, mS]
 refine oi h (fun hb21 h => ?_) (fun hb21 h => ?_)
 have := of_decide_eq_true hb21
 try simp only [*, go_sem]
 intro hl22
 refine oi h (fun hb23 h => ?_) (fun hb23 h => ?_)
 cases h.e
 simp only [*, go_sem, mA, mS]
 try simp only [*, go_sem]
 refine cr h (zn G p0 p2) (fun v24 h => ?_)
 refine oi h (fun hb25 h => ?_) (fun hb25 h => ?_)
 cases h.e
 simp only [*, go_sem, mA, mS]
 try simp only [*, go_sem]
 refine cr h (xh G p0) (fun v26 h => ?_)
 try simp only [*, go_sem]
 refine jn0 h ([zI 2 p2, zI 3 p3, zI 4 p4, zK 5 (Store.enc p0), zK 6 (Txn.enc p1), zP 10 0, zI 15 ((v26.Locks.length : Nat) : Int), zP 16 1]) ([ox [.nl 3, .nl 6, .nl 3, .nl 2], ox [.r 2 0 v26.Items.length, .r 3 0 (v26.Locks.length + 1), .r 4 0 v26.Doubts.length, .r 5 0 v26.Over.length], oa 3 (v26.Items.map Item.enc), oa 6 ((v26.Locks ++ [(Lock.mk (Txn.mk 0 0) 0 false 0 0)]).map Lock.enc), oa 3 (v26.Doubts.map Doubt.enc), oa 2 (v26.Over.map Txn.enc)]) (fun k28 h => ?_) (fun h => ?_)
 try simp only [*, go_sem]
 intro hl29
 refine ck h (fun _ h => ?_)
 try simp only [*, go_sem]
 exact jc () h.e [some 0, some 5, some 1, some 7, some 3, some 4]
 have : (v26.Locks ++ [(Lock.mk (Txn.mk 0 0) 0 false 0 0)])[v26.Locks.length]? = some (Lock.mk (Txn.mk 0 0) 0 false 0 0) := List.getElem?_concat_length
 have : v26.Locks.length < v26.Locks.length + 1 := Nat.lt_succ_self _
 try simp only [*, go_sem]
 refine cr h (vh G p0 p1) (fun v33 h => ?_)
 try simp only [*, go_sem]
 refine jn1 h (fun b34_1 => [zP 10 0, zP 16 1]) (fun b34_1 => [ox [.nl 3, .nl 6, .nl 3, .nl 2], ox [.r 2 0 v26.Items.length, .r 3 0 (v26.Locks.length + 1), .r 4 0 b34_1.length, .r 5 0 v26.Over.length], oa 3 (v26.Items.map Item.enc), oa 6 ((v26.Locks ++ [(Lock.mk p1 p2 true p3 p4)]).map Lock.enc), oa 3 (b34_1.map Doubt.enc), oa 2 (v26.Over.map Txn.enc)]) (fun k35 h => ?_) (fun b34_1 h => ?_)
 refine oi h (fun hb36 h => ?_) (fun hb36 h => ?_)
 have := of_decide_eq_true hb36
 refine ck h (fun _ h => ?_)
 try simp only [*, go_sem]
 exact jc ((v26.Doubts ++ [(Doubt.mk p1 0)])) h.e [some 0, some 1, some 2, some 3, some 7, some 5]
 try simp only [*, go_sem]
 exact jc (v26.Doubts) h.e [some 0, some 1, some 2, some 3, some 4, some 5]
 cases h.e
 simp only [*, go_sem, mA, mS]
 try simp only [*, go_sem]
 refine cr h (zn G p0 p2) (fun v38 h => ?_)
 refine oi h (fun hb39 h => ?_) (fun hb39 h => ?_)
 cases h.e
 simp only [*, go_sem, mA, mS]
 try simp only [*, go_sem]
 refine cr h (xh G p0) (fun v40 h => ?_)
 try simp only [*, go_sem]
 refine jn0 h ([zI 2 p2, zI 3 p3, zI 4 p4, zK 5 (Store.enc p0), zK 6 (Txn.enc p1), zP 10 0, zI 15 v13, zP 16 1]) ([ox [.nl 3, .nl 6, .nl 3, .nl 2], ox [.r 2 0 v40.Items.length, .r 3 0 v40.Locks.length, .r 4 0 v40.Doubts.length, .r 5 0 v40.Over.length], oa 3 (v40.Items.map Item.enc), oa 6 (v40.Locks.map Lock.enc), oa 3 (v40.Doubts.map Doubt.enc), oa 2 (v40.Over.map Txn.enc)]) (fun k42 h => ?_) (fun h => ?_)
 try simp only [*, go_sem]
 exact jc () h.e [some 0, some 5, some 1, some 2, some 3, some 4]
 refine obn h (fun x43 _ _ _ _ h => ?_)
 try simp only [*, go_sem]
 refine cr h (vh G p0 p1) (fun v45 h => ?_)
 try simp only [*, go_sem]
 refine jn1 h (fun b46_1 => [zP 10 0, zP 16 1]) (fun b46_1 => [ox [.nl 3, .nl 6, .nl 3, .nl 2], ox [.r 2 0 v40.Items.length, .r 3 0 v40.Locks.length, .r 4 0 b46_1.length, .r 5 0 v40.Over.length], oa 3 (v40.Items.map Item.enc), oa 6 ((v40.Locks.set v13.toNat (Lock.mk p1 p2 true p3 p4)).map Lock.enc), oa 3 (b46_1.map Doubt.enc), oa 2 (v40.Over.map Txn.enc)]) (fun k47 h => ?_) (fun b46_1 h => ?_)
 refine oi h (fun hb48 h => ?_) (fun hb48 h => ?_)
 have := of_decide_eq_true hb48
 refine ck h (fun _ h => ?_)
 try simp only [*, go_sem]
 exact jc ((v40.Doubts ++ [(Doubt.mk p1 0)])) h.e [some 0, some 1, some 2, some 3, some 7, some 5]
 try simp only [*, go_sem]
 exact jc (v40.Doubts) h.e [some 0, some 1, some 2, some 3, some 4, some 5]
 cases h.e
 simp only [*, go_sem, mA, mS]
 refine oi h (fun hb50 h => ?_) (fun hb50 h => ?_)
 cases h.e
 simp only [*, go_sem, mA, mS]
 refine oi h (fun hb51 h => ?_) (fun hb51 h => ?_)
 have := of_decide_eq_true hb51
 try simp only [*, go_sem]
 intro hl52
 refine oi h (fun hb53 h => ?_) (fun hb53 h => ?_)
 cases h.e
 simp only [*, go_sem, mA, mS]
 try simp only [*, go_sem]
 refine cr h (zn G p0 p2) (fun v54 h => ?_)
 refine oi h (fun hb55 h => ?_) (fun hb55 h => ?_)
 cases h.e
 simp only [*, go_sem, mA, mS]
 try simp only [*, go_sem]
 refine cr h (xh G p0) (fun v56 h => ?_)
 try simp only [*, go_sem]
 refine jn0 h ([zI 2 p2, zI 3 p3, zI 4 p4, zK 5 (Store.enc p0), zK 6 (Txn.enc p1), zP 10 0, zI 15 ((v56.Locks.length : Nat) : Int), zP 16 1]) ([ox [.nl 3, .nl 6, .nl 3, .nl 2], ox [.r 2 0 v56.Items.length, .r 3 0 (v56.Locks.length + 1), .r 4 0 v56.Doubts.length, .r 5 0 v56.Over.length], oa 3 (v56.Items.map Item.enc), oa 6 ((v56.Locks ++ [(Lock.mk (Txn.mk 0 0) 0 false 0 0)]).map Lock.enc), oa 3 (v56.Doubts.map Doubt.enc), oa 2 (v56.Over.map Txn.enc)]) (fun k58 h => ?_) (fun h => ?_)
 try simp only [*, go_sem]
 intro hl59
 refine ck h (fun _ h => ?_)
 try simp only [*, go_sem]
 exact jc () h.e [some 0, some 5, some 1, some 7, some 3, some 4]
 have : (v56.Locks ++ [(Lock.mk (Txn.mk 0 0) 0 false 0 0)])[v56.Locks.length]? = some (Lock.mk (Txn.mk 0 0) 0 false 0 0) := List.getElem?_concat_length
 have : v56.Locks.length < v56.Locks.length + 1 := Nat.lt_succ_self _
 try simp only [*, go_sem]
 refine cr h (vh G p0 p1) (fun v63 h => ?_)
 try simp only [*, go_sem]
 refine jn1 h (fun b64_1 => [zP 10 0, zP 16 1]) (fun b64_1 => [ox [.nl 3, .nl 6, .nl 3, .nl 2], ox [.r 2 0 v56.Items.length, .r 3 0 (v56.Locks.length + 1), .r 4 0 b64_1.length, .r 5 0 v56.Over.length], oa 3 (v56.Items.map Item.enc), oa 6 ((v56.Locks ++ [(Lock.mk p1 p2 true p3 p4)]).map Lock.enc), oa 3 (b64_1.map Doubt.enc), oa 2 (v56.Over.map Txn.enc)]) (fun k65 h => ?_) (fun b64_1 h => ?_)
 refine oi h (fun hb66 h => ?_) (fun hb66 h => ?_)
 have := of_decide_eq_true hb66
 refine ck h (fun _ h => ?_)
 try simp only [*, go_sem]
 exact jc ((v56.Doubts ++ [(Doubt.mk p1 0)])) h.e [some 0, some 1, some 2, some 3, some 7, some 5]
 try simp only [*, go_sem]
 exact jc (v56.Doubts) h.e [some 0, some 1, some 2, some 3, some 4, some 5]
 cases h.e
 simp only [*, go_sem, mA, mS]
 try simp only [*, go_sem]
 refine cr h (zn G p0 p2) (fun v68 h => ?_)
 refine oi h (fun hb69 h => ?_) (fun hb69 h => ?_)
 cases h.e
 simp only [*, go_sem, mA, mS]
 try simp only [*, go_sem]
 refine cr h (xh G p0) (fun v70 h => ?_)
 try simp only [*, go_sem]
 refine jn0 h ([zI 2 p2, zI 3 p3, zI 4 p4, zK 5 (Store.enc p0), zK 6 (Txn.enc p1), zP 10 0, zI 15 v13, zP 16 1]) ([ox [.nl 3, .nl 6, .nl 3, .nl 2], ox [.r 2 0 v70.Items.length, .r 3 0 v70.Locks.length, .r 4 0 v70.Doubts.length, .r 5 0 v70.Over.length], oa 3 (v70.Items.map Item.enc), oa 6 (v70.Locks.map Lock.enc), oa 3 (v70.Doubts.map Doubt.enc), oa 2 (v70.Over.map Txn.enc)]) (fun k72 h => ?_) (fun h => ?_)
 try simp only [*, go_sem]
 exact jc () h.e [some 0, some 5, some 1, some 2, some 3, some 4]
 refine obn h (fun x73 _ _ _ _ h => ?_)
 try simp only [*, go_sem]
 refine cr h (vh G p0 p1) (fun v75 h => ?_)
 try simp only [*, go_sem]
 refine jn1 h (fun b76_1 => [zP 10 0, zP 16 1]) (fun b76_1 => [ox [.nl 3, .nl 6, .nl 3, .nl 2], ox [.r 2 0 v70.Items.length, .r 3 0 v70.Locks.length, .r 4 0 b76_1.length, .r 5 0 v70.Over.length], oa 3 (v70.Items.map Item.enc), oa 6 ((v70.Locks.set v13.toNat (Lock.mk p1 p2 true p3 p4)).map Lock.enc), oa 3 (b76_1.map Doubt.enc), oa 2 (v70.Over.map Txn.enc)]) (fun k77 h => ?_) (fun b76_1 h => ?_)
 refine oi h (fun hb78 h => ?_) (fun hb78 h => ?_)
 have := of_decide_eq_true hb78
 refine ck h (fun _ h => ?_)
 try simp only [*, go_sem]
 exact jc ((v70.Doubts ++ [(Doubt.mk p1 0)])) h.e [some 0, some 1, some 2, some 3, some 7, some 5]
 try simp only [*, go_sem]
 exact jc (v70.Doubts) h.e [some 0, some 1, some 2, some 3, some 4, some 5]
 cases h.e
 simp only [*, go_sem, mA, mS]
 try simp only [*, go_sem]
 refine jn0 h ([zI 2 p2, zI 3 p3, zI 4 p4, zK 5 (Store.enc p0), zK 6 (Txn.enc p1), zP 10 0, zI 12 v1]) ([ox [.nl 3, .nl 6, .nl 3, .nl 2]]) (fun k81 h => ?_) (fun h => ?_)
 try simp only [*, go_sem]
 exact jc () h.e [some 0]
 refine oi h (fun hb82 h => ?_) (fun hb82 h => ?_)
 cases h.e
 simp only [*, go_sem, mA, mS]
 try simp only [*, go_sem]
 refine cr h (w0q G p0 p1 p2) (fun v83 h => ?_)
 try simp only [*, go_sem]
 refine cr h (v0q G p0 p1 p2) (fun v84 h => ?_)
 try simp only [*, go_sem]
 refine cr h (y0e G p0 p1) (fun v85 h => ?_)
 refine oi h (fun hb86 h => ?_) (fun hb86 h => ?_)
 cases h.e
 simp only [*, go_sem, mA, mS]
 refine oi h (fun hb87 h => ?_) (fun hb87 h => ?_)
 refine obn h (fun x88 _ _ _ _ h => ?_)
 refine oi h (fun hb90 h => ?_) (fun hb90 h => ?_)
 cases h.e
 simp only [*, go_sem, mA, mS]
 refine oi h (fun hb91 h => ?_) (fun hb91 h => ?_)
 cases h.e
 simp only [*, go_sem, mA, mS]
 refine oi h (fun hb92 h => ?_) (fun hb92 h => ?_)
 have := of_decide_eq_true hb92
 try simp only [*, go_sem]
 intro hl93
 refine oi h (fun hb94 h => ?_) (fun hb94 h => ?_)
 cases h.e
 simp only [*, go_sem, mA, mS]
 try simp only [*, go_sem]
 refine cr h (zn G p0 p2) (fun v95 h => ?_)
 refine oi h (fun hb96 h => ?_) (fun hb96 h => ?_)
 cases h.e
 simp only [*, go_sem, mA, mS]
 try simp only [*, go_sem]
 refine cr h (xh G p0) (fun v97 h => ?_)
 try simp only [*, go_sem]
 refine jn0 h ([zI 2 p2, zI 3 p3, zI 4 p4, zK 5 (Store.enc p0), zK 6 (Txn.enc p1), zP 10 0, zI 15 ((v97.Locks.length : Nat) : Int), zP 16 1]) ([ox [.nl 3, .nl 6, .nl 3, .nl 2], ox [.r 2 0 v97.Items.length, .r 3 0 (v97.Locks.length + 1), .r 4 0 v97.Doubts.length, .r 5 0 v97.Over.length], oa 3 (v97.Items.map Item.enc), oa 6 ((v97.Locks ++ [(Lock.mk (Txn.mk 0 0) 0 false 0 0)]).map Lock.enc), oa 3 (v97.Doubts.map Doubt.enc), oa 2 (v97.Over.map Txn.enc)]) (fun k99 h => ?_) (fun h => ?_)
 try simp only [*, go_sem]
 intro hl100
 refine ck h (fun _ h => ?_)
 try simp only [*, go_sem]
 exact jc () h.e [some 0, some 5, some 1, some 7, some 3, some 4]
 have : (v97.Locks ++ [(Lock.mk (Txn.mk 0 0) 0 false 0 0)])[v97.Locks.length]? = some (Lock.mk (Txn.mk 0 0) 0 false 0 0) := List.getElem?_concat_length
 have : v97.Locks.length < v97.Locks.length + 1 := Nat.lt_succ_self _
 try simp only [*, go_sem]
 refine cr h (vh G p0 p1) (fun v104 h => ?_)
 try simp only [*, go_sem]
 refine jn1 h (fun b105_1 => [zP 10 0, zP 16 1]) (fun b105_1 => [ox [.nl 3, .nl 6, .nl 3, .nl 2], ox [.r 2 0 v97.Items.length, .r 3 0 (v97.Locks.length + 1), .r 4 0 b105_1.length, .r 5 0 v97.Over.length], oa 3 (v97.Items.map Item.enc), oa 6 ((v97.Locks ++ [(Lock.mk p1 p2 true p3 p4)]).map Lock.enc), oa 3 (b105_1.map Doubt.enc), oa 2 (v97.Over.map Txn.enc)]) (fun k106 h => ?_) (fun b105_1 h => ?_)
 refine oi h (fun hb107 h => ?_) (fun hb107 h => ?_)
 have := of_decide_eq_true hb107
 refine ck h (fun _ h => ?_)
 try simp only [*, go_sem]
 exact jc ((v97.Doubts ++ [(Doubt.mk p1 0)])) h.e [some 0, some 1, some 2, some 3, some 7, some 5]
 try simp only [*, go_sem]
 exact jc (v97.Doubts) h.e [some 0, some 1, some 2, some 3, some 4, some 5]
 cases h.e
 simp only [*, go_sem, mA, mS]
 try simp only [*, go_sem]
 refine cr h (zn G p0 p2) (fun v109 h => ?_)
 refine oi h (fun hb110 h => ?_) (fun hb110 h => ?_)
 cases h.e
 simp only [*, go_sem, mA, mS]
 try simp only [*, go_sem]
 refine cr h (xh G p0) (fun v111 h => ?_)
 try simp only [*, go_sem]
 refine jn0 h ([zI 2 p2, zI 3 p3, zI 4 p4, zK 5 (Store.enc p0), zK 6 (Txn.enc p1), zP 10 0, zI 15 v84, zP 16 1]) ([ox [.nl 3, .nl 6, .nl 3, .nl 2], ox [.r 2 0 v111.Items.length, .r 3 0 v111.Locks.length, .r 4 0 v111.Doubts.length, .r 5 0 v111.Over.length], oa 3 (v111.Items.map Item.enc), oa 6 (v111.Locks.map Lock.enc), oa 3 (v111.Doubts.map Doubt.enc), oa 2 (v111.Over.map Txn.enc)]) (fun k113 h => ?_) (fun h => ?_)
 try simp only [*, go_sem]
 exact jc () h.e [some 0, some 5, some 1, some 2, some 3, some 4]
 refine obn h (fun x114 _ _ _ _ h => ?_)
 try simp only [*, go_sem]
 refine cr h (vh G p0 p1) (fun v116 h => ?_)
 try simp only [*, go_sem]
 refine jn1 h (fun b117_1 => [zP 10 0, zP 16 1]) (fun b117_1 => [ox [.nl 3, .nl 6, .nl 3, .nl 2], ox [.r 2 0 v111.Items.length, .r 3 0 v111.Locks.length, .r 4 0 b117_1.length, .r 5 0 v111.Over.length], oa 3 (v111.Items.map Item.enc), oa 6 ((v111.Locks.set v84.toNat (Lock.mk p1 p2 true p3 p4)).map Lock.enc), oa 3 (b117_1.map Doubt.enc), oa 2 (v111.Over.map Txn.enc)]) (fun k118 h => ?_) (fun b117_1 h => ?_)
 refine oi h (fun hb119 h => ?_) (fun hb119 h => ?_)
 have := of_decide_eq_true hb119
 refine ck h (fun _ h => ?_)
 try simp only [*, go_sem]
 exact jc ((v111.Doubts ++ [(Doubt.mk p1 0)])) h.e [some 0, some 1, some 2, some 3, some 7, some 5]
 try simp only [*, go_sem]
 exact jc (v111.Doubts) h.e [some 0, some 1, some 2, some 3, some 4, some 5]
 cases h.e
 simp only [*, go_sem, mA, mS]
 refine oi h (fun hb121 h => ?_) (fun hb121 h => ?_)
 cases h.e
 simp only [*, go_sem, mA, mS]
 refine oi h (fun hb122 h => ?_) (fun hb122 h => ?_)
 have := of_decide_eq_true hb122
 try simp only [*, go_sem]
 intro hl123
 refine oi h (fun hb124 h => ?_) (fun hb124 h => ?_)
 cases h.e
 simp only [*, go_sem, mA, mS]
 try simp only [*, go_sem]
 refine cr h (zn G p0 p2) (fun v125 h => ?_)
 refine oi h (fun hb126 h => ?_) (fun hb126 h => ?_)
 cases h.e
 simp only [*, go_sem, mA, mS]
 try simp only [*, go_sem]
 refine cr h (xh G p0) (fun v127 h => ?_)
 try simp only [*, go_sem]
 refine jn0 h ([zI 2 p2, zI 3 p3, zI 4 p4, zK 5 (Store.enc p0), zK 6 (Txn.enc p1), zP 10 0, zI 15 ((v127.Locks.length : Nat) : Int), zP 16 1]) ([ox [.nl 3, .nl 6, .nl 3, .nl 2], ox [.r 2 0 v127.Items.length, .r 3 0 (v127.Locks.length + 1), .r 4 0 v127.Doubts.length, .r 5 0 v127.Over.length], oa 3 (v127.Items.map Item.enc), oa 6 ((v127.Locks ++ [(Lock.mk (Txn.mk 0 0) 0 false 0 0)]).map Lock.enc), oa 3 (v127.Doubts.map Doubt.enc), oa 2 (v127.Over.map Txn.enc)]) (fun k129 h => ?_) (fun h => ?_)
 try simp only [*, go_sem]
 intro hl130
 refine ck h (fun _ h => ?_)
 try simp only [*, go_sem]
 exact jc () h.e [some 0, some 5, some 1, some 7, some 3, some 4]
 have : (v127.Locks ++ [(Lock.mk (Txn.mk 0 0) 0 false 0 0)])[v127.Locks.length]? = some (Lock.mk (Txn.mk 0 0) 0 false 0 0) := List.getElem?_concat_length
 have : v127.Locks.length < v127.Locks.length + 1 := Nat.lt_succ_self _
 try simp only [*, go_sem]
 refine cr h (vh G p0 p1) (fun v134 h => ?_)
 try simp only [*, go_sem]
 refine jn1 h (fun b135_1 => [zP 10 0, zP 16 1]) (fun b135_1 => [ox [.nl 3, .nl 6, .nl 3, .nl 2], ox [.r 2 0 v127.Items.length, .r 3 0 (v127.Locks.length + 1), .r 4 0 b135_1.length, .r 5 0 v127.Over.length], oa 3 (v127.Items.map Item.enc), oa 6 ((v127.Locks ++ [(Lock.mk p1 p2 true p3 p4)]).map Lock.enc), oa 3 (b135_1.map Doubt.enc), oa 2 (v127.Over.map Txn.enc)]) (fun k136 h => ?_) (fun b135_1 h => ?_)
 refine oi h (fun hb137 h => ?_) (fun hb137 h => ?_)
 have := of_decide_eq_true hb137
 refine ck h (fun _ h => ?_)
 try simp only [*, go_sem]
 exact jc ((v127.Doubts ++ [(Doubt.mk p1 0)])) h.e [some 0, some 1, some 2, some 3, some 7, some 5]
 try simp only [*, go_sem]
 exact jc (v127.Doubts) h.e [some 0, some 1, some 2, some 3, some 4, some 5]
 cases h.e
 simp only [*, go_sem, mA, mS]
 try simp only [*, go_sem]
 refine cr h (zn G p0 p2) (fun v139 h => ?_)
 refine oi h (fun hb140 h => ?_) (fun hb140 h => ?_)
 cases h.e
 simp only [*, go_sem, mA, mS]
 try simp only [*, go_sem]
 refine cr h (xh G p0) (fun v141 h => ?_)
 try simp only [*, go_sem]
 refine jn0 h ([zI 2 p2, zI 3 p3, zI 4 p4, zK 5 (Store.enc p0), zK 6 (Txn.enc p1), zP 10 0, zI 15 v84, zP 16 1]) ([ox [.nl 3, .nl 6, .nl 3, .nl 2], ox [.r 2 0 v141.Items.length, .r 3 0 v141.Locks.length, .r 4 0 v141.Doubts.length, .r 5 0 v141.Over.length], oa 3 (v141.Items.map Item.enc), oa 6 (v141.Locks.map Lock.enc), oa 3 (v141.Doubts.map Doubt.enc), oa 2 (v141.Over.map Txn.enc)]) (fun k143 h => ?_) (fun h => ?_)
 try simp only [*, go_sem]
 exact jc () h.e [some 0, some 5, some 1, some 2, some 3, some 4]
 refine obn h (fun x144 _ _ _ _ h => ?_)
 try simp only [*, go_sem]
 refine cr h (vh G p0 p1) (fun v146 h => ?_)
 try simp only [*, go_sem]
 refine jn1 h (fun b147_1 => [zP 10 0, zP 16 1]) (fun b147_1 => [ox [.nl 3, .nl 6, .nl 3, .nl 2], ox [.r 2 0 v141.Items.length, .r 3 0 v141.Locks.length, .r 4 0 b147_1.length, .r 5 0 v141.Over.length], oa 3 (v141.Items.map Item.enc), oa 6 ((v141.Locks.set v84.toNat (Lock.mk p1 p2 true p3 p4)).map Lock.enc), oa 3 (b147_1.map Doubt.enc), oa 2 (v141.Over.map Txn.enc)]) (fun k148 h => ?_) (fun b147_1 h => ?_)
 refine oi h (fun hb149 h => ?_) (fun hb149 h => ?_)
 have := of_decide_eq_true hb149
 refine ck h (fun _ h => ?_)
 try simp only [*, go_sem]
 exact jc ((v141.Doubts ++ [(Doubt.mk p1 0)])) h.e [some 0, some 1, some 2, some 3, some 7, some 5]
 try simp only [*, go_sem]
 exact jc (v141.Doubts) h.e [some 0, some 1, some 2, some 3, some 4, some 5]
 cases h.e
 simp only [*, go_sem, mA, mS]
def uc (p0 : List Item) (p1 : Int) (p2 : Int) (k2 : Bool → (List Item) → Option ((List Item))) : Nat → Bool → Nat → (List Item) → Option ((List Item))
 | 0, _, _, _ => none
 | n4 + 1, a3_1, a3_2, a3_3 => (if (decide (a3_2 < p0.length)) = true then (Option.bind (p0[a3_2]?) fun x7 => (if (x7.Key == p1) = true then (if fits 24 (a3_3.length + 1) then (uc p0 p1 p2 k2 n4 true (a3_2 + 1) (a3_3 ++ [(Item.mk p1 p2 (IntKind.i64.wrap (x7.Version + 1)))])) else none) else (if (decide (x7.Key > p1)) = true then (withK (fun (b12_1 : Bool) (b12_2 : List Item) => (if fits 24 (b12_2.length + 1) then (uc p0 p1 p2 k2 n4 true (a3_2 + 1) (b12_2 ++ [x7])) else none)) fun k13 => (if (!a3_1) = true then (if fits 24 (a3_3.length + 1) then (k13 true (a3_3 ++ [(Item.mk p1 p2 1)])) else none) else (k13 false a3_3))) else (withK (if fits 24 (a3_3.length + 1) then (uc p0 p1 p2 k2 n4 a3_1 (a3_2 + 1) (a3_3 ++ [x7])) else none) fun k19 => k19)))) else (k2 a3_1 a3_3))
def v0a (p0 : List Item) (p1 : Int) (p2 : Int) : Option ((List Item)) := (withK (fun (b1_1 : Bool) (b1_2 : List Item) => (withK (fun (b22_1 : List Item) => (some b22_1)) fun k23 => (if (!b1_1) = true then (if fits 24 (b1_2.length + 1) then (k23 (b1_2 ++ [(Item.mk p1 p2 1)])) else none) else (k23 b1_2)))) fun k2 => (uc p0 p1 p2 k2 (p0.length + 1) false 0 []))
def F60 : VFn := ⟨68, (.seq (.reg [vo 6 (.mv (.c (.one (.nl 3))))]) (.seq (.reg [vo 7 (.mv (.c (.one (.nl 3))))]) (.seq (.reg [vo 8 (.mv (cb false))]) (.seq (.seq (.reg [mi 9 0]) (.wk (.block 0 (.loop (.seq (.seq (.reg [vm 10 9, vm 11 0, ln 12 11, bt 13 .lss 10 12]) (.cond (.t 13) .skip (.exit 0))) (.seq (.block 1 (.seq (.seq (.reg [vm 16 0, vm 17 9, xa 18 3 16 17, vf 19 0 18, vs 20 19, vm 21 1, bt 22 .eql 20 21]) (.cond (.t 22) (.seq (.reg [vm 23 7, vm 24 1, vm 25 2, vm 26 0, vm 27 9, xa 28 3 26 27, vf 29 2 28, vs 30 29, bk 31 .add 30 1, vo 32 (.build [(zi 0), (zi 0), (zi 0)] [(0, 1, (.t 24)), (1, 1, (.t 25)), (2, 1, (.t 31))]), vo 33 (.bsl 3 1 [(zi 0), (zi 0), (zi 0)] [(0, (.t 32))]), vo 34 (.app 3 24 (.t 23) (.t 33)), vm 7 34]) (.seq (.reg [vo 8 (.mv (cb true))]) (.exit 1))) .skip)) (.seq (.seq (.reg [vm 35 0, vm 36 9, xa 37 3 35 36, vf 38 0 37, vs 39 38, vm 40 1, bt 41 .gtr 39 40, vm 42 41, gt 43 42 (.mv (.t 8)), gt 44 42 (.un .not (.t 43)), vo 45 (.pick (.t 42) (.t 44) (cb false))]) (.wk (.cond (.t 45) (.seq (.reg [vm 46 7, vm 47 1, vm 48 2, vo 49 (.build [(zi 0), (zi 0), (zi 0)] [(0, 1, (.t 47)), (1, 1, (.t 48)), (2, 1, (ci 1))]), vo 50 (.bsl 3 1 [(zi 0), (zi 0), (zi 0)] [(0, (.t 49))]), vo 51 (.app 3 24 (.t 46) (.t 50)), vm 7 51]) (.reg [vo 8 (.mv (cb true))])) .skip))) (.reg [vm 52 7, vm 53 0, vm 54 9, xa 55 3 53 54, vl 56 3 55, vo 57 (.bsl 3 1 [(zi 0), (zi 0), (zi 0)] [(0, (.t 56))]), vo 58 (.app 3 24 (.t 52) (.t 57)), vm 7 58])))) (.reg [vm 14 9, bk 15 .add 14 1, vm 9 15]))))))) (.seq (.seq (.reg [vm 59 8, nt 60 59]) (.wk (.cond (.t 60) (.reg [vm 61 7, vm 62 1, vm 63 2, vo 64 (.build [(zi 0), (zi 0), (zi 0)] [(0, 1, (.t 62)), (1, 1, (.t 63)), (2, 1, (ci 1))]), vo 65 (.bsl 3 1 [(zi 0), (zi 0), (zi 0)] [(0, (.t 64))]), vo 66 (.app 3 24 (.t 61) (.t 65)), vm 7 66]) .skip))) (.seq (.reg [vm 67 7, vm 6 67]) .ret)))))), [.t 6]⟩
theorem low60 : lowF Tryd.prog 60 = some F60.strip := by kernel_rfl
theorem fok60 : fOk Tryd.prog 60 = true := by kernel_rfl
theorem w1c (p0 : List Item) (p1 : Int) (p2 : Int) (r : (List Item)) (h : v0a p0 p1 p2 = some r) : FnRO Tryd.prog G 60 [.one (.d (.l 3 (p0.map Item.enc))), .one (.d (.i .i64 p1)), .one (.d (.i .i64 p2))] (fun rs => rs = [.one (.o 3 (r.map Item.enc))]) := by
 refine FnRO.of' low60 fok60 (by simp [F60]) ?_
 rw [v0a] at h
 replace h := Hd.mk h
 simp only [F60, go_sem]
 try simp only [*, go_sem]
 refine jn2 h (fun b1_1 b1_2 => [zI 1 p1, zI 2 p2, zR 7 0 0 b1_2.length, zB 8 b1_1]) (fun b1_1 b1_2 => [oa 3 (b1_2.map Item.enc)]) (fun k2 h => ?_) (fun b1_1 b1_2 h => ?_)
 try simp only [*, go_sem]
 refine lp3 (uc p0 p1 p2 k2) (fun a3_1 a3_2 a3_3 => [zL 0 3 (p0.map Item.enc), zI 1 p1, zI 2 p2, zR 7 0 0 a3_3.length, zB 8 a3_1, zI 9 ((a3_2 : Nat) : Int)]) (fun a3_1 a3_2 a3_3 => [oa 3 (a3_3.map Item.enc)]) h [] [none] (fun n4 a3_1 a3_2 a3_3 h => ?_) (by intros; rw [uc])
 rw [uc] at h
 try simp only [*, go_sem]
 intro hl5
 refine oi h (fun hb6 h => ?_) (fun hb6 h => ?_)
 have := of_decide_eq_true hb6
 refine obg h (fun x7 _ hkx7 h => ?_)
 refine oi h (fun hb8 h => ?_) (fun hb8 h => ?_)
 refine ck h (fun _ h => ?_)
 have := za hkx7 hl5
 try simp only [*, go_sem]
 exact lc (true, a3_2 + 1, (a3_3 ++ [(Item.mk p1 p2 (IntKind.i64.wrap (x7.Version + 1)))])) h.e [some 2]
 refine oi h (fun hb11 h => ?_) (fun hb11 h => ?_)
 try simp only [*, go_sem]
 refine jn2 h (fun b12_1 b12_2 => [zL 0 3 (p0.map Item.enc), zI 1 p1, zI 2 p2, zR 7 0 0 b12_2.length, zB 8 true, zI 9 ((a3_2 : Nat) : Int), zB 43 a3_1, zB 44 b12_1]) (fun b12_1 b12_2 => [oa 3 (b12_2.map Item.enc)]) (fun k13 h => ?_) (fun b12_1 b12_2 h => ?_)
 refine oin h (fun hb14 hkhb14 h => ?_) (fun hb14 hkhb14 h => ?_)
 refine ck h (fun _ h => ?_)
 try simp only [*, go_sem]
 exact jc (true, (a3_3 ++ [(Item.mk p1 p2 1)])) h.e [some 2]
 try simp only [*, go_sem]
 exact jc (false, a3_3) h.e [some 0]
 refine ck h (fun _ h => ?_)
 have := za hkx7 hl5
 try simp only [*, go_sem]
 exact lc (true, a3_2 + 1, (b12_2 ++ [x7])) h.e [some 2]
 try simp only [*, go_sem]
 refine jn0 h ([zL 0 3 (p0.map Item.enc), zI 1 p1, zI 2 p2, zR 7 0 0 a3_3.length, zB 8 a3_1, zI 9 ((a3_2 : Nat) : Int)]) ([oa 3 (a3_3.map Item.enc)]) (fun k19 h => ?_) (fun h => ?_)
 try simp only [*, go_sem]
 exact jc () h.e [some 0]
 refine ck h (fun _ h => ?_)
 have := za hkx7 hl5
 try simp only [*, go_sem]
 exact lc (a3_1, a3_2 + 1, (a3_3 ++ [x7])) h.e [some 2]
 try simp only [*, go_sem]
 exact jc (a3_1, a3_3) h.e [some 0]
 try simp only [*, go_sem]
 refine jn1 h (fun b22_1 => [zR 7 0 0 b22_1.length]) (fun b22_1 => [oa 3 (b22_1.map Item.enc)]) (fun k23 h => ?_) (fun b22_1 h => ?_)
 refine oin h (fun hb24 hkhb24 h => ?_) (fun hb24 hkhb24 h => ?_)
 refine ck h (fun _ h => ?_)
 try simp only [*, go_sem]
 exact jc ((b1_2 ++ [(Item.mk p1 p2 1)])) h.e [some 2]
 try simp only [*, go_sem]
 exact jc (b1_2) h.e [some 0]
 cases h.e
 simp only [*, go_sem, mA, mS]
def wq (p1 : Txn) (p2 : Bool) (v3 : Store) (k10 : (List Item) → (List Lock) → Option (Store × Int)) : Nat → Nat → (List Item) → (List Lock) → Option (Store × Int)
 | 0, _, _, _ => none
 | n12 + 1, a11_1, a11_2, a11_3 => (if (decide (a11_1 < v3.Locks.length)) = true then (Option.bind (v3.Locks[a11_1]?) fun x15 => (withK (fun (b16_1 : List Item) (b16_2 : List Lock) => (wq p1 p2 v3 k10 n12 (a11_1 + 1) b16_1 b16_2)) fun k17 => (if (!((x15.Txn.Site == p1.Site) && (x15.Txn.N == p1.N))) = true then (if fits 48 (a11_3.length + 1) then (k17 a11_2 (a11_3 ++ [x15])) else none) else (if x15.Write = true then (withK (fun (b21_1 : List Item) => (k17 b21_1 a11_3)) fun k22 => (if p2 = true then (Option.bind (v0a a11_2 x15.Key x15.Value) fun v24 => (k22 v24)) else (k22 a11_2))) else (withK (k17 a11_2 a11_3) fun k26 => k26))))) else (k10 a11_2 a11_3))
def xq (p1 : Txn) (v3 : Store) (k29 : (List Doubt) → Option (Store × Int)) : Nat → Nat → (List Doubt) → Option (Store × Int)
 | 0, _, _ => none
 | n31 + 1, a30_1, a30_2 => (if (decide (a30_1 < v3.Doubts.length)) = true then (Option.bind (v3.Doubts[a30_1]?) fun x34 => (withK (fun (b35_1 : List Doubt) => (xq p1 v3 k29 n31 (a30_1 + 1) b35_1)) fun k36 => (if (!((x34.Txn.Site == p1.Site) && (x34.Txn.N == p1.N))) = true then (if fits 24 (a30_2.length + 1) then (k36 (a30_2 ++ [x34])) else none) else (k36 a30_2)))) else (k29 a30_2))
def x0c (p0 : Store) (p1 : Txn) (p2 : Bool) : Option (Store × Int) := (Option.bind (xv p0 p1 0) fun v1 => (if (v1 != 0) = true then (some ((Store.mk [] [] [] []), v1)) else (Option.bind (xe p0) fun v3 => (Option.bind (zr p0 p1) fun v4 => (withK (fun (b5_1 : List Txn) => (withK (fun (b9_1 : List Item) (b9_2 : List Lock) => (withK (fun (b28_1 : List Doubt) => (some ((Store.mk b9_1 b9_2 b28_1 b5_1), 0))) fun k29 => (xq p1 v3 k29 (v3.Doubts.length + 1) 0 []))) fun k10 => (wq p1 p2 v3 k10 (v3.Locks.length + 1) 0 v3.Items []))) fun k6 => (if (!v4) = true then (if fits 16 (v3.Over.length + 1) then (k6 (v3.Over ++ [p1])) else none) else (k6 v3.Over)))))))
def F32 : VFn := ⟨113, (.seq (.reg [vo 3 (.boxk 4 (.t 0)), vo 4 (.boxk 2 (.t 1)), vo 6 (.alloc [(.nl 3), (.nl 6), (.nl 3), (.nl 2)]), mi 7 0]) (.seq (.reg [vl 13 4 3, vl 14 2 4, vo 15 (.call 53 [(.t 13), (.t 14), (ci 0)]), vm 8 15]) (.seq (.seq (.reg [vm 16 8, bk 17 .neq 16 0]) (.cond (.t 17) (.seq (.reg [vo 18 (.build [(.nl 3), (.nl 6), (.nl 3), (.nl 2)] []), vm 19 8, vu (.st 4 (.t 6) (.t 18)), vm 7 19]) .ret) .skip)) (.seq (.reg [vl 20 4 3, vo 21 (.call 58 [(.t 20)]), vo 9 (.alloc [(.nl 3), (.nl 6), (.nl 3), (.nl 2)]), vu (.st 4 (.t 9) (.t 21))]) (.seq (.reg [vf 22 0 9, vs 23 22, vf 24 3 9, vs 25 24, vo 26 (.build [(.nl 3), (.nl 6), (.nl 3), (.nl 2)] [(0, 1, (.t 23)), (3, 1, (.t 25))]), vo 10 (.alloc [(.nl 3), (.nl 6), (.nl 3), (.nl 2)]), vu (.st 4 (.t 10) (.t 26))]) (.seq (.seq (.reg [vl 27 4 3, vl 28 2 4, vo 29 (.call 56 [(.t 27), (.t 28)]), nt 30 29]) (.wk (.cond (.t 30) (.reg [vf 31 3 10, vs 32 31, vl 33 2 4, vo 34 (.bsl 2 1 [(zi 0), (zi 0)] [(0, (.t 33))]), vo 35 (.app 2 16 (.t 32) (.t 34)), vf 36 3 10, vu (.st 1 (.t 36) (.t 35))]) .skip))) (.seq (.seq (.reg [mi 11 0]) (.wk (.block 0 (.loop (.seq (.seq (.reg [vm 37 11, vf 38 1 9, vs 39 38, ln 40 39, bt 41 .lss 37 40]) (.cond (.t 41) .skip (.exit 0))) (.seq (.block 1 (.seq (.draw [vd (vf 44 1 9) 0, vd (vs 45 44) 1, vd (vm 46 11) 0, vd (xa 47 6 45 46) 7, vd (vf 48 0 47) 15, vd (vl 49 2 48) 31, vd (vl 50 2 4) 0, vd (vo 51 (.eqs true [.i, .i] (.t 49) (.t 50))) 127]) (.wk (.cond (.t 51) (.draw [vd (vf 52 1 10) 0, vd (vs 53 52) 1, vd (vf 54 1 9) 0, vd (vs 55 54) 4, vd (vm 56 11) 0, vd (xa 57 6 55 56) 28, vd (vl 58 6 57) 60, vd (vo 59 (.bsl 6 1 [(zi 0), (zi 0), (zi 0), (.d (.b false)), (zi 0), (zi 0)] [(0, (.t 58))])) 124, vd (vo 60 (.app 6 48 (.t 53) (.t 59))) 255, vd (vf 61 1 10) 511, vd (vu (.st 1 (.t 61) (.t 60))) 1023]) (.seq (.reg [vf 62 1 9, vs 63 62, vm 64 11, xa 65 6 63 64, vf 66 3 65, vs 67 66, vm 68 67, gt 69 68 (.mv (.t 2)), vo 70 (.pick (.t 68) (.t 69) (cb false))]) (.wk (.cond (.t 70) (.draw [vd (vf 71 0 10) 0, vd (vs 72 71) 1, vd (vf 73 1 9) 0, vd (vs 74 73) 4, vd (vm 75 11) 0, vd (xa 76 6 74 75) 28, vd (vf 77 2 76) 60, vd (vs 78 77) 124, vd (vf 79 1 9) 0, vd (vs 80 79) 256, vd (vm 81 11) 0, vd (xa 82 6 80 81) 1792, vd (vf 83 4 82) 3840, vd (vs 84 83) 7936, vd (vo 85 (.call 60 [(.t 72), (.t 78), (.t 84)])) 0x3fff, vd (vf 86 0 10) 0x7fff, vd (vu (.st 1 (.t 86) (.t 85))) 0xffff]) .skip))))))) (.reg [vm 42 11, bk 43 .add 42 1, vm 11 43]))))))) (.seq (.seq (.reg [mi 12 0]) (.wk (.block 2 (.loop (.seq (.seq (.reg [vm 87 12, vf 88 2 9, vs 89 88, ln 90 89, bt 91 .lss 87 90]) (.cond (.t 91) .skip (.exit 2))) (.seq (.block 3 (.seq (.draw [vd (vf 94 2 9) 0, vd (vs 95 94) 1, vd (vm 96 12) 0, vd (xa 97 3 95 96) 7, vd (vf 98 0 97) 15, vd (vl 99 2 98) 31, vd (vl 100 2 4) 0, vd (vo 101 (.eqs true [.i, .i] (.t 99) (.t 100))) 127]) (.wk (.cond (.t 101) (.draw [vd (vf 102 2 10) 0, vd (vs 103 102) 1, vd (vf 104 2 9) 0, vd (vs 105 104) 4, vd (vm 106 12) 0, vd (xa 107 3 105 106) 28, vd (vl 108 3 107) 60, vd (vo 109 (.bsl 3 1 [(zi 0), (zi 0), (zi 0)] [(0, (.t 108))])) 124, vd (vo 110 (.app 3 24 (.t 103) (.t 109))) 255, vd (vf 111 2 10) 511, vd (vu (.st 1 (.t 111) (.t 110))) 1023]) .skip)))) (.reg [vm 92 12, bk 93 .add 92 1, vm 12 93]))))))) (.seq (.reg [vl 112 4 10, vu (.st 4 (.t 6) (.t 112)), mi 7 0]) .ret))))))))), [.cell 6 true 4, .t 7]⟩
theorem low32 : lowF Tryd.prog 32 = some F32.strip := by kernel_rfl
theorem fok32 : fOk Tryd.prog 32 = true := by kernel_rfl
theorem v1q (p0 : Store) (p1 : Txn) (p2 : Bool) (r : Store × Int) (h : x0c p0 p1 p2 = some r) : FnRO Tryd.prog G 32 [.agg p0.bx, .agg p1.bx, .one (.d (.b p2))] (fun rs => rs = [.agg (r.1.encO), .one (.i .i64 r.2)]) := by
 refine FnRO.of' low32 fok32 (by simp [F32]) ?_
 rw [x0c] at h
 replace h := Hd.mk h
 simp only [F32, go_sem]
 try simp only [*, go_sem]
 refine cr h (z0m G p0 p1 0) (fun v1 h => ?_)
 refine oi h (fun hb2 h => ?_) (fun hb2 h => ?_)
 cases h.e
 simp only [*, go_sem, mA, mS]
 try simp only [*, go_sem]
 refine cr h (xh G p0) (fun v3 h => ?_)
 try simp only [*, go_sem]
 refine cr h (y0e G p0 p1) (fun v4 h => ?_)
 try simp only [*, go_sem]
 refine jn1 h (fun b5_1 => [zB 2 p2, zK 4 (Txn.enc p1), zP 6 0, zP 9 1, zP 10 2]) (fun b5_1 => [ox [.nl 3, .nl 6, .nl 3, .nl 2], ox [.r 3 0 v3.Items.length, .r 4 0 v3.Locks.length, .r 5 0 v3.Doubts.length, .dead], ox [.r 3 0 v3.Items.length, .nl 6, .nl 3, .r 6 0 b5_1.length], oa 3 (v3.Items.map Item.enc), oa 6 (v3.Locks.map Lock.enc), oa 3 (v3.Doubts.map Doubt.enc), oa 2 (b5_1.map Txn.enc)]) (fun k6 h => ?_) (fun b5_1 h => ?_)
 refine oin h (fun hb7 hkhb7 h => ?_) (fun hb7 hkhb7 h => ?_)
 refine ck h (fun _ h => ?_)
 try simp only [*, go_sem]
 exact jc ((v3.Over ++ [p1])) h.e [some 0, some 5, some 6, some 1, some 2, some 3, some 8]
 try simp only [*, go_sem]
 exact jc (v3.Over) h.e [some 0, some 5, some 6, some 1, some 2, some 3, some 4]
 try simp only [*, go_sem]
 refine jn2 h (fun b9_1 b9_2 => [zK 4 (Txn.enc p1), zP 6 0, zP 9 1, zP 10 2]) (fun b9_1 b9_2 => [ox [.nl 3, .nl 6, .nl 3, .nl 2], ox [.dead, .r 3 0 v3.Locks.length, .r 4 0 v3.Doubts.length, .dead], ox [.r 5 0 b9_1.length, .r 6 0 b9_2.length, .nl 3, .r 7 0 b5_1.length], oa 6 (v3.Locks.map Lock.enc), oa 3 (v3.Doubts.map Doubt.enc), oa 3 (b9_1.map Item.enc), oa 6 (b9_2.map Lock.enc), oa 2 (b5_1.map Txn.enc)]) (fun k10 h => ?_) (fun b9_1 b9_2 h => ?_)
 try simp only [*, go_sem]
 refine lp3 (wq p1 p2 v3 k10) (fun a11_1 a11_2 a11_3 => [zB 2 p2, zK 4 (Txn.enc p1), zP 6 0, zP 9 1, zP 10 2, zI 11 ((a11_1 : Nat) : Int)]) (fun a11_1 a11_2 a11_3 => [ox [.nl 3, .nl 6, .nl 3, .nl 2], ox [.dead, .r 3 0 v3.Locks.length, .r 4 0 v3.Doubts.length, .dead], ox [.r 5 0 a11_2.length, .r 6 0 a11_3.length, .nl 3, .r 7 0 b5_1.length], oa 6 (v3.Locks.map Lock.enc), oa 3 (v3.Doubts.map Doubt.enc), oa 3 (a11_2.map Item.enc), oa 6 (a11_3.map Lock.enc), oa 2 (b5_1.map Txn.enc)]) h [] [some 0, some 1, some 2, some 4, some 5, some 3, none, some 6] (fun n12 a11_1 a11_2 a11_3 h => ?_) (by intros; rw [wq])
 rw [wq] at h
 try simp only [*, go_sem]
 intro hl13
 refine oi h (fun hb14 h => ?_) (fun hb14 h => ?_)
 have := of_decide_eq_true hb14
 refine obg h (fun x15 _ hkx15 h => ?_)
 try simp only [*, go_sem]
 refine jn2 h (fun b16_1 b16_2 => [zB 2 p2, zK 4 (Txn.enc p1), zP 6 0, zP 9 1, zP 10 2, zI 11 ((a11_1 : Nat) : Int)]) (fun b16_1 b16_2 => [ox [.nl 3, .nl 6, .nl 3, .nl 2], ox [.dead, .r 3 0 v3.Locks.length, .r 4 0 v3.Doubts.length, .dead], ox [.r 5 0 b16_1.length, .r 6 0 b16_2.length, .nl 3, .r 7 0 b5_1.length], oa 6 (v3.Locks.map Lock.enc), oa 3 (v3.Doubts.map Doubt.enc), oa 3 (b16_1.map Item.enc), oa 6 (b16_2.map Lock.enc), oa 2 (b5_1.map Txn.enc)]) (fun k17 h => ?_) (fun b16_1 b16_2 h => ?_)
 refine oin h (fun hb18 hkhb18 h => ?_) (fun hb18 hkhb18 h => ?_)
 try simp only [*, go_sem]
 refine ck h (fun _ h => ?_)
 try simp only [*, go_sem]
 exact jc (a11_2, (a11_3 ++ [x15])) h.e [some 0, some 1, some 2, some 3, some 4, some 5, some 24, some 7]
 try simp only [*, go_sem]
 refine oi h (fun hb20 h => ?_) (fun hb20 h => ?_)
 try simp only [*, go_sem]
 refine jn1 h (fun b21_1 => [zB 2 p2, zK 4 (Txn.enc p1), zP 6 0, zP 9 1, zP 10 2, zI 11 ((a11_1 : Nat) : Int), zB 69 p2]) (fun b21_1 => [ox [.nl 3, .nl 6, .nl 3, .nl 2], ox [.dead, .r 3 0 v3.Locks.length, .r 4 0 v3.Doubts.length, .dead], ox [.r 5 0 b21_1.length, .r 6 0 a11_3.length, .nl 3, .r 7 0 b5_1.length], oa 6 (v3.Locks.map Lock.enc), oa 3 (v3.Doubts.map Doubt.enc), oa 3 (b21_1.map Item.enc), oa 6 (a11_3.map Lock.enc), oa 2 (b5_1.map Txn.enc)]) (fun k22 h => ?_) (fun b21_1 h => ?_)
 refine oi h (fun hb23 h => ?_) (fun hb23 h => ?_)
 refine obk h (fun v24 hv24 h => ?_)
 try simp only [*, go_sem]
 refine cdl (w1c G a11_2 x15.Key x15.Value v24 hv24) ?_
 try simp only [*, go_sem]
 exact jc (v24) h.e [some 0, some 1, some 2, some 3, some 4, some 30, some 6, some 7]
 try simp only [*, go_sem]
 exact jc (a11_2) h.e [some 0, some 1, some 2, some 3, some 4, some 5, some 6, some 7]
 try simp only [*, go_sem]
 exact jc (b21_1, a11_3) h.e [some 0, some 1, some 2, some 3, some 4, some 5, some 6, some 7]
 try simp only [*, go_sem]
 refine jn0 h ([zB 2 p2, zK 4 (Txn.enc p1), zP 6 0, zP 9 1, zP 10 2, zI 11 ((a11_1 : Nat) : Int)]) ([ox [.nl 3, .nl 6, .nl 3, .nl 2], ox [.dead, .r 3 0 v3.Locks.length, .r 4 0 v3.Doubts.length, .dead], ox [.r 5 0 a11_2.length, .r 6 0 a11_3.length, .nl 3, .r 7 0 b5_1.length], oa 6 (v3.Locks.map Lock.enc), oa 3 (v3.Doubts.map Doubt.enc), oa 3 (a11_2.map Item.enc), oa 6 (a11_3.map Lock.enc), oa 2 (b5_1.map Txn.enc)]) (fun k26 h => ?_) (fun h => ?_)
 try simp only [*, go_sem]
 exact jc () h.e [some 0, some 1, some 2, some 3, some 4, some 5, some 6, some 7]
 try simp only [*, go_sem]
 exact jc (a11_2, a11_3) h.e [some 0, some 1, some 2, some 3, some 4, some 5, some 6, some 7]
 have := za hkx15 hl13
 try simp only [*, go_sem]
 exact lc (a11_1 + 1, b16_1, b16_2) h.e [some 0, some 1, some 2, some 3, some 4, some 5, some 6, some 7]
 try simp only [*, go_sem]
 exact jc (a11_2, a11_3) h.e [some 0, some 1, some 2, some 3, some 4, some 5, some 6, some 7]
 try simp only [*, go_sem]
 refine jn1 h (fun b28_1 => [zP 6 0, zP 10 1]) (fun b28_1 => [ox [.nl 3, .nl 6, .nl 3, .nl 2], ox [.r 2 0 b9_1.length, .r 3 0 b9_2.length, .r 4 0 b28_1.length, .r 5 0 b5_1.length], oa 3 (b9_1.map Item.enc), oa 6 (b9_2.map Lock.enc), oa 3 (b28_1.map Doubt.enc), oa 2 (b5_1.map Txn.enc)]) (fun k29 h => ?_) (fun b28_1 h => ?_)
 try simp only [*, go_sem]
 refine lp2 (xq p1 v3 k29) (fun a30_1 a30_2 => [zK 4 (Txn.enc p1), zP 6 0, zP 9 1, zP 10 2, zI 12 ((a30_1 : Nat) : Int)]) (fun a30_1 a30_2 => [ox [.nl 3, .nl 6, .nl 3, .nl 2], ox [.dead, .r 3 0 v3.Locks.length, .r 4 0 v3.Doubts.length, .dead], ox [.r 5 0 b9_1.length, .r 6 0 b9_2.length, .r 7 0 a30_2.length, .r 8 0 b5_1.length], oa 6 (v3.Locks.map Lock.enc), oa 3 (v3.Doubts.map Doubt.enc), oa 3 (b9_1.map Item.enc), oa 6 (b9_2.map Lock.enc), oa 3 (a30_2.map Doubt.enc), oa 2 (b5_1.map Txn.enc)]) h [] [some 0, some 1, some 2, some 3, some 4, some 5, some 6, none, some 7] (fun n31 a30_1 a30_2 h => ?_) (by intros; rw [xq])
 rw [xq] at h
 try simp only [*, go_sem]
 intro hl32
 refine oi h (fun hb33 h => ?_) (fun hb33 h => ?_)
 have := of_decide_eq_true hb33
 refine obg h (fun x34 _ hkx34 h => ?_)
 try simp only [*, go_sem]
 refine jn1 h (fun b35_1 => [zK 4 (Txn.enc p1), zP 6 0, zP 9 1, zP 10 2, zI 12 ((a30_1 : Nat) : Int)]) (fun b35_1 => [ox [.nl 3, .nl 6, .nl 3, .nl 2], ox [.dead, .r 3 0 v3.Locks.length, .r 4 0 v3.Doubts.length, .dead], ox [.r 5 0 b9_1.length, .r 6 0 b9_2.length, .r 7 0 b35_1.length, .r 8 0 b5_1.length], oa 6 (v3.Locks.map Lock.enc), oa 3 (v3.Doubts.map Doubt.enc), oa 3 (b9_1.map Item.enc), oa 6 (b9_2.map Lock.enc), oa 3 (b35_1.map Doubt.enc), oa 2 (b5_1.map Txn.enc)]) (fun k36 h => ?_) (fun b35_1 h => ?_)
 refine oin h (fun hb37 hkhb37 h => ?_) (fun hb37 hkhb37 h => ?_)
 try simp only [*, go_sem]
 refine ck h (fun _ h => ?_)
 try simp only [*, go_sem]
 exact jc ((a30_2 ++ [x34])) h.e [some 0, some 1, some 2, some 3, some 4, some 5, some 6, some 25, some 8]
 try simp only [*, go_sem]
 try simp only [*, go_sem]
 exact jc (a30_2) h.e [some 0, some 1, some 2, some 3, some 4, some 5, some 6, some 7, some 8]
 have := za hkx34 hl32
 try simp only [*, go_sem]
 exact lc (a30_1 + 1, b35_1) h.e [some 0, some 1, some 2, some 3, some 4, some 5, some 6, some 7, some 8]
 try simp only [*, go_sem]
 exact jc (a30_2) h.e [some 0, some 2, some 5, some 6, some 7, some 8]
 cases h.e
 simp only [*, go_sem, mA, mS]
def xg (p0 : Desk) (p1 : Int) (k2 : Option (Int)) : Nat → Nat → Option (Int)
 | 0, _ => none
 | n4 + 1, a3_1 => (if (decide (a3_1 < p0.Jobs.length)) = true then (Option.bind (p0.Jobs[a3_1]?) fun x7 => (if (x7.N == p1) = true then (some ((a3_1 : Nat) : Int)) else (xg p0 p1 k2 n4 (a3_1 + 1)))) else k2)
def xw (p0 : Desk) (p1 : Int) : Option (Int) := (withK (some (-1)) fun k2 => (xg p0 p1 k2 (p0.Jobs.length + 1) 0))
def F33 : VFn := ⟨22, (.seq (.reg [vo 2 (.box 2 (.t 0)), mi 4 0]) (.seq (.seq (.reg [mi 5 0]) (.wk (.block 0 (.loop (.seq (.seq (.reg [vm 6 5, vf 7 1 2, vs 8 7, ln 9 8, bt 10 .lss 6 9]) (.cond (.t 10) .skip (.exit 0))) (.seq (.block 1 (.seq (.reg [vf 13 1 2, vs 14 13, vm 15 5, xa 16 6 14 15, vf 17 0 16, vs 18 17, vm 19 1, bt 20 .eql 18 19]) (.cond (.t 20) (.seq (.reg [vm 21 5, vm 4 21]) .ret) .skip))) (.reg [vm 11 5, bk 12 .add 11 1, vm 5 12]))))))) (.seq (.reg [mi 4 (-1)]) .ret))), [.t 4]⟩
theorem low33 : lowF Tryd.prog 33 = some F33.strip := by kernel_rfl
theorem fok33 : fOk Tryd.prog 33 = true := by kernel_rfl
theorem z0s (p0 : Desk) (p1 : Int) (r : Int) (h : xw p0 p1 = some r) : FnRO Tryd.prog G 33 [.agg p0.bx, .one (.d (.i .i64 p1))] (fun rs => rs = [.one (.i .i64 r)]) := by
 refine FnRO.of' low33 fok33 (by simp [F33]) ?_
 rw [xw] at h
 replace h := Hd.mk h
 simp only [F33, go_sem]
 try simp only [*, go_sem]
 refine jn0 h ([]) ([]) (fun k2 h => ?_) (fun h => ?_)
 try simp only [*, go_sem]
 refine lp1 (xg p0 p1 k2) (fun a3_1 => [zI 1 p1, zP 2 0, zI 5 ((a3_1 : Nat) : Int)]) (fun a3_1 => [ox p0.bx]) h [] [some 0] (fun n4 a3_1 h => ?_) (by intros; rw [xg])
 rw [xg] at h
 try simp only [*, go_sem]
 intro hl5
 refine oi h (fun hb6 h => ?_) (fun hb6 h => ?_)
 have := of_decide_eq_true hb6
 refine obg h (fun x7 _ hkx7 h => ?_)
 refine oi h (fun hb8 h => ?_) (fun hb8 h => ?_)
 cases h.e
 simp only [*, go_sem, mA, mS]
 have := za hkx7 hl5
 try simp only [*, go_sem]
 exact lc (a3_1 + 1) h.e [some 0]
 try simp only [*, go_sem]
 exact jc () h.e []
 cases h.e
 simp only [*, go_sem, mA, mS]
def zl (p0 : List Int) (k2 : (List Int) → Option ((List Int))) : Nat → Nat → (List Int) → Option ((List Int))
 | 0, _, _ => none
 | n4 + 1, a3_1, a3_2 => (if (decide (a3_1 < p0.length)) = true then (Option.bind (p0[a3_1]?) fun x7 => (if fits 8 (a3_2.length + 1) then (zl p0 k2 n4 (a3_1 + 1) (a3_2 ++ [x7])) else none)) else (k2 a3_2))
def u0a (p0 : List Int) : Option ((List Int)) := (withK (fun (b1_1 : List Int) => (some b1_1)) fun k2 => (zl p0 k2 (p0.length + 1) 0 []))
def F34 : VFn := ⟨19, (.seq (.reg [vo 2 (.mv (.c (.one (.nl 1))))]) (.seq (.reg [vo 3 (.mv (.c (.one (.nl 1))))]) (.seq (.seq (.reg [mi 4 0]) (.wk (.block 0 (.loop (.seq (.seq (.reg [vm 5 4, vm 6 0, ln 7 6, bt 8 .lss 5 7]) (.cond (.t 8) .skip (.exit 0))) (.seq (.block 1 (.reg [vm 11 3, vm 12 0, vm 13 4, xa 14 1 12 13, vs 15 14, vo 16 (.bsl 1 1 [(zi 0)] [(0, (.t 15))]), vo 17 (.app 1 8 (.t 11) (.t 16)), vm 3 17])) (.reg [vm 9 4, bk 10 .add 9 1, vm 4 10]))))))) (.seq (.reg [vm 18 3, vm 2 18]) .ret)))), [.t 2]⟩
theorem low34 : lowF Tryd.prog 34 = some F34.strip := by kernel_rfl
theorem fok34 : fOk Tryd.prog 34 = true := by kernel_rfl
theorem v1c (p0 : List Int) (r : (List Int)) (h : u0a p0 = some r) : FnRO Tryd.prog G 34 [.one (.d (.l 1 (p0.map encI)))] (fun rs => rs = [.one (.o 1 (r.map encI))]) := by
 refine FnRO.of' low34 fok34 (by simp [F34]) ?_
 rw [u0a] at h
 replace h := Hd.mk h
 simp only [F34, go_sem]
 try simp only [*, go_sem]
 refine jn1 h (fun b1_1 => [zR 3 0 0 b1_1.length]) (fun b1_1 => [oa 1 (b1_1.map encI)]) (fun k2 h => ?_) (fun b1_1 h => ?_)
 try simp only [*, go_sem]
 refine lp2 (zl p0 k2) (fun a3_1 a3_2 => [zL 0 1 (p0.map encI), zR 3 0 0 a3_2.length, zI 4 ((a3_1 : Nat) : Int)]) (fun a3_1 a3_2 => [oa 1 (a3_2.map encI)]) h [] [none] (fun n4 a3_1 a3_2 h => ?_) (by intros; rw [zl])
 rw [zl] at h
 try simp only [*, go_sem]
 intro hl5
 refine oi h (fun hb6 h => ?_) (fun hb6 h => ?_)
 have := of_decide_eq_true hb6
 refine obg h (fun x7 _ hkx7 h => ?_)
 refine ck h (fun _ h => ?_)
 have := za hkx7 hl5
 try simp only [*, go_sem]
 exact lc (a3_1 + 1, (a3_2 ++ [x7])) h.e [some 2]
 try simp only [*, go_sem]
 exact jc (a3_2) h.e [some 0]
 cases h.e
 simp only [*, go_sem, mA, mS]
def zo (p0 : List Job) (p1 : Int) (k2 : (List Job) → Option ((List Job))) : Nat → Nat → (List Job) → Option ((List Job))
 | 0, _, _ => none
 | n4 + 1, a3_1, a3_2 => (if (decide (a3_1 < p0.length)) = true then (withK (fun (b7_1 : List Job) => (zo p0 p1 k2 n4 (a3_1 + 1) b7_1)) fun k8 => (if (((a3_1 : Nat) : Int) != p1) = true then (withK (fun (b10_1 : Int) (b10_2 : Int) (b10_3 : List Task) (b10_4 : List Int) (b10_5 : Int) (b10_6 : Int) => (if fits 80 (a3_2.length + 1) then (k8 (a3_2 ++ [(Job.mk b10_1 b10_2 b10_3 b10_4 b10_5 b10_6)])) else none)) fun k11 => (Option.bind (p0[a3_1]?) fun x12 => (k11 x12.N x12.State x12.Tasks x12.Asked x12.Asks x12.Age))) else (k8 a3_2))) else (k2 a3_2))
def w0c (p0 : List Job) (p1 : Int) : Option ((List Job)) := (withK (fun (b1_1 : List Job) => (some b1_1)) fun k2 => (zo p0 p1 k2 (p0.length + 1) 0 []))
def F35 : VFn := ⟨24, (.seq (.reg [vo 4 (.mv (.c (.one (.nl 6))))]) (.seq (.reg [vo 5 (.mv (.c (.one (.nl 6))))]) (.seq (.seq (.reg [mi 6 0]) (.wk (.block 0 (.loop (.seq (.seq (.reg [vm 7 6, vm 8 0, ln 9 8, bt 10 .lss 7 9]) (.cond (.t 10) .skip (.exit 0))) (.seq (.block 1 (.seq (.reg [vm 13 6, vm 14 1, bt 15 .neq 13 14]) (.wk (.cond (.t 15) (.regs [[vm 16 5, vm 17 0, vm 18 6, xa 19 6 17 18, vl 20 6 19], [vo 21 (.bsl 6 1 [(zi 0), (zi 0), (.nl 8), (.nl 1), (zi 0), (zi 0)] [(0, (.t 20))]), vo 22 (.app 6 80 (.t 16) (.t 21)), vm 5 22]]) .skip)))) (.reg [vm 11 6, bk 12 .add 11 1, vm 6 12]))))))) (.seq (.reg [vm 23 5, vm 4 23]) .ret)))), [.t 4]⟩
theorem low35 : lowF Tryd.prog 35 = some F35.strip := by kernel_rfl
theorem fok35 : fOk Tryd.prog 35 = true := by kernel_rfl
theorem u1f (p0 : List Job) (p1 : Int) (r : (List Job)) (h : w0c p0 p1 = some r) : FnRO Tryd.prog G 35 [.one (.d (.l 6 (p0.map Job.enc))), .one (.d (.i .i64 p1))] (fun rs => rs = [.one (.o 6 (r.map Job.enc))]) := by
 refine FnRO.of' low35 fok35 (by simp [F35]) ?_
 rw [w0c] at h
 replace h := Hd.mk h
 simp only [F35, go_sem]
 try simp only [*, go_sem]
 refine jn1 h (fun b1_1 => [zR 5 0 0 b1_1.length]) (fun b1_1 => [oa 6 (b1_1.map Job.enc)]) (fun k2 h => ?_) (fun b1_1 h => ?_)
 try simp only [*, go_sem]
 refine lp2 (zo p0 p1 k2) (fun a3_1 a3_2 => [zL 0 6 (p0.map Job.enc), zI 1 p1, zR 5 0 0 a3_2.length, zI 6 ((a3_1 : Nat) : Int)]) (fun a3_1 a3_2 => [oa 6 (a3_2.map Job.enc)]) h [] [none] (fun n4 a3_1 a3_2 h => ?_) (by intros; rw [zo])
 rw [zo] at h
 try simp only [*, go_sem]
 intro hl5
 refine oi h (fun hb6 h => ?_) (fun hb6 h => ?_)
 have hkhb6 := of_decide_eq_true hb6
 try simp only [*, go_sem]
 refine jn1 h (fun b7_1 => [zL 0 6 (p0.map Job.enc), zI 1 p1, zR 5 0 0 b7_1.length, zI 6 ((a3_1 : Nat) : Int)]) (fun b7_1 => [oa 6 (b7_1.map Job.enc)]) (fun k8 h => ?_) (fun b7_1 h => ?_)
 refine oi h (fun hb9 h => ?_) (fun hb9 h => ?_)
 try simp only [*, go_sem]
 refine rg6 h (fun b10_1 b10_2 b10_3 b10_4 b10_5 b10_6 => [zL 0 6 (p0.map Job.enc), zI 1 p1, zI 6 ((a3_1 : Nat) : Int), zR 16 0 0 a3_2.length, (20, .agg [zi b10_1, zi b10_2, .d (.l 8 (b10_3.map Task.enc)), .d (.l 1 (b10_4.map encI)), zi b10_5, zi b10_6])]) (fun b10_1 b10_2 b10_3 b10_4 b10_5 b10_6 => [oa 6 (a3_2.map Job.enc)]) (fun k11 h => ?_) (fun b10_1 b10_2 b10_3 b10_4 b10_5 b10_6 h => ?_)
 refine obg h (fun x12 _ _ h => ?_)
 try simp only [*, go_sem]
 exact jc (x12.N, x12.State, x12.Tasks, x12.Asked, x12.Asks, x12.Age) h.e [some 0]
 refine ck h (fun _ h => ?_)
 try simp only [*, go_sem]
 exact jc ((a3_2 ++ [(Job.mk b10_1 b10_2 b10_3 b10_4 b10_5 b10_6)])) h.e [some 2]
 try simp only [*, go_sem]
 exact jc (a3_2) h.e [some 0]
 have := za hkhb6 hl5
 try simp only [*, go_sem]
 exact lc (a3_1 + 1, b7_1) h.e [some 0]
 try simp only [*, go_sem]
 exact jc (a3_2) h.e [some 0]
 cases h.e
 simp only [*, go_sem, mA, mS]
def zg (p0 : Config) (p2 : List Record) (k8 : Int → Option (Store × Desk × (List Note) × Int)) : Nat → Int → Int → Option (Store × Desk × (List Note) × Int)
 | 0, _, _ => none
 | n10 + 1, a9_1, a9_2 => (withK (if 0 ≤ a9_2 then (Option.bind (p2[a9_2.toNat]?) fun x16 => (Option.bind (zh p0 x16) fun v18 => (zg p0 p2 k8 n10 v18 (IntKind.i64.wrap (a9_2 + 1))))) else none) fun k12 => (if (decide (a9_2 < ((p2.length : Nat) : Int))) = true then (if (a9_1 == 0) = true then k12 else (k8 a9_1)) else (k8 a9_1)))
def xd (x26 : Record) (k45 : (List Note) → Option (Store × Desk × (List Note) × Int)) : Nat → Int → (List Note) → Option (Store × Desk × (List Note) × Int)
 | 0, _, _ => none
 | n47 + 1, a46_1, a46_2 => (withK (withK (fun (b53_1 : List Note) => (xd x26 k45 n47 (IntKind.i64.wrap (a46_1 + 1)) b53_1)) fun k54 => (if 0 ≤ a46_1 then (Option.bind (a46_2[a46_1.toNat]?) fun x55 => (if ((x55.Txn.Site == x26.Txn.Site) && (x55.Txn.N == x26.Txn.N)) = true then (if (!(x55.Yes == x26.Yes)) = true then (k54 (a46_2.set a46_1.toNat (Note.mk x55.Txn x55.Yes true))) else (k54 a46_2)) else (k54 a46_2))) else none)) fun k49 => (if (decide (a46_1 < ((a46_2.length : Nat) : Int))) = true then (if (x26.Kind == 2) = true then k49 else (k45 a46_2)) else (k45 a46_2)))
def um (a22_8 : List Job) (x26 : Record) (v81 : (List Int)) (k83 : Bool → (List Job) → Option (Store × Desk × (List Note) × Int)) : Nat → Bool → Nat → (List Job) → Option (Store × Desk × (List Note) × Int)
 | 0, _, _, _ => none
 | n85 + 1, a84_1, a84_2, a84_3 => (if (decide (a84_2 < a22_8.length)) = true then (withK (fun (b88_1 : Bool) (b88_2 : List Job) => (withK (fun (b96_1 : Int) (b96_2 : Int) (b96_3 : List Task) (b96_4 : List Int) (b96_5 : Int) (b96_6 : Int) => (if fits 80 (b88_2.length + 1) then (um a22_8 x26 v81 k83 n85 b88_1 (a84_2 + 1) (b88_2 ++ [(Job.mk b96_1 b96_2 b96_3 b96_4 b96_5 b96_6)])) else none)) fun k97 => (Option.bind (a22_8[a84_2]?) fun x98 => (k97 x98.N x98.State x98.Tasks x98.Asked x98.Asks x98.Age)))) fun k89 => (Option.bind (a22_8[a84_2]?) fun x90 => (if (decide (x90.N > x26.Txn.N)) = true then (if (!a84_1) = true then (withK (if fits 80 (a84_3.length + 1) then (k89 true (a84_3 ++ [(Job.mk x26.Txn.N 3 [] v81 0 0)])) else none) fun k94 => k94) else (k89 true a84_3)) else (k89 a84_1 a84_3)))) else (k83 a84_1 a84_3))
def ua (p1 : Int) (p2 : List Record) (k21 : Int → (List Note) → (List Item) → (List Lock) → (List Doubt) → (List Txn) → (List Job) → Option (Store × Desk × (List Note) × Int)) : Nat → Nat → Int → (List Note) → (List Item) → (List Lock) → (List Doubt) → (List Txn) → (List Job) → Option (Store × Desk × (List Note) × Int)
 | 0, _, _, _, _, _, _, _, _ => none
 | n23 + 1, a22_1, a22_2, a22_3, a22_4, a22_5, a22_6, a22_7, a22_8 => (if (decide (a22_1 < p2.length)) = true then (Option.bind (p2[a22_1]?) fun x26 => (withK (fun (b27_1 : Int) (b27_2 : List Note) (b27_3 : List Item) (b27_4 : List Lock) (b27_5 : List Doubt) (b27_6 : List Txn) (b27_7 : List Job) => (ua p1 p2 k21 n23 (a22_1 + 1) b27_1 b27_2 b27_3 b27_4 b27_5 b27_6 b27_7)) fun k28 => (if (x26.Kind == 1) = true then (Option.bind (ui (Store.mk a22_4 a22_5 a22_6 a22_7) x26.Txn x26.Key x26.Value x26.Ask) fun v30 => (withK (fun (b31_1 : List Item) (b31_2 : List Lock) (b31_3 : List Doubt) (b31_4 : List Txn) => (k28 a22_2 a22_3 b31_1 b31_2 b31_3 b31_4 a22_8)) fun k32 => (if (v30.2 == 0) = true then (k32 v30.1.Items v30.1.Locks v30.1.Doubts v30.1.Over) else (k32 a22_4 a22_5 a22_6 a22_7)))) else (withK (fun (b34_1 : Bool) => (withK (fun (b37_1 : Int) (b37_2 : List Note) (b37_3 : List Item) (b37_4 : List Lock) (b37_5 : List Doubt) (b37_6 : List Txn) (b37_7 : List Job) => (k28 b37_1 b37_2 b37_3 b37_4 b37_5 b37_6 b37_7)) fun k38 => (if b34_1 = true then (Option.bind (x0c (Store.mk a22_4 a22_5 a22_6 a22_7) x26.Txn x26.Yes) fun v40 => (withK (fun (b41_1 : List Item) (b41_2 : List Lock) (b41_3 : List Doubt) (b41_4 : List Txn) => (withK (fun (b44_1 : List Note) => (withK (fun (b59_1 : List Note) => (k38 a22_2 b59_1 b41_1 b41_2 b41_3 b41_4 a22_8)) fun k60 => (if (x26.Kind == 6) = true then (if fits 24 (b44_1.length + 1) then (k60 (b44_1 ++ [(Note.mk x26.Txn x26.Yes false)])) else none) else (k60 b44_1)))) fun k45 => (xd x26 k45 (a22_3.length + 1) 0 a22_3))) fun k42 => (if (v40.2 == 0) = true then (k42 v40.1.Items v40.1.Locks v40.1.Doubts v40.1.Over) else (k42 a22_4 a22_5 a22_6 a22_7)))) else (withK (fun (b63_1 : Int) (b63_2 : List Job) => (k38 b63_1 a22_3 a22_4 a22_5 a22_6 a22_7 b63_2)) fun k64 => (if (x26.Kind == 3) = true then (withK (fun (b66_1 : Int) => (Option.bind (u0a x26.Sites) fun v81 => (withK (fun (b82_1 : Bool) (b82_2 : List Job) => (withK (fun (b101_1 : List Job) => (k64 a22_2 b101_1)) fun k102 => (if (!b82_1) = true then (withK (if fits 80 (b82_2.length + 1) then (k102 (b82_2 ++ [(Job.mk x26.Txn.N 3 [] v81 0 0)])) else none) fun k105 => k105) else (k102 b82_2)))) fun k83 => (um a22_8 x26 v81 k83 (a22_8.length + 1) false 0 [])))) fun k67 => (if (x26.Txn.Site != p1) = true then (ua p1 p2 k21 n23 (a22_1 + 1) a22_2 a22_3 a22_4 a22_5 a22_6 a22_7 a22_8) else (if (decide (x26.Txn.N ≥ a22_2)) = true then (ua p1 p2 k21 n23 (a22_1 + 1) a22_2 a22_3 a22_4 a22_5 a22_6 a22_7 a22_8) else (if (((x26.Sites.length : Nat) : Int) == 0) = true then (ua p1 p2 k21 n23 (a22_1 + 1) a22_2 a22_3 a22_4 a22_5 a22_6 a22_7 a22_8) else (if (decide (((a22_8.length : Nat) : Int) ≥ 6)) = true then (ua p1 p2 k21 n23 (a22_1 + 1) a22_2 a22_3 a22_4 a22_5 a22_6 a22_7 a22_8) else (Option.bind (xw (Desk.mk a22_2 a22_8) x26.Txn.N) fun v78 => (if (decide (v78 ≥ 0)) = true then (ua p1 p2 k21 n23 (a22_1 + 1) a22_2 a22_3 a22_4 a22_5 a22_6 a22_7 a22_8) else (k67 v78)))))))) else (withK (fun (b107_1 : Int) (b107_2 : List Job) => (k64 b107_1 b107_2)) fun k108 => (if (x26.Kind == 4) = true then (Option.bind (xw (Desk.mk a22_2 a22_8) x26.Txn.N) fun v110 => (withK (fun (b111_1 : List Job) => (k108 a22_2 b111_1)) fun k112 => (if (x26.Txn.Site == p1) = true then (if (decide (v110 ≥ 0)) = true then (withK (Option.bind (w0c a22_8 v110) fun v117 => (k112 v117)) fun k116 => k116) else (k112 a22_8)) else (k112 a22_8)))) else (withK (fun (b118_1 : Int) => (k108 b118_1 a22_8)) fun k119 => (if (x26.Txn.Site == p1) = true then (if (decide (x26.Txn.N ≥ a22_2)) = true then (k119 (IntKind.i64.wrap (x26.Txn.N + 1))) else (k119 a22_2)) else (k119 a22_2)))))))))) fun k35 => (if (x26.Kind == 2) = true then (k35 true) else (k35 (x26.Kind == 6))))))) else (k21 a22_2 a22_3 a22_4 a22_5 a22_6 a22_7 a22_8))
def ux (p0 : Config) (p1 : Int) (p2 : List Record) : Option (Store × Desk × (List Note) × Int) := (Option.bind (xl p0) fun v1 => (withK (fun (b2_1 : Int) => (withK (fun (b7_1 : Int) => (if (b7_1 != 0) = true then (some ((Store.mk [] [] [] []), (Desk.mk 0 []), [], b7_1)) else (withK (fun (b20_1 : Int) (b20_2 : List Note) (b20_3 : List Item) (b20_4 : List Lock) (b20_5 : List Doubt) (b20_6 : List Txn) (b20_7 : List Job) => (withK (some ((Store.mk b20_3 b20_4 b20_5 b20_6), (Desk.mk b20_1 b20_7), b20_2, 0)) fun k124 => k124)) fun k21 => (ua p1 p2 k21 (p2.length + 1) 0 1 [] [] [] [] [] [])))) fun k8 => (zg p0 p2 k8 (p2.length + 1) b2_1 0))) fun k3 => (if (v1 == 0) = true then (Option.bind (xb p1 0 (IntKind.i64.wrap (p0.Sites - 1))) fun v5 => (if (!v5) = true then (k3 2) else (k3 v1))) else (k3 v1))))
def F9 : VFn := ⟨275, (.seq (.reg [vo 3 (.box 3 (.t 0)), vo 6 (.alloc [(.nl 3), (.nl 6), (.nl 3), (.nl 2)]), vo 7 (.alloc [(zi 0), (.nl 6)]), vo 8 (.mv (.c (.one (.nl 4)))), mi 9 0]) (.seq (.reg [vl 27 3 3, vo 28 (.call 21 [(.t 27)]), vm 10 28]) (.seq (.wk (.seq (.reg [vm 29 10, bk 30 .eql 29 0, vm 31 30, gt 32 31 (.mv (.t 1)), gt 33 31 (.fa 0 (.t 3)), gt 34 31 (.ld false 1 (.t 33)), gt 35 31 (.bin .i .sub (.t 34) (ci 1)), gt 36 31 (.call 29 [(.t 32), (ci 0), (.t 35)]), gt 37 31 (.un .not (.t 36)), vo 38 (.pick (.t 31) (.t 37) (cb false))]) (.cond (.t 38) (.reg [mi 10 2]) .skip))) (.seq (.seq (.reg [mi 11 0]) (.wk (.block 0 (.loop (.seq (.wk (.seq (.reg [vm 39 11, vm 40 2, ln 41 40, bt 42 .lss 39 41, vm 43 42, gt 44 43 (.mv (.t 10)), gt 45 43 (.bin .i .eql (.t 44) (ci 0)), vo 46 (.pick (.t 43) (.t 45) (cb false))]) (.cond (.t 46) .skip (.exit 0)))) (.seq (.block 1 (.draw [vd (vl 49 3 3) 0, vd (vm 50 2) 0, vd (vm 51 11) 0, vd (xa 52 8 50 51) 6, vd (vl 53 8 52) 14, vd (vo 54 (.call 30 [(.t 49), (.t 53)])) 31, vd (vm 10 54) 63])) (.reg [vm 47 11, bk 48 .add 47 1, vm 11 48]))))))) (.seq (.seq (.reg [vm 55 10, bk 56 .neq 55 0]) (.cond (.t 56) (.seq (.reg [vo 57 (.build [(.nl 3), (.nl 6), (.nl 3), (.nl 2)] []), vo 58 (.build [(zi 0), (.nl 6)] []), vm 59 10, vu (.st 4 (.t 6) (.t 57)), vu (.st 2 (.t 7) (.t 58)), vo 8 (.mv (.c (.one (.nl 4)))), vm 9 59]) .ret) .skip)) (.seq (.reg [vo 60 (.build [(.nl 3), (.nl 6), (.nl 3), (.nl 2)] []), vo 12 (.alloc [(.nl 3), (.nl 6), (.nl 3), (.nl 2)]), vu (.st 4 (.t 12) (.t 60))]) (.seq (.reg [vo 61 (.build [(zi 0), (.nl 6)] [(0, 1, (ci 1))]), vo 13 (.alloc [(zi 0), (.nl 6)]), vu (.st 2 (.t 13) (.t 61))]) (.seq (.reg [vo 14 (.mv (.c (.one (.nl 4))))]) (.seq (.seq (.reg [mi 15 0]) (.wk (.block 2 (.loop (.seq (.seq (.reg [vm 62 15, vm 63 2, ln 64 63, bt 65 .lss 62 64]) (.cond (.t 65) .skip (.exit 2))) (.seq (.block 3 (.seq (.reg [vm 68 2, vm 69 15, xa 70 8 68 69, vl 71 8 70, vo 16 (.alloc [(zi 0), (zi 0), (zi 0), (zi 0), (zi 0), (zi 0), (.d (.b false)), (.nl 1)]), vu (.st 8 (.t 16) (.t 71))]) (.seq (.reg [vf 72 0 16, vs 73 72]) (.block 4 (.seq (.reg [bk 93 .eql 73 1, vm 92 93]) (.wk (.cond (.t 92) (.seq (.reg [vl 95 4 12, vf 96 1 16, vl 97 2 96, vf 98 3 16, vs 99 98, vf 100 4 16, vs 101 100, vf 102 5 16, vs 103 102, vo 104 (.call 31 [(.t 95), (.t 97), (.t 99), (.t 101), (.t 103)]), vm 94 104, et 105 94 0, et 106 94 1, vo 17 (.alloc [(.nl 3), (.nl 6), (.nl 3), (.nl 2)]), vu (.st 4 (.t 17) (.t 105)), vm 18 106]) (.seq (.reg [vm 107 18, bk 108 .eql 107 0]) (.wk (.cond (.t 108) (.reg [vl 109 4 17, vu (.st 4 (.t 12) (.t 109))]) .skip)))) (.seq (.seq (.reg [bk 111 .eql 73 2, vm 110 111]) (.wk (.cond (.t 110) .skip (.reg [bk 112 .eql 73 6, vm 110 112])))) (.wk (.cond (.t 110) (.seq (.reg [vl 114 4 12, vf 115 1 16, vl 116 2 115, vf 117 6 16, vs 118 117, vo 119 (.call 32 [(.t 114), (.t 116), (.t 118)]), vm 113 119, et 120 113 0, et 121 113 1, vo 19 (.alloc [(.nl 3), (.nl 6), (.nl 3), (.nl 2)]), vu (.st 4 (.t 19) (.t 120)), vm 20 121]) (.seq (.seq (.reg [vm 122 20, bk 123 .eql 122 0]) (.wk (.cond (.t 123) (.reg [vl 124 4 19, vu (.st 4 (.t 12) (.t 124))]) .skip))) (.seq (.seq (.reg [mi 21 0]) (.wk (.block 5 (.loop (.seq (.wk (.seq (.reg [vm 125 21, vm 126 14, ln 127 126, bt 128 .lss 125 127, vm 129 128, gt 130 129 (.fa 0 (.t 16)), gt 131 129 (.ld false 1 (.t 130)), gt 132 129 (.bin .i .eql (.t 131) (ci 2)), vo 133 (.pick (.t 129) (.t 132) (cb false))]) (.cond (.t 133) .skip (.exit 5)))) (.seq (.block 6 (.wk (.seq (.draw [vd (vm 136 14) 0, vd (vm 137 21) 0, vd (xa 138 4 136 137) 3, vd (vf 139 0 138) 7, vd (vl 140 2 139) 15, vd (vf 141 1 16) 0, vd (vl 142 2 141) 32, vd (vo 143 (.eqs false [.i, .i] (.t 140) (.t 142))) 127, vd (vm 144 143) 255, vd (gt 145 144 (.mv (.t 14))) 511, vd (gt 146 144 (.mv (.t 21))) 511, vd (gt 147 144 (.ia 4 (.t 145) (.t 146))) 2047, vd (gt 148 144 (.fa 2 (.t 147))) 4095, vd (gt 149 144 (.ld false 1 (.t 148))) 8191, vd (gt 150 144 (.fa 6 (.t 16))) 511, vd (gt 151 144 (.ld false 1 (.t 150))) 0x41ff, vd (gt 152 144 (.bin .b .neq (.t 149) (.t 151))) 0xffff, vd (vo 153 (.pick (.t 144) (.t 152) (cb false))) 0x1ffff]) (.cond (.t 153) (.reg [vm 154 14, vm 155 21, xa 156 4 154 155, vf 157 3 156, vu (.st 1 (.t 157) (cb true))]) .skip)))) (.reg [vm 134 21, bk 135 .add 134 1, vm 21 135]))))))) (.seq (.reg [vf 158 0 16, vs 159 158, bk 160 .eql 159 6]) (.wk (.cond (.t 160) (.reg [vm 161 14, vf 162 1 16, vl 163 2 162, vf 164 6 16, vs 165 164, vo 166 (.build [(zi 0), (zi 0), (.d (.b false)), (.d (.b false))] [(0, 2, (.t 163)), (2, 1, (.t 165))]), vo 167 (.bsl 4 1 [(zi 0), (zi 0), (.d (.b false)), (.d (.b false))] [(0, (.t 166))]), vo 168 (.app 4 24 (.t 161) (.t 167)), vm 14 168]) .skip)))))) (.seq (.reg [bk 170 .eql 73 3, vm 169 170]) (.wk (.cond (.t 169) (.seq (.wk (.seq (.reg [vf 171 1 16, vf 172 0 171, vs 173 172, vm 174 1, bt 175 .neq 173 174, vm 176 175, gf 177 176 (.fa 1 (.t 16)), gf 178 176 (.fa 1 (.t 177)), gf 179 176 (.ld false 1 (.t 178)), gf 180 176 (.fa 0 (.t 13)), gf 181 176 (.ld false 1 (.t 180)), gf 182 176 (.bin .i .geq (.t 179) (.t 181)), vo 183 (.pick (.t 176) (cb true) (.t 182)), vm 184 183, gf 185 184 (.fa 7 (.t 16)), gf 186 184 (.ld false 1 (.t 185)), gf 187 184 (.len (.t 186)), gf 188 184 (.bin .i .eql (.t 187) (ci 0)), vo 189 (.pick (.t 184) (cb true) (.t 188)), vm 190 189, gf 191 190 (.fa 1 (.t 13)), gf 192 190 (.ld false 1 (.t 191)), gf 193 190 (.len (.t 192)), gf 194 190 (.bin .i .geq (.t 193) (ci 6)), vo 195 (.pick (.t 190) (cb true) (.t 194)), vm 196 195, gf 197 196 (.ld true 2 (.t 13)), gf 198 196 (.fa 1 (.t 16)), gf 199 196 (.fa 1 (.t 198)), gf 200 196 (.ld false 1 (.t 199)), gf 201 196 (.call 33 [(.t 197), (.t 200)]), gf 202 196 (.bin .i .geq (.t 201) (ci 0)), vo 203 (.pick (.t 196) (cb true) (.t 202))]) (.cond (.t 203) (.exit 3) .skip))) (.seq (.draw [vd (vf 204 1 16) 0, vd (vf 205 1 204) 1, vd (vs 206 205) 3, vd (vf 207 7 16) 0, vd (vs 208 207) 8, vd (vo 209 (.call 34 [(.t 208)])) 24, vd (vo 210 (.build [(zi 0), (zi 0), (.nl 8), (.nl 1), (zi 0), (zi 0)] [(0, 1, (.t 206)), (1, 1, (ci 3)), (3, 1, (.t 209))])) 63, ⟨vo 22 (.alloc [(zi 0), (zi 0), (.nl 8), (.nl 1), (zi 0), (zi 0)]), 0, [5], none, []⟩, vd (vu (.st 6 (.t 22) (.t 210))) 255]) (.seq (.reg [vo 23 (.mv (.c (.one (.nl 6))))]) (.seq (.reg [vo 24 (.mv (cb false))]) (.seq (.seq (.reg [mi 25 0]) (.wk (.block 7 (.loop (.seq (.seq (.reg [vm 211 25, vf 212 1 13, vs 213 212, ln 214 213, bt 215 .lss 211 214]) (.cond (.t 215) .skip (.exit 7))) (.seq (.block 8 (.seq (.wk (.seq (.draw [vd (vf 218 1 13) 0, vd (vs 219 218) 1, vd (vm 220 25) 0, vd (xa 221 6 219 220) 7, vd (vf 222 0 221) 15, vd (vs 223 222) 31, vd (vf 224 0 22) 0, vd (vs 225 224) 64, vd (bt 226 .gtr 223 225) 255, vd (vm 227 226) 511, vd (gt 228 227 (.mv (.t 24))) 1023, vd (gt 229 227 (.un .not (.t 228))) 2047, vd (vo 230 (.pick (.t 227) (.t 229) (cb false))) 4095]) (.cond (.t 230) (.seq (.regs [[vm 231 23, vl 232 6 22], [vo 233 (.bsl 6 1 [(zi 0), (zi 0), (.nl 8), (.nl 1), (zi 0), (zi 0)] [(0, (.t 232))]), vo 234 (.app 6 80 (.t 231) (.t 233)), vm 23 234]]) (.reg [vo 24 (.mv (cb true))])) .skip))) (.regs [[vm 235 23, vf 236 1 13, vs 237 236, vm 238 25, xa 239 6 237 238, vl 240 6 239], [vo 241 (.bsl 6 1 [(zi 0), (zi 0), (.nl 8), (.nl 1), (zi 0), (zi 0)] [(0, (.t 240))]), vo 242 (.app 6 80 (.t 235) (.t 241)), vm 23 242]]))) (.reg [vm 216 25, bk 217 .add 216 1, vm 25 217]))))))) (.seq (.seq (.reg [vm 243 24, nt 244 243]) (.wk (.cond (.t 244) (.regs [[vm 245 23, vl 246 6 22], [vo 247 (.bsl 6 1 [(zi 0), (zi 0), (.nl 8), (.nl 1), (zi 0), (zi 0)] [(0, (.t 246))]), vo 248 (.app 6 80 (.t 245) (.t 247)), vm 23 248]]) .skip))) (.reg [vm 249 23, vf 250 1 13, vu (.st 1 (.t 250) (.t 249))]))))))) (.seq (.reg [bk 252 .eql 73 4, vm 251 252]) (.wk (.cond (.t 251) (.seq (.reg [vl 253 2 13, vf 254 1 16, vf 255 1 254, vs 256 255, vo 257 (.call 33 [(.t 253), (.t 256)]), vm 26 257]) (.wk (.seq (.reg [vf 258 1 16, vf 259 0 258, vs 260 259, vm 261 1, bt 262 .eql 260 261, vm 263 262, gt 264 263 (.mv (.t 26)), gt 265 263 (.bin .i .geq (.t 264) (ci 0)), vo 266 (.pick (.t 263) (.t 265) (cb false))]) (.cond (.t 266) (.regs [[vf 267 1 13, vs 268 267, vm 269 26], [vo 270 (.call 35 [(.t 268), (.t 269)]), vf 271 1 13, vu (.st 1 (.t 271) (.t 270))]]) .skip)))) (.wk (.seq (.reg [vf 74 1 16, vf 75 0 74, vs 76 75, vm 77 1, bt 78 .eql 76 77, vm 79 78, gt 80 79 (.fa 1 (.t 16)), gt 81 79 (.fa 1 (.t 80)), gt 82 79 (.ld false 1 (.t 81)), gt 83 79 (.fa 0 (.t 13)), gt 84 79 (.ld false 1 (.t 83)), gt 85 79 (.bin .i .geq (.t 82) (.t 84)), vo 86 (.pick (.t 79) (.t 85) (cb false))]) (.cond (.t 86) (.reg [vf 87 1 16, vf 88 1 87, vs 89 88, bk 90 .add 89 1, vf 91 0 13, vu (.st 1 (.t 91) (.t 90))]) .skip))))))))))))))))))) (.reg [vm 66 15, bk 67 .add 66 1, vm 15 67]))))))) (.seq (.wk (.orders [[vl 272 4 12, vl 273 2 13, vm 274 14, vu (.st 4 (.t 6) (.t 272)), vu (.st 2 (.t 7) (.t 273)), vm 8 274, mi 9 0], [vl 272 4 12, vl 273 2 13, vu (.st 4 (.t 6) (.t 272)), vm 274 14, vu (.st 2 (.t 7) (.t 273)), vm 8 274, mi 9 0], [vl 272 4 12, vl 273 2 13, vu (.st 4 (.t 6) (.t 272)), vu (.st 2 (.t 7) (.t 273)), vm 274 14, vm 8 274, mi 9 0], [vl 272 4 12, vm 274 14, vl 273 2 13, vu (.st 4 (.t 6) (.t 272)), vu (.st 2 (.t 7) (.t 273)), vm 8 274, mi 9 0], [vl 272 4 12, vm 274 14, vu (.st 4 (.t 6) (.t 272)), vl 273 2 13, vu (.st 2 (.t 7) (.t 273)), vm 8 274, mi 9 0], [vl 272 4 12, vu (.st 4 (.t 6) (.t 272)), vl 273 2 13, vm 274 14, vu (.st 2 (.t 7) (.t 273)), vm 8 274, mi 9 0], [vl 272 4 12, vu (.st 4 (.t 6) (.t 272)), vl 273 2 13, vu (.st 2 (.t 7) (.t 273)), vm 274 14, vm 8 274, mi 9 0], [vl 272 4 12, vu (.st 4 (.t 6) (.t 272)), vm 274 14, vl 273 2 13, vu (.st 2 (.t 7) (.t 273)), vm 8 274, mi 9 0], [vl 273 2 13, vl 272 4 12, vm 274 14, vu (.st 4 (.t 6) (.t 272)), vu (.st 2 (.t 7) (.t 273)), vm 8 274, mi 9 0], [vl 273 2 13, vl 272 4 12, vu (.st 4 (.t 6) (.t 272)), vm 274 14, vu (.st 2 (.t 7) (.t 273)), vm 8 274, mi 9 0], [vl 273 2 13, vl 272 4 12, vu (.st 4 (.t 6) (.t 272)), vu (.st 2 (.t 7) (.t 273)), vm 274 14, vm 8 274, mi 9 0], [vl 273 2 13, vm 274 14, vl 272 4 12, vu (.st 4 (.t 6) (.t 272)), vu (.st 2 (.t 7) (.t 273)), vm 8 274, mi 9 0], [vm 274 14, vl 272 4 12, vl 273 2 13, vu (.st 4 (.t 6) (.t 272)), vu (.st 2 (.t 7) (.t 273)), vm 8 274, mi 9 0], [vm 274 14, vl 272 4 12, vu (.st 4 (.t 6) (.t 272)), vl 273 2 13, vu (.st 2 (.t 7) (.t 273)), vm 8 274, mi 9 0], [vm 274 14, vl 273 2 13, vl 272 4 12, vu (.st 4 (.t 6) (.t 272)), vu (.st 2 (.t 7) (.t 273)), vm 8 274, mi 9 0]])) .ret)))))))))), [.cell 6 true 4, .cell 7 true 2, .t 8, .t 9]⟩
theorem low9 : lowF Tryd.prog 9 = some F9.strip := by kernel_rfl
theorem fok9 : fOk Tryd.prog 9 = true := by kernel_rfl
theorem z0y (p0 : Config) (p1 : Int) (p2 : List Record) (r : Store × Desk × (List Note) × Int) (h : ux p0 p1 p2 = some r) : FnRO Tryd.prog G 9 [.agg p0.bx, .one (.d (.i .i64 p1)), .one (.d (.l 8 (p2.map Record.enc)))] (fun rs => rs = [.agg (r.1.encO), .agg (r.2.1.encO), .one (.o 4 (r.2.2.1.map Note.enc)), .one (.i .i64 r.2.2.2)]) := by
 refine FnRO.of' low9 fok9 (by simp [F9]) ?_
 rw [ux] at h
 replace h := Hd.mk h
 simp only [F9, go_sem]
 try simp only [*, go_sem]
 refine cr h (x0j G p0) (fun v1 h => ?_)
 try simp only [*, go_sem]
 refine jn1 h (fun b2_1 => [zI 1 p1, zL 2 8 (p2.map Record.enc), zP 3 0, zP 6 1, zP 7 2, zI 10 b2_1]) (fun b2_1 => [ox p0.bx, ox [.nl 3, .nl 6, .nl 3, .nl 2], ox [zi 0, .nl 6]]) (fun k3 h => ?_) (fun b2_1 h => ?_)
 refine oi h (fun hb4 h => ?_) (fun hb4 h => ?_)
 try simp only [*, go_sem]
 refine cr h (zb G p1 0 (IntKind.i64.wrap (p0.Sites - 1))) (fun v5 h => ?_)
 refine oin h (fun hb6 hkhb6 h => ?_) (fun hb6 hkhb6 h => ?_)
 try simp only [*, go_sem]
 exact jc (2) h.e [some 0, some 1, some 2]
 try simp only [*, go_sem]
 exact jc (v1) h.e [some 0, some 1, some 2]
 try simp only [*, go_sem]
 exact jc (v1) h.e [some 0, some 1, some 2]
 try simp only [*, go_sem]
 refine jn1 h (fun b7_1 => [zI 1 p1, zL 2 8 (p2.map Record.enc), zP 6 0, zP 7 1, zI 10 b7_1]) (fun b7_1 => [ox [.nl 3, .nl 6, .nl 3, .nl 2], ox [zi 0, .nl 6]]) (fun k8 h => ?_) (fun b7_1 h => ?_)
 try simp only [*, go_sem]
 refine lp2 (zg p0 p2 k8) (fun a9_1 a9_2 => [zI 1 p1, zL 2 8 (p2.map Record.enc), zP 3 0, zP 6 1, zP 7 2, zI 10 a9_1, zI 11 a9_2]) (fun a9_1 a9_2 => [ox p0.bx, ox [.nl 3, .nl 6, .nl 3, .nl 2], ox [zi 0, .nl 6]]) h [] [some 0, some 1, some 2] (fun n10 a9_1 a9_2 h => ?_) (by intros; rw [zg])
 rw [zg] at h
 try simp only [*, go_sem]
 refine jn0 h ([zI 1 p1, zL 2 8 (p2.map Record.enc), zP 3 0, zP 6 1, zP 7 2, zI 11 a9_2, zI 44 a9_1, zB 45 true]) ([ox p0.bx, ox [.nl 3, .nl 6, .nl 3, .nl 2], ox [zi 0, .nl 6]]) (fun k12 h => ?_) (fun h => ?_)
 try simp only [*, go_sem]
 intro hl13
 refine oi h (fun hb14 h => ?_) (fun hb14 h => ?_)
 refine oi h (fun hb15 h => ?_) (fun hb15 h => ?_)
 try simp only [*, go_sem]
 exact jc () h.e [some 0, some 1, some 2]
 try simp only [*, go_sem]
 exact jc (a9_1) h.e [some 1, some 2]
 try simp only [*, go_sem]
 exact jc (a9_1) h.e [some 1, some 2]
 refine obn h (fun x16 _ _ _ _ h => ?_)
 refine obk h (fun v18 hv18 h => ?_)
 try simp only [*, go_sem]
 refine cd (y0v G p0 x16 v18 hv18) ?_
 try simp only [*, go_sem]
 exact lc (v18, IntKind.i64.wrap (a9_2 + 1)) h.e [some 0, some 1, some 2]
 refine oi h (fun hb19 h => ?_) (fun hb19 h => ?_)
 cases h.e
 simp only [*, go_sem, mA, mS]
 try simp only [*, go_sem]
 refine jn7 h (fun b20_1 b20_2 b20_3 b20_4 b20_5 b20_6 b20_7 => [zP 6 0, zP 7 1, zP 12 2, zP 13 3, zR 14 4 0 b20_2.length]) (fun b20_1 b20_2 b20_3 b20_4 b20_5 b20_6 b20_7 => [ox [.nl 3, .nl 6, .nl 3, .nl 2], ox [zi 0, .nl 6], ox [.r 5 0 b20_3.length, .r 6 0 b20_4.length, .r 7 0 b20_5.length, .r 8 0 b20_6.length], ox [zi b20_1, .r 9 0 b20_7.length], oa 4 (b20_2.map Note.enc), oa 3 (b20_3.map Item.enc), oa 6 (b20_4.map Lock.enc), oa 3 (b20_5.map Doubt.enc), oa 2 (b20_6.map Txn.enc), oa 6 (b20_7.map Job.enc)]) (fun k21 h => ?_) (fun b20_1 b20_2 b20_3 b20_4 b20_5 b20_6 b20_7 h => ?_)
 try simp only [*, go_sem]
 refine lp8 (ua p1 p2 k21) (fun a22_1 a22_2 a22_3 a22_4 a22_5 a22_6 a22_7 a22_8 => [zI 1 p1, zL 2 8 (p2.map Record.enc), zP 6 0, zP 7 1, zP 12 2, zP 13 3, zR 14 4 0 a22_3.length, zI 15 ((a22_1 : Nat) : Int)]) (fun a22_1 a22_2 a22_3 a22_4 a22_5 a22_6 a22_7 a22_8 => [ox [.nl 3, .nl 6, .nl 3, .nl 2], ox [zi 0, .nl 6], ox [.r 5 0 a22_4.length, .r 6 0 a22_5.length, .r 7 0 a22_6.length, .r 8 0 a22_7.length], ox [zi a22_2, .r 9 0 a22_8.length], oa 4 (a22_3.map Note.enc), oa 3 (a22_4.map Item.enc), oa 6 (a22_5.map Lock.enc), oa 3 (a22_6.map Doubt.enc), oa 2 (a22_7.map Txn.enc), oa 6 (a22_8.map Job.enc)]) h [] [some 0, some 1, some 2, some 3, none, none, none, none, none, none] (fun n23 a22_1 a22_2 a22_3 a22_4 a22_5 a22_6 a22_7 a22_8 h => ?_) (by intros; rw [ua])
 rw [ua] at h
 try simp only [*, go_sem]
 intro hl24
 refine oi h (fun hb25 h => ?_) (fun hb25 h => ?_)
 have := of_decide_eq_true hb25
 refine obg h (fun x26 _ hkx26 h => ?_)
 try simp only [*, go_sem]
 refine jn7 h (fun b27_1 b27_2 b27_3 b27_4 b27_5 b27_6 b27_7 => [zI 1 p1, zL 2 8 (p2.map Record.enc), zP 6 0, zP 7 1, zP 12 2, zP 13 3, zR 14 4 0 b27_2.length, zI 15 ((a22_1 : Nat) : Int)]) (fun b27_1 b27_2 b27_3 b27_4 b27_5 b27_6 b27_7 => [ox [.nl 3, .nl 6, .nl 3, .nl 2], ox [zi 0, .nl 6], ox [.r 5 0 b27_3.length, .r 6 0 b27_4.length, .r 7 0 b27_5.length, .r 8 0 b27_6.length], ox [zi b27_1, .r 9 0 b27_7.length], oa 4 (b27_2.map Note.enc), oa 3 (b27_3.map Item.enc), oa 6 (b27_4.map Lock.enc), oa 3 (b27_5.map Doubt.enc), oa 2 (b27_6.map Txn.enc), oa 6 (b27_7.map Job.enc)]) (fun k28 h => ?_) (fun b27_1 b27_2 b27_3 b27_4 b27_5 b27_6 b27_7 h => ?_)
 refine oi h (fun hb29 h => ?_) (fun hb29 h => ?_)
 try simp only [*, go_sem]
 refine cl h (z1g G (Store.mk a22_4 a22_5 a22_6 a22_7) x26.Txn x26.Key x26.Value x26.Ask) (fun v30 h => ?_)
 try simp only [*, go_sem]
 refine jn4 h (fun b31_1 b31_2 b31_3 b31_4 => [zI 1 p1, zL 2 8 (p2.map Record.enc), zP 6 0, zP 7 1, zP 12 2, zP 13 3, zR 14 4 0 a22_3.length, zI 15 ((a22_1 : Nat) : Int)]) (fun b31_1 b31_2 b31_3 b31_4 => [ox [.nl 3, .nl 6, .nl 3, .nl 2], ox [zi 0, .nl 6], ox [.r 5 0 b31_1.length, .r 6 0 b31_2.length, .r 7 0 b31_3.length, .r 8 0 b31_4.length], ox [zi a22_2, .r 9 0 a22_8.length], oa 4 (a22_3.map Note.enc), oa 3 (b31_1.map Item.enc), oa 6 (b31_2.map Lock.enc), oa 3 (b31_3.map Doubt.enc), oa 2 (b31_4.map Txn.enc), oa 6 (a22_8.map Job.enc)]) (fun k32 h => ?_) (fun b31_1 b31_2 b31_3 b31_4 h => ?_)
 refine oi h (fun hb33 h => ?_) (fun hb33 h => ?_)
 try simp only [*, go_sem]
 exact jc (v30.1.Items, v30.1.Locks, v30.1.Doubts, v30.1.Over) h.e [some 0, some 1, some 2, some 3, some 4, some 11, some 12, some 13, some 14, some 9]
 try simp only [*, go_sem]
 exact jc (a22_4, a22_5, a22_6, a22_7) h.e [some 0, some 1, some 2, some 3, some 4, some 5, some 6, some 7, some 8, some 9]
 try simp only [*, go_sem]
 exact jc (a22_2, a22_3, b31_1, b31_2, b31_3, b31_4, a22_8) h.e [some 0, some 1, some 2, some 3, some 4, some 5, some 6, some 7, some 8, some 9]
 try simp only [*, go_sem]
 refine jn1 h (fun b34_1 => [zI 1 p1, zL 2 8 (p2.map Record.enc), zP 6 0, zP 7 1, zP 12 2, zP 13 3, zR 14 4 0 a22_3.length, zI 15 ((a22_1 : Nat) : Int), zP 16 5, zI 73 x26.Kind, zB 110 b34_1]) (fun b34_1 => [ox [.nl 3, .nl 6, .nl 3, .nl 2], ox [zi 0, .nl 6], ox [.r 6 0 a22_4.length, .r 7 0 a22_5.length, .r 8 0 a22_6.length, .r 9 0 a22_7.length], ox [zi a22_2, .r 10 0 a22_8.length], oa 4 (a22_3.map Note.enc), ox x26.bx, oa 3 (a22_4.map Item.enc), oa 6 (a22_5.map Lock.enc), oa 3 (a22_6.map Doubt.enc), oa 2 (a22_7.map Txn.enc), oa 6 (a22_8.map Job.enc)]) (fun k35 h => ?_) (fun b34_1 h => ?_)
 refine oi h (fun hb36 h => ?_) (fun hb36 h => ?_)
 try simp only [*, go_sem]
 exact jc (true) h.e [some 0, some 1, some 2, some 3, some 4, some 10, some 5, some 6, some 7, some 8, some 9]
 try simp only [*, go_sem]
 exact jc (x26.Kind == 6) h.e [some 0, some 1, some 2, some 3, some 4, some 10, some 5, some 6, some 7, some 8, some 9]
 try simp only [*, go_sem]
 refine jn7 h (fun b37_1 b37_2 b37_3 b37_4 b37_5 b37_6 b37_7 => [zI 1 p1, zL 2 8 (p2.map Record.enc), zP 6 0, zP 7 1, zP 12 2, zP 13 3, zR 14 4 0 b37_2.length, zI 15 ((a22_1 : Nat) : Int)]) (fun b37_1 b37_2 b37_3 b37_4 b37_5 b37_6 b37_7 => [ox [.nl 3, .nl 6, .nl 3, .nl 2], ox [zi 0, .nl 6], ox [.r 5 0 b37_3.length, .r 6 0 b37_4.length, .r 7 0 b37_5.length, .r 8 0 b37_6.length], ox [zi b37_1, .r 9 0 b37_7.length], oa 4 (b37_2.map Note.enc), oa 3 (b37_3.map Item.enc), oa 6 (b37_4.map Lock.enc), oa 3 (b37_5.map Doubt.enc), oa 2 (b37_6.map Txn.enc), oa 6 (b37_7.map Job.enc)]) (fun k38 h => ?_) (fun b37_1 b37_2 b37_3 b37_4 b37_5 b37_6 b37_7 h => ?_)
 refine oi h (fun hb39 h => ?_) (fun hb39 h => ?_)
 try simp only [*, go_sem]
 refine cl h (v1q G (Store.mk a22_4 a22_5 a22_6 a22_7) x26.Txn x26.Yes) (fun v40 h => ?_)
 try simp only [*, go_sem]
 refine jn4 h (fun b41_1 b41_2 b41_3 b41_4 => [zI 1 p1, zL 2 8 (p2.map Record.enc), zP 6 0, zP 7 1, zP 12 2, zP 13 3, zR 14 4 0 a22_3.length, zI 15 ((a22_1 : Nat) : Int), zP 16 5]) (fun b41_1 b41_2 b41_3 b41_4 => [ox [.nl 3, .nl 6, .nl 3, .nl 2], ox [zi 0, .nl 6], ox [.r 6 0 b41_1.length, .r 7 0 b41_2.length, .r 8 0 b41_3.length, .r 9 0 b41_4.length], ox [zi a22_2, .r 10 0 a22_8.length], oa 4 (a22_3.map Note.enc), ox x26.bx, oa 3 (b41_1.map Item.enc), oa 6 (b41_2.map Lock.enc), oa 3 (b41_3.map Doubt.enc), oa 2 (b41_4.map Txn.enc), oa 6 (a22_8.map Job.enc)]) (fun k42 h => ?_) (fun b41_1 b41_2 b41_3 b41_4 h => ?_)
 refine oi h (fun hb43 h => ?_) (fun hb43 h => ?_)
 try simp only [*, go_sem]
 exact jc (v40.1.Items, v40.1.Locks, v40.1.Doubts, v40.1.Over) h.e [some 0, some 1, some 2, some 3, some 4, some 5, some 11, some 12, some 13, some 14, some 10]
 try simp only [*, go_sem]
 exact jc (a22_4, a22_5, a22_6, a22_7) h.e [some 0, some 1, some 2, some 3, some 4, some 5, some 6, some 7, some 8, some 9, some 10]
 try simp only [*, go_sem]
 refine jn1 h (fun b44_1 => [zI 1 p1, zL 2 8 (p2.map Record.enc), zP 6 0, zP 7 1, zP 12 2, zP 13 3, zR 14 4 0 b44_1.length, zI 15 ((a22_1 : Nat) : Int), zP 16 5]) (fun b44_1 => [ox [.nl 3, .nl 6, .nl 3, .nl 2], ox [zi 0, .nl 6], ox [.r 6 0 b41_1.length, .r 7 0 b41_2.length, .r 8 0 b41_3.length, .r 9 0 b41_4.length], ox [zi a22_2, .r 10 0 a22_8.length], oa 4 (b44_1.map Note.enc), ox x26.bx, oa 3 (b41_1.map Item.enc), oa 6 (b41_2.map Lock.enc), oa 3 (b41_3.map Doubt.enc), oa 2 (b41_4.map Txn.enc), oa 6 (a22_8.map Job.enc)]) (fun k45 h => ?_) (fun b44_1 h => ?_)
 try simp only [*, go_sem]
 refine lp2 (xd x26 k45) (fun a46_1 a46_2 => [zI 1 p1, zL 2 8 (p2.map Record.enc), zP 6 0, zP 7 1, zP 12 2, zP 13 3, zR 14 4 0 a46_2.length, zI 15 ((a22_1 : Nat) : Int), zP 16 5, zI 21 a46_1]) (fun a46_1 a46_2 => [ox [.nl 3, .nl 6, .nl 3, .nl 2], ox [zi 0, .nl 6], ox [.r 6 0 b41_1.length, .r 7 0 b41_2.length, .r 8 0 b41_3.length, .r 9 0 b41_4.length], ox [zi a22_2, .r 10 0 a22_8.length], oa 4 (a46_2.map Note.enc), ox x26.bx, oa 3 (b41_1.map Item.enc), oa 6 (b41_2.map Lock.enc), oa 3 (b41_3.map Doubt.enc), oa 2 (b41_4.map Txn.enc), oa 6 (a22_8.map Job.enc)]) h [] [some 0, some 1, some 2, some 3, some 4, some 5, some 6, some 7, some 8, some 9, some 10] (fun n47 a46_1 a46_2 h => ?_) (by intros; rw [xd])
 rw [xd] at h
 try simp only [*, go_sem]
 refine jn0 h ([zI 1 p1, zL 2 8 (p2.map Record.enc), zP 6 0, zP 7 1, zP 12 2, zP 13 3, zR 14 4 0 a46_2.length, zI 15 ((a22_1 : Nat) : Int), zP 16 5, zI 21 a46_1, zP 130 5, zI 131 x26.Kind, zB 132 true]) ([ox [.nl 3, .nl 6, .nl 3, .nl 2], ox [zi 0, .nl 6], ox [.r 6 0 b41_1.length, .r 7 0 b41_2.length, .r 8 0 b41_3.length, .r 9 0 b41_4.length], ox [zi a22_2, .r 10 0 a22_8.length], oa 4 (a46_2.map Note.enc), ox x26.bx, oa 3 (b41_1.map Item.enc), oa 6 (b41_2.map Lock.enc), oa 3 (b41_3.map Doubt.enc), oa 2 (b41_4.map Txn.enc), oa 6 (a22_8.map Job.enc)]) (fun k49 h => ?_) (fun h => ?_)
 try simp only [*, go_sem]
 intro hl50
 refine oi h (fun hb51 h => ?_) (fun hb51 h => ?_)
 refine oi h (fun hb52 h => ?_) (fun hb52 h => ?_)
 try simp only [*, go_sem]
 exact jc () h.e [some 0, some 1, some 2, some 3, some 4, some 5, some 6, some 7, some 8, some 9, some 10]
 try simp only [*, go_sem]
 exact jc (a46_2) h.e [some 0, some 1, some 2, some 3, some 4, some 5, some 6, some 7, some 8, some 9, some 10]
 try simp only [*, go_sem]
 exact jc (a46_2) h.e [some 0, some 1, some 2, some 3, some 4, some 5, some 6, some 7, some 8, some 9, some 10]
 try simp only [*, go_sem]
 refine jn1 h (fun b53_1 => [zI 1 p1, zL 2 8 (p2.map Record.enc), zP 6 0, zP 7 1, zP 12 2, zP 13 3, zR 14 4 0 b53_1.length, zI 15 ((a22_1 : Nat) : Int), zP 16 5, zI 21 a46_1, zP 130 5, zI 131 x26.Kind, zB 132 true]) (fun b53_1 => [ox [.nl 3, .nl 6, .nl 3, .nl 2], ox [zi 0, .nl 6], ox [.r 6 0 b41_1.length, .r 7 0 b41_2.length, .r 8 0 b41_3.length, .r 9 0 b41_4.length], ox [zi a22_2, .r 10 0 a22_8.length], oa 4 (b53_1.map Note.enc), ox x26.bx, oa 3 (b41_1.map Item.enc), oa 6 (b41_2.map Lock.enc), oa 3 (b41_3.map Doubt.enc), oa 2 (b41_4.map Txn.enc), oa 6 (a22_8.map Job.enc)]) (fun k54 h => ?_) (fun b53_1 h => ?_)
 refine obn h (fun x55 _ _ _ _ h => ?_)
 refine oi h (fun hb57 h => ?_) (fun hb57 h => ?_)
 try simp only [*, go_sem]
 refine oin h (fun hb58 hkhb58 h => ?_) (fun hb58 hkhb58 h => ?_)
 try simp only [*, go_sem]
 exact jc ((a46_2.set a46_1.toNat (Note.mk x55.Txn x55.Yes true))) h.e [some 0, some 1, some 2, some 3, some 4, some 5, some 6, some 7, some 8, some 9, some 10]
 try simp only [*, go_sem]
 exact jc (a46_2) h.e [some 0, some 1, some 2, some 3, some 4, some 5, some 6, some 7, some 8, some 9, some 10]
 try simp only [*, go_sem]
 try simp only [*, go_sem]
 exact jc (a46_2) h.e [some 0, some 1, some 2, some 3, some 4, some 5, some 6, some 7, some 8, some 9, some 10]
 try simp only [*, go_sem]
 exact lc (IntKind.i64.wrap (a46_1 + 1), b53_1) h.e [some 0, some 1, some 2, some 3, some 4, some 5, some 6, some 7, some 8, some 9, some 10]
 try simp only [*, go_sem]
 refine jn1 h (fun b59_1 => [zI 1 p1, zL 2 8 (p2.map Record.enc), zP 6 0, zP 7 1, zP 12 2, zP 13 3, zR 14 4 0 b59_1.length, zI 15 ((a22_1 : Nat) : Int)]) (fun b59_1 => [ox [.nl 3, .nl 6, .nl 3, .nl 2], ox [zi 0, .nl 6], ox [.r 5 0 b41_1.length, .r 6 0 b41_2.length, .r 7 0 b41_3.length, .r 8 0 b41_4.length], ox [zi a22_2, .r 9 0 a22_8.length], oa 4 (b59_1.map Note.enc), oa 3 (b41_1.map Item.enc), oa 6 (b41_2.map Lock.enc), oa 3 (b41_3.map Doubt.enc), oa 2 (b41_4.map Txn.enc), oa 6 (a22_8.map Job.enc)]) (fun k60 h => ?_) (fun b59_1 h => ?_)
 refine oi h (fun hb61 h => ?_) (fun hb61 h => ?_)
 refine ck h (fun _ h => ?_)
 try simp only [*, go_sem]
 exact jc ((b44_1 ++ [(Note.mk x26.Txn x26.Yes false)])) h.e [some 0, some 1, some 2, some 3, some 12, some 6, some 7, some 8, some 9, some 10]
 try simp only [*, go_sem]
 exact jc (b44_1) h.e [some 0, some 1, some 2, some 3, some 4, some 6, some 7, some 8, some 9, some 10]
 try simp only [*, go_sem]
 exact jc (a22_2, b59_1, b41_1, b41_2, b41_3, b41_4, a22_8) h.e [some 0, some 1, some 2, some 3, some 4, some 5, some 6, some 7, some 8, some 9]
 try simp only [*, go_sem]
 refine jn2 h (fun b63_1 b63_2 => [zI 1 p1, zL 2 8 (p2.map Record.enc), zP 6 0, zP 7 1, zP 12 2, zP 13 3, zR 14 4 0 a22_3.length, zI 15 ((a22_1 : Nat) : Int)]) (fun b63_1 b63_2 => [ox [.nl 3, .nl 6, .nl 3, .nl 2], ox [zi 0, .nl 6], ox [.r 5 0 a22_4.length, .r 6 0 a22_5.length, .r 7 0 a22_6.length, .r 8 0 a22_7.length], ox [zi b63_1, .r 9 0 b63_2.length], oa 4 (a22_3.map Note.enc), oa 3 (a22_4.map Item.enc), oa 6 (a22_5.map Lock.enc), oa 3 (a22_6.map Doubt.enc), oa 2 (a22_7.map Txn.enc), oa 6 (b63_2.map Job.enc)]) (fun k64 h => ?_) (fun b63_1 b63_2 h => ?_)
 refine oi h (fun hb65 h => ?_) (fun hb65 h => ?_)
 try simp only [*, go_sem]
 refine jn1 h (fun b66_1 => [zI 1 p1, zL 2 8 (p2.map Record.enc), zP 6 0, zP 7 1, zP 12 2, zP 13 3, zR 14 4 0 a22_3.length, zI 15 ((a22_1 : Nat) : Int), zP 16 5, (177, .one (.p (.q 5 0 1))), (178, .one (.p (.q 5 0 2))), zI 179 x26.Txn.N, zP 180 3, zI 181 a22_2, zB 182 false, (185, .one (.p (.q 5 0 7))), zL 186 1 (x26.Sites.map encI), zI 187 ((x26.Sites.length : Nat) : Int), zB 188 false, (191, .one (.p (.q 3 0 1))), zR 192 6 0 a22_8.length, zI 193 ((a22_8.length : Nat) : Int), zB 194 false, (197, .agg [zi a22_2, .r 6 0 a22_8.length]), (198, .one (.p (.q 5 0 1))), (199, .one (.p (.q 5 0 2))), zI 200 x26.Txn.N, zI 201 b66_1, zB 202 false]) (fun b66_1 => [ox [.nl 3, .nl 6, .nl 3, .nl 2], ox [zi 0, .nl 6], ox [.r 7 0 a22_4.length, .r 8 0 a22_5.length, .r 9 0 a22_6.length, .r 10 0 a22_7.length], ox [zi a22_2, .r 6 0 a22_8.length], oa 4 (a22_3.map Note.enc), ox x26.bx, oa 6 (a22_8.map Job.enc), oa 3 (a22_4.map Item.enc), oa 6 (a22_5.map Lock.enc), oa 3 (a22_6.map Doubt.enc), oa 2 (a22_7.map Txn.enc)]) (fun k67 h => ?_) (fun b66_1 h => ?_)
 refine oi h (fun hb68 h => ?_) (fun hb68 h => ?_)
 have := za hkx26 hl24
 try simp only [*, go_sem]
 exact lc (a22_1 + 1, a22_2, a22_3, a22_4, a22_5, a22_6, a22_7, a22_8) h.e [some 0, some 1, some 2, some 3, some 4, some 6, some 7, some 8, some 9, some 10]
 refine oi h (fun hb70 h => ?_) (fun hb70 h => ?_)
 have := za hkx26 hl24
 try simp only [*, go_sem]
 exact lc (a22_1 + 1, a22_2, a22_3, a22_4, a22_5, a22_6, a22_7, a22_8) h.e [some 0, some 1, some 2, some 3, some 4, some 6, some 7, some 8, some 9, some 10]
 try simp only [*, go_sem]
 intro hl72
 refine oi h (fun hb73 h => ?_) (fun hb73 h => ?_)
 have := za hkx26 hl24
 try simp only [*, go_sem]
 exact lc (a22_1 + 1, a22_2, a22_3, a22_4, a22_5, a22_6, a22_7, a22_8) h.e [some 0, some 1, some 2, some 3, some 4, some 6, some 7, some 8, some 9, some 10]
 try simp only [*, go_sem]
 intro hl75
 refine oi h (fun hb76 h => ?_) (fun hb76 h => ?_)
 have := za hkx26 hl24
 try simp only [*, go_sem]
 exact lc (a22_1 + 1, a22_2, a22_3, a22_4, a22_5, a22_6, a22_7, a22_8) h.e [some 0, some 1, some 2, some 3, some 4, some 6, some 7, some 8, some 9, some 10]
 try simp only [*, go_sem]
 refine cl h (z0s G (Desk.mk a22_2 a22_8) x26.Txn.N) (fun v78 h => ?_)
 refine oi h (fun hb79 h => ?_) (fun hb79 h => ?_)
 have := za hkx26 hl24
 try simp only [*, go_sem]
 exact lc (a22_1 + 1, a22_2, a22_3, a22_4, a22_5, a22_6, a22_7, a22_8) h.e [some 0, some 1, some 2, some 3, some 4, some 6, some 7, some 8, some 9, some 10]
 try simp only [*, go_sem]
 exact jc (v78) h.e [some 0, some 1, some 2, some 3, some 4, some 5, some 10, some 6, some 7, some 8, some 9]
 refine obk h (fun v81 hv81 h => ?_)
 try simp only [*, go_sem]
 refine cd (v1c G x26.Sites v81 hv81) ?_
 try simp only [*, go_sem]
 refine jn2 h (fun b82_1 b82_2 => [zI 1 p1, zL 2 8 (p2.map Record.enc), zP 6 0, zP 7 1, zP 12 2, zP 13 3, zR 14 4 0 a22_3.length, zI 15 ((a22_1 : Nat) : Int), zP 22 5, zR 23 6 0 b82_2.length, zB 24 b82_1, (177, .one (.p (.q 7 0 1))), (178, .one (.p (.q 7 0 2))), zI 179 x26.Txn.N, zP 180 3, zI 181 a22_2, zB 182 false, (185, .one (.p (.q 7 0 7))), zL 186 1 (x26.Sites.map encI), zI 187 ((x26.Sites.length : Nat) : Int), zB 188 false, (191, .one (.p (.q 3 0 1))), zR 192 8 0 a22_8.length, zI 193 ((a22_8.length : Nat) : Int), zB 194 false, (197, .agg [zi a22_2, .r 8 0 a22_8.length]), (198, .one (.p (.q 7 0 1))), (199, .one (.p (.q 7 0 2))), zI 200 x26.Txn.N, zI 201 b66_1, zB 202 false]) (fun b82_1 b82_2 => [ox [.nl 3, .nl 6, .nl 3, .nl 2], ox [zi 0, .nl 6], ox [.r 9 0 a22_4.length, .r 10 0 a22_5.length, .r 11 0 a22_6.length, .r 12 0 a22_7.length], ox [zi a22_2, .r 8 0 a22_8.length], oa 4 (a22_3.map Note.enc), ox [zi x26.Txn.N, zi 3, .nl 8, .r 13 0 v81.length, zi 0, zi 0], oa 6 (b82_2.map Job.enc), ox x26.bx, oa 6 (a22_8.map Job.enc), oa 3 (a22_4.map Item.enc), oa 6 (a22_5.map Lock.enc), oa 3 (a22_6.map Doubt.enc), oa 2 (a22_7.map Txn.enc), oz 1 (v81.map encI)]) (fun k83 h => ?_) (fun b82_1 b82_2 h => ?_)
 try simp only [*, go_sem]
 refine lp3 (um a22_8 x26 v81 k83) (fun a84_1 a84_2 a84_3 => [zI 1 p1, zL 2 8 (p2.map Record.enc), zP 6 0, zP 7 1, zP 12 2, zP 13 3, zR 14 4 0 a22_3.length, zI 15 ((a22_1 : Nat) : Int), zP 22 5, zR 23 6 0 a84_3.length, zB 24 a84_1, zI 25 ((a84_2 : Nat) : Int), (177, .one (.p (.q 7 0 1))), (178, .one (.p (.q 7 0 2))), zI 179 x26.Txn.N, zP 180 3, zI 181 a22_2, zB 182 false, (185, .one (.p (.q 7 0 7))), zL 186 1 (x26.Sites.map encI), zI 187 ((x26.Sites.length : Nat) : Int), zB 188 false, (191, .one (.p (.q 3 0 1))), zR 192 8 0 a22_8.length, zI 193 ((a22_8.length : Nat) : Int), zB 194 false, (197, .agg [zi a22_2, .r 8 0 a22_8.length]), (198, .one (.p (.q 7 0 1))), (199, .one (.p (.q 7 0 2))), zI 200 x26.Txn.N, zI 201 b66_1, zB 202 false]) (fun a84_1 a84_2 a84_3 => [ox [.nl 3, .nl 6, .nl 3, .nl 2], ox [zi 0, .nl 6], ox [.r 9 0 a22_4.length, .r 10 0 a22_5.length, .r 11 0 a22_6.length, .r 12 0 a22_7.length], ox [zi a22_2, .r 8 0 a22_8.length], oa 4 (a22_3.map Note.enc), ox [zi x26.Txn.N, zi 3, .nl 8, .r 13 0 v81.length, zi 0, zi 0], oa 6 (a84_3.map Job.enc), ox x26.bx, oa 6 (a22_8.map Job.enc), oa 3 (a22_4.map Item.enc), oa 6 (a22_5.map Lock.enc), oa 3 (a22_6.map Doubt.enc), oa 2 (a22_7.map Txn.enc), oz 1 (v81.map encI)]) h [.z 16] [some 0, some 1, some 2, some 3, some 4, some 18, none, some 5, some 6, some 7, some 8, some 9, some 10, some 16] (fun n85 a84_1 a84_2 a84_3 h => ?_) (by intros; rw [um])
 rw [um] at h
 try simp only [*, go_sem]
 intro hl86
 refine oi h (fun hb87 h => ?_) (fun hb87 h => ?_)
 have hkhb87 := of_decide_eq_true hb87
 try simp only [*, go_sem]
 refine jn2 h (fun b88_1 b88_2 => [zI 1 p1, zL 2 8 (p2.map Record.enc), zP 6 0, zP 7 1, zP 12 2, zP 13 3, zR 14 4 0 a22_3.length, zI 15 ((a22_1 : Nat) : Int), zP 22 5, zR 23 6 0 b88_2.length, zB 24 b88_1, zI 25 ((a84_2 : Nat) : Int), (177, .one (.p (.q 7 0 1))), (178, .one (.p (.q 7 0 2))), zI 179 x26.Txn.N, zP 180 3, zI 181 a22_2, zB 182 false, (185, .one (.p (.q 7 0 7))), zL 186 1 (x26.Sites.map encI), zI 187 ((x26.Sites.length : Nat) : Int), zB 188 false, (191, .one (.p (.q 3 0 1))), zR 192 8 0 a22_8.length, zI 193 ((a22_8.length : Nat) : Int), zB 194 false, (197, .agg [zi a22_2, .r 8 0 a22_8.length]), (198, .one (.p (.q 7 0 1))), (199, .one (.p (.q 7 0 2))), zI 200 x26.Txn.N, zI 201 b66_1, zB 202 false]) (fun b88_1 b88_2 => [ox [.nl 3, .nl 6, .nl 3, .nl 2], ox [zi 0, .nl 6], ox [.r 9 0 a22_4.length, .r 10 0 a22_5.length, .r 11 0 a22_6.length, .r 12 0 a22_7.length], ox [zi a22_2, .r 8 0 a22_8.length], oa 4 (a22_3.map Note.enc), ox [zi x26.Txn.N, zi 3, .nl 8, .r 13 0 v81.length, zi 0, zi 0], oa 6 (b88_2.map Job.enc), ox x26.bx, oa 6 (a22_8.map Job.enc), oa 3 (a22_4.map Item.enc), oa 6 (a22_5.map Lock.enc), oa 3 (a22_6.map Doubt.enc), oa 2 (a22_7.map Txn.enc), oz 1 (v81.map encI)]) (fun k89 h => ?_) (fun b88_1 b88_2 h => ?_)
 refine obg h (fun x90 _ _ h => ?_)
 refine oi h (fun hb91 h => ?_) (fun hb91 h => ?_)
 refine oin h (fun hb92 hkhb92 h => ?_) (fun hb92 hkhb92 h => ?_)
 try simp only [*, go_sem]
 refine rg0 h ([zI 1 p1, zL 2 8 (p2.map Record.enc), zP 6 0, zP 7 1, zP 12 2, zP 13 3, zR 14 4 0 a22_3.length, zI 15 ((a22_1 : Nat) : Int), zP 22 5, zI 25 ((a84_2 : Nat) : Int), (177, .one (.p (.q 6 0 1))), (178, .one (.p (.q 6 0 2))), zI 179 x26.Txn.N, zP 180 3, zI 181 a22_2, zB 182 false, (185, .one (.p (.q 6 0 7))), zL 186 1 (x26.Sites.map encI), zI 187 ((x26.Sites.length : Nat) : Int), zB 188 false, (191, .one (.p (.q 3 0 1))), zR 192 7 0 a22_8.length, zI 193 ((a22_8.length : Nat) : Int), zB 194 false, (197, .agg [zi a22_2, .r 7 0 a22_8.length]), (198, .one (.p (.q 6 0 1))), (199, .one (.p (.q 6 0 2))), zI 200 x26.Txn.N, zI 201 b66_1, zB 202 false, zB 228 false, zB 229 true, zR 231 8 0 a84_3.length, (232, .agg [zi x26.Txn.N, zi 3, .nl 8, .r 9 0 v81.length, zi 0, zi 0])]) ([ox [.nl 3, .nl 6, .nl 3, .nl 2], ox [zi 0, .nl 6], ox [.r 10 0 a22_4.length, .r 11 0 a22_5.length, .r 12 0 a22_6.length, .r 13 0 a22_7.length], ox [zi a22_2, .r 7 0 a22_8.length], oa 4 (a22_3.map Note.enc), ox [zi x26.Txn.N, zi 3, .nl 8, .r 9 0 v81.length, zi 0, zi 0], ox x26.bx, oa 6 (a22_8.map Job.enc), oa 6 (a84_3.map Job.enc), oz 1 (v81.map encI), oa 3 (a22_4.map Item.enc), oa 6 (a22_5.map Lock.enc), oa 3 (a22_6.map Doubt.enc), oa 2 (a22_7.map Txn.enc)]) (fun k94 h => ?_) (fun h => ?_)
 try simp only [*, go_sem]
 exact jc () h.e [some 0, some 1, some 2, some 3, some 4, some 5, some 7, some 8, some 6, some 13, some 9, some 10, some 11, some 12]
 refine ck h (fun _ h => ?_)
 try simp only [*, go_sem]
 exact jc (true, (a84_3 ++ [(Job.mk x26.Txn.N 3 [] v81 0 0)])) h.e [some 0, some 1, some 2, some 3, some 4, some 5, some 15, some 6, some 7, some 10, some 11, some 12, some 13, some 9]
 try simp only [*, go_sem]
 exact jc (true, a84_3) h.e [some 0, some 1, some 2, some 3, some 4, some 5, some 6, some 7, some 8, some 9, some 10, some 11, some 12, some 13]
 try simp only [*, go_sem]
 exact jc (a84_1, a84_3) h.e [some 0, some 1, some 2, some 3, some 4, some 5, some 6, some 7, some 8, some 9, some 10, some 11, some 12, some 13]
 try simp only [*, go_sem]
 refine rg6 h (fun b96_1 b96_2 b96_3 b96_4 b96_5 b96_6 => [zI 1 p1, zL 2 8 (p2.map Record.enc), zP 6 0, zP 7 1, zP 12 2, zP 13 3, zR 14 4 0 a22_3.length, zI 15 ((a22_1 : Nat) : Int), zP 22 5, zB 24 b88_1, zI 25 ((a84_2 : Nat) : Int), (177, .one (.p (.q 6 0 1))), (178, .one (.p (.q 6 0 2))), zI 179 x26.Txn.N, zP 180 3, zI 181 a22_2, zB 182 false, (185, .one (.p (.q 6 0 7))), zL 186 1 (x26.Sites.map encI), zI 187 ((x26.Sites.length : Nat) : Int), zB 188 false, (191, .one (.p (.q 3 0 1))), zR 192 7 0 a22_8.length, zI 193 ((a22_8.length : Nat) : Int), zB 194 false, (197, .agg [zi a22_2, .r 7 0 a22_8.length]), (198, .one (.p (.q 6 0 1))), (199, .one (.p (.q 6 0 2))), zI 200 x26.Txn.N, zI 201 b66_1, zB 202 false, zR 235 8 0 b88_2.length, (240, .agg [zi b96_1, zi b96_2, .d (.l 8 (b96_3.map Task.enc)), .d (.l 1 (b96_4.map encI)), zi b96_5, zi b96_6])]) (fun b96_1 b96_2 b96_3 b96_4 b96_5 b96_6 => [ox [.nl 3, .nl 6, .nl 3, .nl 2], ox [zi 0, .nl 6], ox [.r 9 0 a22_4.length, .r 10 0 a22_5.length, .r 11 0 a22_6.length, .r 12 0 a22_7.length], ox [zi a22_2, .r 7 0 a22_8.length], oa 4 (a22_3.map Note.enc), ox [zi x26.Txn.N, zi 3, .nl 8, .r 13 0 v81.length, zi 0, zi 0], ox x26.bx, oa 6 (a22_8.map Job.enc), oa 6 (b88_2.map Job.enc), oa 3 (a22_4.map Item.enc), oa 6 (a22_5.map Lock.enc), oa 3 (a22_6.map Doubt.enc), oa 2 (a22_7.map Txn.enc), oz 1 (v81.map encI)]) (fun k97 h => ?_) (fun b96_1 b96_2 b96_3 b96_4 b96_5 b96_6 h => ?_)
 refine obg h (fun x98 _ _ h => ?_)
 try simp only [*, go_sem]
 exact jc (x98.N, x98.State, x98.Tasks, x98.Asked, x98.Asks, x98.Age) h.e [some 0, some 1, some 2, some 3, some 4, some 5, some 7, some 8, some 6, some 9, some 10, some 11, some 12, some 13]
 refine ck h (fun _ h => ?_)
 have := za hkhb87 hl86
 try simp only [*, go_sem]
 exact lc (b88_1, a84_2 + 1, (b88_2 ++ [(Job.mk b96_1 b96_2 b96_3 b96_4 b96_5 b96_6)])) h.e [some 0, some 1, some 2, some 3, some 4, some 5, some 15, some 6, some 7, some 9, some 10, some 11, some 12, some 13]
 try simp only [*, go_sem]
 exact jc (a84_1, a84_3) h.e [some 0, some 1, some 2, some 3, some 4, some 5, some 6, some 7, some 8, some 9, some 10, some 11, some 12, some 13]
 try simp only [*, go_sem]
 refine jn1 h (fun b101_1 => [zI 1 p1, zL 2 8 (p2.map Record.enc), zP 6 0, zP 7 1, zP 12 2, zP 13 3, zR 14 4 0 a22_3.length, zI 15 ((a22_1 : Nat) : Int), zR 23 5 0 b101_1.length, (177, .one (.p (.q 6 0 1))), (178, .one (.p (.q 6 0 2))), zI 179 x26.Txn.N, zP 180 3, zI 181 a22_2, zB 182 false, (185, .one (.p (.q 6 0 7))), zL 186 1 (x26.Sites.map encI), zI 187 ((x26.Sites.length : Nat) : Int), zB 188 false, (191, .one (.p (.q 3 0 1))), zR 192 7 0 a22_8.length, zI 193 ((a22_8.length : Nat) : Int), zB 194 false, (197, .agg [zi a22_2, .r 7 0 a22_8.length]), (198, .one (.p (.q 6 0 1))), (199, .one (.p (.q 6 0 2))), zI 200 x26.Txn.N, zI 201 b66_1, zB 202 false]) (fun b101_1 => [ox [.nl 3, .nl 6, .nl 3, .nl 2], ox [zi 0, .nl 6], ox [.r 8 0 a22_4.length, .r 9 0 a22_5.length, .r 10 0 a22_6.length, .r 11 0 a22_7.length], ox [zi a22_2, .r 7 0 a22_8.length], oa 4 (a22_3.map Note.enc), oa 6 (b101_1.map Job.enc), ox x26.bx, oa 6 (a22_8.map Job.enc), oa 3 (a22_4.map Item.enc), oa 6 (a22_5.map Lock.enc), oa 3 (a22_6.map Doubt.enc), oa 2 (a22_7.map Txn.enc)]) (fun k102 h => ?_) (fun b101_1 h => ?_)
 refine oin h (fun hb103 hkhb103 h => ?_) (fun hb103 hkhb103 h => ?_)
 try simp only [*, go_sem]
 refine rg0 h ([zI 1 p1, zL 2 8 (p2.map Record.enc), zP 6 0, zP 7 1, zP 12 2, zP 13 3, zR 14 4 0 a22_3.length, zI 15 ((a22_1 : Nat) : Int), (177, .one (.p (.q 5 0 1))), (178, .one (.p (.q 5 0 2))), zI 179 x26.Txn.N, zP 180 3, zI 181 a22_2, zB 182 false, (185, .one (.p (.q 5 0 7))), zL 186 1 (x26.Sites.map encI), zI 187 ((x26.Sites.length : Nat) : Int), zB 188 false, (191, .one (.p (.q 3 0 1))), zR 192 6 0 a22_8.length, zI 193 ((a22_8.length : Nat) : Int), zB 194 false, (197, .agg [zi a22_2, .r 6 0 a22_8.length]), (198, .one (.p (.q 5 0 1))), (199, .one (.p (.q 5 0 2))), zI 200 x26.Txn.N, zI 201 b66_1, zB 202 false, zR 245 7 0 b82_2.length, (246, .agg [zi x26.Txn.N, zi 3, .nl 8, .r 8 0 v81.length, zi 0, zi 0])]) ([ox [.nl 3, .nl 6, .nl 3, .nl 2], ox [zi 0, .nl 6], ox [.r 9 0 a22_4.length, .r 10 0 a22_5.length, .r 11 0 a22_6.length, .r 12 0 a22_7.length], ox [zi a22_2, .r 6 0 a22_8.length], oa 4 (a22_3.map Note.enc), ox x26.bx, oa 6 (a22_8.map Job.enc), oa 6 (b82_2.map Job.enc), oz 1 (v81.map encI), oa 3 (a22_4.map Item.enc), oa 6 (a22_5.map Lock.enc), oa 3 (a22_6.map Doubt.enc), oa 2 (a22_7.map Txn.enc)]) (fun k105 h => ?_) (fun h => ?_)
 try simp only [*, go_sem]
 exact jc () h.e [some 0, some 1, some 2, some 3, some 4, some 7, some 8, some 6, some 13, some 9, some 10, some 11, some 12]
 refine ck h (fun _ h => ?_)
 try simp only [*, go_sem]
 exact jc ((b82_2 ++ [(Job.mk x26.Txn.N 3 [] v81 0 0)])) h.e [some 0, some 1, some 2, some 3, some 4, some 14, some 5, some 6, some 9, some 10, some 11, some 12]
 try simp only [*, go_sem]
 exact jc (b82_2) h.e [some 0, some 1, some 2, some 3, some 4, some 6, some 7, some 8, some 9, some 10, some 11, some 12]
 try simp only [*, go_sem]
 exact jc (a22_2, b101_1) h.e [some 0, some 1, some 2, some 3, some 4, some 8, some 9, some 10, some 11, some 5]
 try simp only [*, go_sem]
 refine jn2 h (fun b107_1 b107_2 => [zI 1 p1, zL 2 8 (p2.map Record.enc), zP 6 0, zP 7 1, zP 12 2, zP 13 3, zR 14 4 0 a22_3.length, zI 15 ((a22_1 : Nat) : Int)]) (fun b107_1 b107_2 => [ox [.nl 3, .nl 6, .nl 3, .nl 2], ox [zi 0, .nl 6], ox [.r 5 0 a22_4.length, .r 6 0 a22_5.length, .r 7 0 a22_6.length, .r 8 0 a22_7.length], ox [zi b107_1, .r 9 0 b107_2.length], oa 4 (a22_3.map Note.enc), oa 3 (a22_4.map Item.enc), oa 6 (a22_5.map Lock.enc), oa 3 (a22_6.map Doubt.enc), oa 2 (a22_7.map Txn.enc), oa 6 (b107_2.map Job.enc)]) (fun k108 h => ?_) (fun b107_1 b107_2 h => ?_)
 refine oi h (fun hb109 h => ?_) (fun hb109 h => ?_)
 try simp only [*, go_sem]
 refine cl h (z0s G (Desk.mk a22_2 a22_8) x26.Txn.N) (fun v110 h => ?_)
 try simp only [*, go_sem]
 refine jn1 h (fun b111_1 => [zI 1 p1, zL 2 8 (p2.map Record.enc), zP 6 0, zP 7 1, zP 12 2, zP 13 3, zR 14 4 0 a22_3.length, zI 15 ((a22_1 : Nat) : Int)]) (fun b111_1 => [ox [.nl 3, .nl 6, .nl 3, .nl 2], ox [zi 0, .nl 6], ox [.r 5 0 a22_4.length, .r 6 0 a22_5.length, .r 7 0 a22_6.length, .r 8 0 a22_7.length], ox [zi a22_2, .r 9 0 b111_1.length], oa 4 (a22_3.map Note.enc), oa 3 (a22_4.map Item.enc), oa 6 (a22_5.map Lock.enc), oa 3 (a22_6.map Doubt.enc), oa 2 (a22_7.map Txn.enc), oa 6 (b111_1.map Job.enc)]) (fun k112 h => ?_) (fun b111_1 h => ?_)
 refine oi h (fun hb113 h => ?_) (fun hb113 h => ?_)
 refine oi h (fun hb114 h => ?_) (fun hb114 h => ?_)
 try simp only [*, go_sem]
 refine rg0 h ([zI 1 p1, zL 2 8 (p2.map Record.enc), zP 6 0, zP 7 1, zP 12 2, zP 13 3, zR 14 4 0 a22_3.length, zI 15 ((a22_1 : Nat) : Int), zI 264 v110, zB 265 true, zR 268 5 0 a22_8.length, zI 269 v110]) ([ox [.nl 3, .nl 6, .nl 3, .nl 2], ox [zi 0, .nl 6], ox [.r 6 0 a22_4.length, .r 7 0 a22_5.length, .r 8 0 a22_6.length, .r 9 0 a22_7.length], ox [zi a22_2, .r 5 0 a22_8.length], oa 4 (a22_3.map Note.enc), oz 6 (a22_8.map Job.enc), oa 3 (a22_4.map Item.enc), oa 6 (a22_5.map Lock.enc), oa 3 (a22_6.map Doubt.enc), oa 2 (a22_7.map Txn.enc)]) (fun k116 h => ?_) (fun h => ?_)
 try simp only [*, go_sem]
 exact jf [.z 10, .z 10] () h.e [some 0, some 1, some 2, some 3, some 4, some 10, some 6, some 7, some 8, some 9]
 try simp only [*, go_sem]
 refine cr h (u1f G a22_8 v110) (fun v117 h => ?_)
 try simp only [*, go_sem]
 exact jc (v117) h.e [some 0, some 1, some 2, some 3, some 4, some 6, some 7, some 8, some 9, some 10]
 try simp only [*, go_sem]
 exact jc (a22_8) h.e [some 0, some 1, some 2, some 3, some 4, some 6, some 7, some 8, some 9, some 10]
 try simp only [*, go_sem]
 exact jc (a22_8) h.e [some 0, some 1, some 2, some 3, some 4, some 6, some 7, some 8, some 9, some 10]
 try simp only [*, go_sem]
 exact jc (a22_2, b111_1) h.e [some 0, some 1, some 2, some 3, some 4, some 5, some 6, some 7, some 8, some 9]
 try simp only [*, go_sem]
 refine jn1 h (fun b118_1 => [zI 1 p1, zL 2 8 (p2.map Record.enc), zP 6 0, zP 7 1, zP 12 2, zP 13 3, zR 14 4 0 a22_3.length, zI 15 ((a22_1 : Nat) : Int)]) (fun b118_1 => [ox [.nl 3, .nl 6, .nl 3, .nl 2], ox [zi 0, .nl 6], ox [.r 5 0 a22_4.length, .r 6 0 a22_5.length, .r 7 0 a22_6.length, .r 8 0 a22_7.length], ox [zi b118_1, .r 9 0 a22_8.length], oa 4 (a22_3.map Note.enc), oa 3 (a22_4.map Item.enc), oa 6 (a22_5.map Lock.enc), oa 3 (a22_6.map Doubt.enc), oa 2 (a22_7.map Txn.enc), oa 6 (a22_8.map Job.enc)]) (fun k119 h => ?_) (fun b118_1 h => ?_)
 refine oi h (fun hb120 h => ?_) (fun hb120 h => ?_)
 refine oi h (fun hb121 h => ?_) (fun hb121 h => ?_)
 try simp only [*, go_sem]
 exact jc (IntKind.i64.wrap (x26.Txn.N + 1)) h.e [some 0, some 1, some 2, some 3, some 4, some 6, some 7, some 8, some 9, some 10]
 try simp only [*, go_sem]
 exact jc (a22_2) h.e [some 0, some 1, some 2, some 3, some 4, some 6, some 7, some 8, some 9, some 10]
 try simp only [*, go_sem]
 exact jc (a22_2) h.e [some 0, some 1, some 2, some 3, some 4, some 6, some 7, some 8, some 9, some 10]
 try simp only [*, go_sem]
 exact jc (b118_1, a22_8) h.e [some 0, some 1, some 2, some 3, some 4, some 5, some 6, some 7, some 8, some 9]
 try simp only [*, go_sem]
 exact jc (b107_1, b107_2) h.e [some 0, some 1, some 2, some 3, some 4, some 5, some 6, some 7, some 8, some 9]
 try simp only [*, go_sem]
 exact jc (b63_1, a22_3, a22_4, a22_5, a22_6, a22_7, b63_2) h.e [some 0, some 1, some 2, some 3, some 4, some 5, some 6, some 7, some 8, some 9]
 try simp only [*, go_sem]
 exact jc (b37_1, b37_2, b37_3, b37_4, b37_5, b37_6, b37_7) h.e [some 0, some 1, some 2, some 3, some 4, some 5, some 6, some 7, some 8, some 9]
 have := za hkx26 hl24
 try simp only [*, go_sem]
 exact lc (a22_1 + 1, b27_1, b27_2, b27_3, b27_4, b27_5, b27_6, b27_7) h.e [some 0, some 1, some 2, some 3, some 4, some 5, some 6, some 7, some 8, some 9]
 try simp only [*, go_sem]
 exact jc (a22_2, a22_3, a22_4, a22_5, a22_6, a22_7, a22_8) h.e [some 0, some 1, some 2, some 3, some 4, some 5, some 6, some 7, some 8, some 9]
 try simp only [*, go_sem]
 refine jn0 h ([zP 6 0, zP 7 1, zR 8 2 0 b20_2.length, zI 9 0]) ([ox [.r 3 0 b20_3.length, .r 4 0 b20_4.length, .r 5 0 b20_5.length, .r 6 0 b20_6.length], ox [zi b20_1, .r 7 0 b20_7.length], oa 4 (b20_2.map Note.enc), oa 3 (b20_3.map Item.enc), oa 6 (b20_4.map Lock.enc), oa 3 (b20_5.map Doubt.enc), oa 2 (b20_6.map Txn.enc), oa 6 (b20_7.map Job.enc)]) (fun k124 h => ?_) (fun h => ?_)
 try simp only [*, go_sem]
 refine ⟨?_, ?_, ?_, ?_, ?_, ?_, ?_, ?_, ?_, ?_, ?_, ?_, ?_, ?_, ?_⟩
 try simp only [*, go_sem]
 exact jc () h.e [some 0, some 1, some 4, some 5, some 6, some 7, some 8, some 9]
 try simp only [*, go_sem]
 exact jc () h.e [some 0, some 1, some 4, some 5, some 6, some 7, some 8, some 9]
 try simp only [*, go_sem]
 exact jc () h.e [some 0, some 1, some 4, some 5, some 6, some 7, some 8, some 9]
 try simp only [*, go_sem]
 exact jc () h.e [some 0, some 1, some 4, some 5, some 6, some 7, some 8, some 9]
 try simp only [*, go_sem]
 exact jc () h.e [some 0, some 1, some 4, some 5, some 6, some 7, some 8, some 9]
 try simp only [*, go_sem]
 exact jc () h.e [some 0, some 1, some 4, some 5, some 6, some 7, some 8, some 9]
 try simp only [*, go_sem]
 exact jc () h.e [some 0, some 1, some 4, some 5, some 6, some 7, some 8, some 9]
 try simp only [*, go_sem]
 exact jc () h.e [some 0, some 1, some 4, some 5, some 6, some 7, some 8, some 9]
 try simp only [*, go_sem]
 exact jc () h.e [some 0, some 1, some 4, some 5, some 6, some 7, some 8, some 9]
 try simp only [*, go_sem]
 exact jc () h.e [some 0, some 1, some 4, some 5, some 6, some 7, some 8, some 9]
 try simp only [*, go_sem]
 exact jc () h.e [some 0, some 1, some 4, some 5, some 6, some 7, some 8, some 9]
 try simp only [*, go_sem]
 exact jc () h.e [some 0, some 1, some 4, some 5, some 6, some 7, some 8, some 9]
 try simp only [*, go_sem]
 exact jc () h.e [some 0, some 1, some 4, some 5, some 6, some 7, some 8, some 9]
 try simp only [*, go_sem]
 exact jc () h.e [some 0, some 1, some 4, some 5, some 6, some 7, some 8, some 9]
 try simp only [*, go_sem]
 exact jc () h.e [some 0, some 1, some 4, some 5, some 6, some 7, some 8, some 9]
 cases h.e
 simp only [*, go_sem, mA, mS]
def wl (p0 : List Txn) (p1 : List Txn) (k5 : Option (Bool)) : Nat → Nat → Option (Bool)
 | 0, _ => none
 | n7 + 1, a6_1 => (if (decide (a6_1 < p0.length)) = true then (Option.bind (p0[a6_1]?) fun x10 => (Option.bind (p1[a6_1]?) fun x11 => (if (!((x10.Site == x11.Site) && (x10.N == x11.N))) = true then (some false) else (wl p0 p1 k5 n7 (a6_1 + 1))))) else k5)
def y0b (p0 : List Txn) (p1 : List Txn) : Option (Bool) := (if (((p0.length : Nat) : Int) != ((p1.length : Nat) : Int)) = true then (some false) else (withK (some true) fun k5 => (wl p0 p1 k5 (p0.length + 1) 0)))
def F36 : VFn := ⟨26, (.seq (.reg [vo 4 (.mv (cb false))]) (.seq (.seq (.reg [vm 6 0, ln 7 6, vm 8 1, ln 9 8, bt 10 .neq 7 9]) (.cond (.t 10) (.seq (.reg [vo 4 (.mv (cb false))]) .ret) .skip)) (.seq (.seq (.reg [mi 5 0]) (.wk (.block 0 (.loop (.seq (.seq (.reg [vm 11 5, vm 12 0, ln 13 12, bt 14 .lss 11 13]) (.cond (.t 14) .skip (.exit 0))) (.seq (.block 1 (.seq (.draw [vd (vm 17 0) 0, vd (vm 18 5) 0, vd (xa 19 2 17 18) 3, vd (vl 20 2 19) 7, vd (vm 21 1) 0, vd (vm 22 5) 0, vd (xa 23 2 21 22) 48, vd (vl 24 2 23) 112, vd (vo 25 (.eqs true [.i, .i] (.t 20) (.t 24))) 255]) (.cond (.t 25) (.seq (.reg [vo 4 (.mv (cb false))]) .ret) .skip))) (.reg [vm 15 5, bk 16 .add 15 1, vm 5 16]))))))) (.seq (.reg [vo 4 (.mv (cb true))]) .ret)))), [.t 4]⟩
theorem low36 : lowF Tryd.prog 36 = some F36.strip := by kernel_rfl
theorem fok36 : fOk Tryd.prog 36 = true := by kernel_rfl
theorem z1d (p0 : List Txn) (p1 : List Txn) (r : Bool) (h : y0b p0 p1 = some r) : FnRO Tryd.prog G 36 [.one (.d (.l 2 (p0.map Txn.enc))), .one (.d (.l 2 (p1.map Txn.enc)))] (fun rs => rs = [.one (.b r)]) := by
 refine FnRO.of' low36 fok36 (by simp [F36]) ?_
 rw [y0b] at h
 replace h := Hd.mk h
 simp only [F36, go_sem]
 try simp only [*, go_sem]
 intro hl1
 try simp only [*, go_sem]
 intro hl2
 refine oi h (fun hb3 h => ?_) (fun hb3 h => ?_)
 cases h.e
 simp only [*, go_sem, mA, mS]
 try simp only [*, go_sem]
 refine jn0 h ([]) ([]) (fun k5 h => ?_) (fun h => ?_)
 try simp only [*, go_sem]
 refine lp1 (wl p0 p1 k5) (fun a6_1 => [zL 0 2 (p0.map Txn.enc), zL 1 2 (p1.map Txn.enc), zI 5 ((a6_1 : Nat) : Int)]) (fun a6_1 => []) h [] [] (fun n7 a6_1 h => ?_) (by intros; rw [wl])
 rw [wl] at h
 try simp only [*, go_sem]
 intro hl8
 refine oi h (fun hb9 h => ?_) (fun hb9 h => ?_)
 have := of_decide_eq_true hb9
 refine obg h (fun x10 _ hkx10 h => ?_)
 refine obg h (fun x11 _ _ h => ?_)
 refine oin h (fun hb12 hkhb12 h => ?_) (fun hb12 hkhb12 h => ?_)
 try simp only [*, go_sem]
 cases h.e
 simp only [*, go_sem, mA, mS]
 try simp only [*, go_sem]
 have := za hkx10 hl1
 try simp only [*, go_sem]
 exact lc (a6_1 + 1) h.e []
 try simp only [*, go_sem]
 exact jc () h.e []
 cases h.e
 simp only [*, go_sem, mA, mS]
def xk (p0 : Store) (p1 : Store) (k13 : Option (Bool)) : Nat → Nat → Option (Bool)
 | 0, _ => none
 | n15 + 1, a14_1 => (if (decide (a14_1 < p0.Items.length)) = true then (Option.bind (p0.Items[a14_1]?) fun x18 => (Option.bind (p1.Items[a14_1]?) fun x19 => (if (!((x18.Key == x19.Key) && ((x18.Value == x19.Value) && (x18.Version == x19.Version)))) = true then (some false) else (xk p0 p1 k13 n15 (a14_1 + 1))))) else k13)
def yk (p0 : Store) (p1 : Store) (k23 : Option (Bool)) : Nat → Nat → Option (Bool)
 | 0, _ => none
 | n25 + 1, a24_1 => (if (decide (a24_1 < p0.Locks.length)) = true then (Option.bind (p0.Locks[a24_1]?) fun x28 => (Option.bind (p1.Locks[a24_1]?) fun x29 => (if (!((x28.Txn.Site == x29.Txn.Site) && ((x28.Txn.N == x29.Txn.N) && ((x28.Key == x29.Key) && ((x28.Write == x29.Write) && ((x28.Value == x29.Value) && (x28.Ask == x29.Ask))))))) = true then (some false) else (yk p0 p1 k23 n25 (a24_1 + 1))))) else k23)
def zk (p0 : Store) (p1 : Store) (k33 : Option (Bool)) : Nat → Nat → Option (Bool)
 | 0, _ => none
 | n35 + 1, a34_1 => (if (decide (a34_1 < p0.Doubts.length)) = true then (Option.bind (p0.Doubts[a34_1]?) fun x38 => (Option.bind (p1.Doubts[a34_1]?) fun x39 => (if (!((x38.Txn.Site == x39.Txn.Site) && ((x38.Txn.N == x39.Txn.N) && (x38.Age == x39.Age)))) = true then (some false) else (zk p0 p1 k33 n35 (a34_1 + 1))))) else k33)
def yy (p0 : Store) (p1 : Store) : Option (Bool) := (if (((p0.Items.length : Nat) : Int) != ((p1.Items.length : Nat) : Int)) = true then (some false) else (if (((p0.Locks.length : Nat) : Int) != ((p1.Locks.length : Nat) : Int)) = true then (some false) else (if (((p0.Doubts.length : Nat) : Int) != ((p1.Doubts.length : Nat) : Int)) = true then (some false) else (Option.bind (y0b p0.Over p1.Over) fun v10 => (if (!v10) = true then (some false) else (withK (withK (withK (some true) fun k33 => (zk p0 p1 k33 (p0.Doubts.length + 1) 0)) fun k23 => (yk p0 p1 k23 (p0.Locks.length + 1) 0)) fun k13 => (xk p0 p1 k13 (p0.Items.length + 1) 0)))))))
def F10 : VFn := ⟨95, (.seq (.reg [vo 2 (.box 4 (.t 0)), vo 3 (.box 4 (.t 1)), vo 4 (.mv (cb false))]) (.seq (.seq (.reg [vf 8 0 2, vs 9 8, ln 10 9, vf 11 0 3, vs 12 11, ln 13 12, bt 14 .neq 10 13, vm 15 14, gf 16 15 (.fa 1 (.t 2)), gf 17 15 (.ld false 1 (.t 16)), gf 18 15 (.len (.t 17)), gf 19 15 (.fa 1 (.t 3)), gf 20 15 (.ld false 1 (.t 19)), gf 21 15 (.len (.t 20)), gf 22 15 (.bin .i .neq (.t 18) (.t 21)), vo 23 (.pick (.t 15) (cb true) (.t 22)), vm 24 23, gf 25 24 (.fa 2 (.t 2)), gf 26 24 (.ld false 1 (.t 25)), gf 27 24 (.len (.t 26)), gf 28 24 (.fa 2 (.t 3)), gf 29 24 (.ld false 1 (.t 28)), gf 30 24 (.len (.t 29)), gf 31 24 (.bin .i .neq (.t 27) (.t 30)), vo 32 (.pick (.t 24) (cb true) (.t 31)), vm 33 32, gf 34 33 (.fa 3 (.t 2)), gf 35 33 (.ld false 1 (.t 34)), gf 36 33 (.fa 3 (.t 3)), gf 37 33 (.ld false 1 (.t 36)), gf 38 33 (.call 36 [(.t 35), (.t 37)]), gf 39 33 (.un .not (.t 38)), vo 40 (.pick (.t 33) (cb true) (.t 39))]) (.cond (.t 40) (.seq (.reg [vo 4 (.mv (cb false))]) .ret) .skip)) (.seq (.seq (.reg [mi 5 0]) (.wk (.block 0 (.loop (.seq (.seq (.reg [vm 41 5, vf 42 0 2, vs 43 42, ln 44 43, bt 45 .lss 41 44]) (.cond (.t 45) .skip (.exit 0))) (.seq (.block 1 (.seq (.draw [vd (vf 48 0 2) 0, vd (vs 49 48) 1, vd (vm 50 5) 0, vd (xa 51 3 49 50) 7, vd (vl 52 3 51) 15, vd (vf 53 0 3) 0, vd (vs 54 53) 32, vd (vm 55 5) 0, vd (xa 56 3 54 55) 224, vd (vl 57 3 56) 480, vd (vo 58 (.eqs true [.i, .i, .i] (.t 52) (.t 57))) 1023]) (.cond (.t 58) (.seq (.reg [vo 4 (.mv (cb false))]) .ret) .skip))) (.reg [vm 46 5, bk 47 .add 46 1, vm 5 47]))))))) (.seq (.seq (.reg [mi 6 0]) (.wk (.block 2 (.loop (.seq (.seq (.reg [vm 59 6, vf 60 1 2, vs 61 60, ln 62 61, bt 63 .lss 59 62]) (.cond (.t 63) .skip (.exit 2))) (.seq (.block 3 (.seq (.draw [vd (vf 66 1 2) 0, vd (vs 67 66) 1, vd (vm 68 6) 0, vd (xa 69 6 67 68) 7, vd (vl 70 6 69) 15, vd (vf 71 1 3) 0, vd (vs 72 71) 32, vd (vm 73 6) 0, vd (xa 74 6 72 73) 224, vd (vl 75 6 74) 480, vd (vo 76 (.eqs true [.i, .i, .i, .b, .i, .i] (.t 70) (.t 75))) 1023]) (.cond (.t 76) (.seq (.reg [vo 4 (.mv (cb false))]) .ret) .skip))) (.reg [vm 64 6, bk 65 .add 64 1, vm 6 65]))))))) (.seq (.seq (.reg [mi 7 0]) (.wk (.block 4 (.loop (.seq (.seq (.reg [vm 77 7, vf 78 2 2, vs 79 78, ln 80 79, bt 81 .lss 77 80]) (.cond (.t 81) .skip (.exit 4))) (.seq (.block 5 (.seq (.draw [vd (vf 84 2 2) 0, vd (vs 85 84) 1, vd (vm 86 7) 0, vd (xa 87 3 85 86) 7, vd (vl 88 3 87) 15, vd (vf 89 2 3) 0, vd (vs 90 89) 32, vd (vm 91 7) 0, vd (xa 92 3 90 91) 224, vd (vl 93 3 92) 480, vd (vo 94 (.eqs true [.i, .i, .i] (.t 88) (.t 93))) 1023]) (.cond (.t 94) (.seq (.reg [vo 4 (.mv (cb false))]) .ret) .skip))) (.reg [vm 82 7, bk 83 .add 82 1, vm 7 83]))))))) (.seq (.reg [vo 4 (.mv (cb true))]) .ret)))))), [.t 4]⟩
theorem low10 : lowF Tryd.prog 10 = some F10.strip := by kernel_rfl
theorem fok10 : fOk Tryd.prog 10 = true := by kernel_rfl
theorem x0y (p0 : Store) (p1 : Store) (r : Bool) (h : yy p0 p1 = some r) : FnRO Tryd.prog G 10 [.agg p0.bx, .agg p1.bx] (fun rs => rs = [.one (.b r)]) := by
 refine FnRO.of' low10 fok10 (by simp [F10]) ?_
 rw [yy] at h
 replace h := Hd.mk h
 simp only [F10, go_sem]
 try simp only [*, go_sem]
 intro hl1
 try simp only [*, go_sem]
 intro hl2
 refine oi h (fun hb3 h => ?_) (fun hb3 h => ?_)
 cases h.e
 simp only [*, go_sem, mA, mS]
 try simp only [*, go_sem]
 intro hl4
 try simp only [*, go_sem]
 intro hl5
 refine oi h (fun hb6 h => ?_) (fun hb6 h => ?_)
 cases h.e
 simp only [*, go_sem, mA, mS]
 try simp only [*, go_sem]
 intro hl7
 try simp only [*, go_sem]
 intro hl8
 refine oi h (fun hb9 h => ?_) (fun hb9 h => ?_)
 cases h.e
 simp only [*, go_sem, mA, mS]
 try simp only [*, go_sem]
 refine cr h (z1d G p0.Over p1.Over) (fun v10 h => ?_)
 refine oin h (fun hb11 hkhb11 h => ?_) (fun hb11 hkhb11 h => ?_)
 cases h.e
 simp only [*, go_sem, mA, mS]
 try simp only [*, go_sem]
 refine jn0 h ([zP 2 0, zP 3 1]) ([ox p0.bx, ox p1.bx]) (fun k13 h => ?_) (fun h => ?_)
 try simp only [*, go_sem]
 refine lp1 (xk p0 p1 k13) (fun a14_1 => [zP 2 0, zP 3 1, zI 5 ((a14_1 : Nat) : Int)]) (fun a14_1 => [ox p0.bx, ox p1.bx]) h [] [some 0, some 1] (fun n15 a14_1 h => ?_) (by intros; rw [xk])
 rw [xk] at h
 try simp only [*, go_sem]
 intro hl16
 refine oi h (fun hb17 h => ?_) (fun hb17 h => ?_)
 have := of_decide_eq_true hb17
 refine obg h (fun x18 _ hkx18 h => ?_)
 refine obg h (fun x19 _ _ h => ?_)
 refine oin h (fun hb20 hkhb20 h => ?_) (fun hb20 hkhb20 h => ?_)
 try simp only [*, go_sem]
 cases h.e
 simp only [*, go_sem, mA, mS]
 try simp only [*, go_sem]
 have := za hkx18 hl1
 try simp only [*, go_sem]
 exact lc (a14_1 + 1) h.e [some 0, some 1]
 try simp only [*, go_sem]
 exact jc () h.e [some 0, some 1]
 try simp only [*, go_sem]
 refine jn0 h ([zP 2 0, zP 3 1]) ([ox p0.bx, ox p1.bx]) (fun k23 h => ?_) (fun h => ?_)
 try simp only [*, go_sem]
 refine lp1 (yk p0 p1 k23) (fun a24_1 => [zP 2 0, zP 3 1, zI 6 ((a24_1 : Nat) : Int)]) (fun a24_1 => [ox p0.bx, ox p1.bx]) h [] [some 0, some 1] (fun n25 a24_1 h => ?_) (by intros; rw [yk])
 rw [yk] at h
 try simp only [*, go_sem]
 intro hl26
 refine oi h (fun hb27 h => ?_) (fun hb27 h => ?_)
 have := of_decide_eq_true hb27
 refine obg h (fun x28 _ hkx28 h => ?_)
 refine obg h (fun x29 _ _ h => ?_)
 refine oin h (fun hb30 hkhb30 h => ?_) (fun hb30 hkhb30 h => ?_)
 try simp only [*, go_sem]
 cases h.e
 simp only [*, go_sem, mA, mS]
 try simp only [*, go_sem]
 have := za hkx28 hl4
 try simp only [*, go_sem]
 exact lc (a24_1 + 1) h.e [some 0, some 1]
 try simp only [*, go_sem]
 exact jc () h.e [some 0, some 1]
 try simp only [*, go_sem]
 refine jn0 h ([]) ([]) (fun k33 h => ?_) (fun h => ?_)
 try simp only [*, go_sem]
 refine lp1 (zk p0 p1 k33) (fun a34_1 => [zP 2 0, zP 3 1, zI 7 ((a34_1 : Nat) : Int)]) (fun a34_1 => [ox p0.bx, ox p1.bx]) h [] [some 0, some 1] (fun n35 a34_1 h => ?_) (by intros; rw [zk])
 rw [zk] at h
 try simp only [*, go_sem]
 intro hl36
 refine oi h (fun hb37 h => ?_) (fun hb37 h => ?_)
 have := of_decide_eq_true hb37
 refine obg h (fun x38 _ hkx38 h => ?_)
 refine obg h (fun x39 _ _ h => ?_)
 refine oin h (fun hb40 hkhb40 h => ?_) (fun hb40 hkhb40 h => ?_)
 try simp only [*, go_sem]
 cases h.e
 simp only [*, go_sem, mA, mS]
 try simp only [*, go_sem]
 have := za hkx38 hl7
 try simp only [*, go_sem]
 exact lc (a34_1 + 1) h.e [some 0, some 1]
 try simp only [*, go_sem]
 exact jc () h.e []
 cases h.e
 simp only [*, go_sem, mA, mS]
def uj (p0 : List Task) (p1 : List Task) (k5 : Option (Bool)) : Nat → Nat → Option (Bool)
 | 0, _ => none
 | n7 + 1, a6_1 => (if (decide (a6_1 < p0.length)) = true then (Option.bind (p0[a6_1]?) fun x10 => (Option.bind (p1[a6_1]?) fun x11 => (if (!((x10.Write == x11.Write) && ((x10.Label == x11.Label) && ((x10.Key == x11.Key) && ((x10.Value == x11.Value) && ((x10.Version == x11.Version) && ((x10.Ask == x11.Ask) && ((x10.Done == x11.Done) && (x10.Sure == x11.Sure))))))))) = true then (some false) else (uj p0 p1 k5 n7 (a6_1 + 1))))) else k5)
def zy (p0 : List Task) (p1 : List Task) : Option (Bool) := (if (((p0.length : Nat) : Int) != ((p1.length : Nat) : Int)) = true then (some false) else (withK (some true) fun k5 => (uj p0 p1 k5 (p0.length + 1) 0)))
def F37 : VFn := ⟨26, (.seq (.reg [vo 4 (.mv (cb false))]) (.seq (.seq (.reg [vm 6 0, ln 7 6, vm 8 1, ln 9 8, bt 10 .neq 7 9]) (.cond (.t 10) (.seq (.reg [vo 4 (.mv (cb false))]) .ret) .skip)) (.seq (.seq (.reg [mi 5 0]) (.wk (.block 0 (.loop (.seq (.seq (.reg [vm 11 5, vm 12 0, ln 13 12, bt 14 .lss 11 13]) (.cond (.t 14) .skip (.exit 0))) (.seq (.block 1 (.seq (.draw [vd (vm 17 0) 0, vd (vm 18 5) 0, vd (xa 19 8 17 18) 3, vd (vl 20 8 19) 7, vd (vm 21 1) 0, vd (vm 22 5) 0, vd (xa 23 8 21 22) 48, vd (vl 24 8 23) 112, vd (vo 25 (.eqs true [.b, .i, .i, .i, .i, .i, .b, .b] (.t 20) (.t 24))) 255]) (.cond (.t 25) (.seq (.reg [vo 4 (.mv (cb false))]) .ret) .skip))) (.reg [vm 15 5, bk 16 .add 15 1, vm 5 16]))))))) (.seq (.reg [vo 4 (.mv (cb true))]) .ret)))), [.t 4]⟩
theorem low37 : lowF Tryd.prog 37 = some F37.strip := by kernel_rfl
theorem fok37 : fOk Tryd.prog 37 = true := by kernel_rfl
theorem y0y (p0 : List Task) (p1 : List Task) (r : Bool) (h : zy p0 p1 = some r) : FnRO Tryd.prog G 37 [.one (.d (.l 8 (p0.map Task.enc))), .one (.d (.l 8 (p1.map Task.enc)))] (fun rs => rs = [.one (.b r)]) := by
 refine FnRO.of' low37 fok37 (by simp [F37]) ?_
 rw [zy] at h
 replace h := Hd.mk h
 simp only [F37, go_sem]
 try simp only [*, go_sem]
 intro hl1
 try simp only [*, go_sem]
 intro hl2
 refine oi h (fun hb3 h => ?_) (fun hb3 h => ?_)
 cases h.e
 simp only [*, go_sem, mA, mS]
 try simp only [*, go_sem]
 refine jn0 h ([]) ([]) (fun k5 h => ?_) (fun h => ?_)
 try simp only [*, go_sem]
 refine lp1 (uj p0 p1 k5) (fun a6_1 => [zL 0 8 (p0.map Task.enc), zL 1 8 (p1.map Task.enc), zI 5 ((a6_1 : Nat) : Int)]) (fun a6_1 => []) h [] [] (fun n7 a6_1 h => ?_) (by intros; rw [uj])
 rw [uj] at h
 try simp only [*, go_sem]
 intro hl8
 refine oi h (fun hb9 h => ?_) (fun hb9 h => ?_)
 have := of_decide_eq_true hb9
 refine obg h (fun x10 _ hkx10 h => ?_)
 refine obg h (fun x11 _ _ h => ?_)
 refine oin h (fun hb12 hkhb12 h => ?_) (fun hb12 hkhb12 h => ?_)
 try simp only [*, go_sem]
 cases h.e
 simp only [*, go_sem, mA, mS]
 try simp only [*, go_sem]
 have := za hkx10 hl1
 try simp only [*, go_sem]
 exact lc (a6_1 + 1) h.e []
 try simp only [*, go_sem]
 exact jc () h.e []
 cases h.e
 simp only [*, go_sem, mA, mS]
def ul (p0 : List Int) (p1 : List Int) (k5 : Option (Bool)) : Nat → Nat → Option (Bool)
 | 0, _ => none
 | n7 + 1, a6_1 => (if (decide (a6_1 < p0.length)) = true then (Option.bind (p0[a6_1]?) fun x10 => (Option.bind (p1[a6_1]?) fun x11 => (if (x10 != x11) = true then (some false) else (ul p0 p1 k5 n7 (a6_1 + 1))))) else k5)
def x0b (p0 : List Int) (p1 : List Int) : Option (Bool) := (if (((p0.length : Nat) : Int) != ((p1.length : Nat) : Int)) = true then (some false) else (withK (some true) fun k5 => (ul p0 p1 k5 (p0.length + 1) 0)))
def F38 : VFn := ⟨26, (.seq (.reg [vo 4 (.mv (cb false))]) (.seq (.seq (.reg [vm 6 0, ln 7 6, vm 8 1, ln 9 8, bt 10 .neq 7 9]) (.cond (.t 10) (.seq (.reg [vo 4 (.mv (cb false))]) .ret) .skip)) (.seq (.seq (.reg [mi 5 0]) (.wk (.block 0 (.loop (.seq (.seq (.reg [vm 11 5, vm 12 0, ln 13 12, bt 14 .lss 11 13]) (.cond (.t 14) .skip (.exit 0))) (.seq (.block 1 (.seq (.draw [vd (vm 17 0) 0, vd (vm 18 5) 0, vd (xa 19 1 17 18) 3, vd (vs 20 19) 7, vd (vm 21 1) 0, vd (vm 22 5) 0, vd (xa 23 1 21 22) 48, vd (vs 24 23) 112, vd (bt 25 .neq 20 24) 255]) (.cond (.t 25) (.seq (.reg [vo 4 (.mv (cb false))]) .ret) .skip))) (.reg [vm 15 5, bk 16 .add 15 1, vm 5 16]))))))) (.seq (.reg [vo 4 (.mv (cb true))]) .ret)))), [.t 4]⟩
theorem low38 : lowF Tryd.prog 38 = some F38.strip := by kernel_rfl
theorem fok38 : fOk Tryd.prog 38 = true := by kernel_rfl
theorem y1d (p0 : List Int) (p1 : List Int) (r : Bool) (h : x0b p0 p1 = some r) : FnRO Tryd.prog G 38 [.one (.d (.l 1 (p0.map encI))), .one (.d (.l 1 (p1.map encI)))] (fun rs => rs = [.one (.b r)]) := by
 refine FnRO.of' low38 fok38 (by simp [F38]) ?_
 rw [x0b] at h
 replace h := Hd.mk h
 simp only [F38, go_sem]
 try simp only [*, go_sem]
 intro hl1
 try simp only [*, go_sem]
 intro hl2
 refine oi h (fun hb3 h => ?_) (fun hb3 h => ?_)
 cases h.e
 simp only [*, go_sem, mA, mS]
 try simp only [*, go_sem]
 refine jn0 h ([]) ([]) (fun k5 h => ?_) (fun h => ?_)
 try simp only [*, go_sem]
 refine lp1 (ul p0 p1 k5) (fun a6_1 => [zL 0 1 (p0.map encI), zL 1 1 (p1.map encI), zI 5 ((a6_1 : Nat) : Int)]) (fun a6_1 => []) h [] [] (fun n7 a6_1 h => ?_) (by intros; rw [ul])
 rw [ul] at h
 try simp only [*, go_sem]
 intro hl8
 refine oi h (fun hb9 h => ?_) (fun hb9 h => ?_)
 have := of_decide_eq_true hb9
 refine obg h (fun x10 _ hkx10 h => ?_)
 refine obg h (fun x11 _ _ h => ?_)
 refine oi h (fun hb12 h => ?_) (fun hb12 h => ?_)
 cases h.e
 simp only [*, go_sem, mA, mS]
 have := za hkx10 hl1
 try simp only [*, go_sem]
 exact lc (a6_1 + 1) h.e []
 try simp only [*, go_sem]
 exact jc () h.e []
 cases h.e
 simp only [*, go_sem, mA, mS]
def zm (p0 : Desk) (p1 : Desk) (k6 : Option (Bool)) : Nat → Nat → Option (Bool)
 | 0, _ => none
 | n8 + 1, a7_1 => (if (decide (a7_1 < p0.Jobs.length)) = true then (Option.bind (p0.Jobs[a7_1]?) fun x11 => (Option.bind (p1.Jobs[a7_1]?) fun x12 => (if (x11.N != x12.N) = true then (some false) else (if (x11.State != x12.State) = true then (some false) else (if (x11.Asks != x12.Asks) = true then (some false) else (if (x11.Age != x12.Age) = true then (some false) else (Option.bind (zy x11.Tasks x12.Tasks) fun v17 => (if (!v17) = true then (some false) else (Option.bind (x0b x11.Asked x12.Asked) fun v19 => (if (!v19) = true then (some false) else (zm p0 p1 k6 n8 (a7_1 + 1)))))))))))) else k6)
def w0b (p0 : Desk) (p1 : Desk) : Option (Bool) := (if (p0.Next != p1.Next) = true then (some false) else (if (((p0.Jobs.length : Nat) : Int) != ((p1.Jobs.length : Nat) : Int)) = true then (some false) else (withK (some true) fun k6 => (zm p0 p1 k6 (p0.Jobs.length + 1) 0))))
def F11 : VFn := ⟨81, (.seq (.reg [vo 2 (.box 2 (.t 0)), vo 3 (.box 2 (.t 1)), vo 4 (.mv (cb false))]) (.seq (.seq (.reg [vf 8 0 2, vs 9 8, vf 10 0 3, vs 11 10, bt 12 .neq 9 11, vm 13 12, gf 14 13 (.fa 1 (.t 2)), gf 15 13 (.ld false 1 (.t 14)), gf 16 13 (.len (.t 15)), gf 17 13 (.fa 1 (.t 3)), gf 18 13 (.ld false 1 (.t 17)), gf 19 13 (.len (.t 18)), gf 20 13 (.bin .i .neq (.t 16) (.t 19)), vo 21 (.pick (.t 13) (cb true) (.t 20))]) (.cond (.t 21) (.seq (.reg [vo 4 (.mv (cb false))]) .ret) .skip)) (.seq (.seq (.reg [mi 5 0]) (.wk (.block 0 (.loop (.seq (.seq (.reg [vm 22 5, vf 23 1 2, vs 24 23, ln 25 24, bt 26 .lss 22 25]) (.cond (.t 26) .skip (.exit 0))) (.seq (.block 1 (.seq (.reg [vf 29 1 2, vs 30 29, vm 31 5, xa 32 6 30 31, vl 33 6 32, vo 6 (.alloc [(zi 0), (zi 0), (.nl 8), (.nl 1), (zi 0), (zi 0)]), vu (.st 6 (.t 6) (.t 33))]) (.seq (.reg [vf 34 1 3, vs 35 34, vm 36 5, xa 37 6 35 36, vl 38 6 37, vo 7 (.alloc [(zi 0), (zi 0), (.nl 8), (.nl 1), (zi 0), (zi 0)]), vu (.st 6 (.t 7) (.t 38))]) (.seq (.reg [vf 39 0 6, vs 40 39, vf 41 0 7, vs 42 41, bt 43 .neq 40 42, vm 44 43, gf 45 44 (.fa 1 (.t 6)), gf 46 44 (.ld false 1 (.t 45)), gf 47 44 (.fa 1 (.t 7)), gf 48 44 (.ld false 1 (.t 47)), gf 49 44 (.bin .i .neq (.t 46) (.t 48)), vo 50 (.pick (.t 44) (cb true) (.t 49)), vm 51 50, gf 52 51 (.fa 4 (.t 6)), gf 53 51 (.ld false 1 (.t 52)), gf 54 51 (.fa 4 (.t 7)), gf 55 51 (.ld false 1 (.t 54)), gf 56 51 (.bin .i .neq (.t 53) (.t 55)), vo 57 (.pick (.t 51) (cb true) (.t 56)), vm 58 57, gf 59 58 (.fa 5 (.t 6)), gf 60 58 (.ld false 1 (.t 59)), gf 61 58 (.fa 5 (.t 7)), gf 62 58 (.ld false 1 (.t 61)), gf 63 58 (.bin .i .neq (.t 60) (.t 62)), vo 64 (.pick (.t 58) (cb true) (.t 63)), vm 65 64, gf 66 65 (.fa 2 (.t 6)), gf 67 65 (.ld false 1 (.t 66)), gf 68 65 (.fa 2 (.t 7)), gf 69 65 (.ld false 1 (.t 68)), gf 70 65 (.call 37 [(.t 67), (.t 69)]), gf 71 65 (.un .not (.t 70)), vo 72 (.pick (.t 65) (cb true) (.t 71)), vm 73 72, gf 74 73 (.fa 3 (.t 6)), gf 75 73 (.ld false 1 (.t 74)), gf 76 73 (.fa 3 (.t 7)), gf 77 73 (.ld false 1 (.t 76)), gf 78 73 (.call 38 [(.t 75), (.t 77)]), gf 79 73 (.un .not (.t 78)), vo 80 (.pick (.t 73) (cb true) (.t 79))]) (.cond (.t 80) (.seq (.reg [vo 4 (.mv (cb false))]) .ret) .skip))))) (.reg [vm 27 5, bk 28 .add 27 1, vm 5 28]))))))) (.seq (.reg [vo 4 (.mv (cb true))]) .ret)))), [.t 4]⟩
theorem low11 : lowF Tryd.prog 11 = some F11.strip := by kernel_rfl
theorem fok11 : fOk Tryd.prog 11 = true := by kernel_rfl
theorem x1d (p0 : Desk) (p1 : Desk) (r : Bool) (h : w0b p0 p1 = some r) : FnRO Tryd.prog G 11 [.agg p0.bx, .agg p1.bx] (fun rs => rs = [.one (.b r)]) := by
 refine FnRO.of' low11 fok11 (by simp [F11]) ?_
 rw [w0b] at h
 replace h := Hd.mk h
 simp only [F11, go_sem]
 refine oi h (fun hb1 h => ?_) (fun hb1 h => ?_)
 cases h.e
 simp only [*, go_sem, mA, mS]
 try simp only [*, go_sem]
 intro hl2
 try simp only [*, go_sem]
 intro hl3
 refine oi h (fun hb4 h => ?_) (fun hb4 h => ?_)
 cases h.e
 simp only [*, go_sem, mA, mS]
 try simp only [*, go_sem]
 refine jn0 h ([]) ([]) (fun k6 h => ?_) (fun h => ?_)
 try simp only [*, go_sem]
 refine lp1 (zm p0 p1 k6) (fun a7_1 => [zP 2 0, zP 3 1, zI 5 ((a7_1 : Nat) : Int)]) (fun a7_1 => [ox p0.bx, ox p1.bx]) h [] [some 0, some 1] (fun n8 a7_1 h => ?_) (by intros; rw [zm])
 rw [zm] at h
 try simp only [*, go_sem]
 intro hl9
 refine oi h (fun hb10 h => ?_) (fun hb10 h => ?_)
 have := of_decide_eq_true hb10
 refine obg h (fun x11 _ hkx11 h => ?_)
 refine obg h (fun x12 _ _ h => ?_)
 refine oi h (fun hb13 h => ?_) (fun hb13 h => ?_)
 cases h.e
 simp only [*, go_sem, mA, mS]
 refine oi h (fun hb14 h => ?_) (fun hb14 h => ?_)
 cases h.e
 simp only [*, go_sem, mA, mS]
 refine oi h (fun hb15 h => ?_) (fun hb15 h => ?_)
 cases h.e
 simp only [*, go_sem, mA, mS]
 refine oi h (fun hb16 h => ?_) (fun hb16 h => ?_)
 cases h.e
 simp only [*, go_sem, mA, mS]
 try simp only [*, go_sem]
 refine cr h (y0y G x11.Tasks x12.Tasks) (fun v17 h => ?_)
 refine oin h (fun hb18 hkhb18 h => ?_) (fun hb18 hkhb18 h => ?_)
 cases h.e
 simp only [*, go_sem, mA, mS]
 try simp only [*, go_sem]
 refine cr h (y1d G x11.Asked x12.Asked) (fun v19 h => ?_)
 refine oin h (fun hb20 hkhb20 h => ?_) (fun hb20 hkhb20 h => ?_)
 cases h.e
 simp only [*, go_sem, mA, mS]
 have := za hkx11 hl2
 try simp only [*, go_sem]
 exact lc (a7_1 + 1) h.e [some 0, some 1]
 try simp only [*, go_sem]
 exact jc () h.e []
 cases h.e
 simp only [*, go_sem, mA, mS]
def vk (p0 : List Note) (p1 : List Note) (k5 : Option (Bool)) : Nat → Nat → Option (Bool)
 | 0, _ => none
 | n7 + 1, a6_1 => (if (decide (a6_1 < p0.length)) = true then (Option.bind (p0[a6_1]?) fun x10 => (Option.bind (p1[a6_1]?) fun x11 => (if (!((x10.Txn.Site == x11.Txn.Site) && ((x10.Txn.N == x11.Txn.N) && ((x10.Yes == x11.Yes) && (x10.Damage == x11.Damage))))) = true then (some false) else (vk p0 p1 k5 n7 (a6_1 + 1))))) else k5)
def xy (p0 : List Note) (p1 : List Note) : Option (Bool) := (if (((p0.length : Nat) : Int) != ((p1.length : Nat) : Int)) = true then (some false) else (withK (some true) fun k5 => (vk p0 p1 k5 (p0.length + 1) 0)))
def F12 : VFn := ⟨26, (.seq (.reg [vo 4 (.mv (cb false))]) (.seq (.seq (.reg [vm 6 0, ln 7 6, vm 8 1, ln 9 8, bt 10 .neq 7 9]) (.cond (.t 10) (.seq (.reg [vo 4 (.mv (cb false))]) .ret) .skip)) (.seq (.seq (.reg [mi 5 0]) (.wk (.block 0 (.loop (.seq (.seq (.reg [vm 11 5, vm 12 0, ln 13 12, bt 14 .lss 11 13]) (.cond (.t 14) .skip (.exit 0))) (.seq (.block 1 (.seq (.draw [vd (vm 17 0) 0, vd (vm 18 5) 0, vd (xa 19 4 17 18) 3, vd (vl 20 4 19) 7, vd (vm 21 1) 0, vd (vm 22 5) 0, vd (xa 23 4 21 22) 48, vd (vl 24 4 23) 112, vd (vo 25 (.eqs true [.i, .i, .b, .b] (.t 20) (.t 24))) 255]) (.cond (.t 25) (.seq (.reg [vo 4 (.mv (cb false))]) .ret) .skip))) (.reg [vm 15 5, bk 16 .add 15 1, vm 5 16]))))))) (.seq (.reg [vo 4 (.mv (cb true))]) .ret)))), [.t 4]⟩
theorem low12 : lowF Tryd.prog 12 = some F12.strip := by kernel_rfl
theorem fok12 : fOk Tryd.prog 12 = true := by kernel_rfl
theorem w0y (p0 : List Note) (p1 : List Note) (r : Bool) (h : xy p0 p1 = some r) : FnRO Tryd.prog G 12 [.one (.d (.l 4 (p0.map Note.enc))), .one (.d (.l 4 (p1.map Note.enc)))] (fun rs => rs = [.one (.b r)]) := by
 refine FnRO.of' low12 fok12 (by simp [F12]) ?_
 rw [xy] at h
 replace h := Hd.mk h
 simp only [F12, go_sem]
 try simp only [*, go_sem]
 intro hl1
 try simp only [*, go_sem]
 intro hl2
 refine oi h (fun hb3 h => ?_) (fun hb3 h => ?_)
 cases h.e
 simp only [*, go_sem, mA, mS]
 try simp only [*, go_sem]
 refine jn0 h ([]) ([]) (fun k5 h => ?_) (fun h => ?_)
 try simp only [*, go_sem]
 refine lp1 (vk p0 p1 k5) (fun a6_1 => [zL 0 4 (p0.map Note.enc), zL 1 4 (p1.map Note.enc), zI 5 ((a6_1 : Nat) : Int)]) (fun a6_1 => []) h [] [] (fun n7 a6_1 h => ?_) (by intros; rw [vk])
 rw [vk] at h
 try simp only [*, go_sem]
 intro hl8
 refine oi h (fun hb9 h => ?_) (fun hb9 h => ?_)
 have := of_decide_eq_true hb9
 refine obg h (fun x10 _ hkx10 h => ?_)
 refine obg h (fun x11 _ _ h => ?_)
 refine oin h (fun hb12 hkhb12 h => ?_) (fun hb12 hkhb12 h => ?_)
 try simp only [*, go_sem]
 cases h.e
 simp only [*, go_sem, mA, mS]
 try simp only [*, go_sem]
 have := za hkx10 hl1
 try simp only [*, go_sem]
 exact lc (a6_1 + 1) h.e []
 try simp only [*, go_sem]
 exact jc () h.e []
 cases h.e
 simp only [*, go_sem, mA, mS]
end Go.V.Dec
