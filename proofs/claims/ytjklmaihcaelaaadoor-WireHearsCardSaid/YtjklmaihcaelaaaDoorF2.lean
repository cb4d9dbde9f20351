/- What Go's functions come to, as plain functions: part 2; no condition. -/
import Derived.Test.YtjklmaihcaelaaaDoorF1
set_option linter.unusedVariables false
set_option linter.unusedSimpArgs false
namespace Go.V.Dec
open Go Go.Proofs
set_option maxRecDepth 100000
set_option maxHeartbeats 4000000
variable (G : Nat → Option (List D))
def reredosref_MessageOf (p0 : Config) (p1 : List Int) : Option (Message × Int) := (Option.bind (reredosref_ConfigFault p0) fun v1 => (if (v1 != 0) = true then (some ((Message.mk 0 0 0 (Txn.mk 0 0) 0 0 0 0 0 false 0), v1)) else (Option.bind (reredosref_eye_first (ReredosrefEye.mk p1 0 0) 9) fun v3 => (Option.bind (reredosref_eye_num v3.1 1) fun v4 => (Option.bind (reredosref_eye_num v4.1 1) fun v5 => (Option.bind (reredosref_eye_who v5.1) fun v6 => (withK (fun (b7_1 : List Int) (b7_2 : Int) (b7_3 : Int) (b7_4 : Int) (b7_5 : Int) (b7_6 : Int) (b7_7 : Int) (b7_8 : Int) (b7_9 : Bool) (b7_10 : Int) => (if (b7_3 == 0) = true then (withK (fun (b53_1 : Int) => (withK (fun (b56_1 : Int) => (if (b56_1 != 0) = true then (withK (some ((Message.mk 0 0 0 (Txn.mk 0 0) 0 0 0 0 0 false 0), b56_1)) fun k62 => k62) else (some ((Message.mk v3.2 v4.2 v5.2 v6.2 b7_4 b7_5 b7_6 b7_7 b7_8 b7_9 b7_10), 0)))) fun k57 => (if (b53_1 == 0) = true then (Option.bind (reredosref_MessageFault p0 (Message.mk v3.2 v4.2 v5.2 v6.2 b7_4 b7_5 b7_6 b7_7 b7_8 b7_9 b7_10)) fun v59 => (k57 v59)) else (k57 b53_1)))) fun k54 => (if (decide (b7_2 < ((p1.length : Nat) : Int))) = true then (k54 4) else (k54 b7_3))) else (withK (withK (fun (b65_1 : Int) => (if (b65_1 != 0) = true then (withK (some ((Message.mk 0 0 0 (Txn.mk 0 0) 0 0 0 0 0 false 0), b65_1)) fun k71 => k71) else (some ((Message.mk v3.2 v4.2 v5.2 v6.2 b7_4 b7_5 b7_6 b7_7 b7_8 b7_9 b7_10), 0)))) fun k66 => (if (b7_3 == 0) = true then (Option.bind (reredosref_MessageFault p0 (Message.mk v3.2 v4.2 v5.2 v6.2 b7_4 b7_5 b7_6 b7_7 b7_8 b7_9 b7_10)) fun v68 => (k66 v68)) else (k66 b7_3))) fun k64 => k64))) fun k8 => (if (v3.2 == 1) = true then (Option.bind (reredosref_eye_num v6.1 1) fun v10 => (Option.bind (reredosref_eye_num v10.1 1) fun v11 => (Option.bind (reredosref_eye_num v11.1 3) fun v12 => (k8 v12.1.b v12.1.at_ v12.1.e v10.2 v11.2 0 0 v12.2 false 0)))) else (withK (fun (b13_1 : List Int) (b13_2 : Int) (b13_3 : Int) (b13_4 : Int) (b13_5 : Int) (b13_6 : Int) (b13_7 : Int) (b13_8 : Int) (b13_9 : Bool) (b13_10 : Int) => (k8 b13_1 b13_2 b13_3 b13_4 b13_5 b13_6 b13_7 b13_8 b13_9 b13_10)) fun k14 => (if (v3.2 == 2) = true then (Option.bind (reredosref_eye_num v6.1 1) fun v16 => (Option.bind (reredosref_eye_num v16.1 4) fun v17 => (Option.bind (reredosref_eye_num v17.1 3) fun v18 => (k14 v18.1.b v18.1.at_ v18.1.e 0 v16.2 v17.2 0 v18.2 false 0)))) else (withK (fun (b19_1 : List Int) (b19_2 : Int) (b19_3 : Int) (b19_4 : Int) (b19_5 : Int) (b19_6 : Int) (b19_7 : Int) (b19_8 : Int) (b19_9 : Bool) (b19_10 : Int) => (k14 b19_1 b19_2 b19_3 b19_4 b19_5 b19_6 b19_7 b19_8 b19_9 b19_10)) fun k20 => (if (v3.2 == 4) = true then (Option.bind (reredosref_eye_yes v6.1) fun v22 => (k20 v22.1.b v22.1.at_ v22.1.e 0 0 0 0 0 v22.2 0)) else (withK (fun (b23_1 : List Int) (b23_2 : Int) (b23_3 : Int) (b23_4 : Int) (b23_5 : Int) (b23_6 : Int) (b23_7 : Int) (b23_8 : Int) (b23_9 : Bool) (b23_10 : Int) => (k20 b23_1 b23_2 b23_3 b23_4 b23_5 b23_6 b23_7 b23_8 b23_9 b23_10)) fun k24 => (if (v3.2 == 3) = true then (Option.bind (reredosref_eye_num v6.1 1) fun v26 => (Option.bind (reredosref_eye_num v26.1 1) fun v27 => (Option.bind (reredosref_eye_num v27.1 3) fun v28 => (k24 v28.1.b v28.1.at_ v28.1.e v26.2 v27.2 0 v28.2 0 false 0)))) else (withK (fun (b29_1 : List Int) (b29_2 : Int) (b29_3 : Int) (b29_4 : Int) (b29_5 : Int) (b29_6 : Int) (b29_7 : Int) (b29_8 : Int) (b29_9 : Bool) (b29_10 : Int) => (k24 b29_1 b29_2 b29_3 b29_4 b29_5 b29_6 b29_7 b29_8 b29_9 b29_10)) fun k30 => (if (v3.2 == 7) = true then (Option.bind (reredosref_eye_num v6.1 1) fun v32 => (Option.bind (reredosref_eye_num v32.1 1) fun v33 => (Option.bind (reredosref_eye_num v33.1 3) fun v34 => (Option.bind (reredosref_eye_yes v34.1) fun v35 => (k30 v35.1.b v35.1.at_ v35.1.e v32.2 v33.2 0 v34.2 0 v35.2 0))))) else (withK (fun (b36_1 : List Int) (b36_2 : Int) (b36_3 : Int) (b36_4 : Int) (b36_5 : Int) (b36_6 : Int) (b36_7 : Int) (b36_8 : Int) (b36_9 : Int) => (k30 b36_1 b36_2 b36_3 b36_4 b36_5 b36_6 b36_7 b36_8 false b36_9)) fun k37 => (if (v3.2 == 5) = true then (Option.bind (reredosref_eye_num v6.1 1) fun v39 => (Option.bind (reredosref_eye_num v39.1 1) fun v40 => (Option.bind (reredosref_eye_num v40.1 4) fun v41 => (Option.bind (reredosref_eye_num v41.1 3) fun v42 => (Option.bind (reredosref_eye_num v42.1 3) fun v43 => (Option.bind (reredosref_eye_num v43.1 1) fun v44 => (k37 v44.1.b v44.1.at_ v44.1.e v39.2 v40.2 v41.2 v42.2 v43.2 v44.2))))))) else (withK (fun (b45_1 : List Int) (b45_2 : Int) (b45_3 : Int) (b45_4 : Int) (b45_5 : Int) (b45_6 : Int) => (k37 b45_1 b45_2 b45_3 0 b45_4 0 0 b45_5 b45_6)) fun k46 => (if (v3.2 == 6) = true then (Option.bind (reredosref_eye_num v6.1 1) fun v48 => (Option.bind (reredosref_eye_num v48.1 3) fun v49 => (Option.bind (reredosref_eye_num v49.1 1) fun v50 => (k46 v50.1.b v50.1.at_ v50.1.e v48.2 v49.2 v50.2)))) else (k46 v6.1.b v6.1.at_ v6.1.e 0 0 0)))))))))))))))))))))
def F7 : VFn := ⟨155, (.seq (.reg [vo 2 (.box 3 (.t 0)), vo 4 (.alloc [(zi 0), (zi 0), (zi 0), (zi 0), (zi 0), (zi 0), (zi 0), (zi 0), (zi 0), (zi 0), (.d (.b false)), (zi 0)]), mi 5 0]) (.seq (.reg [vl 9 3 2, vo 10 (.call 21 [(.t 9)]), vm 6 10]) (.seq (.seq (.reg [vm 11 6, bk 12 .neq 11 0]) (.cond (.t 12) (.seq (.reg [vo 13 (.build [(zi 0), (zi 0), (zi 0), (zi 0), (zi 0), (zi 0), (zi 0), (zi 0), (zi 0), (zi 0), (.d (.b false)), (zi 0)] []), vm 14 6, vu (.st 12 (.t 4) (.t 13)), vm 5 14]) .ret) .skip)) (.seq (.reg [vm 15 1, vo 16 (.build [(.nl 1), (zi 0), (zi 0)] [(0, 1, (.t 15))]), vo 17 (.box 3 (.t 16)), vm 7 17]) (.seq (.reg [vo 18 (.build [(zi 0), (zi 0), (zi 0), (zi 0), (zi 0), (zi 0), (zi 0), (zi 0), (zi 0), (zi 0), (.d (.b false)), (zi 0)] []), vo 8 (.alloc [(zi 0), (zi 0), (zi 0), (zi 0), (zi 0), (zi 0), (zi 0), (zi 0), (zi 0), (zi 0), (.d (.b false)), (zi 0)]), vu (.st 12 (.t 8) (.t 18))]) (.seq (.reg [vm 19 7, vo 20 (.call 22 [(.t 19), (ci 9)]), vf 21 0 8, vu (.st 1 (.t 21) (.t 20))]) (.seq (.reg [vm 22 7, vo 23 (.call 23 [(.t 22), (ci 1)]), vf 24 1 8, vu (.st 1 (.t 24) (.t 23))]) (.seq (.reg [vm 25 7, vo 26 (.call 23 [(.t 25), (ci 1)]), vf 27 2 8, vu (.st 1 (.t 27) (.t 26))]) (.seq (.reg [vm 28 7, vo 29 (.call 24 [(.t 28)]), vf 30 3 8, vu (.st 2 (.t 30) (.t 29))]) (.seq (.seq (.reg [vf 31 0 8, vs 32 31]) (.block 0 (.seq (.reg [bk 34 .eql 32 1, vm 33 34]) (.wk (.cond (.t 33) (.seq (.reg [vm 35 7, vo 36 (.call 23 [(.t 35), (ci 1)]), vf 37 5 8, vu (.st 1 (.t 37) (.t 36))]) (.seq (.reg [vm 38 7, vo 39 (.call 23 [(.t 38), (ci 1)]), vf 40 6 8, vu (.st 1 (.t 40) (.t 39))]) (.reg [vm 41 7, vo 42 (.call 23 [(.t 41), (ci 3)]), vf 43 9 8, vu (.st 1 (.t 43) (.t 42))]))) (.seq (.reg [bk 45 .eql 32 2, vm 44 45]) (.wk (.cond (.t 44) (.seq (.reg [vm 46 7, vo 47 (.call 23 [(.t 46), (ci 1)]), vf 48 6 8, vu (.st 1 (.t 48) (.t 47))]) (.seq (.reg [vm 49 7, vo 50 (.call 23 [(.t 49), (ci 4)]), vf 51 7 8, vu (.st 1 (.t 51) (.t 50))]) (.reg [vm 52 7, vo 53 (.call 23 [(.t 52), (ci 3)]), vf 54 9 8, vu (.st 1 (.t 54) (.t 53))]))) (.seq (.reg [bk 56 .eql 32 4, vm 55 56]) (.wk (.cond (.t 55) (.reg [vm 57 7, vo 58 (.call 25 [(.t 57)]), vf 59 10 8, vu (.st 1 (.t 59) (.t 58))]) (.seq (.reg [bk 61 .eql 32 3, vm 60 61]) (.wk (.cond (.t 60) (.seq (.reg [vm 62 7, vo 63 (.call 23 [(.t 62), (ci 1)]), vf 64 5 8, vu (.st 1 (.t 64) (.t 63))]) (.seq (.reg [vm 65 7, vo 66 (.call 23 [(.t 65), (ci 1)]), vf 67 6 8, vu (.st 1 (.t 67) (.t 66))]) (.reg [vm 68 7, vo 69 (.call 23 [(.t 68), (ci 3)]), vf 70 8 8, vu (.st 1 (.t 70) (.t 69))]))) (.seq (.reg [bk 72 .eql 32 7, vm 71 72]) (.wk (.cond (.t 71) (.seq (.reg [vm 73 7, vo 74 (.call 23 [(.t 73), (ci 1)]), vf 75 5 8, vu (.st 1 (.t 75) (.t 74))]) (.seq (.reg [vm 76 7, vo 77 (.call 23 [(.t 76), (ci 1)]), vf 78 6 8, vu (.st 1 (.t 78) (.t 77))]) (.seq (.reg [vm 79 7, vo 80 (.call 23 [(.t 79), (ci 3)]), vf 81 8 8, vu (.st 1 (.t 81) (.t 80))]) (.reg [vm 82 7, vo 83 (.call 25 [(.t 82)]), vf 84 10 8, vu (.st 1 (.t 84) (.t 83))])))) (.seq (.reg [bk 86 .eql 32 5, vm 85 86]) (.wk (.cond (.t 85) (.seq (.reg [vm 87 7, vo 88 (.call 23 [(.t 87), (ci 1)]), vf 89 5 8, vu (.st 1 (.t 89) (.t 88))]) (.seq (.reg [vm 90 7, vo 91 (.call 23 [(.t 90), (ci 1)]), vf 92 6 8, vu (.st 1 (.t 92) (.t 91))]) (.seq (.reg [vm 93 7, vo 94 (.call 23 [(.t 93), (ci 4)]), vf 95 7 8, vu (.st 1 (.t 95) (.t 94))]) (.seq (.reg [vm 96 7, vo 97 (.call 23 [(.t 96), (ci 3)]), vf 98 8 8, vu (.st 1 (.t 98) (.t 97))]) (.seq (.reg [vm 99 7, vo 100 (.call 23 [(.t 99), (ci 3)]), vf 101 9 8, vu (.st 1 (.t 101) (.t 100))]) (.reg [vm 102 7, vo 103 (.call 23 [(.t 102), (ci 1)]), vf 104 11 8, vu (.st 1 (.t 104) (.t 103))])))))) (.seq (.reg [bk 106 .eql 32 6, vm 105 106]) (.wk (.cond (.t 105) (.seq (.reg [vm 107 7, vo 108 (.call 23 [(.t 107), (ci 1)]), vf 109 6 8, vu (.st 1 (.t 109) (.t 108))]) (.seq (.reg [vm 110 7, vo 111 (.call 23 [(.t 110), (ci 3)]), vf 112 9 8, vu (.st 1 (.t 112) (.t 111))]) (.reg [vm 113 7, vo 114 (.call 23 [(.t 113), (ci 1)]), vf 115 11 8, vu (.st 1 (.t 115) (.t 114))]))) .skip))))))))))))))))))))))) (.seq (.seq (.reg [vm 116 7, vo 117 (.nilchk (.t 116)), vf 118 2 117, vs 119 118, bk 120 .eql 119 0, vm 121 120, gt 122 121 (.mv (.t 7)), gt 123 121 (.nilchk (.t 122)), gt 124 121 (.fa 1 (.t 123)), gt 125 121 (.ld false 1 (.t 124)), gt 126 121 (.mv (.t 1)), gt 127 121 (.len (.t 126)), gt 128 121 (.bin .i .lss (.t 125) (.t 127)), vo 129 (.pick (.t 121) (.t 128) (cb false))]) (.wk (.cond (.t 129) (.reg [vm 130 7, vo 131 (.nilchk (.t 130)), vf 132 2 131, vu (.st 1 (.t 132) (ci 4))]) .skip))) (.seq (.seq (.reg [vm 133 7, vo 134 (.nilchk (.t 133)), vf 135 2 134, vs 136 135, bk 137 .eql 136 0]) (.wk (.cond (.t 137) (.reg [vm 138 7, vl 139 3 2, vl 140 12 8, vo 141 (.call 26 [(.t 139), (.t 140)]), vo 142 (.nilchk (.t 138)), vf 143 2 142, vu (.st 1 (.t 143) (.t 141))]) .skip))) (.seq (.seq (.reg [vm 144 7, vo 145 (.nilchk (.t 144)), vf 146 2 145, vs 147 146, bk 148 .neq 147 0]) (.cond (.t 148) (.seq (.wk (.orders [[vo 149 (.build [(zi 0), (zi 0), (zi 0), (zi 0), (zi 0), (zi 0), (zi 0), (zi 0), (zi 0), (zi 0), (.d (.b false)), (zi 0)] []), vm 150 7, vo 151 (.nilchk (.t 150)), vf 152 2 151, vs 153 152, vu (.st 12 (.t 4) (.t 149)), vm 5 153], [vo 149 (.build [(zi 0), (zi 0), (zi 0), (zi 0), (zi 0), (zi 0), (zi 0), (zi 0), (zi 0), (zi 0), (.d (.b false)), (zi 0)] []), vm 150 7, vo 151 (.nilchk (.t 150)), vf 152 2 151, vu (.st 12 (.t 4) (.t 149)), vs 153 152, vm 5 153], [vo 149 (.build [(zi 0), (zi 0), (zi 0), (zi 0), (zi 0), (zi 0), (zi 0), (zi 0), (zi 0), (zi 0), (.d (.b false)), (zi 0)] []), vm 150 7, vo 151 (.nilchk (.t 150)), vu (.st 12 (.t 4) (.t 149)), vf 152 2 151, vs 153 152, vm 5 153], [vo 149 (.build [(zi 0), (zi 0), (zi 0), (zi 0), (zi 0), (zi 0), (zi 0), (zi 0), (zi 0), (zi 0), (.d (.b false)), (zi 0)] []), vm 150 7, vu (.st 12 (.t 4) (.t 149)), vo 151 (.nilchk (.t 150)), vf 152 2 151, vs 153 152, vm 5 153], [vo 149 (.build [(zi 0), (zi 0), (zi 0), (zi 0), (zi 0), (zi 0), (zi 0), (zi 0), (zi 0), (zi 0), (.d (.b false)), (zi 0)] []), vu (.st 12 (.t 4) (.t 149)), vm 150 7, vo 151 (.nilchk (.t 150)), vf 152 2 151, vs 153 152, vm 5 153], [vm 150 7, vo 149 (.build [(zi 0), (zi 0), (zi 0), (zi 0), (zi 0), (zi 0), (zi 0), (zi 0), (zi 0), (zi 0), (.d (.b false)), (zi 0)] []), vo 151 (.nilchk (.t 150)), vf 152 2 151, vs 153 152, vu (.st 12 (.t 4) (.t 149)), vm 5 153], [vm 150 7, vo 149 (.build [(zi 0), (zi 0), (zi 0), (zi 0), (zi 0), (zi 0), (zi 0), (zi 0), (zi 0), (zi 0), (.d (.b false)), (zi 0)] []), vo 151 (.nilchk (.t 150)), vf 152 2 151, vu (.st 12 (.t 4) (.t 149)), vs 153 152, vm 5 153], [vm 150 7, vo 149 (.build [(zi 0), (zi 0), (zi 0), (zi 0), (zi 0), (zi 0), (zi 0), (zi 0), (zi 0), (zi 0), (.d (.b false)), (zi 0)] []), vo 151 (.nilchk (.t 150)), vu (.st 12 (.t 4) (.t 149)), vf 152 2 151, vs 153 152, vm 5 153], [vm 150 7, vo 149 (.build [(zi 0), (zi 0), (zi 0), (zi 0), (zi 0), (zi 0), (zi 0), (zi 0), (zi 0), (zi 0), (.d (.b false)), (zi 0)] []), vu (.st 12 (.t 4) (.t 149)), vo 151 (.nilchk (.t 150)), vf 152 2 151, vs 153 152, vm 5 153], [vm 150 7, vo 151 (.nilchk (.t 150)), vo 149 (.build [(zi 0), (zi 0), (zi 0), (zi 0), (zi 0), (zi 0), (zi 0), (zi 0), (zi 0), (zi 0), (.d (.b false)), (zi 0)] []), vf 152 2 151, vs 153 152, vu (.st 12 (.t 4) (.t 149)), vm 5 153], [vm 150 7, vo 151 (.nilchk (.t 150)), vo 149 (.build [(zi 0), (zi 0), (zi 0), (zi 0), (zi 0), (zi 0), (zi 0), (zi 0), (zi 0), (zi 0), (.d (.b false)), (zi 0)] []), vf 152 2 151, vu (.st 12 (.t 4) (.t 149)), vs 153 152, vm 5 153], [vm 150 7, vo 151 (.nilchk (.t 150)), vo 149 (.build [(zi 0), (zi 0), (zi 0), (zi 0), (zi 0), (zi 0), (zi 0), (zi 0), (zi 0), (zi 0), (.d (.b false)), (zi 0)] []), vu (.st 12 (.t 4) (.t 149)), vf 152 2 151, vs 153 152, vm 5 153], [vm 150 7, vo 151 (.nilchk (.t 150)), vf 152 2 151, vo 149 (.build [(zi 0), (zi 0), (zi 0), (zi 0), (zi 0), (zi 0), (zi 0), (zi 0), (zi 0), (zi 0), (.d (.b false)), (zi 0)] []), vs 153 152, vu (.st 12 (.t 4) (.t 149)), vm 5 153], [vm 150 7, vo 151 (.nilchk (.t 150)), vf 152 2 151, vo 149 (.build [(zi 0), (zi 0), (zi 0), (zi 0), (zi 0), (zi 0), (zi 0), (zi 0), (zi 0), (zi 0), (.d (.b false)), (zi 0)] []), vu (.st 12 (.t 4) (.t 149)), vs 153 152, vm 5 153], [vm 150 7, vo 151 (.nilchk (.t 150)), vf 152 2 151, vs 153 152, vo 149 (.build [(zi 0), (zi 0), (zi 0), (zi 0), (zi 0), (zi 0), (zi 0), (zi 0), (zi 0), (zi 0), (.d (.b false)), (zi 0)] []), vu (.st 12 (.t 4) (.t 149)), vm 5 153]])) .ret) .skip)) (.seq (.reg [vl 154 12 8, vu (.st 12 (.t 4) (.t 154)), mi 5 0]) .ret)))))))))))))), [.cell 4 true 12, .t 5]⟩
theorem low7 : lowF Tryd.prog 7 = some F7.strip := by kernel_rfl
theorem fok7 : fOk Tryd.prog 7 = true := by kernel_rfl
theorem reredosref_MessageOf_ok (p0 : Config) (p1 : List Int) (r : Message × Int) (h : reredosref_MessageOf p0 p1 = some r) : FnRO Tryd.prog G 7 [.agg p0.bx, .one (.d (.l 1 (p1.map encU8)))] (fun rs => rs = [.agg (r.1.encO), .one (.i .i64 r.2)]) := by
 refine FnRO.of' low7 fok7 (by simp [F7]) ?_
 rw [reredosref_MessageOf] at h
 replace h := Hd.mk h
 simp only [F7, go_sem]
 try simp only [*, go_sem]
 refine cr h (reredosref_ConfigFault_ok G p0) (fun v1 h => ?_)
 refine oi h (fun hb2 h => ?_) (fun hb2 h => ?_)
 cases h.e
 simp only [*, go_sem, mA, mS]
 try simp only [*, go_sem]
 refine ct h 2 [] [true] [] (reredosref_eye_first_ok G (ReredosrefEye.mk p1 0 0) 9) (fun v3 h => ?_)
 try simp only [*, go_sem]
 refine ct h 2 [] [true] [] (reredosref_eye_num_ok G v3.1 1) (fun v4 h => ?_)
 try simp only [*, go_sem]
 refine ct h 2 [] [true] [] (reredosref_eye_num_ok G v4.1 1) (fun v5 h => ?_)
 try simp only [*, go_sem]
 refine ct h 2 [] [true] [] (reredosref_eye_who_ok G v5.1) (fun v6 h => ?_)
 try simp only [*, go_sem]
 refine jn10 h (fun b7_1 b7_2 b7_3 b7_4 b7_5 b7_6 b7_7 b7_8 b7_9 b7_10 => [zL 1 1 (p1.map encU8), zP 2 0, zP 4 1, zP 7 2, zP 8 3]) (fun b7_1 b7_2 b7_3 b7_4 b7_5 b7_6 b7_7 b7_8 b7_9 b7_10 => [ox p0.bx, ox [zi 0, zi 0, zi 0, zi 0, zi 0, zi 0, zi 0, zi 0, zi 0, zi 0, .d (.b false), zi 0], ox [.d (.l 1 (b7_1.map encU8)), zi b7_2, zi b7_3], ox [zi v3.2, zi v4.2, zi v5.2, zi v6.2.Site, zi v6.2.N, zi b7_4, zi b7_5, zi b7_6, zi b7_7, zi b7_8, .d (.b b7_9), zi b7_10]]) (fun k8 h => ?_) (fun b7_1 b7_2 b7_3 b7_4 b7_5 b7_6 b7_7 b7_8 b7_9 b7_10 h => ?_)
 refine oi h (fun hb9 h => ?_) (fun hb9 h => ?_)
 try simp only [*, go_sem]
 refine ct h 2 [] [true] [] (reredosref_eye_num_ok G v6.1 1) (fun v10 h => ?_)
 try simp only [*, go_sem]
 refine ct h 2 [] [true] [] (reredosref_eye_num_ok G v10.1 1) (fun v11 h => ?_)
 try simp only [*, go_sem]
 refine ct h 2 [] [true] [] (reredosref_eye_num_ok G v11.1 3) (fun v12 h => ?_)
 try simp only [*, go_sem]
 exact jc (v12.1.b, v12.1.at_, v12.1.e, v10.2, v11.2, 0, 0, v12.2, false, 0) h.e [some 0, some 1, some 2, some 3]
 try simp only [*, go_sem]
 refine jn10 h (fun b13_1 b13_2 b13_3 b13_4 b13_5 b13_6 b13_7 b13_8 b13_9 b13_10 => [zL 1 1 (p1.map encU8), zP 2 0, zP 4 1, zP 7 2, zP 8 3]) (fun b13_1 b13_2 b13_3 b13_4 b13_5 b13_6 b13_7 b13_8 b13_9 b13_10 => [ox p0.bx, ox [zi 0, zi 0, zi 0, zi 0, zi 0, zi 0, zi 0, zi 0, zi 0, zi 0, .d (.b false), zi 0], ox [.d (.l 1 (b13_1.map encU8)), zi b13_2, zi b13_3], ox [zi v3.2, zi v4.2, zi v5.2, zi v6.2.Site, zi v6.2.N, zi b13_4, zi b13_5, zi b13_6, zi b13_7, zi b13_8, .d (.b b13_9), zi b13_10]]) (fun k14 h => ?_) (fun b13_1 b13_2 b13_3 b13_4 b13_5 b13_6 b13_7 b13_8 b13_9 b13_10 h => ?_)
 refine oi h (fun hb15 h => ?_) (fun hb15 h => ?_)
 try simp only [*, go_sem]
 refine ct h 2 [] [true] [] (reredosref_eye_num_ok G v6.1 1) (fun v16 h => ?_)
 try simp only [*, go_sem]
 refine ct h 2 [] [true] [] (reredosref_eye_num_ok G v16.1 4) (fun v17 h => ?_)
 try simp only [*, go_sem]
 refine ct h 2 [] [true] [] (reredosref_eye_num_ok G v17.1 3) (fun v18 h => ?_)
 try simp only [*, go_sem]
 exact jc (v18.1.b, v18.1.at_, v18.1.e, 0, v16.2, v17.2, 0, v18.2, false, 0) h.e [some 0, some 1, some 2, some 3]
 try simp only [*, go_sem]
 refine jn10 h (fun b19_1 b19_2 b19_3 b19_4 b19_5 b19_6 b19_7 b19_8 b19_9 b19_10 => [zL 1 1 (p1.map encU8), zP 2 0, zP 4 1, zP 7 2, zP 8 3]) (fun b19_1 b19_2 b19_3 b19_4 b19_5 b19_6 b19_7 b19_8 b19_9 b19_10 => [ox p0.bx, ox [zi 0, zi 0, zi 0, zi 0, zi 0, zi 0, zi 0, zi 0, zi 0, zi 0, .d (.b false), zi 0], ox [.d (.l 1 (b19_1.map encU8)), zi b19_2, zi b19_3], ox [zi v3.2, zi v4.2, zi v5.2, zi v6.2.Site, zi v6.2.N, zi b19_4, zi b19_5, zi b19_6, zi b19_7, zi b19_8, .d (.b b19_9), zi b19_10]]) (fun k20 h => ?_) (fun b19_1 b19_2 b19_3 b19_4 b19_5 b19_6 b19_7 b19_8 b19_9 b19_10 h => ?_)
 refine oi h (fun hb21 h => ?_) (fun hb21 h => ?_)
 try simp only [*, go_sem]
 refine ct h 2 [] [true] [] (reredosref_eye_yes_ok G v6.1) (fun v22 h => ?_)
 try simp only [*, go_sem]
 exact jc (v22.1.b, v22.1.at_, v22.1.e, 0, 0, 0, 0, 0, v22.2, 0) h.e [some 0, some 1, some 2, some 3]
 try simp only [*, go_sem]
 refine jn10 h (fun b23_1 b23_2 b23_3 b23_4 b23_5 b23_6 b23_7 b23_8 b23_9 b23_10 => [zL 1 1 (p1.map encU8), zP 2 0, zP 4 1, zP 7 2, zP 8 3]) (fun b23_1 b23_2 b23_3 b23_4 b23_5 b23_6 b23_7 b23_8 b23_9 b23_10 => [ox p0.bx, ox [zi 0, zi 0, zi 0, zi 0, zi 0, zi 0, zi 0, zi 0, zi 0, zi 0, .d (.b false), zi 0], ox [.d (.l 1 (b23_1.map encU8)), zi b23_2, zi b23_3], ox [zi v3.2, zi v4.2, zi v5.2, zi v6.2.Site, zi v6.2.N, zi b23_4, zi b23_5, zi b23_6, zi b23_7, zi b23_8, .d (.b b23_9), zi b23_10]]) (fun k24 h => ?_) (fun b23_1 b23_2 b23_3 b23_4 b23_5 b23_6 b23_7 b23_8 b23_9 b23_10 h => ?_)
 refine oi h (fun hb25 h => ?_) (fun hb25 h => ?_)
 try simp only [*, go_sem]
 refine ct h 2 [] [true] [] (reredosref_eye_num_ok G v6.1 1) (fun v26 h => ?_)
 try simp only [*, go_sem]
 refine ct h 2 [] [true] [] (reredosref_eye_num_ok G v26.1 1) (fun v27 h => ?_)
 try simp only [*, go_sem]
 refine ct h 2 [] [true] [] (reredosref_eye_num_ok G v27.1 3) (fun v28 h => ?_)
 try simp only [*, go_sem]
 exact jc (v28.1.b, v28.1.at_, v28.1.e, v26.2, v27.2, 0, v28.2, 0, false, 0) h.e [some 0, some 1, some 2, some 3]
 try simp only [*, go_sem]
 refine jn10 h (fun b29_1 b29_2 b29_3 b29_4 b29_5 b29_6 b29_7 b29_8 b29_9 b29_10 => [zL 1 1 (p1.map encU8), zP 2 0, zP 4 1, zP 7 2, zP 8 3]) (fun b29_1 b29_2 b29_3 b29_4 b29_5 b29_6 b29_7 b29_8 b29_9 b29_10 => [ox p0.bx, ox [zi 0, zi 0, zi 0, zi 0, zi 0, zi 0, zi 0, zi 0, zi 0, zi 0, .d (.b false), zi 0], ox [.d (.l 1 (b29_1.map encU8)), zi b29_2, zi b29_3], ox [zi v3.2, zi v4.2, zi v5.2, zi v6.2.Site, zi v6.2.N, zi b29_4, zi b29_5, zi b29_6, zi b29_7, zi b29_8, .d (.b b29_9), zi b29_10]]) (fun k30 h => ?_) (fun b29_1 b29_2 b29_3 b29_4 b29_5 b29_6 b29_7 b29_8 b29_9 b29_10 h => ?_)
 refine oi h (fun hb31 h => ?_) (fun hb31 h => ?_)
 try simp only [*, go_sem]
 refine ct h 2 [] [true] [] (reredosref_eye_num_ok G v6.1 1) (fun v32 h => ?_)
 try simp only [*, go_sem]
 refine ct h 2 [] [true] [] (reredosref_eye_num_ok G v32.1 1) (fun v33 h => ?_)
 try simp only [*, go_sem]
 refine ct h 2 [] [true] [] (reredosref_eye_num_ok G v33.1 3) (fun v34 h => ?_)
 try simp only [*, go_sem]
 refine ct h 2 [] [true] [] (reredosref_eye_yes_ok G v34.1) (fun v35 h => ?_)
 try simp only [*, go_sem]
 exact jc (v35.1.b, v35.1.at_, v35.1.e, v32.2, v33.2, 0, v34.2, 0, v35.2, 0) h.e [some 0, some 1, some 2, some 3]
 try simp only [*, go_sem]
 refine jn9 h (fun b36_1 b36_2 b36_3 b36_4 b36_5 b36_6 b36_7 b36_8 b36_9 => [zL 1 1 (p1.map encU8), zP 2 0, zP 4 1, zP 7 2, zP 8 3]) (fun b36_1 b36_2 b36_3 b36_4 b36_5 b36_6 b36_7 b36_8 b36_9 => [ox p0.bx, ox [zi 0, zi 0, zi 0, zi 0, zi 0, zi 0, zi 0, zi 0, zi 0, zi 0, .d (.b false), zi 0], ox [.d (.l 1 (b36_1.map encU8)), zi b36_2, zi b36_3], ox [zi v3.2, zi v4.2, zi v5.2, zi v6.2.Site, zi v6.2.N, zi b36_4, zi b36_5, zi b36_6, zi b36_7, zi b36_8, .d (.b false), zi b36_9]]) (fun k37 h => ?_) (fun b36_1 b36_2 b36_3 b36_4 b36_5 b36_6 b36_7 b36_8 b36_9 h => ?_)
 refine oi h (fun hb38 h => ?_) (fun hb38 h => ?_)
 try simp only [*, go_sem]
 refine ct h 2 [] [true] [] (reredosref_eye_num_ok G v6.1 1) (fun v39 h => ?_)
 try simp only [*, go_sem]
 refine ct h 2 [] [true] [] (reredosref_eye_num_ok G v39.1 1) (fun v40 h => ?_)
 try simp only [*, go_sem]
 refine ct h 2 [] [true] [] (reredosref_eye_num_ok G v40.1 4) (fun v41 h => ?_)
 try simp only [*, go_sem]
 refine ct h 2 [] [true] [] (reredosref_eye_num_ok G v41.1 3) (fun v42 h => ?_)
 try simp only [*, go_sem]
 refine ct h 2 [] [true] [] (reredosref_eye_num_ok G v42.1 3) (fun v43 h => ?_)
 try simp only [*, go_sem]
 refine ct h 2 [] [true] [] (reredosref_eye_num_ok G v43.1 1) (fun v44 h => ?_)
 try simp only [*, go_sem]
 exact jc (v44.1.b, v44.1.at_, v44.1.e, v39.2, v40.2, v41.2, v42.2, v43.2, v44.2) h.e [some 0, some 1, some 2, some 3]
 try simp only [*, go_sem]
 refine jn6 h (fun b45_1 b45_2 b45_3 b45_4 b45_5 b45_6 => [zL 1 1 (p1.map encU8), zP 2 0, zP 4 1, zP 7 2, zP 8 3]) (fun b45_1 b45_2 b45_3 b45_4 b45_5 b45_6 => [ox p0.bx, ox [zi 0, zi 0, zi 0, zi 0, zi 0, zi 0, zi 0, zi 0, zi 0, zi 0, .d (.b false), zi 0], ox [.d (.l 1 (b45_1.map encU8)), zi b45_2, zi b45_3], ox [zi v3.2, zi v4.2, zi v5.2, zi v6.2.Site, zi v6.2.N, zi 0, zi b45_4, zi 0, zi 0, zi b45_5, .d (.b false), zi b45_6]]) (fun k46 h => ?_) (fun b45_1 b45_2 b45_3 b45_4 b45_5 b45_6 h => ?_)
 refine oi h (fun hb47 h => ?_) (fun hb47 h => ?_)
 try simp only [*, go_sem]
 refine ct h 2 [] [true] [] (reredosref_eye_num_ok G v6.1 1) (fun v48 h => ?_)
 try simp only [*, go_sem]
 refine ct h 2 [] [true] [] (reredosref_eye_num_ok G v48.1 3) (fun v49 h => ?_)
 try simp only [*, go_sem]
 refine ct h 2 [] [true] [] (reredosref_eye_num_ok G v49.1 1) (fun v50 h => ?_)
 try simp only [*, go_sem]
 exact jc (v50.1.b, v50.1.at_, v50.1.e, v48.2, v49.2, v50.2) h.e [some 0, some 1, some 2, some 3]
 try simp only [*, go_sem]
 exact jc (v6.1.b, v6.1.at_, v6.1.e, 0, 0, 0) h.e [some 0, some 1, some 2, some 3]
 try simp only [*, go_sem]
 exact jc (b45_1, b45_2, b45_3, 0, b45_4, 0, 0, b45_5, b45_6) h.e [some 0, some 1, some 2, some 3]
 try simp only [*, go_sem]
 exact jc (b36_1, b36_2, b36_3, b36_4, b36_5, b36_6, b36_7, b36_8, false, b36_9) h.e [some 0, some 1, some 2, some 3]
 try simp only [*, go_sem]
 exact jc (b29_1, b29_2, b29_3, b29_4, b29_5, b29_6, b29_7, b29_8, b29_9, b29_10) h.e [some 0, some 1, some 2, some 3]
 try simp only [*, go_sem]
 exact jc (b23_1, b23_2, b23_3, b23_4, b23_5, b23_6, b23_7, b23_8, b23_9, b23_10) h.e [some 0, some 1, some 2, some 3]
 try simp only [*, go_sem]
 exact jc (b19_1, b19_2, b19_3, b19_4, b19_5, b19_6, b19_7, b19_8, b19_9, b19_10) h.e [some 0, some 1, some 2, some 3]
 try simp only [*, go_sem]
 exact jc (b13_1, b13_2, b13_3, b13_4, b13_5, b13_6, b13_7, b13_8, b13_9, b13_10) h.e [some 0, some 1, some 2, some 3]
 refine oi h (fun hb51 h => ?_) (fun hb51 h => ?_)
 try simp only [*, go_sem]
 intro hl52
 try simp only [*, go_sem]
 refine jn1 h (fun b53_1 => [zP 2 0, zP 4 1, zP 7 2, zP 8 3]) (fun b53_1 => [ox p0.bx, ox [zi 0, zi 0, zi 0, zi 0, zi 0, zi 0, zi 0, zi 0, zi 0, zi 0, .d (.b false), zi 0], ox [.d (.l 1 (b7_1.map encU8)), zi b7_2, zi b53_1], ox [zi v3.2, zi v4.2, zi v5.2, zi v6.2.Site, zi v6.2.N, zi b7_4, zi b7_5, zi b7_6, zi b7_7, zi b7_8, .d (.b b7_9), zi b7_10]]) (fun k54 h => ?_) (fun b53_1 h => ?_)
 refine oi h (fun hb55 h => ?_) (fun hb55 h => ?_)
 try simp only [*, go_sem]
 exact jc (4) h.e [some 0, some 1, some 2, some 3]
 try simp only [*, go_sem]
 exact jc (b7_3) h.e [some 0, some 1, some 2, some 3]
 try simp only [*, go_sem]
 refine jn1 h (fun b56_1 => [zP 4 0, zP 7 1, zP 8 2]) (fun b56_1 => [ox [zi 0, zi 0, zi 0, zi 0, zi 0, zi 0, zi 0, zi 0, zi 0, zi 0, .d (.b false), zi 0], ox [.d (.l 1 (b7_1.map encU8)), zi b7_2, zi b56_1], ox [zi v3.2, zi v4.2, zi v5.2, zi v6.2.Site, zi v6.2.N, zi b7_4, zi b7_5, zi b7_6, zi b7_7, zi b7_8, .d (.b b7_9), zi b7_10]]) (fun k57 h => ?_) (fun b56_1 h => ?_)
 refine oi h (fun hb58 h => ?_) (fun hb58 h => ?_)
 try simp only [*, go_sem]
 refine cr h (reredosref_MessageFault_ok G p0 (Message.mk v3.2 v4.2 v5.2 v6.2 b7_4 b7_5 b7_6 b7_7 b7_8 b7_9 b7_10)) (fun v59 h => ?_)
 try simp only [*, go_sem]
 exact jc (v59) h.e [some 1, some 2, some 3]
 try simp only [*, go_sem]
 exact jc (b53_1) h.e [some 1, some 2, some 3]
 refine oi h (fun hb60 h => ?_) (fun hb60 h => ?_)
 try simp only [*, go_sem]
 refine jn0 h ([zP 4 0, zI 5 b56_1]) ([ox [zi 0, zi 0, zi 0, zi 0, zi 0, zi 0, zi 0, zi 0, zi 0, zi 0, .d (.b false), zi 0]]) (fun k62 h => ?_) (fun h => ?_)
 try simp only [*, go_sem]
 refine ⟨?_, ?_, ?_, ?_, ?_, ?_, ?_, ?_, ?_, ?_, ?_, ?_, ?_, ?_, ?_⟩
 try simp only [*, go_sem]
 exact jc () h.e [some 0]
 try simp only [*, go_sem]
 exact jc () h.e [some 0]
 try simp only [*, go_sem]
 exact jc () h.e [some 0]
 try simp only [*, go_sem]
 exact jc () h.e [some 0]
 try simp only [*, go_sem]
 exact jc () h.e [some 0]
 try simp only [*, go_sem]
 exact jc () h.e [some 0]
 try simp only [*, go_sem]
 exact jc () h.e [some 0]
 try simp only [*, go_sem]
 exact jc () h.e [some 0]
 try simp only [*, go_sem]
 exact jc () h.e [some 0]
 try simp only [*, go_sem]
 exact jc () h.e [some 0]
 try simp only [*, go_sem]
 exact jc () h.e [some 0]
 try simp only [*, go_sem]
 exact jc () h.e [some 0]
 try simp only [*, go_sem]
 exact jc () h.e [some 0]
 try simp only [*, go_sem]
 exact jc () h.e [some 0]
 try simp only [*, go_sem]
 exact jc () h.e [some 0]
 cases h.e
 simp only [*, go_sem, mA, mS]
 cases h.e
 simp only [*, go_sem, mA, mS]
 try simp only [*, go_sem]
 refine jn0 h ([zP 2 0, zP 4 1, zP 7 2, zP 8 3]) ([ox p0.bx, ox [zi 0, zi 0, zi 0, zi 0, zi 0, zi 0, zi 0, zi 0, zi 0, zi 0, .d (.b false), zi 0], ox [.d (.l 1 (b7_1.map encU8)), zi b7_2, zi b7_3], ox [zi v3.2, zi v4.2, zi v5.2, zi v6.2.Site, zi v6.2.N, zi b7_4, zi b7_5, zi b7_6, zi b7_7, zi b7_8, .d (.b b7_9), zi b7_10]]) (fun k64 h => ?_) (fun h => ?_)
 try simp only [*, go_sem]
 exact jc () h.e [some 0, some 1, some 2, some 3]
 try simp only [*, go_sem]
 refine jn1 h (fun b65_1 => [zP 4 0, zP 7 1, zP 8 2]) (fun b65_1 => [ox [zi 0, zi 0, zi 0, zi 0, zi 0, zi 0, zi 0, zi 0, zi 0, zi 0, .d (.b false), zi 0], ox [.d (.l 1 (b7_1.map encU8)), zi b7_2, zi b65_1], ox [zi v3.2, zi v4.2, zi v5.2, zi v6.2.Site, zi v6.2.N, zi b7_4, zi b7_5, zi b7_6, zi b7_7, zi b7_8, .d (.b b7_9), zi b7_10]]) (fun k66 h => ?_) (fun b65_1 h => ?_)
 refine oi h (fun hb67 h => ?_) (fun hb67 h => ?_)
 cases hb51.symm.trans hb67
 try simp only [*, go_sem]
 exact jc (b7_3) h.e [some 1, some 2, some 3]
 refine oi h (fun hb69 h => ?_) (fun hb69 h => ?_)
 try simp only [*, go_sem]
 refine jn0 h ([zP 4 0, zI 5 b65_1]) ([ox [zi 0, zi 0, zi 0, zi 0, zi 0, zi 0, zi 0, zi 0, zi 0, zi 0, .d (.b false), zi 0]]) (fun k71 h => ?_) (fun h => ?_)
 try simp only [*, go_sem]
 refine ⟨?_, ?_, ?_, ?_, ?_, ?_, ?_, ?_, ?_, ?_, ?_, ?_, ?_, ?_, ?_⟩
 try simp only [*, go_sem]
 exact jc () h.e [some 0]
 try simp only [*, go_sem]
 exact jc () h.e [some 0]
 try simp only [*, go_sem]
 exact jc () h.e [some 0]
 try simp only [*, go_sem]
 exact jc () h.e [some 0]
 try simp only [*, go_sem]
 exact jc () h.e [some 0]
 try simp only [*, go_sem]
 exact jc () h.e [some 0]
 try simp only [*, go_sem]
 exact jc () h.e [some 0]
 try simp only [*, go_sem]
 exact jc () h.e [some 0]
 try simp only [*, go_sem]
 exact jc () h.e [some 0]
 try simp only [*, go_sem]
 exact jc () h.e [some 0]
 try simp only [*, go_sem]
 exact jc () h.e [some 0]
 try simp only [*, go_sem]
 exact jc () h.e [some 0]
 try simp only [*, go_sem]
 exact jc () h.e [some 0]
 try simp only [*, go_sem]
 exact jc () h.e [some 0]
 try simp only [*, go_sem]
 exact jc () h.e [some 0]
 cases h.e
 simp only [*, go_sem, mA, mS]
 cases h.e
 simp only [*, go_sem, mA, mS]
def reredoslaw_WireHears (p0 : Config) (p1 : List Int) : Option (Bool) := (Option.bind (reredoslaw_octets p1) fun v1 => (Option.bind (wire_DecodeMessage p0 v1) fun v2 => (Option.bind (reredosref_MessageOf p0 p1) fun v3 => (withK (fun (b4_1 : Bool) => (some b4_1)) fun k5 => (if (v2.2 == v3.2) = true then (k5 ((v2.1.Kind == v3.1.Kind) && ((v2.1.From == v3.1.From) && ((v2.1.To == v3.1.To) && ((v2.1.Txn.Site == v3.1.Txn.Site) && ((v2.1.Txn.N == v3.1.Txn.N) && ((v2.1.Label == v3.1.Label) && ((v2.1.Key == v3.1.Key) && ((v2.1.Value == v3.1.Value) && ((v2.1.Version == v3.1.Version) && ((v2.1.Ask == v3.1.Ask) && ((v2.1.Yes == v3.1.Yes) && (v2.1.Code == v3.1.Code))))))))))))) else (k5 false))))))
def F3 : VFn := ⟨30, (.seq (.reg [vo 2 (.box 3 (.t 0)), vo 4 (.mv (cb false))]) (.seq (.draw [vd (vl 10 3 2) 0, vd (vm 11 1) 0, vd (vo 12 (.call 6 [(.t 11)])) 2, vd (vo 13 (.call 5 [(.t 10), (.t 12)])) 7, vd (vm 9 13) 15, vd (et 14 9 0) 31, vd (et 15 9 1) 31, ⟨vo 5 (.alloc [(zi 0), (zi 0), (zi 0), (zi 0), (zi 0), (zi 0), (zi 0), (zi 0), (zi 0), (zi 0), (.d (.b false)), (zi 0)]), 0, [2, 3], none, []⟩, vd (vu (.st 12 (.t 5) (.t 14))) 191, vd (vm 6 15) 511]) (.seq (.reg [vl 17 3 2, vm 18 1, vo 19 (.call 7 [(.t 17), (.t 18)]), vm 16 19, et 20 16 0, et 21 16 1, vo 7 (.alloc [(zi 0), (zi 0), (zi 0), (zi 0), (zi 0), (zi 0), (zi 0), (zi 0), (zi 0), (zi 0), (.d (.b false)), (zi 0)]), vu (.st 12 (.t 7) (.t 20)), vm 8 21]) (.seq (.wk (.reg [vm 22 6, vm 23 8, bt 24 .eql 22 23, vm 25 24, gt 26 25 (.ld true 12 (.t 5)), gt 27 25 (.ld true 12 (.t 7)), gt 28 25 (.eqs false [.i, .i, .i, .i, .i, .i, .i, .i, .i, .i, .b, .i] (.t 26) (.t 27)), vo 29 (.pick (.t 25) (.t 28) (cb false)), vm 4 29])) .ret)))), [.t 4]⟩
theorem low3 : lowF Tryd.prog 3 = some F3.strip := by kernel_rfl
theorem fok3 : fOk Tryd.prog 3 = true := by kernel_rfl
theorem reredoslaw_WireHears_ok (htab_wire_messages : constG G 0 = .one (.d (.k tab_wire_messagesD))) (p0 : Config) (p1 : List Int) (r : Bool) (h : reredoslaw_WireHears p0 p1 = some r) : FnRO Tryd.prog G 3 [.agg p0.bx, .one (.d (.l 1 (p1.map encU8)))] (fun rs => rs = [.one (.b r)]) := by
 refine FnRO.of' low3 fok3 (by simp [F3]) ?_
 rw [reredoslaw_WireHears] at h
 replace h := Hd.mk h
 simp only [F3, go_sem]
 refine obk h (fun v1 hv1 h => ?_)
 try simp only [*, go_sem]
 refine cd (FnRO.fz' (reredoslaw_octets_ok G p1 v1 hv1) rfl rfl) ?_
 refine obk h (fun v2 hv2 h => ?_)
 try simp only [*, go_sem]
 refine cd (wire_DecodeMessage_ok G htab_wire_messages p0 v1 v2 hv2) ?_
 try simp only [*, go_sem]
 refine cr h (reredosref_MessageOf_ok G p0 p1) (fun v3 h => ?_)
 try simp only [*, go_sem]
 refine jn1 h (fun b4_1 => [zB 4 b4_1]) (fun b4_1 => []) (fun k5 h => ?_) (fun b4_1 h => ?_)
 refine oi h (fun hb6 h => ?_) (fun hb6 h => ?_)
 try simp only [*, go_sem]
 exact jc ((v2.1.Kind == v3.1.Kind) && ((v2.1.From == v3.1.From) && ((v2.1.To == v3.1.To) && ((v2.1.Txn.Site == v3.1.Txn.Site) && ((v2.1.Txn.N == v3.1.Txn.N) && ((v2.1.Label == v3.1.Label) && ((v2.1.Key == v3.1.Key) && ((v2.1.Value == v3.1.Value) && ((v2.1.Version == v3.1.Version) && ((v2.1.Ask == v3.1.Ask) && ((v2.1.Yes == v3.1.Yes) && (v2.1.Code == v3.1.Code)))))))))))) h.e []
 try simp only [*, go_sem]
 exact jc (false) h.e []
 cases h.e
 simp only [*, go_sem, mA, mS]
end Go.V.Dec
