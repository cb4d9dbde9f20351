/- What Go's functions come to, as plain functions: part 3; no condition. -/
import Derived.Test.YtmnicbhniaejjaaDoorF2
set_option linter.unusedVariables false
set_option linter.unusedSimpArgs false
namespace Go.V.Dec
open Go Go.Proofs
set_option maxRecDepth 100000
set_option maxHeartbeats 4000000
variable (G : Nat → Option (List D))
def reredosref_MessageFault (p0 : Config) (p1 : Message) : Option (Int) := (Option.bind (reredosref_ConfigFault p0) fun v1 => (if (v1 != 0) = true then (some v1) else (Option.bind (reredosref_In p1.Kind 1 9) fun v3 => (if (!v3) = true then (some 3) else (Option.bind (reredosref_In p1.From 0 (IntKind.i64.wrap (p0.Sites - 1))) fun v5 => (if (!v5) = true then (some 2) else (Option.bind (reredosref_In p1.To 0 (IntKind.i64.wrap (p0.Sites - 1))) fun v7 => (if (!v7) = true then (some 2) else (Option.bind (reredosref_txnMay p0 p1.Txn) fun v9 => (if (!v9) = true then (some 2) else (Option.bind (reredosref_labelMay p0 p1.Label) fun v11 => (if (!v11) = true then (some 2) else (Option.bind (reredosref_In p1.Key 0 7) fun v13 => (if (!v13) = true then (some 2) else (Option.bind (reredosref_In p1.Value 0 1073741824) fun v15 => (if (!v15) = true then (some 2) else (Option.bind (reredosref_In p1.Version 0 1048576) fun v17 => (if (!v17) = true then (some 2) else (Option.bind (reredosref_In p1.Ask 0 1048576) fun v19 => (if (!v19) = true then (some 2) else (if (p1.Code != 0) = true then (if (p1.Code != 11) = true then (if (p1.Code != 8) = true then (some 2) else (withK (fun (b24_1 : Int) (b24_2 : Int) (b24_3 : Int) (b24_4 : Int) (b24_5 : Int) (b24_6 : Bool) (b24_7 : Int) => (if (!((b24_1 == p1.Label) && ((b24_2 == p1.Key) && ((b24_3 == p1.Value) && ((b24_4 == p1.Version) && ((b24_5 == p1.Ask) && ((b24_6 == p1.Yes) && (b24_7 == p1.Code)))))))) = true then (some 4) else (some 0))) fun k25 => (if (p1.Kind == 1) = true then (k25 p1.Label p1.Key 0 0 p1.Ask false 0) else (withK (fun (b27_1 : Int) (b27_2 : Int) (b27_3 : Int) (b27_4 : Int) (b27_5 : Int) (b27_6 : Bool) (b27_7 : Int) => (k25 b27_1 b27_2 b27_3 b27_4 b27_5 b27_6 b27_7)) fun k28 => (if (p1.Kind == 2) = true then (k28 0 p1.Key p1.Value 0 p1.Ask false 0) else (withK (fun (b30_1 : Int) (b30_2 : Int) (b30_3 : Int) (b30_4 : Int) (b30_5 : Int) (b30_6 : Bool) (b30_7 : Int) => (k28 b30_1 b30_2 b30_3 b30_4 b30_5 b30_6 b30_7)) fun k31 => (if (p1.Kind == 5) = true then (withK (fun (b33_1 : Int) (b33_2 : Int) => (k31 p1.Label p1.Key b33_1 b33_2 p1.Ask false p1.Code)) fun k34 => (if (p1.Code == 0) = true then (k34 p1.Value p1.Version) else (k34 0 0))) else (withK (fun (b36_1 : Int) (b36_2 : Int) (b36_3 : Int) (b36_4 : Int) (b36_5 : Bool) (b36_6 : Int) => (k31 b36_1 b36_2 0 b36_3 b36_4 b36_5 b36_6)) fun k37 => (if (p1.Kind == 6) = true then (k37 0 p1.Key 0 p1.Ask false p1.Code) else (withK (fun (b39_1 : Int) (b39_2 : Int) (b39_3 : Int) (b39_4 : Bool) => (k37 b39_1 b39_2 b39_3 0 b39_4 0)) fun k40 => (if (p1.Kind == 4) = true then (k40 0 0 0 p1.Yes) else (withK (fun (b42_1 : Int) (b42_2 : Int) (b42_3 : Int) (b42_4 : Bool) => (k40 b42_1 b42_2 b42_3 b42_4)) fun k43 => (if (p1.Kind == 3) = true then (k43 p1.Label p1.Key p1.Version false) else (withK (fun (b45_1 : Int) (b45_2 : Int) (b45_3 : Int) (b45_4 : Bool) => (k43 b45_1 b45_2 b45_3 b45_4)) fun k46 => (if (p1.Kind == 7) = true then (k46 p1.Label p1.Key p1.Version p1.Yes) else (k46 0 0 0 false)))))))))))))))) else (withK (fun (b49_1 : Int) (b49_2 : Int) (b49_3 : Int) (b49_4 : Int) (b49_5 : Int) (b49_6 : Bool) (b49_7 : Int) => (if (!((b49_1 == p1.Label) && ((b49_2 == p1.Key) && ((b49_3 == p1.Value) && ((b49_4 == p1.Version) && ((b49_5 == p1.Ask) && ((b49_6 == p1.Yes) && (b49_7 == p1.Code)))))))) = true then (some 4) else (some 0))) fun k50 => (if (p1.Kind == 1) = true then (k50 p1.Label p1.Key 0 0 p1.Ask false 0) else (withK (fun (b52_1 : Int) (b52_2 : Int) (b52_3 : Int) (b52_4 : Int) (b52_5 : Int) (b52_6 : Bool) (b52_7 : Int) => (k50 b52_1 b52_2 b52_3 b52_4 b52_5 b52_6 b52_7)) fun k53 => (if (p1.Kind == 2) = true then (k53 0 p1.Key p1.Value 0 p1.Ask false 0) else (withK (fun (b55_1 : Int) (b55_2 : Int) (b55_3 : Int) (b55_4 : Int) (b55_5 : Int) (b55_6 : Bool) (b55_7 : Int) => (k53 b55_1 b55_2 b55_3 b55_4 b55_5 b55_6 b55_7)) fun k56 => (if (p1.Kind == 5) = true then (withK (fun (b58_1 : Int) (b58_2 : Int) => (k56 p1.Label p1.Key b58_1 b58_2 p1.Ask false p1.Code)) fun k59 => (if (p1.Code == 0) = true then (k59 p1.Value p1.Version) else (k59 0 0))) else (withK (fun (b61_1 : Int) (b61_2 : Int) (b61_3 : Int) (b61_4 : Int) (b61_5 : Bool) (b61_6 : Int) => (k56 b61_1 b61_2 0 b61_3 b61_4 b61_5 b61_6)) fun k62 => (if (p1.Kind == 6) = true then (k62 0 p1.Key 0 p1.Ask false p1.Code) else (withK (fun (b64_1 : Int) (b64_2 : Int) (b64_3 : Int) (b64_4 : Bool) => (k62 b64_1 b64_2 b64_3 0 b64_4 0)) fun k65 => (if (p1.Kind == 4) = true then (k65 0 0 0 p1.Yes) else (withK (fun (b67_1 : Int) (b67_2 : Int) (b67_3 : Int) (b67_4 : Bool) => (k65 b67_1 b67_2 b67_3 b67_4)) fun k68 => (if (p1.Kind == 3) = true then (k68 p1.Label p1.Key p1.Version false) else (withK (fun (b70_1 : Int) (b70_2 : Int) (b70_3 : Int) (b70_4 : Bool) => (k68 b70_1 b70_2 b70_3 b70_4)) fun k71 => (if (p1.Kind == 7) = true then (k71 p1.Label p1.Key p1.Version p1.Yes) else (k71 0 0 0 false)))))))))))))))) else (withK (fun (b74_1 : Int) (b74_2 : Int) (b74_3 : Int) (b74_4 : Int) (b74_5 : Int) (b74_6 : Bool) (b74_7 : Int) => (if (!((b74_1 == p1.Label) && ((b74_2 == p1.Key) && ((b74_3 == p1.Value) && ((b74_4 == p1.Version) && ((b74_5 == p1.Ask) && ((b74_6 == p1.Yes) && (b74_7 == p1.Code)))))))) = true then (some 4) else (some 0))) fun k75 => (if (p1.Kind == 1) = true then (k75 p1.Label p1.Key 0 0 p1.Ask false 0) else (withK (fun (b77_1 : Int) (b77_2 : Int) (b77_3 : Int) (b77_4 : Int) (b77_5 : Int) (b77_6 : Bool) (b77_7 : Int) => (k75 b77_1 b77_2 b77_3 b77_4 b77_5 b77_6 b77_7)) fun k78 => (if (p1.Kind == 2) = true then (k78 0 p1.Key p1.Value 0 p1.Ask false 0) else (withK (fun (b80_1 : Int) (b80_2 : Int) (b80_3 : Int) (b80_4 : Int) (b80_5 : Int) (b80_6 : Bool) (b80_7 : Int) => (k78 b80_1 b80_2 b80_3 b80_4 b80_5 b80_6 b80_7)) fun k81 => (if (p1.Kind == 5) = true then (withK (fun (b83_1 : Int) (b83_2 : Int) => (k81 p1.Label p1.Key b83_1 b83_2 p1.Ask false p1.Code)) fun k84 => (if (p1.Code == 0) = true then (k84 p1.Value p1.Version) else (k84 0 0))) else (withK (fun (b86_1 : Int) (b86_2 : Int) (b86_3 : Int) (b86_4 : Int) (b86_5 : Bool) (b86_6 : Int) => (k81 b86_1 b86_2 0 b86_3 b86_4 b86_5 b86_6)) fun k87 => (if (p1.Kind == 6) = true then (k87 0 p1.Key 0 p1.Ask false p1.Code) else (withK (fun (b89_1 : Int) (b89_2 : Int) (b89_3 : Int) (b89_4 : Bool) => (k87 b89_1 b89_2 b89_3 0 b89_4 0)) fun k90 => (if (p1.Kind == 4) = true then (k90 0 0 0 p1.Yes) else (withK (fun (b92_1 : Int) (b92_2 : Int) (b92_3 : Int) (b92_4 : Bool) => (k90 b92_1 b92_2 b92_3 b92_4)) fun k93 => (if (p1.Kind == 3) = true then (k93 p1.Label p1.Key p1.Version false) else (withK (fun (b95_1 : Int) (b95_2 : Int) (b95_3 : Int) (b95_4 : Bool) => (k93 b95_1 b95_2 b95_3 b95_4)) fun k96 => (if (p1.Kind == 7) = true then (k96 p1.Label p1.Key p1.Version p1.Yes) else (k96 0 0 0 false))))))))))))))))))))))))))))))))))))
def F32 : VFn := ⟨183, (.seq (.reg [vo 2 (.boxk 3 (.t 0)), vo 3 (.boxk 12 (.t 1)), mi 4 0]) (.seq (.reg [vl 7 3 2, vo 8 (.call 70 [(.t 7)]), vm 5 8]) (.seq (.seq (.reg [vm 9 5, bk 10 .neq 9 0]) (.cond (.t 10) (.seq (.reg [vm 11 5, vm 4 11]) .ret) .skip)) (.seq (.seq (.reg [vf 12 0 3, vs 13 12, vo 14 (.call 92 [(.t 13), (ci 1), (ci 9)]), nt 15 14]) (.cond (.t 15) (.seq (.reg [mi 4 3]) .ret) .skip)) (.seq (.seq (.reg [vf 16 1 3, vs 17 16, vf 18 0 2, vs 19 18, bk 20 .sub 19 1, vo 21 (.call 92 [(.t 17), (ci 0), (.t 20)]), nt 22 21, vm 23 22, gf 24 23 (.fa 2 (.t 3)), gf 25 23 (.ld false 1 (.t 24)), gf 26 23 (.fa 0 (.t 2)), gf 27 23 (.ld false 1 (.t 26)), gf 28 23 (.bin .i .sub (.t 27) (ci 1)), gf 29 23 (.call 92 [(.t 25), (ci 0), (.t 28)]), gf 30 23 (.un .not (.t 29)), vo 31 (.pick (.t 23) (cb true) (.t 30)), vm 32 31, gf 33 32 (.ld true 3 (.t 2)), gf 34 32 (.fa 3 (.t 3)), gf 35 32 (.ld true 2 (.t 34)), gf 36 32 (.call 94 [(.t 33), (.t 35)]), gf 37 32 (.un .not (.t 36)), vo 38 (.pick (.t 32) (cb true) (.t 37)), vm 39 38, gf 40 39 (.ld true 3 (.t 2)), gf 41 39 (.fa 5 (.t 3)), gf 42 39 (.ld false 1 (.t 41)), gf 43 39 (.call 91 [(.t 40), (.t 42)]), gf 44 39 (.un .not (.t 43)), vo 45 (.pick (.t 39) (cb true) (.t 44)), vm 46 45, gf 47 46 (.fa 6 (.t 3)), gf 48 46 (.ld false 1 (.t 47)), gf 49 46 (.call 92 [(.t 48), (ci 0), (ci 7)]), gf 50 46 (.un .not (.t 49)), vo 51 (.pick (.t 46) (cb true) (.t 50)), vm 52 51, gf 53 52 (.fa 7 (.t 3)), gf 54 52 (.ld false 1 (.t 53)), gf 55 52 (.call 92 [(.t 54), (ci 0), (ci 1073741824)]), gf 56 52 (.un .not (.t 55)), vo 57 (.pick (.t 52) (cb true) (.t 56)), vm 58 57, gf 59 58 (.fa 8 (.t 3)), gf 60 58 (.ld false 1 (.t 59)), gf 61 58 (.call 92 [(.t 60), (ci 0), (ci 1048576)]), gf 62 58 (.un .not (.t 61)), vo 63 (.pick (.t 58) (cb true) (.t 62)), vm 64 63, gf 65 64 (.fa 9 (.t 3)), gf 66 64 (.ld false 1 (.t 65)), gf 67 64 (.call 92 [(.t 66), (ci 0), (ci 1048576)]), gf 68 64 (.un .not (.t 67)), vo 69 (.pick (.t 64) (cb true) (.t 68))]) (.cond (.t 69) (.seq (.reg [mi 4 2]) .ret) .skip)) (.seq (.seq (.reg [vf 70 11 3, vs 71 70, bk 72 .neq 71 0, vm 73 72, gt 74 73 (.fa 11 (.t 3)), gt 75 73 (.ld false 1 (.t 74)), gt 76 73 (.bin .i .neq (.t 75) (ci 11)), vo 77 (.pick (.t 73) (.t 76) (cb false)), vm 78 77, gt 79 78 (.fa 11 (.t 3)), gt 80 78 (.ld false 1 (.t 79)), gt 81 78 (.bin .i .neq (.t 80) (ci 8)), vo 82 (.pick (.t 78) (.t 81) (cb false))]) (.cond (.t 82) (.seq (.reg [mi 4 2]) .ret) .skip)) (.seq (.reg [vf 83 0 3, vs 84 83, vf 85 1 3, vs 86 85, vf 87 2 3, vs 88 87, vf 89 3 3, vl 90 2 89, vo 91 (.build [(zi 0), (zi 0), (zi 0), (zi 0), (zi 0), (zi 0), (zi 0), (zi 0), (zi 0), (zi 0), (.d (.b false)), (zi 0)] [(0, 1, (.t 84)), (1, 1, (.t 86)), (2, 1, (.t 88)), (3, 2, (.t 90))]), vo 6 (.alloc [(zi 0), (zi 0), (zi 0), (zi 0), (zi 0), (zi 0), (zi 0), (zi 0), (zi 0), (zi 0), (.d (.b false)), (zi 0)]), vu (.st 12 (.t 6) (.t 91))]) (.seq (.seq (.reg [vf 92 0 3, vs 93 92]) (.block 0 (.seq (.reg [bk 95 .eql 93 1, vm 94 95]) (.wk (.cond (.t 94) (.seq (.reg [vf 96 5 3, vs 97 96, vf 98 5 6, vu (.st 1 (.t 98) (.t 97))]) (.seq (.reg [vf 99 6 3, vs 100 99, vf 101 6 6, vu (.st 1 (.t 101) (.t 100))]) (.reg [vf 102 9 3, vs 103 102, vf 104 9 6, vu (.st 1 (.t 104) (.t 103))]))) (.seq (.reg [bk 106 .eql 93 2, vm 105 106]) (.wk (.cond (.t 105) (.seq (.reg [vf 107 6 3, vs 108 107, vf 109 6 6, vu (.st 1 (.t 109) (.t 108))]) (.seq (.reg [vf 110 7 3, vs 111 110, vf 112 7 6, vu (.st 1 (.t 112) (.t 111))]) (.reg [vf 113 9 3, vs 114 113, vf 115 9 6, vu (.st 1 (.t 115) (.t 114))]))) (.seq (.reg [bk 117 .eql 93 5, vm 116 117]) (.wk (.cond (.t 116) (.seq (.reg [vf 118 5 3, vs 119 118, vf 120 5 6, vu (.st 1 (.t 120) (.t 119))]) (.seq (.reg [vf 121 6 3, vs 122 121, vf 123 6 6, vu (.st 1 (.t 123) (.t 122))]) (.seq (.reg [vf 124 11 3, vs 125 124, vf 126 11 6, vu (.st 1 (.t 126) (.t 125))]) (.seq (.reg [vf 127 9 3, vs 128 127, vf 129 9 6, vu (.st 1 (.t 129) (.t 128))]) (.seq (.reg [vf 130 11 3, vs 131 130, bk 132 .eql 131 0]) (.wk (.cond (.t 132) (.seq (.reg [vf 133 7 3, vs 134 133, vf 135 7 6, vu (.st 1 (.t 135) (.t 134))]) (.reg [vf 136 8 3, vs 137 136, vf 138 8 6, vu (.st 1 (.t 138) (.t 137))])) .skip))))))) (.seq (.reg [bk 140 .eql 93 6, vm 139 140]) (.wk (.cond (.t 139) (.seq (.reg [vf 141 6 3, vs 142 141, vf 143 6 6, vu (.st 1 (.t 143) (.t 142))]) (.seq (.reg [vf 144 11 3, vs 145 144, vf 146 11 6, vu (.st 1 (.t 146) (.t 145))]) (.reg [vf 147 9 3, vs 148 147, vf 149 9 6, vu (.st 1 (.t 149) (.t 148))]))) (.seq (.reg [bk 151 .eql 93 4, vm 150 151]) (.wk (.cond (.t 150) (.reg [vf 152 10 3, vs 153 152, vf 154 10 6, vu (.st 1 (.t 154) (.t 153))]) (.seq (.reg [bk 156 .eql 93 3, vm 155 156]) (.wk (.cond (.t 155) (.seq (.reg [vf 157 5 3, vs 158 157, vf 159 5 6, vu (.st 1 (.t 159) (.t 158))]) (.seq (.reg [vf 160 6 3, vs 161 160, vf 162 6 6, vu (.st 1 (.t 162) (.t 161))]) (.reg [vf 163 8 3, vs 164 163, vf 165 8 6, vu (.st 1 (.t 165) (.t 164))]))) (.seq (.reg [bk 167 .eql 93 7, vm 166 167]) (.wk (.cond (.t 166) (.seq (.reg [vf 168 5 3, vs 169 168, vf 170 5 6, vu (.st 1 (.t 170) (.t 169))]) (.seq (.reg [vf 171 6 3, vs 172 171, vf 173 6 6, vu (.st 1 (.t 173) (.t 172))]) (.seq (.reg [vf 174 8 3, vs 175 174, vf 176 8 6, vu (.st 1 (.t 176) (.t 175))]) (.reg [vf 177 10 3, vs 178 177, vf 179 10 6, vu (.st 1 (.t 179) (.t 178))])))) .skip))))))))))))))))))))))) (.seq (.seq (.reg [vl 180 12 6, vl 181 12 3, vo 182 (.eqs true [.i, .i, .i, .i, .i, .i, .i, .i, .i, .i, .b, .i] (.t 180) (.t 181))]) (.cond (.t 182) (.seq (.reg [mi 4 4]) .ret) .skip)) (.seq (.reg [mi 4 0]) .ret)))))))))), [.t 4]⟩
theorem low32 : lowF Tryd.prog 32 = some F32.strip := by kernel_rfl
theorem fok32 : fOk Tryd.prog 32 = true := by kernel_rfl
theorem reredosref_MessageFault_ok (p0 : Config) (p1 : Message) (r : Int) (h : reredosref_MessageFault p0 p1 = some r) : FnRO Tryd.prog G 32 [.agg p0.bx, .agg p1.bx] (fun rs => rs = [.one (.i .i64 r)]) := by
 refine FnRO.of' low32 fok32 (by simp [F32]) ?_
 rw [reredosref_MessageFault] at h
 replace h := Hd.mk h
 simp only [F32, go_sem]
 try simp only [*, go_sem]
 refine cr h (reredosref_ConfigFault_ok G p0) (fun v1 h => ?_)
 refine oi h (fun hb2 h => ?_) (fun hb2 h => ?_)
 cases h.e
 simp only [*, go_sem, mA, mS]
 try simp only [*, go_sem]
 refine cr h (reredosref_In_ok G p1.Kind 1 9) (fun v3 h => ?_)
 refine oin h (fun hb4 hkhb4 h => ?_) (fun hb4 hkhb4 h => ?_)
 cases h.e
 simp only [*, go_sem, mA, mS]
 try simp only [*, go_sem]
 refine cr h (reredosref_In_ok G p1.From 0 (IntKind.i64.wrap (p0.Sites - 1))) (fun v5 h => ?_)
 refine oin h (fun hb6 hkhb6 h => ?_) (fun hb6 hkhb6 h => ?_)
 cases h.e
 simp only [*, go_sem, mA, mS]
 try simp only [*, go_sem]
 refine cr h (reredosref_In_ok G p1.To 0 (IntKind.i64.wrap (p0.Sites - 1))) (fun v7 h => ?_)
 refine oin h (fun hb8 hkhb8 h => ?_) (fun hb8 hkhb8 h => ?_)
 cases h.e
 simp only [*, go_sem, mA, mS]
 try simp only [*, go_sem]
 refine cr h (reredosref_txnMay_ok G p0 p1.Txn) (fun v9 h => ?_)
 refine oin h (fun hb10 hkhb10 h => ?_) (fun hb10 hkhb10 h => ?_)
 cases h.e
 simp only [*, go_sem, mA, mS]
 try simp only [*, go_sem]
 refine cr h (reredosref_labelMay_ok G p0 p1.Label) (fun v11 h => ?_)
 refine oin h (fun hb12 hkhb12 h => ?_) (fun hb12 hkhb12 h => ?_)
 cases h.e
 simp only [*, go_sem, mA, mS]
 try simp only [*, go_sem]
 refine cr h (reredosref_In_ok G p1.Key 0 7) (fun v13 h => ?_)
 refine oin h (fun hb14 hkhb14 h => ?_) (fun hb14 hkhb14 h => ?_)
 cases h.e
 simp only [*, go_sem, mA, mS]
 try simp only [*, go_sem]
 refine cr h (reredosref_In_ok G p1.Value 0 1073741824) (fun v15 h => ?_)
 refine oin h (fun hb16 hkhb16 h => ?_) (fun hb16 hkhb16 h => ?_)
 cases h.e
 simp only [*, go_sem, mA, mS]
 try simp only [*, go_sem]
 refine cr h (reredosref_In_ok G p1.Version 0 1048576) (fun v17 h => ?_)
 refine oin h (fun hb18 hkhb18 h => ?_) (fun hb18 hkhb18 h => ?_)
 cases h.e
 simp only [*, go_sem, mA, mS]
 try simp only [*, go_sem]
 refine cr h (reredosref_In_ok G p1.Ask 0 1048576) (fun v19 h => ?_)
 refine oin h (fun hb20 hkhb20 h => ?_) (fun hb20 hkhb20 h => ?_)
 cases h.e
 simp only [*, go_sem, mA, mS]
 refine oi h (fun hb21 h => ?_) (fun hb21 h => ?_)
 refine oi h (fun hb22 h => ?_) (fun hb22 h => ?_)
 refine oi h (fun hb23 h => ?_) (fun hb23 h => ?_)
 cases h.e
 simp only [*, go_sem, mA, mS]
 try simp only [*, go_sem]
 refine jn7 h (fun b24_1 b24_2 b24_3 b24_4 b24_5 b24_6 b24_7 => [zK 3 (Message.enc p1), zP 6 0]) (fun b24_1 b24_2 b24_3 b24_4 b24_5 b24_6 b24_7 => [ox [zi p1.Kind, zi p1.From, zi p1.To, zi p1.Txn.Site, zi p1.Txn.N, zi b24_1, zi b24_2, zi b24_3, zi b24_4, zi b24_5, .d (.b b24_6), zi b24_7]]) (fun k25 h => ?_) (fun b24_1 b24_2 b24_3 b24_4 b24_5 b24_6 b24_7 h => ?_)
 refine oi h (fun hb26 h => ?_) (fun hb26 h => ?_)
 try simp only [*, go_sem]
 exact jc (p1.Label, p1.Key, 0, 0, p1.Ask, false, 0) h.e [some 0]
 try simp only [*, go_sem]
 refine jn7 h (fun b27_1 b27_2 b27_3 b27_4 b27_5 b27_6 b27_7 => [zK 3 (Message.enc p1), zP 6 0]) (fun b27_1 b27_2 b27_3 b27_4 b27_5 b27_6 b27_7 => [ox [zi p1.Kind, zi p1.From, zi p1.To, zi p1.Txn.Site, zi p1.Txn.N, zi b27_1, zi b27_2, zi b27_3, zi b27_4, zi b27_5, .d (.b b27_6), zi b27_7]]) (fun k28 h => ?_) (fun b27_1 b27_2 b27_3 b27_4 b27_5 b27_6 b27_7 h => ?_)
 refine oi h (fun hb29 h => ?_) (fun hb29 h => ?_)
 try simp only [*, go_sem]
 exact jc (0, p1.Key, p1.Value, 0, p1.Ask, false, 0) h.e [some 0]
 try simp only [*, go_sem]
 refine jn7 h (fun b30_1 b30_2 b30_3 b30_4 b30_5 b30_6 b30_7 => [zK 3 (Message.enc p1), zP 6 0]) (fun b30_1 b30_2 b30_3 b30_4 b30_5 b30_6 b30_7 => [ox [zi p1.Kind, zi p1.From, zi p1.To, zi p1.Txn.Site, zi p1.Txn.N, zi b30_1, zi b30_2, zi b30_3, zi b30_4, zi b30_5, .d (.b b30_6), zi b30_7]]) (fun k31 h => ?_) (fun b30_1 b30_2 b30_3 b30_4 b30_5 b30_6 b30_7 h => ?_)
 refine oi h (fun hb32 h => ?_) (fun hb32 h => ?_)
 try simp only [*, go_sem]
 refine jn2 h (fun b33_1 b33_2 => [zK 3 (Message.enc p1), zP 6 0]) (fun b33_1 b33_2 => [ox [zi p1.Kind, zi p1.From, zi p1.To, zi p1.Txn.Site, zi p1.Txn.N, zi p1.Label, zi p1.Key, zi b33_1, zi b33_2, zi p1.Ask, .d (.b false), zi p1.Code]]) (fun k34 h => ?_) (fun b33_1 b33_2 h => ?_)
 refine oi h (fun hb35 h => ?_) (fun hb35 h => ?_)
 try simp only [*, go_sem]
 exact jc (p1.Value, p1.Version) h.e [some 0]
 try simp only [*, go_sem]
 exact jc (0, 0) h.e [some 0]
 try simp only [*, go_sem]
 exact jc (p1.Label, p1.Key, b33_1, b33_2, p1.Ask, false, p1.Code) h.e [some 0]
 try simp only [*, go_sem]
 refine jn6 h (fun b36_1 b36_2 b36_3 b36_4 b36_5 b36_6 => [zK 3 (Message.enc p1), zP 6 0]) (fun b36_1 b36_2 b36_3 b36_4 b36_5 b36_6 => [ox [zi p1.Kind, zi p1.From, zi p1.To, zi p1.Txn.Site, zi p1.Txn.N, zi b36_1, zi b36_2, zi 0, zi b36_3, zi b36_4, .d (.b b36_5), zi b36_6]]) (fun k37 h => ?_) (fun b36_1 b36_2 b36_3 b36_4 b36_5 b36_6 h => ?_)
 refine oi h (fun hb38 h => ?_) (fun hb38 h => ?_)
 try simp only [*, go_sem]
 exact jc (0, p1.Key, 0, p1.Ask, false, p1.Code) h.e [some 0]
 try simp only [*, go_sem]
 refine jn4 h (fun b39_1 b39_2 b39_3 b39_4 => [zK 3 (Message.enc p1), zP 6 0]) (fun b39_1 b39_2 b39_3 b39_4 => [ox [zi p1.Kind, zi p1.From, zi p1.To, zi p1.Txn.Site, zi p1.Txn.N, zi b39_1, zi b39_2, zi 0, zi b39_3, zi 0, .d (.b b39_4), zi 0]]) (fun k40 h => ?_) (fun b39_1 b39_2 b39_3 b39_4 h => ?_)
 refine oi h (fun hb41 h => ?_) (fun hb41 h => ?_)
 try simp only [*, go_sem]
 exact jc (0, 0, 0, p1.Yes) h.e [some 0]
 try simp only [*, go_sem]
 refine jn4 h (fun b42_1 b42_2 b42_3 b42_4 => [zK 3 (Message.enc p1), zP 6 0]) (fun b42_1 b42_2 b42_3 b42_4 => [ox [zi p1.Kind, zi p1.From, zi p1.To, zi p1.Txn.Site, zi p1.Txn.N, zi b42_1, zi b42_2, zi 0, zi b42_3, zi 0, .d (.b b42_4), zi 0]]) (fun k43 h => ?_) (fun b42_1 b42_2 b42_3 b42_4 h => ?_)
 refine oi h (fun hb44 h => ?_) (fun hb44 h => ?_)
 try simp only [*, go_sem]
 exact jc (p1.Label, p1.Key, p1.Version, false) h.e [some 0]
 try simp only [*, go_sem]
 refine jn4 h (fun b45_1 b45_2 b45_3 b45_4 => [zK 3 (Message.enc p1), zP 6 0]) (fun b45_1 b45_2 b45_3 b45_4 => [ox [zi p1.Kind, zi p1.From, zi p1.To, zi p1.Txn.Site, zi p1.Txn.N, zi b45_1, zi b45_2, zi 0, zi b45_3, zi 0, .d (.b b45_4), zi 0]]) (fun k46 h => ?_) (fun b45_1 b45_2 b45_3 b45_4 h => ?_)
 refine oi h (fun hb47 h => ?_) (fun hb47 h => ?_)
 try simp only [*, go_sem]
 exact jc (p1.Label, p1.Key, p1.Version, p1.Yes) h.e [some 0]
 try simp only [*, go_sem]
 exact jc (0, 0, 0, false) h.e [some 0]
 try simp only [*, go_sem]
 exact jc (b45_1, b45_2, b45_3, b45_4) h.e [some 0]
 try simp only [*, go_sem]
 exact jc (b42_1, b42_2, b42_3, b42_4) h.e [some 0]
 try simp only [*, go_sem]
 exact jc (b39_1, b39_2, b39_3, 0, b39_4, 0) h.e [some 0]
 try simp only [*, go_sem]
 exact jc (b36_1, b36_2, 0, b36_3, b36_4, b36_5, b36_6) h.e [some 0]
 try simp only [*, go_sem]
 exact jc (b30_1, b30_2, b30_3, b30_4, b30_5, b30_6, b30_7) h.e [some 0]
 try simp only [*, go_sem]
 exact jc (b27_1, b27_2, b27_3, b27_4, b27_5, b27_6, b27_7) h.e [some 0]
 refine oin h (fun hb48 hkhb48 h => ?_) (fun hb48 hkhb48 h => ?_)
 try simp only [*, go_sem]
 cases h.e
 simp only [*, go_sem, mA, mS]
 try simp only [*, go_sem]
 cases h.e
 simp only [*, go_sem, mA, mS]
 try simp only [*, go_sem]
 refine jn7 h (fun b49_1 b49_2 b49_3 b49_4 b49_5 b49_6 b49_7 => [zK 3 (Message.enc p1), zP 6 0]) (fun b49_1 b49_2 b49_3 b49_4 b49_5 b49_6 b49_7 => [ox [zi p1.Kind, zi p1.From, zi p1.To, zi p1.Txn.Site, zi p1.Txn.N, zi b49_1, zi b49_2, zi b49_3, zi b49_4, zi b49_5, .d (.b b49_6), zi b49_7]]) (fun k50 h => ?_) (fun b49_1 b49_2 b49_3 b49_4 b49_5 b49_6 b49_7 h => ?_)
 refine oi h (fun hb51 h => ?_) (fun hb51 h => ?_)
 try simp only [*, go_sem]
 exact jc (p1.Label, p1.Key, 0, 0, p1.Ask, false, 0) h.e [some 0]
 try simp only [*, go_sem]
 refine jn7 h (fun b52_1 b52_2 b52_3 b52_4 b52_5 b52_6 b52_7 => [zK 3 (Message.enc p1), zP 6 0]) (fun b52_1 b52_2 b52_3 b52_4 b52_5 b52_6 b52_7 => [ox [zi p1.Kind, zi p1.From, zi p1.To, zi p1.Txn.Site, zi p1.Txn.N, zi b52_1, zi b52_2, zi b52_3, zi b52_4, zi b52_5, .d (.b b52_6), zi b52_7]]) (fun k53 h => ?_) (fun b52_1 b52_2 b52_3 b52_4 b52_5 b52_6 b52_7 h => ?_)
 refine oi h (fun hb54 h => ?_) (fun hb54 h => ?_)
 try simp only [*, go_sem]
 exact jc (0, p1.Key, p1.Value, 0, p1.Ask, false, 0) h.e [some 0]
 try simp only [*, go_sem]
 refine jn7 h (fun b55_1 b55_2 b55_3 b55_4 b55_5 b55_6 b55_7 => [zK 3 (Message.enc p1), zP 6 0]) (fun b55_1 b55_2 b55_3 b55_4 b55_5 b55_6 b55_7 => [ox [zi p1.Kind, zi p1.From, zi p1.To, zi p1.Txn.Site, zi p1.Txn.N, zi b55_1, zi b55_2, zi b55_3, zi b55_4, zi b55_5, .d (.b b55_6), zi b55_7]]) (fun k56 h => ?_) (fun b55_1 b55_2 b55_3 b55_4 b55_5 b55_6 b55_7 h => ?_)
 refine oi h (fun hb57 h => ?_) (fun hb57 h => ?_)
 try simp only [*, go_sem]
 refine jn2 h (fun b58_1 b58_2 => [zK 3 (Message.enc p1), zP 6 0]) (fun b58_1 b58_2 => [ox [zi p1.Kind, zi p1.From, zi p1.To, zi p1.Txn.Site, zi p1.Txn.N, zi p1.Label, zi p1.Key, zi b58_1, zi b58_2, zi p1.Ask, .d (.b false), zi p1.Code]]) (fun k59 h => ?_) (fun b58_1 b58_2 h => ?_)
 refine oi h (fun hb60 h => ?_) (fun hb60 h => ?_)
 try simp only [*, go_sem]
 exact jc (p1.Value, p1.Version) h.e [some 0]
 try simp only [*, go_sem]
 exact jc (0, 0) h.e [some 0]
 try simp only [*, go_sem]
 exact jc (p1.Label, p1.Key, b58_1, b58_2, p1.Ask, false, p1.Code) h.e [some 0]
 try simp only [*, go_sem]
 refine jn6 h (fun b61_1 b61_2 b61_3 b61_4 b61_5 b61_6 => [zK 3 (Message.enc p1), zP 6 0]) (fun b61_1 b61_2 b61_3 b61_4 b61_5 b61_6 => [ox [zi p1.Kind, zi p1.From, zi p1.To, zi p1.Txn.Site, zi p1.Txn.N, zi b61_1, zi b61_2, zi 0, zi b61_3, zi b61_4, .d (.b b61_5), zi b61_6]]) (fun k62 h => ?_) (fun b61_1 b61_2 b61_3 b61_4 b61_5 b61_6 h => ?_)
 refine oi h (fun hb63 h => ?_) (fun hb63 h => ?_)
 try simp only [*, go_sem]
 exact jc (0, p1.Key, 0, p1.Ask, false, p1.Code) h.e [some 0]
 try simp only [*, go_sem]
 refine jn4 h (fun b64_1 b64_2 b64_3 b64_4 => [zK 3 (Message.enc p1), zP 6 0]) (fun b64_1 b64_2 b64_3 b64_4 => [ox [zi p1.Kind, zi p1.From, zi p1.To, zi p1.Txn.Site, zi p1.Txn.N, zi b64_1, zi b64_2, zi 0, zi b64_3, zi 0, .d (.b b64_4), zi 0]]) (fun k65 h => ?_) (fun b64_1 b64_2 b64_3 b64_4 h => ?_)
 refine oi h (fun hb66 h => ?_) (fun hb66 h => ?_)
 try simp only [*, go_sem]
 exact jc (0, 0, 0, p1.Yes) h.e [some 0]
 try simp only [*, go_sem]
 refine jn4 h (fun b67_1 b67_2 b67_3 b67_4 => [zK 3 (Message.enc p1), zP 6 0]) (fun b67_1 b67_2 b67_3 b67_4 => [ox [zi p1.Kind, zi p1.From, zi p1.To, zi p1.Txn.Site, zi p1.Txn.N, zi b67_1, zi b67_2, zi 0, zi b67_3, zi 0, .d (.b b67_4), zi 0]]) (fun k68 h => ?_) (fun b67_1 b67_2 b67_3 b67_4 h => ?_)
 refine oi h (fun hb69 h => ?_) (fun hb69 h => ?_)
 try simp only [*, go_sem]
 exact jc (p1.Label, p1.Key, p1.Version, false) h.e [some 0]
 try simp only [*, go_sem]
 refine jn4 h (fun b70_1 b70_2 b70_3 b70_4 => [zK 3 (Message.enc p1), zP 6 0]) (fun b70_1 b70_2 b70_3 b70_4 => [ox [zi p1.Kind, zi p1.From, zi p1.To, zi p1.Txn.Site, zi p1.Txn.N, zi b70_1, zi b70_2, zi 0, zi b70_3, zi 0, .d (.b b70_4), zi 0]]) (fun k71 h => ?_) (fun b70_1 b70_2 b70_3 b70_4 h => ?_)
 refine oi h (fun hb72 h => ?_) (fun hb72 h => ?_)
 try simp only [*, go_sem]
 exact jc (p1.Label, p1.Key, p1.Version, p1.Yes) h.e [some 0]
 try simp only [*, go_sem]
 exact jc (0, 0, 0, false) h.e [some 0]
 try simp only [*, go_sem]
 exact jc (b70_1, b70_2, b70_3, b70_4) h.e [some 0]
 try simp only [*, go_sem]
 exact jc (b67_1, b67_2, b67_3, b67_4) h.e [some 0]
 try simp only [*, go_sem]
 exact jc (b64_1, b64_2, b64_3, 0, b64_4, 0) h.e [some 0]
 try simp only [*, go_sem]
 exact jc (b61_1, b61_2, 0, b61_3, b61_4, b61_5, b61_6) h.e [some 0]
 try simp only [*, go_sem]
 exact jc (b55_1, b55_2, b55_3, b55_4, b55_5, b55_6, b55_7) h.e [some 0]
 try simp only [*, go_sem]
 exact jc (b52_1, b52_2, b52_3, b52_4, b52_5, b52_6, b52_7) h.e [some 0]
 refine oin h (fun hb73 hkhb73 h => ?_) (fun hb73 hkhb73 h => ?_)
 try simp only [*, go_sem]
 cases h.e
 simp only [*, go_sem, mA, mS]
 try simp only [*, go_sem]
 cases h.e
 simp only [*, go_sem, mA, mS]
 try simp only [*, go_sem]
 refine jn7 h (fun b74_1 b74_2 b74_3 b74_4 b74_5 b74_6 b74_7 => [zK 3 (Message.enc p1), zP 6 0]) (fun b74_1 b74_2 b74_3 b74_4 b74_5 b74_6 b74_7 => [ox [zi p1.Kind, zi p1.From, zi p1.To, zi p1.Txn.Site, zi p1.Txn.N, zi b74_1, zi b74_2, zi b74_3, zi b74_4, zi b74_5, .d (.b b74_6), zi b74_7]]) (fun k75 h => ?_) (fun b74_1 b74_2 b74_3 b74_4 b74_5 b74_6 b74_7 h => ?_)
 refine oi h (fun hb76 h => ?_) (fun hb76 h => ?_)
 try simp only [*, go_sem]
 exact jc (p1.Label, p1.Key, 0, 0, p1.Ask, false, 0) h.e [some 0]
 try simp only [*, go_sem]
 refine jn7 h (fun b77_1 b77_2 b77_3 b77_4 b77_5 b77_6 b77_7 => [zK 3 (Message.enc p1), zP 6 0]) (fun b77_1 b77_2 b77_3 b77_4 b77_5 b77_6 b77_7 => [ox [zi p1.Kind, zi p1.From, zi p1.To, zi p1.Txn.Site, zi p1.Txn.N, zi b77_1, zi b77_2, zi b77_3, zi b77_4, zi b77_5, .d (.b b77_6), zi b77_7]]) (fun k78 h => ?_) (fun b77_1 b77_2 b77_3 b77_4 b77_5 b77_6 b77_7 h => ?_)
 refine oi h (fun hb79 h => ?_) (fun hb79 h => ?_)
 try simp only [*, go_sem]
 exact jc (0, p1.Key, p1.Value, 0, p1.Ask, false, 0) h.e [some 0]
 try simp only [*, go_sem]
 refine jn7 h (fun b80_1 b80_2 b80_3 b80_4 b80_5 b80_6 b80_7 => [zK 3 (Message.enc p1), zP 6 0]) (fun b80_1 b80_2 b80_3 b80_4 b80_5 b80_6 b80_7 => [ox [zi p1.Kind, zi p1.From, zi p1.To, zi p1.Txn.Site, zi p1.Txn.N, zi b80_1, zi b80_2, zi b80_3, zi b80_4, zi b80_5, .d (.b b80_6), zi b80_7]]) (fun k81 h => ?_) (fun b80_1 b80_2 b80_3 b80_4 b80_5 b80_6 b80_7 h => ?_)
 refine oi h (fun hb82 h => ?_) (fun hb82 h => ?_)
 try simp only [*, go_sem]
 refine jn2 h (fun b83_1 b83_2 => [zK 3 (Message.enc p1), zP 6 0]) (fun b83_1 b83_2 => [ox [zi p1.Kind, zi p1.From, zi p1.To, zi p1.Txn.Site, zi p1.Txn.N, zi p1.Label, zi p1.Key, zi b83_1, zi b83_2, zi p1.Ask, .d (.b false), zi p1.Code]]) (fun k84 h => ?_) (fun b83_1 b83_2 h => ?_)
 refine oi h (fun hb85 h => ?_) (fun hb85 h => ?_)
 try simp only [*, go_sem]
 exact jc (p1.Value, p1.Version) h.e [some 0]
 try simp only [*, go_sem]
 exact jc (0, 0) h.e [some 0]
 try simp only [*, go_sem]
 exact jc (p1.Label, p1.Key, b83_1, b83_2, p1.Ask, false, p1.Code) h.e [some 0]
 try simp only [*, go_sem]
 refine jn6 h (fun b86_1 b86_2 b86_3 b86_4 b86_5 b86_6 => [zK 3 (Message.enc p1), zP 6 0]) (fun b86_1 b86_2 b86_3 b86_4 b86_5 b86_6 => [ox [zi p1.Kind, zi p1.From, zi p1.To, zi p1.Txn.Site, zi p1.Txn.N, zi b86_1, zi b86_2, zi 0, zi b86_3, zi b86_4, .d (.b b86_5), zi b86_6]]) (fun k87 h => ?_) (fun b86_1 b86_2 b86_3 b86_4 b86_5 b86_6 h => ?_)
 refine oi h (fun hb88 h => ?_) (fun hb88 h => ?_)
 try simp only [*, go_sem]
 exact jc (0, p1.Key, 0, p1.Ask, false, p1.Code) h.e [some 0]
 try simp only [*, go_sem]
 refine jn4 h (fun b89_1 b89_2 b89_3 b89_4 => [zK 3 (Message.enc p1), zP 6 0]) (fun b89_1 b89_2 b89_3 b89_4 => [ox [zi p1.Kind, zi p1.From, zi p1.To, zi p1.Txn.Site, zi p1.Txn.N, zi b89_1, zi b89_2, zi 0, zi b89_3, zi 0, .d (.b b89_4), zi 0]]) (fun k90 h => ?_) (fun b89_1 b89_2 b89_3 b89_4 h => ?_)
 refine oi h (fun hb91 h => ?_) (fun hb91 h => ?_)
 try simp only [*, go_sem]
 exact jc (0, 0, 0, p1.Yes) h.e [some 0]
 try simp only [*, go_sem]
 refine jn4 h (fun b92_1 b92_2 b92_3 b92_4 => [zK 3 (Message.enc p1), zP 6 0]) (fun b92_1 b92_2 b92_3 b92_4 => [ox [zi p1.Kind, zi p1.From, zi p1.To, zi p1.Txn.Site, zi p1.Txn.N, zi b92_1, zi b92_2, zi 0, zi b92_3, zi 0, .d (.b b92_4), zi 0]]) (fun k93 h => ?_) (fun b92_1 b92_2 b92_3 b92_4 h => ?_)
 refine oi h (fun hb94 h => ?_) (fun hb94 h => ?_)
 try simp only [*, go_sem]
 exact jc (p1.Label, p1.Key, p1.Version, false) h.e [some 0]
 try simp only [*, go_sem]
 refine jn4 h (fun b95_1 b95_2 b95_3 b95_4 => [zK 3 (Message.enc p1), zP 6 0]) (fun b95_1 b95_2 b95_3 b95_4 => [ox [zi p1.Kind, zi p1.From, zi p1.To, zi p1.Txn.Site, zi p1.Txn.N, zi b95_1, zi b95_2, zi 0, zi b95_3, zi 0, .d (.b b95_4), zi 0]]) (fun k96 h => ?_) (fun b95_1 b95_2 b95_3 b95_4 h => ?_)
 refine oi h (fun hb97 h => ?_) (fun hb97 h => ?_)
 try simp only [*, go_sem]
 exact jc (p1.Label, p1.Key, p1.Version, p1.Yes) h.e [some 0]
 try simp only [*, go_sem]
 exact jc (0, 0, 0, false) h.e [some 0]
 try simp only [*, go_sem]
 exact jc (b95_1, b95_2, b95_3, b95_4) h.e [some 0]
 try simp only [*, go_sem]
 exact jc (b92_1, b92_2, b92_3, b92_4) h.e [some 0]
 try simp only [*, go_sem]
 exact jc (b89_1, b89_2, b89_3, 0, b89_4, 0) h.e [some 0]
 try simp only [*, go_sem]
 exact jc (b86_1, b86_2, 0, b86_3, b86_4, b86_5, b86_6) h.e [some 0]
 try simp only [*, go_sem]
 exact jc (b80_1, b80_2, b80_3, b80_4, b80_5, b80_6, b80_7) h.e [some 0]
 try simp only [*, go_sem]
 exact jc (b77_1, b77_2, b77_3, b77_4, b77_5, b77_6, b77_7) h.e [some 0]
 refine oin h (fun hb98 hkhb98 h => ?_) (fun hb98 hkhb98 h => ?_)
 try simp only [*, go_sem]
 cases h.e
 simp only [*, go_sem, mA, mS]
 try simp only [*, go_sem]
 cases h.e
 simp only [*, go_sem, mA, mS]
def reredosref_Dominates (p0 : Label) (p1 : Label) : Option (Bool) := (withK (fun (b1_1 : Bool) => (some b1_1)) fun k2 => (if (decide (p0.Level ≥ p1.Level)) = true then (k2 (bitOp .i64 (· &&& ·) p0.Cats p1.Cats == p1.Cats)) else (k2 false)))
def F33 : VFn := ⟨20, (.seq (.reg [vo 2 (.boxk 2 (.t 0)), vo 3 (.boxk 2 (.t 1)), vo 4 (.mv (cb false))]) (.seq (.wk (.reg [vf 5 0 2, vs 6 5, vf 7 0 3, vs 8 7, bt 9 .geq 6 8, vm 10 9, gt 11 10 (.fa 1 (.t 2)), gt 12 10 (.ld false 1 (.t 11)), gt 13 10 (.fa 1 (.t 3)), gt 14 10 (.ld false 1 (.t 13)), gt 15 10 (.bin .i .and (.t 12) (.t 14)), gt 16 10 (.fa 1 (.t 3)), gt 17 10 (.ld false 1 (.t 16)), gt 18 10 (.bin .i .eql (.t 15) (.t 17)), vo 19 (.pick (.t 10) (.t 18) (cb false)), vm 4 19])) .ret)), [.t 4]⟩
theorem low33 : lowF Tryd.prog 33 = some F33.strip := by kernel_rfl
theorem fok33 : fOk Tryd.prog 33 = true := by kernel_rfl
theorem reredosref_Dominates_ok (p0 : Label) (p1 : Label) (r : Bool) (h : reredosref_Dominates p0 p1 = some r) : FnRO Tryd.prog G 33 [.agg p0.bx, .agg p1.bx] (fun rs => rs = [.one (.b r)]) := by
 refine FnRO.of' low33 fok33 (by simp [F33]) ?_
 rw [reredosref_Dominates] at h
 replace h := Hd.mk h
 simp only [F33, go_sem]
 try simp only [*, go_sem]
 refine jn1 h (fun b1_1 => [zB 4 b1_1]) (fun b1_1 => []) (fun k2 h => ?_) (fun b1_1 h => ?_)
 refine oi h (fun hb3 h => ?_) (fun hb3 h => ?_)
 try simp only [*, go_sem]
 exact jc (bitOp .i64 (· &&& ·) p0.Cats p1.Cats == p1.Cats) h.e []
 try simp only [*, go_sem]
 exact jc (false) h.e []
 cases h.e
 simp only [*, go_sem, mA, mS]
def reredosref_StoreCopy_L1 (p0 : Store) (k2 : (List Item) → Option (Store)) : Nat → Nat → (List Item) → Option (Store)
 | 0, _, _ => none
 | n4 + 1, a3_1, a3_2 => (if (decide (a3_1 < p0.Items.length)) = true then (Option.bind (p0.Items[a3_1]?) fun x7 => (if fits 24 (a3_2.length + 1) then (reredosref_StoreCopy_L1 p0 k2 n4 (a3_1 + 1) (a3_2 ++ [x7])) else none)) else (k2 a3_2))
def reredosref_StoreCopy_L2 (p0 : Store) (k11 : (List Lock) → Option (Store)) : Nat → Nat → (List Lock) → Option (Store)
 | 0, _, _ => none
 | n13 + 1, a12_1, a12_2 => (if (decide (a12_1 < p0.Locks.length)) = true then (Option.bind (p0.Locks[a12_1]?) fun x16 => (if fits 48 (a12_2.length + 1) then (reredosref_StoreCopy_L2 p0 k11 n13 (a12_1 + 1) (a12_2 ++ [x16])) else none)) else (k11 a12_2))
def reredosref_StoreCopy_L3 (p0 : Store) (k20 : (List Doubt) → Option (Store)) : Nat → Nat → (List Doubt) → Option (Store)
 | 0, _, _ => none
 | n22 + 1, a21_1, a21_2 => (if (decide (a21_1 < p0.Doubts.length)) = true then (Option.bind (p0.Doubts[a21_1]?) fun x25 => (if fits 24 (a21_2.length + 1) then (reredosref_StoreCopy_L3 p0 k20 n22 (a21_1 + 1) (a21_2 ++ [x25])) else none)) else (k20 a21_2))
def reredosref_StoreCopy_L4 (p0 : Store) (k29 : (List Txn) → Option (Store)) : Nat → Nat → (List Txn) → Option (Store)
 | 0, _, _ => none
 | n31 + 1, a30_1, a30_2 => (if (decide (a30_1 < p0.Over.length)) = true then (Option.bind (p0.Over[a30_1]?) fun x34 => (if fits 16 (a30_2.length + 1) then (reredosref_StoreCopy_L4 p0 k29 n31 (a30_1 + 1) (a30_2 ++ [x34])) else none)) else (k29 a30_2))
def reredosref_StoreCopy (p0 : Store) : Option (Store) := (withK (fun (b1_1 : List Item) => (withK (fun (b10_1 : List Lock) => (withK (fun (b19_1 : List Doubt) => (withK (fun (b28_1 : List Txn) => (some (Store.mk b1_1 b10_1 b19_1 b28_1))) fun k29 => (reredosref_StoreCopy_L4 p0 k29 (p0.Over.length + 1) 0 []))) fun k20 => (reredosref_StoreCopy_L3 p0 k20 (p0.Doubts.length + 1) 0 []))) fun k11 => (reredosref_StoreCopy_L2 p0 k11 (p0.Locks.length + 1) 0 []))) fun k2 => (reredosref_StoreCopy_L1 p0 k2 (p0.Items.length + 1) 0 []))
def F34 : VFn := ⟨78, (.seq (.reg [vo 1 (.box 4 (.t 0)), vo 2 (.alloc [(.nl 3), (.nl 6), (.nl 3), (.nl 2)])]) (.seq (.reg [vo 8 (.build [(.nl 3), (.nl 6), (.nl 3), (.nl 2)] []), vo 3 (.alloc [(.nl 3), (.nl 6), (.nl 3), (.nl 2)]), vu (.st 4 (.t 3) (.t 8))]) (.seq (.seq (.reg [mi 4 0]) (.wk (.block 0 (.loop (.seq (.seq (.reg [vm 9 4, vf 10 0 1, vs 11 10, ln 12 11, bt 13 .lss 9 12]) (.cond (.t 13) .skip (.exit 0))) (.seq (.block 1 (.draw [vd (vf 16 0 3) 0, vd (vs 17 16) 1, vd (vf 18 0 1) 0, vd (vs 19 18) 4, vd (vm 20 4) 0, vd (xa 21 3 19 20) 28, vd (vl 22 3 21) 60, vd (vo 23 (.bsl 3 1 [(zi 0), (zi 0), (zi 0)] [(0, (.t 22))])) 124, vd (vo 24 (.app 3 24 (.t 17) (.t 23))) 255, vd (vf 25 0 3) 511, vd (vu (.st 1 (.t 25) (.t 24))) 1023])) (.reg [vm 14 4, bk 15 .add 14 1, vm 4 15]))))))) (.seq (.seq (.reg [mi 5 0]) (.wk (.block 2 (.loop (.seq (.seq (.reg [vm 26 5, vf 27 1 1, vs 28 27, ln 29 28, bt 30 .lss 26 29]) (.cond (.t 30) .skip (.exit 2))) (.seq (.block 3 (.draw [vd (vf 33 1 3) 0, vd (vs 34 33) 1, vd (vf 35 1 1) 0, vd (vs 36 35) 4, vd (vm 37 5) 0, vd (xa 38 6 36 37) 28, vd (vl 39 6 38) 60, vd (vo 40 (.bsl 6 1 [(zi 0), (zi 0), (zi 0), (.d (.b false)), (zi 0), (zi 0)] [(0, (.t 39))])) 124, vd (vo 41 (.app 6 48 (.t 34) (.t 40))) 255, vd (vf 42 1 3) 511, vd (vu (.st 1 (.t 42) (.t 41))) 1023])) (.reg [vm 31 5, bk 32 .add 31 1, vm 5 32]))))))) (.seq (.seq (.reg [mi 6 0]) (.wk (.block 4 (.loop (.seq (.seq (.reg [vm 43 6, vf 44 2 1, vs 45 44, ln 46 45, bt 47 .lss 43 46]) (.cond (.t 47) .skip (.exit 4))) (.seq (.block 5 (.draw [vd (vf 50 2 3) 0, vd (vs 51 50) 1, vd (vf 52 2 1) 0, vd (vs 53 52) 4, vd (vm 54 6) 0, vd (xa 55 3 53 54) 28, vd (vl 56 3 55) 60, vd (vo 57 (.bsl 3 1 [(zi 0), (zi 0), (zi 0)] [(0, (.t 56))])) 124, vd (vo 58 (.app 3 24 (.t 51) (.t 57))) 255, vd (vf 59 2 3) 511, vd (vu (.st 1 (.t 59) (.t 58))) 1023])) (.reg [vm 48 6, bk 49 .add 48 1, vm 6 49]))))))) (.seq (.seq (.reg [mi 7 0]) (.wk (.block 6 (.loop (.seq (.seq (.reg [vm 60 7, vf 61 3 1, vs 62 61, ln 63 62, bt 64 .lss 60 63]) (.cond (.t 64) .skip (.exit 6))) (.seq (.block 7 (.draw [vd (vf 67 3 3) 0, vd (vs 68 67) 1, vd (vf 69 3 1) 0, vd (vs 70 69) 4, vd (vm 71 7) 0, vd (xa 72 2 70 71) 28, vd (vl 73 2 72) 60, vd (vo 74 (.bsl 2 1 [(zi 0), (zi 0)] [(0, (.t 73))])) 124, vd (vo 75 (.app 2 16 (.t 68) (.t 74))) 255, vd (vf 76 3 3) 511, vd (vu (.st 1 (.t 76) (.t 75))) 1023])) (.reg [vm 65 7, bk 66 .add 65 1, vm 7 66]))))))) (.seq (.reg [vl 77 4 3, vu (.st 4 (.t 2) (.t 77))]) .ret))))))), [.cell 2 true 4]⟩
theorem low34 : lowF Tryd.prog 34 = some F34.strip := by kernel_rfl
theorem fok34 : fOk Tryd.prog 34 = true := by kernel_rfl
theorem reredosref_StoreCopy_ok (p0 : Store) (r : Store) (h : reredosref_StoreCopy p0 = some r) : FnRO Tryd.prog G 34 [.agg p0.bx] (fun rs => rs = [.agg (r.encO)]) := by
 refine FnRO.of' low34 fok34 (by simp [F34]) ?_
 rw [reredosref_StoreCopy] at h
 replace h := Hd.mk h
 simp only [F34, go_sem]
 try simp only [*, go_sem]
 refine jn1 h (fun b1_1 => [zP 1 0, zP 2 1, zP 3 2]) (fun b1_1 => [ox p0.bx, ox [.nl 3, .nl 6, .nl 3, .nl 2], ox [.r 3 0 b1_1.length, .nl 6, .nl 3, .nl 2], oa 3 (b1_1.map Item.enc)]) (fun k2 h => ?_) (fun b1_1 h => ?_)
 try simp only [*, go_sem]
 refine lp2 (reredosref_StoreCopy_L1 p0 k2) (fun a3_1 a3_2 => [zP 1 0, zP 2 1, zP 3 2, zI 4 ((a3_1 : Nat) : Int)]) (fun a3_1 a3_2 => [ox p0.bx, ox [.nl 3, .nl 6, .nl 3, .nl 2], ox [.r 3 0 a3_2.length, .nl 6, .nl 3, .nl 2], oa 3 (a3_2.map Item.enc)]) h [] [some 0, some 1, some 2, none] (fun n4 a3_1 a3_2 h => ?_) (by intros; rw [reredosref_StoreCopy_L1])
 rw [reredosref_StoreCopy_L1] at h
 try simp only [*, go_sem]
 intro hl5
 refine oi h (fun hb6 h => ?_) (fun hb6 h => ?_)
 have := of_decide_eq_true hb6
 refine obg h (fun x7 _ hkx7 h => ?_)
 refine ck h (fun _ h => ?_)
 have := wrap_succ_max hkx7 hl5
 try simp only [*, go_sem]
 exact lc (a3_1 + 1, (a3_2 ++ [x7])) h.e [some 0, some 1, some 2, some 12]
 try simp only [*, go_sem]
 exact jc (a3_2) h.e [some 0, some 1, some 2, some 3]
 try simp only [*, go_sem]
 refine jn1 h (fun b10_1 => [zP 1 0, zP 2 1, zP 3 2]) (fun b10_1 => [ox p0.bx, ox [.nl 3, .nl 6, .nl 3, .nl 2], ox [.r 3 0 b1_1.length, .r 4 0 b10_1.length, .nl 3, .nl 2], oa 3 (b1_1.map Item.enc), oa 6 (b10_1.map Lock.enc)]) (fun k11 h => ?_) (fun b10_1 h => ?_)
 try simp only [*, go_sem]
 refine lp2 (reredosref_StoreCopy_L2 p0 k11) (fun a12_1 a12_2 => [zP 1 0, zP 2 1, zP 3 2, zI 5 ((a12_1 : Nat) : Int)]) (fun a12_1 a12_2 => [ox p0.bx, ox [.nl 3, .nl 6, .nl 3, .nl 2], ox [.r 3 0 b1_1.length, .r 4 0 a12_2.length, .nl 3, .nl 2], oa 3 (b1_1.map Item.enc), oa 6 (a12_2.map Lock.enc)]) h [] [some 0, some 1, some 2, some 3, none] (fun n13 a12_1 a12_2 h => ?_) (by intros; rw [reredosref_StoreCopy_L2])
 rw [reredosref_StoreCopy_L2] at h
 try simp only [*, go_sem]
 intro hl14
 refine oi h (fun hb15 h => ?_) (fun hb15 h => ?_)
 have := of_decide_eq_true hb15
 refine obg h (fun x16 _ hkx16 h => ?_)
 refine ck h (fun _ h => ?_)
 have := wrap_succ_max hkx16 hl14
 try simp only [*, go_sem]
 exact lc (a12_1 + 1, (a12_2 ++ [x16])) h.e [some 0, some 1, some 2, some 3, some 13]
 try simp only [*, go_sem]
 exact jc (a12_2) h.e [some 0, some 1, some 2, some 3, some 4]
 try simp only [*, go_sem]
 refine jn1 h (fun b19_1 => [zP 1 0, zP 2 1, zP 3 2]) (fun b19_1 => [ox p0.bx, ox [.nl 3, .nl 6, .nl 3, .nl 2], ox [.r 3 0 b1_1.length, .r 4 0 b10_1.length, .r 5 0 b19_1.length, .nl 2], oa 3 (b1_1.map Item.enc), oa 6 (b10_1.map Lock.enc), oa 3 (b19_1.map Doubt.enc)]) (fun k20 h => ?_) (fun b19_1 h => ?_)
 try simp only [*, go_sem]
 refine lp2 (reredosref_StoreCopy_L3 p0 k20) (fun a21_1 a21_2 => [zP 1 0, zP 2 1, zP 3 2, zI 6 ((a21_1 : Nat) : Int)]) (fun a21_1 a21_2 => [ox p0.bx, ox [.nl 3, .nl 6, .nl 3, .nl 2], ox [.r 3 0 b1_1.length, .r 4 0 b10_1.length, .r 5 0 a21_2.length, .nl 2], oa 3 (b1_1.map Item.enc), oa 6 (b10_1.map Lock.enc), oa 3 (a21_2.map Doubt.enc)]) h [] [some 0, some 1, some 2, some 3, some 4, none] (fun n22 a21_1 a21_2 h => ?_) (by intros; rw [reredosref_StoreCopy_L3])
 rw [reredosref_StoreCopy_L3] at h
 try simp only [*, go_sem]
 intro hl23
 refine oi h (fun hb24 h => ?_) (fun hb24 h => ?_)
 have := of_decide_eq_true hb24
 refine obg h (fun x25 _ hkx25 h => ?_)
 refine ck h (fun _ h => ?_)
 have := wrap_succ_max hkx25 hl23
 try simp only [*, go_sem]
 exact lc (a21_1 + 1, (a21_2 ++ [x25])) h.e [some 0, some 1, some 2, some 3, some 4, some 14]
 try simp only [*, go_sem]
 exact jc (a21_2) h.e [some 0, some 1, some 2, some 3, some 4, some 5]
 try simp only [*, go_sem]
 refine jn1 h (fun b28_1 => [zP 2 0, zP 3 1]) (fun b28_1 => [ox [.nl 3, .nl 6, .nl 3, .nl 2], ox [.r 2 0 b1_1.length, .r 3 0 b10_1.length, .r 4 0 b19_1.length, .r 5 0 b28_1.length], oa 3 (b1_1.map Item.enc), oa 6 (b10_1.map Lock.enc), oa 3 (b19_1.map Doubt.enc), oa 2 (b28_1.map Txn.enc)]) (fun k29 h => ?_) (fun b28_1 h => ?_)
 try simp only [*, go_sem]
 refine lp2 (reredosref_StoreCopy_L4 p0 k29) (fun a30_1 a30_2 => [zP 1 0, zP 2 1, zP 3 2, zI 7 ((a30_1 : Nat) : Int)]) (fun a30_1 a30_2 => [ox p0.bx, ox [.nl 3, .nl 6, .nl 3, .nl 2], ox [.r 3 0 b1_1.length, .r 4 0 b10_1.length, .r 5 0 b19_1.length, .r 6 0 a30_2.length], oa 3 (b1_1.map Item.enc), oa 6 (b10_1.map Lock.enc), oa 3 (b19_1.map Doubt.enc), oa 2 (a30_2.map Txn.enc)]) h [] [some 0, some 1, some 2, some 3, some 4, some 5, none] (fun n31 a30_1 a30_2 h => ?_) (by intros; rw [reredosref_StoreCopy_L4])
 rw [reredosref_StoreCopy_L4] at h
 try simp only [*, go_sem]
 intro hl32
 refine oi h (fun hb33 h => ?_) (fun hb33 h => ?_)
 have := of_decide_eq_true hb33
 refine obg h (fun x34 _ hkx34 h => ?_)
 refine ck h (fun _ h => ?_)
 have := wrap_succ_max hkx34 hl32
 try simp only [*, go_sem]
 exact lc (a30_1 + 1, (a30_2 ++ [x34])) h.e [some 0, some 1, some 2, some 3, some 4, some 5, some 15]
 try simp only [*, go_sem]
 exact jc (a30_2) h.e [some 1, some 2, some 3, some 4, some 5, some 6]
 cases h.e
 simp only [*, go_sem, mA, mS]
def reredosref_askFault (p0 : Store) (p1 : Txn) (p2 : Int) : Option (Int) := (Option.bind (reredosref_StoreMay p0) fun v1 => (if (!v1) = true then (some 9) else (Option.bind (reredosref_plainTxn p1) fun v3 => (if (!v3) = true then (some 2) else (Option.bind (reredosref_In p2 0 7) fun v5 => (if (!v5) = true then (some 2) else (some 0)))))))
def F95 : VFn := ⟨18, (.seq (.reg [vo 3 (.boxk 4 (.t 0)), vo 4 (.boxk 2 (.t 1)), mi 6 0]) (.seq (.seq (.reg [vl 7 4 3, vo 8 (.call 93 [(.t 7)]), nt 9 8]) (.cond (.t 9) (.seq (.reg [mi 6 9]) .ret) .skip)) (.seq (.seq (.reg [vl 10 2 4, vo 11 (.call 154 [(.t 10)]), nt 12 11, vm 13 12, gf 14 13 (.mv (.t 2)), gf 15 13 (.call 92 [(.t 14), (ci 0), (ci 7)]), gf 16 13 (.un .not (.t 15)), vo 17 (.pick (.t 13) (cb true) (.t 16))]) (.cond (.t 17) (.seq (.reg [mi 6 2]) .ret) .skip)) (.seq (.reg [mi 6 0]) .ret)))), [.t 6]⟩
theorem low95 : lowF Tryd.prog 95 = some F95.strip := by kernel_rfl
theorem fok95 : fOk Tryd.prog 95 = true := by kernel_rfl
theorem reredosref_askFault_ok (p0 : Store) (p1 : Txn) (p2 : Int) (r : Int) (h : reredosref_askFault p0 p1 p2 = some r) : FnRO Tryd.prog G 95 [.agg p0.bx, .agg p1.bx, .one (.d (.i .i64 p2))] (fun rs => rs = [.one (.i .i64 r)]) := by
 refine FnRO.of' low95 fok95 (by simp [F95]) ?_
 rw [reredosref_askFault] at h
 replace h := Hd.mk h
 simp only [F95, go_sem]
 try simp only [*, go_sem]
 refine cr h (reredosref_StoreMay_ok G p0) (fun v1 h => ?_)
 refine oin h (fun hb2 hkhb2 h => ?_) (fun hb2 hkhb2 h => ?_)
 cases h.e
 simp only [*, go_sem, mA, mS]
 try simp only [*, go_sem]
 refine cr h (reredosref_plainTxn_ok G p1) (fun v3 h => ?_)
 refine oin h (fun hb4 hkhb4 h => ?_) (fun hb4 hkhb4 h => ?_)
 cases h.e
 simp only [*, go_sem, mA, mS]
 try simp only [*, go_sem]
 refine cr h (reredosref_In_ok G p2 0 7) (fun v5 h => ?_)
 refine oin h (fun hb6 hkhb6 h => ?_) (fun hb6 hkhb6 h => ?_)
 cases h.e
 simp only [*, go_sem, mA, mS]
 cases h.e
 simp only [*, go_sem, mA, mS]
def reredosref_itemOf_L1 (p0 : Store) (p1 : Int) (k2 : Option (Item)) : Nat → Nat → Option (Item)
 | 0, _ => none
 | n4 + 1, a3_1 => (if (decide (a3_1 < p0.Items.length)) = true then (Option.bind (p0.Items[a3_1]?) fun x7 => (if (x7.Key == p1) = true then (some x7) else (reredosref_itemOf_L1 p0 p1 k2 n4 (a3_1 + 1)))) else k2)
def reredosref_itemOf (p0 : Store) (p1 : Int) : Option (Item) := (withK (some (Item.mk p1 0 0)) fun k2 => (reredosref_itemOf_L1 p0 p1 k2 (p0.Items.length + 1) 0))
def F96 : VFn := ⟨28, (.seq (.reg [vo 2 (.box 4 (.t 0)), vo 4 (.alloc [(zi 0), (zi 0), (zi 0)])]) (.seq (.seq (.reg [mi 5 0]) (.wk (.block 0 (.loop (.seq (.seq (.reg [vm 6 5, vf 7 0 2, vs 8 7, ln 9 8, bt 10 .lss 6 9]) (.cond (.t 10) .skip (.exit 0))) (.seq (.block 1 (.seq (.reg [vf 13 0 2, vs 14 13, vm 15 5, xa 16 3 14 15, vf 17 0 16, vs 18 17, vm 19 1, bt 20 .eql 18 19]) (.cond (.t 20) (.seq (.reg [vf 21 0 2, vs 22 21, vm 23 5, xa 24 3 22 23, vl 25 3 24, vu (.st 3 (.t 4) (.t 25))]) .ret) .skip))) (.reg [vm 11 5, bk 12 .add 11 1, vm 5 12]))))))) (.seq (.reg [vm 26 1, vo 27 (.build [(zi 0), (zi 0), (zi 0)] [(0, 1, (.t 26))]), vu (.st 3 (.t 4) (.t 27))]) .ret))), [.cell 4 true 3]⟩
theorem low96 : lowF Tryd.prog 96 = some F96.strip := by kernel_rfl
theorem fok96 : fOk Tryd.prog 96 = true := by kernel_rfl
theorem reredosref_itemOf_ok (p0 : Store) (p1 : Int) (r : Item) (h : reredosref_itemOf p0 p1 = some r) : FnRO Tryd.prog G 96 [.agg p0.bx, .one (.d (.i .i64 p1))] (fun rs => rs = [.agg (r.encO)]) := by
 refine FnRO.of' low96 fok96 (by simp [F96]) ?_
 rw [reredosref_itemOf] at h
 replace h := Hd.mk h
 simp only [F96, go_sem]
 try simp only [*, go_sem]
 refine jn0 h ([zI 1 p1, zP 4 0]) ([ox [zi 0, zi 0, zi 0]]) (fun k2 h => ?_) (fun h => ?_)
 try simp only [*, go_sem]
 refine lp1 (reredosref_itemOf_L1 p0 p1 k2) (fun a3_1 => [zI 1 p1, zP 2 0, zP 4 1, zI 5 ((a3_1 : Nat) : Int)]) (fun a3_1 => [ox p0.bx, ox [zi 0, zi 0, zi 0]]) h [] [some 0, some 1] (fun n4 a3_1 h => ?_) (by intros; rw [reredosref_itemOf_L1])
 rw [reredosref_itemOf_L1] at h
 try simp only [*, go_sem]
 intro hl5
 refine oi h (fun hb6 h => ?_) (fun hb6 h => ?_)
 have := of_decide_eq_true hb6
 refine obg h (fun x7 _ hkx7 h => ?_)
 refine oi h (fun hb8 h => ?_) (fun hb8 h => ?_)
 cases h.e
 simp only [*, go_sem, mA, mS]
 have := wrap_succ_max hkx7 hl5
 try simp only [*, go_sem]
 exact lc (a3_1 + 1) h.e [some 0, some 1]
 try simp only [*, go_sem]
 exact jc () h.e [some 1]
 cases h.e
 simp only [*, go_sem, mA, mS]
def reredosref_lockOf_L1 (p0 : Store) (p1 : Txn) (p2 : Int) (k2 : Option (Int)) : Nat → Nat → Option (Int)
 | 0, _ => none
 | n4 + 1, a3_1 => (if (decide (a3_1 < p0.Locks.length)) = true then (Option.bind (p0.Locks[a3_1]?) fun x7 => (if ((x7.Txn.Site == p1.Site) && (x7.Txn.N == p1.N)) = true then (if (x7.Key == p2) = true then (some ((a3_1 : Nat) : Int)) else (reredosref_lockOf_L1 p0 p1 p2 k2 n4 (a3_1 + 1))) else (reredosref_lockOf_L1 p0 p1 p2 k2 n4 (a3_1 + 1)))) else k2)
def reredosref_lockOf (p0 : Store) (p1 : Txn) (p2 : Int) : Option (Int) := (withK (some (-1)) fun k2 => (reredosref_lockOf_L1 p0 p1 p2 k2 (p0.Locks.length + 1) 0))
def F97 : VFn := ⟨34, (.seq (.reg [vo 3 (.box 4 (.t 0)), vo 4 (.boxk 2 (.t 1)), mi 6 0]) (.seq (.seq (.reg [mi 7 0]) (.wk (.block 0 (.loop (.seq (.seq (.reg [vm 8 7, vf 9 1 3, vs 10 9, ln 11 10, bt 12 .lss 8 11]) (.cond (.t 12) .skip (.exit 0))) (.seq (.block 1 (.seq (.draw [vd (vf 15 1 3) 0, vd (vs 16 15) 1, vd (vm 17 7) 0, vd (xa 18 6 16 17) 7, vd (vf 19 0 18) 15, vd (vl 20 2 19) 31, vd (vl 21 2 4) 0, vd (vo 22 (.eqs false [.i, .i] (.t 20) (.t 21))) 127, vd (vm 23 22) 255, vd (gt 24 23 (.fa 1 (.t 3))) 511, vd (gt 25 23 (.ld false 1 (.t 24))) 1023, vd (gt 26 23 (.mv (.t 7))) 511, vd (gt 27 23 (.ia 6 (.t 25) (.t 26))) 4095, vd (gt 28 23 (.fa 2 (.t 27))) 8191, vd (gt 29 23 (.ld false 1 (.t 28))) 0x3fff, vd (gt 30 23 (.mv (.t 2))) 511, vd (gt 31 23 (.bin .i .eql (.t 29) (.t 30))) 0xffff, vd (vo 32 (.pick (.t 23) (.t 31) (cb false))) 0x1ffff]) (.cond (.t 32) (.seq (.reg [vm 33 7, vm 6 33]) .ret) .skip))) (.reg [vm 13 7, bk 14 .add 13 1, vm 7 14]))))))) (.seq (.reg [mi 6 (-1)]) .ret))), [.t 6]⟩
theorem low97 : lowF Tryd.prog 97 = some F97.strip := by kernel_rfl
theorem fok97 : fOk Tryd.prog 97 = true := by kernel_rfl
theorem reredosref_lockOf_ok (p0 : Store) (p1 : Txn) (p2 : Int) (r : Int) (h : reredosref_lockOf p0 p1 p2 = some r) : FnRO Tryd.prog G 97 [.agg p0.bx, .agg p1.bx, .one (.d (.i .i64 p2))] (fun rs => rs = [.one (.i .i64 r)]) := by
 refine FnRO.of' low97 fok97 (by simp [F97]) ?_
 rw [reredosref_lockOf] at h
 replace h := Hd.mk h
 simp only [F97, go_sem]
 try simp only [*, go_sem]
 refine jn0 h ([]) ([]) (fun k2 h => ?_) (fun h => ?_)
 try simp only [*, go_sem]
 refine lp1 (reredosref_lockOf_L1 p0 p1 p2 k2) (fun a3_1 => [zI 2 p2, zP 3 0, zK 4 (Txn.enc p1), zI 7 ((a3_1 : Nat) : Int)]) (fun a3_1 => [ox p0.bx]) h [] [some 0] (fun n4 a3_1 h => ?_) (by intros; rw [reredosref_lockOf_L1])
 rw [reredosref_lockOf_L1] at h
 try simp only [*, go_sem]
 intro hl5
 refine oi h (fun hb6 h => ?_) (fun hb6 h => ?_)
 have := of_decide_eq_true hb6
 refine obg h (fun x7 _ hkx7 h => ?_)
 refine oi h (fun hb8 h => ?_) (fun hb8 h => ?_)
 try simp only [*, go_sem]
 refine oi h (fun hb9 h => ?_) (fun hb9 h => ?_)
 cases h.e
 simp only [*, go_sem, mA, mS]
 have := wrap_succ_max hkx7 hl5
 try simp only [*, go_sem]
 exact lc (a3_1 + 1) h.e [some 0]
 try simp only [*, go_sem]
 have := wrap_succ_max hkx7 hl5
 try simp only [*, go_sem]
 exact lc (a3_1 + 1) h.e [some 0]
 try simp only [*, go_sem]
 exact jc () h.e []
 cases h.e
 simp only [*, go_sem, mA, mS]
def reredosref_others_L1 (p0 : Store) (p1 : Txn) (p2 : Int) (k2 : Int → Int → Option (Int × Int)) : Nat → Int → Int → Nat → Option (Int × Int)
 | 0, _, _, _ => none
 | n4 + 1, a3_1, a3_2, a3_3 => (if (decide (a3_3 < p0.Locks.length)) = true then (Option.bind (p0.Locks[a3_3]?) fun x7 => (if (x7.Key == p2) = true then (withK (fun (b9_1 : Int) (b9_2 : Int) (b9_3 : Bool) => (reredosref_others_L1 p0 p1 p2 k2 n4 b9_1 b9_2 (a3_3 + 1))) fun k10 => (if (!((x7.Txn.Site == p1.Site) && (x7.Txn.N == p1.N))) = true then (withK (fun (b12_1 : Int) => (k10 (IntKind.i64.wrap (a3_1 + 1)) b12_1 true)) fun k13 => (if x7.Write = true then (k13 (IntKind.i64.wrap (a3_2 + 1))) else (k13 a3_2))) else (k10 a3_1 a3_2 false))) else (withK (reredosref_others_L1 p0 p1 p2 k2 n4 a3_1 a3_2 (a3_3 + 1)) fun k17 => k17))) else (k2 a3_1 a3_2))
def reredosref_others (p0 : Store) (p1 : Txn) (p2 : Int) : Option (Int × Int) := (withK (fun (b1_1 : Int) (b1_2 : Int) => (some (b1_1, b1_2))) fun k2 => (reredosref_others_L1 p0 p1 p2 k2 (p0.Locks.length + 1) 0 0 0))
def F98 : VFn := ⟨48, (.seq (.reg [vo 3 (.boxk 4 (.t 0)), vo 4 (.boxk 2 (.t 1)), mi 6 0, mi 7 0]) (.seq (.reg [mi 8 0]) (.seq (.reg [mi 9 0]) (.seq (.seq (.reg [mi 10 0]) (.wk (.block 0 (.loop (.seq (.seq (.reg [vm 11 10, vf 12 1 3, vs 13 12, ln 14 13, bt 15 .lss 11 14]) (.cond (.t 15) .skip (.exit 0))) (.seq (.block 1 (.seq (.draw [vd (vf 18 1 3) 0, vd (vs 19 18) 1, vd (vm 20 10) 0, vd (xa 21 6 19 20) 7, vd (vf 22 2 21) 15, vd (vs 23 22) 31, vd (vm 24 2) 0, vd (bt 25 .eql 23 24) 127, vd (vm 26 25) 255, vd (gt 27 26 (.fa 1 (.t 3))) 511, vd (gt 28 26 (.ld false 1 (.t 27))) 1023, vd (gt 29 26 (.mv (.t 10))) 511, vd (gt 30 26 (.ia 6 (.t 28) (.t 29))) 4095, vd (gt 31 26 (.fa 0 (.t 30))) 8191, vd (gt 32 26 (.ld true 2 (.t 31))) 0x3fff, vd (gt 33 26 (.ld true 2 (.t 4))) 511, vd (gt 34 26 (.eqs true [.i, .i] (.t 32) (.t 33))) 0xffff, vd (vo 35 (.pick (.t 26) (.t 34) (cb false))) 0x1ffff]) (.wk (.cond (.t 35) (.seq (.reg [vm 36 8, bk 37 .add 36 1, vm 8 37]) (.seq (.reg [vf 38 1 3, vs 39 38, vm 40 10, xa 41 6 39 40, vf 42 3 41, vs 43 42]) (.wk (.cond (.t 43) (.reg [vm 44 9, bk 45 .add 44 1, vm 9 45]) .skip)))) .skip)))) (.reg [vm 16 10, bk 17 .add 16 1, vm 10 17]))))))) (.seq (.reg [vm 46 8, vm 47 9, vm 6 46, vm 7 47]) .ret))))), [.t 6, .t 7]⟩
theorem low98 : lowF Tryd.prog 98 = some F98.strip := by kernel_rfl
theorem fok98 : fOk Tryd.prog 98 = true := by kernel_rfl
theorem reredosref_others_ok (p0 : Store) (p1 : Txn) (p2 : Int) (r : Int × Int) (h : reredosref_others p0 p1 p2 = some r) : FnRO Tryd.prog G 98 [.agg p0.bx, .agg p1.bx, .one (.d (.i .i64 p2))] (fun rs => rs = [.one (.i .i64 r.1), .one (.i .i64 r.2)]) := by
 refine FnRO.of' low98 fok98 (by simp [F98]) ?_
 rw [reredosref_others] at h
 replace h := Hd.mk h
 simp only [F98, go_sem]
 try simp only [*, go_sem]
 refine jn2 h (fun b1_1 b1_2 => [zI 8 b1_1, zI 9 b1_2]) (fun b1_1 b1_2 => []) (fun k2 h => ?_) (fun b1_1 b1_2 h => ?_)
 try simp only [*, go_sem]
 refine lp3 (reredosref_others_L1 p0 p1 p2 k2) (fun a3_1 a3_2 a3_3 => [zI 2 p2, zK 3 (Store.enc p0), zK 4 (Txn.enc p1), zI 8 a3_1, zI 9 a3_2, zI 10 ((a3_3 : Nat) : Int)]) (fun a3_1 a3_2 a3_3 => []) h [] [] (fun n4 a3_1 a3_2 a3_3 h => ?_) (by intros; rw [reredosref_others_L1])
 rw [reredosref_others_L1] at h
 try simp only [*, go_sem]
 intro hl5
 refine oi h (fun hb6 h => ?_) (fun hb6 h => ?_)
 have := of_decide_eq_true hb6
 refine obg h (fun x7 _ hkx7 h => ?_)
 refine oi h (fun hb8 h => ?_) (fun hb8 h => ?_)
 try simp only [*, go_sem]
 refine jn3 h (fun b9_1 b9_2 b9_3 => [zI 2 p2, zK 3 (Store.enc p0), zK 4 (Txn.enc p1), zI 8 b9_1, zI 9 b9_2, zI 10 ((a3_3 : Nat) : Int), (27, .one (.p (.l 4 [(Store.enc p0)] 0 1))), zL 28 6 (p0.Locks.map Lock.enc), zI 29 ((a3_3 : Nat) : Int), (30, .one (.p (.l 6 (p0.Locks.map Lock.enc) a3_3 0))), (31, .one (.p (.l 6 (p0.Locks.map Lock.enc) a3_3 0))), (32, .agg [zi x7.Txn.Site, zi x7.Txn.N]), (33, .agg [zi p1.Site, zi p1.N]), zB 34 b9_3]) (fun b9_1 b9_2 b9_3 => []) (fun k10 h => ?_) (fun b9_1 b9_2 b9_3 h => ?_)
 refine oin h (fun hb11 hkhb11 h => ?_) (fun hb11 hkhb11 h => ?_)
 try simp only [*, go_sem]
 try simp only [*, go_sem]
 refine jn1 h (fun b12_1 => [zI 2 p2, zK 3 (Store.enc p0), zK 4 (Txn.enc p1), zI 8 (IntKind.i64.wrap (a3_1 + 1)), zI 9 b12_1, zI 10 ((a3_3 : Nat) : Int), (27, .one (.p (.l 4 [(Store.enc p0)] 0 1))), zL 28 6 (p0.Locks.map Lock.enc), zI 29 ((a3_3 : Nat) : Int), (30, .one (.p (.l 6 (p0.Locks.map Lock.enc) a3_3 0))), (31, .one (.p (.l 6 (p0.Locks.map Lock.enc) a3_3 0))), (32, .agg [zi x7.Txn.Site, zi x7.Txn.N]), (33, .agg [zi p1.Site, zi p1.N]), zB 34 true]) (fun b12_1 => []) (fun k13 h => ?_) (fun b12_1 h => ?_)
 refine oi h (fun hb14 h => ?_) (fun hb14 h => ?_)
 try simp only [*, go_sem]
 exact jc (IntKind.i64.wrap (a3_2 + 1)) h.e []
 try simp only [*, go_sem]
 exact jc (a3_2) h.e []
 try simp only [*, go_sem]
 exact jc (IntKind.i64.wrap (a3_1 + 1), b12_1, true) h.e []
 try simp only [*, go_sem]
 try simp only [*, go_sem]
 exact jc (a3_1, a3_2, false) h.e []
 have := wrap_succ_max hkx7 hl5
 try simp only [*, go_sem]
 exact lc (b9_1, b9_2, a3_3 + 1) h.e []
 try simp only [*, go_sem]
 refine jn0 h ([zI 2 p2, zK 3 (Store.enc p0), zK 4 (Txn.enc p1), zI 8 a3_1, zI 9 a3_2, zI 10 ((a3_3 : Nat) : Int)]) ([]) (fun k17 h => ?_) (fun h => ?_)
 try simp only [*, go_sem]
 exact jc () h.e []
 have := wrap_succ_max hkx7 hl5
 try simp only [*, go_sem]
 exact lc (a3_1, a3_2, a3_3 + 1) h.e []
 try simp only [*, go_sem]
 exact jc (a3_1, a3_2) h.e []
 cases h.e
 simp only [*, go_sem, mA, mS]
def reredosref_ReadOf (p0 : Store) (p1 : Txn) (p2 : Int) : Option (Store × Int × Int × Int) := (Option.bind (reredosref_askFault p0 p1 p2) fun v1 => (if (v1 != 0) = true then (some ((Store.mk [] [] [] []), 0, 0, v1)) else (Option.bind (reredosref_StoreCopy p0) fun v3 => (Option.bind (reredosref_itemOf p0 p2) fun v4 => (Option.bind (reredosref_lockOf p0 p1 p2) fun v5 => (if (decide (v5 ≥ 0)) = true then (if 0 ≤ v5 then (Option.bind (p0.Locks[v5.toNat]?) fun x7 => (if x7.Write = true then (some (v3, x7.Value, v4.Version, 0)) else (withK (fun (b10_1 : List Lock) (b10_2 : List Doubt) => (some ((Store.mk v3.Items b10_1 b10_2 v3.Over), v4.Value, v4.Version, 0))) fun k11 => (if (decide (v5 < 0)) = true then (Option.bind (reredosref_others p0 p1 p2) fun v13 => (Option.bind (reredosref_isOver p0 p1) fun v14 => (if v14 = true then (some ((Store.mk [] [] [] []), 0, 0, 13)) else (if (decide (v13.2 > 0)) = true then (some ((Store.mk [] [] [] []), 0, 0, 11)) else (if (decide (((p0.Locks.length : Nat) : Int) ≥ 24)) = true then (some ((Store.mk [] [] [] []), 0, 0, 8)) else (if fits 48 (v3.Locks.length + 1) then (Option.bind (reredosref_doubtOf p0 p1) fun v20 => (withK (fun (b21_1 : List Doubt) => (k11 (v3.Locks ++ [(Lock.mk p1 p2 false 0 0)]) b21_1)) fun k22 => (if (decide (v20 < 0)) = true then (if fits 24 (v3.Doubts.length + 1) then (k22 (v3.Doubts ++ [(Doubt.mk p1 0)])) else none) else (k22 v3.Doubts)))) else none)))))) else (k11 v3.Locks v3.Doubts))))) else none) else (withK (fun (b25_1 : List Lock) (b25_2 : List Doubt) => (some ((Store.mk v3.Items b25_1 b25_2 v3.Over), v4.Value, v4.Version, 0))) fun k26 => (if (decide (v5 < 0)) = true then (Option.bind (reredosref_others p0 p1 p2) fun v28 => (Option.bind (reredosref_isOver p0 p1) fun v29 => (if v29 = true then (some ((Store.mk [] [] [] []), 0, 0, 13)) else (if (decide (v28.2 > 0)) = true then (some ((Store.mk [] [] [] []), 0, 0, 11)) else (if (decide (((p0.Locks.length : Nat) : Int) ≥ 24)) = true then (some ((Store.mk [] [] [] []), 0, 0, 8)) else (if fits 48 (v3.Locks.length + 1) then (Option.bind (reredosref_doubtOf p0 p1) fun v35 => (withK (fun (b36_1 : List Doubt) => (k26 (v3.Locks ++ [(Lock.mk p1 p2 false 0 0)]) b36_1)) fun k37 => (if (decide (v35 < 0)) = true then (if fits 24 (v3.Doubts.length + 1) then (k37 (v3.Doubts ++ [(Doubt.mk p1 0)])) else none) else (k37 v3.Doubts)))) else none)))))) else (k26 v3.Locks v3.Doubts)))))))))
def F35 : VFn := ⟨97, (.seq (.reg [vo 3 (.boxk 4 (.t 0)), vo 4 (.boxk 2 (.t 1)), vo 6 (.alloc [(.nl 3), (.nl 6), (.nl 3), (.nl 2)]), mi 7 0, mi 8 0, mi 9 0]) (.seq (.reg [vl 16 4 3, vl 17 2 4, vm 18 2, vo 19 (.call 95 [(.t 16), (.t 17), (.t 18)]), vm 10 19]) (.seq (.seq (.reg [vm 20 10, bk 21 .neq 20 0]) (.cond (.t 21) (.seq (.reg [vo 22 (.build [(.nl 3), (.nl 6), (.nl 3), (.nl 2)] []), vm 23 10, vu (.st 4 (.t 6) (.t 22)), mi 7 0, mi 8 0, vm 9 23]) .ret) .skip)) (.seq (.reg [vl 24 4 3, vo 25 (.call 34 [(.t 24)]), vo 11 (.alloc [(.nl 3), (.nl 6), (.nl 3), (.nl 2)]), vu (.st 4 (.t 11) (.t 25))]) (.seq (.reg [vl 26 4 3, vm 27 2, vo 28 (.call 96 [(.t 26), (.t 27)]), vo 12 (.alloc [(zi 0), (zi 0), (zi 0)]), vu (.st 3 (.t 12) (.t 28))]) (.seq (.reg [vl 29 4 3, vl 30 2 4, vm 31 2, vo 32 (.call 97 [(.t 29), (.t 30), (.t 31)]), vm 13 32]) (.seq (.seq (.reg [vm 33 13, bk 34 .geq 33 0, vm 35 34, gt 36 35 (.fa 1 (.t 3)), gt 37 35 (.ld false 1 (.t 36)), gt 38 35 (.mv (.t 13)), gt 39 35 (.ia 6 (.t 37) (.t 38)), gt 40 35 (.fa 3 (.t 39)), gt 41 35 (.ld false 1 (.t 40)), vo 42 (.pick (.t 35) (.t 41) (cb false))]) (.cond (.t 42) (.seq (.draw [vd (vl 43 4 11) 0, ⟨vf 44 1 3, 0, [], none, [0]⟩, ⟨vs 45 44, 2, [], none, [0]⟩, vd (vm 46 13) 0, ⟨xa 47 6 45 46, 14, [], none, [0]⟩, ⟨vf 48 4 47, 30, [], none, [0]⟩, ⟨vs 49 48, 62, [], none, [0]⟩, ⟨vf 50 2 12, 0, [], none, [0]⟩, ⟨vs 51 50, 128, [], none, [0]⟩, ⟨vu (.st 4 (.t 6) (.t 43)), 1, [], (some 0), []⟩, vd (vm 7 49) 639, vd (vm 8 51) 2047, vd (mi 9 0) 4095]) .ret) .skip)) (.seq (.seq (.reg [vm 52 13, bk 53 .lss 52 0]) (.wk (.cond (.t 53) (.seq (.reg [vl 55 4 3, vl 56 2 4, vm 57 2, vo 58 (.call 98 [(.t 55), (.t 56), (.t 57)]), vm 54 58, et 59 54 0, et 60 54 1, vm 14 59, vm 15 60]) (.seq (.seq (.reg [vl 61 4 3, vl 62 2 4, vo 63 (.call 99 [(.t 61), (.t 62)])]) (.cond (.t 63) (.seq (.reg [vo 64 (.build [(.nl 3), (.nl 6), (.nl 3), (.nl 2)] []), vu (.st 4 (.t 6) (.t 64)), mi 7 0, mi 8 0, mi 9 13]) .ret) .skip)) (.seq (.seq (.reg [vm 65 15, bk 66 .gtr 65 0]) (.cond (.t 66) (.seq (.reg [vo 67 (.build [(.nl 3), (.nl 6), (.nl 3), (.nl 2)] []), vu (.st 4 (.t 6) (.t 67)), mi 7 0, mi 8 0, mi 9 11]) .ret) .skip)) (.seq (.seq (.reg [vf 68 1 3, vs 69 68, ln 70 69, bk 71 .geq 70 24]) (.cond (.t 71) (.seq (.reg [vo 72 (.build [(.nl 3), (.nl 6), (.nl 3), (.nl 2)] []), vu (.st 4 (.t 6) (.t 72)), mi 7 0, mi 8 0, mi 9 8]) .ret) .skip)) (.seq (.reg [vf 73 1 11, vs 74 73, vl 75 2 4, vm 76 2, vo 77 (.build [(zi 0), (zi 0), (zi 0), (.d (.b false)), (zi 0), (zi 0)] [(0, 2, (.t 75)), (2, 1, (.t 76))]), vo 78 (.bsl 6 1 [(zi 0), (zi 0), (zi 0), (.d (.b false)), (zi 0), (zi 0)] [(0, (.t 77))]), vo 79 (.app 6 48 (.t 74) (.t 78)), vf 80 1 11, vu (.st 1 (.t 80) (.t 79))]) (.seq (.reg [vl 81 4 3, vl 82 2 4, vo 83 (.call 100 [(.t 81), (.t 82)]), bk 84 .lss 83 0]) (.wk (.cond (.t 84) (.reg [vf 85 2 11, vs 86 85, vl 87 2 4, vo 88 (.build [(zi 0), (zi 0), (zi 0)] [(0, 2, (.t 87))]), vo 89 (.bsl 3 1 [(zi 0), (zi 0), (zi 0)] [(0, (.t 88))]), vo 90 (.app 3 24 (.t 86) (.t 89)), vf 91 2 11, vu (.st 1 (.t 91) (.t 90))]) .skip)))))))) .skip))) (.seq (.draw [vd (vl 92 4 11) 0, ⟨vf 93 1 12, 0, [], none, [0]⟩, ⟨vs 94 93, 2, [], none, [0]⟩, ⟨vf 95 2 12, 0, [], none, [0]⟩, ⟨vs 96 95, 8, [], none, [0]⟩, ⟨vu (.st 4 (.t 6) (.t 92)), 1, [], (some 0), []⟩, vd (vm 7 94) 39, vd (vm 8 96) 127, vd (mi 9 0) 255]) .ret))))))))), [.cell 6 true 4, .t 7, .t 8, .t 9]⟩
theorem low35 : lowF Tryd.prog 35 = some F35.strip := by kernel_rfl
theorem fok35 : fOk Tryd.prog 35 = true := by kernel_rfl
theorem reredosref_ReadOf_ok (p0 : Store) (p1 : Txn) (p2 : Int) (r : Store × Int × Int × Int) (h : reredosref_ReadOf p0 p1 p2 = some r) : FnRO Tryd.prog G 35 [.agg p0.bx, .agg p1.bx, .one (.d (.i .i64 p2))] (fun rs => rs = [.agg (r.1.encO), .one (.i .i64 r.2.1), .one (.i .i64 r.2.2.1), .one (.i .i64 r.2.2.2)]) := by
 refine FnRO.of' low35 fok35 (by simp [F35]) ?_
 rw [reredosref_ReadOf] at h
 replace h := Hd.mk h
 simp only [F35, go_sem]
 try simp only [*, go_sem]
 refine cr h (reredosref_askFault_ok G p0 p1 p2) (fun v1 h => ?_)
 refine oi h (fun hb2 h => ?_) (fun hb2 h => ?_)
 cases h.e
 simp only [*, go_sem, mA, mS]
 try simp only [*, go_sem]
 refine cr h (reredosref_StoreCopy_ok G p0) (fun v3 h => ?_)
 try simp only [*, go_sem]
 refine cr h (reredosref_itemOf_ok G p0 p2) (fun v4 h => ?_)
 try simp only [*, go_sem]
 refine cr h (reredosref_lockOf_ok G p0 p1 p2) (fun v5 h => ?_)
 refine oi h (fun hb6 h => ?_) (fun hb6 h => ?_)
 refine obn h (fun x7 _ _ _ _ h => ?_)
 refine oi h (fun hb9 h => ?_) (fun hb9 h => ?_)
 cases h.e
 simp only [*, go_sem, mA, mS]
 try simp only [*, go_sem]
 refine jn2 h (fun b10_1 b10_2 => [zP 6 0, zP 11 1, zP 12 2]) (fun b10_1 b10_2 => [ox [.nl 3, .nl 6, .nl 3, .nl 2], ox [.r 3 0 v3.Items.length, .r 4 0 b10_1.length, .r 5 0 b10_2.length, .r 6 0 v3.Over.length], ox v4.bx, oa 3 (v3.Items.map Item.enc), oa 6 (b10_1.map Lock.enc), oa 3 (b10_2.map Doubt.enc), oa 2 (v3.Over.map Txn.enc)]) (fun k11 h => ?_) (fun b10_1 b10_2 h => ?_)
 refine oi h (fun hb12 h => ?_) (fun hb12 h => ?_)
 have := of_decide_eq_true hb12
 try simp only [*, go_sem]
 refine cr h (reredosref_others_ok G p0 p1 p2) (fun v13 h => ?_)
 try simp only [*, go_sem]
 refine cr h (reredosref_isOver_ok G p0 p1) (fun v14 h => ?_)
 refine oi h (fun hb15 h => ?_) (fun hb15 h => ?_)
 cases h.e
 simp only [*, go_sem, mA, mS]
 refine oi h (fun hb16 h => ?_) (fun hb16 h => ?_)
 cases h.e
 simp only [*, go_sem, mA, mS]
 try simp only [*, go_sem]
 intro hl17
 refine oi h (fun hb18 h => ?_) (fun hb18 h => ?_)
 cases h.e
 simp only [*, go_sem, mA, mS]
 refine ck h (fun _ h => ?_)
 try simp only [*, go_sem]
 refine cr h (reredosref_doubtOf_ok G p0 p1) (fun v20 h => ?_)
 try simp only [*, go_sem]
 refine jn1 h (fun b21_1 => [zP 6 0, zP 11 1, zP 12 2]) (fun b21_1 => [ox [.nl 3, .nl 6, .nl 3, .nl 2], ox [.r 3 0 v3.Items.length, .r 4 0 (v3.Locks.length + 1), .r 5 0 b21_1.length, .r 6 0 v3.Over.length], ox v4.bx, oa 3 (v3.Items.map Item.enc), oa 6 ((v3.Locks ++ [(Lock.mk p1 p2 false 0 0)]).map Lock.enc), oa 3 (b21_1.map Doubt.enc), oa 2 (v3.Over.map Txn.enc)]) (fun k22 h => ?_) (fun b21_1 h => ?_)
 refine oi h (fun hb23 h => ?_) (fun hb23 h => ?_)
 have := of_decide_eq_true hb23
 refine ck h (fun _ h => ?_)
 try simp only [*, go_sem]
 exact jc ((v3.Doubts ++ [(Doubt.mk p1 0)])) h.e [some 0, some 5, some 6, some 1, some 8, some 10, some 4]
 try simp only [*, go_sem]
 exact jc (v3.Doubts) h.e [some 0, some 5, some 6, some 1, some 8, some 3, some 4]
 try simp only [*, go_sem]
 exact jc ((v3.Locks ++ [(Lock.mk p1 p2 false 0 0)]), b21_1) h.e [some 0, some 1, some 2, some 3, some 4, some 5, some 6]
 try simp only [*, go_sem]
 exact jc (v3.Locks, v3.Doubts) h.e [some 0, some 5, some 6, some 1, some 2, some 3, some 4]
 cases h.e
 simp only [*, go_sem, mA, mS]
 try simp only [*, go_sem]
 refine jn2 h (fun b25_1 b25_2 => [zP 6 0, zP 11 1, zP 12 2]) (fun b25_1 b25_2 => [ox [.nl 3, .nl 6, .nl 3, .nl 2], ox [.r 3 0 v3.Items.length, .r 4 0 b25_1.length, .r 5 0 b25_2.length, .r 6 0 v3.Over.length], ox v4.bx, oa 3 (v3.Items.map Item.enc), oa 6 (b25_1.map Lock.enc), oa 3 (b25_2.map Doubt.enc), oa 2 (v3.Over.map Txn.enc)]) (fun k26 h => ?_) (fun b25_1 b25_2 h => ?_)
 refine oi h (fun hb27 h => ?_) (fun hb27 h => ?_)
 have := of_decide_eq_true hb27
 try simp only [*, go_sem]
 refine cr h (reredosref_others_ok G p0 p1 p2) (fun v28 h => ?_)
 try simp only [*, go_sem]
 refine cr h (reredosref_isOver_ok G p0 p1) (fun v29 h => ?_)
 refine oi h (fun hb30 h => ?_) (fun hb30 h => ?_)
 cases h.e
 simp only [*, go_sem, mA, mS]
 refine oi h (fun hb31 h => ?_) (fun hb31 h => ?_)
 cases h.e
 simp only [*, go_sem, mA, mS]
 try simp only [*, go_sem]
 intro hl32
 refine oi h (fun hb33 h => ?_) (fun hb33 h => ?_)
 cases h.e
 simp only [*, go_sem, mA, mS]
 refine ck h (fun _ h => ?_)
 try simp only [*, go_sem]
 refine cr h (reredosref_doubtOf_ok G p0 p1) (fun v35 h => ?_)
 try simp only [*, go_sem]
 refine jn1 h (fun b36_1 => [zP 6 0, zP 11 1, zP 12 2]) (fun b36_1 => [ox [.nl 3, .nl 6, .nl 3, .nl 2], ox [.r 3 0 v3.Items.length, .r 4 0 (v3.Locks.length + 1), .r 5 0 b36_1.length, .r 6 0 v3.Over.length], ox v4.bx, oa 3 (v3.Items.map Item.enc), oa 6 ((v3.Locks ++ [(Lock.mk p1 p2 false 0 0)]).map Lock.enc), oa 3 (b36_1.map Doubt.enc), oa 2 (v3.Over.map Txn.enc)]) (fun k37 h => ?_) (fun b36_1 h => ?_)
 refine oi h (fun hb38 h => ?_) (fun hb38 h => ?_)
 have := of_decide_eq_true hb38
 refine ck h (fun _ h => ?_)
 try simp only [*, go_sem]
 exact jc ((v3.Doubts ++ [(Doubt.mk p1 0)])) h.e [some 0, some 5, some 6, some 1, some 8, some 10, some 4]
 try simp only [*, go_sem]
 exact jc (v3.Doubts) h.e [some 0, some 5, some 6, some 1, some 8, some 3, some 4]
 try simp only [*, go_sem]
 exact jc ((v3.Locks ++ [(Lock.mk p1 p2 false 0 0)]), b36_1) h.e [some 0, some 1, some 2, some 3, some 4, some 5, some 6]
 try simp only [*, go_sem]
 exact jc (v3.Locks, v3.Doubts) h.e [some 0, some 5, some 6, some 1, some 2, some 3, some 4]
 cases h.e
 simp only [*, go_sem, mA, mS]
def reredosref_PeekOf (p0 : Store) (p1 : Int) : Option (Int × Int × Int) := (Option.bind (reredosref_askFault p0 (Txn.mk 0 1) p1) fun v1 => (if (v1 != 0) = true then (some (0, 0, v1)) else (Option.bind (reredosref_others p0 (Txn.mk 0 0) p1) fun v3 => (if (decide (v3.2 > 0)) = true then (some (0, 0, 11)) else (Option.bind (reredosref_itemOf p0 p1) fun v5 => (Option.bind (reredosref_itemOf p0 p1) fun v6 => (some (v5.Value, v6.Version, 0))))))))
def F36 : VFn := ⟨34, (.seq (.reg [vo 2 (.boxk 4 (.t 0)), mi 4 0, mi 5 0, mi 6 0]) (.seq (.reg [vl 10 4 2, vo 11 (.build [(zi 0), (zi 0)] [(1, 1, (ci 1))]), vm 12 1, vo 13 (.call 95 [(.t 10), (.t 11), (.t 12)]), vm 7 13]) (.seq (.seq (.reg [vm 14 7, bk 15 .neq 14 0]) (.cond (.t 15) (.seq (.reg [vm 16 7, mi 4 0, mi 5 0, vm 6 16]) .ret) .skip)) (.seq (.reg [vl 18 4 2, vo 19 (.build [(zi 0), (zi 0)] []), vm 20 1, vo 21 (.call 98 [(.t 18), (.t 19), (.t 20)]), vm 17 21, et 22 17 0, et 23 17 1, vm 8 22, vm 9 23]) (.seq (.seq (.reg [vm 24 9, bk 25 .gtr 24 0]) (.cond (.t 25) (.seq (.reg [mi 4 0, mi 5 0, mi 6 11]) .ret) .skip)) (.seq (.draw [vd (vl 26 4 2) 0, vd (vm 27 1) 0, vd (vo 28 (.call 96 [(.t 26), (.t 27)])) 3, vd (vo 29 (.fl false 1 1 (.t 28))) 7, ⟨vl 30 4 2, 0, [2], none, []⟩, ⟨vm 31 1, 0, [2], none, []⟩, vd (vo 32 (.call 96 [(.t 30), (.t 31)])) 55, vd (vo 33 (.fl false 2 1 (.t 32))) 119, vd (vm 4 29) 127, vd (vm 5 33) 511, vd (mi 6 0) 1023]) .ret)))))), [.t 4, .t 5, .t 6]⟩
theorem low36 : lowF Tryd.prog 36 = some F36.strip := by kernel_rfl
theorem fok36 : fOk Tryd.prog 36 = true := by kernel_rfl
theorem reredosref_PeekOf_ok (p0 : Store) (p1 : Int) (r : Int × Int × Int) (h : reredosref_PeekOf p0 p1 = some r) : FnRO Tryd.prog G 36 [.agg p0.bx, .one (.d (.i .i64 p1))] (fun rs => rs = [.one (.i .i64 r.1), .one (.i .i64 r.2.1), .one (.i .i64 r.2.2)]) := by
 refine FnRO.of' low36 fok36 (by simp [F36]) ?_
 rw [reredosref_PeekOf] at h
 replace h := Hd.mk h
 simp only [F36, go_sem]
 try simp only [*, go_sem]
 refine cr h (reredosref_askFault_ok G p0 (Txn.mk 0 1) p1) (fun v1 h => ?_)
 refine oi h (fun hb2 h => ?_) (fun hb2 h => ?_)
 cases h.e
 simp only [*, go_sem, mA, mS]
 try simp only [*, go_sem]
 refine cr h (reredosref_others_ok G p0 (Txn.mk 0 0) p1) (fun v3 h => ?_)
 refine oi h (fun hb4 h => ?_) (fun hb4 h => ?_)
 cases h.e
 simp only [*, go_sem, mA, mS]
 refine obk h (fun v5 hv5 h => ?_)
 try simp only [*, go_sem]
 refine cd (reredosref_itemOf_ok G p0 p1 v5 hv5) ?_
 refine obk h (fun v6 hv6 h => ?_)
 try simp only [*, go_sem]
 refine cd (reredosref_itemOf_ok G p0 p1 v6 hv6) ?_
 cases h.e
 simp only [*, go_sem, mA, mS]
def reredosref_WriteOf (p0 : Store) (p1 : Txn) (p2 : Int) (p3 : Int) (p4 : Int) : Option (Store × Int) := (Option.bind (reredosref_askFault p0 p1 p2) fun v1 => (if (v1 == 0) = true then (Option.bind (reredosref_In p3 0 1073741824) fun v3 => (if (!v3) = true then (withK (some ((Store.mk [] [] [] []), 2)) fun k6 => k6) else (Option.bind (reredosref_In p4 0 1048576) fun v7 => (withK (fun (b8_1 : Int) => (if (b8_1 != 0) = true then (some ((Store.mk [] [] [] []), b8_1)) else (Option.bind (reredosref_others p0 p1 p2) fun v12 => (Option.bind (reredosref_lockOf p0 p1 p2) fun v13 => (Option.bind (reredosref_isOver p0 p1) fun v14 => (if v14 = true then (some ((Store.mk [] [] [] []), 13)) else (if (decide (v13 ≥ 0)) = true then (if 0 ≤ v13 then (Option.bind (p0.Locks[v13.toNat]?) fun x17 => (if (decide (x17.Ask > p4)) = true then (some ((Store.mk [] [] [] []), 13)) else (if (decide (v12.1 > 0)) = true then (some ((Store.mk [] [] [] []), 11)) else (if (decide (v13 < 0)) = true then (if (decide (((p0.Locks.length : Nat) : Int) ≥ 24)) = true then (some ((Store.mk [] [] [] []), 8)) else (Option.bind (reredosref_itemOf p0 p2) fun v24 => (if (decide (v24.Version ≥ 1048576)) = true then (some ((Store.mk [] [] [] []), 8)) else (Option.bind (reredosref_StoreCopy p0) fun v26 => (withK (Option.bind ((v26.Locks ++ [(Lock.mk (Txn.mk 0 0) 0 false 0 0)])[v26.Locks.length]?) fun x31 => (Option.bind (reredosref_doubtOf p0 p1) fun v32 => (withK (fun (b33_1 : List Doubt) => (some ((Store.mk v26.Items ((v26.Locks ++ [(Lock.mk (Txn.mk 0 0) 0 false 0 0)]).set v26.Locks.length (Lock.mk p1 p2 true p3 p4)) b33_1 v26.Over), 0))) fun k34 => (if (decide (v32 < 0)) = true then (if fits 24 (v26.Doubts.length + 1) then (k34 (v26.Doubts ++ [(Doubt.mk p1 0)])) else none) else (k34 v26.Doubts))))) fun k28 => (if fits 48 (v26.Locks.length + 1) then k28 else none)))))) else (Option.bind (reredosref_itemOf p0 p2) fun v37 => (if (decide (v37.Version ≥ 1048576)) = true then (some ((Store.mk [] [] [] []), 8)) else (Option.bind (reredosref_StoreCopy p0) fun v39 => (withK (if 0 ≤ v13 then (Option.bind (v39.Locks[v13.toNat]?) fun x42 => (Option.bind (reredosref_doubtOf p0 p1) fun v44 => (withK (fun (b45_1 : List Doubt) => (some ((Store.mk v39.Items (v39.Locks.set v13.toNat (Lock.mk p1 p2 true p3 p4)) b45_1 v39.Over), 0))) fun k46 => (if (decide (v44 < 0)) = true then (if fits 24 (v39.Doubts.length + 1) then (k46 (v39.Doubts ++ [(Doubt.mk p1 0)])) else none) else (k46 v39.Doubts))))) else none) fun k41 => k41)))))))) else none) else (if (decide (v12.1 > 0)) = true then (some ((Store.mk [] [] [] []), 11)) else (if (decide (v13 < 0)) = true then (if (decide (((p0.Locks.length : Nat) : Int) ≥ 24)) = true then (some ((Store.mk [] [] [] []), 8)) else (Option.bind (reredosref_itemOf p0 p2) fun v53 => (if (decide (v53.Version ≥ 1048576)) = true then (some ((Store.mk [] [] [] []), 8)) else (Option.bind (reredosref_StoreCopy p0) fun v55 => (withK (Option.bind ((v55.Locks ++ [(Lock.mk (Txn.mk 0 0) 0 false 0 0)])[v55.Locks.length]?) fun x60 => (Option.bind (reredosref_doubtOf p0 p1) fun v61 => (withK (fun (b62_1 : List Doubt) => (some ((Store.mk v55.Items ((v55.Locks ++ [(Lock.mk (Txn.mk 0 0) 0 false 0 0)]).set v55.Locks.length (Lock.mk p1 p2 true p3 p4)) b62_1 v55.Over), 0))) fun k63 => (if (decide (v61 < 0)) = true then (if fits 24 (v55.Doubts.length + 1) then (k63 (v55.Doubts ++ [(Doubt.mk p1 0)])) else none) else (k63 v55.Doubts))))) fun k57 => (if fits 48 (v55.Locks.length + 1) then k57 else none)))))) else (Option.bind (reredosref_itemOf p0 p2) fun v66 => (if (decide (v66.Version ≥ 1048576)) = true then (some ((Store.mk [] [] [] []), 8)) else (Option.bind (reredosref_StoreCopy p0) fun v68 => (withK (if 0 ≤ v13 then (Option.bind (v68.Locks[v13.toNat]?) fun x71 => (Option.bind (reredosref_doubtOf p0 p1) fun v73 => (withK (fun (b74_1 : List Doubt) => (some ((Store.mk v68.Items (v68.Locks.set v13.toNat (Lock.mk p1 p2 true p3 p4)) b74_1 v68.Over), 0))) fun k75 => (if (decide (v73 < 0)) = true then (if fits 24 (v68.Doubts.length + 1) then (k75 (v68.Doubts ++ [(Doubt.mk p1 0)])) else none) else (k75 v68.Doubts))))) else none) fun k70 => k70))))))))))))) fun k9 => (if (!v7) = true then (k9 2) else (k9 v1)))))) else (withK (if (v1 != 0) = true then (some ((Store.mk [] [] [] []), v1)) else (Option.bind (reredosref_others p0 p1 p2) fun v81 => (Option.bind (reredosref_lockOf p0 p1 p2) fun v82 => (Option.bind (reredosref_isOver p0 p1) fun v83 => (if v83 = true then (some ((Store.mk [] [] [] []), 13)) else (if (decide (v82 ≥ 0)) = true then (if 0 ≤ v82 then (Option.bind (p0.Locks[v82.toNat]?) fun x86 => (if (decide (x86.Ask > p4)) = true then (some ((Store.mk [] [] [] []), 13)) else (if (decide (v81.1 > 0)) = true then (some ((Store.mk [] [] [] []), 11)) else (if (decide (v82 < 0)) = true then (if (decide (((p0.Locks.length : Nat) : Int) ≥ 24)) = true then (some ((Store.mk [] [] [] []), 8)) else (Option.bind (reredosref_itemOf p0 p2) fun v93 => (if (decide (v93.Version ≥ 1048576)) = true then (some ((Store.mk [] [] [] []), 8)) else (Option.bind (reredosref_StoreCopy p0) fun v95 => (withK (Option.bind ((v95.Locks ++ [(Lock.mk (Txn.mk 0 0) 0 false 0 0)])[v95.Locks.length]?) fun x100 => (Option.bind (reredosref_doubtOf p0 p1) fun v101 => (withK (fun (b102_1 : List Doubt) => (some ((Store.mk v95.Items ((v95.Locks ++ [(Lock.mk (Txn.mk 0 0) 0 false 0 0)]).set v95.Locks.length (Lock.mk p1 p2 true p3 p4)) b102_1 v95.Over), 0))) fun k103 => (if (decide (v101 < 0)) = true then (if fits 24 (v95.Doubts.length + 1) then (k103 (v95.Doubts ++ [(Doubt.mk p1 0)])) else none) else (k103 v95.Doubts))))) fun k97 => (if fits 48 (v95.Locks.length + 1) then k97 else none)))))) else (Option.bind (reredosref_itemOf p0 p2) fun v106 => (if (decide (v106.Version ≥ 1048576)) = true then (some ((Store.mk [] [] [] []), 8)) else (Option.bind (reredosref_StoreCopy p0) fun v108 => (withK (if 0 ≤ v82 then (Option.bind (v108.Locks[v82.toNat]?) fun x111 => (Option.bind (reredosref_doubtOf p0 p1) fun v113 => (withK (fun (b114_1 : List Doubt) => (some ((Store.mk v108.Items (v108.Locks.set v82.toNat (Lock.mk p1 p2 true p3 p4)) b114_1 v108.Over), 0))) fun k115 => (if (decide (v113 < 0)) = true then (if fits 24 (v108.Doubts.length + 1) then (k115 (v108.Doubts ++ [(Doubt.mk p1 0)])) else none) else (k115 v108.Doubts))))) else none) fun k110 => k110)))))))) else none) else (if (decide (v81.1 > 0)) = true then (some ((Store.mk [] [] [] []), 11)) else (if (decide (v82 < 0)) = true then (if (decide (((p0.Locks.length : Nat) : Int) ≥ 24)) = true then (some ((Store.mk [] [] [] []), 8)) else (Option.bind (reredosref_itemOf p0 p2) fun v122 => (if (decide (v122.Version ≥ 1048576)) = true then (some ((Store.mk [] [] [] []), 8)) else (Option.bind (reredosref_StoreCopy p0) fun v124 => (withK (Option.bind ((v124.Locks ++ [(Lock.mk (Txn.mk 0 0) 0 false 0 0)])[v124.Locks.length]?) fun x129 => (Option.bind (reredosref_doubtOf p0 p1) fun v130 => (withK (fun (b131_1 : List Doubt) => (some ((Store.mk v124.Items ((v124.Locks ++ [(Lock.mk (Txn.mk 0 0) 0 false 0 0)]).set v124.Locks.length (Lock.mk p1 p2 true p3 p4)) b131_1 v124.Over), 0))) fun k132 => (if (decide (v130 < 0)) = true then (if fits 24 (v124.Doubts.length + 1) then (k132 (v124.Doubts ++ [(Doubt.mk p1 0)])) else none) else (k132 v124.Doubts))))) fun k126 => (if fits 48 (v124.Locks.length + 1) then k126 else none)))))) else (Option.bind (reredosref_itemOf p0 p2) fun v135 => (if (decide (v135.Version ≥ 1048576)) = true then (some ((Store.mk [] [] [] []), 8)) else (Option.bind (reredosref_StoreCopy p0) fun v137 => (withK (if 0 ≤ v82 then (Option.bind (v137.Locks[v82.toNat]?) fun x140 => (Option.bind (reredosref_doubtOf p0 p1) fun v142 => (withK (fun (b143_1 : List Doubt) => (some ((Store.mk v137.Items (v137.Locks.set v82.toNat (Lock.mk p1 p2 true p3 p4)) b143_1 v137.Over), 0))) fun k144 => (if (decide (v142 < 0)) = true then (if fits 24 (v137.Doubts.length + 1) then (k144 (v137.Doubts ++ [(Doubt.mk p1 0)])) else none) else (k144 v137.Doubts))))) else none) fun k139 => k139)))))))))))) fun k79 => k79)))
def F37 : VFn := ⟨119, (.seq (.reg [vo 5 (.boxk 4 (.t 0)), vo 6 (.boxk 2 (.t 1)), vo 10 (.alloc [(.nl 3), (.nl 6), (.nl 3), (.nl 2)]), mi 11 0]) (.seq (.reg [vl 17 4 5, vl 18 2 6, vm 19 2, vo 20 (.call 95 [(.t 17), (.t 18), (.t 19)]), vm 12 20]) (.seq (.seq (.reg [vm 21 12, bk 22 .eql 21 0, vm 23 22, gt 24 23 (.mv (.t 3)), gt 25 23 (.call 92 [(.t 24), (ci 0), (ci 1073741824)]), gt 26 23 (.un .not (.t 25)), gt 27 23 (.mv (.t 26)), gf 28 27 (.mv (.t 4)), gf 29 27 (.call 92 [(.t 28), (ci 0), (ci 1048576)]), gf 30 27 (.un .not (.t 29)), gt 31 23 (.pick (.t 27) (cb true) (.t 30)), vo 32 (.pick (.t 23) (.t 31) (cb false))]) (.wk (.cond (.t 32) (.reg [mi 12 2]) .skip))) (.seq (.seq (.reg [vm 33 12, bk 34 .neq 33 0]) (.cond (.t 34) (.seq (.reg [vo 35 (.build [(.nl 3), (.nl 6), (.nl 3), (.nl 2)] []), vm 36 12, vu (.st 4 (.t 10) (.t 35)), vm 11 36]) .ret) .skip)) (.seq (.reg [vl 38 4 5, vl 39 2 6, vm 40 2, vo 41 (.call 98 [(.t 38), (.t 39), (.t 40)]), vm 37 41, et 42 37 0, et 43 37 1, vm 13 42, vm 14 43]) (.seq (.reg [vl 44 4 5, vl 45 2 6, vm 46 2, vo 47 (.call 97 [(.t 44), (.t 45), (.t 46)]), vm 15 47]) (.seq (.seq (.reg [vl 48 4 5, vl 49 2 6, vo 50 (.call 99 [(.t 48), (.t 49)]), vm 51 50, gf 52 51 (.mv (.t 15)), gf 53 51 (.bin .i .geq (.t 52) (ci 0)), gf 54 51 (.mv (.t 53)), gt 55 54 (.fa 1 (.t 5)), gt 56 54 (.ld false 1 (.t 55)), gt 57 54 (.mv (.t 15)), gt 58 54 (.ia 6 (.t 56) (.t 57)), gt 59 54 (.fa 5 (.t 58)), gt 60 54 (.ld false 1 (.t 59)), gt 61 54 (.mv (.t 4)), gt 62 54 (.bin .i .gtr (.t 60) (.t 61)), gf 63 51 (.pick (.t 54) (.t 62) (cb false)), vo 64 (.pick (.t 51) (cb true) (.t 63))]) (.cond (.t 64) (.seq (.reg [vo 65 (.build [(.nl 3), (.nl 6), (.nl 3), (.nl 2)] []), vu (.st 4 (.t 10) (.t 65)), mi 11 13]) .ret) .skip)) (.seq (.seq (.reg [vm 66 13, bk 67 .gtr 66 0]) (.cond (.t 67) (.seq (.reg [vo 68 (.build [(.nl 3), (.nl 6), (.nl 3), (.nl 2)] []), vu (.st 4 (.t 10) (.t 68)), mi 11 11]) .ret) .skip)) (.seq (.seq (.reg [vm 69 15, bk 70 .lss 69 0, vm 71 70, gt 72 71 (.fa 1 (.t 5)), gt 73 71 (.ld false 1 (.t 72)), gt 74 71 (.len (.t 73)), gt 75 71 (.bin .i .geq (.t 74) (ci 24)), vo 76 (.pick (.t 71) (.t 75) (cb false)), vm 77 76, gf 78 77 (.ld true 4 (.t 5)), gf 79 77 (.mv (.t 2)), gf 80 77 (.call 96 [(.t 78), (.t 79)]), gf 81 77 (.fl false 2 1 (.t 80)), gf 82 77 (.bin .i .geq (.t 81) (ci 1048576)), vo 83 (.pick (.t 77) (cb true) (.t 82))]) (.cond (.t 83) (.seq (.reg [vo 84 (.build [(.nl 3), (.nl 6), (.nl 3), (.nl 2)] []), vu (.st 4 (.t 10) (.t 84)), mi 11 8]) .ret) .skip)) (.seq (.reg [vl 85 4 5, vo 86 (.call 34 [(.t 85)]), vo 16 (.alloc [(.nl 3), (.nl 6), (.nl 3), (.nl 2)]), vu (.st 4 (.t 16) (.t 86))]) (.seq (.seq (.reg [vm 87 15, bk 88 .lss 87 0]) (.wk (.cond (.t 88) (.seq (.reg [vf 89 1 16, vs 90 89, ln 91 90, vm 15 91]) (.reg [vf 92 1 16, vs 93 92, vo 94 (.build [(zi 0), (zi 0), (zi 0), (.d (.b false)), (zi 0), (zi 0)] []), vo 95 (.bsl 6 1 [(zi 0), (zi 0), (zi 0), (.d (.b false)), (zi 0), (zi 0)] [(0, (.t 94))]), vo 96 (.app 6 48 (.t 93) (.t 95)), vf 97 1 16, vu (.st 1 (.t 97) (.t 96))])) .skip))) (.seq (.reg [vf 98 1 16, vs 99 98, vm 100 15, vl 101 2 6, vm 102 2, vm 103 3, vm 104 4, vo 105 (.build [(zi 0), (zi 0), (zi 0), (.d (.b false)), (zi 0), (zi 0)] [(0, 2, (.t 101)), (2, 1, (.t 102)), (3, 1, (cb true)), (4, 1, (.t 103)), (5, 1, (.t 104))]), xa 106 6 99 100, vu (.st 6 (.t 106) (.t 105))]) (.seq (.seq (.reg [vl 107 4 5, vl 108 2 6, vo 109 (.call 100 [(.t 107), (.t 108)]), bk 110 .lss 109 0]) (.wk (.cond (.t 110) (.reg [vf 111 2 16, vs 112 111, vl 113 2 6, vo 114 (.build [(zi 0), (zi 0), (zi 0)] [(0, 2, (.t 113))]), vo 115 (.bsl 3 1 [(zi 0), (zi 0), (zi 0)] [(0, (.t 114))]), vo 116 (.app 3 24 (.t 112) (.t 115)), vf 117 2 16, vu (.st 1 (.t 117) (.t 116))]) .skip))) (.seq (.reg [vl 118 4 16, vu (.st 4 (.t 10) (.t 118)), mi 11 0]) .ret)))))))))))))), [.cell 10 true 4, .t 11]⟩
theorem low37 : lowF Tryd.prog 37 = some F37.strip := by kernel_rfl
theorem fok37 : fOk Tryd.prog 37 = true := by kernel_rfl
theorem reredosref_WriteOf_ok (p0 : Store) (p1 : Txn) (p2 : Int) (p3 : Int) (p4 : Int) (r : Store × Int) (h : reredosref_WriteOf p0 p1 p2 p3 p4 = some r) : FnRO Tryd.prog G 37 [.agg p0.bx, .agg p1.bx, .one (.d (.i .i64 p2)), .one (.d (.i .i64 p3)), .one (.d (.i .i64 p4))] (fun rs => rs = [.agg (r.1.encO), .one (.i .i64 r.2)]) := by
 refine FnRO.of' low37 fok37 (by simp [F37]) ?_
 rw [reredosref_WriteOf] at h
 replace h := Hd.mk h
 simp only [F37, go_sem]
 try simp only [*, go_sem]
 refine cr h (reredosref_askFault_ok G p0 p1 p2) (fun v1 h => ?_)
 refine oi h (fun hb2 h => ?_) (fun hb2 h => ?_)
 try simp only [*, go_sem]
 refine cr h (reredosref_In_ok G p3 0 1073741824) (fun v3 h => ?_)
 refine oin h (fun hb4 hkhb4 h => ?_) (fun hb4 hkhb4 h => ?_)
 try simp only [*, go_sem]
 refine jn0 h ([zI 2 p2, zI 3 p3, zI 4 p4, zK 5 (Store.enc p0), zK 6 (Txn.enc p1), zP 10 0, zI 12 2]) ([ox [.nl 3, .nl 6, .nl 3, .nl 2]]) (fun k6 h => ?_) (fun h => ?_)
 try simp only [*, go_sem]
 exact jc () h.e [some 0]
 cases h.e
 simp only [*, go_sem, mA, mS]
 try simp only [*, go_sem]
 refine cr h (reredosref_In_ok G p4 0 1048576) (fun v7 h => ?_)
 try simp only [*, go_sem]
 refine jn1 h (fun b8_1 => [zI 2 p2, zI 3 p3, zI 4 p4, zK 5 (Store.enc p0), zK 6 (Txn.enc p1), zP 10 0, zI 12 b8_1]) (fun b8_1 => [ox [.nl 3, .nl 6, .nl 3, .nl 2]]) (fun k9 h => ?_) (fun b8_1 h => ?_)
 refine oin h (fun hb10 hkhb10 h => ?_) (fun hb10 hkhb10 h => ?_)
 try simp only [*, go_sem]
 exact jc (2) h.e [some 0]
 try simp only [*, go_sem]
 exact jc (v1) h.e [some 0]
 refine oi h (fun hb11 h => ?_) (fun hb11 h => ?_)
 cases h.e
 simp only [*, go_sem, mA, mS]
 try simp only [*, go_sem]
 refine cr h (reredosref_others_ok G p0 p1 p2) (fun v12 h => ?_)
 try simp only [*, go_sem]
 refine cr h (reredosref_lockOf_ok G p0 p1 p2) (fun v13 h => ?_)
 try simp only [*, go_sem]
 refine cr h (reredosref_isOver_ok G p0 p1) (fun v14 h => ?_)
 refine oi h (fun hb15 h => ?_) (fun hb15 h => ?_)
 cases h.e
 simp only [*, go_sem, mA, mS]
 refine oi h (fun hb16 h => ?_) (fun hb16 h => ?_)
 refine obn h (fun x17 _ _ _ _ h => ?_)
 refine oi h (fun hb19 h => ?_) (fun hb19 h => ?_)
 cases h.e
 simp only [*, go_sem, mA, mS]
 refine oi h (fun hb20 h => ?_) (fun hb20 h => ?_)
 cases h.e
 simp only [*, go_sem, mA, mS]
 refine oi h (fun hb21 h => ?_) (fun hb21 h => ?_)
 have := of_decide_eq_true hb21
 try simp only [*, go_sem]
 intro hl22
 refine oi h (fun hb23 h => ?_) (fun hb23 h => ?_)
 cases h.e
 simp only [*, go_sem, mA, mS]
 try simp only [*, go_sem]
 refine cr h (reredosref_itemOf_ok G p0 p2) (fun v24 h => ?_)
 refine oi h (fun hb25 h => ?_) (fun hb25 h => ?_)
 cases h.e
 simp only [*, go_sem, mA, mS]
 try simp only [*, go_sem]
 refine cr h (reredosref_StoreCopy_ok G p0) (fun v26 h => ?_)
 try simp only [*, go_sem]
 refine jn0 h ([zI 2 p2, zI 3 p3, zI 4 p4, zK 5 (Store.enc p0), zK 6 (Txn.enc p1), zP 10 0, zI 15 ((v26.Locks.length : Nat) : Int), zP 16 1]) ([ox [.nl 3, .nl 6, .nl 3, .nl 2], ox [.r 2 0 v26.Items.length, .r 3 0 (v26.Locks.length + 1), .r 4 0 v26.Doubts.length, .r 5 0 v26.Over.length], oa 3 (v26.Items.map Item.enc), oa 6 ((v26.Locks ++ [(Lock.mk (Txn.mk 0 0) 0 false 0 0)]).map Lock.enc), oa 3 (v26.Doubts.map Doubt.enc), oa 2 (v26.Over.map Txn.enc)]) (fun k28 h => ?_) (fun h => ?_)
 try simp only [*, go_sem]
 intro hl29
 refine ck h (fun _ h => ?_)
 try simp only [*, go_sem]
 exact jc () h.e [some 0, some 5, some 1, some 7, some 3, some 4]
 refine obg h (fun x31 _ hkx31 h => ?_)
 try simp only [List.length_take, List.length_drop, List.length_append, List.length_set, List.length_map, List.length_cons, List.length_nil, Nat.zero_add] at hkx31
 try simp only [*, go_sem]
 refine cr h (reredosref_doubtOf_ok G p0 p1) (fun v32 h => ?_)
 try simp only [*, go_sem]
 refine jn1 h (fun b33_1 => [zP 10 0, zP 16 1]) (fun b33_1 => [ox [.nl 3, .nl 6, .nl 3, .nl 2], ox [.r 2 0 v26.Items.length, .r 3 0 (v26.Locks.length + 1), .r 4 0 b33_1.length, .r 5 0 v26.Over.length], oa 3 (v26.Items.map Item.enc), oa 6 (((v26.Locks ++ [(Lock.mk (Txn.mk 0 0) 0 false 0 0)]).set v26.Locks.length (Lock.mk p1 p2 true p3 p4)).map Lock.enc), oa 3 (b33_1.map Doubt.enc), oa 2 (v26.Over.map Txn.enc)]) (fun k34 h => ?_) (fun b33_1 h => ?_)
 refine oi h (fun hb35 h => ?_) (fun hb35 h => ?_)
 have := of_decide_eq_true hb35
 refine ck h (fun _ h => ?_)
 try simp only [*, go_sem]
 exact jc ((v26.Doubts ++ [(Doubt.mk p1 0)])) h.e [some 0, some 1, some 2, some 3, some 7, some 5]
 try simp only [*, go_sem]
 exact jc (v26.Doubts) h.e [some 0, some 1, some 2, some 3, some 4, some 5]
 cases h.e
 simp only [*, go_sem, mA, mS]
 try simp only [*, go_sem]
 refine cr h (reredosref_itemOf_ok G p0 p2) (fun v37 h => ?_)
 refine oi h (fun hb38 h => ?_) (fun hb38 h => ?_)
 cases h.e
 simp only [*, go_sem, mA, mS]
 try simp only [*, go_sem]
 refine cr h (reredosref_StoreCopy_ok G p0) (fun v39 h => ?_)
 try simp only [*, go_sem]
 refine jn0 h ([zI 2 p2, zI 3 p3, zI 4 p4, zK 5 (Store.enc p0), zK 6 (Txn.enc p1), zP 10 0, zI 15 v13, zP 16 1]) ([ox [.nl 3, .nl 6, .nl 3, .nl 2], ox [.r 2 0 v39.Items.length, .r 3 0 v39.Locks.length, .r 4 0 v39.Doubts.length, .r 5 0 v39.Over.length], oa 3 (v39.Items.map Item.enc), oa 6 (v39.Locks.map Lock.enc), oa 3 (v39.Doubts.map Doubt.enc), oa 2 (v39.Over.map Txn.enc)]) (fun k41 h => ?_) (fun h => ?_)
 try simp only [*, go_sem]
 exact jc () h.e [some 0, some 5, some 1, some 2, some 3, some 4]
 refine obn h (fun x42 _ _ _ _ h => ?_)
 try simp only [*, go_sem]
 refine cr h (reredosref_doubtOf_ok G p0 p1) (fun v44 h => ?_)
 try simp only [*, go_sem]
 refine jn1 h (fun b45_1 => [zP 10 0, zP 16 1]) (fun b45_1 => [ox [.nl 3, .nl 6, .nl 3, .nl 2], ox [.r 2 0 v39.Items.length, .r 3 0 v39.Locks.length, .r 4 0 b45_1.length, .r 5 0 v39.Over.length], oa 3 (v39.Items.map Item.enc), oa 6 ((v39.Locks.set v13.toNat (Lock.mk p1 p2 true p3 p4)).map Lock.enc), oa 3 (b45_1.map Doubt.enc), oa 2 (v39.Over.map Txn.enc)]) (fun k46 h => ?_) (fun b45_1 h => ?_)
 refine oi h (fun hb47 h => ?_) (fun hb47 h => ?_)
 have := of_decide_eq_true hb47
 refine ck h (fun _ h => ?_)
 try simp only [*, go_sem]
 exact jc ((v39.Doubts ++ [(Doubt.mk p1 0)])) h.e [some 0, some 1, some 2, some 3, some 7, some 5]
 try simp only [*, go_sem]
 exact jc (v39.Doubts) h.e [some 0, some 1, some 2, some 3, some 4, some 5]
 cases h.e
 simp only [*, go_sem, mA, mS]
 refine oi h (fun hb49 h => ?_) (fun hb49 h => ?_)
 cases h.e
 simp only [*, go_sem, mA, mS]
 refine oi h (fun hb50 h => ?_) (fun hb50 h => ?_)
 have := of_decide_eq_true hb50
 try simp only [*, go_sem]
 intro hl51
 refine oi h (fun hb52 h => ?_) (fun hb52 h => ?_)
 cases h.e
 simp only [*, go_sem, mA, mS]
 try simp only [*, go_sem]
 refine cr h (reredosref_itemOf_ok G p0 p2) (fun v53 h => ?_)
 refine oi h (fun hb54 h => ?_) (fun hb54 h => ?_)
 cases h.e
 simp only [*, go_sem, mA, mS]
 try simp only [*, go_sem]
 refine cr h (reredosref_StoreCopy_ok G p0) (fun v55 h => ?_)
 try simp only [*, go_sem]
 refine jn0 h ([zI 2 p2, zI 3 p3, zI 4 p4, zK 5 (Store.enc p0), zK 6 (Txn.enc p1), zP 10 0, zI 15 ((v55.Locks.length : Nat) : Int), zP 16 1]) ([ox [.nl 3, .nl 6, .nl 3, .nl 2], ox [.r 2 0 v55.Items.length, .r 3 0 (v55.Locks.length + 1), .r 4 0 v55.Doubts.length, .r 5 0 v55.Over.length], oa 3 (v55.Items.map Item.enc), oa 6 ((v55.Locks ++ [(Lock.mk (Txn.mk 0 0) 0 false 0 0)]).map Lock.enc), oa 3 (v55.Doubts.map Doubt.enc), oa 2 (v55.Over.map Txn.enc)]) (fun k57 h => ?_) (fun h => ?_)
 try simp only [*, go_sem]
 intro hl58
 refine ck h (fun _ h => ?_)
 try simp only [*, go_sem]
 exact jc () h.e [some 0, some 5, some 1, some 7, some 3, some 4]
 refine obg h (fun x60 _ hkx60 h => ?_)
 try simp only [List.length_take, List.length_drop, List.length_append, List.length_set, List.length_map, List.length_cons, List.length_nil, Nat.zero_add] at hkx60
 try simp only [*, go_sem]
 refine cr h (reredosref_doubtOf_ok G p0 p1) (fun v61 h => ?_)
 try simp only [*, go_sem]
 refine jn1 h (fun b62_1 => [zP 10 0, zP 16 1]) (fun b62_1 => [ox [.nl 3, .nl 6, .nl 3, .nl 2], ox [.r 2 0 v55.Items.length, .r 3 0 (v55.Locks.length + 1), .r 4 0 b62_1.length, .r 5 0 v55.Over.length], oa 3 (v55.Items.map Item.enc), oa 6 (((v55.Locks ++ [(Lock.mk (Txn.mk 0 0) 0 false 0 0)]).set v55.Locks.length (Lock.mk p1 p2 true p3 p4)).map Lock.enc), oa 3 (b62_1.map Doubt.enc), oa 2 (v55.Over.map Txn.enc)]) (fun k63 h => ?_) (fun b62_1 h => ?_)
 refine oi h (fun hb64 h => ?_) (fun hb64 h => ?_)
 have := of_decide_eq_true hb64
 refine ck h (fun _ h => ?_)
 try simp only [*, go_sem]
 exact jc ((v55.Doubts ++ [(Doubt.mk p1 0)])) h.e [some 0, some 1, some 2, some 3, some 7, some 5]
 try simp only [*, go_sem]
 exact jc (v55.Doubts) h.e [some 0, some 1, some 2, some 3, some 4, some 5]
 cases h.e
 simp only [*, go_sem, mA, mS]
 try simp only [*, go_sem]
 refine cr h (reredosref_itemOf_ok G p0 p2) (fun v66 h => ?_)
 refine oi h (fun hb67 h => ?_) (fun hb67 h => ?_)
 cases h.e
 simp only [*, go_sem, mA, mS]
 try simp only [*, go_sem]
 refine cr h (reredosref_StoreCopy_ok G p0) (fun v68 h => ?_)
 try simp only [*, go_sem]
 refine jn0 h ([zI 2 p2, zI 3 p3, zI 4 p4, zK 5 (Store.enc p0), zK 6 (Txn.enc p1), zP 10 0, zI 15 v13, zP 16 1]) ([ox [.nl 3, .nl 6, .nl 3, .nl 2], ox [.r 2 0 v68.Items.length, .r 3 0 v68.Locks.length, .r 4 0 v68.Doubts.length, .r 5 0 v68.Over.length], oa 3 (v68.Items.map Item.enc), oa 6 (v68.Locks.map Lock.enc), oa 3 (v68.Doubts.map Doubt.enc), oa 2 (v68.Over.map Txn.enc)]) (fun k70 h => ?_) (fun h => ?_)
 try simp only [*, go_sem]
 exact jc () h.e [some 0, some 5, some 1, some 2, some 3, some 4]
 refine obn h (fun x71 _ _ _ _ h => ?_)
 try simp only [*, go_sem]
 refine cr h (reredosref_doubtOf_ok G p0 p1) (fun v73 h => ?_)
 try simp only [*, go_sem]
 refine jn1 h (fun b74_1 => [zP 10 0, zP 16 1]) (fun b74_1 => [ox [.nl 3, .nl 6, .nl 3, .nl 2], ox [.r 2 0 v68.Items.length, .r 3 0 v68.Locks.length, .r 4 0 b74_1.length, .r 5 0 v68.Over.length], oa 3 (v68.Items.map Item.enc), oa 6 ((v68.Locks.set v13.toNat (Lock.mk p1 p2 true p3 p4)).map Lock.enc), oa 3 (b74_1.map Doubt.enc), oa 2 (v68.Over.map Txn.enc)]) (fun k75 h => ?_) (fun b74_1 h => ?_)
 refine oi h (fun hb76 h => ?_) (fun hb76 h => ?_)
 have := of_decide_eq_true hb76
 refine ck h (fun _ h => ?_)
 try simp only [*, go_sem]
 exact jc ((v68.Doubts ++ [(Doubt.mk p1 0)])) h.e [some 0, some 1, some 2, some 3, some 7, some 5]
 try simp only [*, go_sem]
 exact jc (v68.Doubts) h.e [some 0, some 1, some 2, some 3, some 4, some 5]
 cases h.e
 simp only [*, go_sem, mA, mS]
 try simp only [*, go_sem]
 refine jn0 h ([zI 2 p2, zI 3 p3, zI 4 p4, zK 5 (Store.enc p0), zK 6 (Txn.enc p1), zP 10 0, zI 12 v1]) ([ox [.nl 3, .nl 6, .nl 3, .nl 2]]) (fun k79 h => ?_) (fun h => ?_)
 try simp only [*, go_sem]
 exact jc () h.e [some 0]
 refine oi h (fun hb80 h => ?_) (fun hb80 h => ?_)
 cases h.e
 simp only [*, go_sem, mA, mS]
 try simp only [*, go_sem]
 refine cr h (reredosref_others_ok G p0 p1 p2) (fun v81 h => ?_)
 try simp only [*, go_sem]
 refine cr h (reredosref_lockOf_ok G p0 p1 p2) (fun v82 h => ?_)
 try simp only [*, go_sem]
 refine cr h (reredosref_isOver_ok G p0 p1) (fun v83 h => ?_)
 refine oi h (fun hb84 h => ?_) (fun hb84 h => ?_)
 cases h.e
 simp only [*, go_sem, mA, mS]
 refine oi h (fun hb85 h => ?_) (fun hb85 h => ?_)
 refine obn h (fun x86 _ _ _ _ h => ?_)
 refine oi h (fun hb88 h => ?_) (fun hb88 h => ?_)
 cases h.e
 simp only [*, go_sem, mA, mS]
 refine oi h (fun hb89 h => ?_) (fun hb89 h => ?_)
 cases h.e
 simp only [*, go_sem, mA, mS]
 refine oi h (fun hb90 h => ?_) (fun hb90 h => ?_)
 have := of_decide_eq_true hb90
 try simp only [*, go_sem]
 intro hl91
 refine oi h (fun hb92 h => ?_) (fun hb92 h => ?_)
 cases h.e
 simp only [*, go_sem, mA, mS]
 try simp only [*, go_sem]
 refine cr h (reredosref_itemOf_ok G p0 p2) (fun v93 h => ?_)
 refine oi h (fun hb94 h => ?_) (fun hb94 h => ?_)
 cases h.e
 simp only [*, go_sem, mA, mS]
 try simp only [*, go_sem]
 refine cr h (reredosref_StoreCopy_ok G p0) (fun v95 h => ?_)
 try simp only [*, go_sem]
 refine jn0 h ([zI 2 p2, zI 3 p3, zI 4 p4, zK 5 (Store.enc p0), zK 6 (Txn.enc p1), zP 10 0, zI 15 ((v95.Locks.length : Nat) : Int), zP 16 1]) ([ox [.nl 3, .nl 6, .nl 3, .nl 2], ox [.r 2 0 v95.Items.length, .r 3 0 (v95.Locks.length + 1), .r 4 0 v95.Doubts.length, .r 5 0 v95.Over.length], oa 3 (v95.Items.map Item.enc), oa 6 ((v95.Locks ++ [(Lock.mk (Txn.mk 0 0) 0 false 0 0)]).map Lock.enc), oa 3 (v95.Doubts.map Doubt.enc), oa 2 (v95.Over.map Txn.enc)]) (fun k97 h => ?_) (fun h => ?_)
 try simp only [*, go_sem]
 intro hl98
 refine ck h (fun _ h => ?_)
 try simp only [*, go_sem]
 exact jc () h.e [some 0, some 5, some 1, some 7, some 3, some 4]
 refine obg h (fun x100 _ hkx100 h => ?_)
 try simp only [List.length_take, List.length_drop, List.length_append, List.length_set, List.length_map, List.length_cons, List.length_nil, Nat.zero_add] at hkx100
 try simp only [*, go_sem]
 refine cr h (reredosref_doubtOf_ok G p0 p1) (fun v101 h => ?_)
 try simp only [*, go_sem]
 refine jn1 h (fun b102_1 => [zP 10 0, zP 16 1]) (fun b102_1 => [ox [.nl 3, .nl 6, .nl 3, .nl 2], ox [.r 2 0 v95.Items.length, .r 3 0 (v95.Locks.length + 1), .r 4 0 b102_1.length, .r 5 0 v95.Over.length], oa 3 (v95.Items.map Item.enc), oa 6 (((v95.Locks ++ [(Lock.mk (Txn.mk 0 0) 0 false 0 0)]).set v95.Locks.length (Lock.mk p1 p2 true p3 p4)).map Lock.enc), oa 3 (b102_1.map Doubt.enc), oa 2 (v95.Over.map Txn.enc)]) (fun k103 h => ?_) (fun b102_1 h => ?_)
 refine oi h (fun hb104 h => ?_) (fun hb104 h => ?_)
 have := of_decide_eq_true hb104
 refine ck h (fun _ h => ?_)
 try simp only [*, go_sem]
 exact jc ((v95.Doubts ++ [(Doubt.mk p1 0)])) h.e [some 0, some 1, some 2, some 3, some 7, some 5]
 try simp only [*, go_sem]
 exact jc (v95.Doubts) h.e [some 0, some 1, some 2, some 3, some 4, some 5]
 cases h.e
 simp only [*, go_sem, mA, mS]
 try simp only [*, go_sem]
 refine cr h (reredosref_itemOf_ok G p0 p2) (fun v106 h => ?_)
 refine oi h (fun hb107 h => ?_) (fun hb107 h => ?_)
 cases h.e
 simp only [*, go_sem, mA, mS]
 try simp only [*, go_sem]
 refine cr h (reredosref_StoreCopy_ok G p0) (fun v108 h => ?_)
 try simp only [*, go_sem]
 refine jn0 h ([zI 2 p2, zI 3 p3, zI 4 p4, zK 5 (Store.enc p0), zK 6 (Txn.enc p1), zP 10 0, zI 15 v82, zP 16 1]) ([ox [.nl 3, .nl 6, .nl 3, .nl 2], ox [.r 2 0 v108.Items.length, .r 3 0 v108.Locks.length, .r 4 0 v108.Doubts.length, .r 5 0 v108.Over.length], oa 3 (v108.Items.map Item.enc), oa 6 (v108.Locks.map Lock.enc), oa 3 (v108.Doubts.map Doubt.enc), oa 2 (v108.Over.map Txn.enc)]) (fun k110 h => ?_) (fun h => ?_)
 try simp only [*, go_sem]
 exact jc () h.e [some 0, some 5, some 1, some 2, some 3, some 4]
 refine obn h (fun x111 _ _ _ _ h => ?_)
 try simp only [*, go_sem]
 refine cr h (reredosref_doubtOf_ok G p0 p1) (fun v113 h => ?_)
 try simp only [*, go_sem]
 refine jn1 h (fun b114_1 => [zP 10 0, zP 16 1]) (fun b114_1 => [ox [.nl 3, .nl 6, .nl 3, .nl 2], ox [.r 2 0 v108.Items.length, .r 3 0 v108.Locks.length, .r 4 0 b114_1.length, .r 5 0 v108.Over.length], oa 3 (v108.Items.map Item.enc), oa 6 ((v108.Locks.set v82.toNat (Lock.mk p1 p2 true p3 p4)).map Lock.enc), oa 3 (b114_1.map Doubt.enc), oa 2 (v108.Over.map Txn.enc)]) (fun k115 h => ?_) (fun b114_1 h => ?_)
 refine oi h (fun hb116 h => ?_) (fun hb116 h => ?_)
 have := of_decide_eq_true hb116
 refine ck h (fun _ h => ?_)
 try simp only [*, go_sem]
 exact jc ((v108.Doubts ++ [(Doubt.mk p1 0)])) h.e [some 0, some 1, some 2, some 3, some 7, some 5]
 try simp only [*, go_sem]
 exact jc (v108.Doubts) h.e [some 0, some 1, some 2, some 3, some 4, some 5]
 cases h.e
 simp only [*, go_sem, mA, mS]
 refine oi h (fun hb118 h => ?_) (fun hb118 h => ?_)
 cases h.e
 simp only [*, go_sem, mA, mS]
 refine oi h (fun hb119 h => ?_) (fun hb119 h => ?_)
 have := of_decide_eq_true hb119
 try simp only [*, go_sem]
 intro hl120
 refine oi h (fun hb121 h => ?_) (fun hb121 h => ?_)
 cases h.e
 simp only [*, go_sem, mA, mS]
 try simp only [*, go_sem]
 refine cr h (reredosref_itemOf_ok G p0 p2) (fun v122 h => ?_)
 refine oi h (fun hb123 h => ?_) (fun hb123 h => ?_)
 cases h.e
 simp only [*, go_sem, mA, mS]
 try simp only [*, go_sem]
 refine cr h (reredosref_StoreCopy_ok G p0) (fun v124 h => ?_)
 try simp only [*, go_sem]
 refine jn0 h ([zI 2 p2, zI 3 p3, zI 4 p4, zK 5 (Store.enc p0), zK 6 (Txn.enc p1), zP 10 0, zI 15 ((v124.Locks.length : Nat) : Int), zP 16 1]) ([ox [.nl 3, .nl 6, .nl 3, .nl 2], ox [.r 2 0 v124.Items.length, .r 3 0 (v124.Locks.length + 1), .r 4 0 v124.Doubts.length, .r 5 0 v124.Over.length], oa 3 (v124.Items.map Item.enc), oa 6 ((v124.Locks ++ [(Lock.mk (Txn.mk 0 0) 0 false 0 0)]).map Lock.enc), oa 3 (v124.Doubts.map Doubt.enc), oa 2 (v124.Over.map Txn.enc)]) (fun k126 h => ?_) (fun h => ?_)
 try simp only [*, go_sem]
 intro hl127
 refine ck h (fun _ h => ?_)
 try simp only [*, go_sem]
 exact jc () h.e [some 0, some 5, some 1, some 7, some 3, some 4]
 refine obg h (fun x129 _ hkx129 h => ?_)
 try simp only [List.length_take, List.length_drop, List.length_append, List.length_set, List.length_map, List.length_cons, List.length_nil, Nat.zero_add] at hkx129
 try simp only [*, go_sem]
 refine cr h (reredosref_doubtOf_ok G p0 p1) (fun v130 h => ?_)
 try simp only [*, go_sem]
 refine jn1 h (fun b131_1 => [zP 10 0, zP 16 1]) (fun b131_1 => [ox [.nl 3, .nl 6, .nl 3, .nl 2], ox [.r 2 0 v124.Items.length, .r 3 0 (v124.Locks.length + 1), .r 4 0 b131_1.length, .r 5 0 v124.Over.length], oa 3 (v124.Items.map Item.enc), oa 6 (((v124.Locks ++ [(Lock.mk (Txn.mk 0 0) 0 false 0 0)]).set v124.Locks.length (Lock.mk p1 p2 true p3 p4)).map Lock.enc), oa 3 (b131_1.map Doubt.enc), oa 2 (v124.Over.map Txn.enc)]) (fun k132 h => ?_) (fun b131_1 h => ?_)
 refine oi h (fun hb133 h => ?_) (fun hb133 h => ?_)
 have := of_decide_eq_true hb133
 refine ck h (fun _ h => ?_)
 try simp only [*, go_sem]
 exact jc ((v124.Doubts ++ [(Doubt.mk p1 0)])) h.e [some 0, some 1, some 2, some 3, some 7, some 5]
 try simp only [*, go_sem]
 exact jc (v124.Doubts) h.e [some 0, some 1, some 2, some 3, some 4, some 5]
 cases h.e
 simp only [*, go_sem, mA, mS]
 try simp only [*, go_sem]
 refine cr h (reredosref_itemOf_ok G p0 p2) (fun v135 h => ?_)
 refine oi h (fun hb136 h => ?_) (fun hb136 h => ?_)
 cases h.e
 simp only [*, go_sem, mA, mS]
 try simp only [*, go_sem]
 refine cr h (reredosref_StoreCopy_ok G p0) (fun v137 h => ?_)
 try simp only [*, go_sem]
 refine jn0 h ([zI 2 p2, zI 3 p3, zI 4 p4, zK 5 (Store.enc p0), zK 6 (Txn.enc p1), zP 10 0, zI 15 v82, zP 16 1]) ([ox [.nl 3, .nl 6, .nl 3, .nl 2], ox [.r 2 0 v137.Items.length, .r 3 0 v137.Locks.length, .r 4 0 v137.Doubts.length, .r 5 0 v137.Over.length], oa 3 (v137.Items.map Item.enc), oa 6 (v137.Locks.map Lock.enc), oa 3 (v137.Doubts.map Doubt.enc), oa 2 (v137.Over.map Txn.enc)]) (fun k139 h => ?_) (fun h => ?_)
 try simp only [*, go_sem]
 exact jc () h.e [some 0, some 5, some 1, some 2, some 3, some 4]
 refine obn h (fun x140 _ _ _ _ h => ?_)
 try simp only [*, go_sem]
 refine cr h (reredosref_doubtOf_ok G p0 p1) (fun v142 h => ?_)
 try simp only [*, go_sem]
 refine jn1 h (fun b143_1 => [zP 10 0, zP 16 1]) (fun b143_1 => [ox [.nl 3, .nl 6, .nl 3, .nl 2], ox [.r 2 0 v137.Items.length, .r 3 0 v137.Locks.length, .r 4 0 b143_1.length, .r 5 0 v137.Over.length], oa 3 (v137.Items.map Item.enc), oa 6 ((v137.Locks.set v82.toNat (Lock.mk p1 p2 true p3 p4)).map Lock.enc), oa 3 (b143_1.map Doubt.enc), oa 2 (v137.Over.map Txn.enc)]) (fun k144 h => ?_) (fun b143_1 h => ?_)
 refine oi h (fun hb145 h => ?_) (fun hb145 h => ?_)
 have := of_decide_eq_true hb145
 refine ck h (fun _ h => ?_)
 try simp only [*, go_sem]
 exact jc ((v137.Doubts ++ [(Doubt.mk p1 0)])) h.e [some 0, some 1, some 2, some 3, some 7, some 5]
 try simp only [*, go_sem]
 exact jc (v137.Doubts) h.e [some 0, some 1, some 2, some 3, some 4, some 5]
 cases h.e
 simp only [*, go_sem, mA, mS]
def reredosref_StillOf (p0 : Store) (p1 : Txn) (p2 : Int) (p3 : Int) : Option (Bool × Int) := (Option.bind (reredosref_askFault p0 p1 p2) fun v1 => (if (v1 != 0) = true then (some (false, v1)) else (withK (fun (b3_1 : Bool) => (some (b3_1, 0))) fun k4 => (Option.bind (reredosref_lockOf p0 p1 p2) fun v5 => (if (decide (v5 ≥ 0)) = true then (Option.bind (reredosref_itemOf p0 p2) fun v7 => (k4 (v7.Version == p3))) else (k4 false))))))
def F38 : VFn := ⟨31, (.seq (.reg [vo 4 (.boxk 4 (.t 0)), vo 5 (.boxk 2 (.t 1)), vo 8 (.mv (cb false)), mi 9 0]) (.seq (.reg [vl 11 4 4, vl 12 2 5, vm 13 2, vo 14 (.call 95 [(.t 11), (.t 12), (.t 13)]), vm 10 14]) (.seq (.seq (.reg [vm 15 10, bk 16 .neq 15 0]) (.cond (.t 16) (.seq (.reg [vm 17 10, vo 8 (.mv (cb false)), vm 9 17]) .ret) .skip)) (.seq (.wk (.reg [vl 18 4 4, vl 19 2 5, vm 20 2, vo 21 (.call 97 [(.t 18), (.t 19), (.t 20)]), bk 22 .geq 21 0, vm 23 22, gt 24 23 (.ld true 4 (.t 4)), gt 25 23 (.mv (.t 2)), gt 26 23 (.call 96 [(.t 24), (.t 25)]), gt 27 23 (.fl false 2 1 (.t 26)), gt 28 23 (.mv (.t 3)), gt 29 23 (.bin .i .eql (.t 27) (.t 28)), vo 30 (.pick (.t 23) (.t 29) (cb false)), vm 8 30, mi 9 0])) .ret)))), [.t 8, .t 9]⟩
theorem low38 : lowF Tryd.prog 38 = some F38.strip := by kernel_rfl
theorem fok38 : fOk Tryd.prog 38 = true := by kernel_rfl
theorem reredosref_StillOf_ok (p0 : Store) (p1 : Txn) (p2 : Int) (p3 : Int) (r : Bool × Int) (h : reredosref_StillOf p0 p1 p2 p3 = some r) : FnRO Tryd.prog G 38 [.agg p0.bx, .agg p1.bx, .one (.d (.i .i64 p2)), .one (.d (.i .i64 p3))] (fun rs => rs = [.one (.b r.1), .one (.i .i64 r.2)]) := by
 refine FnRO.of' low38 fok38 (by simp [F38]) ?_
 rw [reredosref_StillOf] at h
 replace h := Hd.mk h
 simp only [F38, go_sem]
 try simp only [*, go_sem]
 refine cr h (reredosref_askFault_ok G p0 p1 p2) (fun v1 h => ?_)
 refine oi h (fun hb2 h => ?_) (fun hb2 h => ?_)
 cases h.e
 simp only [*, go_sem, mA, mS]
 try simp only [*, go_sem]
 refine jn1 h (fun b3_1 => [zB 8 b3_1, zI 9 0]) (fun b3_1 => []) (fun k4 h => ?_) (fun b3_1 h => ?_)
 try simp only [*, go_sem]
 refine cr h (reredosref_lockOf_ok G p0 p1 p2) (fun v5 h => ?_)
 refine oi h (fun hb6 h => ?_) (fun hb6 h => ?_)
 try simp only [*, go_sem]
 refine cr h (reredosref_itemOf_ok G p0 p2) (fun v7 h => ?_)
 try simp only [*, go_sem]
 exact jc (v7.Version == p3) h.e []
 try simp only [*, go_sem]
 exact jc (false) h.e []
 cases h.e
 simp only [*, go_sem, mA, mS]
def reredosref_WritesOf_L1 (p0 : Store) (p1 : Txn) (k4 : Int → Option (Int × Int)) : Nat → Int → Nat → Option (Int × Int)
 | 0, _, _ => none
 | n6 + 1, a5_1, a5_2 => (if (decide (a5_2 < p0.Locks.length)) = true then (Option.bind (p0.Locks[a5_2]?) fun x9 => (if ((x9.Txn.Site == p1.Site) && (x9.Txn.N == p1.N)) = true then (withK (fun (b11_1 : Int) => (reredosref_WritesOf_L1 p0 p1 k4 n6 b11_1 (a5_2 + 1))) fun k12 => (if x9.Write = true then (k12 (IntKind.i64.wrap (a5_1 + 1))) else (k12 a5_1))) else (withK (reredosref_WritesOf_L1 p0 p1 k4 n6 a5_1 (a5_2 + 1)) fun k16 => k16))) else (k4 a5_1))
def reredosref_WritesOf (p0 : Store) (p1 : Txn) : Option (Int × Int) := (Option.bind (reredosref_askFault p0 p1 0) fun v1 => (if (v1 != 0) = true then (some (0, v1)) else (withK (fun (b3_1 : Int) => (some (b3_1, 0))) fun k4 => (reredosref_WritesOf_L1 p0 p1 k4 (p0.Locks.length + 1) 0 0))))
def F39 : VFn := ⟨41, (.seq (.reg [vo 2 (.boxk 4 (.t 0)), vo 3 (.boxk 2 (.t 1)), mi 4 0, mi 5 0]) (.seq (.reg [vl 9 4 2, vl 10 2 3, vo 11 (.call 95 [(.t 9), (.t 10), (ci 0)]), vm 6 11]) (.seq (.seq (.reg [vm 12 6, bk 13 .neq 12 0]) (.cond (.t 13) (.seq (.reg [vm 14 6, mi 4 0, vm 5 14]) .ret) .skip)) (.seq (.reg [mi 7 0]) (.seq (.seq (.reg [mi 8 0]) (.wk (.block 0 (.loop (.seq (.seq (.reg [vm 15 8, vf 16 1 2, vs 17 16, ln 18 17, bt 19 .lss 15 18]) (.cond (.t 19) .skip (.exit 0))) (.seq (.block 1 (.seq (.draw [vd (vf 22 1 2) 0, vd (vs 23 22) 1, vd (vm 24 8) 0, vd (xa 25 6 23 24) 7, vd (vf 26 0 25) 15, vd (vl 27 2 26) 31, vd (vl 28 2 3) 0, vd (vo 29 (.eqs false [.i, .i] (.t 27) (.t 28))) 127, vd (vm 30 29) 255, vd (gt 31 30 (.fa 1 (.t 2))) 511, vd (gt 32 30 (.ld false 1 (.t 31))) 1023, vd (gt 33 30 (.mv (.t 8))) 511, vd (gt 34 30 (.ia 6 (.t 32) (.t 33))) 4095, vd (gt 35 30 (.fa 3 (.t 34))) 8191, vd (gt 36 30 (.ld false 1 (.t 35))) 0x3fff, vd (vo 37 (.pick (.t 30) (.t 36) (cb false))) 0x7fff]) (.wk (.cond (.t 37) (.reg [vm 38 7, bk 39 .add 38 1, vm 7 39]) .skip)))) (.reg [vm 20 8, bk 21 .add 20 1, vm 8 21]))))))) (.seq (.reg [vm 40 7, vm 4 40, mi 5 0]) .ret)))))), [.t 4, .t 5]⟩
theorem low39 : lowF Tryd.prog 39 = some F39.strip := by kernel_rfl
theorem fok39 : fOk Tryd.prog 39 = true := by kernel_rfl
theorem reredosref_WritesOf_ok (p0 : Store) (p1 : Txn) (r : Int × Int) (h : reredosref_WritesOf p0 p1 = some r) : FnRO Tryd.prog G 39 [.agg p0.bx, .agg p1.bx] (fun rs => rs = [.one (.i .i64 r.1), .one (.i .i64 r.2)]) := by
 refine FnRO.of' low39 fok39 (by simp [F39]) ?_
 rw [reredosref_WritesOf] at h
 replace h := Hd.mk h
 simp only [F39, go_sem]
 try simp only [*, go_sem]
 refine cr h (reredosref_askFault_ok G p0 p1 0) (fun v1 h => ?_)
 refine oi h (fun hb2 h => ?_) (fun hb2 h => ?_)
 cases h.e
 simp only [*, go_sem, mA, mS]
 try simp only [*, go_sem]
 refine jn1 h (fun b3_1 => [zI 7 b3_1]) (fun b3_1 => []) (fun k4 h => ?_) (fun b3_1 h => ?_)
 try simp only [*, go_sem]
 refine lp2 (reredosref_WritesOf_L1 p0 p1 k4) (fun a5_1 a5_2 => [zK 2 (Store.enc p0), zK 3 (Txn.enc p1), zI 7 a5_1, zI 8 ((a5_2 : Nat) : Int)]) (fun a5_1 a5_2 => []) h [] [] (fun n6 a5_1 a5_2 h => ?_) (by intros; rw [reredosref_WritesOf_L1])
 rw [reredosref_WritesOf_L1] at h
 try simp only [*, go_sem]
 intro hl7
 refine oi h (fun hb8 h => ?_) (fun hb8 h => ?_)
 have := of_decide_eq_true hb8
 refine obg h (fun x9 _ hkx9 h => ?_)
 refine oi h (fun hb10 h => ?_) (fun hb10 h => ?_)
 try simp only [*, go_sem]
 try simp only [*, go_sem]
 refine jn1 h (fun b11_1 => [zK 2 (Store.enc p0), zK 3 (Txn.enc p1), zI 7 b11_1, zI 8 ((a5_2 : Nat) : Int), (31, .one (.p (.l 4 [(Store.enc p0)] 0 1))), zL 32 6 (p0.Locks.map Lock.enc), zI 33 ((a5_2 : Nat) : Int), (34, .one (.p (.l 6 (p0.Locks.map Lock.enc) a5_2 0))), (35, .one (.p (.l 6 (p0.Locks.map Lock.enc) a5_2 3))), zB 36 x9.Write]) (fun b11_1 => []) (fun k12 h => ?_) (fun b11_1 h => ?_)
 refine oi h (fun hb13 h => ?_) (fun hb13 h => ?_)
 try simp only [*, go_sem]
 exact jc (IntKind.i64.wrap (a5_1 + 1)) h.e []
 try simp only [*, go_sem]
 exact jc (a5_1) h.e []
 have := wrap_succ_max hkx9 hl7
 try simp only [*, go_sem]
 exact lc (b11_1, a5_2 + 1) h.e []
 try simp only [*, go_sem]
 try simp only [*, go_sem]
 refine jn0 h ([zK 2 (Store.enc p0), zK 3 (Txn.enc p1), zI 7 a5_1, zI 8 ((a5_2 : Nat) : Int)]) ([]) (fun k16 h => ?_) (fun h => ?_)
 try simp only [*, go_sem]
 exact jc () h.e []
 have := wrap_succ_max hkx9 hl7
 try simp only [*, go_sem]
 exact lc (a5_1, a5_2 + 1) h.e []
 try simp only [*, go_sem]
 exact jc (a5_1) h.e []
 cases h.e
 simp only [*, go_sem, mA, mS]
def reredosref_withItem_L1 (p0 : List Item) (p1 : Int) (p2 : Int) (k2 : Bool → (List Item) → Option ((List Item))) : Nat → Bool → Nat → (List Item) → Option ((List Item))
 | 0, _, _, _ => none
 | n4 + 1, a3_1, a3_2, a3_3 => (if (decide (a3_2 < p0.length)) = true then (Option.bind (p0[a3_2]?) fun x7 => (if (x7.Key == p1) = true then (if fits 24 (a3_3.length + 1) then (reredosref_withItem_L1 p0 p1 p2 k2 n4 true (a3_2 + 1) (a3_3 ++ [(Item.mk p1 p2 (IntKind.i64.wrap (x7.Version + 1)))])) else none) else (if (decide (x7.Key > p1)) = true then (withK (fun (b12_1 : Bool) (b12_2 : List Item) => (if fits 24 (b12_2.length + 1) then (reredosref_withItem_L1 p0 p1 p2 k2 n4 true (a3_2 + 1) (b12_2 ++ [x7])) else none)) fun k13 => (if (!a3_1) = true then (if fits 24 (a3_3.length + 1) then (k13 true (a3_3 ++ [(Item.mk p1 p2 1)])) else none) else (k13 false a3_3))) else (withK (if fits 24 (a3_3.length + 1) then (reredosref_withItem_L1 p0 p1 p2 k2 n4 a3_1 (a3_2 + 1) (a3_3 ++ [x7])) else none) fun k19 => k19)))) else (k2 a3_1 a3_3))
def reredosref_withItem (p0 : List Item) (p1 : Int) (p2 : Int) : Option ((List Item)) := (withK (fun (b1_1 : Bool) (b1_2 : List Item) => (withK (fun (b22_1 : List Item) => (some b22_1)) fun k23 => (if (!b1_1) = true then (if fits 24 (b1_2.length + 1) then (k23 (b1_2 ++ [(Item.mk p1 p2 1)])) else none) else (k23 b1_2)))) fun k2 => (reredosref_withItem_L1 p0 p1 p2 k2 (p0.length + 1) false 0 []))
def F101 : VFn := ⟨68, (.seq (.reg [vo 6 (.mv (.c (.one (.nl 3))))]) (.seq (.reg [vo 7 (.mv (.c (.one (.nl 3))))]) (.seq (.reg [vo 8 (.mv (cb false))]) (.seq (.seq (.reg [mi 9 0]) (.wk (.block 0 (.loop (.seq (.seq (.reg [vm 10 9, vm 11 0, ln 12 11, bt 13 .lss 10 12]) (.cond (.t 13) .skip (.exit 0))) (.seq (.block 1 (.seq (.seq (.reg [vm 16 0, vm 17 9, xa 18 3 16 17, vf 19 0 18, vs 20 19, vm 21 1, bt 22 .eql 20 21]) (.cond (.t 22) (.seq (.reg [vm 23 7, vm 24 1, vm 25 2, vm 26 0, vm 27 9, xa 28 3 26 27, vf 29 2 28, vs 30 29, bk 31 .add 30 1, vo 32 (.build [(zi 0), (zi 0), (zi 0)] [(0, 1, (.t 24)), (1, 1, (.t 25)), (2, 1, (.t 31))]), vo 33 (.bsl 3 1 [(zi 0), (zi 0), (zi 0)] [(0, (.t 32))]), vo 34 (.app 3 24 (.t 23) (.t 33)), vm 7 34]) (.seq (.reg [vo 8 (.mv (cb true))]) (.exit 1))) .skip)) (.seq (.seq (.reg [vm 35 0, vm 36 9, xa 37 3 35 36, vf 38 0 37, vs 39 38, vm 40 1, bt 41 .gtr 39 40, vm 42 41, gt 43 42 (.mv (.t 8)), gt 44 42 (.un .not (.t 43)), vo 45 (.pick (.t 42) (.t 44) (cb false))]) (.wk (.cond (.t 45) (.seq (.reg [vm 46 7, vm 47 1, vm 48 2, vo 49 (.build [(zi 0), (zi 0), (zi 0)] [(0, 1, (.t 47)), (1, 1, (.t 48)), (2, 1, (ci 1))]), vo 50 (.bsl 3 1 [(zi 0), (zi 0), (zi 0)] [(0, (.t 49))]), vo 51 (.app 3 24 (.t 46) (.t 50)), vm 7 51]) (.reg [vo 8 (.mv (cb true))])) .skip))) (.reg [vm 52 7, vm 53 0, vm 54 9, xa 55 3 53 54, vl 56 3 55, vo 57 (.bsl 3 1 [(zi 0), (zi 0), (zi 0)] [(0, (.t 56))]), vo 58 (.app 3 24 (.t 52) (.t 57)), vm 7 58])))) (.reg [vm 14 9, bk 15 .add 14 1, vm 9 15]))))))) (.seq (.seq (.reg [vm 59 8, nt 60 59]) (.wk (.cond (.t 60) (.reg [vm 61 7, vm 62 1, vm 63 2, vo 64 (.build [(zi 0), (zi 0), (zi 0)] [(0, 1, (.t 62)), (1, 1, (.t 63)), (2, 1, (ci 1))]), vo 65 (.bsl 3 1 [(zi 0), (zi 0), (zi 0)] [(0, (.t 64))]), vo 66 (.app 3 24 (.t 61) (.t 65)), vm 7 66]) .skip))) (.seq (.reg [vm 67 7, vm 6 67]) .ret)))))), [.t 6]⟩
theorem low101 : lowF Tryd.prog 101 = some F101.strip := by kernel_rfl
theorem fok101 : fOk Tryd.prog 101 = true := by kernel_rfl
theorem reredosref_withItem_ok (p0 : List Item) (p1 : Int) (p2 : Int) (r : (List Item)) (h : reredosref_withItem p0 p1 p2 = some r) : FnRO Tryd.prog G 101 [.one (.d (.l 3 (p0.map Item.enc))), .one (.d (.i .i64 p1)), .one (.d (.i .i64 p2))] (fun rs => rs = [.one (.o 3 (r.map Item.enc))]) := by
 refine FnRO.of' low101 fok101 (by simp [F101]) ?_
 rw [reredosref_withItem] at h
 replace h := Hd.mk h
 simp only [F101, go_sem]
 try simp only [*, go_sem]
 refine jn2 h (fun b1_1 b1_2 => [zI 1 p1, zI 2 p2, zR 7 0 0 b1_2.length, zB 8 b1_1]) (fun b1_1 b1_2 => [oa 3 (b1_2.map Item.enc)]) (fun k2 h => ?_) (fun b1_1 b1_2 h => ?_)
 try simp only [*, go_sem]
 refine lp3 (reredosref_withItem_L1 p0 p1 p2 k2) (fun a3_1 a3_2 a3_3 => [zL 0 3 (p0.map Item.enc), zI 1 p1, zI 2 p2, zR 7 0 0 a3_3.length, zB 8 a3_1, zI 9 ((a3_2 : Nat) : Int)]) (fun a3_1 a3_2 a3_3 => [oa 3 (a3_3.map Item.enc)]) h [] [none] (fun n4 a3_1 a3_2 a3_3 h => ?_) (by intros; rw [reredosref_withItem_L1])
 rw [reredosref_withItem_L1] at h
 try simp only [*, go_sem]
 intro hl5
 refine oi h (fun hb6 h => ?_) (fun hb6 h => ?_)
 have := of_decide_eq_true hb6
 refine obg h (fun x7 _ hkx7 h => ?_)
 refine oi h (fun hb8 h => ?_) (fun hb8 h => ?_)
 refine ck h (fun _ h => ?_)
 have := wrap_succ_max hkx7 hl5
 try simp only [*, go_sem]
 exact lc (true, a3_2 + 1, (a3_3 ++ [(Item.mk p1 p2 (IntKind.i64.wrap (x7.Version + 1)))])) h.e [some 2]
 refine oi h (fun hb11 h => ?_) (fun hb11 h => ?_)
 try simp only [*, go_sem]
 refine jn2 h (fun b12_1 b12_2 => [zL 0 3 (p0.map Item.enc), zI 1 p1, zI 2 p2, zR 7 0 0 b12_2.length, zB 8 true, zI 9 ((a3_2 : Nat) : Int), zB 43 a3_1, zB 44 b12_1]) (fun b12_1 b12_2 => [oa 3 (b12_2.map Item.enc)]) (fun k13 h => ?_) (fun b12_1 b12_2 h => ?_)
 refine oin h (fun hb14 hkhb14 h => ?_) (fun hb14 hkhb14 h => ?_)
 refine ck h (fun _ h => ?_)
 try simp only [*, go_sem]
 exact jc (true, (a3_3 ++ [(Item.mk p1 p2 1)])) h.e [some 2]
 try simp only [*, go_sem]
 exact jc (false, a3_3) h.e [some 0]
 refine ck h (fun _ h => ?_)
 have := wrap_succ_max hkx7 hl5
 try simp only [*, go_sem]
 exact lc (true, a3_2 + 1, (b12_2 ++ [x7])) h.e [some 2]
 try simp only [*, go_sem]
 refine jn0 h ([zL 0 3 (p0.map Item.enc), zI 1 p1, zI 2 p2, zR 7 0 0 a3_3.length, zB 8 a3_1, zI 9 ((a3_2 : Nat) : Int)]) ([oa 3 (a3_3.map Item.enc)]) (fun k19 h => ?_) (fun h => ?_)
 try simp only [*, go_sem]
 exact jc () h.e [some 0]
 refine ck h (fun _ h => ?_)
 have := wrap_succ_max hkx7 hl5
 try simp only [*, go_sem]
 exact lc (a3_1, a3_2 + 1, (a3_3 ++ [x7])) h.e [some 2]
 try simp only [*, go_sem]
 exact jc (a3_1, a3_3) h.e [some 0]
 try simp only [*, go_sem]
 refine jn1 h (fun b22_1 => [zR 7 0 0 b22_1.length]) (fun b22_1 => [oa 3 (b22_1.map Item.enc)]) (fun k23 h => ?_) (fun b22_1 h => ?_)
 refine oin h (fun hb24 hkhb24 h => ?_) (fun hb24 hkhb24 h => ?_)
 refine ck h (fun _ h => ?_)
 try simp only [*, go_sem]
 exact jc ((b1_2 ++ [(Item.mk p1 p2 1)])) h.e [some 2]
 try simp only [*, go_sem]
 exact jc (b1_2) h.e [some 0]
 cases h.e
 simp only [*, go_sem, mA, mS]
def reredosref_EndOf_L1 (p1 : Txn) (p2 : Bool) (v3 : Store) (k10 : (List Item) → (List Lock) → Option (Store × Int)) : Nat → Nat → (List Item) → (List Lock) → Option (Store × Int)
 | 0, _, _, _ => none
 | n12 + 1, a11_1, a11_2, a11_3 => (if (decide (a11_1 < v3.Locks.length)) = true then (Option.bind (v3.Locks[a11_1]?) fun x15 => (withK (fun (b16_1 : List Item) (b16_2 : List Lock) => (reredosref_EndOf_L1 p1 p2 v3 k10 n12 (a11_1 + 1) b16_1 b16_2)) fun k17 => (if (!((x15.Txn.Site == p1.Site) && (x15.Txn.N == p1.N))) = true then (if fits 48 (a11_3.length + 1) then (k17 a11_2 (a11_3 ++ [x15])) else none) else (if x15.Write = true then (withK (fun (b21_1 : List Item) => (k17 b21_1 a11_3)) fun k22 => (if p2 = true then (Option.bind (reredosref_withItem a11_2 x15.Key x15.Value) fun v24 => (k22 v24)) else (k22 a11_2))) else (withK (k17 a11_2 a11_3) fun k26 => k26))))) else (k10 a11_2 a11_3))
def reredosref_EndOf_L2 (p1 : Txn) (v3 : Store) (k29 : (List Doubt) → Option (Store × Int)) : Nat → Nat → (List Doubt) → Option (Store × Int)
 | 0, _, _ => none
 | n31 + 1, a30_1, a30_2 => (if (decide (a30_1 < v3.Doubts.length)) = true then (Option.bind (v3.Doubts[a30_1]?) fun x34 => (withK (fun (b35_1 : List Doubt) => (reredosref_EndOf_L2 p1 v3 k29 n31 (a30_1 + 1) b35_1)) fun k36 => (if (!((x34.Txn.Site == p1.Site) && (x34.Txn.N == p1.N))) = true then (if fits 24 (a30_2.length + 1) then (k36 (a30_2 ++ [x34])) else none) else (k36 a30_2)))) else (k29 a30_2))
def reredosref_EndOf (p0 : Store) (p1 : Txn) (p2 : Bool) : Option (Store × Int) := (Option.bind (reredosref_askFault p0 p1 0) fun v1 => (if (v1 != 0) = true then (some ((Store.mk [] [] [] []), v1)) else (Option.bind (reredosref_StoreCopy p0) fun v3 => (Option.bind (reredosref_isOver p0 p1) fun v4 => (withK (fun (b5_1 : List Txn) => (withK (fun (b9_1 : List Item) (b9_2 : List Lock) => (withK (fun (b28_1 : List Doubt) => (some ((Store.mk b9_1 b9_2 b28_1 b5_1), 0))) fun k29 => (reredosref_EndOf_L2 p1 v3 k29 (v3.Doubts.length + 1) 0 []))) fun k10 => (reredosref_EndOf_L1 p1 p2 v3 k10 (v3.Locks.length + 1) 0 v3.Items []))) fun k6 => (if (!v4) = true then (if fits 16 (v3.Over.length + 1) then (k6 (v3.Over ++ [p1])) else none) else (k6 v3.Over)))))))
def F40 : VFn := ⟨113, (.seq (.reg [vo 3 (.boxk 4 (.t 0)), vo 4 (.boxk 2 (.t 1)), vo 6 (.alloc [(.nl 3), (.nl 6), (.nl 3), (.nl 2)]), mi 7 0]) (.seq (.reg [vl 13 4 3, vl 14 2 4, vo 15 (.call 95 [(.t 13), (.t 14), (ci 0)]), vm 8 15]) (.seq (.seq (.reg [vm 16 8, bk 17 .neq 16 0]) (.cond (.t 17) (.seq (.reg [vo 18 (.build [(.nl 3), (.nl 6), (.nl 3), (.nl 2)] []), vm 19 8, vu (.st 4 (.t 6) (.t 18)), vm 7 19]) .ret) .skip)) (.seq (.reg [vl 20 4 3, vo 21 (.call 34 [(.t 20)]), vo 9 (.alloc [(.nl 3), (.nl 6), (.nl 3), (.nl 2)]), vu (.st 4 (.t 9) (.t 21))]) (.seq (.reg [vf 22 0 9, vs 23 22, vf 24 3 9, vs 25 24, vo 26 (.build [(.nl 3), (.nl 6), (.nl 3), (.nl 2)] [(0, 1, (.t 23)), (3, 1, (.t 25))]), vo 10 (.alloc [(.nl 3), (.nl 6), (.nl 3), (.nl 2)]), vu (.st 4 (.t 10) (.t 26))]) (.seq (.seq (.reg [vl 27 4 3, vl 28 2 4, vo 29 (.call 99 [(.t 27), (.t 28)]), nt 30 29]) (.wk (.cond (.t 30) (.reg [vf 31 3 10, vs 32 31, vl 33 2 4, vo 34 (.bsl 2 1 [(zi 0), (zi 0)] [(0, (.t 33))]), vo 35 (.app 2 16 (.t 32) (.t 34)), vf 36 3 10, vu (.st 1 (.t 36) (.t 35))]) .skip))) (.seq (.seq (.reg [mi 11 0]) (.wk (.block 0 (.loop (.seq (.seq (.reg [vm 37 11, vf 38 1 9, vs 39 38, ln 40 39, bt 41 .lss 37 40]) (.cond (.t 41) .skip (.exit 0))) (.seq (.block 1 (.seq (.draw [vd (vf 44 1 9) 0, vd (vs 45 44) 1, vd (vm 46 11) 0, vd (xa 47 6 45 46) 7, vd (vf 48 0 47) 15, vd (vl 49 2 48) 31, vd (vl 50 2 4) 0, vd (vo 51 (.eqs true [.i, .i] (.t 49) (.t 50))) 127]) (.wk (.cond (.t 51) (.draw [vd (vf 52 1 10) 0, vd (vs 53 52) 1, vd (vf 54 1 9) 0, vd (vs 55 54) 4, vd (vm 56 11) 0, vd (xa 57 6 55 56) 28, vd (vl 58 6 57) 60, vd (vo 59 (.bsl 6 1 [(zi 0), (zi 0), (zi 0), (.d (.b false)), (zi 0), (zi 0)] [(0, (.t 58))])) 124, vd (vo 60 (.app 6 48 (.t 53) (.t 59))) 255, vd (vf 61 1 10) 511, vd (vu (.st 1 (.t 61) (.t 60))) 1023]) (.seq (.reg [vf 62 1 9, vs 63 62, vm 64 11, xa 65 6 63 64, vf 66 3 65, vs 67 66, vm 68 67, gt 69 68 (.mv (.t 2)), vo 70 (.pick (.t 68) (.t 69) (cb false))]) (.wk (.cond (.t 70) (.draw [vd (vf 71 0 10) 0, vd (vs 72 71) 1, vd (vf 73 1 9) 0, vd (vs 74 73) 4, vd (vm 75 11) 0, vd (xa 76 6 74 75) 28, vd (vf 77 2 76) 60, vd (vs 78 77) 124, vd (vf 79 1 9) 0, vd (vs 80 79) 256, vd (vm 81 11) 0, vd (xa 82 6 80 81) 1792, vd (vf 83 4 82) 3840, vd (vs 84 83) 7936, vd (vo 85 (.call 101 [(.t 72), (.t 78), (.t 84)])) 0x3fff, vd (vf 86 0 10) 0x7fff, vd (vu (.st 1 (.t 86) (.t 85))) 0xffff]) .skip))))))) (.reg [vm 42 11, bk 43 .add 42 1, vm 11 43]))))))) (.seq (.seq (.reg [mi 12 0]) (.wk (.block 2 (.loop (.seq (.seq (.reg [vm 87 12, vf 88 2 9, vs 89 88, ln 90 89, bt 91 .lss 87 90]) (.cond (.t 91) .skip (.exit 2))) (.seq (.block 3 (.seq (.draw [vd (vf 94 2 9) 0, vd (vs 95 94) 1, vd (vm 96 12) 0, vd (xa 97 3 95 96) 7, vd (vf 98 0 97) 15, vd (vl 99 2 98) 31, vd (vl 100 2 4) 0, vd (vo 101 (.eqs true [.i, .i] (.t 99) (.t 100))) 127]) (.wk (.cond (.t 101) (.draw [vd (vf 102 2 10) 0, vd (vs 103 102) 1, vd (vf 104 2 9) 0, vd (vs 105 104) 4, vd (vm 106 12) 0, vd (xa 107 3 105 106) 28, vd (vl 108 3 107) 60, vd (vo 109 (.bsl 3 1 [(zi 0), (zi 0), (zi 0)] [(0, (.t 108))])) 124, vd (vo 110 (.app 3 24 (.t 103) (.t 109))) 255, vd (vf 111 2 10) 511, vd (vu (.st 1 (.t 111) (.t 110))) 1023]) .skip)))) (.reg [vm 92 12, bk 93 .add 92 1, vm 12 93]))))))) (.seq (.reg [vl 112 4 10, vu (.st 4 (.t 6) (.t 112)), mi 7 0]) .ret))))))))), [.cell 6 true 4, .t 7]⟩
theorem low40 : lowF Tryd.prog 40 = some F40.strip := by kernel_rfl
theorem fok40 : fOk Tryd.prog 40 = true := by kernel_rfl
theorem reredosref_EndOf_ok (p0 : Store) (p1 : Txn) (p2 : Bool) (r : Store × Int) (h : reredosref_EndOf p0 p1 p2 = some r) : FnRO Tryd.prog G 40 [.agg p0.bx, .agg p1.bx, .one (.d (.b p2))] (fun rs => rs = [.agg (r.1.encO), .one (.i .i64 r.2)]) := by
 refine FnRO.of' low40 fok40 (by simp [F40]) ?_
 rw [reredosref_EndOf] at h
 replace h := Hd.mk h
 simp only [F40, go_sem]
 try simp only [*, go_sem]
 refine cr h (reredosref_askFault_ok G p0 p1 0) (fun v1 h => ?_)
 refine oi h (fun hb2 h => ?_) (fun hb2 h => ?_)
 cases h.e
 simp only [*, go_sem, mA, mS]
 try simp only [*, go_sem]
 refine cr h (reredosref_StoreCopy_ok G p0) (fun v3 h => ?_)
 try simp only [*, go_sem]
 refine cr h (reredosref_isOver_ok G p0 p1) (fun v4 h => ?_)
 try simp only [*, go_sem]
 refine jn1 h (fun b5_1 => [zB 2 p2, zK 4 (Txn.enc p1), zP 6 0, zP 9 1, zP 10 2]) (fun b5_1 => [ox [.nl 3, .nl 6, .nl 3, .nl 2], ox [.r 3 0 v3.Items.length, .r 4 0 v3.Locks.length, .r 5 0 v3.Doubts.length, .dead], ox [.r 3 0 v3.Items.length, .nl 6, .nl 3, .r 6 0 b5_1.length], oa 3 (v3.Items.map Item.enc), oa 6 (v3.Locks.map Lock.enc), oa 3 (v3.Doubts.map Doubt.enc), oa 2 (b5_1.map Txn.enc)]) (fun k6 h => ?_) (fun b5_1 h => ?_)
 refine oin h (fun hb7 hkhb7 h => ?_) (fun hb7 hkhb7 h => ?_)
 refine ck h (fun _ h => ?_)
 try simp only [*, go_sem]
 exact jc ((v3.Over ++ [p1])) h.e [some 0, some 5, some 6, some 1, some 2, some 3, some 8]
 try simp only [*, go_sem]
 exact jc (v3.Over) h.e [some 0, some 5, some 6, some 1, some 2, some 3, some 4]
 try simp only [*, go_sem]
 refine jn2 h (fun b9_1 b9_2 => [zK 4 (Txn.enc p1), zP 6 0, zP 9 1, zP 10 2]) (fun b9_1 b9_2 => [ox [.nl 3, .nl 6, .nl 3, .nl 2], ox [.dead, .r 3 0 v3.Locks.length, .r 4 0 v3.Doubts.length, .dead], ox [.r 5 0 b9_1.length, .r 6 0 b9_2.length, .nl 3, .r 7 0 b5_1.length], oa 6 (v3.Locks.map Lock.enc), oa 3 (v3.Doubts.map Doubt.enc), oa 3 (b9_1.map Item.enc), oa 6 (b9_2.map Lock.enc), oa 2 (b5_1.map Txn.enc)]) (fun k10 h => ?_) (fun b9_1 b9_2 h => ?_)
 try simp only [*, go_sem]
 refine lp3 (reredosref_EndOf_L1 p1 p2 v3 k10) (fun a11_1 a11_2 a11_3 => [zB 2 p2, zK 4 (Txn.enc p1), zP 6 0, zP 9 1, zP 10 2, zI 11 ((a11_1 : Nat) : Int)]) (fun a11_1 a11_2 a11_3 => [ox [.nl 3, .nl 6, .nl 3, .nl 2], ox [.dead, .r 3 0 v3.Locks.length, .r 4 0 v3.Doubts.length, .dead], ox [.r 5 0 a11_2.length, .r 6 0 a11_3.length, .nl 3, .r 7 0 b5_1.length], oa 6 (v3.Locks.map Lock.enc), oa 3 (v3.Doubts.map Doubt.enc), oa 3 (a11_2.map Item.enc), oa 6 (a11_3.map Lock.enc), oa 2 (b5_1.map Txn.enc)]) h [] [some 0, some 1, some 2, some 4, some 5, some 3, none, some 6] (fun n12 a11_1 a11_2 a11_3 h => ?_) (by intros; rw [reredosref_EndOf_L1])
 rw [reredosref_EndOf_L1] at h
 try simp only [*, go_sem]
 intro hl13
 refine oi h (fun hb14 h => ?_) (fun hb14 h => ?_)
 have := of_decide_eq_true hb14
 refine obg h (fun x15 _ hkx15 h => ?_)
 try simp only [*, go_sem]
 refine jn2 h (fun b16_1 b16_2 => [zB 2 p2, zK 4 (Txn.enc p1), zP 6 0, zP 9 1, zP 10 2, zI 11 ((a11_1 : Nat) : Int)]) (fun b16_1 b16_2 => [ox [.nl 3, .nl 6, .nl 3, .nl 2], ox [.dead, .r 3 0 v3.Locks.length, .r 4 0 v3.Doubts.length, .dead], ox [.r 5 0 b16_1.length, .r 6 0 b16_2.length, .nl 3, .r 7 0 b5_1.length], oa 6 (v3.Locks.map Lock.enc), oa 3 (v3.Doubts.map Doubt.enc), oa 3 (b16_1.map Item.enc), oa 6 (b16_2.map Lock.enc), oa 2 (b5_1.map Txn.enc)]) (fun k17 h => ?_) (fun b16_1 b16_2 h => ?_)
 refine oin h (fun hb18 hkhb18 h => ?_) (fun hb18 hkhb18 h => ?_)
 try simp only [*, go_sem]
 refine ck h (fun _ h => ?_)
 try simp only [*, go_sem]
 exact jc (a11_2, (a11_3 ++ [x15])) h.e [some 0, some 1, some 2, some 3, some 4, some 5, some 24, some 7]
 try simp only [*, go_sem]
 refine oi h (fun hb20 h => ?_) (fun hb20 h => ?_)
 try simp only [*, go_sem]
 refine jn1 h (fun b21_1 => [zB 2 p2, zK 4 (Txn.enc p1), zP 6 0, zP 9 1, zP 10 2, zI 11 ((a11_1 : Nat) : Int), zB 69 p2]) (fun b21_1 => [ox [.nl 3, .nl 6, .nl 3, .nl 2], ox [.dead, .r 3 0 v3.Locks.length, .r 4 0 v3.Doubts.length, .dead], ox [.r 5 0 b21_1.length, .r 6 0 a11_3.length, .nl 3, .r 7 0 b5_1.length], oa 6 (v3.Locks.map Lock.enc), oa 3 (v3.Doubts.map Doubt.enc), oa 3 (b21_1.map Item.enc), oa 6 (a11_3.map Lock.enc), oa 2 (b5_1.map Txn.enc)]) (fun k22 h => ?_) (fun b21_1 h => ?_)
 refine oi h (fun hb23 h => ?_) (fun hb23 h => ?_)
 refine obk h (fun v24 hv24 h => ?_)
 try simp only [*, go_sem]
 refine cdl (reredosref_withItem_ok G a11_2 x15.Key x15.Value v24 hv24) ?_
 try simp only [*, go_sem]
 exact jc (v24) h.e [some 0, some 1, some 2, some 3, some 4, some 30, some 6, some 7]
 try simp only [*, go_sem]
 exact jc (a11_2) h.e [some 0, some 1, some 2, some 3, some 4, some 5, some 6, some 7]
 try simp only [*, go_sem]
 exact jc (b21_1, a11_3) h.e [some 0, some 1, some 2, some 3, some 4, some 5, some 6, some 7]
 try simp only [*, go_sem]
 refine jn0 h ([zB 2 p2, zK 4 (Txn.enc p1), zP 6 0, zP 9 1, zP 10 2, zI 11 ((a11_1 : Nat) : Int)]) ([ox [.nl 3, .nl 6, .nl 3, .nl 2], ox [.dead, .r 3 0 v3.Locks.length, .r 4 0 v3.Doubts.length, .dead], ox [.r 5 0 a11_2.length, .r 6 0 a11_3.length, .nl 3, .r 7 0 b5_1.length], oa 6 (v3.Locks.map Lock.enc), oa 3 (v3.Doubts.map Doubt.enc), oa 3 (a11_2.map Item.enc), oa 6 (a11_3.map Lock.enc), oa 2 (b5_1.map Txn.enc)]) (fun k26 h => ?_) (fun h => ?_)
 try simp only [*, go_sem]
 exact jc () h.e [some 0, some 1, some 2, some 3, some 4, some 5, some 6, some 7]
 try simp only [*, go_sem]
 exact jc (a11_2, a11_3) h.e [some 0, some 1, some 2, some 3, some 4, some 5, some 6, some 7]
 have := wrap_succ_max hkx15 hl13
 try simp only [*, go_sem]
 exact lc (a11_1 + 1, b16_1, b16_2) h.e [some 0, some 1, some 2, some 3, some 4, some 5, some 6, some 7]
 try simp only [*, go_sem]
 exact jc (a11_2, a11_3) h.e [some 0, some 1, some 2, some 3, some 4, some 5, some 6, some 7]
 try simp only [*, go_sem]
 refine jn1 h (fun b28_1 => [zP 6 0, zP 10 1]) (fun b28_1 => [ox [.nl 3, .nl 6, .nl 3, .nl 2], ox [.r 2 0 b9_1.length, .r 3 0 b9_2.length, .r 4 0 b28_1.length, .r 5 0 b5_1.length], oa 3 (b9_1.map Item.enc), oa 6 (b9_2.map Lock.enc), oa 3 (b28_1.map Doubt.enc), oa 2 (b5_1.map Txn.enc)]) (fun k29 h => ?_) (fun b28_1 h => ?_)
 try simp only [*, go_sem]
 refine lp2 (reredosref_EndOf_L2 p1 v3 k29) (fun a30_1 a30_2 => [zK 4 (Txn.enc p1), zP 6 0, zP 9 1, zP 10 2, zI 12 ((a30_1 : Nat) : Int)]) (fun a30_1 a30_2 => [ox [.nl 3, .nl 6, .nl 3, .nl 2], ox [.dead, .r 3 0 v3.Locks.length, .r 4 0 v3.Doubts.length, .dead], ox [.r 5 0 b9_1.length, .r 6 0 b9_2.length, .r 7 0 a30_2.length, .r 8 0 b5_1.length], oa 6 (v3.Locks.map Lock.enc), oa 3 (v3.Doubts.map Doubt.enc), oa 3 (b9_1.map Item.enc), oa 6 (b9_2.map Lock.enc), oa 3 (a30_2.map Doubt.enc), oa 2 (b5_1.map Txn.enc)]) h [] [some 0, some 1, some 2, some 3, some 4, some 5, some 6, none, some 7] (fun n31 a30_1 a30_2 h => ?_) (by intros; rw [reredosref_EndOf_L2])
 rw [reredosref_EndOf_L2] at h
 try simp only [*, go_sem]
 intro hl32
 refine oi h (fun hb33 h => ?_) (fun hb33 h => ?_)
 have := of_decide_eq_true hb33
 refine obg h (fun x34 _ hkx34 h => ?_)
 try simp only [*, go_sem]
 refine jn1 h (fun b35_1 => [zK 4 (Txn.enc p1), zP 6 0, zP 9 1, zP 10 2, zI 12 ((a30_1 : Nat) : Int)]) (fun b35_1 => [ox [.nl 3, .nl 6, .nl 3, .nl 2], ox [.dead, .r 3 0 v3.Locks.length, .r 4 0 v3.Doubts.length, .dead], ox [.r 5 0 b9_1.length, .r 6 0 b9_2.length, .r 7 0 b35_1.length, .r 8 0 b5_1.length], oa 6 (v3.Locks.map Lock.enc), oa 3 (v3.Doubts.map Doubt.enc), oa 3 (b9_1.map Item.enc), oa 6 (b9_2.map Lock.enc), oa 3 (b35_1.map Doubt.enc), oa 2 (b5_1.map Txn.enc)]) (fun k36 h => ?_) (fun b35_1 h => ?_)
 refine oin h (fun hb37 hkhb37 h => ?_) (fun hb37 hkhb37 h => ?_)
 try simp only [*, go_sem]
 refine ck h (fun _ h => ?_)
 try simp only [*, go_sem]
 exact jc ((a30_2 ++ [x34])) h.e [some 0, some 1, some 2, some 3, some 4, some 5, some 6, some 25, some 8]
 try simp only [*, go_sem]
 try simp only [*, go_sem]
 exact jc (a30_2) h.e [some 0, some 1, some 2, some 3, some 4, some 5, some 6, some 7, some 8]
 have := wrap_succ_max hkx34 hl32
 try simp only [*, go_sem]
 exact lc (a30_1 + 1, b35_1) h.e [some 0, some 1, some 2, some 3, some 4, some 5, some 6, some 7, some 8]
 try simp only [*, go_sem]
 exact jc (a30_2) h.e [some 0, some 2, some 5, some 6, some 7, some 8]
 cases h.e
 simp only [*, go_sem, mA, mS]
end Go.V.Dec
