/- What Go's functions come to, as plain functions: part 3; no condition. -/
import Derived.Test.YtjklmaihcaelaaaG2
set_option linter.unusedVariables false
set_option linter.unusedSimpArgs false
namespace Go.V.Dec
open Go Go.Proofs
set_option maxRecDepth 100000
set_option maxHeartbeats 4000000
variable (G : Nat → Option (List D))
def reredosref_CalledOf_L1 (p0 : Config) (p2 : Int) (p5 : Call) (x30 : Job) (k50 : Int → (List Message) → Option (Turn × Int)) : Nat → Int → Nat → (List Message) → Option (Turn × Int)
 | 0, _, _, _ => none
 | n52 + 1, a51_1, a51_2, a51_3 => (if (decide (a51_2 < x30.Tasks.length)) = true then (Option.bind (x30.Tasks[a51_2]?) fun x55 => (withK (if p0.Sites = 0 then none else (Option.bind (reredosref_about p2 3 (x55.Key.tmod p0.Sites) p5.N) fun v63 => (if fits 96 (a51_3.length + 1) then (reredosref_CalledOf_L1 p0 p2 p5 x30 k50 n52 (IntKind.i64.wrap (a51_1 + 1)) (a51_2 + 1) (a51_3 ++ [(Message.mk v63.Kind v63.From v63.To v63.Txn x55.Label x55.Key v63.Value x55.Version v63.Ask v63.Yes v63.Code)])) else none))) fun k57 => (if x55.Write = true then (reredosref_CalledOf_L1 p0 p2 p5 x30 k50 n52 a51_1 (a51_2 + 1) a51_3) else (if x55.Sure = true then (reredosref_CalledOf_L1 p0 p2 p5 x30 k50 n52 a51_1 (a51_2 + 1) a51_3) else k57)))) else (k50 a51_1 a51_3))
def reredosref_CalledOf (p0 : Config) (p1 : Int) (p2 : Int) (p3 : Desk) (p4 : Int) (p5 : Call) : Option (Turn × Int) := (Option.bind (reredosref_deskFault p0 p1 p2 p3) fun v1 => (withK (fun (b2_1 : Int) => (if (b2_1 != 0) = true then (some ((Turn.mk (Desk.mk 0 []) [] [] [] 0 0), b2_1)) else (Option.bind (reredosref_DeskCopy p3) fun v8 => (if (p5.Kind == 1) = true then (withK (withK (if fits 80 (v8.Jobs.length + 1) then (withK (some ((Turn.mk (Desk.mk (IntKind.i64.wrap (p3.Next + 1)) (v8.Jobs ++ [(Job.mk p3.Next 1 [] [] 0 0)])) [] [(Record.mk 5 (Txn.mk p2 p3.Next) 0 0 0 false [])] [(Reply.mk p2 p5.Kind p3.Next 0 0 0)] 0 0), 0)) fun k23 => k23) else none) fun k20 => k20) fun k11 => (if (decide (((p3.Jobs.length : Nat) : Int) ≥ 6)) = true then (some ((Turn.mk v8 [] [] [(Reply.mk p2 p5.Kind 0 0 0 8)] 0 0), 0)) else (if (decide (p3.Next > 1048576)) = true then (some ((Turn.mk v8 [] [] [(Reply.mk p2 p5.Kind 0 0 0 8)] 0 0), 0)) else (if (decide (p4 < 600)) = true then (some ((Turn.mk v8 [] [] [(Reply.mk p2 p5.Kind 0 0 0 8)] 0 0), 0)) else k11)))) else (Option.bind (reredosref_callFault p0 p1 p3 p5) fun v26 => (if (v26 != 0) = true then (some ((Turn.mk v8 [] [] [(Reply.mk p2 p5.Kind p5.N p5.Key 0 v26)] 0 0), 0)) else (Option.bind (reredosref_jobAt p3 p5.N) fun v29 => (if 0 ≤ v29 then (Option.bind (v8.Jobs[v29.toNat]?) fun x30 => (withK (fun (b32_1 : Int) (b32_2 : List Job) (b32_3 : Int) (b32_4 : Int) (b32_5 : List Message) (b32_6 : List Record) (b32_7 : List Reply) => (some ((Turn.mk (Desk.mk b32_1 b32_2) b32_5 b32_6 b32_7 b32_3 b32_4), 0))) fun k33 => (if (p5.Kind == 2) = true then (if fits 56 (x30.Tasks.length + 1) then (if p0.Sites = 0 then none else (Option.bind (reredosref_about p2 1 (p5.Key.tmod p0.Sites) p5.N) fun v37 => (k33 v8.Next (v8.Jobs.set v29.toNat (Job.mk x30.N x30.State (x30.Tasks ++ [(Task.mk false p5.Label p5.Key 0 0 (IntKind.i64.wrap (x30.Asks + 1)) false false)]) x30.Asked (IntKind.i64.wrap (x30.Asks + 1)) 0)) 0 0 [(Message.mk v37.Kind v37.From v37.To v37.Txn p5.Label p5.Key v37.Value v37.Version (IntKind.i64.wrap (x30.Asks + 1)) v37.Yes v37.Code)] [] []))) else none) else (withK (fun (b39_1 : Int) (b39_2 : List Job) (b39_3 : Int) (b39_4 : Int) (b39_5 : List Message) (b39_6 : List Record) (b39_7 : List Reply) => (k33 b39_1 b39_2 b39_3 b39_4 b39_5 b39_6 b39_7)) fun k40 => (if (p5.Kind == 3) = true then (if fits 56 (x30.Tasks.length + 1) then (if p0.Sites = 0 then none else (Option.bind (reredosref_about p2 2 (p5.Key.tmod p0.Sites) p5.N) fun v44 => (k40 v8.Next (v8.Jobs.set v29.toNat (Job.mk x30.N x30.State (x30.Tasks ++ [(Task.mk true p1 p5.Key p5.Value 0 (IntKind.i64.wrap (x30.Asks + 1)) false false)]) x30.Asked (IntKind.i64.wrap (x30.Asks + 1)) 0)) 0 0 [(Message.mk v44.Kind v44.From v44.To v44.Txn v44.Label p5.Key p5.Value v44.Version (IntKind.i64.wrap (x30.Asks + 1)) v44.Yes v44.Code)] [] []))) else none) else (withK (fun (b46_1 : Int) (b46_2 : List Job) (b46_3 : Int) (b46_4 : Int) (b46_5 : List Message) (b46_6 : List Record) (b46_7 : List Reply) => (k40 b46_1 b46_2 b46_3 b46_4 b46_5 b46_6 b46_7)) fun k47 => (if (p5.Kind == 4) = true then (withK (fun (b49_1 : Int) (b49_2 : List Message) => (withK (fun (b66_1 : Int) (b66_2 : Int) => (withK (fun (b69_1 : Int) (b69_2 : List Job) (b69_3 : Int) (b69_4 : Int) (b69_5 : List Message) (b69_6 : List Record) (b69_7 : List Reply) => (k47 b69_1 b69_2 b69_3 b69_4 b69_5 b69_6 b69_7)) fun k70 => (if (b49_1 == 0) = true then (Option.bind (reredosref_committed p0 p1 p2 (Turn.mk (Desk.mk v8.Next (v8.Jobs.set v29.toNat (Job.mk x30.N b66_1 x30.Tasks x30.Asked x30.Asks b66_2))) b49_2 [] [] p5.N 0) v29) fun v72 => (k70 v72.Desk.Next v72.Desk.Jobs v72.Sure v72.Committed v72.Messages v72.Records v72.Replies)) else (k70 v8.Next (v8.Jobs.set v29.toNat (Job.mk x30.N b66_1 x30.Tasks x30.Asked x30.Asks b66_2)) p5.N 0 b49_2 [] [])))) fun k67 => (if (decide (b49_1 > 0)) = true then (k67 2 0) else (k67 x30.State x30.Age)))) fun k50 => (reredosref_CalledOf_L1 p0 p2 p5 x30 k50 (x30.Tasks.length + 1) 0 0 [])) else (Option.bind (reredosref_ended p0 p1 p2 (Turn.mk (Desk.mk v8.Next (v8.Jobs.set v29.toNat x30)) [] [] [] 0 0) v29) fun v73 => (if fits 48 (v73.Replies.length + 1) then (k47 v73.Desk.Next v73.Desk.Jobs v73.Sure v73.Committed v73.Messages v73.Records (v73.Replies ++ [(Reply.mk p2 5 p5.N 0 0 0)])) else none))))))))) else none)))))))) fun k3 => (if (v1 == 0) = true then (Option.bind (reredosref_In p5.Kind 1 5) fun v5 => (if (!v5) = true then (k3 3) else (k3 v1))) else (k3 v1))))
def F11 : VFn := ⟨322, (.seq (.reg [vo 6 (.box 3 (.t 0)), vo 9 (.box 2 (.t 3)), vo 11 (.boxk 5 (.t 5)), vo 12 (.alloc [(zi 0), (.nl 6), (.nl 12), (.nl 8), (.nl 6), (zi 0), (zi 0)]), mi 13 0]) (.seq (.reg [vl 25 3 6, vm 26 1, vm 27 2, vl 28 2 9, vo 29 (.call 17 [(.t 25), (.t 26), (.t 27), (.t 28)]), vm 14 29]) (.seq (.wk (.seq (.reg [vm 30 14, bk 31 .eql 30 0, vm 32 31, gt 33 32 (.fa 0 (.t 11)), gt 34 32 (.ld false 1 (.t 33)), gt 35 32 (.call 32 [(.t 34), (ci 1), (ci 5)]), gt 36 32 (.un .not (.t 35)), vo 37 (.pick (.t 32) (.t 36) (cb false))]) (.cond (.t 37) (.reg [mi 14 3]) .skip))) (.seq (.seq (.reg [vm 38 14, bk 39 .neq 38 0]) (.cond (.t 39) (.seq (.reg [vo 40 (.build [(zi 0), (.nl 6), (.nl 12), (.nl 8), (.nl 6), (zi 0), (zi 0)] []), vm 41 14, vu (.st 7 (.t 12) (.t 40)), vm 13 41]) .ret) .skip)) (.seq (.reg [vl 42 2 9, vo 43 (.call 5 [(.t 42)]), vo 44 (.build [(zi 0), (.nl 6), (.nl 12), (.nl 8), (.nl 6), (zi 0), (zi 0)] [(0, 2, (.t 43))]), vo 15 (.alloc [(zi 0), (.nl 6), (.nl 12), (.nl 8), (.nl 6), (zi 0), (zi 0)]), vu (.st 7 (.t 15) (.t 44))]) (.seq (.reg [vm 45 2, vf 46 0 11, vs 47 46, vo 48 (.build [(zi 0), (zi 0), (zi 0), (zi 0), (zi 0), (zi 0)] [(0, 1, (.t 45)), (1, 1, (.t 47))]), vo 16 (.alloc [(zi 0), (zi 0), (zi 0), (zi 0), (zi 0), (zi 0)]), vu (.st 6 (.t 16) (.t 48))]) (.seq (.seq (.reg [vf 49 0 11, vs 50 49, bk 51 .eql 50 1]) (.cond (.t 51) (.seq (.wk (.seq (.reg [vf 52 1 9, vs 53 52, ln 54 53, bk 55 .geq 54 6, vm 56 55, gf 57 56 (.fa 0 (.t 9)), gf 58 56 (.ld false 1 (.t 57)), gf 59 56 (.bin .i .gtr (.t 58) (ci 1048576)), vo 60 (.pick (.t 56) (cb true) (.t 59)), vm 61 60, gf 62 61 (.mv (.t 4)), gf 63 61 (.bin .i .lss (.t 62) (ci 600)), vo 64 (.pick (.t 61) (cb true) (.t 63))]) (.cond (.t 64) (.seq (.reg [vf 65 5 16, vu (.st 1 (.t 65) (ci 8))]) (.seq (.reg [vf 66 4 15, vs 67 66, vl 68 6 16, vo 69 (.bsl 6 1 [(zi 0), (zi 0), (zi 0), (zi 0), (zi 0), (zi 0)] [(0, (.t 68))]), vo 70 (.app 6 48 (.t 67) (.t 69)), vf 71 4 15, vu (.st 1 (.t 71) (.t 70))]) (.seq (.reg [vl 72 7 15, vu (.st 7 (.t 12) (.t 72)), mi 13 0]) .ret))) .skip))) (.seq (.reg [vf 73 0 9, vs 74 73, vf 75 2 16, vu (.st 1 (.t 75) (.t 74))]) (.seq (.reg [vf 76 0 9, vs 77 76, bk 78 .add 77 1, vf 79 0 15, vf 80 0 79, vu (.st 1 (.t 80) (.t 78))]) (.seq (.regs [[vf 81 0 15, vf 82 1 81, vs 83 82, vf 84 0 9, vs 85 84, vo 86 (.build [(zi 0), (zi 0), (.nl 8), (.nl 1), (zi 0), (zi 0)] [(0, 1, (.t 85)), (1, 1, (ci 1))])], [vo 87 (.bslw 6 1 [(zi 0), (zi 0), (.nl 8), (.nl 1), (zi 0), (zi 0)] [(0, (.t 86))]), vo 88 (.appw 6 80 (.t 83) (.t 87)), vf 89 0 15, vf 90 1 89, vu (.st 1 (.t 90) (.t 88))]]) (.seq (.regs [[vf 91 3 15, vs 92 91, vm 93 2, vf 94 0 9, vs 95 94, vo 96 (.build [(zi 0), (zi 0)] [(0, 1, (.t 93)), (1, 1, (.t 95))]), vo 97 (.build [(zi 0), (zi 0), (zi 0), (zi 0), (zi 0), (zi 0), (.d (.b false)), (.nl 1)] [(0, 1, (ci 5)), (1, 2, (.t 96))])], [vo 98 (.bsl 8 1 [(zi 0), (zi 0), (zi 0), (zi 0), (zi 0), (zi 0), (.d (.b false)), (.nl 1)] [(0, (.t 97))]), vo 99 (.app 8 80 (.t 92) (.t 98)), vf 100 3 15, vu (.st 1 (.t 100) (.t 99))]]) (.seq (.reg [vf 101 4 15, vs 102 101, vl 103 6 16, vo 104 (.bsl 6 1 [(zi 0), (zi 0), (zi 0), (zi 0), (zi 0), (zi 0)] [(0, (.t 103))]), vo 105 (.app 6 48 (.t 102) (.t 104)), vf 106 4 15, vu (.st 1 (.t 106) (.t 105))]) (.seq (.reg [vl 107 7 15, vu (.st 7 (.t 12) (.t 107)), mi 13 0]) .ret))))))) .skip)) (.seq (.reg [vl 108 3 6, vm 109 1, vl 110 2 9, vl 111 5 11, vo 112 (.call 33 [(.t 108), (.t 109), (.t 110), (.t 111)]), vm 14 112]) (.seq (.seq (.reg [vm 113 14, bk 114 .neq 113 0]) (.cond (.t 114) (.seq (.reg [vf 115 1 11, vs 116 115, vf 117 2 16, vu (.st 1 (.t 117) (.t 116))]) (.seq (.reg [vf 118 3 11, vs 119 118, vf 120 3 16, vu (.st 1 (.t 120) (.t 119))]) (.seq (.reg [vm 121 14, vf 122 5 16, vu (.st 1 (.t 122) (.t 121))]) (.seq (.reg [vf 123 4 15, vs 124 123, vl 125 6 16, vo 126 (.bsl 6 1 [(zi 0), (zi 0), (zi 0), (zi 0), (zi 0), (zi 0)] [(0, (.t 125))]), vo 127 (.app 6 48 (.t 124) (.t 126)), vf 128 4 15, vu (.st 1 (.t 128) (.t 127))]) (.seq (.reg [vl 129 7 15, vu (.st 7 (.t 12) (.t 129)), mi 13 0]) .ret))))) .skip)) (.seq (.reg [vl 130 2 9, vf 131 1 11, vs 132 131, vo 133 (.call 18 [(.t 130), (.t 132)]), vm 17 133]) (.seq (.gho (.reg [vf 134 0 15, vf 135 1 134, vs 136 135, vm 137 17, xa 138 6 136 137, vl 139 6 138, vo 18 (.alloc [(zi 0), (zi 0), (.nl 8), (.nl 1), (zi 0), (zi 0)]), vu (.st 6 (.t 18) (.t 139))])) (.seq (.seq (.reg [vf 140 0 11, vs 141 140]) (.block 0 (.seq (.reg [bk 157 .eql 141 2, vm 156 157]) (.wk (.cond (.t 156) (.seq (.reg [vf 158 4 18, vs 159 158, bk 160 .add 159 1, vf 161 4 18, vu (.st 1 (.t 161) (.t 160))]) (.seq (.reg [vf 162 2 18, vs 163 162, vf 164 2 11, vs 165 164, vf 166 3 11, vs 167 166, vf 168 4 18, vs 169 168, vo 170 (.build [(.d (.b false)), (zi 0), (zi 0), (zi 0), (zi 0), (zi 0), (.d (.b false)), (.d (.b false))] [(1, 1, (.t 165)), (2, 1, (.t 167)), (5, 1, (.t 169))]), vo 171 (.bsl 8 1 [(.d (.b false)), (zi 0), (zi 0), (zi 0), (zi 0), (zi 0), (.d (.b false)), (.d (.b false))] [(0, (.t 170))]), vo 172 (.app 8 56 (.t 163) (.t 171)), vf 173 2 18, vu (.st 1 (.t 173) (.t 172))]) (.seq (.reg [vf 174 5 18, vu (.st 1 (.t 174) (ci 0))]) (.seq (.reg [vf 175 0 15, vf 176 1 175, vs 177 176, vm 178 17, vl 179 6 18, xa 180 6 177 178, vu (.st 6 (.t 180) (.t 179))]) (.seq (.draw [vd (vm 181 2) 0, vd (vf 182 3 11) 0, vd (vs 183 182) 2, vd (vf 184 0 6) 0, vd (vs 185 184) 8, vd (bt 186 .rem 183 185) 30, vd (vf 187 1 11) 0, vd (vs 188 187) 64, vd (vo 189 (.call 34 [(.t 181), (ci 1), (.t 186), (.t 188)])) 255, ⟨vo 19 (.alloc [(zi 0), (zi 0), (zi 0), (zi 0), (zi 0), (zi 0), (zi 0), (zi 0), (zi 0), (zi 0), (.d (.b false)), (zi 0)]), 0, [8], none, []⟩, vd (vu (.st 12 (.t 19) (.t 189))) 1023]) (.seq (.reg [vf 190 2 11, vs 191 190, vf 192 5 19, vu (.st 1 (.t 192) (.t 191))]) (.seq (.reg [vf 193 3 11, vs 194 193, vf 195 6 19, vu (.st 1 (.t 195) (.t 194))]) (.seq (.reg [vf 196 4 18, vs 197 196, vf 198 9 19, vu (.st 1 (.t 198) (.t 197))]) (.reg [vf 199 2 15, vs 200 199, vl 201 12 19, vo 202 (.bsl 12 1 [(zi 0), (zi 0), (zi 0), (zi 0), (zi 0), (zi 0), (zi 0), (zi 0), (zi 0), (zi 0), (.d (.b false)), (zi 0)] [(0, (.t 201))]), vo 203 (.app 12 96 (.t 200) (.t 202)), vf 204 2 15, vu (.st 1 (.t 204) (.t 203))]))))))))) (.seq (.reg [bk 206 .eql 141 3, vm 205 206]) (.wk (.cond (.t 205) (.seq (.reg [vf 207 4 18, vs 208 207, bk 209 .add 208 1, vf 210 4 18, vu (.st 1 (.t 210) (.t 209))]) (.seq (.reg [vf 211 2 18, vs 212 211, vm 213 1, vf 214 3 11, vs 215 214, vf 216 4 11, vs 217 216, vf 218 4 18, vs 219 218, vo 220 (.build [(.d (.b false)), (zi 0), (zi 0), (zi 0), (zi 0), (zi 0), (.d (.b false)), (.d (.b false))] [(0, 1, (cb true)), (1, 1, (.t 213)), (2, 1, (.t 215)), (3, 1, (.t 217)), (5, 1, (.t 219))]), vo 221 (.bsl 8 1 [(.d (.b false)), (zi 0), (zi 0), (zi 0), (zi 0), (zi 0), (.d (.b false)), (.d (.b false))] [(0, (.t 220))]), vo 222 (.app 8 56 (.t 212) (.t 221)), vf 223 2 18, vu (.st 1 (.t 223) (.t 222))]) (.seq (.reg [vf 224 5 18, vu (.st 1 (.t 224) (ci 0))]) (.seq (.reg [vf 225 0 15, vf 226 1 225, vs 227 226, vm 228 17, vl 229 6 18, xa 230 6 227 228, vu (.st 6 (.t 230) (.t 229))]) (.seq (.draw [vd (vm 231 2) 0, vd (vf 232 3 11) 0, vd (vs 233 232) 2, vd (vf 234 0 6) 0, vd (vs 235 234) 8, vd (bt 236 .rem 233 235) 30, vd (vf 237 1 11) 0, vd (vs 238 237) 64, vd (vo 239 (.call 34 [(.t 231), (ci 2), (.t 236), (.t 238)])) 255, ⟨vo 20 (.alloc [(zi 0), (zi 0), (zi 0), (zi 0), (zi 0), (zi 0), (zi 0), (zi 0), (zi 0), (zi 0), (.d (.b false)), (zi 0)]), 0, [8], none, []⟩, vd (vu (.st 12 (.t 20) (.t 239))) 1023]) (.seq (.reg [vf 240 3 11, vs 241 240, vf 242 6 20, vu (.st 1 (.t 242) (.t 241))]) (.seq (.reg [vf 243 4 11, vs 244 243, vf 245 7 20, vu (.st 1 (.t 245) (.t 244))]) (.seq (.reg [vf 246 4 18, vs 247 246, vf 248 9 20, vu (.st 1 (.t 248) (.t 247))]) (.reg [vf 249 2 15, vs 250 249, vl 251 12 20, vo 252 (.bsl 12 1 [(zi 0), (zi 0), (zi 0), (zi 0), (zi 0), (zi 0), (zi 0), (zi 0), (zi 0), (zi 0), (.d (.b false)), (zi 0)] [(0, (.t 251))]), vo 253 (.app 12 96 (.t 250) (.t 252)), vf 254 2 15, vu (.st 1 (.t 254) (.t 253))]))))))))) (.seq (.reg [bk 256 .eql 141 4, vm 255 256]) (.wk (.cond (.t 255) (.seq (.reg [vf 257 1 11, vs 258 257, vf 259 5 15, vu (.st 1 (.t 259) (.t 258))]) (.seq (.reg [mi 21 0]) (.seq (.seq (.reg [mi 22 0]) (.wk (.block 1 (.loop (.seq (.seq (.reg [vm 260 22, vf 261 2 18, vs 262 261, ln 263 262, bt 264 .lss 260 263]) (.cond (.t 264) .skip (.exit 1))) (.seq (.block 2 (.seq (.reg [vf 267 2 18, vs 268 267, vm 269 22, xa 270 8 268 269, vl 271 8 270, vo 23 (.alloc [(.d (.b false)), (zi 0), (zi 0), (zi 0), (zi 0), (zi 0), (.d (.b false)), (.d (.b false))]), vu (.st 8 (.t 23) (.t 271))]) (.seq (.wk (.seq (.reg [vf 272 0 23, vs 273 272, vm 274 273, gf 275 274 (.fa 7 (.t 23)), gf 276 274 (.ld false 1 (.t 275)), vo 277 (.pick (.t 274) (cb true) (.t 276))]) (.cond (.t 277) (.exit 2) .skip))) (.seq (.reg [vm 278 21, bk 279 .add 278 1, vm 21 279]) (.seq (.draw [vd (vm 280 2) 0, vd (vf 281 2 23) 0, vd (vs 282 281) 2, vd (vf 283 0 6) 0, vd (vs 284 283) 8, vd (bt 285 .rem 282 284) 30, vd (vf 286 1 11) 0, vd (vs 287 286) 64, vd (vo 288 (.call 34 [(.t 280), (ci 3), (.t 285), (.t 287)])) 255, ⟨vo 24 (.alloc [(zi 0), (zi 0), (zi 0), (zi 0), (zi 0), (zi 0), (zi 0), (zi 0), (zi 0), (zi 0), (.d (.b false)), (zi 0)]), 0, [8], none, []⟩, vd (vu (.st 12 (.t 24) (.t 288))) 1023]) (.seq (.reg [vf 289 1 23, vs 290 289, vf 291 5 24, vu (.st 1 (.t 291) (.t 290))]) (.seq (.reg [vf 292 2 23, vs 293 292, vf 294 6 24, vu (.st 1 (.t 294) (.t 293))]) (.seq (.reg [vf 295 4 23, vs 296 295, vf 297 8 24, vu (.st 1 (.t 297) (.t 296))]) (.reg [vf 298 2 15, vs 299 298, vl 300 12 24, vo 301 (.bsl 12 1 [(zi 0), (zi 0), (zi 0), (zi 0), (zi 0), (zi 0), (zi 0), (zi 0), (zi 0), (zi 0), (.d (.b false)), (zi 0)] [(0, (.t 300))]), vo 302 (.app 12 96 (.t 299) (.t 301)), vf 303 2 15, vu (.st 1 (.t 303) (.t 302))]))))))))) (.reg [vm 265 22, bk 266 .add 265 1, vm 22 266]))))))) (.seq (.seq (.reg [vm 304 21, bk 305 .gtr 304 0]) (.wk (.cond (.t 305) (.seq (.reg [vf 306 1 18, vu (.st 1 (.t 306) (ci 2))]) (.reg [vf 307 5 18, vu (.st 1 (.t 307) (ci 0))])) .skip))) (.seq (.reg [vf 308 0 15, vf 309 1 308, vs 310 309, vm 311 17, vl 312 6 18, xa 313 6 310 311, vu (.st 6 (.t 313) (.t 312))]) (.seq (.reg [vm 314 21, bk 315 .eql 314 0]) (.wk (.cond (.t 315) (.gho (.reg [vl 316 3 6, vm 317 1, vm 318 2, vm 319 17, vo 320 (.call 35 [(.t 316), (.t 317), (.t 318), (.t 15), (.t 319)])])) .skip)))))))) (.seq (.gho (.reg [vl 142 3 6, vm 143 1, vm 144 2, vm 145 17, vo 146 (.call 20 [(.t 142), (.t 143), (.t 144), (.t 15), (.t 145)])])) (.reg [vf 147 4 15, vs 148 147, vm 149 2, vf 150 1 11, vs 151 150, vo 152 (.build [(zi 0), (zi 0), (zi 0), (zi 0), (zi 0), (zi 0)] [(0, 1, (.t 149)), (1, 1, (ci 5)), (2, 1, (.t 151))]), vo 153 (.bsl 6 1 [(zi 0), (zi 0), (zi 0), (zi 0), (zi 0), (zi 0)] [(0, (.t 152))]), vo 154 (.app 6 48 (.t 148) (.t 153)), vf 155 4 15, vu (.st 1 (.t 155) (.t 154))]))))))))))))) (.seq (.reg [vl 321 7 15, vu (.st 7 (.t 12) (.t 321)), mi 13 0]) .ret))))))))))))), [.cell 12 true 7, .t 13]⟩
theorem low11 : lowF Try.prog 11 = some F11.strip := by kernel_rfl
theorem fok11 : fOk Try.prog 11 = true := by kernel_rfl
theorem reredosref_CalledOf_ok (p0 : Config) (p1 : Int) (p2 : Int) (p3 : Desk) (p4 : Int) (p5 : Call) (r : Turn × Int) (h : reredosref_CalledOf p0 p1 p2 p3 p4 p5 = some r) : FnRO Try.prog G 11 [.agg p0.bx, .one (.d (.i .i64 p1)), .one (.d (.i .i64 p2)), .agg p3.bx, .one (.d (.i .i64 p4)), .agg p5.bx] (fun rs => rs = [.agg (r.1.enc), .one (.i .i64 r.2)]) := by
 refine FnRO.fz ?_ rfl
 refine FnRO.of' low11 fok11 (by simp [F11]) ?_
 rw [reredosref_CalledOf] at h
 replace h := Hd.mk h
 simp only [F11, go_sem]
 try simp only [*, go_sem]
 refine cr h (reredosref_deskFault_ok G p0 p1 p2 p3) (fun v1 h => ?_)
 try simp only [*, go_sem]
 refine jn1 h (fun b2_1 => [zI 1 p1, zI 2 p2, zI 4 p4, zP 6 0, zP 9 1, zK 11 (Call.enc p5), zP 12 2, zI 14 b2_1]) (fun b2_1 => [ox p0.bx, ox p3.bx, ox [zi 0, .nl 6, .nl 12, .nl 8, .nl 6, zi 0, zi 0]]) (fun k3 h => ?_) (fun b2_1 h => ?_)
 refine oi h (fun hb4 h => ?_) (fun hb4 h => ?_)
 try simp only [*, go_sem]
 refine cr h (reredosref_In_ok G p5.Kind 1 5) (fun v5 h => ?_)
 refine oin h (fun hb6 hkhb6 h => ?_) (fun hb6 hkhb6 h => ?_)
 try simp only [*, go_sem]
 exact jc (3) h.e [some 0, some 1, some 2]
 try simp only [*, go_sem]
 exact jc (v1) h.e [some 0, some 1, some 2]
 try simp only [*, go_sem]
 exact jc (v1) h.e [some 0, some 1, some 2]
 refine oi h (fun hb7 h => ?_) (fun hb7 h => ?_)
 cases h.e
 simp only [*, go_sem, mA, mS]
 try simp only [*, go_sem]
 refine cr h (reredosref_DeskCopy_ok G p3) (fun v8 h => ?_)
 refine oi h (fun hb9 h => ?_) (fun hb9 h => ?_)
 try simp only [*, go_sem]
 refine jn0 h ([zI 2 p2, zP 9 0, zP 12 1, zP 15 2, zP 16 3]) ([ox p3.bx, ox [zi 0, .nl 6, .nl 12, .nl 8, .nl 6, zi 0, zi 0], ox [zi v8.Next, .r 4 0 v8.Jobs.length, .nl 12, .nl 8, .nl 6, zi 0, zi 0], ox [zi p2, zi p5.Kind, zi 0, zi 0, zi 0, zi 0], ot 6 (v8.Jobs.map Job.encO)]) (fun k11 h => ?_) (fun h => ?_)
 try simp only [*, go_sem]
 intro hl12
 refine oi h (fun hb13 h => ?_) (fun hb13 h => ?_)
 have : fits 48 1 := by decide
 cases h.e
 simp only [*, go_sem, mA, mS]
 refine oi h (fun hb15 h => ?_) (fun hb15 h => ?_)
 have : fits 48 1 := by decide
 cases h.e
 simp only [*, go_sem, mA, mS]
 refine oi h (fun hb17 h => ?_) (fun hb17 h => ?_)
 have := of_decide_eq_true hb17
 have : fits 48 1 := by decide
 cases h.e
 simp only [*, go_sem, mA, mS]
 try simp only [*, go_sem]
 exact jc () h.e [some 1, some 2, some 4, some 5, some 3]
 try simp only [*, go_sem]
 refine rg0 h ([zI 2 p2, zP 9 0, zP 12 1, zP 15 2, zP 16 3, zR 83 4 0 v8.Jobs.length, (86, .agg [zi p3.Next, zi 1, .nl 8, .nl 1, zi 0, zi 0])]) ([ox p3.bx, ox [zi 0, .nl 6, .nl 12, .nl 8, .nl 6, zi 0, zi 0], ox [.d (.i .i64 (IntKind.i64.wrap (p3.Next + 1))), .r 4 0 v8.Jobs.length, .nl 12, .nl 8, .nl 6, zi 0, zi 0], ox [zi p2, zi p5.Kind, zi p3.Next, zi 0, zi 0, zi 0], ot 6 (v8.Jobs.map Job.encO)]) (fun k20 h => ?_) (fun h => ?_)
 try simp only [*, go_sem]
 exact jc () h.e [some 0, some 1, some 2, some 3, some 4]
 refine ck h (fun _ h => ?_)
 try simp only [*, go_sem]
 refine rg0 h ([zP 12 0, zP 15 1, zP 16 2, (92, .one (.nl 8)), (97, .agg [zi 5, zi p2, zi p3.Next, zi 0, zi 0, zi 0, .d (.b false), .nl 1])]) ([ox [zi 0, .nl 6, .nl 12, .nl 8, .nl 6, zi 0, zi 0], ox [.d (.i .i64 (IntKind.i64.wrap (p3.Next + 1))), .r 3 0 (v8.Jobs.length + 1), .nl 12, .nl 8, .nl 6, zi 0, zi 0], ox [zi p2, zi p5.Kind, zi p3.Next, zi 0, zi 0, zi 0], ot 6 ((v8.Jobs ++ [(Job.mk p3.Next 1 [] [] 0 0)]).map Job.encO)]) (fun k23 h => ?_) (fun h => ?_)
 try simp only [*, go_sem]
 exact jc () h.e [some 1, some 2, some 3, some 6]
 have : fits 80 1 := by decide
 have : fits 48 1 := by decide
 cases h.e
 simp only [*, go_sem, mA, mS]
 try simp only [*, go_sem]
 refine cr h (reredosref_callFault_ok G p0 p1 p3 p5) (fun v26 h => ?_)
 refine oi h (fun hb27 h => ?_) (fun hb27 h => ?_)
 have : fits 48 1 := by decide
 cases h.e
 simp only [*, go_sem, mA, mS]
 try simp only [*, go_sem]
 refine cr h (reredosref_jobAt_ok G p3 p5.N) (fun v29 h => ?_)
 refine obn h (fun x30 _ _ _ _ h => ?_)
 try simp only [*, go_sem]
 refine gho_lk _ G _ _ [.f 3 v29.toNat] ?_
 try simp only [*, go_sem]
 try simp only [*, go_sem]
 refine jn7 h (fun b32_1 b32_2 b32_3 b32_4 b32_5 b32_6 b32_7 => [zP 12 0, zP 15 1]) (fun b32_1 b32_2 b32_3 b32_4 b32_5 b32_6 b32_7 => [ox [zi 0, .nl 6, .nl 12, .nl 8, .nl 6, zi 0, zi 0], ox [zi b32_1, .d (.l 6 (b32_2.map Job.enc)), .r 2 0 b32_5.length, .r 3 0 b32_6.length, .r 4 0 b32_7.length, zi b32_3, zi b32_4], oa 12 (b32_5.map Message.enc), oa 8 (b32_6.map Record.enc), oa 6 (b32_7.map Reply.enc)]) (fun k33 h => ?_) (fun b32_1 b32_2 b32_3 b32_4 b32_5 b32_6 b32_7 h => ?_)
 refine oi h (fun hb34 h => ?_) (fun hb34 h => ?_)
 refine ck h (fun _ h => ?_)
 refine ckn h (fun _ h => ?_)
 refine obk h (fun v37 hv37 h => ?_)
 try simp only [*, go_sem]
 refine cd (reredosref_about_ok G p2 1 (p5.Key.tmod p0.Sites) p5.N v37 hv37) ?_
 have : fits 96 1 := by decide
 try simp only [*, go_sem]
 exact jf [.u 3, .z 3] (v8.Next, (v8.Jobs.set v29.toNat (Job.mk x30.N x30.State (x30.Tasks ++ [(Task.mk false p5.Label p5.Key 0 0 (IntKind.i64.wrap (x30.Asks + 1)) false false)]) x30.Asked (IntKind.i64.wrap (x30.Asks + 1)) 0)), 0, 0, [(Message.mk v37.Kind v37.From v37.To v37.Txn p5.Label p5.Key v37.Value v37.Version (IntKind.i64.wrap (x30.Asks + 1)) v37.Yes v37.Code)], [], []) h.e [some 2, some 4, some 23, none, none]
 try simp only [*, go_sem]
 refine jn7 h (fun b39_1 b39_2 b39_3 b39_4 b39_5 b39_6 b39_7 => [zP 12 0, zP 15 1]) (fun b39_1 b39_2 b39_3 b39_4 b39_5 b39_6 b39_7 => [ox [zi 0, .nl 6, .nl 12, .nl 8, .nl 6, zi 0, zi 0], ox [zi b39_1, .d (.l 6 (b39_2.map Job.enc)), .r 2 0 b39_5.length, .r 3 0 b39_6.length, .r 4 0 b39_7.length, zi b39_3, zi b39_4], oa 12 (b39_5.map Message.enc), oa 8 (b39_6.map Record.enc), oa 6 (b39_7.map Reply.enc)]) (fun k40 h => ?_) (fun b39_1 b39_2 b39_3 b39_4 b39_5 b39_6 b39_7 h => ?_)
 refine oi h (fun hb41 h => ?_) (fun hb41 h => ?_)
 refine ck h (fun _ h => ?_)
 refine ckn h (fun _ h => ?_)
 refine obk h (fun v44 hv44 h => ?_)
 try simp only [*, go_sem]
 refine cd (reredosref_about_ok G p2 2 (p5.Key.tmod p0.Sites) p5.N v44 hv44) ?_
 have : fits 96 1 := by decide
 try simp only [*, go_sem]
 exact jf [.u 3, .z 3] (v8.Next, (v8.Jobs.set v29.toNat (Job.mk x30.N x30.State (x30.Tasks ++ [(Task.mk true p1 p5.Key p5.Value 0 (IntKind.i64.wrap (x30.Asks + 1)) false false)]) x30.Asked (IntKind.i64.wrap (x30.Asks + 1)) 0)), 0, 0, [(Message.mk v44.Kind v44.From v44.To v44.Txn v44.Label p5.Key p5.Value v44.Version (IntKind.i64.wrap (x30.Asks + 1)) v44.Yes v44.Code)], [], []) h.e [some 2, some 4, some 23, none, none]
 try simp only [*, go_sem]
 refine jn7 h (fun b46_1 b46_2 b46_3 b46_4 b46_5 b46_6 b46_7 => [zP 12 0, zP 15 1]) (fun b46_1 b46_2 b46_3 b46_4 b46_5 b46_6 b46_7 => [ox [zi 0, .nl 6, .nl 12, .nl 8, .nl 6, zi 0, zi 0], ox [zi b46_1, .d (.l 6 (b46_2.map Job.enc)), .r 2 0 b46_5.length, .r 3 0 b46_6.length, .r 4 0 b46_7.length, zi b46_3, zi b46_4], oa 12 (b46_5.map Message.enc), oa 8 (b46_6.map Record.enc), oa 6 (b46_7.map Reply.enc)]) (fun k47 h => ?_) (fun b46_1 b46_2 b46_3 b46_4 b46_5 b46_6 b46_7 h => ?_)
 refine oi h (fun hb48 h => ?_) (fun hb48 h => ?_)
 try simp only [*, go_sem]
 refine jn2 h (fun b49_1 b49_2 => [zI 1 p1, zI 2 p2, zP 6 0, zP 12 1, zP 15 2, zI 17 v29, zP 18 3, zI 21 b49_1]) (fun b49_1 b49_2 => [ox p0.bx, ox [zi 0, .nl 6, .nl 12, .nl 8, .nl 6, zi 0, zi 0], ox [zi v8.Next, .r 4 0 v8.Jobs.length, .r 5 0 b49_2.length, .nl 8, .nl 6, zi p5.N, zi 0], ox [zi x30.N, zi x30.State, .r 6 0 x30.Tasks.length, .r 7 0 x30.Asked.length, zi x30.Asks, zi x30.Age], og 6 (v8.Jobs.map Job.encO) v29.toNat [zi x30.N, zi x30.State, .r 6 0 x30.Tasks.length, .r 7 0 x30.Asked.length, zi x30.Asks, zi x30.Age], oa 12 (b49_2.map Message.enc), oa 8 (x30.Tasks.map Task.enc), oa 1 (x30.Asked.map encI)]) (fun k50 h => ?_) (fun b49_1 b49_2 h => ?_)
 try simp only [*, go_sem]
 refine lp3 (reredosref_CalledOf_L1 p0 p2 p5 x30 k50) (fun a51_1 a51_2 a51_3 => [zI 1 p1, zI 2 p2, zP 6 0, zK 11 (Call.enc p5), zP 12 1, zP 15 2, zI 17 v29, zP 18 3, zI 21 a51_1, zI 22 ((a51_2 : Nat) : Int)]) (fun a51_1 a51_2 a51_3 => [ox p0.bx, ox [zi 0, .nl 6, .nl 12, .nl 8, .nl 6, zi 0, zi 0], ox [zi v8.Next, .r 4 0 v8.Jobs.length, .r 5 0 a51_3.length, .nl 8, .nl 6, zi p5.N, zi 0], ox [zi x30.N, zi x30.State, .r 6 0 x30.Tasks.length, .r 7 0 x30.Asked.length, zi x30.Asks, zi x30.Age], og 6 (v8.Jobs.map Job.encO) v29.toNat [zi x30.N, zi x30.State, .r 6 0 x30.Tasks.length, .r 7 0 x30.Asked.length, zi x30.Asks, zi x30.Age], oa 12 (a51_3.map Message.enc), oa 8 (x30.Tasks.map Task.enc), oa 1 (x30.Asked.map encI)]) h [] [some 0, some 2, some 4, some 8, some 3, none, some 6, some 7] (fun n52 a51_1 a51_2 a51_3 h => ?_) (by intros; rw [reredosref_CalledOf_L1])
 rw [reredosref_CalledOf_L1] at h
 try simp only [*, go_sem]
 intro hl53
 refine oi h (fun hb54 h => ?_) (fun hb54 h => ?_)
 have := of_decide_eq_true hb54
 refine obg h (fun x55 _ hkx55 h => ?_)
 try simp only [*, go_sem]
 refine jn0 h ([zI 1 p1, zI 2 p2, zP 6 0, zK 11 (Call.enc p5), zP 12 1, zP 15 2, zI 17 v29, zP 18 3, zI 21 a51_1, zI 22 ((a51_2 : Nat) : Int), zP 23 4, (275, .one (.p (.q 4 0 7))), zB 276 false]) ([ox p0.bx, ox [zi 0, .nl 6, .nl 12, .nl 8, .nl 6, zi 0, zi 0], ox [zi v8.Next, .r 5 0 v8.Jobs.length, .r 6 0 a51_3.length, .nl 8, .nl 6, zi p5.N, zi 0], ox [zi x30.N, zi x30.State, .r 7 0 x30.Tasks.length, .r 8 0 x30.Asked.length, zi x30.Asks, zi x30.Age], ox [.d (.b false), zi x55.Label, zi x55.Key, zi x55.Value, zi x55.Version, zi x55.Ask, .d (.b x55.Done), .d (.b false)], og 6 (v8.Jobs.map Job.encO) v29.toNat [zi x30.N, zi x30.State, .r 7 0 x30.Tasks.length, .r 8 0 x30.Asked.length, zi x30.Asks, zi x30.Age], oa 12 (a51_3.map Message.enc), oa 8 (x30.Tasks.map Task.enc), oa 1 (x30.Asked.map encI)]) (fun k57 h => ?_) (fun h => ?_)
 refine oi h (fun hb58 h => ?_) (fun hb58 h => ?_)
 have := wrap_succ_max hkx55 hl53
 try simp only [*, go_sem]
 exact lc (a51_1, a51_2 + 1, a51_3) h.e [some 0, some 1, some 2, some 3, some 4, some 5, some 6, some 7]
 refine oi h (fun hb60 h => ?_) (fun hb60 h => ?_)
 have := wrap_succ_max hkx55 hl53
 try simp only [*, go_sem]
 exact lc (a51_1, a51_2 + 1, a51_3) h.e [some 0, some 1, some 2, some 3, some 4, some 5, some 6, some 7]
 try simp only [*, go_sem]
 exact jc () h.e [some 0, some 1, some 2, some 3, some 8, some 4, some 5, some 6, some 7]
 refine ckn h (fun _ h => ?_)
 refine obk h (fun v63 hv63 h => ?_)
 try simp only [*, go_sem]
 refine cd (reredosref_about_ok G p2 3 (x55.Key.tmod p0.Sites) p5.N v63 hv63) ?_
 refine ck h (fun _ h => ?_)
 have := wrap_succ_max hkx55 hl53
 try simp only [*, go_sem]
 exact lc (IntKind.i64.wrap (a51_1 + 1), a51_2 + 1, (a51_3 ++ [(Message.mk v63.Kind v63.From v63.To v63.Txn x55.Label x55.Key v63.Value x55.Version v63.Ask v63.Yes v63.Code)])) h.e [some 0, some 1, some 2, some 3, some 5, some 21, some 7, some 8]
 try simp only [*, go_sem]
 exact jc (a51_1, a51_3) h.e [some 0, some 1, some 2, some 3, some 4, some 5, some 6, some 7]
 try simp only [*, go_sem]
 refine jn2 h (fun b66_1 b66_2 => [zI 1 p1, zI 2 p2, zP 6 0, zP 12 1, zP 15 2, zI 17 v29, zP 18 3, zI 21 b49_1]) (fun b66_1 b66_2 => [ox p0.bx, ox [zi 0, .nl 6, .nl 12, .nl 8, .nl 6, zi 0, zi 0], ox [zi v8.Next, .r 4 0 v8.Jobs.length, .r 5 0 b49_2.length, .nl 8, .nl 6, zi p5.N, zi 0], ox [zi x30.N, zi b66_1, .r 6 0 x30.Tasks.length, .r 7 0 x30.Asked.length, zi x30.Asks, zi b66_2], og 6 (v8.Jobs.map Job.encO) v29.toNat [zi x30.N, zi x30.State, .r 6 0 x30.Tasks.length, .r 7 0 x30.Asked.length, zi x30.Asks, zi x30.Age], oa 12 (b49_2.map Message.enc), oa 8 (x30.Tasks.map Task.enc), oa 1 (x30.Asked.map encI)]) (fun k67 h => ?_) (fun b66_1 b66_2 h => ?_)
 refine oi h (fun hb68 h => ?_) (fun hb68 h => ?_)
 try simp only [*, go_sem]
 exact jc (2, 0) h.e [some 0, some 1, some 2, some 3, some 4, some 5, some 6, some 7]
 try simp only [*, go_sem]
 exact jc (x30.State, x30.Age) h.e [some 0, some 1, some 2, some 3, some 4, some 5, some 6, some 7]
 try simp only [*, go_sem]
 refine jn7 h (fun b69_1 b69_2 b69_3 b69_4 b69_5 b69_6 b69_7 => [zP 12 0, zP 15 1]) (fun b69_1 b69_2 b69_3 b69_4 b69_5 b69_6 b69_7 => [ox [zi 0, .nl 6, .nl 12, .nl 8, .nl 6, zi 0, zi 0], ox [zi b69_1, .d (.l 6 (b69_2.map Job.enc)), .r 2 0 b69_5.length, .r 3 0 b69_6.length, .r 4 0 b69_7.length, zi b69_3, zi b69_4], oa 12 (b69_5.map Message.enc), oa 8 (b69_6.map Record.enc), oa 6 (b69_7.map Reply.enc)]) (fun k70 h => ?_) (fun b69_1 b69_2 b69_3 b69_4 b69_5 b69_6 b69_7 h => ?_)
 refine oi h (fun hb71 h => ?_) (fun hb71 h => ?_)
 try simp only [*, go_sem]
 refine gho_lk _ G _ _ [.u 4] ?_
 try simp only [*, go_sem]
 try simp only [*, go_sem]
 refine ct h 2 [] [0, 2] [4, 5] (reredosref_committed_ok G p0 p1 p2 (Turn.mk (Desk.mk v8.Next (v8.Jobs.set v29.toNat (Job.mk x30.N b66_1 x30.Tasks x30.Asked x30.Asks b66_2))) b49_2 [] [] p5.N 0) v29) (fun v72 h => ?_)
 try simp only [*, go_sem]
 exact jc (v72.Desk.Next, v72.Desk.Jobs, v72.Sure, v72.Committed, v72.Messages, v72.Records, v72.Replies) h.e [some 1, some 2, some 8, some 9, some 10]
 try simp only [*, go_sem]
 exact jf [.u 4, .z 4] (v8.Next, (v8.Jobs.set v29.toNat (Job.mk x30.N b66_1 x30.Tasks x30.Asked x30.Asks b66_2)), p5.N, 0, b49_2, [], []) h.e [some 1, some 2, some 5, none, none]
 try simp only [*, go_sem]
 exact jc (b69_1, b69_2, b69_3, b69_4, b69_5, b69_6, b69_7) h.e [some 0, some 1, some 2, some 3, some 4]
 try simp only [*, go_sem]
 refine gho_lk _ G _ _ [.u 3] ?_
 try simp only [*, go_sem]
 try simp only [*, go_sem]
 refine ct h 4 [] [0, 2] [3] (reredosref_ended_ok G p0 p1 p2 (Turn.mk (Desk.mk v8.Next (v8.Jobs.set v29.toNat x30)) [] [] [] 0 0) v29) (fun v73 h => ?_)
 refine ck h (fun _ h => ?_)
 try simp only [*, go_sem]
 exact jf [.z 9] (v73.Desk.Next, v73.Desk.Jobs, v73.Sure, v73.Committed, v73.Messages, v73.Records, (v73.Replies ++ [(Reply.mk p2 5 p5.N 0 0 0)])) h.e [some 2, some 4, some 10, some 11, some 14]
 try simp only [*, go_sem]
 exact jc (b46_1, b46_2, b46_3, b46_4, b46_5, b46_6, b46_7) h.e [some 0, some 1, some 2, some 3, some 4]
 try simp only [*, go_sem]
 exact jc (b39_1, b39_2, b39_3, b39_4, b39_5, b39_6, b39_7) h.e [some 0, some 1, some 2, some 3, some 4]
 cases h.e
 simp only [*, go_sem, mA, mS]
def reredoslaw_sameTasks_L1 (p0 : List Task) (p1 : List Task) (k5 : Option (Bool)) : Nat → Nat → Option (Bool)
 | 0, _ => none
 | n7 + 1, a6_1 => (if (decide (a6_1 < p0.length)) = true then (Option.bind (p0[a6_1]?) fun x10 => (Option.bind (p1[a6_1]?) fun x11 => (if (!((x10.Write == x11.Write) && ((x10.Label == x11.Label) && ((x10.Key == x11.Key) && ((x10.Value == x11.Value) && ((x10.Version == x11.Version) && ((x10.Ask == x11.Ask) && ((x10.Done == x11.Done) && (x10.Sure == x11.Sure))))))))) = true then (some false) else (reredoslaw_sameTasks_L1 p0 p1 k5 n7 (a6_1 + 1))))) else k5)
def reredoslaw_sameTasks (p0 : List Task) (p1 : List Task) : Option (Bool) := (if (((p0.length : Nat) : Int) != ((p1.length : Nat) : Int)) = true then (some false) else (withK (some true) fun k5 => (reredoslaw_sameTasks_L1 p0 p1 k5 (p0.length + 1) 0)))
def F24 : VFn := ⟨26, (.seq (.reg [vo 4 (.mv (cb false))]) (.seq (.seq (.reg [vm 6 0, ln 7 6, vm 8 1, ln 9 8, bt 10 .neq 7 9]) (.cond (.t 10) (.seq (.reg [vo 4 (.mv (cb false))]) .ret) .skip)) (.seq (.seq (.reg [mi 5 0]) (.wk (.block 0 (.loop (.seq (.seq (.reg [vm 11 5, vm 12 0, ln 13 12, bt 14 .lss 11 13]) (.cond (.t 14) .skip (.exit 0))) (.seq (.block 1 (.seq (.draw [vd (vm 17 0) 0, vd (vm 18 5) 0, vd (xa 19 8 17 18) 3, vd (vl 20 8 19) 7, vd (vm 21 1) 0, vd (vm 22 5) 0, vd (xa 23 8 21 22) 48, vd (vl 24 8 23) 112, vd (vo 25 (.eqs true [.b, .i, .i, .i, .i, .i, .b, .b] (.t 20) (.t 24))) 255]) (.cond (.t 25) (.seq (.reg [vo 4 (.mv (cb false))]) .ret) .skip))) (.reg [vm 15 5, bk 16 .add 15 1, vm 5 16]))))))) (.seq (.reg [vo 4 (.mv (cb true))]) .ret)))), [.t 4]⟩
theorem low24 : lowF Try.prog 24 = some F24.strip := by kernel_rfl
theorem fok24 : fOk Try.prog 24 = true := by kernel_rfl
theorem reredoslaw_sameTasks_ok (p0 : List Task) (p1 : List Task) (r : Bool) (h : reredoslaw_sameTasks p0 p1 = some r) : FnRO Try.prog G 24 [.one (.d (.l 8 (p0.map Task.enc))), .one (.d (.l 8 (p1.map Task.enc)))] (fun rs => rs = [.one (.b r)]) := by
 refine FnRO.of' low24 fok24 (by simp [F24]) ?_
 rw [reredoslaw_sameTasks] at h
 replace h := Hd.mk h
 simp only [F24, go_sem]
 try simp only [*, go_sem]
 intro hl1
 try simp only [*, go_sem]
 intro hl2
 refine oi h (fun hb3 h => ?_) (fun hb3 h => ?_)
 cases h.e
 simp only [*, go_sem, mA, mS]
 try simp only [*, go_sem]
 refine jn0 h ([]) ([]) (fun k5 h => ?_) (fun h => ?_)
 try simp only [*, go_sem]
 refine lp1 (reredoslaw_sameTasks_L1 p0 p1 k5) (fun a6_1 => [zL 0 8 (p0.map Task.enc), zL 1 8 (p1.map Task.enc), zI 5 ((a6_1 : Nat) : Int)]) (fun a6_1 => []) h [] [] (fun n7 a6_1 h => ?_) (by intros; rw [reredoslaw_sameTasks_L1])
 rw [reredoslaw_sameTasks_L1] at h
 try simp only [*, go_sem]
 intro hl8
 refine oi h (fun hb9 h => ?_) (fun hb9 h => ?_)
 have := of_decide_eq_true hb9
 refine obg h (fun x10 _ hkx10 h => ?_)
 refine obg h (fun x11 _ _ h => ?_)
 refine oin h (fun hb12 hkhb12 h => ?_) (fun hb12 hkhb12 h => ?_)
 try simp only [*, go_sem]
 cases h.e
 simp only [*, go_sem, mA, mS]
 try simp only [*, go_sem]
 have := wrap_succ_max hkx10 hl1
 try simp only [*, go_sem]
 exact lc (a6_1 + 1) h.e []
 try simp only [*, go_sem]
 exact jc () h.e []
 cases h.e
 simp only [*, go_sem, mA, mS]
def reredoslaw_sameInts_L1 (p0 : List Int) (p1 : List Int) (k5 : Option (Bool)) : Nat → Nat → Option (Bool)
 | 0, _ => none
 | n7 + 1, a6_1 => (if (decide (a6_1 < p0.length)) = true then (Option.bind (p0[a6_1]?) fun x10 => (Option.bind (p1[a6_1]?) fun x11 => (if (x10 != x11) = true then (some false) else (reredoslaw_sameInts_L1 p0 p1 k5 n7 (a6_1 + 1))))) else k5)
def reredoslaw_sameInts (p0 : List Int) (p1 : List Int) : Option (Bool) := (if (((p0.length : Nat) : Int) != ((p1.length : Nat) : Int)) = true then (some false) else (withK (some true) fun k5 => (reredoslaw_sameInts_L1 p0 p1 k5 (p0.length + 1) 0)))
def F25 : VFn := ⟨26, (.seq (.reg [vo 4 (.mv (cb false))]) (.seq (.seq (.reg [vm 6 0, ln 7 6, vm 8 1, ln 9 8, bt 10 .neq 7 9]) (.cond (.t 10) (.seq (.reg [vo 4 (.mv (cb false))]) .ret) .skip)) (.seq (.seq (.reg [mi 5 0]) (.wk (.block 0 (.loop (.seq (.seq (.reg [vm 11 5, vm 12 0, ln 13 12, bt 14 .lss 11 13]) (.cond (.t 14) .skip (.exit 0))) (.seq (.block 1 (.seq (.draw [vd (vm 17 0) 0, vd (vm 18 5) 0, vd (xa 19 1 17 18) 3, vd (vs 20 19) 7, vd (vm 21 1) 0, vd (vm 22 5) 0, vd (xa 23 1 21 22) 48, vd (vs 24 23) 112, vd (bt 25 .neq 20 24) 255]) (.cond (.t 25) (.seq (.reg [vo 4 (.mv (cb false))]) .ret) .skip))) (.reg [vm 15 5, bk 16 .add 15 1, vm 5 16]))))))) (.seq (.reg [vo 4 (.mv (cb true))]) .ret)))), [.t 4]⟩
theorem low25 : lowF Try.prog 25 = some F25.strip := by kernel_rfl
theorem fok25 : fOk Try.prog 25 = true := by kernel_rfl
theorem reredoslaw_sameInts_ok (p0 : List Int) (p1 : List Int) (r : Bool) (h : reredoslaw_sameInts p0 p1 = some r) : FnRO Try.prog G 25 [.one (.d (.l 1 (p0.map encI))), .one (.d (.l 1 (p1.map encI)))] (fun rs => rs = [.one (.b r)]) := by
 refine FnRO.of' low25 fok25 (by simp [F25]) ?_
 rw [reredoslaw_sameInts] at h
 replace h := Hd.mk h
 simp only [F25, go_sem]
 try simp only [*, go_sem]
 intro hl1
 try simp only [*, go_sem]
 intro hl2
 refine oi h (fun hb3 h => ?_) (fun hb3 h => ?_)
 cases h.e
 simp only [*, go_sem, mA, mS]
 try simp only [*, go_sem]
 refine jn0 h ([]) ([]) (fun k5 h => ?_) (fun h => ?_)
 try simp only [*, go_sem]
 refine lp1 (reredoslaw_sameInts_L1 p0 p1 k5) (fun a6_1 => [zL 0 1 (p0.map encI), zL 1 1 (p1.map encI), zI 5 ((a6_1 : Nat) : Int)]) (fun a6_1 => []) h [] [] (fun n7 a6_1 h => ?_) (by intros; rw [reredoslaw_sameInts_L1])
 rw [reredoslaw_sameInts_L1] at h
 try simp only [*, go_sem]
 intro hl8
 refine oi h (fun hb9 h => ?_) (fun hb9 h => ?_)
 have := of_decide_eq_true hb9
 refine obg h (fun x10 _ hkx10 h => ?_)
 refine obg h (fun x11 _ _ h => ?_)
 refine oi h (fun hb12 h => ?_) (fun hb12 h => ?_)
 cases h.e
 simp only [*, go_sem, mA, mS]
 have := wrap_succ_max hkx10 hl1
 try simp only [*, go_sem]
 exact lc (a6_1 + 1) h.e []
 try simp only [*, go_sem]
 exact jc () h.e []
 cases h.e
 simp only [*, go_sem, mA, mS]
def reredoslaw_sameDesk_L1 (p0 : Desk) (p1 : Desk) (k6 : Option (Bool)) : Nat → Nat → Option (Bool)
 | 0, _ => none
 | n8 + 1, a7_1 => (if (decide (a7_1 < p0.Jobs.length)) = true then (Option.bind (p0.Jobs[a7_1]?) fun x11 => (Option.bind (p1.Jobs[a7_1]?) fun x12 => (if (x11.N != x12.N) = true then (some false) else (if (x11.State != x12.State) = true then (some false) else (if (x11.Asks != x12.Asks) = true then (some false) else (if (x11.Age != x12.Age) = true then (some false) else (Option.bind (reredoslaw_sameTasks x11.Tasks x12.Tasks) fun v17 => (if (!v17) = true then (some false) else (Option.bind (reredoslaw_sameInts x11.Asked x12.Asked) fun v19 => (if (!v19) = true then (some false) else (reredoslaw_sameDesk_L1 p0 p1 k6 n8 (a7_1 + 1)))))))))))) else k6)
def reredoslaw_sameDesk (p0 : Desk) (p1 : Desk) : Option (Bool) := (if (p0.Next != p1.Next) = true then (some false) else (if (((p0.Jobs.length : Nat) : Int) != ((p1.Jobs.length : Nat) : Int)) = true then (some false) else (withK (some true) fun k6 => (reredoslaw_sameDesk_L1 p0 p1 k6 (p0.Jobs.length + 1) 0))))
def F9 : VFn := ⟨81, (.seq (.reg [vo 2 (.box 2 (.t 0)), vo 3 (.box 2 (.t 1)), vo 4 (.mv (cb false))]) (.seq (.seq (.reg [vf 8 0 2, vs 9 8, vf 10 0 3, vs 11 10, bt 12 .neq 9 11, vm 13 12, gf 14 13 (.fa 1 (.t 2)), gf 15 13 (.ld false 1 (.t 14)), gf 16 13 (.len (.t 15)), gf 17 13 (.fa 1 (.t 3)), gf 18 13 (.ld false 1 (.t 17)), gf 19 13 (.len (.t 18)), gf 20 13 (.bin .i .neq (.t 16) (.t 19)), vo 21 (.pick (.t 13) (cb true) (.t 20))]) (.cond (.t 21) (.seq (.reg [vo 4 (.mv (cb false))]) .ret) .skip)) (.seq (.seq (.reg [mi 5 0]) (.wk (.block 0 (.loop (.seq (.seq (.reg [vm 22 5, vf 23 1 2, vs 24 23, ln 25 24, bt 26 .lss 22 25]) (.cond (.t 26) .skip (.exit 0))) (.seq (.block 1 (.seq (.reg [vf 29 1 2, vs 30 29, vm 31 5, xa 32 6 30 31, vl 33 6 32, vo 6 (.alloc [(zi 0), (zi 0), (.nl 8), (.nl 1), (zi 0), (zi 0)]), vu (.st 6 (.t 6) (.t 33))]) (.seq (.reg [vf 34 1 3, vs 35 34, vm 36 5, xa 37 6 35 36, vl 38 6 37, vo 7 (.alloc [(zi 0), (zi 0), (.nl 8), (.nl 1), (zi 0), (zi 0)]), vu (.st 6 (.t 7) (.t 38))]) (.seq (.reg [vf 39 0 6, vs 40 39, vf 41 0 7, vs 42 41, bt 43 .neq 40 42, vm 44 43, gf 45 44 (.fa 1 (.t 6)), gf 46 44 (.ld false 1 (.t 45)), gf 47 44 (.fa 1 (.t 7)), gf 48 44 (.ld false 1 (.t 47)), gf 49 44 (.bin .i .neq (.t 46) (.t 48)), vo 50 (.pick (.t 44) (cb true) (.t 49)), vm 51 50, gf 52 51 (.fa 4 (.t 6)), gf 53 51 (.ld false 1 (.t 52)), gf 54 51 (.fa 4 (.t 7)), gf 55 51 (.ld false 1 (.t 54)), gf 56 51 (.bin .i .neq (.t 53) (.t 55)), vo 57 (.pick (.t 51) (cb true) (.t 56)), vm 58 57, gf 59 58 (.fa 5 (.t 6)), gf 60 58 (.ld false 1 (.t 59)), gf 61 58 (.fa 5 (.t 7)), gf 62 58 (.ld false 1 (.t 61)), gf 63 58 (.bin .i .neq (.t 60) (.t 62)), vo 64 (.pick (.t 58) (cb true) (.t 63)), vm 65 64, gf 66 65 (.fa 2 (.t 6)), gf 67 65 (.ld false 1 (.t 66)), gf 68 65 (.fa 2 (.t 7)), gf 69 65 (.ld false 1 (.t 68)), gf 70 65 (.call 24 [(.t 67), (.t 69)]), gf 71 65 (.un .not (.t 70)), vo 72 (.pick (.t 65) (cb true) (.t 71)), vm 73 72, gf 74 73 (.fa 3 (.t 6)), gf 75 73 (.ld false 1 (.t 74)), gf 76 73 (.fa 3 (.t 7)), gf 77 73 (.ld false 1 (.t 76)), gf 78 73 (.call 25 [(.t 75), (.t 77)]), gf 79 73 (.un .not (.t 78)), vo 80 (.pick (.t 73) (cb true) (.t 79))]) (.cond (.t 80) (.seq (.reg [vo 4 (.mv (cb false))]) .ret) .skip))))) (.reg [vm 27 5, bk 28 .add 27 1, vm 5 28]))))))) (.seq (.reg [vo 4 (.mv (cb true))]) .ret)))), [.t 4]⟩
theorem low9 : lowF Try.prog 9 = some F9.strip := by kernel_rfl
theorem fok9 : fOk Try.prog 9 = true := by kernel_rfl
theorem reredoslaw_sameDesk_ok (p0 : Desk) (p1 : Desk) (r : Bool) (h : reredoslaw_sameDesk p0 p1 = some r) : FnRO Try.prog G 9 [.agg p0.bx, .agg p1.bx] (fun rs => rs = [.one (.b r)]) := by
 refine FnRO.of' low9 fok9 (by simp [F9]) ?_
 rw [reredoslaw_sameDesk] at h
 replace h := Hd.mk h
 simp only [F9, go_sem]
 refine oi h (fun hb1 h => ?_) (fun hb1 h => ?_)
 cases h.e
 simp only [*, go_sem, mA, mS]
 try simp only [*, go_sem]
 intro hl2
 try simp only [*, go_sem]
 intro hl3
 refine oi h (fun hb4 h => ?_) (fun hb4 h => ?_)
 cases h.e
 simp only [*, go_sem, mA, mS]
 try simp only [*, go_sem]
 refine jn0 h ([]) ([]) (fun k6 h => ?_) (fun h => ?_)
 try simp only [*, go_sem]
 refine lp1 (reredoslaw_sameDesk_L1 p0 p1 k6) (fun a7_1 => [zP 2 0, zP 3 1, zI 5 ((a7_1 : Nat) : Int)]) (fun a7_1 => [ox p0.bx, ox p1.bx]) h [] [some 0, some 1] (fun n8 a7_1 h => ?_) (by intros; rw [reredoslaw_sameDesk_L1])
 rw [reredoslaw_sameDesk_L1] at h
 try simp only [*, go_sem]
 intro hl9
 refine oi h (fun hb10 h => ?_) (fun hb10 h => ?_)
 have := of_decide_eq_true hb10
 refine obg h (fun x11 _ hkx11 h => ?_)
 refine obg h (fun x12 _ _ h => ?_)
 refine oi h (fun hb13 h => ?_) (fun hb13 h => ?_)
 cases h.e
 simp only [*, go_sem, mA, mS]
 refine oi h (fun hb14 h => ?_) (fun hb14 h => ?_)
 cases h.e
 simp only [*, go_sem, mA, mS]
 refine oi h (fun hb15 h => ?_) (fun hb15 h => ?_)
 cases h.e
 simp only [*, go_sem, mA, mS]
 refine oi h (fun hb16 h => ?_) (fun hb16 h => ?_)
 cases h.e
 simp only [*, go_sem, mA, mS]
 try simp only [*, go_sem]
 refine cr h (reredoslaw_sameTasks_ok G x11.Tasks x12.Tasks) (fun v17 h => ?_)
 refine oin h (fun hb18 hkhb18 h => ?_) (fun hb18 hkhb18 h => ?_)
 cases h.e
 simp only [*, go_sem, mA, mS]
 try simp only [*, go_sem]
 refine cr h (reredoslaw_sameInts_ok G x11.Asked x12.Asked) (fun v19 h => ?_)
 refine oin h (fun hb20 hkhb20 h => ?_) (fun hb20 hkhb20 h => ?_)
 cases h.e
 simp only [*, go_sem, mA, mS]
 have := wrap_succ_max hkx11 hl2
 try simp only [*, go_sem]
 exact lc (a7_1 + 1) h.e [some 0, some 1]
 try simp only [*, go_sem]
 exact jc () h.e []
 cases h.e
 simp only [*, go_sem, mA, mS]
def reredoslaw_sameMessages_L1 (p0 : List Message) (p1 : List Message) (k5 : Option (Bool)) : Nat → Nat → Option (Bool)
 | 0, _ => none
 | n7 + 1, a6_1 => (if (decide (a6_1 < p0.length)) = true then (Option.bind (p0[a6_1]?) fun x10 => (Option.bind (p1[a6_1]?) fun x11 => (if (!((x10.Kind == x11.Kind) && ((x10.From == x11.From) && ((x10.To == x11.To) && ((x10.Txn.Site == x11.Txn.Site) && ((x10.Txn.N == x11.Txn.N) && ((x10.Label == x11.Label) && ((x10.Key == x11.Key) && ((x10.Value == x11.Value) && ((x10.Version == x11.Version) && ((x10.Ask == x11.Ask) && ((x10.Yes == x11.Yes) && (x10.Code == x11.Code))))))))))))) = true then (some false) else (reredoslaw_sameMessages_L1 p0 p1 k5 n7 (a6_1 + 1))))) else k5)
def reredoslaw_sameMessages (p0 : List Message) (p1 : List Message) : Option (Bool) := (if (((p0.length : Nat) : Int) != ((p1.length : Nat) : Int)) = true then (some false) else (withK (some true) fun k5 => (reredoslaw_sameMessages_L1 p0 p1 k5 (p0.length + 1) 0)))
def F21 : VFn := ⟨26, (.seq (.reg [vo 4 (.mv (cb false))]) (.seq (.seq (.reg [vm 6 0, ln 7 6, vm 8 1, ln 9 8, bt 10 .neq 7 9]) (.cond (.t 10) (.seq (.reg [vo 4 (.mv (cb false))]) .ret) .skip)) (.seq (.seq (.reg [mi 5 0]) (.wk (.block 0 (.loop (.seq (.seq (.reg [vm 11 5, vm 12 0, ln 13 12, bt 14 .lss 11 13]) (.cond (.t 14) .skip (.exit 0))) (.seq (.block 1 (.seq (.draw [vd (vm 17 0) 0, vd (vm 18 5) 0, vd (xa 19 12 17 18) 3, vd (vl 20 12 19) 7, vd (vm 21 1) 0, vd (vm 22 5) 0, vd (xa 23 12 21 22) 48, vd (vl 24 12 23) 112, vd (vo 25 (.eqs true [.i, .i, .i, .i, .i, .i, .i, .i, .i, .i, .b, .i] (.t 20) (.t 24))) 255]) (.cond (.t 25) (.seq (.reg [vo 4 (.mv (cb false))]) .ret) .skip))) (.reg [vm 15 5, bk 16 .add 15 1, vm 5 16]))))))) (.seq (.reg [vo 4 (.mv (cb true))]) .ret)))), [.t 4]⟩
theorem low21 : lowF Try.prog 21 = some F21.strip := by kernel_rfl
theorem fok21 : fOk Try.prog 21 = true := by kernel_rfl
theorem reredoslaw_sameMessages_ok (p0 : List Message) (p1 : List Message) (r : Bool) (h : reredoslaw_sameMessages p0 p1 = some r) : FnRO Try.prog G 21 [.one (.d (.l 12 (p0.map Message.enc))), .one (.d (.l 12 (p1.map Message.enc)))] (fun rs => rs = [.one (.b r)]) := by
 refine FnRO.of' low21 fok21 (by simp [F21]) ?_
 rw [reredoslaw_sameMessages] at h
 replace h := Hd.mk h
 simp only [F21, go_sem]
 try simp only [*, go_sem]
 intro hl1
 try simp only [*, go_sem]
 intro hl2
 refine oi h (fun hb3 h => ?_) (fun hb3 h => ?_)
 cases h.e
 simp only [*, go_sem, mA, mS]
 try simp only [*, go_sem]
 refine jn0 h ([]) ([]) (fun k5 h => ?_) (fun h => ?_)
 try simp only [*, go_sem]
 refine lp1 (reredoslaw_sameMessages_L1 p0 p1 k5) (fun a6_1 => [zL 0 12 (p0.map Message.enc), zL 1 12 (p1.map Message.enc), zI 5 ((a6_1 : Nat) : Int)]) (fun a6_1 => []) h [] [] (fun n7 a6_1 h => ?_) (by intros; rw [reredoslaw_sameMessages_L1])
 rw [reredoslaw_sameMessages_L1] at h
 try simp only [*, go_sem]
 intro hl8
 refine oi h (fun hb9 h => ?_) (fun hb9 h => ?_)
 have := of_decide_eq_true hb9
 refine obg h (fun x10 _ hkx10 h => ?_)
 refine obg h (fun x11 _ _ h => ?_)
 refine oin h (fun hb12 hkhb12 h => ?_) (fun hb12 hkhb12 h => ?_)
 try simp only [*, go_sem]
 cases h.e
 simp only [*, go_sem, mA, mS]
 try simp only [*, go_sem]
 have := wrap_succ_max hkx10 hl1
 try simp only [*, go_sem]
 exact lc (a6_1 + 1) h.e []
 try simp only [*, go_sem]
 exact jc () h.e []
 cases h.e
 simp only [*, go_sem, mA, mS]
def reredoslaw_sameRecord (p0 : Record) (p1 : Record) : Option (Bool) := (withK (fun (b1_1 : Bool) => (some b1_1)) fun k2 => (if (p0.Kind == p1.Kind) = true then (if ((p0.Txn.Site == p1.Txn.Site) && (p0.Txn.N == p1.Txn.N)) = true then (if (p0.Key == p1.Key) = true then (if (p0.Value == p1.Value) = true then (if (p0.Ask == p1.Ask) = true then (if (p0.Yes == p1.Yes) = true then (Option.bind (reredoslaw_sameInts p0.Sites p1.Sites) fun v9 => (k2 v9)) else (k2 false)) else (k2 false)) else (k2 false)) else (k2 false)) else (k2 false)) else (k2 false)))
def F45 : VFn := ⟨52, (.seq (.reg [vo 2 (.box 8 (.t 0)), vo 3 (.box 8 (.t 1)), vo 4 (.mv (cb false))]) (.seq (.wk (.reg [vf 5 0 2, vs 6 5, vf 7 0 3, vs 8 7, bt 9 .eql 6 8, vm 10 9, gt 11 10 (.fa 1 (.t 2)), gt 12 10 (.ld true 2 (.t 11)), gt 13 10 (.fa 1 (.t 3)), gt 14 10 (.ld true 2 (.t 13)), gt 15 10 (.eqs false [.i, .i] (.t 12) (.t 14)), vo 16 (.pick (.t 10) (.t 15) (cb false)), vm 17 16, gt 18 17 (.fa 3 (.t 2)), gt 19 17 (.ld false 1 (.t 18)), gt 20 17 (.fa 3 (.t 3)), gt 21 17 (.ld false 1 (.t 20)), gt 22 17 (.bin .i .eql (.t 19) (.t 21)), vo 23 (.pick (.t 17) (.t 22) (cb false)), vm 24 23, gt 25 24 (.fa 4 (.t 2)), gt 26 24 (.ld false 1 (.t 25)), gt 27 24 (.fa 4 (.t 3)), gt 28 24 (.ld false 1 (.t 27)), gt 29 24 (.bin .i .eql (.t 26) (.t 28)), vo 30 (.pick (.t 24) (.t 29) (cb false)), vm 31 30, gt 32 31 (.fa 5 (.t 2)), gt 33 31 (.ld false 1 (.t 32)), gt 34 31 (.fa 5 (.t 3)), gt 35 31 (.ld false 1 (.t 34)), gt 36 31 (.bin .i .eql (.t 33) (.t 35)), vo 37 (.pick (.t 31) (.t 36) (cb false)), vm 38 37, gt 39 38 (.fa 6 (.t 2)), gt 40 38 (.ld false 1 (.t 39)), gt 41 38 (.fa 6 (.t 3)), gt 42 38 (.ld false 1 (.t 41)), gt 43 38 (.bin .b .eql (.t 40) (.t 42)), vo 44 (.pick (.t 38) (.t 43) (cb false)), vm 45 44, gt 46 45 (.fa 7 (.t 2)), gt 47 45 (.ld false 1 (.t 46)), gt 48 45 (.fa 7 (.t 3)), gt 49 45 (.ld false 1 (.t 48)), gt 50 45 (.call 25 [(.t 47), (.t 49)]), vo 51 (.pick (.t 45) (.t 50) (cb false)), vm 4 51])) .ret)), [.t 4]⟩
theorem low45 : lowF Try.prog 45 = some F45.strip := by kernel_rfl
theorem fok45 : fOk Try.prog 45 = true := by kernel_rfl
theorem reredoslaw_sameRecord_ok (p0 : Record) (p1 : Record) (r : Bool) (h : reredoslaw_sameRecord p0 p1 = some r) : FnRO Try.prog G 45 [.agg p0.bx, .agg p1.bx] (fun rs => rs = [.one (.b r)]) := by
 refine FnRO.of' low45 fok45 (by simp [F45]) ?_
 rw [reredoslaw_sameRecord] at h
 replace h := Hd.mk h
 simp only [F45, go_sem]
 try simp only [*, go_sem]
 refine jn1 h (fun b1_1 => [zB 4 b1_1]) (fun b1_1 => []) (fun k2 h => ?_) (fun b1_1 h => ?_)
 refine oi h (fun hb3 h => ?_) (fun hb3 h => ?_)
 refine oi h (fun hb4 h => ?_) (fun hb4 h => ?_)
 try simp only [*, go_sem]
 refine oi h (fun hb5 h => ?_) (fun hb5 h => ?_)
 refine oi h (fun hb6 h => ?_) (fun hb6 h => ?_)
 refine oi h (fun hb7 h => ?_) (fun hb7 h => ?_)
 refine oi h (fun hb8 h => ?_) (fun hb8 h => ?_)
 try simp only [*, go_sem]
 refine cr h (reredoslaw_sameInts_ok G p0.Sites p1.Sites) (fun v9 h => ?_)
 try simp only [*, go_sem]
 exact jc (v9) h.e []
 try simp only [*, go_sem]
 exact jc (false) h.e []
 try simp only [*, go_sem]
 exact jc (false) h.e []
 try simp only [*, go_sem]
 exact jc (false) h.e []
 try simp only [*, go_sem]
 exact jc (false) h.e []
 try simp only [*, go_sem]
 try simp only [*, go_sem]
 exact jc (false) h.e []
 try simp only [*, go_sem]
 exact jc (false) h.e []
 cases h.e
 simp only [*, go_sem, mA, mS]
def reredoslaw_sameRecords_L1 (p0 : List Record) (p1 : List Record) (k5 : Option (Bool)) : Nat → Nat → Option (Bool)
 | 0, _ => none
 | n7 + 1, a6_1 => (if (decide (a6_1 < p0.length)) = true then (Option.bind (p0[a6_1]?) fun x10 => (Option.bind (p1[a6_1]?) fun x11 => (Option.bind (reredoslaw_sameRecord x10 x11) fun v12 => (if (!v12) = true then (some false) else (reredoslaw_sameRecords_L1 p0 p1 k5 n7 (a6_1 + 1)))))) else k5)
def reredoslaw_sameRecords (p0 : List Record) (p1 : List Record) : Option (Bool) := (if (((p0.length : Nat) : Int) != ((p1.length : Nat) : Int)) = true then (some false) else (withK (some true) fun k5 => (reredoslaw_sameRecords_L1 p0 p1 k5 (p0.length + 1) 0)))
def F22 : VFn := ⟨27, (.seq (.reg [vo 4 (.mv (cb false))]) (.seq (.seq (.reg [vm 6 0, ln 7 6, vm 8 1, ln 9 8, bt 10 .neq 7 9]) (.cond (.t 10) (.seq (.reg [vo 4 (.mv (cb false))]) .ret) .skip)) (.seq (.seq (.reg [mi 5 0]) (.wk (.block 0 (.loop (.seq (.seq (.reg [vm 11 5, vm 12 0, ln 13 12, bt 14 .lss 11 13]) (.cond (.t 14) .skip (.exit 0))) (.seq (.block 1 (.seq (.draw [vd (vm 17 0) 0, vd (vm 18 5) 0, vd (xa 19 8 17 18) 3, vd (vl 20 8 19) 7, vd (vm 21 1) 0, vd (vm 22 5) 0, vd (xa 23 8 21 22) 48, vd (vl 24 8 23) 112, vd (vo 25 (.call 45 [(.t 20), (.t 24)])) 255, vd (nt 26 25) 511]) (.cond (.t 26) (.seq (.reg [vo 4 (.mv (cb false))]) .ret) .skip))) (.reg [vm 15 5, bk 16 .add 15 1, vm 5 16]))))))) (.seq (.reg [vo 4 (.mv (cb true))]) .ret)))), [.t 4]⟩
theorem low22 : lowF Try.prog 22 = some F22.strip := by kernel_rfl
theorem fok22 : fOk Try.prog 22 = true := by kernel_rfl
theorem reredoslaw_sameRecords_ok (p0 : List Record) (p1 : List Record) (r : Bool) (h : reredoslaw_sameRecords p0 p1 = some r) : FnRO Try.prog G 22 [.one (.d (.l 8 (p0.map Record.enc))), .one (.d (.l 8 (p1.map Record.enc)))] (fun rs => rs = [.one (.b r)]) := by
 refine FnRO.of' low22 fok22 (by simp [F22]) ?_
 rw [reredoslaw_sameRecords] at h
 replace h := Hd.mk h
 simp only [F22, go_sem]
 try simp only [*, go_sem]
 intro hl1
 try simp only [*, go_sem]
 intro hl2
 refine oi h (fun hb3 h => ?_) (fun hb3 h => ?_)
 cases h.e
 simp only [*, go_sem, mA, mS]
 try simp only [*, go_sem]
 refine jn0 h ([]) ([]) (fun k5 h => ?_) (fun h => ?_)
 try simp only [*, go_sem]
 refine lp1 (reredoslaw_sameRecords_L1 p0 p1 k5) (fun a6_1 => [zL 0 8 (p0.map Record.enc), zL 1 8 (p1.map Record.enc), zI 5 ((a6_1 : Nat) : Int)]) (fun a6_1 => []) h [] [] (fun n7 a6_1 h => ?_) (by intros; rw [reredoslaw_sameRecords_L1])
 rw [reredoslaw_sameRecords_L1] at h
 try simp only [*, go_sem]
 intro hl8
 refine oi h (fun hb9 h => ?_) (fun hb9 h => ?_)
 have := of_decide_eq_true hb9
 refine obg h (fun x10 _ hkx10 h => ?_)
 refine obg h (fun x11 _ _ h => ?_)
 refine obk h (fun v12 hv12 h => ?_)
 try simp only [*, go_sem]
 refine cd (reredoslaw_sameRecord_ok G x10 x11 v12 hv12) ?_
 refine oin h (fun hb13 hkhb13 h => ?_) (fun hb13 hkhb13 h => ?_)
 cases h.e
 simp only [*, go_sem, mA, mS]
 have := wrap_succ_max hkx10 hl1
 try simp only [*, go_sem]
 exact lc (a6_1 + 1) h.e []
 try simp only [*, go_sem]
 exact jc () h.e []
 cases h.e
 simp only [*, go_sem, mA, mS]
def reredoslaw_sameReplies_L1 (p0 : List Reply) (p1 : List Reply) (k5 : Option (Bool)) : Nat → Nat → Option (Bool)
 | 0, _ => none
 | n7 + 1, a6_1 => (if (decide (a6_1 < p0.length)) = true then (Option.bind (p0[a6_1]?) fun x10 => (Option.bind (p1[a6_1]?) fun x11 => (if (!((x10.Site == x11.Site) && ((x10.Kind == x11.Kind) && ((x10.N == x11.N) && ((x10.Key == x11.Key) && ((x10.Value == x11.Value) && (x10.Code == x11.Code))))))) = true then (some false) else (reredoslaw_sameReplies_L1 p0 p1 k5 n7 (a6_1 + 1))))) else k5)
def reredoslaw_sameReplies (p0 : List Reply) (p1 : List Reply) : Option (Bool) := (if (((p0.length : Nat) : Int) != ((p1.length : Nat) : Int)) = true then (some false) else (withK (some true) fun k5 => (reredoslaw_sameReplies_L1 p0 p1 k5 (p0.length + 1) 0)))
def F23 : VFn := ⟨26, (.seq (.reg [vo 4 (.mv (cb false))]) (.seq (.seq (.reg [vm 6 0, ln 7 6, vm 8 1, ln 9 8, bt 10 .neq 7 9]) (.cond (.t 10) (.seq (.reg [vo 4 (.mv (cb false))]) .ret) .skip)) (.seq (.seq (.reg [mi 5 0]) (.wk (.block 0 (.loop (.seq (.seq (.reg [vm 11 5, vm 12 0, ln 13 12, bt 14 .lss 11 13]) (.cond (.t 14) .skip (.exit 0))) (.seq (.block 1 (.seq (.draw [vd (vm 17 0) 0, vd (vm 18 5) 0, vd (xa 19 6 17 18) 3, vd (vl 20 6 19) 7, vd (vm 21 1) 0, vd (vm 22 5) 0, vd (xa 23 6 21 22) 48, vd (vl 24 6 23) 112, vd (vo 25 (.eqs true [.i, .i, .i, .i, .i, .i] (.t 20) (.t 24))) 255]) (.cond (.t 25) (.seq (.reg [vo 4 (.mv (cb false))]) .ret) .skip))) (.reg [vm 15 5, bk 16 .add 15 1, vm 5 16]))))))) (.seq (.reg [vo 4 (.mv (cb true))]) .ret)))), [.t 4]⟩
theorem low23 : lowF Try.prog 23 = some F23.strip := by kernel_rfl
theorem fok23 : fOk Try.prog 23 = true := by kernel_rfl
theorem reredoslaw_sameReplies_ok (p0 : List Reply) (p1 : List Reply) (r : Bool) (h : reredoslaw_sameReplies p0 p1 = some r) : FnRO Try.prog G 23 [.one (.d (.l 6 (p0.map Reply.enc))), .one (.d (.l 6 (p1.map Reply.enc)))] (fun rs => rs = [.one (.b r)]) := by
 refine FnRO.of' low23 fok23 (by simp [F23]) ?_
 rw [reredoslaw_sameReplies] at h
 replace h := Hd.mk h
 simp only [F23, go_sem]
 try simp only [*, go_sem]
 intro hl1
 try simp only [*, go_sem]
 intro hl2
 refine oi h (fun hb3 h => ?_) (fun hb3 h => ?_)
 cases h.e
 simp only [*, go_sem, mA, mS]
 try simp only [*, go_sem]
 refine jn0 h ([]) ([]) (fun k5 h => ?_) (fun h => ?_)
 try simp only [*, go_sem]
 refine lp1 (reredoslaw_sameReplies_L1 p0 p1 k5) (fun a6_1 => [zL 0 6 (p0.map Reply.enc), zL 1 6 (p1.map Reply.enc), zI 5 ((a6_1 : Nat) : Int)]) (fun a6_1 => []) h [] [] (fun n7 a6_1 h => ?_) (by intros; rw [reredoslaw_sameReplies_L1])
 rw [reredoslaw_sameReplies_L1] at h
 try simp only [*, go_sem]
 intro hl8
 refine oi h (fun hb9 h => ?_) (fun hb9 h => ?_)
 have := of_decide_eq_true hb9
 refine obg h (fun x10 _ hkx10 h => ?_)
 refine obg h (fun x11 _ _ h => ?_)
 refine oin h (fun hb12 hkhb12 h => ?_) (fun hb12 hkhb12 h => ?_)
 try simp only [*, go_sem]
 cases h.e
 simp only [*, go_sem, mA, mS]
 try simp only [*, go_sem]
 have := wrap_succ_max hkx10 hl1
 try simp only [*, go_sem]
 exact lc (a6_1 + 1) h.e []
 try simp only [*, go_sem]
 exact jc () h.e []
 cases h.e
 simp only [*, go_sem, mA, mS]
def reredoslaw_sameTurn (p0 : Turn) (p1 : Turn) : Option (Bool) := (withK (fun (b1_1 : Bool) => (some b1_1)) fun k2 => (if (p0.Sure == p1.Sure) = true then (if (p0.Committed == p1.Committed) = true then (Option.bind (reredoslaw_sameDesk p0.Desk p1.Desk) fun v5 => (if v5 = true then (Option.bind (reredoslaw_sameMessages p0.Messages p1.Messages) fun v7 => (if v7 = true then (Option.bind (reredoslaw_sameRecords p0.Records p1.Records) fun v9 => (if v9 = true then (Option.bind (reredoslaw_sameReplies p0.Replies p1.Replies) fun v11 => (k2 v11)) else (k2 false))) else (k2 false))) else (k2 false))) else (k2 false)) else (k2 false)))
def F8 : VFn := ⟨45, (.seq (.reg [vo 2 (.box 7 (.t 0)), vo 3 (.box 7 (.t 1)), vo 4 (.mv (cb false))]) (.seq (.wk (.reg [vf 5 5 2, vs 6 5, vf 7 5 3, vs 8 7, bt 9 .eql 6 8, vm 10 9, gt 11 10 (.fa 6 (.t 2)), gt 12 10 (.ld false 1 (.t 11)), gt 13 10 (.fa 6 (.t 3)), gt 14 10 (.ld false 1 (.t 13)), gt 15 10 (.bin .i .eql (.t 12) (.t 14)), vo 16 (.pick (.t 10) (.t 15) (cb false)), vm 17 16, gt 18 17 (.fa 0 (.t 2)), gt 19 17 (.ld true 2 (.t 18)), gt 20 17 (.fa 0 (.t 3)), gt 21 17 (.ld true 2 (.t 20)), gt 22 17 (.call 9 [(.t 19), (.t 21)]), vo 23 (.pick (.t 17) (.t 22) (cb false)), vm 24 23, gt 25 24 (.fa 2 (.t 2)), gt 26 24 (.ld false 1 (.t 25)), gt 27 24 (.fa 2 (.t 3)), gt 28 24 (.ld false 1 (.t 27)), gt 29 24 (.call 21 [(.t 26), (.t 28)]), vo 30 (.pick (.t 24) (.t 29) (cb false)), vm 31 30, gt 32 31 (.fa 3 (.t 2)), gt 33 31 (.ld false 1 (.t 32)), gt 34 31 (.fa 3 (.t 3)), gt 35 31 (.ld false 1 (.t 34)), gt 36 31 (.call 22 [(.t 33), (.t 35)]), vo 37 (.pick (.t 31) (.t 36) (cb false)), vm 38 37, gt 39 38 (.fa 4 (.t 2)), gt 40 38 (.ld false 1 (.t 39)), gt 41 38 (.fa 4 (.t 3)), gt 42 38 (.ld false 1 (.t 41)), gt 43 38 (.call 23 [(.t 40), (.t 42)]), vo 44 (.pick (.t 38) (.t 43) (cb false)), vm 4 44])) .ret)), [.t 4]⟩
theorem low8 : lowF Try.prog 8 = some F8.strip := by kernel_rfl
theorem fok8 : fOk Try.prog 8 = true := by kernel_rfl
theorem reredoslaw_sameTurn_ok (p0 : Turn) (p1 : Turn) (r : Bool) (h : reredoslaw_sameTurn p0 p1 = some r) : FnRO Try.prog G 8 [.agg p0.bx, .agg p1.bx] (fun rs => rs = [.one (.b r)]) := by
 refine FnRO.of' low8 fok8 (by simp [F8]) ?_
 rw [reredoslaw_sameTurn] at h
 replace h := Hd.mk h
 simp only [F8, go_sem]
 try simp only [*, go_sem]
 refine jn1 h (fun b1_1 => [zB 4 b1_1]) (fun b1_1 => []) (fun k2 h => ?_) (fun b1_1 h => ?_)
 refine oi h (fun hb3 h => ?_) (fun hb3 h => ?_)
 refine oi h (fun hb4 h => ?_) (fun hb4 h => ?_)
 try simp only [*, go_sem]
 refine cr h (reredoslaw_sameDesk_ok G p0.Desk p1.Desk) (fun v5 h => ?_)
 refine oi h (fun hb6 h => ?_) (fun hb6 h => ?_)
 try simp only [*, go_sem]
 refine cr h (reredoslaw_sameMessages_ok G p0.Messages p1.Messages) (fun v7 h => ?_)
 refine oi h (fun hb8 h => ?_) (fun hb8 h => ?_)
 try simp only [*, go_sem]
 refine cr h (reredoslaw_sameRecords_ok G p0.Records p1.Records) (fun v9 h => ?_)
 refine oi h (fun hb10 h => ?_) (fun hb10 h => ?_)
 try simp only [*, go_sem]
 refine cr h (reredoslaw_sameReplies_ok G p0.Replies p1.Replies) (fun v11 h => ?_)
 try simp only [*, go_sem]
 exact jc (v11) h.e []
 try simp only [*, go_sem]
 exact jc (false) h.e []
 try simp only [*, go_sem]
 exact jc (false) h.e []
 try simp only [*, go_sem]
 exact jc (false) h.e []
 try simp only [*, go_sem]
 exact jc (false) h.e []
 try simp only [*, go_sem]
 exact jc (false) h.e []
 cases h.e
 simp only [*, go_sem, mA, mS]
def reredoslaw_CoordCalls (p0 : Config) (p1 : Int) (p2 : Int) (p3 : Desk) (p4 : Int) (p5 : Call) : Option (Bool) := (Option.bind (reredosref_DeskCopy p3) fun v1 => (Option.bind (coord_Call p0 p1 p2 v1 p4 p5) fun v2 => (Option.bind (reredosref_CalledOf p0 p1 p2 p3 p4 p5) fun v3 => (withK (fun (b4_1 : Bool) => (some b4_1)) fun k5 => (if (v2.2 == v3.2) = true then (Option.bind (reredoslaw_sameTurn v2.1 v3.1) fun v7 => (if v7 = true then (Option.bind (reredoslaw_sameDesk v1 p3) fun v9 => (k5 v9)) else (k5 false))) else (k5 false))))))
def F4 : VFn := ⟨53, (.seq (.reg [vo 6 (.box 3 (.t 0)), vo 9 (.box 2 (.t 3)), vo 11 (.boxk 5 (.t 5)), vo 12 (.mv (cb false))]) (.seq (.reg [vl 18 2 9, vo 19 (.call 5 [(.t 18)]), vo 13 (.alloc [(zi 0), (.nl 6)]), vu (.st 2 (.t 13) (.t 19))]) (.seq (.gho (.reg [vl 21 3 6, vm 22 1, vm 23 2, vl 24 2 13, vm 25 4, vl 26 5 11, vo 27 (.call 10 [(.t 21), (.t 22), (.t 23), (.t 24), (.t 25), (.t 26)]), vm 20 27, et 28 20 0, et 29 20 1, vo 14 (.alloc [(zi 0), (.nl 6), (.nl 12), (.nl 8), (.nl 6), (zi 0), (zi 0)]), vu (.st 7 (.t 14) (.t 28)), vm 15 29])) (.seq (.reg [vl 31 3 6, vm 32 1, vm 33 2, vl 34 2 9, vm 35 4, vl 36 5 11, vo 37 (.call 11 [(.t 31), (.t 32), (.t 33), (.t 34), (.t 35), (.t 36)]), vm 30 37, et 38 30 0, et 39 30 1, vo 16 (.alloc [(zi 0), (.nl 6), (.nl 12), (.nl 8), (.nl 6), (zi 0), (zi 0)]), vu (.st 7 (.t 16) (.t 38)), vm 17 39]) (.seq (.wk (.reg [vm 40 15, vm 41 17, bt 42 .eql 40 41, vm 43 42, gt 44 43 (.ld true 7 (.t 14)), gt 45 43 (.ld true 7 (.t 16)), gt 46 43 (.call 8 [(.t 44), (.t 45)]), vo 47 (.pick (.t 43) (.t 46) (cb false)), vm 48 47, gt 49 48 (.ld true 2 (.t 13)), gt 50 48 (.ld true 2 (.t 9)), gt 51 48 (.call 9 [(.t 49), (.t 50)]), vo 52 (.pick (.t 48) (.t 51) (cb false)), vm 12 52])) .ret))))), [.t 12]⟩
theorem low4 : lowF Try.prog 4 = some F4.strip := by kernel_rfl
theorem fok4 : fOk Try.prog 4 = true := by kernel_rfl
theorem reredoslaw_CoordCalls_ok (p0 : Config) (p1 : Int) (p2 : Int) (p3 : Desk) (p4 : Int) (p5 : Call) (r : Bool) (h : reredoslaw_CoordCalls p0 p1 p2 p3 p4 p5 = some r) : FnRO Try.prog G 4 [.agg p0.bx, .one (.d (.i .i64 p1)), .one (.d (.i .i64 p2)), .agg p3.bx, .one (.d (.i .i64 p4)), .agg p5.bx] (fun rs => rs = [.one (.b r)]) := by
 refine FnRO.of' low4 fok4 (by simp [F4]) ?_
 rw [reredoslaw_CoordCalls] at h
 replace h := Hd.mk h
 simp only [F4, go_sem]
 try simp only [*, go_sem]
 refine cr h (reredosref_DeskCopy_ok G p3) (fun v1 h => ?_)
 try simp only [*, go_sem]
 refine gho_lk _ G _ _ [.z 2] ?_
 try simp only [*, go_sem]
 try simp only [*, go_sem]
 refine cr h (coord_Call_ok G p0 p1 p2 v1 p4 p5) (fun v2 h => ?_)
 try simp only [*, go_sem]
 refine cr h (reredosref_CalledOf_ok G p0 p1 p2 p3 p4 p5) (fun v3 h => ?_)
 try simp only [*, go_sem]
 refine jn1 h (fun b4_1 => [zB 12 b4_1]) (fun b4_1 => []) (fun k5 h => ?_) (fun b4_1 h => ?_)
 refine oi h (fun hb6 h => ?_) (fun hb6 h => ?_)
 try simp only [*, go_sem]
 refine cl h (reredoslaw_sameTurn_ok G v2.1 v3.1) (fun v7 h => ?_)
 refine oi h (fun hb8 h => ?_) (fun hb8 h => ?_)
 try simp only [*, go_sem]
 refine cr h (reredoslaw_sameDesk_ok G v1 p3) (fun v9 h => ?_)
 try simp only [*, go_sem]
 exact jc (v9) h.e []
 try simp only [*, go_sem]
 exact jc (false) h.e []
 try simp only [*, go_sem]
 exact jc (false) h.e []
 cases h.e
 simp only [*, go_sem, mA, mS]
end Go.V.Dec
