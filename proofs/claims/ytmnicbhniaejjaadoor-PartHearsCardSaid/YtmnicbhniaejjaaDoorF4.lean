/- What Go's functions come to, as plain functions: part 4; no condition. -/
import Derived.Test.YtmnicbhniaejjaaDoorF3
set_option linter.unusedVariables false
set_option linter.unusedSimpArgs false
namespace Go.V.Dec
open Go Go.Proofs
set_option maxRecDepth 100000
set_option maxHeartbeats 4000000
variable (G : Nat → Option (List D))
def reredosref_HeardOf_L1 (p4 : List Note) (p6 : Message) (k76 : Int → Option (Answer × Int)) : Nat → Int → Nat → Option (Answer × Int)
 | 0, _, _ => none
 | n78 + 1, a77_1, a77_2 => (if (decide (a77_2 < p4.length)) = true then (withK (fun (b81_1 : Int) => (reredosref_HeardOf_L1 p4 p6 k76 n78 b81_1 (a77_2 + 1))) fun k82 => (Option.bind (p4[a77_2]?) fun x83 => (if ((x83.Txn.Site == p6.Txn.Site) && (x83.Txn.N == p6.Txn.N)) = true then (if (!(x83.Yes == p6.Yes)) = true then (if (!x83.Damage) = true then (k82 (IntKind.i64.wrap (a77_1 + 1))) else (k82 a77_1)) else (k82 a77_1)) else (k82 a77_1)))) else (k76 a77_1))
def reredosref_HeardOf_L2 (p6 : Message) (k96 : (List Note) → Option (Answer × Int)) : Nat → Nat → (List Note) → Option (Answer × Int)
 | 0, _, _ => none
 | n98 + 1, a97_1, a97_2 => (if (decide (a97_1 < a97_2.length)) = true then (withK (fun (b101_1 : List Note) => (reredosref_HeardOf_L2 p6 k96 n98 (a97_1 + 1) b101_1)) fun k102 => (Option.bind (a97_2[a97_1]?) fun x103 => (if ((x103.Txn.Site == p6.Txn.Site) && (x103.Txn.N == p6.Txn.N)) = true then (if (!(x103.Yes == p6.Yes)) = true then (k102 (a97_2.set a97_1 (Note.mk x103.Txn x103.Yes true))) else (k102 a97_2)) else (k102 a97_2)))) else (k96 a97_2))
def reredosref_HeardOf (p0 : Config) (p1 : Int) (p2 : Int) (p3 : List Store) (p4 : List Note) (p5 : Int) (p6 : Message) : Option (Answer × Int) := (Option.bind (reredosref_siteFault p0 p1 p2 p3) fun v1 => (withK (fun (b2_1 : Int) => (withK (fun (b6_1 : Int) => (withK (fun (b10_1 : Int) => (withK (fun (b27_1 : Int) => (if (b27_1 != 0) = true then (some ((Answer.mk (Store.mk [] [] [] []) [] [] []), b27_1)) else (if 0 ≤ p1 then (Option.bind (p3[p1.toNat]?) fun x32 => (Option.bind (reredosref_StoreCopy x32) fun v34 => (Option.bind (reredosref_NotesCopy p4) fun v35 => (withK (fun (b36_1 : Int) (b36_2 : List Item) (b36_3 : List Lock) (b36_4 : List Doubt) (b36_5 : List Txn) (b36_6 : Nat) (b36_7 : Int) (b36_8 : Int) (b36_9 : Int) (b36_10 : Int) (b36_11 : Int) (b36_12 : Bool) (b36_13 : Int) (b36_14 : List Record) (b36_15 : List Note) => (withK (fun (b107_1 : List Message) => (some ((Answer.mk (Store.mk b36_2 b36_3 b36_4 b36_5) b107_1 b36_14 b36_15), 0))) fun k108 => (if (b36_1 == 0) = true then (k108 [(Message.mk ((b36_6 : Nat) : Int) p2 p6.From p6.Txn b36_7 b36_8 b36_9 b36_10 b36_11 b36_12 b36_13)]) else (if (b36_1 == 11) = true then (k108 [(Message.mk ((b36_6 : Nat) : Int) p2 p6.From p6.Txn b36_7 b36_8 b36_9 b36_10 b36_11 b36_12 b36_13)]) else (if (b36_1 == 8) = true then (k108 [(Message.mk ((b36_6 : Nat) : Int) p2 p6.From p6.Txn b36_7 b36_8 b36_9 b36_10 b36_11 b36_12 b36_13)]) else (k108 [])))))) fun k37 => (if (p6.Kind == 1) = true then (withK (fun (b39_1 : Int) (b39_2 : Int) (b39_3 : Int) (b39_4 : List Item) (b39_5 : List Lock) (b39_6 : List Doubt) (b39_7 : List Txn) => (withK (fun (b46_1 : List Item) (b46_2 : List Lock) (b46_3 : List Doubt) (b46_4 : List Txn) => (k37 b39_1 b46_1 b46_2 b46_3 b46_4 5 p6.Label p6.Key b39_2 b39_3 p6.Ask false b39_1 [] v35)) fun k47 => (if (b39_1 == 0) = true then (k47 b39_4 b39_5 b39_6 b39_7) else (k47 v34.Items v34.Locks v34.Doubts v34.Over)))) fun k40 => (if (p6.Label == p1) = true then (Option.bind (reredosref_ReadOf x32 p6.Txn p6.Key) fun v42 => (k40 v42.2.2.2 v42.2.1 v42.2.2.1 v42.1.Items v42.1.Locks v42.1.Doubts v42.1.Over)) else (if 0 ≤ p6.Label then (Option.bind (p3[p6.Label.toNat]?) fun x43 => (Option.bind (reredosref_PeekOf x43 p6.Key) fun v45 => (k40 v45.2.2 v45.1 v45.2.1 v34.Items v34.Locks v34.Doubts v34.Over))) else none))) else (withK (fun (b49_1 : Int) (b49_2 : List Item) (b49_3 : List Lock) (b49_4 : List Doubt) (b49_5 : List Txn) (b49_6 : Nat) (b49_7 : Int) (b49_8 : Int) (b49_9 : Int) (b49_10 : Int) (b49_11 : Bool) (b49_12 : Int) (b49_13 : List Record) (b49_14 : List Note) => (k37 b49_1 b49_2 b49_3 b49_4 b49_5 b49_6 b49_7 b49_8 0 b49_9 b49_10 b49_11 b49_12 b49_13 b49_14)) fun k50 => (if (p6.Kind == 2) = true then (Option.bind (reredosref_WriteOf x32 p6.Txn p6.Key p6.Value p6.Ask) fun v52 => (withK (fun (b53_1 : Int) => (withK (fun (b57_1 : List Item) (b57_2 : List Lock) (b57_3 : List Doubt) (b57_4 : List Txn) (b57_5 : List Record) => (k50 b53_1 b57_1 b57_2 b57_3 b57_4 6 0 p6.Key 0 p6.Ask false b53_1 b57_5 v35)) fun k58 => (if (b53_1 == 0) = true then (withK (k58 v52.1.Items v52.1.Locks v52.1.Doubts v52.1.Over [(Record.mk 1 p6.Txn p6.Key p6.Value p6.Ask false [])]) fun k61 => k61) else (k58 v34.Items v34.Locks v34.Doubts v34.Over [])))) fun k54 => (if (v52.2 == 0) = true then (if (decide (p5 < 500)) = true then (k54 8) else (k54 v52.2)) else (k54 v52.2)))) else (withK (fun (b63_1 : List Item) (b63_2 : List Lock) (b63_3 : List Doubt) (b63_4 : List Txn) (b63_5 : Nat) (b63_6 : Int) (b63_7 : Int) (b63_8 : Int) (b63_9 : Bool) (b63_10 : List Record) (b63_11 : List Note) => (k50 0 b63_1 b63_2 b63_3 b63_4 b63_5 b63_6 b63_7 b63_8 0 b63_9 0 b63_10 b63_11)) fun k64 => (if (p6.Kind == 3) = true then (withK (fun (b66_1 : Bool) => (k64 v34.Items v34.Locks v34.Doubts v34.Over 7 p6.Label p6.Key p6.Version b66_1 [] v35)) fun k67 => (if (p6.Label == p1) = true then (Option.bind (reredosref_StillOf x32 p6.Txn p6.Key p6.Version) fun v69 => (k67 v69.1)) else (if 0 ≤ p6.Label then (Option.bind (p3[p6.Label.toNat]?) fun x70 => (Option.bind (reredosref_PeekOf x70 p6.Key) fun v72 => (if (v72.2.2 == 0) = true then (k67 (v72.2.1 == p6.Version)) else (k67 false)))) else none))) else (Option.bind (reredosref_WritesOf x32 p6.Txn) fun v74 => (withK (fun (b75_1 : Int) => (withK (fun (b88_1 : List Record) => (Option.bind (reredosref_EndOf x32 p6.Txn p6.Yes) fun v94 => (withK (fun (b95_1 : List Note) => (k64 v94.1.Items v94.1.Locks v94.1.Doubts v94.1.Over 8 0 0 0 false b88_1 b95_1)) fun k96 => (reredosref_HeardOf_L2 p6 k96 (v35.length + 1) 0 v35)))) fun k89 => (if (decide (b75_1 > 0)) = true then (withK (k89 [(Record.mk 2 p6.Txn 0 0 0 p6.Yes [])]) fun k92 => k92) else (k89 [])))) fun k76 => (reredosref_HeardOf_L1 p4 p6 k76 (p4.length + 1) v74.1 0)))))))))))) else none))) fun k28 => (if (b10_1 == 0) = true then (if (decide (p6.Kind > 4)) = true then (k28 3) else (k28 b10_1)) else (k28 b10_1)))) fun k11 => (if (b6_1 == 0) = true then (if (p6.Kind == 1) = true then (if 0 ≤ p1 then (Option.bind (p0.Labels[p1.toNat]?) fun x14 => (if 0 ≤ p6.Label then (Option.bind (p0.Labels[p6.Label.toNat]?) fun x16 => (Option.bind (reredosref_Dominates x14 x16) fun v18 => (if (!v18) = true then (k11 10) else (k11 b6_1)))) else none)) else none) else (if (p6.Kind == 3) = true then (if 0 ≤ p1 then (Option.bind (p0.Labels[p1.toNat]?) fun x21 => (if 0 ≤ p6.Label then (Option.bind (p0.Labels[p6.Label.toNat]?) fun x23 => (Option.bind (reredosref_Dominates x21 x23) fun v25 => (if (!v25) = true then (k11 10) else (k11 b6_1)))) else none)) else none) else (k11 b6_1))) else (k11 b6_1)))) fun k7 => (if (b2_1 == 0) = true then (if (p6.To != p2) = true then (k7 2) else (k7 b2_1)) else (k7 b2_1)))) fun k3 => (if (v1 == 0) = true then (Option.bind (reredosref_MessageFault p0 p6) fun v5 => (k3 v5)) else (k3 v1))))
def F9 : VFn := ⟨379, (.seq (.reg [vo 7 (.boxk 3 (.t 0)), vo 13 (.boxk 12 (.t 6)), vo 14 (.alloc [(.nl 3), (.nl 6), (.nl 3), (.nl 2), (.nl 12), (.nl 8), (.nl 4)]), mi 15 0]) (.seq (.reg [vl 30 3 7, vm 31 1, vm 32 2, vm 33 3, vo 34 (.call 31 [(.t 30), (.t 31), (.t 32), (.t 33)]), vm 16 34]) (.seq (.seq (.reg [vm 35 16, bk 36 .eql 35 0]) (.wk (.cond (.t 36) (.reg [vl 37 3 7, vl 38 12 13, vo 39 (.call 32 [(.t 37), (.t 38)]), vm 16 39]) .skip))) (.seq (.wk (.seq (.reg [vm 40 16, bk 41 .eql 40 0, vm 42 41, gt 43 42 (.fa 2 (.t 13)), gt 44 42 (.ld false 1 (.t 43)), gt 45 42 (.mv (.t 2)), gt 46 42 (.bin .i .neq (.t 44) (.t 45)), vo 47 (.pick (.t 42) (.t 46) (cb false))]) (.cond (.t 47) (.reg [mi 16 2]) .skip))) (.seq (.wk (.seq (.draw [vd (vm 48 16) 0, vd (bk 49 .eql 48 0) 1, vd (vm 50 49) 3, vd (gt 51 50 (.fa 0 (.t 13))) 7, vd (gt 52 50 (.ld false 1 (.t 51))) 15, vd (gt 53 50 (.bin .i .eql (.t 52) (ci 1))) 31, vd (gt 54 50 (.mv (.t 53))) 63, vd (gf 55 54 (.fa 0 (.t 13))) 127, vd (gf 56 54 (.ld false 1 (.t 55))) 255, vd (gf 57 54 (.bin .i .eql (.t 56) (ci 3))) 511, vd (gt 58 50 (.pick (.t 54) (cb true) (.t 57))) 1023, vd (vo 59 (.pick (.t 50) (.t 58) (cb false))) 2047, vd (vm 60 59) 4095, vd (gt 61 60 (.fa 1 (.t 7))) 8191, vd (gt 62 60 (.ld false 1 (.t 61))) 0x3fff, vd (gt 63 60 (.mv (.t 1))) 8191, vd (gt 64 60 (.ia 2 (.t 62) (.t 63))) 0xffff, vd (gt 65 60 (.ld true 2 (.t 64))) 0x1ffff, vd (gt 66 60 (.fa 1 (.t 7))) 8191, vd (gt 67 60 (.ld false 1 (.t 66))) 0x41fff, vd (gt 68 60 (.fa 5 (.t 13))) 8191, vd (gt 69 60 (.ld false 1 (.t 68))) 0x101fff, vd (gt 70 60 (.ia 2 (.t 67) (.t 69))) 0x3c1fff, vd (gt 71 60 (.ld true 2 (.t 70))) 0x7c1fff, vd (gt 72 60 (.call 33 [(.t 65), (.t 71)])) 0xffffff, vd (gt 73 60 (.un .not (.t 72))) 0x1ffffff, vd (vo 74 (.pick (.t 60) (.t 73) (cb false))) 0x3ffffff]) (.cond (.t 74) (.reg [mi 16 10]) .skip))) (.seq (.wk (.seq (.reg [vm 75 16, bk 76 .eql 75 0, vm 77 76, gt 78 77 (.fa 0 (.t 13)), gt 79 77 (.ld false 1 (.t 78)), gt 80 77 (.bin .i .gtr (.t 79) (ci 4)), vo 81 (.pick (.t 77) (.t 80) (cb false))]) (.cond (.t 81) (.reg [mi 16 3]) .skip))) (.seq (.seq (.reg [vm 82 16, bk 83 .neq 82 0]) (.cond (.t 83) (.seq (.reg [vo 84 (.build [(.nl 3), (.nl 6), (.nl 3), (.nl 2), (.nl 12), (.nl 8), (.nl 4)] []), vm 85 16, vu (.st 7 (.t 14) (.t 84)), vm 15 85]) .ret) .skip)) (.seq (.reg [vm 86 3, vm 87 1, xa 88 4 86 87, vl 89 4 88, vo 90 (.call 34 [(.t 89)]), vm 91 4, vo 92 (.call 7 [(.t 91)]), vo 93 (.build [(.nl 3), (.nl 6), (.nl 3), (.nl 2), (.nl 12), (.nl 8), (.nl 4)] [(0, 4, (.t 90)), (6, 1, (.t 92))]), vo 17 (.alloc [(.nl 3), (.nl 6), (.nl 3), (.nl 2), (.nl 12), (.nl 8), (.nl 4)]), vu (.st 7 (.t 17) (.t 93))]) (.seq (.reg [vm 94 2, vf 95 1 13, vs 96 95, vf 97 3 13, vl 98 2 97, vo 99 (.build [(zi 0), (zi 0), (zi 0), (zi 0), (zi 0), (zi 0), (zi 0), (zi 0), (zi 0), (zi 0), (.d (.b false)), (zi 0)] [(1, 1, (.t 94)), (2, 1, (.t 96)), (3, 2, (.t 98))]), vo 18 (.alloc [(zi 0), (zi 0), (zi 0), (zi 0), (zi 0), (zi 0), (zi 0), (zi 0), (zi 0), (zi 0), (.d (.b false)), (zi 0)]), vu (.st 12 (.t 18) (.t 99))]) (.seq (.reg [mi 19 0]) (.seq (.seq (.reg [vf 100 0 13, vs 101 100]) (.block 0 (.seq (.reg [bk 205 .eql 101 1, vm 204 205]) (.wk (.cond (.t 204) (.seq (.reg [vf 206 0 18, vu (.st 1 (.t 206) (ci 5))]) (.seq (.reg [vf 207 5 13, vs 208 207, vf 209 5 18, vu (.st 1 (.t 209) (.t 208))]) (.seq (.reg [vf 210 6 13, vs 211 210, vf 212 6 18, vu (.st 1 (.t 212) (.t 211))]) (.seq (.reg [vf 213 9 13, vs 214 213, vf 215 9 18, vu (.st 1 (.t 215) (.t 214))]) (.seq (.reg [vf 216 0 17, vl 217 4 216, vo 20 (.alloc [(.nl 3), (.nl 6), (.nl 3), (.nl 2)]), vu (.st 4 (.t 20) (.t 217))]) (.seq (.seq (.reg [vf 218 5 13, vs 219 218, vm 220 1, bt 221 .eql 219 220]) (.wk (.cond (.t 221) (.draw [vd (vm 223 3) 0, vd (vm 224 1) 0, vd (xa 225 4 223 224) 3, vd (vl 226 4 225) 7, vd (vf 227 3 13) 0, vd (vl 228 2 227) 16, vd (vf 229 6 13) 0, vd (vs 230 229) 64, vd (vo 231 (.call 35 [(.t 226), (.t 228), (.t 230)])) 255, vd (vm 222 231) 511, vd (et 232 222 0) 1023, vd (et 233 222 1) 1023, vd (et 234 222 2) 1023, vd (et 235 222 3) 1023, vd (vu (.st 4 (.t 20) (.t 232))) 2047, vd (vf 236 7 18) 0x4fff, vd (vu (.st 1 (.t 236) (.t 233))) 0xcfff, vd (vf 237 8 18) 0x1dfff, vd (vu (.st 1 (.t 237) (.t 234))) 0x3dfff, vd (vm 19 235) 0x7ffff]) (.draw [vd (vm 239 3) 0, vd (vf 240 5 13) 0, vd (vs 241 240) 2, vd (xa 242 4 239 241) 7, vd (vl 243 4 242) 15, vd (vf 244 6 13) 0, vd (vs 245 244) 32, vd (vo 246 (.call 36 [(.t 243), (.t 245)])) 127, vd (vm 238 246) 255, vd (et 247 238 0) 511, vd (et 248 238 1) 511, vd (et 249 238 2) 511, vd (vf 250 7 18) 1023, vd (vu (.st 1 (.t 250) (.t 247))) 5119, vd (vf 251 8 18) 0x37ff, vd (vu (.st 1 (.t 251) (.t 248))) 0x77ff, vd (vm 19 249) 0xffff])))) (.seq (.seq (.reg [vm 252 19, bk 253 .eql 252 0]) (.wk (.cond (.t 253) (.reg [vl 254 4 20, vf 255 0 17, vu (.st 4 (.t 255) (.t 254))]) .skip))) (.reg [vm 256 19, vf 257 11 18, vu (.st 1 (.t 257) (.t 256))])))))))) (.seq (.reg [bk 259 .eql 101 2, vm 258 259]) (.wk (.cond (.t 258) (.seq (.reg [vf 260 0 18, vu (.st 1 (.t 260) (ci 6))]) (.seq (.reg [vf 261 6 13, vs 262 261, vf 263 6 18, vu (.st 1 (.t 263) (.t 262))]) (.seq (.reg [vf 264 9 13, vs 265 264, vf 266 9 18, vu (.st 1 (.t 266) (.t 265))]) (.seq (.draw [vd (vm 268 3) 0, vd (vm 269 1) 0, vd (xa 270 4 268 269) 3, vd (vl 271 4 270) 7, vd (vf 272 3 13) 0, vd (vl 273 2 272) 16, vd (vf 274 6 13) 0, vd (vs 275 274) 64, vd (vf 276 7 13) 0, vd (vs 277 276) 256, vd (vf 278 9 13) 0, vd (vs 279 278) 1024, vd (vo 280 (.call 37 [(.t 271), (.t 273), (.t 275), (.t 277), (.t 279)])) 4095, vd (vm 267 280) 8191, vd (et 281 267 0) 0x3fff, vd (et 282 267 1) 0x3fff, ⟨vo 21 (.alloc [(.nl 3), (.nl 6), (.nl 3), (.nl 2)]), 0, [12], none, []⟩, vd (vu (.st 4 (.t 21) (.t 281))) 0x17fff, vd (vm 22 282) 0x3ffff]) (.seq (.reg [vm 283 22, vm 19 283]) (.seq (.wk (.seq (.reg [vm 284 19, bk 285 .eql 284 0, vm 286 285, gt 287 286 (.mv (.t 5)), gt 288 286 (.bin .i .lss (.t 287) (ci 500)), vo 289 (.pick (.t 286) (.t 288) (cb false))]) (.cond (.t 289) (.reg [mi 19 8]) .skip))) (.seq (.seq (.reg [vm 290 19, bk 291 .eql 290 0]) (.wk (.cond (.t 291) (.seq (.reg [vl 292 4 21, vf 293 0 17, vu (.st 4 (.t 293) (.t 292))]) (.regs [[vf 294 5 17, vs 295 294, vf 296 3 13, vl 297 2 296, vf 298 6 13, vs 299 298, vf 300 7 13, vs 301 300, vf 302 9 13, vs 303 302, vo 304 (.build [(zi 0), (zi 0), (zi 0), (zi 0), (zi 0), (zi 0), (.d (.b false)), (.nl 1)] [(0, 1, (ci 1)), (1, 2, (.t 297)), (3, 1, (.t 299)), (4, 1, (.t 301)), (5, 1, (.t 303))])], [vo 305 (.bsl 8 1 [(zi 0), (zi 0), (zi 0), (zi 0), (zi 0), (zi 0), (.d (.b false)), (.nl 1)] [(0, (.t 304))]), vo 306 (.app 8 80 (.t 295) (.t 305)), vf 307 5 17, vu (.st 1 (.t 307) (.t 306))]])) .skip))) (.reg [vm 308 19, vf 309 11 18, vu (.st 1 (.t 309) (.t 308))])))))))) (.seq (.reg [bk 311 .eql 101 3, vm 310 311]) (.wk (.cond (.t 310) (.seq (.reg [vf 312 0 18, vu (.st 1 (.t 312) (ci 7))]) (.seq (.reg [vf 313 5 13, vs 314 313, vf 315 5 18, vu (.st 1 (.t 315) (.t 314))]) (.seq (.reg [vf 316 6 13, vs 317 316, vf 318 6 18, vu (.st 1 (.t 318) (.t 317))]) (.seq (.reg [vf 319 8 13, vs 320 319, vf 321 8 18, vu (.st 1 (.t 321) (.t 320))]) (.seq (.reg [vf 322 5 13, vs 323 322, vm 324 1, bt 325 .eql 323 324]) (.wk (.cond (.t 325) (.draw [vd (vm 327 3) 0, vd (vm 328 1) 0, vd (xa 329 4 327 328) 3, vd (vl 330 4 329) 7, vd (vf 331 3 13) 0, vd (vl 332 2 331) 16, vd (vf 333 6 13) 0, vd (vs 334 333) 64, vd (vf 335 8 13) 0, vd (vs 336 335) 256, vd (vo 337 (.call 38 [(.t 330), (.t 332), (.t 334), (.t 336)])) 1023, vd (vm 326 337) 2047, vd (et 338 326 0) 4095, vd (et 339 326 1) 4095, vd (vf 340 10 18) 8191, vd (vu (.st 1 (.t 340) (.t 338))) 0x5fff]) (.seq (.draw [vd (vm 342 3) 0, vd (vf 343 5 13) 0, vd (vs 344 343) 2, vd (xa 345 4 342 344) 7, vd (vl 346 4 345) 15, vd (vf 347 6 13) 0, vd (vs 348 347) 32, vd (vo 349 (.call 36 [(.t 346), (.t 348)])) 127, vd (vm 341 349) 255, vd (et 350 341 0) 511, vd (et 351 341 1) 511, vd (et 352 341 2) 511, vd (vm 23 350) 1023, vd (vm 24 351) 6143, vd (vm 25 352) 0x3fff]) (.reg [vm 353 25, bk 354 .eql 353 0, vm 355 354, gt 356 355 (.mv (.t 24)), gt 357 355 (.fa 8 (.t 13)), gt 358 355 (.ld false 1 (.t 357)), gt 359 355 (.bin .i .eql (.t 356) (.t 358)), vo 360 (.pick (.t 355) (.t 359) (cb false)), vf 361 10 18, vu (.st 1 (.t 361) (.t 360))]))))))))) (.seq (.reg [vf 102 0 18, vu (.st 1 (.t 102) (ci 8))]) (.seq (.draw [vd (vm 104 3) 0, vd (vm 105 1) 0, vd (xa 106 4 104 105) 3, vd (vl 107 4 106) 7, vd (vf 108 3 13) 0, vd (vl 109 2 108) 16, vd (vo 110 (.call 39 [(.t 107), (.t 109)])) 63, vd (vm 103 110) 127, vd (et 111 103 0) 255, vd (et 112 103 1) 255, vd (vm 26 111) 511, vd (vm 27 112) 2047]) (.seq (.seq (.reg [mi 28 0]) (.wk (.block 1 (.loop (.seq (.seq (.reg [vm 113 28, vm 114 4, ln 115 114, bt 116 .lss 113 115]) (.cond (.t 116) .skip (.exit 1))) (.seq (.block 2 (.wk (.seq (.draw [vd (vm 119 4) 0, vd (vm 120 28) 0, vd (xa 121 4 119 120) 3, vd (vf 122 0 121) 7, vd (vl 123 2 122) 15, vd (vf 124 3 13) 0, vd (vl 125 2 124) 32, vd (vo 126 (.eqs false [.i, .i] (.t 123) (.t 125))) 127, vd (vm 127 126) 255, vd (gt 128 127 (.mv (.t 4))) 511, vd (gt 129 127 (.mv (.t 28))) 511, vd (gt 130 127 (.ia 4 (.t 128) (.t 129))) 2047, vd (gt 131 127 (.fa 2 (.t 130))) 4095, vd (gt 132 127 (.ld false 1 (.t 131))) 8191, vd (gt 133 127 (.fa 10 (.t 13))) 511, vd (gt 134 127 (.ld false 1 (.t 133))) 0x41ff, vd (gt 135 127 (.bin .b .neq (.t 132) (.t 134))) 0xffff, vd (vo 136 (.pick (.t 127) (.t 135) (cb false))) 0x1ffff, vd (vm 137 136) 0x3ffff, vd (gt 138 137 (.mv (.t 4))) 0x7ffff, vd (gt 139 137 (.mv (.t 28))) 0x7ffff, vd (gt 140 137 (.ia 4 (.t 138) (.t 139))) 0x1fffff, vd (gt 141 137 (.fa 3 (.t 140))) 0x3fffff, vd (gt 142 137 (.ld false 1 (.t 141))) 0x7fffff, vd (gt 143 137 (.un .not (.t 142))) 0xffffff, vd (vo 144 (.pick (.t 137) (.t 143) (cb false))) 0x1ffffff]) (.cond (.t 144) (.reg [vm 145 26, bk 146 .add 145 1, vm 26 146]) .skip)))) (.reg [vm 117 28, bk 118 .add 117 1, vm 28 118]))))))) (.seq (.seq (.reg [vm 147 26, bk 148 .gtr 147 0]) (.wk (.cond (.t 148) (.regs [[vf 149 5 17, vs 150 149, vf 151 3 13, vl 152 2 151, vf 153 10 13, vs 154 153, vo 155 (.build [(zi 0), (zi 0), (zi 0), (zi 0), (zi 0), (zi 0), (.d (.b false)), (.nl 1)] [(0, 1, (ci 2)), (1, 2, (.t 152)), (6, 1, (.t 154))])], [vo 156 (.bsl 8 1 [(zi 0), (zi 0), (zi 0), (zi 0), (zi 0), (zi 0), (.d (.b false)), (.nl 1)] [(0, (.t 155))]), vo 157 (.app 8 80 (.t 150) (.t 156)), vf 158 5 17, vu (.st 1 (.t 158) (.t 157))]]) .skip))) (.seq (.draw [vd (vm 160 3) 0, vd (vm 161 1) 0, vd (xa 162 4 160 161) 3, vd (vl 163 4 162) 7, vd (vf 164 3 13) 0, vd (vl 165 2 164) 16, vd (vf 166 10 13) 0, vd (vs 167 166) 64, vd (vo 168 (.call 40 [(.t 163), (.t 165), (.t 167)])) 255, vd (vm 159 168) 511, vd (et 169 159 0) 1023, vd (et 170 159 1) 1023, vd (vf 171 0 17) 2047, vd (vu (.st 4 (.t 171) (.t 169))) 6143]) (.seq (.reg [mi 29 0]) (.wk (.block 3 (.loop (.seq (.seq (.reg [vm 172 29, vf 173 6 17, vs 174 173, ln 175 174, bt 176 .lss 172 175]) (.cond (.t 176) .skip (.exit 3))) (.seq (.block 4 (.wk (.seq (.draw [vd (vf 179 6 17) 0, vd (vs 180 179) 1, vd (vm 181 29) 0, vd (xa 182 4 180 181) 7, vd (vf 183 0 182) 15, vd (vl 184 2 183) 31, vd (vf 185 3 13) 0, vd (vl 186 2 185) 64, vd (vo 187 (.eqs false [.i, .i] (.t 184) (.t 186))) 255, vd (vm 188 187) 511, vd (gt 189 188 (.fa 6 (.t 17))) 1023, vd (gt 190 188 (.ld false 1 (.t 189))) 2047, vd (gt 191 188 (.mv (.t 29))) 1023, vd (gt 192 188 (.ia 4 (.t 190) (.t 191))) 8191, vd (gt 193 188 (.fa 2 (.t 192))) 0x3fff, vd (gt 194 188 (.ld false 1 (.t 193))) 0x7fff, vd (gt 195 188 (.fa 10 (.t 13))) 1023, vd (gt 196 188 (.ld false 1 (.t 195))) 0x103ff, vd (gt 197 188 (.bin .b .neq (.t 194) (.t 196))) 0x3ffff, vd (vo 198 (.pick (.t 188) (.t 197) (cb false))) 0x7ffff]) (.cond (.t 198) (.reg [vf 199 6 17, vs 200 199, vm 201 29, xa 202 4 200 201, vf 203 3 202, vu (.st 1 (.t 203) (cb true))]) .skip)))) (.reg [vm 177 29, bk 178 .add 177 1, vm 29 178]))))))))))))))))))))))) (.seq (.wk (.seq (.reg [vm 362 19, bk 363 .eql 362 0, vm 364 363, gf 365 364 (.mv (.t 19)), gf 366 364 (.bin .i .eql (.t 365) (ci 11)), vo 367 (.pick (.t 364) (cb true) (.t 366)), vm 368 367, gf 369 368 (.mv (.t 19)), gf 370 368 (.bin .i .eql (.t 369) (ci 8)), vo 371 (.pick (.t 368) (cb true) (.t 370))]) (.cond (.t 371) (.reg [vf 372 4 17, vs 373 372, vl 374 12 18, vo 375 (.bsl 12 1 [(zi 0), (zi 0), (zi 0), (zi 0), (zi 0), (zi 0), (zi 0), (zi 0), (zi 0), (zi 0), (.d (.b false)), (zi 0)] [(0, (.t 374))]), vo 376 (.app 12 96 (.t 373) (.t 375)), vf 377 4 17, vu (.st 1 (.t 377) (.t 376))]) .skip))) (.seq (.reg [vl 378 7 17, vu (.st 7 (.t 14) (.t 378)), mi 15 0]) .ret))))))))))))), [.cell 14 true 7, .t 15]⟩
theorem low9 : lowF Tryd.prog 9 = some F9.strip := by kernel_rfl
theorem fok9 : fOk Tryd.prog 9 = true := by kernel_rfl
theorem reredosref_HeardOf_ok (p0 : Config) (p1 : Int) (p2 : Int) (p3 : List Store) (p4 : List Note) (p5 : Int) (p6 : Message) (r : Answer × Int) (h : reredosref_HeardOf p0 p1 p2 p3 p4 p5 p6 = some r) : FnRO Tryd.prog G 9 [.agg p0.bx, .one (.d (.i .i64 p1)), .one (.d (.i .i64 p2)), .one (.d (.l 4 (p3.map Store.enc))), .one (.d (.l 4 (p4.map Note.enc))), .one (.d (.i .i64 p5)), .agg p6.bx] (fun rs => rs = [.agg (r.1.enc), .one (.i .i64 r.2)]) := by
 refine FnRO.fz ?_ rfl
 refine FnRO.of' low9 fok9 (by simp [F9]) ?_
 rw [reredosref_HeardOf] at h
 replace h := Hd.mk h
 simp only [F9, go_sem]
 try simp only [*, go_sem]
 refine cr h (reredosref_siteFault_ok G p0 p1 p2 p3) (fun v1 h => ?_)
 try simp only [*, go_sem]
 refine jn1 h (fun b2_1 => [zI 1 p1, zI 2 p2, zL 3 4 (p3.map Store.enc), zL 4 4 (p4.map Note.enc), zI 5 p5, zK 7 (Config.enc p0), zK 13 (Message.enc p6), zP 14 0, zI 16 b2_1]) (fun b2_1 => [ox [.nl 3, .nl 6, .nl 3, .nl 2, .nl 12, .nl 8, .nl 4]]) (fun k3 h => ?_) (fun b2_1 h => ?_)
 refine oi h (fun hb4 h => ?_) (fun hb4 h => ?_)
 try simp only [*, go_sem]
 refine cr h (reredosref_MessageFault_ok G p0 p6) (fun v5 h => ?_)
 try simp only [*, go_sem]
 exact jc (v5) h.e [some 0]
 try simp only [*, go_sem]
 exact jc (v1) h.e [some 0]
 try simp only [*, go_sem]
 refine jn1 h (fun b6_1 => [zI 1 p1, zI 2 p2, zL 3 4 (p3.map Store.enc), zL 4 4 (p4.map Note.enc), zI 5 p5, zK 7 (Config.enc p0), zK 13 (Message.enc p6), zP 14 0, zI 16 b6_1]) (fun b6_1 => [ox [.nl 3, .nl 6, .nl 3, .nl 2, .nl 12, .nl 8, .nl 4]]) (fun k7 h => ?_) (fun b6_1 h => ?_)
 refine oi h (fun hb8 h => ?_) (fun hb8 h => ?_)
 refine oi h (fun hb9 h => ?_) (fun hb9 h => ?_)
 try simp only [*, go_sem]
 exact jc (2) h.e [some 0]
 try simp only [*, go_sem]
 exact jc (b2_1) h.e [some 0]
 try simp only [*, go_sem]
 exact jc (b2_1) h.e [some 0]
 try simp only [*, go_sem]
 refine jn1 h (fun b10_1 => [zI 1 p1, zI 2 p2, zL 3 4 (p3.map Store.enc), zL 4 4 (p4.map Note.enc), zI 5 p5, zK 13 (Message.enc p6), zP 14 0, zI 16 b10_1]) (fun b10_1 => [ox [.nl 3, .nl 6, .nl 3, .nl 2, .nl 12, .nl 8, .nl 4]]) (fun k11 h => ?_) (fun b10_1 h => ?_)
 refine oi h (fun hb12 h => ?_) (fun hb12 h => ?_)
 refine oi h (fun hb13 h => ?_) (fun hb13 h => ?_)
 refine obn h (fun x14 _ _ _ _ h => ?_)
 refine obn h (fun x16 _ _ _ _ h => ?_)
 refine obk h (fun v18 hv18 h => ?_)
 try simp only [*, go_sem]
 refine cd (reredosref_Dominates_ok G x14 x16 v18 hv18) ?_
 refine oin h (fun hb19 hkhb19 h => ?_) (fun hb19 hkhb19 h => ?_)
 try simp only [*, go_sem]
 exact jc (10) h.e [some 0]
 try simp only [*, go_sem]
 exact jc (b6_1) h.e [some 0]
 refine oi h (fun hb20 h => ?_) (fun hb20 h => ?_)
 refine obn h (fun x21 _ _ _ _ h => ?_)
 refine obn h (fun x23 _ _ _ _ h => ?_)
 refine obk h (fun v25 hv25 h => ?_)
 try simp only [*, go_sem]
 refine cd (reredosref_Dominates_ok G x21 x23 v25 hv25) ?_
 refine oin h (fun hb26 hkhb26 h => ?_) (fun hb26 hkhb26 h => ?_)
 try simp only [*, go_sem]
 exact jc (10) h.e [some 0]
 try simp only [*, go_sem]
 exact jc (b6_1) h.e [some 0]
 try simp only [*, go_sem]
 exact jc (b6_1) h.e [some 0]
 try simp only [*, go_sem]
 exact jc (b6_1) h.e [some 0]
 try simp only [*, go_sem]
 refine jn1 h (fun b27_1 => [zI 1 p1, zI 2 p2, zL 3 4 (p3.map Store.enc), zL 4 4 (p4.map Note.enc), zI 5 p5, zK 13 (Message.enc p6), zP 14 0, zI 16 b27_1]) (fun b27_1 => [ox [.nl 3, .nl 6, .nl 3, .nl 2, .nl 12, .nl 8, .nl 4]]) (fun k28 h => ?_) (fun b27_1 h => ?_)
 refine oi h (fun hb29 h => ?_) (fun hb29 h => ?_)
 refine oi h (fun hb30 h => ?_) (fun hb30 h => ?_)
 try simp only [*, go_sem]
 exact jc (3) h.e [some 0]
 try simp only [*, go_sem]
 exact jc (b10_1) h.e [some 0]
 try simp only [*, go_sem]
 exact jc (b10_1) h.e [some 0]
 refine oi h (fun hb31 h => ?_) (fun hb31 h => ?_)
 cases h.e
 simp only [*, go_sem, mA, mS]
 refine obn h (fun x32 _ _ _ _ h => ?_)
 try simp only [*, go_sem]
 refine cr h (reredosref_StoreCopy_ok G x32) (fun v34 h => ?_)
 try simp only [*, go_sem]
 refine cr h (reredosref_NotesCopy_ok G p4) (fun v35 h => ?_)
 try simp only [*, go_sem]
 refine jn15 h (fun b36_1 b36_2 b36_3 b36_4 b36_5 b36_6 b36_7 b36_8 b36_9 b36_10 b36_11 b36_12 b36_13 b36_14 b36_15 => [zP 14 0, zP 17 1, zP 18 2, zI 19 b36_1]) (fun b36_1 b36_2 b36_3 b36_4 b36_5 b36_6 b36_7 b36_8 b36_9 b36_10 b36_11 b36_12 b36_13 b36_14 b36_15 => [ox [.nl 3, .nl 6, .nl 3, .nl 2, .nl 12, .nl 8, .nl 4], ox [.d (.l 3 (b36_2.map Item.enc)), .d (.l 6 (b36_3.map Lock.enc)), .d (.l 3 (b36_4.map Doubt.enc)), .d (.l 2 (b36_5.map Txn.enc)), .nl 12, .r 3 0 b36_14.length, .r 4 0 b36_15.length], ox [.d (.i .i64 ((b36_6 : Nat) : Int)), zi p2, zi p6.From, zi p6.Txn.Site, zi p6.Txn.N, zi b36_7, zi b36_8, zi b36_9, zi b36_10, zi b36_11, .d (.b b36_12), zi b36_13], oa 8 (b36_14.map Record.enc), oa 4 (b36_15.map Note.enc)]) (fun k37 h => ?_) (fun b36_1 b36_2 b36_3 b36_4 b36_5 b36_6 b36_7 b36_8 b36_9 b36_10 b36_11 b36_12 b36_13 b36_14 b36_15 h => ?_)
 refine oi h (fun hb38 h => ?_) (fun hb38 h => ?_)
 try simp only [*, go_sem]
 refine jn7 h (fun b39_1 b39_2 b39_3 b39_4 b39_5 b39_6 b39_7 => [zP 14 0, zP 17 1, zP 18 2, zI 19 b39_1, zP 20 3]) (fun b39_1 b39_2 b39_3 b39_4 b39_5 b39_6 b39_7 => [ox [.nl 3, .nl 6, .nl 3, .nl 2, .nl 12, .nl 8, .nl 4], ox [.r 4 0 v34.Items.length, .r 5 0 v34.Locks.length, .r 6 0 v34.Doubts.length, .r 7 0 v34.Over.length, .nl 12, .nl 8, .r 8 0 v35.length], ox [zi 5, zi p2, zi p6.From, zi p6.Txn.Site, zi p6.Txn.N, zi p6.Label, zi p6.Key, zi b39_2, zi b39_3, zi p6.Ask, .d (.b false), zi 0], ox [.d (.l 3 (b39_4.map Item.enc)), .d (.l 6 (b39_5.map Lock.enc)), .d (.l 3 (b39_6.map Doubt.enc)), .d (.l 2 (b39_7.map Txn.enc))], oz 3 (v34.Items.map Item.enc), oz 6 (v34.Locks.map Lock.enc), oz 3 (v34.Doubts.map Doubt.enc), oz 2 (v34.Over.map Txn.enc), oa 4 (v35.map Note.enc)]) (fun k40 h => ?_) (fun b39_1 b39_2 b39_3 b39_4 b39_5 b39_6 b39_7 h => ?_)
 refine oi h (fun hb41 h => ?_) (fun hb41 h => ?_)
 refine obk h (fun v42 hv42 h => ?_)
 try simp only [*, go_sem]
 refine cd (FnRO.fz' (reredosref_ReadOf_ok G x32 p6.Txn p6.Key v42 hv42) rfl rfl) ?_
 try simp only [*, go_sem]
 exact jf [1, 2, 3, 4] (v42.2.2.2, v42.2.1, v42.2.2.1, v42.1.Items, v42.1.Locks, v42.1.Doubts, v42.1.Over) h.e [some 0, some 6, some 7, some 8, some 1, some 2, some 3, some 4, some 5]
 refine obn h (fun x43 _ _ _ _ h => ?_)
 refine obk h (fun v45 hv45 h => ?_)
 try simp only [*, go_sem]
 refine cd (reredosref_PeekOf_ok G x43 p6.Key v45 hv45) ?_
 try simp only [*, go_sem]
 exact jf [1, 2, 3, 4] (v45.2.2, v45.1, v45.2.1, v34.Items, v34.Locks, v34.Doubts, v34.Over) h.e [some 0, some 6, some 7, some 8, some 1, some 2, some 3, some 4, some 5]
 try simp only [*, go_sem]
 refine jn4 h (fun b46_1 b46_2 b46_3 b46_4 => [zP 14 0, zP 17 1, zP 18 2, zI 19 b39_1]) (fun b46_1 b46_2 b46_3 b46_4 => [ox [.nl 3, .nl 6, .nl 3, .nl 2, .nl 12, .nl 8, .nl 4], ox [.d (.l 3 (b46_1.map Item.enc)), .d (.l 6 (b46_2.map Lock.enc)), .d (.l 3 (b46_3.map Doubt.enc)), .d (.l 2 (b46_4.map Txn.enc)), .nl 12, .nl 8, .r 3 0 v35.length], ox [zi 5, zi p2, zi p6.From, zi p6.Txn.Site, zi p6.Txn.N, zi p6.Label, zi p6.Key, zi b39_2, zi b39_3, zi p6.Ask, .d (.b false), zi 0], oa 4 (v35.map Note.enc)]) (fun k47 h => ?_) (fun b46_1 b46_2 b46_3 b46_4 h => ?_)
 refine oi h (fun hb48 h => ?_) (fun hb48 h => ?_)
 try simp only [*, go_sem]
 exact jc (b39_4, b39_5, b39_6, b39_7) h.e [some 0, some 1, some 2, some 8]
 try simp only [*, go_sem]
 exact jc (v34.Items, v34.Locks, v34.Doubts, v34.Over) h.e [some 0, some 1, some 2, some 8]
 try simp only [*, go_sem]
 exact jc (b39_1, b46_1, b46_2, b46_3, b46_4, 5, p6.Label, p6.Key, b39_2, b39_3, p6.Ask, false, b39_1, [], v35) h.e [some 0, some 1, some 2, none, some 3]
 try simp only [*, go_sem]
 refine jn14 h (fun b49_1 b49_2 b49_3 b49_4 b49_5 b49_6 b49_7 b49_8 b49_9 b49_10 b49_11 b49_12 b49_13 b49_14 => [zP 14 0, zP 17 1, zP 18 2, zI 19 b49_1]) (fun b49_1 b49_2 b49_3 b49_4 b49_5 b49_6 b49_7 b49_8 b49_9 b49_10 b49_11 b49_12 b49_13 b49_14 => [ox [.nl 3, .nl 6, .nl 3, .nl 2, .nl 12, .nl 8, .nl 4], ox [.d (.l 3 (b49_2.map Item.enc)), .d (.l 6 (b49_3.map Lock.enc)), .d (.l 3 (b49_4.map Doubt.enc)), .d (.l 2 (b49_5.map Txn.enc)), .nl 12, .r 3 0 b49_13.length, .r 4 0 b49_14.length], ox [.d (.i .i64 ((b49_6 : Nat) : Int)), zi p2, zi p6.From, zi p6.Txn.Site, zi p6.Txn.N, zi b49_7, zi b49_8, zi 0, zi b49_9, zi b49_10, .d (.b b49_11), zi b49_12], oa 8 (b49_13.map Record.enc), oa 4 (b49_14.map Note.enc)]) (fun k50 h => ?_) (fun b49_1 b49_2 b49_3 b49_4 b49_5 b49_6 b49_7 b49_8 b49_9 b49_10 b49_11 b49_12 b49_13 b49_14 h => ?_)
 refine oi h (fun hb51 h => ?_) (fun hb51 h => ?_)
 refine obk h (fun v52 hv52 h => ?_)
 try simp only [*, go_sem]
 refine cd (FnRO.fz' (reredosref_WriteOf_ok G x32 p6.Txn p6.Key p6.Value p6.Ask v52 hv52) rfl rfl) ?_
 try simp only [*, go_sem]
 refine jn1 h (fun b53_1 => [zK 13 (Message.enc p6), zP 14 0, zP 17 1, zP 18 2, zI 19 b53_1, zP 21 3]) (fun b53_1 => [ox [.nl 3, .nl 6, .nl 3, .nl 2, .nl 12, .nl 8, .nl 4], ox [.r 4 0 v34.Items.length, .r 5 0 v34.Locks.length, .r 6 0 v34.Doubts.length, .r 7 0 v34.Over.length, .nl 12, .nl 8, .r 8 0 v35.length], ox [zi 6, zi p2, zi p6.From, zi p6.Txn.Site, zi p6.Txn.N, zi 0, zi p6.Key, zi 0, zi 0, zi p6.Ask, .d (.b false), zi 0], ox v52.1.bx, oa 3 (v34.Items.map Item.enc), oa 6 (v34.Locks.map Lock.enc), oa 3 (v34.Doubts.map Doubt.enc), oa 2 (v34.Over.map Txn.enc), oa 4 (v35.map Note.enc)]) (fun k54 h => ?_) (fun b53_1 h => ?_)
 refine oi h (fun hb55 h => ?_) (fun hb55 h => ?_)
 refine oi h (fun hb56 h => ?_) (fun hb56 h => ?_)
 have := of_decide_eq_true hb56
 try simp only [*, go_sem]
 exact jc (8) h.e [some 0, some 6, some 7, some 24, some 1, some 2, some 3, some 4, some 5]
 try simp only [*, go_sem]
 exact jc (v52.2) h.e [some 0, some 6, some 7, some 24, some 1, some 2, some 3, some 4, some 5]
 try simp only [*, go_sem]
 exact jc (v52.2) h.e [some 0, some 6, some 7, some 24, some 1, some 2, some 3, some 4, some 5]
 try simp only [*, go_sem]
 refine jn5 h (fun b57_1 b57_2 b57_3 b57_4 b57_5 => [zP 14 0, zP 17 1, zP 18 2, zI 19 b53_1]) (fun b57_1 b57_2 b57_3 b57_4 b57_5 => [ox [.nl 3, .nl 6, .nl 3, .nl 2, .nl 12, .nl 8, .nl 4], ox [.d (.l 3 (b57_1.map Item.enc)), .d (.l 6 (b57_2.map Lock.enc)), .d (.l 3 (b57_3.map Doubt.enc)), .d (.l 2 (b57_4.map Txn.enc)), .nl 12, .r 3 0 b57_5.length, .r 4 0 v35.length], ox [zi 6, zi p2, zi p6.From, zi p6.Txn.Site, zi p6.Txn.N, zi 0, zi p6.Key, zi 0, zi 0, zi p6.Ask, .d (.b false), zi 0], oa 8 (b57_5.map Record.enc), oa 4 (v35.map Note.enc)]) (fun k58 h => ?_) (fun b57_1 b57_2 b57_3 b57_4 b57_5 h => ?_)
 refine oi h (fun hb59 h => ?_) (fun hb59 h => ?_)
 try simp only [*, go_sem]
 refine rg0 h ([zP 14 0, zP 17 1, zP 18 2, zI 19 b53_1, (295, .one (.nl 8)), (304, .agg [zi 1, zi p6.Txn.Site, zi p6.Txn.N, zi p6.Key, zi p6.Value, zi p6.Ask, .d (.b false), .nl 1])]) ([ox [.nl 3, .nl 6, .nl 3, .nl 2, .nl 12, .nl 8, .nl 4], ox [.d (.l 3 (v52.1.Items.map Item.enc)), .d (.l 6 (v52.1.Locks.map Lock.enc)), .d (.l 3 (v52.1.Doubts.map Doubt.enc)), .d (.l 2 (v52.1.Over.map Txn.enc)), .nl 12, .nl 8, .r 3 0 v35.length], ox [zi 6, zi p2, zi p6.From, zi p6.Txn.Site, zi p6.Txn.N, zi 0, zi p6.Key, zi 0, zi 0, zi p6.Ask, .d (.b false), zi 0], oa 4 (v35.map Note.enc)]) (fun k61 h => ?_) (fun h => ?_)
 try simp only [*, go_sem]
 exact jc () h.e [some 0, some 1, some 2, some 8]
 have : fits 80 1 := by decide
 try simp only [*, go_sem]
 exact jc (v52.1.Items, v52.1.Locks, v52.1.Doubts, v52.1.Over, [(Record.mk 1 p6.Txn p6.Key p6.Value p6.Ask false [])]) h.e [some 0, some 1, some 2, some 5, some 3]
 try simp only [*, go_sem]
 exact jf [4, 5, 6, 7] (v34.Items, v34.Locks, v34.Doubts, v34.Over, []) h.e [some 0, some 1, some 2, none, some 8]
 try simp only [*, go_sem]
 exact jc (b53_1, b57_1, b57_2, b57_3, b57_4, 6, 0, p6.Key, 0, p6.Ask, false, b53_1, b57_5, v35) h.e [some 0, some 1, some 2, some 3, some 4]
 try simp only [*, go_sem]
 refine jn11 h (fun b63_1 b63_2 b63_3 b63_4 b63_5 b63_6 b63_7 b63_8 b63_9 b63_10 b63_11 => [zP 14 0, zP 17 1, zP 18 2, zI 19 0]) (fun b63_1 b63_2 b63_3 b63_4 b63_5 b63_6 b63_7 b63_8 b63_9 b63_10 b63_11 => [ox [.nl 3, .nl 6, .nl 3, .nl 2, .nl 12, .nl 8, .nl 4], ox [.d (.l 3 (b63_1.map Item.enc)), .d (.l 6 (b63_2.map Lock.enc)), .d (.l 3 (b63_3.map Doubt.enc)), .d (.l 2 (b63_4.map Txn.enc)), .nl 12, .r 3 0 b63_10.length, .r 4 0 b63_11.length], ox [.d (.i .i64 ((b63_5 : Nat) : Int)), zi p2, zi p6.From, zi p6.Txn.Site, zi p6.Txn.N, zi b63_6, zi b63_7, zi 0, zi b63_8, zi 0, .d (.b b63_9), zi 0], oa 8 (b63_10.map Record.enc), oa 4 (b63_11.map Note.enc)]) (fun k64 h => ?_) (fun b63_1 b63_2 b63_3 b63_4 b63_5 b63_6 b63_7 b63_8 b63_9 b63_10 b63_11 h => ?_)
 refine oi h (fun hb65 h => ?_) (fun hb65 h => ?_)
 try simp only [*, go_sem]
 refine jn1 h (fun b66_1 => [zP 14 0, zP 17 1, zP 18 2, zI 19 0]) (fun b66_1 => [ox [.nl 3, .nl 6, .nl 3, .nl 2, .nl 12, .nl 8, .nl 4], ox [.r 3 0 v34.Items.length, .r 4 0 v34.Locks.length, .r 5 0 v34.Doubts.length, .r 6 0 v34.Over.length, .nl 12, .nl 8, .r 7 0 v35.length], ox [zi 7, zi p2, zi p6.From, zi p6.Txn.Site, zi p6.Txn.N, zi p6.Label, zi p6.Key, zi 0, zi p6.Version, zi 0, .d (.b b66_1), zi 0], oa 3 (v34.Items.map Item.enc), oa 6 (v34.Locks.map Lock.enc), oa 3 (v34.Doubts.map Doubt.enc), oa 2 (v34.Over.map Txn.enc), oa 4 (v35.map Note.enc)]) (fun k67 h => ?_) (fun b66_1 h => ?_)
 refine oi h (fun hb68 h => ?_) (fun hb68 h => ?_)
 refine obk h (fun v69 hv69 h => ?_)
 try simp only [*, go_sem]
 refine cd (reredosref_StillOf_ok G x32 p6.Txn p6.Key p6.Version v69 hv69) ?_
 try simp only [*, go_sem]
 exact jc (v69.1) h.e [some 0, some 6, some 7, some 1, some 2, some 3, some 4, some 5]
 refine obn h (fun x70 _ _ _ _ h => ?_)
 refine obk h (fun v72 hv72 h => ?_)
 try simp only [*, go_sem]
 refine cd (reredosref_PeekOf_ok G x70 p6.Key v72 hv72) ?_
 refine oi h (fun hb73 h => ?_) (fun hb73 h => ?_)
 try simp only [*, go_sem]
 exact jc (v72.2.1 == p6.Version) h.e [some 0, some 6, some 7, some 1, some 2, some 3, some 4, some 5]
 try simp only [*, go_sem]
 exact jc (false) h.e [some 0, some 6, some 7, some 1, some 2, some 3, some 4, some 5]
 try simp only [*, go_sem]
 exact jf [3, 4, 5, 6] (v34.Items, v34.Locks, v34.Doubts, v34.Over, 7, p6.Label, p6.Key, p6.Version, b66_1, [], v35) h.e [some 0, some 1, some 2, none, some 7]
 refine obk h (fun v74 hv74 h => ?_)
 try simp only [*, go_sem]
 refine cd (reredosref_WritesOf_ok G x32 p6.Txn v74 hv74) ?_
 try simp only [*, go_sem]
 refine jn1 h (fun b75_1 => [zI 1 p1, zL 3 4 (p3.map Store.enc), zK 13 (Message.enc p6), zP 14 0, zP 17 1, zP 18 2, zI 19 0, zI 26 b75_1]) (fun b75_1 => [ox [.nl 3, .nl 6, .nl 3, .nl 2, .nl 12, .nl 8, .nl 4], ox [.r 3 0 v34.Items.length, .r 4 0 v34.Locks.length, .r 5 0 v34.Doubts.length, .r 6 0 v34.Over.length, .nl 12, .nl 8, .r 7 0 v35.length], ox [zi 8, zi p2, zi p6.From, zi p6.Txn.Site, zi p6.Txn.N, zi 0, zi 0, zi 0, zi 0, zi 0, .d (.b false), zi 0], oa 3 (v34.Items.map Item.enc), oa 6 (v34.Locks.map Lock.enc), oa 3 (v34.Doubts.map Doubt.enc), oa 2 (v34.Over.map Txn.enc), oa 4 (v35.map Note.enc)]) (fun k76 h => ?_) (fun b75_1 h => ?_)
 try simp only [*, go_sem]
 refine lp2 (reredosref_HeardOf_L1 p4 p6 k76) (fun a77_1 a77_2 => [zI 1 p1, zL 3 4 (p3.map Store.enc), zL 4 4 (p4.map Note.enc), zK 13 (Message.enc p6), zP 14 0, zP 17 1, zP 18 2, zI 19 0, zI 26 a77_1, zI 28 ((a77_2 : Nat) : Int)]) (fun a77_1 a77_2 => [ox [.nl 3, .nl 6, .nl 3, .nl 2, .nl 12, .nl 8, .nl 4], ox [.r 3 0 v34.Items.length, .r 4 0 v34.Locks.length, .r 5 0 v34.Doubts.length, .r 6 0 v34.Over.length, .nl 12, .nl 8, .r 7 0 v35.length], ox [zi 8, zi p2, zi p6.From, zi p6.Txn.Site, zi p6.Txn.N, zi 0, zi 0, zi 0, zi 0, zi 0, .d (.b false), zi 0], oa 3 (v34.Items.map Item.enc), oa 6 (v34.Locks.map Lock.enc), oa 3 (v34.Doubts.map Doubt.enc), oa 2 (v34.Over.map Txn.enc), oa 4 (v35.map Note.enc)]) h [] [some 0, some 6, some 7, some 1, some 2, some 3, some 4, some 5] (fun n78 a77_1 a77_2 h => ?_) (by intros; rw [reredosref_HeardOf_L1])
 rw [reredosref_HeardOf_L1] at h
 try simp only [*, go_sem]
 intro hl79
 refine oi h (fun hb80 h => ?_) (fun hb80 h => ?_)
 have hkhb80 := of_decide_eq_true hb80
 try simp only [*, go_sem]
 refine jn1 h (fun b81_1 => [zI 1 p1, zL 3 4 (p3.map Store.enc), zL 4 4 (p4.map Note.enc), zK 13 (Message.enc p6), zP 14 0, zP 17 1, zP 18 2, zI 19 0, zI 26 b81_1, zI 28 ((a77_2 : Nat) : Int)]) (fun b81_1 => [ox [.nl 3, .nl 6, .nl 3, .nl 2, .nl 12, .nl 8, .nl 4], ox [.r 3 0 v34.Items.length, .r 4 0 v34.Locks.length, .r 5 0 v34.Doubts.length, .r 6 0 v34.Over.length, .nl 12, .nl 8, .r 7 0 v35.length], ox [zi 8, zi p2, zi p6.From, zi p6.Txn.Site, zi p6.Txn.N, zi 0, zi 0, zi 0, zi 0, zi 0, .d (.b false), zi 0], oa 3 (v34.Items.map Item.enc), oa 6 (v34.Locks.map Lock.enc), oa 3 (v34.Doubts.map Doubt.enc), oa 2 (v34.Over.map Txn.enc), oa 4 (v35.map Note.enc)]) (fun k82 h => ?_) (fun b81_1 h => ?_)
 refine obg h (fun x83 _ _ h => ?_)
 refine oi h (fun hb84 h => ?_) (fun hb84 h => ?_)
 try simp only [*, go_sem]
 refine oin h (fun hb85 hkhb85 h => ?_) (fun hb85 hkhb85 h => ?_)
 refine oin h (fun hb86 hkhb86 h => ?_) (fun hb86 hkhb86 h => ?_)
 try simp only [*, go_sem]
 exact jc (IntKind.i64.wrap (a77_1 + 1)) h.e [some 0, some 1, some 2, some 3, some 4, some 5, some 6, some 7]
 try simp only [*, go_sem]
 exact jc (a77_1) h.e [some 0, some 1, some 2, some 3, some 4, some 5, some 6, some 7]
 try simp only [*, go_sem]
 exact jc (a77_1) h.e [some 0, some 1, some 2, some 3, some 4, some 5, some 6, some 7]
 try simp only [*, go_sem]
 try simp only [*, go_sem]
 exact jc (a77_1) h.e [some 0, some 1, some 2, some 3, some 4, some 5, some 6, some 7]
 have := wrap_succ_max hkhb80 hl79
 try simp only [*, go_sem]
 exact lc (b81_1, a77_2 + 1) h.e [some 0, some 1, some 2, some 3, some 4, some 5, some 6, some 7]
 try simp only [*, go_sem]
 exact jc (a77_1) h.e [some 0, some 1, some 2, some 3, some 4, some 5, some 6, some 7]
 try simp only [*, go_sem]
 refine jn1 h (fun b88_1 => [zI 1 p1, zL 3 4 (p3.map Store.enc), zK 13 (Message.enc p6), zP 14 0, zP 17 1, zP 18 2, zI 19 0]) (fun b88_1 => [ox [.nl 3, .nl 6, .nl 3, .nl 2, .nl 12, .nl 8, .nl 4], ox [.r 3 0 v34.Items.length, .r 4 0 v34.Locks.length, .r 5 0 v34.Doubts.length, .r 6 0 v34.Over.length, .nl 12, .r 7 0 b88_1.length, .r 8 0 v35.length], ox [zi 8, zi p2, zi p6.From, zi p6.Txn.Site, zi p6.Txn.N, zi 0, zi 0, zi 0, zi 0, zi 0, .d (.b false), zi 0], oa 3 (v34.Items.map Item.enc), oa 6 (v34.Locks.map Lock.enc), oa 3 (v34.Doubts.map Doubt.enc), oa 2 (v34.Over.map Txn.enc), oa 8 (b88_1.map Record.enc), oa 4 (v35.map Note.enc)]) (fun k89 h => ?_) (fun b88_1 h => ?_)
 refine oi h (fun hb90 h => ?_) (fun hb90 h => ?_)
 try simp only [*, go_sem]
 refine rg0 h ([zI 1 p1, zL 3 4 (p3.map Store.enc), zK 13 (Message.enc p6), zP 14 0, zP 17 1, zP 18 2, zI 19 0, (150, .one (.nl 8)), (155, .agg [zi 2, zi p6.Txn.Site, zi p6.Txn.N, zi 0, zi 0, zi 0, .d (.b p6.Yes), .nl 1])]) ([ox [.nl 3, .nl 6, .nl 3, .nl 2, .nl 12, .nl 8, .nl 4], ox [.r 3 0 v34.Items.length, .r 4 0 v34.Locks.length, .r 5 0 v34.Doubts.length, .r 6 0 v34.Over.length, .nl 12, .nl 8, .r 7 0 v35.length], ox [zi 8, zi p2, zi p6.From, zi p6.Txn.Site, zi p6.Txn.N, zi 0, zi 0, zi 0, zi 0, zi 0, .d (.b false), zi 0], oa 3 (v34.Items.map Item.enc), oa 6 (v34.Locks.map Lock.enc), oa 3 (v34.Doubts.map Doubt.enc), oa 2 (v34.Over.map Txn.enc), oa 4 (v35.map Note.enc)]) (fun k92 h => ?_) (fun h => ?_)
 try simp only [*, go_sem]
 exact jc () h.e [some 0, some 1, some 2, some 3, some 4, some 5, some 6, some 7]
 have : fits 80 1 := by decide
 try simp only [*, go_sem]
 exact jc ([(Record.mk 2 p6.Txn 0 0 0 p6.Yes [])]) h.e [some 0, some 1, some 2, some 3, some 4, some 5, some 6, some 9, some 7]
 try simp only [*, go_sem]
 exact jc ([]) h.e [some 0, some 1, some 2, some 3, some 4, some 5, some 6, none, some 7]
 refine obk h (fun v94 hv94 h => ?_)
 try simp only [*, go_sem]
 refine cd (FnRO.fz' (reredosref_EndOf_ok G x32 p6.Txn p6.Yes v94 hv94) rfl rfl) ?_
 try simp only [*, go_sem]
 refine jn1 h (fun b95_1 => [zP 14 0, zP 17 1, zP 18 2, zI 19 0]) (fun b95_1 => [ox [.nl 3, .nl 6, .nl 3, .nl 2, .nl 12, .nl 8, .nl 4], ox [.d (.l 3 (v94.1.Items.map Item.enc)), .d (.l 6 (v94.1.Locks.map Lock.enc)), .d (.l 3 (v94.1.Doubts.map Doubt.enc)), .d (.l 2 (v94.1.Over.map Txn.enc)), .nl 12, .r 3 0 b88_1.length, .r 4 0 b95_1.length], ox [zi 8, zi p2, zi p6.From, zi p6.Txn.Site, zi p6.Txn.N, zi 0, zi 0, zi 0, zi 0, zi 0, .d (.b false), zi 0], oa 8 (b88_1.map Record.enc), oa 4 (b95_1.map Note.enc)]) (fun k96 h => ?_) (fun b95_1 h => ?_)
 try simp only [*, go_sem]
 refine lp2 (reredosref_HeardOf_L2 p6 k96) (fun a97_1 a97_2 => [zK 13 (Message.enc p6), zP 14 0, zP 17 1, zP 18 2, zI 19 0, zI 29 ((a97_1 : Nat) : Int)]) (fun a97_1 a97_2 => [ox [.nl 3, .nl 6, .nl 3, .nl 2, .nl 12, .nl 8, .nl 4], ox [.d (.l 3 (v94.1.Items.map Item.enc)), .d (.l 6 (v94.1.Locks.map Lock.enc)), .d (.l 3 (v94.1.Doubts.map Doubt.enc)), .d (.l 2 (v94.1.Over.map Txn.enc)), .nl 12, .r 3 0 b88_1.length, .r 4 0 a97_2.length], ox [zi 8, zi p2, zi p6.From, zi p6.Txn.Site, zi p6.Txn.N, zi 0, zi 0, zi 0, zi 0, zi 0, .d (.b false), zi 0], oa 8 (b88_1.map Record.enc), oa 4 (a97_2.map Note.enc)]) h [] [some 0, some 1, some 2, some 7, some 8] (fun n98 a97_1 a97_2 h => ?_) (by intros; rw [reredosref_HeardOf_L2])
 rw [reredosref_HeardOf_L2] at h
 try simp only [*, go_sem]
 intro hl99
 refine oi h (fun hb100 h => ?_) (fun hb100 h => ?_)
 have hkhb100 := of_decide_eq_true hb100
 try simp only [*, go_sem]
 refine jn1 h (fun b101_1 => [zK 13 (Message.enc p6), zP 14 0, zP 17 1, zP 18 2, zI 19 0, zI 29 ((a97_1 : Nat) : Int)]) (fun b101_1 => [ox [.nl 3, .nl 6, .nl 3, .nl 2, .nl 12, .nl 8, .nl 4], ox [.d (.l 3 (v94.1.Items.map Item.enc)), .d (.l 6 (v94.1.Locks.map Lock.enc)), .d (.l 3 (v94.1.Doubts.map Doubt.enc)), .d (.l 2 (v94.1.Over.map Txn.enc)), .nl 12, .r 3 0 b88_1.length, .r 4 0 b101_1.length], ox [zi 8, zi p2, zi p6.From, zi p6.Txn.Site, zi p6.Txn.N, zi 0, zi 0, zi 0, zi 0, zi 0, .d (.b false), zi 0], oa 8 (b88_1.map Record.enc), oa 4 (b101_1.map Note.enc)]) (fun k102 h => ?_) (fun b101_1 h => ?_)
 refine obg h (fun x103 _ _ h => ?_)
 refine oi h (fun hb104 h => ?_) (fun hb104 h => ?_)
 try simp only [*, go_sem]
 refine oin h (fun hb105 hkhb105 h => ?_) (fun hb105 hkhb105 h => ?_)
 try simp only [*, go_sem]
 exact jc ((a97_2.set a97_1 (Note.mk x103.Txn x103.Yes true))) h.e [some 0, some 1, some 2, some 3, some 4]
 try simp only [*, go_sem]
 exact jc (a97_2) h.e [some 0, some 1, some 2, some 3, some 4]
 try simp only [*, go_sem]
 try simp only [*, go_sem]
 exact jc (a97_2) h.e [some 0, some 1, some 2, some 3, some 4]
 have := wrap_succ_max hkhb100 hl99
 try simp only [*, go_sem]
 exact lc (a97_1 + 1, b101_1) h.e [some 0, some 1, some 2, some 3, some 4]
 try simp only [*, go_sem]
 exact jc (a97_2) h.e [some 0, some 1, some 2, some 3, some 4]
 try simp only [*, go_sem]
 exact jc (v94.1.Items, v94.1.Locks, v94.1.Doubts, v94.1.Over, 8, 0, 0, 0, false, b88_1, b95_1) h.e [some 0, some 1, some 2, some 3, some 4]
 try simp only [*, go_sem]
 exact jc (0, b63_1, b63_2, b63_3, b63_4, b63_5, b63_6, b63_7, b63_8, 0, b63_9, 0, b63_10, b63_11) h.e [some 0, some 1, some 2, some 3, some 4]
 try simp only [*, go_sem]
 exact jc (b49_1, b49_2, b49_3, b49_4, b49_5, b49_6, b49_7, b49_8, 0, b49_9, b49_10, b49_11, b49_12, b49_13, b49_14) h.e [some 0, some 1, some 2, some 3, some 4]
 try simp only [*, go_sem]
 refine jn1 h (fun b107_1 => [zP 14 0, zP 17 1]) (fun b107_1 => [ox [.nl 3, .nl 6, .nl 3, .nl 2, .nl 12, .nl 8, .nl 4], ox [.d (.l 3 (b36_2.map Item.enc)), .d (.l 6 (b36_3.map Lock.enc)), .d (.l 3 (b36_4.map Doubt.enc)), .d (.l 2 (b36_5.map Txn.enc)), .r 2 0 b107_1.length, .r 3 0 b36_14.length, .r 4 0 b36_15.length], oa 12 (b107_1.map Message.enc), oa 8 (b36_14.map Record.enc), oa 4 (b36_15.map Note.enc)]) (fun k108 h => ?_) (fun b107_1 h => ?_)
 refine oi h (fun hb109 h => ?_) (fun hb109 h => ?_)
 have : fits 96 1 := by decide
 try simp only [*, go_sem]
 exact jc ([(Message.mk ((b36_6 : Nat) : Int) p2 p6.From p6.Txn b36_7 b36_8 b36_9 b36_10 b36_11 b36_12 b36_13)]) h.e [some 0, some 1, some 6, some 3, some 4]
 refine oi h (fun hb111 h => ?_) (fun hb111 h => ?_)
 have : fits 96 1 := by decide
 try simp only [*, go_sem]
 exact jc ([(Message.mk ((b36_6 : Nat) : Int) p2 p6.From p6.Txn b36_7 b36_8 b36_9 b36_10 b36_11 b36_12 b36_13)]) h.e [some 0, some 1, some 6, some 3, some 4]
 refine oi h (fun hb113 h => ?_) (fun hb113 h => ?_)
 have : fits 96 1 := by decide
 try simp only [*, go_sem]
 exact jc ([(Message.mk ((b36_6 : Nat) : Int) p2 p6.From p6.Txn b36_7 b36_8 b36_9 b36_10 b36_11 b36_12 b36_13)]) h.e [some 0, some 1, some 6, some 3, some 4]
 try simp only [*, go_sem]
 exact jc ([]) h.e [some 0, some 1, none, some 3, some 4]
 cases h.e
 simp only [*, go_sem, mA, mS]
def reredoslaw_sameTxns_L1 (p0 : List Txn) (p1 : List Txn) (k5 : Option (Bool)) : Nat → Nat → Option (Bool)
 | 0, _ => none
 | n7 + 1, a6_1 => (if (decide (a6_1 < p0.length)) = true then (Option.bind (p0[a6_1]?) fun x10 => (Option.bind (p1[a6_1]?) fun x11 => (if (!((x10.Site == x11.Site) && (x10.N == x11.N))) = true then (some false) else (reredoslaw_sameTxns_L1 p0 p1 k5 n7 (a6_1 + 1))))) else k5)
def reredoslaw_sameTxns (p0 : List Txn) (p1 : List Txn) : Option (Bool) := (if (((p0.length : Nat) : Int) != ((p1.length : Nat) : Int)) = true then (some false) else (withK (some true) fun k5 => (reredoslaw_sameTxns_L1 p0 p1 k5 (p0.length + 1) 0)))
def F102 : VFn := ⟨26, (.seq (.reg [vo 4 (.mv (cb false))]) (.seq (.seq (.reg [vm 6 0, ln 7 6, vm 8 1, ln 9 8, bt 10 .neq 7 9]) (.cond (.t 10) (.seq (.reg [vo 4 (.mv (cb false))]) .ret) .skip)) (.seq (.seq (.reg [mi 5 0]) (.wk (.block 0 (.loop (.seq (.seq (.reg [vm 11 5, vm 12 0, ln 13 12, bt 14 .lss 11 13]) (.cond (.t 14) .skip (.exit 0))) (.seq (.block 1 (.seq (.draw [vd (vm 17 0) 0, vd (vm 18 5) 0, vd (xa 19 2 17 18) 3, vd (vl 20 2 19) 7, vd (vm 21 1) 0, vd (vm 22 5) 0, vd (xa 23 2 21 22) 48, vd (vl 24 2 23) 112, vd (vo 25 (.eqs true [.i, .i] (.t 20) (.t 24))) 255]) (.cond (.t 25) (.seq (.reg [vo 4 (.mv (cb false))]) .ret) .skip))) (.reg [vm 15 5, bk 16 .add 15 1, vm 5 16]))))))) (.seq (.reg [vo 4 (.mv (cb true))]) .ret)))), [.t 4]⟩
theorem low102 : lowF Tryd.prog 102 = some F102.strip := by kernel_rfl
theorem fok102 : fOk Tryd.prog 102 = true := by kernel_rfl
theorem reredoslaw_sameTxns_ok (p0 : List Txn) (p1 : List Txn) (r : Bool) (h : reredoslaw_sameTxns p0 p1 = some r) : FnRO Tryd.prog G 102 [.one (.d (.l 2 (p0.map Txn.enc))), .one (.d (.l 2 (p1.map Txn.enc)))] (fun rs => rs = [.one (.b r)]) := by
 refine FnRO.of' low102 fok102 (by simp [F102]) ?_
 rw [reredoslaw_sameTxns] at h
 replace h := Hd.mk h
 simp only [F102, go_sem]
 try simp only [*, go_sem]
 intro hl1
 try simp only [*, go_sem]
 intro hl2
 refine oi h (fun hb3 h => ?_) (fun hb3 h => ?_)
 cases h.e
 simp only [*, go_sem, mA, mS]
 try simp only [*, go_sem]
 refine jn0 h ([]) ([]) (fun k5 h => ?_) (fun h => ?_)
 try simp only [*, go_sem]
 refine lp1 (reredoslaw_sameTxns_L1 p0 p1 k5) (fun a6_1 => [zL 0 2 (p0.map Txn.enc), zL 1 2 (p1.map Txn.enc), zI 5 ((a6_1 : Nat) : Int)]) (fun a6_1 => []) h [] [] (fun n7 a6_1 h => ?_) (by intros; rw [reredoslaw_sameTxns_L1])
 rw [reredoslaw_sameTxns_L1] at h
 try simp only [*, go_sem]
 intro hl8
 refine oi h (fun hb9 h => ?_) (fun hb9 h => ?_)
 have := of_decide_eq_true hb9
 refine obg h (fun x10 _ hkx10 h => ?_)
 refine obg h (fun x11 _ _ h => ?_)
 refine oin h (fun hb12 hkhb12 h => ?_) (fun hb12 hkhb12 h => ?_)
 try simp only [*, go_sem]
 cases h.e
 simp only [*, go_sem, mA, mS]
 try simp only [*, go_sem]
 have := wrap_succ_max hkx10 hl1
 try simp only [*, go_sem]
 exact lc (a6_1 + 1) h.e []
 try simp only [*, go_sem]
 exact jc () h.e []
 cases h.e
 simp only [*, go_sem, mA, mS]
def reredoslaw_sameStore_L1 (p0 : Store) (p1 : Store) (k13 : Option (Bool)) : Nat → Nat → Option (Bool)
 | 0, _ => none
 | n15 + 1, a14_1 => (if (decide (a14_1 < p0.Items.length)) = true then (Option.bind (p0.Items[a14_1]?) fun x18 => (Option.bind (p1.Items[a14_1]?) fun x19 => (if (!((x18.Key == x19.Key) && ((x18.Value == x19.Value) && (x18.Version == x19.Version)))) = true then (some false) else (reredoslaw_sameStore_L1 p0 p1 k13 n15 (a14_1 + 1))))) else k13)
def reredoslaw_sameStore_L2 (p0 : Store) (p1 : Store) (k23 : Option (Bool)) : Nat → Nat → Option (Bool)
 | 0, _ => none
 | n25 + 1, a24_1 => (if (decide (a24_1 < p0.Locks.length)) = true then (Option.bind (p0.Locks[a24_1]?) fun x28 => (Option.bind (p1.Locks[a24_1]?) fun x29 => (if (!((x28.Txn.Site == x29.Txn.Site) && ((x28.Txn.N == x29.Txn.N) && ((x28.Key == x29.Key) && ((x28.Write == x29.Write) && ((x28.Value == x29.Value) && (x28.Ask == x29.Ask))))))) = true then (some false) else (reredoslaw_sameStore_L2 p0 p1 k23 n25 (a24_1 + 1))))) else k23)
def reredoslaw_sameStore_L3 (p0 : Store) (p1 : Store) (k33 : Option (Bool)) : Nat → Nat → Option (Bool)
 | 0, _ => none
 | n35 + 1, a34_1 => (if (decide (a34_1 < p0.Doubts.length)) = true then (Option.bind (p0.Doubts[a34_1]?) fun x38 => (Option.bind (p1.Doubts[a34_1]?) fun x39 => (if (!((x38.Txn.Site == x39.Txn.Site) && ((x38.Txn.N == x39.Txn.N) && (x38.Age == x39.Age)))) = true then (some false) else (reredoslaw_sameStore_L3 p0 p1 k33 n35 (a34_1 + 1))))) else k33)
def reredoslaw_sameStore (p0 : Store) (p1 : Store) : Option (Bool) := (if (((p0.Items.length : Nat) : Int) != ((p1.Items.length : Nat) : Int)) = true then (some false) else (if (((p0.Locks.length : Nat) : Int) != ((p1.Locks.length : Nat) : Int)) = true then (some false) else (if (((p0.Doubts.length : Nat) : Int) != ((p1.Doubts.length : Nat) : Int)) = true then (some false) else (Option.bind (reredoslaw_sameTxns p0.Over p1.Over) fun v10 => (if (!v10) = true then (some false) else (withK (withK (withK (some true) fun k33 => (reredoslaw_sameStore_L3 p0 p1 k33 (p0.Doubts.length + 1) 0)) fun k23 => (reredoslaw_sameStore_L2 p0 p1 k23 (p0.Locks.length + 1) 0)) fun k13 => (reredoslaw_sameStore_L1 p0 p1 k13 (p0.Items.length + 1) 0)))))))
def F41 : VFn := ⟨95, (.seq (.reg [vo 2 (.box 4 (.t 0)), vo 3 (.box 4 (.t 1)), vo 4 (.mv (cb false))]) (.seq (.seq (.reg [vf 8 0 2, vs 9 8, ln 10 9, vf 11 0 3, vs 12 11, ln 13 12, bt 14 .neq 10 13, vm 15 14, gf 16 15 (.fa 1 (.t 2)), gf 17 15 (.ld false 1 (.t 16)), gf 18 15 (.len (.t 17)), gf 19 15 (.fa 1 (.t 3)), gf 20 15 (.ld false 1 (.t 19)), gf 21 15 (.len (.t 20)), gf 22 15 (.bin .i .neq (.t 18) (.t 21)), vo 23 (.pick (.t 15) (cb true) (.t 22)), vm 24 23, gf 25 24 (.fa 2 (.t 2)), gf 26 24 (.ld false 1 (.t 25)), gf 27 24 (.len (.t 26)), gf 28 24 (.fa 2 (.t 3)), gf 29 24 (.ld false 1 (.t 28)), gf 30 24 (.len (.t 29)), gf 31 24 (.bin .i .neq (.t 27) (.t 30)), vo 32 (.pick (.t 24) (cb true) (.t 31)), vm 33 32, gf 34 33 (.fa 3 (.t 2)), gf 35 33 (.ld false 1 (.t 34)), gf 36 33 (.fa 3 (.t 3)), gf 37 33 (.ld false 1 (.t 36)), gf 38 33 (.call 102 [(.t 35), (.t 37)]), gf 39 33 (.un .not (.t 38)), vo 40 (.pick (.t 33) (cb true) (.t 39))]) (.cond (.t 40) (.seq (.reg [vo 4 (.mv (cb false))]) .ret) .skip)) (.seq (.seq (.reg [mi 5 0]) (.wk (.block 0 (.loop (.seq (.seq (.reg [vm 41 5, vf 42 0 2, vs 43 42, ln 44 43, bt 45 .lss 41 44]) (.cond (.t 45) .skip (.exit 0))) (.seq (.block 1 (.seq (.draw [vd (vf 48 0 2) 0, vd (vs 49 48) 1, vd (vm 50 5) 0, vd (xa 51 3 49 50) 7, vd (vl 52 3 51) 15, vd (vf 53 0 3) 0, vd (vs 54 53) 32, vd (vm 55 5) 0, vd (xa 56 3 54 55) 224, vd (vl 57 3 56) 480, vd (vo 58 (.eqs true [.i, .i, .i] (.t 52) (.t 57))) 1023]) (.cond (.t 58) (.seq (.reg [vo 4 (.mv (cb false))]) .ret) .skip))) (.reg [vm 46 5, bk 47 .add 46 1, vm 5 47]))))))) (.seq (.seq (.reg [mi 6 0]) (.wk (.block 2 (.loop (.seq (.seq (.reg [vm 59 6, vf 60 1 2, vs 61 60, ln 62 61, bt 63 .lss 59 62]) (.cond (.t 63) .skip (.exit 2))) (.seq (.block 3 (.seq (.draw [vd (vf 66 1 2) 0, vd (vs 67 66) 1, vd (vm 68 6) 0, vd (xa 69 6 67 68) 7, vd (vl 70 6 69) 15, vd (vf 71 1 3) 0, vd (vs 72 71) 32, vd (vm 73 6) 0, vd (xa 74 6 72 73) 224, vd (vl 75 6 74) 480, vd (vo 76 (.eqs true [.i, .i, .i, .b, .i, .i] (.t 70) (.t 75))) 1023]) (.cond (.t 76) (.seq (.reg [vo 4 (.mv (cb false))]) .ret) .skip))) (.reg [vm 64 6, bk 65 .add 64 1, vm 6 65]))))))) (.seq (.seq (.reg [mi 7 0]) (.wk (.block 4 (.loop (.seq (.seq (.reg [vm 77 7, vf 78 2 2, vs 79 78, ln 80 79, bt 81 .lss 77 80]) (.cond (.t 81) .skip (.exit 4))) (.seq (.block 5 (.seq (.draw [vd (vf 84 2 2) 0, vd (vs 85 84) 1, vd (vm 86 7) 0, vd (xa 87 3 85 86) 7, vd (vl 88 3 87) 15, vd (vf 89 2 3) 0, vd (vs 90 89) 32, vd (vm 91 7) 0, vd (xa 92 3 90 91) 224, vd (vl 93 3 92) 480, vd (vo 94 (.eqs true [.i, .i, .i] (.t 88) (.t 93))) 1023]) (.cond (.t 94) (.seq (.reg [vo 4 (.mv (cb false))]) .ret) .skip))) (.reg [vm 82 7, bk 83 .add 82 1, vm 7 83]))))))) (.seq (.reg [vo 4 (.mv (cb true))]) .ret)))))), [.t 4]⟩
theorem low41 : lowF Tryd.prog 41 = some F41.strip := by kernel_rfl
theorem fok41 : fOk Tryd.prog 41 = true := by kernel_rfl
theorem reredoslaw_sameStore_ok (p0 : Store) (p1 : Store) (r : Bool) (h : reredoslaw_sameStore p0 p1 = some r) : FnRO Tryd.prog G 41 [.agg p0.bx, .agg p1.bx] (fun rs => rs = [.one (.b r)]) := by
 refine FnRO.of' low41 fok41 (by simp [F41]) ?_
 rw [reredoslaw_sameStore] at h
 replace h := Hd.mk h
 simp only [F41, go_sem]
 try simp only [*, go_sem]
 intro hl1
 try simp only [*, go_sem]
 intro hl2
 refine oi h (fun hb3 h => ?_) (fun hb3 h => ?_)
 cases h.e
 simp only [*, go_sem, mA, mS]
 try simp only [*, go_sem]
 intro hl4
 try simp only [*, go_sem]
 intro hl5
 refine oi h (fun hb6 h => ?_) (fun hb6 h => ?_)
 cases h.e
 simp only [*, go_sem, mA, mS]
 try simp only [*, go_sem]
 intro hl7
 try simp only [*, go_sem]
 intro hl8
 refine oi h (fun hb9 h => ?_) (fun hb9 h => ?_)
 cases h.e
 simp only [*, go_sem, mA, mS]
 try simp only [*, go_sem]
 refine cr h (reredoslaw_sameTxns_ok G p0.Over p1.Over) (fun v10 h => ?_)
 refine oin h (fun hb11 hkhb11 h => ?_) (fun hb11 hkhb11 h => ?_)
 cases h.e
 simp only [*, go_sem, mA, mS]
 try simp only [*, go_sem]
 refine jn0 h ([zP 2 0, zP 3 1]) ([ox p0.bx, ox p1.bx]) (fun k13 h => ?_) (fun h => ?_)
 try simp only [*, go_sem]
 refine lp1 (reredoslaw_sameStore_L1 p0 p1 k13) (fun a14_1 => [zP 2 0, zP 3 1, zI 5 ((a14_1 : Nat) : Int)]) (fun a14_1 => [ox p0.bx, ox p1.bx]) h [] [some 0, some 1] (fun n15 a14_1 h => ?_) (by intros; rw [reredoslaw_sameStore_L1])
 rw [reredoslaw_sameStore_L1] at h
 try simp only [*, go_sem]
 intro hl16
 refine oi h (fun hb17 h => ?_) (fun hb17 h => ?_)
 have := of_decide_eq_true hb17
 refine obg h (fun x18 _ hkx18 h => ?_)
 refine obg h (fun x19 _ _ h => ?_)
 refine oin h (fun hb20 hkhb20 h => ?_) (fun hb20 hkhb20 h => ?_)
 try simp only [*, go_sem]
 cases h.e
 simp only [*, go_sem, mA, mS]
 try simp only [*, go_sem]
 have := wrap_succ_max hkx18 hl1
 try simp only [*, go_sem]
 exact lc (a14_1 + 1) h.e [some 0, some 1]
 try simp only [*, go_sem]
 exact jc () h.e [some 0, some 1]
 try simp only [*, go_sem]
 refine jn0 h ([zP 2 0, zP 3 1]) ([ox p0.bx, ox p1.bx]) (fun k23 h => ?_) (fun h => ?_)
 try simp only [*, go_sem]
 refine lp1 (reredoslaw_sameStore_L2 p0 p1 k23) (fun a24_1 => [zP 2 0, zP 3 1, zI 6 ((a24_1 : Nat) : Int)]) (fun a24_1 => [ox p0.bx, ox p1.bx]) h [] [some 0, some 1] (fun n25 a24_1 h => ?_) (by intros; rw [reredoslaw_sameStore_L2])
 rw [reredoslaw_sameStore_L2] at h
 try simp only [*, go_sem]
 intro hl26
 refine oi h (fun hb27 h => ?_) (fun hb27 h => ?_)
 have := of_decide_eq_true hb27
 refine obg h (fun x28 _ hkx28 h => ?_)
 refine obg h (fun x29 _ _ h => ?_)
 refine oin h (fun hb30 hkhb30 h => ?_) (fun hb30 hkhb30 h => ?_)
 try simp only [*, go_sem]
 cases h.e
 simp only [*, go_sem, mA, mS]
 try simp only [*, go_sem]
 have := wrap_succ_max hkx28 hl4
 try simp only [*, go_sem]
 exact lc (a24_1 + 1) h.e [some 0, some 1]
 try simp only [*, go_sem]
 exact jc () h.e [some 0, some 1]
 try simp only [*, go_sem]
 refine jn0 h ([]) ([]) (fun k33 h => ?_) (fun h => ?_)
 try simp only [*, go_sem]
 refine lp1 (reredoslaw_sameStore_L3 p0 p1 k33) (fun a34_1 => [zP 2 0, zP 3 1, zI 7 ((a34_1 : Nat) : Int)]) (fun a34_1 => [ox p0.bx, ox p1.bx]) h [] [some 0, some 1] (fun n35 a34_1 h => ?_) (by intros; rw [reredoslaw_sameStore_L3])
 rw [reredoslaw_sameStore_L3] at h
 try simp only [*, go_sem]
 intro hl36
 refine oi h (fun hb37 h => ?_) (fun hb37 h => ?_)
 have := of_decide_eq_true hb37
 refine obg h (fun x38 _ hkx38 h => ?_)
 refine obg h (fun x39 _ _ h => ?_)
 refine oin h (fun hb40 hkhb40 h => ?_) (fun hb40 hkhb40 h => ?_)
 try simp only [*, go_sem]
 cases h.e
 simp only [*, go_sem, mA, mS]
 try simp only [*, go_sem]
 have := wrap_succ_max hkx38 hl7
 try simp only [*, go_sem]
 exact lc (a34_1 + 1) h.e [some 0, some 1]
 try simp only [*, go_sem]
 exact jc () h.e []
 cases h.e
 simp only [*, go_sem, mA, mS]
def reredoslaw_sameMessages_L1 (p0 : List Message) (p1 : List Message) (k5 : Option (Bool)) : Nat → Nat → Option (Bool)
 | 0, _ => none
 | n7 + 1, a6_1 => (if (decide (a6_1 < p0.length)) = true then (Option.bind (p0[a6_1]?) fun x10 => (Option.bind (p1[a6_1]?) fun x11 => (if (!((x10.Kind == x11.Kind) && ((x10.From == x11.From) && ((x10.To == x11.To) && ((x10.Txn.Site == x11.Txn.Site) && ((x10.Txn.N == x11.Txn.N) && ((x10.Label == x11.Label) && ((x10.Key == x11.Key) && ((x10.Value == x11.Value) && ((x10.Version == x11.Version) && ((x10.Ask == x11.Ask) && ((x10.Yes == x11.Yes) && (x10.Code == x11.Code))))))))))))) = true then (some false) else (reredoslaw_sameMessages_L1 p0 p1 k5 n7 (a6_1 + 1))))) else k5)
def reredoslaw_sameMessages (p0 : List Message) (p1 : List Message) : Option (Bool) := (if (((p0.length : Nat) : Int) != ((p1.length : Nat) : Int)) = true then (some false) else (withK (some true) fun k5 => (reredoslaw_sameMessages_L1 p0 p1 k5 (p0.length + 1) 0)))
def F42 : VFn := ⟨26, (.seq (.reg [vo 4 (.mv (cb false))]) (.seq (.seq (.reg [vm 6 0, ln 7 6, vm 8 1, ln 9 8, bt 10 .neq 7 9]) (.cond (.t 10) (.seq (.reg [vo 4 (.mv (cb false))]) .ret) .skip)) (.seq (.seq (.reg [mi 5 0]) (.wk (.block 0 (.loop (.seq (.seq (.reg [vm 11 5, vm 12 0, ln 13 12, bt 14 .lss 11 13]) (.cond (.t 14) .skip (.exit 0))) (.seq (.block 1 (.seq (.draw [vd (vm 17 0) 0, vd (vm 18 5) 0, vd (xa 19 12 17 18) 3, vd (vl 20 12 19) 7, vd (vm 21 1) 0, vd (vm 22 5) 0, vd (xa 23 12 21 22) 48, vd (vl 24 12 23) 112, vd (vo 25 (.eqs true [.i, .i, .i, .i, .i, .i, .i, .i, .i, .i, .b, .i] (.t 20) (.t 24))) 255]) (.cond (.t 25) (.seq (.reg [vo 4 (.mv (cb false))]) .ret) .skip))) (.reg [vm 15 5, bk 16 .add 15 1, vm 5 16]))))))) (.seq (.reg [vo 4 (.mv (cb true))]) .ret)))), [.t 4]⟩
theorem low42 : lowF Tryd.prog 42 = some F42.strip := by kernel_rfl
theorem fok42 : fOk Tryd.prog 42 = true := by kernel_rfl
theorem reredoslaw_sameMessages_ok (p0 : List Message) (p1 : List Message) (r : Bool) (h : reredoslaw_sameMessages p0 p1 = some r) : FnRO Tryd.prog G 42 [.one (.d (.l 12 (p0.map Message.enc))), .one (.d (.l 12 (p1.map Message.enc)))] (fun rs => rs = [.one (.b r)]) := by
 refine FnRO.of' low42 fok42 (by simp [F42]) ?_
 rw [reredoslaw_sameMessages] at h
 replace h := Hd.mk h
 simp only [F42, go_sem]
 try simp only [*, go_sem]
 intro hl1
 try simp only [*, go_sem]
 intro hl2
 refine oi h (fun hb3 h => ?_) (fun hb3 h => ?_)
 cases h.e
 simp only [*, go_sem, mA, mS]
 try simp only [*, go_sem]
 refine jn0 h ([]) ([]) (fun k5 h => ?_) (fun h => ?_)
 try simp only [*, go_sem]
 refine lp1 (reredoslaw_sameMessages_L1 p0 p1 k5) (fun a6_1 => [zL 0 12 (p0.map Message.enc), zL 1 12 (p1.map Message.enc), zI 5 ((a6_1 : Nat) : Int)]) (fun a6_1 => []) h [] [] (fun n7 a6_1 h => ?_) (by intros; rw [reredoslaw_sameMessages_L1])
 rw [reredoslaw_sameMessages_L1] at h
 try simp only [*, go_sem]
 intro hl8
 refine oi h (fun hb9 h => ?_) (fun hb9 h => ?_)
 have := of_decide_eq_true hb9
 refine obg h (fun x10 _ hkx10 h => ?_)
 refine obg h (fun x11 _ _ h => ?_)
 refine oin h (fun hb12 hkhb12 h => ?_) (fun hb12 hkhb12 h => ?_)
 try simp only [*, go_sem]
 cases h.e
 simp only [*, go_sem, mA, mS]
 try simp only [*, go_sem]
 have := wrap_succ_max hkx10 hl1
 try simp only [*, go_sem]
 exact lc (a6_1 + 1) h.e []
 try simp only [*, go_sem]
 exact jc () h.e []
 cases h.e
 simp only [*, go_sem, mA, mS]
def reredoslaw_sameInts_L1 (p0 : List Int) (p1 : List Int) (k5 : Option (Bool)) : Nat → Nat → Option (Bool)
 | 0, _ => none
 | n7 + 1, a6_1 => (if (decide (a6_1 < p0.length)) = true then (Option.bind (p0[a6_1]?) fun x10 => (Option.bind (p1[a6_1]?) fun x11 => (if (x10 != x11) = true then (some false) else (reredoslaw_sameInts_L1 p0 p1 k5 n7 (a6_1 + 1))))) else k5)
def reredoslaw_sameInts (p0 : List Int) (p1 : List Int) : Option (Bool) := (if (((p0.length : Nat) : Int) != ((p1.length : Nat) : Int)) = true then (some false) else (withK (some true) fun k5 => (reredoslaw_sameInts_L1 p0 p1 k5 (p0.length + 1) 0)))
def F60 : VFn := ⟨26, (.seq (.reg [vo 4 (.mv (cb false))]) (.seq (.seq (.reg [vm 6 0, ln 7 6, vm 8 1, ln 9 8, bt 10 .neq 7 9]) (.cond (.t 10) (.seq (.reg [vo 4 (.mv (cb false))]) .ret) .skip)) (.seq (.seq (.reg [mi 5 0]) (.wk (.block 0 (.loop (.seq (.seq (.reg [vm 11 5, vm 12 0, ln 13 12, bt 14 .lss 11 13]) (.cond (.t 14) .skip (.exit 0))) (.seq (.block 1 (.seq (.draw [vd (vm 17 0) 0, vd (vm 18 5) 0, vd (xa 19 1 17 18) 3, vd (vs 20 19) 7, vd (vm 21 1) 0, vd (vm 22 5) 0, vd (xa 23 1 21 22) 48, vd (vs 24 23) 112, vd (bt 25 .neq 20 24) 255]) (.cond (.t 25) (.seq (.reg [vo 4 (.mv (cb false))]) .ret) .skip))) (.reg [vm 15 5, bk 16 .add 15 1, vm 5 16]))))))) (.seq (.reg [vo 4 (.mv (cb true))]) .ret)))), [.t 4]⟩
theorem low60 : lowF Tryd.prog 60 = some F60.strip := by kernel_rfl
theorem fok60 : fOk Tryd.prog 60 = true := by kernel_rfl
theorem reredoslaw_sameInts_ok (p0 : List Int) (p1 : List Int) (r : Bool) (h : reredoslaw_sameInts p0 p1 = some r) : FnRO Tryd.prog G 60 [.one (.d (.l 1 (p0.map encI))), .one (.d (.l 1 (p1.map encI)))] (fun rs => rs = [.one (.b r)]) := by
 refine FnRO.of' low60 fok60 (by simp [F60]) ?_
 rw [reredoslaw_sameInts] at h
 replace h := Hd.mk h
 simp only [F60, go_sem]
 try simp only [*, go_sem]
 intro hl1
 try simp only [*, go_sem]
 intro hl2
 refine oi h (fun hb3 h => ?_) (fun hb3 h => ?_)
 cases h.e
 simp only [*, go_sem, mA, mS]
 try simp only [*, go_sem]
 refine jn0 h ([]) ([]) (fun k5 h => ?_) (fun h => ?_)
 try simp only [*, go_sem]
 refine lp1 (reredoslaw_sameInts_L1 p0 p1 k5) (fun a6_1 => [zL 0 1 (p0.map encI), zL 1 1 (p1.map encI), zI 5 ((a6_1 : Nat) : Int)]) (fun a6_1 => []) h [] [] (fun n7 a6_1 h => ?_) (by intros; rw [reredoslaw_sameInts_L1])
 rw [reredoslaw_sameInts_L1] at h
 try simp only [*, go_sem]
 intro hl8
 refine oi h (fun hb9 h => ?_) (fun hb9 h => ?_)
 have := of_decide_eq_true hb9
 refine obg h (fun x10 _ hkx10 h => ?_)
 refine obg h (fun x11 _ _ h => ?_)
 refine oi h (fun hb12 h => ?_) (fun hb12 h => ?_)
 cases h.e
 simp only [*, go_sem, mA, mS]
 have := wrap_succ_max hkx10 hl1
 try simp only [*, go_sem]
 exact lc (a6_1 + 1) h.e []
 try simp only [*, go_sem]
 exact jc () h.e []
 cases h.e
 simp only [*, go_sem, mA, mS]
def reredoslaw_sameRecord (p0 : Record) (p1 : Record) : Option (Bool) := (withK (fun (b1_1 : Bool) => (some b1_1)) fun k2 => (if (p0.Kind == p1.Kind) = true then (if ((p0.Txn.Site == p1.Txn.Site) && (p0.Txn.N == p1.Txn.N)) = true then (if (p0.Key == p1.Key) = true then (if (p0.Value == p1.Value) = true then (if (p0.Ask == p1.Ask) = true then (if (p0.Yes == p1.Yes) = true then (Option.bind (reredoslaw_sameInts p0.Sites p1.Sites) fun v9 => (k2 v9)) else (k2 false)) else (k2 false)) else (k2 false)) else (k2 false)) else (k2 false)) else (k2 false)))
def F103 : VFn := ⟨52, (.seq (.reg [vo 2 (.box 8 (.t 0)), vo 3 (.box 8 (.t 1)), vo 4 (.mv (cb false))]) (.seq (.wk (.reg [vf 5 0 2, vs 6 5, vf 7 0 3, vs 8 7, bt 9 .eql 6 8, vm 10 9, gt 11 10 (.fa 1 (.t 2)), gt 12 10 (.ld true 2 (.t 11)), gt 13 10 (.fa 1 (.t 3)), gt 14 10 (.ld true 2 (.t 13)), gt 15 10 (.eqs false [.i, .i] (.t 12) (.t 14)), vo 16 (.pick (.t 10) (.t 15) (cb false)), vm 17 16, gt 18 17 (.fa 3 (.t 2)), gt 19 17 (.ld false 1 (.t 18)), gt 20 17 (.fa 3 (.t 3)), gt 21 17 (.ld false 1 (.t 20)), gt 22 17 (.bin .i .eql (.t 19) (.t 21)), vo 23 (.pick (.t 17) (.t 22) (cb false)), vm 24 23, gt 25 24 (.fa 4 (.t 2)), gt 26 24 (.ld false 1 (.t 25)), gt 27 24 (.fa 4 (.t 3)), gt 28 24 (.ld false 1 (.t 27)), gt 29 24 (.bin .i .eql (.t 26) (.t 28)), vo 30 (.pick (.t 24) (.t 29) (cb false)), vm 31 30, gt 32 31 (.fa 5 (.t 2)), gt 33 31 (.ld false 1 (.t 32)), gt 34 31 (.fa 5 (.t 3)), gt 35 31 (.ld false 1 (.t 34)), gt 36 31 (.bin .i .eql (.t 33) (.t 35)), vo 37 (.pick (.t 31) (.t 36) (cb false)), vm 38 37, gt 39 38 (.fa 6 (.t 2)), gt 40 38 (.ld false 1 (.t 39)), gt 41 38 (.fa 6 (.t 3)), gt 42 38 (.ld false 1 (.t 41)), gt 43 38 (.bin .b .eql (.t 40) (.t 42)), vo 44 (.pick (.t 38) (.t 43) (cb false)), vm 45 44, gt 46 45 (.fa 7 (.t 2)), gt 47 45 (.ld false 1 (.t 46)), gt 48 45 (.fa 7 (.t 3)), gt 49 45 (.ld false 1 (.t 48)), gt 50 45 (.call 60 [(.t 47), (.t 49)]), vo 51 (.pick (.t 45) (.t 50) (cb false)), vm 4 51])) .ret)), [.t 4]⟩
theorem low103 : lowF Tryd.prog 103 = some F103.strip := by kernel_rfl
theorem fok103 : fOk Tryd.prog 103 = true := by kernel_rfl
theorem reredoslaw_sameRecord_ok (p0 : Record) (p1 : Record) (r : Bool) (h : reredoslaw_sameRecord p0 p1 = some r) : FnRO Tryd.prog G 103 [.agg p0.bx, .agg p1.bx] (fun rs => rs = [.one (.b r)]) := by
 refine FnRO.of' low103 fok103 (by simp [F103]) ?_
 rw [reredoslaw_sameRecord] at h
 replace h := Hd.mk h
 simp only [F103, go_sem]
 try simp only [*, go_sem]
 refine jn1 h (fun b1_1 => [zB 4 b1_1]) (fun b1_1 => []) (fun k2 h => ?_) (fun b1_1 h => ?_)
 refine oi h (fun hb3 h => ?_) (fun hb3 h => ?_)
 refine oi h (fun hb4 h => ?_) (fun hb4 h => ?_)
 try simp only [*, go_sem]
 refine oi h (fun hb5 h => ?_) (fun hb5 h => ?_)
 refine oi h (fun hb6 h => ?_) (fun hb6 h => ?_)
 refine oi h (fun hb7 h => ?_) (fun hb7 h => ?_)
 refine oi h (fun hb8 h => ?_) (fun hb8 h => ?_)
 try simp only [*, go_sem]
 refine cr h (reredoslaw_sameInts_ok G p0.Sites p1.Sites) (fun v9 h => ?_)
 try simp only [*, go_sem]
 exact jc (v9) h.e []
 try simp only [*, go_sem]
 exact jc (false) h.e []
 try simp only [*, go_sem]
 exact jc (false) h.e []
 try simp only [*, go_sem]
 exact jc (false) h.e []
 try simp only [*, go_sem]
 exact jc (false) h.e []
 try simp only [*, go_sem]
 try simp only [*, go_sem]
 exact jc (false) h.e []
 try simp only [*, go_sem]
 exact jc (false) h.e []
 cases h.e
 simp only [*, go_sem, mA, mS]
def reredoslaw_sameRecords_L1 (p0 : List Record) (p1 : List Record) (k5 : Option (Bool)) : Nat → Nat → Option (Bool)
 | 0, _ => none
 | n7 + 1, a6_1 => (if (decide (a6_1 < p0.length)) = true then (Option.bind (p0[a6_1]?) fun x10 => (Option.bind (p1[a6_1]?) fun x11 => (Option.bind (reredoslaw_sameRecord x10 x11) fun v12 => (if (!v12) = true then (some false) else (reredoslaw_sameRecords_L1 p0 p1 k5 n7 (a6_1 + 1)))))) else k5)
def reredoslaw_sameRecords (p0 : List Record) (p1 : List Record) : Option (Bool) := (if (((p0.length : Nat) : Int) != ((p1.length : Nat) : Int)) = true then (some false) else (withK (some true) fun k5 => (reredoslaw_sameRecords_L1 p0 p1 k5 (p0.length + 1) 0)))
def F43 : VFn := ⟨27, (.seq (.reg [vo 4 (.mv (cb false))]) (.seq (.seq (.reg [vm 6 0, ln 7 6, vm 8 1, ln 9 8, bt 10 .neq 7 9]) (.cond (.t 10) (.seq (.reg [vo 4 (.mv (cb false))]) .ret) .skip)) (.seq (.seq (.reg [mi 5 0]) (.wk (.block 0 (.loop (.seq (.seq (.reg [vm 11 5, vm 12 0, ln 13 12, bt 14 .lss 11 13]) (.cond (.t 14) .skip (.exit 0))) (.seq (.block 1 (.seq (.draw [vd (vm 17 0) 0, vd (vm 18 5) 0, vd (xa 19 8 17 18) 3, vd (vl 20 8 19) 7, vd (vm 21 1) 0, vd (vm 22 5) 0, vd (xa 23 8 21 22) 48, vd (vl 24 8 23) 112, vd (vo 25 (.call 103 [(.t 20), (.t 24)])) 255, vd (nt 26 25) 511]) (.cond (.t 26) (.seq (.reg [vo 4 (.mv (cb false))]) .ret) .skip))) (.reg [vm 15 5, bk 16 .add 15 1, vm 5 16]))))))) (.seq (.reg [vo 4 (.mv (cb true))]) .ret)))), [.t 4]⟩
theorem low43 : lowF Tryd.prog 43 = some F43.strip := by kernel_rfl
theorem fok43 : fOk Tryd.prog 43 = true := by kernel_rfl
theorem reredoslaw_sameRecords_ok (p0 : List Record) (p1 : List Record) (r : Bool) (h : reredoslaw_sameRecords p0 p1 = some r) : FnRO Tryd.prog G 43 [.one (.d (.l 8 (p0.map Record.enc))), .one (.d (.l 8 (p1.map Record.enc)))] (fun rs => rs = [.one (.b r)]) := by
 refine FnRO.of' low43 fok43 (by simp [F43]) ?_
 rw [reredoslaw_sameRecords] at h
 replace h := Hd.mk h
 simp only [F43, go_sem]
 try simp only [*, go_sem]
 intro hl1
 try simp only [*, go_sem]
 intro hl2
 refine oi h (fun hb3 h => ?_) (fun hb3 h => ?_)
 cases h.e
 simp only [*, go_sem, mA, mS]
 try simp only [*, go_sem]
 refine jn0 h ([]) ([]) (fun k5 h => ?_) (fun h => ?_)
 try simp only [*, go_sem]
 refine lp1 (reredoslaw_sameRecords_L1 p0 p1 k5) (fun a6_1 => [zL 0 8 (p0.map Record.enc), zL 1 8 (p1.map Record.enc), zI 5 ((a6_1 : Nat) : Int)]) (fun a6_1 => []) h [] [] (fun n7 a6_1 h => ?_) (by intros; rw [reredoslaw_sameRecords_L1])
 rw [reredoslaw_sameRecords_L1] at h
 try simp only [*, go_sem]
 intro hl8
 refine oi h (fun hb9 h => ?_) (fun hb9 h => ?_)
 have := of_decide_eq_true hb9
 refine obg h (fun x10 _ hkx10 h => ?_)
 refine obg h (fun x11 _ _ h => ?_)
 refine obk h (fun v12 hv12 h => ?_)
 try simp only [*, go_sem]
 refine cd (reredoslaw_sameRecord_ok G x10 x11 v12 hv12) ?_
 refine oin h (fun hb13 hkhb13 h => ?_) (fun hb13 hkhb13 h => ?_)
 cases h.e
 simp only [*, go_sem, mA, mS]
 have := wrap_succ_max hkx10 hl1
 try simp only [*, go_sem]
 exact lc (a6_1 + 1) h.e []
 try simp only [*, go_sem]
 exact jc () h.e []
 cases h.e
 simp only [*, go_sem, mA, mS]
def reredoslaw_sameNotes_L1 (p0 : List Note) (p1 : List Note) (k5 : Option (Bool)) : Nat → Nat → Option (Bool)
 | 0, _ => none
 | n7 + 1, a6_1 => (if (decide (a6_1 < p0.length)) = true then (Option.bind (p0[a6_1]?) fun x10 => (Option.bind (p1[a6_1]?) fun x11 => (if (!((x10.Txn.Site == x11.Txn.Site) && ((x10.Txn.N == x11.Txn.N) && ((x10.Yes == x11.Yes) && (x10.Damage == x11.Damage))))) = true then (some false) else (reredoslaw_sameNotes_L1 p0 p1 k5 n7 (a6_1 + 1))))) else k5)
def reredoslaw_sameNotes (p0 : List Note) (p1 : List Note) : Option (Bool) := (if (((p0.length : Nat) : Int) != ((p1.length : Nat) : Int)) = true then (some false) else (withK (some true) fun k5 => (reredoslaw_sameNotes_L1 p0 p1 k5 (p0.length + 1) 0)))
def F11 : VFn := ⟨26, (.seq (.reg [vo 4 (.mv (cb false))]) (.seq (.seq (.reg [vm 6 0, ln 7 6, vm 8 1, ln 9 8, bt 10 .neq 7 9]) (.cond (.t 10) (.seq (.reg [vo 4 (.mv (cb false))]) .ret) .skip)) (.seq (.seq (.reg [mi 5 0]) (.wk (.block 0 (.loop (.seq (.seq (.reg [vm 11 5, vm 12 0, ln 13 12, bt 14 .lss 11 13]) (.cond (.t 14) .skip (.exit 0))) (.seq (.block 1 (.seq (.draw [vd (vm 17 0) 0, vd (vm 18 5) 0, vd (xa 19 4 17 18) 3, vd (vl 20 4 19) 7, vd (vm 21 1) 0, vd (vm 22 5) 0, vd (xa 23 4 21 22) 48, vd (vl 24 4 23) 112, vd (vo 25 (.eqs true [.i, .i, .b, .b] (.t 20) (.t 24))) 255]) (.cond (.t 25) (.seq (.reg [vo 4 (.mv (cb false))]) .ret) .skip))) (.reg [vm 15 5, bk 16 .add 15 1, vm 5 16]))))))) (.seq (.reg [vo 4 (.mv (cb true))]) .ret)))), [.t 4]⟩
theorem low11 : lowF Tryd.prog 11 = some F11.strip := by kernel_rfl
theorem fok11 : fOk Tryd.prog 11 = true := by kernel_rfl
theorem reredoslaw_sameNotes_ok (p0 : List Note) (p1 : List Note) (r : Bool) (h : reredoslaw_sameNotes p0 p1 = some r) : FnRO Tryd.prog G 11 [.one (.d (.l 4 (p0.map Note.enc))), .one (.d (.l 4 (p1.map Note.enc)))] (fun rs => rs = [.one (.b r)]) := by
 refine FnRO.of' low11 fok11 (by simp [F11]) ?_
 rw [reredoslaw_sameNotes] at h
 replace h := Hd.mk h
 simp only [F11, go_sem]
 try simp only [*, go_sem]
 intro hl1
 try simp only [*, go_sem]
 intro hl2
 refine oi h (fun hb3 h => ?_) (fun hb3 h => ?_)
 cases h.e
 simp only [*, go_sem, mA, mS]
 try simp only [*, go_sem]
 refine jn0 h ([]) ([]) (fun k5 h => ?_) (fun h => ?_)
 try simp only [*, go_sem]
 refine lp1 (reredoslaw_sameNotes_L1 p0 p1 k5) (fun a6_1 => [zL 0 4 (p0.map Note.enc), zL 1 4 (p1.map Note.enc), zI 5 ((a6_1 : Nat) : Int)]) (fun a6_1 => []) h [] [] (fun n7 a6_1 h => ?_) (by intros; rw [reredoslaw_sameNotes_L1])
 rw [reredoslaw_sameNotes_L1] at h
 try simp only [*, go_sem]
 intro hl8
 refine oi h (fun hb9 h => ?_) (fun hb9 h => ?_)
 have := of_decide_eq_true hb9
 refine obg h (fun x10 _ hkx10 h => ?_)
 refine obg h (fun x11 _ _ h => ?_)
 refine oin h (fun hb12 hkhb12 h => ?_) (fun hb12 hkhb12 h => ?_)
 try simp only [*, go_sem]
 cases h.e
 simp only [*, go_sem, mA, mS]
 try simp only [*, go_sem]
 have := wrap_succ_max hkx10 hl1
 try simp only [*, go_sem]
 exact lc (a6_1 + 1) h.e []
 try simp only [*, go_sem]
 exact jc () h.e []
 cases h.e
 simp only [*, go_sem, mA, mS]
def reredoslaw_sameAnswer (p0 : Answer) (p1 : Answer) : Option (Bool) := (withK (fun (b1_1 : Bool) => (some b1_1)) fun k2 => (Option.bind (reredoslaw_sameStore p0.Store p1.Store) fun v3 => (if v3 = true then (Option.bind (reredoslaw_sameMessages p0.Messages p1.Messages) fun v5 => (if v5 = true then (Option.bind (reredoslaw_sameRecords p0.Records p1.Records) fun v7 => (if v7 = true then (Option.bind (reredoslaw_sameNotes p0.Notes p1.Notes) fun v9 => (k2 v9)) else (k2 false))) else (k2 false))) else (k2 false))))
def F10 : VFn := ⟨31, (.seq (.reg [vo 2 (.box 7 (.t 0)), vo 3 (.box 7 (.t 1)), vo 4 (.mv (cb false))]) (.seq (.wk (.reg [vf 5 0 2, vl 6 4 5, vf 7 0 3, vl 8 4 7, vo 9 (.call 41 [(.t 6), (.t 8)]), vm 10 9, gt 11 10 (.fa 4 (.t 2)), gt 12 10 (.ld false 1 (.t 11)), gt 13 10 (.fa 4 (.t 3)), gt 14 10 (.ld false 1 (.t 13)), gt 15 10 (.call 42 [(.t 12), (.t 14)]), vo 16 (.pick (.t 10) (.t 15) (cb false)), vm 17 16, gt 18 17 (.fa 5 (.t 2)), gt 19 17 (.ld false 1 (.t 18)), gt 20 17 (.fa 5 (.t 3)), gt 21 17 (.ld false 1 (.t 20)), gt 22 17 (.call 43 [(.t 19), (.t 21)]), vo 23 (.pick (.t 17) (.t 22) (cb false)), vm 24 23, gt 25 24 (.fa 6 (.t 2)), gt 26 24 (.ld false 1 (.t 25)), gt 27 24 (.fa 6 (.t 3)), gt 28 24 (.ld false 1 (.t 27)), gt 29 24 (.call 11 [(.t 26), (.t 28)]), vo 30 (.pick (.t 24) (.t 29) (cb false)), vm 4 30])) .ret)), [.t 4]⟩
theorem low10 : lowF Tryd.prog 10 = some F10.strip := by kernel_rfl
theorem fok10 : fOk Tryd.prog 10 = true := by kernel_rfl
theorem reredoslaw_sameAnswer_ok (p0 : Answer) (p1 : Answer) (r : Bool) (h : reredoslaw_sameAnswer p0 p1 = some r) : FnRO Tryd.prog G 10 [.agg p0.bx, .agg p1.bx] (fun rs => rs = [.one (.b r)]) := by
 refine FnRO.of' low10 fok10 (by simp [F10]) ?_
 rw [reredoslaw_sameAnswer] at h
 replace h := Hd.mk h
 simp only [F10, go_sem]
 try simp only [*, go_sem]
 refine jn1 h (fun b1_1 => [zB 4 b1_1]) (fun b1_1 => []) (fun k2 h => ?_) (fun b1_1 h => ?_)
 try simp only [*, go_sem]
 refine cr h (reredoslaw_sameStore_ok G p0.Store p1.Store) (fun v3 h => ?_)
 refine oi h (fun hb4 h => ?_) (fun hb4 h => ?_)
 try simp only [*, go_sem]
 refine cr h (reredoslaw_sameMessages_ok G p0.Messages p1.Messages) (fun v5 h => ?_)
 refine oi h (fun hb6 h => ?_) (fun hb6 h => ?_)
 try simp only [*, go_sem]
 refine cr h (reredoslaw_sameRecords_ok G p0.Records p1.Records) (fun v7 h => ?_)
 refine oi h (fun hb8 h => ?_) (fun hb8 h => ?_)
 try simp only [*, go_sem]
 refine cr h (reredoslaw_sameNotes_ok G p0.Notes p1.Notes) (fun v9 h => ?_)
 try simp only [*, go_sem]
 exact jc (v9) h.e []
 try simp only [*, go_sem]
 exact jc (false) h.e []
 try simp only [*, go_sem]
 exact jc (false) h.e []
 try simp only [*, go_sem]
 exact jc (false) h.e []
 cases h.e
 simp only [*, go_sem, mA, mS]
def reredoslaw_PartHears (p0 : Config) (p1 : Int) (p2 : Int) (p3 : List Store) (p4 : List Note) (p5 : Int) (p6 : Message) : Option (Bool) := (Option.bind (reredosref_NotesCopy p4) fun v1 => (if fits 96 p3.length then (Option.bind (part_Hear p0 p1 p2 p3 v1 p5 p6) fun v4 => (withK (Option.bind (reredosref_HeardOf p0 p1 p2 p3 p4 p5 p6) fun v7 => (withK (fun (b8_1 : Bool) => (some b8_1)) fun k9 => (if (v4.2 == v7.2) = true then (Option.bind (reredoslaw_sameAnswer v4.1 v7.1) fun v11 => (if v11 = true then (Option.bind (reredoslaw_sameNotes v1 p4) fun v13 => (k9 v13)) else (k9 false))) else (k9 false)))) fun k6 => k6)) else none))
def F3 : VFn := ⟨58, (.seq (.reg [vo 7 (.box 3 (.t 0)), vo 13 (.boxk 12 (.t 6)), vo 14 (.mv (cb false))]) (.seq (.reg [vm 20 4, vo 21 (.call 7 [(.t 20)]), vm 15 21]) (.seq (.pre (.draw [vd (vl 23 3 7) 0, vd (vm 24 1) 0, vd (vm 25 2) 0, vd (vm 26 3) 0, vd (vo 27 (.appf 4 96 4 (.t 26))) 8, ⟨vm 28 15, 0, [4], none, []⟩, ⟨vm 29 5, 0, [4], none, []⟩, ⟨vl 30 12 13, 0, [4], none, []⟩, vd (vo 31 (.call 8 [(.t 23), (.t 24), (.t 25), (.t 27), (.t 28), (.t 29), (.t 30)])) 255, vd (vm 22 31) 511, vd (et 32 22 0) 1023, vd (et 33 22 1) 1023, ⟨vo 16 (.alloc [(.nl 3), (.nl 6), (.nl 3), (.nl 2), (.nl 12), (.nl 8), (.nl 4)]), 0, [4, 8], none, []⟩, vd (vu (.st 7 (.t 16) (.t 32))) 6143, vd (vm 17 33) 0x3fff])) (.seq (.regs [[vl 35 3 7, vm 36 1, vm 37 2, vm 38 3, vm 39 4, vm 40 5, vl 41 12 13], [vo 42 (.call 9 [(.t 35), (.t 36), (.t 37), (.t 38), (.t 39), (.t 40), (.t 41)]), vm 34 42, et 43 34 0, et 44 34 1, vo 18 (.alloc [(.nl 3), (.nl 6), (.nl 3), (.nl 2), (.nl 12), (.nl 8), (.nl 4)]), vu (.st 7 (.t 18) (.t 43)), vm 19 44]]) (.seq (.wk (.reg [vm 45 17, vm 46 19, bt 47 .eql 45 46, vm 48 47, gt 49 48 (.ld true 7 (.t 16)), gt 50 48 (.ld true 7 (.t 18)), gt 51 48 (.call 10 [(.t 49), (.t 50)]), vo 52 (.pick (.t 48) (.t 51) (cb false)), vm 53 52, gt 54 53 (.mv (.t 15)), gt 55 53 (.mv (.t 4)), gt 56 53 (.call 11 [(.t 54), (.t 55)]), vo 57 (.pick (.t 53) (.t 56) (cb false)), vm 14 57])) .ret))))), [.t 14]⟩
theorem low3 : lowF Tryd.prog 3 = some F3.strip := by kernel_rfl
theorem fok3 : fOk Tryd.prog 3 = true := by kernel_rfl
theorem reredoslaw_PartHears_ok (htab_wire_messages : constG G 0 = .one (.d (.k tab_wire_messagesD))) (p0 : Config) (p1 : Int) (p2 : Int) (p3 : List Store) (p4 : List Note) (p5 : Int) (p6 : Message) (r : Bool) (h : reredoslaw_PartHears p0 p1 p2 p3 p4 p5 p6 = some r) : FnRO Tryd.prog G 3 [.agg p0.bx, .one (.d (.i .i64 p1)), .one (.d (.i .i64 p2)), .one (.d (.l 4 (p3.map Store.enc))), .one (.d (.l 4 (p4.map Note.enc))), .one (.d (.i .i64 p5)), .agg p6.bx] (fun rs => rs = [.one (.b r)]) := by
 refine FnRO.of' low3 fok3 (by simp [F3]) ?_
 rw [reredoslaw_PartHears] at h
 replace h := Hd.mk h
 simp only [F3, go_sem]
 try simp only [*, go_sem]
 refine cr h (reredosref_NotesCopy_ok G p4) (fun v1 h => ?_)
 try simp only [*, go_sem]
 refine pre_lk Tryd.prog G _ _ [zI 1 p1, zI 2 p2, zL 3 4 (p3.map Store.enc), zL 4 4 (p4.map Note.enc), zI 5 p5, zP 7 0, zK 13 (Message.enc p6), zR 15 1 0 v1.length] [ox p0.bx, oz 4 (v1.map Note.enc)] [1] [some 0, some 1] rfl (by simp only [*, go_sem, List.map_append, List.map_cons, List.map_nil, Option.some.injEq, Prod.mk.injEq, SC.d.injEq, D.l.injEq, List.map_set]) (by simp only [*, go_sem, List.map_append, List.map_cons, List.map_nil, Option.some.injEq, Prod.mk.injEq, SC.d.injEq, D.l.injEq, List.map_set]) ?_
 refine ck h (fun _ h => ?_)
 refine obk h (fun v4 hv4 h => ?_)
 try simp only [*, go_sem]
 refine cd (part_Hear_ok G htab_wire_messages p0 p1 p2 p3 v1 p5 p6 v4 hv4) ?_
 try simp only [*, go_sem]
 refine rg0 h ([zL 4 4 (p4.map Note.enc), zR 15 0 0 v1.length, zP 16 1, zI 17 v4.2, (35, .agg [zi p0.Sites, .d (.l 2 (p0.Labels.map Label.enc)), zi p0.Patience]), zI 36 p1, zI 37 p2, zL 38 4 (p3.map Store.enc), zL 39 4 (p4.map Note.enc), zI 40 p5, (41, .agg [zi p6.Kind, zi p6.From, zi p6.To, zi p6.Txn.Site, zi p6.Txn.N, zi p6.Label, zi p6.Key, zi p6.Value, zi p6.Version, zi p6.Ask, .d (.b p6.Yes), zi p6.Code])]) ([oz 4 (v1.map Note.enc), ox v4.1.bx]) (fun k6 h => ?_) (fun h => ?_)
 try simp only [*, go_sem]
 exact jc () h.e [some 1, some 14]
 try simp only [*, go_sem]
 refine cr h (reredosref_HeardOf_ok G p0 p1 p2 p3 p4 p5 p6) (fun v7 h => ?_)
 try simp only [*, go_sem]
 refine jn1 h (fun b8_1 => [zB 14 b8_1]) (fun b8_1 => []) (fun k9 h => ?_) (fun b8_1 h => ?_)
 refine oi h (fun hb10 h => ?_) (fun hb10 h => ?_)
 try simp only [*, go_sem]
 refine cr h (reredoslaw_sameAnswer_ok G v4.1 v7.1) (fun v11 h => ?_)
 refine oi h (fun hb12 h => ?_) (fun hb12 h => ?_)
 try simp only [*, go_sem]
 refine cr h (reredoslaw_sameNotes_ok G v1 p4) (fun v13 h => ?_)
 try simp only [*, go_sem]
 exact jc (v13) h.e []
 try simp only [*, go_sem]
 exact jc (false) h.e []
 try simp only [*, go_sem]
 exact jc (false) h.e []
 cases h.e
 simp only [*, go_sem, mA, mS]
end Go.V.Dec
