/- What Go's functions come to, as plain functions: part 3; no condition. -/
import Derived.Test.YtmnicbhniaejjaaDoorG2
set_option linter.unusedVariables false
set_option linter.unusedSimpArgs false
namespace Go.V.Dec
open Go Go.Proofs
set_option maxRecDepth 100000
set_option maxHeartbeats 4000000
variable (G : Nat → Option (List D))
def reredosref_deskFault (p0 : Config) (p1 : Int) (p2 : Int) (p3 : Desk) : Option (Int) := (Option.bind (reredosref_DeskFault p0 p3) fun v1 => (withK (fun (b2_1 : Int) => (withK (fun (b7_1 : Int) => (some b7_1)) fun k8 => (if (b2_1 == 0) = true then (Option.bind (reredosref_In p2 0 (IntKind.i64.wrap (p0.Sites - 1))) fun v10 => (if (!v10) = true then (k8 2) else (k8 b2_1))) else (k8 b2_1)))) fun k3 => (if (v1 == 0) = true then (Option.bind (reredosref_labelMay p0 p1) fun v5 => (if (!v5) = true then (k3 6) else (k3 v1))) else (k3 v1))))
def F52 : VFn := ⟨32, (.seq (.reg [vo 4 (.box 3 (.t 0)), vo 7 (.box 2 (.t 3)), mi 8 0]) (.seq (.reg [vl 10 3 4, vl 11 2 7, vo 12 (.call 117 [(.t 10), (.t 11)]), vm 9 12]) (.seq (.wk (.seq (.reg [vm 13 9, bk 14 .eql 13 0, vm 15 14, gt 16 15 (.ld true 3 (.t 4)), gt 17 15 (.mv (.t 1)), gt 18 15 (.call 91 [(.t 16), (.t 17)]), gt 19 15 (.un .not (.t 18)), vo 20 (.pick (.t 15) (.t 19) (cb false))]) (.cond (.t 20) (.reg [mi 9 6]) .skip))) (.seq (.wk (.seq (.reg [vm 21 9, bk 22 .eql 21 0, vm 23 22, gt 24 23 (.mv (.t 2)), gt 25 23 (.fa 0 (.t 4)), gt 26 23 (.ld false 1 (.t 25)), gt 27 23 (.bin .i .sub (.t 26) (ci 1)), gt 28 23 (.call 92 [(.t 24), (ci 0), (.t 27)]), gt 29 23 (.un .not (.t 28)), vo 30 (.pick (.t 23) (.t 29) (cb false))]) (.cond (.t 30) (.reg [mi 9 2]) .skip))) (.seq (.reg [vm 31 9, vm 8 31]) .ret))))), [.t 8]⟩
theorem low52 : lowF Tryd.prog 52 = some F52.strip := by kernel_rfl
theorem fok52 : fOk Tryd.prog 52 = true := by kernel_rfl
theorem reredosref_deskFault_ok (p0 : Config) (p1 : Int) (p2 : Int) (p3 : Desk) (r : Int) (h : reredosref_deskFault p0 p1 p2 p3 = some r) : FnRO Tryd.prog G 52 [.agg p0.bx, .one (.d (.i .i64 p1)), .one (.d (.i .i64 p2)), .agg p3.bx] (fun rs => rs = [.one (.i .i64 r)]) := by
 refine FnRO.of' low52 fok52 (by simp [F52]) ?_
 rw [reredosref_deskFault] at h
 replace h := Hd.mk h
 simp only [F52, go_sem]
 try simp only [*, go_sem]
 refine cr h (reredosref_DeskFault_ok G p0 p3) (fun v1 h => ?_)
 try simp only [*, go_sem]
 refine jn1 h (fun b2_1 => [zI 2 p2, zP 4 0, zI 9 b2_1]) (fun b2_1 => [ox p0.bx]) (fun k3 h => ?_) (fun b2_1 h => ?_)
 refine oi h (fun hb4 h => ?_) (fun hb4 h => ?_)
 try simp only [*, go_sem]
 refine cr h (reredosref_labelMay_ok G p0 p1) (fun v5 h => ?_)
 refine oin h (fun hb6 hkhb6 h => ?_) (fun hb6 hkhb6 h => ?_)
 try simp only [*, go_sem]
 exact jc (6) h.e [some 0]
 try simp only [*, go_sem]
 exact jc (v1) h.e [some 0]
 try simp only [*, go_sem]
 exact jc (v1) h.e [some 0]
 try simp only [*, go_sem]
 refine jn1 h (fun b7_1 => [zI 9 b7_1]) (fun b7_1 => []) (fun k8 h => ?_) (fun b7_1 h => ?_)
 refine oi h (fun hb9 h => ?_) (fun hb9 h => ?_)
 try simp only [*, go_sem]
 refine cr h (reredosref_In_ok G p2 0 (IntKind.i64.wrap (p0.Sites - 1))) (fun v10 h => ?_)
 refine oin h (fun hb11 hkhb11 h => ?_) (fun hb11 hkhb11 h => ?_)
 try simp only [*, go_sem]
 exact jc (2) h.e []
 try simp only [*, go_sem]
 exact jc (b2_1) h.e []
 try simp only [*, go_sem]
 exact jc (b2_1) h.e []
 cases h.e
 simp only [*, go_sem, mA, mS]
def reredosref_txnMay (p0 : Config) (p1 : Txn) : Option (Bool) := (withK (fun (b1_1 : Bool) => (some b1_1)) fun k2 => (Option.bind (reredosref_In p1.Site 0 (IntKind.i64.wrap (p0.Sites - 1))) fun v3 => (if v3 = true then (Option.bind (reredosref_In p1.N 1 1048576) fun v5 => (k2 v5)) else (k2 false))))
def F94 : VFn := ⟨16, (.seq (.reg [vo 2 (.box 3 (.t 0)), vo 3 (.boxk 2 (.t 1)), vo 4 (.mv (cb false))]) (.seq (.wk (.reg [vf 5 0 3, vs 6 5, vf 7 0 2, vs 8 7, bk 9 .sub 8 1, vo 10 (.call 92 [(.t 6), (ci 0), (.t 9)]), vm 11 10, gt 12 11 (.fa 1 (.t 3)), gt 13 11 (.ld false 1 (.t 12)), gt 14 11 (.call 92 [(.t 13), (ci 1), (ci 1048576)]), vo 15 (.pick (.t 11) (.t 14) (cb false)), vm 4 15])) .ret)), [.t 4]⟩
theorem low94 : lowF Tryd.prog 94 = some F94.strip := by kernel_rfl
theorem fok94 : fOk Tryd.prog 94 = true := by kernel_rfl
theorem reredosref_txnMay_ok (p0 : Config) (p1 : Txn) (r : Bool) (h : reredosref_txnMay p0 p1 = some r) : FnRO Tryd.prog G 94 [.agg p0.bx, .agg p1.bx] (fun rs => rs = [.one (.b r)]) := by
 refine FnRO.of' low94 fok94 (by simp [F94]) ?_
 rw [reredosref_txnMay] at h
 replace h := Hd.mk h
 simp only [F94, go_sem]
 try simp only [*, go_sem]
 refine jn1 h (fun b1_1 => [zB 4 b1_1]) (fun b1_1 => []) (fun k2 h => ?_) (fun b1_1 h => ?_)
 try simp only [*, go_sem]
 refine cr h (reredosref_In_ok G p1.Site 0 (IntKind.i64.wrap (p0.Sites - 1))) (fun v3 h => ?_)
 refine oi h (fun hb4 h => ?_) (fun hb4 h => ?_)
 try simp only [*, go_sem]
 refine cr h (reredosref_In_ok G p1.N 1 1048576) (fun v5 h => ?_)
 try simp only [*, go_sem]
 exact jc (v5) h.e []
 try simp only [*, go_sem]
 exact jc (false) h.e []
 cases h.e
 simp only [*, go_sem, mA, mS]
def reredosref_MessageFault (p0 : Config) (p1 : Message) : Option (Int) := (Option.bind (reredosref_ConfigFault p0) fun v1 => (if (v1 != 0) = true then (some v1) else (Option.bind (reredosref_In p1.Kind 1 9) fun v3 => (if (!v3) = true then (some 3) else (Option.bind (reredosref_In p1.From 0 (IntKind.i64.wrap (p0.Sites - 1))) fun v5 => (if (!v5) = true then (some 2) else (Option.bind (reredosref_In p1.To 0 (IntKind.i64.wrap (p0.Sites - 1))) fun v7 => (if (!v7) = true then (some 2) else (Option.bind (reredosref_txnMay p0 p1.Txn) fun v9 => (if (!v9) = true then (some 2) else (Option.bind (reredosref_labelMay p0 p1.Label) fun v11 => (if (!v11) = true then (some 2) else (Option.bind (reredosref_In p1.Key 0 7) fun v13 => (if (!v13) = true then (some 2) else (Option.bind (reredosref_In p1.Value 0 1073741824) fun v15 => (if (!v15) = true then (some 2) else (Option.bind (reredosref_In p1.Version 0 1048576) fun v17 => (if (!v17) = true then (some 2) else (Option.bind (reredosref_In p1.Ask 0 1048576) fun v19 => (if (!v19) = true then (some 2) else (if (p1.Code != 0) = true then (if (p1.Code != 11) = true then (if (p1.Code != 8) = true then (some 2) else (withK (fun (b24_1 : Int) (b24_2 : Int) (b24_3 : Int) (b24_4 : Int) (b24_5 : Int) (b24_6 : Bool) (b24_7 : Int) => (if (!((b24_1 == p1.Label) && ((b24_2 == p1.Key) && ((b24_3 == p1.Value) && ((b24_4 == p1.Version) && ((b24_5 == p1.Ask) && ((b24_6 == p1.Yes) && (b24_7 == p1.Code)))))))) = true then (some 4) else (some 0))) fun k25 => (if (p1.Kind == 1) = true then (k25 p1.Label p1.Key 0 0 p1.Ask false 0) else (withK (fun (b27_1 : Int) (b27_2 : Int) (b27_3 : Int) (b27_4 : Int) (b27_5 : Int) (b27_6 : Bool) (b27_7 : Int) => (k25 b27_1 b27_2 b27_3 b27_4 b27_5 b27_6 b27_7)) fun k28 => (if (p1.Kind == 2) = true then (k28 0 p1.Key p1.Value 0 p1.Ask false 0) else (withK (fun (b30_1 : Int) (b30_2 : Int) (b30_3 : Int) (b30_4 : Int) (b30_5 : Int) (b30_6 : Bool) (b30_7 : Int) => (k28 b30_1 b30_2 b30_3 b30_4 b30_5 b30_6 b30_7)) fun k31 => (if (p1.Kind == 5) = true then (withK (fun (b33_1 : Int) (b33_2 : Int) => (k31 p1.Label p1.Key b33_1 b33_2 p1.Ask false p1.Code)) fun k34 => (if (p1.Code == 0) = true then (k34 p1.Value p1.Version) else (k34 0 0))) else (withK (fun (b36_1 : Int) (b36_2 : Int) (b36_3 : Int) (b36_4 : Int) (b36_5 : Bool) (b36_6 : Int) => (k31 b36_1 b36_2 0 b36_3 b36_4 b36_5 b36_6)) fun k37 => (if (p1.Kind == 6) = true then (k37 0 p1.Key 0 p1.Ask false p1.Code) else (withK (fun (b39_1 : Int) (b39_2 : Int) (b39_3 : Int) (b39_4 : Bool) => (k37 b39_1 b39_2 b39_3 0 b39_4 0)) fun k40 => (if (p1.Kind == 4) = true then (k40 0 0 0 p1.Yes) else (withK (fun (b42_1 : Int) (b42_2 : Int) (b42_3 : Int) (b42_4 : Bool) => (k40 b42_1 b42_2 b42_3 b42_4)) fun k43 => (if (p1.Kind == 3) = true then (k43 p1.Label p1.Key p1.Version false) else (withK (fun (b45_1 : Int) (b45_2 : Int) (b45_3 : Int) (b45_4 : Bool) => (k43 b45_1 b45_2 b45_3 b45_4)) fun k46 => (if (p1.Kind == 7) = true then (k46 p1.Label p1.Key p1.Version p1.Yes) else (k46 0 0 0 false)))))))))))))))) else (withK (fun (b49_1 : Int) (b49_2 : Int) (b49_3 : Int) (b49_4 : Int) (b49_5 : Int) (b49_6 : Bool) (b49_7 : Int) => (if (!((b49_1 == p1.Label) && ((b49_2 == p1.Key) && ((b49_3 == p1.Value) && ((b49_4 == p1.Version) && ((b49_5 == p1.Ask) && ((b49_6 == p1.Yes) && (b49_7 == p1.Code)))))))) = true then (some 4) else (some 0))) fun k50 => (if (p1.Kind == 1) = true then (k50 p1.Label p1.Key 0 0 p1.Ask false 0) else (withK (fun (b52_1 : Int) (b52_2 : Int) (b52_3 : Int) (b52_4 : Int) (b52_5 : Int) (b52_6 : Bool) (b52_7 : Int) => (k50 b52_1 b52_2 b52_3 b52_4 b52_5 b52_6 b52_7)) fun k53 => (if (p1.Kind == 2) = true then (k53 0 p1.Key p1.Value 0 p1.Ask false 0) else (withK (fun (b55_1 : Int) (b55_2 : Int) (b55_3 : Int) (b55_4 : Int) (b55_5 : Int) (b55_6 : Bool) (b55_7 : Int) => (k53 b55_1 b55_2 b55_3 b55_4 b55_5 b55_6 b55_7)) fun k56 => (if (p1.Kind == 5) = true then (withK (fun (b58_1 : Int) (b58_2 : Int) => (k56 p1.Label p1.Key b58_1 b58_2 p1.Ask false p1.Code)) fun k59 => (if (p1.Code == 0) = true then (k59 p1.Value p1.Version) else (k59 0 0))) else (withK (fun (b61_1 : Int) (b61_2 : Int) (b61_3 : Int) (b61_4 : Int) (b61_5 : Bool) (b61_6 : Int) => (k56 b61_1 b61_2 0 b61_3 b61_4 b61_5 b61_6)) fun k62 => (if (p1.Kind == 6) = true then (k62 0 p1.Key 0 p1.Ask false p1.Code) else (withK (fun (b64_1 : Int) (b64_2 : Int) (b64_3 : Int) (b64_4 : Bool) => (k62 b64_1 b64_2 b64_3 0 b64_4 0)) fun k65 => (if (p1.Kind == 4) = true then (k65 0 0 0 p1.Yes) else (withK (fun (b67_1 : Int) (b67_2 : Int) (b67_3 : Int) (b67_4 : Bool) => (k65 b67_1 b67_2 b67_3 b67_4)) fun k68 => (if (p1.Kind == 3) = true then (k68 p1.Label p1.Key p1.Version false) else (withK (fun (b70_1 : Int) (b70_2 : Int) (b70_3 : Int) (b70_4 : Bool) => (k68 b70_1 b70_2 b70_3 b70_4)) fun k71 => (if (p1.Kind == 7) = true then (k71 p1.Label p1.Key p1.Version p1.Yes) else (k71 0 0 0 false)))))))))))))))) else (withK (fun (b74_1 : Int) (b74_2 : Int) (b74_3 : Int) (b74_4 : Int) (b74_5 : Int) (b74_6 : Bool) (b74_7 : Int) => (if (!((b74_1 == p1.Label) && ((b74_2 == p1.Key) && ((b74_3 == p1.Value) && ((b74_4 == p1.Version) && ((b74_5 == p1.Ask) && ((b74_6 == p1.Yes) && (b74_7 == p1.Code)))))))) = true then (some 4) else (some 0))) fun k75 => (if (p1.Kind == 1) = true then (k75 p1.Label p1.Key 0 0 p1.Ask false 0) else (withK (fun (b77_1 : Int) (b77_2 : Int) (b77_3 : Int) (b77_4 : Int) (b77_5 : Int) (b77_6 : Bool) (b77_7 : Int) => (k75 b77_1 b77_2 b77_3 b77_4 b77_5 b77_6 b77_7)) fun k78 => (if (p1.Kind == 2) = true then (k78 0 p1.Key p1.Value 0 p1.Ask false 0) else (withK (fun (b80_1 : Int) (b80_2 : Int) (b80_3 : Int) (b80_4 : Int) (b80_5 : Int) (b80_6 : Bool) (b80_7 : Int) => (k78 b80_1 b80_2 b80_3 b80_4 b80_5 b80_6 b80_7)) fun k81 => (if (p1.Kind == 5) = true then (withK (fun (b83_1 : Int) (b83_2 : Int) => (k81 p1.Label p1.Key b83_1 b83_2 p1.Ask false p1.Code)) fun k84 => (if (p1.Code == 0) = true then (k84 p1.Value p1.Version) else (k84 0 0))) else (withK (fun (b86_1 : Int) (b86_2 : Int) (b86_3 : Int) (b86_4 : Int) (b86_5 : Bool) (b86_6 : Int) => (k81 b86_1 b86_2 0 b86_3 b86_4 b86_5 b86_6)) fun k87 => (if (p1.Kind == 6) = true then (k87 0 p1.Key 0 p1.Ask false p1.Code) else (withK (fun (b89_1 : Int) (b89_2 : Int) (b89_3 : Int) (b89_4 : Bool) => (k87 b89_1 b89_2 b89_3 0 b89_4 0)) fun k90 => (if (p1.Kind == 4) = true then (k90 0 0 0 p1.Yes) else (withK (fun (b92_1 : Int) (b92_2 : Int) (b92_3 : Int) (b92_4 : Bool) => (k90 b92_1 b92_2 b92_3 b92_4)) fun k93 => (if (p1.Kind == 3) = true then (k93 p1.Label p1.Key p1.Version false) else (withK (fun (b95_1 : Int) (b95_2 : Int) (b95_3 : Int) (b95_4 : Bool) => (k93 b95_1 b95_2 b95_3 b95_4)) fun k96 => (if (p1.Kind == 7) = true then (k96 p1.Label p1.Key p1.Version p1.Yes) else (k96 0 0 0 false))))))))))))))))))))))))))))))))))))
def F32 : VFn := ⟨183, (.seq (.reg [vo 2 (.boxk 3 (.t 0)), vo 3 (.boxk 12 (.t 1)), mi 4 0]) (.seq (.reg [vl 7 3 2, vo 8 (.call 70 [(.t 7)]), vm 5 8]) (.seq (.seq (.reg [vm 9 5, bk 10 .neq 9 0]) (.cond (.t 10) (.seq (.reg [vm 11 5, vm 4 11]) .ret) .skip)) (.seq (.seq (.reg [vf 12 0 3, vs 13 12, vo 14 (.call 92 [(.t 13), (ci 1), (ci 9)]), nt 15 14]) (.cond (.t 15) (.seq (.reg [mi 4 3]) .ret) .skip)) (.seq (.seq (.reg [vf 16 1 3, vs 17 16, vf 18 0 2, vs 19 18, bk 20 .sub 19 1, vo 21 (.call 92 [(.t 17), (ci 0), (.t 20)]), nt 22 21, vm 23 22, gf 24 23 (.fa 2 (.t 3)), gf 25 23 (.ld false 1 (.t 24)), gf 26 23 (.fa 0 (.t 2)), gf 27 23 (.ld false 1 (.t 26)), gf 28 23 (.bin .i .sub (.t 27) (ci 1)), gf 29 23 (.call 92 [(.t 25), (ci 0), (.t 28)]), gf 30 23 (.un .not (.t 29)), vo 31 (.pick (.t 23) (cb true) (.t 30)), vm 32 31, gf 33 32 (.ld true 3 (.t 2)), gf 34 32 (.fa 3 (.t 3)), gf 35 32 (.ld true 2 (.t 34)), gf 36 32 (.call 94 [(.t 33), (.t 35)]), gf 37 32 (.un .not (.t 36)), vo 38 (.pick (.t 32) (cb true) (.t 37)), vm 39 38, gf 40 39 (.ld true 3 (.t 2)), gf 41 39 (.fa 5 (.t 3)), gf 42 39 (.ld false 1 (.t 41)), gf 43 39 (.call 91 [(.t 40), (.t 42)]), gf 44 39 (.un .not (.t 43)), vo 45 (.pick (.t 39) (cb true) (.t 44)), vm 46 45, gf 47 46 (.fa 6 (.t 3)), gf 48 46 (.ld false 1 (.t 47)), gf 49 46 (.call 92 [(.t 48), (ci 0), (ci 7)]), gf 50 46 (.un .not (.t 49)), vo 51 (.pick (.t 46) (cb true) (.t 50)), vm 52 51, gf 53 52 (.fa 7 (.t 3)), gf 54 52 (.ld false 1 (.t 53)), gf 55 52 (.call 92 [(.t 54), (ci 0), (ci 1073741824)]), gf 56 52 (.un .not (.t 55)), vo 57 (.pick (.t 52) (cb true) (.t 56)), vm 58 57, gf 59 58 (.fa 8 (.t 3)), gf 60 58 (.ld false 1 (.t 59)), gf 61 58 (.call 92 [(.t 60), (ci 0), (ci 1048576)]), gf 62 58 (.un .not (.t 61)), vo 63 (.pick (.t 58) (cb true) (.t 62)), vm 64 63, gf 65 64 (.fa 9 (.t 3)), gf 66 64 (.ld false 1 (.t 65)), gf 67 64 (.call 92 [(.t 66), (ci 0), (ci 1048576)]), gf 68 64 (.un .not (.t 67)), vo 69 (.pick (.t 64) (cb true) (.t 68))]) (.cond (.t 69) (.seq (.reg [mi 4 2]) .ret) .skip)) (.seq (.seq (.reg [vf 70 11 3, vs 71 70, bk 72 .neq 71 0, vm 73 72, gt 74 73 (.fa 11 (.t 3)), gt 75 73 (.ld false 1 (.t 74)), gt 76 73 (.bin .i .neq (.t 75) (ci 11)), vo 77 (.pick (.t 73) (.t 76) (cb false)), vm 78 77, gt 79 78 (.fa 11 (.t 3)), gt 80 78 (.ld false 1 (.t 79)), gt 81 78 (.bin .i .neq (.t 80) (ci 8)), vo 82 (.pick (.t 78) (.t 81) (cb false))]) (.cond (.t 82) (.seq (.reg [mi 4 2]) .ret) .skip)) (.seq (.reg [vf 83 0 3, vs 84 83, vf 85 1 3, vs 86 85, vf 87 2 3, vs 88 87, vf 89 3 3, vl 90 2 89, vo 91 (.build [(zi 0), (zi 0), (zi 0), (zi 0), (zi 0), (zi 0), (zi 0), (zi 0), (zi 0), (zi 0), (.d (.b false)), (zi 0)] [(0, 1, (.t 84)), (1, 1, (.t 86)), (2, 1, (.t 88)), (3, 2, (.t 90))]), vo 6 (.alloc [(zi 0), (zi 0), (zi 0), (zi 0), (zi 0), (zi 0), (zi 0), (zi 0), (zi 0), (zi 0), (.d (.b false)), (zi 0)]), vu (.st 12 (.t 6) (.t 91))]) (.seq (.seq (.reg [vf 92 0 3, vs 93 92]) (.block 0 (.seq (.reg [bk 95 .eql 93 1, vm 94 95]) (.wk (.cond (.t 94) (.seq (.reg [vf 96 5 3, vs 97 96, vf 98 5 6, vu (.st 1 (.t 98) (.t 97))]) (.seq (.reg [vf 99 6 3, vs 100 99, vf 101 6 6, vu (.st 1 (.t 101) (.t 100))]) (.reg [vf 102 9 3, vs 103 102, vf 104 9 6, vu (.st 1 (.t 104) (.t 103))]))) (.seq (.reg [bk 106 .eql 93 2, vm 105 106]) (.wk (.cond (.t 105) (.seq (.reg [vf 107 6 3, vs 108 107, vf 109 6 6, vu (.st 1 (.t 109) (.t 108))]) (.seq (.reg [vf 110 7 3, vs 111 110, vf 112 7 6, vu (.st 1 (.t 112) (.t 111))]) (.reg [vf 113 9 3, vs 114 113, vf 115 9 6, vu (.st 1 (.t 115) (.t 114))]))) (.seq (.reg [bk 117 .eql 93 5, vm 116 117]) (.wk (.cond (.t 116) (.seq (.reg [vf 118 5 3, vs 119 118, vf 120 5 6, vu (.st 1 (.t 120) (.t 119))]) (.seq (.reg [vf 121 6 3, vs 122 121, vf 123 6 6, vu (.st 1 (.t 123) (.t 122))]) (.seq (.reg [vf 124 11 3, vs 125 124, vf 126 11 6, vu (.st 1 (.t 126) (.t 125))]) (.seq (.reg [vf 127 9 3, vs 128 127, vf 129 9 6, vu (.st 1 (.t 129) (.t 128))]) (.seq (.reg [vf 130 11 3, vs 131 130, bk 132 .eql 131 0]) (.wk (.cond (.t 132) (.seq (.reg [vf 133 7 3, vs 134 133, vf 135 7 6, vu (.st 1 (.t 135) (.t 134))]) (.reg [vf 136 8 3, vs 137 136, vf 138 8 6, vu (.st 1 (.t 138) (.t 137))])) .skip))))))) (.seq (.reg [bk 140 .eql 93 6, vm 139 140]) (.wk (.cond (.t 139) (.seq (.reg [vf 141 6 3, vs 142 141, vf 143 6 6, vu (.st 1 (.t 143) (.t 142))]) (.seq (.reg [vf 144 11 3, vs 145 144, vf 146 11 6, vu (.st 1 (.t 146) (.t 145))]) (.reg [vf 147 9 3, vs 148 147, vf 149 9 6, vu (.st 1 (.t 149) (.t 148))]))) (.seq (.reg [bk 151 .eql 93 4, vm 150 151]) (.wk (.cond (.t 150) (.reg [vf 152 10 3, vs 153 152, vf 154 10 6, vu (.st 1 (.t 154) (.t 153))]) (.seq (.reg [bk 156 .eql 93 3, vm 155 156]) (.wk (.cond (.t 155) (.seq (.reg [vf 157 5 3, vs 158 157, vf 159 5 6, vu (.st 1 (.t 159) (.t 158))]) (.seq (.reg [vf 160 6 3, vs 161 160, vf 162 6 6, vu (.st 1 (.t 162) (.t 161))]) (.reg [vf 163 8 3, vs 164 163, vf 165 8 6, vu (.st 1 (.t 165) (.t 164))]))) (.seq (.reg [bk 167 .eql 93 7, vm 166 167]) (.wk (.cond (.t 166) (.seq (.reg [vf 168 5 3, vs 169 168, vf 170 5 6, vu (.st 1 (.t 170) (.t 169))]) (.seq (.reg [vf 171 6 3, vs 172 171, vf 173 6 6, vu (.st 1 (.t 173) (.t 172))]) (.seq (.reg [vf 174 8 3, vs 175 174, vf 176 8 6, vu (.st 1 (.t 176) (.t 175))]) (.reg [vf 177 10 3, vs 178 177, vf 179 10 6, vu (.st 1 (.t 179) (.t 178))])))) .skip))))))))))))))))))))))) (.seq (.seq (.reg [vl 180 12 6, vl 181 12 3, vo 182 (.eqs true [.i, .i, .i, .i, .i, .i, .i, .i, .i, .i, .b, .i] (.t 180) (.t 181))]) (.cond (.t 182) (.seq (.reg [mi 4 4]) .ret) .skip)) (.seq (.reg [mi 4 0]) .ret)))))))))), [.t 4]⟩
theorem low32 : lowF Tryd.prog 32 = some F32.strip := by kernel_rfl
theorem fok32 : fOk Tryd.prog 32 = true := by kernel_rfl
theorem reredosref_MessageFault_ok (p0 : Config) (p1 : Message) (r : Int) (h : reredosref_MessageFault p0 p1 = some r) : FnRO Tryd.prog G 32 [.agg p0.bx, .agg p1.bx] (fun rs => rs = [.one (.i .i64 r)]) := by
 refine FnRO.of' low32 fok32 (by simp [F32]) ?_
 rw [reredosref_MessageFault] at h
 replace h := Hd.mk h
 simp only [F32, go_sem]
 try simp only [*, go_sem]
 refine cr h (reredosref_ConfigFault_ok G p0) (fun v1 h => ?_)
 refine oi h (fun hb2 h => ?_) (fun hb2 h => ?_)
 cases h.e
 simp only [*, go_sem, mA, mS]
 try simp only [*, go_sem]
 refine cr h (reredosref_In_ok G p1.Kind 1 9) (fun v3 h => ?_)
 refine oin h (fun hb4 hkhb4 h => ?_) (fun hb4 hkhb4 h => ?_)
 cases h.e
 simp only [*, go_sem, mA, mS]
 try simp only [*, go_sem]
 refine cr h (reredosref_In_ok G p1.From 0 (IntKind.i64.wrap (p0.Sites - 1))) (fun v5 h => ?_)
 refine oin h (fun hb6 hkhb6 h => ?_) (fun hb6 hkhb6 h => ?_)
 cases h.e
 simp only [*, go_sem, mA, mS]
 try simp only [*, go_sem]
 refine cr h (reredosref_In_ok G p1.To 0 (IntKind.i64.wrap (p0.Sites - 1))) (fun v7 h => ?_)
 refine oin h (fun hb8 hkhb8 h => ?_) (fun hb8 hkhb8 h => ?_)
 cases h.e
 simp only [*, go_sem, mA, mS]
 try simp only [*, go_sem]
 refine cr h (reredosref_txnMay_ok G p0 p1.Txn) (fun v9 h => ?_)
 refine oin h (fun hb10 hkhb10 h => ?_) (fun hb10 hkhb10 h => ?_)
 cases h.e
 simp only [*, go_sem, mA, mS]
 try simp only [*, go_sem]
 refine cr h (reredosref_labelMay_ok G p0 p1.Label) (fun v11 h => ?_)
 refine oin h (fun hb12 hkhb12 h => ?_) (fun hb12 hkhb12 h => ?_)
 cases h.e
 simp only [*, go_sem, mA, mS]
 try simp only [*, go_sem]
 refine cr h (reredosref_In_ok G p1.Key 0 7) (fun v13 h => ?_)
 refine oin h (fun hb14 hkhb14 h => ?_) (fun hb14 hkhb14 h => ?_)
 cases h.e
 simp only [*, go_sem, mA, mS]
 try simp only [*, go_sem]
 refine cr h (reredosref_In_ok G p1.Value 0 1073741824) (fun v15 h => ?_)
 refine oin h (fun hb16 hkhb16 h => ?_) (fun hb16 hkhb16 h => ?_)
 cases h.e
 simp only [*, go_sem, mA, mS]
 try simp only [*, go_sem]
 refine cr h (reredosref_In_ok G p1.Version 0 1048576) (fun v17 h => ?_)
 refine oin h (fun hb18 hkhb18 h => ?_) (fun hb18 hkhb18 h => ?_)
 cases h.e
 simp only [*, go_sem, mA, mS]
 try simp only [*, go_sem]
 refine cr h (reredosref_In_ok G p1.Ask 0 1048576) (fun v19 h => ?_)
 refine oin h (fun hb20 hkhb20 h => ?_) (fun hb20 hkhb20 h => ?_)
 cases h.e
 simp only [*, go_sem, mA, mS]
 refine oi h (fun hb21 h => ?_) (fun hb21 h => ?_)
 refine oi h (fun hb22 h => ?_) (fun hb22 h => ?_)
 refine oi h (fun hb23 h => ?_) (fun hb23 h => ?_)
 cases h.e
 simp only [*, go_sem, mA, mS]
 try simp only [*, go_sem]
 refine jn7 h (fun b24_1 b24_2 b24_3 b24_4 b24_5 b24_6 b24_7 => [zK 3 (Message.enc p1), zP 6 0]) (fun b24_1 b24_2 b24_3 b24_4 b24_5 b24_6 b24_7 => [ox [zi p1.Kind, zi p1.From, zi p1.To, zi p1.Txn.Site, zi p1.Txn.N, zi b24_1, zi b24_2, zi b24_3, zi b24_4, zi b24_5, .d (.b b24_6), zi b24_7]]) (fun k25 h => ?_) (fun b24_1 b24_2 b24_3 b24_4 b24_5 b24_6 b24_7 h => ?_)
 refine oi h (fun hb26 h => ?_) (fun hb26 h => ?_)
 try simp only [*, go_sem]
 exact jc (p1.Label, p1.Key, 0, 0, p1.Ask, false, 0) h.e [some 0]
 try simp only [*, go_sem]
 refine jn7 h (fun b27_1 b27_2 b27_3 b27_4 b27_5 b27_6 b27_7 => [zK 3 (Message.enc p1), zP 6 0]) (fun b27_1 b27_2 b27_3 b27_4 b27_5 b27_6 b27_7 => [ox [zi p1.Kind, zi p1.From, zi p1.To, zi p1.Txn.Site, zi p1.Txn.N, zi b27_1, zi b27_2, zi b27_3, zi b27_4, zi b27_5, .d (.b b27_6), zi b27_7]]) (fun k28 h => ?_) (fun b27_1 b27_2 b27_3 b27_4 b27_5 b27_6 b27_7 h => ?_)
 refine oi h (fun hb29 h => ?_) (fun hb29 h => ?_)
 try simp only [*, go_sem]
 exact jc (0, p1.Key, p1.Value, 0, p1.Ask, false, 0) h.e [some 0]
 try simp only [*, go_sem]
 refine jn7 h (fun b30_1 b30_2 b30_3 b30_4 b30_5 b30_6 b30_7 => [zK 3 (Message.enc p1), zP 6 0]) (fun b30_1 b30_2 b30_3 b30_4 b30_5 b30_6 b30_7 => [ox [zi p1.Kind, zi p1.From, zi p1.To, zi p1.Txn.Site, zi p1.Txn.N, zi b30_1, zi b30_2, zi b30_3, zi b30_4, zi b30_5, .d (.b b30_6), zi b30_7]]) (fun k31 h => ?_) (fun b30_1 b30_2 b30_3 b30_4 b30_5 b30_6 b30_7 h => ?_)
 refine oi h (fun hb32 h => ?_) (fun hb32 h => ?_)
 try simp only [*, go_sem]
 refine jn2 h (fun b33_1 b33_2 => [zK 3 (Message.enc p1), zP 6 0]) (fun b33_1 b33_2 => [ox [zi p1.Kind, zi p1.From, zi p1.To, zi p1.Txn.Site, zi p1.Txn.N, zi p1.Label, zi p1.Key, zi b33_1, zi b33_2, zi p1.Ask, .d (.b false), zi p1.Code]]) (fun k34 h => ?_) (fun b33_1 b33_2 h => ?_)
 refine oi h (fun hb35 h => ?_) (fun hb35 h => ?_)
 try simp only [*, go_sem]
 exact jc (p1.Value, p1.Version) h.e [some 0]
 try simp only [*, go_sem]
 exact jc (0, 0) h.e [some 0]
 try simp only [*, go_sem]
 exact jc (p1.Label, p1.Key, b33_1, b33_2, p1.Ask, false, p1.Code) h.e [some 0]
 try simp only [*, go_sem]
 refine jn6 h (fun b36_1 b36_2 b36_3 b36_4 b36_5 b36_6 => [zK 3 (Message.enc p1), zP 6 0]) (fun b36_1 b36_2 b36_3 b36_4 b36_5 b36_6 => [ox [zi p1.Kind, zi p1.From, zi p1.To, zi p1.Txn.Site, zi p1.Txn.N, zi b36_1, zi b36_2, zi 0, zi b36_3, zi b36_4, .d (.b b36_5), zi b36_6]]) (fun k37 h => ?_) (fun b36_1 b36_2 b36_3 b36_4 b36_5 b36_6 h => ?_)
 refine oi h (fun hb38 h => ?_) (fun hb38 h => ?_)
 try simp only [*, go_sem]
 exact jc (0, p1.Key, 0, p1.Ask, false, p1.Code) h.e [some 0]
 try simp only [*, go_sem]
 refine jn4 h (fun b39_1 b39_2 b39_3 b39_4 => [zK 3 (Message.enc p1), zP 6 0]) (fun b39_1 b39_2 b39_3 b39_4 => [ox [zi p1.Kind, zi p1.From, zi p1.To, zi p1.Txn.Site, zi p1.Txn.N, zi b39_1, zi b39_2, zi 0, zi b39_3, zi 0, .d (.b b39_4), zi 0]]) (fun k40 h => ?_) (fun b39_1 b39_2 b39_3 b39_4 h => ?_)
 refine oi h (fun hb41 h => ?_) (fun hb41 h => ?_)
 try simp only [*, go_sem]
 exact jc (0, 0, 0, p1.Yes) h.e [some 0]
 try simp only [*, go_sem]
 refine jn4 h (fun b42_1 b42_2 b42_3 b42_4 => [zK 3 (Message.enc p1), zP 6 0]) (fun b42_1 b42_2 b42_3 b42_4 => [ox [zi p1.Kind, zi p1.From, zi p1.To, zi p1.Txn.Site, zi p1.Txn.N, zi b42_1, zi b42_2, zi 0, zi b42_3, zi 0, .d (.b b42_4), zi 0]]) (fun k43 h => ?_) (fun b42_1 b42_2 b42_3 b42_4 h => ?_)
 refine oi h (fun hb44 h => ?_) (fun hb44 h => ?_)
 try simp only [*, go_sem]
 exact jc (p1.Label, p1.Key, p1.Version, false) h.e [some 0]
 try simp only [*, go_sem]
 refine jn4 h (fun b45_1 b45_2 b45_3 b45_4 => [zK 3 (Message.enc p1), zP 6 0]) (fun b45_1 b45_2 b45_3 b45_4 => [ox [zi p1.Kind, zi p1.From, zi p1.To, zi p1.Txn.Site, zi p1.Txn.N, zi b45_1, zi b45_2, zi 0, zi b45_3, zi 0, .d (.b b45_4), zi 0]]) (fun k46 h => ?_) (fun b45_1 b45_2 b45_3 b45_4 h => ?_)
 refine oi h (fun hb47 h => ?_) (fun hb47 h => ?_)
 try simp only [*, go_sem]
 exact jc (p1.Label, p1.Key, p1.Version, p1.Yes) h.e [some 0]
 try simp only [*, go_sem]
 exact jc (0, 0, 0, false) h.e [some 0]
 try simp only [*, go_sem]
 exact jc (b45_1, b45_2, b45_3, b45_4) h.e [some 0]
 try simp only [*, go_sem]
 exact jc (b42_1, b42_2, b42_3, b42_4) h.e [some 0]
 try simp only [*, go_sem]
 exact jc (b39_1, b39_2, b39_3, 0, b39_4, 0) h.e [some 0]
 try simp only [*, go_sem]
 exact jc (b36_1, b36_2, 0, b36_3, b36_4, b36_5, b36_6) h.e [some 0]
 try simp only [*, go_sem]
 exact jc (b30_1, b30_2, b30_3, b30_4, b30_5, b30_6, b30_7) h.e [some 0]
 try simp only [*, go_sem]
 exact jc (b27_1, b27_2, b27_3, b27_4, b27_5, b27_6, b27_7) h.e [some 0]
 refine oin h (fun hb48 hkhb48 h => ?_) (fun hb48 hkhb48 h => ?_)
 try simp only [*, go_sem]
 cases h.e
 simp only [*, go_sem, mA, mS]
 try simp only [*, go_sem]
 cases h.e
 simp only [*, go_sem, mA, mS]
 try simp only [*, go_sem]
 refine jn7 h (fun b49_1 b49_2 b49_3 b49_4 b49_5 b49_6 b49_7 => [zK 3 (Message.enc p1), zP 6 0]) (fun b49_1 b49_2 b49_3 b49_4 b49_5 b49_6 b49_7 => [ox [zi p1.Kind, zi p1.From, zi p1.To, zi p1.Txn.Site, zi p1.Txn.N, zi b49_1, zi b49_2, zi b49_3, zi b49_4, zi b49_5, .d (.b b49_6), zi b49_7]]) (fun k50 h => ?_) (fun b49_1 b49_2 b49_3 b49_4 b49_5 b49_6 b49_7 h => ?_)
 refine oi h (fun hb51 h => ?_) (fun hb51 h => ?_)
 try simp only [*, go_sem]
 exact jc (p1.Label, p1.Key, 0, 0, p1.Ask, false, 0) h.e [some 0]
 try simp only [*, go_sem]
 refine jn7 h (fun b52_1 b52_2 b52_3 b52_4 b52_5 b52_6 b52_7 => [zK 3 (Message.enc p1), zP 6 0]) (fun b52_1 b52_2 b52_3 b52_4 b52_5 b52_6 b52_7 => [ox [zi p1.Kind, zi p1.From, zi p1.To, zi p1.Txn.Site, zi p1.Txn.N, zi b52_1, zi b52_2, zi b52_3, zi b52_4, zi b52_5, .d (.b b52_6), zi b52_7]]) (fun k53 h => ?_) (fun b52_1 b52_2 b52_3 b52_4 b52_5 b52_6 b52_7 h => ?_)
 refine oi h (fun hb54 h => ?_) (fun hb54 h => ?_)
 try simp only [*, go_sem]
 exact jc (0, p1.Key, p1.Value, 0, p1.Ask, false, 0) h.e [some 0]
 try simp only [*, go_sem]
 refine jn7 h (fun b55_1 b55_2 b55_3 b55_4 b55_5 b55_6 b55_7 => [zK 3 (Message.enc p1), zP 6 0]) (fun b55_1 b55_2 b55_3 b55_4 b55_5 b55_6 b55_7 => [ox [zi p1.Kind, zi p1.From, zi p1.To, zi p1.Txn.Site, zi p1.Txn.N, zi b55_1, zi b55_2, zi b55_3, zi b55_4, zi b55_5, .d (.b b55_6), zi b55_7]]) (fun k56 h => ?_) (fun b55_1 b55_2 b55_3 b55_4 b55_5 b55_6 b55_7 h => ?_)
 refine oi h (fun hb57 h => ?_) (fun hb57 h => ?_)
 try simp only [*, go_sem]
 refine jn2 h (fun b58_1 b58_2 => [zK 3 (Message.enc p1), zP 6 0]) (fun b58_1 b58_2 => [ox [zi p1.Kind, zi p1.From, zi p1.To, zi p1.Txn.Site, zi p1.Txn.N, zi p1.Label, zi p1.Key, zi b58_1, zi b58_2, zi p1.Ask, .d (.b false), zi p1.Code]]) (fun k59 h => ?_) (fun b58_1 b58_2 h => ?_)
 refine oi h (fun hb60 h => ?_) (fun hb60 h => ?_)
 try simp only [*, go_sem]
 exact jc (p1.Value, p1.Version) h.e [some 0]
 try simp only [*, go_sem]
 exact jc (0, 0) h.e [some 0]
 try simp only [*, go_sem]
 exact jc (p1.Label, p1.Key, b58_1, b58_2, p1.Ask, false, p1.Code) h.e [some 0]
 try simp only [*, go_sem]
 refine jn6 h (fun b61_1 b61_2 b61_3 b61_4 b61_5 b61_6 => [zK 3 (Message.enc p1), zP 6 0]) (fun b61_1 b61_2 b61_3 b61_4 b61_5 b61_6 => [ox [zi p1.Kind, zi p1.From, zi p1.To, zi p1.Txn.Site, zi p1.Txn.N, zi b61_1, zi b61_2, zi 0, zi b61_3, zi b61_4, .d (.b b61_5), zi b61_6]]) (fun k62 h => ?_) (fun b61_1 b61_2 b61_3 b61_4 b61_5 b61_6 h => ?_)
 refine oi h (fun hb63 h => ?_) (fun hb63 h => ?_)
 try simp only [*, go_sem]
 exact jc (0, p1.Key, 0, p1.Ask, false, p1.Code) h.e [some 0]
 try simp only [*, go_sem]
 refine jn4 h (fun b64_1 b64_2 b64_3 b64_4 => [zK 3 (Message.enc p1), zP 6 0]) (fun b64_1 b64_2 b64_3 b64_4 => [ox [zi p1.Kind, zi p1.From, zi p1.To, zi p1.Txn.Site, zi p1.Txn.N, zi b64_1, zi b64_2, zi 0, zi b64_3, zi 0, .d (.b b64_4), zi 0]]) (fun k65 h => ?_) (fun b64_1 b64_2 b64_3 b64_4 h => ?_)
 refine oi h (fun hb66 h => ?_) (fun hb66 h => ?_)
 try simp only [*, go_sem]
 exact jc (0, 0, 0, p1.Yes) h.e [some 0]
 try simp only [*, go_sem]
 refine jn4 h (fun b67_1 b67_2 b67_3 b67_4 => [zK 3 (Message.enc p1), zP 6 0]) (fun b67_1 b67_2 b67_3 b67_4 => [ox [zi p1.Kind, zi p1.From, zi p1.To, zi p1.Txn.Site, zi p1.Txn.N, zi b67_1, zi b67_2, zi 0, zi b67_3, zi 0, .d (.b b67_4), zi 0]]) (fun k68 h => ?_) (fun b67_1 b67_2 b67_3 b67_4 h => ?_)
 refine oi h (fun hb69 h => ?_) (fun hb69 h => ?_)
 try simp only [*, go_sem]
 exact jc (p1.Label, p1.Key, p1.Version, false) h.e [some 0]
 try simp only [*, go_sem]
 refine jn4 h (fun b70_1 b70_2 b70_3 b70_4 => [zK 3 (Message.enc p1), zP 6 0]) (fun b70_1 b70_2 b70_3 b70_4 => [ox [zi p1.Kind, zi p1.From, zi p1.To, zi p1.Txn.Site, zi p1.Txn.N, zi b70_1, zi b70_2, zi 0, zi b70_3, zi 0, .d (.b b70_4), zi 0]]) (fun k71 h => ?_) (fun b70_1 b70_2 b70_3 b70_4 h => ?_)
 refine oi h (fun hb72 h => ?_) (fun hb72 h => ?_)
 try simp only [*, go_sem]
 exact jc (p1.Label, p1.Key, p1.Version, p1.Yes) h.e [some 0]
 try simp only [*, go_sem]
 exact jc (0, 0, 0, false) h.e [some 0]
 try simp only [*, go_sem]
 exact jc (b70_1, b70_2, b70_3, b70_4) h.e [some 0]
 try simp only [*, go_sem]
 exact jc (b67_1, b67_2, b67_3, b67_4) h.e [some 0]
 try simp only [*, go_sem]
 exact jc (b64_1, b64_2, b64_3, 0, b64_4, 0) h.e [some 0]
 try simp only [*, go_sem]
 exact jc (b61_1, b61_2, 0, b61_3, b61_4, b61_5, b61_6) h.e [some 0]
 try simp only [*, go_sem]
 exact jc (b55_1, b55_2, b55_3, b55_4, b55_5, b55_6, b55_7) h.e [some 0]
 try simp only [*, go_sem]
 exact jc (b52_1, b52_2, b52_3, b52_4, b52_5, b52_6, b52_7) h.e [some 0]
 refine oin h (fun hb73 hkhb73 h => ?_) (fun hb73 hkhb73 h => ?_)
 try simp only [*, go_sem]
 cases h.e
 simp only [*, go_sem, mA, mS]
 try simp only [*, go_sem]
 cases h.e
 simp only [*, go_sem, mA, mS]
 try simp only [*, go_sem]
 refine jn7 h (fun b74_1 b74_2 b74_3 b74_4 b74_5 b74_6 b74_7 => [zK 3 (Message.enc p1), zP 6 0]) (fun b74_1 b74_2 b74_3 b74_4 b74_5 b74_6 b74_7 => [ox [zi p1.Kind, zi p1.From, zi p1.To, zi p1.Txn.Site, zi p1.Txn.N, zi b74_1, zi b74_2, zi b74_3, zi b74_4, zi b74_5, .d (.b b74_6), zi b74_7]]) (fun k75 h => ?_) (fun b74_1 b74_2 b74_3 b74_4 b74_5 b74_6 b74_7 h => ?_)
 refine oi h (fun hb76 h => ?_) (fun hb76 h => ?_)
 try simp only [*, go_sem]
 exact jc (p1.Label, p1.Key, 0, 0, p1.Ask, false, 0) h.e [some 0]
 try simp only [*, go_sem]
 refine jn7 h (fun b77_1 b77_2 b77_3 b77_4 b77_5 b77_6 b77_7 => [zK 3 (Message.enc p1), zP 6 0]) (fun b77_1 b77_2 b77_3 b77_4 b77_5 b77_6 b77_7 => [ox [zi p1.Kind, zi p1.From, zi p1.To, zi p1.Txn.Site, zi p1.Txn.N, zi b77_1, zi b77_2, zi b77_3, zi b77_4, zi b77_5, .d (.b b77_6), zi b77_7]]) (fun k78 h => ?_) (fun b77_1 b77_2 b77_3 b77_4 b77_5 b77_6 b77_7 h => ?_)
 refine oi h (fun hb79 h => ?_) (fun hb79 h => ?_)
 try simp only [*, go_sem]
 exact jc (0, p1.Key, p1.Value, 0, p1.Ask, false, 0) h.e [some 0]
 try simp only [*, go_sem]
 refine jn7 h (fun b80_1 b80_2 b80_3 b80_4 b80_5 b80_6 b80_7 => [zK 3 (Message.enc p1), zP 6 0]) (fun b80_1 b80_2 b80_3 b80_4 b80_5 b80_6 b80_7 => [ox [zi p1.Kind, zi p1.From, zi p1.To, zi p1.Txn.Site, zi p1.Txn.N, zi b80_1, zi b80_2, zi b80_3, zi b80_4, zi b80_5, .d (.b b80_6), zi b80_7]]) (fun k81 h => ?_) (fun b80_1 b80_2 b80_3 b80_4 b80_5 b80_6 b80_7 h => ?_)
 refine oi h (fun hb82 h => ?_) (fun hb82 h => ?_)
 try simp only [*, go_sem]
 refine jn2 h (fun b83_1 b83_2 => [zK 3 (Message.enc p1), zP 6 0]) (fun b83_1 b83_2 => [ox [zi p1.Kind, zi p1.From, zi p1.To, zi p1.Txn.Site, zi p1.Txn.N, zi p1.Label, zi p1.Key, zi b83_1, zi b83_2, zi p1.Ask, .d (.b false), zi p1.Code]]) (fun k84 h => ?_) (fun b83_1 b83_2 h => ?_)
 refine oi h (fun hb85 h => ?_) (fun hb85 h => ?_)
 try simp only [*, go_sem]
 exact jc (p1.Value, p1.Version) h.e [some 0]
 try simp only [*, go_sem]
 exact jc (0, 0) h.e [some 0]
 try simp only [*, go_sem]
 exact jc (p1.Label, p1.Key, b83_1, b83_2, p1.Ask, false, p1.Code) h.e [some 0]
 try simp only [*, go_sem]
 refine jn6 h (fun b86_1 b86_2 b86_3 b86_4 b86_5 b86_6 => [zK 3 (Message.enc p1), zP 6 0]) (fun b86_1 b86_2 b86_3 b86_4 b86_5 b86_6 => [ox [zi p1.Kind, zi p1.From, zi p1.To, zi p1.Txn.Site, zi p1.Txn.N, zi b86_1, zi b86_2, zi 0, zi b86_3, zi b86_4, .d (.b b86_5), zi b86_6]]) (fun k87 h => ?_) (fun b86_1 b86_2 b86_3 b86_4 b86_5 b86_6 h => ?_)
 refine oi h (fun hb88 h => ?_) (fun hb88 h => ?_)
 try simp only [*, go_sem]
 exact jc (0, p1.Key, 0, p1.Ask, false, p1.Code) h.e [some 0]
 try simp only [*, go_sem]
 refine jn4 h (fun b89_1 b89_2 b89_3 b89_4 => [zK 3 (Message.enc p1), zP 6 0]) (fun b89_1 b89_2 b89_3 b89_4 => [ox [zi p1.Kind, zi p1.From, zi p1.To, zi p1.Txn.Site, zi p1.Txn.N, zi b89_1, zi b89_2, zi 0, zi b89_3, zi 0, .d (.b b89_4), zi 0]]) (fun k90 h => ?_) (fun b89_1 b89_2 b89_3 b89_4 h => ?_)
 refine oi h (fun hb91 h => ?_) (fun hb91 h => ?_)
 try simp only [*, go_sem]
 exact jc (0, 0, 0, p1.Yes) h.e [some 0]
 try simp only [*, go_sem]
 refine jn4 h (fun b92_1 b92_2 b92_3 b92_4 => [zK 3 (Message.enc p1), zP 6 0]) (fun b92_1 b92_2 b92_3 b92_4 => [ox [zi p1.Kind, zi p1.From, zi p1.To, zi p1.Txn.Site, zi p1.Txn.N, zi b92_1, zi b92_2, zi 0, zi b92_3, zi 0, .d (.b b92_4), zi 0]]) (fun k93 h => ?_) (fun b92_1 b92_2 b92_3 b92_4 h => ?_)
 refine oi h (fun hb94 h => ?_) (fun hb94 h => ?_)
 try simp only [*, go_sem]
 exact jc (p1.Label, p1.Key, p1.Version, false) h.e [some 0]
 try simp only [*, go_sem]
 refine jn4 h (fun b95_1 b95_2 b95_3 b95_4 => [zK 3 (Message.enc p1), zP 6 0]) (fun b95_1 b95_2 b95_3 b95_4 => [ox [zi p1.Kind, zi p1.From, zi p1.To, zi p1.Txn.Site, zi p1.Txn.N, zi b95_1, zi b95_2, zi 0, zi b95_3, zi 0, .d (.b b95_4), zi 0]]) (fun k96 h => ?_) (fun b95_1 b95_2 b95_3 b95_4 h => ?_)
 refine oi h (fun hb97 h => ?_) (fun hb97 h => ?_)
 try simp only [*, go_sem]
 exact jc (p1.Label, p1.Key, p1.Version, p1.Yes) h.e [some 0]
 try simp only [*, go_sem]
 exact jc (0, 0, 0, false) h.e [some 0]
 try simp only [*, go_sem]
 exact jc (b95_1, b95_2, b95_3, b95_4) h.e [some 0]
 try simp only [*, go_sem]
 exact jc (b92_1, b92_2, b92_3, b92_4) h.e [some 0]
 try simp only [*, go_sem]
 exact jc (b89_1, b89_2, b89_3, 0, b89_4, 0) h.e [some 0]
 try simp only [*, go_sem]
 exact jc (b86_1, b86_2, 0, b86_3, b86_4, b86_5, b86_6) h.e [some 0]
 try simp only [*, go_sem]
 exact jc (b80_1, b80_2, b80_3, b80_4, b80_5, b80_6, b80_7) h.e [some 0]
 try simp only [*, go_sem]
 exact jc (b77_1, b77_2, b77_3, b77_4, b77_5, b77_6, b77_7) h.e [some 0]
 refine oin h (fun hb98 hkhb98 h => ?_) (fun hb98 hkhb98 h => ?_)
 try simp only [*, go_sem]
 cases h.e
 simp only [*, go_sem, mA, mS]
 try simp only [*, go_sem]
 cases h.e
 simp only [*, go_sem, mA, mS]
def reredosref_jobAt_L1 (p0 : Desk) (p1 : Int) (k2 : Option (Int)) : Nat → Nat → Option (Int)
 | 0, _ => none
 | n4 + 1, a3_1 => (if (decide (a3_1 < p0.Jobs.length)) = true then (Option.bind (p0.Jobs[a3_1]?) fun x7 => (if (x7.N == p1) = true then (some ((a3_1 : Nat) : Int)) else (reredosref_jobAt_L1 p0 p1 k2 n4 (a3_1 + 1)))) else k2)
def reredosref_jobAt (p0 : Desk) (p1 : Int) : Option (Int) := (withK (some (-1)) fun k2 => (reredosref_jobAt_L1 p0 p1 k2 (p0.Jobs.length + 1) 0))
def F53 : VFn := ⟨22, (.seq (.reg [vo 2 (.box 2 (.t 0)), mi 4 0]) (.seq (.seq (.reg [mi 5 0]) (.wk (.block 0 (.loop (.seq (.seq (.reg [vm 6 5, vf 7 1 2, vs 8 7, ln 9 8, bt 10 .lss 6 9]) (.cond (.t 10) .skip (.exit 0))) (.seq (.block 1 (.seq (.reg [vf 13 1 2, vs 14 13, vm 15 5, xa 16 6 14 15, vf 17 0 16, vs 18 17, vm 19 1, bt 20 .eql 18 19]) (.cond (.t 20) (.seq (.reg [vm 21 5, vm 4 21]) .ret) .skip))) (.reg [vm 11 5, bk 12 .add 11 1, vm 5 12]))))))) (.seq (.reg [mi 4 (-1)]) .ret))), [.t 4]⟩
theorem low53 : lowF Tryd.prog 53 = some F53.strip := by kernel_rfl
theorem fok53 : fOk Tryd.prog 53 = true := by kernel_rfl
theorem reredosref_jobAt_ok (p0 : Desk) (p1 : Int) (r : Int) (h : reredosref_jobAt p0 p1 = some r) : FnRO Tryd.prog G 53 [.agg p0.bx, .one (.d (.i .i64 p1))] (fun rs => rs = [.one (.i .i64 r)]) := by
 refine FnRO.of' low53 fok53 (by simp [F53]) ?_
 rw [reredosref_jobAt] at h
 replace h := Hd.mk h
 simp only [F53, go_sem]
 try simp only [*, go_sem]
 refine jn0 h ([]) ([]) (fun k2 h => ?_) (fun h => ?_)
 try simp only [*, go_sem]
 refine lp1 (reredosref_jobAt_L1 p0 p1 k2) (fun a3_1 => [zI 1 p1, zP 2 0, zI 5 ((a3_1 : Nat) : Int)]) (fun a3_1 => [ox p0.bx]) h [] [some 0] (fun n4 a3_1 h => ?_) (by intros; rw [reredosref_jobAt_L1])
 rw [reredosref_jobAt_L1] at h
 try simp only [*, go_sem]
 intro hl5
 refine oi h (fun hb6 h => ?_) (fun hb6 h => ?_)
 have := of_decide_eq_true hb6
 refine obg h (fun x7 _ hkx7 h => ?_)
 refine oi h (fun hb8 h => ?_) (fun hb8 h => ?_)
 cases h.e
 simp only [*, go_sem, mA, mS]
 have := wrap_succ_max hkx7 hl5
 try simp only [*, go_sem]
 exact lc (a3_1 + 1) h.e [some 0]
 try simp only [*, go_sem]
 exact jc () h.e []
 cases h.e
 simp only [*, go_sem, mA, mS]
def reredosref_about (p0 : Int) (p1 : Int) (p2 : Int) (p3 : Int) : Option (Message) := (some (Message.mk p1 p0 p2 (Txn.mk p0 p3) 0 0 0 0 0 false 0))
def F54 : VFn := ⟨16, (.seq (.reg [vo 8 (.alloc [(zi 0), (zi 0), (zi 0), (zi 0), (zi 0), (zi 0), (zi 0), (zi 0), (zi 0), (zi 0), (.d (.b false)), (zi 0)])]) (.seq (.reg [vm 9 1, vm 10 0, vm 11 2, vm 12 0, vm 13 3, vo 14 (.build [(zi 0), (zi 0)] [(0, 1, (.t 12)), (1, 1, (.t 13))]), vo 15 (.build [(zi 0), (zi 0), (zi 0), (zi 0), (zi 0), (zi 0), (zi 0), (zi 0), (zi 0), (zi 0), (.d (.b false)), (zi 0)] [(0, 1, (.t 9)), (1, 1, (.t 10)), (2, 1, (.t 11)), (3, 2, (.t 14))]), vu (.st 12 (.t 8) (.t 15))]) .ret)), [.cell 8 true 12]⟩
theorem low54 : lowF Tryd.prog 54 = some F54.strip := by kernel_rfl
theorem fok54 : fOk Tryd.prog 54 = true := by kernel_rfl
theorem reredosref_about_ok (p0 : Int) (p1 : Int) (p2 : Int) (p3 : Int) (r : Message) (h : reredosref_about p0 p1 p2 p3 = some r) : FnRO Tryd.prog G 54 [.one (.d (.i .i64 p0)), .one (.d (.i .i64 p1)), .one (.d (.i .i64 p2)), .one (.d (.i .i64 p3))] (fun rs => rs = [.agg (r.encO)]) := by
 refine FnRO.of' low54 fok54 (by simp [F54]) ?_
 rw [reredosref_about] at h
 replace h := Hd.mk h
 simp only [F54, go_sem]
 cases h.e
 simp only [*, go_sem, mA, mS]
def reredosref_hands_L2 (p0 : Config) (p1 : Int) (p2 : Job) (a3_1 : Int) (k7 : Bool → Option ((List Int))) : Nat → Bool → Nat → Option ((List Int))
 | 0, _, _ => none
 | n9 + 1, a8_1, a8_2 => (if (decide (a8_2 < p2.Tasks.length)) = true then (if a8_1 = true then (reredosref_hands_L2 p0 p1 p2 a3_1 k7 n9 true (a8_2 + 1)) else (Option.bind (p2.Tasks[a8_2]?) fun x14 => (if (x14.Label == p1) = true then (if p0.Sites = 0 then none else (reredosref_hands_L2 p0 p1 p2 a3_1 k7 n9 (x14.Key.tmod p0.Sites == a3_1) (a8_2 + 1))) else (reredosref_hands_L2 p0 p1 p2 a3_1 k7 n9 false (a8_2 + 1))))) else (k7 a8_1))
def reredosref_hands_L1 (p0 : Config) (p1 : Int) (p2 : Job) (k2 : (List Int) → Option ((List Int))) : Nat → Int → (List Int) → Option ((List Int))
 | 0, _, _ => none
 | n4 + 1, a3_1, a3_2 => (if (decide (a3_1 < p0.Sites)) = true then (withK (fun (b6_1 : Bool) => (withK (fun (b19_1 : List Int) => (reredosref_hands_L1 p0 p1 p2 k2 n4 (IntKind.i64.wrap (a3_1 + 1)) b19_1)) fun k20 => (if b6_1 = true then (if fits 8 (a3_2.length + 1) then (k20 (a3_2 ++ [a3_1])) else none) else (k20 a3_2)))) fun k7 => (reredosref_hands_L2 p0 p1 p2 a3_1 k7 (p2.Tasks.length + 1) false 0)) else (k2 a3_2))
def reredosref_hands (p0 : Config) (p1 : Int) (p2 : Job) : Option ((List Int)) := (withK (fun (b1_1 : List Int) => (some b1_1)) fun k2 => (reredosref_hands_L1 p0 p1 p2 k2 ((p0.Sites).toNat + 1) 0 []))
def F166 : VFn := ⟨54, (.seq (.reg [vo 3 (.box 3 (.t 0)), vo 5 (.box 6 (.t 2)), vo 6 (.mv (.c (.one (.nl 1))))]) (.seq (.reg [vo 7 (.mv (.c (.one (.nl 1))))]) (.seq (.seq (.reg [mi 8 0]) (.wk (.block 0 (.loop (.seq (.seq (.reg [vm 11 8, vf 12 0 3, vs 13 12, bt 14 .lss 11 13]) (.cond (.t 14) .skip (.exit 0))) (.seq (.block 1 (.seq (.reg [vo 9 (.mv (cb false))]) (.seq (.seq (.reg [mi 10 0]) (.wk (.block 2 (.loop (.seq (.seq (.reg [vm 17 10, vf 18 2 5, vs 19 18, ln 20 19, bt 21 .lss 17 20]) (.cond (.t 21) .skip (.exit 2))) (.seq (.block 3 (.draw [vd (vm 24 9) 0, vd (vm 25 24) 1, vd (gf 26 25 (.fa 2 (.t 5))) 3, vd (gf 27 25 (.ld false 1 (.t 26))) 7, vd (gf 28 25 (.mv (.t 10))) 3, vd (gf 29 25 (.ia 8 (.t 27) (.t 28))) 31, vd (gf 30 25 (.fa 1 (.t 29))) 63, vd (gf 31 25 (.ld false 1 (.t 30))) 127, vd (gf 32 25 (.mv (.t 1))) 3, vd (gf 33 25 (.bin .i .eql (.t 31) (.t 32))) 511, vd (gf 34 25 (.mv (.t 33))) 1023, vd (gt 35 34 (.fa 2 (.t 5))) 2047, vd (gt 36 34 (.ld false 1 (.t 35))) 4095, vd (gt 37 34 (.mv (.t 10))) 2047, vd (gt 38 34 (.ia 8 (.t 36) (.t 37))) 0x3fff, vd (gt 39 34 (.fa 2 (.t 38))) 0x7fff, vd (gt 40 34 (.ld false 1 (.t 39))) 0xffff, vd (gt 41 34 (.fa 0 (.t 3))) 2047, vd (gt 42 34 (.ld false 1 (.t 41))) 0x207ff, vd (gt 43 34 (.bin .i .rem (.t 40) (.t 42))) 0x7ffff, vd (gt 44 34 (.mv (.t 8))) 2047, vd (gt 45 34 (.bin .i .eql (.t 43) (.t 44))) 0x1fffff, vd (gf 46 25 (.pick (.t 34) (.t 45) (cb false))) 0x3fffff, vd (vo 47 (.pick (.t 25) (cb true) (.t 46))) 0x7fffff, vd (vm 9 47) 0xffffff])) (.reg [vm 22 10, bk 23 .add 22 1, vm 10 23]))))))) (.seq (.reg [vm 48 9]) (.wk (.cond (.t 48) (.reg [vm 49 7, vm 50 8, vo 51 (.bsl 1 1 [(zi 0)] [(0, (.t 50))]), vo 52 (.app 1 8 (.t 49) (.t 51)), vm 7 52]) .skip)))))) (.reg [vm 15 8, bk 16 .add 15 1, vm 8 16]))))))) (.seq (.reg [vm 53 7, vm 6 53]) .ret)))), [.t 6]⟩
theorem low166 : lowF Tryd.prog 166 = some F166.strip := by kernel_rfl
theorem fok166 : fOk Tryd.prog 166 = true := by kernel_rfl
theorem reredosref_hands_ok (p0 : Config) (p1 : Int) (p2 : Job) (r : (List Int)) (h : reredosref_hands p0 p1 p2 = some r) : FnRO Tryd.prog G 166 [.agg p0.bx, .one (.d (.i .i64 p1)), .agg p2.bx] (fun rs => rs = [.one (.o 1 (r.map encI))]) := by
 refine FnRO.of' low166 fok166 (by simp [F166]) ?_
 rw [reredosref_hands] at h
 replace h := Hd.mk h
 simp only [F166, go_sem]
 try simp only [*, go_sem]
 refine jn1 h (fun b1_1 => [zR 7 0 0 b1_1.length]) (fun b1_1 => [oa 1 (b1_1.map encI)]) (fun k2 h => ?_) (fun b1_1 h => ?_)
 try simp only [*, go_sem]
 refine lp2 (reredosref_hands_L1 p0 p1 p2 k2) (fun a3_1 a3_2 => [zI 1 p1, zP 3 0, zP 5 1, zR 7 2 0 a3_2.length, zI 8 a3_1]) (fun a3_1 a3_2 => [ox p0.bx, ox p2.bx, oa 1 (a3_2.map encI)]) h [] [some 0, some 1, none] (fun n4 a3_1 a3_2 h => ?_) (by intros; rw [reredosref_hands_L1])
 rw [reredosref_hands_L1] at h
 refine oi h (fun hb5 h => ?_) (fun hb5 h => ?_)
 have := of_decide_eq_true hb5
 try simp only [*, go_sem]
 refine jn1 h (fun b6_1 => [zI 1 p1, zP 3 0, zP 5 1, zR 7 2 0 a3_2.length, zI 8 a3_1, zB 9 b6_1]) (fun b6_1 => [ox p0.bx, ox p2.bx, oa 1 (a3_2.map encI)]) (fun k7 h => ?_) (fun b6_1 h => ?_)
 try simp only [*, go_sem]
 refine lp2 (reredosref_hands_L2 p0 p1 p2 a3_1 k7) (fun a8_1 a8_2 => [zI 1 p1, zP 3 0, zP 5 1, zR 7 2 0 a3_2.length, zI 8 a3_1, zB 9 a8_1, zI 10 ((a8_2 : Nat) : Int)]) (fun a8_1 a8_2 => [ox p0.bx, ox p2.bx, oa 1 (a3_2.map encI)]) h [] [some 0, some 1, some 2] (fun n9 a8_1 a8_2 h => ?_) (by intros; rw [reredosref_hands_L2])
 rw [reredosref_hands_L2] at h
 try simp only [*, go_sem]
 intro hl10
 refine oi h (fun hb11 h => ?_) (fun hb11 h => ?_)
 have hkhb11 := of_decide_eq_true hb11
 refine oi h (fun hb12 h => ?_) (fun hb12 h => ?_)
 have := wrap_succ_max hkhb11 hl10
 try simp only [*, go_sem]
 exact lc (true, a8_2 + 1) h.e [some 0, some 1, some 2]
 refine obg h (fun x14 _ hkx14 h => ?_)
 refine oi h (fun hb15 h => ?_) (fun hb15 h => ?_)
 refine ckn h (fun _ h => ?_)
 have := wrap_succ_max hkx14 hl10
 try simp only [*, go_sem]
 exact lc (x14.Key.tmod p0.Sites == a3_1, a8_2 + 1) h.e [some 0, some 1, some 2]
 have := wrap_succ_max hkx14 hl10
 try simp only [*, go_sem]
 exact lc (false, a8_2 + 1) h.e [some 0, some 1, some 2]
 try simp only [*, go_sem]
 exact jc (a8_1) h.e [some 0, some 1, some 2]
 try simp only [*, go_sem]
 refine jn1 h (fun b19_1 => [zI 1 p1, zP 3 0, zP 5 1, zR 7 2 0 b19_1.length, zI 8 a3_1]) (fun b19_1 => [ox p0.bx, ox p2.bx, oa 1 (b19_1.map encI)]) (fun k20 h => ?_) (fun b19_1 h => ?_)
 refine oi h (fun hb21 h => ?_) (fun hb21 h => ?_)
 refine ck h (fun _ h => ?_)
 try simp only [*, go_sem]
 exact jc ((a3_2 ++ [a3_1])) h.e [some 0, some 1, some 4]
 try simp only [*, go_sem]
 exact jc (a3_2) h.e [some 0, some 1, some 2]
 try simp only [*, go_sem]
 exact lc (IntKind.i64.wrap (a3_1 + 1), b19_1) h.e [some 0, some 1, some 2]
 try simp only [*, go_sem]
 exact jc (a3_2) h.e [some 2]
 cases h.e
 simp only [*, go_sem, mA, mS]
def reredosref_without_L1 (p0 : List Job) (p1 : Int) (k2 : (List Job) → Option ((List Job))) : Nat → Nat → (List Job) → Option ((List Job))
 | 0, _, _ => none
 | n4 + 1, a3_1, a3_2 => (if (decide (a3_1 < p0.length)) = true then (withK (fun (b7_1 : List Job) => (reredosref_without_L1 p0 p1 k2 n4 (a3_1 + 1) b7_1)) fun k8 => (if (((a3_1 : Nat) : Int) != p1) = true then (withK (fun (b10_1 : Int) (b10_2 : Int) (b10_3 : List Task) (b10_4 : List Int) (b10_5 : Int) (b10_6 : Int) => (if fits 80 (a3_2.length + 1) then (k8 (a3_2 ++ [(Job.mk b10_1 b10_2 b10_3 b10_4 b10_5 b10_6)])) else none)) fun k11 => (Option.bind (p0[a3_1]?) fun x12 => (k11 x12.N x12.State x12.Tasks x12.Asked x12.Asks x12.Age))) else (k8 a3_2))) else (k2 a3_2))
def reredosref_without (p0 : List Job) (p1 : Int) : Option ((List Job)) := (withK (fun (b1_1 : List Job) => (some b1_1)) fun k2 => (reredosref_without_L1 p0 p1 k2 (p0.length + 1) 0 []))
def F57 : VFn := ⟨24, (.seq (.reg [vo 4 (.mv (.c (.one (.nl 6))))]) (.seq (.reg [vo 5 (.mv (.c (.one (.nl 6))))]) (.seq (.seq (.reg [mi 6 0]) (.wk (.block 0 (.loop (.seq (.seq (.reg [vm 7 6, vm 8 0, ln 9 8, bt 10 .lss 7 9]) (.cond (.t 10) .skip (.exit 0))) (.seq (.block 1 (.seq (.reg [vm 13 6, vm 14 1, bt 15 .neq 13 14]) (.wk (.cond (.t 15) (.regs [[vm 16 5, vm 17 0, vm 18 6, xa 19 6 17 18, vl 20 6 19], [vo 21 (.bsl 6 1 [(zi 0), (zi 0), (.nl 8), (.nl 1), (zi 0), (zi 0)] [(0, (.t 20))]), vo 22 (.app 6 80 (.t 16) (.t 21)), vm 5 22]]) .skip)))) (.reg [vm 11 6, bk 12 .add 11 1, vm 6 12]))))))) (.seq (.reg [vm 23 5, vm 4 23]) .ret)))), [.t 4]⟩
theorem low57 : lowF Tryd.prog 57 = some F57.strip := by kernel_rfl
theorem fok57 : fOk Tryd.prog 57 = true := by kernel_rfl
theorem reredosref_without_ok (p0 : List Job) (p1 : Int) (r : (List Job)) (h : reredosref_without p0 p1 = some r) : FnRO Tryd.prog G 57 [.one (.d (.l 6 (p0.map Job.enc))), .one (.d (.i .i64 p1))] (fun rs => rs = [.one (.o 6 (r.map Job.enc))]) := by
 refine FnRO.of' low57 fok57 (by simp [F57]) ?_
 rw [reredosref_without] at h
 replace h := Hd.mk h
 simp only [F57, go_sem]
 try simp only [*, go_sem]
 refine jn1 h (fun b1_1 => [zR 5 0 0 b1_1.length]) (fun b1_1 => [oa 6 (b1_1.map Job.enc)]) (fun k2 h => ?_) (fun b1_1 h => ?_)
 try simp only [*, go_sem]
 refine lp2 (reredosref_without_L1 p0 p1 k2) (fun a3_1 a3_2 => [zL 0 6 (p0.map Job.enc), zI 1 p1, zR 5 0 0 a3_2.length, zI 6 ((a3_1 : Nat) : Int)]) (fun a3_1 a3_2 => [oa 6 (a3_2.map Job.enc)]) h [] [none] (fun n4 a3_1 a3_2 h => ?_) (by intros; rw [reredosref_without_L1])
 rw [reredosref_without_L1] at h
 try simp only [*, go_sem]
 intro hl5
 refine oi h (fun hb6 h => ?_) (fun hb6 h => ?_)
 have hkhb6 := of_decide_eq_true hb6
 try simp only [*, go_sem]
 refine jn1 h (fun b7_1 => [zL 0 6 (p0.map Job.enc), zI 1 p1, zR 5 0 0 b7_1.length, zI 6 ((a3_1 : Nat) : Int)]) (fun b7_1 => [oa 6 (b7_1.map Job.enc)]) (fun k8 h => ?_) (fun b7_1 h => ?_)
 refine oi h (fun hb9 h => ?_) (fun hb9 h => ?_)
 try simp only [*, go_sem]
 refine rg6 h (fun b10_1 b10_2 b10_3 b10_4 b10_5 b10_6 => [zL 0 6 (p0.map Job.enc), zI 1 p1, zI 6 ((a3_1 : Nat) : Int), zR 16 0 0 a3_2.length, (20, .agg [zi b10_1, zi b10_2, .d (.l 8 (b10_3.map Task.enc)), .d (.l 1 (b10_4.map encI)), zi b10_5, zi b10_6])]) (fun b10_1 b10_2 b10_3 b10_4 b10_5 b10_6 => [oa 6 (a3_2.map Job.enc)]) (fun k11 h => ?_) (fun b10_1 b10_2 b10_3 b10_4 b10_5 b10_6 h => ?_)
 refine obg h (fun x12 _ _ h => ?_)
 try simp only [*, go_sem]
 exact jc (x12.N, x12.State, x12.Tasks, x12.Asked, x12.Asks, x12.Age) h.e [some 0]
 refine ck h (fun _ h => ?_)
 try simp only [*, go_sem]
 exact jc ((a3_2 ++ [(Job.mk b10_1 b10_2 b10_3 b10_4 b10_5 b10_6)])) h.e [some 2]
 try simp only [*, go_sem]
 exact jc (a3_2) h.e [some 0]
 have := wrap_succ_max hkhb6 hl5
 try simp only [*, go_sem]
 exact lc (a3_1 + 1, b7_1) h.e [some 0]
 try simp only [*, go_sem]
 exact jc (a3_2) h.e [some 0]
 cases h.e
 simp only [*, go_sem, mA, mS]
def reredosref_ended_L1 (p2 : Int) (x1 : Job) (v3 : (List Int)) (k5 : (List Message) → Option (Turn)) : Nat → Nat → (List Message) → Option (Turn)
 | 0, _, _ => none
 | n7 + 1, a6_1, a6_2 => (if (decide (a6_1 < v3.length)) = true then (Option.bind (v3[a6_1]?) fun x10 => (Option.bind (reredosref_about p2 4 x10 x1.N) fun v11 => (if fits 96 (a6_2.length + 1) then (reredosref_ended_L1 p2 x1 v3 k5 n7 (a6_1 + 1) (a6_2 ++ [v11])) else none))) else (k5 a6_2))
def reredosref_ended (p0 : Config) (p1 : Int) (p2 : Int) (p3 : Turn) (p4 : Int) : Option (Turn) := (if 0 ≤ p4 then (Option.bind (p3.Desk.Jobs[p4.toNat]?) fun x1 => (Option.bind (reredosref_hands p0 p1 x1) fun v3 => (withK (fun (b4_1 : List Message) => (Option.bind (reredosref_without (p3.Desk.Jobs.set p4.toNat x1) p4) fun v14 => (some (Turn.mk (Desk.mk p3.Desk.Next v14) b4_1 p3.Records p3.Replies p3.Sure p3.Committed)))) fun k5 => (reredosref_ended_L1 p2 x1 v3 k5 (v3.length + 1) 0 p3.Messages)))) else none)
def F118 : VFn := ⟨59, (.seq (.reg [vo 5 (.box 3 (.t 0))]) (.seq (.gho (.reg [vm 13 3, vo 14 (.nilchk (.t 13)), vf 15 0 14, vf 16 1 15, vs 17 16, vm 18 4, xa 19 6 17 18, vl 20 6 19, vo 10 (.alloc [(zi 0), (zi 0), (.nl 8), (.nl 1), (zi 0), (zi 0)]), vu (.st 6 (.t 10) (.t 20))])) (.seq (.reg [vl 21 3 5, vm 22 1, vl 23 6 10, vo 24 (.call 166 [(.t 21), (.t 22), (.t 23)]), vm 11 24]) (.seq (.seq (.reg [mi 12 0]) (.wk (.block 0 (.loop (.seq (.seq (.reg [vm 25 12, vm 26 11, ln 27 26, bt 28 .lss 25 27]) (.cond (.t 28) .skip (.exit 0))) (.seq (.block 1 (.draw [vd (vm 31 3) 0, vd (vm 32 3) 0, vd (vo 33 (.nilchk (.t 32))) 2, vd (vf 34 2 33) 6, vd (vs 35 34) 14, vd (vm 36 2) 0, vd (vm 37 11) 0, vd (vm 38 12) 0, vd (xa 39 1 37 38) 192, vd (vs 40 39) 448, vd (vf 41 0 10) 0, vd (vs 42 41) 1024, vd (vo 43 (.call 54 [(.t 36), (ci 4), (.t 40), (.t 42)])) 4064, vd (vo 44 (.bsl 12 1 [(zi 0), (zi 0), (zi 0), (zi 0), (zi 0), (zi 0), (zi 0), (zi 0), (zi 0), (zi 0), (.d (.b false)), (zi 0)] [(0, (.t 43))])) 8160, vd (vo 45 (.app 12 96 (.t 35) (.t 44))) 0x3ffe, vd (vo 46 (.nilchk (.t 31))) 0x7fff, vd (vf 47 2 46) 0xffff, vd (vu (.st 1 (.t 47) (.t 45))) 0x1ffff])) (.reg [vm 29 12, bk 30 .add 29 1, vm 12 30]))))))) (.gho (.reg [vm 48 3, vm 49 3, vo 50 (.nilchk (.t 49)), vf 51 0 50, vf 52 1 51, vs 53 52, vm 54 4, vo 55 (.call 57 [(.t 53), (.t 54)]), vo 56 (.nilchk (.t 48)), vf 57 0 56, vf 58 1 57, vu (.st 1 (.t 58) (.t 55))])))))), []⟩
theorem low118 : lowF Tryd.prog 118 = some F118.strip := by kernel_rfl
theorem fok118 : fOk Tryd.prog 118 = true := by kernel_rfl
theorem reredosref_ended_ok (p0 : Config) (p1 : Int) (p2 : Int) (p3 : Turn) (p4 : Int) (r : Turn) (h : reredosref_ended p0 p1 p2 p3 p4 = some r) : FnX Tryd.prog G 118 [.agg p0.bx, .one (.d (.i .i64 p1)), .one (.d (.i .i64 p2)), ptrX, .one (.d (.i .i64 p4))] [.i .i64 p3.Desk.Next, .t 6 (p3.Desk.Jobs.map Job.encO), .o 12 (p3.Messages.map Message.enc), .o 8 (p3.Records.map Record.enc), .o 6 (p3.Replies.map Reply.enc), .i .i64 p3.Sure, .i .i64 p3.Committed] (fun c rs => c = [.i .i64 r.Desk.Next, .o 6 (r.Desk.Jobs.map Job.enc), .o 12 (r.Messages.map Message.enc), .o 8 (r.Records.map Record.enc), .o 6 (r.Replies.map Reply.enc), .i .i64 r.Sure, .i .i64 r.Committed] ∧ rs = []) := by
 refine FnX.of [] low118 fok118 (by exact Nat.le_of_ble_eq_true rfl) (by exact Nat.le_of_ble_eq_true rfl) ?_
 rw [reredosref_ended] at h
 replace h := Hd.mk h
 simp only [F118, go_sem]
 refine obn h (fun x1 _ _ _ _ h => ?_)
 try simp only [*, go_sem]
 refine gho_lk _ G _ _ [.f 1 p4.toNat] ?_
 try simp only [*, go_sem]
 try simp only [*, go_sem]
 refine cl h (reredosref_hands_ok G p0 p1 x1) (fun v3 h => ?_)
 try simp only [*, go_sem]
 refine jn1 h (fun b4_1 => [zP 3 0, zI 4 p4, zP 1000000 0]) (fun b4_1 => [ox [zi p3.Desk.Next, .r 1 0 p3.Desk.Jobs.length, .r 2 0 b4_1.length, .r 3 0 p3.Records.length, .r 4 0 p3.Replies.length, zi p3.Sure, zi p3.Committed], ot 6 ((p3.Desk.Jobs.set p4.toNat x1).map Job.encO), oa 12 (b4_1.map Message.enc), oa 8 (p3.Records.map Record.enc), oa 6 (p3.Replies.map Reply.enc)]) (fun k5 h => ?_) (fun b4_1 h => ?_)
 try simp only [*, go_sem]
 refine lp2 (reredosref_ended_L1 p2 x1 v3 k5) (fun a6_1 a6_2 => [zI 2 p2, zP 3 0, zI 4 p4, zP 10 1, zR 11 2 0 v3.length, zI 12 ((a6_1 : Nat) : Int), zP 1000000 0]) (fun a6_1 a6_2 => [ox [zi p3.Desk.Next, .r 3 0 p3.Desk.Jobs.length, .r 4 0 a6_2.length, .r 5 0 p3.Records.length, .r 6 0 p3.Replies.length, zi p3.Sure, zi p3.Committed], ox [zi x1.N, zi x1.State, .r 7 0 x1.Tasks.length, .r 8 0 x1.Asked.length, zi x1.Asks, zi x1.Age], oa 1 (v3.map encI), og 6 (p3.Desk.Jobs.map Job.encO) p4.toNat [zi x1.N, zi x1.State, .r 7 0 x1.Tasks.length, .r 8 0 x1.Asked.length, zi x1.Asks, zi x1.Age], oa 12 (a6_2.map Message.enc), oa 8 (p3.Records.map Record.enc), oa 6 (p3.Replies.map Reply.enc), oa 8 (x1.Tasks.map Task.enc), oa 1 (x1.Asked.map encI)]) h [] [some 0, some 8, some 9, some 1, some 2, some 3, some 4, some 6, some 7] (fun n7 a6_1 a6_2 h => ?_) (by intros; rw [reredosref_ended_L1])
 rw [reredosref_ended_L1] at h
 try simp only [*, go_sem]
 intro hl8
 refine oi h (fun hb9 h => ?_) (fun hb9 h => ?_)
 have := of_decide_eq_true hb9
 refine obg h (fun x10 _ hkx10 h => ?_)
 refine obk h (fun v11 hv11 h => ?_)
 try simp only [*, go_sem]
 refine cd (reredosref_about_ok G p2 4 x10 x1.N v11 hv11) ?_
 refine ck h (fun _ h => ?_)
 have := wrap_succ_max hkx10 hl8
 try simp only [*, go_sem]
 exact lc (a6_1 + 1, (a6_2 ++ [v11])) h.e [some 0, some 1, some 2, some 3, some 23, some 5, some 6, some 7, some 8]
 try simp only [*, go_sem]
 exact jf [.u 3] (a6_2) h.e [some 0, some 3, some 4, some 5, some 6]
 try simp only [*, go_sem]
 refine gho_lk _ G _ _ [.z 1] ?_
 try simp only [*, go_sem]
 try simp only [*, go_sem]
 refine cr h (reredosref_without_ok G (p3.Desk.Jobs.set p4.toNat x1) p4) (fun v14 h => ?_)
 cases h.e
 try simp only [*, go_sem]
 refine etn [] ?_
 simp only [*, go_sem, mA, mS]
def reredosref_answeredTask (p0 : Config) (p1 : Int) (p2 : Int) (p3 : Turn) (p4 : Int) (p5 : Message) : Option (Turn) := (if 0 ≤ p4 then (Option.bind (p3.Desk.Jobs[p4.toNat]?) fun x1 => (if (decide (IntKind.i64.wrap (((x1.Tasks.length : Nat) : Int) - 1) < 0)) = true then (some (Turn.mk (Desk.mk p3.Desk.Next (p3.Desk.Jobs.set p4.toNat x1)) p3.Messages p3.Records p3.Replies p3.Sure p3.Committed)) else (if 0 ≤ IntKind.i64.wrap (((x1.Tasks.length : Nat) : Int) - 1) then (Option.bind (x1.Tasks[(IntKind.i64.wrap (((x1.Tasks.length : Nat) : Int) - 1)).toNat]?) fun x5 => (withK (fun (b7_1 : Bool) => (withK (fun (b21_1 : Nat) => (if fits 48 (p3.Replies.length + 1) then (withK (withK (fun (b30_1 : List Task) => (some (Turn.mk (Desk.mk p3.Desk.Next (p3.Desk.Jobs.set p4.toNat (Job.mk x1.N x1.State b30_1 x1.Asked x1.Asks 0))) p3.Messages p3.Records (p3.Replies ++ [(Reply.mk p2 ((b21_1 : Nat) : Int) x1.N p5.Key p5.Value p5.Code)]) p3.Sure p3.Committed))) fun k31 => (if (p5.Code != 0) = true then (if 0 ≤ IntKind.i64.wrap (((x1.Tasks.length : Nat) : Int) - 1) then (if IntKind.i64.wrap (((x1.Tasks.length : Nat) : Int) - 1) ≤ ((x1.Tasks.length : Nat) : Int) then (Option.bind (reredosref_TasksCopy (x1.Tasks.take ((IntKind.i64.wrap (((x1.Tasks.length : Nat) : Int) - 1)).toNat))) fun v37 => (k31 v37)) else none) else none) else (withK (fun (b38_1 : Int) (b38_2 : Int) => (k31 (x1.Tasks.set ((IntKind.i64.wrap (((x1.Tasks.length : Nat) : Int) - 1)).toNat) (Task.mk x5.Write x5.Label x5.Key b38_1 b38_2 x5.Ask true x5.Sure)))) fun k39 => (if (!b7_1) = true then (k39 p5.Value p5.Version) else (k39 x5.Value x5.Version))))) fun k26 => (if (p5.Code != 0) = true then (if b7_1 = true then (Option.bind (reredosref_ended p0 p1 p2 (Turn.mk (Desk.mk p3.Desk.Next (p3.Desk.Jobs.set p4.toNat x1)) p3.Messages p3.Records (p3.Replies ++ [(Reply.mk p2 ((b21_1 : Nat) : Int) x1.N p5.Key p5.Value p5.Code)]) p3.Sure p3.Committed) p4) fun v29 => (some v29)) else k26) else k26)) else none)) fun k22 => (if b7_1 = true then (k22 3) else (k22 2)))) fun k8 => (if x5.Done = true then (some (Turn.mk (Desk.mk p3.Desk.Next (p3.Desk.Jobs.set p4.toNat x1)) p3.Messages p3.Records p3.Replies p3.Sure p3.Committed)) else (if (x5.Ask != p5.Ask) = true then (some (Turn.mk (Desk.mk p3.Desk.Next (p3.Desk.Jobs.set p4.toNat x1)) p3.Messages p3.Records p3.Replies p3.Sure p3.Committed)) else (if (!(x5.Write == (p5.Kind == 6))) = true then (some (Turn.mk (Desk.mk p3.Desk.Next (p3.Desk.Jobs.set p4.toNat x1)) p3.Messages p3.Records p3.Replies p3.Sure p3.Committed)) else (if (x5.Key != p5.Key) = true then (some (Turn.mk (Desk.mk p3.Desk.Next (p3.Desk.Jobs.set p4.toNat x1)) p3.Messages p3.Records p3.Replies p3.Sure p3.Committed)) else (if (!(p5.Kind == 6)) = true then (if (x5.Label != p5.Label) = true then (some (Turn.mk (Desk.mk p3.Desk.Next (p3.Desk.Jobs.set p4.toNat x1)) p3.Messages p3.Records p3.Replies p3.Sure p3.Committed)) else (if p0.Sites = 0 then none else (if (p5.From != x5.Key.tmod p0.Sites) = true then (some (Turn.mk (Desk.mk p3.Desk.Next (p3.Desk.Jobs.set p4.toNat x1)) p3.Messages p3.Records p3.Replies p3.Sure p3.Committed)) else (k8 false)))) else (if p0.Sites = 0 then none else (if (p5.From != x5.Key.tmod p0.Sites) = true then (some (Turn.mk (Desk.mk p3.Desk.Next (p3.Desk.Jobs.set p4.toNat x1)) p3.Messages p3.Records p3.Replies p3.Sure p3.Committed)) else (k8 true)))))))))) else none))) else none)
def F55 : VFn := ⟨148, (.seq (.reg [vo 6 (.box 3 (.t 0)), vo 11 (.boxk 12 (.t 5))]) (.seq (.gho (.reg [vm 17 3, vo 18 (.nilchk (.t 17)), vf 19 0 18, vf 20 1 19, vs 21 20, vm 22 4, xa 23 6 21 22, vl 24 6 23, vo 12 (.alloc [(zi 0), (zi 0), (.nl 8), (.nl 1), (zi 0), (zi 0)]), vu (.st 6 (.t 12) (.t 24))])) (.seq (.reg [vf 25 2 12, vs 26 25, ln 27 26, bk 28 .sub 27 1, vm 13 28]) (.seq (.seq (.reg [vm 29 13, bk 30 .lss 29 0]) (.cond (.t 30) (.gho .ret) .skip)) (.seq (.reg [vf 31 2 12, vs 32 31, vm 33 13, xa 34 8 32 33, vl 35 8 34, vo 14 (.alloc [(.d (.b false)), (zi 0), (zi 0), (zi 0), (zi 0), (zi 0), (.d (.b false)), (.d (.b false))]), vu (.st 8 (.t 14) (.t 35))]) (.seq (.reg [vf 36 0 11, vs 37 36, bk 38 .eql 37 6, vm 15 38]) (.seq (.wk (.seq (.draw [vd (vf 39 6 14) 0, vd (vs 40 39) 1, vd (vm 41 40) 3, vd (gf 42 41 (.fa 5 (.t 14))) 7, vd (gf 43 41 (.ld false 1 (.t 42))) 15, vd (gf 44 41 (.fa 9 (.t 11))) 7, vd (gf 45 41 (.ld false 1 (.t 44))) 39, vd (gf 46 41 (.bin .i .neq (.t 43) (.t 45))) 127, vd (vo 47 (.pick (.t 41) (cb true) (.t 46))) 255, vd (vm 48 47) 511, vd (gf 49 48 (.fa 0 (.t 14))) 1023, vd (gf 50 48 (.ld false 1 (.t 49))) 2047, vd (gf 51 48 (.mv (.t 15))) 1023, vd (gf 52 48 (.bin .b .neq (.t 50) (.t 51))) 8191, vd (vo 53 (.pick (.t 48) (cb true) (.t 52))) 0x3fff, vd (vm 54 53) 0x7fff, vd (gf 55 54 (.fa 2 (.t 14))) 0xffff, vd (gf 56 54 (.ld false 1 (.t 55))) 0x1ffff, vd (gf 57 54 (.fa 6 (.t 11))) 0xffff, vd (gf 58 54 (.ld false 1 (.t 57))) 0x4ffff, vd (gf 59 54 (.bin .i .neq (.t 56) (.t 58))) 0xfffff, vd (vo 60 (.pick (.t 54) (cb true) (.t 59))) 0x1fffff, vd (vm 61 60) 0x3fffff, vd (gf 62 61 (.mv (.t 15))) 0x7fffff, vd (gf 63 61 (.un .not (.t 62))) 0xffffff, vd (gf 64 61 (.mv (.t 63))) 0x1ffffff, vd (gt 65 64 (.fa 1 (.t 14))) 0x3ffffff, vd (gt 66 64 (.ld false 1 (.t 65))) 0x7ffffff, vd (gt 67 64 (.fa 5 (.t 11))) 0x3ffffff, vd (gt 68 64 (.ld false 1 (.t 67))) 0x13ffffff, vd (gt 69 64 (.bin .i .neq (.t 66) (.t 68))) 0x3fffffff, vd (gf 70 61 (.pick (.t 64) (.t 69) (cb false))) 0x7fffffff, vd (vo 71 (.pick (.t 61) (cb true) (.t 70))) 0xffffffff, vd (vm 72 71) 0x1ffffffff, vd (gf 73 72 (.fa 1 (.t 11))) 0x3ffffffff, vd (gf 74 72 (.ld false 1 (.t 73))) 0x7ffffffff, vd (gf 75 72 (.fa 2 (.t 14))) 0x3ffffffff, vd (gf 76 72 (.ld false 1 (.t 75))) 0x13ffffffff, vd (gf 77 72 (.fa 0 (.t 6))) 0x3ffffffff, vd (gf 78 72 (.ld false 1 (.t 77))) 0x43ffffffff, vd (gf 79 72 (.bin .i .rem (.t 76) (.t 78))) 0xf3ffffffff, vd (gf 80 72 (.bin .i .neq (.t 74) (.t 79))) 0x1ffffffffff, vd (vo 81 (.pick (.t 72) (cb true) (.t 80))) 0x3ffffffffff]) (.cond (.t 81) (.gho .ret) .skip))) (.seq (.reg [vm 82 2, vf 83 0 12, vs 84 83, vf 85 6 11, vs 86 85, vf 87 7 11, vs 88 87, vf 89 11 11, vs 90 89, vo 91 (.build [(zi 0), (zi 0), (zi 0), (zi 0), (zi 0), (zi 0)] [(0, 1, (.t 82)), (1, 1, (ci 2)), (2, 1, (.t 84)), (3, 1, (.t 86)), (4, 1, (.t 88)), (5, 1, (.t 90))]), vo 16 (.alloc [(zi 0), (zi 0), (zi 0), (zi 0), (zi 0), (zi 0)]), vu (.st 6 (.t 16) (.t 91))]) (.seq (.seq (.reg [vm 92 15]) (.wk (.cond (.t 92) (.reg [vf 93 1 16, vu (.st 1 (.t 93) (ci 3))]) .skip))) (.seq (.draw [vd (vm 94 3) 0, vd (vm 95 3) 0, vd (vo 96 (.nilchk (.t 95))) 2, vd (vf 97 4 96) 6, vd (vs 98 97) 14, vd (vl 99 6 16) 0, vd (vo 100 (.bsl 6 1 [(zi 0), (zi 0), (zi 0), (zi 0), (zi 0), (zi 0)] [(0, (.t 99))])) 32, vd (vo 101 (.app 6 48 (.t 98) (.t 100))) 126, vd (vo 102 (.nilchk (.t 94))) 255, vd (vf 103 4 102) 511, vd (vu (.st 1 (.t 103) (.t 101))) 1023]) (.seq (.reg [vf 104 5 12, vu (.st 1 (.t 104) (ci 0))]) (.seq (.wk (.seq (.reg [vf 105 11 11, vs 106 105, bk 107 .neq 106 0, vm 108 107, gt 109 108 (.mv (.t 15)), vo 110 (.pick (.t 108) (.t 109) (cb false))]) (.cond (.t 110) (.seq (.gho (.reg [vl 111 3 6, vm 112 1, vm 113 2, vm 114 3, vm 115 4, vo 116 (.call 118 [(.t 111), (.t 112), (.t 113), (.t 114), (.t 115)])])) .ret) .skip))) (.seq (.seq (.reg [vf 117 11 11, vs 118 117, bk 119 .neq 118 0]) (.wk (.cond (.t 119) (.reg [vf 120 2 12, vs 121 120, vm 122 13, vo 123 (.sl 8 (.t 121) none (some (.t 122))), vo 124 (.call 44 [(.t 123)]), vf 125 2 12, vu (.st 1 (.t 125) (.t 124))]) (.seq (.reg [vf 126 6 14, vu (.st 1 (.t 126) (cb true))]) (.seq (.seq (.reg [vm 127 15, nt 128 127]) (.wk (.cond (.t 128) (.seq (.reg [vf 129 7 11, vs 130 129, vf 131 3 14, vu (.st 1 (.t 131) (.t 130))]) (.reg [vf 132 8 11, vs 133 132, vf 134 4 14, vu (.st 1 (.t 134) (.t 133))])) .skip))) (.reg [vf 135 2 12, vs 136 135, vm 137 13, vl 138 8 14, xa 139 8 136 137, vu (.st 8 (.t 139) (.t 138))])))))) (.draw [vd (vm 140 3) 0, vd (vo 141 (.nilchk (.t 140))) 1, vd (vf 142 0 141) 3, vd (vf 143 1 142) 7, vd (vs 144 143) 15, vd (vm 145 4) 0, vd (vl 146 6 12) 0, vd (xa 147 6 144 145) 127, vd (vu (.st 6 (.t 147) (.t 146))) 255])))))))))))))), []⟩
theorem low55 : lowF Tryd.prog 55 = some F55.strip := by kernel_rfl
theorem fok55 : fOk Tryd.prog 55 = true := by kernel_rfl
theorem reredosref_answeredTask_ok (p0 : Config) (p1 : Int) (p2 : Int) (p3 : Turn) (p4 : Int) (p5 : Message) (r : Turn) (h : reredosref_answeredTask p0 p1 p2 p3 p4 p5 = some r) : FnX Tryd.prog G 55 [.agg p0.bx, .one (.d (.i .i64 p1)), .one (.d (.i .i64 p2)), ptrX, .one (.d (.i .i64 p4)), .agg p5.bx] [.i .i64 p3.Desk.Next, .t 6 (p3.Desk.Jobs.map Job.encO), .o 12 (p3.Messages.map Message.enc), .o 8 (p3.Records.map Record.enc), .o 6 (p3.Replies.map Reply.enc), .i .i64 p3.Sure, .i .i64 p3.Committed] (fun c rs => c = [.i .i64 r.Desk.Next, .l 6 (r.Desk.Jobs.map Job.enc), .o 12 (r.Messages.map Message.enc), .o 8 (r.Records.map Record.enc), .o 6 (r.Replies.map Reply.enc), .i .i64 r.Sure, .i .i64 r.Committed] ∧ rs = []) := by
 refine FnX.of [0, 1] low55 fok55 (by exact Nat.le_of_ble_eq_true rfl) (by exact Nat.le_of_ble_eq_true rfl) ?_
 rw [reredosref_answeredTask] at h
 replace h := Hd.mk h
 simp only [F55, go_sem]
 refine obn h (fun x1 _ _ _ _ h => ?_)
 try simp only [*, go_sem]
 refine gho_lk _ G _ _ [.f 1 p4.toNat] ?_
 try simp only [*, go_sem]
 try simp only [*, go_sem]
 intro hl3
 refine oi h (fun hb4 h => ?_) (fun hb4 h => ?_)
 try simp only [*, go_sem]
 refine gho_lk _ G _ _ [.u 1] ?_
 try simp only [*, go_sem]
 cases h.e
 try simp only [*, go_sem]
 refine eti [.z 1] ?_
 simp only [*, go_sem, mA, mS]
 refine obn h (fun x5 _ _ _ _ h => ?_)
 try simp only [*, go_sem]
 refine jn1 h (fun b7_1 => [zI 1 p1, zI 2 p2, zP 3 0, zI 4 p4, zP 6 1, zK 11 (Message.enc p5), zP 12 2, zI 13 (IntKind.i64.wrap (((x1.Tasks.length : Nat) : Int) - 1)), zP 14 3, zB 15 b7_1, zP 1000000 0]) (fun b7_1 => [ox [zi p3.Desk.Next, .r 4 0 p3.Desk.Jobs.length, .r 5 0 p3.Messages.length, .r 6 0 p3.Records.length, .r 7 0 p3.Replies.length, zi p3.Sure, zi p3.Committed], ox p0.bx, ox [zi x1.N, zi x1.State, .r 8 0 x1.Tasks.length, .r 9 0 x1.Asked.length, zi x1.Asks, zi x1.Age], ox [.d (.b x5.Write), zi x5.Label, zi x5.Key, zi x5.Value, zi x5.Version, zi x5.Ask, .d (.b false), .d (.b x5.Sure)], og 6 (p3.Desk.Jobs.map Job.encO) p4.toNat [zi x1.N, zi x1.State, .r 8 0 x1.Tasks.length, .r 9 0 x1.Asked.length, zi x1.Asks, zi x1.Age], oa 12 (p3.Messages.map Message.enc), oa 8 (p3.Records.map Record.enc), oa 6 (p3.Replies.map Reply.enc), oa 8 (x1.Tasks.map Task.enc), oa 1 (x1.Asked.map encI)]) (fun k8 h => ?_) (fun b7_1 h => ?_)
 refine oi h (fun hb9 h => ?_) (fun hb9 h => ?_)
 try simp only [*, go_sem]
 refine gho_lk _ G _ _ [.u 1] ?_
 try simp only [*, go_sem]
 cases h.e
 try simp only [*, go_sem]
 refine eti [.z 1] ?_
 simp only [*, go_sem, mA, mS]
 refine oi h (fun hb10 h => ?_) (fun hb10 h => ?_)
 try simp only [*, go_sem]
 refine gho_lk _ G _ _ [.u 1] ?_
 try simp only [*, go_sem]
 cases h.e
 try simp only [*, go_sem]
 refine eti [.z 1] ?_
 simp only [*, go_sem, mA, mS]
 refine oin h (fun hb11 hkhb11 h => ?_) (fun hb11 hkhb11 h => ?_)
 try simp only [*, go_sem]
 refine gho_lk _ G _ _ [.u 1] ?_
 try simp only [*, go_sem]
 cases h.e
 try simp only [*, go_sem]
 refine eti [.z 1] ?_
 simp only [*, go_sem, mA, mS]
 refine oi h (fun hb12 h => ?_) (fun hb12 h => ?_)
 try simp only [*, go_sem]
 refine gho_lk _ G _ _ [.u 1] ?_
 try simp only [*, go_sem]
 cases h.e
 try simp only [*, go_sem]
 refine eti [.z 1] ?_
 simp only [*, go_sem, mA, mS]
 refine oin h (fun hb13 hkhb13 h => ?_) (fun hb13 hkhb13 h => ?_)
 have hq19 := hkhb11
 try simp only [hkhb13, beq_true, beq_false, Bool.not_eq_true', Bool.not_eq_false'] at hq19
 refine oi h (fun hb14 h => ?_) (fun hb14 h => ?_)
 try simp only [*, go_sem]
 refine gho_lk _ G _ _ [.u 1] ?_
 try simp only [*, go_sem]
 cases h.e
 try simp only [*, go_sem]
 refine eti [.z 1] ?_
 simp only [*, go_sem, mA, mS]
 refine ckn h (fun _ h => ?_)
 refine oi h (fun hb16 h => ?_) (fun hb16 h => ?_)
 try simp only [*, go_sem]
 refine gho_lk _ G _ _ [.u 1] ?_
 try simp only [*, go_sem]
 cases h.e
 try simp only [*, go_sem]
 refine eti [.z 1] ?_
 simp only [*, go_sem, mA, mS]
 try simp only [*, go_sem]
 exact jc (false) h.e [some 0, some 5, some 8, some 9, some 1, some 2, some 3, some 4, some 6, some 7]
 have hq20 := hkhb11
 try simp only [hkhb13, beq_true, beq_false, Bool.not_eq_true', Bool.not_eq_false'] at hq20
 refine ckn h (fun _ h => ?_)
 refine oi h (fun hb18 h => ?_) (fun hb18 h => ?_)
 try simp only [*, go_sem]
 refine gho_lk _ G _ _ [.u 1] ?_
 try simp only [*, go_sem]
 cases h.e
 try simp only [*, go_sem]
 refine eti [.z 1] ?_
 simp only [*, go_sem, mA, mS]
 try simp only [*, go_sem]
 exact jc (true) h.e [some 0, some 5, some 8, some 9, some 1, some 2, some 3, some 4, some 6, some 7]
 try simp only [*, go_sem]
 refine jn1 h (fun b21_1 => [zI 1 p1, zI 2 p2, zP 3 0, zI 4 p4, zP 6 1, zK 11 (Message.enc p5), zP 12 2, zI 13 (IntKind.i64.wrap (((x1.Tasks.length : Nat) : Int) - 1)), zP 14 3, zB 15 b7_1, zP 16 4, zP 1000000 0]) (fun b21_1 => [ox [zi p3.Desk.Next, .r 5 0 p3.Desk.Jobs.length, .r 6 0 p3.Messages.length, .r 7 0 p3.Records.length, .r 8 0 p3.Replies.length, zi p3.Sure, zi p3.Committed], ox p0.bx, ox [zi x1.N, zi x1.State, .r 9 0 x1.Tasks.length, .r 10 0 x1.Asked.length, zi x1.Asks, zi x1.Age], ox [.d (.b x5.Write), zi x5.Label, zi x5.Key, zi x5.Value, zi x5.Version, zi x5.Ask, .d (.b false), .d (.b x5.Sure)], ox [zi p2, .d (.i .i64 ((b21_1 : Nat) : Int)), zi x1.N, zi p5.Key, zi p5.Value, zi p5.Code], og 6 (p3.Desk.Jobs.map Job.encO) p4.toNat [zi x1.N, zi x1.State, .r 9 0 x1.Tasks.length, .r 10 0 x1.Asked.length, zi x1.Asks, zi x1.Age], oa 12 (p3.Messages.map Message.enc), oa 8 (p3.Records.map Record.enc), oa 6 (p3.Replies.map Reply.enc), oa 8 (x1.Tasks.map Task.enc), oa 1 (x1.Asked.map encI)]) (fun k22 h => ?_) (fun b21_1 h => ?_)
 refine oi h (fun hb23 h => ?_) (fun hb23 h => ?_)
 try simp only [*, go_sem]
 exact jc (3) h.e [some 0, some 1, some 2, some 3, some 10, some 4, some 5, some 6, some 7, some 8, some 9]
 try simp only [*, go_sem]
 exact jc (2) h.e [some 0, some 1, some 2, some 3, some 10, some 4, some 5, some 6, some 7, some 8, some 9]
 refine ck h (fun _ h => ?_)
 try simp only [*, go_sem]
 refine jn0 h ([zP 3 0, zI 4 p4, zK 11 (Message.enc p5), zP 12 1, zI 13 (IntKind.i64.wrap (((x1.Tasks.length : Nat) : Int) - 1)), zP 14 2, zB 15 b7_1, zP 1000000 0]) ([ox [zi p3.Desk.Next, .r 3 0 p3.Desk.Jobs.length, .r 4 0 p3.Messages.length, .r 5 0 p3.Records.length, .r 6 0 (p3.Replies.length + 1), zi p3.Sure, zi p3.Committed], ox [zi x1.N, zi x1.State, .r 7 0 x1.Tasks.length, .r 8 0 x1.Asked.length, zi x1.Asks, zi 0], ox [.d (.b x5.Write), zi x5.Label, zi x5.Key, zi x5.Value, zi x5.Version, zi x5.Ask, .d (.b false), .d (.b x5.Sure)], og 6 (p3.Desk.Jobs.map Job.encO) p4.toNat [zi x1.N, zi x1.State, .r 7 0 x1.Tasks.length, .r 8 0 x1.Asked.length, zi x1.Asks, zi x1.Age], oa 12 (p3.Messages.map Message.enc), oa 8 (p3.Records.map Record.enc), oa 6 ((p3.Replies ++ [(Reply.mk p2 ((b21_1 : Nat) : Int) x1.N p5.Key p5.Value p5.Code)]).map Reply.enc), oa 8 (x1.Tasks.map Task.enc), oa 1 (x1.Asked.map encI)]) (fun k26 h => ?_) (fun h => ?_)
 refine oi h (fun hb27 h => ?_) (fun hb27 h => ?_)
 refine oi h (fun hb28 h => ?_) (fun hb28 h => ?_)
 try simp only [*, go_sem]
 refine gho_lk _ G _ _ [.u 5] ?_
 try simp only [*, go_sem]
 try simp only [*, go_sem]
 refine ct h 0 [] [0, 2] [5, 6, 7, 18] (reredosref_ended_ok G p0 p1 p2 (Turn.mk (Desk.mk p3.Desk.Next (p3.Desk.Jobs.set p4.toNat x1)) p3.Messages p3.Records (p3.Replies ++ [(Reply.mk p2 ((b21_1 : Nat) : Int) x1.N p5.Key p5.Value p5.Code)]) p3.Sure p3.Committed) p4) (fun v29 h => ?_)
 cases h.e
 try simp only [*, go_sem]
 refine eti [.z 22] ?_
 simp only [*, go_sem, mA, mS]
 try simp only [*, go_sem]
 exact jc () h.e [some 0, some 2, some 3, some 5, some 6, some 7, some 18, some 9, some 10]
 try simp only [*, go_sem]
 exact jc () h.e [some 0, some 2, some 3, some 5, some 6, some 7, some 18, some 9, some 10]
 try simp only [*, go_sem]
 refine jn1 h (fun b30_1 => [zP 3 0, zI 4 p4, zP 12 1, zP 1000000 0]) (fun b30_1 => [ox [zi p3.Desk.Next, .r 2 0 p3.Desk.Jobs.length, .r 3 0 p3.Messages.length, .r 4 0 p3.Records.length, .r 5 0 (p3.Replies.length + 1), zi p3.Sure, zi p3.Committed], ox [zi x1.N, zi x1.State, .r 6 0 b30_1.length, .r 7 0 x1.Asked.length, zi x1.Asks, zi 0], og 6 (p3.Desk.Jobs.map Job.encO) p4.toNat [zi x1.N, zi x1.State, .dead, .r 7 0 x1.Asked.length, zi x1.Asks, zi x1.Age], oa 12 (p3.Messages.map Message.enc), oa 8 (p3.Records.map Record.enc), oa 6 ((p3.Replies ++ [(Reply.mk p2 ((b21_1 : Nat) : Int) x1.N p5.Key p5.Value p5.Code)]).map Reply.enc), oa 8 (b30_1.map Task.enc), oa 1 (x1.Asked.map encI)]) (fun k31 h => ?_) (fun b30_1 h => ?_)
 refine oi h (fun hb32 h => ?_) (fun hb32 h => ?_)
 refine ck h (fun _ h => ?_)
 refine ck h (fun _ h => ?_)
 have : min ((IntKind.i64.wrap (((x1.Tasks.length : Nat) : Int) - 1)).toNat) x1.Tasks.length = (IntKind.i64.wrap (((x1.Tasks.length : Nat) : Int) - 1)).toNat := by omega
 have : (IntKind.i64.wrap (((x1.Tasks.length : Nat) : Int) - 1)).toNat ≤ x1.Tasks.length := by omega
 try simp only [*, go_sem]
 refine cl h (reredosref_TasksCopy_ok G (x1.Tasks.take ((IntKind.i64.wrap (((x1.Tasks.length : Nat) : Int) - 1)).toNat))) (fun v37 h => ?_)
 try simp only [*, go_sem]
 exact jc (v37) h.e [some 0, some 1, some 3, some 4, some 5, some 6, some 9, some 8]
 try simp only [*, go_sem]
 refine jn2 h (fun b38_1 b38_2 => [zP 3 0, zI 4 p4, zP 12 1, zI 13 (IntKind.i64.wrap (((x1.Tasks.length : Nat) : Int) - 1)), zP 14 2, zP 1000000 0]) (fun b38_1 b38_2 => [ox [zi p3.Desk.Next, .r 3 0 p3.Desk.Jobs.length, .r 4 0 p3.Messages.length, .r 5 0 p3.Records.length, .r 6 0 (p3.Replies.length + 1), zi p3.Sure, zi p3.Committed], ox [zi x1.N, zi x1.State, .r 7 0 x1.Tasks.length, .r 8 0 x1.Asked.length, zi x1.Asks, zi 0], ox [.d (.b x5.Write), zi x5.Label, zi x5.Key, zi b38_1, zi b38_2, zi x5.Ask, .d (.b true), .d (.b x5.Sure)], og 6 (p3.Desk.Jobs.map Job.encO) p4.toNat [zi x1.N, zi x1.State, .r 7 0 x1.Tasks.length, .r 8 0 x1.Asked.length, zi x1.Asks, zi x1.Age], oa 12 (p3.Messages.map Message.enc), oa 8 (p3.Records.map Record.enc), oa 6 ((p3.Replies ++ [(Reply.mk p2 ((b21_1 : Nat) : Int) x1.N p5.Key p5.Value p5.Code)]).map Reply.enc), oa 8 (x1.Tasks.map Task.enc), oa 1 (x1.Asked.map encI)]) (fun k39 h => ?_) (fun b38_1 b38_2 h => ?_)
 refine oin h (fun hb40 hkhb40 h => ?_) (fun hb40 hkhb40 h => ?_)
 try simp only [*, go_sem]
 exact jc (p5.Value, p5.Version) h.e [some 0, some 1, some 2, some 3, some 4, some 5, some 6, some 7, some 8]
 try simp only [*, go_sem]
 exact jc (x5.Value, x5.Version) h.e [some 0, some 1, some 2, some 3, some 4, some 5, some 6, some 7, some 8]
 try simp only [*, go_sem]
 exact jc ((x1.Tasks.set ((IntKind.i64.wrap (((x1.Tasks.length : Nat) : Int) - 1)).toNat) (Task.mk x5.Write x5.Label x5.Key b38_1 b38_2 x5.Ask true x5.Sure))) h.e [some 0, some 1, some 3, some 4, some 5, some 6, some 7, some 8]
 cases h.e
 try simp only [*, go_sem]
 refine etn [.u 2, .z 2] ?_
 simp only [*, go_sem, mA, mS]
def F167 : VFn := ⟨35, (.seq (.gho (.reg [vo 5 (.box 6 (.t 2))])) (.seq (.gho (.reg [mi 6 0])) (.wk (.block 0 (.loop (.seq (.seq (.gho (.reg [vm 8 6, vf 9 3 5, vs 10 9, ln 11 10, bt 12 .lss 8 11])) (.cond (.t 12) .skip (.exit 0))) (.seq (.block 1 (.seq (.gho (.draw [vd (vm 15 0) 0, vd (vf 16 3 5) 0, vd (vs 17 16) 2, vd (vm 18 6) 0, vd (xa 19 1 17 18) 14, vd (vs 20 19) 30, vd (vf 21 0 5) 0, vd (vs 22 21) 64, vd (vo 23 (.call 54 [(.t 15), (ci 4), (.t 20), (.t 22)])) 255, ⟨vo 7 (.alloc [(zi 0), (zi 0), (zi 0), (zi 0), (zi 0), (zi 0), (zi 0), (zi 0), (zi 0), (zi 0), (.d (.b false)), (zi 0)]), 0, [8], none, []⟩, vd (vu (.st 12 (.t 7) (.t 23))) 1023])) (.seq (.gho (.reg [vf 24 10 7, vu (.st 1 (.t 24) (cb true))])) (.gho (.draw [vd (vm 25 1) 0, vd (vm 26 1) 0, vd (vo 27 (.nilchk (.t 26))) 2, vd (vf 28 2 27) 6, vd (vs 29 28) 14, vd (vl 30 12 7) 0, vd (vo 31 (.bsl 12 1 [(zi 0), (zi 0), (zi 0), (zi 0), (zi 0), (zi 0), (zi 0), (zi 0), (zi 0), (zi 0), (.d (.b false)), (zi 0)] [(0, (.t 30))])) 32, vd (vo 32 (.app 12 96 (.t 29) (.t 31))) 126, vd (vo 33 (.nilchk (.t 25))) 255, vd (vf 34 2 33) 511, vd (vu (.st 1 (.t 34) (.t 32))) 1023]))))) (.gho (.reg [vm 13 6, bk 14 .add 13 1, vm 6 14]))))))))), []⟩
theorem low167 : lowF Tryd.prog 167 = some F167.strip := by kernel_rfl
theorem fok167 : fOk Tryd.prog 167 = true := by kernel_rfl
def reredosref_committed_L1 (x1 : Job) (k9 : Bool → Option (Turn)) : Nat → Bool → Nat → Option (Turn)
 | 0, _, _ => none
 | n11 + 1, a10_1, a10_2 => (if (decide (a10_2 < x1.Tasks.length)) = true then (if a10_1 = true then (reredosref_committed_L1 x1 k9 n11 true (a10_2 + 1)) else (Option.bind (x1.Tasks[a10_2]?) fun x16 => (reredosref_committed_L1 x1 k9 n11 x16.Write (a10_2 + 1)))) else (k9 a10_1))
def reredosref_committed_L2 (p2 : Int) (x1 : Job) (v3 : (List Int)) (k24 : (List Message) → Option (Turn)) : Nat → Nat → (List Message) → Option (Turn)
 | 0, _, _ => none
 | n26 + 1, a25_1, a25_2 => (if (decide (a25_1 < v3.length)) = true then (Option.bind (v3[a25_1]?) fun x29 => (Option.bind (reredosref_about p2 4 x29 x1.N) fun v30 => (if fits 96 (a25_2.length + 1) then (reredosref_committed_L2 p2 x1 v3 k24 n26 (a25_1 + 1) (a25_2 ++ [(Message.mk v30.Kind v30.From v30.To v30.Txn v30.Label v30.Key v30.Value v30.Version v30.Ask true v30.Code)])) else none))) else (k24 a25_2))
def reredosref_committed (p0 : Config) (p1 : Int) (p2 : Int) (p3 : Turn) (p4 : Int) : Option (Turn) := (if 0 ≤ p4 then (Option.bind (p3.Desk.Jobs[p4.toNat]?) fun x1 => (Option.bind (reredosref_hands p0 p1 x1) fun v3 => (if fits 48 (p3.Replies.length + 1) then (if (((v3.length : Nat) : Int) == 0) = true then (Option.bind (reredosref_without (p3.Desk.Jobs.set p4.toNat x1) p4) fun v7 => (some (Turn.mk (Desk.mk p3.Desk.Next v7) p3.Messages p3.Records (p3.Replies ++ [(Reply.mk p2 4 x1.N 0 0 0)]) p3.Sure x1.N))) else (withK (fun (b8_1 : Bool) => (withK (fun (b18_1 : List Record) => (withK (fun (b23_1 : List Message) => (some (Turn.mk (Desk.mk p3.Desk.Next (p3.Desk.Jobs.set p4.toNat (Job.mk x1.N 3 x1.Tasks v3 x1.Asks 0))) b23_1 b18_1 (p3.Replies ++ [(Reply.mk p2 4 x1.N 0 0 0)]) p3.Sure x1.N))) fun k24 => (reredosref_committed_L2 p2 x1 v3 k24 (v3.length + 1) 0 p3.Messages))) fun k19 => (if b8_1 = true then (Option.bind (reredosref_intsCopy v3) fun v21 => (if fits 80 (p3.Records.length + 1) then (k19 (p3.Records ++ [(Record.mk 3 (Txn.mk p2 x1.N) 0 0 0 false v21)])) else none)) else (k19 p3.Records)))) fun k9 => (reredosref_committed_L1 x1 k9 (x1.Tasks.length + 1) false 0))) else none))) else none)
def F119 : VFn := ⟨107, (.seq (.reg [vo 5 (.box 3 (.t 0))]) (.seq (.gho (.reg [vm 14 3, vo 15 (.nilchk (.t 14)), vf 16 0 15, vf 17 1 16, vs 18 17, vm 19 4, xa 20 6 18 19, vl 21 6 20, vo 10 (.alloc [(zi 0), (zi 0), (.nl 8), (.nl 1), (zi 0), (zi 0)]), vu (.st 6 (.t 10) (.t 21))])) (.seq (.reg [vl 22 3 5, vm 23 1, vl 24 6 10, vo 25 (.call 166 [(.t 22), (.t 23), (.t 24)]), vm 11 25]) (.seq (.reg [vm 26 3, vf 27 0 10, vs 28 27, vo 29 (.nilchk (.t 26)), vf 30 6 29, vu (.st 1 (.t 30) (.t 28))]) (.seq (.draw [vd (vm 31 3) 0, vd (vm 32 3) 0, vd (vo 33 (.nilchk (.t 32))) 2, vd (vf 34 4 33) 6, vd (vs 35 34) 14, vd (vm 36 2) 0, vd (vf 37 0 10) 0, vd (vs 38 37) 64, vd (vo 39 (.build [(zi 0), (zi 0), (zi 0), (zi 0), (zi 0), (zi 0)] [(0, 1, (.t 36)), (1, 1, (ci 4)), (2, 1, (.t 38))])) 224, vd (vo 40 (.bsl 6 1 [(zi 0), (zi 0), (zi 0), (zi 0), (zi 0), (zi 0)] [(0, (.t 39))])) 480, vd (vo 41 (.app 6 48 (.t 35) (.t 40))) 1022, vd (vo 42 (.nilchk (.t 31))) 2047, vd (vf 43 4 42) 4095, vd (vu (.st 1 (.t 43) (.t 41))) 8191]) (.seq (.seq (.reg [vm 44 11, ln 45 44, bk 46 .eql 45 0]) (.cond (.t 46) (.seq (.gho (.reg [vm 47 3, vm 48 3, vo 49 (.nilchk (.t 48)), vf 50 0 49, vf 51 1 50, vs 52 51, vm 53 4, vo 54 (.call 57 [(.t 52), (.t 53)]), vo 55 (.nilchk (.t 47)), vf 56 0 55, vf 57 1 56, vu (.st 1 (.t 57) (.t 54))])) .ret) .skip)) (.seq (.reg [vo 12 (.mv (cb false))]) (.seq (.seq (.reg [mi 13 0]) (.wk (.block 0 (.loop (.seq (.seq (.reg [vm 58 13, vf 59 2 10, vs 60 59, ln 61 60, bt 62 .lss 58 61]) (.cond (.t 62) .skip (.exit 0))) (.seq (.block 1 (.reg [vm 65 12, vm 66 65, gf 67 66 (.fa 2 (.t 10)), gf 68 66 (.ld false 1 (.t 67)), gf 69 66 (.mv (.t 13)), gf 70 66 (.ia 8 (.t 68) (.t 69)), gf 71 66 (.fa 0 (.t 70)), gf 72 66 (.ld false 1 (.t 71)), vo 73 (.pick (.t 66) (cb true) (.t 72)), vm 12 73])) (.reg [vm 63 13, bk 64 .add 63 1, vm 13 64]))))))) (.seq (.seq (.reg [vm 74 12]) (.wk (.cond (.t 74) (.draw [vd (vm 75 3) 0, vd (vm 76 3) 0, vd (vo 77 (.nilchk (.t 76))) 2, vd (vf 78 3 77) 6, vd (vs 79 78) 14, vd (vm 80 2) 0, vd (vf 81 0 10) 0, vd (vs 82 81) 64, vd (vo 83 (.build [(zi 0), (zi 0)] [(0, 1, (.t 80)), (1, 1, (.t 82))])) 224, vd (vm 84 11) 0, vd (vo 85 (.call 45 [(.t 84)])) 512, vd (vo 86 (.build [(zi 0), (zi 0), (zi 0), (zi 0), (zi 0), (zi 0), (.d (.b false)), (.nl 1)] [(0, 1, (ci 3)), (1, 2, (.t 83)), (7, 1, (.t 85))])) 2016, vd (vo 87 (.bsl 8 1 [(zi 0), (zi 0), (zi 0), (zi 0), (zi 0), (zi 0), (.d (.b false)), (.nl 1)] [(0, (.t 86))])) 4064, vd (vo 88 (.app 8 80 (.t 79) (.t 87))) 8190, vd (vo 89 (.nilchk (.t 75))) 0x3fff, vd (vf 90 3 89) 0x7fff, vd (vu (.st 1 (.t 90) (.t 88))) 0xffff]) .skip))) (.seq (.reg [vf 91 1 10, vu (.st 1 (.t 91) (ci 3))]) (.seq (.reg [vm 92 11, vf 93 3 10, vu (.st 1 (.t 93) (.t 92))]) (.seq (.reg [vf 94 5 10, vu (.st 1 (.t 94) (ci 0))]) (.seq (.draw [vd (vm 95 3) 0, vd (vo 96 (.nilchk (.t 95))) 1, vd (vf 97 0 96) 3, vd (vf 98 1 97) 7, vd (vs 99 98) 15, vd (vm 100 4) 0, vd (vl 101 6 10) 0, vd (xa 102 6 99 100) 127, vd (vu (.st 6 (.t 102) (.t 101))) 255]) (.reg [vm 103 2, vm 104 3, vl 105 6 10, vo 106 (.call 167 [(.t 103), (.t 104), (.t 105)])])))))))))))))), []⟩
theorem low119 : lowF Tryd.prog 119 = some F119.strip := by kernel_rfl
theorem fok119 : fOk Tryd.prog 119 = true := by kernel_rfl
theorem reredosref_committed_ok (p0 : Config) (p1 : Int) (p2 : Int) (p3 : Turn) (p4 : Int) (r : Turn) (h : reredosref_committed p0 p1 p2 p3 p4 = some r) : FnX Tryd.prog G 119 [.agg p0.bx, .one (.d (.i .i64 p1)), .one (.d (.i .i64 p2)), ptrX, .one (.d (.i .i64 p4))] [.i .i64 p3.Desk.Next, .t 6 (p3.Desk.Jobs.map Job.encO), .o 12 (p3.Messages.map Message.enc), .o 8 (p3.Records.map Record.enc), .o 6 (p3.Replies.map Reply.enc), .i .i64 p3.Sure, .i .i64 p3.Committed] (fun c rs => c = [.i .i64 r.Desk.Next, .l 6 (r.Desk.Jobs.map Job.enc), .o 12 (r.Messages.map Message.enc), .o 8 (r.Records.map Record.enc), .o 6 (r.Replies.map Reply.enc), .i .i64 r.Sure, .i .i64 r.Committed] ∧ rs = []) := by
 refine FnX.of [0, 1] low119 fok119 (by exact Nat.le_of_ble_eq_true rfl) (by exact Nat.le_of_ble_eq_true rfl) ?_
 rw [reredosref_committed] at h
 replace h := Hd.mk h
 simp only [F119, go_sem]
 refine obn h (fun x1 _ _ _ _ h => ?_)
 try simp only [*, go_sem]
 refine gho_lk _ G _ _ [.f 1 p4.toNat] ?_
 try simp only [*, go_sem]
 try simp only [*, go_sem]
 refine cl h (reredosref_hands_ok G p0 p1 x1) (fun v3 h => ?_)
 refine ck h (fun _ h => ?_)
 try simp only [*, go_sem]
 intro hl5
 refine oi h (fun hb6 h => ?_) (fun hb6 h => ?_)
 try simp only [*, go_sem]
 refine gho_lk _ G _ _ [.u 1, .z 1] ?_
 try simp only [*, go_sem]
 try simp only [*, go_sem]
 refine cr h (reredosref_without_ok G (p3.Desk.Jobs.set p4.toNat x1) p4) (fun v7 h => ?_)
 cases h.e
 try simp only [*, go_sem]
 refine eti [.z 24] ?_
 simp only [*, go_sem, mA, mS]
 try simp only [*, go_sem]
 refine jn1 h (fun b8_1 => [zI 2 p2, zP 3 0, zI 4 p4, zP 10 1, zR 11 2 0 v3.length, zB 12 b8_1, zP 1000000 0]) (fun b8_1 => [ox [zi p3.Desk.Next, .r 3 0 p3.Desk.Jobs.length, .r 4 0 p3.Messages.length, .r 5 0 p3.Records.length, .r 6 0 (p3.Replies.length + 1), zi p3.Sure, zi x1.N], ox [zi x1.N, zi x1.State, .r 7 0 x1.Tasks.length, .r 8 0 x1.Asked.length, zi x1.Asks, zi x1.Age], oa 1 (v3.map encI), og 6 (p3.Desk.Jobs.map Job.encO) p4.toNat [zi x1.N, zi x1.State, .r 7 0 x1.Tasks.length, .r 8 0 x1.Asked.length, zi x1.Asks, zi x1.Age], oa 12 (p3.Messages.map Message.enc), oa 8 (p3.Records.map Record.enc), oa 6 ((p3.Replies ++ [(Reply.mk p2 4 x1.N 0 0 0)]).map Reply.enc), oa 8 (x1.Tasks.map Task.enc), oa 1 (x1.Asked.map encI)]) (fun k9 h => ?_) (fun b8_1 h => ?_)
 try simp only [*, go_sem]
 refine lp2 (reredosref_committed_L1 x1 k9) (fun a10_1 a10_2 => [zI 2 p2, zP 3 0, zI 4 p4, zP 10 1, zR 11 2 0 v3.length, zB 12 a10_1, zI 13 ((a10_2 : Nat) : Int), zP 1000000 0]) (fun a10_1 a10_2 => [ox [zi p3.Desk.Next, .r 3 0 p3.Desk.Jobs.length, .r 4 0 p3.Messages.length, .r 5 0 p3.Records.length, .r 6 0 (p3.Replies.length + 1), zi p3.Sure, zi x1.N], ox [zi x1.N, zi x1.State, .r 7 0 x1.Tasks.length, .r 8 0 x1.Asked.length, zi x1.Asks, zi x1.Age], oa 1 (v3.map encI), og 6 (p3.Desk.Jobs.map Job.encO) p4.toNat [zi x1.N, zi x1.State, .r 7 0 x1.Tasks.length, .r 8 0 x1.Asked.length, zi x1.Asks, zi x1.Age], oa 12 (p3.Messages.map Message.enc), oa 8 (p3.Records.map Record.enc), oa 6 ((p3.Replies ++ [(Reply.mk p2 4 x1.N 0 0 0)]).map Reply.enc), oa 8 (x1.Tasks.map Task.enc), oa 1 (x1.Asked.map encI)]) h [] [some 0, some 8, some 9, some 1, some 2, some 3, some 20, some 6, some 7] (fun n11 a10_1 a10_2 h => ?_) (by intros; rw [reredosref_committed_L1])
 rw [reredosref_committed_L1] at h
 try simp only [*, go_sem]
 intro hl12
 refine oi h (fun hb13 h => ?_) (fun hb13 h => ?_)
 have hkhb13 := of_decide_eq_true hb13
 refine oi h (fun hb14 h => ?_) (fun hb14 h => ?_)
 have := wrap_succ_max hkhb13 hl12
 try simp only [*, go_sem]
 exact lc (true, a10_2 + 1) h.e [some 0, some 1, some 2, some 3, some 4, some 5, some 6, some 7, some 8]
 refine obg h (fun x16 _ hkx16 h => ?_)
 have := wrap_succ_max hkx16 hl12
 try simp only [*, go_sem]
 exact lc (x16.Write, a10_2 + 1) h.e [some 0, some 1, some 2, some 3, some 4, some 5, some 6, some 7, some 8]
 try simp only [*, go_sem]
 exact jc (a10_1) h.e [some 0, some 1, some 2, some 3, some 4, some 5, some 6, some 7, some 8]
 try simp only [*, go_sem]
 refine jn1 h (fun b18_1 => [zI 2 p2, zP 3 0, zI 4 p4, zP 10 1, zR 11 2 0 v3.length, zP 1000000 0]) (fun b18_1 => [ox [zi p3.Desk.Next, .r 3 0 p3.Desk.Jobs.length, .r 4 0 p3.Messages.length, .r 5 0 b18_1.length, .r 6 0 (p3.Replies.length + 1), zi p3.Sure, zi x1.N], ox [zi x1.N, zi x1.State, .r 7 0 x1.Tasks.length, .r 8 0 x1.Asked.length, zi x1.Asks, zi x1.Age], oa 1 (v3.map encI), og 6 (p3.Desk.Jobs.map Job.encO) p4.toNat [zi x1.N, zi x1.State, .r 7 0 x1.Tasks.length, .r 8 0 x1.Asked.length, zi x1.Asks, zi x1.Age], oa 12 (p3.Messages.map Message.enc), oa 8 (b18_1.map Record.enc), oa 6 ((p3.Replies ++ [(Reply.mk p2 4 x1.N 0 0 0)]).map Reply.enc), oa 8 (x1.Tasks.map Task.enc), oa 1 (x1.Asked.map encI)]) (fun k19 h => ?_) (fun b18_1 h => ?_)
 refine oi h (fun hb20 h => ?_) (fun hb20 h => ?_)
 refine obk h (fun v21 hv21 h => ?_)
 try simp only [*, go_sem]
 refine cdz (reredosref_intsCopy_ok G v3 v21 hv21) ?_
 refine ck h (fun _ h => ?_)
 try simp only [*, go_sem]
 exact jc ((p3.Records ++ [(Record.mk 3 (Txn.mk p2 x1.N) 0 0 0 false v21)])) h.e [some 0, some 1, some 2, some 3, some 4, some 22, some 6, some 7, some 8]
 try simp only [*, go_sem]
 exact jc (p3.Records) h.e [some 0, some 1, some 2, some 3, some 4, some 5, some 6, some 7, some 8]
 try simp only [*, go_sem]
 refine cx low167 fok167 ?_
 simp only [*, F167, go_sem]
 try simp only [*, go_sem]
 refine gho_lk _ G _ _ [] ?_
 try simp only [*, go_sem]
 try simp only [*, go_sem]
 refine gho_lk _ G _ _ [] ?_
 try simp only [*, go_sem]
 try simp only [*, go_sem]
 refine jn1 h (fun b23_1 => [zP 2000000 0]) (fun b23_1 => [ox [zi p3.Desk.Next, .r 1 0 p3.Desk.Jobs.length, .r 2 0 b23_1.length, .r 3 0 b18_1.length, .r 4 0 (p3.Replies.length + 1), zi p3.Sure, zi x1.N], ot 6 ((p3.Desk.Jobs.set p4.toNat (Job.mk x1.N 3 x1.Tasks v3 x1.Asks 0)).map Job.encO), oa 12 (b23_1.map Message.enc), oa 8 (b18_1.map Record.enc), oa 6 ((p3.Replies ++ [(Reply.mk p2 4 x1.N 0 0 0)]).map Reply.enc)]) (fun k24 h => ?_) (fun b23_1 h => ?_)
 try simp only [*, go_sem]
 refine lp2 (reredosref_committed_L2 p2 x1 v3 k24) (fun a25_1 a25_2 => [zI 0 p2, zP 1 0, zP 5 1, zI 6 ((a25_1 : Nat) : Int), zP 2000000 0]) (fun a25_1 a25_2 => [ox [zi p3.Desk.Next, .r 2 0 p3.Desk.Jobs.length, .r 3 0 a25_2.length, .r 4 0 b18_1.length, .r 5 0 (p3.Replies.length + 1), zi p3.Sure, zi x1.N], ox [zi x1.N, zi 3, .r 6 0 x1.Tasks.length, .r 7 0 v3.length, zi x1.Asks, zi 0], og 6 (p3.Desk.Jobs.map Job.encO) p4.toNat [zi x1.N, zi 3, .r 6 0 x1.Tasks.length, .r 7 0 v3.length, zi x1.Asks, zi 0], oa 12 (a25_2.map Message.enc), oa 8 (b18_1.map Record.enc), oa 6 ((p3.Replies ++ [(Reply.mk p2 4 x1.N 0 0 0)]).map Reply.enc), oa 8 (x1.Tasks.map Task.enc), oa 1 (v3.map encI)]) h [] [some 0, some 18, some 3, some 4, some 5, some 6, some 7, some 2] (fun n26 a25_1 a25_2 h => ?_) (by intros; rw [reredosref_committed_L2])
 rw [reredosref_committed_L2] at h
 try simp only [*, go_sem]
 refine gho_lk _ G _ _ [] ?_
 try simp only [*, go_sem]
 try simp only [*, go_sem]
 intro hl27
 refine oi h (fun hb28 h => ?_) (fun hb28 h => ?_)
 have := of_decide_eq_true hb28
 try simp only [*, go_sem]
 refine gho_lk _ G _ _ [] ?_
 try simp only [*, go_sem]
 refine obg h (fun x29 _ hkx29 h => ?_)
 refine obk h (fun v30 hv30 h => ?_)
 try simp only [*, go_sem]
 refine cd (reredosref_about_ok G p2 4 x29 x1.N v30 hv30) ?_
 try simp only [*, go_sem]
 refine gho_lk _ G _ _ [] ?_
 try simp only [*, go_sem]
 try simp only [*, go_sem]
 refine gho_lk _ G _ _ [] ?_
 try simp only [*, go_sem]
 refine ck h (fun _ h => ?_)
 try simp only [*, go_sem]
 refine gho_lk _ G _ _ [] ?_
 try simp only [*, go_sem]
 have := wrap_succ_max hkx29 hl5
 try simp only [*, go_sem]
 exact lc (a25_1 + 1, (a25_2 ++ [(Message.mk v30.Kind v30.From v30.To v30.Txn v30.Label v30.Key v30.Value v30.Version v30.Ask true v30.Code)])) h.e [some 0, some 1, some 2, some 26, some 4, some 5, some 6, some 7]
 try simp only [*, go_sem]
 exact jf [.u 2] (a25_2) h.e [some 0, some 2, some 3, some 4, some 5]
 cases h.e
 try simp only [*, go_sem]
 refine etn [.z 1] ?_
 simp only [*, go_sem, mA, mS]
def reredosref_madeSure_L1 (p5 : Message) (k9 : Int → (List Task) → Option (Turn)) : Nat → Int → Nat → (List Task) → Option (Turn)
 | 0, _, _, _ => none
 | n11 + 1, a10_1, a10_2, a10_3 => (if (decide (a10_2 < a10_3.length)) = true then (withK (fun (b14_1 : Int) (b14_2 : List Task) => (reredosref_madeSure_L1 p5 k9 n11 b14_1 (a10_2 + 1) b14_2)) fun k15 => (Option.bind (a10_3[a10_2]?) fun x16 => (if (!x16.Write) = true then (if (x16.Label == p5.Label) = true then (if (x16.Key == p5.Key) = true then (if (x16.Version == p5.Version) = true then (withK (fun (b21_1 : List Task) => (k15 (IntKind.i64.wrap (a10_1 + 1)) b21_1)) fun k22 => (if p5.Yes = true then (k22 (a10_3.set a10_2 (Task.mk x16.Write x16.Label x16.Key x16.Value x16.Version x16.Ask x16.Done true))) else (k22 a10_3))) else (k15 a10_1 a10_3)) else (k15 a10_1 a10_3)) else (k15 a10_1 a10_3)) else (k15 a10_1 a10_3)))) else (k9 a10_1 a10_3))
def reredosref_madeSure_L2 (p3 : Turn) (p4 : Int) (x1 : Job) (b8_2 : List Task) (k30 : Option (Turn)) : Nat → Nat → Option (Turn)
 | 0, _ => none
 | n32 + 1, a31_1 => (if (decide (a31_1 < b8_2.length)) = true then (withK (reredosref_madeSure_L2 p3 p4 x1 b8_2 k30 n32 (a31_1 + 1)) fun k36 => (Option.bind (b8_2[a31_1]?) fun x37 => (if (!x37.Write) = true then (if (!x37.Sure) = true then (some (Turn.mk (Desk.mk p3.Desk.Next (p3.Desk.Jobs.set p4.toNat (Job.mk x1.N x1.State b8_2 x1.Asked x1.Asks x1.Age))) p3.Messages p3.Records p3.Replies p3.Sure p3.Committed)) else k36) else k36))) else k30)
def reredosref_madeSure (p0 : Config) (p1 : Int) (p2 : Int) (p3 : Turn) (p4 : Int) (p5 : Message) : Option (Turn) := (if 0 ≤ p4 then (Option.bind (p3.Desk.Jobs[p4.toNat]?) fun x1 => (withK (withK (fun (b8_1 : Int) (b8_2 : List Task) => (if (b8_1 == 0) = true then (some (Turn.mk (Desk.mk p3.Desk.Next (p3.Desk.Jobs.set p4.toNat (Job.mk x1.N x1.State b8_2 x1.Asked x1.Asks x1.Age))) p3.Messages p3.Records p3.Replies p3.Sure p3.Committed)) else (if (!p5.Yes) = true then (if fits 48 (p3.Replies.length + 1) then (Option.bind (reredosref_ended p0 p1 p2 (Turn.mk (Desk.mk p3.Desk.Next (p3.Desk.Jobs.set p4.toNat (Job.mk x1.N x1.State b8_2 x1.Asked x1.Asks x1.Age))) p3.Messages p3.Records (p3.Replies ++ [(Reply.mk p2 4 x1.N 0 0 11)]) p3.Sure p3.Committed) p4) fun v28 => (some v28)) else none) else (withK (Option.bind (reredosref_committed p0 p1 p2 (Turn.mk (Desk.mk p3.Desk.Next (p3.Desk.Jobs.set p4.toNat (Job.mk x1.N x1.State b8_2 x1.Asked x1.Asks x1.Age))) p3.Messages p3.Records p3.Replies p3.Sure p3.Committed) p4) fun v41 => (some v41)) fun k30 => (reredosref_madeSure_L2 p3 p4 x1 b8_2 k30 (b8_2.length + 1) 0))))) fun k9 => (reredosref_madeSure_L1 p5 k9 (x1.Tasks.length + 1) 0 0 x1.Tasks)) fun k4 => (if (x1.State != 2) = true then (some (Turn.mk (Desk.mk p3.Desk.Next (p3.Desk.Jobs.set p4.toNat x1)) p3.Messages p3.Records p3.Replies p3.Sure p3.Committed)) else (if p0.Sites = 0 then none else (if (p5.From != p5.Key.tmod p0.Sites) = true then (some (Turn.mk (Desk.mk p3.Desk.Next (p3.Desk.Jobs.set p4.toNat x1)) p3.Messages p3.Records p3.Replies p3.Sure p3.Committed)) else k4))))) else none)
def F56 : VFn := ⟨146, (.seq (.reg [vo 6 (.box 3 (.t 0)), vo 11 (.boxk 12 (.t 5))]) (.seq (.gho (.reg [vm 16 3, vo 17 (.nilchk (.t 16)), vf 18 0 17, vf 19 1 18, vs 20 19, vm 21 4, xa 22 6 20 21, vl 23 6 22, vo 12 (.alloc [(zi 0), (zi 0), (.nl 8), (.nl 1), (zi 0), (zi 0)]), vu (.st 6 (.t 12) (.t 23))])) (.seq (.wk (.seq (.draw [vd (vf 24 1 12) 0, vd (vs 25 24) 1, vd (bk 26 .neq 25 2) 3, vd (vm 27 26) 7, vd (gf 28 27 (.fa 1 (.t 11))) 15, vd (gf 29 27 (.ld false 1 (.t 28))) 31, vd (gf 30 27 (.fa 6 (.t 11))) 15, vd (gf 31 27 (.ld false 1 (.t 30))) 79, vd (gf 32 27 (.fa 0 (.t 6))) 15, vd (gf 33 27 (.ld false 1 (.t 32))) 271, vd (gf 34 27 (.bin .i .rem (.t 31) (.t 33))) 975, vd (gf 35 27 (.bin .i .neq (.t 29) (.t 34))) 2047, vd (vo 36 (.pick (.t 27) (cb true) (.t 35))) 4095]) (.cond (.t 36) (.gho .ret) .skip))) (.seq (.reg [mi 13 0]) (.seq (.seq (.reg [mi 14 0]) (.wk (.block 0 (.loop (.seq (.seq (.reg [vm 37 14, vf 38 2 12, vs 39 38, ln 40 39, bt 41 .lss 37 40]) (.cond (.t 41) .skip (.exit 0))) (.seq (.block 1 (.wk (.seq (.draw [vd (vf 44 2 12) 0, vd (vs 45 44) 1, vd (vm 46 14) 0, vd (xa 47 8 45 46) 7, vd (vf 48 0 47) 15, vd (vs 49 48) 31, vd (nt 50 49) 63, vd (vm 51 50) 127, vd (gt 52 51 (.fa 2 (.t 12))) 255, vd (gt 53 51 (.ld false 1 (.t 52))) 511, vd (gt 54 51 (.mv (.t 14))) 255, vd (gt 55 51 (.ia 8 (.t 53) (.t 54))) 2047, vd (gt 56 51 (.fa 1 (.t 55))) 4095, vd (gt 57 51 (.ld false 1 (.t 56))) 8191, vd (gt 58 51 (.fa 5 (.t 11))) 255, vd (gt 59 51 (.ld false 1 (.t 58))) 0x40ff, vd (gt 60 51 (.bin .i .eql (.t 57) (.t 59))) 0xffff, vd (vo 61 (.pick (.t 51) (.t 60) (cb false))) 0x1ffff, vd (vm 62 61) 0x3ffff, vd (gt 63 62 (.fa 2 (.t 12))) 0x7ffff, vd (gt 64 62 (.ld false 1 (.t 63))) 0xfffff, vd (gt 65 62 (.mv (.t 14))) 0x7ffff, vd (gt 66 62 (.ia 8 (.t 64) (.t 65))) 0x3fffff, vd (gt 67 62 (.fa 2 (.t 66))) 0x7fffff, vd (gt 68 62 (.ld false 1 (.t 67))) 0xffffff, vd (gt 69 62 (.fa 6 (.t 11))) 0x7ffff, vd (gt 70 62 (.ld false 1 (.t 69))) 0x207ffff, vd (gt 71 62 (.bin .i .eql (.t 68) (.t 70))) 0x7ffffff, vd (vo 72 (.pick (.t 62) (.t 71) (cb false))) 0xfffffff, vd (vm 73 72) 0x1fffffff, vd (gt 74 73 (.fa 2 (.t 12))) 0x3fffffff, vd (gt 75 73 (.ld false 1 (.t 74))) 0x7fffffff, vd (gt 76 73 (.mv (.t 14))) 0x3fffffff, vd (gt 77 73 (.ia 8 (.t 75) (.t 76))) 0x1ffffffff, vd (gt 78 73 (.fa 4 (.t 77))) 0x3ffffffff, vd (gt 79 73 (.ld false 1 (.t 78))) 0x7ffffffff, vd (gt 80 73 (.fa 8 (.t 11))) 0x3fffffff, vd (gt 81 73 (.ld false 1 (.t 80))) 0x103fffffff, vd (gt 82 73 (.bin .i .eql (.t 79) (.t 81))) 0x3fffffffff, vd (vo 83 (.pick (.t 73) (.t 82) (cb false))) 0x7fffffffff]) (.cond (.t 83) (.seq (.reg [vm 84 13, bk 85 .add 84 1, vm 13 85]) (.seq (.reg [vf 86 10 11, vs 87 86]) (.wk (.cond (.t 87) (.reg [vf 88 2 12, vs 89 88, vm 90 14, xa 91 8 89 90, vf 92 7 91, vu (.st 1 (.t 92) (cb true))]) .skip)))) .skip)))) (.reg [vm 42 14, bk 43 .add 42 1, vm 14 43]))))))) (.seq (.seq (.reg [vm 93 13, bk 94 .eql 93 0]) (.cond (.t 94) (.gho .ret) .skip)) (.seq (.seq (.reg [vf 95 10 11, vs 96 95, nt 97 96]) (.cond (.t 97) (.seq (.draw [vd (vm 98 3) 0, vd (vm 99 3) 0, vd (vo 100 (.nilchk (.t 99))) 2, vd (vf 101 4 100) 6, vd (vs 102 101) 14, vd (vm 103 2) 0, vd (vf 104 0 12) 0, vd (vs 105 104) 64, vd (vo 106 (.build [(zi 0), (zi 0), (zi 0), (zi 0), (zi 0), (zi 0)] [(0, 1, (.t 103)), (1, 1, (ci 4)), (2, 1, (.t 105)), (5, 1, (ci 11))])) 224, vd (vo 107 (.bsl 6 1 [(zi 0), (zi 0), (zi 0), (zi 0), (zi 0), (zi 0)] [(0, (.t 106))])) 480, vd (vo 108 (.app 6 48 (.t 102) (.t 107))) 1022, vd (vo 109 (.nilchk (.t 98))) 2047, vd (vf 110 4 109) 4095, vd (vu (.st 1 (.t 110) (.t 108))) 8191]) (.seq (.gho (.reg [vl 111 3 6, vm 112 1, vm 113 2, vm 114 3, vm 115 4, vo 116 (.call 118 [(.t 111), (.t 112), (.t 113), (.t 114), (.t 115)])])) .ret)) .skip)) (.seq (.seq (.reg [mi 15 0]) (.wk (.block 2 (.loop (.seq (.seq (.reg [vm 117 15, vf 118 2 12, vs 119 118, ln 120 119, bt 121 .lss 117 120]) (.cond (.t 121) .skip (.exit 2))) (.seq (.block 3 (.wk (.seq (.reg [vf 124 2 12, vs 125 124, vm 126 15, xa 127 8 125 126, vf 128 0 127, vs 129 128, nt 130 129, vm 131 130, gt 132 131 (.fa 2 (.t 12)), gt 133 131 (.ld false 1 (.t 132)), gt 134 131 (.mv (.t 15)), gt 135 131 (.ia 8 (.t 133) (.t 134)), gt 136 131 (.fa 7 (.t 135)), gt 137 131 (.ld false 1 (.t 136)), gt 138 131 (.un .not (.t 137)), vo 139 (.pick (.t 131) (.t 138) (cb false))]) (.cond (.t 139) (.gho .ret) .skip)))) (.reg [vm 122 15, bk 123 .add 122 1, vm 15 123]))))))) (.reg [vl 140 3 6, vm 141 1, vm 142 2, vm 143 3, vm 144 4, vo 145 (.call 119 [(.t 140), (.t 141), (.t 142), (.t 143), (.t 144)])]))))))))), []⟩
theorem low56 : lowF Tryd.prog 56 = some F56.strip := by kernel_rfl
theorem fok56 : fOk Tryd.prog 56 = true := by kernel_rfl
theorem reredosref_madeSure_ok (p0 : Config) (p1 : Int) (p2 : Int) (p3 : Turn) (p4 : Int) (p5 : Message) (r : Turn) (h : reredosref_madeSure p0 p1 p2 p3 p4 p5 = some r) : FnX Tryd.prog G 56 [.agg p0.bx, .one (.d (.i .i64 p1)), .one (.d (.i .i64 p2)), ptrX, .one (.d (.i .i64 p4)), .agg p5.bx] [.i .i64 p3.Desk.Next, .t 6 (p3.Desk.Jobs.map Job.encO), .o 12 (p3.Messages.map Message.enc), .o 8 (p3.Records.map Record.enc), .o 6 (p3.Replies.map Reply.enc), .i .i64 p3.Sure, .i .i64 p3.Committed] (fun c rs => c = [.i .i64 r.Desk.Next, .l 6 (r.Desk.Jobs.map Job.enc), .o 12 (r.Messages.map Message.enc), .o 8 (r.Records.map Record.enc), .o 6 (r.Replies.map Reply.enc), .i .i64 r.Sure, .i .i64 r.Committed] ∧ rs = []) := by
 refine FnX.of [0, 1] low56 fok56 (by exact Nat.le_of_ble_eq_true rfl) (by exact Nat.le_of_ble_eq_true rfl) ?_
 rw [reredosref_madeSure] at h
 replace h := Hd.mk h
 simp only [F56, go_sem]
 refine obn h (fun x1 _ _ _ _ h => ?_)
 try simp only [*, go_sem]
 refine gho_lk _ G _ _ [.f 1 p4.toNat] ?_
 try simp only [*, go_sem]
 try simp only [*, go_sem]
 refine jn0 h ([zI 1 p1, zI 2 p2, zP 3 0, zI 4 p4, zP 6 1, zK 11 (Message.enc p5), zP 12 2, zP 1000000 0]) ([ox [zi p3.Desk.Next, .r 3 0 p3.Desk.Jobs.length, .r 4 0 p3.Messages.length, .r 5 0 p3.Records.length, .r 6 0 p3.Replies.length, zi p3.Sure, zi p3.Committed], ox p0.bx, ox [zi x1.N, zi x1.State, .r 7 0 x1.Tasks.length, .r 8 0 x1.Asked.length, zi x1.Asks, zi x1.Age], og 6 (p3.Desk.Jobs.map Job.encO) p4.toNat [zi x1.N, zi x1.State, .r 7 0 x1.Tasks.length, .r 8 0 x1.Asked.length, zi x1.Asks, zi x1.Age], oa 12 (p3.Messages.map Message.enc), oa 8 (p3.Records.map Record.enc), oa 6 (p3.Replies.map Reply.enc), oa 8 (x1.Tasks.map Task.enc), oa 1 (x1.Asked.map encI)]) (fun k4 h => ?_) (fun h => ?_)
 refine oi h (fun hb5 h => ?_) (fun hb5 h => ?_)
 try simp only [*, go_sem]
 refine gho_lk _ G _ _ [.u 1] ?_
 try simp only [*, go_sem]
 cases h.e
 try simp only [*, go_sem]
 refine eti [.z 1] ?_
 simp only [*, go_sem, mA, mS]
 refine ckn h (fun _ h => ?_)
 refine oi h (fun hb7 h => ?_) (fun hb7 h => ?_)
 try simp only [*, go_sem]
 refine gho_lk _ G _ _ [.u 1] ?_
 try simp only [*, go_sem]
 cases h.e
 try simp only [*, go_sem]
 refine eti [.z 1] ?_
 simp only [*, go_sem, mA, mS]
 try simp only [*, go_sem]
 exact jc () h.e [some 0, some 5, some 8, some 1, some 2, some 3, some 4, some 6, some 7]
 try simp only [*, go_sem]
 refine jn2 h (fun b8_1 b8_2 => [zI 1 p1, zI 2 p2, zP 3 0, zI 4 p4, zP 6 1, zK 11 (Message.enc p5), zP 12 2, zI 13 b8_1, zP 1000000 0]) (fun b8_1 b8_2 => [ox [zi p3.Desk.Next, .r 3 0 p3.Desk.Jobs.length, .r 4 0 p3.Messages.length, .r 5 0 p3.Records.length, .r 6 0 p3.Replies.length, zi p3.Sure, zi p3.Committed], ox p0.bx, ox [zi x1.N, zi x1.State, .r 7 0 b8_2.length, .r 8 0 x1.Asked.length, zi x1.Asks, zi x1.Age], og 6 (p3.Desk.Jobs.map Job.encO) p4.toNat [zi x1.N, zi x1.State, .r 7 0 b8_2.length, .r 8 0 x1.Asked.length, zi x1.Asks, zi x1.Age], oa 12 (p3.Messages.map Message.enc), oa 8 (p3.Records.map Record.enc), oa 6 (p3.Replies.map Reply.enc), oa 8 (b8_2.map Task.enc), oa 1 (x1.Asked.map encI)]) (fun k9 h => ?_) (fun b8_1 b8_2 h => ?_)
 try simp only [*, go_sem]
 refine lp3 (reredosref_madeSure_L1 p5 k9) (fun a10_1 a10_2 a10_3 => [zI 1 p1, zI 2 p2, zP 3 0, zI 4 p4, zP 6 1, zK 11 (Message.enc p5), zP 12 2, zI 13 a10_1, zI 14 ((a10_2 : Nat) : Int), zP 1000000 0]) (fun a10_1 a10_2 a10_3 => [ox [zi p3.Desk.Next, .r 3 0 p3.Desk.Jobs.length, .r 4 0 p3.Messages.length, .r 5 0 p3.Records.length, .r 6 0 p3.Replies.length, zi p3.Sure, zi p3.Committed], ox p0.bx, ox [zi x1.N, zi x1.State, .r 7 0 a10_3.length, .r 8 0 x1.Asked.length, zi x1.Asks, zi x1.Age], og 6 (p3.Desk.Jobs.map Job.encO) p4.toNat [zi x1.N, zi x1.State, .r 7 0 a10_3.length, .r 8 0 x1.Asked.length, zi x1.Asks, zi x1.Age], oa 12 (p3.Messages.map Message.enc), oa 8 (p3.Records.map Record.enc), oa 6 (p3.Replies.map Reply.enc), oa 8 (a10_3.map Task.enc), oa 1 (x1.Asked.map encI)]) h [] [some 0, some 1, some 2, some 3, some 4, some 5, some 6, some 7, some 8] (fun n11 a10_1 a10_2 a10_3 h => ?_) (by intros; rw [reredosref_madeSure_L1])
 rw [reredosref_madeSure_L1] at h
 try simp only [*, go_sem]
 intro hl12
 refine oi h (fun hb13 h => ?_) (fun hb13 h => ?_)
 have hkhb13 := of_decide_eq_true hb13
 try simp only [*, go_sem]
 refine jn2 h (fun b14_1 b14_2 => [zI 1 p1, zI 2 p2, zP 3 0, zI 4 p4, zP 6 1, zK 11 (Message.enc p5), zP 12 2, zI 13 b14_1, zI 14 ((a10_2 : Nat) : Int), zP 1000000 0]) (fun b14_1 b14_2 => [ox [zi p3.Desk.Next, .r 3 0 p3.Desk.Jobs.length, .r 4 0 p3.Messages.length, .r 5 0 p3.Records.length, .r 6 0 p3.Replies.length, zi p3.Sure, zi p3.Committed], ox p0.bx, ox [zi x1.N, zi x1.State, .r 7 0 b14_2.length, .r 8 0 x1.Asked.length, zi x1.Asks, zi x1.Age], og 6 (p3.Desk.Jobs.map Job.encO) p4.toNat [zi x1.N, zi x1.State, .r 7 0 b14_2.length, .r 8 0 x1.Asked.length, zi x1.Asks, zi x1.Age], oa 12 (p3.Messages.map Message.enc), oa 8 (p3.Records.map Record.enc), oa 6 (p3.Replies.map Reply.enc), oa 8 (b14_2.map Task.enc), oa 1 (x1.Asked.map encI)]) (fun k15 h => ?_) (fun b14_1 b14_2 h => ?_)
 refine obg h (fun x16 _ _ h => ?_)
 refine oin h (fun hb17 hkhb17 h => ?_) (fun hb17 hkhb17 h => ?_)
 refine oi h (fun hb18 h => ?_) (fun hb18 h => ?_)
 refine oi h (fun hb19 h => ?_) (fun hb19 h => ?_)
 refine oi h (fun hb20 h => ?_) (fun hb20 h => ?_)
 try simp only [*, go_sem]
 refine jn1 h (fun b21_1 => [zI 1 p1, zI 2 p2, zP 3 0, zI 4 p4, zP 6 1, zK 11 (Message.enc p5), zP 12 2, zI 13 (IntKind.i64.wrap (a10_1 + 1)), zI 14 ((a10_2 : Nat) : Int), (52, .one (.p (.q 2 0 2))), zR 53 3 0 b21_1.length, zI 54 ((a10_2 : Nat) : Int), (55, .one (.p (.q 3 a10_2 0))), (56, .one (.p (.q 3 a10_2 1))), zI 57 x16.Label, (58, .one (.p (.l 12 [(Message.enc p5)] 0 5))), zI 59 p5.Label, zB 60 true, (63, .one (.p (.q 2 0 2))), zR 64 3 0 b21_1.length, zI 65 ((a10_2 : Nat) : Int), (66, .one (.p (.q 3 a10_2 0))), (67, .one (.p (.q 3 a10_2 2))), zI 68 x16.Key, (69, .one (.p (.l 12 [(Message.enc p5)] 0 6))), zI 70 p5.Key, zB 71 true, (74, .one (.p (.q 2 0 2))), zR 75 3 0 b21_1.length, zI 76 ((a10_2 : Nat) : Int), (77, .one (.p (.q 3 a10_2 0))), (78, .one (.p (.q 3 a10_2 4))), zI 79 x16.Version, (80, .one (.p (.l 12 [(Message.enc p5)] 0 8))), zI 81 p5.Version, zB 82 true, zP 1000000 0]) (fun b21_1 => [ox [zi p3.Desk.Next, .r 4 0 p3.Desk.Jobs.length, .r 5 0 p3.Messages.length, .r 6 0 p3.Records.length, .r 7 0 p3.Replies.length, zi p3.Sure, zi p3.Committed], ox p0.bx, ox [zi x1.N, zi x1.State, .r 3 0 b21_1.length, .r 8 0 x1.Asked.length, zi x1.Asks, zi x1.Age], oa 8 (b21_1.map Task.enc), og 6 (p3.Desk.Jobs.map Job.encO) p4.toNat [zi x1.N, zi x1.State, .r 3 0 b21_1.length, .r 8 0 x1.Asked.length, zi x1.Asks, zi x1.Age], oa 12 (p3.Messages.map Message.enc), oa 8 (p3.Records.map Record.enc), oa 6 (p3.Replies.map Reply.enc), oa 1 (x1.Asked.map encI)]) (fun k22 h => ?_) (fun b21_1 h => ?_)
 refine oi h (fun hb23 h => ?_) (fun hb23 h => ?_)
 try simp only [*, go_sem]
 exact jc ((a10_3.set a10_2 (Task.mk x16.Write x16.Label x16.Key x16.Value x16.Version x16.Ask x16.Done true))) h.e [some 0, some 1, some 2, some 7, some 3, some 4, some 5, some 6, some 8]
 try simp only [*, go_sem]
 exact jc (a10_3) h.e [some 0, some 1, some 2, some 7, some 3, some 4, some 5, some 6, some 8]
 try simp only [*, go_sem]
 exact jc (IntKind.i64.wrap (a10_1 + 1), b21_1) h.e [some 0, some 1, some 2, some 4, some 5, some 6, some 7, some 3, some 8]
 try simp only [*, go_sem]
 exact jc (a10_1, a10_3) h.e [some 0, some 1, some 2, some 3, some 4, some 5, some 6, some 7, some 8]
 try simp only [*, go_sem]
 exact jc (a10_1, a10_3) h.e [some 0, some 1, some 2, some 3, some 4, some 5, some 6, some 7, some 8]
 try simp only [*, go_sem]
 exact jc (a10_1, a10_3) h.e [some 0, some 1, some 2, some 3, some 4, some 5, some 6, some 7, some 8]
 try simp only [*, go_sem]
 exact jc (a10_1, a10_3) h.e [some 0, some 1, some 2, some 3, some 4, some 5, some 6, some 7, some 8]
 have := wrap_succ_max hkhb13 hl12
 try simp only [*, go_sem]
 exact lc (b14_1, a10_2 + 1, b14_2) h.e [some 0, some 1, some 2, some 3, some 4, some 5, some 6, some 7, some 8]
 try simp only [*, go_sem]
 exact jc (a10_1, a10_3) h.e [some 0, some 1, some 2, some 3, some 4, some 5, some 6, some 7, some 8]
 refine oi h (fun hb25 h => ?_) (fun hb25 h => ?_)
 try simp only [*, go_sem]
 refine gho_lk _ G _ _ [.u 3] ?_
 try simp only [*, go_sem]
 cases h.e
 try simp only [*, go_sem]
 refine eti [.z 3] ?_
 simp only [*, go_sem, mA, mS]
 refine oin h (fun hb26 hkhb26 h => ?_) (fun hb26 hkhb26 h => ?_)
 refine ck h (fun _ h => ?_)
 try simp only [*, go_sem]
 refine gho_lk _ G _ _ [.u 3] ?_
 try simp only [*, go_sem]
 try simp only [*, go_sem]
 refine ct h 0 [] [0, 2] [3, 4, 5, 19] (reredosref_ended_ok G p0 p1 p2 (Turn.mk (Desk.mk p3.Desk.Next (p3.Desk.Jobs.set p4.toNat (Job.mk x1.N x1.State b8_2 x1.Asked x1.Asks x1.Age))) p3.Messages p3.Records (p3.Replies ++ [(Reply.mk p2 4 x1.N 0 0 11)]) p3.Sure p3.Committed) p4) (fun v28 h => ?_)
 cases h.e
 try simp only [*, go_sem]
 refine eti [.z 23] ?_
 simp only [*, go_sem, mA, mS]
 try simp only [*, go_sem]
 refine jn0 h ([zI 1 p1, zI 2 p2, zP 3 0, zI 4 p4, zP 6 1, zP 1000000 0]) ([ox [zi p3.Desk.Next, .r 2 0 p3.Desk.Jobs.length, .r 3 0 p3.Messages.length, .r 4 0 p3.Records.length, .r 5 0 p3.Replies.length, zi p3.Sure, zi p3.Committed], ox p0.bx, ot 6 ((p3.Desk.Jobs.set p4.toNat (Job.mk x1.N x1.State b8_2 x1.Asked x1.Asks x1.Age)).map Job.encO), oa 12 (p3.Messages.map Message.enc), oa 8 (p3.Records.map Record.enc), oa 6 (p3.Replies.map Reply.enc)]) (fun k30 h => ?_) (fun h => ?_)
 try simp only [*, go_sem]
 refine lp1 (reredosref_madeSure_L2 p3 p4 x1 b8_2 k30) (fun a31_1 => [zI 1 p1, zI 2 p2, zP 3 0, zI 4 p4, zP 6 1, zP 12 2, zI 15 ((a31_1 : Nat) : Int), zP 1000000 0]) (fun a31_1 => [ox [zi p3.Desk.Next, .r 3 0 p3.Desk.Jobs.length, .r 4 0 p3.Messages.length, .r 5 0 p3.Records.length, .r 6 0 p3.Replies.length, zi p3.Sure, zi p3.Committed], ox p0.bx, ox [zi x1.N, zi x1.State, .r 7 0 b8_2.length, .r 8 0 x1.Asked.length, zi x1.Asks, zi x1.Age], og 6 (p3.Desk.Jobs.map Job.encO) p4.toNat [zi x1.N, zi x1.State, .r 7 0 b8_2.length, .r 8 0 x1.Asked.length, zi x1.Asks, zi x1.Age], oa 12 (p3.Messages.map Message.enc), oa 8 (p3.Records.map Record.enc), oa 6 (p3.Replies.map Reply.enc), oa 8 (b8_2.map Task.enc), oa 1 (x1.Asked.map encI)]) h [] [some 0, some 1, some 2, some 3, some 4, some 5, some 6, some 7, some 8] (fun n32 a31_1 h => ?_) (by intros; rw [reredosref_madeSure_L2])
 rw [reredosref_madeSure_L2] at h
 try simp only [*, go_sem]
 intro hl33
 refine oi h (fun hb34 h => ?_) (fun hb34 h => ?_)
 have hkhb34 := of_decide_eq_true hb34
 try simp only [*, go_sem]
 refine jn0 h ([zI 1 p1, zI 2 p2, zP 3 0, zI 4 p4, zP 6 1, zP 12 2, zI 15 ((a31_1 : Nat) : Int), zP 1000000 0]) ([ox [zi p3.Desk.Next, .r 3 0 p3.Desk.Jobs.length, .r 4 0 p3.Messages.length, .r 5 0 p3.Records.length, .r 6 0 p3.Replies.length, zi p3.Sure, zi p3.Committed], ox p0.bx, ox [zi x1.N, zi x1.State, .r 7 0 b8_2.length, .r 8 0 x1.Asked.length, zi x1.Asks, zi x1.Age], og 6 (p3.Desk.Jobs.map Job.encO) p4.toNat [zi x1.N, zi x1.State, .r 7 0 b8_2.length, .r 8 0 x1.Asked.length, zi x1.Asks, zi x1.Age], oa 12 (p3.Messages.map Message.enc), oa 8 (p3.Records.map Record.enc), oa 6 (p3.Replies.map Reply.enc), oa 8 (b8_2.map Task.enc), oa 1 (x1.Asked.map encI)]) (fun k36 h => ?_) (fun h => ?_)
 refine obg h (fun x37 _ _ h => ?_)
 refine oin h (fun hb38 hkhb38 h => ?_) (fun hb38 hkhb38 h => ?_)
 refine oin h (fun hb39 hkhb39 h => ?_) (fun hb39 hkhb39 h => ?_)
 try simp only [*, go_sem]
 refine gho_lk _ G _ _ [.u 3] ?_
 try simp only [*, go_sem]
 cases h.e
 try simp only [*, go_sem]
 refine eti [.z 3] ?_
 simp only [*, go_sem, mA, mS]
 try simp only [*, go_sem]
 exact jc () h.e [some 0, some 1, some 2, some 3, some 4, some 5, some 6, some 7, some 8]
 try simp only [*, go_sem]
 exact jc () h.e [some 0, some 1, some 2, some 3, some 4, some 5, some 6, some 7, some 8]
 have := wrap_succ_max hkhb34 hl33
 try simp only [*, go_sem]
 exact lc (a31_1 + 1) h.e [some 0, some 1, some 2, some 3, some 4, some 5, some 6, some 7, some 8]
 try simp only [*, go_sem]
 exact jf [.u 3] () h.e [some 0, some 1, some 3, some 4, some 5, some 6]
 try simp only [*, go_sem]
 refine ct h 0 [] [0, 2] [2, 3, 4, 5] (reredosref_committed_ok G p0 p1 p2 (Turn.mk (Desk.mk p3.Desk.Next (p3.Desk.Jobs.set p4.toNat (Job.mk x1.N x1.State b8_2 x1.Asked x1.Asks x1.Age))) p3.Messages p3.Records p3.Replies p3.Sure p3.Committed) p4) (fun v41 h => ?_)
 cases h.e
 try simp only [*, go_sem]
 refine etn [] ?_
 simp only [*, go_sem, mA, mS]
def reredosref_CoordHeard_L1 (p4 : Message) (x24 : Job) (k41 : (List Int) → Option (Turn × Int)) : Nat → Nat → (List Int) → Option (Turn × Int)
 | 0, _, _ => none
 | n43 + 1, a42_1, a42_2 => (if (decide (a42_1 < x24.Asked.length)) = true then (Option.bind (x24.Asked[a42_1]?) fun x46 => (withK (fun (b47_1 : List Int) => (reredosref_CoordHeard_L1 p4 x24 k41 n43 (a42_1 + 1) b47_1)) fun k48 => (if (x46 != p4.From) = true then (if fits 8 (a42_2.length + 1) then (k48 (a42_2 ++ [x46])) else none) else (k48 a42_2)))) else (k41 a42_2))
def reredosref_CoordHeard_L2 (p2 : Int) (p4 : Message) (x24 : Job) (k64 : (List Message) → Option (Turn × Int)) : Nat → Nat → (List Message) → Option (Turn × Int)
 | 0, _, _ => none
 | n66 + 1, a65_1, a65_2 => (if (decide (a65_1 < x24.Asked.length)) = true then (withK (fun (b69_1 : List Message) => (reredosref_CoordHeard_L2 p2 p4 x24 k64 n66 (a65_1 + 1) b69_1)) fun k70 => (if (x24.State == 3) = true then (Option.bind (x24.Asked[a65_1]?) fun x72 => (if (x72 == p4.From) = true then (Option.bind (reredosref_about p2 4 p4.From x24.N) fun v74 => (if fits 96 (a65_2.length + 1) then (k70 (a65_2 ++ [(Message.mk v74.Kind v74.From v74.To v74.Txn v74.Label v74.Key v74.Value v74.Version v74.Ask true v74.Code)])) else none)) else (k70 a65_2))) else (k70 a65_2))) else (k64 a65_2))
def reredosref_CoordHeard (p0 : Config) (p1 : Int) (p2 : Int) (p3 : Desk) (p4 : Message) : Option (Turn × Int) := (Option.bind (reredosref_deskFault p0 p1 p2 p3) fun v1 => (withK (fun (b2_1 : Int) => (withK (fun (b6_1 : Int) => (withK (fun (b11_1 : Int) => (if (b11_1 != 0) = true then (some ((Turn.mk (Desk.mk 0 []) [] [] [] 0 0), b11_1)) else (Option.bind (reredosref_DeskCopy p3) fun v16 => (Option.bind (reredosref_jobAt p3 p4.Txn.N) fun v17 => (if (decide (v17 < 0)) = true then (withK (fun (b19_1 : List Message) => (some ((Turn.mk v16 b19_1 [] [] 0 0), 0))) fun k20 => (if (p4.Kind == 9) = true then (Option.bind (reredosref_about p2 4 p4.From p4.Txn.N) fun v22 => (k20 [v22])) else (k20 []))) else (if 0 ≤ v17 then (Option.bind (v16.Jobs[v17.toNat]?) fun x24 => (withK (fun (b26_1 : Bool) => (withK (fun (b29_1 : Int) (b29_2 : List Job) (b29_3 : Int) (b29_4 : Int) (b29_5 : List Message) (b29_6 : List Record) (b29_7 : List Reply) => (some ((Turn.mk (Desk.mk b29_1 b29_2) b29_5 b29_6 b29_7 b29_3 b29_4), 0))) fun k30 => (if b26_1 = true then (Option.bind (reredosref_answeredTask p0 p1 p2 (Turn.mk (Desk.mk v16.Next (v16.Jobs.set v17.toNat x24)) [] [] [] 0 0) v17 p4) fun v32 => (k30 v32.Desk.Next v32.Desk.Jobs v32.Sure v32.Committed v32.Messages v32.Records v32.Replies)) else (withK (fun (b33_1 : Int) (b33_2 : List Job) (b33_3 : Int) (b33_4 : Int) (b33_5 : List Message) (b33_6 : List Record) (b33_7 : List Reply) => (k30 b33_1 b33_2 b33_3 b33_4 b33_5 b33_6 b33_7)) fun k34 => (if (p4.Kind == 7) = true then (Option.bind (reredosref_madeSure p0 p1 p2 (Turn.mk (Desk.mk v16.Next (v16.Jobs.set v17.toNat x24)) [] [] [] 0 0) v17 p4) fun v36 => (k34 v36.Desk.Next v36.Desk.Jobs v36.Sure v36.Committed v36.Messages v36.Records v36.Replies)) else (withK (fun (b37_1 : List Job) (b37_2 : List Message) (b37_3 : List Record) => (k34 v16.Next b37_1 0 0 b37_2 b37_3 [])) fun k38 => (if (p4.Kind == 8) = true then (withK (fun (b40_1 : List Int) => (withK (fun (b52_1 : List Job) (b52_2 : List Record) => (k38 b52_1 [] b52_2)) fun k53 => (if (x24.State == 3) = true then (withK (fun (b56_1 : List Job) (b56_2 : List Record) => (k53 b56_1 b56_2)) fun k57 => (if (((b40_1.length : Nat) : Int) == 0) = true then (withK (Option.bind (reredosref_without (v16.Jobs.set v17.toNat (Job.mk x24.N x24.State x24.Tasks b40_1 x24.Asks x24.Age)) v17) fun v62 => (k57 v62 [(Record.mk 4 p4.Txn 0 0 0 false [])])) fun k60 => k60) else (k57 (v16.Jobs.set v17.toNat (Job.mk x24.N x24.State x24.Tasks b40_1 x24.Asks x24.Age)) []))) else (k53 (v16.Jobs.set v17.toNat x24) [])))) fun k41 => (reredosref_CoordHeard_L1 p4 x24 k41 (x24.Asked.length + 1) 0 [])) else (withK (fun (b63_1 : List Message) => (k38 (v16.Jobs.set v17.toNat x24) b63_1 [])) fun k64 => (reredosref_CoordHeard_L2 p2 p4 x24 k64 (x24.Asked.length + 1) 0 []))))))))) fun k27 => (if (p4.Kind == 5) = true then (k27 true) else (k27 (p4.Kind == 6))))) else none)))))) fun k12 => (if (b6_1 == 0) = true then (if (decide (p4.Kind < 5)) = true then (k12 3) else (k12 b6_1)) else (k12 b6_1)))) fun k7 => (if (b2_1 == 0) = true then (if (p4.To != p2) = true then (k7 2) else (if (p4.Txn.Site != p2) = true then (k7 2) else (k7 b2_1))) else (k7 b2_1)))) fun k3 => (if (v1 == 0) = true then (Option.bind (reredosref_MessageFault p0 p4) fun v5 => (k3 v5)) else (k3 v1))))
def F14 : VFn := ⟨195, (.seq (.reg [vo 5 (.box 3 (.t 0)), vo 8 (.box 2 (.t 3)), vo 9 (.boxk 12 (.t 4)), vo 10 (.alloc [(zi 0), (.nl 6), (.nl 12), (.nl 8), (.nl 6), (zi 0), (zi 0)]), mi 11 0]) (.seq (.reg [vl 20 3 5, vm 21 1, vm 22 2, vl 23 2 8, vo 24 (.call 52 [(.t 20), (.t 21), (.t 22), (.t 23)]), vm 12 24]) (.seq (.seq (.reg [vm 25 12, bk 26 .eql 25 0]) (.wk (.cond (.t 26) (.reg [vl 27 3 5, vl 28 12 9, vo 29 (.call 32 [(.t 27), (.t 28)]), vm 12 29]) .skip))) (.seq (.wk (.seq (.reg [vm 30 12, bk 31 .eql 30 0, vm 32 31, gt 33 32 (.fa 2 (.t 9)), gt 34 32 (.ld false 1 (.t 33)), gt 35 32 (.mv (.t 2)), gt 36 32 (.bin .i .neq (.t 34) (.t 35)), gt 37 32 (.mv (.t 36)), gf 38 37 (.fa 3 (.t 9)), gf 39 37 (.fa 0 (.t 38)), gf 40 37 (.ld false 1 (.t 39)), gf 41 37 (.mv (.t 2)), gf 42 37 (.bin .i .neq (.t 40) (.t 41)), gt 43 32 (.pick (.t 37) (cb true) (.t 42)), vo 44 (.pick (.t 32) (.t 43) (cb false))]) (.cond (.t 44) (.reg [mi 12 2]) .skip))) (.seq (.wk (.seq (.reg [vm 45 12, bk 46 .eql 45 0, vm 47 46, gt 48 47 (.fa 0 (.t 9)), gt 49 47 (.ld false 1 (.t 48)), gt 50 47 (.bin .i .lss (.t 49) (ci 5)), vo 51 (.pick (.t 47) (.t 50) (cb false))]) (.cond (.t 51) (.reg [mi 12 3]) .skip))) (.seq (.seq (.reg [vm 52 12, bk 53 .neq 52 0]) (.cond (.t 53) (.seq (.reg [vo 54 (.build [(zi 0), (.nl 6), (.nl 12), (.nl 8), (.nl 6), (zi 0), (zi 0)] []), vm 55 12, vu (.st 7 (.t 10) (.t 54)), vm 11 55]) .ret) .skip)) (.seq (.reg [vl 56 2 8, vo 57 (.call 12 [(.t 56)]), vo 58 (.build [(zi 0), (.nl 6), (.nl 12), (.nl 8), (.nl 6), (zi 0), (zi 0)] [(0, 2, (.t 57))]), vo 13 (.alloc [(zi 0), (.nl 6), (.nl 12), (.nl 8), (.nl 6), (zi 0), (zi 0)]), vu (.st 7 (.t 13) (.t 58))]) (.seq (.reg [vl 59 2 8, vf 60 3 9, vf 61 1 60, vs 62 61, vo 63 (.call 53 [(.t 59), (.t 62)]), vm 14 63]) (.seq (.seq (.reg [vm 64 14, bk 65 .lss 64 0]) (.cond (.t 65) (.seq (.seq (.reg [vf 66 0 9, vs 67 66, bk 68 .eql 67 9]) (.wk (.cond (.t 68) (.draw [vd (vf 69 2 13) 0, vd (vs 70 69) 1, vd (vm 71 2) 0, vd (vf 72 1 9) 0, vd (vs 73 72) 8, vd (vf 74 3 9) 0, vd (vf 75 1 74) 32, vd (vs 76 75) 96, vd (vo 77 (.call 54 [(.t 71), (ci 4), (.t 73), (.t 76)])) 252, vd (vo 78 (.bsl 12 1 [(zi 0), (zi 0), (zi 0), (zi 0), (zi 0), (zi 0), (zi 0), (zi 0), (zi 0), (zi 0), (.d (.b false)), (zi 0)] [(0, (.t 77))])) 508, vd (vo 79 (.app 12 96 (.t 70) (.t 78))) 1023, vd (vf 80 2 13) 2047, vd (vu (.st 1 (.t 80) (.t 79))) 4095]) .skip))) (.seq (.reg [vl 81 7 13, vu (.st 7 (.t 10) (.t 81)), mi 11 0]) .ret)) .skip)) (.seq (.gho (.reg [vf 82 0 13, vf 83 1 82, vs 84 83, vm 85 14, xa 86 6 84 85, vl 87 6 86, vo 15 (.alloc [(zi 0), (zi 0), (.nl 8), (.nl 1), (zi 0), (zi 0)]), vu (.st 6 (.t 15) (.t 87))])) (.seq (.seq (.reg [vf 88 0 9, vs 89 88]) (.block 0 (.seq (.seq (.reg [bk 124 .eql 89 5, vm 123 124]) (.wk (.cond (.t 123) .skip (.reg [bk 125 .eql 89 6, vm 123 125])))) (.wk (.cond (.t 123) (.gho (.reg [vl 126 3 5, vm 127 1, vm 128 2, vm 129 14, vl 130 12 9, vo 131 (.call 55 [(.t 126), (.t 127), (.t 128), (.t 13), (.t 129), (.t 130)])])) (.seq (.reg [bk 133 .eql 89 7, vm 132 133]) (.wk (.cond (.t 132) (.gho (.reg [vl 134 3 5, vm 135 1, vm 136 2, vm 137 14, vl 138 12 9, vo 139 (.call 56 [(.t 134), (.t 135), (.t 136), (.t 13), (.t 137), (.t 138)])])) (.seq (.reg [bk 141 .eql 89 8, vm 140 141]) (.wk (.cond (.t 140) (.seq (.reg [vo 16 (.mv (.c (.one (.nl 1))))]) (.seq (.seq (.reg [mi 17 0]) (.wk (.block 3 (.loop (.seq (.seq (.reg [vm 142 17, vf 143 3 15, vs 144 143, ln 145 144, bt 146 .lss 142 145]) (.cond (.t 146) .skip (.exit 3))) (.seq (.block 4 (.seq (.draw [vd (vf 149 3 15) 0, vd (vs 150 149) 1, vd (vm 151 17) 0, vd (xa 152 1 150 151) 7, vd (vs 153 152) 15, vd (vf 154 1 9) 0, vd (vs 155 154) 32, vd (bt 156 .neq 153 155) 127]) (.wk (.cond (.t 156) (.reg [vm 157 16, vf 158 3 15, vs 159 158, vm 160 17, xa 161 1 159 160, vs 162 161, vo 163 (.bsl 1 1 [(zi 0)] [(0, (.t 162))]), vo 164 (.app 1 8 (.t 157) (.t 163)), vm 16 164]) .skip)))) (.reg [vm 147 17, bk 148 .add 147 1, vm 17 148]))))))) (.seq (.reg [vf 165 1 15, vs 166 165, bk 167 .eql 166 3]) (.wk (.cond (.t 167) (.seq (.reg [vm 168 16, vf 169 3 15, vu (.st 1 (.t 169) (.t 168))]) (.seq (.reg [vf 170 0 13, vf 171 1 170, vs 172 171, vm 173 14, vl 174 6 15, xa 175 6 172 173, vu (.st 6 (.t 175) (.t 174))]) (.seq (.reg [vm 176 16, ln 177 176, bk 178 .eql 177 0]) (.wk (.cond (.t 178) (.seq (.regs [[vf 179 3 13, vs 180 179, vf 181 3 9, vl 182 2 181, vo 183 (.build [(zi 0), (zi 0), (zi 0), (zi 0), (zi 0), (zi 0), (.d (.b false)), (.nl 1)] [(0, 1, (ci 4)), (1, 2, (.t 182))])], [vo 184 (.bsl 8 1 [(zi 0), (zi 0), (zi 0), (zi 0), (zi 0), (zi 0), (.d (.b false)), (.nl 1)] [(0, (.t 183))]), vo 185 (.app 8 80 (.t 180) (.t 184)), vf 186 3 13, vu (.st 1 (.t 186) (.t 185))]]) (.gho (.reg [vf 187 0 13, vf 188 1 187, vs 189 188, vm 190 14, vo 191 (.call 57 [(.t 189), (.t 190)]), vf 192 0 13, vf 193 1 192, vu (.st 1 (.t 193) (.t 191))]))) .skip))))) .skip))))) (.seq (.reg [mi 18 0]) (.wk (.block 1 (.loop (.seq (.seq (.reg [vm 90 18, vf 91 3 15, vs 92 91, ln 93 92, bt 94 .lss 90 93]) (.cond (.t 94) .skip (.exit 1))) (.seq (.block 2 (.wk (.seq (.draw [vd (vf 97 1 15) 0, vd (vs 98 97) 1, vd (bk 99 .eql 98 3) 3, vd (vm 100 99) 7, vd (gt 101 100 (.fa 3 (.t 15))) 15, vd (gt 102 100 (.ld false 1 (.t 101))) 31, vd (gt 103 100 (.mv (.t 18))) 15, vd (gt 104 100 (.ia 1 (.t 102) (.t 103))) 127, vd (gt 105 100 (.ld false 1 (.t 104))) 255, vd (gt 106 100 (.fa 1 (.t 9))) 15, vd (gt 107 100 (.ld false 1 (.t 106))) 527, vd (gt 108 100 (.bin .i .eql (.t 105) (.t 107))) 2047, vd (vo 109 (.pick (.t 100) (.t 108) (cb false))) 4095]) (.cond (.t 109) (.seq (.reg [vm 110 2, vf 111 1 9, vs 112 111, vf 113 0 15, vs 114 113, vo 115 (.call 54 [(.t 110), (ci 4), (.t 112), (.t 114)]), vo 19 (.alloc [(zi 0), (zi 0), (zi 0), (zi 0), (zi 0), (zi 0), (zi 0), (zi 0), (zi 0), (zi 0), (.d (.b false)), (zi 0)]), vu (.st 12 (.t 19) (.t 115))]) (.seq (.reg [vf 116 10 19, vu (.st 1 (.t 116) (cb true))]) (.reg [vf 117 2 13, vs 118 117, vl 119 12 19, vo 120 (.bsl 12 1 [(zi 0), (zi 0), (zi 0), (zi 0), (zi 0), (zi 0), (zi 0), (zi 0), (zi 0), (zi 0), (.d (.b false)), (zi 0)] [(0, (.t 119))]), vo 121 (.app 12 96 (.t 118) (.t 120)), vf 122 2 13, vu (.st 1 (.t 122) (.t 121))]))) .skip)))) (.reg [vm 95 18, bk 96 .add 95 1, vm 18 96])))))))))))))))))) (.seq (.reg [vl 194 7 13, vu (.st 7 (.t 10) (.t 194)), mi 11 0]) .ret)))))))))))), [.cell 10 true 7, .t 11]⟩
theorem low14 : lowF Tryd.prog 14 = some F14.strip := by kernel_rfl
theorem fok14 : fOk Tryd.prog 14 = true := by kernel_rfl
theorem reredosref_CoordHeard_ok (p0 : Config) (p1 : Int) (p2 : Int) (p3 : Desk) (p4 : Message) (r : Turn × Int) (h : reredosref_CoordHeard p0 p1 p2 p3 p4 = some r) : FnRO Tryd.prog G 14 [.agg p0.bx, .one (.d (.i .i64 p1)), .one (.d (.i .i64 p2)), .agg p3.bx, .agg p4.bx] (fun rs => rs = [.agg (r.1.enc), .one (.i .i64 r.2)]) := by
 refine FnRO.fz ?_ rfl
 refine FnRO.of' low14 fok14 (by simp [F14]) ?_
 rw [reredosref_CoordHeard] at h
 replace h := Hd.mk h
 simp only [F14, go_sem]
 try simp only [*, go_sem]
 refine cr h (reredosref_deskFault_ok G p0 p1 p2 p3) (fun v1 h => ?_)
 try simp only [*, go_sem]
 refine jn1 h (fun b2_1 => [zI 1 p1, zI 2 p2, zP 5 0, zP 8 1, zK 9 (Message.enc p4), zP 10 2, zI 12 b2_1]) (fun b2_1 => [ox p0.bx, ox p3.bx, ox [zi 0, .nl 6, .nl 12, .nl 8, .nl 6, zi 0, zi 0]]) (fun k3 h => ?_) (fun b2_1 h => ?_)
 refine oi h (fun hb4 h => ?_) (fun hb4 h => ?_)
 try simp only [*, go_sem]
 refine cr h (reredosref_MessageFault_ok G p0 p4) (fun v5 h => ?_)
 try simp only [*, go_sem]
 exact jc (v5) h.e [some 0, some 1, some 2]
 try simp only [*, go_sem]
 exact jc (v1) h.e [some 0, some 1, some 2]
 try simp only [*, go_sem]
 refine jn1 h (fun b6_1 => [zI 1 p1, zI 2 p2, zP 5 0, zP 8 1, zK 9 (Message.enc p4), zP 10 2, zI 12 b6_1]) (fun b6_1 => [ox p0.bx, ox p3.bx, ox [zi 0, .nl 6, .nl 12, .nl 8, .nl 6, zi 0, zi 0]]) (fun k7 h => ?_) (fun b6_1 h => ?_)
 refine oi h (fun hb8 h => ?_) (fun hb8 h => ?_)
 refine oi h (fun hb9 h => ?_) (fun hb9 h => ?_)
 try simp only [*, go_sem]
 exact jc (2) h.e [some 0, some 1, some 2]
 refine oi h (fun hb10 h => ?_) (fun hb10 h => ?_)
 try simp only [*, go_sem]
 exact jc (2) h.e [some 0, some 1, some 2]
 try simp only [*, go_sem]
 exact jc (b2_1) h.e [some 0, some 1, some 2]
 try simp only [*, go_sem]
 exact jc (b2_1) h.e [some 0, some 1, some 2]
 try simp only [*, go_sem]
 refine jn1 h (fun b11_1 => [zI 1 p1, zI 2 p2, zP 5 0, zP 8 1, zK 9 (Message.enc p4), zP 10 2, zI 12 b11_1]) (fun b11_1 => [ox p0.bx, ox p3.bx, ox [zi 0, .nl 6, .nl 12, .nl 8, .nl 6, zi 0, zi 0]]) (fun k12 h => ?_) (fun b11_1 h => ?_)
 refine oi h (fun hb13 h => ?_) (fun hb13 h => ?_)
 refine oi h (fun hb14 h => ?_) (fun hb14 h => ?_)
 have := of_decide_eq_true hb14
 try simp only [*, go_sem]
 exact jc (3) h.e [some 0, some 1, some 2]
 try simp only [*, go_sem]
 exact jc (b6_1) h.e [some 0, some 1, some 2]
 try simp only [*, go_sem]
 exact jc (b6_1) h.e [some 0, some 1, some 2]
 refine oi h (fun hb15 h => ?_) (fun hb15 h => ?_)
 cases h.e
 simp only [*, go_sem, mA, mS]
 try simp only [*, go_sem]
 refine cr h (reredosref_DeskCopy_ok G p3) (fun v16 h => ?_)
 try simp only [*, go_sem]
 refine cr h (reredosref_jobAt_ok G p3 p4.Txn.N) (fun v17 h => ?_)
 refine oi h (fun hb18 h => ?_) (fun hb18 h => ?_)
 have := of_decide_eq_true hb18
 try simp only [*, go_sem]
 refine jn1 h (fun b19_1 => [zP 10 0, zP 13 1]) (fun b19_1 => [ox [zi 0, .nl 6, .nl 12, .nl 8, .nl 6, zi 0, zi 0], ox [zi v16.Next, .r 2 0 v16.Jobs.length, .r 3 0 b19_1.length, .nl 8, .nl 6, zi 0, zi 0], ot 6 (v16.Jobs.map Job.encO), oa 12 (b19_1.map Message.enc)]) (fun k20 h => ?_) (fun b19_1 h => ?_)
 refine oi h (fun hb21 h => ?_) (fun hb21 h => ?_)
 refine obk h (fun v22 hv22 h => ?_)
 try simp only [*, go_sem]
 refine cd (reredosref_about_ok G p2 4 p4.From p4.Txn.N v22 hv22) ?_
 have : fits 96 1 := by decide
 try simp only [*, go_sem]
 exact jc ([v22]) h.e [some 2, some 4, some 3, some 15]
 try simp only [*, go_sem]
 exact jc ([]) h.e [some 2, some 4, some 3, none]
 cases h.e
 simp only [*, go_sem, mA, mS]
 refine obn h (fun x24 _ _ _ _ h => ?_)
 try simp only [*, go_sem]
 refine gho_lk _ G _ _ [.f 3 v17.toNat] ?_
 try simp only [*, go_sem]
 try simp only [*, go_sem]
 refine jn1 h (fun b26_1 => [zI 1 p1, zI 2 p2, zP 5 0, zK 9 (Message.enc p4), zP 10 1, zP 13 2, zI 14 v17, zP 15 3, zI 89 p4.Kind, zB 123 b26_1]) (fun b26_1 => [ox p0.bx, ox [zi 0, .nl 6, .nl 12, .nl 8, .nl 6, zi 0, zi 0], ox [zi v16.Next, .r 4 0 v16.Jobs.length, .nl 12, .nl 8, .nl 6, zi 0, zi 0], ox [zi x24.N, zi x24.State, .r 5 0 x24.Tasks.length, .r 6 0 x24.Asked.length, zi x24.Asks, zi x24.Age], og 6 (v16.Jobs.map Job.encO) v17.toNat [zi x24.N, zi x24.State, .r 5 0 x24.Tasks.length, .r 6 0 x24.Asked.length, zi x24.Asks, zi x24.Age], oa 8 (x24.Tasks.map Task.enc), oa 1 (x24.Asked.map encI)]) (fun k27 h => ?_) (fun b26_1 h => ?_)
 refine oi h (fun hb28 h => ?_) (fun hb28 h => ?_)
 try simp only [*, go_sem]
 exact jc (true) h.e [some 0, some 2, some 4, some 7, some 3, some 5, some 6]
 try simp only [*, go_sem]
 exact jc (p4.Kind == 6) h.e [some 0, some 2, some 4, some 7, some 3, some 5, some 6]
 try simp only [*, go_sem]
 refine jn7 h (fun b29_1 b29_2 b29_3 b29_4 b29_5 b29_6 b29_7 => [zP 10 0, zP 13 1]) (fun b29_1 b29_2 b29_3 b29_4 b29_5 b29_6 b29_7 => [ox [zi 0, .nl 6, .nl 12, .nl 8, .nl 6, zi 0, zi 0], ox [zi b29_1, .d (.l 6 (b29_2.map Job.enc)), .r 2 0 b29_5.length, .r 3 0 b29_6.length, .r 4 0 b29_7.length, zi b29_3, zi b29_4], oa 12 (b29_5.map Message.enc), oa 8 (b29_6.map Record.enc), oa 6 (b29_7.map Reply.enc)]) (fun k30 h => ?_) (fun b29_1 b29_2 b29_3 b29_4 b29_5 b29_6 b29_7 h => ?_)
 refine oi h (fun hb31 h => ?_) (fun hb31 h => ?_)
 try simp only [*, go_sem]
 refine gho_lk _ G _ _ [.u 4] ?_
 try simp only [*, go_sem]
 try simp only [*, go_sem]
 refine ct h 2 [] [0, 2] [4] (reredosref_answeredTask_ok G p0 p1 p2 (Turn.mk (Desk.mk v16.Next (v16.Jobs.set v17.toNat x24)) [] [] [] 0 0) v17 p4) (fun v32 h => ?_)
 try simp only [*, go_sem]
 exact jc (v32.Desk.Next, v32.Desk.Jobs, v32.Sure, v32.Committed, v32.Messages, v32.Records, v32.Replies) h.e [some 1, some 2, some 7, some 8, some 9]
 try simp only [*, go_sem]
 refine jn7 h (fun b33_1 b33_2 b33_3 b33_4 b33_5 b33_6 b33_7 => [zP 10 0, zP 13 1]) (fun b33_1 b33_2 b33_3 b33_4 b33_5 b33_6 b33_7 => [ox [zi 0, .nl 6, .nl 12, .nl 8, .nl 6, zi 0, zi 0], ox [zi b33_1, .d (.l 6 (b33_2.map Job.enc)), .r 2 0 b33_5.length, .r 3 0 b33_6.length, .r 4 0 b33_7.length, zi b33_3, zi b33_4], oa 12 (b33_5.map Message.enc), oa 8 (b33_6.map Record.enc), oa 6 (b33_7.map Reply.enc)]) (fun k34 h => ?_) (fun b33_1 b33_2 b33_3 b33_4 b33_5 b33_6 b33_7 h => ?_)
 refine oi h (fun hb35 h => ?_) (fun hb35 h => ?_)
 try simp only [*, go_sem]
 refine gho_lk _ G _ _ [.u 4] ?_
 try simp only [*, go_sem]
 try simp only [*, go_sem]
 refine ct h 2 [] [0, 2] [4] (reredosref_madeSure_ok G p0 p1 p2 (Turn.mk (Desk.mk v16.Next (v16.Jobs.set v17.toNat x24)) [] [] [] 0 0) v17 p4) (fun v36 h => ?_)
 try simp only [*, go_sem]
 exact jc (v36.Desk.Next, v36.Desk.Jobs, v36.Sure, v36.Committed, v36.Messages, v36.Records, v36.Replies) h.e [some 1, some 2, some 7, some 8, some 9]
 try simp only [*, go_sem]
 refine jn3 h (fun b37_1 b37_2 b37_3 => [zP 10 0, zP 13 1]) (fun b37_1 b37_2 b37_3 => [ox [zi 0, .nl 6, .nl 12, .nl 8, .nl 6, zi 0, zi 0], ox [zi v16.Next, .r 2 0 b37_1.length, .r 3 0 b37_2.length, .r 4 0 b37_3.length, .nl 6, zi 0, zi 0], oz 6 (b37_1.map Job.enc), oa 12 (b37_2.map Message.enc), oa 8 (b37_3.map Record.enc)]) (fun k38 h => ?_) (fun b37_1 b37_2 b37_3 h => ?_)
 refine oi h (fun hb39 h => ?_) (fun hb39 h => ?_)
 try simp only [*, go_sem]
 refine jn1 h (fun b40_1 => [zK 9 (Message.enc p4), zP 10 0, zP 13 1, zI 14 v17, zP 15 2, zR 16 3 0 b40_1.length]) (fun b40_1 => [ox [zi 0, .nl 6, .nl 12, .nl 8, .nl 6, zi 0, zi 0], ox [zi v16.Next, .r 4 0 v16.Jobs.length, .nl 12, .nl 8, .nl 6, zi 0, zi 0], ox [zi x24.N, zi x24.State, .r 5 0 x24.Tasks.length, .r 6 0 x24.Asked.length, zi x24.Asks, zi x24.Age], oa 1 (b40_1.map encI), og 6 (v16.Jobs.map Job.encO) v17.toNat [zi x24.N, zi x24.State, .r 5 0 x24.Tasks.length, .r 6 0 x24.Asked.length, zi x24.Asks, zi x24.Age], oa 8 (x24.Tasks.map Task.enc), oa 1 (x24.Asked.map encI)]) (fun k41 h => ?_) (fun b40_1 h => ?_)
 try simp only [*, go_sem]
 refine lp2 (reredosref_CoordHeard_L1 p4 x24 k41) (fun a42_1 a42_2 => [zK 9 (Message.enc p4), zP 10 0, zP 13 1, zI 14 v17, zP 15 2, zR 16 3 0 a42_2.length, zI 17 ((a42_1 : Nat) : Int)]) (fun a42_1 a42_2 => [ox [zi 0, .nl 6, .nl 12, .nl 8, .nl 6, zi 0, zi 0], ox [zi v16.Next, .r 4 0 v16.Jobs.length, .nl 12, .nl 8, .nl 6, zi 0, zi 0], ox [zi x24.N, zi x24.State, .r 5 0 x24.Tasks.length, .r 6 0 x24.Asked.length, zi x24.Asks, zi x24.Age], oa 1 (a42_2.map encI), og 6 (v16.Jobs.map Job.encO) v17.toNat [zi x24.N, zi x24.State, .r 5 0 x24.Tasks.length, .r 6 0 x24.Asked.length, zi x24.Asks, zi x24.Age], oa 8 (x24.Tasks.map Task.enc), oa 1 (x24.Asked.map encI)]) h [] [some 1, some 2, some 3, none, some 4, some 5, some 6] (fun n43 a42_1 a42_2 h => ?_) (by intros; rw [reredosref_CoordHeard_L1])
 rw [reredosref_CoordHeard_L1] at h
 try simp only [*, go_sem]
 intro hl44
 refine oi h (fun hb45 h => ?_) (fun hb45 h => ?_)
 have := of_decide_eq_true hb45
 refine obg h (fun x46 _ hkx46 h => ?_)
 try simp only [*, go_sem]
 refine jn1 h (fun b47_1 => [zK 9 (Message.enc p4), zP 10 0, zP 13 1, zI 14 v17, zP 15 2, zR 16 3 0 b47_1.length, zI 17 ((a42_1 : Nat) : Int)]) (fun b47_1 => [ox [zi 0, .nl 6, .nl 12, .nl 8, .nl 6, zi 0, zi 0], ox [zi v16.Next, .r 4 0 v16.Jobs.length, .nl 12, .nl 8, .nl 6, zi 0, zi 0], ox [zi x24.N, zi x24.State, .r 5 0 x24.Tasks.length, .r 6 0 x24.Asked.length, zi x24.Asks, zi x24.Age], oa 1 (b47_1.map encI), og 6 (v16.Jobs.map Job.encO) v17.toNat [zi x24.N, zi x24.State, .r 5 0 x24.Tasks.length, .r 6 0 x24.Asked.length, zi x24.Asks, zi x24.Age], oa 8 (x24.Tasks.map Task.enc), oa 1 (x24.Asked.map encI)]) (fun k48 h => ?_) (fun b47_1 h => ?_)
 refine oi h (fun hb49 h => ?_) (fun hb49 h => ?_)
 refine ck h (fun _ h => ?_)
 try simp only [*, go_sem]
 exact jc ((a42_2 ++ [x46])) h.e [some 0, some 1, some 2, some 16, some 4, some 5, some 6]
 try simp only [*, go_sem]
 exact jc (a42_2) h.e [some 0, some 1, some 2, some 3, some 4, some 5, some 6]
 have := wrap_succ_max hkx46 hl44
 try simp only [*, go_sem]
 exact lc (a42_1 + 1, b47_1) h.e [some 0, some 1, some 2, some 3, some 4, some 5, some 6]
 try simp only [*, go_sem]
 exact jc (a42_2) h.e [some 0, some 1, some 2, some 3, some 4, some 5, some 6]
 try simp only [*, go_sem]
 refine jn2 h (fun b52_1 b52_2 => [zP 10 0, zP 13 1]) (fun b52_1 b52_2 => [ox [zi 0, .nl 6, .nl 12, .nl 8, .nl 6, zi 0, zi 0], ox [zi v16.Next, .r 2 0 b52_1.length, .nl 12, .r 3 0 b52_2.length, .nl 6, zi 0, zi 0], oz 6 (b52_1.map Job.enc), oa 8 (b52_2.map Record.enc)]) (fun k53 h => ?_) (fun b52_1 b52_2 h => ?_)
 refine oi h (fun hb54 h => ?_) (fun hb54 h => ?_)
 try simp only [*, go_sem]
 intro hl55
 try simp only [*, go_sem]
 refine jn2 h (fun b56_1 b56_2 => [zP 10 0, zP 13 1]) (fun b56_1 b56_2 => [ox [zi 0, .nl 6, .nl 12, .nl 8, .nl 6, zi 0, zi 0], ox [zi v16.Next, .r 2 0 b56_1.length, .nl 12, .r 3 0 b56_2.length, .nl 6, zi 0, zi 0], oz 6 (b56_1.map Job.enc), oa 8 (b56_2.map Record.enc)]) (fun k57 h => ?_) (fun b56_1 b56_2 h => ?_)
 refine oi h (fun hb58 h => ?_) (fun hb58 h => ?_)
 try simp only [*, go_sem]
 refine rg0 h ([zP 10 0, zP 13 1, zI 14 v17, (180, .one (.nl 8)), (183, .agg [zi 4, zi p4.Txn.Site, zi p4.Txn.N, zi 0, zi 0, zi 0, .d (.b false), .nl 1])]) ([ox [zi 0, .nl 6, .nl 12, .nl 8, .nl 6, zi 0, zi 0], ox [zi v16.Next, .r 2 0 v16.Jobs.length, .nl 12, .nl 8, .nl 6, zi 0, zi 0], ot 6 ((v16.Jobs.set v17.toNat (Job.mk x24.N x24.State x24.Tasks b40_1 x24.Asks x24.Age)).map Job.encO)]) (fun k60 h => ?_) (fun h => ?_)
 try simp only [*, go_sem]
 exact jf [.u 4] () h.e [some 0, some 1, some 4]
 have : fits 80 1 := by decide
 try simp only [*, go_sem]
 refine gho_lk _ G _ _ [.z 2] ?_
 try simp only [*, go_sem]
 try simp only [*, go_sem]
 refine cr h (reredosref_without_ok G (v16.Jobs.set v17.toNat (Job.mk x24.N x24.State x24.Tasks b40_1 x24.Asks x24.Age)) v17) (fun v62 h => ?_)
 try simp only [*, go_sem]
 exact jf [.z 5] (v62, [(Record.mk 4 p4.Txn 0 0 0 false [])]) h.e [some 0, some 1, some 5, some 4]
 try simp only [*, go_sem]
 exact jf [.u 4, .z 4] ((v16.Jobs.set v17.toNat (Job.mk x24.N x24.State x24.Tasks b40_1 x24.Asks x24.Age)), []) h.e [some 0, some 1, some 4, none]
 try simp only [*, go_sem]
 exact jc (b56_1, b56_2) h.e [some 0, some 1, some 2, some 3]
 try simp only [*, go_sem]
 exact jf [.u 4, .z 4] ((v16.Jobs.set v17.toNat x24), []) h.e [some 0, some 1, some 4, none]
 try simp only [*, go_sem]
 exact jc (b52_1, [], b52_2) h.e [some 0, some 1, some 2, none, some 3]
 try simp only [*, go_sem]
 refine jn1 h (fun b63_1 => [zP 10 0, zP 13 1]) (fun b63_1 => [ox [zi 0, .nl 6, .nl 12, .nl 8, .nl 6, zi 0, zi 0], ox [zi v16.Next, .r 2 0 v16.Jobs.length, .r 3 0 b63_1.length, .nl 8, .nl 6, zi 0, zi 0], ot 6 ((v16.Jobs.set v17.toNat x24).map Job.encO), oa 12 (b63_1.map Message.enc)]) (fun k64 h => ?_) (fun b63_1 h => ?_)
 try simp only [*, go_sem]
 refine lp2 (reredosref_CoordHeard_L2 p2 p4 x24 k64) (fun a65_1 a65_2 => [zI 2 p2, zK 9 (Message.enc p4), zP 10 0, zP 13 1, zP 15 2, zI 18 ((a65_1 : Nat) : Int)]) (fun a65_1 a65_2 => [ox [zi 0, .nl 6, .nl 12, .nl 8, .nl 6, zi 0, zi 0], ox [zi v16.Next, .r 3 0 v16.Jobs.length, .r 4 0 a65_2.length, .nl 8, .nl 6, zi 0, zi 0], ox [zi x24.N, zi x24.State, .r 5 0 x24.Tasks.length, .r 6 0 x24.Asked.length, zi x24.Asks, zi x24.Age], og 6 (v16.Jobs.map Job.encO) v17.toNat [zi x24.N, zi x24.State, .r 5 0 x24.Tasks.length, .r 6 0 x24.Asked.length, zi x24.Asks, zi x24.Age], oa 12 (a65_2.map Message.enc), oa 8 (x24.Tasks.map Task.enc), oa 1 (x24.Asked.map encI)]) h [] [some 1, some 2, some 3, some 4, none, some 5, some 6] (fun n66 a65_1 a65_2 h => ?_) (by intros; rw [reredosref_CoordHeard_L2])
 rw [reredosref_CoordHeard_L2] at h
 try simp only [*, go_sem]
 intro hl67
 refine oi h (fun hb68 h => ?_) (fun hb68 h => ?_)
 have hkhb68 := of_decide_eq_true hb68
 try simp only [*, go_sem]
 refine jn1 h (fun b69_1 => [zI 2 p2, zK 9 (Message.enc p4), zP 10 0, zP 13 1, zP 15 2, zI 18 ((a65_1 : Nat) : Int)]) (fun b69_1 => [ox [zi 0, .nl 6, .nl 12, .nl 8, .nl 6, zi 0, zi 0], ox [zi v16.Next, .r 3 0 v16.Jobs.length, .r 4 0 b69_1.length, .nl 8, .nl 6, zi 0, zi 0], ox [zi x24.N, zi x24.State, .r 5 0 x24.Tasks.length, .r 6 0 x24.Asked.length, zi x24.Asks, zi x24.Age], og 6 (v16.Jobs.map Job.encO) v17.toNat [zi x24.N, zi x24.State, .r 5 0 x24.Tasks.length, .r 6 0 x24.Asked.length, zi x24.Asks, zi x24.Age], oa 12 (b69_1.map Message.enc), oa 8 (x24.Tasks.map Task.enc), oa 1 (x24.Asked.map encI)]) (fun k70 h => ?_) (fun b69_1 h => ?_)
 refine oi h (fun hb71 h => ?_) (fun hb71 h => ?_)
 refine obg h (fun x72 _ _ h => ?_)
 refine oi h (fun hb73 h => ?_) (fun hb73 h => ?_)
 try simp only [*, go_sem]
 refine cr h (reredosref_about_ok G p2 4 p4.From x24.N) (fun v74 h => ?_)
 refine ck h (fun _ h => ?_)
 try simp only [*, go_sem]
 exact jc ((a65_2 ++ [(Message.mk v74.Kind v74.From v74.To v74.Txn v74.Label v74.Key v74.Value v74.Version v74.Ask true v74.Code)])) h.e [some 0, some 1, some 2, some 3, some 22, some 5, some 6]
 try simp only [*, go_sem]
 exact jc (a65_2) h.e [some 0, some 1, some 2, some 3, some 4, some 5, some 6]
 try simp only [*, go_sem]
 exact jc (a65_2) h.e [some 0, some 1, some 2, some 3, some 4, some 5, some 6]
 have := wrap_succ_max hkhb68 hl67
 try simp only [*, go_sem]
 exact lc (a65_1 + 1, b69_1) h.e [some 0, some 1, some 2, some 3, some 4, some 5, some 6]
 try simp only [*, go_sem]
 exact jf [.u 3] (a65_2) h.e [some 0, some 1, some 3, some 4]
 try simp only [*, go_sem]
 exact jf [.z 2] ((v16.Jobs.set v17.toNat x24), b63_1, []) h.e [some 0, some 1, some 2, some 3, none]
 try simp only [*, go_sem]
 exact jc (v16.Next, b37_1, 0, 0, b37_2, b37_3, []) h.e [some 0, some 1, some 3, some 4, none]
 try simp only [*, go_sem]
 exact jc (b33_1, b33_2, b33_3, b33_4, b33_5, b33_6, b33_7) h.e [some 0, some 1, some 2, some 3, some 4]
 cases h.e
 simp only [*, go_sem, mA, mS]
def reredoslaw_sameTasks_L1 (p0 : List Task) (p1 : List Task) (k5 : Option (Bool)) : Nat → Nat → Option (Bool)
 | 0, _ => none
 | n7 + 1, a6_1 => (if (decide (a6_1 < p0.length)) = true then (Option.bind (p0[a6_1]?) fun x10 => (Option.bind (p1[a6_1]?) fun x11 => (if (!((x10.Write == x11.Write) && ((x10.Label == x11.Label) && ((x10.Key == x11.Key) && ((x10.Value == x11.Value) && ((x10.Version == x11.Version) && ((x10.Ask == x11.Ask) && ((x10.Done == x11.Done) && (x10.Sure == x11.Sure))))))))) = true then (some false) else (reredoslaw_sameTasks_L1 p0 p1 k5 n7 (a6_1 + 1))))) else k5)
def reredoslaw_sameTasks (p0 : List Task) (p1 : List Task) : Option (Bool) := (if (((p0.length : Nat) : Int) != ((p1.length : Nat) : Int)) = true then (some false) else (withK (some true) fun k5 => (reredoslaw_sameTasks_L1 p0 p1 k5 (p0.length + 1) 0)))
def F59 : VFn := ⟨26, (.seq (.reg [vo 4 (.mv (cb false))]) (.seq (.seq (.reg [vm 6 0, ln 7 6, vm 8 1, ln 9 8, bt 10 .neq 7 9]) (.cond (.t 10) (.seq (.reg [vo 4 (.mv (cb false))]) .ret) .skip)) (.seq (.seq (.reg [mi 5 0]) (.wk (.block 0 (.loop (.seq (.seq (.reg [vm 11 5, vm 12 0, ln 13 12, bt 14 .lss 11 13]) (.cond (.t 14) .skip (.exit 0))) (.seq (.block 1 (.seq (.draw [vd (vm 17 0) 0, vd (vm 18 5) 0, vd (xa 19 8 17 18) 3, vd (vl 20 8 19) 7, vd (vm 21 1) 0, vd (vm 22 5) 0, vd (xa 23 8 21 22) 48, vd (vl 24 8 23) 112, vd (vo 25 (.eqs true [.b, .i, .i, .i, .i, .i, .b, .b] (.t 20) (.t 24))) 255]) (.cond (.t 25) (.seq (.reg [vo 4 (.mv (cb false))]) .ret) .skip))) (.reg [vm 15 5, bk 16 .add 15 1, vm 5 16]))))))) (.seq (.reg [vo 4 (.mv (cb true))]) .ret)))), [.t 4]⟩
theorem low59 : lowF Tryd.prog 59 = some F59.strip := by kernel_rfl
theorem fok59 : fOk Tryd.prog 59 = true := by kernel_rfl
theorem reredoslaw_sameTasks_ok (p0 : List Task) (p1 : List Task) (r : Bool) (h : reredoslaw_sameTasks p0 p1 = some r) : FnRO Tryd.prog G 59 [.one (.d (.l 8 (p0.map Task.enc))), .one (.d (.l 8 (p1.map Task.enc)))] (fun rs => rs = [.one (.b r)]) := by
 refine FnRO.of' low59 fok59 (by simp [F59]) ?_
 rw [reredoslaw_sameTasks] at h
 replace h := Hd.mk h
 simp only [F59, go_sem]
 try simp only [*, go_sem]
 intro hl1
 try simp only [*, go_sem]
 intro hl2
 refine oi h (fun hb3 h => ?_) (fun hb3 h => ?_)
 cases h.e
 simp only [*, go_sem, mA, mS]
 try simp only [*, go_sem]
 refine jn0 h ([]) ([]) (fun k5 h => ?_) (fun h => ?_)
 try simp only [*, go_sem]
 refine lp1 (reredoslaw_sameTasks_L1 p0 p1 k5) (fun a6_1 => [zL 0 8 (p0.map Task.enc), zL 1 8 (p1.map Task.enc), zI 5 ((a6_1 : Nat) : Int)]) (fun a6_1 => []) h [] [] (fun n7 a6_1 h => ?_) (by intros; rw [reredoslaw_sameTasks_L1])
 rw [reredoslaw_sameTasks_L1] at h
 try simp only [*, go_sem]
 intro hl8
 refine oi h (fun hb9 h => ?_) (fun hb9 h => ?_)
 have := of_decide_eq_true hb9
 refine obg h (fun x10 _ hkx10 h => ?_)
 refine obg h (fun x11 _ _ h => ?_)
 refine oin h (fun hb12 hkhb12 h => ?_) (fun hb12 hkhb12 h => ?_)
 try simp only [*, go_sem]
 cases h.e
 simp only [*, go_sem, mA, mS]
 try simp only [*, go_sem]
 have := wrap_succ_max hkx10 hl1
 try simp only [*, go_sem]
 exact lc (a6_1 + 1) h.e []
 try simp only [*, go_sem]
 exact jc () h.e []
 cases h.e
 simp only [*, go_sem, mA, mS]
def reredoslaw_sameInts_L1 (p0 : List Int) (p1 : List Int) (k5 : Option (Bool)) : Nat → Nat → Option (Bool)
 | 0, _ => none
 | n7 + 1, a6_1 => (if (decide (a6_1 < p0.length)) = true then (Option.bind (p0[a6_1]?) fun x10 => (Option.bind (p1[a6_1]?) fun x11 => (if (x10 != x11) = true then (some false) else (reredoslaw_sameInts_L1 p0 p1 k5 n7 (a6_1 + 1))))) else k5)
def reredoslaw_sameInts (p0 : List Int) (p1 : List Int) : Option (Bool) := (if (((p0.length : Nat) : Int) != ((p1.length : Nat) : Int)) = true then (some false) else (withK (some true) fun k5 => (reredoslaw_sameInts_L1 p0 p1 k5 (p0.length + 1) 0)))
def F60 : VFn := ⟨26, (.seq (.reg [vo 4 (.mv (cb false))]) (.seq (.seq (.reg [vm 6 0, ln 7 6, vm 8 1, ln 9 8, bt 10 .neq 7 9]) (.cond (.t 10) (.seq (.reg [vo 4 (.mv (cb false))]) .ret) .skip)) (.seq (.seq (.reg [mi 5 0]) (.wk (.block 0 (.loop (.seq (.seq (.reg [vm 11 5, vm 12 0, ln 13 12, bt 14 .lss 11 13]) (.cond (.t 14) .skip (.exit 0))) (.seq (.block 1 (.seq (.draw [vd (vm 17 0) 0, vd (vm 18 5) 0, vd (xa 19 1 17 18) 3, vd (vs 20 19) 7, vd (vm 21 1) 0, vd (vm 22 5) 0, vd (xa 23 1 21 22) 48, vd (vs 24 23) 112, vd (bt 25 .neq 20 24) 255]) (.cond (.t 25) (.seq (.reg [vo 4 (.mv (cb false))]) .ret) .skip))) (.reg [vm 15 5, bk 16 .add 15 1, vm 5 16]))))))) (.seq (.reg [vo 4 (.mv (cb true))]) .ret)))), [.t 4]⟩
theorem low60 : lowF Tryd.prog 60 = some F60.strip := by kernel_rfl
theorem fok60 : fOk Tryd.prog 60 = true := by kernel_rfl
theorem reredoslaw_sameInts_ok (p0 : List Int) (p1 : List Int) (r : Bool) (h : reredoslaw_sameInts p0 p1 = some r) : FnRO Tryd.prog G 60 [.one (.d (.l 1 (p0.map encI))), .one (.d (.l 1 (p1.map encI)))] (fun rs => rs = [.one (.b r)]) := by
 refine FnRO.of' low60 fok60 (by simp [F60]) ?_
 rw [reredoslaw_sameInts] at h
 replace h := Hd.mk h
 simp only [F60, go_sem]
 try simp only [*, go_sem]
 intro hl1
 try simp only [*, go_sem]
 intro hl2
 refine oi h (fun hb3 h => ?_) (fun hb3 h => ?_)
 cases h.e
 simp only [*, go_sem, mA, mS]
 try simp only [*, go_sem]
 refine jn0 h ([]) ([]) (fun k5 h => ?_) (fun h => ?_)
 try simp only [*, go_sem]
 refine lp1 (reredoslaw_sameInts_L1 p0 p1 k5) (fun a6_1 => [zL 0 1 (p0.map encI), zL 1 1 (p1.map encI), zI 5 ((a6_1 : Nat) : Int)]) (fun a6_1 => []) h [] [] (fun n7 a6_1 h => ?_) (by intros; rw [reredoslaw_sameInts_L1])
 rw [reredoslaw_sameInts_L1] at h
 try simp only [*, go_sem]
 intro hl8
 refine oi h (fun hb9 h => ?_) (fun hb9 h => ?_)
 have := of_decide_eq_true hb9
 refine obg h (fun x10 _ hkx10 h => ?_)
 refine obg h (fun x11 _ _ h => ?_)
 refine oi h (fun hb12 h => ?_) (fun hb12 h => ?_)
 cases h.e
 simp only [*, go_sem, mA, mS]
 have := wrap_succ_max hkx10 hl1
 try simp only [*, go_sem]
 exact lc (a6_1 + 1) h.e []
 try simp only [*, go_sem]
 exact jc () h.e []
 cases h.e
 simp only [*, go_sem, mA, mS]
end Go.V.Dec
