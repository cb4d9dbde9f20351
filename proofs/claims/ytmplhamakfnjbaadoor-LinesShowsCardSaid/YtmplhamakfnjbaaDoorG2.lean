/- What Go's functions come to, as plain functions: part 2; no condition. -/
import Derived.Test.YtmplhamakfnjbaaDoorG1
set_option linter.unusedVariables false
set_option linter.unusedSimpArgs false
namespace Go.V.Dec
open Go Go.Proofs
set_option maxRecDepth 100000
set_option maxHeartbeats 4000000
variable (G : Nat → Option (List D))
def reredosref_actLine_L1 (p0 : Act) (k56 : (List Int) → Option (ByteArray)) : Nat → Int → (List Int) → Option (ByteArray)
 | 0, _, _ => none
 | n58 + 1, a57_1, a57_2 => (if (decide (a57_1 < ((p0.Line.size : Nat) : Int))) = true then (if 0 ≤ a57_1 ∧ a57_1 < ((p0.Line.size : Nat) : Int) then (Option.bind (reredosref_hexDigit (IntKind.i64.wrap ((IntKind.i64.wrap ((((p0.Line.data.toList.getD a57_1.toNat 0).toNat : Nat) : Int))).tdiv 16))) fun v61 => (if 0 ≤ a57_1 ∧ a57_1 < ((p0.Line.size : Nat) : Int) then (Option.bind (reredosref_hexDigit ((IntKind.i64.wrap ((((p0.Line.data.toList.getD a57_1.toNat 0).toNat : Nat) : Int))).tmod 16)) fun v63 => (if fits 1 (a57_2.length + 2) then (reredosref_actLine_L1 p0 k56 n58 (IntKind.i64.wrap (a57_1 + 1)) (a57_2 ++ [v61, v63])) else none)) else none)) else none) else (k56 a57_2))
def reredosref_actLine (p0 : Act) : Option (ByteArray) := (Option.bind (reredosref_actWords ) fun v1 => (if 0 ≤ p0.Kind then (Option.bind (v1[p0.Kind.toNat]?) fun x2 => (withK (fun (b4_1 : ByteArray) => (if b4_1.size + bs_68b329da.size ≤ maxLen then (some (b4_1 ++ bs_68b329da)) else none)) fun k5 => (if (p0.Kind == 1) = true then (Option.bind (reredosref_blanked [p0.Site, p0.Label]) fun v7 => (if x2.size + v7.size ≤ maxLen then (if x2.size + v7.size + bs_7215ee9c.size ≤ maxLen then (Option.bind (reredosref_callWords ) fun v10 => (if 0 ≤ p0.Call.Kind then (Option.bind (v10[p0.Call.Kind.toNat]?) fun x11 => (if x2.size + v7.size + bs_7215ee9c.size + x11.size ≤ maxLen then (withK (fun (b14_1 : ByteArray) => (k5 b14_1)) fun k15 => (if (p0.Call.Kind == 2) = true then (Option.bind (reredosref_blanked [p0.Call.N, p0.Call.Label, p0.Call.Key]) fun v17 => (if x2.size + v7.size + bs_7215ee9c.size + x11.size + v17.size ≤ maxLen then (k15 ((((x2 ++ v7) ++ bs_7215ee9c) ++ x11) ++ v17)) else none)) else (withK (fun (b19_1 : ByteArray) => (k15 b19_1)) fun k20 => (if (p0.Call.Kind == 3) = true then (Option.bind (reredosref_blanked [p0.Call.N, p0.Call.Key, p0.Call.Value]) fun v22 => (if x2.size + v7.size + bs_7215ee9c.size + x11.size + v22.size ≤ maxLen then (k20 ((((x2 ++ v7) ++ bs_7215ee9c) ++ x11) ++ v22)) else none)) else (withK (fun (b24_1 : ByteArray) => (k20 b24_1)) fun k25 => (if (p0.Call.Kind != 1) = true then (Option.bind (reredosref_blanked [p0.Call.N]) fun v27 => (if x2.size + v7.size + bs_7215ee9c.size + x11.size + v27.size ≤ maxLen then (k25 ((((x2 ++ v7) ++ bs_7215ee9c) ++ x11) ++ v27)) else none)) else (k25 (((x2 ++ v7) ++ bs_7215ee9c) ++ x11)))))))) else none)) else none)) else none) else none)) else (withK (fun (b29_1 : Bool) => (withK (fun (b35_1 : ByteArray) => (k5 b35_1)) fun k36 => (if b29_1 = true then (Option.bind (reredosref_blanked [p0.Site, p0.To, p0.Label, p0.Pick]) fun v38 => (if x2.size + v38.size ≤ maxLen then (k36 (x2 ++ v38)) else none)) else (withK (fun (b40_1 : ByteArray) => (k36 b40_1)) fun k41 => (if (p0.Kind == 6) = true then (Option.bind (reredosref_blanked [p0.Site]) fun v43 => (if x2.size + v43.size ≤ maxLen then (Option.bind (reredosref_blanked p0.Keep) fun v45 => (if x2.size + v43.size + v45.size ≤ maxLen then (k41 ((x2 ++ v43) ++ v45)) else none)) else none)) else (withK (fun (b47_1 : ByteArray) => (k41 b47_1)) fun k48 => (if (p0.Kind == 7) = true then (Option.bind (reredosref_blanked [p0.Site]) fun v50 => (if x2.size + v50.size ≤ maxLen then (k48 (x2 ++ v50)) else none)) else (withK (fun (b52_1 : ByteArray) => (k48 b52_1)) fun k53 => (if (p0.Kind == 8) = true then (withK (fun (b55_1 : List Int) => (Option.bind (reredosref_blanked [p0.Site, p0.Label]) fun v65 => (if x2.size + v65.size ≤ maxLen then (if x2.size + v65.size + bs_7215ee9c.size ≤ maxLen then (if x2.size + v65.size + bs_7215ee9c.size + (strOfNums b55_1).size ≤ maxLen then (k53 (((x2 ++ v65) ++ bs_7215ee9c) ++ (strOfNums b55_1))) else none) else none) else none))) fun k56 => (reredosref_actLine_L1 p0 k56 (p0.Line.size + 1) 0 [46])) else (k53 x2)))))))))) fun k30 => (if (p0.Kind == 2) = true then (k30 true) else (withK (fun (b32_1 : Bool) => (k30 b32_1)) fun k33 => (if (p0.Kind == 3) = true then (k33 true) else (k33 (p0.Kind == 4))))))))) else none))
def F39 : VFn := ⟨145, (.seq (.reg [vo 1 (.box 12 (.t 0)), vo 2 (.mv (.c (.one (.d (.s ⟨#[]⟩)))))]) (.seq (.draw [vd (vo 7 (.call 80 [])) 0, ⟨vf 8 0 1, 0, [0], none, []⟩, ⟨vs 9 8, 2, [0], none, []⟩, vd (xa 10 1 7 9) 7, vd (vs 11 10) 15, vd (vm 3 11) 31]) (.seq (.seq (.reg [vf 12 0 1, vs 13 12]) (.block 0 (.seq (.reg [bk 15 .eql 13 1, vm 14 15]) (.wk (.cond (.t 14) (.seq (.reg [vf 16 6 1, vl 17 5 16, vo 4 (.alloc [(zi 0), (zi 0), (zi 0), (zi 0), (zi 0)]), vu (.st 5 (.t 4) (.t 17))]) (.seq (.draw [vd (vm 18 3) 0, vd (vf 19 1 1) 0, vd (vs 20 19) 2, vd (vf 21 3 1) 0, vd (vs 22 21) 8, vd (vo 23 (.bsl 1 2 [(zi 0)] [(0, (.t 20)), (1, (.t 22))])) 30, vd (vo 24 (.call 81 [(.t 23)])) 62, vd (vo 25 (.bin .s .add (.t 18) (.t 24))) 127, vd (vo 26 (.bin .s .add (.t 25) (.c (.one (.d (.s bs_7215ee9c)))))) 255, vd (vo 27 (.call 82 [])) 126, ⟨vf 28 0 4, 0, [5, 6, 9], none, []⟩, ⟨vs 29 28, 1024, [5, 6, 9], none, []⟩, vd (xa 30 1 27 29) 3710, vd (vs 31 30) 7806, vd (vo 32 (.bin .s .add (.t 26) (.t 31))) 0x3fff, vd (vm 3 32) 0x7fff]) (.seq (.reg [vf 33 0 4, vs 34 33, bk 35 .eql 34 2]) (.wk (.cond (.t 35) (.reg [vm 36 3, vf 37 1 4, vs 38 37, vf 39 2 4, vs 40 39, vf 41 3 4, vs 42 41, vo 43 (.bsl 1 3 [(zi 0)] [(0, (.t 38)), (1, (.t 40)), (2, (.t 42))]), vo 44 (.call 81 [(.t 43)]), vo 45 (.bin .s .add (.t 36) (.t 44)), vm 3 45]) (.seq (.reg [vf 46 0 4, vs 47 46, bk 48 .eql 47 3]) (.wk (.cond (.t 48) (.reg [vm 49 3, vf 50 1 4, vs 51 50, vf 52 3 4, vs 53 52, vf 54 4 4, vs 55 54, vo 56 (.bsl 1 3 [(zi 0)] [(0, (.t 51)), (1, (.t 53)), (2, (.t 55))]), vo 57 (.call 81 [(.t 56)]), vo 58 (.bin .s .add (.t 49) (.t 57)), vm 3 58]) (.seq (.reg [vf 59 0 4, vs 60 59, bk 61 .neq 60 1]) (.wk (.cond (.t 61) (.reg [vm 62 3, vf 63 1 4, vs 64 63, vo 65 (.bsl 1 1 [(zi 0)] [(0, (.t 64))]), vo 66 (.call 81 [(.t 65)]), vo 67 (.bin .s .add (.t 62) (.t 66)), vm 3 67]) .skip))))))))))) (.seq (.seq (.reg [bk 69 .eql 13 2, vm 68 69]) (.wk (.cond (.t 68) .skip (.seq (.reg [bk 70 .eql 13 3, vm 68 70]) (.wk (.cond (.t 68) .skip (.reg [bk 71 .eql 13 4, vm 68 71]))))))) (.wk (.cond (.t 68) (.reg [vm 72 3, vf 73 1 1, vs 74 73, vf 75 2 1, vs 76 75, vf 77 3 1, vs 78 77, vf 79 4 1, vs 80 79, vo 81 (.bsl 1 4 [(zi 0)] [(0, (.t 74)), (1, (.t 76)), (2, (.t 78)), (3, (.t 80))]), vo 82 (.call 81 [(.t 81)]), vo 83 (.bin .s .add (.t 72) (.t 82)), vm 3 83]) (.seq (.reg [bk 85 .eql 13 6, vm 84 85]) (.wk (.cond (.t 84) (.draw [vd (vm 86 3) 0, vd (vf 87 1 1) 0, vd (vs 88 87) 2, vd (vo 89 (.bsl 1 1 [(zi 0)] [(0, (.t 88))])) 6, vd (vo 90 (.call 81 [(.t 89)])) 14, vd (vo 91 (.bin .s .add (.t 86) (.t 90))) 31, ⟨vf 92 5 1, 0, [3, 4], none, []⟩, ⟨vs 93 92, 64, [3, 4], none, []⟩, vd (vo 94 (.call 81 [(.t 93)])) 222, vd (vo 95 (.bin .s .add (.t 91) (.t 94))) 511, vd (vm 3 95) 1023]) (.seq (.reg [bk 97 .eql 13 7, vm 96 97]) (.wk (.cond (.t 96) (.reg [vm 98 3, vf 99 1 1, vs 100 99, vo 101 (.bsl 1 1 [(zi 0)] [(0, (.t 100))]), vo 102 (.call 81 [(.t 101)]), vo 103 (.bin .s .add (.t 98) (.t 102)), vm 3 103]) (.seq (.reg [bk 105 .eql 13 8, vm 104 105]) (.wk (.cond (.t 104) (.seq (.reg [vo 106 (.bsl 1 1 [(.d (.i .u8 0))] [(0, (.c (.one (.d (.i .u8 46)))))]), vm 5 106]) (.seq (.seq (.reg [mi 6 0]) (.wk (.block 1 (.loop (.seq (.seq (.reg [vm 107 6, vf 108 11 1, vs 109 108, vo 110 (.lens (.t 109)), bt 111 .lss 107 110]) (.cond (.t 111) .skip (.exit 1))) (.seq (.block 2 (.draw [vd (vm 114 5) 0, vd (vf 115 11 1) 0, vd (vs 116 115) 2, vd (vm 117 6) 0, vd (vo 118 (.ix (.t 116) (.t 117))) 14, vd (vo 119 (.cvi .i64 (.t 118))) 30, vd (bk 120 .quo 119 16) 62, vd (vo 121 (.call 83 [(.t 120)])) 126, ⟨vf 122 11 1, 0, [7], none, []⟩, ⟨vs 123 122, 256, [7], none, []⟩, ⟨vm 124 6, 0, [7], none, []⟩, ⟨vo 125 (.ix (.t 123) (.t 124)), 1792, [7], none, []⟩, ⟨vo 126 (.cvi .i64 (.t 125)), 3840, [7], none, []⟩, ⟨bk 127 .rem 126 16, 7936, [7], none, []⟩, vd (vo 128 (.call 83 [(.t 127)])) 0x3ffe, vd (vo 129 (.bsl 1 2 [(.d (.i .u8 0))] [(0, (.t 121)), (1, (.t 128))])) 0x7ffe, vd (vo 130 (.app 1 1 (.t 114) (.t 129))) 0xffff, vd (vm 5 130) 0x1ffff])) (.reg [vm 112 6, bk 113 .add 112 1, vm 6 113]))))))) (.draw [vd (vm 131 3) 0, vd (vf 132 1 1) 0, vd (vs 133 132) 2, vd (vf 134 3 1) 0, vd (vs 135 134) 8, vd (vo 136 (.bsl 1 2 [(zi 0)] [(0, (.t 133)), (1, (.t 135))])) 30, vd (vo 137 (.call 81 [(.t 136)])) 62, vd (vo 138 (.bin .s .add (.t 131) (.t 137))) 127, vd (vo 139 (.bin .s .add (.t 138) (.c (.one (.d (.s bs_7215ee9c)))))) 255, ⟨vm 140 5, 0, [5, 6], none, []⟩, ⟨vo 141 (.b2s (.t 140)), 512, [5, 6], none, []⟩, vd (vo 142 (.bin .s .add (.t 139) (.t 141))) 2047, vd (vm 3 142) 4095]))) .skip))))))))))))))))) (.seq (.reg [vm 143 3, vo 144 (.bin .s .add (.t 143) (.c (.one (.d (.s bs_68b329da))))), vm 2 144]) .ret)))), [.t 2]⟩
theorem low39 : lowF Tryd.prog 39 = some F39.strip := by kernel_rfl
theorem fok39 : fOk Tryd.prog 39 = true := by kernel_rfl
theorem reredosref_actLine_ok (p0 : Act) (r : ByteArray) (h : reredosref_actLine p0 = some r) : FnRO Tryd.prog G 39 [.agg p0.bx] (fun rs => rs = [.one (.s r)]) := by
 refine FnRO.of' low39 fok39 (by simp [F39]) ?_
 rw [reredosref_actLine] at h
 replace h := Hd.mk h
 simp only [F39, go_sem]
 refine obk h (fun v1 hv1 h => ?_)
 try simp only [*, go_sem]
 refine cd (reredosref_actWords_ok G v1 hv1) ?_
 refine obn h (fun x2 _ _ _ _ h => ?_)
 try simp only [*, go_sem]
 refine jn1 h (fun b4_1 => [(3, .one (.d (.s b4_1)))]) (fun b4_1 => []) (fun k5 h => ?_) (fun b4_1 h => ?_)
 refine oi h (fun hb6 h => ?_) (fun hb6 h => ?_)
 refine obk h (fun v7 hv7 h => ?_)
 try simp only [*, go_sem]
 refine cdl (reredosref_blanked_ok G [p0.Site, p0.Label] v7 hv7) ?_
 refine ck h (fun _ h => ?_)
 refine ck h (fun _ h => ?_)
 refine obk h (fun v10 hv10 h => ?_)
 try simp only [*, go_sem]
 refine cd (reredosref_callWords_ok G v10 hv10) ?_
 refine obn h (fun x11 _ _ _ _ h => ?_)
 refine ck h (fun _ h => ?_)
 try simp only [*, go_sem]
 refine jn1 h (fun b14_1 => [(3, .one (.d (.s b14_1)))]) (fun b14_1 => []) (fun k15 h => ?_) (fun b14_1 h => ?_)
 refine oi h (fun hb16 h => ?_) (fun hb16 h => ?_)
 try simp only [*, go_sem]
 refine cl h (reredosref_blanked_ok G [p0.Call.N, p0.Call.Label, p0.Call.Key]) (fun v17 h => ?_)
 refine ck h (fun _ h => ?_)
 try simp only [*, go_sem]
 exact jc (((((x2 ++ v7) ++ bs_7215ee9c) ++ x11) ++ v17)) h.e []
 try simp only [*, go_sem]
 refine jn1 h (fun b19_1 => [(3, .one (.d (.s b19_1)))]) (fun b19_1 => []) (fun k20 h => ?_) (fun b19_1 h => ?_)
 refine oi h (fun hb21 h => ?_) (fun hb21 h => ?_)
 try simp only [*, go_sem]
 refine cl h (reredosref_blanked_ok G [p0.Call.N, p0.Call.Key, p0.Call.Value]) (fun v22 h => ?_)
 refine ck h (fun _ h => ?_)
 try simp only [*, go_sem]
 exact jc (((((x2 ++ v7) ++ bs_7215ee9c) ++ x11) ++ v22)) h.e []
 try simp only [*, go_sem]
 refine jn1 h (fun b24_1 => [(3, .one (.d (.s b24_1)))]) (fun b24_1 => []) (fun k25 h => ?_) (fun b24_1 h => ?_)
 refine oi h (fun hb26 h => ?_) (fun hb26 h => ?_)
 try simp only [*, go_sem]
 refine cl h (reredosref_blanked_ok G [p0.Call.N]) (fun v27 h => ?_)
 refine ck h (fun _ h => ?_)
 try simp only [*, go_sem]
 exact jc (((((x2 ++ v7) ++ bs_7215ee9c) ++ x11) ++ v27)) h.e []
 try simp only [*, go_sem]
 exact jc ((((x2 ++ v7) ++ bs_7215ee9c) ++ x11)) h.e []
 try simp only [*, go_sem]
 exact jc (b24_1) h.e []
 try simp only [*, go_sem]
 exact jc (b19_1) h.e []
 try simp only [*, go_sem]
 exact jc (b14_1) h.e []
 try simp only [*, go_sem]
 refine jn1 h (fun b29_1 => [zP 1 0, (3, .one (.d (.s x2))), zI 13 p0.Kind, zB 68 b29_1]) (fun b29_1 => [ox p0.bx]) (fun k30 h => ?_) (fun b29_1 h => ?_)
 refine oi h (fun hb31 h => ?_) (fun hb31 h => ?_)
 try simp only [*, go_sem]
 exact jc (true) h.e [some 0]
 try simp only [*, go_sem]
 refine jn1 h (fun b32_1 => [zP 1 0, (3, .one (.d (.s x2))), zI 13 p0.Kind, zB 68 b32_1]) (fun b32_1 => [ox p0.bx]) (fun k33 h => ?_) (fun b32_1 h => ?_)
 refine oi h (fun hb34 h => ?_) (fun hb34 h => ?_)
 try simp only [*, go_sem]
 exact jc (true) h.e [some 0]
 try simp only [*, go_sem]
 exact jc (p0.Kind == 4) h.e [some 0]
 try simp only [*, go_sem]
 exact jc (b32_1) h.e [some 0]
 try simp only [*, go_sem]
 refine jn1 h (fun b35_1 => [(3, .one (.d (.s b35_1)))]) (fun b35_1 => []) (fun k36 h => ?_) (fun b35_1 h => ?_)
 refine oi h (fun hb37 h => ?_) (fun hb37 h => ?_)
 try simp only [*, go_sem]
 refine cl h (reredosref_blanked_ok G [p0.Site, p0.To, p0.Label, p0.Pick]) (fun v38 h => ?_)
 refine ck h (fun _ h => ?_)
 try simp only [*, go_sem]
 exact jc ((x2 ++ v38)) h.e []
 try simp only [*, go_sem]
 refine jn1 h (fun b40_1 => [(3, .one (.d (.s b40_1)))]) (fun b40_1 => []) (fun k41 h => ?_) (fun b40_1 h => ?_)
 refine oi h (fun hb42 h => ?_) (fun hb42 h => ?_)
 refine obk h (fun v43 hv43 h => ?_)
 try simp only [*, go_sem]
 refine cdl (reredosref_blanked_ok G [p0.Site] v43 hv43) ?_
 refine ck h (fun _ h => ?_)
 refine obk h (fun v45 hv45 h => ?_)
 try simp only [*, go_sem]
 refine cd (reredosref_blanked_ok G p0.Keep v45 hv45) ?_
 refine ck h (fun _ h => ?_)
 try simp only [*, go_sem]
 exact jc (((x2 ++ v43) ++ v45)) h.e []
 try simp only [*, go_sem]
 refine jn1 h (fun b47_1 => [(3, .one (.d (.s b47_1)))]) (fun b47_1 => []) (fun k48 h => ?_) (fun b47_1 h => ?_)
 refine oi h (fun hb49 h => ?_) (fun hb49 h => ?_)
 try simp only [*, go_sem]
 refine cl h (reredosref_blanked_ok G [p0.Site]) (fun v50 h => ?_)
 refine ck h (fun _ h => ?_)
 try simp only [*, go_sem]
 exact jc ((x2 ++ v50)) h.e []
 try simp only [*, go_sem]
 refine jn1 h (fun b52_1 => [(3, .one (.d (.s b52_1)))]) (fun b52_1 => []) (fun k53 h => ?_) (fun b52_1 h => ?_)
 refine oi h (fun hb54 h => ?_) (fun hb54 h => ?_)
 try simp only [*, go_sem]
 refine jn1 h (fun b55_1 => [zP 1 0, (3, .one (.d (.s x2))), zR 5 1 0 b55_1.length]) (fun b55_1 => [ox p0.bx, oa 1 (b55_1.map encU8)]) (fun k56 h => ?_) (fun b55_1 h => ?_)
 try simp only [*, go_sem]
 refine lp2 (reredosref_actLine_L1 p0 k56) (fun a57_1 a57_2 => [zP 1 0, (3, .one (.d (.s x2))), zR 5 1 0 a57_2.length, zI 6 a57_1]) (fun a57_1 a57_2 => [ox p0.bx, oa 1 (a57_2.map encU8)]) h [] [some 0, some 1] (fun n58 a57_1 a57_2 h => ?_) (by intros; rw [reredosref_actLine_L1])
 rw [reredosref_actLine_L1] at h
 refine oi h (fun hb59 h => ?_) (fun hb59 h => ?_)
 refine ck h (fun _ h => ?_)
 refine obk h (fun v61 hv61 h => ?_)
 try simp only [*, go_sem]
 refine cd (reredosref_hexDigit_ok G (IntKind.i64.wrap ((IntKind.i64.wrap ((((p0.Line.data.toList.getD a57_1.toNat 0).toNat : Nat) : Int))).tdiv 16)) v61 hv61) ?_
 refine ck h (fun _ h => ?_)
 refine obk h (fun v63 hv63 h => ?_)
 try simp only [*, go_sem]
 refine cd (reredosref_hexDigit_ok G ((IntKind.i64.wrap ((((p0.Line.data.toList.getD a57_1.toNat 0).toNat : Nat) : Int))).tmod 16) v63 hv63) ?_
 refine ck h (fun _ h => ?_)
 try simp only [*, go_sem]
 exact lc (IntKind.i64.wrap (a57_1 + 1), (a57_2 ++ [v61, v63])) h.e [some 0, some 18]
 try simp only [*, go_sem]
 exact jc (a57_2) h.e [some 0, some 1]
 refine obk h (fun v65 hv65 h => ?_)
 try simp only [*, go_sem]
 refine cdl (reredosref_blanked_ok G [p0.Site, p0.Label] v65 hv65) ?_
 refine ck h (fun _ h => ?_)
 refine ck h (fun _ h => ?_)
 refine ck h (fun _ h => ?_)
 try simp only [*, go_sem]
 exact jc ((((x2 ++ v65) ++ bs_7215ee9c) ++ (strOfNums b55_1))) h.e []
 try simp only [*, go_sem]
 exact jc (x2) h.e []
 try simp only [*, go_sem]
 exact jc (b52_1) h.e []
 try simp only [*, go_sem]
 exact jc (b47_1) h.e []
 try simp only [*, go_sem]
 exact jc (b40_1) h.e []
 try simp only [*, go_sem]
 exact jc (b35_1) h.e []
 refine ck h (fun _ h => ?_)
 cases h.e
 simp only [*, go_sem, mA, mS]
def reredosref_ActsShown_L1 (p0 : Config) (p1 : List Act) (k9 : ByteArray → Option (ByteArray × Int × Int)) : Nat → ByteArray → Nat → Option (ByteArray × Int × Int)
 | 0, _, _ => none
 | n11 + 1, a10_1, a10_2 => (if (decide (a10_2 < p1.length)) = true then (Option.bind (p1[a10_2]?) fun x14 => (Option.bind (reredosref_ActFault p0 x14) fun v15 => (if (v15 != 0) = true then (some ((⟨#[]⟩ : ByteArray), ((a10_2 : Nat) : Int), v15)) else (Option.bind (reredosref_actLine x14) fun v17 => (if a10_1.size + v17.size ≤ maxLen then (reredosref_ActsShown_L1 p0 p1 k9 n11 (a10_1 ++ v17) (a10_2 + 1)) else none))))) else (k9 a10_1))
def reredosref_ActsShown_L2 (p0 : Config) (p1 : List Act) (k24 : ByteArray → Option (ByteArray × Int × Int)) : Nat → ByteArray → Nat → Option (ByteArray × Int × Int)
 | 0, _, _ => none
 | n26 + 1, a25_1, a25_2 => (if (decide (a25_2 < p1.length)) = true then (Option.bind (p1[a25_2]?) fun x29 => (Option.bind (reredosref_ActFault p0 x29) fun v30 => (if (v30 != 0) = true then (some ((⟨#[]⟩ : ByteArray), ((a25_2 : Nat) : Int), v30)) else (Option.bind (reredosref_actLine x29) fun v32 => (if a25_1.size + v32.size ≤ maxLen then (reredosref_ActsShown_L2 p0 p1 k24 n26 (a25_1 ++ v32) (a25_2 + 1)) else none))))) else (k24 a25_1))
def reredosref_ActsShown (p0 : Config) (p1 : List Act) : Option (ByteArray × Int × Int) := (Option.bind (reredosref_ConfigFault p0) fun v1 => (if (v1 == 0) = true then (withK (fun (b4_1 : Int) => (if (b4_1 != 0) = true then (some ((⟨#[]⟩ : ByteArray), 0, b4_1)) else (withK (fun (b8_1 : ByteArray) => (some (b8_1, 0, 0))) fun k9 => (reredosref_ActsShown_L1 p0 p1 k9 (p1.length + 1) (⟨#[]⟩ : ByteArray) 0)))) fun k5 => (if (decide (((p1.length : Nat) : Int) > 3000)) = true then (k5 1) else (k5 v1))) else (withK (if (v1 != 0) = true then (some ((⟨#[]⟩ : ByteArray), 0, v1)) else (withK (fun (b23_1 : ByteArray) => (some (b23_1, 0, 0))) fun k24 => (reredosref_ActsShown_L2 p0 p1 k24 (p1.length + 1) (⟨#[]⟩ : ByteArray) 0))) fun k21 => k21)))
def F15 : VFn := ⟨47, (.seq (.reg [vo 2 (.box 3 (.t 0)), vo 4 (.mv (.c (.one (.d (.s ⟨#[]⟩))))), mi 5 0, mi 6 0]) (.seq (.reg [vl 11 3 2, vo 12 (.call 26 [(.t 11)]), vm 7 12]) (.seq (.seq (.reg [vm 13 7, bk 14 .eql 13 0, vm 15 14, gt 16 15 (.mv (.t 1)), gt 17 15 (.len (.t 16)), gt 18 15 (.bin .i .gtr (.t 17) (ci 3000)), vo 19 (.pick (.t 15) (.t 18) (cb false))]) (.wk (.cond (.t 19) (.reg [mi 7 1]) .skip))) (.seq (.seq (.reg [vm 20 7, bk 21 .neq 20 0]) (.cond (.t 21) (.seq (.reg [vm 22 7, vo 4 (.mv (.c (.one (.d (.s ⟨#[]⟩))))), mi 5 0, vm 6 22]) .ret) .skip)) (.seq (.reg [vo 8 (.mv (.c (.one (.d (.s ⟨#[]⟩)))))]) (.seq (.seq (.reg [mi 9 0]) (.wk (.block 0 (.loop (.seq (.seq (.reg [vm 23 9, vm 24 1, ln 25 24, bt 26 .lss 23 25]) (.cond (.t 26) .skip (.exit 0))) (.seq (.block 1 (.seq (.draw [vd (vl 29 3 2) 0, vd (vm 30 1) 0, vd (vm 31 9) 0, vd (xa 32 12 30 31) 6, vd (vl 33 12 32) 14, vd (vo 34 (.call 38 [(.t 29), (.t 33)])) 31, vd (vm 10 34) 63]) (.seq (.seq (.reg [vm 35 10, bk 36 .neq 35 0]) (.cond (.t 36) (.seq (.reg [vm 37 9, vm 38 10, vo 4 (.mv (.c (.one (.d (.s ⟨#[]⟩))))), vm 5 37, vm 6 38]) .ret) .skip)) (.reg [vm 39 8, vm 40 1, vm 41 9, xa 42 12 40 41, vl 43 12 42, vo 44 (.call 39 [(.t 43)]), vo 45 (.bin .s .add (.t 39) (.t 44)), vm 8 45])))) (.reg [vm 27 9, bk 28 .add 27 1, vm 9 28]))))))) (.seq (.reg [vm 46 8, vm 4 46, mi 5 0, mi 6 0]) .ret))))))), [.t 4, .t 5, .t 6]⟩
theorem low15 : lowF Tryd.prog 15 = some F15.strip := by kernel_rfl
theorem fok15 : fOk Tryd.prog 15 = true := by kernel_rfl
theorem reredosref_ActsShown_ok (p0 : Config) (p1 : List Act) (r : ByteArray × Int × Int) (h : reredosref_ActsShown p0 p1 = some r) : FnRO Tryd.prog G 15 [.agg p0.bx, .one (.d (.l 12 (p1.map Act.enc)))] (fun rs => rs = [.one (.s r.1), .one (.i .i64 r.2.1), .one (.i .i64 r.2.2)]) := by
 refine FnRO.of' low15 fok15 (by simp [F15]) ?_
 rw [reredosref_ActsShown] at h
 replace h := Hd.mk h
 simp only [F15, go_sem]
 try simp only [*, go_sem]
 refine cr h (reredosref_ConfigFault_ok G p0) (fun v1 h => ?_)
 refine oi h (fun hb2 h => ?_) (fun hb2 h => ?_)
 try simp only [*, go_sem]
 intro hl3
 try simp only [*, go_sem]
 refine jn1 h (fun b4_1 => [zL 1 12 (p1.map Act.enc), zP 2 0, zI 7 b4_1]) (fun b4_1 => [ox p0.bx]) (fun k5 h => ?_) (fun b4_1 h => ?_)
 refine oi h (fun hb6 h => ?_) (fun hb6 h => ?_)
 try simp only [*, go_sem]
 exact jc (1) h.e [some 0]
 try simp only [*, go_sem]
 exact jc (v1) h.e [some 0]
 refine oi h (fun hb7 h => ?_) (fun hb7 h => ?_)
 cases h.e
 simp only [*, go_sem, mA, mS]
 try simp only [*, go_sem]
 refine jn1 h (fun b8_1 => [(8, .one (.d (.s b8_1)))]) (fun b8_1 => []) (fun k9 h => ?_) (fun b8_1 h => ?_)
 try simp only [*, go_sem]
 refine lp2 (reredosref_ActsShown_L1 p0 p1 k9) (fun a10_1 a10_2 => [zL 1 12 (p1.map Act.enc), zP 2 0, (8, .one (.d (.s a10_1))), zI 9 ((a10_2 : Nat) : Int)]) (fun a10_1 a10_2 => [ox p0.bx]) h [] [some 0] (fun n11 a10_1 a10_2 h => ?_) (by intros; rw [reredosref_ActsShown_L1])
 rw [reredosref_ActsShown_L1] at h
 try simp only [*, go_sem]
 intro hl12
 refine oi h (fun hb13 h => ?_) (fun hb13 h => ?_)
 have := of_decide_eq_true hb13
 refine obg h (fun x14 _ hkx14 h => ?_)
 refine obk h (fun v15 hv15 h => ?_)
 try simp only [*, go_sem]
 refine cd (reredosref_ActFault_ok G p0 x14 v15 hv15) ?_
 refine oi h (fun hb16 h => ?_) (fun hb16 h => ?_)
 cases h.e
 simp only [*, go_sem, mA, mS]
 try simp only [*, go_sem]
 refine cr h (reredosref_actLine_ok G x14) (fun v17 h => ?_)
 refine ck h (fun _ h => ?_)
 have := wrap_succ_max hkx14 hl3
 try simp only [*, go_sem]
 exact lc ((a10_1 ++ v17), a10_2 + 1) h.e [some 0]
 try simp only [*, go_sem]
 exact jc (a10_1) h.e []
 cases h.e
 simp only [*, go_sem, mA, mS]
 try simp only [*, go_sem]
 refine jn0 h ([zL 1 12 (p1.map Act.enc), zP 2 0, zI 7 v1]) ([ox p0.bx]) (fun k21 h => ?_) (fun h => ?_)
 try simp only [*, go_sem]
 exact jc () h.e [some 0]
 refine oi h (fun hb22 h => ?_) (fun hb22 h => ?_)
 cases h.e
 simp only [*, go_sem, mA, mS]
 try simp only [*, go_sem]
 refine jn1 h (fun b23_1 => [(8, .one (.d (.s b23_1)))]) (fun b23_1 => []) (fun k24 h => ?_) (fun b23_1 h => ?_)
 try simp only [*, go_sem]
 refine lp2 (reredosref_ActsShown_L2 p0 p1 k24) (fun a25_1 a25_2 => [zL 1 12 (p1.map Act.enc), zP 2 0, (8, .one (.d (.s a25_1))), zI 9 ((a25_2 : Nat) : Int)]) (fun a25_1 a25_2 => [ox p0.bx]) h [] [some 0] (fun n26 a25_1 a25_2 h => ?_) (by intros; rw [reredosref_ActsShown_L2])
 rw [reredosref_ActsShown_L2] at h
 try simp only [*, go_sem]
 intro hl27
 refine oi h (fun hb28 h => ?_) (fun hb28 h => ?_)
 have := of_decide_eq_true hb28
 refine obg h (fun x29 _ hkx29 h => ?_)
 refine obk h (fun v30 hv30 h => ?_)
 try simp only [*, go_sem]
 refine cd (reredosref_ActFault_ok G p0 x29 v30 hv30) ?_
 refine oi h (fun hb31 h => ?_) (fun hb31 h => ?_)
 cases h.e
 simp only [*, go_sem, mA, mS]
 try simp only [*, go_sem]
 refine cr h (reredosref_actLine_ok G x29) (fun v32 h => ?_)
 refine ck h (fun _ h => ?_)
 have := wrap_succ_max hkx29 hl27
 try simp only [*, go_sem]
 exact lc ((a25_1 ++ v32), a25_2 + 1) h.e [some 0]
 try simp only [*, go_sem]
 exact jc (a25_1) h.e []
 cases h.e
 simp only [*, go_sem, mA, mS]
def reredoslaw_LinesShows (p0 : Config) (p1 : List Act) : Option (Bool) := (if fits 120 p1.length then (Option.bind (lines_Show p0 p1) fun v2 => (Option.bind (reredosref_ActsShown p0 p1) fun v3 => (withK (fun (b4_1 : Bool) => (some b4_1)) fun k5 => (if (v2.1.toList == v3.1.toList) = true then (if (v2.2.1 == v3.2.1) = true then (k5 (v2.2.2 == v3.2.2)) else (k5 false)) else (k5 false))))) else none)
def F5 : VFn := ⟨39, (.seq (.reg [vo 2 (.box 3 (.t 0)), vo 4 (.mv (cb false))]) (.seq (.draw [vd (vl 12 3 2) 0, vd (vm 13 1) 0, vd (vo 14 (.appf 12 120 12 (.t 13))) 2, vd (vo 15 (.call 14 [(.t 12), (.t 14)])) 7, vd (vm 11 15) 15, vd (et 16 11 0) 31, vd (et 17 11 1) 31, vd (et 18 11 2) 31, vd (vm 5 16) 63, vd (vm 6 17) 383, vd (vm 7 18) 1023]) (.seq (.reg [vl 20 3 2, vm 21 1, vo 22 (.call 15 [(.t 20), (.t 21)]), vm 19 22, et 23 19 0, et 24 19 1, et 25 19 2, vm 8 23, vm 9 24, vm 10 25]) (.seq (.wk (.reg [vm 26 5, vm 27 8, vo 28 (.bin .s .eql (.t 26) (.t 27)), vm 29 28, gt 30 29 (.mv (.t 6)), gt 31 29 (.mv (.t 9)), gt 32 29 (.bin .i .eql (.t 30) (.t 31)), vo 33 (.pick (.t 29) (.t 32) (cb false)), vm 34 33, gt 35 34 (.mv (.t 7)), gt 36 34 (.mv (.t 10)), gt 37 34 (.bin .i .eql (.t 35) (.t 36)), vo 38 (.pick (.t 34) (.t 37) (cb false)), vm 4 38])) .ret)))), [.t 4]⟩
theorem low5 : lowF Tryd.prog 5 = some F5.strip := by kernel_rfl
theorem fok5 : fOk Tryd.prog 5 = true := by kernel_rfl
theorem reredoslaw_LinesShows_ok (htab_lines_words : constG G 0 = .one (.d (.k tab_lines_wordsD))) (htab_lines_calls : constG G 2 = .one (.d (.k tab_lines_callsD))) (htab_strconv_uint64pow10 : constG G 3 = .one (.d (.k tab_strconv_uint64pow10D))) (p0 : Config) (p1 : List Act) (r : Bool) (h : reredoslaw_LinesShows p0 p1 = some r) : FnRO Tryd.prog G 5 [.agg p0.bx, .one (.d (.l 12 (p1.map Act.enc)))] (fun rs => rs = [.one (.b r)]) := by
 refine FnRO.of' low5 fok5 (by simp [F5]) ?_
 rw [reredoslaw_LinesShows] at h
 replace h := Hd.mk h
 simp only [F5, go_sem]
 refine ck h (fun _ h => ?_)
 refine obk h (fun v2 hv2 h => ?_)
 try simp only [*, go_sem]
 refine cd (lines_Show_ok G htab_lines_words htab_lines_calls htab_strconv_uint64pow10 p0 p1 v2 hv2) ?_
 try simp only [*, go_sem]
 refine cr h (reredosref_ActsShown_ok G p0 p1) (fun v3 h => ?_)
 try simp only [*, go_sem]
 refine jn1 h (fun b4_1 => [zB 4 b4_1]) (fun b4_1 => []) (fun k5 h => ?_) (fun b4_1 h => ?_)
 refine oi h (fun hb6 h => ?_) (fun hb6 h => ?_)
 refine oi h (fun hb7 h => ?_) (fun hb7 h => ?_)
 try simp only [*, go_sem]
 exact jc (v2.2.2 == v3.2.2) h.e []
 try simp only [*, go_sem]
 exact jc (false) h.e []
 try simp only [*, go_sem]
 exact jc (false) h.e []
 cases h.e
 simp only [*, go_sem, mA, mS]
end Go.V.Dec
