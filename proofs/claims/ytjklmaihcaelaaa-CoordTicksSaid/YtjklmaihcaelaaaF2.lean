/- What Go's functions come to, as plain functions: part 2; no condition. -/
import Derived.Test.YtjklmaihcaelaaaF1
set_option linter.unusedVariables false
set_option linter.unusedSimpArgs false
namespace Go.V.Dec
open Go Go.Proofs
set_option maxRecDepth 100000
set_option maxHeartbeats 4000000
variable (G : Nat → Option (List D))
def reredosref_jobMay_L1 (p0 : Config) (p2 : Job) (k12 : Option (Bool)) : Nat → Nat → Option (Bool)
 | 0, _ => none
 | n14 + 1, a13_1 => (if (decide (a13_1 < p2.Tasks.length)) = true then (Option.bind (p2.Tasks[a13_1]?) fun x17 => (Option.bind (reredosref_taskMay p0 x17) fun v18 => (if (!v18) = true then (some false) else (if (decide (x17.Ask > p2.Asks)) = true then (some false) else (if (decide (((a13_1 : Nat) : Int) > 0)) = true then (if 0 ≤ IntKind.i64.wrap (((a13_1 : Nat) : Int) - 1) then (Option.bind (p2.Tasks[(IntKind.i64.wrap (((a13_1 : Nat) : Int) - 1)).toNat]?) fun x22 => (if (decide (x17.Ask ≤ x22.Ask)) = true then (some false) else (if (!x17.Done) = true then (if (decide (((a13_1 : Nat) : Int) < IntKind.i64.wrap (((p2.Tasks.length : Nat) : Int) - 1))) = true then (some false) else (if (p2.State != 1) = true then (some false) else (reredosref_jobMay_L1 p0 p2 k12 n14 (a13_1 + 1)))) else (reredosref_jobMay_L1 p0 p2 k12 n14 (a13_1 + 1))))) else none) else (if (!x17.Done) = true then (if (decide (((a13_1 : Nat) : Int) < IntKind.i64.wrap (((p2.Tasks.length : Nat) : Int) - 1))) = true then (some false) else (if (p2.State != 1) = true then (some false) else (reredosref_jobMay_L1 p0 p2 k12 n14 (a13_1 + 1)))) else (reredosref_jobMay_L1 p0 p2 k12 n14 (a13_1 + 1)))))))) else k12)
def reredosref_jobMay_L2 (p0 : Config) (p2 : Job) (k38 : Option (Bool)) : Nat → Nat → Option (Bool)
 | 0, _ => none
 | n40 + 1, a39_1 => (if (decide (a39_1 < p2.Asked.length)) = true then (Option.bind (p2.Asked[a39_1]?) fun x43 => (Option.bind (reredosref_In x43 0 (IntKind.i64.wrap (p0.Sites - 1))) fun v44 => (if (!v44) = true then (some false) else (if (decide (((a39_1 : Nat) : Int) > 0)) = true then (if 0 ≤ IntKind.i64.wrap (((a39_1 : Nat) : Int) - 1) then (Option.bind (p2.Asked[(IntKind.i64.wrap (((a39_1 : Nat) : Int) - 1)).toNat]?) fun x47 => (if (decide (x43 ≤ x47)) = true then (some false) else (reredosref_jobMay_L2 p0 p2 k38 n40 (a39_1 + 1)))) else none) else (reredosref_jobMay_L2 p0 p2 k38 n40 (a39_1 + 1)))))) else k38)
def reredosref_jobMay (p0 : Config) (p1 : Int) (p2 : Job) : Option (Bool) := (Option.bind (reredosref_In p2.N 1 (IntKind.i64.wrap (p1 - 1))) fun v1 => (if (!v1) = true then (some false) else (Option.bind (reredosref_In p2.Age 0 1048576) fun v3 => (if (!v3) = true then (some false) else (Option.bind (reredosref_In p2.State 1 3) fun v5 => (if (!v5) = true then (some false) else (if (decide (((p2.Tasks.length : Nat) : Int) > 10)) = true then (some false) else (Option.bind (reredosref_In p2.Asks 0 1048576) fun v9 => (if (!v9) = true then (some false) else (withK (withK (some ((p2.State == 3) == (decide (((p2.Asked.length : Nat) : Int) > 0)))) fun k38 => (reredosref_jobMay_L2 p0 p2 k38 (p2.Asked.length + 1) 0)) fun k12 => (reredosref_jobMay_L1 p0 p2 k12 (p2.Tasks.length + 1) 0)))))))))))
def F59 : VFn := ⟨148, (.seq (.reg [vo 3 (.box 3 (.t 0)), vo 5 (.box 6 (.t 2)), vo 6 (.mv (cb false))]) (.seq (.seq (.reg [vf 9 0 5, vs 10 9, vm 11 1, bk 12 .sub 11 1, vo 13 (.call 32 [(.t 10), (ci 1), (.t 12)]), nt 14 13, vm 15 14, gf 16 15 (.fa 5 (.t 5)), gf 17 15 (.ld false 1 (.t 16)), gf 18 15 (.call 32 [(.t 17), (ci 0), (ci 1048576)]), gf 19 15 (.un .not (.t 18)), vo 20 (.pick (.t 15) (cb true) (.t 19)), vm 21 20, gf 22 21 (.fa 1 (.t 5)), gf 23 21 (.ld false 1 (.t 22)), gf 24 21 (.call 32 [(.t 23), (ci 1), (ci 3)]), gf 25 21 (.un .not (.t 24)), vo 26 (.pick (.t 21) (cb true) (.t 25)), vm 27 26, gf 28 27 (.fa 2 (.t 5)), gf 29 27 (.ld false 1 (.t 28)), gf 30 27 (.len (.t 29)), gf 31 27 (.bin .i .gtr (.t 30) (ci 10)), vo 32 (.pick (.t 27) (cb true) (.t 31)), vm 33 32, gf 34 33 (.fa 4 (.t 5)), gf 35 33 (.ld false 1 (.t 34)), gf 36 33 (.call 32 [(.t 35), (ci 0), (ci 1048576)]), gf 37 33 (.un .not (.t 36)), vo 38 (.pick (.t 33) (cb true) (.t 37))]) (.cond (.t 38) (.seq (.reg [vo 6 (.mv (cb false))]) .ret) .skip)) (.seq (.seq (.reg [mi 7 0]) (.wk (.block 0 (.loop (.seq (.seq (.reg [vm 39 7, vf 40 2 5, vs 41 40, ln 42 41, bt 43 .lss 39 42]) (.cond (.t 43) .skip (.exit 0))) (.seq (.block 1 (.seq (.seq (.draw [vd (vl 46 3 3) 0, vd (vf 47 2 5) 0, vd (vs 48 47) 2, vd (vm 49 7) 0, vd (xa 50 8 48 49) 14, vd (vl 51 8 50) 30, vd (vo 52 (.call 67 [(.t 46), (.t 51)])) 63, vd (nt 53 52) 127, vd (vm 54 53) 255, vd (gf 55 54 (.fa 2 (.t 5))) 511, vd (gf 56 54 (.ld false 1 (.t 55))) 1023, vd (gf 57 54 (.mv (.t 7))) 511, vd (gf 58 54 (.ia 8 (.t 56) (.t 57))) 4095, vd (gf 59 54 (.fa 5 (.t 58))) 8191, vd (gf 60 54 (.ld false 1 (.t 59))) 0x3fff, vd (gf 61 54 (.fa 4 (.t 5))) 511, vd (gf 62 54 (.ld false 1 (.t 61))) 0x81ff, vd (gf 63 54 (.bin .i .gtr (.t 60) (.t 62))) 0x1ffff, vd (vo 64 (.pick (.t 54) (cb true) (.t 63))) 0x3ffff, vd (vm 65 64) 0x7ffff, vd (gf 66 65 (.mv (.t 7))) 0xfffff, vd (gf 67 65 (.bin .i .gtr (.t 66) (ci 0))) 0x1fffff, vd (gf 68 65 (.mv (.t 67))) 0x3fffff, vd (gt 69 68 (.fa 2 (.t 5))) 0x7fffff, vd (gt 70 68 (.ld false 1 (.t 69))) 0xffffff, vd (gt 71 68 (.mv (.t 7))) 0x7fffff, vd (gt 72 68 (.ia 8 (.t 70) (.t 71))) 0x3ffffff, vd (gt 73 68 (.fa 5 (.t 72))) 0x7ffffff, vd (gt 74 68 (.ld false 1 (.t 73))) 0xfffffff, vd (gt 75 68 (.fa 2 (.t 5))) 0x7fffff, vd (gt 76 68 (.ld false 1 (.t 75))) 0x207fffff, vd (gt 77 68 (.mv (.t 7))) 0x7fffff, vd (gt 78 68 (.bin .i .sub (.t 77) (ci 1))) 0x807fffff, vd (gt 79 68 (.ia 8 (.t 76) (.t 78))) 0x1e07fffff, vd (gt 80 68 (.fa 5 (.t 79))) 0x3e07fffff, vd (gt 81 68 (.ld false 1 (.t 80))) 0x7e07fffff, vd (gt 82 68 (.bin .i .leq (.t 74) (.t 81))) 0xfffffffff, vd (gf 83 65 (.pick (.t 68) (.t 82) (cb false))) 0x1fffffffff, vd (vo 84 (.pick (.t 65) (cb true) (.t 83))) 0x3fffffffff]) (.cond (.t 84) (.seq (.reg [vo 6 (.mv (cb false))]) .ret) .skip)) (.seq (.reg [vf 85 2 5, vs 86 85, vm 87 7, xa 88 8 86 87, vf 89 6 88, vs 90 89, nt 91 90, vm 92 91, gt 93 92 (.mv (.t 7)), gt 94 92 (.fa 2 (.t 5)), gt 95 92 (.ld false 1 (.t 94)), gt 96 92 (.len (.t 95)), gt 97 92 (.bin .i .sub (.t 96) (ci 1)), gt 98 92 (.bin .i .lss (.t 93) (.t 97)), gt 99 92 (.mv (.t 98)), gf 100 99 (.fa 1 (.t 5)), gf 101 99 (.ld false 1 (.t 100)), gf 102 99 (.bin .i .neq (.t 101) (ci 1)), gt 103 92 (.pick (.t 99) (cb true) (.t 102)), vo 104 (.pick (.t 92) (.t 103) (cb false))]) (.cond (.t 104) (.seq (.reg [vo 6 (.mv (cb false))]) .ret) .skip)))) (.reg [vm 44 7, bk 45 .add 44 1, vm 7 45]))))))) (.seq (.seq (.reg [mi 8 0]) (.wk (.block 2 (.loop (.seq (.seq (.reg [vm 105 8, vf 106 3 5, vs 107 106, ln 108 107, bt 109 .lss 105 108]) (.cond (.t 109) .skip (.exit 2))) (.seq (.block 3 (.seq (.draw [vd (vf 112 3 5) 0, vd (vs 113 112) 1, vd (vm 114 8) 0, vd (xa 115 1 113 114) 7, vd (vs 116 115) 15, vd (vf 117 0 3) 0, vd (vs 118 117) 32, vd (bk 119 .sub 118 1) 96, vd (vo 120 (.call 32 [(.t 116), (ci 0), (.t 119)])) 255, vd (nt 121 120) 511, vd (vm 122 121) 1023, vd (gf 123 122 (.mv (.t 8))) 2047, vd (gf 124 122 (.bin .i .gtr (.t 123) (ci 0))) 4095, vd (gf 125 122 (.mv (.t 124))) 8191, vd (gt 126 125 (.fa 3 (.t 5))) 0x3fff, vd (gt 127 125 (.ld false 1 (.t 126))) 0x7fff, vd (gt 128 125 (.mv (.t 8))) 0x3fff, vd (gt 129 125 (.ia 1 (.t 127) (.t 128))) 0x1ffff, vd (gt 130 125 (.ld false 1 (.t 129))) 0x3ffff, vd (gt 131 125 (.fa 3 (.t 5))) 0x3fff, vd (gt 132 125 (.ld false 1 (.t 131))) 0x83fff, vd (gt 133 125 (.mv (.t 8))) 0x3fff, vd (gt 134 125 (.bin .i .sub (.t 133) (ci 1))) 0x203fff, vd (gt 135 125 (.ia 1 (.t 132) (.t 134))) 0x783fff, vd (gt 136 125 (.ld false 1 (.t 135))) 0xf83fff, vd (gt 137 125 (.bin .i .leq (.t 130) (.t 136))) 0x1ffffff, vd (gf 138 122 (.pick (.t 125) (.t 137) (cb false))) 0x3ffffff, vd (vo 139 (.pick (.t 122) (cb true) (.t 138))) 0x7ffffff]) (.cond (.t 139) (.seq (.reg [vo 6 (.mv (cb false))]) .ret) .skip))) (.reg [vm 110 8, bk 111 .add 110 1, vm 8 111]))))))) (.seq (.reg [vf 140 1 5, vs 141 140, bk 142 .eql 141 3, vf 143 3 5, vs 144 143, ln 145 144, bk 146 .gtr 145 0, vo 147 (.bin .b .eql (.t 142) (.t 146)), vm 6 147]) .ret))))), [.t 6]⟩
theorem low59 : lowF Try.prog 59 = some F59.strip := by kernel_rfl
theorem fok59 : fOk Try.prog 59 = true := by kernel_rfl
theorem reredosref_jobMay_ok (p0 : Config) (p1 : Int) (p2 : Job) (r : Bool) (h : reredosref_jobMay p0 p1 p2 = some r) : FnRO Try.prog G 59 [.agg p0.bx, .one (.d (.i .i64 p1)), .agg p2.bx] (fun rs => rs = [.one (.b r)]) := by
 refine FnRO.of' low59 fok59 (by simp [F59]) ?_
 rw [reredosref_jobMay] at h
 replace h := Hd.mk h
 simp only [F59, go_sem]
 try simp only [*, go_sem]
 refine cr h (reredosref_In_ok G p2.N 1 (IntKind.i64.wrap (p1 - 1))) (fun v1 h => ?_)
 refine oin h (fun hb2 hkhb2 h => ?_) (fun hb2 hkhb2 h => ?_)
 cases h.e
 simp only [*, go_sem, mA, mS]
 try simp only [*, go_sem]
 refine cr h (reredosref_In_ok G p2.Age 0 1048576) (fun v3 h => ?_)
 refine oin h (fun hb4 hkhb4 h => ?_) (fun hb4 hkhb4 h => ?_)
 cases h.e
 simp only [*, go_sem, mA, mS]
 try simp only [*, go_sem]
 refine cr h (reredosref_In_ok G p2.State 1 3) (fun v5 h => ?_)
 refine oin h (fun hb6 hkhb6 h => ?_) (fun hb6 hkhb6 h => ?_)
 cases h.e
 simp only [*, go_sem, mA, mS]
 try simp only [*, go_sem]
 intro hl7
 refine oi h (fun hb8 h => ?_) (fun hb8 h => ?_)
 cases h.e
 simp only [*, go_sem, mA, mS]
 try simp only [*, go_sem]
 refine cr h (reredosref_In_ok G p2.Asks 0 1048576) (fun v9 h => ?_)
 refine oin h (fun hb10 hkhb10 h => ?_) (fun hb10 hkhb10 h => ?_)
 cases h.e
 simp only [*, go_sem, mA, mS]
 try simp only [*, go_sem]
 refine jn0 h ([zP 3 0, zP 5 1]) ([ox p0.bx, ox p2.bx]) (fun k12 h => ?_) (fun h => ?_)
 try simp only [*, go_sem]
 refine lp1 (reredosref_jobMay_L1 p0 p2 k12) (fun a13_1 => [zP 3 0, zP 5 1, zI 7 ((a13_1 : Nat) : Int)]) (fun a13_1 => [ox p0.bx, ox p2.bx]) h [] [some 0, some 1] (fun n14 a13_1 h => ?_) (by intros; rw [reredosref_jobMay_L1])
 rw [reredosref_jobMay_L1] at h
 try simp only [*, go_sem]
 intro hl15
 refine oi h (fun hb16 h => ?_) (fun hb16 h => ?_)
 have := of_decide_eq_true hb16
 refine obg h (fun x17 _ hkx17 h => ?_)
 refine obk h (fun v18 hv18 h => ?_)
 try simp only [*, go_sem]
 refine cd (reredosref_taskMay_ok G p0 x17 v18 hv18) ?_
 refine oin h (fun hb19 hkhb19 h => ?_) (fun hb19 hkhb19 h => ?_)
 cases h.e
 simp only [*, go_sem, mA, mS]
 refine oi h (fun hb20 h => ?_) (fun hb20 h => ?_)
 cases h.e
 simp only [*, go_sem, mA, mS]
 refine oi h (fun hb21 h => ?_) (fun hb21 h => ?_)
 refine obn h (fun x22 _ _ _ _ h => ?_)
 refine oi h (fun hb24 h => ?_) (fun hb24 h => ?_)
 cases h.e
 simp only [*, go_sem, mA, mS]
 refine oin h (fun hb25 hkhb25 h => ?_) (fun hb25 hkhb25 h => ?_)
 try simp only [*, go_sem]
 intro hl26
 refine oi h (fun hb27 h => ?_) (fun hb27 h => ?_)
 cases h.e
 simp only [*, go_sem, mA, mS]
 refine oi h (fun hb28 h => ?_) (fun hb28 h => ?_)
 cases h.e
 simp only [*, go_sem, mA, mS]
 have := wrap_succ_max hkx17 hl7
 try simp only [*, go_sem]
 exact lc (a13_1 + 1) h.e [some 0, some 1]
 have := wrap_succ_max hkx17 hl7
 try simp only [*, go_sem]
 exact lc (a13_1 + 1) h.e [some 0, some 1]
 refine oin h (fun hb31 hkhb31 h => ?_) (fun hb31 hkhb31 h => ?_)
 try simp only [*, go_sem]
 intro hl32
 refine oi h (fun hb33 h => ?_) (fun hb33 h => ?_)
 cases h.e
 simp only [*, go_sem, mA, mS]
 refine oi h (fun hb34 h => ?_) (fun hb34 h => ?_)
 cases h.e
 simp only [*, go_sem, mA, mS]
 have := wrap_succ_max hkx17 hl7
 try simp only [*, go_sem]
 exact lc (a13_1 + 1) h.e [some 0, some 1]
 have := wrap_succ_max hkx17 hl7
 try simp only [*, go_sem]
 exact lc (a13_1 + 1) h.e [some 0, some 1]
 try simp only [*, go_sem]
 exact jc () h.e [some 0, some 1]
 try simp only [*, go_sem]
 refine jn0 h ([zP 5 0]) ([ox p2.bx]) (fun k38 h => ?_) (fun h => ?_)
 try simp only [*, go_sem]
 refine lp1 (reredosref_jobMay_L2 p0 p2 k38) (fun a39_1 => [zP 3 0, zP 5 1, zI 8 ((a39_1 : Nat) : Int)]) (fun a39_1 => [ox p0.bx, ox p2.bx]) h [] [some 0, some 1] (fun n40 a39_1 h => ?_) (by intros; rw [reredosref_jobMay_L2])
 rw [reredosref_jobMay_L2] at h
 try simp only [*, go_sem]
 intro hl41
 refine oi h (fun hb42 h => ?_) (fun hb42 h => ?_)
 have := of_decide_eq_true hb42
 refine obg h (fun x43 _ hkx43 h => ?_)
 refine obk h (fun v44 hv44 h => ?_)
 try simp only [*, go_sem]
 refine cd (reredosref_In_ok G x43 0 (IntKind.i64.wrap (p0.Sites - 1)) v44 hv44) ?_
 refine oin h (fun hb45 hkhb45 h => ?_) (fun hb45 hkhb45 h => ?_)
 cases h.e
 simp only [*, go_sem, mA, mS]
 refine oi h (fun hb46 h => ?_) (fun hb46 h => ?_)
 refine obn h (fun x47 _ _ _ _ h => ?_)
 refine oi h (fun hb49 h => ?_) (fun hb49 h => ?_)
 cases h.e
 simp only [*, go_sem, mA, mS]
 have := wrap_succ_max hkx43 hl41
 try simp only [*, go_sem]
 exact lc (a39_1 + 1) h.e [some 0, some 1]
 have := wrap_succ_max hkx43 hl41
 try simp only [*, go_sem]
 exact lc (a39_1 + 1) h.e [some 0, some 1]
 try simp only [*, go_sem]
 exact jc () h.e [some 1]
 try simp only [*, go_sem]
 intro hl52
 cases h.e
 simp only [*, go_sem, mA, mS]
def reredosref_DeskFault_L1 (p0 : Config) (p1 : Desk) (k8 : Option (Int)) : Nat → Nat → Option (Int)
 | 0, _ => none
 | n10 + 1, a9_1 => (if (decide (a9_1 < p1.Jobs.length)) = true then (Option.bind (p1.Jobs[a9_1]?) fun x13 => (Option.bind (reredosref_jobMay p0 p1.Next x13) fun v14 => (if (!v14) = true then (some 9) else (if (decide (((a9_1 : Nat) : Int) > 0)) = true then (if 0 ≤ IntKind.i64.wrap (((a9_1 : Nat) : Int) - 1) then (Option.bind (p1.Jobs[(IntKind.i64.wrap (((a9_1 : Nat) : Int) - 1)).toNat]?) fun x17 => (if (decide (x13.N ≤ x17.N)) = true then (some 9) else (reredosref_DeskFault_L1 p0 p1 k8 n10 (a9_1 + 1)))) else none) else (reredosref_DeskFault_L1 p0 p1 k8 n10 (a9_1 + 1)))))) else k8)
def reredosref_DeskFault (p0 : Config) (p1 : Desk) : Option (Int) := (Option.bind (reredosref_ConfigFault p0) fun v1 => (if (v1 != 0) = true then (some v1) else (Option.bind (reredosref_In p1.Next 1 1048577) fun v3 => (if (!v3) = true then (some 9) else (if (decide (((p1.Jobs.length : Nat) : Int) > 6)) = true then (some 9) else (withK (some 0) fun k8 => (reredosref_DeskFault_L1 p0 p1 k8 (p1.Jobs.length + 1) 0)))))))
def F41 : VFn := ⟨59, (.seq (.reg [vo 2 (.box 3 (.t 0)), vo 3 (.box 2 (.t 1)), mi 4 0]) (.seq (.reg [vl 7 3 2, vo 8 (.call 58 [(.t 7)]), vm 5 8]) (.seq (.seq (.reg [vm 9 5, bk 10 .neq 9 0]) (.cond (.t 10) (.seq (.reg [vm 11 5, vm 4 11]) .ret) .skip)) (.seq (.seq (.reg [vf 12 0 3, vs 13 12, vo 14 (.call 32 [(.t 13), (ci 1), (ci 1048577)]), nt 15 14, vm 16 15, gf 17 16 (.fa 1 (.t 3)), gf 18 16 (.ld false 1 (.t 17)), gf 19 16 (.len (.t 18)), gf 20 16 (.bin .i .gtr (.t 19) (ci 6)), vo 21 (.pick (.t 16) (cb true) (.t 20))]) (.cond (.t 21) (.seq (.reg [mi 4 9]) .ret) .skip)) (.seq (.seq (.reg [mi 6 0]) (.wk (.block 0 (.loop (.seq (.seq (.reg [vm 22 6, vf 23 1 3, vs 24 23, ln 25 24, bt 26 .lss 22 25]) (.cond (.t 26) .skip (.exit 0))) (.seq (.block 1 (.seq (.draw [vd (vl 29 3 2) 0, vd (vf 30 0 3) 0, vd (vs 31 30) 2, vd (vf 32 1 3) 0, vd (vs 33 32) 8, vd (vm 34 6) 0, vd (xa 35 6 33 34) 56, vd (vl 36 6 35) 120, vd (vo 37 (.call 59 [(.t 29), (.t 31), (.t 36)])) 255, vd (nt 38 37) 511, vd (vm 39 38) 1023, vd (gf 40 39 (.mv (.t 6))) 2047, vd (gf 41 39 (.bin .i .gtr (.t 40) (ci 0))) 4095, vd (gf 42 39 (.mv (.t 41))) 8191, vd (gt 43 42 (.fa 1 (.t 3))) 0x3fff, vd (gt 44 42 (.ld false 1 (.t 43))) 0x7fff, vd (gt 45 42 (.mv (.t 6))) 0x3fff, vd (gt 46 42 (.ia 6 (.t 44) (.t 45))) 0x1ffff, vd (gt 47 42 (.fa 0 (.t 46))) 0x3ffff, vd (gt 48 42 (.ld false 1 (.t 47))) 0x7ffff, vd (gt 49 42 (.fa 1 (.t 3))) 0x3fff, vd (gt 50 42 (.ld false 1 (.t 49))) 0x103fff, vd (gt 51 42 (.mv (.t 6))) 0x3fff, vd (gt 52 42 (.bin .i .sub (.t 51) (ci 1))) 0x403fff, vd (gt 53 42 (.ia 6 (.t 50) (.t 52))) 0xf03fff, vd (gt 54 42 (.fa 0 (.t 53))) 0x1f03fff, vd (gt 55 42 (.ld false 1 (.t 54))) 0x3f03fff, vd (gt 56 42 (.bin .i .leq (.t 48) (.t 55))) 0x7ffffff, vd (gf 57 39 (.pick (.t 42) (.t 56) (cb false))) 0xfffffff, vd (vo 58 (.pick (.t 39) (cb true) (.t 57))) 0x1fffffff]) (.cond (.t 58) (.seq (.reg [mi 4 9]) .ret) .skip))) (.reg [vm 27 6, bk 28 .add 27 1, vm 6 28]))))))) (.seq (.reg [mi 4 0]) .ret)))))), [.t 4]⟩
theorem low41 : lowF Try.prog 41 = some F41.strip := by kernel_rfl
theorem fok41 : fOk Try.prog 41 = true := by kernel_rfl
theorem reredosref_DeskFault_ok (p0 : Config) (p1 : Desk) (r : Int) (h : reredosref_DeskFault p0 p1 = some r) : FnRO Try.prog G 41 [.agg p0.bx, .agg p1.bx] (fun rs => rs = [.one (.i .i64 r)]) := by
 refine FnRO.of' low41 fok41 (by simp [F41]) ?_
 rw [reredosref_DeskFault] at h
 replace h := Hd.mk h
 simp only [F41, go_sem]
 try simp only [*, go_sem]
 refine cr h (reredosref_ConfigFault_ok G p0) (fun v1 h => ?_)
 refine oi h (fun hb2 h => ?_) (fun hb2 h => ?_)
 cases h.e
 simp only [*, go_sem, mA, mS]
 try simp only [*, go_sem]
 refine cr h (reredosref_In_ok G p1.Next 1 1048577) (fun v3 h => ?_)
 refine oin h (fun hb4 hkhb4 h => ?_) (fun hb4 hkhb4 h => ?_)
 cases h.e
 simp only [*, go_sem, mA, mS]
 try simp only [*, go_sem]
 intro hl5
 refine oi h (fun hb6 h => ?_) (fun hb6 h => ?_)
 cases h.e
 simp only [*, go_sem, mA, mS]
 try simp only [*, go_sem]
 refine jn0 h ([]) ([]) (fun k8 h => ?_) (fun h => ?_)
 try simp only [*, go_sem]
 refine lp1 (reredosref_DeskFault_L1 p0 p1 k8) (fun a9_1 => [zP 2 0, zP 3 1, zI 6 ((a9_1 : Nat) : Int)]) (fun a9_1 => [ox p0.bx, ox p1.bx]) h [] [some 0, some 1] (fun n10 a9_1 h => ?_) (by intros; rw [reredosref_DeskFault_L1])
 rw [reredosref_DeskFault_L1] at h
 try simp only [*, go_sem]
 intro hl11
 refine oi h (fun hb12 h => ?_) (fun hb12 h => ?_)
 have := of_decide_eq_true hb12
 refine obg h (fun x13 _ hkx13 h => ?_)
 refine obk h (fun v14 hv14 h => ?_)
 try simp only [*, go_sem]
 refine cd (reredosref_jobMay_ok G p0 p1.Next x13 v14 hv14) ?_
 refine oin h (fun hb15 hkhb15 h => ?_) (fun hb15 hkhb15 h => ?_)
 cases h.e
 simp only [*, go_sem, mA, mS]
 refine oi h (fun hb16 h => ?_) (fun hb16 h => ?_)
 refine obn h (fun x17 _ _ _ _ h => ?_)
 refine oi h (fun hb19 h => ?_) (fun hb19 h => ?_)
 cases h.e
 simp only [*, go_sem, mA, mS]
 have := wrap_succ_max hkx13 hl5
 try simp only [*, go_sem]
 exact lc (a9_1 + 1) h.e [some 0, some 1]
 have := wrap_succ_max hkx13 hl5
 try simp only [*, go_sem]
 exact lc (a9_1 + 1) h.e [some 0, some 1]
 try simp only [*, go_sem]
 exact jc () h.e []
 cases h.e
 simp only [*, go_sem, mA, mS]
def reredosref_deskFault (p0 : Config) (p1 : Int) (p2 : Int) (p3 : Desk) : Option (Int) := (Option.bind (reredosref_DeskFault p0 p3) fun v1 => (if (v1 == 0) = true then (Option.bind (reredosref_labelMay p0 p1) fun v3 => (withK (fun (b4_1 : Int) => (if (b4_1 == 0) = true then (Option.bind (reredosref_In p2 0 (IntKind.i64.wrap (p0.Sites - 1))) fun v8 => (withK (fun (b9_1 : Int) => (some b9_1)) fun k10 => (if (!v8) = true then (k10 2) else (k10 b4_1)))) else (withK (some b4_1) fun k13 => k13))) fun k5 => (if (!v3) = true then (k5 6) else (k5 v1)))) else (withK (if (v1 == 0) = true then (Option.bind (reredosref_In p2 0 (IntKind.i64.wrap (p0.Sites - 1))) fun v17 => (withK (fun (b18_1 : Int) => (some b18_1)) fun k19 => (if (!v17) = true then (k19 2) else (k19 v1)))) else (withK (some v1) fun k22 => k22)) fun k15 => k15)))
def F17 : VFn := ⟨32, (.seq (.reg [vo 4 (.box 3 (.t 0)), vo 7 (.box 2 (.t 3)), mi 8 0]) (.seq (.reg [vl 10 3 4, vl 11 2 7, vo 12 (.call 41 [(.t 10), (.t 11)]), vm 9 12]) (.seq (.seq (.reg [vm 13 9, bk 14 .eql 13 0, vm 15 14, gt 16 15 (.ld true 3 (.t 4)), gt 17 15 (.mv (.t 1)), gt 18 15 (.call 42 [(.t 16), (.t 17)]), gt 19 15 (.un .not (.t 18)), vo 20 (.pick (.t 15) (.t 19) (cb false))]) (.wk (.cond (.t 20) (.reg [mi 9 6]) .skip))) (.seq (.seq (.reg [vm 21 9, bk 22 .eql 21 0, vm 23 22, gt 24 23 (.mv (.t 2)), gt 25 23 (.fa 0 (.t 4)), gt 26 23 (.ld false 1 (.t 25)), gt 27 23 (.bin .i .sub (.t 26) (ci 1)), gt 28 23 (.call 32 [(.t 24), (ci 0), (.t 27)]), gt 29 23 (.un .not (.t 28)), vo 30 (.pick (.t 23) (.t 29) (cb false))]) (.wk (.cond (.t 30) (.reg [mi 9 2]) .skip))) (.seq (.reg [vm 31 9, vm 8 31]) .ret))))), [.t 8]⟩
theorem low17 : lowF Try.prog 17 = some F17.strip := by kernel_rfl
theorem fok17 : fOk Try.prog 17 = true := by kernel_rfl
theorem reredosref_deskFault_ok (p0 : Config) (p1 : Int) (p2 : Int) (p3 : Desk) (r : Int) (h : reredosref_deskFault p0 p1 p2 p3 = some r) : FnRO Try.prog G 17 [.agg p0.bx, .one (.d (.i .i64 p1)), .one (.d (.i .i64 p2)), .agg p3.bx] (fun rs => rs = [.one (.i .i64 r)]) := by
 refine FnRO.of' low17 fok17 (by simp [F17]) ?_
 rw [reredosref_deskFault] at h
 replace h := Hd.mk h
 simp only [F17, go_sem]
 try simp only [*, go_sem]
 refine cr h (reredosref_DeskFault_ok G p0 p3) (fun v1 h => ?_)
 refine oi h (fun hb2 h => ?_) (fun hb2 h => ?_)
 try simp only [*, go_sem]
 refine cr h (reredosref_labelMay_ok G p0 p1) (fun v3 h => ?_)
 try simp only [*, go_sem]
 refine jn1 h (fun b4_1 => [zI 2 p2, zP 4 0, zI 9 b4_1]) (fun b4_1 => [ox p0.bx]) (fun k5 h => ?_) (fun b4_1 h => ?_)
 refine oin h (fun hb6 hkhb6 h => ?_) (fun hb6 hkhb6 h => ?_)
 try simp only [*, go_sem]
 exact jc (6) h.e [some 0]
 try simp only [*, go_sem]
 exact jc (v1) h.e [some 0]
 refine oi h (fun hb7 h => ?_) (fun hb7 h => ?_)
 try simp only [*, go_sem]
 refine cr h (reredosref_In_ok G p2 0 (IntKind.i64.wrap (p0.Sites - 1))) (fun v8 h => ?_)
 try simp only [*, go_sem]
 refine jn1 h (fun b9_1 => [zI 9 b9_1]) (fun b9_1 => []) (fun k10 h => ?_) (fun b9_1 h => ?_)
 refine oin h (fun hb11 hkhb11 h => ?_) (fun hb11 hkhb11 h => ?_)
 try simp only [*, go_sem]
 exact jc (2) h.e []
 try simp only [*, go_sem]
 exact jc (b4_1) h.e []
 cases h.e
 simp only [*, go_sem, mA, mS]
 try simp only [*, go_sem]
 refine jn0 h ([zI 9 b4_1]) ([]) (fun k13 h => ?_) (fun h => ?_)
 try simp only [*, go_sem]
 exact jc () h.e []
 cases h.e
 simp only [*, go_sem, mA, mS]
 try simp only [*, go_sem]
 refine jn0 h ([zI 2 p2, zP 4 0, zI 9 v1]) ([ox p0.bx]) (fun k15 h => ?_) (fun h => ?_)
 try simp only [*, go_sem]
 exact jc () h.e [some 0]
 refine oi h (fun hb16 h => ?_) (fun hb16 h => ?_)
 cases hb2.symm.trans hb16
 try simp only [*, go_sem]
 refine jn0 h ([zI 9 v1]) ([]) (fun k22 h => ?_) (fun h => ?_)
 try simp only [*, go_sem]
 exact jc () h.e []
 cases h.e
 simp only [*, go_sem, mA, mS]
def reredosref_jobAt_L1 (p0 : Desk) (p1 : Int) (k2 : Option (Int)) : Nat → Nat → Option (Int)
 | 0, _ => none
 | n4 + 1, a3_1 => (if (decide (a3_1 < p0.Jobs.length)) = true then (Option.bind (p0.Jobs[a3_1]?) fun x7 => (if (x7.N == p1) = true then (some ((a3_1 : Nat) : Int)) else (reredosref_jobAt_L1 p0 p1 k2 n4 (a3_1 + 1)))) else k2)
def reredosref_jobAt (p0 : Desk) (p1 : Int) : Option (Int) := (withK (some (-1)) fun k2 => (reredosref_jobAt_L1 p0 p1 k2 (p0.Jobs.length + 1) 0))
def F18 : VFn := ⟨22, (.seq (.reg [vo 2 (.box 2 (.t 0)), mi 4 0]) (.seq (.seq (.reg [mi 5 0]) (.wk (.block 0 (.loop (.seq (.seq (.reg [vm 6 5, vf 7 1 2, vs 8 7, ln 9 8, bt 10 .lss 6 9]) (.cond (.t 10) .skip (.exit 0))) (.seq (.block 1 (.seq (.reg [vf 13 1 2, vs 14 13, vm 15 5, xa 16 6 14 15, vf 17 0 16, vs 18 17, vm 19 1, bt 20 .eql 18 19]) (.cond (.t 20) (.seq (.reg [vm 21 5, vm 4 21]) .ret) .skip))) (.reg [vm 11 5, bk 12 .add 11 1, vm 5 12]))))))) (.seq (.reg [mi 4 (-1)]) .ret))), [.t 4]⟩
theorem low18 : lowF Try.prog 18 = some F18.strip := by kernel_rfl
theorem fok18 : fOk Try.prog 18 = true := by kernel_rfl
theorem reredosref_jobAt_ok (p0 : Desk) (p1 : Int) (r : Int) (h : reredosref_jobAt p0 p1 = some r) : FnRO Try.prog G 18 [.agg p0.bx, .one (.d (.i .i64 p1))] (fun rs => rs = [.one (.i .i64 r)]) := by
 refine FnRO.of' low18 fok18 (by simp [F18]) ?_
 rw [reredosref_jobAt] at h
 replace h := Hd.mk h
 simp only [F18, go_sem]
 try simp only [*, go_sem]
 refine jn0 h ([]) ([]) (fun k2 h => ?_) (fun h => ?_)
 try simp only [*, go_sem]
 refine lp1 (reredosref_jobAt_L1 p0 p1 k2) (fun a3_1 => [zI 1 p1, zP 2 0, zI 5 ((a3_1 : Nat) : Int)]) (fun a3_1 => [ox p0.bx]) h [] [some 0] (fun n4 a3_1 h => ?_) (by intros; rw [reredosref_jobAt_L1])
 rw [reredosref_jobAt_L1] at h
 try simp only [*, go_sem]
 intro hl5
 refine oi h (fun hb6 h => ?_) (fun hb6 h => ?_)
 have := of_decide_eq_true hb6
 refine obg h (fun x7 _ hkx7 h => ?_)
 refine oi h (fun hb8 h => ?_) (fun hb8 h => ?_)
 cases h.e
 simp only [*, go_sem, mA, mS]
 have := wrap_succ_max hkx7 hl5
 try simp only [*, go_sem]
 exact lc (a3_1 + 1) h.e [some 0]
 try simp only [*, go_sem]
 exact jc () h.e []
 cases h.e
 simp only [*, go_sem, mA, mS]
def reredosref_about (p0 : Int) (p1 : Int) (p2 : Int) (p3 : Int) : Option (Message) := (some (Message.mk p1 p0 p2 (Txn.mk p0 p3) 0 0 0 0 0 false 0))
def F34 : VFn := ⟨16, (.seq (.reg [vo 8 (.alloc [(zi 0), (zi 0), (zi 0), (zi 0), (zi 0), (zi 0), (zi 0), (zi 0), (zi 0), (zi 0), (.d (.b false)), (zi 0)])]) (.seq (.reg [vm 9 1, vm 10 0, vm 11 2, vm 12 0, vm 13 3, vo 14 (.build [(zi 0), (zi 0)] [(0, 1, (.t 12)), (1, 1, (.t 13))]), vo 15 (.build [(zi 0), (zi 0), (zi 0), (zi 0), (zi 0), (zi 0), (zi 0), (zi 0), (zi 0), (zi 0), (.d (.b false)), (zi 0)] [(0, 1, (.t 9)), (1, 1, (.t 10)), (2, 1, (.t 11)), (3, 2, (.t 14))]), vu (.st 12 (.t 8) (.t 15))]) .ret)), [.cell 8 true 12]⟩
theorem low34 : lowF Try.prog 34 = some F34.strip := by kernel_rfl
theorem fok34 : fOk Try.prog 34 = true := by kernel_rfl
theorem reredosref_about_ok (p0 : Int) (p1 : Int) (p2 : Int) (p3 : Int) (r : Message) (h : reredosref_about p0 p1 p2 p3 = some r) : FnRO Try.prog G 34 [.one (.d (.i .i64 p0)), .one (.d (.i .i64 p1)), .one (.d (.i .i64 p2)), .one (.d (.i .i64 p3))] (fun rs => rs = [.agg (r.encO)]) := by
 refine FnRO.of' low34 fok34 (by simp [F34]) ?_
 rw [reredosref_about] at h
 replace h := Hd.mk h
 simp only [F34, go_sem]
 cases h.e
 simp only [*, go_sem, mA, mS]
def reredosref_told_L1 (p0 : Int) (p2 : Job) (k2 : (List Message) → Option (Turn)) : Nat → Nat → (List Message) → Option (Turn)
 | 0, _, _ => none
 | n4 + 1, a3_1, a3_2 => (if (decide (a3_1 < p2.Asked.length)) = true then (Option.bind (p2.Asked[a3_1]?) fun x7 => (Option.bind (reredosref_about p0 4 x7 p2.N) fun v8 => (if fits 96 (a3_2.length + 1) then (reredosref_told_L1 p0 p2 k2 n4 (a3_1 + 1) (a3_2 ++ [(Message.mk v8.Kind v8.From v8.To v8.Txn v8.Label v8.Key v8.Value v8.Version v8.Ask true v8.Code)])) else none))) else (k2 a3_2))
def reredosref_told (p0 : Int) (p1 : Turn) (p2 : Job) : Option (Turn) := (withK (fun (b1_1 : List Message) => (some (Turn.mk p1.Desk b1_1 p1.Records p1.Replies p1.Sure p1.Committed))) fun k2 => (reredosref_told_L1 p0 p2 k2 (p2.Asked.length + 1) 0 p1.Messages))
def F19 : VFn := ⟨35, (.seq (.reg [vo 5 (.box 6 (.t 2))]) (.seq (.reg [mi 6 0]) (.wk (.block 0 (.loop (.seq (.seq (.reg [vm 8 6, vf 9 3 5, vs 10 9, ln 11 10, bt 12 .lss 8 11]) (.cond (.t 12) .skip (.exit 0))) (.seq (.block 1 (.seq (.draw [vd (vm 15 0) 0, vd (vf 16 3 5) 0, vd (vs 17 16) 2, vd (vm 18 6) 0, vd (xa 19 1 17 18) 14, vd (vs 20 19) 30, vd (vf 21 0 5) 0, vd (vs 22 21) 64, vd (vo 23 (.call 34 [(.t 15), (ci 4), (.t 20), (.t 22)])) 255, ⟨vo 7 (.alloc [(zi 0), (zi 0), (zi 0), (zi 0), (zi 0), (zi 0), (zi 0), (zi 0), (zi 0), (zi 0), (.d (.b false)), (zi 0)]), 0, [8], none, []⟩, vd (vu (.st 12 (.t 7) (.t 23))) 1023]) (.seq (.reg [vf 24 10 7, vu (.st 1 (.t 24) (cb true))]) (.draw [vd (vm 25 1) 0, vd (vm 26 1) 0, vd (vo 27 (.nilchk (.t 26))) 2, vd (vf 28 2 27) 6, vd (vs 29 28) 14, vd (vl 30 12 7) 0, vd (vo 31 (.bsl 12 1 [(zi 0), (zi 0), (zi 0), (zi 0), (zi 0), (zi 0), (zi 0), (zi 0), (zi 0), (zi 0), (.d (.b false)), (zi 0)] [(0, (.t 30))])) 32, vd (vo 32 (.app 12 96 (.t 29) (.t 31))) 126, vd (vo 33 (.nilchk (.t 25))) 255, vd (vf 34 2 33) 511, vd (vu (.st 1 (.t 34) (.t 32))) 1023])))) (.reg [vm 13 6, bk 14 .add 13 1, vm 6 14])))))))), []⟩
theorem low19 : lowF Try.prog 19 = some F19.strip := by kernel_rfl
theorem fok19 : fOk Try.prog 19 = true := by kernel_rfl
theorem reredosref_told_ok (p0 : Int) (p1 : Turn) (p2 : Job) (r : Turn) (h : reredosref_told p0 p1 p2 = some r) : FnX Try.prog G 19 [.one (.d (.i .i64 p0)), ptrX, .agg p2.bx] [.i .i64 p1.Desk.Next, .o 6 (p1.Desk.Jobs.map Job.enc), .o 12 (p1.Messages.map Message.enc), .o 8 (p1.Records.map Record.enc), .o 6 (p1.Replies.map Reply.enc), .i .i64 p1.Sure, .i .i64 p1.Committed] (fun c rs => c = [.i .i64 r.Desk.Next, .o 6 (r.Desk.Jobs.map Job.enc), .o 12 (r.Messages.map Message.enc), .o 8 (r.Records.map Record.enc), .o 6 (r.Replies.map Reply.enc), .i .i64 r.Sure, .i .i64 r.Committed] ∧ rs = []) := by
 refine FnX.of [] low19 fok19 (by exact Nat.le_of_ble_eq_true rfl) (by exact Nat.le_of_ble_eq_true rfl) ?_
 rw [reredosref_told] at h
 replace h := Hd.mk h
 simp only [F19, go_sem]
 try simp only [*, go_sem]
 refine jn1 h (fun b1_1 => [zP 1000000 0]) (fun b1_1 => [ox [zi p1.Desk.Next, .r 1 0 p1.Desk.Jobs.length, .r 2 0 b1_1.length, .r 3 0 p1.Records.length, .r 4 0 p1.Replies.length, zi p1.Sure, zi p1.Committed], oa 6 (p1.Desk.Jobs.map Job.enc), oa 12 (b1_1.map Message.enc), oa 8 (p1.Records.map Record.enc), oa 6 (p1.Replies.map Reply.enc)]) (fun k2 h => ?_) (fun b1_1 h => ?_)
 try simp only [*, go_sem]
 refine lp2 (reredosref_told_L1 p0 p2 k2) (fun a3_1 a3_2 => [zI 0 p0, zP 1 0, zP 5 1, zI 6 ((a3_1 : Nat) : Int), zP 1000000 0]) (fun a3_1 a3_2 => [ox [zi p1.Desk.Next, .r 2 0 p1.Desk.Jobs.length, .r 3 0 a3_2.length, .r 4 0 p1.Records.length, .r 5 0 p1.Replies.length, zi p1.Sure, zi p1.Committed], ox p2.bx, oa 6 (p1.Desk.Jobs.map Job.enc), oa 12 (a3_2.map Message.enc), oa 8 (p1.Records.map Record.enc), oa 6 (p1.Replies.map Reply.enc)]) h [] [some 0, some 5, some 1, some 2, some 3, some 4] (fun n4 a3_1 a3_2 h => ?_) (by intros; rw [reredosref_told_L1])
 rw [reredosref_told_L1] at h
 try simp only [*, go_sem]
 intro hl5
 refine oi h (fun hb6 h => ?_) (fun hb6 h => ?_)
 have := of_decide_eq_true hb6
 refine obg h (fun x7 _ hkx7 h => ?_)
 refine obk h (fun v8 hv8 h => ?_)
 try simp only [*, go_sem]
 refine cd (reredosref_about_ok G p0 4 x7 p2.N v8 hv8) ?_
 refine ck h (fun _ h => ?_)
 have := wrap_succ_max hkx7 hl5
 try simp only [*, go_sem]
 exact lc (a3_1 + 1, (a3_2 ++ [(Message.mk v8.Kind v8.From v8.To v8.Txn v8.Label v8.Key v8.Value v8.Version v8.Ask true v8.Code)])) h.e [some 0, some 1, some 2, some 24, some 4, some 5]
 try simp only [*, go_sem]
 exact jc (a3_2) h.e [some 0, some 2, some 3, some 4, some 5]
 cases h.e
 try simp only [*, go_sem]
 refine etn [] ?_
 simp only [*, go_sem, mA, mS]
def reredosref_hands_L2 (p0 : Config) (p1 : Int) (p2 : Job) (a3_1 : Int) (k7 : Bool → Option ((List Int))) : Nat → Bool → Nat → Option ((List Int))
 | 0, _, _ => none
 | n9 + 1, a8_1, a8_2 => (if (decide (a8_2 < p2.Tasks.length)) = true then (if a8_1 = true then (reredosref_hands_L2 p0 p1 p2 a3_1 k7 n9 true (a8_2 + 1)) else (Option.bind (p2.Tasks[a8_2]?) fun x14 => (if (x14.Label == p1) = true then (if p0.Sites = 0 then none else (reredosref_hands_L2 p0 p1 p2 a3_1 k7 n9 (x14.Key.tmod p0.Sites == a3_1) (a8_2 + 1))) else (reredosref_hands_L2 p0 p1 p2 a3_1 k7 n9 false (a8_2 + 1))))) else (k7 a8_1))
def reredosref_hands_L1 (p0 : Config) (p1 : Int) (p2 : Job) (k2 : (List Int) → Option ((List Int))) : Nat → Int → (List Int) → Option ((List Int))
 | 0, _, _ => none
 | n4 + 1, a3_1, a3_2 => (if (decide (a3_1 < p0.Sites)) = true then (withK (fun (b6_1 : Bool) => (withK (fun (b19_1 : List Int) => (reredosref_hands_L1 p0 p1 p2 k2 n4 (IntKind.i64.wrap (a3_1 + 1)) b19_1)) fun k20 => (if b6_1 = true then (if fits 8 (a3_2.length + 1) then (k20 (a3_2 ++ [a3_1])) else none) else (k20 a3_2)))) fun k7 => (reredosref_hands_L2 p0 p1 p2 a3_1 k7 (p2.Tasks.length + 1) false 0)) else (k2 a3_2))
def reredosref_hands (p0 : Config) (p1 : Int) (p2 : Job) : Option ((List Int)) := (withK (fun (b1_1 : List Int) => (some b1_1)) fun k2 => (reredosref_hands_L1 p0 p1 p2 k2 ((p0.Sites).toNat + 1) 0 []))
def F43 : VFn := ⟨54, (.seq (.reg [vo 3 (.box 3 (.t 0)), vo 5 (.box 6 (.t 2)), vo 6 (.mv (.c (.one (.nl 1))))]) (.seq (.reg [vo 7 (.mv (.c (.one (.nl 1))))]) (.seq (.seq (.reg [mi 8 0]) (.wk (.block 0 (.loop (.seq (.seq (.reg [vm 11 8, vf 12 0 3, vs 13 12, bt 14 .lss 11 13]) (.cond (.t 14) .skip (.exit 0))) (.seq (.block 1 (.seq (.reg [vo 9 (.mv (cb false))]) (.seq (.seq (.reg [mi 10 0]) (.wk (.block 2 (.loop (.seq (.seq (.reg [vm 17 10, vf 18 2 5, vs 19 18, ln 20 19, bt 21 .lss 17 20]) (.cond (.t 21) .skip (.exit 2))) (.seq (.block 3 (.draw [vd (vm 24 9) 0, vd (vm 25 24) 1, vd (gf 26 25 (.fa 2 (.t 5))) 3, vd (gf 27 25 (.ld false 1 (.t 26))) 7, vd (gf 28 25 (.mv (.t 10))) 3, vd (gf 29 25 (.ia 8 (.t 27) (.t 28))) 31, vd (gf 30 25 (.fa 1 (.t 29))) 63, vd (gf 31 25 (.ld false 1 (.t 30))) 127, vd (gf 32 25 (.mv (.t 1))) 3, vd (gf 33 25 (.bin .i .eql (.t 31) (.t 32))) 511, vd (gf 34 25 (.mv (.t 33))) 1023, vd (gt 35 34 (.fa 2 (.t 5))) 2047, vd (gt 36 34 (.ld false 1 (.t 35))) 4095, vd (gt 37 34 (.mv (.t 10))) 2047, vd (gt 38 34 (.ia 8 (.t 36) (.t 37))) 0x3fff, vd (gt 39 34 (.fa 2 (.t 38))) 0x7fff, vd (gt 40 34 (.ld false 1 (.t 39))) 0xffff, vd (gt 41 34 (.fa 0 (.t 3))) 2047, vd (gt 42 34 (.ld false 1 (.t 41))) 0x207ff, vd (gt 43 34 (.bin .i .rem (.t 40) (.t 42))) 0x7ffff, vd (gt 44 34 (.mv (.t 8))) 2047, vd (gt 45 34 (.bin .i .eql (.t 43) (.t 44))) 0x1fffff, vd (gf 46 25 (.pick (.t 34) (.t 45) (cb false))) 0x3fffff, vd (vo 47 (.pick (.t 25) (cb true) (.t 46))) 0x7fffff, vd (vm 9 47) 0xffffff])) (.reg [vm 22 10, bk 23 .add 22 1, vm 10 23]))))))) (.seq (.reg [vm 48 9]) (.wk (.cond (.t 48) (.reg [vm 49 7, vm 50 8, vo 51 (.bsl 1 1 [(zi 0)] [(0, (.t 50))]), vo 52 (.app 1 8 (.t 49) (.t 51)), vm 7 52]) .skip)))))) (.reg [vm 15 8, bk 16 .add 15 1, vm 8 16]))))))) (.seq (.reg [vm 53 7, vm 6 53]) .ret)))), [.t 6]⟩
theorem low43 : lowF Try.prog 43 = some F43.strip := by kernel_rfl
theorem fok43 : fOk Try.prog 43 = true := by kernel_rfl
theorem reredosref_hands_ok (p0 : Config) (p1 : Int) (p2 : Job) (r : (List Int)) (h : reredosref_hands p0 p1 p2 = some r) : FnRO Try.prog G 43 [.agg p0.bx, .one (.d (.i .i64 p1)), .agg p2.bx] (fun rs => rs = [.one (.o 1 (r.map encI))]) := by
 refine FnRO.of' low43 fok43 (by simp [F43]) ?_
 rw [reredosref_hands] at h
 replace h := Hd.mk h
 simp only [F43, go_sem]
 try simp only [*, go_sem]
 refine jn1 h (fun b1_1 => [zR 7 0 0 b1_1.length]) (fun b1_1 => [oa 1 (b1_1.map encI)]) (fun k2 h => ?_) (fun b1_1 h => ?_)
 try simp only [*, go_sem]
 refine lp2 (reredosref_hands_L1 p0 p1 p2 k2) (fun a3_1 a3_2 => [zI 1 p1, zP 3 0, zP 5 1, zR 7 2 0 a3_2.length, zI 8 a3_1]) (fun a3_1 a3_2 => [ox p0.bx, ox p2.bx, oa 1 (a3_2.map encI)]) h [] [some 0, some 1, none] (fun n4 a3_1 a3_2 h => ?_) (by intros; rw [reredosref_hands_L1])
 rw [reredosref_hands_L1] at h
 refine oi h (fun hb5 h => ?_) (fun hb5 h => ?_)
 have := of_decide_eq_true hb5
 try simp only [*, go_sem]
 refine jn1 h (fun b6_1 => [zI 1 p1, zP 3 0, zP 5 1, zR 7 2 0 a3_2.length, zI 8 a3_1, zB 9 b6_1]) (fun b6_1 => [ox p0.bx, ox p2.bx, oa 1 (a3_2.map encI)]) (fun k7 h => ?_) (fun b6_1 h => ?_)
 try simp only [*, go_sem]
 refine lp2 (reredosref_hands_L2 p0 p1 p2 a3_1 k7) (fun a8_1 a8_2 => [zI 1 p1, zP 3 0, zP 5 1, zR 7 2 0 a3_2.length, zI 8 a3_1, zB 9 a8_1, zI 10 ((a8_2 : Nat) : Int)]) (fun a8_1 a8_2 => [ox p0.bx, ox p2.bx, oa 1 (a3_2.map encI)]) h [] [some 0, some 1, some 2] (fun n9 a8_1 a8_2 h => ?_) (by intros; rw [reredosref_hands_L2])
 rw [reredosref_hands_L2] at h
 try simp only [*, go_sem]
 intro hl10
 refine oi h (fun hb11 h => ?_) (fun hb11 h => ?_)
 have hkhb11 := of_decide_eq_true hb11
 refine oi h (fun hb12 h => ?_) (fun hb12 h => ?_)
 have := wrap_succ_max hkhb11 hl10
 try simp only [*, go_sem]
 exact lc (true, a8_2 + 1) h.e [some 0, some 1, some 2]
 refine obg h (fun x14 _ hkx14 h => ?_)
 refine oi h (fun hb15 h => ?_) (fun hb15 h => ?_)
 refine ckn h (fun _ h => ?_)
 have := wrap_succ_max hkx14 hl10
 try simp only [*, go_sem]
 exact lc (x14.Key.tmod p0.Sites == a3_1, a8_2 + 1) h.e [some 0, some 1, some 2]
 have := wrap_succ_max hkx14 hl10
 try simp only [*, go_sem]
 exact lc (false, a8_2 + 1) h.e [some 0, some 1, some 2]
 try simp only [*, go_sem]
 exact jc (a8_1) h.e [some 0, some 1, some 2]
 try simp only [*, go_sem]
 refine jn1 h (fun b19_1 => [zI 1 p1, zP 3 0, zP 5 1, zR 7 2 0 b19_1.length, zI 8 a3_1]) (fun b19_1 => [ox p0.bx, ox p2.bx, oa 1 (b19_1.map encI)]) (fun k20 h => ?_) (fun b19_1 h => ?_)
 refine oi h (fun hb21 h => ?_) (fun hb21 h => ?_)
 refine ck h (fun _ h => ?_)
 try simp only [*, go_sem]
 exact jc ((a3_2 ++ [a3_1])) h.e [some 0, some 1, some 4]
 try simp only [*, go_sem]
 exact jc (a3_2) h.e [some 0, some 1, some 2]
 try simp only [*, go_sem]
 exact lc (IntKind.i64.wrap (a3_1 + 1), b19_1) h.e [some 0, some 1, some 2]
 try simp only [*, go_sem]
 exact jc (a3_2) h.e [some 2]
 cases h.e
 simp only [*, go_sem, mA, mS]
def reredosref_without_L1 (p0 : List Job) (p1 : Int) (k2 : (List Job) → Option ((List Job))) : Nat → Nat → (List Job) → Option ((List Job))
 | 0, _, _ => none
 | n4 + 1, a3_1, a3_2 => (if (decide (a3_1 < p0.length)) = true then (withK (fun (b7_1 : List Job) => (reredosref_without_L1 p0 p1 k2 n4 (a3_1 + 1) b7_1)) fun k8 => (if (((a3_1 : Nat) : Int) != p1) = true then (withK (fun (b10_1 : Int) (b10_2 : Int) (b10_3 : List Task) (b10_4 : List Int) (b10_5 : Int) (b10_6 : Int) => (if fits 80 (a3_2.length + 1) then (k8 (a3_2 ++ [(Job.mk b10_1 b10_2 b10_3 b10_4 b10_5 b10_6)])) else none)) fun k11 => (Option.bind (p0[a3_1]?) fun x12 => (k11 x12.N x12.State x12.Tasks x12.Asked x12.Asks x12.Age))) else (k8 a3_2))) else (k2 a3_2))
def reredosref_without (p0 : List Job) (p1 : Int) : Option ((List Job)) := (withK (fun (b1_1 : List Job) => (some b1_1)) fun k2 => (reredosref_without_L1 p0 p1 k2 (p0.length + 1) 0 []))
def F44 : VFn := ⟨24, (.seq (.reg [vo 4 (.mv (.c (.one (.nl 6))))]) (.seq (.reg [vo 5 (.mv (.c (.one (.nl 6))))]) (.seq (.seq (.reg [mi 6 0]) (.wk (.block 0 (.loop (.seq (.seq (.reg [vm 7 6, vm 8 0, ln 9 8, bt 10 .lss 7 9]) (.cond (.t 10) .skip (.exit 0))) (.seq (.block 1 (.seq (.reg [vm 13 6, vm 14 1, bt 15 .neq 13 14]) (.wk (.cond (.t 15) (.regs [[vm 16 5, vm 17 0, vm 18 6, xa 19 6 17 18, vl 20 6 19], [vo 21 (.bsl 6 1 [(zi 0), (zi 0), (.nl 8), (.nl 1), (zi 0), (zi 0)] [(0, (.t 20))]), vo 22 (.app 6 80 (.t 16) (.t 21)), vm 5 22]]) .skip)))) (.reg [vm 11 6, bk 12 .add 11 1, vm 6 12]))))))) (.seq (.reg [vm 23 5, vm 4 23]) .ret)))), [.t 4]⟩
theorem low44 : lowF Try.prog 44 = some F44.strip := by kernel_rfl
theorem fok44 : fOk Try.prog 44 = true := by kernel_rfl
theorem reredosref_without_ok (p0 : List Job) (p1 : Int) (r : (List Job)) (h : reredosref_without p0 p1 = some r) : FnRO Try.prog G 44 [.one (.d (.l 6 (p0.map Job.enc))), .one (.d (.i .i64 p1))] (fun rs => rs = [.one (.o 6 (r.map Job.enc))]) := by
 refine FnRO.of' low44 fok44 (by simp [F44]) ?_
 rw [reredosref_without] at h
 replace h := Hd.mk h
 simp only [F44, go_sem]
 try simp only [*, go_sem]
 refine jn1 h (fun b1_1 => [zR 5 0 0 b1_1.length]) (fun b1_1 => [oa 6 (b1_1.map Job.enc)]) (fun k2 h => ?_) (fun b1_1 h => ?_)
 try simp only [*, go_sem]
 refine lp2 (reredosref_without_L1 p0 p1 k2) (fun a3_1 a3_2 => [zL 0 6 (p0.map Job.enc), zI 1 p1, zR 5 0 0 a3_2.length, zI 6 ((a3_1 : Nat) : Int)]) (fun a3_1 a3_2 => [oa 6 (a3_2.map Job.enc)]) h [] [none] (fun n4 a3_1 a3_2 h => ?_) (by intros; rw [reredosref_without_L1])
 rw [reredosref_without_L1] at h
 try simp only [*, go_sem]
 intro hl5
 refine oi h (fun hb6 h => ?_) (fun hb6 h => ?_)
 have hkhb6 := of_decide_eq_true hb6
 try simp only [*, go_sem]
 refine jn1 h (fun b7_1 => [zL 0 6 (p0.map Job.enc), zI 1 p1, zR 5 0 0 b7_1.length, zI 6 ((a3_1 : Nat) : Int)]) (fun b7_1 => [oa 6 (b7_1.map Job.enc)]) (fun k8 h => ?_) (fun b7_1 h => ?_)
 refine oi h (fun hb9 h => ?_) (fun hb9 h => ?_)
 try simp only [*, go_sem]
 refine rg6 h (fun b10_1 b10_2 b10_3 b10_4 b10_5 b10_6 => [zL 0 6 (p0.map Job.enc), zI 1 p1, zI 6 ((a3_1 : Nat) : Int), zR 16 0 0 a3_2.length, (20, .agg [zi b10_1, zi b10_2, .d (.l 8 (b10_3.map Task.enc)), .d (.l 1 (b10_4.map encI)), zi b10_5, zi b10_6])]) (fun b10_1 b10_2 b10_3 b10_4 b10_5 b10_6 => [oa 6 (a3_2.map Job.enc)]) (fun k11 h => ?_) (fun b10_1 b10_2 b10_3 b10_4 b10_5 b10_6 h => ?_)
 refine obg h (fun x12 _ _ h => ?_)
 try simp only [*, go_sem]
 exact jc (x12.N, x12.State, x12.Tasks, x12.Asked, x12.Asks, x12.Age) h.e [some 0]
 refine ck h (fun _ h => ?_)
 try simp only [*, go_sem]
 exact jc ((a3_2 ++ [(Job.mk b10_1 b10_2 b10_3 b10_4 b10_5 b10_6)])) h.e [some 2]
 try simp only [*, go_sem]
 exact jc (a3_2) h.e [some 0]
 have := wrap_succ_max hkhb6 hl5
 try simp only [*, go_sem]
 exact lc (a3_1 + 1, b7_1) h.e [some 0]
 try simp only [*, go_sem]
 exact jc (a3_2) h.e [some 0]
 cases h.e
 simp only [*, go_sem, mA, mS]
def reredosref_ended_L1 (p2 : Int) (x1 : Job) (v3 : (List Int)) (k5 : (List Message) → Option (Turn)) : Nat → Nat → (List Message) → Option (Turn)
 | 0, _, _ => none
 | n7 + 1, a6_1, a6_2 => (if (decide (a6_1 < v3.length)) = true then (Option.bind (v3[a6_1]?) fun x10 => (Option.bind (reredosref_about p2 4 x10 x1.N) fun v11 => (if fits 96 (a6_2.length + 1) then (reredosref_ended_L1 p2 x1 v3 k5 n7 (a6_1 + 1) (a6_2 ++ [v11])) else none))) else (k5 a6_2))
def reredosref_ended (p0 : Config) (p1 : Int) (p2 : Int) (p3 : Turn) (p4 : Int) : Option (Turn) := (if 0 ≤ p4 then (Option.bind (p3.Desk.Jobs[p4.toNat]?) fun x1 => (Option.bind (reredosref_hands p0 p1 x1) fun v3 => (withK (fun (b4_1 : List Message) => (withK (Option.bind (reredosref_without p3.Desk.Jobs p4) fun v16 => (some (Turn.mk (Desk.mk p3.Desk.Next v16) b4_1 p3.Records p3.Replies p3.Sure p3.Committed))) fun k15 => k15)) fun k5 => (reredosref_ended_L1 p2 x1 v3 k5 (v3.length + 1) 0 p3.Messages)))) else none)
def F20 : VFn := ⟨59, (.seq (.reg [vo 5 (.box 3 (.t 0))]) (.seq (.reg [vm 13 3, vo 14 (.nilchk (.t 13)), vf 15 0 14, vf 16 1 15, vs 17 16, vm 18 4, xa 19 6 17 18, vl 20 6 19, vo 10 (.alloc [(zi 0), (zi 0), (.nl 8), (.nl 1), (zi 0), (zi 0)]), vu (.st 6 (.t 10) (.t 20))]) (.seq (.reg [vl 21 3 5, vm 22 1, vl 23 6 10, vo 24 (.call 43 [(.t 21), (.t 22), (.t 23)]), vm 11 24]) (.seq (.seq (.reg [mi 12 0]) (.wk (.block 0 (.loop (.seq (.seq (.reg [vm 25 12, vm 26 11, ln 27 26, bt 28 .lss 25 27]) (.cond (.t 28) .skip (.exit 0))) (.seq (.block 1 (.draw [vd (vm 31 3) 0, vd (vm 32 3) 0, vd (vo 33 (.nilchk (.t 32))) 2, vd (vf 34 2 33) 6, vd (vs 35 34) 14, vd (vm 36 2) 0, vd (vm 37 11) 0, vd (vm 38 12) 0, vd (xa 39 1 37 38) 192, vd (vs 40 39) 448, vd (vf 41 0 10) 0, vd (vs 42 41) 1024, vd (vo 43 (.call 34 [(.t 36), (ci 4), (.t 40), (.t 42)])) 4064, vd (vo 44 (.bsl 12 1 [(zi 0), (zi 0), (zi 0), (zi 0), (zi 0), (zi 0), (zi 0), (zi 0), (zi 0), (zi 0), (.d (.b false)), (zi 0)] [(0, (.t 43))])) 8160, vd (vo 45 (.app 12 96 (.t 35) (.t 44))) 0x3ffe, vd (vo 46 (.nilchk (.t 31))) 0x7fff, vd (vf 47 2 46) 0xffff, vd (vu (.st 1 (.t 47) (.t 45))) 0x1ffff])) (.reg [vm 29 12, bk 30 .add 29 1, vm 12 30]))))))) (.regs [[vm 48 3, vm 49 3, vo 50 (.nilchk (.t 49)), vf 51 0 50, vf 52 1 51, vs 53 52, vm 54 4], [vo 55 (.call 44 [(.t 53), (.t 54)]), vo 56 (.nilchk (.t 48)), vf 57 0 56, vf 58 1 57, vu (.st 1 (.t 58) (.t 55))]]))))), []⟩
theorem low20 : lowF Try.prog 20 = some F20.strip := by kernel_rfl
theorem fok20 : fOk Try.prog 20 = true := by kernel_rfl
theorem reredosref_ended_ok (p0 : Config) (p1 : Int) (p2 : Int) (p3 : Turn) (p4 : Int) (r : Turn) (h : reredosref_ended p0 p1 p2 p3 p4 = some r) : FnX Try.prog G 20 [.agg p0.bx, .one (.d (.i .i64 p1)), .one (.d (.i .i64 p2)), ptrX, .one (.d (.i .i64 p4))] [.i .i64 p3.Desk.Next, .o 6 (p3.Desk.Jobs.map Job.enc), .o 12 (p3.Messages.map Message.enc), .o 8 (p3.Records.map Record.enc), .o 6 (p3.Replies.map Reply.enc), .i .i64 p3.Sure, .i .i64 p3.Committed] (fun c rs => c = [.i .i64 r.Desk.Next, .o 6 (r.Desk.Jobs.map Job.enc), .o 12 (r.Messages.map Message.enc), .o 8 (r.Records.map Record.enc), .o 6 (r.Replies.map Reply.enc), .i .i64 r.Sure, .i .i64 r.Committed] ∧ rs = []) := by
 refine FnX.of [] low20 fok20 (by exact Nat.le_of_ble_eq_true rfl) (by exact Nat.le_of_ble_eq_true rfl) ?_
 rw [reredosref_ended] at h
 replace h := Hd.mk h
 simp only [F20, go_sem]
 refine obn h (fun x1 _ _ _ _ h => ?_)
 try simp only [*, go_sem]
 refine cr h (reredosref_hands_ok G p0 p1 x1) (fun v3 h => ?_)
 try simp only [*, go_sem]
 refine jn1 h (fun b4_1 => [zP 3 0, zI 4 p4, zP 1000000 0]) (fun b4_1 => [ox [zi p3.Desk.Next, .r 1 0 p3.Desk.Jobs.length, .r 2 0 b4_1.length, .r 3 0 p3.Records.length, .r 4 0 p3.Replies.length, zi p3.Sure, zi p3.Committed], oa 6 (p3.Desk.Jobs.map Job.enc), oa 12 (b4_1.map Message.enc), oa 8 (p3.Records.map Record.enc), oa 6 (p3.Replies.map Reply.enc)]) (fun k5 h => ?_) (fun b4_1 h => ?_)
 try simp only [*, go_sem]
 refine lp2 (reredosref_ended_L1 p2 x1 v3 k5) (fun a6_1 a6_2 => [zI 2 p2, zP 3 0, zI 4 p4, zP 10 1, zR 11 2 0 v3.length, zI 12 ((a6_1 : Nat) : Int), zP 1000000 0]) (fun a6_1 a6_2 => [ox [zi p3.Desk.Next, .r 3 0 p3.Desk.Jobs.length, .r 4 0 a6_2.length, .r 5 0 p3.Records.length, .r 6 0 p3.Replies.length, zi p3.Sure, zi p3.Committed], ox x1.bx, oa 1 (v3.map encI), oa 6 (p3.Desk.Jobs.map Job.enc), oa 12 (a6_2.map Message.enc), oa 8 (p3.Records.map Record.enc), oa 6 (p3.Replies.map Reply.enc)]) h [] [some 0, some 6, some 7, some 1, some 2, some 3, some 4] (fun n7 a6_1 a6_2 h => ?_) (by intros; rw [reredosref_ended_L1])
 rw [reredosref_ended_L1] at h
 try simp only [*, go_sem]
 intro hl8
 refine oi h (fun hb9 h => ?_) (fun hb9 h => ?_)
 have := of_decide_eq_true hb9
 refine obg h (fun x10 _ hkx10 h => ?_)
 refine obk h (fun v11 hv11 h => ?_)
 try simp only [*, go_sem]
 refine cd (reredosref_about_ok G p2 4 x10 x1.N v11 hv11) ?_
 refine ck h (fun _ h => ?_)
 have := wrap_succ_max hkx10 hl8
 try simp only [*, go_sem]
 exact lc (a6_1 + 1, (a6_2 ++ [v11])) h.e [some 0, some 1, some 2, some 3, some 21, some 5, some 6]
 try simp only [*, go_sem]
 exact jc (a6_2) h.e [some 0, some 3, some 4, some 5, some 6]
 try simp only [*, go_sem]
 refine rg0 h ([zP 48 0, zR 53 1 0 p3.Desk.Jobs.length, zI 54 p4, zP 1000000 0]) ([ox [zi p3.Desk.Next, .r 1 0 p3.Desk.Jobs.length, .r 2 0 b4_1.length, .r 3 0 p3.Records.length, .r 4 0 p3.Replies.length, zi p3.Sure, zi p3.Committed], oz 6 (p3.Desk.Jobs.map Job.enc), oa 12 (b4_1.map Message.enc), oa 8 (p3.Records.map Record.enc), oa 6 (p3.Replies.map Reply.enc)]) (fun k15 h => ?_) (fun h => ?_)
 try simp only [*, go_sem]
 exact jf [.z 1, .z 1] () h.e [some 0, some 1, some 2, some 3, some 4]
 try simp only [*, go_sem]
 refine cr h (reredosref_without_ok G p3.Desk.Jobs p4) (fun v16 h => ?_)
 cases h.e
 try simp only [*, go_sem]
 refine etn [] ?_
 simp only [*, go_sem, mA, mS]
def reredosref_CoordTicked_L1 (p0 : Config) (p1 : Int) (p2 : Int) (p3 : Desk) (k7 : Int → Int → Int → (List Job) → (List Message) → (List Record) → (List Reply) → Option (Turn × Int)) : Nat → Nat → Int → Int → Int → (List Job) → (List Message) → (List Record) → (List Reply) → Option (Turn × Int)
 | 0, _, _, _, _, _, _, _, _ => none
 | n9 + 1, a8_1, a8_2, a8_3, a8_4, a8_5, a8_6, a8_7, a8_8 => (if (decide (a8_1 < p3.Jobs.length)) = true then (Option.bind (p3.Jobs[a8_1]?) fun x12 => (Option.bind (reredosref_jobAt (Desk.mk a8_2 a8_5) x12.N) fun v13 => (if 0 ≤ v13 then (Option.bind (a8_5[v13.toNat]?) fun x14 => (if (decide (IntKind.i64.wrap (x14.Age + 1) < p0.Patience)) = true then (reredosref_CoordTicked_L1 p0 p1 p2 p3 k7 n9 (a8_1 + 1) a8_2 a8_3 a8_4 (a8_5.set v13.toNat (Job.mk x14.N x14.State x14.Tasks x14.Asked x14.Asks (IntKind.i64.wrap (x14.Age + 1)))) a8_6 a8_7 a8_8) else (if (x14.State == 3) = true then (Option.bind (reredosref_told p2 (Turn.mk (Desk.mk a8_2 (a8_5.set v13.toNat (Job.mk x14.N x14.State x14.Tasks x14.Asked x14.Asks 0))) a8_6 a8_7 a8_8 a8_3 a8_4) (Job.mk x14.N x14.State x14.Tasks x14.Asked x14.Asks 0)) fun v19 => (reredosref_CoordTicked_L1 p0 p1 p2 p3 k7 n9 (a8_1 + 1) v19.Desk.Next v19.Sure v19.Committed v19.Desk.Jobs v19.Messages v19.Records v19.Replies)) else (if (x14.State == 1) = true then (if (decide (((x14.Tasks.length : Nat) : Int) > 0)) = true then (if 0 ≤ IntKind.i64.wrap (((x14.Tasks.length : Nat) : Int) - 1) then (Option.bind (x14.Tasks[(IntKind.i64.wrap (((x14.Tasks.length : Nat) : Int) - 1)).toNat]?) fun x24 => (withK (fun (b26_1 : Bool) (b26_2 : Bool) (b26_3 : Nat) (b26_4 : Int) => (if (x14.State == 2) = true then (withK (Option.bind (reredosref_ended p0 p1 p2 (Turn.mk (Desk.mk a8_2 a8_5) a8_6 a8_7 (a8_8 ++ [(Reply.mk p2 ((b26_3 : Nat) : Int) x14.N b26_4 0 14)]) a8_3 a8_4) v13) fun v36 => (reredosref_CoordTicked_L1 p0 p1 p2 p3 k7 n9 (a8_1 + 1) v36.Desk.Next v36.Sure v36.Committed v36.Desk.Jobs v36.Messages v36.Records v36.Replies)) fun k34 => (if fits 48 (a8_8.length + 1) then k34 else none)) else (withK (fun (b38_1 : Bool) (b38_2 : List Reply) => (Option.bind (reredosref_ended p0 p1 p2 (Turn.mk (Desk.mk a8_2 a8_5) a8_6 a8_7 b38_2 a8_3 a8_4) v13) fun v42 => (reredosref_CoordTicked_L1 p0 p1 p2 p3 k7 n9 (a8_1 + 1) v42.Desk.Next v42.Sure v42.Committed v42.Desk.Jobs v42.Messages v42.Records v42.Replies))) fun k39 => (if (((b26_3 : Nat) : Int) != 4) = true then (if fits 48 (a8_8.length + 1) then (k39 true (a8_8 ++ [(Reply.mk p2 ((b26_3 : Nat) : Int) x14.N b26_4 0 14)])) else none) else (k39 false a8_8))))) fun k27 => (if (!x24.Done) = true then (withK (fun (b29_1 : Nat) => (k27 false true b29_1 x24.Key)) fun k30 => (if x24.Write = true then (k30 3) else (k30 2))) else (k27 true false 4 0)))) else none) else (withK (if (x14.State == 2) = true then (withK (Option.bind (reredosref_ended p0 p1 p2 (Turn.mk (Desk.mk a8_2 a8_5) a8_6 a8_7 (a8_8 ++ [(Reply.mk p2 4 x14.N 0 0 14)]) a8_3 a8_4) v13) fun v50 => (reredosref_CoordTicked_L1 p0 p1 p2 p3 k7 n9 (a8_1 + 1) v50.Desk.Next v50.Sure v50.Committed v50.Desk.Jobs v50.Messages v50.Records v50.Replies)) fun k48 => (if fits 48 (a8_8.length + 1) then k48 else none)) else (withK (Option.bind (reredosref_ended p0 p1 p2 (Turn.mk (Desk.mk a8_2 a8_5) a8_6 a8_7 a8_8 a8_3 a8_4) v13) fun v54 => (reredosref_CoordTicked_L1 p0 p1 p2 p3 k7 n9 (a8_1 + 1) v54.Desk.Next v54.Sure v54.Committed v54.Desk.Jobs v54.Messages v54.Records v54.Replies)) fun k53 => k53)) fun k45 => k45)) else (withK (if (x14.State == 2) = true then (withK (Option.bind (reredosref_ended p0 p1 p2 (Turn.mk (Desk.mk a8_2 a8_5) a8_6 a8_7 (a8_8 ++ [(Reply.mk p2 4 x14.N 0 0 14)]) a8_3 a8_4) v13) fun v62 => (reredosref_CoordTicked_L1 p0 p1 p2 p3 k7 n9 (a8_1 + 1) v62.Desk.Next v62.Sure v62.Committed v62.Desk.Jobs v62.Messages v62.Records v62.Replies)) fun k60 => (if fits 48 (a8_8.length + 1) then k60 else none)) else (withK (Option.bind (reredosref_ended p0 p1 p2 (Turn.mk (Desk.mk a8_2 a8_5) a8_6 a8_7 a8_8 a8_3 a8_4) v13) fun v66 => (reredosref_CoordTicked_L1 p0 p1 p2 p3 k7 n9 (a8_1 + 1) v66.Desk.Next v66.Sure v66.Committed v66.Desk.Jobs v66.Messages v66.Records v66.Replies)) fun k65 => k65)) fun k57 => k57))))) else none))) else (k7 a8_2 a8_3 a8_4 a8_5 a8_6 a8_7 a8_8))
def reredosref_CoordTicked (p0 : Config) (p1 : Int) (p2 : Int) (p3 : Desk) : Option (Turn × Int) := (Option.bind (reredosref_deskFault p0 p1 p2 p3) fun v1 => (if (v1 != 0) = true then (some ((Turn.mk (Desk.mk 0 []) [] [] [] 0 0), v1)) else (withK (Option.bind (reredosref_DeskCopy p3) fun v5 => (withK (fun (b6_1 : Int) (b6_2 : Int) (b6_3 : Int) (b6_4 : List Job) (b6_5 : List Message) (b6_6 : List Record) (b6_7 : List Reply) => (some ((Turn.mk (Desk.mk b6_1 b6_4) b6_5 b6_6 b6_7 b6_2 b6_3), 0))) fun k7 => (reredosref_CoordTicked_L1 p0 p1 p2 p3 k7 (p3.Jobs.length + 1) 0 v5.Next 0 0 v5.Jobs [] [] []))) fun k4 => k4)))
def F7 : VFn := ⟨140, (.seq (.reg [vo 4 (.box 3 (.t 0)), vo 7 (.box 2 (.t 3)), vo 8 (.alloc [(zi 0), (.nl 6), (.nl 12), (.nl 8), (.nl 6), (zi 0), (zi 0)]), mi 9 0]) (.seq (.reg [vl 17 3 4, vm 18 1, vm 19 2, vl 20 2 7, vo 21 (.call 17 [(.t 17), (.t 18), (.t 19), (.t 20)]), vm 10 21]) (.seq (.seq (.reg [vm 22 10, bk 23 .neq 22 0]) (.cond (.t 23) (.seq (.reg [vo 24 (.build [(zi 0), (.nl 6), (.nl 12), (.nl 8), (.nl 6), (zi 0), (zi 0)] []), vm 25 10, vu (.st 7 (.t 8) (.t 24)), vm 9 25]) .ret) .skip)) (.seq (.regs [[vl 26 2 7], [vo 27 (.call 5 [(.t 26)]), vo 28 (.build [(zi 0), (.nl 6), (.nl 12), (.nl 8), (.nl 6), (zi 0), (zi 0)] [(0, 2, (.t 27))]), vo 11 (.alloc [(zi 0), (.nl 6), (.nl 12), (.nl 8), (.nl 6), (zi 0), (zi 0)]), vu (.st 7 (.t 11) (.t 28))]]) (.seq (.seq (.reg [mi 12 0]) (.wk (.block 0 (.loop (.seq (.seq (.reg [vm 29 12, vf 30 1 7, vs 31 30, ln 32 31, bt 33 .lss 29 32]) (.cond (.t 33) .skip (.exit 0))) (.seq (.block 1 (.seq (.draw [vd (vf 36 0 11) 0, vd (vl 37 2 36) 1, vd (vf 38 1 7) 0, vd (vs 39 38) 4, vd (vm 40 12) 0, vd (xa 41 6 39 40) 28, vd (vf 42 0 41) 60, vd (vs 43 42) 124, vd (vo 44 (.call 18 [(.t 37), (.t 43)])) 255, vd (vm 13 44) 511]) (.seq (.reg [vf 45 0 11, vf 46 1 45, vs 47 46, vm 48 13, xa 49 6 47 48, vl 50 6 49, vo 14 (.alloc [(zi 0), (zi 0), (.nl 8), (.nl 1), (zi 0), (zi 0)]), vu (.st 6 (.t 14) (.t 50))]) (.seq (.reg [vf 51 5 14, vs 52 51, bk 53 .add 52 1, vf 54 5 14, vu (.st 1 (.t 54) (.t 53))]) (.seq (.seq (.reg [vf 55 5 14, vs 56 55, vf 57 2 4, vs 58 57, bt 59 .lss 56 58]) (.cond (.t 59) (.seq (.reg [vf 60 0 11, vf 61 1 60, vs 62 61, vm 63 13, vl 64 6 14, xa 65 6 62 63, vu (.st 6 (.t 65) (.t 64))]) (.exit 1)) .skip)) (.seq (.seq (.reg [vf 66 1 14, vs 67 66, bk 68 .eql 67 3]) (.cond (.t 68) (.seq (.reg [vf 69 5 14, vu (.st 1 (.t 69) (ci 0))]) (.seq (.reg [vf 70 0 11, vf 71 1 70, vs 72 71, vm 73 13, vl 74 6 14, xa 75 6 72 73, vu (.st 6 (.t 75) (.t 74))]) (.seq (.reg [vm 76 2, vl 77 6 14, vo 78 (.call 19 [(.t 76), (.t 11), (.t 77)])]) (.exit 1)))) .skip)) (.seq (.reg [vm 79 2, vf 80 0 14, vs 81 80, vo 82 (.build [(zi 0), (zi 0), (zi 0), (zi 0), (zi 0), (zi 0)] [(0, 1, (.t 79)), (1, 1, (ci 4)), (2, 1, (.t 81)), (5, 1, (ci 14))]), vo 15 (.alloc [(zi 0), (zi 0), (zi 0), (zi 0), (zi 0), (zi 0)]), vu (.st 6 (.t 15) (.t 82))]) (.seq (.reg [vf 83 2 14, vs 84 83, ln 85 84, vm 16 85]) (.seq (.seq (.reg [vf 86 1 14, vs 87 86, bk 88 .eql 87 1, vm 89 88, gt 90 89 (.mv (.t 16)), gt 91 89 (.bin .i .gtr (.t 90) (ci 0)), vo 92 (.pick (.t 89) (.t 91) (cb false)), vm 93 92, gt 94 93 (.fa 2 (.t 14)), gt 95 93 (.ld false 1 (.t 94)), gt 96 93 (.mv (.t 16)), gt 97 93 (.bin .i .sub (.t 96) (ci 1)), gt 98 93 (.ia 8 (.t 95) (.t 97)), gt 99 93 (.fa 6 (.t 98)), gt 100 93 (.ld false 1 (.t 99)), gt 101 93 (.un .not (.t 100)), vo 102 (.pick (.t 93) (.t 101) (cb false))]) (.wk (.cond (.t 102) (.seq (.reg [vf 103 1 15, vu (.st 1 (.t 103) (ci 2))]) (.seq (.seq (.reg [vf 104 2 14, vs 105 104, vm 106 16, bk 107 .sub 106 1, xa 108 8 105 107, vf 109 0 108, vs 110 109]) (.wk (.cond (.t 110) (.reg [vf 111 1 15, vu (.st 1 (.t 111) (ci 3))]) .skip))) (.reg [vf 112 2 14, vs 113 112, vm 114 16, bk 115 .sub 114 1, xa 116 8 113 115, vf 117 2 116, vs 118 117, vf 119 3 15, vu (.st 1 (.t 119) (.t 118))]))) .skip))) (.seq (.seq (.reg [vf 120 1 14, vs 121 120, bk 122 .eql 121 2, vm 123 122, gf 124 123 (.fa 1 (.t 15)), gf 125 123 (.ld false 1 (.t 124)), gf 126 123 (.bin .i .neq (.t 125) (ci 4)), vo 127 (.pick (.t 123) (cb true) (.t 126))]) (.wk (.cond (.t 127) (.reg [vf 128 4 11, vs 129 128, vl 130 6 15, vo 131 (.bsl 6 1 [(zi 0), (zi 0), (zi 0), (zi 0), (zi 0), (zi 0)] [(0, (.t 130))]), vo 132 (.app 6 48 (.t 129) (.t 131)), vf 133 4 11, vu (.st 1 (.t 133) (.t 132))]) .skip))) (.reg [vl 134 3 4, vm 135 1, vm 136 2, vm 137 13, vo 138 (.call 20 [(.t 134), (.t 135), (.t 136), (.t 11), (.t 137)])]))))))))))) (.reg [vm 34 12, bk 35 .add 34 1, vm 12 35]))))))) (.seq (.reg [vl 139 7 11, vu (.st 7 (.t 8) (.t 139)), mi 9 0]) .ret)))))), [.cell 8 true 7, .t 9]⟩
theorem low7 : lowF Try.prog 7 = some F7.strip := by kernel_rfl
theorem fok7 : fOk Try.prog 7 = true := by kernel_rfl
theorem reredosref_CoordTicked_ok (p0 : Config) (p1 : Int) (p2 : Int) (p3 : Desk) (r : Turn × Int) (h : reredosref_CoordTicked p0 p1 p2 p3 = some r) : FnRO Try.prog G 7 [.agg p0.bx, .one (.d (.i .i64 p1)), .one (.d (.i .i64 p2)), .agg p3.bx] (fun rs => rs = [.agg (r.1.encO), .one (.i .i64 r.2)]) := by
 refine FnRO.of' low7 fok7 (by simp [F7]) ?_
 rw [reredosref_CoordTicked] at h
 replace h := Hd.mk h
 simp only [F7, go_sem]
 try simp only [*, go_sem]
 refine cr h (reredosref_deskFault_ok G p0 p1 p2 p3) (fun v1 h => ?_)
 refine oi h (fun hb2 h => ?_) (fun hb2 h => ?_)
 cases h.e
 simp only [*, go_sem, mA, mS]
 try simp only [*, go_sem]
 refine rg0 h ([zI 1 p1, zI 2 p2, zP 4 0, zP 7 1, zP 8 2, (26, .agg [zi p3.Next, .d (.l 6 (p3.Jobs.map Job.enc))])]) ([ox p0.bx, ox p3.bx, ox [zi 0, .nl 6, .nl 12, .nl 8, .nl 6, zi 0, zi 0]]) (fun k4 h => ?_) (fun h => ?_)
 try simp only [*, go_sem]
 exact jc () h.e [some 0, some 1, some 2]
 try simp only [*, go_sem]
 refine cr h (reredosref_DeskCopy_ok G p3) (fun v5 h => ?_)
 try simp only [*, go_sem]
 refine jn7 h (fun b6_1 b6_2 b6_3 b6_4 b6_5 b6_6 b6_7 => [zP 8 0, zP 11 1]) (fun b6_1 b6_2 b6_3 b6_4 b6_5 b6_6 b6_7 => [ox [zi 0, .nl 6, .nl 12, .nl 8, .nl 6, zi 0, zi 0], ox [zi b6_1, .r 2 0 b6_4.length, .r 3 0 b6_5.length, .r 4 0 b6_6.length, .r 5 0 b6_7.length, zi b6_2, zi b6_3], oa 6 (b6_4.map Job.enc), oa 12 (b6_5.map Message.enc), oa 8 (b6_6.map Record.enc), oa 6 (b6_7.map Reply.enc)]) (fun k7 h => ?_) (fun b6_1 b6_2 b6_3 b6_4 b6_5 b6_6 b6_7 h => ?_)
 try simp only [*, go_sem]
 refine lp8 (reredosref_CoordTicked_L1 p0 p1 p2 p3 k7) (fun a8_1 a8_2 a8_3 a8_4 a8_5 a8_6 a8_7 a8_8 => [zI 1 p1, zI 2 p2, zP 4 0, zP 7 1, zP 8 2, zP 11 3, zI 12 ((a8_1 : Nat) : Int)]) (fun a8_1 a8_2 a8_3 a8_4 a8_5 a8_6 a8_7 a8_8 => [ox p0.bx, ox p3.bx, ox [zi 0, .nl 6, .nl 12, .nl 8, .nl 6, zi 0, zi 0], ox [zi a8_2, .r 4 0 a8_5.length, .r 5 0 a8_6.length, .r 6 0 a8_7.length, .r 7 0 a8_8.length, zi a8_3, zi a8_4], oa 6 (a8_5.map Job.enc), oa 12 (a8_6.map Message.enc), oa 8 (a8_7.map Record.enc), oa 6 (a8_8.map Reply.enc)]) h [] [some 0, some 1, some 2, some 4, some 3, none, none, none] (fun n9 a8_1 a8_2 a8_3 a8_4 a8_5 a8_6 a8_7 a8_8 h => ?_) (by intros; rw [reredosref_CoordTicked_L1])
 rw [reredosref_CoordTicked_L1] at h
 try simp only [*, go_sem]
 intro hl10
 refine oi h (fun hb11 h => ?_) (fun hb11 h => ?_)
 have := of_decide_eq_true hb11
 refine obg h (fun x12 _ hkx12 h => ?_)
 refine obk h (fun v13 hv13 h => ?_)
 try simp only [*, go_sem]
 refine cdl (reredosref_jobAt_ok G (Desk.mk a8_2 a8_5) x12.N v13 hv13) ?_
 refine obn h (fun x14 _ _ _ _ h => ?_)
 refine oi h (fun hb16 h => ?_) (fun hb16 h => ?_)
 have := wrap_succ_max hkx12 hl10
 try simp only [*, go_sem]
 exact lc (a8_1 + 1, a8_2, a8_3, a8_4, (a8_5.set v13.toNat (Job.mk x14.N x14.State x14.Tasks x14.Asked x14.Asks (IntKind.i64.wrap (x14.Age + 1)))), a8_6, a8_7, a8_8) h.e [some 0, some 1, some 2, some 3, some 4, some 5, some 6, some 7]
 refine oi h (fun hb18 h => ?_) (fun hb18 h => ?_)
 try simp only [*, go_sem]
 refine ct h 3 [] [] [4, 5, 6, 7] (reredosref_told_ok G p2 (Turn.mk (Desk.mk a8_2 (a8_5.set v13.toNat (Job.mk x14.N x14.State x14.Tasks x14.Asked x14.Asks 0))) a8_6 a8_7 a8_8 a8_3 a8_4) (Job.mk x14.N x14.State x14.Tasks x14.Asked x14.Asks 0)) (fun v19 h => ?_)
 have := wrap_succ_max hkx12 hl10
 try simp only [*, go_sem]
 exact lc (a8_1 + 1, v19.Desk.Next, v19.Sure, v19.Committed, v19.Desk.Jobs, v19.Messages, v19.Records, v19.Replies) h.e [some 0, some 1, some 2, some 3, some 19, some 20, some 21, some 22]
 try simp only [*, go_sem]
 intro hl21
 refine oi h (fun hb22 h => ?_) (fun hb22 h => ?_)
 refine oi h (fun hb23 h => ?_) (fun hb23 h => ?_)
 refine obn h (fun x24 _ _ _ _ h => ?_)
 try simp only [*, go_sem]
 refine jn4 h (fun b26_1 b26_2 b26_3 b26_4 => [zI 1 p1, zI 2 p2, zP 4 0, zP 7 1, zP 8 2, zP 11 3, zI 12 ((a8_1 : Nat) : Int), zI 13 v13, zP 14 4, zP 15 5, zI 90 ((x14.Tasks.length : Nat) : Int), zB 91 true, (94, .one (.p (.q 4 0 2))), zL 95 8 (x14.Tasks.map Task.enc), zI 96 ((x14.Tasks.length : Nat) : Int), zI 97 (IntKind.i64.wrap (((x14.Tasks.length : Nat) : Int) - 1)), (98, .one (.p (.l 8 (x14.Tasks.map Task.enc) ((IntKind.i64.wrap (((x14.Tasks.length : Nat) : Int) - 1)).toNat) 0))), (99, .one (.p (.l 8 (x14.Tasks.map Task.enc) ((IntKind.i64.wrap (((x14.Tasks.length : Nat) : Int) - 1)).toNat) 6))), zB 100 b26_1, zB 101 b26_2]) (fun b26_1 b26_2 b26_3 b26_4 => [ox p0.bx, ox p3.bx, ox [zi 0, .nl 6, .nl 12, .nl 8, .nl 6, zi 0, zi 0], ox [zi a8_2, .r 6 0 a8_5.length, .r 7 0 a8_6.length, .r 8 0 a8_7.length, .r 9 0 a8_8.length, zi a8_3, zi a8_4], ox [zi x14.N, zi x14.State, .d (.l 8 (x14.Tasks.map Task.enc)), .d (.l 1 (x14.Asked.map encI)), zi x14.Asks, .d (.i .i64 (IntKind.i64.wrap (x14.Age + 1)))], ox [zi p2, .d (.i .i64 ((b26_3 : Nat) : Int)), zi x14.N, zi b26_4, zi 0, zi 14], oa 6 (a8_5.map Job.enc), oa 12 (a8_6.map Message.enc), oa 8 (a8_7.map Record.enc), oa 6 (a8_8.map Reply.enc)]) (fun k27 h => ?_) (fun b26_1 b26_2 b26_3 b26_4 h => ?_)
 refine oin h (fun hb28 hkhb28 h => ?_) (fun hb28 hkhb28 h => ?_)
 try simp only [*, go_sem]
 refine jn1 h (fun b29_1 => [zI 1 p1, zI 2 p2, zP 4 0, zP 7 1, zP 8 2, zP 11 3, zI 12 ((a8_1 : Nat) : Int), zI 13 v13, zP 14 4, zP 15 5, zI 16 ((x14.Tasks.length : Nat) : Int), zI 90 ((x14.Tasks.length : Nat) : Int), zB 91 true, (94, .one (.p (.q 4 0 2))), zL 95 8 (x14.Tasks.map Task.enc), zI 96 ((x14.Tasks.length : Nat) : Int), zI 97 (IntKind.i64.wrap (((x14.Tasks.length : Nat) : Int) - 1)), (98, .one (.p (.l 8 (x14.Tasks.map Task.enc) ((IntKind.i64.wrap (((x14.Tasks.length : Nat) : Int) - 1)).toNat) 0))), (99, .one (.p (.l 8 (x14.Tasks.map Task.enc) ((IntKind.i64.wrap (((x14.Tasks.length : Nat) : Int) - 1)).toNat) 6))), zB 100 false, zB 101 true]) (fun b29_1 => [ox p0.bx, ox p3.bx, ox [zi 0, .nl 6, .nl 12, .nl 8, .nl 6, zi 0, zi 0], ox [zi a8_2, .r 6 0 a8_5.length, .r 7 0 a8_6.length, .r 8 0 a8_7.length, .r 9 0 a8_8.length, zi a8_3, zi a8_4], ox [zi x14.N, zi x14.State, .d (.l 8 (x14.Tasks.map Task.enc)), .d (.l 1 (x14.Asked.map encI)), zi x14.Asks, .d (.i .i64 (IntKind.i64.wrap (x14.Age + 1)))], ox [zi p2, .d (.i .i64 ((b29_1 : Nat) : Int)), zi x14.N, zi 0, zi 0, zi 14], oa 6 (a8_5.map Job.enc), oa 12 (a8_6.map Message.enc), oa 8 (a8_7.map Record.enc), oa 6 (a8_8.map Reply.enc)]) (fun k30 h => ?_) (fun b29_1 h => ?_)
 refine oi h (fun hb31 h => ?_) (fun hb31 h => ?_)
 try simp only [*, go_sem]
 exact jc (3) h.e [some 0, some 1, some 2, some 3, some 18, some 19, some 4, some 5, some 6, some 7]
 try simp only [*, go_sem]
 exact jc (2) h.e [some 0, some 1, some 2, some 3, some 18, some 19, some 4, some 5, some 6, some 7]
 try simp only [*, go_sem]
 exact jc (false, true, b29_1, x24.Key) h.e [some 0, some 1, some 2, some 3, some 4, some 5, some 6, some 7, some 8, some 9]
 try simp only [*, go_sem]
 exact jc (true, false, 4, 0) h.e [some 0, some 1, some 2, some 3, some 18, some 19, some 4, some 5, some 6, some 7]
 refine oi h (fun hb32 h => ?_) (fun hb32 h => ?_)
 try simp only [*, go_sem]
 refine jn0 h ([zI 1 p1, zI 2 p2, zP 4 0, zP 7 1, zP 8 2, zP 11 3, zI 12 ((a8_1 : Nat) : Int), zI 13 v13, zI 90 ((x14.Tasks.length : Nat) : Int), zB 91 true, (94, .one (.p (.q 4 0 2))), zL 95 8 (x14.Tasks.map Task.enc), zI 96 ((x14.Tasks.length : Nat) : Int), zI 97 (IntKind.i64.wrap (((x14.Tasks.length : Nat) : Int) - 1)), (98, .one (.p (.l 8 (x14.Tasks.map Task.enc) ((IntKind.i64.wrap (((x14.Tasks.length : Nat) : Int) - 1)).toNat) 0))), (99, .one (.p (.l 8 (x14.Tasks.map Task.enc) ((IntKind.i64.wrap (((x14.Tasks.length : Nat) : Int) - 1)).toNat) 6))), zB 100 b26_1, zB 101 b26_2]) ([ox p0.bx, ox p3.bx, ox [zi 0, .nl 6, .nl 12, .nl 8, .nl 6, zi 0, zi 0], ox [zi a8_2, .r 5 0 a8_5.length, .r 6 0 a8_6.length, .r 7 0 a8_7.length, .r 8 0 (a8_8.length + 1), zi a8_3, zi a8_4], ox [zi x14.N, zi x14.State, .d (.l 8 (x14.Tasks.map Task.enc)), .d (.l 1 (x14.Asked.map encI)), zi x14.Asks, .d (.i .i64 (IntKind.i64.wrap (x14.Age + 1)))], oa 6 (a8_5.map Job.enc), oa 12 (a8_6.map Message.enc), oa 8 (a8_7.map Record.enc), oa 6 ((a8_8 ++ [(Reply.mk p2 ((b26_3 : Nat) : Int) x14.N b26_4 0 14)]).map Reply.enc)]) (fun k34 h => ?_) (fun h => ?_)
 refine ck h (fun _ h => ?_)
 try simp only [*, go_sem]
 exact jc () h.e [some 0, some 1, some 2, some 3, some 4, some 6, some 7, some 8, some 11]
 try simp only [*, go_sem]
 refine ct h 3 [] [] [5, 6, 7, 8] (reredosref_ended_ok G p0 p1 p2 (Turn.mk (Desk.mk a8_2 a8_5) a8_6 a8_7 (a8_8 ++ [(Reply.mk p2 ((b26_3 : Nat) : Int) x14.N b26_4 0 14)]) a8_3 a8_4) v13) (fun v36 h => ?_)
 have := wrap_succ_max hkx12 hl10
 try simp only [*, go_sem]
 exact lc (a8_1 + 1, v36.Desk.Next, v36.Sure, v36.Committed, v36.Desk.Jobs, v36.Messages, v36.Records, v36.Replies) h.e [some 0, some 1, some 2, some 3, some 9, some 10, some 11, some 12]
 try simp only [*, go_sem]
 refine jn2 h (fun b38_1 b38_2 => [zI 1 p1, zI 2 p2, zP 4 0, zP 7 1, zP 8 2, zP 11 3, zI 12 ((a8_1 : Nat) : Int), zI 13 v13, zI 90 ((x14.Tasks.length : Nat) : Int), zB 91 true, (94, .one (.p (.q 4 0 2))), zL 95 8 (x14.Tasks.map Task.enc), zI 96 ((x14.Tasks.length : Nat) : Int), zI 97 (IntKind.i64.wrap (((x14.Tasks.length : Nat) : Int) - 1)), (98, .one (.p (.l 8 (x14.Tasks.map Task.enc) ((IntKind.i64.wrap (((x14.Tasks.length : Nat) : Int) - 1)).toNat) 0))), (99, .one (.p (.l 8 (x14.Tasks.map Task.enc) ((IntKind.i64.wrap (((x14.Tasks.length : Nat) : Int) - 1)).toNat) 6))), zB 100 b26_1, zB 101 b26_2, (124, .one (.p (.q 5 0 1))), zI 125 ((b26_3 : Nat) : Int), zB 126 b38_1]) (fun b38_1 b38_2 => [ox p0.bx, ox p3.bx, ox [zi 0, .nl 6, .nl 12, .nl 8, .nl 6, zi 0, zi 0], ox [zi a8_2, .r 6 0 a8_5.length, .r 7 0 a8_6.length, .r 8 0 a8_7.length, .r 9 0 b38_2.length, zi a8_3, zi a8_4], ox [zi x14.N, zi x14.State, .d (.l 8 (x14.Tasks.map Task.enc)), .d (.l 1 (x14.Asked.map encI)), zi x14.Asks, .d (.i .i64 (IntKind.i64.wrap (x14.Age + 1)))], ox [zi p2, .d (.i .i64 ((b26_3 : Nat) : Int)), zi x14.N, zi b26_4, zi 0, zi 14], oa 6 (a8_5.map Job.enc), oa 12 (a8_6.map Message.enc), oa 8 (a8_7.map Record.enc), oa 6 (b38_2.map Reply.enc)]) (fun k39 h => ?_) (fun b38_1 b38_2 h => ?_)
 refine oi h (fun hb40 h => ?_) (fun hb40 h => ?_)
 refine ck h (fun _ h => ?_)
 try simp only [*, go_sem]
 exact jc (true, (a8_8 ++ [(Reply.mk p2 ((b26_3 : Nat) : Int) x14.N b26_4 0 14)])) h.e [some 0, some 1, some 2, some 3, some 4, some 5, some 6, some 7, some 8, some 11]
 try simp only [*, go_sem]
 exact jc (false, a8_8) h.e [some 0, some 1, some 2, some 3, some 4, some 5, some 6, some 7, some 8, some 9]
 try simp only [*, go_sem]
 refine ct h 3 [] [] [6, 7, 8, 9] (reredosref_ended_ok G p0 p1 p2 (Turn.mk (Desk.mk a8_2 a8_5) a8_6 a8_7 b38_2 a8_3 a8_4) v13) (fun v42 h => ?_)
 have := wrap_succ_max hkx12 hl10
 try simp only [*, go_sem]
 exact lc (a8_1 + 1, v42.Desk.Next, v42.Sure, v42.Committed, v42.Desk.Jobs, v42.Messages, v42.Records, v42.Replies) h.e [some 0, some 1, some 2, some 3, some 10, some 11, some 12, some 13]
 try simp only [*, go_sem]
 refine jn0 h ([zI 1 p1, zI 2 p2, zP 4 0, zP 7 1, zP 8 2, zP 11 3, zI 12 ((a8_1 : Nat) : Int), zI 13 v13, zP 14 4, zP 15 5, zI 90 ((x14.Tasks.length : Nat) : Int), zB 91 false]) ([ox p0.bx, ox p3.bx, ox [zi 0, .nl 6, .nl 12, .nl 8, .nl 6, zi 0, zi 0], ox [zi a8_2, .r 6 0 a8_5.length, .r 7 0 a8_6.length, .r 8 0 a8_7.length, .r 9 0 a8_8.length, zi a8_3, zi a8_4], ox [zi x14.N, zi x14.State, .d (.l 8 (x14.Tasks.map Task.enc)), .d (.l 1 (x14.Asked.map encI)), zi x14.Asks, .d (.i .i64 (IntKind.i64.wrap (x14.Age + 1)))], ox [zi p2, zi 4, zi x14.N, zi 0, zi 0, zi 14], oa 6 (a8_5.map Job.enc), oa 12 (a8_6.map Message.enc), oa 8 (a8_7.map Record.enc), oa 6 (a8_8.map Reply.enc)]) (fun k45 h => ?_) (fun h => ?_)
 try simp only [*, go_sem]
 exact jc () h.e [some 0, some 1, some 2, some 3, some 18, some 19, some 4, some 5, some 6, some 7]
 refine oi h (fun hb46 h => ?_) (fun hb46 h => ?_)
 try simp only [*, go_sem]
 refine jn0 h ([zI 1 p1, zI 2 p2, zP 4 0, zP 7 1, zP 8 2, zP 11 3, zI 12 ((a8_1 : Nat) : Int), zI 13 v13, zI 90 ((x14.Tasks.length : Nat) : Int), zB 91 false]) ([ox p0.bx, ox p3.bx, ox [zi 0, .nl 6, .nl 12, .nl 8, .nl 6, zi 0, zi 0], ox [zi a8_2, .r 4 0 a8_5.length, .r 5 0 a8_6.length, .r 6 0 a8_7.length, .r 7 0 (a8_8.length + 1), zi a8_3, zi a8_4], oa 6 (a8_5.map Job.enc), oa 12 (a8_6.map Message.enc), oa 8 (a8_7.map Record.enc), oa 6 ((a8_8 ++ [(Reply.mk p2 4 x14.N 0 0 14)]).map Reply.enc)]) (fun k48 h => ?_) (fun h => ?_)
 refine ck h (fun _ h => ?_)
 try simp only [*, go_sem]
 exact jc () h.e [some 0, some 1, some 2, some 3, some 6, some 7, some 8, some 11]
 try simp only [*, go_sem]
 refine ct h 3 [] [] [4, 5, 6, 7] (reredosref_ended_ok G p0 p1 p2 (Turn.mk (Desk.mk a8_2 a8_5) a8_6 a8_7 (a8_8 ++ [(Reply.mk p2 4 x14.N 0 0 14)]) a8_3 a8_4) v13) (fun v50 h => ?_)
 have := wrap_succ_max hkx12 hl10
 try simp only [*, go_sem]
 exact lc (a8_1 + 1, v50.Desk.Next, v50.Sure, v50.Committed, v50.Desk.Jobs, v50.Messages, v50.Records, v50.Replies) h.e [some 0, some 1, some 2, some 3, some 8, some 9, some 10, some 11]
 try simp only [*, go_sem]
 refine jn0 h ([zI 1 p1, zI 2 p2, zP 4 0, zP 7 1, zP 8 2, zP 11 3, zI 12 ((a8_1 : Nat) : Int), zI 13 v13, zI 90 ((x14.Tasks.length : Nat) : Int), zB 91 false, (124, .one (.p (.q 4 0 1))), zI 125 4, zB 126 false]) ([ox p0.bx, ox p3.bx, ox [zi 0, .nl 6, .nl 12, .nl 8, .nl 6, zi 0, zi 0], ox [zi a8_2, .r 5 0 a8_5.length, .r 6 0 a8_6.length, .r 7 0 a8_7.length, .r 8 0 a8_8.length, zi a8_3, zi a8_4], ox [zi p2, zi 4, zi x14.N, zi 0, zi 0, zi 14], oa 6 (a8_5.map Job.enc), oa 12 (a8_6.map Message.enc), oa 8 (a8_7.map Record.enc), oa 6 (a8_8.map Reply.enc)]) (fun k53 h => ?_) (fun h => ?_)
 try simp only [*, go_sem]
 exact jc () h.e [some 0, some 1, some 2, some 3, some 5, some 6, some 7, some 8, some 9]
 try simp only [*, go_sem]
 refine ct h 3 [] [] [5, 6, 7, 8] (reredosref_ended_ok G p0 p1 p2 (Turn.mk (Desk.mk a8_2 a8_5) a8_6 a8_7 a8_8 a8_3 a8_4) v13) (fun v54 h => ?_)
 have := wrap_succ_max hkx12 hl10
 try simp only [*, go_sem]
 exact lc (a8_1 + 1, v54.Desk.Next, v54.Sure, v54.Committed, v54.Desk.Jobs, v54.Messages, v54.Records, v54.Replies) h.e [some 0, some 1, some 2, some 3, some 9, some 10, some 11, some 12]
 try simp only [*, go_sem]
 refine jn0 h ([zI 1 p1, zI 2 p2, zP 4 0, zP 7 1, zP 8 2, zP 11 3, zI 12 ((a8_1 : Nat) : Int), zI 13 v13, zP 14 4, zP 15 5]) ([ox p0.bx, ox p3.bx, ox [zi 0, .nl 6, .nl 12, .nl 8, .nl 6, zi 0, zi 0], ox [zi a8_2, .r 6 0 a8_5.length, .r 7 0 a8_6.length, .r 8 0 a8_7.length, .r 9 0 a8_8.length, zi a8_3, zi a8_4], ox [zi x14.N, zi x14.State, .d (.l 8 (x14.Tasks.map Task.enc)), .d (.l 1 (x14.Asked.map encI)), zi x14.Asks, .d (.i .i64 (IntKind.i64.wrap (x14.Age + 1)))], ox [zi p2, zi 4, zi x14.N, zi 0, zi 0, zi 14], oa 6 (a8_5.map Job.enc), oa 12 (a8_6.map Message.enc), oa 8 (a8_7.map Record.enc), oa 6 (a8_8.map Reply.enc)]) (fun k57 h => ?_) (fun h => ?_)
 try simp only [*, go_sem]
 exact jc () h.e [some 0, some 1, some 2, some 3, some 18, some 19, some 4, some 5, some 6, some 7]
 refine oi h (fun hb58 h => ?_) (fun hb58 h => ?_)
 try simp only [*, go_sem]
 refine jn0 h ([zI 1 p1, zI 2 p2, zP 4 0, zP 7 1, zP 8 2, zP 11 3, zI 12 ((a8_1 : Nat) : Int), zI 13 v13]) ([ox p0.bx, ox p3.bx, ox [zi 0, .nl 6, .nl 12, .nl 8, .nl 6, zi 0, zi 0], ox [zi a8_2, .r 4 0 a8_5.length, .r 5 0 a8_6.length, .r 6 0 a8_7.length, .r 7 0 (a8_8.length + 1), zi a8_3, zi a8_4], oa 6 (a8_5.map Job.enc), oa 12 (a8_6.map Message.enc), oa 8 (a8_7.map Record.enc), oa 6 ((a8_8 ++ [(Reply.mk p2 4 x14.N 0 0 14)]).map Reply.enc)]) (fun k60 h => ?_) (fun h => ?_)
 refine ck h (fun _ h => ?_)
 try simp only [*, go_sem]
 exact jc () h.e [some 0, some 1, some 2, some 3, some 6, some 7, some 8, some 11]
 try simp only [*, go_sem]
 refine ct h 3 [] [] [4, 5, 6, 7] (reredosref_ended_ok G p0 p1 p2 (Turn.mk (Desk.mk a8_2 a8_5) a8_6 a8_7 (a8_8 ++ [(Reply.mk p2 4 x14.N 0 0 14)]) a8_3 a8_4) v13) (fun v62 h => ?_)
 have := wrap_succ_max hkx12 hl10
 try simp only [*, go_sem]
 exact lc (a8_1 + 1, v62.Desk.Next, v62.Sure, v62.Committed, v62.Desk.Jobs, v62.Messages, v62.Records, v62.Replies) h.e [some 0, some 1, some 2, some 3, some 8, some 9, some 10, some 11]
 try simp only [*, go_sem]
 refine jn0 h ([zI 1 p1, zI 2 p2, zP 4 0, zP 7 1, zP 8 2, zP 11 3, zI 12 ((a8_1 : Nat) : Int), zI 13 v13, (124, .one (.p (.q 4 0 1))), zI 125 4, zB 126 false]) ([ox p0.bx, ox p3.bx, ox [zi 0, .nl 6, .nl 12, .nl 8, .nl 6, zi 0, zi 0], ox [zi a8_2, .r 5 0 a8_5.length, .r 6 0 a8_6.length, .r 7 0 a8_7.length, .r 8 0 a8_8.length, zi a8_3, zi a8_4], ox [zi p2, zi 4, zi x14.N, zi 0, zi 0, zi 14], oa 6 (a8_5.map Job.enc), oa 12 (a8_6.map Message.enc), oa 8 (a8_7.map Record.enc), oa 6 (a8_8.map Reply.enc)]) (fun k65 h => ?_) (fun h => ?_)
 try simp only [*, go_sem]
 exact jc () h.e [some 0, some 1, some 2, some 3, some 5, some 6, some 7, some 8, some 9]
 try simp only [*, go_sem]
 refine ct h 3 [] [] [5, 6, 7, 8] (reredosref_ended_ok G p0 p1 p2 (Turn.mk (Desk.mk a8_2 a8_5) a8_6 a8_7 a8_8 a8_3 a8_4) v13) (fun v66 h => ?_)
 have := wrap_succ_max hkx12 hl10
 try simp only [*, go_sem]
 exact lc (a8_1 + 1, v66.Desk.Next, v66.Sure, v66.Committed, v66.Desk.Jobs, v66.Messages, v66.Records, v66.Replies) h.e [some 0, some 1, some 2, some 3, some 9, some 10, some 11, some 12]
 try simp only [*, go_sem]
 exact jc (a8_2, a8_3, a8_4, a8_5, a8_6, a8_7, a8_8) h.e [some 2, some 3, some 4, some 5, some 6, some 7]
 cases h.e
 simp only [*, go_sem, mA, mS]
def reredoslaw_sameTasks_L1 (p0 : List Task) (p1 : List Task) (k5 : Option (Bool)) : Nat → Nat → Option (Bool)
 | 0, _ => none
 | n7 + 1, a6_1 => (if (decide (a6_1 < p0.length)) = true then (Option.bind (p0[a6_1]?) fun x10 => (Option.bind (p1[a6_1]?) fun x11 => (if (!((x10.Write == x11.Write) && ((x10.Label == x11.Label) && ((x10.Key == x11.Key) && ((x10.Value == x11.Value) && ((x10.Version == x11.Version) && ((x10.Ask == x11.Ask) && ((x10.Done == x11.Done) && (x10.Sure == x11.Sure))))))))) = true then (some false) else (reredoslaw_sameTasks_L1 p0 p1 k5 n7 (a6_1 + 1))))) else k5)
def reredoslaw_sameTasks (p0 : List Task) (p1 : List Task) : Option (Bool) := (if (((p0.length : Nat) : Int) != ((p1.length : Nat) : Int)) = true then (some false) else (withK (some true) fun k5 => (reredoslaw_sameTasks_L1 p0 p1 k5 (p0.length + 1) 0)))
def F24 : VFn := ⟨26, (.seq (.reg [vo 4 (.mv (cb false))]) (.seq (.seq (.reg [vm 6 0, ln 7 6, vm 8 1, ln 9 8, bt 10 .neq 7 9]) (.cond (.t 10) (.seq (.reg [vo 4 (.mv (cb false))]) .ret) .skip)) (.seq (.seq (.reg [mi 5 0]) (.wk (.block 0 (.loop (.seq (.seq (.reg [vm 11 5, vm 12 0, ln 13 12, bt 14 .lss 11 13]) (.cond (.t 14) .skip (.exit 0))) (.seq (.block 1 (.seq (.draw [vd (vm 17 0) 0, vd (vm 18 5) 0, vd (xa 19 8 17 18) 3, vd (vl 20 8 19) 7, vd (vm 21 1) 0, vd (vm 22 5) 0, vd (xa 23 8 21 22) 48, vd (vl 24 8 23) 112, vd (vo 25 (.eqs true [.b, .i, .i, .i, .i, .i, .b, .b] (.t 20) (.t 24))) 255]) (.cond (.t 25) (.seq (.reg [vo 4 (.mv (cb false))]) .ret) .skip))) (.reg [vm 15 5, bk 16 .add 15 1, vm 5 16]))))))) (.seq (.reg [vo 4 (.mv (cb true))]) .ret)))), [.t 4]⟩
theorem low24 : lowF Try.prog 24 = some F24.strip := by kernel_rfl
theorem fok24 : fOk Try.prog 24 = true := by kernel_rfl
theorem reredoslaw_sameTasks_ok (p0 : List Task) (p1 : List Task) (r : Bool) (h : reredoslaw_sameTasks p0 p1 = some r) : FnRO Try.prog G 24 [.one (.d (.l 8 (p0.map Task.enc))), .one (.d (.l 8 (p1.map Task.enc)))] (fun rs => rs = [.one (.b r)]) := by
 refine FnRO.of' low24 fok24 (by simp [F24]) ?_
 rw [reredoslaw_sameTasks] at h
 replace h := Hd.mk h
 simp only [F24, go_sem]
 try simp only [*, go_sem]
 intro hl1
 try simp only [*, go_sem]
 intro hl2
 refine oi h (fun hb3 h => ?_) (fun hb3 h => ?_)
 cases h.e
 simp only [*, go_sem, mA, mS]
 try simp only [*, go_sem]
 refine jn0 h ([]) ([]) (fun k5 h => ?_) (fun h => ?_)
 try simp only [*, go_sem]
 refine lp1 (reredoslaw_sameTasks_L1 p0 p1 k5) (fun a6_1 => [zL 0 8 (p0.map Task.enc), zL 1 8 (p1.map Task.enc), zI 5 ((a6_1 : Nat) : Int)]) (fun a6_1 => []) h [] [] (fun n7 a6_1 h => ?_) (by intros; rw [reredoslaw_sameTasks_L1])
 rw [reredoslaw_sameTasks_L1] at h
 try simp only [*, go_sem]
 intro hl8
 refine oi h (fun hb9 h => ?_) (fun hb9 h => ?_)
 have := of_decide_eq_true hb9
 refine obg h (fun x10 _ hkx10 h => ?_)
 refine obg h (fun x11 _ _ h => ?_)
 refine oin h (fun hb12 hkhb12 h => ?_) (fun hb12 hkhb12 h => ?_)
 try simp only [*, go_sem]
 cases h.e
 simp only [*, go_sem, mA, mS]
 try simp only [*, go_sem]
 have := wrap_succ_max hkx10 hl1
 try simp only [*, go_sem]
 exact lc (a6_1 + 1) h.e []
 try simp only [*, go_sem]
 exact jc () h.e []
 cases h.e
 simp only [*, go_sem, mA, mS]
def reredoslaw_sameInts_L1 (p0 : List Int) (p1 : List Int) (k5 : Option (Bool)) : Nat → Nat → Option (Bool)
 | 0, _ => none
 | n7 + 1, a6_1 => (if (decide (a6_1 < p0.length)) = true then (Option.bind (p0[a6_1]?) fun x10 => (Option.bind (p1[a6_1]?) fun x11 => (if (x10 != x11) = true then (some false) else (reredoslaw_sameInts_L1 p0 p1 k5 n7 (a6_1 + 1))))) else k5)
def reredoslaw_sameInts (p0 : List Int) (p1 : List Int) : Option (Bool) := (if (((p0.length : Nat) : Int) != ((p1.length : Nat) : Int)) = true then (some false) else (withK (some true) fun k5 => (reredoslaw_sameInts_L1 p0 p1 k5 (p0.length + 1) 0)))
def F25 : VFn := ⟨26, (.seq (.reg [vo 4 (.mv (cb false))]) (.seq (.seq (.reg [vm 6 0, ln 7 6, vm 8 1, ln 9 8, bt 10 .neq 7 9]) (.cond (.t 10) (.seq (.reg [vo 4 (.mv (cb false))]) .ret) .skip)) (.seq (.seq (.reg [mi 5 0]) (.wk (.block 0 (.loop (.seq (.seq (.reg [vm 11 5, vm 12 0, ln 13 12, bt 14 .lss 11 13]) (.cond (.t 14) .skip (.exit 0))) (.seq (.block 1 (.seq (.draw [vd (vm 17 0) 0, vd (vm 18 5) 0, vd (xa 19 1 17 18) 3, vd (vs 20 19) 7, vd (vm 21 1) 0, vd (vm 22 5) 0, vd (xa 23 1 21 22) 48, vd (vs 24 23) 112, vd (bt 25 .neq 20 24) 255]) (.cond (.t 25) (.seq (.reg [vo 4 (.mv (cb false))]) .ret) .skip))) (.reg [vm 15 5, bk 16 .add 15 1, vm 5 16]))))))) (.seq (.reg [vo 4 (.mv (cb true))]) .ret)))), [.t 4]⟩
theorem low25 : lowF Try.prog 25 = some F25.strip := by kernel_rfl
theorem fok25 : fOk Try.prog 25 = true := by kernel_rfl
theorem reredoslaw_sameInts_ok (p0 : List Int) (p1 : List Int) (r : Bool) (h : reredoslaw_sameInts p0 p1 = some r) : FnRO Try.prog G 25 [.one (.d (.l 1 (p0.map encI))), .one (.d (.l 1 (p1.map encI)))] (fun rs => rs = [.one (.b r)]) := by
 refine FnRO.of' low25 fok25 (by simp [F25]) ?_
 rw [reredoslaw_sameInts] at h
 replace h := Hd.mk h
 simp only [F25, go_sem]
 try simp only [*, go_sem]
 intro hl1
 try simp only [*, go_sem]
 intro hl2
 refine oi h (fun hb3 h => ?_) (fun hb3 h => ?_)
 cases h.e
 simp only [*, go_sem, mA, mS]
 try simp only [*, go_sem]
 refine jn0 h ([]) ([]) (fun k5 h => ?_) (fun h => ?_)
 try simp only [*, go_sem]
 refine lp1 (reredoslaw_sameInts_L1 p0 p1 k5) (fun a6_1 => [zL 0 1 (p0.map encI), zL 1 1 (p1.map encI), zI 5 ((a6_1 : Nat) : Int)]) (fun a6_1 => []) h [] [] (fun n7 a6_1 h => ?_) (by intros; rw [reredoslaw_sameInts_L1])
 rw [reredoslaw_sameInts_L1] at h
 try simp only [*, go_sem]
 intro hl8
 refine oi h (fun hb9 h => ?_) (fun hb9 h => ?_)
 have := of_decide_eq_true hb9
 refine obg h (fun x10 _ hkx10 h => ?_)
 refine obg h (fun x11 _ _ h => ?_)
 refine oi h (fun hb12 h => ?_) (fun hb12 h => ?_)
 cases h.e
 simp only [*, go_sem, mA, mS]
 have := wrap_succ_max hkx10 hl1
 try simp only [*, go_sem]
 exact lc (a6_1 + 1) h.e []
 try simp only [*, go_sem]
 exact jc () h.e []
 cases h.e
 simp only [*, go_sem, mA, mS]
def reredoslaw_sameDesk_L1 (p0 : Desk) (p1 : Desk) (k6 : Option (Bool)) : Nat → Nat → Option (Bool)
 | 0, _ => none
 | n8 + 1, a7_1 => (if (decide (a7_1 < p0.Jobs.length)) = true then (Option.bind (p0.Jobs[a7_1]?) fun x11 => (Option.bind (p1.Jobs[a7_1]?) fun x12 => (if (x11.N != x12.N) = true then (some false) else (if (x11.State != x12.State) = true then (some false) else (if (x11.Asks != x12.Asks) = true then (some false) else (if (x11.Age != x12.Age) = true then (some false) else (Option.bind (reredoslaw_sameTasks x11.Tasks x12.Tasks) fun v17 => (if (!v17) = true then (some false) else (Option.bind (reredoslaw_sameInts x11.Asked x12.Asked) fun v19 => (if (!v19) = true then (some false) else (reredoslaw_sameDesk_L1 p0 p1 k6 n8 (a7_1 + 1)))))))))))) else k6)
def reredoslaw_sameDesk (p0 : Desk) (p1 : Desk) : Option (Bool) := (if (p0.Next != p1.Next) = true then (some false) else (if (((p0.Jobs.length : Nat) : Int) != ((p1.Jobs.length : Nat) : Int)) = true then (some false) else (withK (some true) fun k6 => (reredoslaw_sameDesk_L1 p0 p1 k6 (p0.Jobs.length + 1) 0))))
def F9 : VFn := ⟨81, (.seq (.reg [vo 2 (.box 2 (.t 0)), vo 3 (.box 2 (.t 1)), vo 4 (.mv (cb false))]) (.seq (.seq (.reg [vf 8 0 2, vs 9 8, vf 10 0 3, vs 11 10, bt 12 .neq 9 11, vm 13 12, gf 14 13 (.fa 1 (.t 2)), gf 15 13 (.ld false 1 (.t 14)), gf 16 13 (.len (.t 15)), gf 17 13 (.fa 1 (.t 3)), gf 18 13 (.ld false 1 (.t 17)), gf 19 13 (.len (.t 18)), gf 20 13 (.bin .i .neq (.t 16) (.t 19)), vo 21 (.pick (.t 13) (cb true) (.t 20))]) (.cond (.t 21) (.seq (.reg [vo 4 (.mv (cb false))]) .ret) .skip)) (.seq (.seq (.reg [mi 5 0]) (.wk (.block 0 (.loop (.seq (.seq (.reg [vm 22 5, vf 23 1 2, vs 24 23, ln 25 24, bt 26 .lss 22 25]) (.cond (.t 26) .skip (.exit 0))) (.seq (.block 1 (.seq (.reg [vf 29 1 2, vs 30 29, vm 31 5, xa 32 6 30 31, vl 33 6 32, vo 6 (.alloc [(zi 0), (zi 0), (.nl 8), (.nl 1), (zi 0), (zi 0)]), vu (.st 6 (.t 6) (.t 33))]) (.seq (.reg [vf 34 1 3, vs 35 34, vm 36 5, xa 37 6 35 36, vl 38 6 37, vo 7 (.alloc [(zi 0), (zi 0), (.nl 8), (.nl 1), (zi 0), (zi 0)]), vu (.st 6 (.t 7) (.t 38))]) (.seq (.reg [vf 39 0 6, vs 40 39, vf 41 0 7, vs 42 41, bt 43 .neq 40 42, vm 44 43, gf 45 44 (.fa 1 (.t 6)), gf 46 44 (.ld false 1 (.t 45)), gf 47 44 (.fa 1 (.t 7)), gf 48 44 (.ld false 1 (.t 47)), gf 49 44 (.bin .i .neq (.t 46) (.t 48)), vo 50 (.pick (.t 44) (cb true) (.t 49)), vm 51 50, gf 52 51 (.fa 4 (.t 6)), gf 53 51 (.ld false 1 (.t 52)), gf 54 51 (.fa 4 (.t 7)), gf 55 51 (.ld false 1 (.t 54)), gf 56 51 (.bin .i .neq (.t 53) (.t 55)), vo 57 (.pick (.t 51) (cb true) (.t 56)), vm 58 57, gf 59 58 (.fa 5 (.t 6)), gf 60 58 (.ld false 1 (.t 59)), gf 61 58 (.fa 5 (.t 7)), gf 62 58 (.ld false 1 (.t 61)), gf 63 58 (.bin .i .neq (.t 60) (.t 62)), vo 64 (.pick (.t 58) (cb true) (.t 63)), vm 65 64, gf 66 65 (.fa 2 (.t 6)), gf 67 65 (.ld false 1 (.t 66)), gf 68 65 (.fa 2 (.t 7)), gf 69 65 (.ld false 1 (.t 68)), gf 70 65 (.call 24 [(.t 67), (.t 69)]), gf 71 65 (.un .not (.t 70)), vo 72 (.pick (.t 65) (cb true) (.t 71)), vm 73 72, gf 74 73 (.fa 3 (.t 6)), gf 75 73 (.ld false 1 (.t 74)), gf 76 73 (.fa 3 (.t 7)), gf 77 73 (.ld false 1 (.t 76)), gf 78 73 (.call 25 [(.t 75), (.t 77)]), gf 79 73 (.un .not (.t 78)), vo 80 (.pick (.t 73) (cb true) (.t 79))]) (.cond (.t 80) (.seq (.reg [vo 4 (.mv (cb false))]) .ret) .skip))))) (.reg [vm 27 5, bk 28 .add 27 1, vm 5 28]))))))) (.seq (.reg [vo 4 (.mv (cb true))]) .ret)))), [.t 4]⟩
theorem low9 : lowF Try.prog 9 = some F9.strip := by kernel_rfl
theorem fok9 : fOk Try.prog 9 = true := by kernel_rfl
theorem reredoslaw_sameDesk_ok (p0 : Desk) (p1 : Desk) (r : Bool) (h : reredoslaw_sameDesk p0 p1 = some r) : FnRO Try.prog G 9 [.agg p0.bx, .agg p1.bx] (fun rs => rs = [.one (.b r)]) := by
 refine FnRO.of' low9 fok9 (by simp [F9]) ?_
 rw [reredoslaw_sameDesk] at h
 replace h := Hd.mk h
 simp only [F9, go_sem]
 refine oi h (fun hb1 h => ?_) (fun hb1 h => ?_)
 cases h.e
 simp only [*, go_sem, mA, mS]
 try simp only [*, go_sem]
 intro hl2
 try simp only [*, go_sem]
 intro hl3
 refine oi h (fun hb4 h => ?_) (fun hb4 h => ?_)
 cases h.e
 simp only [*, go_sem, mA, mS]
 try simp only [*, go_sem]
 refine jn0 h ([]) ([]) (fun k6 h => ?_) (fun h => ?_)
 try simp only [*, go_sem]
 refine lp1 (reredoslaw_sameDesk_L1 p0 p1 k6) (fun a7_1 => [zP 2 0, zP 3 1, zI 5 ((a7_1 : Nat) : Int)]) (fun a7_1 => [ox p0.bx, ox p1.bx]) h [] [some 0, some 1] (fun n8 a7_1 h => ?_) (by intros; rw [reredoslaw_sameDesk_L1])
 rw [reredoslaw_sameDesk_L1] at h
 try simp only [*, go_sem]
 intro hl9
 refine oi h (fun hb10 h => ?_) (fun hb10 h => ?_)
 have := of_decide_eq_true hb10
 refine obg h (fun x11 _ hkx11 h => ?_)
 refine obg h (fun x12 _ _ h => ?_)
 refine oi h (fun hb13 h => ?_) (fun hb13 h => ?_)
 cases h.e
 simp only [*, go_sem, mA, mS]
 refine oi h (fun hb14 h => ?_) (fun hb14 h => ?_)
 cases h.e
 simp only [*, go_sem, mA, mS]
 refine oi h (fun hb15 h => ?_) (fun hb15 h => ?_)
 cases h.e
 simp only [*, go_sem, mA, mS]
 refine oi h (fun hb16 h => ?_) (fun hb16 h => ?_)
 cases h.e
 simp only [*, go_sem, mA, mS]
 try simp only [*, go_sem]
 refine cr h (reredoslaw_sameTasks_ok G x11.Tasks x12.Tasks) (fun v17 h => ?_)
 refine oin h (fun hb18 hkhb18 h => ?_) (fun hb18 hkhb18 h => ?_)
 cases h.e
 simp only [*, go_sem, mA, mS]
 try simp only [*, go_sem]
 refine cr h (reredoslaw_sameInts_ok G x11.Asked x12.Asked) (fun v19 h => ?_)
 refine oin h (fun hb20 hkhb20 h => ?_) (fun hb20 hkhb20 h => ?_)
 cases h.e
 simp only [*, go_sem, mA, mS]
 have := wrap_succ_max hkx11 hl2
 try simp only [*, go_sem]
 exact lc (a7_1 + 1) h.e [some 0, some 1]
 try simp only [*, go_sem]
 exact jc () h.e []
 cases h.e
 simp only [*, go_sem, mA, mS]
def reredoslaw_sameMessages_L1 (p0 : List Message) (p1 : List Message) (k5 : Option (Bool)) : Nat → Nat → Option (Bool)
 | 0, _ => none
 | n7 + 1, a6_1 => (if (decide (a6_1 < p0.length)) = true then (Option.bind (p0[a6_1]?) fun x10 => (Option.bind (p1[a6_1]?) fun x11 => (if (!((x10.Kind == x11.Kind) && ((x10.From == x11.From) && ((x10.To == x11.To) && ((x10.Txn.Site == x11.Txn.Site) && ((x10.Txn.N == x11.Txn.N) && ((x10.Label == x11.Label) && ((x10.Key == x11.Key) && ((x10.Value == x11.Value) && ((x10.Version == x11.Version) && ((x10.Ask == x11.Ask) && ((x10.Yes == x11.Yes) && (x10.Code == x11.Code))))))))))))) = true then (some false) else (reredoslaw_sameMessages_L1 p0 p1 k5 n7 (a6_1 + 1))))) else k5)
def reredoslaw_sameMessages (p0 : List Message) (p1 : List Message) : Option (Bool) := (if (((p0.length : Nat) : Int) != ((p1.length : Nat) : Int)) = true then (some false) else (withK (some true) fun k5 => (reredoslaw_sameMessages_L1 p0 p1 k5 (p0.length + 1) 0)))
def F21 : VFn := ⟨26, (.seq (.reg [vo 4 (.mv (cb false))]) (.seq (.seq (.reg [vm 6 0, ln 7 6, vm 8 1, ln 9 8, bt 10 .neq 7 9]) (.cond (.t 10) (.seq (.reg [vo 4 (.mv (cb false))]) .ret) .skip)) (.seq (.seq (.reg [mi 5 0]) (.wk (.block 0 (.loop (.seq (.seq (.reg [vm 11 5, vm 12 0, ln 13 12, bt 14 .lss 11 13]) (.cond (.t 14) .skip (.exit 0))) (.seq (.block 1 (.seq (.draw [vd (vm 17 0) 0, vd (vm 18 5) 0, vd (xa 19 12 17 18) 3, vd (vl 20 12 19) 7, vd (vm 21 1) 0, vd (vm 22 5) 0, vd (xa 23 12 21 22) 48, vd (vl 24 12 23) 112, vd (vo 25 (.eqs true [.i, .i, .i, .i, .i, .i, .i, .i, .i, .i, .b, .i] (.t 20) (.t 24))) 255]) (.cond (.t 25) (.seq (.reg [vo 4 (.mv (cb false))]) .ret) .skip))) (.reg [vm 15 5, bk 16 .add 15 1, vm 5 16]))))))) (.seq (.reg [vo 4 (.mv (cb true))]) .ret)))), [.t 4]⟩
theorem low21 : lowF Try.prog 21 = some F21.strip := by kernel_rfl
theorem fok21 : fOk Try.prog 21 = true := by kernel_rfl
theorem reredoslaw_sameMessages_ok (p0 : List Message) (p1 : List Message) (r : Bool) (h : reredoslaw_sameMessages p0 p1 = some r) : FnRO Try.prog G 21 [.one (.d (.l 12 (p0.map Message.enc))), .one (.d (.l 12 (p1.map Message.enc)))] (fun rs => rs = [.one (.b r)]) := by
 refine FnRO.of' low21 fok21 (by simp [F21]) ?_
 rw [reredoslaw_sameMessages] at h
 replace h := Hd.mk h
 simp only [F21, go_sem]
 try simp only [*, go_sem]
 intro hl1
 try simp only [*, go_sem]
 intro hl2
 refine oi h (fun hb3 h => ?_) (fun hb3 h => ?_)
 cases h.e
 simp only [*, go_sem, mA, mS]
 try simp only [*, go_sem]
 refine jn0 h ([]) ([]) (fun k5 h => ?_) (fun h => ?_)
 try simp only [*, go_sem]
 refine lp1 (reredoslaw_sameMessages_L1 p0 p1 k5) (fun a6_1 => [zL 0 12 (p0.map Message.enc), zL 1 12 (p1.map Message.enc), zI 5 ((a6_1 : Nat) : Int)]) (fun a6_1 => []) h [] [] (fun n7 a6_1 h => ?_) (by intros; rw [reredoslaw_sameMessages_L1])
 rw [reredoslaw_sameMessages_L1] at h
 try simp only [*, go_sem]
 intro hl8
 refine oi h (fun hb9 h => ?_) (fun hb9 h => ?_)
 have := of_decide_eq_true hb9
 refine obg h (fun x10 _ hkx10 h => ?_)
 refine obg h (fun x11 _ _ h => ?_)
 refine oin h (fun hb12 hkhb12 h => ?_) (fun hb12 hkhb12 h => ?_)
 try simp only [*, go_sem]
 cases h.e
 simp only [*, go_sem, mA, mS]
 try simp only [*, go_sem]
 have := wrap_succ_max hkx10 hl1
 try simp only [*, go_sem]
 exact lc (a6_1 + 1) h.e []
 try simp only [*, go_sem]
 exact jc () h.e []
 cases h.e
 simp only [*, go_sem, mA, mS]
def reredoslaw_sameRecord (p0 : Record) (p1 : Record) : Option (Bool) := (withK (fun (b1_1 : Bool) => (some b1_1)) fun k2 => (if (p0.Kind == p1.Kind) = true then (if ((p0.Txn.Site == p1.Txn.Site) && (p0.Txn.N == p1.Txn.N)) = true then (if (p0.Key == p1.Key) = true then (if (p0.Value == p1.Value) = true then (if (p0.Ask == p1.Ask) = true then (if (p0.Yes == p1.Yes) = true then (Option.bind (reredoslaw_sameInts p0.Sites p1.Sites) fun v9 => (k2 v9)) else (k2 false)) else (k2 false)) else (k2 false)) else (k2 false)) else (k2 false)) else (k2 false)))
def F45 : VFn := ⟨52, (.seq (.reg [vo 2 (.box 8 (.t 0)), vo 3 (.box 8 (.t 1)), vo 4 (.mv (cb false))]) (.seq (.wk (.reg [vf 5 0 2, vs 6 5, vf 7 0 3, vs 8 7, bt 9 .eql 6 8, vm 10 9, gt 11 10 (.fa 1 (.t 2)), gt 12 10 (.ld true 2 (.t 11)), gt 13 10 (.fa 1 (.t 3)), gt 14 10 (.ld true 2 (.t 13)), gt 15 10 (.eqs false [.i, .i] (.t 12) (.t 14)), vo 16 (.pick (.t 10) (.t 15) (cb false)), vm 17 16, gt 18 17 (.fa 3 (.t 2)), gt 19 17 (.ld false 1 (.t 18)), gt 20 17 (.fa 3 (.t 3)), gt 21 17 (.ld false 1 (.t 20)), gt 22 17 (.bin .i .eql (.t 19) (.t 21)), vo 23 (.pick (.t 17) (.t 22) (cb false)), vm 24 23, gt 25 24 (.fa 4 (.t 2)), gt 26 24 (.ld false 1 (.t 25)), gt 27 24 (.fa 4 (.t 3)), gt 28 24 (.ld false 1 (.t 27)), gt 29 24 (.bin .i .eql (.t 26) (.t 28)), vo 30 (.pick (.t 24) (.t 29) (cb false)), vm 31 30, gt 32 31 (.fa 5 (.t 2)), gt 33 31 (.ld false 1 (.t 32)), gt 34 31 (.fa 5 (.t 3)), gt 35 31 (.ld false 1 (.t 34)), gt 36 31 (.bin .i .eql (.t 33) (.t 35)), vo 37 (.pick (.t 31) (.t 36) (cb false)), vm 38 37, gt 39 38 (.fa 6 (.t 2)), gt 40 38 (.ld false 1 (.t 39)), gt 41 38 (.fa 6 (.t 3)), gt 42 38 (.ld false 1 (.t 41)), gt 43 38 (.bin .b .eql (.t 40) (.t 42)), vo 44 (.pick (.t 38) (.t 43) (cb false)), vm 45 44, gt 46 45 (.fa 7 (.t 2)), gt 47 45 (.ld false 1 (.t 46)), gt 48 45 (.fa 7 (.t 3)), gt 49 45 (.ld false 1 (.t 48)), gt 50 45 (.call 25 [(.t 47), (.t 49)]), vo 51 (.pick (.t 45) (.t 50) (cb false)), vm 4 51])) .ret)), [.t 4]⟩
theorem low45 : lowF Try.prog 45 = some F45.strip := by kernel_rfl
theorem fok45 : fOk Try.prog 45 = true := by kernel_rfl
theorem reredoslaw_sameRecord_ok (p0 : Record) (p1 : Record) (r : Bool) (h : reredoslaw_sameRecord p0 p1 = some r) : FnRO Try.prog G 45 [.agg p0.bx, .agg p1.bx] (fun rs => rs = [.one (.b r)]) := by
 refine FnRO.of' low45 fok45 (by simp [F45]) ?_
 rw [reredoslaw_sameRecord] at h
 replace h := Hd.mk h
 simp only [F45, go_sem]
 try simp only [*, go_sem]
 refine jn1 h (fun b1_1 => [zB 4 b1_1]) (fun b1_1 => []) (fun k2 h => ?_) (fun b1_1 h => ?_)
 refine oi h (fun hb3 h => ?_) (fun hb3 h => ?_)
 refine oi h (fun hb4 h => ?_) (fun hb4 h => ?_)
 try simp only [*, go_sem]
 refine oi h (fun hb5 h => ?_) (fun hb5 h => ?_)
 refine oi h (fun hb6 h => ?_) (fun hb6 h => ?_)
 refine oi h (fun hb7 h => ?_) (fun hb7 h => ?_)
 refine oi h (fun hb8 h => ?_) (fun hb8 h => ?_)
 try simp only [*, go_sem]
 refine cr h (reredoslaw_sameInts_ok G p0.Sites p1.Sites) (fun v9 h => ?_)
 try simp only [*, go_sem]
 exact jc (v9) h.e []
 try simp only [*, go_sem]
 exact jc (false) h.e []
 try simp only [*, go_sem]
 exact jc (false) h.e []
 try simp only [*, go_sem]
 exact jc (false) h.e []
 try simp only [*, go_sem]
 exact jc (false) h.e []
 try simp only [*, go_sem]
 try simp only [*, go_sem]
 exact jc (false) h.e []
 try simp only [*, go_sem]
 exact jc (false) h.e []
 cases h.e
 simp only [*, go_sem, mA, mS]
def reredoslaw_sameRecords_L1 (p0 : List Record) (p1 : List Record) (k5 : Option (Bool)) : Nat → Nat → Option (Bool)
 | 0, _ => none
 | n7 + 1, a6_1 => (if (decide (a6_1 < p0.length)) = true then (Option.bind (p0[a6_1]?) fun x10 => (Option.bind (p1[a6_1]?) fun x11 => (Option.bind (reredoslaw_sameRecord x10 x11) fun v12 => (if (!v12) = true then (some false) else (reredoslaw_sameRecords_L1 p0 p1 k5 n7 (a6_1 + 1)))))) else k5)
def reredoslaw_sameRecords (p0 : List Record) (p1 : List Record) : Option (Bool) := (if (((p0.length : Nat) : Int) != ((p1.length : Nat) : Int)) = true then (some false) else (withK (some true) fun k5 => (reredoslaw_sameRecords_L1 p0 p1 k5 (p0.length + 1) 0)))
def F22 : VFn := ⟨27, (.seq (.reg [vo 4 (.mv (cb false))]) (.seq (.seq (.reg [vm 6 0, ln 7 6, vm 8 1, ln 9 8, bt 10 .neq 7 9]) (.cond (.t 10) (.seq (.reg [vo 4 (.mv (cb false))]) .ret) .skip)) (.seq (.seq (.reg [mi 5 0]) (.wk (.block 0 (.loop (.seq (.seq (.reg [vm 11 5, vm 12 0, ln 13 12, bt 14 .lss 11 13]) (.cond (.t 14) .skip (.exit 0))) (.seq (.block 1 (.seq (.draw [vd (vm 17 0) 0, vd (vm 18 5) 0, vd (xa 19 8 17 18) 3, vd (vl 20 8 19) 7, vd (vm 21 1) 0, vd (vm 22 5) 0, vd (xa 23 8 21 22) 48, vd (vl 24 8 23) 112, vd (vo 25 (.call 45 [(.t 20), (.t 24)])) 255, vd (nt 26 25) 511]) (.cond (.t 26) (.seq (.reg [vo 4 (.mv (cb false))]) .ret) .skip))) (.reg [vm 15 5, bk 16 .add 15 1, vm 5 16]))))))) (.seq (.reg [vo 4 (.mv (cb true))]) .ret)))), [.t 4]⟩
theorem low22 : lowF Try.prog 22 = some F22.strip := by kernel_rfl
theorem fok22 : fOk Try.prog 22 = true := by kernel_rfl
theorem reredoslaw_sameRecords_ok (p0 : List Record) (p1 : List Record) (r : Bool) (h : reredoslaw_sameRecords p0 p1 = some r) : FnRO Try.prog G 22 [.one (.d (.l 8 (p0.map Record.enc))), .one (.d (.l 8 (p1.map Record.enc)))] (fun rs => rs = [.one (.b r)]) := by
 refine FnRO.of' low22 fok22 (by simp [F22]) ?_
 rw [reredoslaw_sameRecords] at h
 replace h := Hd.mk h
 simp only [F22, go_sem]
 try simp only [*, go_sem]
 intro hl1
 try simp only [*, go_sem]
 intro hl2
 refine oi h (fun hb3 h => ?_) (fun hb3 h => ?_)
 cases h.e
 simp only [*, go_sem, mA, mS]
 try simp only [*, go_sem]
 refine jn0 h ([]) ([]) (fun k5 h => ?_) (fun h => ?_)
 try simp only [*, go_sem]
 refine lp1 (reredoslaw_sameRecords_L1 p0 p1 k5) (fun a6_1 => [zL 0 8 (p0.map Record.enc), zL 1 8 (p1.map Record.enc), zI 5 ((a6_1 : Nat) : Int)]) (fun a6_1 => []) h [] [] (fun n7 a6_1 h => ?_) (by intros; rw [reredoslaw_sameRecords_L1])
 rw [reredoslaw_sameRecords_L1] at h
 try simp only [*, go_sem]
 intro hl8
 refine oi h (fun hb9 h => ?_) (fun hb9 h => ?_)
 have := of_decide_eq_true hb9
 refine obg h (fun x10 _ hkx10 h => ?_)
 refine obg h (fun x11 _ _ h => ?_)
 refine obk h (fun v12 hv12 h => ?_)
 try simp only [*, go_sem]
 refine cd (reredoslaw_sameRecord_ok G x10 x11 v12 hv12) ?_
 refine oin h (fun hb13 hkhb13 h => ?_) (fun hb13 hkhb13 h => ?_)
 cases h.e
 simp only [*, go_sem, mA, mS]
 have := wrap_succ_max hkx10 hl1
 try simp only [*, go_sem]
 exact lc (a6_1 + 1) h.e []
 try simp only [*, go_sem]
 exact jc () h.e []
 cases h.e
 simp only [*, go_sem, mA, mS]
def reredoslaw_sameReplies_L1 (p0 : List Reply) (p1 : List Reply) (k5 : Option (Bool)) : Nat → Nat → Option (Bool)
 | 0, _ => none
 | n7 + 1, a6_1 => (if (decide (a6_1 < p0.length)) = true then (Option.bind (p0[a6_1]?) fun x10 => (Option.bind (p1[a6_1]?) fun x11 => (if (!((x10.Site == x11.Site) && ((x10.Kind == x11.Kind) && ((x10.N == x11.N) && ((x10.Key == x11.Key) && ((x10.Value == x11.Value) && (x10.Code == x11.Code))))))) = true then (some false) else (reredoslaw_sameReplies_L1 p0 p1 k5 n7 (a6_1 + 1))))) else k5)
def reredoslaw_sameReplies (p0 : List Reply) (p1 : List Reply) : Option (Bool) := (if (((p0.length : Nat) : Int) != ((p1.length : Nat) : Int)) = true then (some false) else (withK (some true) fun k5 => (reredoslaw_sameReplies_L1 p0 p1 k5 (p0.length + 1) 0)))
def F23 : VFn := ⟨26, (.seq (.reg [vo 4 (.mv (cb false))]) (.seq (.seq (.reg [vm 6 0, ln 7 6, vm 8 1, ln 9 8, bt 10 .neq 7 9]) (.cond (.t 10) (.seq (.reg [vo 4 (.mv (cb false))]) .ret) .skip)) (.seq (.seq (.reg [mi 5 0]) (.wk (.block 0 (.loop (.seq (.seq (.reg [vm 11 5, vm 12 0, ln 13 12, bt 14 .lss 11 13]) (.cond (.t 14) .skip (.exit 0))) (.seq (.block 1 (.seq (.draw [vd (vm 17 0) 0, vd (vm 18 5) 0, vd (xa 19 6 17 18) 3, vd (vl 20 6 19) 7, vd (vm 21 1) 0, vd (vm 22 5) 0, vd (xa 23 6 21 22) 48, vd (vl 24 6 23) 112, vd (vo 25 (.eqs true [.i, .i, .i, .i, .i, .i] (.t 20) (.t 24))) 255]) (.cond (.t 25) (.seq (.reg [vo 4 (.mv (cb false))]) .ret) .skip))) (.reg [vm 15 5, bk 16 .add 15 1, vm 5 16]))))))) (.seq (.reg [vo 4 (.mv (cb true))]) .ret)))), [.t 4]⟩
theorem low23 : lowF Try.prog 23 = some F23.strip := by kernel_rfl
theorem fok23 : fOk Try.prog 23 = true := by kernel_rfl
theorem reredoslaw_sameReplies_ok (p0 : List Reply) (p1 : List Reply) (r : Bool) (h : reredoslaw_sameReplies p0 p1 = some r) : FnRO Try.prog G 23 [.one (.d (.l 6 (p0.map Reply.enc))), .one (.d (.l 6 (p1.map Reply.enc)))] (fun rs => rs = [.one (.b r)]) := by
 refine FnRO.of' low23 fok23 (by simp [F23]) ?_
 rw [reredoslaw_sameReplies] at h
 replace h := Hd.mk h
 simp only [F23, go_sem]
 try simp only [*, go_sem]
 intro hl1
 try simp only [*, go_sem]
 intro hl2
 refine oi h (fun hb3 h => ?_) (fun hb3 h => ?_)
 cases h.e
 simp only [*, go_sem, mA, mS]
 try simp only [*, go_sem]
 refine jn0 h ([]) ([]) (fun k5 h => ?_) (fun h => ?_)
 try simp only [*, go_sem]
 refine lp1 (reredoslaw_sameReplies_L1 p0 p1 k5) (fun a6_1 => [zL 0 6 (p0.map Reply.enc), zL 1 6 (p1.map Reply.enc), zI 5 ((a6_1 : Nat) : Int)]) (fun a6_1 => []) h [] [] (fun n7 a6_1 h => ?_) (by intros; rw [reredoslaw_sameReplies_L1])
 rw [reredoslaw_sameReplies_L1] at h
 try simp only [*, go_sem]
 intro hl8
 refine oi h (fun hb9 h => ?_) (fun hb9 h => ?_)
 have := of_decide_eq_true hb9
 refine obg h (fun x10 _ hkx10 h => ?_)
 refine obg h (fun x11 _ _ h => ?_)
 refine oin h (fun hb12 hkhb12 h => ?_) (fun hb12 hkhb12 h => ?_)
 try simp only [*, go_sem]
 cases h.e
 simp only [*, go_sem, mA, mS]
 try simp only [*, go_sem]
 have := wrap_succ_max hkx10 hl1
 try simp only [*, go_sem]
 exact lc (a6_1 + 1) h.e []
 try simp only [*, go_sem]
 exact jc () h.e []
 cases h.e
 simp only [*, go_sem, mA, mS]
def reredoslaw_sameTurn (p0 : Turn) (p1 : Turn) : Option (Bool) := (withK (fun (b1_1 : Bool) => (some b1_1)) fun k2 => (if (p0.Sure == p1.Sure) = true then (if (p0.Committed == p1.Committed) = true then (Option.bind (reredoslaw_sameDesk p0.Desk p1.Desk) fun v5 => (if v5 = true then (Option.bind (reredoslaw_sameMessages p0.Messages p1.Messages) fun v7 => (if v7 = true then (Option.bind (reredoslaw_sameRecords p0.Records p1.Records) fun v9 => (if v9 = true then (Option.bind (reredoslaw_sameReplies p0.Replies p1.Replies) fun v11 => (k2 v11)) else (k2 false))) else (k2 false))) else (k2 false))) else (k2 false)) else (k2 false)))
def F8 : VFn := ⟨45, (.seq (.reg [vo 2 (.box 7 (.t 0)), vo 3 (.box 7 (.t 1)), vo 4 (.mv (cb false))]) (.seq (.wk (.reg [vf 5 5 2, vs 6 5, vf 7 5 3, vs 8 7, bt 9 .eql 6 8, vm 10 9, gt 11 10 (.fa 6 (.t 2)), gt 12 10 (.ld false 1 (.t 11)), gt 13 10 (.fa 6 (.t 3)), gt 14 10 (.ld false 1 (.t 13)), gt 15 10 (.bin .i .eql (.t 12) (.t 14)), vo 16 (.pick (.t 10) (.t 15) (cb false)), vm 17 16, gt 18 17 (.fa 0 (.t 2)), gt 19 17 (.ld true 2 (.t 18)), gt 20 17 (.fa 0 (.t 3)), gt 21 17 (.ld true 2 (.t 20)), gt 22 17 (.call 9 [(.t 19), (.t 21)]), vo 23 (.pick (.t 17) (.t 22) (cb false)), vm 24 23, gt 25 24 (.fa 2 (.t 2)), gt 26 24 (.ld false 1 (.t 25)), gt 27 24 (.fa 2 (.t 3)), gt 28 24 (.ld false 1 (.t 27)), gt 29 24 (.call 21 [(.t 26), (.t 28)]), vo 30 (.pick (.t 24) (.t 29) (cb false)), vm 31 30, gt 32 31 (.fa 3 (.t 2)), gt 33 31 (.ld false 1 (.t 32)), gt 34 31 (.fa 3 (.t 3)), gt 35 31 (.ld false 1 (.t 34)), gt 36 31 (.call 22 [(.t 33), (.t 35)]), vo 37 (.pick (.t 31) (.t 36) (cb false)), vm 38 37, gt 39 38 (.fa 4 (.t 2)), gt 40 38 (.ld false 1 (.t 39)), gt 41 38 (.fa 4 (.t 3)), gt 42 38 (.ld false 1 (.t 41)), gt 43 38 (.call 23 [(.t 40), (.t 42)]), vo 44 (.pick (.t 38) (.t 43) (cb false)), vm 4 44])) .ret)), [.t 4]⟩
theorem low8 : lowF Try.prog 8 = some F8.strip := by kernel_rfl
theorem fok8 : fOk Try.prog 8 = true := by kernel_rfl
theorem reredoslaw_sameTurn_ok (p0 : Turn) (p1 : Turn) (r : Bool) (h : reredoslaw_sameTurn p0 p1 = some r) : FnRO Try.prog G 8 [.agg p0.bx, .agg p1.bx] (fun rs => rs = [.one (.b r)]) := by
 refine FnRO.of' low8 fok8 (by simp [F8]) ?_
 rw [reredoslaw_sameTurn] at h
 replace h := Hd.mk h
 simp only [F8, go_sem]
 try simp only [*, go_sem]
 refine jn1 h (fun b1_1 => [zB 4 b1_1]) (fun b1_1 => []) (fun k2 h => ?_) (fun b1_1 h => ?_)
 refine oi h (fun hb3 h => ?_) (fun hb3 h => ?_)
 refine oi h (fun hb4 h => ?_) (fun hb4 h => ?_)
 try simp only [*, go_sem]
 refine cr h (reredoslaw_sameDesk_ok G p0.Desk p1.Desk) (fun v5 h => ?_)
 refine oi h (fun hb6 h => ?_) (fun hb6 h => ?_)
 try simp only [*, go_sem]
 refine cr h (reredoslaw_sameMessages_ok G p0.Messages p1.Messages) (fun v7 h => ?_)
 refine oi h (fun hb8 h => ?_) (fun hb8 h => ?_)
 try simp only [*, go_sem]
 refine cr h (reredoslaw_sameRecords_ok G p0.Records p1.Records) (fun v9 h => ?_)
 refine oi h (fun hb10 h => ?_) (fun hb10 h => ?_)
 try simp only [*, go_sem]
 refine cr h (reredoslaw_sameReplies_ok G p0.Replies p1.Replies) (fun v11 h => ?_)
 try simp only [*, go_sem]
 exact jc (v11) h.e []
 try simp only [*, go_sem]
 exact jc (false) h.e []
 try simp only [*, go_sem]
 exact jc (false) h.e []
 try simp only [*, go_sem]
 exact jc (false) h.e []
 try simp only [*, go_sem]
 exact jc (false) h.e []
 try simp only [*, go_sem]
 exact jc (false) h.e []
 cases h.e
 simp only [*, go_sem, mA, mS]
def reredoslaw_CoordTicks (p0 : Config) (p1 : Int) (p2 : Int) (p3 : Desk) : Option (Bool) := (withK (Option.bind (reredosref_DeskCopy p3) fun v3 => (withK (Option.bind (coord_Tick p0 p1 p2 v3) fun v6 => (withK (Option.bind (reredosref_CoordTicked p0 p1 p2 p3) fun v9 => (withK (fun (b10_1 : Bool) => (some b10_1)) fun k11 => (if (v6.2 == v9.2) = true then (Option.bind (reredoslaw_sameTurn v6.1 v9.1) fun v13 => (if v13 = true then (Option.bind (reredoslaw_sameDesk v3 p3) fun v15 => (k11 v15)) else (k11 false))) else (k11 false)))) fun k8 => k8)) fun k5 => k5)) fun k2 => k2)
def F3 : VFn := ⟨45, (.seq (.reg [vo 4 (.box 3 (.t 0)), vo 7 (.box 2 (.t 3)), vo 8 (.mv (cb false))]) (.seq (.regs [[vl 14 2 7], [vo 15 (.call 5 [(.t 14)]), vo 9 (.alloc [(zi 0), (.nl 6)]), vu (.st 2 (.t 9) (.t 15))]]) (.seq (.regs [[vl 17 3 4, vm 18 1, vm 19 2, vl 20 2 9], [vo 21 (.call 6 [(.t 17), (.t 18), (.t 19), (.t 20)]), vm 16 21, et 22 16 0, et 23 16 1, vo 10 (.alloc [(zi 0), (.nl 6), (.nl 12), (.nl 8), (.nl 6), (zi 0), (zi 0)]), vu (.st 7 (.t 10) (.t 22)), vm 11 23]]) (.seq (.regs [[vl 25 3 4, vm 26 1, vm 27 2, vl 28 2 7], [vo 29 (.call 7 [(.t 25), (.t 26), (.t 27), (.t 28)]), vm 24 29, et 30 24 0, et 31 24 1, vo 12 (.alloc [(zi 0), (.nl 6), (.nl 12), (.nl 8), (.nl 6), (zi 0), (zi 0)]), vu (.st 7 (.t 12) (.t 30)), vm 13 31]]) (.seq (.wk (.reg [vm 32 11, vm 33 13, bt 34 .eql 32 33, vm 35 34, gt 36 35 (.ld true 7 (.t 10)), gt 37 35 (.ld true 7 (.t 12)), gt 38 35 (.call 8 [(.t 36), (.t 37)]), vo 39 (.pick (.t 35) (.t 38) (cb false)), vm 40 39, gt 41 40 (.ld true 2 (.t 9)), gt 42 40 (.ld true 2 (.t 7)), gt 43 40 (.call 9 [(.t 41), (.t 42)]), vo 44 (.pick (.t 40) (.t 43) (cb false)), vm 8 44])) .ret))))), [.t 8]⟩
theorem low3 : lowF Try.prog 3 = some F3.strip := by kernel_rfl
theorem fok3 : fOk Try.prog 3 = true := by kernel_rfl
theorem reredoslaw_CoordTicks_ok (p0 : Config) (p1 : Int) (p2 : Int) (p3 : Desk) (r : Bool) (h : reredoslaw_CoordTicks p0 p1 p2 p3 = some r) : FnRO Try.prog G 3 [.agg p0.bx, .one (.d (.i .i64 p1)), .one (.d (.i .i64 p2)), .agg p3.bx] (fun rs => rs = [.one (.b r)]) := by
 refine FnRO.of' low3 fok3 (by simp [F3]) ?_
 rw [reredoslaw_CoordTicks] at h
 replace h := Hd.mk h
 simp only [F3, go_sem]
 try simp only [*, go_sem]
 refine rg0 h ([zI 1 p1, zI 2 p2, zP 4 0, zP 7 1, (14, .agg [zi p3.Next, .d (.l 6 (p3.Jobs.map Job.enc))])]) ([ox p0.bx, ox p3.bx]) (fun k2 h => ?_) (fun h => ?_)
 try simp only [*, go_sem]
 exact jc () h.e [some 0, some 1]
 try simp only [*, go_sem]
 refine cr h (reredosref_DeskCopy_ok G p3) (fun v3 h => ?_)
 try simp only [*, go_sem]
 refine rg0 h ([zI 1 p1, zI 2 p2, zP 4 0, zP 7 1, zP 9 2, (17, .agg [zi p0.Sites, .d (.l 2 (p0.Labels.map Label.enc)), zi p0.Patience]), zI 18 p1, zI 19 p2, (20, .agg [zi v3.Next, .r 3 0 v3.Jobs.length])]) ([ox p0.bx, ox p3.bx, ox [zi v3.Next, .r 3 0 v3.Jobs.length], oz 6 (v3.Jobs.map Job.enc)]) (fun k5 h => ?_) (fun h => ?_)
 try simp only [*, go_sem]
 exact jf [.z 2, .z 2] () h.e [some 0, some 1, some 3, some 2]
 try simp only [*, go_sem]
 refine cr h (coord_Tick_ok G p0 p1 p2 v3) (fun v6 h => ?_)
 try simp only [*, go_sem]
 refine rg0 h ([zP 7 0, zP 9 1, zP 10 2, zI 11 v6.2, (25, .agg [zi p0.Sites, .d (.l 2 (p0.Labels.map Label.enc)), zi p0.Patience]), zI 26 p1, zI 27 p2, (28, .agg [zi p3.Next, .d (.l 6 (p3.Jobs.map Job.enc))])]) ([ox p3.bx, ox [zi v3.Next, .r 3 0 v3.Jobs.length], ox [zi v6.1.Desk.Next, .r 4 0 v6.1.Desk.Jobs.length, .r 5 0 v6.1.Messages.length, .r 6 0 v6.1.Records.length, .r 7 0 v6.1.Replies.length, zi v6.1.Sure, zi v6.1.Committed], oz 6 (v3.Jobs.map Job.enc), ot 6 (v6.1.Desk.Jobs.map Job.encO), oa 12 (v6.1.Messages.map Message.enc), oa 8 (v6.1.Records.map Record.enc), oa 6 (v6.1.Replies.map Reply.enc)]) (fun k8 h => ?_) (fun h => ?_)
 try simp only [*, go_sem]
 exact jc () h.e [some 1, some 2, some 8, some 3, some 4, some 5, some 6, some 7]
 try simp only [*, go_sem]
 refine cr h (reredosref_CoordTicked_ok G p0 p1 p2 p3) (fun v9 h => ?_)
 try simp only [*, go_sem]
 refine jn1 h (fun b10_1 => [zB 8 b10_1]) (fun b10_1 => []) (fun k11 h => ?_) (fun b10_1 h => ?_)
 refine oi h (fun hb12 h => ?_) (fun hb12 h => ?_)
 try simp only [*, go_sem]
 refine cl h (reredoslaw_sameTurn_ok G v6.1 v9.1) (fun v13 h => ?_)
 refine oi h (fun hb14 h => ?_) (fun hb14 h => ?_)
 try simp only [*, go_sem]
 refine cr h (reredoslaw_sameDesk_ok G v3 p3) (fun v15 h => ?_)
 try simp only [*, go_sem]
 exact jc (v15) h.e []
 try simp only [*, go_sem]
 exact jc (false) h.e []
 try simp only [*, go_sem]
 exact jc (false) h.e []
 cases h.e
 simp only [*, go_sem, mA, mS]
end Go.V.Dec
