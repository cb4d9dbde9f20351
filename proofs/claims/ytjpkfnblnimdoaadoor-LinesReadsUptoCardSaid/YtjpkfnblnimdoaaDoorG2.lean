/- What Go's functions come to, as plain functions: part 2; no condition. -/
import Derived.Test.YtjpkfnblnimdoaaDoorG1
set_option linter.unusedVariables false
set_option linter.unusedSimpArgs false
namespace Go.V.Dec
open Go Go.Proofs
set_option maxRecDepth 100000
set_option maxHeartbeats 4000000
variable (G : Nat → Option (List D))
def reredosref_ConfigFault_L2 (p0 : Config) (a8_1 : Nat) (x12 : Label) (k18 : Option (Int)) : Nat → Nat → Option (Int)
 | 0, _ => none
 | n20 + 1, a19_1 => (if (decide (a19_1 < a8_1)) = true then (Option.bind (p0.Labels[a19_1]?) fun x22 => (if ((x22.Level == x12.Level) && (x22.Cats == x12.Cats)) = true then (some 7) else (reredosref_ConfigFault_L2 p0 a8_1 x12 k18 n20 (a19_1 + 1)))) else k18)
def reredosref_ConfigFault_L1 (p0 : Config) (k7 : Option (Int)) : Nat → Nat → Option (Int)
 | 0, _ => none
 | n9 + 1, a8_1 => (if (decide (a8_1 < p0.Labels.length)) = true then (Option.bind (p0.Labels[a8_1]?) fun x12 => (Option.bind (reredosref_In x12.Level 0 9) fun v13 => (if (!v13) = true then (some 2) else (Option.bind (reredosref_In x12.Cats 0 15) fun v15 => (if (!v15) = true then (some 2) else (withK (reredosref_ConfigFault_L1 p0 k7 n9 (a8_1 + 1)) fun k18 => (reredosref_ConfigFault_L2 p0 a8_1 x12 k18 (a8_1 + 1) 0))))))) else k7)
def reredosref_ConfigFault (p0 : Config) : Option (Int) := (Option.bind (reredosref_In p0.Sites 1 4) fun v1 => (if (!v1) = true then (some 2) else (Option.bind (reredosref_In ((p0.Labels.length : Nat) : Int) 1 6) fun v4 => (if (!v4) = true then (some 1) else (withK (Option.bind (reredosref_In p0.Patience 1 1048576) fun v26 => (if (!v26) = true then (some 2) else (some 0))) fun k7 => (reredosref_ConfigFault_L1 p0 k7 (p0.Labels.length + 1) 0))))))
def F19 : VFn := ⟨59, (.seq (.reg [vo 1 (.boxk 3 (.t 0)), mi 2 0]) (.seq (.seq (.reg [vf 5 0 1, vs 6 5, vo 7 (.call 37 [(.t 6), (ci 1), (ci 4)]), nt 8 7]) (.cond (.t 8) (.seq (.reg [mi 2 2]) .ret) .skip)) (.seq (.seq (.reg [vf 9 1 1, vs 10 9, ln 11 10, vo 12 (.call 37 [(.t 11), (ci 1), (ci 6)]), nt 13 12]) (.cond (.t 13) (.seq (.reg [mi 2 1]) .ret) .skip)) (.seq (.seq (.reg [mi 3 0]) (.wk (.block 0 (.loop (.seq (.seq (.reg [vm 14 3, vf 15 1 1, vs 16 15, ln 17 16, bt 18 .lss 14 17]) (.cond (.t 18) .skip (.exit 0))) (.seq (.block 1 (.seq (.seq (.reg [vf 21 1 1, vs 22 21, vm 23 3, xa 24 2 22 23, vf 25 0 24, vs 26 25, vo 27 (.call 37 [(.t 26), (ci 0), (ci 9)]), nt 28 27, vm 29 28, gf 30 29 (.fa 1 (.t 1)), gf 31 29 (.ld false 1 (.t 30)), gf 32 29 (.mv (.t 3)), gf 33 29 (.ia 2 (.t 31) (.t 32)), gf 34 29 (.fa 1 (.t 33)), gf 35 29 (.ld false 1 (.t 34)), gf 36 29 (.call 37 [(.t 35), (ci 0), (ci 15)]), gf 37 29 (.un .not (.t 36)), vo 38 (.pick (.t 29) (cb true) (.t 37))]) (.cond (.t 38) (.seq (.reg [mi 2 2]) .ret) .skip)) (.seq (.reg [mi 4 0]) (.wk (.block 2 (.loop (.seq (.seq (.reg [vm 39 4, vm 40 3, bt 41 .lss 39 40]) (.cond (.t 41) .skip (.exit 2))) (.seq (.block 3 (.seq (.draw [vd (vf 44 1 1) 0, vd (vs 45 44) 1, vd (vm 46 4) 0, vd (xa 47 2 45 46) 7, vd (vl 48 2 47) 15, vd (vf 49 1 1) 0, vd (vs 50 49) 32, vd (vm 51 3) 0, vd (xa 52 2 50 51) 224, vd (vl 53 2 52) 480, vd (vo 54 (.eqs false [.i, .i] (.t 48) (.t 53))) 1023]) (.cond (.t 54) (.seq (.reg [mi 2 7]) .ret) .skip))) (.reg [vm 42 4, bk 43 .add 42 1, vm 4 43]))))))))) (.reg [vm 19 3, bk 20 .add 19 1, vm 3 20]))))))) (.seq (.seq (.reg [vf 55 2 1, vs 56 55, vo 57 (.call 37 [(.t 56), (ci 1), (ci 1048576)]), nt 58 57]) (.cond (.t 58) (.seq (.reg [mi 2 2]) .ret) .skip)) (.seq (.reg [mi 2 0]) .ret)))))), [.t 2]⟩
theorem low19 : lowF Tryd.prog 19 = some F19.strip := by kernel_rfl
theorem fok19 : fOk Tryd.prog 19 = true := by kernel_rfl
theorem reredosref_ConfigFault_ok (p0 : Config) (r : Int) (h : reredosref_ConfigFault p0 = some r) : FnRO Tryd.prog G 19 [.agg p0.bx] (fun rs => rs = [.one (.i .i64 r)]) := by
 refine FnRO.of' low19 fok19 (by simp [F19]) ?_
 rw [reredosref_ConfigFault] at h
 replace h := Hd.mk h
 simp only [F19, go_sem]
 try simp only [*, go_sem]
 refine cr h (reredosref_In_ok G p0.Sites 1 4) (fun v1 h => ?_)
 refine oin h (fun hb2 hkhb2 h => ?_) (fun hb2 hkhb2 h => ?_)
 cases h.e
 simp only [*, go_sem, mA, mS]
 try simp only [*, go_sem]
 intro hl3
 try simp only [*, go_sem]
 refine cr h (reredosref_In_ok G ((p0.Labels.length : Nat) : Int) 1 6) (fun v4 h => ?_)
 refine oin h (fun hb5 hkhb5 h => ?_) (fun hb5 hkhb5 h => ?_)
 cases h.e
 simp only [*, go_sem, mA, mS]
 try simp only [*, go_sem]
 refine jn0 h ([zK 1 (Config.enc p0)]) ([]) (fun k7 h => ?_) (fun h => ?_)
 try simp only [*, go_sem]
 refine lp1 (reredosref_ConfigFault_L1 p0 k7) (fun a8_1 => [zK 1 (Config.enc p0), zI 3 ((a8_1 : Nat) : Int)]) (fun a8_1 => []) h [] [] (fun n9 a8_1 h => ?_) (by intros; rw [reredosref_ConfigFault_L1])
 rw [reredosref_ConfigFault_L1] at h
 try simp only [*, go_sem]
 intro hl10
 refine oi h (fun hb11 h => ?_) (fun hb11 h => ?_)
 have := of_decide_eq_true hb11
 refine obg h (fun x12 _ hkx12 h => ?_)
 try simp only [*, go_sem]
 refine cr h (reredosref_In_ok G x12.Level 0 9) (fun v13 h => ?_)
 refine oin h (fun hb14 hkhb14 h => ?_) (fun hb14 hkhb14 h => ?_)
 cases h.e
 simp only [*, go_sem, mA, mS]
 try simp only [*, go_sem]
 refine cr h (reredosref_In_ok G x12.Cats 0 15) (fun v15 h => ?_)
 refine oin h (fun hb16 hkhb16 h => ?_) (fun hb16 hkhb16 h => ?_)
 cases h.e
 simp only [*, go_sem, mA, mS]
 try simp only [*, go_sem]
 refine jn0 h ([zK 1 (Config.enc p0), zI 3 ((a8_1 : Nat) : Int), (30, .one (.p (.l 3 [(Config.enc p0)] 0 1))), zL 31 2 (p0.Labels.map Label.enc), zI 32 ((a8_1 : Nat) : Int), (33, .one (.p (.l 2 (p0.Labels.map Label.enc) a8_1 0))), (34, .one (.p (.l 2 (p0.Labels.map Label.enc) a8_1 1))), zI 35 x12.Cats, zB 36 true, zB 37 false]) ([]) (fun k18 h => ?_) (fun h => ?_)
 try simp only [*, go_sem]
 refine lp1 (reredosref_ConfigFault_L2 p0 a8_1 x12 k18) (fun a19_1 => [zK 1 (Config.enc p0), zI 3 ((a8_1 : Nat) : Int), zI 4 ((a19_1 : Nat) : Int), (30, .one (.p (.l 3 [(Config.enc p0)] 0 1))), zL 31 2 (p0.Labels.map Label.enc), zI 32 ((a8_1 : Nat) : Int), (33, .one (.p (.l 2 (p0.Labels.map Label.enc) a8_1 0))), (34, .one (.p (.l 2 (p0.Labels.map Label.enc) a8_1 1))), zI 35 x12.Cats, zB 36 true, zB 37 false]) (fun a19_1 => []) h [] [] (fun n20 a19_1 h => ?_) (by intros; rw [reredosref_ConfigFault_L2])
 rw [reredosref_ConfigFault_L2] at h
 refine oi h (fun hb21 h => ?_) (fun hb21 h => ?_)
 have := of_decide_eq_true hb21
 refine obg h (fun x22 _ hkx22 h => ?_)
 refine oi h (fun hb23 h => ?_) (fun hb23 h => ?_)
 try simp only [*, go_sem]
 cases h.e
 simp only [*, go_sem, mA, mS]
 try simp only [*, go_sem]
 have := wrap_succ_max hkx22 hl3
 try simp only [*, go_sem]
 exact lc (a19_1 + 1) h.e []
 try simp only [*, go_sem]
 exact jc () h.e []
 have := wrap_succ_max hkx12 hl3
 try simp only [*, go_sem]
 exact lc (a8_1 + 1) h.e []
 try simp only [*, go_sem]
 exact jc () h.e []
 try simp only [*, go_sem]
 refine cr h (reredosref_In_ok G p0.Patience 1 1048576) (fun v26 h => ?_)
 refine oin h (fun hb27 hkhb27 h => ?_) (fun hb27 hkhb27 h => ?_)
 cases h.e
 simp only [*, go_sem, mA, mS]
 cases h.e
 simp only [*, go_sem, mA, mS]
def reredosref_partsOf_L1 (p0 : ByteArray) (k2 : (List ByteArray) → Option ((List ByteArray))) : Nat → Int → Int → (List ByteArray) → Option ((List ByteArray))
 | 0, _, _, _ => none
 | n4 + 1, a3_1, a3_2, a3_3 => (if (decide (a3_2 ≤ ((p0.size : Nat) : Int))) = true then (if (a3_2 == ((p0.size : Nat) : Int)) = true then (withK (reredosref_partsOf_L1 p0 k2 n4 (IntKind.i64.wrap (a3_2 + 1)) (IntKind.i64.wrap (a3_2 + 1)) (a3_3 ++ [(p0.extract a3_1.toNat a3_2.toNat)])) fun k8 => (if 0 ≤ a3_1 ∧ a3_1 ≤ a3_2 ∧ a3_2 ≤ ((p0.size : Nat) : Int) then (if fits 16 (a3_3.length + 1) then k8 else none) else none)) else (if 0 ≤ a3_2 ∧ a3_2 < ((p0.size : Nat) : Int) then (withK (fun (b12_1 : Int) (b12_2 : Bool) (b12_3 : List ByteArray) => (reredosref_partsOf_L1 p0 k2 n4 b12_1 (IntKind.i64.wrap (a3_2 + 1)) b12_3)) fun k13 => (if ((((p0.data.toList.getD a3_2.toNat 0).toNat : Nat) : Int) == 32) = true then (if 0 ≤ a3_1 ∧ a3_1 ≤ a3_2 ∧ a3_2 ≤ ((p0.size : Nat) : Int) then (if fits 16 (a3_3.length + 1) then (k13 (IntKind.i64.wrap (a3_2 + 1)) true (a3_3 ++ [(p0.extract a3_1.toNat a3_2.toNat)])) else none) else none) else (k13 a3_1 false a3_3))) else none)) else (k2 a3_3))
def reredosref_partsOf (p0 : ByteArray) : Option ((List ByteArray)) := (withK (fun (b1_1 : List ByteArray) => (some b1_1)) fun k2 => (reredosref_partsOf_L1 p0 k2 (p0.size + 2) 0 0 []))
def F13 : VFn := ⟨32, (.seq (.reg [vo 2 (.mv (.c (.one (.nl 1))))]) (.seq (.reg [vo 3 (.mv (.c (.one (.nl 1))))]) (.seq (.reg [mi 4 0]) (.seq (.seq (.reg [mi 5 0]) (.wk (.block 0 (.loop (.seq (.seq (.reg [vm 6 5, vm 7 0, vo 8 (.lens (.t 7)), bt 9 .leq 6 8]) (.cond (.t 9) .skip (.exit 0))) (.seq (.block 1 (.seq (.reg [vm 12 5, vm 13 0, vo 14 (.lens (.t 13)), bt 15 .eql 12 14, vm 16 15, gf 17 16 (.mv (.t 0)), gf 18 16 (.mv (.t 5)), gf 19 16 (.ix (.t 17) (.t 18)), gf 20 16 (.bin .i .eql (.t 19) (.c (.one (.d (.i .u8 32))))), vo 21 (.pick (.t 16) (cb true) (.t 20))]) (.wk (.cond (.t 21) (.seq (.reg [vm 22 3, vm 23 0, vm 24 4, vm 25 5, vo 26 (.sls (.t 23) (some (.t 24)) (some (.t 25))), vo 27 (.bsl 1 1 [(.d (.s ⟨#[]⟩))] [(0, (.t 26))]), vo 28 (.app 1 16 (.t 22) (.t 27)), vm 3 28]) (.reg [vm 29 5, bk 30 .add 29 1, vm 4 30])) .skip)))) (.reg [vm 10 5, bk 11 .add 10 1, vm 5 11]))))))) (.seq (.reg [vm 31 3, vm 2 31]) .ret))))), [.t 2]⟩
theorem low13 : lowF Tryd.prog 13 = some F13.strip := by kernel_rfl
theorem fok13 : fOk Tryd.prog 13 = true := by kernel_rfl
theorem reredosref_partsOf_ok (p0 : ByteArray) (r : (List ByteArray)) (h : reredosref_partsOf p0 = some r) : FnRO Tryd.prog G 13 [.one (.d (.s p0))] (fun rs => rs = [.one (.o 1 (r.map encS))]) := by
 refine FnRO.of' low13 fok13 (by simp [F13]) ?_
 rw [reredosref_partsOf] at h
 replace h := Hd.mk h
 simp only [F13, go_sem]
 try simp only [*, go_sem]
 refine jn1 h (fun b1_1 => [zR 3 0 0 b1_1.length]) (fun b1_1 => [oa 1 (b1_1.map encS)]) (fun k2 h => ?_) (fun b1_1 h => ?_)
 try simp only [*, go_sem]
 refine lp3 (reredosref_partsOf_L1 p0 k2) (fun a3_1 a3_2 a3_3 => [(0, .one (.d (.s p0))), zR 3 0 0 a3_3.length, zI 4 a3_1, zI 5 a3_2]) (fun a3_1 a3_2 a3_3 => [oa 1 (a3_3.map encS)]) h [] [none] (fun n4 a3_1 a3_2 a3_3 h => ?_) (by intros; rw [reredosref_partsOf_L1])
 rw [reredosref_partsOf_L1] at h
 refine oi h (fun hb5 h => ?_) (fun hb5 h => ?_)
 refine oi h (fun hb6 h => ?_) (fun hb6 h => ?_)
 try simp only [*, go_sem]
 refine jn0 h ([(0, .one (.d (.s p0))), zR 3 0 0 (a3_3.length + 1), zI 4 (IntKind.i64.wrap (a3_2 + 1)), zI 5 a3_2]) ([oa 1 ((a3_3 ++ [(p0.extract a3_1.toNat a3_2.toNat)]).map encS)]) (fun k8 h => ?_) (fun h => ?_)
 refine ck h (fun _ h => ?_)
 refine ck h (fun _ h => ?_)
 try simp only [*, go_sem]
 exact jc () h.e [some 2]
 try simp only [*, go_sem]
 exact lc (IntKind.i64.wrap (a3_2 + 1), IntKind.i64.wrap (a3_2 + 1), (a3_3 ++ [(p0.extract a3_1.toNat a3_2.toNat)])) h.e [some 0]
 refine ck h (fun _ h => ?_)
 try simp only [*, go_sem]
 refine jn3 h (fun b12_1 b12_2 b12_3 => [(0, .one (.d (.s p0))), zR 3 0 0 b12_3.length, zI 4 b12_1, zI 5 a3_2, (17, .one (.d (.s p0))), zI 18 a3_2, (19, .one (.d (.i .u8 (((p0.data.toList.getD a3_2.toNat 0).toNat : Nat) : Int)))), zB 20 b12_2]) (fun b12_1 b12_2 b12_3 => [oa 1 (b12_3.map encS)]) (fun k13 h => ?_) (fun b12_1 b12_2 b12_3 h => ?_)
 refine oi h (fun hb14 h => ?_) (fun hb14 h => ?_)
 refine ck h (fun _ h => ?_)
 refine ck h (fun _ h => ?_)
 try simp only [*, go_sem]
 exact jc (IntKind.i64.wrap (a3_2 + 1), true, (a3_3 ++ [(p0.extract a3_1.toNat a3_2.toNat)])) h.e [some 2]
 try simp only [*, go_sem]
 exact jc (a3_1, false, a3_3) h.e [some 0]
 try simp only [*, go_sem]
 exact lc (b12_1, IntKind.i64.wrap (a3_2 + 1), b12_3) h.e [some 0]
 try simp only [*, go_sem]
 exact jc (a3_3) h.e [some 0]
 cases h.e
 simp only [*, go_sem, mA, mS]
def reredosref_whole_L1 (b1_1 : ByteArray) (k23 : Int → Option (Int × Bool)) : Nat → Int → Int → Option (Int × Bool)
 | 0, _, _ => none
 | n25 + 1, a24_1, a24_2 => (if (decide (a24_2 < ((b1_1.size : Nat) : Int))) = true then (if 0 ≤ a24_2 ∧ a24_2 < ((b1_1.size : Nat) : Int) then (Option.bind (reredosref_In (IntKind.i64.wrap ((((b1_1.data.toList.getD a24_2.toNat 0).toNat : Nat) : Int))) 48 57) fun v28 => (if (!v28) = true then (some (0, false)) else (if 0 ≤ a24_2 ∧ a24_2 < ((b1_1.size : Nat) : Int) then (reredosref_whole_L1 b1_1 k23 n25 (IntKind.i64.wrap (IntKind.i64.wrap (10 * a24_1) - IntKind.i64.wrap (IntKind.u8.wrap ((((b1_1.data.toList.getD a24_2.toNat 0).toNat : Nat) : Int) - 48)))) (IntKind.i64.wrap (a24_2 + 1))) else none))) else none) else (k23 a24_1))
def reredosref_whole (p0 : ByteArray) : Option (Int × Bool) := (withK (fun (b1_1 : ByteArray) => (withK (withK (fun (b15_1 : ByteArray) => (withK (withK (fun (b22_1 : Int) => (withK (fun (b31_1 : Int) => (some (b31_1, true))) fun k32 => (if (((b1_1.size : Nat) : Int) == ((p0.size : Nat) : Int)) = true then (k32 (IntKind.i64.wrap (0 - b22_1))) else (k32 b22_1)))) fun k23 => (reredosref_whole_L1 b1_1 k23 (b1_1.size + 1) 0 0)) fun k19 => (if (((b1_1.size : Nat) : Int) == 19) = true then (if (!(Op.bytesLess b1_1.toList b15_1.toList || b1_1.toList == b15_1.toList)) = true then (some (0, false)) else k19) else k19))) fun k16 => (if (decide (b1_1.size < p0.size)) = true then (k16 bs_8dbd9644) else (k16 bs_15767b25))) fun k8 => (if (((b1_1.size : Nat) : Int) == 0) = true then (some (0, false)) else (if 0 ≤ 0 ∧ 0 < ((b1_1.size : Nat) : Int) then (if ((((b1_1.data.toList.getD 0 0).toNat : Nat) : Int) == 48) = true then (if (!(p0.toList == bs_cfcd2084.toList)) = true then (some (0, false)) else (if (decide (((b1_1.size : Nat) : Int) > 19)) = true then (some (0, false)) else k8)) else (if (decide (((b1_1.size : Nat) : Int) > 19)) = true then (some (0, false)) else k8)) else none)))) fun k2 => (if (decide (((p0.size : Nat) : Int) > 0)) = true then (if 0 ≤ 0 ∧ 0 < ((p0.size : Nat) : Int) then (if ((((p0.data.toList.getD 0 0).toNat : Nat) : Int) == 45) = true then (if 0 ≤ 1 ∧ 1 ≤ ((p0.size : Nat) : Int) ∧ ((p0.size : Nat) : Int) ≤ ((p0.size : Nat) : Int) then (k2 (p0.extract 1 p0.size)) else none) else (k2 p0)) else none) else (k2 p0)))
def F53 : VFn := ⟨77, (.seq (.reg [mi 2 0, vo 3 (.mv (cb false))]) (.seq (.reg [vm 8 0, vm 4 8]) (.seq (.wk (.seq (.reg [vm 9 0, vo 10 (.lens (.t 9)), bk 11 .gtr 10 0, vm 12 11, gt 13 12 (.mv (.t 0)), gt 14 12 (.ix (.t 13) (ci 0)), gt 15 12 (.bin .i .eql (.t 14) (.c (.one (.d (.i .u8 45))))), vo 16 (.pick (.t 12) (.t 15) (cb false))]) (.cond (.t 16) (.reg [vm 17 0, vo 18 (.sls (.t 17) (some (ci 1)) none), vm 4 18]) .skip))) (.seq (.wk (.seq (.reg [vm 19 4, vo 20 (.lens (.t 19)), bk 21 .eql 20 0, vm 22 21, gf 23 22 (.mv (.t 4)), gf 24 22 (.ix (.t 23) (ci 0)), gf 25 22 (.bin .i .eql (.t 24) (.c (.one (.d (.i .u8 48))))), gf 26 22 (.mv (.t 25)), gt 27 26 (.mv (.t 0)), gt 28 26 (.bin .s .neq (.t 27) (.c (.one (.d (.s bs_cfcd2084))))), gf 29 22 (.pick (.t 26) (.t 28) (cb false)), vo 30 (.pick (.t 22) (cb true) (.t 29)), vm 31 30, gf 32 31 (.mv (.t 4)), gf 33 31 (.lens (.t 32)), gf 34 31 (.bin .i .gtr (.t 33) (ci 19)), vo 35 (.pick (.t 31) (cb true) (.t 34))]) (.cond (.t 35) (.seq (.reg [mi 2 0, vo 3 (.mv (cb false))]) .ret) .skip))) (.seq (.reg [vo 5 (.mv (.c (.one (.d (.s bs_15767b25)))))]) (.seq (.seq (.reg [vm 36 4, vo 37 (.lens (.t 36)), vm 38 0, vo 39 (.lens (.t 38)), bt 40 .lss 37 39]) (.wk (.cond (.t 40) (.reg [vo 5 (.mv (.c (.one (.d (.s bs_8dbd9644)))))]) .skip))) (.seq (.wk (.seq (.reg [vm 41 4, vo 42 (.lens (.t 41)), bk 43 .eql 42 19, vm 44 43, gt 45 44 (.mv (.t 4)), gt 46 44 (.mv (.t 5)), gt 47 44 (.bin .s .gtr (.t 45) (.t 46)), vo 48 (.pick (.t 44) (.t 47) (cb false))]) (.cond (.t 48) (.seq (.reg [mi 2 0, vo 3 (.mv (cb false))]) .ret) .skip))) (.seq (.reg [mi 6 0]) (.seq (.seq (.reg [mi 7 0]) (.wk (.block 0 (.loop (.seq (.seq (.reg [vm 49 7, vm 50 4, vo 51 (.lens (.t 50)), bt 52 .lss 49 51]) (.cond (.t 52) .skip (.exit 0))) (.seq (.block 1 (.seq (.seq (.reg [vm 55 4, vm 56 7, vo 57 (.ix (.t 55) (.t 56)), vo 58 (.cvi .i64 (.t 57)), vo 59 (.call 37 [(.t 58), (ci 48), (ci 57)]), nt 60 59]) (.cond (.t 60) (.seq (.reg [mi 2 0, vo 3 (.mv (cb false))]) .ret) .skip)) (.reg [vm 61 6, vo 62 (.bin .i .mul (ci 10) (.t 61)), vm 63 4, vm 64 7, vo 65 (.ix (.t 63) (.t 64)), vo 66 (.bin .i .sub (.t 65) (.c (.one (.d (.i .u8 48))))), vo 67 (.cvi .i64 (.t 66)), bt 68 .sub 62 67, vm 6 68]))) (.reg [vm 53 7, bk 54 .add 53 1, vm 7 54]))))))) (.seq (.seq (.reg [vm 69 4, vo 70 (.lens (.t 69)), vm 71 0, vo 72 (.lens (.t 71)), bt 73 .eql 70 72]) (.wk (.cond (.t 73) (.reg [vm 74 6, vo 75 (.un .neg (.t 74)), vm 6 75]) .skip))) (.seq (.reg [vm 76 6, vm 2 76, vo 3 (.mv (cb true))]) .ret))))))))))), [.t 2, .t 3]⟩
theorem low53 : lowF Tryd.prog 53 = some F53.strip := by kernel_rfl
theorem fok53 : fOk Tryd.prog 53 = true := by kernel_rfl
theorem reredosref_whole_ok (p0 : ByteArray) (r : Int × Bool) (h : reredosref_whole p0 = some r) : FnRO Tryd.prog G 53 [.one (.d (.s p0))] (fun rs => rs = [.one (.i .i64 r.1), .one (.b r.2)]) := by
 refine FnRO.of' low53 fok53 (by simp [F53]) ?_
 rw [reredosref_whole] at h
 replace h := Hd.mk h
 simp only [F53, go_sem]
 try simp only [*, go_sem]
 refine jn1 h (fun b1_1 => [(0, .one (.d (.s p0))), (4, .one (.d (.s b1_1)))]) (fun b1_1 => []) (fun k2 h => ?_) (fun b1_1 h => ?_)
 refine oi h (fun hb3 h => ?_) (fun hb3 h => ?_)
 refine ck h (fun _ h => ?_)
 refine oi h (fun hb5 h => ?_) (fun hb5 h => ?_)
 refine ck h (fun _ h => ?_)
 try simp only [*, go_sem]
 exact jc ((p0.extract 1 p0.size)) h.e []
 try simp only [*, go_sem]
 exact jc (p0) h.e []
 try simp only [*, go_sem]
 exact jc (p0) h.e []
 try simp only [*, go_sem]
 refine jn0 h ([(0, .one (.d (.s p0))), (4, .one (.d (.s b1_1)))]) ([]) (fun k8 h => ?_) (fun h => ?_)
 refine oi h (fun hb9 h => ?_) (fun hb9 h => ?_)
 cases h.e
 simp only [*, go_sem, mA, mS]
 refine ck h (fun _ h => ?_)
 refine oi h (fun hb11 h => ?_) (fun hb11 h => ?_)
 refine oin h (fun hb12 hkhb12 h => ?_) (fun hb12 hkhb12 h => ?_)
 cases h.e
 simp only [*, go_sem, mA, mS]
 refine oi h (fun hb13 h => ?_) (fun hb13 h => ?_)
 cases h.e
 simp only [*, go_sem, mA, mS]
 try simp only [*, go_sem]
 exact jc () h.e []
 refine oi h (fun hb14 h => ?_) (fun hb14 h => ?_)
 cases h.e
 simp only [*, go_sem, mA, mS]
 try simp only [*, go_sem]
 exact jc () h.e []
 try simp only [*, go_sem]
 refine jn1 h (fun b15_1 => [(0, .one (.d (.s p0))), (4, .one (.d (.s b1_1))), (5, .one (.d (.s b15_1)))]) (fun b15_1 => []) (fun k16 h => ?_) (fun b15_1 h => ?_)
 refine oi h (fun hb17 h => ?_) (fun hb17 h => ?_)
 have := of_decide_eq_true hb17
 try simp only [*, go_sem]
 exact jc (bs_8dbd9644) h.e []
 try simp only [*, go_sem]
 exact jc (bs_15767b25) h.e []
 try simp only [*, go_sem]
 refine jn0 h ([(0, .one (.d (.s p0))), (4, .one (.d (.s b1_1)))]) ([]) (fun k19 h => ?_) (fun h => ?_)
 refine oi h (fun hb20 h => ?_) (fun hb20 h => ?_)
 refine oin h (fun hb21 hkhb21 h => ?_) (fun hb21 hkhb21 h => ?_)
 try simp only [*, go_sem]
 cases h.e
 simp only [*, go_sem, mA, mS]
 try simp only [*, go_sem]
 try simp only [*, go_sem]
 exact jc () h.e []
 try simp only [*, go_sem]
 exact jc () h.e []
 try simp only [*, go_sem]
 refine jn1 h (fun b22_1 => [(0, .one (.d (.s p0))), (4, .one (.d (.s b1_1))), zI 6 b22_1]) (fun b22_1 => []) (fun k23 h => ?_) (fun b22_1 h => ?_)
 try simp only [*, go_sem]
 refine lp2 (reredosref_whole_L1 b1_1 k23) (fun a24_1 a24_2 => [(0, .one (.d (.s p0))), (4, .one (.d (.s b1_1))), zI 6 a24_1, zI 7 a24_2]) (fun a24_1 a24_2 => []) h [] [] (fun n25 a24_1 a24_2 h => ?_) (by intros; rw [reredosref_whole_L1])
 rw [reredosref_whole_L1] at h
 refine oi h (fun hb26 h => ?_) (fun hb26 h => ?_)
 refine ck h (fun _ h => ?_)
 try simp only [*, go_sem]
 refine cr h (reredosref_In_ok G (IntKind.i64.wrap ((((b1_1.data.toList.getD a24_2.toNat 0).toNat : Nat) : Int))) 48 57) (fun v28 h => ?_)
 refine oin h (fun hb29 hkhb29 h => ?_) (fun hb29 hkhb29 h => ?_)
 cases h.e
 simp only [*, go_sem, mA, mS]
 refine ck h (fun _ h => ?_)
 try simp only [*, go_sem]
 exact lc (IntKind.i64.wrap (IntKind.i64.wrap (10 * a24_1) - IntKind.i64.wrap (IntKind.u8.wrap ((((b1_1.data.toList.getD a24_2.toNat 0).toNat : Nat) : Int) - 48))), IntKind.i64.wrap (a24_2 + 1)) h.e []
 try simp only [*, go_sem]
 exact jc (a24_1) h.e []
 try simp only [*, go_sem]
 refine jn1 h (fun b31_1 => [zI 6 b31_1]) (fun b31_1 => []) (fun k32 h => ?_) (fun b31_1 h => ?_)
 refine oi h (fun hb33 h => ?_) (fun hb33 h => ?_)
 try simp only [*, go_sem]
 exact jc (IntKind.i64.wrap (0 - b22_1)) h.e []
 try simp only [*, go_sem]
 exact jc (b22_1) h.e []
 cases h.e
 simp only [*, go_sem, mA, mS]
def reredosref_wholes_L1 (p0 : List ByteArray) (k2 : (List Int) → Option ((List Int) × Bool)) : Nat → Nat → (List Int) → Option ((List Int) × Bool)
 | 0, _, _ => none
 | n4 + 1, a3_1, a3_2 => (if (decide (a3_1 < p0.length)) = true then (Option.bind (p0[a3_1]?) fun x7 => (Option.bind (reredosref_whole x7) fun v8 => (if (!v8.2) = true then (some ([], false)) else (if fits 8 (a3_2.length + 1) then (reredosref_wholes_L1 p0 k2 n4 (a3_1 + 1) (a3_2 ++ [v8.1])) else none)))) else (k2 a3_2))
def reredosref_wholes (p0 : List ByteArray) : Option ((List Int) × Bool) := (withK (fun (b1_1 : List Int) => (some (b1_1, true))) fun k2 => (reredosref_wholes_L1 p0 k2 (p0.length + 1) 0 []))
def F38 : VFn := ⟨29, (.seq (.reg [vo 2 (.mv (.c (.one (.nl 1)))), vo 3 (.mv (cb false))]) (.seq (.reg [vo 4 (.mv (.c (.one (.nl 1))))]) (.seq (.seq (.reg [mi 5 0]) (.wk (.block 0 (.loop (.seq (.seq (.reg [vm 8 5, vm 9 0, ln 10 9, bt 11 .lss 8 10]) (.cond (.t 11) .skip (.exit 0))) (.seq (.block 1 (.seq (.reg [vm 15 0, vm 16 5, xa 17 1 15 16, vs 18 17, vo 19 (.call 53 [(.t 18)]), vm 14 19, et 20 14 0, et 21 14 1, vm 6 20, vm 7 21]) (.seq (.seq (.reg [vm 22 7, nt 23 22]) (.cond (.t 23) (.seq (.reg [vo 2 (.mv (.c (.one (.nl 1)))), vo 3 (.mv (cb false))]) .ret) .skip)) (.reg [vm 24 4, vm 25 6, vo 26 (.bsl 1 1 [(zi 0)] [(0, (.t 25))]), vo 27 (.app 1 8 (.t 24) (.t 26)), vm 4 27])))) (.reg [vm 12 5, bk 13 .add 12 1, vm 5 13]))))))) (.seq (.reg [vm 28 4, vm 2 28, vo 3 (.mv (cb true))]) .ret)))), [.t 2, .t 3]⟩
theorem low38 : lowF Tryd.prog 38 = some F38.strip := by kernel_rfl
theorem fok38 : fOk Tryd.prog 38 = true := by kernel_rfl
theorem reredosref_wholes_ok (p0 : List ByteArray) (r : (List Int) × Bool) (h : reredosref_wholes p0 = some r) : FnRO Tryd.prog G 38 [.one (.d (.l 1 (p0.map encS)))] (fun rs => rs = [.one (.o 1 (r.1.map encI)), .one (.b r.2)]) := by
 refine FnRO.of' low38 fok38 (by simp [F38]) ?_
 rw [reredosref_wholes] at h
 replace h := Hd.mk h
 simp only [F38, go_sem]
 try simp only [*, go_sem]
 refine jn1 h (fun b1_1 => [zR 4 0 0 b1_1.length]) (fun b1_1 => [oa 1 (b1_1.map encI)]) (fun k2 h => ?_) (fun b1_1 h => ?_)
 try simp only [*, go_sem]
 refine lp2 (reredosref_wholes_L1 p0 k2) (fun a3_1 a3_2 => [zL 0 1 (p0.map encS), zR 4 0 0 a3_2.length, zI 5 ((a3_1 : Nat) : Int)]) (fun a3_1 a3_2 => [oa 1 (a3_2.map encI)]) h [] [none] (fun n4 a3_1 a3_2 h => ?_) (by intros; rw [reredosref_wholes_L1])
 rw [reredosref_wholes_L1] at h
 try simp only [*, go_sem]
 intro hl5
 refine oi h (fun hb6 h => ?_) (fun hb6 h => ?_)
 have := of_decide_eq_true hb6
 refine obg h (fun x7 _ hkx7 h => ?_)
 try simp only [*, go_sem]
 refine cr h (reredosref_whole_ok G x7) (fun v8 h => ?_)
 refine oin h (fun hb9 hkhb9 h => ?_) (fun hb9 hkhb9 h => ?_)
 cases h.e
 simp only [*, go_sem, mA, mS]
 refine ck h (fun _ h => ?_)
 have := wrap_succ_max hkx7 hl5
 try simp only [*, go_sem]
 exact lc (a3_1 + 1, (a3_2 ++ [v8.1])) h.e [some 2]
 try simp only [*, go_sem]
 exact jc (a3_2) h.e [some 0]
 cases h.e
 simp only [*, go_sem, mA, mS]
def reredosref_callOf (p0 : List ByteArray) : Option (Call × Bool) := (if (((p0.length : Nat) : Int) == 0) = true then (some ((Call.mk 0 0 0 0 0), false)) else (if 1 ≤ p0.length then (Option.bind (reredosref_wholes (p0.drop 1)) fun v4 => (if (!v4.2) = true then (some ((Call.mk 0 0 0 0 0), false)) else (Option.bind (p0[0]?) fun x6 => (if (x6.toList == bs_8d589afa.toList) = true then (some ((Call.mk 1 0 0 0 0), ((v4.1.length : Nat) : Int) == 0)) else (withK (some ((Call.mk 0 0 0 0 0), false)) fun k11 => (if (x6.toList == bs_b5eda0a7.toList) = true then (if (((v4.1.length : Nat) : Int) == 3) = true then (Option.bind (v4.1[0]?) fun x15 => (Option.bind (v4.1[1]?) fun x17 => (Option.bind (v4.1[2]?) fun x19 => (some ((Call.mk 2 x15 x17 x19 0), true))))) else k11) else (withK k11 fun k22 => (if (x6.toList == bs_8e13ffc9.toList) = true then (if (((v4.1.length : Nat) : Int) == 3) = true then (Option.bind (v4.1[0]?) fun x26 => (Option.bind (v4.1[1]?) fun x28 => (Option.bind (v4.1[2]?) fun x30 => (some ((Call.mk 3 x26 0 x28 x30), true))))) else k22) else (withK k22 fun k33 => (if (x6.toList == bs_fffca4d6.toList) = true then (if (((v4.1.length : Nat) : Int) == 1) = true then (Option.bind (v4.1[0]?) fun x37 => (some ((Call.mk 4 x37 0 0 0), true))) else k33) else (withK k33 fun k40 => (if (x6.toList == bs_fff66e9b.toList) = true then (if (((v4.1.length : Nat) : Int) == 1) = true then (Option.bind (v4.1[0]?) fun x44 => (some ((Call.mk 5 x44 0 0 0), true))) else k40) else k40)))))))))))) else none))
def F39 : VFn := ⟨77, (.seq (.reg [vo 2 (.alloc [(zi 0), (zi 0), (zi 0), (zi 0), (zi 0)]), vo 3 (.mv (cb false))]) (.seq (.seq (.reg [vm 6 0, ln 7 6, bk 8 .eql 7 0]) (.cond (.t 8) (.seq (.reg [vo 9 (.build [(zi 0), (zi 0), (zi 0), (zi 0), (zi 0)] []), vu (.st 5 (.t 2) (.t 9)), vo 3 (.mv (cb false))]) .ret) .skip)) (.seq (.reg [vm 11 0, vo 12 (.sl 1 (.t 11) (some (ci 1)) none), vo 13 (.call 38 [(.t 12)]), vm 10 13, et 14 10 0, et 15 10 1, vm 4 14, vm 5 15]) (.seq (.seq (.reg [vm 16 5, nt 17 16]) (.cond (.t 17) (.seq (.reg [vo 18 (.build [(zi 0), (zi 0), (zi 0), (zi 0), (zi 0)] []), vu (.st 5 (.t 2) (.t 18)), vo 3 (.mv (cb false))]) .ret) .skip)) (.seq (.seq (.reg [vm 19 0, vo 20 (.ia 1 (.t 19) (ci 0)), vs 21 20]) (.block 0 (.seq (.reg [vo 23 (.bin .s .eql (.t 21) (.c (.one (.d (.s bs_8d589afa))))), vm 22 23]) (.cond (.t 22) (.seq (.reg [vo 24 (.build [(zi 0), (zi 0), (zi 0), (zi 0), (zi 0)] [(0, 1, (ci 1))]), vm 25 4, ln 26 25, bk 27 .eql 26 0, vu (.st 5 (.t 2) (.t 24)), vm 3 27]) .ret) (.seq (.reg [vo 29 (.bin .s .eql (.t 21) (.c (.one (.d (.s bs_b5eda0a7))))), vm 28 29]) (.wk (.cond (.t 28) (.seq (.reg [vm 30 4, ln 31 30, bk 32 .eql 31 3]) (.cond (.t 32) (.seq (.draw [vd (vm 33 4) 0, vd (vo 34 (.ia 1 (.t 33) (ci 0))) 1, vd (vs 35 34) 3, vd (vm 36 4) 0, vd (vo 37 (.ia 1 (.t 36) (ci 1))) 8, vd (vs 38 37) 24, vd (vm 39 4) 0, vd (vo 40 (.ia 1 (.t 39) (ci 2))) 64, vd (vs 41 40) 192, vd (vo 42 (.build [(zi 0), (zi 0), (zi 0), (zi 0), (zi 0)] [(0, 1, (ci 2)), (1, 1, (.t 35)), (2, 1, (.t 38)), (3, 1, (.t 41))])) 511, vd (vu (.st 5 (.t 2) (.t 42))) 1023, vd (vo 3 (.mv (cb true))) 2047]) .ret) .skip)) (.seq (.reg [vo 44 (.bin .s .eql (.t 21) (.c (.one (.d (.s bs_8e13ffc9))))), vm 43 44]) (.wk (.cond (.t 43) (.seq (.reg [vm 45 4, ln 46 45, bk 47 .eql 46 3]) (.cond (.t 47) (.seq (.draw [vd (vm 48 4) 0, vd (vo 49 (.ia 1 (.t 48) (ci 0))) 1, vd (vs 50 49) 3, vd (vm 51 4) 0, vd (vo 52 (.ia 1 (.t 51) (ci 1))) 8, vd (vs 53 52) 24, vd (vm 54 4) 0, vd (vo 55 (.ia 1 (.t 54) (ci 2))) 64, vd (vs 56 55) 192, vd (vo 57 (.build [(zi 0), (zi 0), (zi 0), (zi 0), (zi 0)] [(0, 1, (ci 3)), (1, 1, (.t 50)), (3, 1, (.t 53)), (4, 1, (.t 56))])) 511, vd (vu (.st 5 (.t 2) (.t 57))) 1023, vd (vo 3 (.mv (cb true))) 2047]) .ret) .skip)) (.seq (.reg [vo 59 (.bin .s .eql (.t 21) (.c (.one (.d (.s bs_fffca4d6))))), vm 58 59]) (.wk (.cond (.t 58) (.seq (.reg [vm 60 4, ln 61 60, bk 62 .eql 61 1]) (.cond (.t 62) (.seq (.reg [vm 63 4, vo 64 (.ia 1 (.t 63) (ci 0)), vs 65 64, vo 66 (.build [(zi 0), (zi 0), (zi 0), (zi 0), (zi 0)] [(0, 1, (ci 4)), (1, 1, (.t 65))]), vu (.st 5 (.t 2) (.t 66)), vo 3 (.mv (cb true))]) .ret) .skip)) (.seq (.reg [vo 68 (.bin .s .eql (.t 21) (.c (.one (.d (.s bs_fff66e9b))))), vm 67 68]) (.wk (.cond (.t 67) (.seq (.reg [vm 69 4, ln 70 69, bk 71 .eql 70 1]) (.cond (.t 71) (.seq (.reg [vm 72 4, vo 73 (.ia 1 (.t 72) (ci 0)), vs 74 73, vo 75 (.build [(zi 0), (zi 0), (zi 0), (zi 0), (zi 0)] [(0, 1, (ci 5)), (1, 1, (.t 74))]), vu (.st 5 (.t 2) (.t 75)), vo 3 (.mv (cb true))]) .ret) .skip)) .skip)))))))))))))))) (.seq (.reg [vo 76 (.build [(zi 0), (zi 0), (zi 0), (zi 0), (zi 0)] []), vu (.st 5 (.t 2) (.t 76)), vo 3 (.mv (cb false))]) .ret)))))), [.cell 2 true 5, .t 3]⟩
theorem low39 : lowF Tryd.prog 39 = some F39.strip := by kernel_rfl
theorem fok39 : fOk Tryd.prog 39 = true := by kernel_rfl
theorem reredosref_callOf_ok (p0 : List ByteArray) (r : Call × Bool) (h : reredosref_callOf p0 = some r) : FnRO Tryd.prog G 39 [.one (.d (.l 1 (p0.map encS)))] (fun rs => rs = [.agg (r.1.encO), .one (.b r.2)]) := by
 refine FnRO.of' low39 fok39 (by simp [F39]) ?_
 rw [reredosref_callOf] at h
 replace h := Hd.mk h
 simp only [F39, go_sem]
 try simp only [*, go_sem]
 intro hl1
 refine oi h (fun hb2 h => ?_) (fun hb2 h => ?_)
 cases h.e
 simp only [*, go_sem, mA, mS]
 refine ck h (fun _ h => ?_)
 have : (1 : Int) ≤ ((p0.length : Nat) : Int) := by omega
 try simp only [*, go_sem]
 refine cr h (reredosref_wholes_ok G (p0.drop 1)) (fun v4 h => ?_)
 refine oin h (fun hb5 hkhb5 h => ?_) (fun hb5 hkhb5 h => ?_)
 cases h.e
 simp only [*, go_sem, mA, mS]
 refine obg h (fun x6 _ _ h => ?_)
 have : (0 : Int) < ((p0.length : Nat) : Int) := by omega
 refine oi h (fun hb8 h => ?_) (fun hb8 h => ?_)
 try simp only [*, go_sem]
 intro hl9
 cases h.e
 simp only [*, go_sem, mA, mS]
 try simp only [*, go_sem]
 refine jn0 h ([zP 2 0]) ([ox [zi 0, zi 0, zi 0, zi 0, zi 0]]) (fun k11 h => ?_) (fun h => ?_)
 refine oi h (fun hb12 h => ?_) (fun hb12 h => ?_)
 try simp only [*, go_sem]
 intro hl13
 refine oi h (fun hb14 h => ?_) (fun hb14 h => ?_)
 refine obg h (fun x15 _ _ h => ?_)
 have : (0 : Int) < ((v4.1.length : Nat) : Int) := by omega
 refine obg h (fun x17 _ _ h => ?_)
 have : (1 : Int) < ((v4.1.length : Nat) : Int) := by omega
 refine obg h (fun x19 _ _ h => ?_)
 have : (2 : Int) < ((v4.1.length : Nat) : Int) := by omega
 cases h.e
 simp only [*, go_sem, mA, mS]
 try simp only [*, go_sem]
 exact jc () h.e [some 0]
 try simp only [*, go_sem]
 refine jn0 h ([zP 2 0]) ([ox [zi 0, zi 0, zi 0, zi 0, zi 0]]) (fun k22 h => ?_) (fun h => ?_)
 refine oi h (fun hb23 h => ?_) (fun hb23 h => ?_)
 try simp only [*, go_sem]
 intro hl24
 refine oi h (fun hb25 h => ?_) (fun hb25 h => ?_)
 refine obg h (fun x26 _ _ h => ?_)
 have : (0 : Int) < ((v4.1.length : Nat) : Int) := by omega
 refine obg h (fun x28 _ _ h => ?_)
 have : (1 : Int) < ((v4.1.length : Nat) : Int) := by omega
 refine obg h (fun x30 _ _ h => ?_)
 have : (2 : Int) < ((v4.1.length : Nat) : Int) := by omega
 cases h.e
 simp only [*, go_sem, mA, mS]
 try simp only [*, go_sem]
 exact jc () h.e [some 0]
 try simp only [*, go_sem]
 refine jn0 h ([zP 2 0]) ([ox [zi 0, zi 0, zi 0, zi 0, zi 0]]) (fun k33 h => ?_) (fun h => ?_)
 refine oi h (fun hb34 h => ?_) (fun hb34 h => ?_)
 try simp only [*, go_sem]
 intro hl35
 refine oi h (fun hb36 h => ?_) (fun hb36 h => ?_)
 refine obg h (fun x37 _ _ h => ?_)
 have : (0 : Int) < ((v4.1.length : Nat) : Int) := by omega
 cases h.e
 simp only [*, go_sem, mA, mS]
 try simp only [*, go_sem]
 exact jc () h.e [some 0]
 try simp only [*, go_sem]
 refine jn0 h ([zP 2 0]) ([ox [zi 0, zi 0, zi 0, zi 0, zi 0]]) (fun k40 h => ?_) (fun h => ?_)
 refine oi h (fun hb41 h => ?_) (fun hb41 h => ?_)
 try simp only [*, go_sem]
 intro hl42
 refine oi h (fun hb43 h => ?_) (fun hb43 h => ?_)
 refine obg h (fun x44 _ _ h => ?_)
 have : (0 : Int) < ((v4.1.length : Nat) : Int) := by omega
 cases h.e
 simp only [*, go_sem, mA, mS]
 try simp only [*, go_sem]
 exact jc () h.e [some 0]
 try simp only [*, go_sem]
 exact jc () h.e [some 0]
 try simp only [*, go_sem]
 exact jc () h.e [some 0]
 try simp only [*, go_sem]
 exact jc () h.e [some 0]
 try simp only [*, go_sem]
 exact jc () h.e [some 0]
 cases h.e
 simp only [*, go_sem, mA, mS]
def reredosref_hexDigit (p0 : Int) : Option (Int) := (if (decide (p0 < 10)) = true then (some (IntKind.u8.wrap (IntKind.i64.wrap (48 + p0)))) else (some (IntKind.u8.wrap (IntKind.i64.wrap (IntKind.i64.wrap (97 + p0) - 10)))))
def F69 : VFn := ⟨12, (.seq (.reg [vo 2 (.mv (.c (.one (.d (.i .u8 0)))))]) (.seq (.seq (.reg [vm 3 0, bk 4 .lss 3 10]) (.cond (.t 4) (.seq (.reg [vm 5 0, vo 6 (.bin .i .add (ci 48) (.t 5)), vo 7 (.cvi .u8 (.t 6)), vm 2 7]) .ret) .skip)) (.seq (.reg [vm 8 0, vo 9 (.bin .i .add (ci 97) (.t 8)), bk 10 .sub 9 10, vo 11 (.cvi .u8 (.t 10)), vm 2 11]) .ret))), [.t 2]⟩
theorem low69 : lowF Tryd.prog 69 = some F69.strip := by kernel_rfl
theorem fok69 : fOk Tryd.prog 69 = true := by kernel_rfl
theorem reredosref_hexDigit_ok (p0 : Int) (r : Int) (h : reredosref_hexDigit p0 = some r) : FnRO Tryd.prog G 69 [.one (.d (.i .i64 p0))] (fun rs => rs = [.one (.i .u8 r)]) := by
 refine FnRO.of' low69 fok69 (by simp [F69]) ?_
 rw [reredosref_hexDigit] at h
 replace h := Hd.mk h
 simp only [F69, go_sem]
 refine oi h (fun hb1 h => ?_) (fun hb1 h => ?_)
 have := of_decide_eq_true hb1
 cases h.e
 simp only [*, go_sem, mA, mS]
 cases h.e
 simp only [*, go_sem, mA, mS]
def reredosref_sixteenth_L1 (p0 : Int) (k2 : Option (Int)) : Nat → Int → Option (Int)
 | 0, _ => none
 | n4 + 1, a3_1 => (if (decide (a3_1 < 16)) = true then (Option.bind (reredosref_hexDigit a3_1) fun v6 => (if (v6 == p0) = true then (some a3_1) else (reredosref_sixteenth_L1 p0 k2 n4 (IntKind.i64.wrap (a3_1 + 1))))) else k2)
def reredosref_sixteenth (p0 : Int) : Option (Int) := (withK (some (-1)) fun k2 => (reredosref_sixteenth_L1 p0 k2 17 0))
def F54 : VFn := ⟨13, (.seq (.reg [mi 2 0]) (.seq (.seq (.reg [mi 3 0]) (.wk (.block 0 (.loop (.seq (.seq (.reg [vm 4 3, bk 5 .lss 4 16]) (.cond (.t 5) .skip (.exit 0))) (.seq (.block 1 (.seq (.reg [vm 8 3, vo 9 (.call 69 [(.t 8)]), vm 10 0, bt 11 .eql 9 10]) (.cond (.t 11) (.seq (.reg [vm 12 3, vm 2 12]) .ret) .skip))) (.reg [vm 6 3, bk 7 .add 6 1, vm 3 7]))))))) (.seq (.reg [mi 2 (-1)]) .ret))), [.t 2]⟩
theorem low54 : lowF Tryd.prog 54 = some F54.strip := by kernel_rfl
theorem fok54 : fOk Tryd.prog 54 = true := by kernel_rfl
theorem reredosref_sixteenth_ok (p0 : Int) (r : Int) (h : reredosref_sixteenth p0 = some r) : FnRO Tryd.prog G 54 [.one (.d (.i .u8 p0))] (fun rs => rs = [.one (.i .i64 r)]) := by
 refine FnRO.of' low54 fok54 (by simp [F54]) ?_
 rw [reredosref_sixteenth] at h
 replace h := Hd.mk h
 simp only [F54, go_sem]
 try simp only [*, go_sem]
 refine jn0 h ([]) ([]) (fun k2 h => ?_) (fun h => ?_)
 try simp only [*, go_sem]
 refine lp1 (reredosref_sixteenth_L1 p0 k2) (fun a3_1 => [(0, .one (.d (.i .u8 p0))), zI 3 a3_1]) (fun a3_1 => []) h [] [] (fun n4 a3_1 h => ?_) (by intros; rw [reredosref_sixteenth_L1])
 rw [reredosref_sixteenth_L1] at h
 refine oi h (fun hb5 h => ?_) (fun hb5 h => ?_)
 have := of_decide_eq_true hb5
 try simp only [*, go_sem]
 refine cr h (reredosref_hexDigit_ok G a3_1) (fun v6 h => ?_)
 refine oi h (fun hb7 h => ?_) (fun hb7 h => ?_)
 cases h.e
 simp only [*, go_sem, mA, mS]
 try simp only [*, go_sem]
 exact lc (IntKind.i64.wrap (a3_1 + 1)) h.e []
 try simp only [*, go_sem]
 exact jc () h.e []
 cases h.e
 simp only [*, go_sem, mA, mS]
def reredosref_undotted_L1 (p0 : ByteArray) (k6 : (List Int) → Option (ByteArray × Bool)) : Nat → Int → (List Int) → Option (ByteArray × Bool)
 | 0, _, _ => none
 | n8 + 1, a7_1, a7_2 => (if (decide (a7_1 < ((p0.size : Nat) : Int))) = true then (if 0 ≤ a7_1 ∧ a7_1 < ((p0.size : Nat) : Int) then (Option.bind (reredosref_sixteenth (((p0.data.toList.getD a7_1.toNat 0).toNat : Nat) : Int)) fun v11 => (if 0 ≤ IntKind.i64.wrap (a7_1 + 1) ∧ IntKind.i64.wrap (a7_1 + 1) < ((p0.size : Nat) : Int) then (Option.bind (reredosref_sixteenth (((p0.data.toList.getD ((IntKind.i64.wrap (a7_1 + 1)).toNat) 0).toNat : Nat) : Int)) fun v13 => (if (decide (v11 < 0)) = true then (some ((⟨#[]⟩ : ByteArray), false)) else (if (decide (v13 < 0)) = true then (some ((⟨#[]⟩ : ByteArray), false)) else (if fits 1 (a7_2.length + 1) then (reredosref_undotted_L1 p0 k6 n8 (IntKind.i64.wrap (a7_1 + 2)) (a7_2 ++ [IntKind.u8.wrap (IntKind.i64.wrap (IntKind.i64.wrap (16 * v11) + v13))])) else none)))) else none)) else none) else (k6 a7_2))
def reredosref_undotted (p0 : ByteArray) : Option (ByteArray × Bool) := (if (((p0.size : Nat) : Int) == 0) = true then (some ((⟨#[]⟩ : ByteArray), false)) else (if 0 ≤ 0 ∧ 0 < ((p0.size : Nat) : Int) then (if ((((p0.data.toList.getD 0 0).toNat : Nat) : Int) != 46) = true then (some ((⟨#[]⟩ : ByteArray), false)) else (if (((p0.size : Nat) : Int).tmod 2 == 0) = true then (some ((⟨#[]⟩ : ByteArray), false)) else (withK (fun (b5_1 : List Int) => (some ((strOfNums b5_1), true))) fun k6 => (reredosref_undotted_L1 p0 k6 (p0.size + 1) 1 [])))) else none))
def F40 : VFn := ⟨53, (.seq (.reg [vo 2 (.mv (.c (.one (.d (.s ⟨#[]⟩))))), vo 3 (.mv (cb false))]) (.seq (.seq (.reg [vm 8 0, vo 9 (.lens (.t 8)), bk 10 .eql 9 0, vm 11 10, gf 12 11 (.mv (.t 0)), gf 13 11 (.ix (.t 12) (ci 0)), gf 14 11 (.bin .i .neq (.t 13) (.c (.one (.d (.i .u8 46))))), vo 15 (.pick (.t 11) (cb true) (.t 14)), vm 16 15, gf 17 16 (.mv (.t 0)), gf 18 16 (.lens (.t 17)), gf 19 16 (.bin .i .rem (.t 18) (ci 2)), gf 20 16 (.bin .i .eql (.t 19) (ci 0)), vo 21 (.pick (.t 16) (cb true) (.t 20))]) (.cond (.t 21) (.seq (.reg [vo 2 (.mv (.c (.one (.d (.s ⟨#[]⟩))))), vo 3 (.mv (cb false))]) .ret) .skip)) (.seq (.reg [vo 4 (.mv (.c (.one (.nl 1))))]) (.seq (.seq (.reg [mi 5 1]) (.wk (.block 0 (.loop (.seq (.seq (.reg [vm 22 5, vm 23 0, vo 24 (.lens (.t 23)), bt 25 .lss 22 24]) (.cond (.t 25) .skip (.exit 0))) (.seq (.block 1 (.seq (.reg [vm 28 0, vm 29 5, vo 30 (.ix (.t 28) (.t 29)), vo 31 (.call 54 [(.t 30)]), vm 6 31]) (.seq (.reg [vm 32 0, vm 33 5, bk 34 .add 33 1, vo 35 (.ix (.t 32) (.t 34)), vo 36 (.call 54 [(.t 35)]), vm 7 36]) (.seq (.seq (.reg [vm 37 6, bk 38 .lss 37 0, vm 39 38, gf 40 39 (.mv (.t 7)), gf 41 39 (.bin .i .lss (.t 40) (ci 0)), vo 42 (.pick (.t 39) (cb true) (.t 41))]) (.cond (.t 42) (.seq (.reg [vo 2 (.mv (.c (.one (.d (.s ⟨#[]⟩))))), vo 3 (.mv (cb false))]) .ret) .skip)) (.reg [vm 43 4, vm 44 6, vo 45 (.bin .i .mul (ci 16) (.t 44)), vm 46 7, bt 47 .add 45 46, vo 48 (.cvi .u8 (.t 47)), vo 49 (.bsl 1 1 [(.d (.i .u8 0))] [(0, (.t 48))]), vo 50 (.app 1 1 (.t 43) (.t 49)), vm 4 50]))))) (.reg [vm 26 5, bk 27 .add 26 2, vm 5 27]))))))) (.seq (.reg [vm 51 4, vo 52 (.b2s (.t 51)), vm 2 52, vo 3 (.mv (cb true))]) .ret))))), [.t 2, .t 3]⟩
theorem low40 : lowF Tryd.prog 40 = some F40.strip := by kernel_rfl
theorem fok40 : fOk Tryd.prog 40 = true := by kernel_rfl
theorem reredosref_undotted_ok (p0 : ByteArray) (r : ByteArray × Bool) (h : reredosref_undotted p0 = some r) : FnRO Tryd.prog G 40 [.one (.d (.s p0))] (fun rs => rs = [.one (.s r.1), .one (.b r.2)]) := by
 refine FnRO.of' low40 fok40 (by simp [F40]) ?_
 rw [reredosref_undotted] at h
 replace h := Hd.mk h
 simp only [F40, go_sem]
 refine oi h (fun hb1 h => ?_) (fun hb1 h => ?_)
 cases h.e
 simp only [*, go_sem, mA, mS]
 refine ck h (fun _ h => ?_)
 refine oi h (fun hb3 h => ?_) (fun hb3 h => ?_)
 cases h.e
 simp only [*, go_sem, mA, mS]
 refine oi h (fun hb4 h => ?_) (fun hb4 h => ?_)
 cases h.e
 simp only [*, go_sem, mA, mS]
 try simp only [*, go_sem]
 refine jn1 h (fun b5_1 => [zR 4 0 0 b5_1.length]) (fun b5_1 => [oa 1 (b5_1.map encU8)]) (fun k6 h => ?_) (fun b5_1 h => ?_)
 try simp only [*, go_sem]
 refine lp2 (reredosref_undotted_L1 p0 k6) (fun a7_1 a7_2 => [(0, .one (.d (.s p0))), zR 4 0 0 a7_2.length, zI 5 a7_1]) (fun a7_1 a7_2 => [oa 1 (a7_2.map encU8)]) h [] [none] (fun n8 a7_1 a7_2 h => ?_) (by intros; rw [reredosref_undotted_L1])
 rw [reredosref_undotted_L1] at h
 refine oi h (fun hb9 h => ?_) (fun hb9 h => ?_)
 refine ck h (fun _ h => ?_)
 try simp only [*, go_sem]
 refine cr h (reredosref_sixteenth_ok G (((p0.data.toList.getD a7_1.toNat 0).toNat : Nat) : Int)) (fun v11 h => ?_)
 refine ck h (fun _ h => ?_)
 try simp only [*, go_sem]
 refine cr h (reredosref_sixteenth_ok G (((p0.data.toList.getD ((IntKind.i64.wrap (a7_1 + 1)).toNat) 0).toNat : Nat) : Int)) (fun v13 h => ?_)
 refine oi h (fun hb14 h => ?_) (fun hb14 h => ?_)
 have := of_decide_eq_true hb14
 cases h.e
 simp only [*, go_sem, mA, mS]
 refine oi h (fun hb15 h => ?_) (fun hb15 h => ?_)
 have := of_decide_eq_true hb15
 cases h.e
 simp only [*, go_sem, mA, mS]
 refine ck h (fun _ h => ?_)
 try simp only [*, go_sem]
 exact lc (IntKind.i64.wrap (a7_1 + 2), (a7_2 ++ [IntKind.u8.wrap (IntKind.i64.wrap (IntKind.i64.wrap (16 * v11) + v13))])) h.e [some 2]
 try simp only [*, go_sem]
 exact jc (a7_2) h.e [some 0]
 cases h.e
 simp only [*, go_sem, mA, mS]
def reredosref_lineAct (p0 : ByteArray) : Option (Act × Bool) := (Option.bind (reredosref_partsOf p0) fun v1 => (withK (if 1 ≤ v1.length then (Option.bind (reredosref_wholes ((v1.drop 1).take (v1.length - 1))) fun v61 => (if (!v61.2) = true then (some ((Act.mk 0 0 0 0 0 [] (Call.mk 0 0 0 0 0) (⟨#[]⟩ : ByteArray)), false)) else (Option.bind (v1[0]?) fun x63 => (if (x63.toList == bs_e5e5c075.toList) = true then (some ((Act.mk 5 0 0 0 0 [] (Call.mk 0 0 0 0 0) (⟨#[]⟩ : ByteArray)), ((v61.1.length : Nat) : Int) == 0)) else (withK (some ((Act.mk 0 0 0 0 0 [] (Call.mk 0 0 0 0 0) (⟨#[]⟩ : ByteArray)), false)) fun k68 => (if (x63.toList == bs_ea2b2676.toList) = true then (if (((v61.1.length : Nat) : Int) == 1) = true then (Option.bind (v61.1[0]?) fun x72 => (some ((Act.mk 7 x72 0 0 0 [] (Call.mk 0 0 0 0 0) (⟨#[]⟩ : ByteArray)), true))) else k68) else (withK k68 fun k75 => (if (x63.toList == bs_dcaa9fd4.toList) = true then (if (decide (((v61.1.length : Nat) : Int) > 0)) = true then (Option.bind (v61.1[0]?) fun x79 => (if 1 ≤ v61.1.length then (some ((Act.mk 6 x79 0 0 0 (v61.1.drop 1) (Call.mk 0 0 0 0 0) (⟨#[]⟩ : ByteArray)), true)) else none)) else k75) else (withK (fun (b82_1 : Bool) => (withK k75 fun k89 => (if b82_1 = true then (if (((v61.1.length : Nat) : Int) == 4) = true then (withK (fun (b93_1 : Nat) => (withK (fun (b96_1 : Nat) => (Option.bind (v61.1[0]?) fun x99 => (Option.bind (v61.1[1]?) fun x101 => (Option.bind (v61.1[2]?) fun x103 => (Option.bind (v61.1[3]?) fun x105 => (some ((Act.mk ((b96_1 : Nat) : Int) x99 x101 x103 x105 [] (Call.mk 0 0 0 0 0) (⟨#[]⟩ : ByteArray)), true))))))) fun k97 => (if (x63.toList == bs_12cba3ee.toList) = true then (k97 4) else (k97 b93_1)))) fun k94 => (if (x63.toList == bs_6e9d2536.toList) = true then (k94 3) else (k94 2))) else k89) else k89))) fun k83 => (if (x63.toList == bs_45a69146.toList) = true then (k83 true) else (withK (fun (b85_1 : Bool) => (k83 b85_1)) fun k86 => (if (x63.toList == bs_6e9d2536.toList) = true then (k86 true) else (k86 (x63.toList == bs_12cba3ee.toList)))))))))))))) else none) fun k3 => (Option.bind (v1[0]?) fun x4 => (if (x4.toList == bs_5ed33f70.toList) = true then (if (decide (((v1.length : Nat) : Int) < 4)) = true then (some ((Act.mk 0 0 0 0 0 [] (Call.mk 0 0 0 0 0) (⟨#[]⟩ : ByteArray)), false)) else (if 3 ≤ v1.length then (Option.bind (reredosref_wholes ((v1.drop 1).take 2)) fun v13 => (if (!v13.2) = true then (some ((Act.mk 0 0 0 0 0 [] (Call.mk 0 0 0 0 0) (⟨#[]⟩ : ByteArray)), false)) else (if (x4.toList == bs_5ed33f70.toList) = true then (Option.bind (reredosref_callOf ((v1.drop 3).take (v1.length - 3))) fun v17 => (Option.bind (v13.1[0]?) fun x18 => (Option.bind (v13.1[1]?) fun x20 => (some ((Act.mk 1 x18 0 x20 0 [] v17.1 (⟨#[]⟩ : ByteArray)), v17.2))))) else (Option.bind (v1[3]?) fun x22 => (Option.bind (reredosref_undotted x22) fun v24 => (withK (fun (b25_1 : Bool) (b25_2 : Int) (b25_3 : Int) => (some ((Act.mk 8 b25_2 0 b25_3 0 [] (Call.mk 0 0 0 0 0) v24.1), b25_1))) fun k26 => (Option.bind (v13.1[0]?) fun x27 => (Option.bind (v13.1[1]?) fun x29 => (if v24.2 = true then (k26 (((v1.length : Nat) : Int) == 4) x27 x29) else (k26 false x27 x29)))))))))) else none)) else (if (x4.toList == bs_599dcce2.toList) = true then (if (decide (((v1.length : Nat) : Int) < 4)) = true then (some ((Act.mk 0 0 0 0 0 [] (Call.mk 0 0 0 0 0) (⟨#[]⟩ : ByteArray)), false)) else (if 3 ≤ v1.length then (Option.bind (reredosref_wholes ((v1.drop 1).take 2)) fun v39 => (if (!v39.2) = true then (some ((Act.mk 0 0 0 0 0 [] (Call.mk 0 0 0 0 0) (⟨#[]⟩ : ByteArray)), false)) else (if (x4.toList == bs_5ed33f70.toList) = true then (Option.bind (reredosref_callOf ((v1.drop 3).take (v1.length - 3))) fun v43 => (Option.bind (v39.1[0]?) fun x44 => (Option.bind (v39.1[1]?) fun x46 => (some ((Act.mk 1 x44 0 x46 0 [] v43.1 (⟨#[]⟩ : ByteArray)), v43.2))))) else (Option.bind (v1[3]?) fun x48 => (Option.bind (reredosref_undotted x48) fun v50 => (withK (fun (b51_1 : Bool) (b51_2 : Int) (b51_3 : Int) => (some ((Act.mk 8 b51_2 0 b51_3 0 [] (Call.mk 0 0 0 0 0) v50.1), b51_1))) fun k52 => (Option.bind (v39.1[0]?) fun x53 => (Option.bind (v39.1[1]?) fun x55 => (if v50.2 = true then (k52 (((v1.length : Nat) : Int) == 4) x53 x55) else (k52 false x53 x55)))))))))) else none)) else k3)))))
def F20 : VFn := ⟨147, (.seq (.reg [vo 2 (.alloc [(zi 0), (zi 0), (zi 0), (zi 0), (zi 0), (.nl 1), (zi 0), (zi 0), (zi 0), (zi 0), (zi 0), (.d (.s ⟨#[]⟩))]), vo 3 (.mv (cb false))]) (.seq (.reg [vm 14 0, vo 15 (.call 13 [(.t 14)]), vm 4 15]) (.seq (.wk (.seq (.reg [vm 16 4, vo 17 (.ia 1 (.t 16) (ci 0)), vs 18 17, vo 19 (.bin .s .eql (.t 18) (.c (.one (.d (.s bs_5ed33f70))))), vm 20 19, gf 21 20 (.mv (.t 4)), gf 22 20 (.ia 1 (.t 21) (ci 0)), gf 23 20 (.ld false 1 (.t 22)), gf 24 20 (.bin .s .eql (.t 23) (.c (.one (.d (.s bs_599dcce2))))), vo 25 (.pick (.t 20) (cb true) (.t 24))]) (.cond (.t 25) (.seq (.seq (.reg [vm 26 4, ln 27 26, bk 28 .lss 27 4]) (.cond (.t 28) (.seq (.reg [vo 29 (.build [(zi 0), (zi 0), (zi 0), (zi 0), (zi 0), (.nl 1), (zi 0), (zi 0), (zi 0), (zi 0), (zi 0), (.d (.s ⟨#[]⟩))] []), vu (.st 12 (.t 2) (.t 29)), vo 3 (.mv (cb false))]) .ret) .skip)) (.seq (.pre (.reg [vm 31 4, vo 32 (.sl 1 (.t 31) (some (ci 1)) (some (ci 3))), vo 33 (.call 38 [(.t 32)]), vm 30 33, et 34 30 0, et 35 30 1, vm 5 34, vm 6 35])) (.seq (.seq (.reg [vm 36 6, nt 37 36]) (.cond (.t 37) (.seq (.reg [vo 38 (.build [(zi 0), (zi 0), (zi 0), (zi 0), (zi 0), (.nl 1), (zi 0), (zi 0), (zi 0), (zi 0), (zi 0), (.d (.s ⟨#[]⟩))] []), vu (.st 12 (.t 2) (.t 38)), vo 3 (.mv (cb false))]) .ret) .skip)) (.seq (.seq (.reg [vm 39 4, vo 40 (.ia 1 (.t 39) (ci 0)), vs 41 40, vo 42 (.bin .s .eql (.t 41) (.c (.one (.d (.s bs_5ed33f70)))))]) (.cond (.t 42) (.seq (.reg [vm 44 4, vo 45 (.sl 1 (.t 44) (some (ci 3)) none), vo 46 (.call 39 [(.t 45)]), vm 43 46, et 47 43 0, et 48 43 1, vo 7 (.alloc [(zi 0), (zi 0), (zi 0), (zi 0), (zi 0)]), vu (.st 5 (.t 7) (.t 47)), vm 8 48]) (.seq (.draw [vd (vm 49 5) 0, vd (vo 50 (.ia 1 (.t 49) (ci 0))) 1, vd (vs 51 50) 3, vd (vm 52 5) 0, vd (vo 53 (.ia 1 (.t 52) (ci 1))) 8, vd (vs 54 53) 24, vd (vl 55 5 7) 0, vd (vo 56 (.build [(zi 0), (zi 0), (zi 0), (zi 0), (zi 0), (.nl 1), (zi 0), (zi 0), (zi 0), (zi 0), (zi 0), (.d (.s ⟨#[]⟩))] [(0, 1, (ci 1)), (1, 1, (.t 51)), (3, 1, (.t 54)), (6, 5, (.t 55))])) 127, vd (vm 57 8) 0, vd (vu (.st 12 (.t 2) (.t 56))) 255, vd (vm 3 57) 1023]) .ret)) .skip)) (.seq (.reg [vm 59 4, vo 60 (.ia 1 (.t 59) (ci 3)), vs 61 60, vo 62 (.call 40 [(.t 61)]), vm 58 62, et 63 58 0, et 64 58 1, vm 9 63, vm 10 64]) (.seq (.wk (.draw [vd (vm 65 5) 0, vd (vo 66 (.ia 1 (.t 65) (ci 0))) 1, vd (vs 67 66) 3, vd (vm 68 5) 0, vd (vo 69 (.ia 1 (.t 68) (ci 1))) 8, vd (vs 70 69) 24, vd (vm 71 9) 0, vd (vo 72 (.build [(zi 0), (zi 0), (zi 0), (zi 0), (zi 0), (.nl 1), (zi 0), (zi 0), (zi 0), (zi 0), (zi 0), (.d (.s ⟨#[]⟩))] [(0, 1, (ci 8)), (1, 1, (.t 67)), (3, 1, (.t 70)), (11, 1, (.t 71))])) 127, vd (vm 73 10) 0, vd (vm 74 73) 256, vd (gt 75 74 (.mv (.t 4))) 768, ⟨gt 76 74 (.len (.t 75)), 1792, [], none, [0]⟩, vd (gt 77 74 (.bin .i .eql (.t 76) (ci 4))) 3840, vd (vo 78 (.pick (.t 74) (.t 77) (cb false))) 7936, ⟨vu (.st 12 (.t 2) (.t 72)), 1023, [], (some 0), []⟩, vd (vm 3 78) 0x7fff])) .ret)))))) .skip))) (.seq (.pre (.reg [vm 80 4, vo 81 (.sl 1 (.t 80) (some (ci 1)) none), vo 82 (.call 38 [(.t 81)]), vm 79 82, et 83 79 0, et 84 79 1, vm 11 83, vm 12 84])) (.seq (.seq (.reg [vm 85 12, nt 86 85]) (.cond (.t 86) (.seq (.reg [vo 87 (.build [(zi 0), (zi 0), (zi 0), (zi 0), (zi 0), (.nl 1), (zi 0), (zi 0), (zi 0), (zi 0), (zi 0), (.d (.s ⟨#[]⟩))] []), vu (.st 12 (.t 2) (.t 87)), vo 3 (.mv (cb false))]) .ret) .skip)) (.seq (.seq (.reg [vm 88 4, vo 89 (.ia 1 (.t 88) (ci 0)), vs 90 89]) (.block 0 (.seq (.reg [vo 92 (.bin .s .eql (.t 90) (.c (.one (.d (.s bs_e5e5c075))))), vm 91 92]) (.cond (.t 91) (.seq (.reg [vo 93 (.build [(zi 0), (zi 0), (zi 0), (zi 0), (zi 0), (.nl 1), (zi 0), (zi 0), (zi 0), (zi 0), (zi 0), (.d (.s ⟨#[]⟩))] [(0, 1, (ci 5))]), vm 94 11, ln 95 94, bk 96 .eql 95 0, vu (.st 12 (.t 2) (.t 93)), vm 3 96]) .ret) (.seq (.reg [vo 98 (.bin .s .eql (.t 90) (.c (.one (.d (.s bs_ea2b2676))))), vm 97 98]) (.wk (.cond (.t 97) (.seq (.reg [vm 99 11, ln 100 99, bk 101 .eql 100 1]) (.cond (.t 101) (.seq (.reg [vm 102 11, vo 103 (.ia 1 (.t 102) (ci 0)), vs 104 103, vo 105 (.build [(zi 0), (zi 0), (zi 0), (zi 0), (zi 0), (.nl 1), (zi 0), (zi 0), (zi 0), (zi 0), (zi 0), (.d (.s ⟨#[]⟩))] [(0, 1, (ci 7)), (1, 1, (.t 104))]), vu (.st 12 (.t 2) (.t 105)), vo 3 (.mv (cb true))]) .ret) .skip)) (.seq (.reg [vo 107 (.bin .s .eql (.t 90) (.c (.one (.d (.s bs_dcaa9fd4))))), vm 106 107]) (.wk (.cond (.t 106) (.seq (.reg [vm 108 11, ln 109 108, bk 110 .gtr 109 0]) (.cond (.t 110) (.seq (.draw [vd (vm 111 11) 0, vd (vo 112 (.ia 1 (.t 111) (ci 0))) 1, vd (vs 113 112) 3, vd (vm 114 11) 0, vd (vo 115 (.sl 1 (.t 114) (some (ci 1)) none)) 8, vd (vo 116 (.build [(zi 0), (zi 0), (zi 0), (zi 0), (zi 0), (.nl 1), (zi 0), (zi 0), (zi 0), (zi 0), (zi 0), (.d (.s ⟨#[]⟩))] [(0, 1, (ci 6)), (1, 1, (.t 113)), (5, 1, (.t 115))])) 31, vd (vu (.st 12 (.t 2) (.t 116))) 63, vd (vo 3 (.mv (cb true))) 127]) .ret) .skip)) (.seq (.seq (.reg [vo 118 (.bin .s .eql (.t 90) (.c (.one (.d (.s bs_45a69146))))), vm 117 118]) (.wk (.cond (.t 117) .skip (.seq (.reg [vo 119 (.bin .s .eql (.t 90) (.c (.one (.d (.s bs_6e9d2536))))), vm 117 119]) (.wk (.cond (.t 117) .skip (.reg [vo 120 (.bin .s .eql (.t 90) (.c (.one (.d (.s bs_12cba3ee))))), vm 117 120]))))))) (.wk (.cond (.t 117) (.seq (.reg [vm 121 11, ln 122 121, bk 123 .eql 122 4]) (.cond (.t 123) (.seq (.reg [mi 13 2]) (.seq (.seq (.reg [vm 124 4, vo 125 (.ia 1 (.t 124) (ci 0)), vs 126 125, vo 127 (.bin .s .eql (.t 126) (.c (.one (.d (.s bs_6e9d2536)))))]) (.wk (.cond (.t 127) (.reg [mi 13 3]) .skip))) (.seq (.seq (.reg [vm 128 4, vo 129 (.ia 1 (.t 128) (ci 0)), vs 130 129, vo 131 (.bin .s .eql (.t 130) (.c (.one (.d (.s bs_12cba3ee)))))]) (.wk (.cond (.t 131) (.reg [mi 13 4]) .skip))) (.seq (.draw [vd (vm 132 13) 0, vd (vm 133 11) 0, vd (vo 134 (.ia 1 (.t 133) (ci 0))) 2, vd (vs 135 134) 6, vd (vm 136 11) 0, vd (vo 137 (.ia 1 (.t 136) (ci 1))) 16, vd (vs 138 137) 48, vd (vm 139 11) 0, vd (vo 140 (.ia 1 (.t 139) (ci 2))) 128, vd (vs 141 140) 384, vd (vm 142 11) 0, vd (vo 143 (.ia 1 (.t 142) (ci 3))) 1024, vd (vs 144 143) 3072, vd (vo 145 (.build [(zi 0), (zi 0), (zi 0), (zi 0), (zi 0), (.nl 1), (zi 0), (zi 0), (zi 0), (zi 0), (zi 0), (.d (.s ⟨#[]⟩))] [(0, 1, (.t 132)), (1, 1, (.t 135)), (2, 1, (.t 138)), (3, 1, (.t 141)), (4, 1, (.t 144))])) 8191, vd (vu (.st 12 (.t 2) (.t 145))) 0x3fff, vd (vo 3 (.mv (cb true))) 0x7fff]) .ret)))) .skip)) .skip))))))))))))) (.seq (.reg [vo 146 (.build [(zi 0), (zi 0), (zi 0), (zi 0), (zi 0), (.nl 1), (zi 0), (zi 0), (zi 0), (zi 0), (zi 0), (.d (.s ⟨#[]⟩))] []), vu (.st 12 (.t 2) (.t 146)), vo 3 (.mv (cb false))]) .ret))))))), [.cell 2 true 12, .t 3]⟩
theorem low20 : lowF Tryd.prog 20 = some F20.strip := by kernel_rfl
theorem fok20 : fOk Tryd.prog 20 = true := by kernel_rfl
theorem reredosref_lineAct_ok (p0 : ByteArray) (r : Act × Bool) (h : reredosref_lineAct p0 = some r) : FnRO Tryd.prog G 20 [.one (.d (.s p0))] (fun rs => rs = [.agg (r.1.enc), .one (.b r.2)]) := by
 refine FnRO.fz ?_ rfl
 refine FnRO.of' low20 fok20 (by simp [F20]) ?_
 rw [reredosref_lineAct] at h
 replace h := Hd.mk h
 simp only [F20, go_sem]
 try simp only [*, go_sem]
 refine cr h (reredosref_partsOf_ok G p0) (fun v1 h => ?_)
 try simp only [*, go_sem]
 refine jn0 h ([zP 2 0, zR 4 1 0 v1.length]) ([ox [zi 0, zi 0, zi 0, zi 0, zi 0, .nl 1, zi 0, zi 0, zi 0, zi 0, zi 0, .d (.s (⟨#[]⟩ : ByteArray))], oa 1 (v1.map encS)]) (fun k3 h => ?_) (fun h => ?_)
 refine obg h (fun x4 _ _ h => ?_)
 have : (0 : Int) < ((v1.length : Nat) : Int) := by omega
 refine oi h (fun hb6 h => ?_) (fun hb6 h => ?_)
 try simp only [*, go_sem]
 intro hl7
 refine oi h (fun hb8 h => ?_) (fun hb8 h => ?_)
 cases h.e
 simp only [*, go_sem, mA, mS]
 try simp only [*, go_sem]
 refine pre_lk Tryd.prog G _ _ [zP 2 0, zR 4 1 0 v1.length] [ox [zi 0, zi 0, zi 0, zi 0, zi 0, .nl 1, zi 0, zi 0, zi 0, zi 0, zi 0, .d (.s (⟨#[]⟩ : ByteArray))], oz 1 (v1.map encS)] [.z 1] [some 0, some 1] rfl (by simp only [*, go_sem, List.map_append, List.map_cons, List.map_nil, Option.some.injEq, Prod.mk.injEq, SC.d.injEq, D.l.injEq, List.map_set]) (by simp only [*, go_sem, List.map_append, List.map_cons, List.map_nil, Option.some.injEq, Prod.mk.injEq, SC.d.injEq, D.l.injEq, List.map_set]) ?_
 refine ck h (fun _ h => ?_)
 have : (3 : Int) ≤ ((v1.length : Nat) : Int) := by omega
 have : ((3 : Int) - 1).toNat = 2 := rfl
 have : 1 + 2 ≤ v1.length := by omega
 try simp only [*, go_sem]
 refine cr h (fun v hv => FnRO.fz' (reredosref_wholes_ok G ((v1.drop 1).take 2) v hv) rfl rfl) (fun v13 h => ?_)
 refine oin h (fun hb14 hkhb14 h => ?_) (fun hb14 hkhb14 h => ?_)
 cases h.e
 simp only [*, go_sem, mA, mS]
 refine oi h (fun hb15 h => ?_) (fun hb15 h => ?_)
 have : 3 + (v1.length - 3) ≤ v1.length := by omega
 try simp only [*, go_sem]
 refine cr h (reredosref_callOf_ok G ((v1.drop 3).take (v1.length - 3))) (fun v17 h => ?_)
 refine obg h (fun x18 _ _ h => ?_)
 have : (0 : Int) < ((v13.1.length : Nat) : Int) := by omega
 refine obg h (fun x20 _ _ h => ?_)
 have : (1 : Int) < ((v13.1.length : Nat) : Int) := by omega
 cases h.e
 simp only [*, go_sem, mA, mS]
 cases hb6.symm.trans hb15
 refine oi h (fun hb32 h => ?_) (fun hb32 h => ?_)
 try simp only [*, go_sem]
 intro hl33
 refine oi h (fun hb34 h => ?_) (fun hb34 h => ?_)
 cases h.e
 simp only [*, go_sem, mA, mS]
 try simp only [*, go_sem]
 refine pre_lk Tryd.prog G _ _ [zP 2 0, zR 4 1 0 v1.length] [ox [zi 0, zi 0, zi 0, zi 0, zi 0, .nl 1, zi 0, zi 0, zi 0, zi 0, zi 0, .d (.s (⟨#[]⟩ : ByteArray))], oz 1 (v1.map encS)] [.z 1] [some 0, some 1] rfl (by simp only [*, go_sem, List.map_append, List.map_cons, List.map_nil, Option.some.injEq, Prod.mk.injEq, SC.d.injEq, D.l.injEq, List.map_set]) (by simp only [*, go_sem, List.map_append, List.map_cons, List.map_nil, Option.some.injEq, Prod.mk.injEq, SC.d.injEq, D.l.injEq, List.map_set]) ?_
 refine ck h (fun _ h => ?_)
 have : (3 : Int) ≤ ((v1.length : Nat) : Int) := by omega
 have : ((3 : Int) - 1).toNat = 2 := rfl
 have : 1 + 2 ≤ v1.length := by omega
 try simp only [*, go_sem]
 refine cr h (fun v hv => FnRO.fz' (reredosref_wholes_ok G ((v1.drop 1).take 2) v hv) rfl rfl) (fun v39 h => ?_)
 refine oin h (fun hb40 hkhb40 h => ?_) (fun hb40 hkhb40 h => ?_)
 cases h.e
 simp only [*, go_sem, mA, mS]
 refine oi h (fun hb41 h => ?_) (fun hb41 h => ?_)
 cases hb6.symm.trans hb41
 refine obg h (fun x48 _ _ h => ?_)
 have : (3 : Int) < ((v1.length : Nat) : Int) := by omega
 try simp only [*, go_sem]
 refine cr h (reredosref_undotted_ok G x48) (fun v50 h => ?_)
 try simp only [*, go_sem]
 refine jn3 h (fun b51_1 b51_2 b51_3 => [zP 2 0, zB 3 b51_1]) (fun b51_1 b51_2 b51_3 => [ox [zi 8, zi b51_2, zi 0, zi b51_3, zi 0, .nl 1, zi 0, zi 0, zi 0, zi 0, zi 0, .d (.s v50.1)]]) (fun k52 h => ?_) (fun b51_1 b51_2 b51_3 h => ?_)
 refine obg h (fun x53 _ _ h => ?_)
 have : (0 : Int) < ((v39.1.length : Nat) : Int) := by omega
 refine obg h (fun x55 _ _ h => ?_)
 have : (1 : Int) < ((v39.1.length : Nat) : Int) := by omega
 refine oi h (fun hb57 h => ?_) (fun hb57 h => ?_)
 try simp only [*, go_sem]
 exact jc (((v1.length : Nat) : Int) == 4, x53, x55) h.e [some 0]
 try simp only [*, go_sem]
 exact jc (false, x53, x55) h.e [some 0]
 cases h.e
 simp only [*, go_sem, mA, mS]
 try simp only [*, go_sem]
 exact jc () h.e [some 0, some 1]
 try simp only [*, go_sem]
 refine pre_lk Tryd.prog G _ _ [zP 2 0, zR 4 1 0 v1.length] [ox [zi 0, zi 0, zi 0, zi 0, zi 0, .nl 1, zi 0, zi 0, zi 0, zi 0, zi 0, .d (.s (⟨#[]⟩ : ByteArray))], oz 1 (v1.map encS)] [.z 1] [some 0, some 1] rfl (by simp only [*, go_sem, List.map_append, List.map_cons, List.map_nil, Option.some.injEq, Prod.mk.injEq, SC.d.injEq, D.l.injEq, List.map_set]) (by simp only [*, go_sem, List.map_append, List.map_cons, List.map_nil, Option.some.injEq, Prod.mk.injEq, SC.d.injEq, D.l.injEq, List.map_set]) ?_
 refine ck h (fun _ h => ?_)
 have : (1 : Int) ≤ ((v1.length : Nat) : Int) := by omega
 have : 1 + (v1.length - 1) ≤ v1.length := by omega
 try simp only [*, go_sem]
 refine cr h (fun v hv => FnRO.fz' (reredosref_wholes_ok G ((v1.drop 1).take (v1.length - 1)) v hv) rfl rfl) (fun v61 h => ?_)
 refine oin h (fun hb62 hkhb62 h => ?_) (fun hb62 hkhb62 h => ?_)
 cases h.e
 simp only [*, go_sem, mA, mS]
 refine obg h (fun x63 _ _ h => ?_)
 have : (0 : Int) < ((v1.length : Nat) : Int) := by omega
 refine oi h (fun hb65 h => ?_) (fun hb65 h => ?_)
 try simp only [*, go_sem]
 intro hl66
 cases h.e
 simp only [*, go_sem, mA, mS]
 try simp only [*, go_sem]
 refine jn0 h ([zP 2 0]) ([ox [zi 0, zi 0, zi 0, zi 0, zi 0, .nl 1, zi 0, zi 0, zi 0, zi 0, zi 0, .d (.s (⟨#[]⟩ : ByteArray))]]) (fun k68 h => ?_) (fun h => ?_)
 refine oi h (fun hb69 h => ?_) (fun hb69 h => ?_)
 try simp only [*, go_sem]
 intro hl70
 refine oi h (fun hb71 h => ?_) (fun hb71 h => ?_)
 refine obg h (fun x72 _ _ h => ?_)
 have : (0 : Int) < ((v61.1.length : Nat) : Int) := by omega
 cases h.e
 simp only [*, go_sem, mA, mS]
 try simp only [*, go_sem]
 exact jc () h.e [some 0]
 try simp only [*, go_sem]
 refine jn0 h ([zP 2 0]) ([ox [zi 0, zi 0, zi 0, zi 0, zi 0, .nl 1, zi 0, zi 0, zi 0, zi 0, zi 0, .d (.s (⟨#[]⟩ : ByteArray))]]) (fun k75 h => ?_) (fun h => ?_)
 refine oi h (fun hb76 h => ?_) (fun hb76 h => ?_)
 try simp only [*, go_sem]
 intro hl77
 refine oi h (fun hb78 h => ?_) (fun hb78 h => ?_)
 refine obg h (fun x79 _ _ h => ?_)
 have : (0 : Int) < ((v61.1.length : Nat) : Int) := by omega
 refine ck h (fun _ h => ?_)
 have : (1 : Int) ≤ ((v61.1.length : Nat) : Int) := by omega
 cases h.e
 simp only [*, go_sem, mA, mS]
 try simp only [*, go_sem]
 exact jc () h.e [some 0]
 try simp only [*, go_sem]
 refine jn1 h (fun b82_1 => [zP 2 0, zR 4 1 0 v1.length, zL 11 1 (v61.1.map encI), zB 117 b82_1]) (fun b82_1 => [ox [zi 0, zi 0, zi 0, zi 0, zi 0, .nl 1, zi 0, zi 0, zi 0, zi 0, zi 0, .d (.s (⟨#[]⟩ : ByteArray))], oz 1 (v1.map encS)]) (fun k83 h => ?_) (fun b82_1 h => ?_)
 refine oi h (fun hb84 h => ?_) (fun hb84 h => ?_)
 try simp only [*, go_sem]
 exact jc (true) h.e [some 0, some 1]
 try simp only [*, go_sem]
 refine jn1 h (fun b85_1 => [zP 2 0, zR 4 1 0 v1.length, zL 11 1 (v61.1.map encI), zB 117 b85_1]) (fun b85_1 => [ox [zi 0, zi 0, zi 0, zi 0, zi 0, .nl 1, zi 0, zi 0, zi 0, zi 0, zi 0, .d (.s (⟨#[]⟩ : ByteArray))], oz 1 (v1.map encS)]) (fun k86 h => ?_) (fun b85_1 h => ?_)
 refine oi h (fun hb87 h => ?_) (fun hb87 h => ?_)
 try simp only [*, go_sem]
 exact jc (true) h.e [some 0, some 1]
 try simp only [*, go_sem]
 exact jc (x63.toList == bs_12cba3ee.toList) h.e [some 0, some 1]
 try simp only [*, go_sem]
 exact jc (b85_1) h.e [some 0, some 1]
 try simp only [*, go_sem]
 refine jn0 h ([zP 2 0]) ([ox [zi 0, zi 0, zi 0, zi 0, zi 0, .nl 1, zi 0, zi 0, zi 0, zi 0, zi 0, .d (.s (⟨#[]⟩ : ByteArray))]]) (fun k89 h => ?_) (fun h => ?_)
 refine oi h (fun hb90 h => ?_) (fun hb90 h => ?_)
 try simp only [*, go_sem]
 intro hl91
 refine oi h (fun hb92 h => ?_) (fun hb92 h => ?_)
 try simp only [*, go_sem]
 refine jn1 h (fun b93_1 => [zP 2 0, zR 4 1 0 v1.length, zL 11 1 (v61.1.map encI), zI 13 ((b93_1 : Nat) : Int)]) (fun b93_1 => [ox [zi 0, zi 0, zi 0, zi 0, zi 0, .nl 1, zi 0, zi 0, zi 0, zi 0, zi 0, .d (.s (⟨#[]⟩ : ByteArray))], oz 1 (v1.map encS)]) (fun k94 h => ?_) (fun b93_1 h => ?_)
 refine oi h (fun hb95 h => ?_) (fun hb95 h => ?_)
 try simp only [*, go_sem]
 exact jc (3) h.e [some 0, some 1]
 try simp only [*, go_sem]
 exact jc (2) h.e [some 0, some 1]
 try simp only [*, go_sem]
 refine jn1 h (fun b96_1 => [zP 2 0, zL 11 1 (v61.1.map encI), zI 13 ((b96_1 : Nat) : Int)]) (fun b96_1 => [ox [zi 0, zi 0, zi 0, zi 0, zi 0, .nl 1, zi 0, zi 0, zi 0, zi 0, zi 0, .d (.s (⟨#[]⟩ : ByteArray))]]) (fun k97 h => ?_) (fun b96_1 h => ?_)
 refine oi h (fun hb98 h => ?_) (fun hb98 h => ?_)
 try simp only [*, go_sem]
 exact jc (4) h.e [some 0]
 try simp only [*, go_sem]
 exact jc (b93_1) h.e [some 0]
 refine obg h (fun x99 _ _ h => ?_)
 have : (0 : Int) < ((v61.1.length : Nat) : Int) := by omega
 refine obg h (fun x101 _ _ h => ?_)
 have : (1 : Int) < ((v61.1.length : Nat) : Int) := by omega
 refine obg h (fun x103 _ _ h => ?_)
 have : (2 : Int) < ((v61.1.length : Nat) : Int) := by omega
 refine obg h (fun x105 _ _ h => ?_)
 have : (3 : Int) < ((v61.1.length : Nat) : Int) := by omega
 cases h.e
 simp only [*, go_sem, mA, mS]
 try simp only [*, go_sem]
 exact jc () h.e [some 0]
 try simp only [*, go_sem]
 exact jc () h.e [some 0]
 try simp only [*, go_sem]
 exact jc () h.e [some 0]
 try simp only [*, go_sem]
 exact jc () h.e [some 0]
 cases h.e
 simp only [*, go_sem, mA, mS]
def reredosref_labelMay (p0 : Config) (p1 : Int) : Option (Bool) := (Option.bind (reredosref_In p1 0 (IntKind.i64.wrap (((p0.Labels.length : Nat) : Int) - 1))) fun v2 => (some v2))
def F41 : VFn := ⟨11, (.seq (.reg [vo 2 (.box 3 (.t 0)), vo 4 (.mv (cb false))]) (.seq (.reg [vm 5 1, vf 6 1 2, vs 7 6, ln 8 7, bk 9 .sub 8 1, vo 10 (.call 37 [(.t 5), (ci 0), (.t 9)]), vm 4 10]) .ret)), [.t 4]⟩
theorem low41 : lowF Tryd.prog 41 = some F41.strip := by kernel_rfl
theorem fok41 : fOk Tryd.prog 41 = true := by kernel_rfl
theorem reredosref_labelMay_ok (p0 : Config) (p1 : Int) (r : Bool) (h : reredosref_labelMay p0 p1 = some r) : FnRO Tryd.prog G 41 [.agg p0.bx, .one (.d (.i .i64 p1))] (fun rs => rs = [.one (.b r)]) := by
 refine FnRO.of' low41 fok41 (by simp [F41]) ?_
 rw [reredosref_labelMay] at h
 replace h := Hd.mk h
 simp only [F41, go_sem]
 try simp only [*, go_sem]
 intro hl1
 try simp only [*, go_sem]
 refine cr h (reredosref_In_ok G p1 0 (IntKind.i64.wrap (((p0.Labels.length : Nat) : Int) - 1))) (fun v2 h => ?_)
 cases h.e
 simp only [*, go_sem, mA, mS]
def reredosref_callMay (p0 : Call) : Option (Int) := (Option.bind (reredosref_In p0.Kind 1 5) fun v1 => (if (!v1) = true then (some 3) else (Option.bind (reredosref_In p0.N 0 1048576) fun v3 => (if (!v3) = true then (some 2) else (Option.bind (reredosref_In p0.Label 0 5) fun v5 => (if (!v5) = true then (some 2) else (Option.bind (reredosref_In p0.Key 0 8) fun v7 => (if (!v7) = true then (some 2) else (Option.bind (reredosref_In p0.Value 0 1073741824) fun v9 => (if (!v9) = true then (some 2) else (if (p0.Kind == 1) = true then (if (p0.N != 0) = true then (some 4) else (if (p0.Kind != 2) = true then (if (p0.Label != 0) = true then (some 4) else (if (p0.Kind != 3) = true then (if (p0.Key != 0) = true then (some 4) else (if (p0.Value != 0) = true then (some 4) else (some 0))) else (some 0))) else (if (p0.Kind != 3) = true then (if (p0.Value != 0) = true then (some 4) else (some 0)) else (some 0)))) else (if (p0.Kind != 2) = true then (if (p0.Label != 0) = true then (some 4) else (if (p0.Kind != 3) = true then (if (p0.Key != 0) = true then (some 4) else (if (p0.Value != 0) = true then (some 4) else (some 0))) else (some 0))) else (if (p0.Kind != 3) = true then (if (p0.Value != 0) = true then (some 4) else (some 0)) else (some 0))))))))))))))
def F42 : VFn := ⟨72, (.seq (.reg [vo 1 (.boxk 5 (.t 0)), mi 2 0]) (.seq (.seq (.reg [vf 3 0 1, vs 4 3, vo 5 (.call 37 [(.t 4), (ci 1), (ci 5)]), nt 6 5]) (.cond (.t 6) (.seq (.reg [mi 2 3]) .ret) .skip)) (.seq (.seq (.reg [vf 7 1 1, vs 8 7, vo 9 (.call 37 [(.t 8), (ci 0), (ci 1048576)]), nt 10 9, vm 11 10, gf 12 11 (.fa 2 (.t 1)), gf 13 11 (.ld false 1 (.t 12)), gf 14 11 (.call 37 [(.t 13), (ci 0), (ci 5)]), gf 15 11 (.un .not (.t 14)), vo 16 (.pick (.t 11) (cb true) (.t 15)), vm 17 16, gf 18 17 (.fa 3 (.t 1)), gf 19 17 (.ld false 1 (.t 18)), gf 20 17 (.call 37 [(.t 19), (ci 0), (ci 8)]), gf 21 17 (.un .not (.t 20)), vo 22 (.pick (.t 17) (cb true) (.t 21)), vm 23 22, gf 24 23 (.fa 4 (.t 1)), gf 25 23 (.ld false 1 (.t 24)), gf 26 23 (.call 37 [(.t 25), (ci 0), (ci 1073741824)]), gf 27 23 (.un .not (.t 26)), vo 28 (.pick (.t 23) (cb true) (.t 27))]) (.cond (.t 28) (.seq (.reg [mi 2 2]) .ret) .skip)) (.seq (.seq (.reg [vf 29 0 1, vs 30 29, bk 31 .eql 30 1, vm 32 31, gt 33 32 (.fa 1 (.t 1)), gt 34 32 (.ld false 1 (.t 33)), gt 35 32 (.bin .i .neq (.t 34) (ci 0)), vo 36 (.pick (.t 32) (.t 35) (cb false)), vm 37 36, gf 38 37 (.fa 0 (.t 1)), gf 39 37 (.ld false 1 (.t 38)), gf 40 37 (.bin .i .neq (.t 39) (ci 2)), gf 41 37 (.mv (.t 40)), gt 42 41 (.fa 2 (.t 1)), gt 43 41 (.ld false 1 (.t 42)), gt 44 41 (.bin .i .neq (.t 43) (ci 0)), gf 45 37 (.pick (.t 41) (.t 44) (cb false)), vo 46 (.pick (.t 37) (cb true) (.t 45)), vm 47 46, gf 48 47 (.fa 0 (.t 1)), gf 49 47 (.ld false 1 (.t 48)), gf 50 47 (.bin .i .neq (.t 49) (ci 2)), gf 51 47 (.mv (.t 50)), gt 52 51 (.fa 0 (.t 1)), gt 53 51 (.ld false 1 (.t 52)), gt 54 51 (.bin .i .neq (.t 53) (ci 3)), gf 55 47 (.pick (.t 51) (.t 54) (cb false)), gf 56 47 (.mv (.t 55)), gt 57 56 (.fa 3 (.t 1)), gt 58 56 (.ld false 1 (.t 57)), gt 59 56 (.bin .i .neq (.t 58) (ci 0)), gf 60 47 (.pick (.t 56) (.t 59) (cb false)), vo 61 (.pick (.t 47) (cb true) (.t 60)), vm 62 61, gf 63 62 (.fa 0 (.t 1)), gf 64 62 (.ld false 1 (.t 63)), gf 65 62 (.bin .i .neq (.t 64) (ci 3)), gf 66 62 (.mv (.t 65)), gt 67 66 (.fa 4 (.t 1)), gt 68 66 (.ld false 1 (.t 67)), gt 69 66 (.bin .i .neq (.t 68) (ci 0)), gf 70 62 (.pick (.t 66) (.t 69) (cb false)), vo 71 (.pick (.t 62) (cb true) (.t 70))]) (.cond (.t 71) (.seq (.reg [mi 2 4]) .ret) .skip)) (.seq (.reg [mi 2 0]) .ret))))), [.t 2]⟩
theorem low42 : lowF Tryd.prog 42 = some F42.strip := by kernel_rfl
theorem fok42 : fOk Tryd.prog 42 = true := by kernel_rfl
theorem reredosref_callMay_ok (p0 : Call) (r : Int) (h : reredosref_callMay p0 = some r) : FnRO Tryd.prog G 42 [.agg p0.bx] (fun rs => rs = [.one (.i .i64 r)]) := by
 refine FnRO.of' low42 fok42 (by simp [F42]) ?_
 rw [reredosref_callMay] at h
 replace h := Hd.mk h
 simp only [F42, go_sem]
 try simp only [*, go_sem]
 refine cr h (reredosref_In_ok G p0.Kind 1 5) (fun v1 h => ?_)
 refine oin h (fun hb2 hkhb2 h => ?_) (fun hb2 hkhb2 h => ?_)
 cases h.e
 simp only [*, go_sem, mA, mS]
 try simp only [*, go_sem]
 refine cr h (reredosref_In_ok G p0.N 0 1048576) (fun v3 h => ?_)
 refine oin h (fun hb4 hkhb4 h => ?_) (fun hb4 hkhb4 h => ?_)
 cases h.e
 simp only [*, go_sem, mA, mS]
 try simp only [*, go_sem]
 refine cr h (reredosref_In_ok G p0.Label 0 5) (fun v5 h => ?_)
 refine oin h (fun hb6 hkhb6 h => ?_) (fun hb6 hkhb6 h => ?_)
 cases h.e
 simp only [*, go_sem, mA, mS]
 try simp only [*, go_sem]
 refine cr h (reredosref_In_ok G p0.Key 0 8) (fun v7 h => ?_)
 refine oin h (fun hb8 hkhb8 h => ?_) (fun hb8 hkhb8 h => ?_)
 cases h.e
 simp only [*, go_sem, mA, mS]
 try simp only [*, go_sem]
 refine cr h (reredosref_In_ok G p0.Value 0 1073741824) (fun v9 h => ?_)
 refine oin h (fun hb10 hkhb10 h => ?_) (fun hb10 hkhb10 h => ?_)
 cases h.e
 simp only [*, go_sem, mA, mS]
 refine oi h (fun hb11 h => ?_) (fun hb11 h => ?_)
 refine oi h (fun hb12 h => ?_) (fun hb12 h => ?_)
 cases h.e
 simp only [*, go_sem, mA, mS]
 refine oi h (fun hb13 h => ?_) (fun hb13 h => ?_)
 refine oi h (fun hb14 h => ?_) (fun hb14 h => ?_)
 cases h.e
 simp only [*, go_sem, mA, mS]
 refine oi h (fun hb15 h => ?_) (fun hb15 h => ?_)
 refine oi h (fun hb16 h => ?_) (fun hb16 h => ?_)
 cases h.e
 simp only [*, go_sem, mA, mS]
 refine oi h (fun hb17 h => ?_) (fun hb17 h => ?_)
 cases h.e
 simp only [*, go_sem, mA, mS]
 cases h.e
 simp only [*, go_sem, mA, mS]
 cases h.e
 simp only [*, go_sem, mA, mS]
 refine oi h (fun hb18 h => ?_) (fun hb18 h => ?_)
 refine oi h (fun hb19 h => ?_) (fun hb19 h => ?_)
 cases h.e
 simp only [*, go_sem, mA, mS]
 cases h.e
 simp only [*, go_sem, mA, mS]
 cases h.e
 simp only [*, go_sem, mA, mS]
 refine oi h (fun hb20 h => ?_) (fun hb20 h => ?_)
 refine oi h (fun hb21 h => ?_) (fun hb21 h => ?_)
 cases h.e
 simp only [*, go_sem, mA, mS]
 refine oi h (fun hb22 h => ?_) (fun hb22 h => ?_)
 refine oi h (fun hb23 h => ?_) (fun hb23 h => ?_)
 cases h.e
 simp only [*, go_sem, mA, mS]
 refine oi h (fun hb24 h => ?_) (fun hb24 h => ?_)
 cases h.e
 simp only [*, go_sem, mA, mS]
 cases h.e
 simp only [*, go_sem, mA, mS]
 cases h.e
 simp only [*, go_sem, mA, mS]
 refine oi h (fun hb25 h => ?_) (fun hb25 h => ?_)
 refine oi h (fun hb26 h => ?_) (fun hb26 h => ?_)
 cases h.e
 simp only [*, go_sem, mA, mS]
 cases h.e
 simp only [*, go_sem, mA, mS]
 cases h.e
 simp only [*, go_sem, mA, mS]
def reredosref_ActFault_L1 (p1 : Act) (k18 : Option (Int)) : Nat → Nat → Option (Int)
 | 0, _ => none
 | n20 + 1, a19_1 => (if (decide (a19_1 < p1.Keep.length)) = true then (Option.bind (p1.Keep[a19_1]?) fun x23 => (Option.bind (reredosref_In x23 0 6000) fun v24 => (if (!v24) = true then (some 2) else (reredosref_ActFault_L1 p1 k18 n20 (a19_1 + 1))))) else k18)
def reredosref_ActFault (p0 : Config) (p1 : Act) : Option (Int) := (Option.bind (reredosref_ConfigFault p0) fun v1 => (if (v1 != 0) = true then (some v1) else (Option.bind (reredosref_In p1.Kind 1 8) fun v3 => (if (!v3) = true then (some 3) else (Option.bind (reredosref_In p1.Site 0 (IntKind.i64.wrap (p0.Sites - 1))) fun v5 => (if (!v5) = true then (some 2) else (Option.bind (reredosref_In p1.To 0 (IntKind.i64.wrap (p0.Sites - 1))) fun v7 => (if (!v7) = true then (some 2) else (Option.bind (reredosref_labelMay p0 p1.Label) fun v9 => (if (!v9) = true then (some 2) else (Option.bind (reredosref_In p1.Pick 0 1048576) fun v11 => (if (!v11) = true then (some 2) else (if (decide (p1.Keep.length > p0.Labels.length)) = true then (some 2) else (if (decide (((p1.Line.size : Nat) : Int) > 60)) = true then (some 2) else (withK (Option.bind (reredosref_In p1.Kind 2 4) fun v27 => (if (p1.Kind == 5) = true then (if (p1.Site != 0) = true then (some 4) else (if (!v27) = true then (if (p1.To != 0) = true then (some 4) else (if (p1.Pick != 0) = true then (some 4) else (if (p1.Kind != 1) = true then (if (p1.Kind != 8) = true then (if (p1.Label != 0) = true then (some 4) else (if (p1.Kind != 6) = true then (if (decide (((p1.Keep.length : Nat) : Int) > 0)) = true then (some 4) else (if (!((p1.Call.Kind == 0) && ((p1.Call.N == 0) && ((p1.Call.Label == 0) && ((p1.Call.Key == 0) && (p1.Call.Value == 0)))))) = true then (some 4) else (if (!(p1.Line.toList == (⟨#[]⟩ : ByteArray).toList)) = true then (some 4) else (if (p1.Kind == 1) = true then (Option.bind (reredosref_callMay p1.Call) fun v42 => (some v42)) else (some 0))))) else (if (!((p1.Call.Kind == 0) && ((p1.Call.N == 0) && ((p1.Call.Label == 0) && ((p1.Call.Key == 0) && (p1.Call.Value == 0)))))) = true then (some 4) else (if (!(p1.Line.toList == (⟨#[]⟩ : ByteArray).toList)) = true then (some 4) else (if (p1.Kind == 1) = true then (Option.bind (reredosref_callMay p1.Call) fun v46 => (some v46)) else (some 0)))))) else (if (p1.Kind != 6) = true then (if (decide (((p1.Keep.length : Nat) : Int) > 0)) = true then (some 4) else (if (!((p1.Call.Kind == 0) && ((p1.Call.N == 0) && ((p1.Call.Label == 0) && ((p1.Call.Key == 0) && (p1.Call.Value == 0)))))) = true then (some 4) else (if (p1.Kind == 1) = true then (Option.bind (reredosref_callMay p1.Call) fun v52 => (some v52)) else (some 0)))) else (if (!((p1.Call.Kind == 0) && ((p1.Call.N == 0) && ((p1.Call.Label == 0) && ((p1.Call.Key == 0) && (p1.Call.Value == 0)))))) = true then (some 4) else (if (p1.Kind == 1) = true then (Option.bind (reredosref_callMay p1.Call) fun v55 => (some v55)) else (some 0))))) else (if (p1.Kind != 6) = true then (if (decide (((p1.Keep.length : Nat) : Int) > 0)) = true then (some 4) else (if (p1.Kind != 8) = true then (if (!(p1.Line.toList == (⟨#[]⟩ : ByteArray).toList)) = true then (some 4) else (if (p1.Kind == 1) = true then (Option.bind (reredosref_callMay p1.Call) fun v62 => (some v62)) else (some 0))) else (if (p1.Kind == 1) = true then (Option.bind (reredosref_callMay p1.Call) fun v64 => (some v64)) else (some 0)))) else (if (p1.Kind != 8) = true then (if (!(p1.Line.toList == (⟨#[]⟩ : ByteArray).toList)) = true then (some 4) else (if (p1.Kind == 1) = true then (Option.bind (reredosref_callMay p1.Call) fun v68 => (some v68)) else (some 0))) else (if (p1.Kind == 1) = true then (Option.bind (reredosref_callMay p1.Call) fun v70 => (some v70)) else (some 0))))))) else (if (p1.Kind != 6) = true then (if (decide (((p1.Keep.length : Nat) : Int) > 0)) = true then (some 4) else (if (p1.Kind != 1) = true then (if (!((p1.Call.Kind == 0) && ((p1.Call.N == 0) && ((p1.Call.Label == 0) && ((p1.Call.Key == 0) && (p1.Call.Value == 0)))))) = true then (some 4) else (if (p1.Kind != 8) = true then (if (!(p1.Line.toList == (⟨#[]⟩ : ByteArray).toList)) = true then (some 4) else (if (p1.Kind == 1) = true then (Option.bind (reredosref_callMay p1.Call) fun v79 => (some v79)) else (some 0))) else (if (p1.Kind == 1) = true then (Option.bind (reredosref_callMay p1.Call) fun v81 => (some v81)) else (some 0)))) else (if (p1.Kind != 8) = true then (if (!(p1.Line.toList == (⟨#[]⟩ : ByteArray).toList)) = true then (some 4) else (if (p1.Kind == 1) = true then (Option.bind (reredosref_callMay p1.Call) fun v85 => (some v85)) else (some 0))) else (if (p1.Kind == 1) = true then (Option.bind (reredosref_callMay p1.Call) fun v87 => (some v87)) else (some 0))))) else (if (p1.Kind != 1) = true then (if (!((p1.Call.Kind == 0) && ((p1.Call.N == 0) && ((p1.Call.Label == 0) && ((p1.Call.Key == 0) && (p1.Call.Value == 0)))))) = true then (some 4) else (if (p1.Kind != 8) = true then (if (!(p1.Line.toList == (⟨#[]⟩ : ByteArray).toList)) = true then (some 4) else (if (p1.Kind == 1) = true then (Option.bind (reredosref_callMay p1.Call) fun v93 => (some v93)) else (some 0))) else (if (p1.Kind == 1) = true then (Option.bind (reredosref_callMay p1.Call) fun v95 => (some v95)) else (some 0)))) else (if (p1.Kind != 8) = true then (if (!(p1.Line.toList == (⟨#[]⟩ : ByteArray).toList)) = true then (some 4) else (if (p1.Kind == 1) = true then (Option.bind (reredosref_callMay p1.Call) fun v99 => (some v99)) else (some 0))) else (if (p1.Kind == 1) = true then (Option.bind (reredosref_callMay p1.Call) fun v101 => (some v101)) else (some 0))))))) else (if (!v27) = true then (if (p1.To != 0) = true then (some 4) else (if (p1.Pick != 0) = true then (some 4) else (if (p1.Kind != 1) = true then (if (p1.Kind != 8) = true then (if (p1.Label != 0) = true then (some 4) else (if (p1.Kind != 6) = true then (if (decide (((p1.Keep.length : Nat) : Int) > 0)) = true then (some 4) else (if (!((p1.Call.Kind == 0) && ((p1.Call.N == 0) && ((p1.Call.Label == 0) && ((p1.Call.Key == 0) && (p1.Call.Value == 0)))))) = true then (some 4) else (if (!(p1.Line.toList == (⟨#[]⟩ : ByteArray).toList)) = true then (some 4) else (if (p1.Kind == 1) = true then (Option.bind (reredosref_callMay p1.Call) fun v114 => (some v114)) else (some 0))))) else (if (!((p1.Call.Kind == 0) && ((p1.Call.N == 0) && ((p1.Call.Label == 0) && ((p1.Call.Key == 0) && (p1.Call.Value == 0)))))) = true then (some 4) else (if (!(p1.Line.toList == (⟨#[]⟩ : ByteArray).toList)) = true then (some 4) else (if (p1.Kind == 1) = true then (Option.bind (reredosref_callMay p1.Call) fun v118 => (some v118)) else (some 0)))))) else (if (p1.Kind != 6) = true then (if (decide (((p1.Keep.length : Nat) : Int) > 0)) = true then (some 4) else (if (!((p1.Call.Kind == 0) && ((p1.Call.N == 0) && ((p1.Call.Label == 0) && ((p1.Call.Key == 0) && (p1.Call.Value == 0)))))) = true then (some 4) else (if (p1.Kind == 1) = true then (Option.bind (reredosref_callMay p1.Call) fun v124 => (some v124)) else (some 0)))) else (if (!((p1.Call.Kind == 0) && ((p1.Call.N == 0) && ((p1.Call.Label == 0) && ((p1.Call.Key == 0) && (p1.Call.Value == 0)))))) = true then (some 4) else (if (p1.Kind == 1) = true then (Option.bind (reredosref_callMay p1.Call) fun v127 => (some v127)) else (some 0))))) else (if (p1.Kind != 6) = true then (if (decide (((p1.Keep.length : Nat) : Int) > 0)) = true then (some 4) else (if (p1.Kind != 8) = true then (if (!(p1.Line.toList == (⟨#[]⟩ : ByteArray).toList)) = true then (some 4) else (if (p1.Kind == 1) = true then (Option.bind (reredosref_callMay p1.Call) fun v134 => (some v134)) else (some 0))) else (if (p1.Kind == 1) = true then (Option.bind (reredosref_callMay p1.Call) fun v136 => (some v136)) else (some 0)))) else (if (p1.Kind != 8) = true then (if (!(p1.Line.toList == (⟨#[]⟩ : ByteArray).toList)) = true then (some 4) else (if (p1.Kind == 1) = true then (Option.bind (reredosref_callMay p1.Call) fun v140 => (some v140)) else (some 0))) else (if (p1.Kind == 1) = true then (Option.bind (reredosref_callMay p1.Call) fun v142 => (some v142)) else (some 0))))))) else (if (p1.Kind != 6) = true then (if (decide (((p1.Keep.length : Nat) : Int) > 0)) = true then (some 4) else (if (p1.Kind != 1) = true then (if (!((p1.Call.Kind == 0) && ((p1.Call.N == 0) && ((p1.Call.Label == 0) && ((p1.Call.Key == 0) && (p1.Call.Value == 0)))))) = true then (some 4) else (if (p1.Kind != 8) = true then (if (!(p1.Line.toList == (⟨#[]⟩ : ByteArray).toList)) = true then (some 4) else (if (p1.Kind == 1) = true then (Option.bind (reredosref_callMay p1.Call) fun v151 => (some v151)) else (some 0))) else (if (p1.Kind == 1) = true then (Option.bind (reredosref_callMay p1.Call) fun v153 => (some v153)) else (some 0)))) else (if (p1.Kind != 8) = true then (if (!(p1.Line.toList == (⟨#[]⟩ : ByteArray).toList)) = true then (some 4) else (if (p1.Kind == 1) = true then (Option.bind (reredosref_callMay p1.Call) fun v157 => (some v157)) else (some 0))) else (if (p1.Kind == 1) = true then (Option.bind (reredosref_callMay p1.Call) fun v159 => (some v159)) else (some 0))))) else (if (p1.Kind != 1) = true then (if (!((p1.Call.Kind == 0) && ((p1.Call.N == 0) && ((p1.Call.Label == 0) && ((p1.Call.Key == 0) && (p1.Call.Value == 0)))))) = true then (some 4) else (if (p1.Kind != 8) = true then (if (!(p1.Line.toList == (⟨#[]⟩ : ByteArray).toList)) = true then (some 4) else (if (p1.Kind == 1) = true then (Option.bind (reredosref_callMay p1.Call) fun v165 => (some v165)) else (some 0))) else (if (p1.Kind == 1) = true then (Option.bind (reredosref_callMay p1.Call) fun v167 => (some v167)) else (some 0)))) else (if (p1.Kind != 8) = true then (if (!(p1.Line.toList == (⟨#[]⟩ : ByteArray).toList)) = true then (some 4) else (if (p1.Kind == 1) = true then (Option.bind (reredosref_callMay p1.Call) fun v171 => (some v171)) else (some 0))) else (if (p1.Kind == 1) = true then (Option.bind (reredosref_callMay p1.Call) fun v173 => (some v173)) else (some 0)))))))) fun k18 => (reredosref_ActFault_L1 p1 k18 (p1.Keep.length + 1) 0))))))))))))))))
def F21 : VFn := ⟨157, (.seq (.reg [vo 2 (.box 3 (.t 0)), vo 3 (.box 12 (.t 1)), mi 4 0]) (.seq (.reg [vl 8 3 2, vo 9 (.call 19 [(.t 8)]), vm 5 9]) (.seq (.seq (.reg [vm 10 5, bk 11 .neq 10 0]) (.cond (.t 11) (.seq (.reg [vm 12 5, vm 4 12]) .ret) .skip)) (.seq (.seq (.reg [vf 13 0 3, vs 14 13, vo 15 (.call 37 [(.t 14), (ci 1), (ci 8)]), nt 16 15]) (.cond (.t 16) (.seq (.reg [mi 4 3]) .ret) .skip)) (.seq (.seq (.reg [vf 17 1 3, vs 18 17, vf 19 0 2, vs 20 19, bk 21 .sub 20 1, vo 22 (.call 37 [(.t 18), (ci 0), (.t 21)]), nt 23 22, vm 24 23, gf 25 24 (.fa 2 (.t 3)), gf 26 24 (.ld false 1 (.t 25)), gf 27 24 (.fa 0 (.t 2)), gf 28 24 (.ld false 1 (.t 27)), gf 29 24 (.bin .i .sub (.t 28) (ci 1)), gf 30 24 (.call 37 [(.t 26), (ci 0), (.t 29)]), gf 31 24 (.un .not (.t 30)), vo 32 (.pick (.t 24) (cb true) (.t 31)), vm 33 32, gf 34 33 (.ld true 3 (.t 2)), gf 35 33 (.fa 3 (.t 3)), gf 36 33 (.ld false 1 (.t 35)), gf 37 33 (.call 41 [(.t 34), (.t 36)]), gf 38 33 (.un .not (.t 37)), vo 39 (.pick (.t 33) (cb true) (.t 38)), vm 40 39, gf 41 40 (.fa 4 (.t 3)), gf 42 40 (.ld false 1 (.t 41)), gf 43 40 (.call 37 [(.t 42), (ci 0), (ci 1048576)]), gf 44 40 (.un .not (.t 43)), vo 45 (.pick (.t 40) (cb true) (.t 44)), vm 46 45, gf 47 46 (.fa 5 (.t 3)), gf 48 46 (.ld false 1 (.t 47)), gf 49 46 (.len (.t 48)), gf 50 46 (.fa 1 (.t 2)), gf 51 46 (.ld false 1 (.t 50)), gf 52 46 (.len (.t 51)), gf 53 46 (.bin .i .gtr (.t 49) (.t 52)), vo 54 (.pick (.t 46) (cb true) (.t 53)), vm 55 54, gf 56 55 (.fa 11 (.t 3)), gf 57 55 (.ld false 1 (.t 56)), gf 58 55 (.lens (.t 57)), gf 59 55 (.bin .i .gtr (.t 58) (ci 60)), vo 60 (.pick (.t 55) (cb true) (.t 59))]) (.cond (.t 60) (.seq (.reg [mi 4 2]) .ret) .skip)) (.seq (.seq (.reg [mi 6 0]) (.wk (.block 0 (.loop (.seq (.seq (.reg [vm 61 6, vf 62 5 3, vs 63 62, ln 64 63, bt 65 .lss 61 64]) (.cond (.t 65) .skip (.exit 0))) (.seq (.block 1 (.seq (.reg [vf 68 5 3, vs 69 68, vm 70 6, xa 71 1 69 70, vs 72 71, vo 73 (.call 37 [(.t 72), (ci 0), (ci 6000)]), nt 74 73]) (.cond (.t 74) (.seq (.reg [mi 4 2]) .ret) .skip))) (.reg [vm 66 6, bk 67 .add 66 1, vm 6 67]))))))) (.seq (.reg [vf 75 0 3, vs 76 75, vo 77 (.call 37 [(.t 76), (ci 2), (ci 4)]), vm 7 77]) (.seq (.seq (.reg [vf 78 0 3, vs 79 78, bk 80 .eql 79 5, vm 81 80, gt 82 81 (.fa 1 (.t 3)), gt 83 81 (.ld false 1 (.t 82)), gt 84 81 (.bin .i .neq (.t 83) (ci 0)), vo 85 (.pick (.t 81) (.t 84) (cb false)), vm 86 85, gf 87 86 (.mv (.t 7)), gf 88 86 (.un .not (.t 87)), gf 89 86 (.mv (.t 88)), gt 90 89 (.fa 2 (.t 3)), gt 91 89 (.ld false 1 (.t 90)), gt 92 89 (.bin .i .neq (.t 91) (ci 0)), gt 93 89 (.mv (.t 92)), gf 94 93 (.fa 4 (.t 3)), gf 95 93 (.ld false 1 (.t 94)), gf 96 93 (.bin .i .neq (.t 95) (ci 0)), gt 97 89 (.pick (.t 93) (cb true) (.t 96)), gf 98 86 (.pick (.t 89) (.t 97) (cb false)), vo 99 (.pick (.t 86) (cb true) (.t 98)), vm 100 99, gf 101 100 (.mv (.t 7)), gf 102 100 (.un .not (.t 101)), gf 103 100 (.mv (.t 102)), gt 104 103 (.fa 0 (.t 3)), gt 105 103 (.ld false 1 (.t 104)), gt 106 103 (.bin .i .neq (.t 105) (ci 1)), gf 107 100 (.pick (.t 103) (.t 106) (cb false)), gf 108 100 (.mv (.t 107)), gt 109 108 (.fa 0 (.t 3)), gt 110 108 (.ld false 1 (.t 109)), gt 111 108 (.bin .i .neq (.t 110) (ci 8)), gf 112 100 (.pick (.t 108) (.t 111) (cb false)), gf 113 100 (.mv (.t 112)), gt 114 113 (.fa 3 (.t 3)), gt 115 113 (.ld false 1 (.t 114)), gt 116 113 (.bin .i .neq (.t 115) (ci 0)), gf 117 100 (.pick (.t 113) (.t 116) (cb false)), vo 118 (.pick (.t 100) (cb true) (.t 117)), vm 119 118, gf 120 119 (.fa 0 (.t 3)), gf 121 119 (.ld false 1 (.t 120)), gf 122 119 (.bin .i .neq (.t 121) (ci 6)), gf 123 119 (.mv (.t 122)), gt 124 123 (.fa 5 (.t 3)), gt 125 123 (.ld false 1 (.t 124)), gt 126 123 (.len (.t 125)), gt 127 123 (.bin .i .gtr (.t 126) (ci 0)), gf 128 119 (.pick (.t 123) (.t 127) (cb false)), vo 129 (.pick (.t 119) (cb true) (.t 128)), vm 130 129, gf 131 130 (.fa 0 (.t 3)), gf 132 130 (.ld false 1 (.t 131)), gf 133 130 (.bin .i .neq (.t 132) (ci 1)), gf 134 130 (.mv (.t 133)), gt 135 134 (.fa 6 (.t 3)), gt 136 134 (.ld true 5 (.t 135)), gt 137 134 (.build [(zi 0), (zi 0), (zi 0), (zi 0), (zi 0)] []), gt 138 134 (.eqs true [.i, .i, .i, .i, .i] (.t 136) (.t 137)), gf 139 130 (.pick (.t 134) (.t 138) (cb false)), vo 140 (.pick (.t 130) (cb true) (.t 139)), vm 141 140, gf 142 141 (.fa 0 (.t 3)), gf 143 141 (.ld false 1 (.t 142)), gf 144 141 (.bin .i .neq (.t 143) (ci 8)), gf 145 141 (.mv (.t 144)), gt 146 145 (.fa 11 (.t 3)), gt 147 145 (.ld false 1 (.t 146)), gt 148 145 (.bin .s .neq (.t 147) (.c (.one (.d (.s ⟨#[]⟩))))), gf 149 141 (.pick (.t 145) (.t 148) (cb false)), vo 150 (.pick (.t 141) (cb true) (.t 149))]) (.cond (.t 150) (.seq (.reg [mi 4 4]) .ret) .skip)) (.seq (.seq (.reg [vf 151 0 3, vs 152 151, bk 153 .eql 152 1]) (.cond (.t 153) (.seq (.reg [vf 154 6 3, vl 155 5 154, vo 156 (.call 42 [(.t 155)]), vm 4 156]) .ret) .skip)) (.seq (.reg [mi 4 0]) .ret)))))))))), [.t 4]⟩
theorem low21 : lowF Tryd.prog 21 = some F21.strip := by kernel_rfl
theorem fok21 : fOk Tryd.prog 21 = true := by kernel_rfl
theorem reredosref_ActFault_ok (p0 : Config) (p1 : Act) (r : Int) (h : reredosref_ActFault p0 p1 = some r) : FnRO Tryd.prog G 21 [.agg p0.bx, .agg p1.bx] (fun rs => rs = [.one (.i .i64 r)]) := by
 refine FnRO.of' low21 fok21 (by simp [F21]) ?_
 rw [reredosref_ActFault] at h
 replace h := Hd.mk h
 simp only [F21, go_sem]
 try simp only [*, go_sem]
 refine cr h (reredosref_ConfigFault_ok G p0) (fun v1 h => ?_)
 refine oi h (fun hb2 h => ?_) (fun hb2 h => ?_)
 cases h.e
 simp only [*, go_sem, mA, mS]
 try simp only [*, go_sem]
 refine cr h (reredosref_In_ok G p1.Kind 1 8) (fun v3 h => ?_)
 refine oin h (fun hb4 hkhb4 h => ?_) (fun hb4 hkhb4 h => ?_)
 cases h.e
 simp only [*, go_sem, mA, mS]
 try simp only [*, go_sem]
 refine cr h (reredosref_In_ok G p1.Site 0 (IntKind.i64.wrap (p0.Sites - 1))) (fun v5 h => ?_)
 refine oin h (fun hb6 hkhb6 h => ?_) (fun hb6 hkhb6 h => ?_)
 cases h.e
 simp only [*, go_sem, mA, mS]
 try simp only [*, go_sem]
 refine cr h (reredosref_In_ok G p1.To 0 (IntKind.i64.wrap (p0.Sites - 1))) (fun v7 h => ?_)
 refine oin h (fun hb8 hkhb8 h => ?_) (fun hb8 hkhb8 h => ?_)
 cases h.e
 simp only [*, go_sem, mA, mS]
 try simp only [*, go_sem]
 refine cr h (reredosref_labelMay_ok G p0 p1.Label) (fun v9 h => ?_)
 refine oin h (fun hb10 hkhb10 h => ?_) (fun hb10 hkhb10 h => ?_)
 cases h.e
 simp only [*, go_sem, mA, mS]
 try simp only [*, go_sem]
 refine cr h (reredosref_In_ok G p1.Pick 0 1048576) (fun v11 h => ?_)
 refine oin h (fun hb12 hkhb12 h => ?_) (fun hb12 hkhb12 h => ?_)
 cases h.e
 simp only [*, go_sem, mA, mS]
 try simp only [*, go_sem]
 intro hl13
 try simp only [*, go_sem]
 intro hl14
 refine oi h (fun hb15 h => ?_) (fun hb15 h => ?_)
 cases h.e
 simp only [*, go_sem, mA, mS]
 refine oi h (fun hb16 h => ?_) (fun hb16 h => ?_)
 cases h.e
 simp only [*, go_sem, mA, mS]
 try simp only [*, go_sem]
 refine jn0 h ([zP 3 0]) ([ox p1.bx]) (fun k18 h => ?_) (fun h => ?_)
 try simp only [*, go_sem]
 refine lp1 (reredosref_ActFault_L1 p1 k18) (fun a19_1 => [zP 3 0, zI 6 ((a19_1 : Nat) : Int)]) (fun a19_1 => [ox p1.bx]) h [] [some 1] (fun n20 a19_1 h => ?_) (by intros; rw [reredosref_ActFault_L1])
 rw [reredosref_ActFault_L1] at h
 try simp only [*, go_sem]
 intro hl21
 refine oi h (fun hb22 h => ?_) (fun hb22 h => ?_)
 have := of_decide_eq_true hb22
 refine obg h (fun x23 _ hkx23 h => ?_)
 try simp only [*, go_sem]
 refine cr h (reredosref_In_ok G x23 0 6000) (fun v24 h => ?_)
 refine oin h (fun hb25 hkhb25 h => ?_) (fun hb25 hkhb25 h => ?_)
 cases h.e
 simp only [*, go_sem, mA, mS]
 have := wrap_succ_max hkx23 hl13
 try simp only [*, go_sem]
 exact lc (a19_1 + 1) h.e [some 0]
 try simp only [*, go_sem]
 exact jc () h.e [some 0]
 try simp only [*, go_sem]
 refine cr h (reredosref_In_ok G p1.Kind 2 4) (fun v27 h => ?_)
 refine oi h (fun hb28 h => ?_) (fun hb28 h => ?_)
 refine oi h (fun hb29 h => ?_) (fun hb29 h => ?_)
 cases h.e
 simp only [*, go_sem, mA, mS]
 refine oin h (fun hb30 hkhb30 h => ?_) (fun hb30 hkhb30 h => ?_)
 refine oi h (fun hb31 h => ?_) (fun hb31 h => ?_)
 cases h.e
 simp only [*, go_sem, mA, mS]
 refine oi h (fun hb32 h => ?_) (fun hb32 h => ?_)
 cases h.e
 simp only [*, go_sem, mA, mS]
 refine oi h (fun hb33 h => ?_) (fun hb33 h => ?_)
 refine oi h (fun hb34 h => ?_) (fun hb34 h => ?_)
 refine oi h (fun hb35 h => ?_) (fun hb35 h => ?_)
 cases h.e
 simp only [*, go_sem, mA, mS]
 refine oi h (fun hb36 h => ?_) (fun hb36 h => ?_)
 try simp only [*, go_sem]
 intro hl37
 refine oi h (fun hb38 h => ?_) (fun hb38 h => ?_)
 cases h.e
 simp only [*, go_sem, mA, mS]
 refine oin h (fun hb39 hkhb39 h => ?_) (fun hb39 hkhb39 h => ?_)
 try simp only [*, go_sem]
 cases h.e
 simp only [*, go_sem, mA, mS]
 try simp only [*, go_sem]
 refine oin h (fun hb40 hkhb40 h => ?_) (fun hb40 hkhb40 h => ?_)
 cases h.e
 simp only [*, go_sem, mA, mS]
 refine oi h (fun hb41 h => ?_) (fun hb41 h => ?_)
 try simp only [*, go_sem]
 refine cr h (reredosref_callMay_ok G p1.Call) (fun v42 h => ?_)
 cases h.e
 simp only [*, go_sem, mA, mS]
 cases h.e
 simp only [*, go_sem, mA, mS]
 refine oin h (fun hb43 hkhb43 h => ?_) (fun hb43 hkhb43 h => ?_)
 try simp only [*, go_sem]
 cases h.e
 simp only [*, go_sem, mA, mS]
 try simp only [*, go_sem]
 refine oin h (fun hb44 hkhb44 h => ?_) (fun hb44 hkhb44 h => ?_)
 cases h.e
 simp only [*, go_sem, mA, mS]
 refine oi h (fun hb45 h => ?_) (fun hb45 h => ?_)
 try simp only [*, go_sem]
 refine cr h (reredosref_callMay_ok G p1.Call) (fun v46 h => ?_)
 cases h.e
 simp only [*, go_sem, mA, mS]
 cases h.e
 simp only [*, go_sem, mA, mS]
 refine oi h (fun hb47 h => ?_) (fun hb47 h => ?_)
 try simp only [*, go_sem]
 intro hl48
 refine oi h (fun hb49 h => ?_) (fun hb49 h => ?_)
 cases h.e
 simp only [*, go_sem, mA, mS]
 refine oin h (fun hb50 hkhb50 h => ?_) (fun hb50 hkhb50 h => ?_)
 try simp only [*, go_sem]
 cases h.e
 simp only [*, go_sem, mA, mS]
 try simp only [*, go_sem]
 refine oi h (fun hb51 h => ?_) (fun hb51 h => ?_)
 try simp only [*, go_sem]
 refine cr h (reredosref_callMay_ok G p1.Call) (fun v52 h => ?_)
 cases h.e
 simp only [*, go_sem, mA, mS]
 cases h.e
 simp only [*, go_sem, mA, mS]
 refine oin h (fun hb53 hkhb53 h => ?_) (fun hb53 hkhb53 h => ?_)
 try simp only [*, go_sem]
 cases h.e
 simp only [*, go_sem, mA, mS]
 try simp only [*, go_sem]
 refine oi h (fun hb54 h => ?_) (fun hb54 h => ?_)
 try simp only [*, go_sem]
 refine cr h (reredosref_callMay_ok G p1.Call) (fun v55 h => ?_)
 cases h.e
 simp only [*, go_sem, mA, mS]
 cases h.e
 simp only [*, go_sem, mA, mS]
 refine oi h (fun hb56 h => ?_) (fun hb56 h => ?_)
 try simp only [*, go_sem]
 intro hl57
 refine oi h (fun hb58 h => ?_) (fun hb58 h => ?_)
 cases h.e
 simp only [*, go_sem, mA, mS]
 refine oi h (fun hb59 h => ?_) (fun hb59 h => ?_)
 refine oin h (fun hb60 hkhb60 h => ?_) (fun hb60 hkhb60 h => ?_)
 cases h.e
 simp only [*, go_sem, mA, mS]
 refine oi h (fun hb61 h => ?_) (fun hb61 h => ?_)
 try simp only [*, go_sem]
 refine cr h (reredosref_callMay_ok G p1.Call) (fun v62 h => ?_)
 cases h.e
 simp only [*, go_sem, mA, mS]
 cases h.e
 simp only [*, go_sem, mA, mS]
 refine oi h (fun hb63 h => ?_) (fun hb63 h => ?_)
 try simp only [*, go_sem]
 refine cr h (reredosref_callMay_ok G p1.Call) (fun v64 h => ?_)
 cases h.e
 simp only [*, go_sem, mA, mS]
 cases h.e
 simp only [*, go_sem, mA, mS]
 refine oi h (fun hb65 h => ?_) (fun hb65 h => ?_)
 refine oin h (fun hb66 hkhb66 h => ?_) (fun hb66 hkhb66 h => ?_)
 cases h.e
 simp only [*, go_sem, mA, mS]
 refine oi h (fun hb67 h => ?_) (fun hb67 h => ?_)
 try simp only [*, go_sem]
 refine cr h (reredosref_callMay_ok G p1.Call) (fun v68 h => ?_)
 cases h.e
 simp only [*, go_sem, mA, mS]
 cases h.e
 simp only [*, go_sem, mA, mS]
 refine oi h (fun hb69 h => ?_) (fun hb69 h => ?_)
 try simp only [*, go_sem]
 refine cr h (reredosref_callMay_ok G p1.Call) (fun v70 h => ?_)
 cases h.e
 simp only [*, go_sem, mA, mS]
 cases h.e
 simp only [*, go_sem, mA, mS]
 refine oi h (fun hb71 h => ?_) (fun hb71 h => ?_)
 try simp only [*, go_sem]
 intro hl72
 refine oi h (fun hb73 h => ?_) (fun hb73 h => ?_)
 cases h.e
 simp only [*, go_sem, mA, mS]
 refine oi h (fun hb74 h => ?_) (fun hb74 h => ?_)
 refine oin h (fun hb75 hkhb75 h => ?_) (fun hb75 hkhb75 h => ?_)
 try simp only [*, go_sem]
 cases h.e
 simp only [*, go_sem, mA, mS]
 try simp only [*, go_sem]
 refine oi h (fun hb76 h => ?_) (fun hb76 h => ?_)
 refine oin h (fun hb77 hkhb77 h => ?_) (fun hb77 hkhb77 h => ?_)
 cases h.e
 simp only [*, go_sem, mA, mS]
 refine oi h (fun hb78 h => ?_) (fun hb78 h => ?_)
 try simp only [*, go_sem]
 refine cr h (reredosref_callMay_ok G p1.Call) (fun v79 h => ?_)
 cases h.e
 simp only [*, go_sem, mA, mS]
 cases h.e
 simp only [*, go_sem, mA, mS]
 refine oi h (fun hb80 h => ?_) (fun hb80 h => ?_)
 try simp only [*, go_sem]
 refine cr h (reredosref_callMay_ok G p1.Call) (fun v81 h => ?_)
 cases h.e
 simp only [*, go_sem, mA, mS]
 cases h.e
 simp only [*, go_sem, mA, mS]
 refine oi h (fun hb82 h => ?_) (fun hb82 h => ?_)
 refine oin h (fun hb83 hkhb83 h => ?_) (fun hb83 hkhb83 h => ?_)
 cases h.e
 simp only [*, go_sem, mA, mS]
 refine oi h (fun hb84 h => ?_) (fun hb84 h => ?_)
 try simp only [*, go_sem]
 refine cr h (reredosref_callMay_ok G p1.Call) (fun v85 h => ?_)
 cases h.e
 simp only [*, go_sem, mA, mS]
 cases h.e
 simp only [*, go_sem, mA, mS]
 refine oi h (fun hb86 h => ?_) (fun hb86 h => ?_)
 try simp only [*, go_sem]
 refine cr h (reredosref_callMay_ok G p1.Call) (fun v87 h => ?_)
 cases h.e
 simp only [*, go_sem, mA, mS]
 cases h.e
 simp only [*, go_sem, mA, mS]
 refine oi h (fun hb88 h => ?_) (fun hb88 h => ?_)
 refine oin h (fun hb89 hkhb89 h => ?_) (fun hb89 hkhb89 h => ?_)
 try simp only [*, go_sem]
 cases h.e
 simp only [*, go_sem, mA, mS]
 try simp only [*, go_sem]
 refine oi h (fun hb90 h => ?_) (fun hb90 h => ?_)
 refine oin h (fun hb91 hkhb91 h => ?_) (fun hb91 hkhb91 h => ?_)
 cases h.e
 simp only [*, go_sem, mA, mS]
 refine oi h (fun hb92 h => ?_) (fun hb92 h => ?_)
 try simp only [*, go_sem]
 refine cr h (reredosref_callMay_ok G p1.Call) (fun v93 h => ?_)
 cases h.e
 simp only [*, go_sem, mA, mS]
 cases h.e
 simp only [*, go_sem, mA, mS]
 refine oi h (fun hb94 h => ?_) (fun hb94 h => ?_)
 try simp only [*, go_sem]
 refine cr h (reredosref_callMay_ok G p1.Call) (fun v95 h => ?_)
 cases h.e
 simp only [*, go_sem, mA, mS]
 cases h.e
 simp only [*, go_sem, mA, mS]
 refine oi h (fun hb96 h => ?_) (fun hb96 h => ?_)
 refine oin h (fun hb97 hkhb97 h => ?_) (fun hb97 hkhb97 h => ?_)
 cases h.e
 simp only [*, go_sem, mA, mS]
 refine oi h (fun hb98 h => ?_) (fun hb98 h => ?_)
 try simp only [*, go_sem]
 refine cr h (reredosref_callMay_ok G p1.Call) (fun v99 h => ?_)
 cases h.e
 simp only [*, go_sem, mA, mS]
 cases h.e
 simp only [*, go_sem, mA, mS]
 refine oi h (fun hb100 h => ?_) (fun hb100 h => ?_)
 try simp only [*, go_sem]
 refine cr h (reredosref_callMay_ok G p1.Call) (fun v101 h => ?_)
 cases h.e
 simp only [*, go_sem, mA, mS]
 cases h.e
 simp only [*, go_sem, mA, mS]
 refine oin h (fun hb102 hkhb102 h => ?_) (fun hb102 hkhb102 h => ?_)
 refine oi h (fun hb103 h => ?_) (fun hb103 h => ?_)
 cases h.e
 simp only [*, go_sem, mA, mS]
 refine oi h (fun hb104 h => ?_) (fun hb104 h => ?_)
 cases h.e
 simp only [*, go_sem, mA, mS]
 refine oi h (fun hb105 h => ?_) (fun hb105 h => ?_)
 refine oi h (fun hb106 h => ?_) (fun hb106 h => ?_)
 refine oi h (fun hb107 h => ?_) (fun hb107 h => ?_)
 cases h.e
 simp only [*, go_sem, mA, mS]
 refine oi h (fun hb108 h => ?_) (fun hb108 h => ?_)
 try simp only [*, go_sem]
 intro hl109
 refine oi h (fun hb110 h => ?_) (fun hb110 h => ?_)
 cases h.e
 simp only [*, go_sem, mA, mS]
 refine oin h (fun hb111 hkhb111 h => ?_) (fun hb111 hkhb111 h => ?_)
 try simp only [*, go_sem]
 cases h.e
 simp only [*, go_sem, mA, mS]
 try simp only [*, go_sem]
 refine oin h (fun hb112 hkhb112 h => ?_) (fun hb112 hkhb112 h => ?_)
 cases h.e
 simp only [*, go_sem, mA, mS]
 refine oi h (fun hb113 h => ?_) (fun hb113 h => ?_)
 try simp only [*, go_sem]
 refine cr h (reredosref_callMay_ok G p1.Call) (fun v114 h => ?_)
 cases h.e
 simp only [*, go_sem, mA, mS]
 cases h.e
 simp only [*, go_sem, mA, mS]
 refine oin h (fun hb115 hkhb115 h => ?_) (fun hb115 hkhb115 h => ?_)
 try simp only [*, go_sem]
 cases h.e
 simp only [*, go_sem, mA, mS]
 try simp only [*, go_sem]
 refine oin h (fun hb116 hkhb116 h => ?_) (fun hb116 hkhb116 h => ?_)
 cases h.e
 simp only [*, go_sem, mA, mS]
 refine oi h (fun hb117 h => ?_) (fun hb117 h => ?_)
 try simp only [*, go_sem]
 refine cr h (reredosref_callMay_ok G p1.Call) (fun v118 h => ?_)
 cases h.e
 simp only [*, go_sem, mA, mS]
 cases h.e
 simp only [*, go_sem, mA, mS]
 refine oi h (fun hb119 h => ?_) (fun hb119 h => ?_)
 try simp only [*, go_sem]
 intro hl120
 refine oi h (fun hb121 h => ?_) (fun hb121 h => ?_)
 cases h.e
 simp only [*, go_sem, mA, mS]
 refine oin h (fun hb122 hkhb122 h => ?_) (fun hb122 hkhb122 h => ?_)
 try simp only [*, go_sem]
 cases h.e
 simp only [*, go_sem, mA, mS]
 try simp only [*, go_sem]
 refine oi h (fun hb123 h => ?_) (fun hb123 h => ?_)
 try simp only [*, go_sem]
 refine cr h (reredosref_callMay_ok G p1.Call) (fun v124 h => ?_)
 cases h.e
 simp only [*, go_sem, mA, mS]
 cases h.e
 simp only [*, go_sem, mA, mS]
 refine oin h (fun hb125 hkhb125 h => ?_) (fun hb125 hkhb125 h => ?_)
 try simp only [*, go_sem]
 cases h.e
 simp only [*, go_sem, mA, mS]
 try simp only [*, go_sem]
 refine oi h (fun hb126 h => ?_) (fun hb126 h => ?_)
 try simp only [*, go_sem]
 refine cr h (reredosref_callMay_ok G p1.Call) (fun v127 h => ?_)
 cases h.e
 simp only [*, go_sem, mA, mS]
 cases h.e
 simp only [*, go_sem, mA, mS]
 refine oi h (fun hb128 h => ?_) (fun hb128 h => ?_)
 try simp only [*, go_sem]
 intro hl129
 refine oi h (fun hb130 h => ?_) (fun hb130 h => ?_)
 cases h.e
 simp only [*, go_sem, mA, mS]
 refine oi h (fun hb131 h => ?_) (fun hb131 h => ?_)
 refine oin h (fun hb132 hkhb132 h => ?_) (fun hb132 hkhb132 h => ?_)
 cases h.e
 simp only [*, go_sem, mA, mS]
 refine oi h (fun hb133 h => ?_) (fun hb133 h => ?_)
 try simp only [*, go_sem]
 refine cr h (reredosref_callMay_ok G p1.Call) (fun v134 h => ?_)
 cases h.e
 simp only [*, go_sem, mA, mS]
 cases h.e
 simp only [*, go_sem, mA, mS]
 refine oi h (fun hb135 h => ?_) (fun hb135 h => ?_)
 try simp only [*, go_sem]
 refine cr h (reredosref_callMay_ok G p1.Call) (fun v136 h => ?_)
 cases h.e
 simp only [*, go_sem, mA, mS]
 cases h.e
 simp only [*, go_sem, mA, mS]
 refine oi h (fun hb137 h => ?_) (fun hb137 h => ?_)
 refine oin h (fun hb138 hkhb138 h => ?_) (fun hb138 hkhb138 h => ?_)
 cases h.e
 simp only [*, go_sem, mA, mS]
 refine oi h (fun hb139 h => ?_) (fun hb139 h => ?_)
 try simp only [*, go_sem]
 refine cr h (reredosref_callMay_ok G p1.Call) (fun v140 h => ?_)
 cases h.e
 simp only [*, go_sem, mA, mS]
 cases h.e
 simp only [*, go_sem, mA, mS]
 refine oi h (fun hb141 h => ?_) (fun hb141 h => ?_)
 try simp only [*, go_sem]
 refine cr h (reredosref_callMay_ok G p1.Call) (fun v142 h => ?_)
 cases h.e
 simp only [*, go_sem, mA, mS]
 cases h.e
 simp only [*, go_sem, mA, mS]
 refine oi h (fun hb143 h => ?_) (fun hb143 h => ?_)
 try simp only [*, go_sem]
 intro hl144
 refine oi h (fun hb145 h => ?_) (fun hb145 h => ?_)
 cases h.e
 simp only [*, go_sem, mA, mS]
 refine oi h (fun hb146 h => ?_) (fun hb146 h => ?_)
 refine oin h (fun hb147 hkhb147 h => ?_) (fun hb147 hkhb147 h => ?_)
 try simp only [*, go_sem]
 cases h.e
 simp only [*, go_sem, mA, mS]
 try simp only [*, go_sem]
 refine oi h (fun hb148 h => ?_) (fun hb148 h => ?_)
 refine oin h (fun hb149 hkhb149 h => ?_) (fun hb149 hkhb149 h => ?_)
 cases h.e
 simp only [*, go_sem, mA, mS]
 refine oi h (fun hb150 h => ?_) (fun hb150 h => ?_)
 try simp only [*, go_sem]
 refine cr h (reredosref_callMay_ok G p1.Call) (fun v151 h => ?_)
 cases h.e
 simp only [*, go_sem, mA, mS]
 cases h.e
 simp only [*, go_sem, mA, mS]
 refine oi h (fun hb152 h => ?_) (fun hb152 h => ?_)
 try simp only [*, go_sem]
 refine cr h (reredosref_callMay_ok G p1.Call) (fun v153 h => ?_)
 cases h.e
 simp only [*, go_sem, mA, mS]
 cases h.e
 simp only [*, go_sem, mA, mS]
 refine oi h (fun hb154 h => ?_) (fun hb154 h => ?_)
 refine oin h (fun hb155 hkhb155 h => ?_) (fun hb155 hkhb155 h => ?_)
 cases h.e
 simp only [*, go_sem, mA, mS]
 refine oi h (fun hb156 h => ?_) (fun hb156 h => ?_)
 try simp only [*, go_sem]
 refine cr h (reredosref_callMay_ok G p1.Call) (fun v157 h => ?_)
 cases h.e
 simp only [*, go_sem, mA, mS]
 cases h.e
 simp only [*, go_sem, mA, mS]
 refine oi h (fun hb158 h => ?_) (fun hb158 h => ?_)
 try simp only [*, go_sem]
 refine cr h (reredosref_callMay_ok G p1.Call) (fun v159 h => ?_)
 cases h.e
 simp only [*, go_sem, mA, mS]
 cases h.e
 simp only [*, go_sem, mA, mS]
 refine oi h (fun hb160 h => ?_) (fun hb160 h => ?_)
 refine oin h (fun hb161 hkhb161 h => ?_) (fun hb161 hkhb161 h => ?_)
 try simp only [*, go_sem]
 cases h.e
 simp only [*, go_sem, mA, mS]
 try simp only [*, go_sem]
 refine oi h (fun hb162 h => ?_) (fun hb162 h => ?_)
 refine oin h (fun hb163 hkhb163 h => ?_) (fun hb163 hkhb163 h => ?_)
 cases h.e
 simp only [*, go_sem, mA, mS]
 refine oi h (fun hb164 h => ?_) (fun hb164 h => ?_)
 try simp only [*, go_sem]
 refine cr h (reredosref_callMay_ok G p1.Call) (fun v165 h => ?_)
 cases h.e
 simp only [*, go_sem, mA, mS]
 cases h.e
 simp only [*, go_sem, mA, mS]
 refine oi h (fun hb166 h => ?_) (fun hb166 h => ?_)
 try simp only [*, go_sem]
 refine cr h (reredosref_callMay_ok G p1.Call) (fun v167 h => ?_)
 cases h.e
 simp only [*, go_sem, mA, mS]
 cases h.e
 simp only [*, go_sem, mA, mS]
 refine oi h (fun hb168 h => ?_) (fun hb168 h => ?_)
 refine oin h (fun hb169 hkhb169 h => ?_) (fun hb169 hkhb169 h => ?_)
 cases h.e
 simp only [*, go_sem, mA, mS]
 refine oi h (fun hb170 h => ?_) (fun hb170 h => ?_)
 try simp only [*, go_sem]
 refine cr h (reredosref_callMay_ok G p1.Call) (fun v171 h => ?_)
 cases h.e
 simp only [*, go_sem, mA, mS]
 cases h.e
 simp only [*, go_sem, mA, mS]
 refine oi h (fun hb172 h => ?_) (fun hb172 h => ?_)
 try simp only [*, go_sem]
 refine cr h (reredosref_callMay_ok G p1.Call) (fun v173 h => ?_)
 cases h.e
 simp only [*, go_sem, mA, mS]
 cases h.e
 simp only [*, go_sem, mA, mS]
def reredosref_ActsOf_L2 (p1 : ByteArray) (k9 : Int → Option ((List Act) × Int × Int)) : Nat → Int → Option ((List Act) × Int × Int)
 | 0, _ => none
 | n11 + 1, a10_1 => (if (decide (a10_1 < ((p1.size : Nat) : Int))) = true then (if 0 ≤ a10_1 ∧ a10_1 < ((p1.size : Nat) : Int) then (if ((((p1.data.toList.getD a10_1.toNat 0).toNat : Nat) : Int) != 10) = true then (reredosref_ActsOf_L2 p1 k9 n11 (IntKind.i64.wrap (a10_1 + 1))) else (k9 a10_1)) else none) else (k9 a10_1))
def reredosref_ActsOf_L1 (p0 : Config) (p1 : ByteArray) (k4 : (List Act) → Option ((List Act) × Int × Int)) : Nat → Int → Int → (List Act) → Option ((List Act) × Int × Int)
 | 0, _, _, _ => none
 | n6 + 1, a5_1, a5_2, a5_3 => (if (decide (a5_1 < ((p1.size : Nat) : Int))) = true then (withK (fun (b8_1 : Int) => (if (a5_2 == 3000) = true then (some ([], a5_2, 1)) else (if (b8_1 == ((p1.size : Nat) : Int)) = true then (some ([], a5_2, 4)) else (withK (Option.bind (reredosref_lineAct (p1.extract a5_1.toNat b8_1.toNat)) fun v20 => (if (!v20.2) = true then (some ([], a5_2, 4)) else (Option.bind (reredosref_ActFault p0 v20.1) fun v22 => (if (v22 != 0) = true then (some ([], a5_2, v22)) else (withK (if fits 120 (a5_3.length + 1) then (reredosref_ActsOf_L1 p0 p1 k4 n6 (IntKind.i64.wrap (b8_1 + 1)) (IntKind.i64.wrap (a5_2 + 1)) (a5_3 ++ [v20.1])) else none) fun k25 => k25))))) fun k18 => (if 0 ≤ a5_1 ∧ a5_1 ≤ b8_1 ∧ b8_1 ≤ ((p1.size : Nat) : Int) then k18 else none))))) fun k9 => (reredosref_ActsOf_L2 p1 k9 (p1.size + 1) a5_1)) else (k4 a5_3))
def reredosref_ActsOf (p0 : Config) (p1 : ByteArray) : Option ((List Act) × Int × Int) := (Option.bind (reredosref_ConfigFault p0) fun v1 => (if (v1 != 0) = true then (some ([], 0, v1)) else (withK (fun (b3_1 : List Act) => (some (b3_1, 0, 0))) fun k4 => (reredosref_ActsOf_L1 p0 p1 k4 (p1.size + 1) 0 0 []))))
def F8 : VFn := ⟨72, (.seq (.reg [vo 2 (.box 3 (.t 0)), vo 4 (.mv (.c (.one (.nl 12)))), mi 5 0, mi 6 0]) (.seq (.reg [vl 15 3 2, vo 16 (.call 19 [(.t 15)]), vm 7 16]) (.seq (.seq (.reg [vm 17 7, bk 18 .neq 17 0]) (.cond (.t 18) (.seq (.reg [vm 19 7, vo 4 (.mv (.c (.one (.nl 12)))), mi 5 0, vm 6 19]) .ret) .skip)) (.seq (.reg [vo 8 (.mv (.c (.one (.nl 12))))]) (.seq (.reg [mi 9 0]) (.seq (.seq (.reg [mi 10 0]) (.wk (.block 0 (.loop (.seq (.seq (.reg [vm 20 9, vm 21 1, vo 22 (.lens (.t 21)), bt 23 .lss 20 22]) (.cond (.t 23) .skip (.exit 0))) (.seq (.block 1 (.seq (.reg [vm 26 9, vm 11 26]) (.seq (.wk (.block 2 (.loop (.seq (.seq (.reg [vm 27 11, vm 28 1, vo 29 (.lens (.t 28)), bt 30 .lss 27 29, vm 31 30, gt 32 31 (.mv (.t 1)), gt 33 31 (.mv (.t 11)), gt 34 31 (.ix (.t 32) (.t 33)), gt 35 31 (.bin .i .neq (.t 34) (.c (.one (.d (.i .u8 10))))), vo 36 (.pick (.t 31) (.t 35) (cb false))]) (.cond (.t 36) .skip (.exit 2))) (.block 3 (.reg [vm 37 11, bk 38 .add 37 1, vm 11 38])))))) (.seq (.seq (.reg [vm 39 10, bk 40 .eql 39 3000]) (.cond (.t 40) (.seq (.reg [vm 41 10, vo 4 (.mv (.c (.one (.nl 12)))), vm 5 41, mi 6 1]) .ret) .skip)) (.seq (.seq (.reg [vm 42 11, vm 43 1, vo 44 (.lens (.t 43)), bt 45 .eql 42 44]) (.cond (.t 45) (.seq (.reg [vm 46 10, vo 4 (.mv (.c (.one (.nl 12)))), vm 5 46, mi 6 4]) .ret) .skip)) (.seq (.regs [[vm 48 1, vm 49 9, vm 50 11, vo 51 (.sls (.t 48) (some (.t 49)) (some (.t 50)))], [vo 52 (.call 20 [(.t 51)]), vm 47 52, et 53 47 0, et 54 47 1, vo 12 (.alloc [(zi 0), (zi 0), (zi 0), (zi 0), (zi 0), (.nl 1), (zi 0), (zi 0), (zi 0), (zi 0), (zi 0), (.d (.s ⟨#[]⟩))]), vu (.st 12 (.t 12) (.t 53)), vm 13 54]]) (.seq (.seq (.reg [vm 55 13, nt 56 55]) (.cond (.t 56) (.seq (.reg [vm 57 10, vo 4 (.mv (.c (.one (.nl 12)))), vm 5 57, mi 6 4]) .ret) .skip)) (.seq (.reg [vl 58 3 2, vl 59 12 12, vo 60 (.call 21 [(.t 58), (.t 59)]), vm 14 60]) (.seq (.seq (.reg [vm 61 14, bk 62 .neq 61 0]) (.cond (.t 62) (.seq (.reg [vm 63 10, vm 64 14, vo 4 (.mv (.c (.one (.nl 12)))), vm 5 63, vm 6 64]) .ret) .skip)) (.seq (.regs [[vm 65 8, vl 66 12 12], [vo 67 (.bsl 12 1 [(zi 0), (zi 0), (zi 0), (zi 0), (zi 0), (.nl 1), (zi 0), (zi 0), (zi 0), (zi 0), (zi 0), (.d (.s ⟨#[]⟩))] [(0, (.t 66))]), vo 68 (.app 12 120 (.t 65) (.t 67)), vm 8 68]]) (.reg [vm 69 11, bk 70 .add 69 1, vm 9 70]))))))))))) (.reg [vm 24 10, bk 25 .add 24 1, vm 10 25]))))))) (.seq (.reg [vm 71 8, vm 4 71, mi 5 0, mi 6 0]) .ret))))))), [.t 4, .t 5, .t 6]⟩
theorem low8 : lowF Tryd.prog 8 = some F8.strip := by kernel_rfl
theorem fok8 : fOk Tryd.prog 8 = true := by kernel_rfl
theorem reredosref_ActsOf_ok (p0 : Config) (p1 : ByteArray) (r : (List Act) × Int × Int) (h : reredosref_ActsOf p0 p1 = some r) : FnRO Tryd.prog G 8 [.agg p0.bx, .one (.d (.s p1))] (fun rs => rs = [.one (.o 12 (r.1.map Act.enc)), .one (.i .i64 r.2.1), .one (.i .i64 r.2.2)]) := by
 refine FnRO.of' low8 fok8 (by simp [F8]) ?_
 rw [reredosref_ActsOf] at h
 replace h := Hd.mk h
 simp only [F8, go_sem]
 try simp only [*, go_sem]
 refine cr h (reredosref_ConfigFault_ok G p0) (fun v1 h => ?_)
 refine oi h (fun hb2 h => ?_) (fun hb2 h => ?_)
 cases h.e
 simp only [*, go_sem, mA, mS]
 try simp only [*, go_sem]
 refine jn1 h (fun b3_1 => [zR 8 0 0 b3_1.length]) (fun b3_1 => [oa 12 (b3_1.map Act.enc)]) (fun k4 h => ?_) (fun b3_1 h => ?_)
 try simp only [*, go_sem]
 refine lp3 (reredosref_ActsOf_L1 p0 p1 k4) (fun a5_1 a5_2 a5_3 => [(1, .one (.d (.s p1))), zP 2 0, zR 8 1 0 a5_3.length, zI 9 a5_1, zI 10 a5_2]) (fun a5_1 a5_2 a5_3 => [ox p0.bx, oa 12 (a5_3.map Act.enc)]) h [] [some 0, none] (fun n6 a5_1 a5_2 a5_3 h => ?_) (by intros; rw [reredosref_ActsOf_L1])
 rw [reredosref_ActsOf_L1] at h
 refine oi h (fun hb7 h => ?_) (fun hb7 h => ?_)
 try simp only [*, go_sem]
 refine jn1 h (fun b8_1 => [(1, .one (.d (.s p1))), zP 2 0, zR 8 1 0 a5_3.length, zI 9 a5_1, zI 10 a5_2, zI 11 b8_1]) (fun b8_1 => [ox p0.bx, oa 12 (a5_3.map Act.enc)]) (fun k9 h => ?_) (fun b8_1 h => ?_)
 try simp only [*, go_sem]
 refine lp1 (reredosref_ActsOf_L2 p1 k9) (fun a10_1 => [(1, .one (.d (.s p1))), zP 2 0, zR 8 1 0 a5_3.length, zI 9 a5_1, zI 10 a5_2, zI 11 a10_1]) (fun a10_1 => [ox p0.bx, oa 12 (a5_3.map Act.enc)]) h [] [some 0, some 1] (fun n11 a10_1 h => ?_) (by intros; rw [reredosref_ActsOf_L2])
 rw [reredosref_ActsOf_L2] at h
 refine oi h (fun hb12 h => ?_) (fun hb12 h => ?_)
 refine ck h (fun _ h => ?_)
 refine oi h (fun hb14 h => ?_) (fun hb14 h => ?_)
 try simp only [*, go_sem]
 exact lc (IntKind.i64.wrap (a10_1 + 1)) h.e [some 0, some 1]
 try simp only [*, go_sem]
 exact jc (a10_1) h.e [some 0, some 1]
 try simp only [*, go_sem]
 exact jc (a10_1) h.e [some 0, some 1]
 refine oi h (fun hb15 h => ?_) (fun hb15 h => ?_)
 cases h.e
 simp only [*, go_sem, mA, mS]
 refine oi h (fun hb16 h => ?_) (fun hb16 h => ?_)
 cases h.e
 simp only [*, go_sem, mA, mS]
 try simp only [*, go_sem]
 refine rg0 h ([(1, .one (.d (.s p1))), zP 2 0, zR 8 1 0 a5_3.length, zI 10 a5_2, zI 11 b8_1, (51, .one (.d (.s (p1.extract a5_1.toNat b8_1.toNat))))]) ([ox p0.bx, oa 12 (a5_3.map Act.enc)]) (fun k18 h => ?_) (fun h => ?_)
 refine ck h (fun _ h => ?_)
 try simp only [*, go_sem]
 exact jc () h.e [some 0, some 1]
 try simp only [*, go_sem]
 refine cr h (reredosref_lineAct_ok G (p1.extract a5_1.toNat b8_1.toNat)) (fun v20 h => ?_)
 refine oin h (fun hb21 hkhb21 h => ?_) (fun hb21 hkhb21 h => ?_)
 cases h.e
 simp only [*, go_sem, mA, mS]
 try simp only [*, go_sem]
 refine cr h (reredosref_ActFault_ok G p0 v20.1) (fun v22 h => ?_)
 refine oi h (fun hb23 h => ?_) (fun hb23 h => ?_)
 cases h.e
 simp only [*, go_sem, mA, mS]
 try simp only [*, go_sem]
 refine rg0 h ([(1, .one (.d (.s p1))), zP 2 0, zI 10 a5_2, zI 11 b8_1, zR 65 1 0 a5_3.length, (66, .agg [zi v20.1.Kind, zi v20.1.Site, zi v20.1.To, zi v20.1.Label, zi v20.1.Pick, .d (.l 1 (v20.1.Keep.map encI)), zi v20.1.Call.Kind, zi v20.1.Call.N, zi v20.1.Call.Label, zi v20.1.Call.Key, zi v20.1.Call.Value, .d (.s v20.1.Line)])]) ([ox p0.bx, oa 12 (a5_3.map Act.enc)]) (fun k25 h => ?_) (fun h => ?_)
 try simp only [*, go_sem]
 exact jc () h.e [some 0, some 1]
 refine ck h (fun _ h => ?_)
 try simp only [*, go_sem]
 exact lc (IntKind.i64.wrap (b8_1 + 1), IntKind.i64.wrap (a5_2 + 1), (a5_3 ++ [v20.1])) h.e [some 0, some 3]
 try simp only [*, go_sem]
 exact jc (a5_3) h.e [some 1]
 cases h.e
 simp only [*, go_sem, mA, mS]
def reredoslaw_sameInts_L1 (p0 : List Int) (p1 : List Int) (k5 : Option (Bool)) : Nat → Nat → Option (Bool)
 | 0, _ => none
 | n7 + 1, a6_1 => (if (decide (a6_1 < p0.length)) = true then (Option.bind (p0[a6_1]?) fun x10 => (Option.bind (p1[a6_1]?) fun x11 => (if (x10 != x11) = true then (some false) else (reredoslaw_sameInts_L1 p0 p1 k5 n7 (a6_1 + 1))))) else k5)
def reredoslaw_sameInts (p0 : List Int) (p1 : List Int) : Option (Bool) := (if (((p0.length : Nat) : Int) != ((p1.length : Nat) : Int)) = true then (some false) else (withK (some true) fun k5 => (reredoslaw_sameInts_L1 p0 p1 k5 (p0.length + 1) 0)))
def F22 : VFn := ⟨26, (.seq (.reg [vo 4 (.mv (cb false))]) (.seq (.seq (.reg [vm 6 0, ln 7 6, vm 8 1, ln 9 8, bt 10 .neq 7 9]) (.cond (.t 10) (.seq (.reg [vo 4 (.mv (cb false))]) .ret) .skip)) (.seq (.seq (.reg [mi 5 0]) (.wk (.block 0 (.loop (.seq (.seq (.reg [vm 11 5, vm 12 0, ln 13 12, bt 14 .lss 11 13]) (.cond (.t 14) .skip (.exit 0))) (.seq (.block 1 (.seq (.draw [vd (vm 17 0) 0, vd (vm 18 5) 0, vd (xa 19 1 17 18) 3, vd (vs 20 19) 7, vd (vm 21 1) 0, vd (vm 22 5) 0, vd (xa 23 1 21 22) 48, vd (vs 24 23) 112, vd (bt 25 .neq 20 24) 255]) (.cond (.t 25) (.seq (.reg [vo 4 (.mv (cb false))]) .ret) .skip))) (.reg [vm 15 5, bk 16 .add 15 1, vm 5 16]))))))) (.seq (.reg [vo 4 (.mv (cb true))]) .ret)))), [.t 4]⟩
theorem low22 : lowF Tryd.prog 22 = some F22.strip := by kernel_rfl
theorem fok22 : fOk Tryd.prog 22 = true := by kernel_rfl
theorem reredoslaw_sameInts_ok (p0 : List Int) (p1 : List Int) (r : Bool) (h : reredoslaw_sameInts p0 p1 = some r) : FnRO Tryd.prog G 22 [.one (.d (.l 1 (p0.map encI))), .one (.d (.l 1 (p1.map encI)))] (fun rs => rs = [.one (.b r)]) := by
 refine FnRO.of' low22 fok22 (by simp [F22]) ?_
 rw [reredoslaw_sameInts] at h
 replace h := Hd.mk h
 simp only [F22, go_sem]
 try simp only [*, go_sem]
 intro hl1
 try simp only [*, go_sem]
 intro hl2
 refine oi h (fun hb3 h => ?_) (fun hb3 h => ?_)
 cases h.e
 simp only [*, go_sem, mA, mS]
 try simp only [*, go_sem]
 refine jn0 h ([]) ([]) (fun k5 h => ?_) (fun h => ?_)
 try simp only [*, go_sem]
 refine lp1 (reredoslaw_sameInts_L1 p0 p1 k5) (fun a6_1 => [zL 0 1 (p0.map encI), zL 1 1 (p1.map encI), zI 5 ((a6_1 : Nat) : Int)]) (fun a6_1 => []) h [] [] (fun n7 a6_1 h => ?_) (by intros; rw [reredoslaw_sameInts_L1])
 rw [reredoslaw_sameInts_L1] at h
 try simp only [*, go_sem]
 intro hl8
 refine oi h (fun hb9 h => ?_) (fun hb9 h => ?_)
 have := of_decide_eq_true hb9
 refine obg h (fun x10 _ hkx10 h => ?_)
 refine obg h (fun x11 _ _ h => ?_)
 refine oi h (fun hb12 h => ?_) (fun hb12 h => ?_)
 cases h.e
 simp only [*, go_sem, mA, mS]
 have := wrap_succ_max hkx10 hl1
 try simp only [*, go_sem]
 exact lc (a6_1 + 1) h.e []
 try simp only [*, go_sem]
 exact jc () h.e []
 cases h.e
 simp only [*, go_sem, mA, mS]
def reredoslaw_sameActs_L1 (p0 : List Act) (p1 : List Act) (k5 : Option (Bool)) : Nat → Nat → Option (Bool)
 | 0, _ => none
 | n7 + 1, a6_1 => (if (decide (a6_1 < p0.length)) = true then (Option.bind (p0[a6_1]?) fun x10 => (Option.bind (p1[a6_1]?) fun x11 => (if (x10.Kind != x11.Kind) = true then (some false) else (if (x10.Site != x11.Site) = true then (some false) else (if (x10.To != x11.To) = true then (some false) else (if (x10.Label != x11.Label) = true then (some false) else (if (x10.Pick != x11.Pick) = true then (some false) else (if (!((x10.Call.Kind == x11.Call.Kind) && ((x10.Call.N == x11.Call.N) && ((x10.Call.Label == x11.Call.Label) && ((x10.Call.Key == x11.Call.Key) && (x10.Call.Value == x11.Call.Value)))))) = true then (some false) else (if (!(x10.Line.toList == x11.Line.toList)) = true then (some false) else (Option.bind (reredoslaw_sameInts x10.Keep x11.Keep) fun v19 => (if (!v19) = true then (some false) else (reredoslaw_sameActs_L1 p0 p1 k5 n7 (a6_1 + 1))))))))))))) else k5)
def reredoslaw_sameActs (p0 : List Act) (p1 : List Act) : Option (Bool) := (if (((p0.length : Nat) : Int) != ((p1.length : Nat) : Int)) = true then (some false) else (withK (some true) fun k5 => (reredoslaw_sameActs_L1 p0 p1 k5 (p0.length + 1) 0)))
def F9 : VFn := ⟨82, (.seq (.reg [vo 4 (.mv (cb false))]) (.seq (.seq (.reg [vm 8 0, ln 9 8, vm 10 1, ln 11 10, bt 12 .neq 9 11]) (.cond (.t 12) (.seq (.reg [vo 4 (.mv (cb false))]) .ret) .skip)) (.seq (.seq (.reg [mi 5 0]) (.wk (.block 0 (.loop (.seq (.seq (.reg [vm 13 5, vm 14 0, ln 15 14, bt 16 .lss 13 15]) (.cond (.t 16) .skip (.exit 0))) (.seq (.block 1 (.seq (.reg [vm 19 0, vm 20 5, xa 21 12 19 20, vl 22 12 21, vo 6 (.alloc [(zi 0), (zi 0), (zi 0), (zi 0), (zi 0), (.nl 1), (zi 0), (zi 0), (zi 0), (zi 0), (zi 0), (.d (.s ⟨#[]⟩))]), vu (.st 12 (.t 6) (.t 22))]) (.seq (.reg [vm 23 1, vm 24 5, xa 25 12 23 24, vl 26 12 25, vo 7 (.alloc [(zi 0), (zi 0), (zi 0), (zi 0), (zi 0), (.nl 1), (zi 0), (zi 0), (zi 0), (zi 0), (zi 0), (.d (.s ⟨#[]⟩))]), vu (.st 12 (.t 7) (.t 26))]) (.seq (.reg [vf 27 0 6, vs 28 27, vf 29 0 7, vs 30 29, bt 31 .neq 28 30, vm 32 31, gf 33 32 (.fa 1 (.t 6)), gf 34 32 (.ld false 1 (.t 33)), gf 35 32 (.fa 1 (.t 7)), gf 36 32 (.ld false 1 (.t 35)), gf 37 32 (.bin .i .neq (.t 34) (.t 36)), vo 38 (.pick (.t 32) (cb true) (.t 37)), vm 39 38, gf 40 39 (.fa 2 (.t 6)), gf 41 39 (.ld false 1 (.t 40)), gf 42 39 (.fa 2 (.t 7)), gf 43 39 (.ld false 1 (.t 42)), gf 44 39 (.bin .i .neq (.t 41) (.t 43)), vo 45 (.pick (.t 39) (cb true) (.t 44)), vm 46 45, gf 47 46 (.fa 3 (.t 6)), gf 48 46 (.ld false 1 (.t 47)), gf 49 46 (.fa 3 (.t 7)), gf 50 46 (.ld false 1 (.t 49)), gf 51 46 (.bin .i .neq (.t 48) (.t 50)), vo 52 (.pick (.t 46) (cb true) (.t 51)), vm 53 52, gf 54 53 (.fa 4 (.t 6)), gf 55 53 (.ld false 1 (.t 54)), gf 56 53 (.fa 4 (.t 7)), gf 57 53 (.ld false 1 (.t 56)), gf 58 53 (.bin .i .neq (.t 55) (.t 57)), vo 59 (.pick (.t 53) (cb true) (.t 58)), vm 60 59, gf 61 60 (.fa 6 (.t 6)), gf 62 60 (.ld true 5 (.t 61)), gf 63 60 (.fa 6 (.t 7)), gf 64 60 (.ld true 5 (.t 63)), gf 65 60 (.eqs true [.i, .i, .i, .i, .i] (.t 62) (.t 64)), vo 66 (.pick (.t 60) (cb true) (.t 65)), vm 67 66, gf 68 67 (.fa 11 (.t 6)), gf 69 67 (.ld false 1 (.t 68)), gf 70 67 (.fa 11 (.t 7)), gf 71 67 (.ld false 1 (.t 70)), gf 72 67 (.bin .s .neq (.t 69) (.t 71)), vo 73 (.pick (.t 67) (cb true) (.t 72)), vm 74 73, gf 75 74 (.fa 5 (.t 6)), gf 76 74 (.ld false 1 (.t 75)), gf 77 74 (.fa 5 (.t 7)), gf 78 74 (.ld false 1 (.t 77)), gf 79 74 (.call 22 [(.t 76), (.t 78)]), gf 80 74 (.un .not (.t 79)), vo 81 (.pick (.t 74) (cb true) (.t 80))]) (.cond (.t 81) (.seq (.reg [vo 4 (.mv (cb false))]) .ret) .skip))))) (.reg [vm 17 5, bk 18 .add 17 1, vm 5 18]))))))) (.seq (.reg [vo 4 (.mv (cb true))]) .ret)))), [.t 4]⟩
theorem low9 : lowF Tryd.prog 9 = some F9.strip := by kernel_rfl
theorem fok9 : fOk Tryd.prog 9 = true := by kernel_rfl
theorem reredoslaw_sameActs_ok (p0 : List Act) (p1 : List Act) (r : Bool) (h : reredoslaw_sameActs p0 p1 = some r) : FnRO Tryd.prog G 9 [.one (.d (.l 12 (p0.map Act.enc))), .one (.d (.l 12 (p1.map Act.enc)))] (fun rs => rs = [.one (.b r)]) := by
 refine FnRO.of' low9 fok9 (by simp [F9]) ?_
 rw [reredoslaw_sameActs] at h
 replace h := Hd.mk h
 simp only [F9, go_sem]
 try simp only [*, go_sem]
 intro hl1
 try simp only [*, go_sem]
 intro hl2
 refine oi h (fun hb3 h => ?_) (fun hb3 h => ?_)
 cases h.e
 simp only [*, go_sem, mA, mS]
 try simp only [*, go_sem]
 refine jn0 h ([]) ([]) (fun k5 h => ?_) (fun h => ?_)
 try simp only [*, go_sem]
 refine lp1 (reredoslaw_sameActs_L1 p0 p1 k5) (fun a6_1 => [zL 0 12 (p0.map Act.enc), zL 1 12 (p1.map Act.enc), zI 5 ((a6_1 : Nat) : Int)]) (fun a6_1 => []) h [] [] (fun n7 a6_1 h => ?_) (by intros; rw [reredoslaw_sameActs_L1])
 rw [reredoslaw_sameActs_L1] at h
 try simp only [*, go_sem]
 intro hl8
 refine oi h (fun hb9 h => ?_) (fun hb9 h => ?_)
 have := of_decide_eq_true hb9
 refine obg h (fun x10 _ hkx10 h => ?_)
 refine obg h (fun x11 _ _ h => ?_)
 refine oi h (fun hb12 h => ?_) (fun hb12 h => ?_)
 cases h.e
 simp only [*, go_sem, mA, mS]
 refine oi h (fun hb13 h => ?_) (fun hb13 h => ?_)
 cases h.e
 simp only [*, go_sem, mA, mS]
 refine oi h (fun hb14 h => ?_) (fun hb14 h => ?_)
 cases h.e
 simp only [*, go_sem, mA, mS]
 refine oi h (fun hb15 h => ?_) (fun hb15 h => ?_)
 cases h.e
 simp only [*, go_sem, mA, mS]
 refine oi h (fun hb16 h => ?_) (fun hb16 h => ?_)
 cases h.e
 simp only [*, go_sem, mA, mS]
 refine oin h (fun hb17 hkhb17 h => ?_) (fun hb17 hkhb17 h => ?_)
 try simp only [*, go_sem]
 cases h.e
 simp only [*, go_sem, mA, mS]
 try simp only [*, go_sem]
 refine oin h (fun hb18 hkhb18 h => ?_) (fun hb18 hkhb18 h => ?_)
 cases h.e
 simp only [*, go_sem, mA, mS]
 try simp only [*, go_sem]
 refine cr h (reredoslaw_sameInts_ok G x10.Keep x11.Keep) (fun v19 h => ?_)
 refine oin h (fun hb20 hkhb20 h => ?_) (fun hb20 hkhb20 h => ?_)
 cases h.e
 simp only [*, go_sem, mA, mS]
 have := wrap_succ_max hkx10 hl1
 try simp only [*, go_sem]
 exact lc (a6_1 + 1) h.e []
 try simp only [*, go_sem]
 exact jc () h.e []
 cases h.e
 simp only [*, go_sem, mA, mS]
def reredoslaw_LinesReads (p0 : Config) (p1 : ByteArray) : Option (Bool) := (withK (Option.bind (lines_Read p0 p1) fun v3 => (withK (Option.bind (reredosref_ActsOf p0 p1) fun v6 => (withK (fun (b7_1 : Bool) => (some b7_1)) fun k8 => (if (v3.2.1 == v6.2.1) = true then (if (v3.2.2 == v6.2.2) = true then (Option.bind (reredoslaw_sameActs v3.1 v6.1) fun v11 => (k8 v11)) else (k8 false)) else (k8 false)))) fun k5 => k5)) fun k2 => k2)
def F4 : VFn := ⟨38, (.seq (.reg [vo 2 (.box 3 (.t 0)), vo 4 (.mv (cb false))]) (.seq (.regs [[vl 12 3 2, vm 13 1], [vo 14 (.call 7 [(.t 12), (.t 13)]), vm 11 14, et 15 11 0, et 16 11 1, et 17 11 2, vm 5 15, vm 6 16, vm 7 17]]) (.seq (.regs [[vl 19 3 2, vm 20 1], [vo 21 (.call 8 [(.t 19), (.t 20)]), vm 18 21, et 22 18 0, et 23 18 1, et 24 18 2, vm 8 22, vm 9 23, vm 10 24]]) (.seq (.wk (.reg [vm 25 6, vm 26 9, bt 27 .eql 25 26, vm 28 27, gt 29 28 (.mv (.t 7)), gt 30 28 (.mv (.t 10)), gt 31 28 (.bin .i .eql (.t 29) (.t 30)), vo 32 (.pick (.t 28) (.t 31) (cb false)), vm 33 32, gt 34 33 (.mv (.t 5)), gt 35 33 (.mv (.t 8)), gt 36 33 (.call 9 [(.t 34), (.t 35)]), vo 37 (.pick (.t 33) (.t 36) (cb false)), vm 4 37])) .ret)))), [.t 4]⟩
theorem low4 : lowF Tryd.prog 4 = some F4.strip := by kernel_rfl
theorem fok4 : fOk Tryd.prog 4 = true := by kernel_rfl
theorem reredoslaw_LinesReads_ok (htab_lines_words : constG G 0 = .one (.d (.k tab_lines_wordsD))) (htab_lines_calls : constG G 1 = .one (.d (.k tab_lines_callsD))) (hvar2 : VarI G 2) (hvar3 : VarE G 3) (hvar4 : VarE G 4) (htab_strconv_uint64pow10 : constG G 7 = .one (.d (.k tab_strconv_uint64pow10D))) (p0 : Config) (p1 : ByteArray) (r : Bool) (h : reredoslaw_LinesReads p0 p1 = some r) : FnRO Tryd.prog G 4 [.agg p0.bx, .one (.d (.s p1))] (fun rs => rs = [.one (.b r)]) := by
 refine FnRO.of' low4 fok4 (by simp [F4]) ?_
 rw [reredoslaw_LinesReads] at h
 replace h := Hd.mk h
 simp only [F4, go_sem]
 try simp only [*, go_sem]
 refine rg0 h ([(1, .one (.d (.s p1))), zP 2 0, (12, .agg [zi p0.Sites, .d (.l 2 (p0.Labels.map Label.enc)), zi p0.Patience]), (13, .one (.d (.s p1)))]) ([ox p0.bx]) (fun k2 h => ?_) (fun h => ?_)
 try simp only [*, go_sem]
 exact jc () h.e [some 0]
 try simp only [*, go_sem]
 refine cr h (lines_Read_ok G htab_lines_words htab_lines_calls hvar2 hvar3 hvar4 htab_strconv_uint64pow10 p0 p1) (fun v3 h => ?_)
 try simp only [*, go_sem]
 refine rg0 h ([zR 5 0 0 v3.1.length, zI 6 v3.2.1, zI 7 v3.2.2, (19, .agg [zi p0.Sites, .d (.l 2 (p0.Labels.map Label.enc)), zi p0.Patience]), (20, .one (.d (.s p1)))]) ([oa 12 (v3.1.map Act.enc)]) (fun k5 h => ?_) (fun h => ?_)
 try simp only [*, go_sem]
 exact jc () h.e [some 1]
 try simp only [*, go_sem]
 refine cr h (reredosref_ActsOf_ok G p0 p1) (fun v6 h => ?_)
 try simp only [*, go_sem]
 refine jn1 h (fun b7_1 => [zB 4 b7_1]) (fun b7_1 => []) (fun k8 h => ?_) (fun b7_1 h => ?_)
 refine oi h (fun hb9 h => ?_) (fun hb9 h => ?_)
 refine oi h (fun hb10 h => ?_) (fun hb10 h => ?_)
 try simp only [*, go_sem]
 refine cl h (reredoslaw_sameActs_ok G v3.1 v6.1) (fun v11 h => ?_)
 try simp only [*, go_sem]
 exact jc (v11) h.e []
 try simp only [*, go_sem]
 exact jc (false) h.e []
 try simp only [*, go_sem]
 exact jc (false) h.e []
 cases h.e
 simp only [*, go_sem, mA, mS]
end Go.V.Dec
