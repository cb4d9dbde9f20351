/- What Go's functions come to, as plain functions: part 1; no condition. -/
import Derived.Test.YtjpkfnblnimdoaaDoorRows
import Derived.Test.YtjpkfnblnimdoaaDoorVY
import Derived.Test.YtjpkfnblnimdoaaDoorVS
set_option linter.unusedVariables false
set_option linter.unusedSimpArgs false
namespace Go.V.Dec
open Go Go.Proofs
set_option maxRecDepth 100000
set_option maxHeartbeats 4000000
variable (G : Nat → Option (List D))
structure Utf8AcceptRange where
  lo : Int
  hi : Int
  deriving Inhabited
def Utf8AcceptRange.enc (x : Utf8AcceptRange) : List D := [.i .u8 x.lo, .i .u8 x.hi]
def Utf8AcceptRange.encO (x : Utf8AcceptRange) : List D := [.i .u8 x.lo, .i .u8 x.hi]
structure ConsoleTaker where
  l : List ByteArray
  bad : Bool
  deriving Inhabited
def ConsoleTaker.enc (x : ConsoleTaker) : List D := [.l 1 (x.l.map encS), .b x.bad]
def ConsoleTaker.encO (x : ConsoleTaker) : List D := [.o 1 (x.l.map encS), .b x.bad]
structure Txn where
  Site : Int
  N : Int
  deriving Inhabited
def Txn.enc (x : Txn) : List D := [.i .i64 x.Site, .i .i64 x.N]
def Txn.encO (x : Txn) : List D := [.i .i64 x.Site, .i .i64 x.N]
structure Command where
  Kind : Int
  Label : Int
  Txn : Txn
  Yes : Bool
  deriving Inhabited
def Command.enc (x : Command) : List D := [.i .i64 x.Kind, .i .i64 x.Label, .i .i64 x.Txn.Site, .i .i64 x.Txn.N, .b x.Yes]
def Command.encO (x : Command) : List D := [.i .i64 x.Kind, .i .i64 x.Label, .i .i64 x.Txn.Site, .i .i64 x.Txn.N, .b x.Yes]
def Utf8AcceptRange.bx (x : Utf8AcceptRange) : List SC := [.d (.i .u8 x.lo), .d (.i .u8 x.hi)]
def ConsoleTaker.bx (x : ConsoleTaker) : List SC := [.d (.l 1 (x.l.map encS)), .d (.b x.bad)]
def Txn.bx (x : Txn) : List SC := [.d (.i .i64 x.Site), .d (.i .i64 x.N)]
def Command.bx (x : Command) : List SC := [.d (.i .i64 x.Kind), .d (.i .i64 x.Label), .d (.i .i64 x.Txn.Site), .d (.i .i64 x.Txn.N), .d (.b x.Yes)]
attribute [go_sem] encI Utf8AcceptRange.enc Utf8AcceptRange.encO Utf8AcceptRange.bx ConsoleTaker.enc ConsoleTaker.encO ConsoleTaker.bx Txn.enc Txn.encO Txn.bx Command.enc Command.encO Command.bx
def tab_strconv_uint64pow10D : List D := [.i .u64 1, .i .u64 10, .i .u64 100, .i .u64 1000, .i .u64 10000, .i .u64 100000, .i .u64 1000000, .i .u64 10000000, .i .u64 100000000, .i .u64 1000000000, .i .u64 10000000000, .i .u64 100000000000, .i .u64 1000000000000, .i .u64 10000000000000, .i .u64 100000000000000, .i .u64 1000000000000000, .i .u64 10000000000000000, .i .u64 100000000000000000, .i .u64 1000000000000000000, .i .u64 10000000000000000000]
def bs_7215ee9c : ByteArray := ⟨#[32]⟩
def bs_10ae9fc7 : ByteArray := ⟨#[108, 105, 115, 116]⟩
def bs_a5a63d9b : ByteArray := ⟨#[97, 117, 100, 105, 116]⟩
def bs_9acb4454 : ByteArray := ⟨#[115, 116, 97, 116, 117, 115]⟩
def bs_ae254d63 : ByteArray := ⟨#[102, 111, 114, 99, 101]⟩
def bs_fffca4d6 : ByteArray := ⟨#[99, 111, 109, 109, 105, 116]⟩
def bs_5bb94a1c : ByteArray := ⟨#[97, 98, 111, 114, 116]⟩
def bs_336d5ebc : ByteArray := ⟨#[45]⟩
theorem split10_ok (hvar2 : VarI G 2) (p0 p1 : ByteArray) (r : List ByteArray) (h : splitF p0 p1 = some r) : FnRO Tryd.prog G 10 [.one (.d (.s p0)), .one (.d (.s p1))] (fun rs => rs = [.one (.o 1 (r.map encS))]) := split_okF splitLays splitInfo rfl (by kernel_rfl) rfl hvar2 p0 p1 r h
def console_taker_next (p0 : ConsoleTaker) : Option (ConsoleTaker × ByteArray) := (if (((p0.l.length : Nat) : Int) == 0) = true then (some ((ConsoleTaker.mk p0.l true), (⟨#[]⟩ : ByteArray))) else (Option.bind (p0.l[0]?) fun x3 => (if 1 ≤ p0.l.length then (some ((ConsoleTaker.mk (p0.l.drop 1) p0.bad), x3)) else none)))
def F11 : VFn := ⟨28, (.seq (.reg [vo 2 (.mv (.c (.one (.d (.s ⟨#[]⟩)))))]) (.seq (.seq (.reg [vm 4 0, vo 5 (.nilchk (.t 4)), vf 6 0 5, vs 7 6, ln 8 7, bk 9 .eql 8 0]) (.cond (.t 9) (.seq (.reg [vm 10 0, vo 11 (.nilchk (.t 10)), vf 12 1 11, vu (.st 1 (.t 12) (cb true))]) (.seq (.reg [vo 2 (.mv (.c (.one (.d (.s ⟨#[]⟩)))))]) .ret)) .skip)) (.seq (.reg [vm 13 0, vo 14 (.nilchk (.t 13)), vf 15 0 14, vs 16 15, vo 17 (.ia 1 (.t 16) (ci 0)), vs 18 17, vm 3 18]) (.seq (.reg [vm 19 0, vm 20 0, vo 21 (.nilchk (.t 20)), vf 22 0 21, vs 23 22, vo 24 (.sl 1 (.t 23) (some (ci 1)) none), vo 25 (.nilchk (.t 19)), vf 26 0 25, vu (.st 1 (.t 26) (.t 24))]) (.seq (.reg [vm 27 3, vm 2 27]) .ret))))), [.t 2]⟩
theorem low11 : lowF Tryd.prog 11 = some F11.strip := by kernel_rfl
theorem fok11 : fOk Tryd.prog 11 = true := by kernel_rfl
theorem console_taker_next_ok (p0 : ConsoleTaker) (r : ConsoleTaker × ByteArray) (h : console_taker_next p0 = some r) : FnX Tryd.prog G 11 [ptrX] [.l 1 (p0.l.map encS), .b p0.bad] (fun c rs => c = [.l 1 (r.1.l.map encS), .b r.1.bad] ∧ rs = [.one (.s r.2)]) := by
 refine FnX.of [1] low11 fok11 (by exact Nat.le_of_ble_eq_true rfl) (by exact Nat.le_of_ble_eq_true rfl) ?_
 rw [console_taker_next] at h
 replace h := Hd.mk h
 simp only [F11, go_sem]
 try simp only [*, go_sem]
 intro hl1
 refine oi h (fun hb2 h => ?_) (fun hb2 h => ?_)
 cases h.e
 try simp only [*, go_sem]
 refine eti [] ?_
 simp only [*, go_sem, mA, mS]
 refine obg h (fun x3 _ _ h => ?_)
 have : (0 : Int) < ((p0.l.length : Nat) : Int) := by omega
 refine ck h (fun _ h => ?_)
 have : (1 : Int) ≤ ((p0.l.length : Nat) : Int) := by omega
 cases h.e
 try simp only [*, go_sem]
 refine eti [] ?_
 simp only [*, go_sem, mA, mS]
theorem atoi24_ok (hvar3 : VarE G 3) (hvar4 : VarE G 4) (p0 : ByteArray) (r : Int × Bool) (h : atoiF p0 = some r) : FnRO Tryd.prog G 24 [.one (.d (.s p0))] (fun rs => ∃ x : Value, nilB x = some r.2 ∧ rs = [.one (.i .i64 r.1), .one (.v x)]) := atoi_okF atoiLays rfl (by kernel_rfl) rfl rfl hvar3 hvar4 p0 r h
theorem itoa25_ok (htab_strconv_uint64pow10 : constG G 7 = .one (.d (.k tab_strconv_uint64pow10D))) (p0 : Int) (r : ByteArray) (h : itoaF p0 = some r) : FnRO Tryd.prog G 25 [.one (.d (.i .i64 p0))] (fun rs => rs = [.one (.s r)]) := itoa_okF itoaLays rfl (by kernel_rfl) (by kernel_rfl) (by rfl) htab_strconv_uint64pow10 p0 r h
def console_taker_number (p0 : ConsoleTaker) (p1 : Int) : Option (ConsoleTaker × Int) := (Option.bind (console_taker_next p0) fun v1 => (Option.bind (atoiF v1.2) fun v2 => (if (!v2.2) = true then (some ((ConsoleTaker.mk v1.1.l true), 0)) else (Option.bind (itoaF v2.1) fun v6 => (if (!(v6.toList == v1.2.toList)) = true then (some ((ConsoleTaker.mk v1.1.l true), 0)) else (if (decide (v2.1 < 0)) = true then (some ((ConsoleTaker.mk v1.1.l true), 0)) else (if (decide (v2.1 > p1)) = true then (some ((ConsoleTaker.mk v1.1.l true), 0)) else (some (v1.1, v2.1)))))))))
def F12 : VFn := ⟨36, (.seq (.reg [mi 4 0]) (.seq (.reg [vm 8 0, vo 9 (.call 11 [(.t 8)]), vm 5 9]) (.seq (.reg [vm 11 5, vo 12 (.call 24 [(.t 11)]), vm 10 12, et 13 10 0, et 14 10 1, vm 6 13, vm 7 14]) (.seq (.seq (.reg [vm 15 7, vo 16 (.inil true (.t 15)), vm 17 16, gf 18 17 (.mv (.t 6)), gf 19 17 (.call 25 [(.t 18)]), gf 20 17 (.mv (.t 5)), gf 21 17 (.bin .s .neq (.t 19) (.t 20)), vo 22 (.pick (.t 17) (cb true) (.t 21)), vm 23 22, gf 24 23 (.mv (.t 6)), gf 25 23 (.bin .i .lss (.t 24) (ci 0)), vo 26 (.pick (.t 23) (cb true) (.t 25)), vm 27 26, gf 28 27 (.mv (.t 6)), gf 29 27 (.mv (.t 1)), gf 30 27 (.bin .i .gtr (.t 28) (.t 29)), vo 31 (.pick (.t 27) (cb true) (.t 30))]) (.cond (.t 31) (.seq (.reg [vm 32 0, vo 33 (.nilchk (.t 32)), vf 34 1 33, vu (.st 1 (.t 34) (cb true))]) (.seq (.reg [mi 4 0]) .ret)) .skip)) (.seq (.reg [vm 35 6, vm 4 35]) .ret))))), [.t 4]⟩
theorem low12 : lowF Tryd.prog 12 = some F12.strip := by kernel_rfl
theorem fok12 : fOk Tryd.prog 12 = true := by kernel_rfl
theorem console_taker_number_ok (hvar3 : VarE G 3) (hvar4 : VarE G 4) (htab_strconv_uint64pow10 : constG G 7 = .one (.d (.k tab_strconv_uint64pow10D))) (p0 : ConsoleTaker) (p1 : Int) (r : ConsoleTaker × Int) (h : console_taker_number p0 p1 = some r) : FnX Tryd.prog G 12 [ptrX, .one (.d (.i .i64 p1))] [.l 1 (p0.l.map encS), .b p0.bad] (fun c rs => c = [.l 1 (r.1.l.map encS), .b r.1.bad] ∧ rs = [.one (.i .i64 r.2)]) := by
 refine FnX.of [1] low12 fok12 (by exact Nat.le_of_ble_eq_true rfl) (by exact Nat.le_of_ble_eq_true rfl) ?_
 rw [console_taker_number] at h
 replace h := Hd.mk h
 simp only [F12, go_sem]
 try simp only [*, go_sem]
 refine ct h 0 [] [1] [] (console_taker_next_ok G p0) (fun v1 h => ?_)
 try simp only [*, go_sem]
 refine crE h (atoi24_ok G hvar3 hvar4 v1.2) (fun v2 y3 _ h => ?_)
 refine oin h (fun hb5 hkhb5 h => ?_) (fun hb5 hkhb5 h => ?_)
 cases h.e
 try simp only [*, go_sem]
 refine eti [] ?_
 simp only [*, go_sem, mA, mS]
 try simp only [*, go_sem]
 refine cr h (itoa25_ok G htab_strconv_uint64pow10 v2.1) (fun v6 h => ?_)
 refine oin h (fun hb7 hkhb7 h => ?_) (fun hb7 hkhb7 h => ?_)
 cases h.e
 try simp only [*, go_sem]
 refine eti [] ?_
 simp only [*, go_sem, mA, mS]
 refine oi h (fun hb8 h => ?_) (fun hb8 h => ?_)
 have := of_decide_eq_true hb8
 cases h.e
 try simp only [*, go_sem]
 refine eti [] ?_
 simp only [*, go_sem, mA, mS]
 refine oi h (fun hb9 h => ?_) (fun hb9 h => ?_)
 cases h.e
 try simp only [*, go_sem]
 refine eti [] ?_
 simp only [*, go_sem, mA, mS]
 cases h.e
 try simp only [*, go_sem]
 refine eti [] ?_
 simp only [*, go_sem, mA, mS]
def console_Read (p0 : ByteArray) : Option (Command × Int) := (if (decide (((p0.size : Nat) : Int) > 60)) = true then (some ((Command.mk 0 0 (Txn.mk 0 0) false), 1)) else (Option.bind (splitF p0 bs_7215ee9c) fun v2 => (Option.bind (console_taker_next (ConsoleTaker.mk v2 false)) fun v3 => (withK (fun (b4_1 : Nat) => (withK (fun (b14_1 : List ByteArray) (b14_2 : Bool) (b14_3 : Int) (b14_4 : Int) (b14_5 : Int) => (withK (fun (b24_1 : List ByteArray) (b24_2 : Bool) (b24_3 : Bool) => (withK (some ((Command.mk ((b4_1 : Nat) : Int) b14_3 (Txn.mk b14_4 b14_5) b24_3), 0)) fun k31 => (if b24_2 = true then (some ((Command.mk 0 0 (Txn.mk 0 0) false), 4)) else (if (decide (((b24_1.length : Nat) : Int) > 0)) = true then (some ((Command.mk 0 0 (Txn.mk 0 0) false), 4)) else k31)))) fun k25 => (if (((b4_1 : Nat) : Int) == 3) = true then (Option.bind (console_taker_next (ConsoleTaker.mk b14_1 b14_2)) fun v27 => (if v27.1.bad = true then (k25 v27.1.l true (v27.2.toList == bs_fffca4d6.toList)) else (if (!(v27.2.toList == bs_fffca4d6.toList)) = true then (k25 v27.1.l (!(v27.2.toList == bs_5bb94a1c.toList)) false) else (k25 v27.1.l false true)))) else (k25 b14_1 b14_2 false)))) fun k15 => (if (((b4_1 : Nat) : Int) == 2) = true then (Option.bind (console_taker_number v3.1 5) fun v17 => (Option.bind (console_taker_number v17.1 3) fun v18 => (Option.bind (console_taker_number v18.1 1048576) fun v19 => (k15 v19.1.l v19.1.bad v17.2 v18.2 v19.2)))) else (if (((b4_1 : Nat) : Int) == 3) = true then (Option.bind (console_taker_number v3.1 5) fun v21 => (Option.bind (console_taker_number v21.1 3) fun v22 => (Option.bind (console_taker_number v22.1 1048576) fun v23 => (k15 v23.1.l v23.1.bad v21.2 v22.2 v23.2)))) else (k15 v3.1.l v3.1.bad 0 0 0))))) fun k5 => (if (v3.2.toList == bs_10ae9fc7.toList) = true then (k5 1) else (withK (fun (b7_1 : Nat) => (k5 b7_1)) fun k8 => (if (v3.2.toList == bs_a5a63d9b.toList) = true then (k8 4) else (withK (fun (b10_1 : Nat) => (k8 b10_1)) fun k11 => (if (v3.2.toList == bs_9acb4454.toList) = true then (k11 2) else (if (v3.2.toList == bs_ae254d63.toList) = true then (k11 3) else (some ((Command.mk 0 0 (Txn.mk 0 0) false), 4))))))))))))
def F5 : VFn := ⟨86, (.seq (.reg [vo 2 (.alloc [(zi 0), (zi 0), (zi 0), (zi 0), (.d (.b false))]), mi 3 0]) (.seq (.seq (.reg [vm 7 0, vo 8 (.lens (.t 7)), bk 9 .gtr 8 60]) (.cond (.t 9) (.seq (.reg [vo 10 (.build [(zi 0), (zi 0), (zi 0), (zi 0), (.d (.b false))] []), vu (.st 5 (.t 2) (.t 10)), mi 3 1]) .ret) .skip)) (.seq (.reg [vm 11 0, vo 12 (.call 10 [(.t 11), (.c (.one (.d (.s bs_7215ee9c))))]), vo 13 (.build [(.nl 1), (.d (.b false))] [(0, 1, (.t 12))]), vo 14 (.box 2 (.t 13)), vm 4 14]) (.seq (.reg [vo 5 (.alloc [(zi 0), (zi 0), (zi 0), (zi 0), (.d (.b false))])]) (.seq (.seq (.reg [vm 15 4, vo 16 (.call 11 [(.t 15)])]) (.block 0 (.seq (.reg [vo 19 (.bin .s .eql (.t 16) (.c (.one (.d (.s bs_10ae9fc7))))), vm 18 19]) (.wk (.cond (.t 18) (.reg [vf 20 0 5, vu (.st 1 (.t 20) (ci 1))]) (.seq (.reg [vo 22 (.bin .s .eql (.t 16) (.c (.one (.d (.s bs_a5a63d9b))))), vm 21 22]) (.wk (.cond (.t 21) (.reg [vf 23 0 5, vu (.st 1 (.t 23) (ci 4))]) (.seq (.reg [vo 25 (.bin .s .eql (.t 16) (.c (.one (.d (.s bs_9acb4454))))), vm 24 25]) (.wk (.cond (.t 24) (.reg [vf 26 0 5, vu (.st 1 (.t 26) (ci 2))]) (.seq (.reg [vo 28 (.bin .s .eql (.t 16) (.c (.one (.d (.s bs_ae254d63))))), vm 27 28]) (.cond (.t 27) (.reg [vf 29 0 5, vu (.st 1 (.t 29) (ci 3))]) (.seq (.reg [vo 17 (.build [(zi 0), (zi 0), (zi 0), (zi 0), (.d (.b false))] []), vu (.st 5 (.t 2) (.t 17)), mi 3 4]) .ret)))))))))))))) (.seq (.wk (.seq (.reg [vf 30 0 5, vs 31 30, bk 32 .eql 31 2, vm 33 32, gf 34 33 (.fa 0 (.t 5)), gf 35 33 (.ld false 1 (.t 34)), gf 36 33 (.bin .i .eql (.t 35) (ci 3)), vo 37 (.pick (.t 33) (cb true) (.t 36))]) (.cond (.t 37) (.seq (.reg [vm 38 4, vo 39 (.call 12 [(.t 38), (ci 5)]), vf 40 1 5, vu (.st 1 (.t 40) (.t 39))]) (.seq (.reg [vm 41 4, vo 42 (.call 12 [(.t 41), (ci 3)]), vf 43 2 5, vf 44 0 43, vu (.st 1 (.t 44) (.t 42))]) (.reg [vm 45 4, vo 46 (.call 12 [(.t 45), (ci 1048576)]), vf 47 2 5, vf 48 1 47, vu (.st 1 (.t 48) (.t 46))]))) .skip))) (.seq (.seq (.reg [vf 49 0 5, vs 50 49, bk 51 .eql 50 3]) (.wk (.cond (.t 51) (.seq (.reg [vm 52 4, vo 53 (.call 11 [(.t 52)]), vm 6 53]) (.seq (.reg [vm 54 6, vo 55 (.bin .s .eql (.t 54) (.c (.one (.d (.s bs_fffca4d6))))), vf 56 4 5, vu (.st 1 (.t 56) (.t 55))]) (.reg [vm 57 4, vm 58 4, vo 59 (.nilchk (.t 58)), vf 60 1 59, vs 61 60, vm 62 61, gf 63 62 (.mv (.t 6)), gf 64 62 (.bin .s .neq (.t 63) (.c (.one (.d (.s bs_fffca4d6))))), gf 65 62 (.mv (.t 64)), gt 66 65 (.mv (.t 6)), gt 67 65 (.bin .s .neq (.t 66) (.c (.one (.d (.s bs_5bb94a1c))))), gf 68 62 (.pick (.t 65) (.t 67) (cb false)), vo 69 (.pick (.t 62) (cb true) (.t 68)), vo 70 (.nilchk (.t 57)), vf 71 1 70, vu (.st 1 (.t 71) (.t 69))]))) .skip))) (.seq (.wk (.seq (.reg [vm 72 4, vo 73 (.nilchk (.t 72)), vf 74 1 73, vs 75 74, vm 76 75, gf 77 76 (.mv (.t 4)), gf 78 76 (.nilchk (.t 77)), gf 79 76 (.fa 0 (.t 78)), gf 80 76 (.ld false 1 (.t 79)), gf 81 76 (.len (.t 80)), gf 82 76 (.bin .i .gtr (.t 81) (ci 0)), vo 83 (.pick (.t 76) (cb true) (.t 82))]) (.cond (.t 83) (.seq (.reg [vo 84 (.build [(zi 0), (zi 0), (zi 0), (zi 0), (.d (.b false))] []), vu (.st 5 (.t 2) (.t 84)), mi 3 4]) .ret) .skip))) (.seq (.reg [vl 85 5 5, vu (.st 5 (.t 2) (.t 85)), mi 3 0]) .ret))))))))), [.cell 2 true 5, .t 3]⟩
theorem low5 : lowF Tryd.prog 5 = some F5.strip := by kernel_rfl
theorem fok5 : fOk Tryd.prog 5 = true := by kernel_rfl
theorem console_Read_ok (hvar2 : VarI G 2) (hvar3 : VarE G 3) (hvar4 : VarE G 4) (htab_strconv_uint64pow10 : constG G 7 = .one (.d (.k tab_strconv_uint64pow10D))) (p0 : ByteArray) (r : Command × Int) (h : console_Read p0 = some r) : FnRO Tryd.prog G 5 [.one (.d (.s p0))] (fun rs => rs = [.agg (r.1.encO), .one (.i .i64 r.2)]) := by
 refine FnRO.of' low5 fok5 (by simp [F5]) ?_
 rw [console_Read] at h
 replace h := Hd.mk h
 simp only [F5, go_sem]
 refine oi h (fun hb1 h => ?_) (fun hb1 h => ?_)
 cases h.e
 simp only [*, go_sem, mA, mS]
 try simp only [*, go_sem]
 refine cr h (split10_ok G hvar2 p0 bs_7215ee9c) (fun v2 h => ?_)
 try simp only [*, go_sem]
 refine ct h 2 [.z 1] [1] [] (console_taker_next_ok G (ConsoleTaker.mk v2 false)) (fun v3 h => ?_)
 try simp only [*, go_sem]
 refine jn1 h (fun b4_1 => [zP 2 0, zP 4 1, zP 5 2]) (fun b4_1 => [ox [zi 0, zi 0, zi 0, zi 0, .d (.b false)], ox v3.1.bx, ox [.d (.i .i64 ((b4_1 : Nat) : Int)), zi 0, zi 0, zi 0, .d (.b false)]]) (fun k5 h => ?_) (fun b4_1 h => ?_)
 refine oi h (fun hb6 h => ?_) (fun hb6 h => ?_)
 try simp only [*, go_sem]
 exact jc (1) h.e [some 0, some 2, some 3]
 try simp only [*, go_sem]
 refine jn1 h (fun b7_1 => [zP 2 0, zP 4 1, zP 5 2]) (fun b7_1 => [ox [zi 0, zi 0, zi 0, zi 0, .d (.b false)], ox v3.1.bx, ox [.d (.i .i64 ((b7_1 : Nat) : Int)), zi 0, zi 0, zi 0, .d (.b false)]]) (fun k8 h => ?_) (fun b7_1 h => ?_)
 refine oi h (fun hb9 h => ?_) (fun hb9 h => ?_)
 try simp only [*, go_sem]
 exact jc (4) h.e [some 0, some 2, some 3]
 try simp only [*, go_sem]
 refine jn1 h (fun b10_1 => [zP 2 0, zP 4 1, zP 5 2]) (fun b10_1 => [ox [zi 0, zi 0, zi 0, zi 0, .d (.b false)], ox v3.1.bx, ox [.d (.i .i64 ((b10_1 : Nat) : Int)), zi 0, zi 0, zi 0, .d (.b false)]]) (fun k11 h => ?_) (fun b10_1 h => ?_)
 refine oi h (fun hb12 h => ?_) (fun hb12 h => ?_)
 try simp only [*, go_sem]
 exact jc (2) h.e [some 0, some 2, some 3]
 refine oi h (fun hb13 h => ?_) (fun hb13 h => ?_)
 try simp only [*, go_sem]
 exact jc (3) h.e [some 0, some 2, some 3]
 cases h.e
 simp only [*, go_sem, mA, mS]
 try simp only [*, go_sem]
 exact jc (b10_1) h.e [some 0, some 1, some 2]
 try simp only [*, go_sem]
 exact jc (b7_1) h.e [some 0, some 1, some 2]
 try simp only [*, go_sem]
 refine jn5 h (fun b14_1 b14_2 b14_3 b14_4 b14_5 => [zP 2 0, zP 4 1, zP 5 2]) (fun b14_1 b14_2 b14_3 b14_4 b14_5 => [ox [zi 0, zi 0, zi 0, zi 0, .d (.b false)], ox [.d (.l 1 (b14_1.map encS)), .d (.b b14_2)], ox [.d (.i .i64 ((b4_1 : Nat) : Int)), zi b14_3, zi b14_4, zi b14_5, .d (.b false)]]) (fun k15 h => ?_) (fun b14_1 b14_2 b14_3 b14_4 b14_5 h => ?_)
 refine oi h (fun hb16 h => ?_) (fun hb16 h => ?_)
 try simp only [*, go_sem]
 refine ct h 1 [] [1] [] (console_taker_number_ok G hvar3 hvar4 htab_strconv_uint64pow10 v3.1 5) (fun v17 h => ?_)
 try simp only [*, go_sem]
 refine ct h 1 [] [1] [] (console_taker_number_ok G hvar3 hvar4 htab_strconv_uint64pow10 v17.1 3) (fun v18 h => ?_)
 try simp only [*, go_sem]
 refine ct h 1 [] [1] [] (console_taker_number_ok G hvar3 hvar4 htab_strconv_uint64pow10 v18.1 1048576) (fun v19 h => ?_)
 try simp only [*, go_sem]
 exact jc (v19.1.l, v19.1.bad, v17.2, v18.2, v19.2) h.e [some 0, some 1, some 2]
 refine oi h (fun hb20 h => ?_) (fun hb20 h => ?_)
 try simp only [*, go_sem]
 refine ct h 1 [] [1] [] (console_taker_number_ok G hvar3 hvar4 htab_strconv_uint64pow10 v3.1 5) (fun v21 h => ?_)
 try simp only [*, go_sem]
 refine ct h 1 [] [1] [] (console_taker_number_ok G hvar3 hvar4 htab_strconv_uint64pow10 v21.1 3) (fun v22 h => ?_)
 try simp only [*, go_sem]
 refine ct h 1 [] [1] [] (console_taker_number_ok G hvar3 hvar4 htab_strconv_uint64pow10 v22.1 1048576) (fun v23 h => ?_)
 try simp only [*, go_sem]
 exact jc (v23.1.l, v23.1.bad, v21.2, v22.2, v23.2) h.e [some 0, some 1, some 2]
 try simp only [*, go_sem]
 exact jc (v3.1.l, v3.1.bad, 0, 0, 0) h.e [some 0, some 1, some 2]
 try simp only [*, go_sem]
 refine jn3 h (fun b24_1 b24_2 b24_3 => [zP 2 0, zP 4 1, zP 5 2]) (fun b24_1 b24_2 b24_3 => [ox [zi 0, zi 0, zi 0, zi 0, .d (.b false)], ox [.d (.l 1 (b24_1.map encS)), .d (.b b24_2)], ox [.d (.i .i64 ((b4_1 : Nat) : Int)), zi b14_3, zi b14_4, zi b14_5, .d (.b b24_3)]]) (fun k25 h => ?_) (fun b24_1 b24_2 b24_3 h => ?_)
 refine oi h (fun hb26 h => ?_) (fun hb26 h => ?_)
 try simp only [*, go_sem]
 refine ct h 1 [] [1] [] (console_taker_next_ok G (ConsoleTaker.mk b14_1 b14_2)) (fun v27 h => ?_)
 refine oi h (fun hb28 h => ?_) (fun hb28 h => ?_)
 try simp only [*, go_sem]
 exact jc (v27.1.l, true, v27.2.toList == bs_fffca4d6.toList) h.e [some 0, some 1, some 2]
 refine oin h (fun hb29 hkhb29 h => ?_) (fun hb29 hkhb29 h => ?_)
 try simp only [*, go_sem]
 exact jc (v27.1.l, !(v27.2.toList == bs_5bb94a1c.toList), false) h.e [some 0, some 1, some 2]
 try simp only [*, go_sem]
 exact jc (v27.1.l, false, true) h.e [some 0, some 1, some 2]
 try simp only [*, go_sem]
 exact jc (b14_1, b14_2, false) h.e [some 0, some 1, some 2]
 try simp only [*, go_sem]
 refine jn0 h ([zP 2 0, zP 5 1]) ([ox [zi 0, zi 0, zi 0, zi 0, .d (.b false)], ox [.d (.i .i64 ((b4_1 : Nat) : Int)), zi b14_3, zi b14_4, zi b14_5, .d (.b b24_3)]]) (fun k31 h => ?_) (fun h => ?_)
 refine oi h (fun hb32 h => ?_) (fun hb32 h => ?_)
 cases h.e
 simp only [*, go_sem, mA, mS]
 try simp only [*, go_sem]
 intro hl33
 refine oi h (fun hb34 h => ?_) (fun hb34 h => ?_)
 cases h.e
 simp only [*, go_sem, mA, mS]
 try simp only [*, go_sem]
 exact jc () h.e [some 0, some 2]
 cases h.e
 simp only [*, go_sem, mA, mS]
def reredosref_partsOf_L1 (p0 : ByteArray) (k2 : (List ByteArray) → Option ((List ByteArray))) : Nat → Int → Int → (List ByteArray) → Option ((List ByteArray))
 | 0, _, _, _ => none
 | n4 + 1, a3_1, a3_2, a3_3 => (if (decide (a3_2 ≤ ((p0.size : Nat) : Int))) = true then (if (a3_2 == ((p0.size : Nat) : Int)) = true then (withK (reredosref_partsOf_L1 p0 k2 n4 (IntKind.i64.wrap (a3_2 + 1)) (IntKind.i64.wrap (a3_2 + 1)) (a3_3 ++ [(p0.extract a3_1.toNat a3_2.toNat)])) fun k8 => (if 0 ≤ a3_1 ∧ a3_1 ≤ a3_2 ∧ a3_2 ≤ ((p0.size : Nat) : Int) then (if fits 16 (a3_3.length + 1) then k8 else none) else none)) else (if 0 ≤ a3_2 ∧ a3_2 < ((p0.size : Nat) : Int) then (withK (fun (b12_1 : Int) (b12_2 : Bool) (b12_3 : List ByteArray) => (reredosref_partsOf_L1 p0 k2 n4 b12_1 (IntKind.i64.wrap (a3_2 + 1)) b12_3)) fun k13 => (if ((((p0.data.toList.getD a3_2.toNat 0).toNat : Nat) : Int) == 32) = true then (if 0 ≤ a3_1 ∧ a3_1 ≤ a3_2 ∧ a3_2 ≤ ((p0.size : Nat) : Int) then (if fits 16 (a3_3.length + 1) then (k13 (IntKind.i64.wrap (a3_2 + 1)) true (a3_3 ++ [(p0.extract a3_1.toNat a3_2.toNat)])) else none) else none) else (k13 a3_1 false a3_3))) else none)) else (k2 a3_3))
def reredosref_partsOf (p0 : ByteArray) : Option ((List ByteArray)) := (withK (fun (b1_1 : List ByteArray) => (some b1_1)) fun k2 => (reredosref_partsOf_L1 p0 k2 (p0.size + 2) 0 0 []))
def F13 : VFn := ⟨32, (.seq (.reg [vo 2 (.mv (.c (.one (.nl 1))))]) (.seq (.reg [vo 3 (.mv (.c (.one (.nl 1))))]) (.seq (.reg [mi 4 0]) (.seq (.seq (.reg [mi 5 0]) (.wk (.block 0 (.loop (.seq (.seq (.reg [vm 6 5, vm 7 0, vo 8 (.lens (.t 7)), bt 9 .leq 6 8]) (.cond (.t 9) .skip (.exit 0))) (.seq (.block 1 (.seq (.reg [vm 12 5, vm 13 0, vo 14 (.lens (.t 13)), bt 15 .eql 12 14, vm 16 15, gf 17 16 (.mv (.t 0)), gf 18 16 (.mv (.t 5)), gf 19 16 (.ix (.t 17) (.t 18)), gf 20 16 (.bin .i .eql (.t 19) (.c (.one (.d (.i .u8 32))))), vo 21 (.pick (.t 16) (cb true) (.t 20))]) (.wk (.cond (.t 21) (.seq (.reg [vm 22 3, vm 23 0, vm 24 4, vm 25 5, vo 26 (.sls (.t 23) (some (.t 24)) (some (.t 25))), vo 27 (.bsl 1 1 [(.d (.s ⟨#[]⟩))] [(0, (.t 26))]), vo 28 (.app 1 16 (.t 22) (.t 27)), vm 3 28]) (.reg [vm 29 5, bk 30 .add 29 1, vm 4 30])) .skip)))) (.reg [vm 10 5, bk 11 .add 10 1, vm 5 11]))))))) (.seq (.reg [vm 31 3, vm 2 31]) .ret))))), [.t 2]⟩
theorem low13 : lowF Tryd.prog 13 = some F13.strip := by kernel_rfl
theorem fok13 : fOk Tryd.prog 13 = true := by kernel_rfl
theorem reredosref_partsOf_ok (p0 : ByteArray) (r : (List ByteArray)) (h : reredosref_partsOf p0 = some r) : FnRO Tryd.prog G 13 [.one (.d (.s p0))] (fun rs => rs = [.one (.o 1 (r.map encS))]) := by
 refine FnRO.of' low13 fok13 (by simp [F13]) ?_
 rw [reredosref_partsOf] at h
 replace h := Hd.mk h
 simp only [F13, go_sem]
 try simp only [*, go_sem]
 refine jn1 h (fun b1_1 => [zR 3 0 0 b1_1.length]) (fun b1_1 => [oa 1 (b1_1.map encS)]) (fun k2 h => ?_) (fun b1_1 h => ?_)
 try simp only [*, go_sem]
 refine lp3 (reredosref_partsOf_L1 p0 k2) (fun a3_1 a3_2 a3_3 => [(0, .one (.d (.s p0))), zR 3 0 0 a3_3.length, zI 4 a3_1, zI 5 a3_2]) (fun a3_1 a3_2 a3_3 => [oa 1 (a3_3.map encS)]) h [] [none] (fun n4 a3_1 a3_2 a3_3 h => ?_) (by intros; rw [reredosref_partsOf_L1])
 rw [reredosref_partsOf_L1] at h
 refine oi h (fun hb5 h => ?_) (fun hb5 h => ?_)
 refine oi h (fun hb6 h => ?_) (fun hb6 h => ?_)
 try simp only [*, go_sem]
 refine jn0 h ([(0, .one (.d (.s p0))), zR 3 0 0 (a3_3.length + 1), zI 4 (IntKind.i64.wrap (a3_2 + 1)), zI 5 a3_2]) ([oa 1 ((a3_3 ++ [(p0.extract a3_1.toNat a3_2.toNat)]).map encS)]) (fun k8 h => ?_) (fun h => ?_)
 refine ck h (fun _ h => ?_)
 refine ck h (fun _ h => ?_)
 try simp only [*, go_sem]
 exact jc () h.e [some 2]
 try simp only [*, go_sem]
 exact lc (IntKind.i64.wrap (a3_2 + 1), IntKind.i64.wrap (a3_2 + 1), (a3_3 ++ [(p0.extract a3_1.toNat a3_2.toNat)])) h.e [some 0]
 refine ck h (fun _ h => ?_)
 try simp only [*, go_sem]
 refine jn3 h (fun b12_1 b12_2 b12_3 => [(0, .one (.d (.s p0))), zR 3 0 0 b12_3.length, zI 4 b12_1, zI 5 a3_2, (17, .one (.d (.s p0))), zI 18 a3_2, (19, .one (.d (.i .u8 (((p0.data.toList.getD a3_2.toNat 0).toNat : Nat) : Int)))), zB 20 b12_2]) (fun b12_1 b12_2 b12_3 => [oa 1 (b12_3.map encS)]) (fun k13 h => ?_) (fun b12_1 b12_2 b12_3 h => ?_)
 refine oi h (fun hb14 h => ?_) (fun hb14 h => ?_)
 refine ck h (fun _ h => ?_)
 refine ck h (fun _ h => ?_)
 try simp only [*, go_sem]
 exact jc (IntKind.i64.wrap (a3_2 + 1), true, (a3_3 ++ [(p0.extract a3_1.toNat a3_2.toNat)])) h.e [some 2]
 try simp only [*, go_sem]
 exact jc (a3_1, false, a3_3) h.e [some 0]
 try simp only [*, go_sem]
 exact lc (b12_1, IntKind.i64.wrap (a3_2 + 1), b12_3) h.e [some 0]
 try simp only [*, go_sem]
 exact jc (a3_3) h.e [some 0]
 cases h.e
 simp only [*, go_sem, mA, mS]
def reredosref_Dec_R : Nat → Int → Option (ByteArray)
 | 0, _ => none
 | fu + 1, p0 => (if (decide (p0 < 0)) = true then (withK (fun (b2_1 : ByteArray) => (if bs_336d5ebc.size + b2_1.size ≤ maxLen then (some (bs_336d5ebc ++ b2_1)) else none)) fun k3 => (Option.bind (reredosref_Dec_R fu (IntKind.i64.wrap (0 - p0))) fun v4 => (k3 v4))) else (if (decide (p0 < 10)) = true then (some (strOfNums [IntKind.u8.wrap (IntKind.i64.wrap (48 + p0))])) else (Option.bind (reredosref_Dec_R fu (IntKind.i64.wrap (p0.tdiv 10))) fun v7 => (if v7.size + (strOfNums [IntKind.u8.wrap (IntKind.i64.wrap (48 + p0.tmod 10))]).size ≤ maxLen then (some (v7 ++ (strOfNums [IntKind.u8.wrap (IntKind.i64.wrap (48 + p0.tmod 10))]))) else none))))
def reredosref_Dec (p0 : Int) : Option (ByteArray) := reredosref_Dec_R 24 p0
def F26 : VFn := ⟨26, (.seq (.reg [vo 2 (.mv (.c (.one (.d (.s ⟨#[]⟩)))))]) (.seq (.seq (.reg [vm 3 0, bk 4 .lss 3 0]) (.cond (.t 4) (.seq (.regs [[vm 5 0, vo 6 (.un .neg (.t 5)), vo 7 (.call 26 [(.t 6)])], [vo 8 (.bin .s .add (.c (.one (.d (.s bs_336d5ebc)))) (.t 7)), vm 2 8]]) .ret) .skip)) (.seq (.seq (.reg [vm 9 0, bk 10 .lss 9 10]) (.cond (.t 10) (.seq (.reg [vm 11 0, vo 12 (.bin .i .add (ci 48) (.t 11)), vo 13 (.cvi .u8 (.t 12)), vo 14 (.bsl 1 1 [(.d (.i .u8 0))] [(0, (.t 13))]), vo 15 (.b2s (.t 14)), vm 2 15]) .ret) .skip)) (.seq (.draw [vd (vm 16 0) 0, vd (bk 17 .quo 16 10) 1, vd (vo 18 (.call 26 [(.t 17)])) 3, ⟨vm 19 0, 0, [2], none, []⟩, ⟨bk 20 .rem 19 10, 8, [2], none, []⟩, ⟨vo 21 (.bin .i .add (ci 48) (.t 20)), 24, [2], none, []⟩, ⟨vo 22 (.cvi .u8 (.t 21)), 56, [2], none, []⟩, ⟨vo 23 (.bsl 1 1 [(.d (.i .u8 0))] [(0, (.t 22))]), 120, [2], none, []⟩, ⟨vo 24 (.b2s (.t 23)), 248, [2], none, []⟩, vd (vo 25 (.bin .s .add (.t 18) (.t 24))) 511, vd (vm 2 25) 1023]) .ret)))), [.t 2]⟩
theorem low26 : lowF Tryd.prog 26 = some F26.strip := by kernel_rfl
theorem fok26 : fOk Tryd.prog 26 = true := by kernel_rfl
theorem reredosref_Dec_R_ok (fu : Nat) (p0 : Int) (r : ByteArray) (h : reredosref_Dec_R fu p0 = some r) : FnRO Tryd.prog G 26 [.one (.d (.i .i64 p0))] (fun rs => rs = [.one (.s r)]) := by
 induction fu generalizing p0 r with
 | zero => cases h
 | succ fu ih0 =>
  have ih := fun (_ : Nat → Option (List D)) => ih0
  refine FnRO.of' low26 fok26 (by simp [F26]) ?_
  rw [reredosref_Dec_R] at h
  replace h := Hd.mk h
  clear ih0
  simp only [F26, go_sem]
  refine oi h (fun hb1 h => ?_) (fun hb1 h => ?_)
  have := of_decide_eq_true hb1
  try simp only [*, go_sem]
  refine rg1 h (fun b2_1 => [(7, .one (.d (.s b2_1)))]) (fun b2_1 => []) (fun k3 h => ?_) (fun b2_1 h => ?_)
  try simp only [*, go_sem]
  refine cr h (ih G (IntKind.i64.wrap (0 - p0))) (fun v4 h => ?_)
  try simp only [*, go_sem]
  exact jc (v4) h.e []
  refine ck h (fun _ h => ?_)
  cases h.e
  simp only [*, go_sem, mA, mS]
  refine oi h (fun hb6 h => ?_) (fun hb6 h => ?_)
  have := of_decide_eq_true hb6
  cases h.e
  simp only [*, go_sem, mA, mS]
  refine obk h (fun v7 hv7 h => ?_)
  try simp only [*, go_sem]
  refine cd (ih G (IntKind.i64.wrap (p0.tdiv 10)) v7 hv7) ?_
  refine ck h (fun _ h => ?_)
  cases h.e
  simp only [*, go_sem, mA, mS]
theorem reredosref_Dec_ok (p0 : Int) (r : ByteArray) (h : reredosref_Dec p0 = some r) : FnRO Tryd.prog G 26 [.one (.d (.i .i64 p0))] (fun rs => rs = [.one (.s r)]) := reredosref_Dec_R_ok G 24 p0 r h
def reredosref_plain_L1 (p0 : ByteArray) (p1 : Int) (k2 : Int → Option (Int × Bool)) : Nat → Int → Int → Option (Int × Bool)
 | 0, _, _ => none
 | n4 + 1, a3_1, a3_2 => (if (decide (a3_2 < ((p0.size : Nat) : Int))) = true then (if 0 ≤ a3_2 ∧ a3_2 < ((p0.size : Nat) : Int) then (if (decide ((((p0.data.toList.getD a3_2.toNat 0).toNat : Nat) : Int) < 48)) = true then (some (0, false)) else (if 0 ≤ a3_2 ∧ a3_2 < ((p0.size : Nat) : Int) then (if (decide ((((p0.data.toList.getD a3_2.toNat 0).toNat : Nat) : Int) > 57)) = true then (some (0, false)) else (if (decide (a3_1 > p1)) = true then (some (0, false)) else (if 0 ≤ a3_2 ∧ a3_2 < ((p0.size : Nat) : Int) then (reredosref_plain_L1 p0 p1 k2 n4 (IntKind.i64.wrap (IntKind.i64.wrap (10 * a3_1) + IntKind.i64.wrap (IntKind.u8.wrap ((((p0.data.toList.getD a3_2.toNat 0).toNat : Nat) : Int) - 48)))) (IntKind.i64.wrap (a3_2 + 1))) else none))) else none)) else none) else (k2 a3_1))
def reredosref_plain (p0 : ByteArray) (p1 : Int) : Option (Int × Bool) := (withK (fun (b1_1 : Int) => (if (decide (b1_1 > p1)) = true then (some (0, false)) else (Option.bind (reredosref_Dec b1_1) fun v13 => (if (!(v13.toList == p0.toList)) = true then (some (0, false)) else (some (b1_1, true)))))) fun k2 => (reredosref_plain_L1 p0 p1 k2 (p0.size + 1) 0 0))
def F14 : VFn := ⟨47, (.seq (.reg [mi 4 0, vo 5 (.mv (cb false))]) (.seq (.reg [mi 6 0]) (.seq (.seq (.reg [mi 7 0]) (.wk (.block 0 (.loop (.seq (.seq (.reg [vm 8 7, vm 9 0, vo 10 (.lens (.t 9)), bt 11 .lss 8 10]) (.cond (.t 11) .skip (.exit 0))) (.seq (.block 1 (.seq (.seq (.reg [vm 14 0, vm 15 7, vo 16 (.ix (.t 14) (.t 15)), vo 17 (.bin .i .lss (.t 16) (.c (.one (.d (.i .u8 48))))), vm 18 17, gf 19 18 (.mv (.t 0)), gf 20 18 (.mv (.t 7)), gf 21 18 (.ix (.t 19) (.t 20)), gf 22 18 (.bin .i .gtr (.t 21) (.c (.one (.d (.i .u8 57))))), vo 23 (.pick (.t 18) (cb true) (.t 22)), vm 24 23, gf 25 24 (.mv (.t 6)), gf 26 24 (.mv (.t 1)), gf 27 24 (.bin .i .gtr (.t 25) (.t 26)), vo 28 (.pick (.t 24) (cb true) (.t 27))]) (.cond (.t 28) (.seq (.reg [mi 4 0, vo 5 (.mv (cb false))]) .ret) .skip)) (.reg [vm 29 6, vo 30 (.bin .i .mul (ci 10) (.t 29)), vm 31 0, vm 32 7, vo 33 (.ix (.t 31) (.t 32)), vo 34 (.bin .i .sub (.t 33) (.c (.one (.d (.i .u8 48))))), vo 35 (.cvi .i64 (.t 34)), bt 36 .add 30 35, vm 6 36]))) (.reg [vm 12 7, bk 13 .add 12 1, vm 7 13]))))))) (.seq (.seq (.reg [vm 37 6, vm 38 1, bt 39 .gtr 37 38, vm 40 39, gf 41 40 (.mv (.t 6)), gf 42 40 (.call 26 [(.t 41)]), gf 43 40 (.mv (.t 0)), gf 44 40 (.bin .s .neq (.t 42) (.t 43)), vo 45 (.pick (.t 40) (cb true) (.t 44))]) (.cond (.t 45) (.seq (.reg [mi 4 0, vo 5 (.mv (cb false))]) .ret) .skip)) (.seq (.reg [vm 46 6, vm 4 46, vo 5 (.mv (cb true))]) .ret))))), [.t 4, .t 5]⟩
theorem low14 : lowF Tryd.prog 14 = some F14.strip := by kernel_rfl
theorem fok14 : fOk Tryd.prog 14 = true := by kernel_rfl
theorem reredosref_plain_ok (p0 : ByteArray) (p1 : Int) (r : Int × Bool) (h : reredosref_plain p0 p1 = some r) : FnRO Tryd.prog G 14 [.one (.d (.s p0)), .one (.d (.i .i64 p1))] (fun rs => rs = [.one (.i .i64 r.1), .one (.b r.2)]) := by
 refine FnRO.of' low14 fok14 (by simp [F14]) ?_
 rw [reredosref_plain] at h
 replace h := Hd.mk h
 simp only [F14, go_sem]
 try simp only [*, go_sem]
 refine jn1 h (fun b1_1 => [(0, .one (.d (.s p0))), zI 1 p1, zI 6 b1_1]) (fun b1_1 => []) (fun k2 h => ?_) (fun b1_1 h => ?_)
 try simp only [*, go_sem]
 refine lp2 (reredosref_plain_L1 p0 p1 k2) (fun a3_1 a3_2 => [(0, .one (.d (.s p0))), zI 1 p1, zI 6 a3_1, zI 7 a3_2]) (fun a3_1 a3_2 => []) h [] [] (fun n4 a3_1 a3_2 h => ?_) (by intros; rw [reredosref_plain_L1])
 rw [reredosref_plain_L1] at h
 refine oi h (fun hb5 h => ?_) (fun hb5 h => ?_)
 refine ck h (fun _ h => ?_)
 refine oi h (fun hb7 h => ?_) (fun hb7 h => ?_)
 cases h.e
 simp only [*, go_sem, mA, mS]
 refine ck h (fun _ h => ?_)
 refine oi h (fun hb9 h => ?_) (fun hb9 h => ?_)
 cases h.e
 simp only [*, go_sem, mA, mS]
 refine oi h (fun hb10 h => ?_) (fun hb10 h => ?_)
 cases h.e
 simp only [*, go_sem, mA, mS]
 refine ck h (fun _ h => ?_)
 try simp only [*, go_sem]
 exact lc (IntKind.i64.wrap (IntKind.i64.wrap (10 * a3_1) + IntKind.i64.wrap (IntKind.u8.wrap ((((p0.data.toList.getD a3_2.toNat 0).toNat : Nat) : Int) - 48))), IntKind.i64.wrap (a3_2 + 1)) h.e []
 try simp only [*, go_sem]
 exact jc (a3_1) h.e []
 refine oi h (fun hb12 h => ?_) (fun hb12 h => ?_)
 cases h.e
 simp only [*, go_sem, mA, mS]
 try simp only [*, go_sem]
 refine cr h (reredosref_Dec_ok G b1_1) (fun v13 h => ?_)
 refine oin h (fun hb14 hkhb14 h => ?_) (fun hb14 hkhb14 h => ?_)
 cases h.e
 simp only [*, go_sem, mA, mS]
 cases h.e
 simp only [*, go_sem, mA, mS]
def reredosref_CommandOf (p0 : ByteArray) : Option (Command × Int) := (if (decide (((p0.size : Nat) : Int) > 60)) = true then (some ((Command.mk 0 0 (Txn.mk 0 0) false), 1)) else (Option.bind (reredosref_partsOf p0) fun v2 => (withK (withK (withK (fun (b17_1 : Nat) (b17_2 : Bool) => (Option.bind (v2[1]?) fun x45 => (Option.bind (reredosref_plain x45 5) fun v47 => (Option.bind (v2[2]?) fun x48 => (Option.bind (reredosref_plain x48 3) fun v50 => (Option.bind (v2[3]?) fun x51 => (Option.bind (reredosref_plain x51 1048576) fun v53 => (withK (some ((Command.mk ((b17_1 : Nat) : Int) v47.1 (Txn.mk v50.1 v53.1) b17_2), 0)) fun k55 => (if (!v47.2) = true then (some ((Command.mk 0 0 (Txn.mk 0 0) false), 4)) else (if (!v50.2) = true then (some ((Command.mk 0 0 (Txn.mk 0 0) false), 4)) else (if (!v53.2) = true then (some ((Command.mk 0 0 (Txn.mk 0 0) false), 4)) else k55))))))))))) fun k18 => (if (((v2.length : Nat) : Int) == 5) = true then (Option.bind (v2[0]?) fun x21 => (if (x21.toList == bs_ae254d63.toList) = true then (Option.bind (v2[4]?) fun x24 => (if (x24.toList == bs_fffca4d6.toList) = true then (k18 3 true) else (if (x24.toList == bs_5bb94a1c.toList) = true then (k18 3 false) else (withK (k18 2 false) fun k29 => (if (((v2.length : Nat) : Int) != 4) = true then (some ((Command.mk 0 0 (Txn.mk 0 0) false), 4)) else (if (!(x21.toList == bs_9acb4454.toList)) = true then (some ((Command.mk 0 0 (Txn.mk 0 0) false), 4)) else k29)))))) else (withK (k18 2 false) fun k34 => (if (((v2.length : Nat) : Int) != 4) = true then (some ((Command.mk 0 0 (Txn.mk 0 0) false), 4)) else (if (!(x21.toList == bs_9acb4454.toList)) = true then (some ((Command.mk 0 0 (Txn.mk 0 0) false), 4)) else k34))))) else (withK (k18 2 false) fun k39 => (if (((v2.length : Nat) : Int) != 4) = true then (some ((Command.mk 0 0 (Txn.mk 0 0) false), 4)) else (Option.bind (v2[0]?) fun x42 => (if (!(x42.toList == bs_9acb4454.toList)) = true then (some ((Command.mk 0 0 (Txn.mk 0 0) false), 4)) else k39)))))) fun k11 => (if (((v2.length : Nat) : Int) == 1) = true then (Option.bind (v2[0]?) fun x14 => (if (x14.toList == bs_a5a63d9b.toList) = true then (some ((Command.mk 4 0 (Txn.mk 0 0) false), 0)) else k11)) else k11)) fun k4 => (if (((v2.length : Nat) : Int) == 1) = true then (Option.bind (v2[0]?) fun x7 => (if (x7.toList == bs_10ae9fc7.toList) = true then (some ((Command.mk 1 0 (Txn.mk 0 0) false), 0)) else k4)) else k4))))
def F6 : VFn := ⟨115, (.seq (.reg [vo 2 (.alloc [(zi 0), (zi 0), (zi 0), (zi 0), (.d (.b false))]), mi 3 0]) (.seq (.seq (.reg [vm 12 0, vo 13 (.lens (.t 12)), bk 14 .gtr 13 60]) (.cond (.t 14) (.seq (.reg [vo 15 (.build [(zi 0), (zi 0), (zi 0), (zi 0), (.d (.b false))] []), vu (.st 5 (.t 2) (.t 15)), mi 3 1]) .ret) .skip)) (.seq (.reg [vm 16 0, vo 17 (.call 13 [(.t 16)]), vm 4 17]) (.seq (.wk (.seq (.reg [vm 18 4, ln 19 18, bk 20 .eql 19 1, vm 21 20, gt 22 21 (.mv (.t 4)), gt 23 21 (.ia 1 (.t 22) (ci 0)), gt 24 21 (.ld false 1 (.t 23)), gt 25 21 (.bin .s .eql (.t 24) (.c (.one (.d (.s bs_10ae9fc7))))), vo 26 (.pick (.t 21) (.t 25) (cb false))]) (.cond (.t 26) (.seq (.reg [vo 27 (.build [(zi 0), (zi 0), (zi 0), (zi 0), (.d (.b false))] [(0, 1, (ci 1))]), vu (.st 5 (.t 2) (.t 27)), mi 3 0]) .ret) .skip))) (.seq (.wk (.seq (.reg [vm 28 4, ln 29 28, bk 30 .eql 29 1, vm 31 30, gt 32 31 (.mv (.t 4)), gt 33 31 (.ia 1 (.t 32) (ci 0)), gt 34 31 (.ld false 1 (.t 33)), gt 35 31 (.bin .s .eql (.t 34) (.c (.one (.d (.s bs_a5a63d9b))))), vo 36 (.pick (.t 31) (.t 35) (cb false))]) (.cond (.t 36) (.seq (.reg [vo 37 (.build [(zi 0), (zi 0), (zi 0), (zi 0), (.d (.b false))] [(0, 1, (ci 4))]), vu (.st 5 (.t 2) (.t 37)), mi 3 0]) .ret) .skip))) (.seq (.reg [vo 38 (.build [(zi 0), (zi 0), (zi 0), (zi 0), (.d (.b false))] [(0, 1, (ci 2))]), vo 5 (.alloc [(zi 0), (zi 0), (zi 0), (zi 0), (.d (.b false))]), vu (.st 5 (.t 5) (.t 38))]) (.seq (.wk (.seq (.reg [vm 39 4, ln 40 39, bk 41 .eql 40 5, vm 42 41, gt 43 42 (.mv (.t 4)), gt 44 42 (.ia 1 (.t 43) (ci 0)), gt 45 42 (.ld false 1 (.t 44)), gt 46 42 (.bin .s .eql (.t 45) (.c (.one (.d (.s bs_ae254d63))))), vo 47 (.pick (.t 42) (.t 46) (cb false)), vm 48 47, gt 49 48 (.mv (.t 4)), gt 50 48 (.ia 1 (.t 49) (ci 4)), gt 51 48 (.ld false 1 (.t 50)), gt 52 48 (.bin .s .eql (.t 51) (.c (.one (.d (.s bs_fffca4d6))))), gt 53 48 (.mv (.t 52)), gf 54 53 (.mv (.t 4)), gf 55 53 (.ia 1 (.t 54) (ci 4)), gf 56 53 (.ld false 1 (.t 55)), gf 57 53 (.bin .s .eql (.t 56) (.c (.one (.d (.s bs_5bb94a1c))))), gt 58 48 (.pick (.t 53) (cb true) (.t 57)), vo 59 (.pick (.t 48) (.t 58) (cb false))]) (.cond (.t 59) (.seq (.reg [vf 60 0 5, vu (.st 1 (.t 60) (ci 3))]) (.reg [vm 61 4, vo 62 (.ia 1 (.t 61) (ci 4)), vs 63 62, vo 64 (.bin .s .eql (.t 63) (.c (.one (.d (.s bs_fffca4d6))))), vf 65 4 5, vu (.st 1 (.t 65) (.t 64))])) (.wk (.seq (.reg [vm 66 4, ln 67 66, bk 68 .neq 67 4, vm 69 68, gf 70 69 (.mv (.t 4)), gf 71 69 (.ia 1 (.t 70) (ci 0)), gf 72 69 (.ld false 1 (.t 71)), gf 73 69 (.bin .s .neq (.t 72) (.c (.one (.d (.s bs_9acb4454))))), vo 74 (.pick (.t 69) (cb true) (.t 73))]) (.cond (.t 74) (.seq (.reg [vo 75 (.build [(zi 0), (zi 0), (zi 0), (zi 0), (.d (.b false))] []), vu (.st 5 (.t 2) (.t 75)), mi 3 4]) .ret) .skip)))))) (.seq (.reg [vm 77 4, vo 78 (.ia 1 (.t 77) (ci 1)), vs 79 78, vo 80 (.call 14 [(.t 79), (ci 5)]), vm 76 80, et 81 76 0, et 82 76 1, vm 6 81, vm 7 82]) (.seq (.reg [vm 84 4, vo 85 (.ia 1 (.t 84) (ci 2)), vs 86 85, vo 87 (.call 14 [(.t 86), (ci 3)]), vm 83 87, et 88 83 0, et 89 83 1, vm 8 88, vm 9 89]) (.seq (.reg [vm 91 4, vo 92 (.ia 1 (.t 91) (ci 3)), vs 93 92, vo 94 (.call 14 [(.t 93), (ci 1048576)]), vm 90 94, et 95 90 0, et 96 90 1, vm 10 95, vm 11 96]) (.seq (.wk (.seq (.reg [vm 97 7, nt 98 97, vm 99 98, gf 100 99 (.mv (.t 9)), gf 101 99 (.un .not (.t 100)), vo 102 (.pick (.t 99) (cb true) (.t 101)), vm 103 102, gf 104 103 (.mv (.t 11)), gf 105 103 (.un .not (.t 104)), vo 106 (.pick (.t 103) (cb true) (.t 105))]) (.cond (.t 106) (.seq (.reg [vo 107 (.build [(zi 0), (zi 0), (zi 0), (zi 0), (.d (.b false))] []), vu (.st 5 (.t 2) (.t 107)), mi 3 4]) .ret) .skip))) (.seq (.reg [vm 108 6, vf 109 1 5, vu (.st 1 (.t 109) (.t 108))]) (.seq (.reg [vm 110 8, vm 111 10, vo 112 (.build [(zi 0), (zi 0)] [(0, 1, (.t 110)), (1, 1, (.t 111))]), vf 113 2 5, vu (.st 2 (.t 113) (.t 112))]) (.seq (.reg [vl 114 5 5, vu (.st 5 (.t 2) (.t 114)), mi 3 0]) .ret)))))))))))))), [.cell 2 true 5, .t 3]⟩
theorem low6 : lowF Tryd.prog 6 = some F6.strip := by kernel_rfl
theorem fok6 : fOk Tryd.prog 6 = true := by kernel_rfl
theorem reredosref_CommandOf_ok (p0 : ByteArray) (r : Command × Int) (h : reredosref_CommandOf p0 = some r) : FnRO Tryd.prog G 6 [.one (.d (.s p0))] (fun rs => rs = [.agg (r.1.encO), .one (.i .i64 r.2)]) := by
 refine FnRO.of' low6 fok6 (by simp [F6]) ?_
 rw [reredosref_CommandOf] at h
 replace h := Hd.mk h
 simp only [F6, go_sem]
 refine oi h (fun hb1 h => ?_) (fun hb1 h => ?_)
 cases h.e
 simp only [*, go_sem, mA, mS]
 try simp only [*, go_sem]
 refine cr h (reredosref_partsOf_ok G p0) (fun v2 h => ?_)
 try simp only [*, go_sem]
 refine jn0 h ([zP 2 0, zR 4 1 0 v2.length]) ([ox [zi 0, zi 0, zi 0, zi 0, .d (.b false)], oa 1 (v2.map encS)]) (fun k4 h => ?_) (fun h => ?_)
 try simp only [*, go_sem]
 intro hl5
 refine oi h (fun hb6 h => ?_) (fun hb6 h => ?_)
 refine obg h (fun x7 _ _ h => ?_)
 have : (0 : Int) < ((v2.length : Nat) : Int) := by omega
 refine oi h (fun hb9 h => ?_) (fun hb9 h => ?_)
 cases h.e
 simp only [*, go_sem, mA, mS]
 try simp only [*, go_sem]
 exact jc () h.e [some 0, some 1]
 try simp only [*, go_sem]
 exact jc () h.e [some 0, some 1]
 try simp only [*, go_sem]
 refine jn0 h ([zP 2 0, zR 4 1 0 v2.length]) ([ox [zi 0, zi 0, zi 0, zi 0, .d (.b false)], oa 1 (v2.map encS)]) (fun k11 h => ?_) (fun h => ?_)
 try simp only [*, go_sem]
 intro hl12
 refine oi h (fun hb13 h => ?_) (fun hb13 h => ?_)
 refine obg h (fun x14 _ _ h => ?_)
 have : (0 : Int) < ((v2.length : Nat) : Int) := by omega
 refine oi h (fun hb16 h => ?_) (fun hb16 h => ?_)
 cases h.e
 simp only [*, go_sem, mA, mS]
 try simp only [*, go_sem]
 exact jc () h.e [some 0, some 1]
 try simp only [*, go_sem]
 exact jc () h.e [some 0, some 1]
 try simp only [*, go_sem]
 refine jn2 h (fun b17_1 b17_2 => [zP 2 0, zR 4 1 0 v2.length, zP 5 2]) (fun b17_1 b17_2 => [ox [zi 0, zi 0, zi 0, zi 0, .d (.b false)], oa 1 (v2.map encS), ox [.d (.i .i64 ((b17_1 : Nat) : Int)), zi 0, zi 0, zi 0, .d (.b b17_2)]]) (fun k18 h => ?_) (fun b17_1 b17_2 h => ?_)
 try simp only [*, go_sem]
 intro hl19
 refine oi h (fun hb20 h => ?_) (fun hb20 h => ?_)
 refine obg h (fun x21 _ _ h => ?_)
 have : (0 : Int) < ((v2.length : Nat) : Int) := by omega
 refine oi h (fun hb23 h => ?_) (fun hb23 h => ?_)
 refine obg h (fun x24 _ _ h => ?_)
 have : (4 : Int) < ((v2.length : Nat) : Int) := by omega
 refine oi h (fun hb26 h => ?_) (fun hb26 h => ?_)
 try simp only [*, go_sem]
 exact jc (3, true) h.e [some 0, some 1, some 2]
 refine oi h (fun hb27 h => ?_) (fun hb27 h => ?_)
 try simp only [*, go_sem]
 exact jc (3, false) h.e [some 0, some 1, some 2]
 try simp only [*, go_sem]
 refine jn0 h ([zP 2 0, zR 4 1 0 v2.length, zP 5 2]) ([ox [zi 0, zi 0, zi 0, zi 0, .d (.b false)], oa 1 (v2.map encS), ox [zi 2, zi 0, zi 0, zi 0, .d (.b false)]]) (fun k29 h => ?_) (fun h => ?_)
 try simp only [*, go_sem]
 intro hl30
 refine oi h (fun hb31 h => ?_) (fun hb31 h => ?_)
 cases h.e
 simp only [*, go_sem, mA, mS]
 refine oin h (fun hb32 hkhb32 h => ?_) (fun hb32 hkhb32 h => ?_)
 cases h.e
 simp only [*, go_sem, mA, mS]
 try simp only [*, go_sem]
 exact jc () h.e [some 0, some 1, some 2]
 try simp only [*, go_sem]
 exact jc (2, false) h.e [some 0, some 1, some 2]
 try simp only [*, go_sem]
 refine jn0 h ([zP 2 0, zR 4 1 0 v2.length, zP 5 2]) ([ox [zi 0, zi 0, zi 0, zi 0, .d (.b false)], oa 1 (v2.map encS), ox [zi 2, zi 0, zi 0, zi 0, .d (.b false)]]) (fun k34 h => ?_) (fun h => ?_)
 try simp only [*, go_sem]
 intro hl35
 refine oi h (fun hb36 h => ?_) (fun hb36 h => ?_)
 cases h.e
 simp only [*, go_sem, mA, mS]
 refine oin h (fun hb37 hkhb37 h => ?_) (fun hb37 hkhb37 h => ?_)
 cases h.e
 simp only [*, go_sem, mA, mS]
 try simp only [*, go_sem]
 exact jc () h.e [some 0, some 1, some 2]
 try simp only [*, go_sem]
 exact jc (2, false) h.e [some 0, some 1, some 2]
 try simp only [*, go_sem]
 refine jn0 h ([zP 2 0, zR 4 1 0 v2.length, zP 5 2]) ([ox [zi 0, zi 0, zi 0, zi 0, .d (.b false)], oa 1 (v2.map encS), ox [zi 2, zi 0, zi 0, zi 0, .d (.b false)]]) (fun k39 h => ?_) (fun h => ?_)
 try simp only [*, go_sem]
 intro hl40
 refine oi h (fun hb41 h => ?_) (fun hb41 h => ?_)
 cases h.e
 simp only [*, go_sem, mA, mS]
 refine obg h (fun x42 _ _ h => ?_)
 have : (0 : Int) < ((v2.length : Nat) : Int) := by omega
 refine oin h (fun hb44 hkhb44 h => ?_) (fun hb44 hkhb44 h => ?_)
 cases h.e
 simp only [*, go_sem, mA, mS]
 try simp only [*, go_sem]
 exact jc () h.e [some 0, some 1, some 2]
 try simp only [*, go_sem]
 exact jc (2, false) h.e [some 0, some 1, some 2]
 refine obg h (fun x45 _ _ h => ?_)
 have : (1 : Int) < ((v2.length : Nat) : Int) := by omega
 try simp only [*, go_sem]
 refine cr h (reredosref_plain_ok G x45 5) (fun v47 h => ?_)
 refine obg h (fun x48 _ _ h => ?_)
 have : (2 : Int) < ((v2.length : Nat) : Int) := by omega
 try simp only [*, go_sem]
 refine cr h (reredosref_plain_ok G x48 3) (fun v50 h => ?_)
 refine obg h (fun x51 _ _ h => ?_)
 have : (3 : Int) < ((v2.length : Nat) : Int) := by omega
 try simp only [*, go_sem]
 refine cr h (reredosref_plain_ok G x51 1048576) (fun v53 h => ?_)
 try simp only [*, go_sem]
 refine jn0 h ([zP 2 0, zP 5 1, zI 6 v47.1, zI 8 v50.1, zI 10 v53.1]) ([ox [zi 0, zi 0, zi 0, zi 0, .d (.b false)], ox [.d (.i .i64 ((b17_1 : Nat) : Int)), zi 0, zi 0, zi 0, .d (.b b17_2)]]) (fun k55 h => ?_) (fun h => ?_)
 refine oin h (fun hb56 hkhb56 h => ?_) (fun hb56 hkhb56 h => ?_)
 cases h.e
 simp only [*, go_sem, mA, mS]
 refine oin h (fun hb57 hkhb57 h => ?_) (fun hb57 hkhb57 h => ?_)
 cases h.e
 simp only [*, go_sem, mA, mS]
 refine oin h (fun hb58 hkhb58 h => ?_) (fun hb58 hkhb58 h => ?_)
 cases h.e
 simp only [*, go_sem, mA, mS]
 try simp only [*, go_sem]
 exact jc () h.e [some 0, some 2]
 cases h.e
 simp only [*, go_sem, mA, mS]
def reredoslaw_ConsoleReads (p0 : ByteArray) : Option (Bool) := (Option.bind (console_Read p0) fun v1 => (Option.bind (reredosref_CommandOf p0) fun v2 => (withK (fun (b3_1 : Bool) => (some b3_1)) fun k4 => (if ((v1.1.Kind == v2.1.Kind) && ((v1.1.Label == v2.1.Label) && ((v1.1.Txn.Site == v2.1.Txn.Site) && ((v1.1.Txn.N == v2.1.Txn.N) && (v1.1.Yes == v2.1.Yes))))) = true then (k4 (v1.2 == v2.2)) else (k4 false)))))
def F3 : VFn := ⟨25, (.seq (.reg [vo 2 (.mv (cb false))]) (.seq (.reg [vm 8 0, vo 9 (.call 5 [(.t 8)]), vm 7 9, et 10 7 0, et 11 7 1, vo 3 (.alloc [(zi 0), (zi 0), (zi 0), (zi 0), (.d (.b false))]), vu (.st 5 (.t 3) (.t 10)), vm 4 11]) (.seq (.reg [vm 13 0, vo 14 (.call 6 [(.t 13)]), vm 12 14, et 15 12 0, et 16 12 1, vo 5 (.alloc [(zi 0), (zi 0), (zi 0), (zi 0), (.d (.b false))]), vu (.st 5 (.t 5) (.t 15)), vm 6 16]) (.seq (.wk (.reg [vl 17 5 3, vl 18 5 5, vo 19 (.eqs false [.i, .i, .i, .i, .b] (.t 17) (.t 18)), vm 20 19, gt 21 20 (.mv (.t 4)), gt 22 20 (.mv (.t 6)), gt 23 20 (.bin .i .eql (.t 21) (.t 22)), vo 24 (.pick (.t 20) (.t 23) (cb false)), vm 2 24])) .ret)))), [.t 2]⟩
theorem low3 : lowF Tryd.prog 3 = some F3.strip := by kernel_rfl
theorem fok3 : fOk Tryd.prog 3 = true := by kernel_rfl
theorem reredoslaw_ConsoleReads_ok (hvar2 : VarI G 2) (hvar3 : VarE G 3) (hvar4 : VarE G 4) (htab_strconv_uint64pow10 : constG G 7 = .one (.d (.k tab_strconv_uint64pow10D))) (p0 : ByteArray) (r : Bool) (h : reredoslaw_ConsoleReads p0 = some r) : FnRO Tryd.prog G 3 [.one (.d (.s p0))] (fun rs => rs = [.one (.b r)]) := by
 refine FnRO.of' low3 fok3 (by simp [F3]) ?_
 rw [reredoslaw_ConsoleReads] at h
 replace h := Hd.mk h
 simp only [F3, go_sem]
 try simp only [*, go_sem]
 refine cr h (console_Read_ok G hvar2 hvar3 hvar4 htab_strconv_uint64pow10 p0) (fun v1 h => ?_)
 try simp only [*, go_sem]
 refine cr h (reredosref_CommandOf_ok G p0) (fun v2 h => ?_)
 try simp only [*, go_sem]
 refine jn1 h (fun b3_1 => [zB 2 b3_1]) (fun b3_1 => []) (fun k4 h => ?_) (fun b3_1 h => ?_)
 refine oi h (fun hb5 h => ?_) (fun hb5 h => ?_)
 try simp only [*, go_sem]
 try simp only [*, go_sem]
 exact jc (v1.2 == v2.2) h.e []
 try simp only [*, go_sem]
 try simp only [*, go_sem]
 exact jc (false) h.e []
 cases h.e
 simp only [*, go_sem, mA, mS]
end Go.V.Dec
