/- What Go's functions come to, as plain functions: part 1; no condition. -/
import Derived.Test.YtjpkfnblnimdoaaDoorRows
import Derived.Test.YtjpkfnblnimdoaaDoorVY
import Derived.Test.YtjpkfnblnimdoaaDoorVS
set_option linter.unusedVariables false
set_option linter.unusedSimpArgs false
namespace Go.V.Dec
open Go Go.Proofs
set_option maxRecDepth 100000
set_option maxHeartbeats 4000000
variable (G : Nat → Option (List D))
structure Utf8AcceptRange where
  lo : Int
  hi : Int
  deriving Inhabited
def Utf8AcceptRange.enc (x : Utf8AcceptRange) : List D := [.i .u8 x.lo, .i .u8 x.hi]
def Utf8AcceptRange.encO (x : Utf8AcceptRange) : List D := [.i .u8 x.lo, .i .u8 x.hi]
structure Label where
  Level : Int
  Cats : Int
  deriving Inhabited
def Label.enc (x : Label) : List D := [.i .i64 x.Level, .i .i64 x.Cats]
def Label.encO (x : Label) : List D := [.i .i64 x.Level, .i .i64 x.Cats]
structure Config where
  Sites : Int
  Labels : List Label
  Patience : Int
  deriving Inhabited
def Config.enc (x : Config) : List D := [.i .i64 x.Sites, .l 2 (x.Labels.map Label.enc), .i .i64 x.Patience]
def Config.encO (x : Config) : List D := [.i .i64 x.Sites, .o 2 (x.Labels.map Label.enc), .i .i64 x.Patience]
structure LinesTaker where
  l : List ByteArray
  bad : Bool
  deriving Inhabited
def LinesTaker.enc (x : LinesTaker) : List D := [.l 1 (x.l.map encS), .b x.bad]
def LinesTaker.encO (x : LinesTaker) : List D := [.o 1 (x.l.map encS), .b x.bad]
structure Call where
  Kind : Int
  N : Int
  Label : Int
  Key : Int
  Value : Int
  deriving Inhabited
def Call.enc (x : Call) : List D := [.i .i64 x.Kind, .i .i64 x.N, .i .i64 x.Label, .i .i64 x.Key, .i .i64 x.Value]
def Call.encO (x : Call) : List D := [.i .i64 x.Kind, .i .i64 x.N, .i .i64 x.Label, .i .i64 x.Key, .i .i64 x.Value]
structure Act where
  Kind : Int
  Site : Int
  To : Int
  Label : Int
  Pick : Int
  Keep : List Int
  Call : Call
  Line : ByteArray
  deriving Inhabited
def Act.enc (x : Act) : List D := [.i .i64 x.Kind, .i .i64 x.Site, .i .i64 x.To, .i .i64 x.Label, .i .i64 x.Pick, .l 1 (x.Keep.map encI), .i .i64 x.Call.Kind, .i .i64 x.Call.N, .i .i64 x.Call.Label, .i .i64 x.Call.Key, .i .i64 x.Call.Value, .s x.Line]
def Act.encO (x : Act) : List D := [.i .i64 x.Kind, .i .i64 x.Site, .i .i64 x.To, .i .i64 x.Label, .i .i64 x.Pick, .o 1 (x.Keep.map encI), .i .i64 x.Call.Kind, .i .i64 x.Call.N, .i .i64 x.Call.Label, .i .i64 x.Call.Key, .i .i64 x.Call.Value, .s x.Line]
def Utf8AcceptRange.bx (x : Utf8AcceptRange) : List SC := [.d (.i .u8 x.lo), .d (.i .u8 x.hi)]
def Label.bx (x : Label) : List SC := [.d (.i .i64 x.Level), .d (.i .i64 x.Cats)]
def Config.bx (x : Config) : List SC := [.d (.i .i64 x.Sites), .d (.l 2 (x.Labels.map Label.enc)), .d (.i .i64 x.Patience)]
def LinesTaker.bx (x : LinesTaker) : List SC := [.d (.l 1 (x.l.map encS)), .d (.b x.bad)]
def Call.bx (x : Call) : List SC := [.d (.i .i64 x.Kind), .d (.i .i64 x.N), .d (.i .i64 x.Label), .d (.i .i64 x.Key), .d (.i .i64 x.Value)]
def Act.bx (x : Act) : List SC := [.d (.i .i64 x.Kind), .d (.i .i64 x.Site), .d (.i .i64 x.To), .d (.i .i64 x.Label), .d (.i .i64 x.Pick), .d (.l 1 (x.Keep.map encI)), .d (.i .i64 x.Call.Kind), .d (.i .i64 x.Call.N), .d (.i .i64 x.Call.Label), .d (.i .i64 x.Call.Key), .d (.i .i64 x.Call.Value), .d (.s x.Line)]
attribute [go_sem] encI Utf8AcceptRange.enc Utf8AcceptRange.encO Utf8AcceptRange.bx Label.enc Label.encO Label.bx Config.enc Config.encO Config.bx LinesTaker.enc LinesTaker.encO LinesTaker.bx Call.enc Call.encO Call.bx Act.enc Act.encO Act.bx
def tab_lines_wordsD : List D := [.s ⟨#[]⟩, .s ⟨#[97, 115, 107]⟩, .s ⟨#[100, 101, 108, 105, 118, 101, 114]⟩, .s ⟨#[100, 114, 111, 112]⟩, .s ⟨#[99, 111, 112, 121]⟩, .s ⟨#[116, 105, 99, 107]⟩, .s ⟨#[99, 114, 97, 115, 104]⟩, .s ⟨#[115, 116, 97, 114, 116]⟩, .s ⟨#[116, 121, 112, 101]⟩]
def tab_lines_words : List ByteArray := [⟨#[]⟩, ⟨#[97, 115, 107]⟩, ⟨#[100, 101, 108, 105, 118, 101, 114]⟩, ⟨#[100, 114, 111, 112]⟩, ⟨#[99, 111, 112, 121]⟩, ⟨#[116, 105, 99, 107]⟩, ⟨#[99, 114, 97, 115, 104]⟩, ⟨#[115, 116, 97, 114, 116]⟩, ⟨#[116, 121, 112, 101]⟩]
theorem tab_lines_words_rows : rowsT 1 9 tab_lines_wordsD = tab_lines_words.map encS := by rfl
theorem tab_lines_words_lenD : tab_lines_wordsD.length = 9 := by rfl
theorem tab_lines_words_len : tab_lines_words.length = 9 := by rfl
attribute [go_sem] tab_lines_words_rows tab_lines_words_lenD
def tab_lines_callsD : List D := [.s ⟨#[]⟩, .s ⟨#[98, 101, 103, 105, 110]⟩, .s ⟨#[103, 101, 116]⟩, .s ⟨#[112, 117, 116]⟩, .s ⟨#[99, 111, 109, 109, 105, 116]⟩, .s ⟨#[114, 111, 108, 108, 98, 97, 99, 107]⟩]
def tab_lines_calls : List ByteArray := [⟨#[]⟩, ⟨#[98, 101, 103, 105, 110]⟩, ⟨#[103, 101, 116]⟩, ⟨#[112, 117, 116]⟩, ⟨#[99, 111, 109, 109, 105, 116]⟩, ⟨#[114, 111, 108, 108, 98, 97, 99, 107]⟩]
theorem tab_lines_calls_rows : rowsT 1 6 tab_lines_callsD = tab_lines_calls.map encS := by rfl
theorem tab_lines_calls_lenD : tab_lines_callsD.length = 6 := by rfl
theorem tab_lines_calls_len : tab_lines_calls.length = 6 := by rfl
attribute [go_sem] tab_lines_calls_rows tab_lines_calls_lenD
def tab_strconv_uint64pow10D : List D := [.i .u64 1, .i .u64 10, .i .u64 100, .i .u64 1000, .i .u64 10000, .i .u64 100000, .i .u64 1000000, .i .u64 10000000, .i .u64 100000000, .i .u64 1000000000, .i .u64 10000000000, .i .u64 100000000000, .i .u64 1000000000000, .i .u64 10000000000000, .i .u64 100000000000000, .i .u64 1000000000000000, .i .u64 10000000000000000, .i .u64 100000000000000000, .i .u64 1000000000000000000, .i .u64 10000000000000000000]
def bs_4032af8d : ByteArray := ⟨#[48, 49, 50, 51, 52, 53, 54, 55, 56, 57, 97, 98, 99, 100, 101, 102]⟩
def bs_7215ee9c : ByteArray := ⟨#[32]⟩
def bs_68b329da : ByteArray := ⟨#[10]⟩
def bs_cfcd2084 : ByteArray := ⟨#[48]⟩
def bs_15767b25 : ByteArray := ⟨#[57, 50, 50, 51, 51, 55, 50, 48, 51, 54, 56, 53, 52, 55, 55, 53, 56, 48, 55]⟩
def bs_8dbd9644 : ByteArray := ⟨#[57, 50, 50, 51, 51, 55, 50, 48, 51, 54, 56, 53, 52, 55, 55, 53, 56, 48, 56]⟩
def bs_8d589afa : ByteArray := ⟨#[98, 101, 103, 105, 110]⟩
def bs_b5eda0a7 : ByteArray := ⟨#[103, 101, 116]⟩
def bs_8e13ffc9 : ByteArray := ⟨#[112, 117, 116]⟩
def bs_fffca4d6 : ByteArray := ⟨#[99, 111, 109, 109, 105, 116]⟩
def bs_fff66e9b : ByteArray := ⟨#[114, 111, 108, 108, 98, 97, 99, 107]⟩
def bs_5ed33f70 : ByteArray := ⟨#[97, 115, 107]⟩
def bs_599dcce2 : ByteArray := ⟨#[116, 121, 112, 101]⟩
def bs_e5e5c075 : ByteArray := ⟨#[116, 105, 99, 107]⟩
def bs_ea2b2676 : ByteArray := ⟨#[115, 116, 97, 114, 116]⟩
def bs_dcaa9fd4 : ByteArray := ⟨#[99, 114, 97, 115, 104]⟩
def bs_45a69146 : ByteArray := ⟨#[100, 101, 108, 105, 118, 101, 114]⟩
def bs_6e9d2536 : ByteArray := ⟨#[100, 114, 111, 112]⟩
def bs_12cba3ee : ByteArray := ⟨#[99, 111, 112, 121]⟩
def label_one (p0 : Label) : Option (Bool) := (withK (fun (b1_1 : Bool) => (some b1_1)) fun k2 => (if (decide (p0.Level ≥ 0)) = true then (if (decide (p0.Level ≤ 9)) = true then (if (decide (p0.Cats ≥ 0)) = true then (k2 (decide (p0.Cats ≤ 15))) else (k2 false)) else (k2 false)) else (k2 false)))
def F27 : VFn := ⟨21, (.seq (.reg [vo 1 (.boxk 2 (.t 0)), vo 2 (.mv (cb false))]) (.seq (.wk (.reg [vf 3 0 1, vs 4 3, bk 5 .geq 4 0, vm 6 5, gt 7 6 (.fa 0 (.t 1)), gt 8 6 (.ld false 1 (.t 7)), gt 9 6 (.bin .i .leq (.t 8) (ci 9)), vo 10 (.pick (.t 6) (.t 9) (cb false)), vm 11 10, gt 12 11 (.fa 1 (.t 1)), gt 13 11 (.ld false 1 (.t 12)), gt 14 11 (.bin .i .geq (.t 13) (ci 0)), vo 15 (.pick (.t 11) (.t 14) (cb false)), vm 16 15, gt 17 16 (.fa 1 (.t 1)), gt 18 16 (.ld false 1 (.t 17)), gt 19 16 (.bin .i .leq (.t 18) (ci 15)), vo 20 (.pick (.t 16) (.t 19) (cb false)), vm 2 20])) .ret)), [.t 2]⟩
theorem low27 : lowF Tryd.prog 27 = some F27.strip := by kernel_rfl
theorem fok27 : fOk Tryd.prog 27 = true := by kernel_rfl
theorem label_one_ok (p0 : Label) (r : Bool) (h : label_one p0 = some r) : FnRO Tryd.prog G 27 [.agg p0.bx] (fun rs => rs = [.one (.b r)]) := by
 refine FnRO.of' low27 fok27 (by simp [F27]) ?_
 rw [label_one] at h
 replace h := Hd.mk h
 simp only [F27, go_sem]
 try simp only [*, go_sem]
 refine jn1 h (fun b1_1 => [zB 2 b1_1]) (fun b1_1 => []) (fun k2 h => ?_) (fun b1_1 h => ?_)
 refine oi h (fun hb3 h => ?_) (fun hb3 h => ?_)
 refine oi h (fun hb4 h => ?_) (fun hb4 h => ?_)
 refine oi h (fun hb5 h => ?_) (fun hb5 h => ?_)
 try simp only [*, go_sem]
 exact jc (decide (p0.Cats ≤ 15)) h.e []
 try simp only [*, go_sem]
 exact jc (false) h.e []
 try simp only [*, go_sem]
 exact jc (false) h.e []
 try simp only [*, go_sem]
 exact jc (false) h.e []
 cases h.e
 simp only [*, go_sem, mA, mS]
def label_Check_L2 (p0 : Config) (a10_1 : Nat) (x13 : Label) (k19 : Option (Int)) : Nat → Nat → Option (Int)
 | 0, _ => none
 | n21 + 1, a20_1 => (if (decide (a20_1 < min a10_1 p0.Labels.length)) = true then (Option.bind ((p0.Labels.take a10_1)[a20_1]?) fun x23 => (if ((x23.Level == x13.Level) && (x23.Cats == x13.Cats)) = true then (some 7) else (label_Check_L2 p0 a10_1 x13 k19 n21 (a20_1 + 1)))) else k19)
def label_Check_L1 (p0 : Config) (k9 : Option (Int)) : Nat → Nat → Option (Int)
 | 0, _ => none
 | n11 + 1, a10_1 => (if (decide (a10_1 < p0.Labels.length)) = true then (Option.bind (p0.Labels[a10_1]?) fun x13 => (Option.bind (label_one x13) fun v14 => (if (!v14) = true then (some 2) else (withK (label_Check_L1 p0 k9 n11 (a10_1 + 1)) fun k19 => (label_Check_L2 p0 a10_1 x13 k19 (min a10_1 p0.Labels.length + 1) 0))))) else k9)
def label_Check (p0 : Config) : Option (Int) := (if (decide (p0.Sites < 1)) = true then (some 2) else (if (decide (p0.Sites > 4)) = true then (some 2) else (if (decide (((p0.Labels.length : Nat) : Int) < 1)) = true then (some 1) else (if (decide (((p0.Labels.length : Nat) : Int) > 6)) = true then (some 1) else (withK (if (decide (p0.Patience < 1)) = true then (some 2) else (if (decide (p0.Patience > 1048576)) = true then (some 2) else (some 0))) fun k9 => (label_Check_L1 p0 k9 (p0.Labels.length + 1) 0))))))
def F15 : VFn := ⟨58, (.seq (.reg [vo 1 (.boxk 3 (.t 0)), mi 2 0]) (.seq (.seq (.reg [vf 7 0 1, vs 8 7, bk 9 .lss 8 1, vm 10 9, gf 11 10 (.fa 0 (.t 1)), gf 12 10 (.ld false 1 (.t 11)), gf 13 10 (.bin .i .gtr (.t 12) (ci 4)), vo 14 (.pick (.t 10) (cb true) (.t 13))]) (.cond (.t 14) (.seq (.reg [mi 2 2]) .ret) .skip)) (.seq (.seq (.reg [vf 15 1 1, vs 16 15, ln 17 16, bk 18 .lss 17 1, vm 19 18, gf 20 19 (.fa 1 (.t 1)), gf 21 19 (.ld false 1 (.t 20)), gf 22 19 (.len (.t 21)), gf 23 19 (.bin .i .gtr (.t 22) (ci 6)), vo 24 (.pick (.t 19) (cb true) (.t 23))]) (.cond (.t 24) (.seq (.reg [mi 2 1]) .ret) .skip)) (.seq (.seq (.reg [vf 25 1 1, vs 26 25, ln 27 26, mi 28 0]) (.wk (.block 0 (.loop (.seq (.reg [bt 29 .lss 28 27]) (.seq (.cond (.t 29) .skip (.exit 0)) (.seq (.block 1 (.seq (.reg [vm 30 28, xa 31 2 26 28, vl 32 2 31, vo 4 (.alloc [(zi 0), (zi 0)]), vm 3 30, vu (.st 2 (.t 4) (.t 32))]) (.seq (.seq (.reg [vl 33 2 4, vo 34 (.call 27 [(.t 33)]), nt 35 34]) (.cond (.t 35) (.seq (.reg [mi 2 2]) .ret) .skip)) (.seq (.reg [vf 36 1 1, vs 37 36, vm 38 3, vo 39 (.sl 2 (.t 37) none (some (.t 38))), ln 40 39, mi 41 0]) (.wk (.block 2 (.loop (.seq (.reg [bt 42 .lss 41 40]) (.seq (.cond (.t 42) .skip (.exit 2)) (.seq (.block 3 (.seq (.reg [xa 43 2 39 41, vl 44 2 43, vo 6 (.alloc [(zi 0), (zi 0)]), vu (.st 2 (.t 6) (.t 44))]) (.seq (.reg [vl 45 2 6, vl 46 2 4, vo 47 (.eqs false [.i, .i] (.t 45) (.t 46))]) (.cond (.t 47) (.seq (.reg [mi 2 7]) .ret) .skip)))) (.reg [bk 48 .add 41 1, vm 41 48]))))))))))) (.reg [bk 49 .add 28 1, vm 28 49])))))))) (.seq (.seq (.reg [vf 50 2 1, vs 51 50, bk 52 .lss 51 1, vm 53 52, gf 54 53 (.fa 2 (.t 1)), gf 55 53 (.ld false 1 (.t 54)), gf 56 53 (.bin .i .gtr (.t 55) (ci 1048576)), vo 57 (.pick (.t 53) (cb true) (.t 56))]) (.cond (.t 57) (.seq (.reg [mi 2 2]) .ret) .skip)) (.seq (.reg [mi 2 0]) .ret)))))), [.t 2]⟩
theorem low15 : lowF Tryd.prog 15 = some F15.strip := by kernel_rfl
theorem fok15 : fOk Tryd.prog 15 = true := by kernel_rfl
theorem label_Check_ok (p0 : Config) (r : Int) (h : label_Check p0 = some r) : FnRO Tryd.prog G 15 [.agg p0.bx] (fun rs => rs = [.one (.i .i64 r)]) := by
 refine FnRO.of' low15 fok15 (by simp [F15]) ?_
 rw [label_Check] at h
 replace h := Hd.mk h
 simp only [F15, go_sem]
 refine oi h (fun hb1 h => ?_) (fun hb1 h => ?_)
 have := of_decide_eq_true hb1
 cases h.e
 simp only [*, go_sem, mA, mS]
 refine oi h (fun hb2 h => ?_) (fun hb2 h => ?_)
 cases h.e
 simp only [*, go_sem, mA, mS]
 try simp only [*, go_sem]
 intro hl3
 refine oi h (fun hb4 h => ?_) (fun hb4 h => ?_)
 cases h.e
 simp only [*, go_sem, mA, mS]
 try simp only [*, go_sem]
 intro hl5
 refine oi h (fun hb6 h => ?_) (fun hb6 h => ?_)
 cases h.e
 simp only [*, go_sem, mA, mS]
 try simp only [*, go_sem]
 intro hl7
 try simp only [*, go_sem]
 refine jn0 h ([zK 1 (Config.enc p0)]) ([]) (fun k9 h => ?_) (fun h => ?_)
 try simp only [*, go_sem]
 refine lp1 (label_Check_L1 p0 k9) (fun a10_1 => [zK 1 (Config.enc p0), zL 26 2 (p0.Labels.map Label.enc), zI 27 ((p0.Labels.length : Nat) : Int), zI 28 ((a10_1 : Nat) : Int)]) (fun a10_1 => []) h [] [] (fun n11 a10_1 h => ?_) (by intros; rw [label_Check_L1])
 rw [label_Check_L1] at h
 refine oi h (fun hb12 h => ?_) (fun hb12 h => ?_)
 have := of_decide_eq_true hb12
 refine obg h (fun x13 _ hkx13 h => ?_)
 try simp only [*, go_sem]
 refine cr h (label_one_ok G x13) (fun v14 h => ?_)
 refine oin h (fun hb15 hkhb15 h => ?_) (fun hb15 hkhb15 h => ?_)
 cases h.e
 simp only [*, go_sem, mA, mS]
 have := Nat.le_of_lt hkx13
 try simp only [*, go_sem]
 intro hl17
 try simp only [*, go_sem]
 refine jn0 h ([zK 1 (Config.enc p0), zL 26 2 (p0.Labels.map Label.enc), zI 27 ((p0.Labels.length : Nat) : Int), zI 28 ((a10_1 : Nat) : Int)]) ([]) (fun k19 h => ?_) (fun h => ?_)
 try simp only [*, go_sem]
 refine lp1 (label_Check_L2 p0 a10_1 x13 k19) (fun a20_1 => [zK 1 (Config.enc p0), zP 4 0, zL 26 2 (p0.Labels.map Label.enc), zI 27 ((p0.Labels.length : Nat) : Int), zI 28 ((a10_1 : Nat) : Int), zL 39 2 ((p0.Labels.take a10_1).map Label.enc), zI 40 ((min a10_1 p0.Labels.length : Nat) : Int), zI 41 ((a20_1 : Nat) : Int)]) (fun a20_1 => [ox x13.bx]) h [] [some 0] (fun n21 a20_1 h => ?_) (by intros; rw [label_Check_L2])
 rw [label_Check_L2] at h
 refine oi h (fun hb22 h => ?_) (fun hb22 h => ?_)
 refine obg h (fun x23 _ hkx23 h => ?_)
 try simp only [List.length_take, List.length_drop, List.length_append, List.length_set, List.length_map, List.length_cons, List.length_nil, Nat.zero_add] at hkx23
 refine oi h (fun hb24 h => ?_) (fun hb24 h => ?_)
 try simp only [*, go_sem]
 cases h.e
 simp only [*, go_sem, mA, mS]
 try simp only [*, go_sem]
 have := wrap_succ_max hkx23 hl17
 try simp only [*, go_sem]
 exact lc (a20_1 + 1) h.e [some 0]
 try simp only [*, go_sem]
 exact jc () h.e []
 have := wrap_succ_max hkx13 hl3
 try simp only [*, go_sem]
 exact lc (a10_1 + 1) h.e []
 try simp only [*, go_sem]
 exact jc () h.e []
 refine oi h (fun hb27 h => ?_) (fun hb27 h => ?_)
 have := of_decide_eq_true hb27
 cases h.e
 simp only [*, go_sem, mA, mS]
 refine oi h (fun hb28 h => ?_) (fun hb28 h => ?_)
 cases h.e
 simp only [*, go_sem, mA, mS]
 cases h.e
 simp only [*, go_sem, mA, mS]
theorem cut16_ok (hvar2 : VarI G 2) (p0 p1 : ByteArray) (r : ByteArray × ByteArray × Bool) (h : cutF p0 p1 = some r) : FnRO Tryd.prog G 16 [.one (.d (.s p0)), .one (.d (.s p1))] (fun rs => rs = [.one (.s r.1), .one (.s r.2.1), .one (.b r.2.2)]) := cut_okF cutLays rfl (by kernel_rfl) rfl hvar2 p0 p1 r h
theorem split10_ok (hvar2 : VarI G 2) (p0 p1 : ByteArray) (r : List ByteArray) (h : splitF p0 p1 = some r) : FnRO Tryd.prog G 10 [.one (.d (.s p0)), .one (.d (.s p1))] (fun rs => rs = [.one (.o 1 (r.map encS))]) := split_okF splitLays splitInfo rfl (by kernel_rfl) rfl hvar2 p0 p1 r h
def lines_taker_next (p0 : LinesTaker) : Option (LinesTaker × ByteArray) := (if (((p0.l.length : Nat) : Int) == 0) = true then (some ((LinesTaker.mk p0.l true), (⟨#[]⟩ : ByteArray))) else (Option.bind (p0.l[0]?) fun x3 => (if 1 ≤ p0.l.length then (some ((LinesTaker.mk (p0.l.drop 1) p0.bad), x3)) else none)))
def F30 : VFn := ⟨28, (.seq (.reg [vo 2 (.mv (.c (.one (.d (.s ⟨#[]⟩)))))]) (.seq (.seq (.reg [vm 4 0, vo 5 (.nilchk (.t 4)), vf 6 0 5, vs 7 6, ln 8 7, bk 9 .eql 8 0]) (.cond (.t 9) (.seq (.reg [vm 10 0, vo 11 (.nilchk (.t 10)), vf 12 1 11, vu (.st 1 (.t 12) (cb true))]) (.seq (.reg [vo 2 (.mv (.c (.one (.d (.s ⟨#[]⟩)))))]) .ret)) .skip)) (.seq (.reg [vm 13 0, vo 14 (.nilchk (.t 13)), vf 15 0 14, vs 16 15, vo 17 (.ia 1 (.t 16) (ci 0)), vs 18 17, vm 3 18]) (.seq (.reg [vm 19 0, vm 20 0, vo 21 (.nilchk (.t 20)), vf 22 0 21, vs 23 22, vo 24 (.sl 1 (.t 23) (some (ci 1)) none), vo 25 (.nilchk (.t 19)), vf 26 0 25, vu (.st 1 (.t 26) (.t 24))]) (.seq (.reg [vm 27 3, vm 2 27]) .ret))))), [.t 2]⟩
theorem low30 : lowF Tryd.prog 30 = some F30.strip := by kernel_rfl
theorem fok30 : fOk Tryd.prog 30 = true := by kernel_rfl
theorem lines_taker_next_ok (p0 : LinesTaker) (r : LinesTaker × ByteArray) (h : lines_taker_next p0 = some r) : FnX Tryd.prog G 30 [ptrX] [.l 1 (p0.l.map encS), .b p0.bad] (fun c rs => c = [.l 1 (r.1.l.map encS), .b r.1.bad] ∧ rs = [.one (.s r.2)]) := by
 refine FnX.of [1] low30 fok30 (by exact Nat.le_of_ble_eq_true rfl) (by exact Nat.le_of_ble_eq_true rfl) ?_
 rw [lines_taker_next] at h
 replace h := Hd.mk h
 simp only [F30, go_sem]
 try simp only [*, go_sem]
 intro hl1
 refine oi h (fun hb2 h => ?_) (fun hb2 h => ?_)
 cases h.e
 try simp only [*, go_sem]
 refine eti [] ?_
 simp only [*, go_sem, mA, mS]
 refine obg h (fun x3 _ _ h => ?_)
 have : (0 : Int) < ((p0.l.length : Nat) : Int) := by omega
 refine ck h (fun _ h => ?_)
 have : (1 : Int) ≤ ((p0.l.length : Nat) : Int) := by omega
 cases h.e
 try simp only [*, go_sem]
 refine eti [] ?_
 simp only [*, go_sem, mA, mS]
def slices_Index_string_L1 (p0 : List ByteArray) (p1 : ByteArray) (k3 : Option (Int)) : Nat → Nat → Option (Int)
 | 0, _ => none
 | n5 + 1, a4_1 => (if (decide (a4_1 < p0.length)) = true then (Option.bind (p0[a4_1]?) fun x7 => (if (p1.toList == x7.toList) = true then (some ((a4_1 : Nat) : Int)) else (slices_Index_string_L1 p0 p1 k3 n5 (a4_1 + 1)))) else k3)
def slices_Index_string (p0 : List ByteArray) (p1 : ByteArray) : Option (Int) := (withK (some (-1)) fun k3 => (slices_Index_string_L1 p0 p1 k3 (p0.length + 1) 0))
def F29 : VFn := ⟨19, (.seq (.reg [mi 4 0]) (.seq (.seq (.reg [vm 6 0, ln 7 6, mi 8 0]) (.wk (.block 0 (.loop (.seq (.reg [bt 9 .lss 8 7]) (.seq (.cond (.t 9) .skip (.exit 0)) (.seq (.block 1 (.seq (.reg [vm 10 8, vm 5 10]) (.seq (.reg [vm 11 1, vm 12 0, vm 13 5, xa 14 1 12 13, vs 15 14, vo 16 (.bin .s .eql (.t 11) (.t 15))]) (.cond (.t 16) (.seq (.reg [vm 17 5, vm 4 17]) .ret) .skip)))) (.reg [bk 18 .add 8 1, vm 8 18])))))))) (.seq (.reg [mi 4 (-1)]) .ret))), [.t 4]⟩
theorem low29 : lowF Tryd.prog 29 = some F29.strip := by kernel_rfl
theorem fok29 : fOk Tryd.prog 29 = true := by kernel_rfl
theorem slices_Index_string_ok (p0 : List ByteArray) (p1 : ByteArray) (r : Int) (h : slices_Index_string p0 p1 = some r) : FnRO Tryd.prog G 29 [.one (.d (.l 1 (p0.map encS))), .one (.d (.s p1))] (fun rs => rs = [.one (.i .i64 r)]) := by
 refine FnRO.of' low29 fok29 (by simp [F29]) ?_
 rw [slices_Index_string] at h
 replace h := Hd.mk h
 simp only [F29, go_sem]
 try simp only [*, go_sem]
 intro hl1
 try simp only [*, go_sem]
 refine jn0 h ([]) ([]) (fun k3 h => ?_) (fun h => ?_)
 try simp only [*, go_sem]
 refine lp1 (slices_Index_string_L1 p0 p1 k3) (fun a4_1 => [zL 0 1 (p0.map encS), (1, .one (.d (.s p1))), zI 7 ((p0.length : Nat) : Int), zI 8 ((a4_1 : Nat) : Int)]) (fun a4_1 => []) h [] [] (fun n5 a4_1 h => ?_) (by intros; rw [slices_Index_string_L1])
 rw [slices_Index_string_L1] at h
 refine oi h (fun hb6 h => ?_) (fun hb6 h => ?_)
 have := of_decide_eq_true hb6
 refine obg h (fun x7 _ hkx7 h => ?_)
 refine oi h (fun hb8 h => ?_) (fun hb8 h => ?_)
 cases h.e
 simp only [*, go_sem, mA, mS]
 have := wrap_succ_max hkx7 hl1
 try simp only [*, go_sem]
 exact lc (a4_1 + 1) h.e []
 try simp only [*, go_sem]
 exact jc () h.e []
 cases h.e
 simp only [*, go_sem, mA, mS]
theorem atoi24_ok (hvar3 : VarE G 3) (hvar4 : VarE G 4) (p0 : ByteArray) (r : Int × Bool) (h : atoiF p0 = some r) : FnRO Tryd.prog G 24 [.one (.d (.s p0))] (fun rs => ∃ x : Value, nilB x = some r.2 ∧ rs = [.one (.i .i64 r.1), .one (.v x)]) := atoi_okF atoiLays rfl (by kernel_rfl) rfl rfl hvar3 hvar4 p0 r h
theorem itoa25_ok (htab_strconv_uint64pow10 : constG G 7 = .one (.d (.k tab_strconv_uint64pow10D))) (p0 : Int) (r : ByteArray) (h : itoaF p0 = some r) : FnRO Tryd.prog G 25 [.one (.d (.i .i64 p0))] (fun rs => rs = [.one (.s r)]) := itoa_okF itoaLays rfl (by kernel_rfl) (by kernel_rfl) (by rfl) htab_strconv_uint64pow10 p0 r h
def lines_taker_number (p0 : LinesTaker) : Option (LinesTaker × Int) := (Option.bind (lines_taker_next p0) fun v1 => (Option.bind (atoiF v1.2) fun v2 => (withK (fun (b5_1 : Bool) => (some ((LinesTaker.mk v1.1.l b5_1), v2.1))) fun k6 => (if v1.1.bad = true then (k6 true) else (if (!v2.2) = true then (k6 true) else (Option.bind (itoaF v2.1) fun v9 => (k6 (!(v9.toList == v1.2.toList)))))))))
def F31 : VFn := ⟨31, (.seq (.reg [mi 2 0]) (.seq (.reg [vm 6 0, vo 7 (.call 30 [(.t 6)]), vm 3 7]) (.seq (.reg [vm 9 3, vo 10 (.call 24 [(.t 9)]), vm 8 10, et 11 8 0, et 12 8 1, vm 4 11, vm 5 12]) (.seq (.wk (.reg [vm 13 0, vm 14 0, vo 15 (.nilchk (.t 14)), vf 16 1 15, vs 17 16, vm 18 17, gf 19 18 (.mv (.t 5)), gf 20 18 (.inil true (.t 19)), vo 21 (.pick (.t 18) (cb true) (.t 20)), vm 22 21, gf 23 22 (.mv (.t 4)), gf 24 22 (.call 25 [(.t 23)]), gf 25 22 (.mv (.t 3)), gf 26 22 (.bin .s .neq (.t 24) (.t 25)), vo 27 (.pick (.t 22) (cb true) (.t 26)), vo 28 (.nilchk (.t 13)), vf 29 1 28, vu (.st 1 (.t 29) (.t 27))])) (.seq (.reg [vm 30 4, vm 2 30]) .ret))))), [.t 2]⟩
theorem low31 : lowF Tryd.prog 31 = some F31.strip := by kernel_rfl
theorem fok31 : fOk Tryd.prog 31 = true := by kernel_rfl
theorem lines_taker_number_ok (hvar3 : VarE G 3) (hvar4 : VarE G 4) (htab_strconv_uint64pow10 : constG G 7 = .one (.d (.k tab_strconv_uint64pow10D))) (p0 : LinesTaker) (r : LinesTaker × Int) (h : lines_taker_number p0 = some r) : FnX Tryd.prog G 31 [ptrX] [.l 1 (p0.l.map encS), .b p0.bad] (fun c rs => c = [.l 1 (r.1.l.map encS), .b r.1.bad] ∧ rs = [.one (.i .i64 r.2)]) := by
 refine FnX.of [1] low31 fok31 (by exact Nat.le_of_ble_eq_true rfl) (by exact Nat.le_of_ble_eq_true rfl) ?_
 rw [lines_taker_number] at h
 replace h := Hd.mk h
 simp only [F31, go_sem]
 try simp only [*, go_sem]
 refine ct h 0 [] [1] [] (lines_taker_next_ok G p0) (fun v1 h => ?_)
 try simp only [*, go_sem]
 refine crE h (atoi24_ok G hvar3 hvar4 v1.2) (fun v2 y3 _ h => ?_)
 try simp only [*, go_sem]
 refine jn1 h (fun b5_1 => [zI 4 v2.1, zP 1000000 0]) (fun b5_1 => [ox [.d (.l 1 (v1.1.l.map encS)), .d (.b b5_1)]]) (fun k6 h => ?_) (fun b5_1 h => ?_)
 refine oi h (fun hb7 h => ?_) (fun hb7 h => ?_)
 try simp only [*, go_sem]
 exact jc (true) h.e [some 0]
 refine oin h (fun hb8 hkhb8 h => ?_) (fun hb8 hkhb8 h => ?_)
 try simp only [*, go_sem]
 exact jc (true) h.e [some 0]
 try simp only [*, go_sem]
 refine cr h (itoa25_ok G htab_strconv_uint64pow10 v2.1) (fun v9 h => ?_)
 try simp only [*, go_sem]
 exact jc (!(v9.toList == v1.2.toList)) h.e [some 0]
 cases h.e
 try simp only [*, go_sem]
 refine eti [] ?_
 simp only [*, go_sem, mA, mS]
def lines_taker_call (p0 : LinesTaker) : Option (LinesTaker × Call) := (withK (fun (b1_1 : List ByteArray) (b1_2 : Bool) (b1_3 : Int) => (withK (fun (b5_1 : List ByteArray) (b5_2 : Bool) (b5_3 : Int) => (withK (fun (b9_1 : Int) (b9_2 : Int) (b9_3 : Int) (b9_4 : List ByteArray) (b9_5 : Bool) => (some ((LinesTaker.mk b9_4 b9_5), (Call.mk b1_3 b5_3 b9_1 b9_2 b9_3)))) fun k10 => (if (b1_3 == 0) = true then (k10 0 0 0 b5_1 true) else (withK (fun (b12_1 : Int) (b12_2 : Int) (b12_3 : Int) (b12_4 : List ByteArray) (b12_5 : Bool) => (k10 b12_1 b12_2 b12_3 b12_4 b12_5)) fun k13 => (if (b1_3 == 2) = true then (Option.bind (lines_taker_number (LinesTaker.mk b5_1 b5_2)) fun v15 => (Option.bind (lines_taker_number v15.1) fun v16 => (k13 v15.2 v16.2 0 v16.1.l v16.1.bad))) else (withK (fun (b17_1 : Int) (b17_2 : Int) (b17_3 : List ByteArray) (b17_4 : Bool) => (k13 0 b17_1 b17_2 b17_3 b17_4)) fun k18 => (if (b1_3 == 3) = true then (Option.bind (lines_taker_number (LinesTaker.mk b5_1 b5_2)) fun v20 => (Option.bind (lines_taker_number v20.1) fun v21 => (k18 v20.2 v21.2 v21.1.l v21.1.bad))) else (k18 0 0 b5_1 b5_2)))))))) fun k6 => (if (decide (b1_3 > 1)) = true then (Option.bind (lines_taker_number (LinesTaker.mk b1_1 b1_2)) fun v8 => (k6 v8.1.l v8.1.bad v8.2)) else (k6 b1_1 b1_2 0)))) fun k2 => (Option.bind (lines_taker_next p0) fun v3 => (Option.bind (slices_Index_string ((tab_lines_calls.drop 1).take 5) v3.2) fun v4 => (k2 v3.1.l v3.1.bad (IntKind.i64.wrap (v4 + 1))))))
def F32 : VFn := ⟨40, (.seq (.reg [vo 2 (.alloc [(zi 0), (zi 0), (zi 0), (zi 0), (zi 0)])]) (.seq (.wk (.orders [[vo 4 (.sla 6 1 (.g 1) (some (ci 1)) none), vm 5 0, vo 6 (.call 30 [(.t 5)]), vo 7 (.call 29 [(.t 4), (.t 6)]), bk 8 .add 7 1, vo 9 (.build [(zi 0), (zi 0), (zi 0), (zi 0), (zi 0)] [(0, 1, (.t 8))]), vo 3 (.alloc [(zi 0), (zi 0), (zi 0), (zi 0), (zi 0)]), vu (.st 5 (.t 3) (.t 9))], [vo 4 (.sla 6 1 (.g 1) (some (ci 1)) none), vm 5 0, vo 6 (.call 30 [(.t 5)]), vo 7 (.call 29 [(.t 4), (.t 6)]), bk 8 .add 7 1, vo 3 (.alloc [(zi 0), (zi 0), (zi 0), (zi 0), (zi 0)]), vo 9 (.build [(zi 0), (zi 0), (zi 0), (zi 0), (zi 0)] [(0, 1, (.t 8))]), vu (.st 5 (.t 3) (.t 9))], [vo 4 (.sla 6 1 (.g 1) (some (ci 1)) none), vm 5 0, vo 6 (.call 30 [(.t 5)]), vo 7 (.call 29 [(.t 4), (.t 6)]), vo 3 (.alloc [(zi 0), (zi 0), (zi 0), (zi 0), (zi 0)]), bk 8 .add 7 1, vo 9 (.build [(zi 0), (zi 0), (zi 0), (zi 0), (zi 0)] [(0, 1, (.t 8))]), vu (.st 5 (.t 3) (.t 9))], [vo 4 (.sla 6 1 (.g 1) (some (ci 1)) none), vm 5 0, vo 6 (.call 30 [(.t 5)]), vo 3 (.alloc [(zi 0), (zi 0), (zi 0), (zi 0), (zi 0)]), vo 7 (.call 29 [(.t 4), (.t 6)]), bk 8 .add 7 1, vo 9 (.build [(zi 0), (zi 0), (zi 0), (zi 0), (zi 0)] [(0, 1, (.t 8))]), vu (.st 5 (.t 3) (.t 9))], [vo 4 (.sla 6 1 (.g 1) (some (ci 1)) none), vm 5 0, vo 3 (.alloc [(zi 0), (zi 0), (zi 0), (zi 0), (zi 0)]), vo 6 (.call 30 [(.t 5)]), vo 7 (.call 29 [(.t 4), (.t 6)]), bk 8 .add 7 1, vo 9 (.build [(zi 0), (zi 0), (zi 0), (zi 0), (zi 0)] [(0, 1, (.t 8))]), vu (.st 5 (.t 3) (.t 9))], [vo 4 (.sla 6 1 (.g 1) (some (ci 1)) none), vo 3 (.alloc [(zi 0), (zi 0), (zi 0), (zi 0), (zi 0)]), vm 5 0, vo 6 (.call 30 [(.t 5)]), vo 7 (.call 29 [(.t 4), (.t 6)]), bk 8 .add 7 1, vo 9 (.build [(zi 0), (zi 0), (zi 0), (zi 0), (zi 0)] [(0, 1, (.t 8))]), vu (.st 5 (.t 3) (.t 9))], [vm 5 0, vo 4 (.sla 6 1 (.g 1) (some (ci 1)) none), vo 6 (.call 30 [(.t 5)]), vo 7 (.call 29 [(.t 4), (.t 6)]), bk 8 .add 7 1, vo 9 (.build [(zi 0), (zi 0), (zi 0), (zi 0), (zi 0)] [(0, 1, (.t 8))]), vo 3 (.alloc [(zi 0), (zi 0), (zi 0), (zi 0), (zi 0)]), vu (.st 5 (.t 3) (.t 9))], [vm 5 0, vo 4 (.sla 6 1 (.g 1) (some (ci 1)) none), vo 6 (.call 30 [(.t 5)]), vo 7 (.call 29 [(.t 4), (.t 6)]), bk 8 .add 7 1, vo 3 (.alloc [(zi 0), (zi 0), (zi 0), (zi 0), (zi 0)]), vo 9 (.build [(zi 0), (zi 0), (zi 0), (zi 0), (zi 0)] [(0, 1, (.t 8))]), vu (.st 5 (.t 3) (.t 9))], [vm 5 0, vo 4 (.sla 6 1 (.g 1) (some (ci 1)) none), vo 6 (.call 30 [(.t 5)]), vo 7 (.call 29 [(.t 4), (.t 6)]), vo 3 (.alloc [(zi 0), (zi 0), (zi 0), (zi 0), (zi 0)]), bk 8 .add 7 1, vo 9 (.build [(zi 0), (zi 0), (zi 0), (zi 0), (zi 0)] [(0, 1, (.t 8))]), vu (.st 5 (.t 3) (.t 9))], [vm 5 0, vo 4 (.sla 6 1 (.g 1) (some (ci 1)) none), vo 6 (.call 30 [(.t 5)]), vo 3 (.alloc [(zi 0), (zi 0), (zi 0), (zi 0), (zi 0)]), vo 7 (.call 29 [(.t 4), (.t 6)]), bk 8 .add 7 1, vo 9 (.build [(zi 0), (zi 0), (zi 0), (zi 0), (zi 0)] [(0, 1, (.t 8))]), vu (.st 5 (.t 3) (.t 9))], [vm 5 0, vo 4 (.sla 6 1 (.g 1) (some (ci 1)) none), vo 3 (.alloc [(zi 0), (zi 0), (zi 0), (zi 0), (zi 0)]), vo 6 (.call 30 [(.t 5)]), vo 7 (.call 29 [(.t 4), (.t 6)]), bk 8 .add 7 1, vo 9 (.build [(zi 0), (zi 0), (zi 0), (zi 0), (zi 0)] [(0, 1, (.t 8))]), vu (.st 5 (.t 3) (.t 9))], [vm 5 0, vo 6 (.call 30 [(.t 5)]), vo 4 (.sla 6 1 (.g 1) (some (ci 1)) none), vo 7 (.call 29 [(.t 4), (.t 6)]), bk 8 .add 7 1, vo 9 (.build [(zi 0), (zi 0), (zi 0), (zi 0), (zi 0)] [(0, 1, (.t 8))]), vo 3 (.alloc [(zi 0), (zi 0), (zi 0), (zi 0), (zi 0)]), vu (.st 5 (.t 3) (.t 9))], [vm 5 0, vo 6 (.call 30 [(.t 5)]), vo 4 (.sla 6 1 (.g 1) (some (ci 1)) none), vo 7 (.call 29 [(.t 4), (.t 6)]), bk 8 .add 7 1, vo 3 (.alloc [(zi 0), (zi 0), (zi 0), (zi 0), (zi 0)]), vo 9 (.build [(zi 0), (zi 0), (zi 0), (zi 0), (zi 0)] [(0, 1, (.t 8))]), vu (.st 5 (.t 3) (.t 9))], [vm 5 0, vo 6 (.call 30 [(.t 5)]), vo 4 (.sla 6 1 (.g 1) (some (ci 1)) none), vo 7 (.call 29 [(.t 4), (.t 6)]), vo 3 (.alloc [(zi 0), (zi 0), (zi 0), (zi 0), (zi 0)]), bk 8 .add 7 1, vo 9 (.build [(zi 0), (zi 0), (zi 0), (zi 0), (zi 0)] [(0, 1, (.t 8))]), vu (.st 5 (.t 3) (.t 9))], [vm 5 0, vo 6 (.call 30 [(.t 5)]), vo 4 (.sla 6 1 (.g 1) (some (ci 1)) none), vo 3 (.alloc [(zi 0), (zi 0), (zi 0), (zi 0), (zi 0)]), vo 7 (.call 29 [(.t 4), (.t 6)]), bk 8 .add 7 1, vo 9 (.build [(zi 0), (zi 0), (zi 0), (zi 0), (zi 0)] [(0, 1, (.t 8))]), vu (.st 5 (.t 3) (.t 9))], [vm 5 0, vo 6 (.call 30 [(.t 5)]), vo 3 (.alloc [(zi 0), (zi 0), (zi 0), (zi 0), (zi 0)]), vo 4 (.sla 6 1 (.g 1) (some (ci 1)) none), vo 7 (.call 29 [(.t 4), (.t 6)]), bk 8 .add 7 1, vo 9 (.build [(zi 0), (zi 0), (zi 0), (zi 0), (zi 0)] [(0, 1, (.t 8))]), vu (.st 5 (.t 3) (.t 9))], [vm 5 0, vo 3 (.alloc [(zi 0), (zi 0), (zi 0), (zi 0), (zi 0)]), vo 4 (.sla 6 1 (.g 1) (some (ci 1)) none), vo 6 (.call 30 [(.t 5)]), vo 7 (.call 29 [(.t 4), (.t 6)]), bk 8 .add 7 1, vo 9 (.build [(zi 0), (zi 0), (zi 0), (zi 0), (zi 0)] [(0, 1, (.t 8))]), vu (.st 5 (.t 3) (.t 9))], [vm 5 0, vo 3 (.alloc [(zi 0), (zi 0), (zi 0), (zi 0), (zi 0)]), vo 6 (.call 30 [(.t 5)]), vo 4 (.sla 6 1 (.g 1) (some (ci 1)) none), vo 7 (.call 29 [(.t 4), (.t 6)]), bk 8 .add 7 1, vo 9 (.build [(zi 0), (zi 0), (zi 0), (zi 0), (zi 0)] [(0, 1, (.t 8))]), vu (.st 5 (.t 3) (.t 9))], [vo 3 (.alloc [(zi 0), (zi 0), (zi 0), (zi 0), (zi 0)]), vo 4 (.sla 6 1 (.g 1) (some (ci 1)) none), vm 5 0, vo 6 (.call 30 [(.t 5)]), vo 7 (.call 29 [(.t 4), (.t 6)]), bk 8 .add 7 1, vo 9 (.build [(zi 0), (zi 0), (zi 0), (zi 0), (zi 0)] [(0, 1, (.t 8))]), vu (.st 5 (.t 3) (.t 9))], [vo 3 (.alloc [(zi 0), (zi 0), (zi 0), (zi 0), (zi 0)]), vm 5 0, vo 4 (.sla 6 1 (.g 1) (some (ci 1)) none), vo 6 (.call 30 [(.t 5)]), vo 7 (.call 29 [(.t 4), (.t 6)]), bk 8 .add 7 1, vo 9 (.build [(zi 0), (zi 0), (zi 0), (zi 0), (zi 0)] [(0, 1, (.t 8))]), vu (.st 5 (.t 3) (.t 9))], [vo 3 (.alloc [(zi 0), (zi 0), (zi 0), (zi 0), (zi 0)]), vm 5 0, vo 6 (.call 30 [(.t 5)]), vo 4 (.sla 6 1 (.g 1) (some (ci 1)) none), vo 7 (.call 29 [(.t 4), (.t 6)]), bk 8 .add 7 1, vo 9 (.build [(zi 0), (zi 0), (zi 0), (zi 0), (zi 0)] [(0, 1, (.t 8))]), vu (.st 5 (.t 3) (.t 9))]])) (.seq (.seq (.reg [vf 10 0 3, vs 11 10, bk 12 .gtr 11 1]) (.wk (.cond (.t 12) (.reg [vm 13 0, vo 14 (.call 31 [(.t 13)]), vf 15 1 3, vu (.st 1 (.t 15) (.t 14))]) .skip))) (.seq (.seq (.reg [vf 16 0 3, vs 17 16]) (.block 0 (.seq (.reg [bk 19 .eql 17 0, vm 18 19]) (.wk (.cond (.t 18) (.reg [vm 20 0, vo 21 (.nilchk (.t 20)), vf 22 1 21, vu (.st 1 (.t 22) (cb true))]) (.seq (.reg [bk 24 .eql 17 2, vm 23 24]) (.wk (.cond (.t 23) (.seq (.reg [vm 25 0, vo 26 (.call 31 [(.t 25)]), vf 27 2 3, vu (.st 1 (.t 27) (.t 26))]) (.reg [vm 28 0, vo 29 (.call 31 [(.t 28)]), vf 30 3 3, vu (.st 1 (.t 30) (.t 29))])) (.seq (.reg [bk 32 .eql 17 3, vm 31 32]) (.wk (.cond (.t 31) (.seq (.reg [vm 33 0, vo 34 (.call 31 [(.t 33)]), vf 35 3 3, vu (.st 1 (.t 35) (.t 34))]) (.reg [vm 36 0, vo 37 (.call 31 [(.t 36)]), vf 38 4 3, vu (.st 1 (.t 38) (.t 37))])) .skip))))))))))) (.seq (.reg [vl 39 5 3, vu (.st 5 (.t 2) (.t 39))]) .ret))))), [.cell 2 true 5]⟩
theorem low32 : lowF Tryd.prog 32 = some F32.strip := by kernel_rfl
theorem fok32 : fOk Tryd.prog 32 = true := by kernel_rfl
theorem lines_taker_call_ok (htab_lines_calls : constG G 1 = .one (.d (.k tab_lines_callsD))) (hvar3 : VarE G 3) (hvar4 : VarE G 4) (htab_strconv_uint64pow10 : constG G 7 = .one (.d (.k tab_strconv_uint64pow10D))) (p0 : LinesTaker) (r : LinesTaker × Call) (h : lines_taker_call p0 = some r) : FnX Tryd.prog G 32 [ptrX] [.l 1 (p0.l.map encS), .b p0.bad] (fun c rs => c = [.l 1 (r.1.l.map encS), .b r.1.bad] ∧ rs = [.agg (r.2.encO)]) := by
 refine FnX.of [1] low32 fok32 (by exact Nat.le_of_ble_eq_true rfl) (by exact Nat.le_of_ble_eq_true rfl) ?_
 rw [lines_taker_call] at h
 replace h := Hd.mk h
 simp only [F32, go_sem]
 try simp only [*, go_sem]
 refine jn3 h (fun b1_1 b1_2 b1_3 => [zP 0 0, zP 2 1, zP 3 2, zP 1000000 0]) (fun b1_1 b1_2 b1_3 => [ox [.d (.l 1 (b1_1.map encS)), .d (.b b1_2)], ox [zi 0, zi 0, zi 0, zi 0, zi 0], ox [zi b1_3, zi 0, zi 0, zi 0, zi 0]]) (fun k2 h => ?_) (fun b1_1 b1_2 b1_3 h => ?_)
 try simp only [*, go_sem]
 refine ⟨?_, ?_, ?_, ?_, ?_, ?_, ?_, ?_, ?_, ?_, ?_, ?_, ?_, ?_, ?_, ?_, ?_, ?_, ?_, ?_, ?_⟩
 have hmx6 : (6 : Nat) ≤ maxLen := by decide
 try simp only [*, go_sem]
 refine ct h 0 [] [1] [] (lines_taker_next_ok G p0) (fun v3 h => ?_)
 try simp only [*, go_sem]
 refine cr h (slices_Index_string_ok G ((tab_lines_calls.drop 1).take 5) v3.2) (fun v4 h => ?_)
 try simp only [*, go_sem]
 exact jc (v3.1.l, v3.1.bad, IntKind.i64.wrap (v4 + 1)) h.e [some 0, some 1, some 2]
 have hmx6 : (6 : Nat) ≤ maxLen := by decide
 try simp only [*, go_sem]
 refine ct h 0 [] [1] [] (lines_taker_next_ok G p0) (fun v3 h => ?_)
 try simp only [*, go_sem]
 refine cr h (slices_Index_string_ok G ((tab_lines_calls.drop 1).take 5) v3.2) (fun v4 h => ?_)
 try simp only [*, go_sem]
 exact jc (v3.1.l, v3.1.bad, IntKind.i64.wrap (v4 + 1)) h.e [some 0, some 1, some 2]
 have hmx6 : (6 : Nat) ≤ maxLen := by decide
 try simp only [*, go_sem]
 refine ct h 0 [] [1] [] (lines_taker_next_ok G p0) (fun v3 h => ?_)
 try simp only [*, go_sem]
 refine cr h (slices_Index_string_ok G ((tab_lines_calls.drop 1).take 5) v3.2) (fun v4 h => ?_)
 try simp only [*, go_sem]
 exact jc (v3.1.l, v3.1.bad, IntKind.i64.wrap (v4 + 1)) h.e [some 0, some 1, some 2]
 have hmx6 : (6 : Nat) ≤ maxLen := by decide
 try simp only [*, go_sem]
 refine ct h 0 [] [1] [] (lines_taker_next_ok G p0) (fun v3 h => ?_)
 try simp only [*, go_sem]
 refine cr h (slices_Index_string_ok G ((tab_lines_calls.drop 1).take 5) v3.2) (fun v4 h => ?_)
 try simp only [*, go_sem]
 exact jc (v3.1.l, v3.1.bad, IntKind.i64.wrap (v4 + 1)) h.e [some 0, some 1, some 2]
 have hmx6 : (6 : Nat) ≤ maxLen := by decide
 try simp only [*, go_sem]
 refine ct h 0 [] [1] [] (lines_taker_next_ok G p0) (fun v3 h => ?_)
 try simp only [*, go_sem]
 refine cr h (slices_Index_string_ok G ((tab_lines_calls.drop 1).take 5) v3.2) (fun v4 h => ?_)
 try simp only [*, go_sem]
 exact jc (v3.1.l, v3.1.bad, IntKind.i64.wrap (v4 + 1)) h.e [some 0, some 1, some 2]
 have hmx6 : (6 : Nat) ≤ maxLen := by decide
 try simp only [*, go_sem]
 refine ct h 0 [] [1] [] (lines_taker_next_ok G p0) (fun v3 h => ?_)
 try simp only [*, go_sem]
 refine cr h (slices_Index_string_ok G ((tab_lines_calls.drop 1).take 5) v3.2) (fun v4 h => ?_)
 try simp only [*, go_sem]
 exact jc (v3.1.l, v3.1.bad, IntKind.i64.wrap (v4 + 1)) h.e [some 0, some 1, some 2]
 have hmx6 : (6 : Nat) ≤ maxLen := by decide
 try simp only [*, go_sem]
 refine ct h 0 [] [1] [] (lines_taker_next_ok G p0) (fun v3 h => ?_)
 try simp only [*, go_sem]
 refine cr h (slices_Index_string_ok G ((tab_lines_calls.drop 1).take 5) v3.2) (fun v4 h => ?_)
 try simp only [*, go_sem]
 exact jc (v3.1.l, v3.1.bad, IntKind.i64.wrap (v4 + 1)) h.e [some 0, some 1, some 2]
 have hmx6 : (6 : Nat) ≤ maxLen := by decide
 try simp only [*, go_sem]
 refine ct h 0 [] [1] [] (lines_taker_next_ok G p0) (fun v3 h => ?_)
 try simp only [*, go_sem]
 refine cr h (slices_Index_string_ok G ((tab_lines_calls.drop 1).take 5) v3.2) (fun v4 h => ?_)
 try simp only [*, go_sem]
 exact jc (v3.1.l, v3.1.bad, IntKind.i64.wrap (v4 + 1)) h.e [some 0, some 1, some 2]
 have hmx6 : (6 : Nat) ≤ maxLen := by decide
 try simp only [*, go_sem]
 refine ct h 0 [] [1] [] (lines_taker_next_ok G p0) (fun v3 h => ?_)
 try simp only [*, go_sem]
 refine cr h (slices_Index_string_ok G ((tab_lines_calls.drop 1).take 5) v3.2) (fun v4 h => ?_)
 try simp only [*, go_sem]
 exact jc (v3.1.l, v3.1.bad, IntKind.i64.wrap (v4 + 1)) h.e [some 0, some 1, some 2]
 have hmx6 : (6 : Nat) ≤ maxLen := by decide
 try simp only [*, go_sem]
 refine ct h 0 [] [1] [] (lines_taker_next_ok G p0) (fun v3 h => ?_)
 try simp only [*, go_sem]
 refine cr h (slices_Index_string_ok G ((tab_lines_calls.drop 1).take 5) v3.2) (fun v4 h => ?_)
 try simp only [*, go_sem]
 exact jc (v3.1.l, v3.1.bad, IntKind.i64.wrap (v4 + 1)) h.e [some 0, some 1, some 2]
 have hmx6 : (6 : Nat) ≤ maxLen := by decide
 try simp only [*, go_sem]
 refine ct h 0 [] [1] [] (lines_taker_next_ok G p0) (fun v3 h => ?_)
 try simp only [*, go_sem]
 refine cr h (slices_Index_string_ok G ((tab_lines_calls.drop 1).take 5) v3.2) (fun v4 h => ?_)
 try simp only [*, go_sem]
 exact jc (v3.1.l, v3.1.bad, IntKind.i64.wrap (v4 + 1)) h.e [some 0, some 1, some 2]
 try simp only [*, go_sem]
 refine ct h 0 [] [1] [] (lines_taker_next_ok G p0) (fun v3 h => ?_)
 have hmx6 : (6 : Nat) ≤ maxLen := by decide
 try simp only [*, go_sem]
 refine cr h (slices_Index_string_ok G ((tab_lines_calls.drop 1).take 5) v3.2) (fun v4 h => ?_)
 try simp only [*, go_sem]
 exact jc (v3.1.l, v3.1.bad, IntKind.i64.wrap (v4 + 1)) h.e [some 0, some 1, some 2]
 try simp only [*, go_sem]
 refine ct h 0 [] [1] [] (lines_taker_next_ok G p0) (fun v3 h => ?_)
 have hmx6 : (6 : Nat) ≤ maxLen := by decide
 try simp only [*, go_sem]
 refine cr h (slices_Index_string_ok G ((tab_lines_calls.drop 1).take 5) v3.2) (fun v4 h => ?_)
 try simp only [*, go_sem]
 exact jc (v3.1.l, v3.1.bad, IntKind.i64.wrap (v4 + 1)) h.e [some 0, some 1, some 2]
 try simp only [*, go_sem]
 refine ct h 0 [] [1] [] (lines_taker_next_ok G p0) (fun v3 h => ?_)
 have hmx6 : (6 : Nat) ≤ maxLen := by decide
 try simp only [*, go_sem]
 refine cr h (slices_Index_string_ok G ((tab_lines_calls.drop 1).take 5) v3.2) (fun v4 h => ?_)
 try simp only [*, go_sem]
 exact jc (v3.1.l, v3.1.bad, IntKind.i64.wrap (v4 + 1)) h.e [some 0, some 1, some 2]
 try simp only [*, go_sem]
 refine ct h 0 [] [1] [] (lines_taker_next_ok G p0) (fun v3 h => ?_)
 have hmx6 : (6 : Nat) ≤ maxLen := by decide
 try simp only [*, go_sem]
 refine cr h (slices_Index_string_ok G ((tab_lines_calls.drop 1).take 5) v3.2) (fun v4 h => ?_)
 try simp only [*, go_sem]
 exact jc (v3.1.l, v3.1.bad, IntKind.i64.wrap (v4 + 1)) h.e [some 0, some 1, some 2]
 try simp only [*, go_sem]
 refine ct h 0 [] [1] [] (lines_taker_next_ok G p0) (fun v3 h => ?_)
 have hmx6 : (6 : Nat) ≤ maxLen := by decide
 try simp only [*, go_sem]
 refine cr h (slices_Index_string_ok G ((tab_lines_calls.drop 1).take 5) v3.2) (fun v4 h => ?_)
 try simp only [*, go_sem]
 exact jc (v3.1.l, v3.1.bad, IntKind.i64.wrap (v4 + 1)) h.e [some 0, some 1, some 2]
 have hmx6 : (6 : Nat) ≤ maxLen := by decide
 try simp only [*, go_sem]
 refine ct h 0 [] [1] [] (lines_taker_next_ok G p0) (fun v3 h => ?_)
 try simp only [*, go_sem]
 refine cr h (slices_Index_string_ok G ((tab_lines_calls.drop 1).take 5) v3.2) (fun v4 h => ?_)
 try simp only [*, go_sem]
 exact jc (v3.1.l, v3.1.bad, IntKind.i64.wrap (v4 + 1)) h.e [some 0, some 1, some 2]
 try simp only [*, go_sem]
 refine ct h 0 [] [1] [] (lines_taker_next_ok G p0) (fun v3 h => ?_)
 have hmx6 : (6 : Nat) ≤ maxLen := by decide
 try simp only [*, go_sem]
 refine cr h (slices_Index_string_ok G ((tab_lines_calls.drop 1).take 5) v3.2) (fun v4 h => ?_)
 try simp only [*, go_sem]
 exact jc (v3.1.l, v3.1.bad, IntKind.i64.wrap (v4 + 1)) h.e [some 0, some 1, some 2]
 have hmx6 : (6 : Nat) ≤ maxLen := by decide
 try simp only [*, go_sem]
 refine ct h 0 [] [1] [] (lines_taker_next_ok G p0) (fun v3 h => ?_)
 try simp only [*, go_sem]
 refine cr h (slices_Index_string_ok G ((tab_lines_calls.drop 1).take 5) v3.2) (fun v4 h => ?_)
 try simp only [*, go_sem]
 exact jc (v3.1.l, v3.1.bad, IntKind.i64.wrap (v4 + 1)) h.e [some 0, some 1, some 2]
 have hmx6 : (6 : Nat) ≤ maxLen := by decide
 try simp only [*, go_sem]
 refine ct h 0 [] [1] [] (lines_taker_next_ok G p0) (fun v3 h => ?_)
 try simp only [*, go_sem]
 refine cr h (slices_Index_string_ok G ((tab_lines_calls.drop 1).take 5) v3.2) (fun v4 h => ?_)
 try simp only [*, go_sem]
 exact jc (v3.1.l, v3.1.bad, IntKind.i64.wrap (v4 + 1)) h.e [some 0, some 1, some 2]
 try simp only [*, go_sem]
 refine ct h 0 [] [1] [] (lines_taker_next_ok G p0) (fun v3 h => ?_)
 have hmx6 : (6 : Nat) ≤ maxLen := by decide
 try simp only [*, go_sem]
 refine cr h (slices_Index_string_ok G ((tab_lines_calls.drop 1).take 5) v3.2) (fun v4 h => ?_)
 try simp only [*, go_sem]
 exact jc (v3.1.l, v3.1.bad, IntKind.i64.wrap (v4 + 1)) h.e [some 0, some 1, some 2]
 try simp only [*, go_sem]
 refine jn3 h (fun b5_1 b5_2 b5_3 => [zP 0 0, zP 2 1, zP 3 2, zP 1000000 0]) (fun b5_1 b5_2 b5_3 => [ox [.d (.l 1 (b5_1.map encS)), .d (.b b5_2)], ox [zi 0, zi 0, zi 0, zi 0, zi 0], ox [zi b1_3, zi b5_3, zi 0, zi 0, zi 0]]) (fun k6 h => ?_) (fun b5_1 b5_2 b5_3 h => ?_)
 refine oi h (fun hb7 h => ?_) (fun hb7 h => ?_)
 try simp only [*, go_sem]
 refine ct h 0 [] [1] [] (lines_taker_number_ok G hvar3 hvar4 htab_strconv_uint64pow10 (LinesTaker.mk b1_1 b1_2)) (fun v8 h => ?_)
 try simp only [*, go_sem]
 exact jc (v8.1.l, v8.1.bad, v8.2) h.e [some 0, some 1, some 2]
 try simp only [*, go_sem]
 exact jc (b1_1, b1_2, 0) h.e [some 0, some 1, some 2]
 try simp only [*, go_sem]
 refine jn5 h (fun b9_1 b9_2 b9_3 b9_4 b9_5 => [zP 2 0, zP 3 1, zP 1000000 2]) (fun b9_1 b9_2 b9_3 b9_4 b9_5 => [ox [zi 0, zi 0, zi 0, zi 0, zi 0], ox [zi b1_3, zi b5_3, zi b9_1, zi b9_2, zi b9_3], ox [.d (.l 1 (b9_4.map encS)), .d (.b b9_5)]]) (fun k10 h => ?_) (fun b9_1 b9_2 b9_3 b9_4 b9_5 h => ?_)
 refine oi h (fun hb11 h => ?_) (fun hb11 h => ?_)
 try simp only [*, go_sem]
 exact jc (0, 0, 0, b5_1, true) h.e [some 1, some 2, some 0]
 try simp only [*, go_sem]
 refine jn5 h (fun b12_1 b12_2 b12_3 b12_4 b12_5 => [zP 2 0, zP 3 1, zP 1000000 2]) (fun b12_1 b12_2 b12_3 b12_4 b12_5 => [ox [zi 0, zi 0, zi 0, zi 0, zi 0], ox [zi b1_3, zi b5_3, zi b12_1, zi b12_2, zi b12_3], ox [.d (.l 1 (b12_4.map encS)), .d (.b b12_5)]]) (fun k13 h => ?_) (fun b12_1 b12_2 b12_3 b12_4 b12_5 h => ?_)
 refine oi h (fun hb14 h => ?_) (fun hb14 h => ?_)
 try simp only [*, go_sem]
 refine ct h 0 [] [1] [] (lines_taker_number_ok G hvar3 hvar4 htab_strconv_uint64pow10 (LinesTaker.mk b5_1 b5_2)) (fun v15 h => ?_)
 try simp only [*, go_sem]
 refine ct h 0 [] [1] [] (lines_taker_number_ok G hvar3 hvar4 htab_strconv_uint64pow10 v15.1) (fun v16 h => ?_)
 try simp only [*, go_sem]
 exact jc (v15.2, v16.2, 0, v16.1.l, v16.1.bad) h.e [some 1, some 2, some 0]
 try simp only [*, go_sem]
 refine jn4 h (fun b17_1 b17_2 b17_3 b17_4 => [zP 2 0, zP 3 1, zP 1000000 2]) (fun b17_1 b17_2 b17_3 b17_4 => [ox [zi 0, zi 0, zi 0, zi 0, zi 0], ox [zi b1_3, zi b5_3, zi 0, zi b17_1, zi b17_2], ox [.d (.l 1 (b17_3.map encS)), .d (.b b17_4)]]) (fun k18 h => ?_) (fun b17_1 b17_2 b17_3 b17_4 h => ?_)
 refine oi h (fun hb19 h => ?_) (fun hb19 h => ?_)
 try simp only [*, go_sem]
 refine ct h 0 [] [1] [] (lines_taker_number_ok G hvar3 hvar4 htab_strconv_uint64pow10 (LinesTaker.mk b5_1 b5_2)) (fun v20 h => ?_)
 try simp only [*, go_sem]
 refine ct h 0 [] [1] [] (lines_taker_number_ok G hvar3 hvar4 htab_strconv_uint64pow10 v20.1) (fun v21 h => ?_)
 try simp only [*, go_sem]
 exact jc (v20.2, v21.2, v21.1.l, v21.1.bad) h.e [some 1, some 2, some 0]
 try simp only [*, go_sem]
 exact jc (0, 0, b5_1, b5_2) h.e [some 1, some 2, some 0]
 try simp only [*, go_sem]
 exact jc (0, b17_1, b17_2, b17_3, b17_4) h.e [some 0, some 1, some 2]
 try simp only [*, go_sem]
 exact jc (b12_1, b12_2, b12_3, b12_4, b12_5) h.e [some 0, some 1, some 2]
 cases h.e
 try simp only [*, go_sem]
 refine eti [] ?_
 simp only [*, go_sem, mA, mS]
theorem idx50_ok (p0 : ByteArray) (p1 : Int) (r : Int) (h : idxF p0 p1 = some r) : FnRO Tryd.prog G 50 [.one (.d (.s p0)), .one (.d (.i .u8 p1))] (fun rs => rs = [.one (.i .i64 r)]) := idx_okF idxLays rfl (by kernel_rfl) p0 p1 r h
def lines_taker_text_L1 (v1 : LinesTaker × ByteArray) (k6 : (List Int) → Option (LinesTaker × ByteArray)) : Nat → Int → (List Int) → Option (LinesTaker × ByteArray)
 | 0, _, _ => none
 | n8 + 1, a7_1, a7_2 => (if (decide (a7_1 < ((v1.2.size : Nat) : Int))) = true then (if 0 ≤ a7_1 ∧ a7_1 < ((v1.2.size : Nat) : Int) then (Option.bind (idxF bs_4032af8d (((v1.2.data.toList.getD a7_1.toNat 0).toNat : Nat) : Int)) fun v11 => (if 0 ≤ IntKind.i64.wrap (a7_1 + 1) ∧ IntKind.i64.wrap (a7_1 + 1) < ((v1.2.size : Nat) : Int) then (Option.bind (idxF bs_4032af8d (((v1.2.data.toList.getD ((IntKind.i64.wrap (a7_1 + 1)).toNat) 0).toNat : Nat) : Int)) fun v13 => (if (decide (v11 < 0)) = true then (some ((LinesTaker.mk v1.1.l true), (⟨#[]⟩ : ByteArray))) else (if (decide (v13 < 0)) = true then (some ((LinesTaker.mk v1.1.l true), (⟨#[]⟩ : ByteArray))) else (if fits 1 (a7_2.length + 1) then (lines_taker_text_L1 v1 k6 n8 (IntKind.i64.wrap (a7_1 + 2)) (a7_2 ++ [IntKind.u8.wrap (orI64 (IntKind.i64.wrap (v11 * 2 ^ 4)) v13)])) else none)))) else none)) else none) else (k6 a7_2))
def lines_taker_text (p0 : LinesTaker) : Option (LinesTaker × ByteArray) := (Option.bind (lines_taker_next p0) fun v1 => (if (((v1.2.size : Nat) : Int).tmod 2 != 1) = true then (some ((LinesTaker.mk v1.1.l true), (⟨#[]⟩ : ByteArray))) else (if 0 ≤ 0 ∧ 0 < ((v1.2.size : Nat) : Int) then (if ((((v1.2.data.toList.getD 0 0).toNat : Nat) : Int) != 46) = true then (some ((LinesTaker.mk v1.1.l true), (⟨#[]⟩ : ByteArray))) else (withK (fun (b5_1 : List Int) => (some (v1.1, (strOfNums b5_1)))) fun k6 => (lines_taker_text_L1 v1 k6 (v1.2.size + 1) 1 []))) else none)))
def F33 : VFn := ⟨56, (.seq (.reg [vo 2 (.mv (.c (.one (.d (.s ⟨#[]⟩)))))]) (.seq (.reg [vm 8 0, vo 9 (.call 30 [(.t 8)]), vm 3 9]) (.seq (.seq (.reg [vm 10 3, vo 11 (.lens (.t 10)), bk 12 .rem 11 2, bk 13 .neq 12 1, vm 14 13, gf 15 14 (.mv (.t 3)), gf 16 14 (.ix (.t 15) (ci 0)), gf 17 14 (.bin .i .neq (.t 16) (.c (.one (.d (.i .u8 46))))), vo 18 (.pick (.t 14) (cb true) (.t 17))]) (.cond (.t 18) (.seq (.reg [vm 19 0, vo 20 (.nilchk (.t 19)), vf 21 1 20, vu (.st 1 (.t 21) (cb true))]) (.seq (.reg [vo 2 (.mv (.c (.one (.d (.s ⟨#[]⟩)))))]) .ret)) .skip)) (.seq (.reg [vo 4 (.mv (.c (.one (.nl 1))))]) (.seq (.seq (.reg [mi 5 1]) (.wk (.block 0 (.loop (.seq (.seq (.reg [vm 22 5, vm 23 3, vo 24 (.lens (.t 23)), bt 25 .lss 22 24]) (.cond (.t 25) .skip (.exit 0))) (.seq (.block 1 (.seq (.draw [vd (vm 28 3) 0, vd (vm 29 5) 0, vd (vo 30 (.ix (.t 28) (.t 29))) 3, vd (vo 31 (.call 50 [(.c (.one (.d (.s bs_4032af8d)))), (.t 30)])) 7, ⟨vm 32 3, 0, [3], none, []⟩, ⟨vm 33 5, 0, [3], none, []⟩, ⟨bk 34 .add 33 1, 32, [3], none, []⟩, ⟨vo 35 (.ix (.t 32) (.t 34)), 112, [3], none, []⟩, vd (vo 36 (.call 50 [(.c (.one (.d (.s bs_4032af8d)))), (.t 35)])) 255, vd (vm 6 31) 511, vd (vm 7 36) 1023]) (.seq (.seq (.reg [vm 37 6, bk 38 .lss 37 0, vm 39 38, gf 40 39 (.mv (.t 7)), gf 41 39 (.bin .i .lss (.t 40) (ci 0)), vo 42 (.pick (.t 39) (cb true) (.t 41))]) (.cond (.t 42) (.seq (.reg [vm 43 0, vo 44 (.nilchk (.t 43)), vf 45 1 44, vu (.st 1 (.t 45) (cb true))]) (.seq (.reg [vo 2 (.mv (.c (.one (.d (.s ⟨#[]⟩)))))]) .ret)) .skip)) (.reg [vm 46 4, vm 47 6, vo 48 (.bin .i .shl (.t 47) (.c (.one (.d (.i .u64 4))))), vm 49 7, bt 50 .or 48 49, vo 51 (.cvi .u8 (.t 50)), vo 52 (.bsl 1 1 [(.d (.i .u8 0))] [(0, (.t 51))]), vo 53 (.app 1 1 (.t 46) (.t 52)), vm 4 53])))) (.reg [vm 26 5, bk 27 .add 26 2, vm 5 27]))))))) (.seq (.reg [vm 54 4, vo 55 (.b2s (.t 54)), vm 2 55]) .ret)))))), [.t 2]⟩
theorem low33 : lowF Tryd.prog 33 = some F33.strip := by kernel_rfl
theorem fok33 : fOk Tryd.prog 33 = true := by kernel_rfl
theorem lines_taker_text_ok (p0 : LinesTaker) (r : LinesTaker × ByteArray) (h : lines_taker_text p0 = some r) : FnX Tryd.prog G 33 [ptrX] [.l 1 (p0.l.map encS), .b p0.bad] (fun c rs => c = [.l 1 (r.1.l.map encS), .b r.1.bad] ∧ rs = [.one (.s r.2)]) := by
 refine FnX.of [1] low33 fok33 (by exact Nat.le_of_ble_eq_true rfl) (by exact Nat.le_of_ble_eq_true rfl) ?_
 rw [lines_taker_text] at h
 replace h := Hd.mk h
 simp only [F33, go_sem]
 try simp only [*, go_sem]
 refine ct h 0 [] [1] [] (lines_taker_next_ok G p0) (fun v1 h => ?_)
 refine oi h (fun hb2 h => ?_) (fun hb2 h => ?_)
 cases h.e
 try simp only [*, go_sem]
 refine eti [] ?_
 simp only [*, go_sem, mA, mS]
 refine ck h (fun _ h => ?_)
 refine oi h (fun hb4 h => ?_) (fun hb4 h => ?_)
 cases h.e
 try simp only [*, go_sem]
 refine eti [] ?_
 simp only [*, go_sem, mA, mS]
 try simp only [*, go_sem]
 refine jn1 h (fun b5_1 => [zR 4 0 0 b5_1.length, zP 1000000 1]) (fun b5_1 => [oa 1 (b5_1.map encU8), ox v1.1.bx]) (fun k6 h => ?_) (fun b5_1 h => ?_)
 try simp only [*, go_sem]
 refine lp2 (lines_taker_text_L1 v1 k6) (fun a7_1 a7_2 => [zP 0 0, (3, .one (.d (.s v1.2))), zR 4 1 0 a7_2.length, zI 5 a7_1, zP 1000000 0]) (fun a7_1 a7_2 => [ox v1.1.bx, oa 1 (a7_2.map encU8)]) h [] [some 0, none] (fun n8 a7_1 a7_2 h => ?_) (by intros; rw [lines_taker_text_L1])
 rw [lines_taker_text_L1] at h
 refine oi h (fun hb9 h => ?_) (fun hb9 h => ?_)
 refine ck h (fun _ h => ?_)
 refine obk h (fun v11 hv11 h => ?_)
 try simp only [*, go_sem]
 refine cd (idx50_ok G bs_4032af8d (((v1.2.data.toList.getD a7_1.toNat 0).toNat : Nat) : Int) v11 hv11) ?_
 refine ck h (fun _ h => ?_)
 refine obk h (fun v13 hv13 h => ?_)
 try simp only [*, go_sem]
 refine cd (idx50_ok G bs_4032af8d (((v1.2.data.toList.getD ((IntKind.i64.wrap (a7_1 + 1)).toNat) 0).toNat : Nat) : Int) v13 hv13) ?_
 refine oi h (fun hb14 h => ?_) (fun hb14 h => ?_)
 have := of_decide_eq_true hb14
 cases h.e
 try simp only [*, go_sem]
 refine eti [] ?_
 simp only [*, go_sem, mA, mS]
 refine oi h (fun hb15 h => ?_) (fun hb15 h => ?_)
 have := of_decide_eq_true hb15
 cases h.e
 try simp only [*, go_sem]
 refine eti [] ?_
 simp only [*, go_sem, mA, mS]
 refine ck h (fun _ h => ?_)
 try simp only [*, go_sem]
 exact lc (IntKind.i64.wrap (a7_1 + 2), (a7_2 ++ [IntKind.u8.wrap (orI64 (IntKind.i64.wrap (v11 * 2 ^ 4)) v13)])) h.e [some 0, some 14]
 try simp only [*, go_sem]
 exact jc (a7_2) h.e [some 1, some 0]
 cases h.e
 try simp only [*, go_sem]
 refine eti [] ?_
 simp only [*, go_sem, mA, mS]
def lines_one_L1 (k27 : (List ByteArray) → Bool → (List Int) → Option (Act × Bool)) : Nat → (List ByteArray) → Bool → (List Int) → Option (Act × Bool)
 | 0, _, _, _ => none
 | n29 + 1, a28_1, a28_2, a28_3 => (if (decide (((a28_1.length : Nat) : Int) > 0)) = true then (if (!a28_2) = true then (withK (fun (b33_1 : List ByteArray) (b33_2 : Bool) (b33_3 : List Int) => (lines_one_L1 k27 n29 b33_1 b33_2 b33_3)) fun k34 => (Option.bind (lines_taker_number (LinesTaker.mk a28_1 false)) fun v35 => (if fits 8 (a28_3.length + 1) then (k34 v35.1.l v35.1.bad (a28_3 ++ [v35.2])) else none))) else (k27 a28_1 true a28_3)) else (k27 a28_1 a28_2 a28_3))
def lines_one (p0 : ByteArray) : Option (Act × Bool) := (Option.bind (splitF p0 bs_7215ee9c) fun v1 => (withK (fun (b2_1 : List ByteArray) (b2_2 : Bool) (b2_3 : Int) => (if (b2_3 == 0) = true then (some ((Act.mk b2_3 0 0 0 0 [] (Call.mk 0 0 0 0 0) (⟨#[]⟩ : ByteArray)), false)) else (withK (fun (b7_1 : List ByteArray) (b7_2 : Bool) (b7_3 : Int) => (withK (fun (b11_1 : Bool) => (withK (fun (b17_1 : List ByteArray) (b17_2 : Bool) (b17_3 : Int) (b17_4 : Int) (b17_5 : Int) (b17_6 : Int) (b17_7 : Int) (b17_8 : Int) (b17_9 : Int) (b17_10 : Int) (b17_11 : ByteArray) (b17_12 : List Int) => (withK (fun (b47_1 : Bool) => (some ((Act.mk b2_3 b7_3 b17_3 b17_4 b17_5 b17_12 (Call.mk b17_6 b17_7 b17_8 b17_9 b17_10) b17_11), b47_1))) fun k48 => (if (!b17_2) = true then (k48 (((b17_1.length : Nat) : Int) == 0)) else (k48 false)))) fun k18 => (if b11_1 = true then (Option.bind (lines_taker_number (LinesTaker.mk b7_1 b7_2)) fun v20 => (Option.bind (lines_taker_number v20.1) fun v21 => (Option.bind (lines_taker_number v21.1) fun v22 => (k18 v22.1.l v22.1.bad v20.2 v21.2 v22.2 0 0 0 0 0 (⟨#[]⟩ : ByteArray) [])))) else (withK (fun (b23_1 : List ByteArray) (b23_2 : Bool) (b23_3 : Int) (b23_4 : Int) (b23_5 : Int) (b23_6 : Int) (b23_7 : Int) (b23_8 : Int) (b23_9 : ByteArray) (b23_10 : List Int) => (k18 b23_1 b23_2 0 b23_3 0 b23_4 b23_5 b23_6 b23_7 b23_8 b23_9 b23_10)) fun k24 => (if (b2_3 == 6) = true then (withK (fun (b26_1 : List ByteArray) (b26_2 : Bool) (b26_3 : List Int) => (k24 b26_1 b26_2 0 0 0 0 0 0 (⟨#[]⟩ : ByteArray) b26_3)) fun k27 => (lines_one_L1 k27 (p0.size + 3) b7_1 b7_2 [])) else (withK (fun (b37_1 : List ByteArray) (b37_2 : Bool) (b37_3 : Int) (b37_4 : Int) (b37_5 : Int) (b37_6 : Int) (b37_7 : Int) (b37_8 : Int) (b37_9 : ByteArray) => (k24 b37_1 b37_2 b37_3 b37_4 b37_5 b37_6 b37_7 b37_8 b37_9 [])) fun k38 => (if (b2_3 == 1) = true then (Option.bind (lines_taker_number (LinesTaker.mk b7_1 b7_2)) fun v40 => (Option.bind (lines_taker_call v40.1) fun v41 => (k38 v41.1.l v41.1.bad v40.2 v41.2.Kind v41.2.N v41.2.Label v41.2.Key v41.2.Value (⟨#[]⟩ : ByteArray)))) else (withK (fun (b42_1 : List ByteArray) (b42_2 : Bool) (b42_3 : Int) (b42_4 : ByteArray) => (k38 b42_1 b42_2 b42_3 0 0 0 0 0 b42_4)) fun k43 => (if (b2_3 == 8) = true then (Option.bind (lines_taker_number (LinesTaker.mk b7_1 b7_2)) fun v45 => (Option.bind (lines_taker_text v45.1) fun v46 => (k43 v46.1.l v46.1.bad v45.2 v46.2))) else (k43 b7_1 b7_2 0 (⟨#[]⟩ : ByteArray))))))))))) fun k12 => (if (b2_3 == 2) = true then (k12 true) else (withK (fun (b14_1 : Bool) => (k12 b14_1)) fun k15 => (if (b2_3 == 3) = true then (k15 true) else (k15 (b2_3 == 4))))))) fun k8 => (if (b2_3 != 5) = true then (Option.bind (lines_taker_number (LinesTaker.mk b2_1 b2_2)) fun v10 => (k8 v10.1.l v10.1.bad v10.2)) else (k8 b2_1 b2_2 0))))) fun k3 => (Option.bind (lines_taker_next (LinesTaker.mk v1 false)) fun v4 => (Option.bind (slices_Index_string ((tab_lines_words.drop 1).take 8) v4.2) fun v5 => (k3 v4.1.l v4.1.bad (IntKind.i64.wrap (v5 + 1)))))))
def F17 : VFn := ⟨93, (.seq (.reg [vo 2 (.alloc [(zi 0), (zi 0), (zi 0), (zi 0), (zi 0), (.nl 1), (zi 0), (zi 0), (zi 0), (zi 0), (zi 0), (.d (.s ⟨#[]⟩))]), vo 3 (.mv (cb false))]) (.seq (.reg [vm 6 0, vo 7 (.call 10 [(.t 6), (.c (.one (.d (.s bs_7215ee9c))))]), vo 8 (.build [(.nl 1), (.d (.b false))] [(0, 1, (.t 7))]), vo 9 (.box 2 (.t 8)), vm 4 9]) (.seq (.wk (.orders [[vo 10 (.sla 9 1 (.g 0) (some (ci 1)) none), vm 11 4, vo 12 (.call 30 [(.t 11)]), vo 13 (.call 29 [(.t 10), (.t 12)]), bk 14 .add 13 1, vo 15 (.build [(zi 0), (zi 0), (zi 0), (zi 0), (zi 0), (.nl 1), (zi 0), (zi 0), (zi 0), (zi 0), (zi 0), (.d (.s ⟨#[]⟩))] [(0, 1, (.t 14))]), vo 5 (.alloc [(zi 0), (zi 0), (zi 0), (zi 0), (zi 0), (.nl 1), (zi 0), (zi 0), (zi 0), (zi 0), (zi 0), (.d (.s ⟨#[]⟩))]), vu (.st 12 (.t 5) (.t 15))], [vo 10 (.sla 9 1 (.g 0) (some (ci 1)) none), vm 11 4, vo 12 (.call 30 [(.t 11)]), vo 13 (.call 29 [(.t 10), (.t 12)]), bk 14 .add 13 1, vo 5 (.alloc [(zi 0), (zi 0), (zi 0), (zi 0), (zi 0), (.nl 1), (zi 0), (zi 0), (zi 0), (zi 0), (zi 0), (.d (.s ⟨#[]⟩))]), vo 15 (.build [(zi 0), (zi 0), (zi 0), (zi 0), (zi 0), (.nl 1), (zi 0), (zi 0), (zi 0), (zi 0), (zi 0), (.d (.s ⟨#[]⟩))] [(0, 1, (.t 14))]), vu (.st 12 (.t 5) (.t 15))], [vo 10 (.sla 9 1 (.g 0) (some (ci 1)) none), vm 11 4, vo 12 (.call 30 [(.t 11)]), vo 13 (.call 29 [(.t 10), (.t 12)]), vo 5 (.alloc [(zi 0), (zi 0), (zi 0), (zi 0), (zi 0), (.nl 1), (zi 0), (zi 0), (zi 0), (zi 0), (zi 0), (.d (.s ⟨#[]⟩))]), bk 14 .add 13 1, vo 15 (.build [(zi 0), (zi 0), (zi 0), (zi 0), (zi 0), (.nl 1), (zi 0), (zi 0), (zi 0), (zi 0), (zi 0), (.d (.s ⟨#[]⟩))] [(0, 1, (.t 14))]), vu (.st 12 (.t 5) (.t 15))], [vo 10 (.sla 9 1 (.g 0) (some (ci 1)) none), vm 11 4, vo 12 (.call 30 [(.t 11)]), vo 5 (.alloc [(zi 0), (zi 0), (zi 0), (zi 0), (zi 0), (.nl 1), (zi 0), (zi 0), (zi 0), (zi 0), (zi 0), (.d (.s ⟨#[]⟩))]), vo 13 (.call 29 [(.t 10), (.t 12)]), bk 14 .add 13 1, vo 15 (.build [(zi 0), (zi 0), (zi 0), (zi 0), (zi 0), (.nl 1), (zi 0), (zi 0), (zi 0), (zi 0), (zi 0), (.d (.s ⟨#[]⟩))] [(0, 1, (.t 14))]), vu (.st 12 (.t 5) (.t 15))], [vo 10 (.sla 9 1 (.g 0) (some (ci 1)) none), vm 11 4, vo 5 (.alloc [(zi 0), (zi 0), (zi 0), (zi 0), (zi 0), (.nl 1), (zi 0), (zi 0), (zi 0), (zi 0), (zi 0), (.d (.s ⟨#[]⟩))]), vo 12 (.call 30 [(.t 11)]), vo 13 (.call 29 [(.t 10), (.t 12)]), bk 14 .add 13 1, vo 15 (.build [(zi 0), (zi 0), (zi 0), (zi 0), (zi 0), (.nl 1), (zi 0), (zi 0), (zi 0), (zi 0), (zi 0), (.d (.s ⟨#[]⟩))] [(0, 1, (.t 14))]), vu (.st 12 (.t 5) (.t 15))], [vo 10 (.sla 9 1 (.g 0) (some (ci 1)) none), vo 5 (.alloc [(zi 0), (zi 0), (zi 0), (zi 0), (zi 0), (.nl 1), (zi 0), (zi 0), (zi 0), (zi 0), (zi 0), (.d (.s ⟨#[]⟩))]), vm 11 4, vo 12 (.call 30 [(.t 11)]), vo 13 (.call 29 [(.t 10), (.t 12)]), bk 14 .add 13 1, vo 15 (.build [(zi 0), (zi 0), (zi 0), (zi 0), (zi 0), (.nl 1), (zi 0), (zi 0), (zi 0), (zi 0), (zi 0), (.d (.s ⟨#[]⟩))] [(0, 1, (.t 14))]), vu (.st 12 (.t 5) (.t 15))], [vm 11 4, vo 10 (.sla 9 1 (.g 0) (some (ci 1)) none), vo 12 (.call 30 [(.t 11)]), vo 13 (.call 29 [(.t 10), (.t 12)]), bk 14 .add 13 1, vo 15 (.build [(zi 0), (zi 0), (zi 0), (zi 0), (zi 0), (.nl 1), (zi 0), (zi 0), (zi 0), (zi 0), (zi 0), (.d (.s ⟨#[]⟩))] [(0, 1, (.t 14))]), vo 5 (.alloc [(zi 0), (zi 0), (zi 0), (zi 0), (zi 0), (.nl 1), (zi 0), (zi 0), (zi 0), (zi 0), (zi 0), (.d (.s ⟨#[]⟩))]), vu (.st 12 (.t 5) (.t 15))], [vm 11 4, vo 10 (.sla 9 1 (.g 0) (some (ci 1)) none), vo 12 (.call 30 [(.t 11)]), vo 13 (.call 29 [(.t 10), (.t 12)]), bk 14 .add 13 1, vo 5 (.alloc [(zi 0), (zi 0), (zi 0), (zi 0), (zi 0), (.nl 1), (zi 0), (zi 0), (zi 0), (zi 0), (zi 0), (.d (.s ⟨#[]⟩))]), vo 15 (.build [(zi 0), (zi 0), (zi 0), (zi 0), (zi 0), (.nl 1), (zi 0), (zi 0), (zi 0), (zi 0), (zi 0), (.d (.s ⟨#[]⟩))] [(0, 1, (.t 14))]), vu (.st 12 (.t 5) (.t 15))], [vm 11 4, vo 10 (.sla 9 1 (.g 0) (some (ci 1)) none), vo 12 (.call 30 [(.t 11)]), vo 13 (.call 29 [(.t 10), (.t 12)]), vo 5 (.alloc [(zi 0), (zi 0), (zi 0), (zi 0), (zi 0), (.nl 1), (zi 0), (zi 0), (zi 0), (zi 0), (zi 0), (.d (.s ⟨#[]⟩))]), bk 14 .add 13 1, vo 15 (.build [(zi 0), (zi 0), (zi 0), (zi 0), (zi 0), (.nl 1), (zi 0), (zi 0), (zi 0), (zi 0), (zi 0), (.d (.s ⟨#[]⟩))] [(0, 1, (.t 14))]), vu (.st 12 (.t 5) (.t 15))], [vm 11 4, vo 10 (.sla 9 1 (.g 0) (some (ci 1)) none), vo 12 (.call 30 [(.t 11)]), vo 5 (.alloc [(zi 0), (zi 0), (zi 0), (zi 0), (zi 0), (.nl 1), (zi 0), (zi 0), (zi 0), (zi 0), (zi 0), (.d (.s ⟨#[]⟩))]), vo 13 (.call 29 [(.t 10), (.t 12)]), bk 14 .add 13 1, vo 15 (.build [(zi 0), (zi 0), (zi 0), (zi 0), (zi 0), (.nl 1), (zi 0), (zi 0), (zi 0), (zi 0), (zi 0), (.d (.s ⟨#[]⟩))] [(0, 1, (.t 14))]), vu (.st 12 (.t 5) (.t 15))], [vm 11 4, vo 10 (.sla 9 1 (.g 0) (some (ci 1)) none), vo 5 (.alloc [(zi 0), (zi 0), (zi 0), (zi 0), (zi 0), (.nl 1), (zi 0), (zi 0), (zi 0), (zi 0), (zi 0), (.d (.s ⟨#[]⟩))]), vo 12 (.call 30 [(.t 11)]), vo 13 (.call 29 [(.t 10), (.t 12)]), bk 14 .add 13 1, vo 15 (.build [(zi 0), (zi 0), (zi 0), (zi 0), (zi 0), (.nl 1), (zi 0), (zi 0), (zi 0), (zi 0), (zi 0), (.d (.s ⟨#[]⟩))] [(0, 1, (.t 14))]), vu (.st 12 (.t 5) (.t 15))], [vm 11 4, vo 12 (.call 30 [(.t 11)]), vo 10 (.sla 9 1 (.g 0) (some (ci 1)) none), vo 13 (.call 29 [(.t 10), (.t 12)]), bk 14 .add 13 1, vo 15 (.build [(zi 0), (zi 0), (zi 0), (zi 0), (zi 0), (.nl 1), (zi 0), (zi 0), (zi 0), (zi 0), (zi 0), (.d (.s ⟨#[]⟩))] [(0, 1, (.t 14))]), vo 5 (.alloc [(zi 0), (zi 0), (zi 0), (zi 0), (zi 0), (.nl 1), (zi 0), (zi 0), (zi 0), (zi 0), (zi 0), (.d (.s ⟨#[]⟩))]), vu (.st 12 (.t 5) (.t 15))], [vm 11 4, vo 12 (.call 30 [(.t 11)]), vo 10 (.sla 9 1 (.g 0) (some (ci 1)) none), vo 13 (.call 29 [(.t 10), (.t 12)]), bk 14 .add 13 1, vo 5 (.alloc [(zi 0), (zi 0), (zi 0), (zi 0), (zi 0), (.nl 1), (zi 0), (zi 0), (zi 0), (zi 0), (zi 0), (.d (.s ⟨#[]⟩))]), vo 15 (.build [(zi 0), (zi 0), (zi 0), (zi 0), (zi 0), (.nl 1), (zi 0), (zi 0), (zi 0), (zi 0), (zi 0), (.d (.s ⟨#[]⟩))] [(0, 1, (.t 14))]), vu (.st 12 (.t 5) (.t 15))], [vm 11 4, vo 12 (.call 30 [(.t 11)]), vo 10 (.sla 9 1 (.g 0) (some (ci 1)) none), vo 13 (.call 29 [(.t 10), (.t 12)]), vo 5 (.alloc [(zi 0), (zi 0), (zi 0), (zi 0), (zi 0), (.nl 1), (zi 0), (zi 0), (zi 0), (zi 0), (zi 0), (.d (.s ⟨#[]⟩))]), bk 14 .add 13 1, vo 15 (.build [(zi 0), (zi 0), (zi 0), (zi 0), (zi 0), (.nl 1), (zi 0), (zi 0), (zi 0), (zi 0), (zi 0), (.d (.s ⟨#[]⟩))] [(0, 1, (.t 14))]), vu (.st 12 (.t 5) (.t 15))], [vm 11 4, vo 12 (.call 30 [(.t 11)]), vo 10 (.sla 9 1 (.g 0) (some (ci 1)) none), vo 5 (.alloc [(zi 0), (zi 0), (zi 0), (zi 0), (zi 0), (.nl 1), (zi 0), (zi 0), (zi 0), (zi 0), (zi 0), (.d (.s ⟨#[]⟩))]), vo 13 (.call 29 [(.t 10), (.t 12)]), bk 14 .add 13 1, vo 15 (.build [(zi 0), (zi 0), (zi 0), (zi 0), (zi 0), (.nl 1), (zi 0), (zi 0), (zi 0), (zi 0), (zi 0), (.d (.s ⟨#[]⟩))] [(0, 1, (.t 14))]), vu (.st 12 (.t 5) (.t 15))], [vm 11 4, vo 12 (.call 30 [(.t 11)]), vo 5 (.alloc [(zi 0), (zi 0), (zi 0), (zi 0), (zi 0), (.nl 1), (zi 0), (zi 0), (zi 0), (zi 0), (zi 0), (.d (.s ⟨#[]⟩))]), vo 10 (.sla 9 1 (.g 0) (some (ci 1)) none), vo 13 (.call 29 [(.t 10), (.t 12)]), bk 14 .add 13 1, vo 15 (.build [(zi 0), (zi 0), (zi 0), (zi 0), (zi 0), (.nl 1), (zi 0), (zi 0), (zi 0), (zi 0), (zi 0), (.d (.s ⟨#[]⟩))] [(0, 1, (.t 14))]), vu (.st 12 (.t 5) (.t 15))], [vm 11 4, vo 5 (.alloc [(zi 0), (zi 0), (zi 0), (zi 0), (zi 0), (.nl 1), (zi 0), (zi 0), (zi 0), (zi 0), (zi 0), (.d (.s ⟨#[]⟩))]), vo 10 (.sla 9 1 (.g 0) (some (ci 1)) none), vo 12 (.call 30 [(.t 11)]), vo 13 (.call 29 [(.t 10), (.t 12)]), bk 14 .add 13 1, vo 15 (.build [(zi 0), (zi 0), (zi 0), (zi 0), (zi 0), (.nl 1), (zi 0), (zi 0), (zi 0), (zi 0), (zi 0), (.d (.s ⟨#[]⟩))] [(0, 1, (.t 14))]), vu (.st 12 (.t 5) (.t 15))], [vm 11 4, vo 5 (.alloc [(zi 0), (zi 0), (zi 0), (zi 0), (zi 0), (.nl 1), (zi 0), (zi 0), (zi 0), (zi 0), (zi 0), (.d (.s ⟨#[]⟩))]), vo 12 (.call 30 [(.t 11)]), vo 10 (.sla 9 1 (.g 0) (some (ci 1)) none), vo 13 (.call 29 [(.t 10), (.t 12)]), bk 14 .add 13 1, vo 15 (.build [(zi 0), (zi 0), (zi 0), (zi 0), (zi 0), (.nl 1), (zi 0), (zi 0), (zi 0), (zi 0), (zi 0), (.d (.s ⟨#[]⟩))] [(0, 1, (.t 14))]), vu (.st 12 (.t 5) (.t 15))], [vo 5 (.alloc [(zi 0), (zi 0), (zi 0), (zi 0), (zi 0), (.nl 1), (zi 0), (zi 0), (zi 0), (zi 0), (zi 0), (.d (.s ⟨#[]⟩))]), vo 10 (.sla 9 1 (.g 0) (some (ci 1)) none), vm 11 4, vo 12 (.call 30 [(.t 11)]), vo 13 (.call 29 [(.t 10), (.t 12)]), bk 14 .add 13 1, vo 15 (.build [(zi 0), (zi 0), (zi 0), (zi 0), (zi 0), (.nl 1), (zi 0), (zi 0), (zi 0), (zi 0), (zi 0), (.d (.s ⟨#[]⟩))] [(0, 1, (.t 14))]), vu (.st 12 (.t 5) (.t 15))], [vo 5 (.alloc [(zi 0), (zi 0), (zi 0), (zi 0), (zi 0), (.nl 1), (zi 0), (zi 0), (zi 0), (zi 0), (zi 0), (.d (.s ⟨#[]⟩))]), vm 11 4, vo 10 (.sla 9 1 (.g 0) (some (ci 1)) none), vo 12 (.call 30 [(.t 11)]), vo 13 (.call 29 [(.t 10), (.t 12)]), bk 14 .add 13 1, vo 15 (.build [(zi 0), (zi 0), (zi 0), (zi 0), (zi 0), (.nl 1), (zi 0), (zi 0), (zi 0), (zi 0), (zi 0), (.d (.s ⟨#[]⟩))] [(0, 1, (.t 14))]), vu (.st 12 (.t 5) (.t 15))], [vo 5 (.alloc [(zi 0), (zi 0), (zi 0), (zi 0), (zi 0), (.nl 1), (zi 0), (zi 0), (zi 0), (zi 0), (zi 0), (.d (.s ⟨#[]⟩))]), vm 11 4, vo 12 (.call 30 [(.t 11)]), vo 10 (.sla 9 1 (.g 0) (some (ci 1)) none), vo 13 (.call 29 [(.t 10), (.t 12)]), bk 14 .add 13 1, vo 15 (.build [(zi 0), (zi 0), (zi 0), (zi 0), (zi 0), (.nl 1), (zi 0), (zi 0), (zi 0), (zi 0), (zi 0), (.d (.s ⟨#[]⟩))] [(0, 1, (.t 14))]), vu (.st 12 (.t 5) (.t 15))]])) (.seq (.seq (.reg [vf 16 0 5, vs 17 16, bk 18 .eql 17 0]) (.cond (.t 18) (.seq (.reg [vl 19 12 5, vu (.st 12 (.t 2) (.t 19)), vo 3 (.mv (cb false))]) .ret) .skip)) (.seq (.seq (.reg [vf 20 0 5, vs 21 20, bk 22 .neq 21 5]) (.wk (.cond (.t 22) (.reg [vm 23 4, vo 24 (.call 31 [(.t 23)]), vf 25 1 5, vu (.st 1 (.t 25) (.t 24))]) .skip))) (.seq (.seq (.reg [vf 26 0 5, vs 27 26]) (.block 0 (.seq (.seq (.reg [bk 29 .eql 27 2, vm 28 29]) (.wk (.cond (.t 28) .skip (.seq (.reg [bk 30 .eql 27 3, vm 28 30]) (.wk (.cond (.t 28) .skip (.reg [bk 31 .eql 27 4, vm 28 31]))))))) (.wk (.cond (.t 28) (.seq (.reg [vm 32 4, vo 33 (.call 31 [(.t 32)]), vf 34 2 5, vu (.st 1 (.t 34) (.t 33))]) (.seq (.reg [vm 35 4, vo 36 (.call 31 [(.t 35)]), vf 37 3 5, vu (.st 1 (.t 37) (.t 36))]) (.reg [vm 38 4, vo 39 (.call 31 [(.t 38)]), vf 40 4 5, vu (.st 1 (.t 40) (.t 39))]))) (.seq (.reg [bk 42 .eql 27 6, vm 41 42]) (.wk (.cond (.t 41) (.wk (.block 1 (.loop (.seq (.seq (.reg [vm 43 4, vo 44 (.nilchk (.t 43)), vf 45 0 44, vs 46 45, ln 47 46, bk 48 .gtr 47 0, vm 49 48, gt 50 49 (.mv (.t 4)), gt 51 49 (.nilchk (.t 50)), gt 52 49 (.fa 1 (.t 51)), gt 53 49 (.ld false 1 (.t 52)), gt 54 49 (.un .not (.t 53)), vo 55 (.pick (.t 49) (.t 54) (cb false))]) (.cond (.t 55) .skip (.exit 1))) (.block 2 (.wk (.orders [[vf 56 5 5, vs 57 56, vm 58 4, vo 59 (.call 31 [(.t 58)]), vo 60 (.bsl 1 1 [(zi 0)] [(0, (.t 59))]), vo 61 (.app 1 8 (.t 57) (.t 60)), vf 62 5 5, vu (.st 1 (.t 62) (.t 61))], [vf 56 5 5, vm 58 4, vs 57 56, vo 59 (.call 31 [(.t 58)]), vo 60 (.bsl 1 1 [(zi 0)] [(0, (.t 59))]), vo 61 (.app 1 8 (.t 57) (.t 60)), vf 62 5 5, vu (.st 1 (.t 62) (.t 61))], [vf 56 5 5, vm 58 4, vo 59 (.call 31 [(.t 58)]), vs 57 56, vo 60 (.bsl 1 1 [(zi 0)] [(0, (.t 59))]), vo 61 (.app 1 8 (.t 57) (.t 60)), vf 62 5 5, vu (.st 1 (.t 62) (.t 61))], [vf 56 5 5, vm 58 4, vo 59 (.call 31 [(.t 58)]), vo 60 (.bsl 1 1 [(zi 0)] [(0, (.t 59))]), vs 57 56, vo 61 (.app 1 8 (.t 57) (.t 60)), vf 62 5 5, vu (.st 1 (.t 62) (.t 61))], [vm 58 4, vf 56 5 5, vs 57 56, vo 59 (.call 31 [(.t 58)]), vo 60 (.bsl 1 1 [(zi 0)] [(0, (.t 59))]), vo 61 (.app 1 8 (.t 57) (.t 60)), vf 62 5 5, vu (.st 1 (.t 62) (.t 61))], [vm 58 4, vf 56 5 5, vo 59 (.call 31 [(.t 58)]), vs 57 56, vo 60 (.bsl 1 1 [(zi 0)] [(0, (.t 59))]), vo 61 (.app 1 8 (.t 57) (.t 60)), vf 62 5 5, vu (.st 1 (.t 62) (.t 61))], [vm 58 4, vf 56 5 5, vo 59 (.call 31 [(.t 58)]), vo 60 (.bsl 1 1 [(zi 0)] [(0, (.t 59))]), vs 57 56, vo 61 (.app 1 8 (.t 57) (.t 60)), vf 62 5 5, vu (.st 1 (.t 62) (.t 61))], [vm 58 4, vo 59 (.call 31 [(.t 58)]), vf 56 5 5, vs 57 56, vo 60 (.bsl 1 1 [(zi 0)] [(0, (.t 59))]), vo 61 (.app 1 8 (.t 57) (.t 60)), vf 62 5 5, vu (.st 1 (.t 62) (.t 61))], [vm 58 4, vo 59 (.call 31 [(.t 58)]), vf 56 5 5, vo 60 (.bsl 1 1 [(zi 0)] [(0, (.t 59))]), vs 57 56, vo 61 (.app 1 8 (.t 57) (.t 60)), vf 62 5 5, vu (.st 1 (.t 62) (.t 61))], [vm 58 4, vo 59 (.call 31 [(.t 58)]), vo 60 (.bsl 1 1 [(zi 0)] [(0, (.t 59))]), vf 56 5 5, vs 57 56, vo 61 (.app 1 8 (.t 57) (.t 60)), vf 62 5 5, vu (.st 1 (.t 62) (.t 61))]]))))))) (.seq (.reg [bk 64 .eql 27 1, vm 63 64]) (.wk (.cond (.t 63) (.seq (.reg [vm 65 4, vo 66 (.call 31 [(.t 65)]), vf 67 3 5, vu (.st 1 (.t 67) (.t 66))]) (.reg [vm 68 4, vo 69 (.call 32 [(.t 68)]), vf 70 6 5, vu (.st 5 (.t 70) (.t 69))])) (.seq (.reg [bk 72 .eql 27 8, vm 71 72]) (.wk (.cond (.t 71) (.seq (.reg [vm 73 4, vo 74 (.call 31 [(.t 73)]), vf 75 3 5, vu (.st 1 (.t 75) (.t 74))]) (.reg [vm 76 4, vo 77 (.call 33 [(.t 76)]), vf 78 11 5, vu (.st 1 (.t 78) (.t 77))])) .skip)))))))))))))) (.seq (.wk (.draw [vd (vl 79 12 5) 0, vd (vm 80 4) 0, vd (vo 81 (.nilchk (.t 80))) 2, vd (vf 82 1 81) 6, vd (vs 83 82) 14, vd (nt 84 83) 30, vd (vm 85 84) 62, vd (gt 86 85 (.mv (.t 4))) 126, ⟨gt 87 85 (.nilchk (.t 86)), 254, [], none, [0]⟩, ⟨gt 88 85 (.fa 0 (.t 87)), 510, [], none, [0]⟩, ⟨gt 89 85 (.ld false 1 (.t 88)), 1022, [], none, [0]⟩, ⟨gt 90 85 (.len (.t 89)), 2046, [], none, [0]⟩, vd (gt 91 85 (.bin .i .eql (.t 90) (ci 0))) 4094, vd (vo 92 (.pick (.t 85) (.t 91) (cb false))) 8190, ⟨vu (.st 12 (.t 2) (.t 79)), 127, [], (some 0), []⟩, vd (vm 3 92) 0x7fff])) .ret))))))), [.cell 2 true 12, .t 3]⟩
theorem low17 : lowF Tryd.prog 17 = some F17.strip := by kernel_rfl
theorem fok17 : fOk Tryd.prog 17 = true := by kernel_rfl
theorem lines_one_ok (htab_lines_words : constG G 0 = .one (.d (.k tab_lines_wordsD))) (htab_lines_calls : constG G 1 = .one (.d (.k tab_lines_callsD))) (hvar2 : VarI G 2) (hvar3 : VarE G 3) (hvar4 : VarE G 4) (htab_strconv_uint64pow10 : constG G 7 = .one (.d (.k tab_strconv_uint64pow10D))) (p0 : ByteArray) (r : Act × Bool) (h : lines_one p0 = some r) : FnRO Tryd.prog G 17 [.one (.d (.s p0))] (fun rs => rs = [.agg (r.1.encO), .one (.b r.2)]) := by
 refine FnRO.of' low17 fok17 (by simp [F17]) ?_
 rw [lines_one] at h
 replace h := Hd.mk h
 simp only [F17, go_sem]
 try simp only [*, go_sem]
 refine cr h (split10_ok G hvar2 p0 bs_7215ee9c) (fun v1 h => ?_)
 try simp only [*, go_sem]
 refine jn3 h (fun b2_1 b2_2 b2_3 => [zP 2 0, zP 4 1, zP 5 2]) (fun b2_1 b2_2 b2_3 => [ox [zi 0, zi 0, zi 0, zi 0, zi 0, .nl 1, zi 0, zi 0, zi 0, zi 0, zi 0, .d (.s (⟨#[]⟩ : ByteArray))], ox [.d (.l 1 (b2_1.map encS)), .d (.b b2_2)], ox [zi b2_3, zi 0, zi 0, zi 0, zi 0, .nl 1, zi 0, zi 0, zi 0, zi 0, zi 0, .d (.s (⟨#[]⟩ : ByteArray))]]) (fun k3 h => ?_) (fun b2_1 b2_2 b2_3 h => ?_)
 try simp only [*, go_sem]
 refine ⟨?_, ?_, ?_, ?_, ?_, ?_, ?_, ?_, ?_, ?_, ?_, ?_, ?_, ?_, ?_, ?_, ?_, ?_, ?_, ?_, ?_⟩
 have hmx9 : (9 : Nat) ≤ maxLen := by decide
 try simp only [*, go_sem]
 refine ct h 2 [.z 1] [1] [] (lines_taker_next_ok G (LinesTaker.mk v1 false)) (fun v4 h => ?_)
 try simp only [*, go_sem]
 refine cr h (slices_Index_string_ok G ((tab_lines_words.drop 1).take 8) v4.2) (fun v5 h => ?_)
 try simp only [*, go_sem]
 exact jc (v4.1.l, v4.1.bad, IntKind.i64.wrap (v5 + 1)) h.e [some 0, some 2, some 3]
 have hmx9 : (9 : Nat) ≤ maxLen := by decide
 try simp only [*, go_sem]
 refine ct h 2 [.z 1] [1] [] (lines_taker_next_ok G (LinesTaker.mk v1 false)) (fun v4 h => ?_)
 try simp only [*, go_sem]
 refine cr h (slices_Index_string_ok G ((tab_lines_words.drop 1).take 8) v4.2) (fun v5 h => ?_)
 try simp only [*, go_sem]
 exact jc (v4.1.l, v4.1.bad, IntKind.i64.wrap (v5 + 1)) h.e [some 0, some 2, some 3]
 have hmx9 : (9 : Nat) ≤ maxLen := by decide
 try simp only [*, go_sem]
 refine ct h 2 [.z 1] [1] [] (lines_taker_next_ok G (LinesTaker.mk v1 false)) (fun v4 h => ?_)
 try simp only [*, go_sem]
 refine cr h (slices_Index_string_ok G ((tab_lines_words.drop 1).take 8) v4.2) (fun v5 h => ?_)
 try simp only [*, go_sem]
 exact jc (v4.1.l, v4.1.bad, IntKind.i64.wrap (v5 + 1)) h.e [some 0, some 2, some 3]
 have hmx9 : (9 : Nat) ≤ maxLen := by decide
 try simp only [*, go_sem]
 refine ct h 2 [.z 1] [1] [] (lines_taker_next_ok G (LinesTaker.mk v1 false)) (fun v4 h => ?_)
 try simp only [*, go_sem]
 refine cr h (slices_Index_string_ok G ((tab_lines_words.drop 1).take 8) v4.2) (fun v5 h => ?_)
 try simp only [*, go_sem]
 exact jc (v4.1.l, v4.1.bad, IntKind.i64.wrap (v5 + 1)) h.e [some 0, some 2, some 3]
 have hmx9 : (9 : Nat) ≤ maxLen := by decide
 try simp only [*, go_sem]
 refine ct h 2 [.z 1] [1] [] (lines_taker_next_ok G (LinesTaker.mk v1 false)) (fun v4 h => ?_)
 try simp only [*, go_sem]
 refine cr h (slices_Index_string_ok G ((tab_lines_words.drop 1).take 8) v4.2) (fun v5 h => ?_)
 try simp only [*, go_sem]
 exact jc (v4.1.l, v4.1.bad, IntKind.i64.wrap (v5 + 1)) h.e [some 0, some 2, some 3]
 have hmx9 : (9 : Nat) ≤ maxLen := by decide
 try simp only [*, go_sem]
 refine ct h 2 [.z 1] [1] [] (lines_taker_next_ok G (LinesTaker.mk v1 false)) (fun v4 h => ?_)
 try simp only [*, go_sem]
 refine cr h (slices_Index_string_ok G ((tab_lines_words.drop 1).take 8) v4.2) (fun v5 h => ?_)
 try simp only [*, go_sem]
 exact jc (v4.1.l, v4.1.bad, IntKind.i64.wrap (v5 + 1)) h.e [some 0, some 2, some 3]
 have hmx9 : (9 : Nat) ≤ maxLen := by decide
 try simp only [*, go_sem]
 refine ct h 2 [.z 1] [1] [] (lines_taker_next_ok G (LinesTaker.mk v1 false)) (fun v4 h => ?_)
 try simp only [*, go_sem]
 refine cr h (slices_Index_string_ok G ((tab_lines_words.drop 1).take 8) v4.2) (fun v5 h => ?_)
 try simp only [*, go_sem]
 exact jc (v4.1.l, v4.1.bad, IntKind.i64.wrap (v5 + 1)) h.e [some 0, some 2, some 3]
 have hmx9 : (9 : Nat) ≤ maxLen := by decide
 try simp only [*, go_sem]
 refine ct h 2 [.z 1] [1] [] (lines_taker_next_ok G (LinesTaker.mk v1 false)) (fun v4 h => ?_)
 try simp only [*, go_sem]
 refine cr h (slices_Index_string_ok G ((tab_lines_words.drop 1).take 8) v4.2) (fun v5 h => ?_)
 try simp only [*, go_sem]
 exact jc (v4.1.l, v4.1.bad, IntKind.i64.wrap (v5 + 1)) h.e [some 0, some 2, some 3]
 have hmx9 : (9 : Nat) ≤ maxLen := by decide
 try simp only [*, go_sem]
 refine ct h 2 [.z 1] [1] [] (lines_taker_next_ok G (LinesTaker.mk v1 false)) (fun v4 h => ?_)
 try simp only [*, go_sem]
 refine cr h (slices_Index_string_ok G ((tab_lines_words.drop 1).take 8) v4.2) (fun v5 h => ?_)
 try simp only [*, go_sem]
 exact jc (v4.1.l, v4.1.bad, IntKind.i64.wrap (v5 + 1)) h.e [some 0, some 2, some 3]
 have hmx9 : (9 : Nat) ≤ maxLen := by decide
 try simp only [*, go_sem]
 refine ct h 2 [.z 1] [1] [] (lines_taker_next_ok G (LinesTaker.mk v1 false)) (fun v4 h => ?_)
 try simp only [*, go_sem]
 refine cr h (slices_Index_string_ok G ((tab_lines_words.drop 1).take 8) v4.2) (fun v5 h => ?_)
 try simp only [*, go_sem]
 exact jc (v4.1.l, v4.1.bad, IntKind.i64.wrap (v5 + 1)) h.e [some 0, some 2, some 3]
 have hmx9 : (9 : Nat) ≤ maxLen := by decide
 try simp only [*, go_sem]
 refine ct h 2 [.z 1] [1] [] (lines_taker_next_ok G (LinesTaker.mk v1 false)) (fun v4 h => ?_)
 try simp only [*, go_sem]
 refine cr h (slices_Index_string_ok G ((tab_lines_words.drop 1).take 8) v4.2) (fun v5 h => ?_)
 try simp only [*, go_sem]
 exact jc (v4.1.l, v4.1.bad, IntKind.i64.wrap (v5 + 1)) h.e [some 0, some 2, some 3]
 try simp only [*, go_sem]
 refine ct h 2 [.z 1] [1] [] (lines_taker_next_ok G (LinesTaker.mk v1 false)) (fun v4 h => ?_)
 have hmx9 : (9 : Nat) ≤ maxLen := by decide
 try simp only [*, go_sem]
 refine cr h (slices_Index_string_ok G ((tab_lines_words.drop 1).take 8) v4.2) (fun v5 h => ?_)
 try simp only [*, go_sem]
 exact jc (v4.1.l, v4.1.bad, IntKind.i64.wrap (v5 + 1)) h.e [some 0, some 2, some 3]
 try simp only [*, go_sem]
 refine ct h 2 [.z 1] [1] [] (lines_taker_next_ok G (LinesTaker.mk v1 false)) (fun v4 h => ?_)
 have hmx9 : (9 : Nat) ≤ maxLen := by decide
 try simp only [*, go_sem]
 refine cr h (slices_Index_string_ok G ((tab_lines_words.drop 1).take 8) v4.2) (fun v5 h => ?_)
 try simp only [*, go_sem]
 exact jc (v4.1.l, v4.1.bad, IntKind.i64.wrap (v5 + 1)) h.e [some 0, some 2, some 3]
 try simp only [*, go_sem]
 refine ct h 2 [.z 1] [1] [] (lines_taker_next_ok G (LinesTaker.mk v1 false)) (fun v4 h => ?_)
 have hmx9 : (9 : Nat) ≤ maxLen := by decide
 try simp only [*, go_sem]
 refine cr h (slices_Index_string_ok G ((tab_lines_words.drop 1).take 8) v4.2) (fun v5 h => ?_)
 try simp only [*, go_sem]
 exact jc (v4.1.l, v4.1.bad, IntKind.i64.wrap (v5 + 1)) h.e [some 0, some 2, some 3]
 try simp only [*, go_sem]
 refine ct h 2 [.z 1] [1] [] (lines_taker_next_ok G (LinesTaker.mk v1 false)) (fun v4 h => ?_)
 have hmx9 : (9 : Nat) ≤ maxLen := by decide
 try simp only [*, go_sem]
 refine cr h (slices_Index_string_ok G ((tab_lines_words.drop 1).take 8) v4.2) (fun v5 h => ?_)
 try simp only [*, go_sem]
 exact jc (v4.1.l, v4.1.bad, IntKind.i64.wrap (v5 + 1)) h.e [some 0, some 2, some 3]
 try simp only [*, go_sem]
 refine ct h 2 [.z 1] [1] [] (lines_taker_next_ok G (LinesTaker.mk v1 false)) (fun v4 h => ?_)
 have hmx9 : (9 : Nat) ≤ maxLen := by decide
 try simp only [*, go_sem]
 refine cr h (slices_Index_string_ok G ((tab_lines_words.drop 1).take 8) v4.2) (fun v5 h => ?_)
 try simp only [*, go_sem]
 exact jc (v4.1.l, v4.1.bad, IntKind.i64.wrap (v5 + 1)) h.e [some 0, some 2, some 3]
 have hmx9 : (9 : Nat) ≤ maxLen := by decide
 try simp only [*, go_sem]
 refine ct h 2 [.z 1] [1] [] (lines_taker_next_ok G (LinesTaker.mk v1 false)) (fun v4 h => ?_)
 try simp only [*, go_sem]
 refine cr h (slices_Index_string_ok G ((tab_lines_words.drop 1).take 8) v4.2) (fun v5 h => ?_)
 try simp only [*, go_sem]
 exact jc (v4.1.l, v4.1.bad, IntKind.i64.wrap (v5 + 1)) h.e [some 0, some 2, some 3]
 try simp only [*, go_sem]
 refine ct h 2 [.z 1] [1] [] (lines_taker_next_ok G (LinesTaker.mk v1 false)) (fun v4 h => ?_)
 have hmx9 : (9 : Nat) ≤ maxLen := by decide
 try simp only [*, go_sem]
 refine cr h (slices_Index_string_ok G ((tab_lines_words.drop 1).take 8) v4.2) (fun v5 h => ?_)
 try simp only [*, go_sem]
 exact jc (v4.1.l, v4.1.bad, IntKind.i64.wrap (v5 + 1)) h.e [some 0, some 2, some 3]
 have hmx9 : (9 : Nat) ≤ maxLen := by decide
 try simp only [*, go_sem]
 refine ct h 2 [.z 1] [1] [] (lines_taker_next_ok G (LinesTaker.mk v1 false)) (fun v4 h => ?_)
 try simp only [*, go_sem]
 refine cr h (slices_Index_string_ok G ((tab_lines_words.drop 1).take 8) v4.2) (fun v5 h => ?_)
 try simp only [*, go_sem]
 exact jc (v4.1.l, v4.1.bad, IntKind.i64.wrap (v5 + 1)) h.e [some 0, some 2, some 3]
 have hmx9 : (9 : Nat) ≤ maxLen := by decide
 try simp only [*, go_sem]
 refine ct h 2 [.z 1] [1] [] (lines_taker_next_ok G (LinesTaker.mk v1 false)) (fun v4 h => ?_)
 try simp only [*, go_sem]
 refine cr h (slices_Index_string_ok G ((tab_lines_words.drop 1).take 8) v4.2) (fun v5 h => ?_)
 try simp only [*, go_sem]
 exact jc (v4.1.l, v4.1.bad, IntKind.i64.wrap (v5 + 1)) h.e [some 0, some 2, some 3]
 try simp only [*, go_sem]
 refine ct h 2 [.z 1] [1] [] (lines_taker_next_ok G (LinesTaker.mk v1 false)) (fun v4 h => ?_)
 have hmx9 : (9 : Nat) ≤ maxLen := by decide
 try simp only [*, go_sem]
 refine cr h (slices_Index_string_ok G ((tab_lines_words.drop 1).take 8) v4.2) (fun v5 h => ?_)
 try simp only [*, go_sem]
 exact jc (v4.1.l, v4.1.bad, IntKind.i64.wrap (v5 + 1)) h.e [some 0, some 2, some 3]
 refine oi h (fun hb6 h => ?_) (fun hb6 h => ?_)
 cases h.e
 simp only [*, go_sem, mA, mS]
 try simp only [*, go_sem]
 refine jn3 h (fun b7_1 b7_2 b7_3 => [zP 2 0, zP 4 1, zP 5 2]) (fun b7_1 b7_2 b7_3 => [ox [zi 0, zi 0, zi 0, zi 0, zi 0, .nl 1, zi 0, zi 0, zi 0, zi 0, zi 0, .d (.s (⟨#[]⟩ : ByteArray))], ox [.d (.l 1 (b7_1.map encS)), .d (.b b7_2)], ox [zi b2_3, zi b7_3, zi 0, zi 0, zi 0, .nl 1, zi 0, zi 0, zi 0, zi 0, zi 0, .d (.s (⟨#[]⟩ : ByteArray))]]) (fun k8 h => ?_) (fun b7_1 b7_2 b7_3 h => ?_)
 refine oi h (fun hb9 h => ?_) (fun hb9 h => ?_)
 try simp only [*, go_sem]
 refine ct h 1 [] [1] [] (lines_taker_number_ok G hvar3 hvar4 htab_strconv_uint64pow10 (LinesTaker.mk b2_1 b2_2)) (fun v10 h => ?_)
 try simp only [*, go_sem]
 exact jc (v10.1.l, v10.1.bad, v10.2) h.e [some 0, some 1, some 2]
 try simp only [*, go_sem]
 exact jc (b2_1, b2_2, 0) h.e [some 0, some 1, some 2]
 try simp only [*, go_sem]
 refine jn1 h (fun b11_1 => [zP 2 0, zP 4 1, zP 5 2, zI 27 b2_3, zB 28 b11_1]) (fun b11_1 => [ox [zi 0, zi 0, zi 0, zi 0, zi 0, .nl 1, zi 0, zi 0, zi 0, zi 0, zi 0, .d (.s (⟨#[]⟩ : ByteArray))], ox [.d (.l 1 (b7_1.map encS)), .d (.b b7_2)], ox [zi b2_3, zi b7_3, zi 0, zi 0, zi 0, .nl 1, zi 0, zi 0, zi 0, zi 0, zi 0, .d (.s (⟨#[]⟩ : ByteArray))]]) (fun k12 h => ?_) (fun b11_1 h => ?_)
 refine oi h (fun hb13 h => ?_) (fun hb13 h => ?_)
 try simp only [*, go_sem]
 exact jc (true) h.e [some 0, some 1, some 2]
 try simp only [*, go_sem]
 refine jn1 h (fun b14_1 => [zP 2 0, zP 4 1, zP 5 2, zI 27 b2_3, zB 28 b14_1]) (fun b14_1 => [ox [zi 0, zi 0, zi 0, zi 0, zi 0, .nl 1, zi 0, zi 0, zi 0, zi 0, zi 0, .d (.s (⟨#[]⟩ : ByteArray))], ox [.d (.l 1 (b7_1.map encS)), .d (.b b7_2)], ox [zi b2_3, zi b7_3, zi 0, zi 0, zi 0, .nl 1, zi 0, zi 0, zi 0, zi 0, zi 0, .d (.s (⟨#[]⟩ : ByteArray))]]) (fun k15 h => ?_) (fun b14_1 h => ?_)
 refine oi h (fun hb16 h => ?_) (fun hb16 h => ?_)
 try simp only [*, go_sem]
 exact jc (true) h.e [some 0, some 1, some 2]
 try simp only [*, go_sem]
 exact jc (b2_3 == 4) h.e [some 0, some 1, some 2]
 try simp only [*, go_sem]
 exact jc (b14_1) h.e [some 0, some 1, some 2]
 try simp only [*, go_sem]
 refine jn12 h (fun b17_1 b17_2 b17_3 b17_4 b17_5 b17_6 b17_7 b17_8 b17_9 b17_10 b17_11 b17_12 => [zP 2 0, zP 4 1, zP 5 2]) (fun b17_1 b17_2 b17_3 b17_4 b17_5 b17_6 b17_7 b17_8 b17_9 b17_10 b17_11 b17_12 => [ox [zi 0, zi 0, zi 0, zi 0, zi 0, .nl 1, zi 0, zi 0, zi 0, zi 0, zi 0, .d (.s (⟨#[]⟩ : ByteArray))], ox [.d (.l 1 (b17_1.map encS)), .d (.b b17_2)], ox [zi b2_3, zi b7_3, zi b17_3, zi b17_4, zi b17_5, .r 3 0 b17_12.length, zi b17_6, zi b17_7, zi b17_8, zi b17_9, zi b17_10, .d (.s b17_11)], oa 1 (b17_12.map encI)]) (fun k18 h => ?_) (fun b17_1 b17_2 b17_3 b17_4 b17_5 b17_6 b17_7 b17_8 b17_9 b17_10 b17_11 b17_12 h => ?_)
 refine oi h (fun hb19 h => ?_) (fun hb19 h => ?_)
 try simp only [*, go_sem]
 refine ct h 1 [] [1] [] (lines_taker_number_ok G hvar3 hvar4 htab_strconv_uint64pow10 (LinesTaker.mk b7_1 b7_2)) (fun v20 h => ?_)
 try simp only [*, go_sem]
 refine ct h 1 [] [1] [] (lines_taker_number_ok G hvar3 hvar4 htab_strconv_uint64pow10 v20.1) (fun v21 h => ?_)
 try simp only [*, go_sem]
 refine ct h 1 [] [1] [] (lines_taker_number_ok G hvar3 hvar4 htab_strconv_uint64pow10 v21.1) (fun v22 h => ?_)
 try simp only [*, go_sem]
 exact jc (v22.1.l, v22.1.bad, v20.2, v21.2, v22.2, 0, 0, 0, 0, 0, (⟨#[]⟩ : ByteArray), []) h.e [some 0, some 1, some 2, none]
 try simp only [*, go_sem]
 refine jn10 h (fun b23_1 b23_2 b23_3 b23_4 b23_5 b23_6 b23_7 b23_8 b23_9 b23_10 => [zP 2 0, zP 4 1, zP 5 2]) (fun b23_1 b23_2 b23_3 b23_4 b23_5 b23_6 b23_7 b23_8 b23_9 b23_10 => [ox [zi 0, zi 0, zi 0, zi 0, zi 0, .nl 1, zi 0, zi 0, zi 0, zi 0, zi 0, .d (.s (⟨#[]⟩ : ByteArray))], ox [.d (.l 1 (b23_1.map encS)), .d (.b b23_2)], ox [zi b2_3, zi b7_3, zi 0, zi b23_3, zi 0, .r 3 0 b23_10.length, zi b23_4, zi b23_5, zi b23_6, zi b23_7, zi b23_8, .d (.s b23_9)], oa 1 (b23_10.map encI)]) (fun k24 h => ?_) (fun b23_1 b23_2 b23_3 b23_4 b23_5 b23_6 b23_7 b23_8 b23_9 b23_10 h => ?_)
 refine oi h (fun hb25 h => ?_) (fun hb25 h => ?_)
 try simp only [*, go_sem]
 refine jn3 h (fun b26_1 b26_2 b26_3 => [zP 2 0, zP 4 1, zP 5 2]) (fun b26_1 b26_2 b26_3 => [ox [zi 0, zi 0, zi 0, zi 0, zi 0, .nl 1, zi 0, zi 0, zi 0, zi 0, zi 0, .d (.s (⟨#[]⟩ : ByteArray))], ox [.d (.l 1 (b26_1.map encS)), .d (.b b26_2)], ox [zi b2_3, zi b7_3, zi 0, zi 0, zi 0, .r 3 0 b26_3.length, zi 0, zi 0, zi 0, zi 0, zi 0, .d (.s (⟨#[]⟩ : ByteArray))], oa 1 (b26_3.map encI)]) (fun k27 h => ?_) (fun b26_1 b26_2 b26_3 h => ?_)
 try simp only [*, go_sem]
 refine lp3 (lines_one_L1 k27) (fun a28_1 a28_2 a28_3 => [zP 2 0, zP 4 1, zP 5 2]) (fun a28_1 a28_2 a28_3 => [ox [zi 0, zi 0, zi 0, zi 0, zi 0, .nl 1, zi 0, zi 0, zi 0, zi 0, zi 0, .d (.s (⟨#[]⟩ : ByteArray))], ox [.d (.l 1 (a28_1.map encS)), .d (.b a28_2)], ox [zi b2_3, zi b7_3, zi 0, zi 0, zi 0, .r 3 0 a28_3.length, zi 0, zi 0, zi 0, zi 0, zi 0, .d (.s (⟨#[]⟩ : ByteArray))], oa 1 (a28_3.map encI)]) h [] [some 0, some 1, some 2, none] (fun n29 a28_1 a28_2 a28_3 h => ?_) (by intros; rw [lines_one_L1])
 rw [lines_one_L1] at h
 try simp only [*, go_sem]
 intro hl30
 refine oi h (fun hb31 h => ?_) (fun hb31 h => ?_)
 refine oin h (fun hb32 hkhb32 h => ?_) (fun hb32 hkhb32 h => ?_)
 try simp only [*, go_sem]
 refine jn3 h (fun b33_1 b33_2 b33_3 => [zP 2 0, zP 4 1, zP 5 2, zP 50 1, zP 51 1, (52, .one (.p (.q 1 0 1))), zB 53 false, zB 54 true]) (fun b33_1 b33_2 b33_3 => [ox [zi 0, zi 0, zi 0, zi 0, zi 0, .nl 1, zi 0, zi 0, zi 0, zi 0, zi 0, .d (.s (⟨#[]⟩ : ByteArray))], ox [.d (.l 1 (b33_1.map encS)), .d (.b b33_2)], ox [zi b2_3, zi b7_3, zi 0, zi 0, zi 0, .r 3 0 b33_3.length, zi 0, zi 0, zi 0, zi 0, zi 0, .d (.s (⟨#[]⟩ : ByteArray))], oa 1 (b33_3.map encI)]) (fun k34 h => ?_) (fun b33_1 b33_2 b33_3 h => ?_)
 try simp only [*, go_sem]
 refine ⟨?_, ?_, ?_, ?_, ?_, ?_, ?_, ?_, ?_, ?_⟩
 try simp only [*, go_sem]
 refine ct h 1 [] [1] [] (lines_taker_number_ok G hvar3 hvar4 htab_strconv_uint64pow10 (LinesTaker.mk a28_1 false)) (fun v35 h => ?_)
 refine ck h (fun hf36 h => ?_)
 try simp only [*, go_sem]
 exact jc (v35.1.l, v35.1.bad, (a28_3 ++ [v35.2])) h.e [some 0, some 1, some 2, some 5]
 try simp only [*, go_sem]
 refine ct h 1 [] [1] [] (lines_taker_number_ok G hvar3 hvar4 htab_strconv_uint64pow10 (LinesTaker.mk a28_1 false)) (fun v35 h => ?_)
 refine ck h (fun hf36 h => ?_)
 try simp only [*, go_sem]
 exact jc (v35.1.l, v35.1.bad, (a28_3 ++ [v35.2])) h.e [some 0, some 1, some 2, some 5]
 try simp only [*, go_sem]
 refine ct h 1 [] [1] [] (lines_taker_number_ok G hvar3 hvar4 htab_strconv_uint64pow10 (LinesTaker.mk a28_1 false)) (fun v35 h => ?_)
 refine ck h (fun hf36 h => ?_)
 try simp only [*, go_sem]
 exact jc (v35.1.l, v35.1.bad, (a28_3 ++ [v35.2])) h.e [some 0, some 1, some 2, some 5]
 try simp only [*, go_sem]
 refine ct h 1 [] [1] [] (lines_taker_number_ok G hvar3 hvar4 htab_strconv_uint64pow10 (LinesTaker.mk a28_1 false)) (fun v35 h => ?_)
 refine ck h (fun hf36 h => ?_)
 try simp only [*, go_sem]
 exact jc (v35.1.l, v35.1.bad, (a28_3 ++ [v35.2])) h.e [some 0, some 1, some 2, some 5]
 try simp only [*, go_sem]
 refine ct h 1 [] [1] [] (lines_taker_number_ok G hvar3 hvar4 htab_strconv_uint64pow10 (LinesTaker.mk a28_1 false)) (fun v35 h => ?_)
 refine ck h (fun hf36 h => ?_)
 try simp only [*, go_sem]
 exact jc (v35.1.l, v35.1.bad, (a28_3 ++ [v35.2])) h.e [some 0, some 1, some 2, some 5]
 try simp only [*, go_sem]
 refine ct h 1 [] [1] [] (lines_taker_number_ok G hvar3 hvar4 htab_strconv_uint64pow10 (LinesTaker.mk a28_1 false)) (fun v35 h => ?_)
 refine ck h (fun hf36 h => ?_)
 try simp only [*, go_sem]
 exact jc (v35.1.l, v35.1.bad, (a28_3 ++ [v35.2])) h.e [some 0, some 1, some 2, some 5]
 try simp only [*, go_sem]
 refine ct h 1 [] [1] [] (lines_taker_number_ok G hvar3 hvar4 htab_strconv_uint64pow10 (LinesTaker.mk a28_1 false)) (fun v35 h => ?_)
 refine ck h (fun hf36 h => ?_)
 try simp only [*, go_sem]
 exact jc (v35.1.l, v35.1.bad, (a28_3 ++ [v35.2])) h.e [some 0, some 1, some 2, some 5]
 try simp only [*, go_sem]
 refine ct h 1 [] [1] [] (lines_taker_number_ok G hvar3 hvar4 htab_strconv_uint64pow10 (LinesTaker.mk a28_1 false)) (fun v35 h => ?_)
 refine ck h (fun hf36 h => ?_)
 try simp only [*, go_sem]
 exact jc (v35.1.l, v35.1.bad, (a28_3 ++ [v35.2])) h.e [some 0, some 1, some 2, some 5]
 try simp only [*, go_sem]
 refine ct h 1 [] [1] [] (lines_taker_number_ok G hvar3 hvar4 htab_strconv_uint64pow10 (LinesTaker.mk a28_1 false)) (fun v35 h => ?_)
 refine ck h (fun hf36 h => ?_)
 try simp only [*, go_sem]
 exact jc (v35.1.l, v35.1.bad, (a28_3 ++ [v35.2])) h.e [some 0, some 1, some 2, some 5]
 try simp only [*, go_sem]
 refine ct h 1 [] [1] [] (lines_taker_number_ok G hvar3 hvar4 htab_strconv_uint64pow10 (LinesTaker.mk a28_1 false)) (fun v35 h => ?_)
 refine ck h (fun hf36 h => ?_)
 try simp only [*, go_sem]
 exact jc (v35.1.l, v35.1.bad, (a28_3 ++ [v35.2])) h.e [some 0, some 1, some 2, some 5]
 try simp only [*, go_sem]
 exact lc (b33_1, b33_2, b33_3) h.e [some 0, some 1, some 2, some 3]
 try simp only [*, go_sem]
 exact jc (a28_1, true, a28_3) h.e [some 0, some 1, some 2, some 3]
 try simp only [*, go_sem]
 exact jc (a28_1, a28_2, a28_3) h.e [some 0, some 1, some 2, some 3]
 try simp only [*, go_sem]
 exact jc (b26_1, b26_2, 0, 0, 0, 0, 0, 0, (⟨#[]⟩ : ByteArray), b26_3) h.e [some 0, some 1, some 2, some 3]
 try simp only [*, go_sem]
 refine jn9 h (fun b37_1 b37_2 b37_3 b37_4 b37_5 b37_6 b37_7 b37_8 b37_9 => [zP 2 0, zP 4 1, zP 5 2]) (fun b37_1 b37_2 b37_3 b37_4 b37_5 b37_6 b37_7 b37_8 b37_9 => [ox [zi 0, zi 0, zi 0, zi 0, zi 0, .nl 1, zi 0, zi 0, zi 0, zi 0, zi 0, .d (.s (⟨#[]⟩ : ByteArray))], ox [.d (.l 1 (b37_1.map encS)), .d (.b b37_2)], ox [zi b2_3, zi b7_3, zi 0, zi b37_3, zi 0, .nl 1, zi b37_4, zi b37_5, zi b37_6, zi b37_7, zi b37_8, .d (.s b37_9)]]) (fun k38 h => ?_) (fun b37_1 b37_2 b37_3 b37_4 b37_5 b37_6 b37_7 b37_8 b37_9 h => ?_)
 refine oi h (fun hb39 h => ?_) (fun hb39 h => ?_)
 try simp only [*, go_sem]
 refine ct h 1 [] [1] [] (lines_taker_number_ok G hvar3 hvar4 htab_strconv_uint64pow10 (LinesTaker.mk b7_1 b7_2)) (fun v40 h => ?_)
 try simp only [*, go_sem]
 refine ct h 1 [] [1] [] (lines_taker_call_ok G htab_lines_calls hvar3 hvar4 htab_strconv_uint64pow10 v40.1) (fun v41 h => ?_)
 try simp only [*, go_sem]
 exact jc (v41.1.l, v41.1.bad, v40.2, v41.2.Kind, v41.2.N, v41.2.Label, v41.2.Key, v41.2.Value, (⟨#[]⟩ : ByteArray)) h.e [some 0, some 1, some 2]
 try simp only [*, go_sem]
 refine jn4 h (fun b42_1 b42_2 b42_3 b42_4 => [zP 2 0, zP 4 1, zP 5 2]) (fun b42_1 b42_2 b42_3 b42_4 => [ox [zi 0, zi 0, zi 0, zi 0, zi 0, .nl 1, zi 0, zi 0, zi 0, zi 0, zi 0, .d (.s (⟨#[]⟩ : ByteArray))], ox [.d (.l 1 (b42_1.map encS)), .d (.b b42_2)], ox [zi b2_3, zi b7_3, zi 0, zi b42_3, zi 0, .nl 1, zi 0, zi 0, zi 0, zi 0, zi 0, .d (.s b42_4)]]) (fun k43 h => ?_) (fun b42_1 b42_2 b42_3 b42_4 h => ?_)
 refine oi h (fun hb44 h => ?_) (fun hb44 h => ?_)
 try simp only [*, go_sem]
 refine ct h 1 [] [1] [] (lines_taker_number_ok G hvar3 hvar4 htab_strconv_uint64pow10 (LinesTaker.mk b7_1 b7_2)) (fun v45 h => ?_)
 try simp only [*, go_sem]
 refine ct h 1 [] [1] [] (lines_taker_text_ok G v45.1) (fun v46 h => ?_)
 try simp only [*, go_sem]
 exact jc (v46.1.l, v46.1.bad, v45.2, v46.2) h.e [some 0, some 1, some 2]
 try simp only [*, go_sem]
 exact jc (b7_1, b7_2, 0, (⟨#[]⟩ : ByteArray)) h.e [some 0, some 1, some 2]
 try simp only [*, go_sem]
 exact jc (b42_1, b42_2, b42_3, 0, 0, 0, 0, 0, b42_4) h.e [some 0, some 1, some 2]
 try simp only [*, go_sem]
 exact jc (b37_1, b37_2, b37_3, b37_4, b37_5, b37_6, b37_7, b37_8, b37_9, []) h.e [some 0, some 1, some 2, none]
 try simp only [*, go_sem]
 exact jc (b23_1, b23_2, 0, b23_3, 0, b23_4, b23_5, b23_6, b23_7, b23_8, b23_9, b23_10) h.e [some 0, some 1, some 2, some 3]
 try simp only [*, go_sem]
 refine jn1 h (fun b47_1 => [zP 2 0, zB 3 b47_1]) (fun b47_1 => [ox [zi b2_3, zi b7_3, zi b17_3, zi b17_4, zi b17_5, .r 1 0 b17_12.length, zi b17_6, zi b17_7, zi b17_8, zi b17_9, zi b17_10, .d (.s b17_11)], oa 1 (b17_12.map encI)]) (fun k48 h => ?_) (fun b47_1 h => ?_)
 refine oin h (fun hb49 hkhb49 h => ?_) (fun hb49 hkhb49 h => ?_)
 try simp only [*, go_sem]
 exact jc (((b17_1.length : Nat) : Int) == 0) h.e [some 0, some 3]
 try simp only [*, go_sem]
 exact jc (false) h.e [some 0, some 3]
 cases h.e
 simp only [*, go_sem, mA, mS]
def slices_IndexFunc_int_L1 (p0 : List Int) (p1 : Int → Option (Bool)) (k3 : Option (Int)) : Nat → Nat → Option (Int)
 | 0, _ => none
 | n5 + 1, a4_1 => (if (decide (a4_1 < p0.length)) = true then (Option.bind (p0[a4_1]?) fun x7 => (Option.bind (p1 x7) fun v8 => (if v8 = true then (some ((a4_1 : Nat) : Int)) else (slices_IndexFunc_int_L1 p0 p1 k3 n5 (a4_1 + 1))))) else k3)
def slices_IndexFunc_int (p0 : List Int) (p1 : Int → Option (Bool)) : Option (Int) := (withK (some (-1)) fun k3 => (slices_IndexFunc_int_L1 p0 p1 k3 (p0.length + 1) 0))
def F68 : VFn := ⟨19, (.seq (.reg [mi 4 0]) (.seq (.seq (.reg [vm 6 0, ln 7 6, mi 8 0]) (.wk (.block 0 (.loop (.seq (.reg [bt 9 .lss 8 7]) (.seq (.cond (.t 9) .skip (.exit 0)) (.seq (.block 1 (.seq (.reg [vm 10 8, vm 5 10]) (.seq (.reg [vm 11 1, vm 12 0, vm 13 5, xa 14 1 12 13, vs 15 14, vo 16 (.callv (.t 11) [(.t 15)])]) (.cond (.t 16) (.seq (.reg [vm 17 5, vm 4 17]) .ret) .skip)))) (.reg [bk 18 .add 8 1, vm 8 18])))))))) (.seq (.reg [mi 4 (-1)]) .ret))), [.t 4]⟩
theorem low68 : lowF Tryd.prog 68 = some F68.strip := by kernel_rfl
theorem fok68 : fOk Tryd.prog 68 = true := by kernel_rfl
theorem slices_IndexFunc_int_ok (p0 : List Int) (p1 : Int → Option (Bool)) (g_p1 : Nat) (c_p1 : List D) (h_p1 : ∀ (x0 : Int) (r : Bool), p1 x0 = some r → FnRO Tryd.prog G g_p1 ([.one (.d (.i .i64 x0))] ++ c_p1.map fun d => .one (.d d)) (fun rs => rs = [.one (.b r)])) (r : Int) (h : slices_IndexFunc_int p0 p1 = some r) : FnRO Tryd.prog G 68 [.one (.d (.l 1 (p0.map encI))), .one (.d (.f g_p1 c_p1))] (fun rs => rs = [.one (.i .i64 r)]) := by
 refine FnRO.of' low68 fok68 (by simp [F68]) ?_
 rw [slices_IndexFunc_int] at h
 replace h := Hd.mk h
 simp only [F68, go_sem]
 try simp only [*, go_sem]
 intro hl1
 try simp only [*, go_sem]
 refine jn0 h ([]) ([]) (fun k3 h => ?_) (fun h => ?_)
 try simp only [*, go_sem]
 refine lp1 (slices_IndexFunc_int_L1 p0 p1 k3) (fun a4_1 => [zL 0 1 (p0.map encI), (1, .one (.d (.f g_p1 c_p1))), zI 7 ((p0.length : Nat) : Int), zI 8 ((a4_1 : Nat) : Int)]) (fun a4_1 => []) h [] [] (fun n5 a4_1 h => ?_) (by intros; rw [slices_IndexFunc_int_L1])
 rw [slices_IndexFunc_int_L1] at h
 refine oi h (fun hb6 h => ?_) (fun hb6 h => ?_)
 have := of_decide_eq_true hb6
 refine obg h (fun x7 _ hkx7 h => ?_)
 try simp only [*, go_sem]
 refine cr h (h_p1 x7) (fun v8 h => ?_)
 refine oi h (fun hb9 h => ?_) (fun hb9 h => ?_)
 cases h.e
 simp only [*, go_sem, mA, mS]
 have := wrap_succ_max hkx7 hl1
 try simp only [*, go_sem]
 exact lc (a4_1 + 1) h.e []
 try simp only [*, go_sem]
 exact jc () h.e []
 cases h.e
 simp only [*, go_sem, mA, mS]
def slices_ContainsFunc_int (p0 : List Int) (p1 : Int → Option (Bool)) : Option (Bool) := (Option.bind (slices_IndexFunc_int p0 p1) fun v1 => (some (decide (v1 ≥ 0))))
def F51 : VFn := ⟨9, (.seq (.reg [vo 4 (.mv (cb false))]) (.seq (.reg [vm 5 0, vm 6 1, vo 7 (.call 68 [(.t 5), (.t 6)]), bk 8 .geq 7 0, vm 4 8]) .ret)), [.t 4]⟩
theorem low51 : lowF Tryd.prog 51 = some F51.strip := by kernel_rfl
theorem fok51 : fOk Tryd.prog 51 = true := by kernel_rfl
theorem slices_ContainsFunc_int_ok (p0 : List Int) (p1 : Int → Option (Bool)) (g_p1 : Nat) (c_p1 : List D) (h_p1 : ∀ (x0 : Int) (r : Bool), p1 x0 = some r → FnRO Tryd.prog G g_p1 ([.one (.d (.i .i64 x0))] ++ c_p1.map fun d => .one (.d d)) (fun rs => rs = [.one (.b r)])) (r : Bool) (h : slices_ContainsFunc_int p0 p1 = some r) : FnRO Tryd.prog G 51 [.one (.d (.l 1 (p0.map encI))), .one (.d (.f g_p1 c_p1))] (fun rs => rs = [.one (.b r)]) := by
 refine FnRO.of' low51 fok51 (by simp [F51]) ?_
 rw [slices_ContainsFunc_int] at h
 replace h := Hd.mk h
 simp only [F51, go_sem]
 try simp only [*, go_sem]
 refine cr h (slices_IndexFunc_int_ok G p0 p1 g_p1 c_p1 h_p1) (fun v1 h => ?_)
 cases h.e
 simp only [*, go_sem, mA, mS]
def lines_numbers_1 (p0 : Int) : Option (Bool) := (withK (fun (b1_1 : Bool) => (some b1_1)) fun k2 => (if (decide (p0 < 0)) = true then (k2 true) else (k2 (decide (p0 > 6000)))))
def F52 : VFn := ⟨9, (.seq (.reg [vo 2 (.mv (cb false))]) (.seq (.wk (.reg [vm 3 0, bk 4 .lss 3 0, vm 5 4, gf 6 5 (.mv (.t 0)), gf 7 5 (.bin .i .gtr (.t 6) (ci 6000)), vo 8 (.pick (.t 5) (cb true) (.t 7)), vm 2 8])) .ret)), [.t 2]⟩
theorem low52 : lowF Tryd.prog 52 = some F52.strip := by kernel_rfl
theorem fok52 : fOk Tryd.prog 52 = true := by kernel_rfl
theorem lines_numbers_1_ok (p0 : Int) (r : Bool) (h : lines_numbers_1 p0 = some r) : FnRO Tryd.prog G 52 [.one (.d (.i .i64 p0))] (fun rs => rs = [.one (.b r)]) := by
 refine FnRO.of' low52 fok52 (by simp [F52]) ?_
 rw [lines_numbers_1] at h
 replace h := Hd.mk h
 simp only [F52, go_sem]
 try simp only [*, go_sem]
 refine jn1 h (fun b1_1 => [zB 2 b1_1]) (fun b1_1 => []) (fun k2 h => ?_) (fun b1_1 h => ?_)
 refine oi h (fun hb3 h => ?_) (fun hb3 h => ?_)
 have := of_decide_eq_true hb3
 try simp only [*, go_sem]
 exact jc (true) h.e []
 try simp only [*, go_sem]
 exact jc (decide (p0 > 6000)) h.e []
 cases h.e
 simp only [*, go_sem, mA, mS]
def lines_numbers (p0 : Config) (p1 : Act) : Option (Bool) := (if (decide (p1.Site < 0)) = true then (some false) else (if (decide (p1.Site ≥ p0.Sites)) = true then (some false) else (if (decide (p1.To < 0)) = true then (some false) else (if (decide (p1.To ≥ p0.Sites)) = true then (some false) else (if (decide (p1.Label < 0)) = true then (some false) else (if (decide (p1.Label ≥ ((p0.Labels.length : Nat) : Int))) = true then (some false) else (if (decide (p1.Pick < 0)) = true then (some false) else (if (decide (p1.Pick > 1048576)) = true then (some false) else (if (decide (p1.Keep.length > p0.Labels.length)) = true then (some false) else (if (decide (((p1.Line.size : Nat) : Int) > 60)) = true then (some false) else (Option.bind (slices_ContainsFunc_int p1.Keep (fun y14 => lines_numbers_1 y14)) fun v15 => (some (!v15)))))))))))))
def F34 : VFn := ⟨69, (.seq (.reg [vo 2 (.box 3 (.t 0)), vo 3 (.box 12 (.t 1)), vo 4 (.mv (cb false))]) (.seq (.seq (.reg [vf 5 1 3, vs 6 5, bk 7 .lss 6 0, vm 8 7, gf 9 8 (.fa 1 (.t 3)), gf 10 8 (.ld false 1 (.t 9)), gf 11 8 (.fa 0 (.t 2)), gf 12 8 (.ld false 1 (.t 11)), gf 13 8 (.bin .i .geq (.t 10) (.t 12)), vo 14 (.pick (.t 8) (cb true) (.t 13)), vm 15 14, gf 16 15 (.fa 2 (.t 3)), gf 17 15 (.ld false 1 (.t 16)), gf 18 15 (.bin .i .lss (.t 17) (ci 0)), vo 19 (.pick (.t 15) (cb true) (.t 18)), vm 20 19, gf 21 20 (.fa 2 (.t 3)), gf 22 20 (.ld false 1 (.t 21)), gf 23 20 (.fa 0 (.t 2)), gf 24 20 (.ld false 1 (.t 23)), gf 25 20 (.bin .i .geq (.t 22) (.t 24)), vo 26 (.pick (.t 20) (cb true) (.t 25)), vm 27 26, gf 28 27 (.fa 3 (.t 3)), gf 29 27 (.ld false 1 (.t 28)), gf 30 27 (.bin .i .lss (.t 29) (ci 0)), vo 31 (.pick (.t 27) (cb true) (.t 30)), vm 32 31, gf 33 32 (.fa 3 (.t 3)), gf 34 32 (.ld false 1 (.t 33)), gf 35 32 (.fa 1 (.t 2)), gf 36 32 (.ld false 1 (.t 35)), gf 37 32 (.len (.t 36)), gf 38 32 (.bin .i .geq (.t 34) (.t 37)), vo 39 (.pick (.t 32) (cb true) (.t 38)), vm 40 39, gf 41 40 (.fa 4 (.t 3)), gf 42 40 (.ld false 1 (.t 41)), gf 43 40 (.bin .i .lss (.t 42) (ci 0)), vo 44 (.pick (.t 40) (cb true) (.t 43)), vm 45 44, gf 46 45 (.fa 4 (.t 3)), gf 47 45 (.ld false 1 (.t 46)), gf 48 45 (.bin .i .gtr (.t 47) (ci 1048576)), vo 49 (.pick (.t 45) (cb true) (.t 48)), vm 50 49, gf 51 50 (.fa 5 (.t 3)), gf 52 50 (.ld false 1 (.t 51)), gf 53 50 (.len (.t 52)), gf 54 50 (.fa 1 (.t 2)), gf 55 50 (.ld false 1 (.t 54)), gf 56 50 (.len (.t 55)), gf 57 50 (.bin .i .gtr (.t 53) (.t 56)), vo 58 (.pick (.t 50) (cb true) (.t 57)), vm 59 58, gf 60 59 (.fa 11 (.t 3)), gf 61 59 (.ld false 1 (.t 60)), gf 62 59 (.lens (.t 61)), gf 63 59 (.bin .i .gtr (.t 62) (ci 60)), vo 64 (.pick (.t 59) (cb true) (.t 63))]) (.cond (.t 64) (.seq (.reg [vo 4 (.mv (cb false))]) .ret) .skip)) (.seq (.reg [vf 65 5 3, vs 66 65, vo 67 (.call 51 [(.t 66), (.fn 52)]), nt 68 67, vm 4 68]) .ret))), [.t 4]⟩
theorem low34 : lowF Tryd.prog 34 = some F34.strip := by kernel_rfl
theorem fok34 : fOk Tryd.prog 34 = true := by kernel_rfl
theorem lines_numbers_ok (p0 : Config) (p1 : Act) (r : Bool) (h : lines_numbers p0 p1 = some r) : FnRO Tryd.prog G 34 [.agg p0.bx, .agg p1.bx] (fun rs => rs = [.one (.b r)]) := by
 refine FnRO.of' low34 fok34 (by simp [F34]) ?_
 rw [lines_numbers] at h
 replace h := Hd.mk h
 simp only [F34, go_sem]
 refine oi h (fun hb1 h => ?_) (fun hb1 h => ?_)
 have := of_decide_eq_true hb1
 cases h.e
 simp only [*, go_sem, mA, mS]
 refine oi h (fun hb2 h => ?_) (fun hb2 h => ?_)
 cases h.e
 simp only [*, go_sem, mA, mS]
 refine oi h (fun hb3 h => ?_) (fun hb3 h => ?_)
 have := of_decide_eq_true hb3
 cases h.e
 simp only [*, go_sem, mA, mS]
 refine oi h (fun hb4 h => ?_) (fun hb4 h => ?_)
 cases h.e
 simp only [*, go_sem, mA, mS]
 refine oi h (fun hb5 h => ?_) (fun hb5 h => ?_)
 have := of_decide_eq_true hb5
 cases h.e
 simp only [*, go_sem, mA, mS]
 try simp only [*, go_sem]
 intro hl6
 refine oi h (fun hb7 h => ?_) (fun hb7 h => ?_)
 cases h.e
 simp only [*, go_sem, mA, mS]
 refine oi h (fun hb8 h => ?_) (fun hb8 h => ?_)
 have := of_decide_eq_true hb8
 cases h.e
 simp only [*, go_sem, mA, mS]
 refine oi h (fun hb9 h => ?_) (fun hb9 h => ?_)
 cases h.e
 simp only [*, go_sem, mA, mS]
 try simp only [*, go_sem]
 intro hl10
 try simp only [*, go_sem]
 intro hl11
 refine oi h (fun hb12 h => ?_) (fun hb12 h => ?_)
 cases h.e
 simp only [*, go_sem, mA, mS]
 refine oi h (fun hb13 h => ?_) (fun hb13 h => ?_)
 cases h.e
 simp only [*, go_sem, mA, mS]
 try simp only [*, go_sem]
 refine cr h (slices_ContainsFunc_int_ok G p1.Keep (fun y14 => lines_numbers_1 y14) 52 [] (fun y14 r h => lines_numbers_1_ok G y14 r h)) (fun v15 h => ?_)
 cases h.e
 simp only [*, go_sem, mA, mS]
def lines_bare (p0 : Act) : Option (Bool) := (withK (fun (b1_1 : Bool) => (withK (fun (b5_1 : Bool) => (withK (fun (b8_1 : Bool) => (withK (fun (b12_1 : Bool) => (some b12_1)) fun k13 => (if b5_1 = true then (if b8_1 = true then (if b1_1 = true then (if (p0.Kind == 6) = true then (if (p0.Kind == 1) = true then (if (p0.Kind == 8) = true then (k13 true) else (k13 (p0.Line.toList == (⟨#[]⟩ : ByteArray).toList))) else (if ((p0.Call.Kind == 0) && ((p0.Call.N == 0) && ((p0.Call.Label == 0) && ((p0.Call.Key == 0) && (p0.Call.Value == 0))))) = true then (if (p0.Kind == 8) = true then (k13 true) else (k13 (p0.Line.toList == (⟨#[]⟩ : ByteArray).toList))) else (k13 false))) else (if (((p0.Keep.length : Nat) : Int) == 0) = true then (if (p0.Kind == 1) = true then (if (p0.Kind == 8) = true then (k13 true) else (k13 (p0.Line.toList == (⟨#[]⟩ : ByteArray).toList))) else (if ((p0.Call.Kind == 0) && ((p0.Call.N == 0) && ((p0.Call.Label == 0) && ((p0.Call.Key == 0) && (p0.Call.Value == 0))))) = true then (if (p0.Kind == 8) = true then (k13 true) else (k13 (p0.Line.toList == (⟨#[]⟩ : ByteArray).toList))) else (k13 false))) else (k13 false))) else (if (p0.To == 0) = true then (if (p0.Pick == 0) = true then (if (p0.Kind == 6) = true then (if (p0.Kind == 1) = true then (if (p0.Kind == 8) = true then (k13 true) else (k13 (p0.Line.toList == (⟨#[]⟩ : ByteArray).toList))) else (if ((p0.Call.Kind == 0) && ((p0.Call.N == 0) && ((p0.Call.Label == 0) && ((p0.Call.Key == 0) && (p0.Call.Value == 0))))) = true then (if (p0.Kind == 8) = true then (k13 true) else (k13 (p0.Line.toList == (⟨#[]⟩ : ByteArray).toList))) else (k13 false))) else (if (((p0.Keep.length : Nat) : Int) == 0) = true then (if (p0.Kind == 1) = true then (if (p0.Kind == 8) = true then (k13 true) else (k13 (p0.Line.toList == (⟨#[]⟩ : ByteArray).toList))) else (if ((p0.Call.Kind == 0) && ((p0.Call.N == 0) && ((p0.Call.Label == 0) && ((p0.Call.Key == 0) && (p0.Call.Value == 0))))) = true then (if (p0.Kind == 8) = true then (k13 true) else (k13 (p0.Line.toList == (⟨#[]⟩ : ByteArray).toList))) else (k13 false))) else (k13 false))) else (k13 false)) else (k13 false))) else (if (p0.Label == 0) = true then (if b1_1 = true then (if (p0.Kind == 6) = true then (if (p0.Kind == 1) = true then (if (p0.Kind == 8) = true then (k13 true) else (k13 (p0.Line.toList == (⟨#[]⟩ : ByteArray).toList))) else (if ((p0.Call.Kind == 0) && ((p0.Call.N == 0) && ((p0.Call.Label == 0) && ((p0.Call.Key == 0) && (p0.Call.Value == 0))))) = true then (if (p0.Kind == 8) = true then (k13 true) else (k13 (p0.Line.toList == (⟨#[]⟩ : ByteArray).toList))) else (k13 false))) else (if (((p0.Keep.length : Nat) : Int) == 0) = true then (if (p0.Kind == 1) = true then (if (p0.Kind == 8) = true then (k13 true) else (k13 (p0.Line.toList == (⟨#[]⟩ : ByteArray).toList))) else (if ((p0.Call.Kind == 0) && ((p0.Call.N == 0) && ((p0.Call.Label == 0) && ((p0.Call.Key == 0) && (p0.Call.Value == 0))))) = true then (if (p0.Kind == 8) = true then (k13 true) else (k13 (p0.Line.toList == (⟨#[]⟩ : ByteArray).toList))) else (k13 false))) else (k13 false))) else (if (p0.To == 0) = true then (if (p0.Pick == 0) = true then (if (p0.Kind == 6) = true then (if (p0.Kind == 1) = true then (if (p0.Kind == 8) = true then (k13 true) else (k13 (p0.Line.toList == (⟨#[]⟩ : ByteArray).toList))) else (if ((p0.Call.Kind == 0) && ((p0.Call.N == 0) && ((p0.Call.Label == 0) && ((p0.Call.Key == 0) && (p0.Call.Value == 0))))) = true then (if (p0.Kind == 8) = true then (k13 true) else (k13 (p0.Line.toList == (⟨#[]⟩ : ByteArray).toList))) else (k13 false))) else (if (((p0.Keep.length : Nat) : Int) == 0) = true then (if (p0.Kind == 1) = true then (if (p0.Kind == 8) = true then (k13 true) else (k13 (p0.Line.toList == (⟨#[]⟩ : ByteArray).toList))) else (if ((p0.Call.Kind == 0) && ((p0.Call.N == 0) && ((p0.Call.Label == 0) && ((p0.Call.Key == 0) && (p0.Call.Value == 0))))) = true then (if (p0.Kind == 8) = true then (k13 true) else (k13 (p0.Line.toList == (⟨#[]⟩ : ByteArray).toList))) else (k13 false))) else (k13 false))) else (k13 false)) else (k13 false))) else (k13 false))) else (if (p0.Site == 0) = true then (if b8_1 = true then (if b1_1 = true then (if (p0.Kind == 6) = true then (if (p0.Kind == 1) = true then (if (p0.Kind == 8) = true then (k13 true) else (k13 (p0.Line.toList == (⟨#[]⟩ : ByteArray).toList))) else (if ((p0.Call.Kind == 0) && ((p0.Call.N == 0) && ((p0.Call.Label == 0) && ((p0.Call.Key == 0) && (p0.Call.Value == 0))))) = true then (if (p0.Kind == 8) = true then (k13 true) else (k13 (p0.Line.toList == (⟨#[]⟩ : ByteArray).toList))) else (k13 false))) else (if (((p0.Keep.length : Nat) : Int) == 0) = true then (if (p0.Kind == 1) = true then (if (p0.Kind == 8) = true then (k13 true) else (k13 (p0.Line.toList == (⟨#[]⟩ : ByteArray).toList))) else (if ((p0.Call.Kind == 0) && ((p0.Call.N == 0) && ((p0.Call.Label == 0) && ((p0.Call.Key == 0) && (p0.Call.Value == 0))))) = true then (if (p0.Kind == 8) = true then (k13 true) else (k13 (p0.Line.toList == (⟨#[]⟩ : ByteArray).toList))) else (k13 false))) else (k13 false))) else (if (p0.To == 0) = true then (if (p0.Pick == 0) = true then (if (p0.Kind == 6) = true then (if (p0.Kind == 1) = true then (if (p0.Kind == 8) = true then (k13 true) else (k13 (p0.Line.toList == (⟨#[]⟩ : ByteArray).toList))) else (if ((p0.Call.Kind == 0) && ((p0.Call.N == 0) && ((p0.Call.Label == 0) && ((p0.Call.Key == 0) && (p0.Call.Value == 0))))) = true then (if (p0.Kind == 8) = true then (k13 true) else (k13 (p0.Line.toList == (⟨#[]⟩ : ByteArray).toList))) else (k13 false))) else (if (((p0.Keep.length : Nat) : Int) == 0) = true then (if (p0.Kind == 1) = true then (if (p0.Kind == 8) = true then (k13 true) else (k13 (p0.Line.toList == (⟨#[]⟩ : ByteArray).toList))) else (if ((p0.Call.Kind == 0) && ((p0.Call.N == 0) && ((p0.Call.Label == 0) && ((p0.Call.Key == 0) && (p0.Call.Value == 0))))) = true then (if (p0.Kind == 8) = true then (k13 true) else (k13 (p0.Line.toList == (⟨#[]⟩ : ByteArray).toList))) else (k13 false))) else (k13 false))) else (k13 false)) else (k13 false))) else (if (p0.Label == 0) = true then (if b1_1 = true then (if (p0.Kind == 6) = true then (if (p0.Kind == 1) = true then (if (p0.Kind == 8) = true then (k13 true) else (k13 (p0.Line.toList == (⟨#[]⟩ : ByteArray).toList))) else (if ((p0.Call.Kind == 0) && ((p0.Call.N == 0) && ((p0.Call.Label == 0) && ((p0.Call.Key == 0) && (p0.Call.Value == 0))))) = true then (if (p0.Kind == 8) = true then (k13 true) else (k13 (p0.Line.toList == (⟨#[]⟩ : ByteArray).toList))) else (k13 false))) else (if (((p0.Keep.length : Nat) : Int) == 0) = true then (if (p0.Kind == 1) = true then (if (p0.Kind == 8) = true then (k13 true) else (k13 (p0.Line.toList == (⟨#[]⟩ : ByteArray).toList))) else (if ((p0.Call.Kind == 0) && ((p0.Call.N == 0) && ((p0.Call.Label == 0) && ((p0.Call.Key == 0) && (p0.Call.Value == 0))))) = true then (if (p0.Kind == 8) = true then (k13 true) else (k13 (p0.Line.toList == (⟨#[]⟩ : ByteArray).toList))) else (k13 false))) else (k13 false))) else (if (p0.To == 0) = true then (if (p0.Pick == 0) = true then (if (p0.Kind == 6) = true then (if (p0.Kind == 1) = true then (if (p0.Kind == 8) = true then (k13 true) else (k13 (p0.Line.toList == (⟨#[]⟩ : ByteArray).toList))) else (if ((p0.Call.Kind == 0) && ((p0.Call.N == 0) && ((p0.Call.Label == 0) && ((p0.Call.Key == 0) && (p0.Call.Value == 0))))) = true then (if (p0.Kind == 8) = true then (k13 true) else (k13 (p0.Line.toList == (⟨#[]⟩ : ByteArray).toList))) else (k13 false))) else (if (((p0.Keep.length : Nat) : Int) == 0) = true then (if (p0.Kind == 1) = true then (if (p0.Kind == 8) = true then (k13 true) else (k13 (p0.Line.toList == (⟨#[]⟩ : ByteArray).toList))) else (if ((p0.Call.Kind == 0) && ((p0.Call.N == 0) && ((p0.Call.Label == 0) && ((p0.Call.Key == 0) && (p0.Call.Value == 0))))) = true then (if (p0.Kind == 8) = true then (k13 true) else (k13 (p0.Line.toList == (⟨#[]⟩ : ByteArray).toList))) else (k13 false))) else (k13 false))) else (k13 false)) else (k13 false))) else (k13 false))) else (k13 false))))) fun k9 => (if b1_1 = true then (k9 true) else (if (p0.Kind == 1) = true then (k9 true) else (k9 (p0.Kind == 8)))))) fun k6 => (if b1_1 = true then (k6 true) else (k6 (p0.Kind != 5))))) fun k2 => (if (p0.Kind == 2) = true then (k2 true) else (if (p0.Kind == 3) = true then (k2 true) else (k2 (p0.Kind == 4)))))
def F35 : VFn := ⟨95, (.seq (.reg [vo 1 (.box 12 (.t 0)), vo 2 (.mv (cb false))]) (.seq (.wk (.reg [vf 6 0 1, vs 7 6, bk 8 .eql 7 2, vm 9 8, gf 10 9 (.fa 0 (.t 1)), gf 11 9 (.ld false 1 (.t 10)), gf 12 9 (.bin .i .eql (.t 11) (ci 3)), vo 13 (.pick (.t 9) (cb true) (.t 12)), vm 14 13, gf 15 14 (.fa 0 (.t 1)), gf 16 14 (.ld false 1 (.t 15)), gf 17 14 (.bin .i .eql (.t 16) (ci 4)), vo 18 (.pick (.t 14) (cb true) (.t 17)), vm 3 18])) (.seq (.wk (.reg [vm 19 3, vm 20 19, gf 21 20 (.fa 0 (.t 1)), gf 22 20 (.ld false 1 (.t 21)), gf 23 20 (.bin .i .neq (.t 22) (ci 5)), vo 24 (.pick (.t 20) (cb true) (.t 23)), vm 4 24])) (.seq (.wk (.reg [vm 25 3, vm 26 25, gf 27 26 (.fa 0 (.t 1)), gf 28 26 (.ld false 1 (.t 27)), gf 29 26 (.bin .i .eql (.t 28) (ci 1)), vo 30 (.pick (.t 26) (cb true) (.t 29)), vm 31 30, gf 32 31 (.fa 0 (.t 1)), gf 33 31 (.ld false 1 (.t 32)), gf 34 31 (.bin .i .eql (.t 33) (ci 8)), vo 35 (.pick (.t 31) (cb true) (.t 34)), vm 5 35])) (.seq (.wk (.reg [vm 36 4, vm 37 36, gf 38 37 (.fa 1 (.t 1)), gf 39 37 (.ld false 1 (.t 38)), gf 40 37 (.bin .i .eql (.t 39) (ci 0)), vo 41 (.pick (.t 37) (cb true) (.t 40)), vm 42 41, gt 43 42 (.mv (.t 5)), gt 44 42 (.mv (.t 43)), gf 45 44 (.fa 3 (.t 1)), gf 46 44 (.ld false 1 (.t 45)), gf 47 44 (.bin .i .eql (.t 46) (ci 0)), gt 48 42 (.pick (.t 44) (cb true) (.t 47)), vo 49 (.pick (.t 42) (.t 48) (cb false)), vm 50 49, gt 51 50 (.mv (.t 3)), gt 52 50 (.mv (.t 51)), gf 53 52 (.fa 2 (.t 1)), gf 54 52 (.ld false 1 (.t 53)), gf 55 52 (.bin .i .eql (.t 54) (ci 0)), gf 56 52 (.mv (.t 55)), gt 57 56 (.fa 4 (.t 1)), gt 58 56 (.ld false 1 (.t 57)), gt 59 56 (.bin .i .eql (.t 58) (ci 0)), gf 60 52 (.pick (.t 56) (.t 59) (cb false)), gt 61 50 (.pick (.t 52) (cb true) (.t 60)), vo 62 (.pick (.t 50) (.t 61) (cb false)), vm 63 62, gt 64 63 (.fa 0 (.t 1)), gt 65 63 (.ld false 1 (.t 64)), gt 66 63 (.bin .i .eql (.t 65) (ci 6)), gt 67 63 (.mv (.t 66)), gf 68 67 (.fa 5 (.t 1)), gf 69 67 (.ld false 1 (.t 68)), gf 70 67 (.len (.t 69)), gf 71 67 (.bin .i .eql (.t 70) (ci 0)), gt 72 63 (.pick (.t 67) (cb true) (.t 71)), vo 73 (.pick (.t 63) (.t 72) (cb false)), vm 74 73, gt 75 74 (.fa 0 (.t 1)), gt 76 74 (.ld false 1 (.t 75)), gt 77 74 (.bin .i .eql (.t 76) (ci 1)), gt 78 74 (.mv (.t 77)), gf 79 78 (.fa 6 (.t 1)), gf 80 78 (.ld true 5 (.t 79)), gf 81 78 (.build [(zi 0), (zi 0), (zi 0), (zi 0), (zi 0)] []), gf 82 78 (.eqs false [.i, .i, .i, .i, .i] (.t 80) (.t 81)), gt 83 74 (.pick (.t 78) (cb true) (.t 82)), vo 84 (.pick (.t 74) (.t 83) (cb false)), vm 85 84, gt 86 85 (.fa 0 (.t 1)), gt 87 85 (.ld false 1 (.t 86)), gt 88 85 (.bin .i .eql (.t 87) (ci 8)), gt 89 85 (.mv (.t 88)), gf 90 89 (.fa 11 (.t 1)), gf 91 89 (.ld false 1 (.t 90)), gf 92 89 (.bin .s .eql (.t 91) (.c (.one (.d (.s ⟨#[]⟩))))), gt 93 85 (.pick (.t 89) (cb true) (.t 92)), vo 94 (.pick (.t 85) (.t 93) (cb false)), vm 2 94])) .ret))))), [.t 2]⟩
theorem low35 : lowF Tryd.prog 35 = some F35.strip := by kernel_rfl
theorem fok35 : fOk Tryd.prog 35 = true := by kernel_rfl
theorem lines_bare_ok (p0 : Act) (r : Bool) (h : lines_bare p0 = some r) : FnRO Tryd.prog G 35 [.agg p0.bx] (fun rs => rs = [.one (.b r)]) := by
 refine FnRO.of' low35 fok35 (by simp [F35]) ?_
 rw [lines_bare] at h
 replace h := Hd.mk h
 simp only [F35, go_sem]
 try simp only [*, go_sem]
 refine jn1 h (fun b1_1 => [zP 1 0, zB 3 b1_1]) (fun b1_1 => [ox p0.bx]) (fun k2 h => ?_) (fun b1_1 h => ?_)
 refine oi h (fun hb3 h => ?_) (fun hb3 h => ?_)
 try simp only [*, go_sem]
 exact jc (true) h.e [some 0]
 refine oi h (fun hb4 h => ?_) (fun hb4 h => ?_)
 try simp only [*, go_sem]
 exact jc (true) h.e [some 0]
 try simp only [*, go_sem]
 exact jc (p0.Kind == 4) h.e [some 0]
 try simp only [*, go_sem]
 refine jn1 h (fun b5_1 => [zP 1 0, zB 3 b1_1, zB 4 b5_1]) (fun b5_1 => [ox p0.bx]) (fun k6 h => ?_) (fun b5_1 h => ?_)
 refine oi h (fun hb7 h => ?_) (fun hb7 h => ?_)
 try simp only [*, go_sem]
 exact jc (true) h.e [some 0]
 try simp only [*, go_sem]
 exact jc (p0.Kind != 5) h.e [some 0]
 try simp only [*, go_sem]
 refine jn1 h (fun b8_1 => [zP 1 0, zB 3 b1_1, zB 4 b5_1, zB 5 b8_1]) (fun b8_1 => [ox p0.bx]) (fun k9 h => ?_) (fun b8_1 h => ?_)
 refine oi h (fun hb10 h => ?_) (fun hb10 h => ?_)
 try simp only [*, go_sem]
 exact jc (true) h.e [some 0]
 refine oi h (fun hb11 h => ?_) (fun hb11 h => ?_)
 try simp only [*, go_sem]
 exact jc (true) h.e [some 0]
 try simp only [*, go_sem]
 exact jc (p0.Kind == 8) h.e [some 0]
 try simp only [*, go_sem]
 refine jn1 h (fun b12_1 => [zB 2 b12_1]) (fun b12_1 => []) (fun k13 h => ?_) (fun b12_1 h => ?_)
 refine oi h (fun hb14 h => ?_) (fun hb14 h => ?_)
 refine oi h (fun hb15 h => ?_) (fun hb15 h => ?_)
 refine oi h (fun hb16 h => ?_) (fun hb16 h => ?_)
 refine oi h (fun hb17 h => ?_) (fun hb17 h => ?_)
 refine oi h (fun hb18 h => ?_) (fun hb18 h => ?_)
 refine oi h (fun hb19 h => ?_) (fun hb19 h => ?_)
 try simp only [*, go_sem]
 exact jc (true) h.e []
 try simp only [*, go_sem]
 exact jc (p0.Line.toList == (⟨#[]⟩ : ByteArray).toList) h.e []
 refine oi h (fun hb20 h => ?_) (fun hb20 h => ?_)
 try simp only [*, go_sem]
 refine oi h (fun hb21 h => ?_) (fun hb21 h => ?_)
 try simp only [*, go_sem]
 exact jc (true) h.e []
 try simp only [*, go_sem]
 exact jc (p0.Line.toList == (⟨#[]⟩ : ByteArray).toList) h.e []
 try simp only [*, go_sem]
 try simp only [*, go_sem]
 exact jc (false) h.e []
 try simp only [*, go_sem]
 intro hl22
 refine oi h (fun hb23 h => ?_) (fun hb23 h => ?_)
 refine oi h (fun hb24 h => ?_) (fun hb24 h => ?_)
 refine oi h (fun hb25 h => ?_) (fun hb25 h => ?_)
 try simp only [*, go_sem]
 exact jc (true) h.e []
 try simp only [*, go_sem]
 exact jc (p0.Line.toList == (⟨#[]⟩ : ByteArray).toList) h.e []
 refine oi h (fun hb26 h => ?_) (fun hb26 h => ?_)
 try simp only [*, go_sem]
 refine oi h (fun hb27 h => ?_) (fun hb27 h => ?_)
 try simp only [*, go_sem]
 exact jc (true) h.e []
 try simp only [*, go_sem]
 exact jc (p0.Line.toList == (⟨#[]⟩ : ByteArray).toList) h.e []
 try simp only [*, go_sem]
 try simp only [*, go_sem]
 exact jc (false) h.e []
 try simp only [*, go_sem]
 exact jc (false) h.e []
 refine oi h (fun hb28 h => ?_) (fun hb28 h => ?_)
 refine oi h (fun hb29 h => ?_) (fun hb29 h => ?_)
 refine oi h (fun hb30 h => ?_) (fun hb30 h => ?_)
 refine oi h (fun hb31 h => ?_) (fun hb31 h => ?_)
 refine oi h (fun hb32 h => ?_) (fun hb32 h => ?_)
 try simp only [*, go_sem]
 exact jc (true) h.e []
 try simp only [*, go_sem]
 exact jc (p0.Line.toList == (⟨#[]⟩ : ByteArray).toList) h.e []
 refine oi h (fun hb33 h => ?_) (fun hb33 h => ?_)
 try simp only [*, go_sem]
 refine oi h (fun hb34 h => ?_) (fun hb34 h => ?_)
 try simp only [*, go_sem]
 exact jc (true) h.e []
 try simp only [*, go_sem]
 exact jc (p0.Line.toList == (⟨#[]⟩ : ByteArray).toList) h.e []
 try simp only [*, go_sem]
 try simp only [*, go_sem]
 exact jc (false) h.e []
 try simp only [*, go_sem]
 intro hl35
 refine oi h (fun hb36 h => ?_) (fun hb36 h => ?_)
 refine oi h (fun hb37 h => ?_) (fun hb37 h => ?_)
 refine oi h (fun hb38 h => ?_) (fun hb38 h => ?_)
 try simp only [*, go_sem]
 exact jc (true) h.e []
 try simp only [*, go_sem]
 exact jc (p0.Line.toList == (⟨#[]⟩ : ByteArray).toList) h.e []
 refine oi h (fun hb39 h => ?_) (fun hb39 h => ?_)
 try simp only [*, go_sem]
 refine oi h (fun hb40 h => ?_) (fun hb40 h => ?_)
 try simp only [*, go_sem]
 exact jc (true) h.e []
 try simp only [*, go_sem]
 exact jc (p0.Line.toList == (⟨#[]⟩ : ByteArray).toList) h.e []
 try simp only [*, go_sem]
 try simp only [*, go_sem]
 exact jc (false) h.e []
 try simp only [*, go_sem]
 exact jc (false) h.e []
 try simp only [*, go_sem]
 exact jc (false) h.e []
 try simp only [*, go_sem]
 exact jc (false) h.e []
 refine oi h (fun hb41 h => ?_) (fun hb41 h => ?_)
 refine oi h (fun hb42 h => ?_) (fun hb42 h => ?_)
 refine oi h (fun hb43 h => ?_) (fun hb43 h => ?_)
 refine oi h (fun hb44 h => ?_) (fun hb44 h => ?_)
 refine oi h (fun hb45 h => ?_) (fun hb45 h => ?_)
 try simp only [*, go_sem]
 exact jc (true) h.e []
 try simp only [*, go_sem]
 exact jc (p0.Line.toList == (⟨#[]⟩ : ByteArray).toList) h.e []
 refine oi h (fun hb46 h => ?_) (fun hb46 h => ?_)
 try simp only [*, go_sem]
 refine oi h (fun hb47 h => ?_) (fun hb47 h => ?_)
 try simp only [*, go_sem]
 exact jc (true) h.e []
 try simp only [*, go_sem]
 exact jc (p0.Line.toList == (⟨#[]⟩ : ByteArray).toList) h.e []
 try simp only [*, go_sem]
 try simp only [*, go_sem]
 exact jc (false) h.e []
 try simp only [*, go_sem]
 intro hl48
 refine oi h (fun hb49 h => ?_) (fun hb49 h => ?_)
 refine oi h (fun hb50 h => ?_) (fun hb50 h => ?_)
 refine oi h (fun hb51 h => ?_) (fun hb51 h => ?_)
 try simp only [*, go_sem]
 exact jc (true) h.e []
 try simp only [*, go_sem]
 exact jc (p0.Line.toList == (⟨#[]⟩ : ByteArray).toList) h.e []
 refine oi h (fun hb52 h => ?_) (fun hb52 h => ?_)
 try simp only [*, go_sem]
 refine oi h (fun hb53 h => ?_) (fun hb53 h => ?_)
 try simp only [*, go_sem]
 exact jc (true) h.e []
 try simp only [*, go_sem]
 exact jc (p0.Line.toList == (⟨#[]⟩ : ByteArray).toList) h.e []
 try simp only [*, go_sem]
 try simp only [*, go_sem]
 exact jc (false) h.e []
 try simp only [*, go_sem]
 exact jc (false) h.e []
 refine oi h (fun hb54 h => ?_) (fun hb54 h => ?_)
 refine oi h (fun hb55 h => ?_) (fun hb55 h => ?_)
 refine oi h (fun hb56 h => ?_) (fun hb56 h => ?_)
 refine oi h (fun hb57 h => ?_) (fun hb57 h => ?_)
 refine oi h (fun hb58 h => ?_) (fun hb58 h => ?_)
 try simp only [*, go_sem]
 exact jc (true) h.e []
 try simp only [*, go_sem]
 exact jc (p0.Line.toList == (⟨#[]⟩ : ByteArray).toList) h.e []
 refine oi h (fun hb59 h => ?_) (fun hb59 h => ?_)
 try simp only [*, go_sem]
 refine oi h (fun hb60 h => ?_) (fun hb60 h => ?_)
 try simp only [*, go_sem]
 exact jc (true) h.e []
 try simp only [*, go_sem]
 exact jc (p0.Line.toList == (⟨#[]⟩ : ByteArray).toList) h.e []
 try simp only [*, go_sem]
 try simp only [*, go_sem]
 exact jc (false) h.e []
 try simp only [*, go_sem]
 intro hl61
 refine oi h (fun hb62 h => ?_) (fun hb62 h => ?_)
 refine oi h (fun hb63 h => ?_) (fun hb63 h => ?_)
 refine oi h (fun hb64 h => ?_) (fun hb64 h => ?_)
 try simp only [*, go_sem]
 exact jc (true) h.e []
 try simp only [*, go_sem]
 exact jc (p0.Line.toList == (⟨#[]⟩ : ByteArray).toList) h.e []
 refine oi h (fun hb65 h => ?_) (fun hb65 h => ?_)
 try simp only [*, go_sem]
 refine oi h (fun hb66 h => ?_) (fun hb66 h => ?_)
 try simp only [*, go_sem]
 exact jc (true) h.e []
 try simp only [*, go_sem]
 exact jc (p0.Line.toList == (⟨#[]⟩ : ByteArray).toList) h.e []
 try simp only [*, go_sem]
 try simp only [*, go_sem]
 exact jc (false) h.e []
 try simp only [*, go_sem]
 exact jc (false) h.e []
 try simp only [*, go_sem]
 exact jc (false) h.e []
 try simp only [*, go_sem]
 exact jc (false) h.e []
 try simp only [*, go_sem]
 exact jc (false) h.e []
 refine oi h (fun hb67 h => ?_) (fun hb67 h => ?_)
 refine oi h (fun hb68 h => ?_) (fun hb68 h => ?_)
 refine oi h (fun hb69 h => ?_) (fun hb69 h => ?_)
 refine oi h (fun hb70 h => ?_) (fun hb70 h => ?_)
 refine oi h (fun hb71 h => ?_) (fun hb71 h => ?_)
 refine oi h (fun hb72 h => ?_) (fun hb72 h => ?_)
 try simp only [*, go_sem]
 exact jc (true) h.e []
 try simp only [*, go_sem]
 exact jc (p0.Line.toList == (⟨#[]⟩ : ByteArray).toList) h.e []
 refine oi h (fun hb73 h => ?_) (fun hb73 h => ?_)
 try simp only [*, go_sem]
 refine oi h (fun hb74 h => ?_) (fun hb74 h => ?_)
 try simp only [*, go_sem]
 exact jc (true) h.e []
 try simp only [*, go_sem]
 exact jc (p0.Line.toList == (⟨#[]⟩ : ByteArray).toList) h.e []
 try simp only [*, go_sem]
 try simp only [*, go_sem]
 exact jc (false) h.e []
 try simp only [*, go_sem]
 intro hl75
 refine oi h (fun hb76 h => ?_) (fun hb76 h => ?_)
 refine oi h (fun hb77 h => ?_) (fun hb77 h => ?_)
 refine oi h (fun hb78 h => ?_) (fun hb78 h => ?_)
 try simp only [*, go_sem]
 exact jc (true) h.e []
 try simp only [*, go_sem]
 exact jc (p0.Line.toList == (⟨#[]⟩ : ByteArray).toList) h.e []
 refine oi h (fun hb79 h => ?_) (fun hb79 h => ?_)
 try simp only [*, go_sem]
 refine oi h (fun hb80 h => ?_) (fun hb80 h => ?_)
 try simp only [*, go_sem]
 exact jc (true) h.e []
 try simp only [*, go_sem]
 exact jc (p0.Line.toList == (⟨#[]⟩ : ByteArray).toList) h.e []
 try simp only [*, go_sem]
 try simp only [*, go_sem]
 exact jc (false) h.e []
 try simp only [*, go_sem]
 exact jc (false) h.e []
 refine oi h (fun hb81 h => ?_) (fun hb81 h => ?_)
 refine oi h (fun hb82 h => ?_) (fun hb82 h => ?_)
 refine oi h (fun hb83 h => ?_) (fun hb83 h => ?_)
 refine oi h (fun hb84 h => ?_) (fun hb84 h => ?_)
 refine oi h (fun hb85 h => ?_) (fun hb85 h => ?_)
 try simp only [*, go_sem]
 exact jc (true) h.e []
 try simp only [*, go_sem]
 exact jc (p0.Line.toList == (⟨#[]⟩ : ByteArray).toList) h.e []
 refine oi h (fun hb86 h => ?_) (fun hb86 h => ?_)
 try simp only [*, go_sem]
 refine oi h (fun hb87 h => ?_) (fun hb87 h => ?_)
 try simp only [*, go_sem]
 exact jc (true) h.e []
 try simp only [*, go_sem]
 exact jc (p0.Line.toList == (⟨#[]⟩ : ByteArray).toList) h.e []
 try simp only [*, go_sem]
 try simp only [*, go_sem]
 exact jc (false) h.e []
 try simp only [*, go_sem]
 intro hl88
 refine oi h (fun hb89 h => ?_) (fun hb89 h => ?_)
 refine oi h (fun hb90 h => ?_) (fun hb90 h => ?_)
 refine oi h (fun hb91 h => ?_) (fun hb91 h => ?_)
 try simp only [*, go_sem]
 exact jc (true) h.e []
 try simp only [*, go_sem]
 exact jc (p0.Line.toList == (⟨#[]⟩ : ByteArray).toList) h.e []
 refine oi h (fun hb92 h => ?_) (fun hb92 h => ?_)
 try simp only [*, go_sem]
 refine oi h (fun hb93 h => ?_) (fun hb93 h => ?_)
 try simp only [*, go_sem]
 exact jc (true) h.e []
 try simp only [*, go_sem]
 exact jc (p0.Line.toList == (⟨#[]⟩ : ByteArray).toList) h.e []
 try simp only [*, go_sem]
 try simp only [*, go_sem]
 exact jc (false) h.e []
 try simp only [*, go_sem]
 exact jc (false) h.e []
 try simp only [*, go_sem]
 exact jc (false) h.e []
 try simp only [*, go_sem]
 exact jc (false) h.e []
 refine oi h (fun hb94 h => ?_) (fun hb94 h => ?_)
 refine oi h (fun hb95 h => ?_) (fun hb95 h => ?_)
 refine oi h (fun hb96 h => ?_) (fun hb96 h => ?_)
 refine oi h (fun hb97 h => ?_) (fun hb97 h => ?_)
 refine oi h (fun hb98 h => ?_) (fun hb98 h => ?_)
 try simp only [*, go_sem]
 exact jc (true) h.e []
 try simp only [*, go_sem]
 exact jc (p0.Line.toList == (⟨#[]⟩ : ByteArray).toList) h.e []
 refine oi h (fun hb99 h => ?_) (fun hb99 h => ?_)
 try simp only [*, go_sem]
 refine oi h (fun hb100 h => ?_) (fun hb100 h => ?_)
 try simp only [*, go_sem]
 exact jc (true) h.e []
 try simp only [*, go_sem]
 exact jc (p0.Line.toList == (⟨#[]⟩ : ByteArray).toList) h.e []
 try simp only [*, go_sem]
 try simp only [*, go_sem]
 exact jc (false) h.e []
 try simp only [*, go_sem]
 intro hl101
 refine oi h (fun hb102 h => ?_) (fun hb102 h => ?_)
 refine oi h (fun hb103 h => ?_) (fun hb103 h => ?_)
 refine oi h (fun hb104 h => ?_) (fun hb104 h => ?_)
 try simp only [*, go_sem]
 exact jc (true) h.e []
 try simp only [*, go_sem]
 exact jc (p0.Line.toList == (⟨#[]⟩ : ByteArray).toList) h.e []
 refine oi h (fun hb105 h => ?_) (fun hb105 h => ?_)
 try simp only [*, go_sem]
 refine oi h (fun hb106 h => ?_) (fun hb106 h => ?_)
 try simp only [*, go_sem]
 exact jc (true) h.e []
 try simp only [*, go_sem]
 exact jc (p0.Line.toList == (⟨#[]⟩ : ByteArray).toList) h.e []
 try simp only [*, go_sem]
 try simp only [*, go_sem]
 exact jc (false) h.e []
 try simp only [*, go_sem]
 exact jc (false) h.e []
 refine oi h (fun hb107 h => ?_) (fun hb107 h => ?_)
 refine oi h (fun hb108 h => ?_) (fun hb108 h => ?_)
 refine oi h (fun hb109 h => ?_) (fun hb109 h => ?_)
 refine oi h (fun hb110 h => ?_) (fun hb110 h => ?_)
 refine oi h (fun hb111 h => ?_) (fun hb111 h => ?_)
 try simp only [*, go_sem]
 exact jc (true) h.e []
 try simp only [*, go_sem]
 exact jc (p0.Line.toList == (⟨#[]⟩ : ByteArray).toList) h.e []
 refine oi h (fun hb112 h => ?_) (fun hb112 h => ?_)
 try simp only [*, go_sem]
 refine oi h (fun hb113 h => ?_) (fun hb113 h => ?_)
 try simp only [*, go_sem]
 exact jc (true) h.e []
 try simp only [*, go_sem]
 exact jc (p0.Line.toList == (⟨#[]⟩ : ByteArray).toList) h.e []
 try simp only [*, go_sem]
 try simp only [*, go_sem]
 exact jc (false) h.e []
 try simp only [*, go_sem]
 intro hl114
 refine oi h (fun hb115 h => ?_) (fun hb115 h => ?_)
 refine oi h (fun hb116 h => ?_) (fun hb116 h => ?_)
 refine oi h (fun hb117 h => ?_) (fun hb117 h => ?_)
 try simp only [*, go_sem]
 exact jc (true) h.e []
 try simp only [*, go_sem]
 exact jc (p0.Line.toList == (⟨#[]⟩ : ByteArray).toList) h.e []
 refine oi h (fun hb118 h => ?_) (fun hb118 h => ?_)
 try simp only [*, go_sem]
 refine oi h (fun hb119 h => ?_) (fun hb119 h => ?_)
 try simp only [*, go_sem]
 exact jc (true) h.e []
 try simp only [*, go_sem]
 exact jc (p0.Line.toList == (⟨#[]⟩ : ByteArray).toList) h.e []
 try simp only [*, go_sem]
 try simp only [*, go_sem]
 exact jc (false) h.e []
 try simp only [*, go_sem]
 exact jc (false) h.e []
 try simp only [*, go_sem]
 exact jc (false) h.e []
 try simp only [*, go_sem]
 exact jc (false) h.e []
 try simp only [*, go_sem]
 exact jc (false) h.e []
 try simp only [*, go_sem]
 exact jc (false) h.e []
 cases h.e
 simp only [*, go_sem, mA, mS]
def lines_call (p0 : Call) : Option (Int) := (if (decide (p0.Kind < 1)) = true then (some 3) else (if (decide (p0.Kind > 5)) = true then (some 3) else (if (decide (p0.N < 0)) = true then (some 2) else (if (decide (p0.N > 1048576)) = true then (some 2) else (if (decide (p0.Label < 0)) = true then (some 2) else (if (decide (p0.Label ≥ 6)) = true then (some 2) else (if (decide (p0.Key < 0)) = true then (some 2) else (if (decide (p0.Key > 8)) = true then (some 2) else (if (decide (p0.Value < 0)) = true then (some 2) else (if (decide (p0.Value > 1073741824)) = true then (some 2) else (withK (fun (b11_1 : Int) => (withK (fun (b14_1 : Int) (b14_2 : Int) (b14_3 : Int) => (if (!((p0.N == b11_1) && ((p0.Label == b14_1) && ((p0.Key == b14_2) && (p0.Value == b14_3))))) = true then (some 4) else (some 0))) fun k15 => (if (p0.Kind == 2) = true then (withK (k15 p0.Label p0.Key 0) fun k18 => k18) else (withK (fun (b19_1 : Int) (b19_2 : Int) => (k15 0 b19_1 b19_2)) fun k20 => (if (p0.Kind == 3) = true then (withK (k20 p0.Key p0.Value) fun k23 => k23) else (k20 0 0)))))) fun k12 => (if (p0.Kind != 1) = true then (k12 p0.N) else (k12 0)))))))))))))
def F36 : VFn := ⟨80, (.seq (.reg [vo 1 (.boxk 5 (.t 0)), mi 2 0]) (.seq (.seq (.reg [vf 4 0 1, vs 5 4, bk 6 .lss 5 1, vm 7 6, gf 8 7 (.fa 0 (.t 1)), gf 9 7 (.ld false 1 (.t 8)), gf 10 7 (.bin .i .gtr (.t 9) (ci 5)), vo 11 (.pick (.t 7) (cb true) (.t 10))]) (.cond (.t 11) (.seq (.reg [mi 2 3]) .ret) .skip)) (.seq (.seq (.reg [vf 12 1 1, vs 13 12, bk 14 .lss 13 0, vm 15 14, gf 16 15 (.fa 1 (.t 1)), gf 17 15 (.ld false 1 (.t 16)), gf 18 15 (.bin .i .gtr (.t 17) (ci 1048576)), vo 19 (.pick (.t 15) (cb true) (.t 18)), vm 20 19, gf 21 20 (.fa 2 (.t 1)), gf 22 20 (.ld false 1 (.t 21)), gf 23 20 (.bin .i .lss (.t 22) (ci 0)), vo 24 (.pick (.t 20) (cb true) (.t 23)), vm 25 24, gf 26 25 (.fa 2 (.t 1)), gf 27 25 (.ld false 1 (.t 26)), gf 28 25 (.bin .i .geq (.t 27) (ci 6)), vo 29 (.pick (.t 25) (cb true) (.t 28)), vm 30 29, gf 31 30 (.fa 3 (.t 1)), gf 32 30 (.ld false 1 (.t 31)), gf 33 30 (.bin .i .lss (.t 32) (ci 0)), vo 34 (.pick (.t 30) (cb true) (.t 33)), vm 35 34, gf 36 35 (.fa 3 (.t 1)), gf 37 35 (.ld false 1 (.t 36)), gf 38 35 (.bin .i .gtr (.t 37) (ci 8)), vo 39 (.pick (.t 35) (cb true) (.t 38)), vm 40 39, gf 41 40 (.fa 4 (.t 1)), gf 42 40 (.ld false 1 (.t 41)), gf 43 40 (.bin .i .lss (.t 42) (ci 0)), vo 44 (.pick (.t 40) (cb true) (.t 43)), vm 45 44, gf 46 45 (.fa 4 (.t 1)), gf 47 45 (.ld false 1 (.t 46)), gf 48 45 (.bin .i .gtr (.t 47) (ci 1073741824)), vo 49 (.pick (.t 45) (cb true) (.t 48))]) (.cond (.t 49) (.seq (.reg [mi 2 2]) .ret) .skip)) (.seq (.reg [vf 50 0 1, vs 51 50, vo 52 (.build [(zi 0), (zi 0), (zi 0), (zi 0), (zi 0)] [(0, 1, (.t 51))]), vo 3 (.alloc [(zi 0), (zi 0), (zi 0), (zi 0), (zi 0)]), vu (.st 5 (.t 3) (.t 52))]) (.seq (.seq (.reg [vf 53 0 1, vs 54 53, bk 55 .neq 54 1]) (.wk (.cond (.t 55) (.reg [vf 56 1 1, vs 57 56, vf 58 1 3, vu (.st 1 (.t 58) (.t 57))]) .skip))) (.seq (.seq (.reg [vf 59 0 1, vs 60 59]) (.block 0 (.seq (.reg [bk 62 .eql 60 2, vm 61 62]) (.wk (.cond (.t 61) (.wk (.orders [[vf 63 2 1, vs 64 63, vf 65 3 1, vs 66 65, vf 67 2 3, vu (.st 1 (.t 67) (.t 64)), vf 68 3 3, vu (.st 1 (.t 68) (.t 66))], [vf 63 2 1, vs 64 63, vf 65 3 1, vf 67 2 3, vs 66 65, vu (.st 1 (.t 67) (.t 64)), vf 68 3 3, vu (.st 1 (.t 68) (.t 66))], [vf 63 2 1, vs 64 63, vf 65 3 1, vf 67 2 3, vu (.st 1 (.t 67) (.t 64)), vs 66 65, vf 68 3 3, vu (.st 1 (.t 68) (.t 66))], [vf 63 2 1, vs 64 63, vf 67 2 3, vf 65 3 1, vs 66 65, vu (.st 1 (.t 67) (.t 64)), vf 68 3 3, vu (.st 1 (.t 68) (.t 66))], [vf 63 2 1, vs 64 63, vf 67 2 3, vf 65 3 1, vu (.st 1 (.t 67) (.t 64)), vs 66 65, vf 68 3 3, vu (.st 1 (.t 68) (.t 66))], [vf 63 2 1, vs 64 63, vf 67 2 3, vu (.st 1 (.t 67) (.t 64)), vf 65 3 1, vs 66 65, vf 68 3 3, vu (.st 1 (.t 68) (.t 66))], [vf 63 2 1, vf 65 3 1, vs 64 63, vs 66 65, vf 67 2 3, vu (.st 1 (.t 67) (.t 64)), vf 68 3 3, vu (.st 1 (.t 68) (.t 66))], [vf 63 2 1, vf 65 3 1, vs 64 63, vf 67 2 3, vs 66 65, vu (.st 1 (.t 67) (.t 64)), vf 68 3 3, vu (.st 1 (.t 68) (.t 66))], [vf 63 2 1, vf 65 3 1, vs 64 63, vf 67 2 3, vu (.st 1 (.t 67) (.t 64)), vs 66 65, vf 68 3 3, vu (.st 1 (.t 68) (.t 66))], [vf 63 2 1, vf 65 3 1, vs 66 65, vs 64 63, vf 67 2 3, vu (.st 1 (.t 67) (.t 64)), vf 68 3 3, vu (.st 1 (.t 68) (.t 66))], [vf 65 3 1, vf 63 2 1, vs 64 63, vs 66 65, vf 67 2 3, vu (.st 1 (.t 67) (.t 64)), vf 68 3 3, vu (.st 1 (.t 68) (.t 66))], [vf 65 3 1, vf 63 2 1, vs 64 63, vf 67 2 3, vs 66 65, vu (.st 1 (.t 67) (.t 64)), vf 68 3 3, vu (.st 1 (.t 68) (.t 66))], [vf 65 3 1, vf 63 2 1, vs 64 63, vf 67 2 3, vu (.st 1 (.t 67) (.t 64)), vs 66 65, vf 68 3 3, vu (.st 1 (.t 68) (.t 66))], [vf 65 3 1, vf 63 2 1, vs 66 65, vs 64 63, vf 67 2 3, vu (.st 1 (.t 67) (.t 64)), vf 68 3 3, vu (.st 1 (.t 68) (.t 66))], [vf 65 3 1, vs 66 65, vf 63 2 1, vs 64 63, vf 67 2 3, vu (.st 1 (.t 67) (.t 64)), vf 68 3 3, vu (.st 1 (.t 68) (.t 66))]])) (.seq (.reg [bk 70 .eql 60 3, vm 69 70]) (.wk (.cond (.t 69) (.wk (.orders [[vf 71 3 1, vs 72 71, vf 73 4 1, vs 74 73, vf 75 3 3, vu (.st 1 (.t 75) (.t 72)), vf 76 4 3, vu (.st 1 (.t 76) (.t 74))], [vf 71 3 1, vs 72 71, vf 73 4 1, vf 75 3 3, vs 74 73, vu (.st 1 (.t 75) (.t 72)), vf 76 4 3, vu (.st 1 (.t 76) (.t 74))], [vf 71 3 1, vs 72 71, vf 73 4 1, vf 75 3 3, vu (.st 1 (.t 75) (.t 72)), vs 74 73, vf 76 4 3, vu (.st 1 (.t 76) (.t 74))], [vf 71 3 1, vs 72 71, vf 75 3 3, vf 73 4 1, vs 74 73, vu (.st 1 (.t 75) (.t 72)), vf 76 4 3, vu (.st 1 (.t 76) (.t 74))], [vf 71 3 1, vs 72 71, vf 75 3 3, vf 73 4 1, vu (.st 1 (.t 75) (.t 72)), vs 74 73, vf 76 4 3, vu (.st 1 (.t 76) (.t 74))], [vf 71 3 1, vs 72 71, vf 75 3 3, vu (.st 1 (.t 75) (.t 72)), vf 73 4 1, vs 74 73, vf 76 4 3, vu (.st 1 (.t 76) (.t 74))], [vf 71 3 1, vf 73 4 1, vs 72 71, vs 74 73, vf 75 3 3, vu (.st 1 (.t 75) (.t 72)), vf 76 4 3, vu (.st 1 (.t 76) (.t 74))], [vf 71 3 1, vf 73 4 1, vs 72 71, vf 75 3 3, vs 74 73, vu (.st 1 (.t 75) (.t 72)), vf 76 4 3, vu (.st 1 (.t 76) (.t 74))], [vf 71 3 1, vf 73 4 1, vs 72 71, vf 75 3 3, vu (.st 1 (.t 75) (.t 72)), vs 74 73, vf 76 4 3, vu (.st 1 (.t 76) (.t 74))], [vf 71 3 1, vf 73 4 1, vs 74 73, vs 72 71, vf 75 3 3, vu (.st 1 (.t 75) (.t 72)), vf 76 4 3, vu (.st 1 (.t 76) (.t 74))], [vf 73 4 1, vf 71 3 1, vs 72 71, vs 74 73, vf 75 3 3, vu (.st 1 (.t 75) (.t 72)), vf 76 4 3, vu (.st 1 (.t 76) (.t 74))], [vf 73 4 1, vf 71 3 1, vs 72 71, vf 75 3 3, vs 74 73, vu (.st 1 (.t 75) (.t 72)), vf 76 4 3, vu (.st 1 (.t 76) (.t 74))], [vf 73 4 1, vf 71 3 1, vs 72 71, vf 75 3 3, vu (.st 1 (.t 75) (.t 72)), vs 74 73, vf 76 4 3, vu (.st 1 (.t 76) (.t 74))], [vf 73 4 1, vf 71 3 1, vs 74 73, vs 72 71, vf 75 3 3, vu (.st 1 (.t 75) (.t 72)), vf 76 4 3, vu (.st 1 (.t 76) (.t 74))], [vf 73 4 1, vs 74 73, vf 71 3 1, vs 72 71, vf 75 3 3, vu (.st 1 (.t 75) (.t 72)), vf 76 4 3, vu (.st 1 (.t 76) (.t 74))]])) .skip)))))))) (.seq (.seq (.reg [vl 77 5 1, vl 78 5 3, vo 79 (.eqs true [.i, .i, .i, .i, .i] (.t 77) (.t 78))]) (.cond (.t 79) (.seq (.reg [mi 2 4]) .ret) .skip)) (.seq (.reg [mi 2 0]) .ret)))))))), [.t 2]⟩
theorem low36 : lowF Tryd.prog 36 = some F36.strip := by kernel_rfl
theorem fok36 : fOk Tryd.prog 36 = true := by kernel_rfl
theorem lines_call_ok (p0 : Call) (r : Int) (h : lines_call p0 = some r) : FnRO Tryd.prog G 36 [.agg p0.bx] (fun rs => rs = [.one (.i .i64 r)]) := by
 refine FnRO.of' low36 fok36 (by simp [F36]) ?_
 rw [lines_call] at h
 replace h := Hd.mk h
 simp only [F36, go_sem]
 refine oi h (fun hb1 h => ?_) (fun hb1 h => ?_)
 have := of_decide_eq_true hb1
 cases h.e
 simp only [*, go_sem, mA, mS]
 refine oi h (fun hb2 h => ?_) (fun hb2 h => ?_)
 cases h.e
 simp only [*, go_sem, mA, mS]
 refine oi h (fun hb3 h => ?_) (fun hb3 h => ?_)
 have := of_decide_eq_true hb3
 cases h.e
 simp only [*, go_sem, mA, mS]
 refine oi h (fun hb4 h => ?_) (fun hb4 h => ?_)
 cases h.e
 simp only [*, go_sem, mA, mS]
 refine oi h (fun hb5 h => ?_) (fun hb5 h => ?_)
 have := of_decide_eq_true hb5
 cases h.e
 simp only [*, go_sem, mA, mS]
 refine oi h (fun hb6 h => ?_) (fun hb6 h => ?_)
 cases h.e
 simp only [*, go_sem, mA, mS]
 refine oi h (fun hb7 h => ?_) (fun hb7 h => ?_)
 have := of_decide_eq_true hb7
 cases h.e
 simp only [*, go_sem, mA, mS]
 refine oi h (fun hb8 h => ?_) (fun hb8 h => ?_)
 cases h.e
 simp only [*, go_sem, mA, mS]
 refine oi h (fun hb9 h => ?_) (fun hb9 h => ?_)
 have := of_decide_eq_true hb9
 cases h.e
 simp only [*, go_sem, mA, mS]
 refine oi h (fun hb10 h => ?_) (fun hb10 h => ?_)
 cases h.e
 simp only [*, go_sem, mA, mS]
 try simp only [*, go_sem]
 refine jn1 h (fun b11_1 => [zK 1 (Call.enc p0), zP 3 0]) (fun b11_1 => [ox [zi p0.Kind, zi b11_1, zi 0, zi 0, zi 0]]) (fun k12 h => ?_) (fun b11_1 h => ?_)
 refine oi h (fun hb13 h => ?_) (fun hb13 h => ?_)
 try simp only [*, go_sem]
 exact jc (p0.N) h.e [some 0]
 try simp only [*, go_sem]
 exact jc (0) h.e [some 0]
 try simp only [*, go_sem]
 refine jn3 h (fun b14_1 b14_2 b14_3 => [zK 1 (Call.enc p0), zP 3 0]) (fun b14_1 b14_2 b14_3 => [ox [zi p0.Kind, zi b11_1, zi b14_1, zi b14_2, zi b14_3]]) (fun k15 h => ?_) (fun b14_1 b14_2 b14_3 h => ?_)
 refine oi h (fun hb16 h => ?_) (fun hb16 h => ?_)
 try simp only [*, go_sem]
 refine jn0 h ([zK 1 (Call.enc p0), zP 3 0]) ([ox [zi p0.Kind, zi b11_1, zi p0.Label, zi p0.Key, zi 0]]) (fun k18 h => ?_) (fun h => ?_)
 try simp only [*, go_sem]
 refine ⟨?_, ?_, ?_, ?_, ?_, ?_, ?_, ?_, ?_, ?_, ?_, ?_, ?_, ?_, ?_⟩
 try simp only [*, go_sem]
 exact jc () h.e [some 0]
 try simp only [*, go_sem]
 exact jc () h.e [some 0]
 try simp only [*, go_sem]
 exact jc () h.e [some 0]
 try simp only [*, go_sem]
 exact jc () h.e [some 0]
 try simp only [*, go_sem]
 exact jc () h.e [some 0]
 try simp only [*, go_sem]
 exact jc () h.e [some 0]
 try simp only [*, go_sem]
 exact jc () h.e [some 0]
 try simp only [*, go_sem]
 exact jc () h.e [some 0]
 try simp only [*, go_sem]
 exact jc () h.e [some 0]
 try simp only [*, go_sem]
 exact jc () h.e [some 0]
 try simp only [*, go_sem]
 exact jc () h.e [some 0]
 try simp only [*, go_sem]
 exact jc () h.e [some 0]
 try simp only [*, go_sem]
 exact jc () h.e [some 0]
 try simp only [*, go_sem]
 exact jc () h.e [some 0]
 try simp only [*, go_sem]
 exact jc () h.e [some 0]
 try simp only [*, go_sem]
 exact jc (p0.Label, p0.Key, 0) h.e [some 0]
 try simp only [*, go_sem]
 refine jn2 h (fun b19_1 b19_2 => [zK 1 (Call.enc p0), zP 3 0]) (fun b19_1 b19_2 => [ox [zi p0.Kind, zi b11_1, zi 0, zi b19_1, zi b19_2]]) (fun k20 h => ?_) (fun b19_1 b19_2 h => ?_)
 refine oi h (fun hb21 h => ?_) (fun hb21 h => ?_)
 try simp only [*, go_sem]
 refine jn0 h ([zK 1 (Call.enc p0), zP 3 0]) ([ox [zi p0.Kind, zi b11_1, zi 0, zi p0.Key, zi p0.Value]]) (fun k23 h => ?_) (fun h => ?_)
 try simp only [*, go_sem]
 refine ⟨?_, ?_, ?_, ?_, ?_, ?_, ?_, ?_, ?_, ?_, ?_, ?_, ?_, ?_, ?_⟩
 try simp only [*, go_sem]
 exact jc () h.e [some 0]
 try simp only [*, go_sem]
 exact jc () h.e [some 0]
 try simp only [*, go_sem]
 exact jc () h.e [some 0]
 try simp only [*, go_sem]
 exact jc () h.e [some 0]
 try simp only [*, go_sem]
 exact jc () h.e [some 0]
 try simp only [*, go_sem]
 exact jc () h.e [some 0]
 try simp only [*, go_sem]
 exact jc () h.e [some 0]
 try simp only [*, go_sem]
 exact jc () h.e [some 0]
 try simp only [*, go_sem]
 exact jc () h.e [some 0]
 try simp only [*, go_sem]
 exact jc () h.e [some 0]
 try simp only [*, go_sem]
 exact jc () h.e [some 0]
 try simp only [*, go_sem]
 exact jc () h.e [some 0]
 try simp only [*, go_sem]
 exact jc () h.e [some 0]
 try simp only [*, go_sem]
 exact jc () h.e [some 0]
 try simp only [*, go_sem]
 exact jc () h.e [some 0]
 try simp only [*, go_sem]
 exact jc (p0.Key, p0.Value) h.e [some 0]
 try simp only [*, go_sem]
 exact jc (0, 0) h.e [some 0]
 try simp only [*, go_sem]
 exact jc (0, b19_1, b19_2) h.e [some 0]
 refine oin h (fun hb24 hkhb24 h => ?_) (fun hb24 hkhb24 h => ?_)
 try simp only [*, go_sem]
 cases h.e
 simp only [*, go_sem, mA, mS]
 try simp only [*, go_sem]
 cases h.e
 simp only [*, go_sem, mA, mS]
def lines_Check (p0 : Config) (p1 : Act) : Option (Int) := (Option.bind (label_Check p0) fun v1 => (if (v1 != 0) = true then (some v1) else (if (decide (p1.Kind < 1)) = true then (some 3) else (if (decide (p1.Kind > 8)) = true then (some 3) else (Option.bind (lines_numbers p0 p1) fun v5 => (if (!v5) = true then (some 2) else (Option.bind (lines_bare p1) fun v7 => (if (!v7) = true then (some 4) else (if (p1.Kind == 1) = true then (Option.bind (lines_call p1.Call) fun v10 => (some v10)) else (some 0))))))))))
def F18 : VFn := ⟨36, (.seq (.reg [vo 2 (.box 3 (.t 0)), vo 3 (.box 12 (.t 1)), mi 4 0]) (.seq (.seq (.reg [vl 6 3 2, vo 7 (.call 15 [(.t 6)]), vm 5 7]) (.seq (.reg [vm 8 5, bk 9 .neq 8 0]) (.cond (.t 9) (.seq (.reg [vm 10 5, vm 4 10]) .ret) .skip))) (.seq (.block 0 (.seq (.reg [vf 12 0 3, vs 13 12, bk 14 .lss 13 1, vm 15 14, gf 16 15 (.fa 0 (.t 3)), gf 17 15 (.ld false 1 (.t 16)), gf 18 15 (.bin .i .gtr (.t 17) (ci 8)), vo 19 (.pick (.t 15) (cb true) (.t 18)), vm 11 19]) (.cond (.t 11) (.seq (.reg [mi 4 3]) .ret) (.seq (.reg [vl 21 3 2, vl 22 12 3, vo 23 (.call 34 [(.t 21), (.t 22)]), nt 24 23, vm 20 24]) (.cond (.t 20) (.seq (.reg [mi 4 2]) .ret) (.seq (.reg [vl 26 12 3, vo 27 (.call 35 [(.t 26)]), nt 28 27, vm 25 28]) (.cond (.t 25) (.seq (.reg [mi 4 4]) .ret) (.seq (.reg [vf 30 0 3, vs 31 30, bk 32 .eql 31 1, vm 29 32]) (.cond (.t 29) (.seq (.reg [vf 33 6 3, vl 34 5 33, vo 35 (.call 36 [(.t 34)]), vm 4 35]) .ret) .skip))))))))) (.seq (.reg [mi 4 0]) .ret)))), [.t 4]⟩
theorem low18 : lowF Tryd.prog 18 = some F18.strip := by kernel_rfl
theorem fok18 : fOk Tryd.prog 18 = true := by kernel_rfl
theorem lines_Check_ok (p0 : Config) (p1 : Act) (r : Int) (h : lines_Check p0 p1 = some r) : FnRO Tryd.prog G 18 [.agg p0.bx, .agg p1.bx] (fun rs => rs = [.one (.i .i64 r)]) := by
 refine FnRO.of' low18 fok18 (by simp [F18]) ?_
 rw [lines_Check] at h
 replace h := Hd.mk h
 simp only [F18, go_sem]
 try simp only [*, go_sem]
 refine cr h (label_Check_ok G p0) (fun v1 h => ?_)
 refine oi h (fun hb2 h => ?_) (fun hb2 h => ?_)
 cases h.e
 simp only [*, go_sem, mA, mS]
 refine oi h (fun hb3 h => ?_) (fun hb3 h => ?_)
 have := of_decide_eq_true hb3
 cases h.e
 simp only [*, go_sem, mA, mS]
 refine oi h (fun hb4 h => ?_) (fun hb4 h => ?_)
 cases h.e
 simp only [*, go_sem, mA, mS]
 try simp only [*, go_sem]
 refine cr h (lines_numbers_ok G p0 p1) (fun v5 h => ?_)
 refine oin h (fun hb6 hkhb6 h => ?_) (fun hb6 hkhb6 h => ?_)
 cases h.e
 simp only [*, go_sem, mA, mS]
 try simp only [*, go_sem]
 refine cr h (lines_bare_ok G p1) (fun v7 h => ?_)
 refine oin h (fun hb8 hkhb8 h => ?_) (fun hb8 hkhb8 h => ?_)
 cases h.e
 simp only [*, go_sem, mA, mS]
 refine oi h (fun hb9 h => ?_) (fun hb9 h => ?_)
 try simp only [*, go_sem]
 refine cr h (lines_call_ok G p1.Call) (fun v10 h => ?_)
 cases h.e
 simp only [*, go_sem, mA, mS]
 cases h.e
 simp only [*, go_sem, mA, mS]
def lines_Read_L1 (p0 : Config) (k4 : (List Act) → Option ((List Act) × Int × Int)) : Nat → ByteArray → Int → (List Act) → Option ((List Act) × Int × Int)
 | 0, _, _, _ => none
 | n6 + 1, a5_1, a5_2, a5_3 => (if (!(a5_1.toList == (⟨#[]⟩ : ByteArray).toList)) = true then (Option.bind (cutF a5_1 bs_68b329da) fun v8 => (if (a5_2 == 3000) = true then (some ([], a5_2, 1)) else (Option.bind (lines_one v8.1) fun v10 => (if (!v8.2.2) = true then (some ([], a5_2, 4)) else (if (!v10.2) = true then (some ([], a5_2, 4)) else (Option.bind (lines_Check p0 v10.1) fun v13 => (if (v13 != 0) = true then (some ([], a5_2, v13)) else (withK (if fits 120 (a5_3.length + 1) then (lines_Read_L1 p0 k4 n6 v8.2.1 (IntKind.i64.wrap (a5_2 + 1)) (a5_3 ++ [v10.1])) else none) fun k16 => k16)))))))) else (k4 a5_3))
def lines_Read (p0 : Config) (p1 : ByteArray) : Option ((List Act) × Int × Int) := (Option.bind (label_Check p0) fun v1 => (if (v1 != 0) = true then (some ([], 0, v1)) else (withK (fun (b3_1 : List Act) => (some (b3_1, 0, 0))) fun k4 => (lines_Read_L1 p0 k4 (p1.size + 2) p1 0 []))))
def F7 : VFn := ⟨59, (.seq (.reg [vo 2 (.box 3 (.t 0)), vo 4 (.mv (.c (.one (.nl 12)))), mi 5 0, mi 6 0]) (.seq (.seq (.reg [vl 16 3 2, vo 17 (.call 15 [(.t 16)]), vm 7 17]) (.seq (.reg [vm 18 7, bk 19 .neq 18 0]) (.cond (.t 19) (.seq (.reg [vm 20 7, vo 4 (.mv (.c (.one (.nl 12)))), mi 5 0, vm 6 20]) .ret) .skip))) (.seq (.reg [vo 8 (.mv (.c (.one (.nl 12))))]) (.seq (.seq (.reg [mi 9 0]) (.wk (.block 0 (.loop (.seq (.seq (.reg [vm 21 1, vo 22 (.bin .s .neq (.t 21) (.c (.one (.d (.s ⟨#[]⟩)))))]) (.cond (.t 22) .skip (.exit 0))) (.seq (.block 1 (.seq (.reg [vm 26 1, vo 27 (.call 16 [(.t 26), (.c (.one (.d (.s bs_68b329da))))]), vm 25 27, et 28 25 0, et 29 25 1, et 30 25 2, vm 10 28, vm 11 29, vm 12 30]) (.seq (.seq (.reg [vm 31 9, bk 32 .eql 31 3000]) (.cond (.t 32) (.seq (.reg [vm 33 9, vo 4 (.mv (.c (.one (.nl 12)))), vm 5 33, mi 6 1]) .ret) .skip)) (.seq (.reg [vm 35 10, vo 36 (.call 17 [(.t 35)]), vm 34 36, et 37 34 0, et 38 34 1, vo 13 (.alloc [(zi 0), (zi 0), (zi 0), (zi 0), (zi 0), (.nl 1), (zi 0), (zi 0), (zi 0), (zi 0), (zi 0), (.d (.s ⟨#[]⟩))]), vu (.st 12 (.t 13) (.t 37)), vm 14 38]) (.seq (.seq (.reg [vm 39 12, nt 40 39, vm 41 40, gf 42 41 (.mv (.t 14)), gf 43 41 (.un .not (.t 42)), vo 44 (.pick (.t 41) (cb true) (.t 43))]) (.cond (.t 44) (.seq (.reg [vm 45 9, vo 4 (.mv (.c (.one (.nl 12)))), vm 5 45, mi 6 4]) .ret) .skip)) (.seq (.seq (.reg [vl 46 3 2, vl 47 12 13, vo 48 (.call 18 [(.t 46), (.t 47)]), vm 15 48]) (.seq (.reg [vm 49 15, bk 50 .neq 49 0]) (.cond (.t 50) (.seq (.reg [vm 51 9, vm 52 15, vo 4 (.mv (.c (.one (.nl 12)))), vm 5 51, vm 6 52]) .ret) .skip))) (.seq (.regs [[vm 53 8, vl 54 12 13], [vo 55 (.bsl 12 1 [(zi 0), (zi 0), (zi 0), (zi 0), (zi 0), (.nl 1), (zi 0), (zi 0), (zi 0), (zi 0), (zi 0), (.d (.s ⟨#[]⟩))] [(0, (.t 54))]), vo 56 (.app 12 120 (.t 53) (.t 55)), vm 8 56]]) (.reg [vm 57 11, vm 1 57])))))))) (.reg [vm 23 9, bk 24 .add 23 1, vm 9 24]))))))) (.seq (.reg [vm 58 8, vm 4 58, mi 5 0, mi 6 0]) .ret))))), [.t 4, .t 5, .t 6]⟩
theorem low7 : lowF Tryd.prog 7 = some F7.strip := by kernel_rfl
theorem fok7 : fOk Tryd.prog 7 = true := by kernel_rfl
theorem lines_Read_ok (htab_lines_words : constG G 0 = .one (.d (.k tab_lines_wordsD))) (htab_lines_calls : constG G 1 = .one (.d (.k tab_lines_callsD))) (hvar2 : VarI G 2) (hvar3 : VarE G 3) (hvar4 : VarE G 4) (htab_strconv_uint64pow10 : constG G 7 = .one (.d (.k tab_strconv_uint64pow10D))) (p0 : Config) (p1 : ByteArray) (r : (List Act) × Int × Int) (h : lines_Read p0 p1 = some r) : FnRO Tryd.prog G 7 [.agg p0.bx, .one (.d (.s p1))] (fun rs => rs = [.one (.o 12 (r.1.map Act.enc)), .one (.i .i64 r.2.1), .one (.i .i64 r.2.2)]) := by
 refine FnRO.of' low7 fok7 (by simp [F7]) ?_
 rw [lines_Read] at h
 replace h := Hd.mk h
 simp only [F7, go_sem]
 try simp only [*, go_sem]
 refine cr h (label_Check_ok G p0) (fun v1 h => ?_)
 refine oi h (fun hb2 h => ?_) (fun hb2 h => ?_)
 cases h.e
 simp only [*, go_sem, mA, mS]
 try simp only [*, go_sem]
 refine jn1 h (fun b3_1 => [zR 8 0 0 b3_1.length]) (fun b3_1 => [oa 12 (b3_1.map Act.enc)]) (fun k4 h => ?_) (fun b3_1 h => ?_)
 try simp only [*, go_sem]
 refine lp3 (lines_Read_L1 p0 k4) (fun a5_1 a5_2 a5_3 => [(1, .one (.d (.s a5_1))), zP 2 0, zR 8 1 0 a5_3.length, zI 9 a5_2]) (fun a5_1 a5_2 a5_3 => [ox p0.bx, oa 12 (a5_3.map Act.enc)]) h [] [some 0, none] (fun n6 a5_1 a5_2 a5_3 h => ?_) (by intros; rw [lines_Read_L1])
 rw [lines_Read_L1] at h
 refine oin h (fun hb7 hkhb7 h => ?_) (fun hb7 hkhb7 h => ?_)
 try simp only [*, go_sem]
 refine cr h (cut16_ok G hvar2 a5_1 bs_68b329da) (fun v8 h => ?_)
 refine oi h (fun hb9 h => ?_) (fun hb9 h => ?_)
 cases h.e
 simp only [*, go_sem, mA, mS]
 try simp only [*, go_sem]
 refine cr h (lines_one_ok G htab_lines_words htab_lines_calls hvar2 hvar3 hvar4 htab_strconv_uint64pow10 v8.1) (fun v10 h => ?_)
 refine oin h (fun hb11 hkhb11 h => ?_) (fun hb11 hkhb11 h => ?_)
 cases h.e
 simp only [*, go_sem, mA, mS]
 refine oin h (fun hb12 hkhb12 h => ?_) (fun hb12 hkhb12 h => ?_)
 cases h.e
 simp only [*, go_sem, mA, mS]
 try simp only [*, go_sem]
 refine cl h (lines_Check_ok G p0 v10.1) (fun v13 h => ?_)
 refine oi h (fun hb14 h => ?_) (fun hb14 h => ?_)
 cases h.e
 simp only [*, go_sem, mA, mS]
 try simp only [*, go_sem]
 refine rg0 h ([zP 2 0, zI 9 a5_2, (11, .one (.d (.s v8.2.1))), zB 42 true, zB 43 false, zR 53 1 0 a5_3.length, (54, .agg [zi v10.1.Kind, zi v10.1.Site, zi v10.1.To, zi v10.1.Label, zi v10.1.Pick, .r 2 0 v10.1.Keep.length, zi v10.1.Call.Kind, zi v10.1.Call.N, zi v10.1.Call.Label, zi v10.1.Call.Key, zi v10.1.Call.Value, .d (.s v10.1.Line)])]) ([ox p0.bx, oa 12 (a5_3.map Act.enc), oz 1 (v10.1.Keep.map encI)]) (fun k16 h => ?_) (fun h => ?_)
 try simp only [*, go_sem]
 exact jf [.z 2, .z 2] () h.e [some 0, some 1, some 2]
 refine ck h (fun _ h => ?_)
 try simp only [*, go_sem]
 exact lc (v8.2.1, IntKind.i64.wrap (a5_2 + 1), (a5_3 ++ [v10.1])) h.e [some 0, some 4]
 try simp only [*, go_sem]
 exact jc (a5_3) h.e [some 1]
 cases h.e
 simp only [*, go_sem, mA, mS]
def reredosref_In (p0 : Int) (p1 : Int) (p2 : Int) : Option (Bool) := (withK (fun (b1_1 : Bool) => (some b1_1)) fun k2 => (if (decide (p0 ≥ p1)) = true then (k2 (decide (p0 ≤ p2))) else (k2 false)))
def F37 : VFn := ⟨15, (.seq (.reg [vo 6 (.mv (cb false))]) (.seq (.wk (.reg [vm 7 0, vm 8 1, bt 9 .geq 7 8, vm 10 9, gt 11 10 (.mv (.t 0)), gt 12 10 (.mv (.t 2)), gt 13 10 (.bin .i .leq (.t 11) (.t 12)), vo 14 (.pick (.t 10) (.t 13) (cb false)), vm 6 14])) .ret)), [.t 6]⟩
theorem low37 : lowF Tryd.prog 37 = some F37.strip := by kernel_rfl
theorem fok37 : fOk Tryd.prog 37 = true := by kernel_rfl
theorem reredosref_In_ok (p0 : Int) (p1 : Int) (p2 : Int) (r : Bool) (h : reredosref_In p0 p1 p2 = some r) : FnRO Tryd.prog G 37 [.one (.d (.i .i64 p0)), .one (.d (.i .i64 p1)), .one (.d (.i .i64 p2))] (fun rs => rs = [.one (.b r)]) := by
 refine FnRO.of' low37 fok37 (by simp [F37]) ?_
 rw [reredosref_In] at h
 replace h := Hd.mk h
 simp only [F37, go_sem]
 try simp only [*, go_sem]
 refine jn1 h (fun b1_1 => [zB 6 b1_1]) (fun b1_1 => []) (fun k2 h => ?_) (fun b1_1 h => ?_)
 refine oi h (fun hb3 h => ?_) (fun hb3 h => ?_)
 try simp only [*, go_sem]
 exact jc (decide (p0 ≤ p2)) h.e []
 try simp only [*, go_sem]
 exact jc (false) h.e []
 cases h.e
 simp only [*, go_sem, mA, mS]
end Go.V.Dec
