/- What Go's functions come to, as plain functions: part 1; no condition. -/
import Derived.Test.YtmplhamakfnjbaaDoorRows
import Derived.Test.YtmplhamakfnjbaaDoorVK
import Derived.Test.YtmplhamakfnjbaaDoorVS
set_option linter.unusedVariables false
set_option linter.unusedSimpArgs false
namespace Go.V.Dec
open Go Go.Proofs
set_option maxRecDepth 100000
set_option maxHeartbeats 4000000
variable (G : Nat → Option (List D))
structure WireParts where
  label : Bool
  key : Bool
  value : Bool
  version : Bool
  ask : Bool
  yes : Bool
  code : Bool
  sites : Bool
  deriving Inhabited
def WireParts.enc (x : WireParts) : List D := [.b x.label, .b x.key, .b x.value, .b x.version, .b x.ask, .b x.yes, .b x.code, .b x.sites]
def WireParts.encO (x : WireParts) : List D := [.b x.label, .b x.key, .b x.value, .b x.version, .b x.ask, .b x.yes, .b x.code, .b x.sites]
structure Label where
  Level : Int
  Cats : Int
  deriving Inhabited
def Label.enc (x : Label) : List D := [.i .i64 x.Level, .i .i64 x.Cats]
def Label.encO (x : Label) : List D := [.i .i64 x.Level, .i .i64 x.Cats]
structure Config where
  Sites : Int
  Labels : List Label
  Patience : Int
  deriving Inhabited
def Config.enc (x : Config) : List D := [.i .i64 x.Sites, .l 2 (x.Labels.map Label.enc), .i .i64 x.Patience]
def Config.encO (x : Config) : List D := [.i .i64 x.Sites, .o 2 (x.Labels.map Label.enc), .i .i64 x.Patience]
structure Call where
  Kind : Int
  N : Int
  Label : Int
  Key : Int
  Value : Int
  deriving Inhabited
def Call.enc (x : Call) : List D := [.i .i64 x.Kind, .i .i64 x.N, .i .i64 x.Label, .i .i64 x.Key, .i .i64 x.Value]
def Call.encO (x : Call) : List D := [.i .i64 x.Kind, .i .i64 x.N, .i .i64 x.Label, .i .i64 x.Key, .i .i64 x.Value]
structure Act where
  Kind : Int
  Site : Int
  To : Int
  Label : Int
  Pick : Int
  Keep : List Int
  Call : Call
  Line : ByteArray
  deriving Inhabited
def Act.enc (x : Act) : List D := [.i .i64 x.Kind, .i .i64 x.Site, .i .i64 x.To, .i .i64 x.Label, .i .i64 x.Pick, .l 1 (x.Keep.map encI), .i .i64 x.Call.Kind, .i .i64 x.Call.N, .i .i64 x.Call.Label, .i .i64 x.Call.Key, .i .i64 x.Call.Value, .s x.Line]
def Act.encO (x : Act) : List D := [.i .i64 x.Kind, .i .i64 x.Site, .i .i64 x.To, .i .i64 x.Label, .i .i64 x.Pick, .o 1 (x.Keep.map encI), .i .i64 x.Call.Kind, .i .i64 x.Call.N, .i .i64 x.Call.Label, .i .i64 x.Call.Key, .i .i64 x.Call.Value, .s x.Line]
def WireParts.bx (x : WireParts) : List SC := [.d (.b x.label), .d (.b x.key), .d (.b x.value), .d (.b x.version), .d (.b x.ask), .d (.b x.yes), .d (.b x.code), .d (.b x.sites)]
def Label.bx (x : Label) : List SC := [.d (.i .i64 x.Level), .d (.i .i64 x.Cats)]
def Config.bx (x : Config) : List SC := [.d (.i .i64 x.Sites), .d (.l 2 (x.Labels.map Label.enc)), .d (.i .i64 x.Patience)]
def Call.bx (x : Call) : List SC := [.d (.i .i64 x.Kind), .d (.i .i64 x.N), .d (.i .i64 x.Label), .d (.i .i64 x.Key), .d (.i .i64 x.Value)]
def Act.bx (x : Act) : List SC := [.d (.i .i64 x.Kind), .d (.i .i64 x.Site), .d (.i .i64 x.To), .d (.i .i64 x.Label), .d (.i .i64 x.Pick), .d (.l 1 (x.Keep.map encI)), .d (.i .i64 x.Call.Kind), .d (.i .i64 x.Call.N), .d (.i .i64 x.Call.Label), .d (.i .i64 x.Call.Key), .d (.i .i64 x.Call.Value), .d (.s x.Line)]
attribute [go_sem] encI WireParts.enc WireParts.encO WireParts.bx Label.enc Label.encO Label.bx Config.enc Config.encO Config.bx Call.enc Call.encO Call.bx Act.enc Act.encO Act.bx
def tab_lines_wordsD : List D := [.s ⟨#[]⟩, .s ⟨#[97, 115, 107]⟩, .s ⟨#[100, 101, 108, 105, 118, 101, 114]⟩, .s ⟨#[100, 114, 111, 112]⟩, .s ⟨#[99, 111, 112, 121]⟩, .s ⟨#[116, 105, 99, 107]⟩, .s ⟨#[99, 114, 97, 115, 104]⟩, .s ⟨#[115, 116, 97, 114, 116]⟩, .s ⟨#[116, 121, 112, 101]⟩]
def tab_lines_words : List ByteArray := [⟨#[]⟩, ⟨#[97, 115, 107]⟩, ⟨#[100, 101, 108, 105, 118, 101, 114]⟩, ⟨#[100, 114, 111, 112]⟩, ⟨#[99, 111, 112, 121]⟩, ⟨#[116, 105, 99, 107]⟩, ⟨#[99, 114, 97, 115, 104]⟩, ⟨#[115, 116, 97, 114, 116]⟩, ⟨#[116, 121, 112, 101]⟩]
theorem tab_lines_words_rows : rowsT 1 9 tab_lines_wordsD = tab_lines_words.map encS := by rfl
theorem tab_lines_words_lenD : tab_lines_wordsD.length = 9 := by rfl
theorem tab_lines_words_len : tab_lines_words.length = 9 := by rfl
attribute [go_sem] tab_lines_words_rows tab_lines_words_lenD
def tab_lines_callsD : List D := [.s ⟨#[]⟩, .s ⟨#[98, 101, 103, 105, 110]⟩, .s ⟨#[103, 101, 116]⟩, .s ⟨#[112, 117, 116]⟩, .s ⟨#[99, 111, 109, 109, 105, 116]⟩, .s ⟨#[114, 111, 108, 108, 98, 97, 99, 107]⟩]
def tab_lines_calls : List ByteArray := [⟨#[]⟩, ⟨#[98, 101, 103, 105, 110]⟩, ⟨#[103, 101, 116]⟩, ⟨#[112, 117, 116]⟩, ⟨#[99, 111, 109, 109, 105, 116]⟩, ⟨#[114, 111, 108, 108, 98, 97, 99, 107]⟩]
theorem tab_lines_calls_rows : rowsT 1 6 tab_lines_callsD = tab_lines_calls.map encS := by rfl
theorem tab_lines_calls_lenD : tab_lines_callsD.length = 6 := by rfl
theorem tab_lines_calls_len : tab_lines_calls.length = 6 := by rfl
attribute [go_sem] tab_lines_calls_rows tab_lines_calls_lenD
def tab_strconv_uint64pow10D : List D := [.i .u64 1, .i .u64 10, .i .u64 100, .i .u64 1000, .i .u64 10000, .i .u64 100000, .i .u64 1000000, .i .u64 10000000, .i .u64 100000000, .i .u64 1000000000, .i .u64 10000000000, .i .u64 100000000000, .i .u64 1000000000000, .i .u64 10000000000000, .i .u64 100000000000000, .i .u64 1000000000000000, .i .u64 10000000000000000, .i .u64 100000000000000000, .i .u64 1000000000000000000, .i .u64 10000000000000000000]
def bs_7215ee9c : ByteArray := ⟨#[32]⟩
def bs_4032af8d : ByteArray := ⟨#[48, 49, 50, 51, 52, 53, 54, 55, 56, 57, 97, 98, 99, 100, 101, 102]⟩
def bs_5ed33f70 : ByteArray := ⟨#[97, 115, 107]⟩
def bs_45a69146 : ByteArray := ⟨#[100, 101, 108, 105, 118, 101, 114]⟩
def bs_6e9d2536 : ByteArray := ⟨#[100, 114, 111, 112]⟩
def bs_12cba3ee : ByteArray := ⟨#[99, 111, 112, 121]⟩
def bs_e5e5c075 : ByteArray := ⟨#[116, 105, 99, 107]⟩
def bs_dcaa9fd4 : ByteArray := ⟨#[99, 114, 97, 115, 104]⟩
def bs_ea2b2676 : ByteArray := ⟨#[115, 116, 97, 114, 116]⟩
def bs_599dcce2 : ByteArray := ⟨#[116, 121, 112, 101]⟩
def bs_336d5ebc : ByteArray := ⟨#[45]⟩
def bs_8d589afa : ByteArray := ⟨#[98, 101, 103, 105, 110]⟩
def bs_b5eda0a7 : ByteArray := ⟨#[103, 101, 116]⟩
def bs_8e13ffc9 : ByteArray := ⟨#[112, 117, 116]⟩
def bs_fffca4d6 : ByteArray := ⟨#[99, 111, 109, 109, 105, 116]⟩
def bs_fff66e9b : ByteArray := ⟨#[114, 111, 108, 108, 98, 97, 99, 107]⟩
def bs_68b329da : ByteArray := ⟨#[10]⟩
def label_one (p0 : Label) : Option (Bool) := (withK (fun (b1_1 : Bool) => (some b1_1)) fun k2 => (if (decide (p0.Level ≥ 0)) = true then (if (decide (p0.Level ≤ 9)) = true then (if (decide (p0.Cats ≥ 0)) = true then (k2 (decide (p0.Cats ≤ 15))) else (k2 false)) else (k2 false)) else (k2 false)))
def F73 : VFn := ⟨21, (.seq (.reg [vo 1 (.boxk 2 (.t 0)), vo 2 (.mv (cb false))]) (.seq (.wk (.reg [vf 3 0 1, vs 4 3, bk 5 .geq 4 0, vm 6 5, gt 7 6 (.fa 0 (.t 1)), gt 8 6 (.ld false 1 (.t 7)), gt 9 6 (.bin .i .leq (.t 8) (ci 9)), vo 10 (.pick (.t 6) (.t 9) (cb false)), vm 11 10, gt 12 11 (.fa 1 (.t 1)), gt 13 11 (.ld false 1 (.t 12)), gt 14 11 (.bin .i .geq (.t 13) (ci 0)), vo 15 (.pick (.t 11) (.t 14) (cb false)), vm 16 15, gt 17 16 (.fa 1 (.t 1)), gt 18 16 (.ld false 1 (.t 17)), gt 19 16 (.bin .i .leq (.t 18) (ci 15)), vo 20 (.pick (.t 16) (.t 19) (cb false)), vm 2 20])) .ret)), [.t 2]⟩
theorem low73 : lowF Tryd.prog 73 = some F73.strip := by kernel_rfl
theorem fok73 : fOk Tryd.prog 73 = true := by kernel_rfl
theorem label_one_ok (p0 : Label) (r : Bool) (h : label_one p0 = some r) : FnRO Tryd.prog G 73 [.agg p0.bx] (fun rs => rs = [.one (.b r)]) := by
 refine FnRO.of' low73 fok73 (by simp [F73]) ?_
 rw [label_one] at h
 replace h := Hd.mk h
 simp only [F73, go_sem]
 try simp only [*, go_sem]
 refine jn1 h (fun b1_1 => [zB 2 b1_1]) (fun b1_1 => []) (fun k2 h => ?_) (fun b1_1 h => ?_)
 refine oi h (fun hb3 h => ?_) (fun hb3 h => ?_)
 refine oi h (fun hb4 h => ?_) (fun hb4 h => ?_)
 refine oi h (fun hb5 h => ?_) (fun hb5 h => ?_)
 try simp only [*, go_sem]
 exact jc (decide (p0.Cats ≤ 15)) h.e []
 try simp only [*, go_sem]
 exact jc (false) h.e []
 try simp only [*, go_sem]
 exact jc (false) h.e []
 try simp only [*, go_sem]
 exact jc (false) h.e []
 cases h.e
 simp only [*, go_sem, mA, mS]
def label_Check_L2 (p0 : Config) (a10_1 : Nat) (x13 : Label) (k19 : Option (Int)) : Nat → Nat → Option (Int)
 | 0, _ => none
 | n21 + 1, a20_1 => (if (decide (a20_1 < min a10_1 p0.Labels.length)) = true then (Option.bind ((p0.Labels.take a10_1)[a20_1]?) fun x23 => (if ((x23.Level == x13.Level) && (x23.Cats == x13.Cats)) = true then (some 7) else (label_Check_L2 p0 a10_1 x13 k19 n21 (a20_1 + 1)))) else k19)
def label_Check_L1 (p0 : Config) (k9 : Option (Int)) : Nat → Nat → Option (Int)
 | 0, _ => none
 | n11 + 1, a10_1 => (if (decide (a10_1 < p0.Labels.length)) = true then (Option.bind (p0.Labels[a10_1]?) fun x13 => (Option.bind (label_one x13) fun v14 => (if (!v14) = true then (some 2) else (withK (label_Check_L1 p0 k9 n11 (a10_1 + 1)) fun k19 => (label_Check_L2 p0 a10_1 x13 k19 (min a10_1 p0.Labels.length + 1) 0))))) else k9)
def label_Check (p0 : Config) : Option (Int) := (if (decide (p0.Sites < 1)) = true then (some 2) else (if (decide (p0.Sites > 4)) = true then (some 2) else (if (decide (((p0.Labels.length : Nat) : Int) < 1)) = true then (some 1) else (if (decide (((p0.Labels.length : Nat) : Int) > 6)) = true then (some 1) else (withK (if (decide (p0.Patience < 1)) = true then (some 2) else (if (decide (p0.Patience > 1048576)) = true then (some 2) else (some 0))) fun k9 => (label_Check_L1 p0 k9 (p0.Labels.length + 1) 0))))))
def F29 : VFn := ⟨58, (.seq (.reg [vo 1 (.boxk 3 (.t 0)), mi 2 0]) (.seq (.seq (.reg [vf 7 0 1, vs 8 7, bk 9 .lss 8 1, vm 10 9, gf 11 10 (.fa 0 (.t 1)), gf 12 10 (.ld false 1 (.t 11)), gf 13 10 (.bin .i .gtr (.t 12) (ci 4)), vo 14 (.pick (.t 10) (cb true) (.t 13))]) (.cond (.t 14) (.seq (.reg [mi 2 2]) .ret) .skip)) (.seq (.seq (.reg [vf 15 1 1, vs 16 15, ln 17 16, bk 18 .lss 17 1, vm 19 18, gf 20 19 (.fa 1 (.t 1)), gf 21 19 (.ld false 1 (.t 20)), gf 22 19 (.len (.t 21)), gf 23 19 (.bin .i .gtr (.t 22) (ci 6)), vo 24 (.pick (.t 19) (cb true) (.t 23))]) (.cond (.t 24) (.seq (.reg [mi 2 1]) .ret) .skip)) (.seq (.seq (.reg [vf 25 1 1, vs 26 25, ln 27 26, mi 28 0]) (.wk (.block 0 (.loop (.seq (.reg [bt 29 .lss 28 27]) (.seq (.cond (.t 29) .skip (.exit 0)) (.seq (.block 1 (.seq (.reg [vm 30 28, xa 31 2 26 28, vl 32 2 31, vo 4 (.alloc [(zi 0), (zi 0)]), vm 3 30, vu (.st 2 (.t 4) (.t 32))]) (.seq (.seq (.reg [vl 33 2 4, vo 34 (.call 73 [(.t 33)]), nt 35 34]) (.cond (.t 35) (.seq (.reg [mi 2 2]) .ret) .skip)) (.seq (.reg [vf 36 1 1, vs 37 36, vm 38 3, vo 39 (.sl 2 (.t 37) none (some (.t 38))), ln 40 39, mi 41 0]) (.wk (.block 2 (.loop (.seq (.reg [bt 42 .lss 41 40]) (.seq (.cond (.t 42) .skip (.exit 2)) (.seq (.block 3 (.seq (.reg [xa 43 2 39 41, vl 44 2 43, vo 6 (.alloc [(zi 0), (zi 0)]), vu (.st 2 (.t 6) (.t 44))]) (.seq (.reg [vl 45 2 6, vl 46 2 4, vo 47 (.eqs false [.i, .i] (.t 45) (.t 46))]) (.cond (.t 47) (.seq (.reg [mi 2 7]) .ret) .skip)))) (.reg [bk 48 .add 41 1, vm 41 48]))))))))))) (.reg [bk 49 .add 28 1, vm 28 49])))))))) (.seq (.seq (.reg [vf 50 2 1, vs 51 50, bk 52 .lss 51 1, vm 53 52, gf 54 53 (.fa 2 (.t 1)), gf 55 53 (.ld false 1 (.t 54)), gf 56 53 (.bin .i .gtr (.t 55) (ci 1048576)), vo 57 (.pick (.t 53) (cb true) (.t 56))]) (.cond (.t 57) (.seq (.reg [mi 2 2]) .ret) .skip)) (.seq (.reg [mi 2 0]) .ret)))))), [.t 2]⟩
theorem low29 : lowF Tryd.prog 29 = some F29.strip := by kernel_rfl
theorem fok29 : fOk Tryd.prog 29 = true := by kernel_rfl
theorem label_Check_ok (p0 : Config) (r : Int) (h : label_Check p0 = some r) : FnRO Tryd.prog G 29 [.agg p0.bx] (fun rs => rs = [.one (.i .i64 r)]) := by
 refine FnRO.of' low29 fok29 (by simp [F29]) ?_
 rw [label_Check] at h
 replace h := Hd.mk h
 simp only [F29, go_sem]
 refine oi h (fun hb1 h => ?_) (fun hb1 h => ?_)
 have := of_decide_eq_true hb1
 cases h.e
 simp only [*, go_sem, mA, mS]
 refine oi h (fun hb2 h => ?_) (fun hb2 h => ?_)
 cases h.e
 simp only [*, go_sem, mA, mS]
 try simp only [*, go_sem]
 intro hl3
 refine oi h (fun hb4 h => ?_) (fun hb4 h => ?_)
 cases h.e
 simp only [*, go_sem, mA, mS]
 try simp only [*, go_sem]
 intro hl5
 refine oi h (fun hb6 h => ?_) (fun hb6 h => ?_)
 cases h.e
 simp only [*, go_sem, mA, mS]
 try simp only [*, go_sem]
 intro hl7
 try simp only [*, go_sem]
 refine jn0 h ([zK 1 (Config.enc p0)]) ([]) (fun k9 h => ?_) (fun h => ?_)
 try simp only [*, go_sem]
 refine lp1 (label_Check_L1 p0 k9) (fun a10_1 => [zK 1 (Config.enc p0), zL 26 2 (p0.Labels.map Label.enc), zI 27 ((p0.Labels.length : Nat) : Int), zI 28 ((a10_1 : Nat) : Int)]) (fun a10_1 => []) h [] [] (fun n11 a10_1 h => ?_) (by intros; rw [label_Check_L1])
 rw [label_Check_L1] at h
 refine oi h (fun hb12 h => ?_) (fun hb12 h => ?_)
 have := of_decide_eq_true hb12
 refine obg h (fun x13 _ hkx13 h => ?_)
 try simp only [*, go_sem]
 refine cr h (label_one_ok G x13) (fun v14 h => ?_)
 refine oin h (fun hb15 hkhb15 h => ?_) (fun hb15 hkhb15 h => ?_)
 cases h.e
 simp only [*, go_sem, mA, mS]
 have := Nat.le_of_lt hkx13
 try simp only [*, go_sem]
 intro hl17
 try simp only [*, go_sem]
 refine jn0 h ([zK 1 (Config.enc p0), zL 26 2 (p0.Labels.map Label.enc), zI 27 ((p0.Labels.length : Nat) : Int), zI 28 ((a10_1 : Nat) : Int)]) ([]) (fun k19 h => ?_) (fun h => ?_)
 try simp only [*, go_sem]
 refine lp1 (label_Check_L2 p0 a10_1 x13 k19) (fun a20_1 => [zK 1 (Config.enc p0), zP 4 0, zL 26 2 (p0.Labels.map Label.enc), zI 27 ((p0.Labels.length : Nat) : Int), zI 28 ((a10_1 : Nat) : Int), zL 39 2 ((p0.Labels.take a10_1).map Label.enc), zI 40 ((min a10_1 p0.Labels.length : Nat) : Int), zI 41 ((a20_1 : Nat) : Int)]) (fun a20_1 => [ox x13.bx]) h [] [some 0] (fun n21 a20_1 h => ?_) (by intros; rw [label_Check_L2])
 rw [label_Check_L2] at h
 refine oi h (fun hb22 h => ?_) (fun hb22 h => ?_)
 refine obg h (fun x23 _ hkx23 h => ?_)
 try simp only [List.length_take, List.length_drop, List.length_append, List.length_set, List.length_map, List.length_cons, List.length_nil, Nat.zero_add] at hkx23
 refine oi h (fun hb24 h => ?_) (fun hb24 h => ?_)
 try simp only [*, go_sem]
 cases h.e
 simp only [*, go_sem, mA, mS]
 try simp only [*, go_sem]
 have := wrap_succ_max hkx23 hl17
 try simp only [*, go_sem]
 exact lc (a20_1 + 1) h.e [some 0]
 try simp only [*, go_sem]
 exact jc () h.e []
 have := wrap_succ_max hkx13 hl3
 try simp only [*, go_sem]
 exact lc (a10_1 + 1) h.e []
 try simp only [*, go_sem]
 exact jc () h.e []
 refine oi h (fun hb27 h => ?_) (fun hb27 h => ?_)
 have := of_decide_eq_true hb27
 cases h.e
 simp only [*, go_sem, mA, mS]
 refine oi h (fun hb28 h => ?_) (fun hb28 h => ?_)
 cases h.e
 simp only [*, go_sem, mA, mS]
 cases h.e
 simp only [*, go_sem, mA, mS]
def slices_IndexFunc_int_L1 (p0 : List Int) (p1 : Int → Option (Bool)) (k3 : Option (Int)) : Nat → Nat → Option (Int)
 | 0, _ => none
 | n5 + 1, a4_1 => (if (decide (a4_1 < p0.length)) = true then (Option.bind (p0[a4_1]?) fun x7 => (Option.bind (p1 x7) fun v8 => (if v8 = true then (some ((a4_1 : Nat) : Int)) else (slices_IndexFunc_int_L1 p0 p1 k3 n5 (a4_1 + 1))))) else k3)
def slices_IndexFunc_int (p0 : List Int) (p1 : Int → Option (Bool)) : Option (Int) := (withK (some (-1)) fun k3 => (slices_IndexFunc_int_L1 p0 p1 k3 (p0.length + 1) 0))
def F108 : VFn := ⟨19, (.seq (.reg [mi 4 0]) (.seq (.seq (.reg [vm 6 0, ln 7 6, mi 8 0]) (.wk (.block 0 (.loop (.seq (.reg [bt 9 .lss 8 7]) (.seq (.cond (.t 9) .skip (.exit 0)) (.seq (.block 1 (.seq (.reg [vm 10 8, vm 5 10]) (.seq (.reg [vm 11 1, vm 12 0, vm 13 5, xa 14 1 12 13, vs 15 14, vo 16 (.callv (.t 11) [(.t 15)])]) (.cond (.t 16) (.seq (.reg [vm 17 5, vm 4 17]) .ret) .skip)))) (.reg [bk 18 .add 8 1, vm 8 18])))))))) (.seq (.reg [mi 4 (-1)]) .ret))), [.t 4]⟩
theorem low108 : lowF Tryd.prog 108 = some F108.strip := by kernel_rfl
theorem fok108 : fOk Tryd.prog 108 = true := by kernel_rfl
theorem slices_IndexFunc_int_ok (p0 : List Int) (p1 : Int → Option (Bool)) (g_p1 : Nat) (c_p1 : List D) (h_p1 : ∀ (x0 : Int) (r : Bool), p1 x0 = some r → FnRO Tryd.prog G g_p1 ([.one (.d (.i .i64 x0))] ++ c_p1.map fun d => .one (.d d)) (fun rs => rs = [.one (.b r)])) (r : Int) (h : slices_IndexFunc_int p0 p1 = some r) : FnRO Tryd.prog G 108 [.one (.d (.l 1 (p0.map encI))), .one (.d (.f g_p1 c_p1))] (fun rs => rs = [.one (.i .i64 r)]) := by
 refine FnRO.of' low108 fok108 (by simp [F108]) ?_
 rw [slices_IndexFunc_int] at h
 replace h := Hd.mk h
 simp only [F108, go_sem]
 try simp only [*, go_sem]
 intro hl1
 try simp only [*, go_sem]
 refine jn0 h ([]) ([]) (fun k3 h => ?_) (fun h => ?_)
 try simp only [*, go_sem]
 refine lp1 (slices_IndexFunc_int_L1 p0 p1 k3) (fun a4_1 => [zL 0 1 (p0.map encI), (1, .one (.d (.f g_p1 c_p1))), zI 7 ((p0.length : Nat) : Int), zI 8 ((a4_1 : Nat) : Int)]) (fun a4_1 => []) h [] [] (fun n5 a4_1 h => ?_) (by intros; rw [slices_IndexFunc_int_L1])
 rw [slices_IndexFunc_int_L1] at h
 refine oi h (fun hb6 h => ?_) (fun hb6 h => ?_)
 have := of_decide_eq_true hb6
 refine obg h (fun x7 _ hkx7 h => ?_)
 try simp only [*, go_sem]
 refine cr h (h_p1 x7) (fun v8 h => ?_)
 refine oi h (fun hb9 h => ?_) (fun hb9 h => ?_)
 cases h.e
 simp only [*, go_sem, mA, mS]
 have := wrap_succ_max hkx7 hl1
 try simp only [*, go_sem]
 exact lc (a4_1 + 1) h.e []
 try simp only [*, go_sem]
 exact jc () h.e []
 cases h.e
 simp only [*, go_sem, mA, mS]
def slices_ContainsFunc_int (p0 : List Int) (p1 : Int → Option (Bool)) : Option (Bool) := (Option.bind (slices_IndexFunc_int p0 p1) fun v1 => (some (decide (v1 ≥ 0))))
def F98 : VFn := ⟨9, (.seq (.reg [vo 4 (.mv (cb false))]) (.seq (.reg [vm 5 0, vm 6 1, vo 7 (.call 108 [(.t 5), (.t 6)]), bk 8 .geq 7 0, vm 4 8]) .ret)), [.t 4]⟩
theorem low98 : lowF Tryd.prog 98 = some F98.strip := by kernel_rfl
theorem fok98 : fOk Tryd.prog 98 = true := by kernel_rfl
theorem slices_ContainsFunc_int_ok (p0 : List Int) (p1 : Int → Option (Bool)) (g_p1 : Nat) (c_p1 : List D) (h_p1 : ∀ (x0 : Int) (r : Bool), p1 x0 = some r → FnRO Tryd.prog G g_p1 ([.one (.d (.i .i64 x0))] ++ c_p1.map fun d => .one (.d d)) (fun rs => rs = [.one (.b r)])) (r : Bool) (h : slices_ContainsFunc_int p0 p1 = some r) : FnRO Tryd.prog G 98 [.one (.d (.l 1 (p0.map encI))), .one (.d (.f g_p1 c_p1))] (fun rs => rs = [.one (.b r)]) := by
 refine FnRO.of' low98 fok98 (by simp [F98]) ?_
 rw [slices_ContainsFunc_int] at h
 replace h := Hd.mk h
 simp only [F98, go_sem]
 try simp only [*, go_sem]
 refine cr h (slices_IndexFunc_int_ok G p0 p1 g_p1 c_p1 h_p1) (fun v1 h => ?_)
 cases h.e
 simp only [*, go_sem, mA, mS]
def lines_numbers_1 (p0 : Int) : Option (Bool) := (withK (fun (b1_1 : Bool) => (some b1_1)) fun k2 => (if (decide (p0 < 0)) = true then (k2 true) else (k2 (decide (p0 > 6000)))))
def F99 : VFn := ⟨9, (.seq (.reg [vo 2 (.mv (cb false))]) (.seq (.wk (.reg [vm 3 0, bk 4 .lss 3 0, vm 5 4, gf 6 5 (.mv (.t 0)), gf 7 5 (.bin .i .gtr (.t 6) (ci 6000)), vo 8 (.pick (.t 5) (cb true) (.t 7)), vm 2 8])) .ret)), [.t 2]⟩
theorem low99 : lowF Tryd.prog 99 = some F99.strip := by kernel_rfl
theorem fok99 : fOk Tryd.prog 99 = true := by kernel_rfl
theorem lines_numbers_1_ok (p0 : Int) (r : Bool) (h : lines_numbers_1 p0 = some r) : FnRO Tryd.prog G 99 [.one (.d (.i .i64 p0))] (fun rs => rs = [.one (.b r)]) := by
 refine FnRO.of' low99 fok99 (by simp [F99]) ?_
 rw [lines_numbers_1] at h
 replace h := Hd.mk h
 simp only [F99, go_sem]
 try simp only [*, go_sem]
 refine jn1 h (fun b1_1 => [zB 2 b1_1]) (fun b1_1 => []) (fun k2 h => ?_) (fun b1_1 h => ?_)
 refine oi h (fun hb3 h => ?_) (fun hb3 h => ?_)
 have := of_decide_eq_true hb3
 try simp only [*, go_sem]
 exact jc (true) h.e []
 try simp only [*, go_sem]
 exact jc (decide (p0 > 6000)) h.e []
 cases h.e
 simp only [*, go_sem, mA, mS]
def lines_numbers (p0 : Config) (p1 : Act) : Option (Bool) := (if (decide (p1.Site < 0)) = true then (some false) else (if (decide (p1.Site ≥ p0.Sites)) = true then (some false) else (if (decide (p1.To < 0)) = true then (some false) else (if (decide (p1.To ≥ p0.Sites)) = true then (some false) else (if (decide (p1.Label < 0)) = true then (some false) else (if (decide (p1.Label ≥ ((p0.Labels.length : Nat) : Int))) = true then (some false) else (if (decide (p1.Pick < 0)) = true then (some false) else (if (decide (p1.Pick > 1048576)) = true then (some false) else (if (decide (p1.Keep.length > p0.Labels.length)) = true then (some false) else (if (decide (((p1.Line.size : Nat) : Int) > 60)) = true then (some false) else (Option.bind (slices_ContainsFunc_int p1.Keep (fun y14 => lines_numbers_1 y14)) fun v15 => (some (!v15)))))))))))))
def F74 : VFn := ⟨69, (.seq (.reg [vo 2 (.box 3 (.t 0)), vo 3 (.box 12 (.t 1)), vo 4 (.mv (cb false))]) (.seq (.seq (.reg [vf 5 1 3, vs 6 5, bk 7 .lss 6 0, vm 8 7, gf 9 8 (.fa 1 (.t 3)), gf 10 8 (.ld false 1 (.t 9)), gf 11 8 (.fa 0 (.t 2)), gf 12 8 (.ld false 1 (.t 11)), gf 13 8 (.bin .i .geq (.t 10) (.t 12)), vo 14 (.pick (.t 8) (cb true) (.t 13)), vm 15 14, gf 16 15 (.fa 2 (.t 3)), gf 17 15 (.ld false 1 (.t 16)), gf 18 15 (.bin .i .lss (.t 17) (ci 0)), vo 19 (.pick (.t 15) (cb true) (.t 18)), vm 20 19, gf 21 20 (.fa 2 (.t 3)), gf 22 20 (.ld false 1 (.t 21)), gf 23 20 (.fa 0 (.t 2)), gf 24 20 (.ld false 1 (.t 23)), gf 25 20 (.bin .i .geq (.t 22) (.t 24)), vo 26 (.pick (.t 20) (cb true) (.t 25)), vm 27 26, gf 28 27 (.fa 3 (.t 3)), gf 29 27 (.ld false 1 (.t 28)), gf 30 27 (.bin .i .lss (.t 29) (ci 0)), vo 31 (.pick (.t 27) (cb true) (.t 30)), vm 32 31, gf 33 32 (.fa 3 (.t 3)), gf 34 32 (.ld false 1 (.t 33)), gf 35 32 (.fa 1 (.t 2)), gf 36 32 (.ld false 1 (.t 35)), gf 37 32 (.len (.t 36)), gf 38 32 (.bin .i .geq (.t 34) (.t 37)), vo 39 (.pick (.t 32) (cb true) (.t 38)), vm 40 39, gf 41 40 (.fa 4 (.t 3)), gf 42 40 (.ld false 1 (.t 41)), gf 43 40 (.bin .i .lss (.t 42) (ci 0)), vo 44 (.pick (.t 40) (cb true) (.t 43)), vm 45 44, gf 46 45 (.fa 4 (.t 3)), gf 47 45 (.ld false 1 (.t 46)), gf 48 45 (.bin .i .gtr (.t 47) (ci 1048576)), vo 49 (.pick (.t 45) (cb true) (.t 48)), vm 50 49, gf 51 50 (.fa 5 (.t 3)), gf 52 50 (.ld false 1 (.t 51)), gf 53 50 (.len (.t 52)), gf 54 50 (.fa 1 (.t 2)), gf 55 50 (.ld false 1 (.t 54)), gf 56 50 (.len (.t 55)), gf 57 50 (.bin .i .gtr (.t 53) (.t 56)), vo 58 (.pick (.t 50) (cb true) (.t 57)), vm 59 58, gf 60 59 (.fa 11 (.t 3)), gf 61 59 (.ld false 1 (.t 60)), gf 62 59 (.lens (.t 61)), gf 63 59 (.bin .i .gtr (.t 62) (ci 60)), vo 64 (.pick (.t 59) (cb true) (.t 63))]) (.cond (.t 64) (.seq (.reg [vo 4 (.mv (cb false))]) .ret) .skip)) (.seq (.reg [vf 65 5 3, vs 66 65, vo 67 (.call 98 [(.t 66), (.fn 99)]), nt 68 67, vm 4 68]) .ret))), [.t 4]⟩
theorem low74 : lowF Tryd.prog 74 = some F74.strip := by kernel_rfl
theorem fok74 : fOk Tryd.prog 74 = true := by kernel_rfl
theorem lines_numbers_ok (p0 : Config) (p1 : Act) (r : Bool) (h : lines_numbers p0 p1 = some r) : FnRO Tryd.prog G 74 [.agg p0.bx, .agg p1.bx] (fun rs => rs = [.one (.b r)]) := by
 refine FnRO.of' low74 fok74 (by simp [F74]) ?_
 rw [lines_numbers] at h
 replace h := Hd.mk h
 simp only [F74, go_sem]
 refine oi h (fun hb1 h => ?_) (fun hb1 h => ?_)
 have := of_decide_eq_true hb1
 cases h.e
 simp only [*, go_sem, mA, mS]
 refine oi h (fun hb2 h => ?_) (fun hb2 h => ?_)
 cases h.e
 simp only [*, go_sem, mA, mS]
 refine oi h (fun hb3 h => ?_) (fun hb3 h => ?_)
 have := of_decide_eq_true hb3
 cases h.e
 simp only [*, go_sem, mA, mS]
 refine oi h (fun hb4 h => ?_) (fun hb4 h => ?_)
 cases h.e
 simp only [*, go_sem, mA, mS]
 refine oi h (fun hb5 h => ?_) (fun hb5 h => ?_)
 have := of_decide_eq_true hb5
 cases h.e
 simp only [*, go_sem, mA, mS]
 try simp only [*, go_sem]
 intro hl6
 refine oi h (fun hb7 h => ?_) (fun hb7 h => ?_)
 cases h.e
 simp only [*, go_sem, mA, mS]
 refine oi h (fun hb8 h => ?_) (fun hb8 h => ?_)
 have := of_decide_eq_true hb8
 cases h.e
 simp only [*, go_sem, mA, mS]
 refine oi h (fun hb9 h => ?_) (fun hb9 h => ?_)
 cases h.e
 simp only [*, go_sem, mA, mS]
 try simp only [*, go_sem]
 intro hl10
 try simp only [*, go_sem]
 intro hl11
 refine oi h (fun hb12 h => ?_) (fun hb12 h => ?_)
 cases h.e
 simp only [*, go_sem, mA, mS]
 refine oi h (fun hb13 h => ?_) (fun hb13 h => ?_)
 cases h.e
 simp only [*, go_sem, mA, mS]
 try simp only [*, go_sem]
 refine cr h (slices_ContainsFunc_int_ok G p1.Keep (fun y14 => lines_numbers_1 y14) 99 [] (fun y14 r h => lines_numbers_1_ok G y14 r h)) (fun v15 h => ?_)
 cases h.e
 simp only [*, go_sem, mA, mS]
def lines_bare (p0 : Act) : Option (Bool) := (withK (fun (b1_1 : Bool) => (withK (fun (b5_1 : Bool) => (withK (fun (b8_1 : Bool) => (withK (fun (b12_1 : Bool) => (some b12_1)) fun k13 => (if b5_1 = true then (if b8_1 = true then (if b1_1 = true then (if (p0.Kind == 6) = true then (if (p0.Kind == 1) = true then (if (p0.Kind == 8) = true then (k13 true) else (k13 (p0.Line.toList == (⟨#[]⟩ : ByteArray).toList))) else (if ((p0.Call.Kind == 0) && ((p0.Call.N == 0) && ((p0.Call.Label == 0) && ((p0.Call.Key == 0) && (p0.Call.Value == 0))))) = true then (if (p0.Kind == 8) = true then (k13 true) else (k13 (p0.Line.toList == (⟨#[]⟩ : ByteArray).toList))) else (k13 false))) else (if (((p0.Keep.length : Nat) : Int) == 0) = true then (if (p0.Kind == 1) = true then (if (p0.Kind == 8) = true then (k13 true) else (k13 (p0.Line.toList == (⟨#[]⟩ : ByteArray).toList))) else (if ((p0.Call.Kind == 0) && ((p0.Call.N == 0) && ((p0.Call.Label == 0) && ((p0.Call.Key == 0) && (p0.Call.Value == 0))))) = true then (if (p0.Kind == 8) = true then (k13 true) else (k13 (p0.Line.toList == (⟨#[]⟩ : ByteArray).toList))) else (k13 false))) else (k13 false))) else (if (p0.To == 0) = true then (if (p0.Pick == 0) = true then (if (p0.Kind == 6) = true then (if (p0.Kind == 1) = true then (if (p0.Kind == 8) = true then (k13 true) else (k13 (p0.Line.toList == (⟨#[]⟩ : ByteArray).toList))) else (if ((p0.Call.Kind == 0) && ((p0.Call.N == 0) && ((p0.Call.Label == 0) && ((p0.Call.Key == 0) && (p0.Call.Value == 0))))) = true then (if (p0.Kind == 8) = true then (k13 true) else (k13 (p0.Line.toList == (⟨#[]⟩ : ByteArray).toList))) else (k13 false))) else (if (((p0.Keep.length : Nat) : Int) == 0) = true then (if (p0.Kind == 1) = true then (if (p0.Kind == 8) = true then (k13 true) else (k13 (p0.Line.toList == (⟨#[]⟩ : ByteArray).toList))) else (if ((p0.Call.Kind == 0) && ((p0.Call.N == 0) && ((p0.Call.Label == 0) && ((p0.Call.Key == 0) && (p0.Call.Value == 0))))) = true then (if (p0.Kind == 8) = true then (k13 true) else (k13 (p0.Line.toList == (⟨#[]⟩ : ByteArray).toList))) else (k13 false))) else (k13 false))) else (k13 false)) else (k13 false))) else (if (p0.Label == 0) = true then (if b1_1 = true then (if (p0.Kind == 6) = true then (if (p0.Kind == 1) = true then (if (p0.Kind == 8) = true then (k13 true) else (k13 (p0.Line.toList == (⟨#[]⟩ : ByteArray).toList))) else (if ((p0.Call.Kind == 0) && ((p0.Call.N == 0) && ((p0.Call.Label == 0) && ((p0.Call.Key == 0) && (p0.Call.Value == 0))))) = true then (if (p0.Kind == 8) = true then (k13 true) else (k13 (p0.Line.toList == (⟨#[]⟩ : ByteArray).toList))) else (k13 false))) else (if (((p0.Keep.length : Nat) : Int) == 0) = true then (if (p0.Kind == 1) = true then (if (p0.Kind == 8) = true then (k13 true) else (k13 (p0.Line.toList == (⟨#[]⟩ : ByteArray).toList))) else (if ((p0.Call.Kind == 0) && ((p0.Call.N == 0) && ((p0.Call.Label == 0) && ((p0.Call.Key == 0) && (p0.Call.Value == 0))))) = true then (if (p0.Kind == 8) = true then (k13 true) else (k13 (p0.Line.toList == (⟨#[]⟩ : ByteArray).toList))) else (k13 false))) else (k13 false))) else (if (p0.To == 0) = true then (if (p0.Pick == 0) = true then (if (p0.Kind == 6) = true then (if (p0.Kind == 1) = true then (if (p0.Kind == 8) = true then (k13 true) else (k13 (p0.Line.toList == (⟨#[]⟩ : ByteArray).toList))) else (if ((p0.Call.Kind == 0) && ((p0.Call.N == 0) && ((p0.Call.Label == 0) && ((p0.Call.Key == 0) && (p0.Call.Value == 0))))) = true then (if (p0.Kind == 8) = true then (k13 true) else (k13 (p0.Line.toList == (⟨#[]⟩ : ByteArray).toList))) else (k13 false))) else (if (((p0.Keep.length : Nat) : Int) == 0) = true then (if (p0.Kind == 1) = true then (if (p0.Kind == 8) = true then (k13 true) else (k13 (p0.Line.toList == (⟨#[]⟩ : ByteArray).toList))) else (if ((p0.Call.Kind == 0) && ((p0.Call.N == 0) && ((p0.Call.Label == 0) && ((p0.Call.Key == 0) && (p0.Call.Value == 0))))) = true then (if (p0.Kind == 8) = true then (k13 true) else (k13 (p0.Line.toList == (⟨#[]⟩ : ByteArray).toList))) else (k13 false))) else (k13 false))) else (k13 false)) else (k13 false))) else (k13 false))) else (if (p0.Site == 0) = true then (if b8_1 = true then (if b1_1 = true then (if (p0.Kind == 6) = true then (if (p0.Kind == 1) = true then (if (p0.Kind == 8) = true then (k13 true) else (k13 (p0.Line.toList == (⟨#[]⟩ : ByteArray).toList))) else (if ((p0.Call.Kind == 0) && ((p0.Call.N == 0) && ((p0.Call.Label == 0) && ((p0.Call.Key == 0) && (p0.Call.Value == 0))))) = true then (if (p0.Kind == 8) = true then (k13 true) else (k13 (p0.Line.toList == (⟨#[]⟩ : ByteArray).toList))) else (k13 false))) else (if (((p0.Keep.length : Nat) : Int) == 0) = true then (if (p0.Kind == 1) = true then (if (p0.Kind == 8) = true then (k13 true) else (k13 (p0.Line.toList == (⟨#[]⟩ : ByteArray).toList))) else (if ((p0.Call.Kind == 0) && ((p0.Call.N == 0) && ((p0.Call.Label == 0) && ((p0.Call.Key == 0) && (p0.Call.Value == 0))))) = true then (if (p0.Kind == 8) = true then (k13 true) else (k13 (p0.Line.toList == (⟨#[]⟩ : ByteArray).toList))) else (k13 false))) else (k13 false))) else (if (p0.To == 0) = true then (if (p0.Pick == 0) = true then (if (p0.Kind == 6) = true then (if (p0.Kind == 1) = true then (if (p0.Kind == 8) = true then (k13 true) else (k13 (p0.Line.toList == (⟨#[]⟩ : ByteArray).toList))) else (if ((p0.Call.Kind == 0) && ((p0.Call.N == 0) && ((p0.Call.Label == 0) && ((p0.Call.Key == 0) && (p0.Call.Value == 0))))) = true then (if (p0.Kind == 8) = true then (k13 true) else (k13 (p0.Line.toList == (⟨#[]⟩ : ByteArray).toList))) else (k13 false))) else (if (((p0.Keep.length : Nat) : Int) == 0) = true then (if (p0.Kind == 1) = true then (if (p0.Kind == 8) = true then (k13 true) else (k13 (p0.Line.toList == (⟨#[]⟩ : ByteArray).toList))) else (if ((p0.Call.Kind == 0) && ((p0.Call.N == 0) && ((p0.Call.Label == 0) && ((p0.Call.Key == 0) && (p0.Call.Value == 0))))) = true then (if (p0.Kind == 8) = true then (k13 true) else (k13 (p0.Line.toList == (⟨#[]⟩ : ByteArray).toList))) else (k13 false))) else (k13 false))) else (k13 false)) else (k13 false))) else (if (p0.Label == 0) = true then (if b1_1 = true then (if (p0.Kind == 6) = true then (if (p0.Kind == 1) = true then (if (p0.Kind == 8) = true then (k13 true) else (k13 (p0.Line.toList == (⟨#[]⟩ : ByteArray).toList))) else (if ((p0.Call.Kind == 0) && ((p0.Call.N == 0) && ((p0.Call.Label == 0) && ((p0.Call.Key == 0) && (p0.Call.Value == 0))))) = true then (if (p0.Kind == 8) = true then (k13 true) else (k13 (p0.Line.toList == (⟨#[]⟩ : ByteArray).toList))) else (k13 false))) else (if (((p0.Keep.length : Nat) : Int) == 0) = true then (if (p0.Kind == 1) = true then (if (p0.Kind == 8) = true then (k13 true) else (k13 (p0.Line.toList == (⟨#[]⟩ : ByteArray).toList))) else (if ((p0.Call.Kind == 0) && ((p0.Call.N == 0) && ((p0.Call.Label == 0) && ((p0.Call.Key == 0) && (p0.Call.Value == 0))))) = true then (if (p0.Kind == 8) = true then (k13 true) else (k13 (p0.Line.toList == (⟨#[]⟩ : ByteArray).toList))) else (k13 false))) else (k13 false))) else (if (p0.To == 0) = true then (if (p0.Pick == 0) = true then (if (p0.Kind == 6) = true then (if (p0.Kind == 1) = true then (if (p0.Kind == 8) = true then (k13 true) else (k13 (p0.Line.toList == (⟨#[]⟩ : ByteArray).toList))) else (if ((p0.Call.Kind == 0) && ((p0.Call.N == 0) && ((p0.Call.Label == 0) && ((p0.Call.Key == 0) && (p0.Call.Value == 0))))) = true then (if (p0.Kind == 8) = true then (k13 true) else (k13 (p0.Line.toList == (⟨#[]⟩ : ByteArray).toList))) else (k13 false))) else (if (((p0.Keep.length : Nat) : Int) == 0) = true then (if (p0.Kind == 1) = true then (if (p0.Kind == 8) = true then (k13 true) else (k13 (p0.Line.toList == (⟨#[]⟩ : ByteArray).toList))) else (if ((p0.Call.Kind == 0) && ((p0.Call.N == 0) && ((p0.Call.Label == 0) && ((p0.Call.Key == 0) && (p0.Call.Value == 0))))) = true then (if (p0.Kind == 8) = true then (k13 true) else (k13 (p0.Line.toList == (⟨#[]⟩ : ByteArray).toList))) else (k13 false))) else (k13 false))) else (k13 false)) else (k13 false))) else (k13 false))) else (k13 false))))) fun k9 => (if b1_1 = true then (k9 true) else (if (p0.Kind == 1) = true then (k9 true) else (k9 (p0.Kind == 8)))))) fun k6 => (if b1_1 = true then (k6 true) else (k6 (p0.Kind != 5))))) fun k2 => (if (p0.Kind == 2) = true then (k2 true) else (if (p0.Kind == 3) = true then (k2 true) else (k2 (p0.Kind == 4)))))
def F75 : VFn := ⟨95, (.seq (.reg [vo 1 (.box 12 (.t 0)), vo 2 (.mv (cb false))]) (.seq (.wk (.reg [vf 6 0 1, vs 7 6, bk 8 .eql 7 2, vm 9 8, gf 10 9 (.fa 0 (.t 1)), gf 11 9 (.ld false 1 (.t 10)), gf 12 9 (.bin .i .eql (.t 11) (ci 3)), vo 13 (.pick (.t 9) (cb true) (.t 12)), vm 14 13, gf 15 14 (.fa 0 (.t 1)), gf 16 14 (.ld false 1 (.t 15)), gf 17 14 (.bin .i .eql (.t 16) (ci 4)), vo 18 (.pick (.t 14) (cb true) (.t 17)), vm 3 18])) (.seq (.wk (.reg [vm 19 3, vm 20 19, gf 21 20 (.fa 0 (.t 1)), gf 22 20 (.ld false 1 (.t 21)), gf 23 20 (.bin .i .neq (.t 22) (ci 5)), vo 24 (.pick (.t 20) (cb true) (.t 23)), vm 4 24])) (.seq (.wk (.reg [vm 25 3, vm 26 25, gf 27 26 (.fa 0 (.t 1)), gf 28 26 (.ld false 1 (.t 27)), gf 29 26 (.bin .i .eql (.t 28) (ci 1)), vo 30 (.pick (.t 26) (cb true) (.t 29)), vm 31 30, gf 32 31 (.fa 0 (.t 1)), gf 33 31 (.ld false 1 (.t 32)), gf 34 31 (.bin .i .eql (.t 33) (ci 8)), vo 35 (.pick (.t 31) (cb true) (.t 34)), vm 5 35])) (.seq (.wk (.reg [vm 36 4, vm 37 36, gf 38 37 (.fa 1 (.t 1)), gf 39 37 (.ld false 1 (.t 38)), gf 40 37 (.bin .i .eql (.t 39) (ci 0)), vo 41 (.pick (.t 37) (cb true) (.t 40)), vm 42 41, gt 43 42 (.mv (.t 5)), gt 44 42 (.mv (.t 43)), gf 45 44 (.fa 3 (.t 1)), gf 46 44 (.ld false 1 (.t 45)), gf 47 44 (.bin .i .eql (.t 46) (ci 0)), gt 48 42 (.pick (.t 44) (cb true) (.t 47)), vo 49 (.pick (.t 42) (.t 48) (cb false)), vm 50 49, gt 51 50 (.mv (.t 3)), gt 52 50 (.mv (.t 51)), gf 53 52 (.fa 2 (.t 1)), gf 54 52 (.ld false 1 (.t 53)), gf 55 52 (.bin .i .eql (.t 54) (ci 0)), gf 56 52 (.mv (.t 55)), gt 57 56 (.fa 4 (.t 1)), gt 58 56 (.ld false 1 (.t 57)), gt 59 56 (.bin .i .eql (.t 58) (ci 0)), gf 60 52 (.pick (.t 56) (.t 59) (cb false)), gt 61 50 (.pick (.t 52) (cb true) (.t 60)), vo 62 (.pick (.t 50) (.t 61) (cb false)), vm 63 62, gt 64 63 (.fa 0 (.t 1)), gt 65 63 (.ld false 1 (.t 64)), gt 66 63 (.bin .i .eql (.t 65) (ci 6)), gt 67 63 (.mv (.t 66)), gf 68 67 (.fa 5 (.t 1)), gf 69 67 (.ld false 1 (.t 68)), gf 70 67 (.len (.t 69)), gf 71 67 (.bin .i .eql (.t 70) (ci 0)), gt 72 63 (.pick (.t 67) (cb true) (.t 71)), vo 73 (.pick (.t 63) (.t 72) (cb false)), vm 74 73, gt 75 74 (.fa 0 (.t 1)), gt 76 74 (.ld false 1 (.t 75)), gt 77 74 (.bin .i .eql (.t 76) (ci 1)), gt 78 74 (.mv (.t 77)), gf 79 78 (.fa 6 (.t 1)), gf 80 78 (.ld true 5 (.t 79)), gf 81 78 (.build [(zi 0), (zi 0), (zi 0), (zi 0), (zi 0)] []), gf 82 78 (.eqs false [.i, .i, .i, .i, .i] (.t 80) (.t 81)), gt 83 74 (.pick (.t 78) (cb true) (.t 82)), vo 84 (.pick (.t 74) (.t 83) (cb false)), vm 85 84, gt 86 85 (.fa 0 (.t 1)), gt 87 85 (.ld false 1 (.t 86)), gt 88 85 (.bin .i .eql (.t 87) (ci 8)), gt 89 85 (.mv (.t 88)), gf 90 89 (.fa 11 (.t 1)), gf 91 89 (.ld false 1 (.t 90)), gf 92 89 (.bin .s .eql (.t 91) (.c (.one (.d (.s ⟨#[]⟩))))), gt 93 85 (.pick (.t 89) (cb true) (.t 92)), vo 94 (.pick (.t 85) (.t 93) (cb false)), vm 2 94])) .ret))))), [.t 2]⟩
theorem low75 : lowF Tryd.prog 75 = some F75.strip := by kernel_rfl
theorem fok75 : fOk Tryd.prog 75 = true := by kernel_rfl
theorem lines_bare_ok (p0 : Act) (r : Bool) (h : lines_bare p0 = some r) : FnRO Tryd.prog G 75 [.agg p0.bx] (fun rs => rs = [.one (.b r)]) := by
 refine FnRO.of' low75 fok75 (by simp [F75]) ?_
 rw [lines_bare] at h
 replace h := Hd.mk h
 simp only [F75, go_sem]
 try simp only [*, go_sem]
 refine jn1 h (fun b1_1 => [zP 1 0, zB 3 b1_1]) (fun b1_1 => [ox p0.bx]) (fun k2 h => ?_) (fun b1_1 h => ?_)
 refine oi h (fun hb3 h => ?_) (fun hb3 h => ?_)
 try simp only [*, go_sem]
 exact jc (true) h.e [some 0]
 refine oi h (fun hb4 h => ?_) (fun hb4 h => ?_)
 try simp only [*, go_sem]
 exact jc (true) h.e [some 0]
 try simp only [*, go_sem]
 exact jc (p0.Kind == 4) h.e [some 0]
 try simp only [*, go_sem]
 refine jn1 h (fun b5_1 => [zP 1 0, zB 3 b1_1, zB 4 b5_1]) (fun b5_1 => [ox p0.bx]) (fun k6 h => ?_) (fun b5_1 h => ?_)
 refine oi h (fun hb7 h => ?_) (fun hb7 h => ?_)
 try simp only [*, go_sem]
 exact jc (true) h.e [some 0]
 try simp only [*, go_sem]
 exact jc (p0.Kind != 5) h.e [some 0]
 try simp only [*, go_sem]
 refine jn1 h (fun b8_1 => [zP 1 0, zB 3 b1_1, zB 4 b5_1, zB 5 b8_1]) (fun b8_1 => [ox p0.bx]) (fun k9 h => ?_) (fun b8_1 h => ?_)
 refine oi h (fun hb10 h => ?_) (fun hb10 h => ?_)
 try simp only [*, go_sem]
 exact jc (true) h.e [some 0]
 refine oi h (fun hb11 h => ?_) (fun hb11 h => ?_)
 try simp only [*, go_sem]
 exact jc (true) h.e [some 0]
 try simp only [*, go_sem]
 exact jc (p0.Kind == 8) h.e [some 0]
 try simp only [*, go_sem]
 refine jn1 h (fun b12_1 => [zB 2 b12_1]) (fun b12_1 => []) (fun k13 h => ?_) (fun b12_1 h => ?_)
 refine oi h (fun hb14 h => ?_) (fun hb14 h => ?_)
 refine oi h (fun hb15 h => ?_) (fun hb15 h => ?_)
 refine oi h (fun hb16 h => ?_) (fun hb16 h => ?_)
 refine oi h (fun hb17 h => ?_) (fun hb17 h => ?_)
 refine oi h (fun hb18 h => ?_) (fun hb18 h => ?_)
 refine oi h (fun hb19 h => ?_) (fun hb19 h => ?_)
 try simp only [*, go_sem]
 exact jc (true) h.e []
 try simp only [*, go_sem]
 exact jc (p0.Line.toList == (⟨#[]⟩ : ByteArray).toList) h.e []
 refine oi h (fun hb20 h => ?_) (fun hb20 h => ?_)
 try simp only [*, go_sem]
 refine oi h (fun hb21 h => ?_) (fun hb21 h => ?_)
 try simp only [*, go_sem]
 exact jc (true) h.e []
 try simp only [*, go_sem]
 exact jc (p0.Line.toList == (⟨#[]⟩ : ByteArray).toList) h.e []
 try simp only [*, go_sem]
 try simp only [*, go_sem]
 exact jc (false) h.e []
 try simp only [*, go_sem]
 intro hl22
 refine oi h (fun hb23 h => ?_) (fun hb23 h => ?_)
 refine oi h (fun hb24 h => ?_) (fun hb24 h => ?_)
 refine oi h (fun hb25 h => ?_) (fun hb25 h => ?_)
 try simp only [*, go_sem]
 exact jc (true) h.e []
 try simp only [*, go_sem]
 exact jc (p0.Line.toList == (⟨#[]⟩ : ByteArray).toList) h.e []
 refine oi h (fun hb26 h => ?_) (fun hb26 h => ?_)
 try simp only [*, go_sem]
 refine oi h (fun hb27 h => ?_) (fun hb27 h => ?_)
 try simp only [*, go_sem]
 exact jc (true) h.e []
 try simp only [*, go_sem]
 exact jc (p0.Line.toList == (⟨#[]⟩ : ByteArray).toList) h.e []
 try simp only [*, go_sem]
 try simp only [*, go_sem]
 exact jc (false) h.e []
 try simp only [*, go_sem]
 exact jc (false) h.e []
 refine oi h (fun hb28 h => ?_) (fun hb28 h => ?_)
 refine oi h (fun hb29 h => ?_) (fun hb29 h => ?_)
 refine oi h (fun hb30 h => ?_) (fun hb30 h => ?_)
 refine oi h (fun hb31 h => ?_) (fun hb31 h => ?_)
 refine oi h (fun hb32 h => ?_) (fun hb32 h => ?_)
 try simp only [*, go_sem]
 exact jc (true) h.e []
 try simp only [*, go_sem]
 exact jc (p0.Line.toList == (⟨#[]⟩ : ByteArray).toList) h.e []
 refine oi h (fun hb33 h => ?_) (fun hb33 h => ?_)
 try simp only [*, go_sem]
 refine oi h (fun hb34 h => ?_) (fun hb34 h => ?_)
 try simp only [*, go_sem]
 exact jc (true) h.e []
 try simp only [*, go_sem]
 exact jc (p0.Line.toList == (⟨#[]⟩ : ByteArray).toList) h.e []
 try simp only [*, go_sem]
 try simp only [*, go_sem]
 exact jc (false) h.e []
 try simp only [*, go_sem]
 intro hl35
 refine oi h (fun hb36 h => ?_) (fun hb36 h => ?_)
 refine oi h (fun hb37 h => ?_) (fun hb37 h => ?_)
 refine oi h (fun hb38 h => ?_) (fun hb38 h => ?_)
 try simp only [*, go_sem]
 exact jc (true) h.e []
 try simp only [*, go_sem]
 exact jc (p0.Line.toList == (⟨#[]⟩ : ByteArray).toList) h.e []
 refine oi h (fun hb39 h => ?_) (fun hb39 h => ?_)
 try simp only [*, go_sem]
 refine oi h (fun hb40 h => ?_) (fun hb40 h => ?_)
 try simp only [*, go_sem]
 exact jc (true) h.e []
 try simp only [*, go_sem]
 exact jc (p0.Line.toList == (⟨#[]⟩ : ByteArray).toList) h.e []
 try simp only [*, go_sem]
 try simp only [*, go_sem]
 exact jc (false) h.e []
 try simp only [*, go_sem]
 exact jc (false) h.e []
 try simp only [*, go_sem]
 exact jc (false) h.e []
 try simp only [*, go_sem]
 exact jc (false) h.e []
 refine oi h (fun hb41 h => ?_) (fun hb41 h => ?_)
 refine oi h (fun hb42 h => ?_) (fun hb42 h => ?_)
 refine oi h (fun hb43 h => ?_) (fun hb43 h => ?_)
 refine oi h (fun hb44 h => ?_) (fun hb44 h => ?_)
 refine oi h (fun hb45 h => ?_) (fun hb45 h => ?_)
 try simp only [*, go_sem]
 exact jc (true) h.e []
 try simp only [*, go_sem]
 exact jc (p0.Line.toList == (⟨#[]⟩ : ByteArray).toList) h.e []
 refine oi h (fun hb46 h => ?_) (fun hb46 h => ?_)
 try simp only [*, go_sem]
 refine oi h (fun hb47 h => ?_) (fun hb47 h => ?_)
 try simp only [*, go_sem]
 exact jc (true) h.e []
 try simp only [*, go_sem]
 exact jc (p0.Line.toList == (⟨#[]⟩ : ByteArray).toList) h.e []
 try simp only [*, go_sem]
 try simp only [*, go_sem]
 exact jc (false) h.e []
 try simp only [*, go_sem]
 intro hl48
 refine oi h (fun hb49 h => ?_) (fun hb49 h => ?_)
 refine oi h (fun hb50 h => ?_) (fun hb50 h => ?_)
 refine oi h (fun hb51 h => ?_) (fun hb51 h => ?_)
 try simp only [*, go_sem]
 exact jc (true) h.e []
 try simp only [*, go_sem]
 exact jc (p0.Line.toList == (⟨#[]⟩ : ByteArray).toList) h.e []
 refine oi h (fun hb52 h => ?_) (fun hb52 h => ?_)
 try simp only [*, go_sem]
 refine oi h (fun hb53 h => ?_) (fun hb53 h => ?_)
 try simp only [*, go_sem]
 exact jc (true) h.e []
 try simp only [*, go_sem]
 exact jc (p0.Line.toList == (⟨#[]⟩ : ByteArray).toList) h.e []
 try simp only [*, go_sem]
 try simp only [*, go_sem]
 exact jc (false) h.e []
 try simp only [*, go_sem]
 exact jc (false) h.e []
 refine oi h (fun hb54 h => ?_) (fun hb54 h => ?_)
 refine oi h (fun hb55 h => ?_) (fun hb55 h => ?_)
 refine oi h (fun hb56 h => ?_) (fun hb56 h => ?_)
 refine oi h (fun hb57 h => ?_) (fun hb57 h => ?_)
 refine oi h (fun hb58 h => ?_) (fun hb58 h => ?_)
 try simp only [*, go_sem]
 exact jc (true) h.e []
 try simp only [*, go_sem]
 exact jc (p0.Line.toList == (⟨#[]⟩ : ByteArray).toList) h.e []
 refine oi h (fun hb59 h => ?_) (fun hb59 h => ?_)
 try simp only [*, go_sem]
 refine oi h (fun hb60 h => ?_) (fun hb60 h => ?_)
 try simp only [*, go_sem]
 exact jc (true) h.e []
 try simp only [*, go_sem]
 exact jc (p0.Line.toList == (⟨#[]⟩ : ByteArray).toList) h.e []
 try simp only [*, go_sem]
 try simp only [*, go_sem]
 exact jc (false) h.e []
 try simp only [*, go_sem]
 intro hl61
 refine oi h (fun hb62 h => ?_) (fun hb62 h => ?_)
 refine oi h (fun hb63 h => ?_) (fun hb63 h => ?_)
 refine oi h (fun hb64 h => ?_) (fun hb64 h => ?_)
 try simp only [*, go_sem]
 exact jc (true) h.e []
 try simp only [*, go_sem]
 exact jc (p0.Line.toList == (⟨#[]⟩ : ByteArray).toList) h.e []
 refine oi h (fun hb65 h => ?_) (fun hb65 h => ?_)
 try simp only [*, go_sem]
 refine oi h (fun hb66 h => ?_) (fun hb66 h => ?_)
 try simp only [*, go_sem]
 exact jc (true) h.e []
 try simp only [*, go_sem]
 exact jc (p0.Line.toList == (⟨#[]⟩ : ByteArray).toList) h.e []
 try simp only [*, go_sem]
 try simp only [*, go_sem]
 exact jc (false) h.e []
 try simp only [*, go_sem]
 exact jc (false) h.e []
 try simp only [*, go_sem]
 exact jc (false) h.e []
 try simp only [*, go_sem]
 exact jc (false) h.e []
 try simp only [*, go_sem]
 exact jc (false) h.e []
 refine oi h (fun hb67 h => ?_) (fun hb67 h => ?_)
 refine oi h (fun hb68 h => ?_) (fun hb68 h => ?_)
 refine oi h (fun hb69 h => ?_) (fun hb69 h => ?_)
 refine oi h (fun hb70 h => ?_) (fun hb70 h => ?_)
 refine oi h (fun hb71 h => ?_) (fun hb71 h => ?_)
 refine oi h (fun hb72 h => ?_) (fun hb72 h => ?_)
 try simp only [*, go_sem]
 exact jc (true) h.e []
 try simp only [*, go_sem]
 exact jc (p0.Line.toList == (⟨#[]⟩ : ByteArray).toList) h.e []
 refine oi h (fun hb73 h => ?_) (fun hb73 h => ?_)
 try simp only [*, go_sem]
 refine oi h (fun hb74 h => ?_) (fun hb74 h => ?_)
 try simp only [*, go_sem]
 exact jc (true) h.e []
 try simp only [*, go_sem]
 exact jc (p0.Line.toList == (⟨#[]⟩ : ByteArray).toList) h.e []
 try simp only [*, go_sem]
 try simp only [*, go_sem]
 exact jc (false) h.e []
 try simp only [*, go_sem]
 intro hl75
 refine oi h (fun hb76 h => ?_) (fun hb76 h => ?_)
 refine oi h (fun hb77 h => ?_) (fun hb77 h => ?_)
 refine oi h (fun hb78 h => ?_) (fun hb78 h => ?_)
 try simp only [*, go_sem]
 exact jc (true) h.e []
 try simp only [*, go_sem]
 exact jc (p0.Line.toList == (⟨#[]⟩ : ByteArray).toList) h.e []
 refine oi h (fun hb79 h => ?_) (fun hb79 h => ?_)
 try simp only [*, go_sem]
 refine oi h (fun hb80 h => ?_) (fun hb80 h => ?_)
 try simp only [*, go_sem]
 exact jc (true) h.e []
 try simp only [*, go_sem]
 exact jc (p0.Line.toList == (⟨#[]⟩ : ByteArray).toList) h.e []
 try simp only [*, go_sem]
 try simp only [*, go_sem]
 exact jc (false) h.e []
 try simp only [*, go_sem]
 exact jc (false) h.e []
 refine oi h (fun hb81 h => ?_) (fun hb81 h => ?_)
 refine oi h (fun hb82 h => ?_) (fun hb82 h => ?_)
 refine oi h (fun hb83 h => ?_) (fun hb83 h => ?_)
 refine oi h (fun hb84 h => ?_) (fun hb84 h => ?_)
 refine oi h (fun hb85 h => ?_) (fun hb85 h => ?_)
 try simp only [*, go_sem]
 exact jc (true) h.e []
 try simp only [*, go_sem]
 exact jc (p0.Line.toList == (⟨#[]⟩ : ByteArray).toList) h.e []
 refine oi h (fun hb86 h => ?_) (fun hb86 h => ?_)
 try simp only [*, go_sem]
 refine oi h (fun hb87 h => ?_) (fun hb87 h => ?_)
 try simp only [*, go_sem]
 exact jc (true) h.e []
 try simp only [*, go_sem]
 exact jc (p0.Line.toList == (⟨#[]⟩ : ByteArray).toList) h.e []
 try simp only [*, go_sem]
 try simp only [*, go_sem]
 exact jc (false) h.e []
 try simp only [*, go_sem]
 intro hl88
 refine oi h (fun hb89 h => ?_) (fun hb89 h => ?_)
 refine oi h (fun hb90 h => ?_) (fun hb90 h => ?_)
 refine oi h (fun hb91 h => ?_) (fun hb91 h => ?_)
 try simp only [*, go_sem]
 exact jc (true) h.e []
 try simp only [*, go_sem]
 exact jc (p0.Line.toList == (⟨#[]⟩ : ByteArray).toList) h.e []
 refine oi h (fun hb92 h => ?_) (fun hb92 h => ?_)
 try simp only [*, go_sem]
 refine oi h (fun hb93 h => ?_) (fun hb93 h => ?_)
 try simp only [*, go_sem]
 exact jc (true) h.e []
 try simp only [*, go_sem]
 exact jc (p0.Line.toList == (⟨#[]⟩ : ByteArray).toList) h.e []
 try simp only [*, go_sem]
 try simp only [*, go_sem]
 exact jc (false) h.e []
 try simp only [*, go_sem]
 exact jc (false) h.e []
 try simp only [*, go_sem]
 exact jc (false) h.e []
 try simp only [*, go_sem]
 exact jc (false) h.e []
 refine oi h (fun hb94 h => ?_) (fun hb94 h => ?_)
 refine oi h (fun hb95 h => ?_) (fun hb95 h => ?_)
 refine oi h (fun hb96 h => ?_) (fun hb96 h => ?_)
 refine oi h (fun hb97 h => ?_) (fun hb97 h => ?_)
 refine oi h (fun hb98 h => ?_) (fun hb98 h => ?_)
 try simp only [*, go_sem]
 exact jc (true) h.e []
 try simp only [*, go_sem]
 exact jc (p0.Line.toList == (⟨#[]⟩ : ByteArray).toList) h.e []
 refine oi h (fun hb99 h => ?_) (fun hb99 h => ?_)
 try simp only [*, go_sem]
 refine oi h (fun hb100 h => ?_) (fun hb100 h => ?_)
 try simp only [*, go_sem]
 exact jc (true) h.e []
 try simp only [*, go_sem]
 exact jc (p0.Line.toList == (⟨#[]⟩ : ByteArray).toList) h.e []
 try simp only [*, go_sem]
 try simp only [*, go_sem]
 exact jc (false) h.e []
 try simp only [*, go_sem]
 intro hl101
 refine oi h (fun hb102 h => ?_) (fun hb102 h => ?_)
 refine oi h (fun hb103 h => ?_) (fun hb103 h => ?_)
 refine oi h (fun hb104 h => ?_) (fun hb104 h => ?_)
 try simp only [*, go_sem]
 exact jc (true) h.e []
 try simp only [*, go_sem]
 exact jc (p0.Line.toList == (⟨#[]⟩ : ByteArray).toList) h.e []
 refine oi h (fun hb105 h => ?_) (fun hb105 h => ?_)
 try simp only [*, go_sem]
 refine oi h (fun hb106 h => ?_) (fun hb106 h => ?_)
 try simp only [*, go_sem]
 exact jc (true) h.e []
 try simp only [*, go_sem]
 exact jc (p0.Line.toList == (⟨#[]⟩ : ByteArray).toList) h.e []
 try simp only [*, go_sem]
 try simp only [*, go_sem]
 exact jc (false) h.e []
 try simp only [*, go_sem]
 exact jc (false) h.e []
 refine oi h (fun hb107 h => ?_) (fun hb107 h => ?_)
 refine oi h (fun hb108 h => ?_) (fun hb108 h => ?_)
 refine oi h (fun hb109 h => ?_) (fun hb109 h => ?_)
 refine oi h (fun hb110 h => ?_) (fun hb110 h => ?_)
 refine oi h (fun hb111 h => ?_) (fun hb111 h => ?_)
 try simp only [*, go_sem]
 exact jc (true) h.e []
 try simp only [*, go_sem]
 exact jc (p0.Line.toList == (⟨#[]⟩ : ByteArray).toList) h.e []
 refine oi h (fun hb112 h => ?_) (fun hb112 h => ?_)
 try simp only [*, go_sem]
 refine oi h (fun hb113 h => ?_) (fun hb113 h => ?_)
 try simp only [*, go_sem]
 exact jc (true) h.e []
 try simp only [*, go_sem]
 exact jc (p0.Line.toList == (⟨#[]⟩ : ByteArray).toList) h.e []
 try simp only [*, go_sem]
 try simp only [*, go_sem]
 exact jc (false) h.e []
 try simp only [*, go_sem]
 intro hl114
 refine oi h (fun hb115 h => ?_) (fun hb115 h => ?_)
 refine oi h (fun hb116 h => ?_) (fun hb116 h => ?_)
 refine oi h (fun hb117 h => ?_) (fun hb117 h => ?_)
 try simp only [*, go_sem]
 exact jc (true) h.e []
 try simp only [*, go_sem]
 exact jc (p0.Line.toList == (⟨#[]⟩ : ByteArray).toList) h.e []
 refine oi h (fun hb118 h => ?_) (fun hb118 h => ?_)
 try simp only [*, go_sem]
 refine oi h (fun hb119 h => ?_) (fun hb119 h => ?_)
 try simp only [*, go_sem]
 exact jc (true) h.e []
 try simp only [*, go_sem]
 exact jc (p0.Line.toList == (⟨#[]⟩ : ByteArray).toList) h.e []
 try simp only [*, go_sem]
 try simp only [*, go_sem]
 exact jc (false) h.e []
 try simp only [*, go_sem]
 exact jc (false) h.e []
 try simp only [*, go_sem]
 exact jc (false) h.e []
 try simp only [*, go_sem]
 exact jc (false) h.e []
 try simp only [*, go_sem]
 exact jc (false) h.e []
 try simp only [*, go_sem]
 exact jc (false) h.e []
 cases h.e
 simp only [*, go_sem, mA, mS]
def lines_call (p0 : Call) : Option (Int) := (if (decide (p0.Kind < 1)) = true then (some 3) else (if (decide (p0.Kind > 5)) = true then (some 3) else (if (decide (p0.N < 0)) = true then (some 2) else (if (decide (p0.N > 1048576)) = true then (some 2) else (if (decide (p0.Label < 0)) = true then (some 2) else (if (decide (p0.Label ≥ 6)) = true then (some 2) else (if (decide (p0.Key < 0)) = true then (some 2) else (if (decide (p0.Key > 8)) = true then (some 2) else (if (decide (p0.Value < 0)) = true then (some 2) else (if (decide (p0.Value > 1073741824)) = true then (some 2) else (withK (fun (b11_1 : Int) => (withK (fun (b14_1 : Int) (b14_2 : Int) (b14_3 : Int) => (if (!((p0.N == b11_1) && ((p0.Label == b14_1) && ((p0.Key == b14_2) && (p0.Value == b14_3))))) = true then (some 4) else (some 0))) fun k15 => (if (p0.Kind == 2) = true then (withK (k15 p0.Label p0.Key 0) fun k18 => k18) else (withK (fun (b19_1 : Int) (b19_2 : Int) => (k15 0 b19_1 b19_2)) fun k20 => (if (p0.Kind == 3) = true then (withK (k20 p0.Key p0.Value) fun k23 => k23) else (k20 0 0)))))) fun k12 => (if (p0.Kind != 1) = true then (k12 p0.N) else (k12 0)))))))))))))
def F76 : VFn := ⟨80, (.seq (.reg [vo 1 (.boxk 5 (.t 0)), mi 2 0]) (.seq (.seq (.reg [vf 4 0 1, vs 5 4, bk 6 .lss 5 1, vm 7 6, gf 8 7 (.fa 0 (.t 1)), gf 9 7 (.ld false 1 (.t 8)), gf 10 7 (.bin .i .gtr (.t 9) (ci 5)), vo 11 (.pick (.t 7) (cb true) (.t 10))]) (.cond (.t 11) (.seq (.reg [mi 2 3]) .ret) .skip)) (.seq (.seq (.reg [vf 12 1 1, vs 13 12, bk 14 .lss 13 0, vm 15 14, gf 16 15 (.fa 1 (.t 1)), gf 17 15 (.ld false 1 (.t 16)), gf 18 15 (.bin .i .gtr (.t 17) (ci 1048576)), vo 19 (.pick (.t 15) (cb true) (.t 18)), vm 20 19, gf 21 20 (.fa 2 (.t 1)), gf 22 20 (.ld false 1 (.t 21)), gf 23 20 (.bin .i .lss (.t 22) (ci 0)), vo 24 (.pick (.t 20) (cb true) (.t 23)), vm 25 24, gf 26 25 (.fa 2 (.t 1)), gf 27 25 (.ld false 1 (.t 26)), gf 28 25 (.bin .i .geq (.t 27) (ci 6)), vo 29 (.pick (.t 25) (cb true) (.t 28)), vm 30 29, gf 31 30 (.fa 3 (.t 1)), gf 32 30 (.ld false 1 (.t 31)), gf 33 30 (.bin .i .lss (.t 32) (ci 0)), vo 34 (.pick (.t 30) (cb true) (.t 33)), vm 35 34, gf 36 35 (.fa 3 (.t 1)), gf 37 35 (.ld false 1 (.t 36)), gf 38 35 (.bin .i .gtr (.t 37) (ci 8)), vo 39 (.pick (.t 35) (cb true) (.t 38)), vm 40 39, gf 41 40 (.fa 4 (.t 1)), gf 42 40 (.ld false 1 (.t 41)), gf 43 40 (.bin .i .lss (.t 42) (ci 0)), vo 44 (.pick (.t 40) (cb true) (.t 43)), vm 45 44, gf 46 45 (.fa 4 (.t 1)), gf 47 45 (.ld false 1 (.t 46)), gf 48 45 (.bin .i .gtr (.t 47) (ci 1073741824)), vo 49 (.pick (.t 45) (cb true) (.t 48))]) (.cond (.t 49) (.seq (.reg [mi 2 2]) .ret) .skip)) (.seq (.reg [vf 50 0 1, vs 51 50, vo 52 (.build [(zi 0), (zi 0), (zi 0), (zi 0), (zi 0)] [(0, 1, (.t 51))]), vo 3 (.alloc [(zi 0), (zi 0), (zi 0), (zi 0), (zi 0)]), vu (.st 5 (.t 3) (.t 52))]) (.seq (.seq (.reg [vf 53 0 1, vs 54 53, bk 55 .neq 54 1]) (.wk (.cond (.t 55) (.reg [vf 56 1 1, vs 57 56, vf 58 1 3, vu (.st 1 (.t 58) (.t 57))]) .skip))) (.seq (.seq (.reg [vf 59 0 1, vs 60 59]) (.block 0 (.seq (.reg [bk 62 .eql 60 2, vm 61 62]) (.wk (.cond (.t 61) (.wk (.orders [[vf 63 2 1, vs 64 63, vf 65 3 1, vs 66 65, vf 67 2 3, vu (.st 1 (.t 67) (.t 64)), vf 68 3 3, vu (.st 1 (.t 68) (.t 66))], [vf 63 2 1, vs 64 63, vf 65 3 1, vf 67 2 3, vs 66 65, vu (.st 1 (.t 67) (.t 64)), vf 68 3 3, vu (.st 1 (.t 68) (.t 66))], [vf 63 2 1, vs 64 63, vf 65 3 1, vf 67 2 3, vu (.st 1 (.t 67) (.t 64)), vs 66 65, vf 68 3 3, vu (.st 1 (.t 68) (.t 66))], [vf 63 2 1, vs 64 63, vf 67 2 3, vf 65 3 1, vs 66 65, vu (.st 1 (.t 67) (.t 64)), vf 68 3 3, vu (.st 1 (.t 68) (.t 66))], [vf 63 2 1, vs 64 63, vf 67 2 3, vf 65 3 1, vu (.st 1 (.t 67) (.t 64)), vs 66 65, vf 68 3 3, vu (.st 1 (.t 68) (.t 66))], [vf 63 2 1, vs 64 63, vf 67 2 3, vu (.st 1 (.t 67) (.t 64)), vf 65 3 1, vs 66 65, vf 68 3 3, vu (.st 1 (.t 68) (.t 66))], [vf 63 2 1, vf 65 3 1, vs 64 63, vs 66 65, vf 67 2 3, vu (.st 1 (.t 67) (.t 64)), vf 68 3 3, vu (.st 1 (.t 68) (.t 66))], [vf 63 2 1, vf 65 3 1, vs 64 63, vf 67 2 3, vs 66 65, vu (.st 1 (.t 67) (.t 64)), vf 68 3 3, vu (.st 1 (.t 68) (.t 66))], [vf 63 2 1, vf 65 3 1, vs 64 63, vf 67 2 3, vu (.st 1 (.t 67) (.t 64)), vs 66 65, vf 68 3 3, vu (.st 1 (.t 68) (.t 66))], [vf 63 2 1, vf 65 3 1, vs 66 65, vs 64 63, vf 67 2 3, vu (.st 1 (.t 67) (.t 64)), vf 68 3 3, vu (.st 1 (.t 68) (.t 66))], [vf 65 3 1, vf 63 2 1, vs 64 63, vs 66 65, vf 67 2 3, vu (.st 1 (.t 67) (.t 64)), vf 68 3 3, vu (.st 1 (.t 68) (.t 66))], [vf 65 3 1, vf 63 2 1, vs 64 63, vf 67 2 3, vs 66 65, vu (.st 1 (.t 67) (.t 64)), vf 68 3 3, vu (.st 1 (.t 68) (.t 66))], [vf 65 3 1, vf 63 2 1, vs 64 63, vf 67 2 3, vu (.st 1 (.t 67) (.t 64)), vs 66 65, vf 68 3 3, vu (.st 1 (.t 68) (.t 66))], [vf 65 3 1, vf 63 2 1, vs 66 65, vs 64 63, vf 67 2 3, vu (.st 1 (.t 67) (.t 64)), vf 68 3 3, vu (.st 1 (.t 68) (.t 66))], [vf 65 3 1, vs 66 65, vf 63 2 1, vs 64 63, vf 67 2 3, vu (.st 1 (.t 67) (.t 64)), vf 68 3 3, vu (.st 1 (.t 68) (.t 66))]])) (.seq (.reg [bk 70 .eql 60 3, vm 69 70]) (.wk (.cond (.t 69) (.wk (.orders [[vf 71 3 1, vs 72 71, vf 73 4 1, vs 74 73, vf 75 3 3, vu (.st 1 (.t 75) (.t 72)), vf 76 4 3, vu (.st 1 (.t 76) (.t 74))], [vf 71 3 1, vs 72 71, vf 73 4 1, vf 75 3 3, vs 74 73, vu (.st 1 (.t 75) (.t 72)), vf 76 4 3, vu (.st 1 (.t 76) (.t 74))], [vf 71 3 1, vs 72 71, vf 73 4 1, vf 75 3 3, vu (.st 1 (.t 75) (.t 72)), vs 74 73, vf 76 4 3, vu (.st 1 (.t 76) (.t 74))], [vf 71 3 1, vs 72 71, vf 75 3 3, vf 73 4 1, vs 74 73, vu (.st 1 (.t 75) (.t 72)), vf 76 4 3, vu (.st 1 (.t 76) (.t 74))], [vf 71 3 1, vs 72 71, vf 75 3 3, vf 73 4 1, vu (.st 1 (.t 75) (.t 72)), vs 74 73, vf 76 4 3, vu (.st 1 (.t 76) (.t 74))], [vf 71 3 1, vs 72 71, vf 75 3 3, vu (.st 1 (.t 75) (.t 72)), vf 73 4 1, vs 74 73, vf 76 4 3, vu (.st 1 (.t 76) (.t 74))], [vf 71 3 1, vf 73 4 1, vs 72 71, vs 74 73, vf 75 3 3, vu (.st 1 (.t 75) (.t 72)), vf 76 4 3, vu (.st 1 (.t 76) (.t 74))], [vf 71 3 1, vf 73 4 1, vs 72 71, vf 75 3 3, vs 74 73, vu (.st 1 (.t 75) (.t 72)), vf 76 4 3, vu (.st 1 (.t 76) (.t 74))], [vf 71 3 1, vf 73 4 1, vs 72 71, vf 75 3 3, vu (.st 1 (.t 75) (.t 72)), vs 74 73, vf 76 4 3, vu (.st 1 (.t 76) (.t 74))], [vf 71 3 1, vf 73 4 1, vs 74 73, vs 72 71, vf 75 3 3, vu (.st 1 (.t 75) (.t 72)), vf 76 4 3, vu (.st 1 (.t 76) (.t 74))], [vf 73 4 1, vf 71 3 1, vs 72 71, vs 74 73, vf 75 3 3, vu (.st 1 (.t 75) (.t 72)), vf 76 4 3, vu (.st 1 (.t 76) (.t 74))], [vf 73 4 1, vf 71 3 1, vs 72 71, vf 75 3 3, vs 74 73, vu (.st 1 (.t 75) (.t 72)), vf 76 4 3, vu (.st 1 (.t 76) (.t 74))], [vf 73 4 1, vf 71 3 1, vs 72 71, vf 75 3 3, vu (.st 1 (.t 75) (.t 72)), vs 74 73, vf 76 4 3, vu (.st 1 (.t 76) (.t 74))], [vf 73 4 1, vf 71 3 1, vs 74 73, vs 72 71, vf 75 3 3, vu (.st 1 (.t 75) (.t 72)), vf 76 4 3, vu (.st 1 (.t 76) (.t 74))], [vf 73 4 1, vs 74 73, vf 71 3 1, vs 72 71, vf 75 3 3, vu (.st 1 (.t 75) (.t 72)), vf 76 4 3, vu (.st 1 (.t 76) (.t 74))]])) .skip)))))))) (.seq (.seq (.reg [vl 77 5 1, vl 78 5 3, vo 79 (.eqs true [.i, .i, .i, .i, .i] (.t 77) (.t 78))]) (.cond (.t 79) (.seq (.reg [mi 2 4]) .ret) .skip)) (.seq (.reg [mi 2 0]) .ret)))))))), [.t 2]⟩
theorem low76 : lowF Tryd.prog 76 = some F76.strip := by kernel_rfl
theorem fok76 : fOk Tryd.prog 76 = true := by kernel_rfl
theorem lines_call_ok (p0 : Call) (r : Int) (h : lines_call p0 = some r) : FnRO Tryd.prog G 76 [.agg p0.bx] (fun rs => rs = [.one (.i .i64 r)]) := by
 refine FnRO.of' low76 fok76 (by simp [F76]) ?_
 rw [lines_call] at h
 replace h := Hd.mk h
 simp only [F76, go_sem]
 refine oi h (fun hb1 h => ?_) (fun hb1 h => ?_)
 have := of_decide_eq_true hb1
 cases h.e
 simp only [*, go_sem, mA, mS]
 refine oi h (fun hb2 h => ?_) (fun hb2 h => ?_)
 cases h.e
 simp only [*, go_sem, mA, mS]
 refine oi h (fun hb3 h => ?_) (fun hb3 h => ?_)
 have := of_decide_eq_true hb3
 cases h.e
 simp only [*, go_sem, mA, mS]
 refine oi h (fun hb4 h => ?_) (fun hb4 h => ?_)
 cases h.e
 simp only [*, go_sem, mA, mS]
 refine oi h (fun hb5 h => ?_) (fun hb5 h => ?_)
 have := of_decide_eq_true hb5
 cases h.e
 simp only [*, go_sem, mA, mS]
 refine oi h (fun hb6 h => ?_) (fun hb6 h => ?_)
 cases h.e
 simp only [*, go_sem, mA, mS]
 refine oi h (fun hb7 h => ?_) (fun hb7 h => ?_)
 have := of_decide_eq_true hb7
 cases h.e
 simp only [*, go_sem, mA, mS]
 refine oi h (fun hb8 h => ?_) (fun hb8 h => ?_)
 cases h.e
 simp only [*, go_sem, mA, mS]
 refine oi h (fun hb9 h => ?_) (fun hb9 h => ?_)
 have := of_decide_eq_true hb9
 cases h.e
 simp only [*, go_sem, mA, mS]
 refine oi h (fun hb10 h => ?_) (fun hb10 h => ?_)
 cases h.e
 simp only [*, go_sem, mA, mS]
 try simp only [*, go_sem]
 refine jn1 h (fun b11_1 => [zK 1 (Call.enc p0), zP 3 0]) (fun b11_1 => [ox [zi p0.Kind, zi b11_1, zi 0, zi 0, zi 0]]) (fun k12 h => ?_) (fun b11_1 h => ?_)
 refine oi h (fun hb13 h => ?_) (fun hb13 h => ?_)
 try simp only [*, go_sem]
 exact jc (p0.N) h.e [some 0]
 try simp only [*, go_sem]
 exact jc (0) h.e [some 0]
 try simp only [*, go_sem]
 refine jn3 h (fun b14_1 b14_2 b14_3 => [zK 1 (Call.enc p0), zP 3 0]) (fun b14_1 b14_2 b14_3 => [ox [zi p0.Kind, zi b11_1, zi b14_1, zi b14_2, zi b14_3]]) (fun k15 h => ?_) (fun b14_1 b14_2 b14_3 h => ?_)
 refine oi h (fun hb16 h => ?_) (fun hb16 h => ?_)
 try simp only [*, go_sem]
 refine jn0 h ([zK 1 (Call.enc p0), zP 3 0]) ([ox [zi p0.Kind, zi b11_1, zi p0.Label, zi p0.Key, zi 0]]) (fun k18 h => ?_) (fun h => ?_)
 try simp only [*, go_sem]
 refine ⟨?_, ?_, ?_, ?_, ?_, ?_, ?_, ?_, ?_, ?_, ?_, ?_, ?_, ?_, ?_⟩
 try simp only [*, go_sem]
 exact jc () h.e [some 0]
 try simp only [*, go_sem]
 exact jc () h.e [some 0]
 try simp only [*, go_sem]
 exact jc () h.e [some 0]
 try simp only [*, go_sem]
 exact jc () h.e [some 0]
 try simp only [*, go_sem]
 exact jc () h.e [some 0]
 try simp only [*, go_sem]
 exact jc () h.e [some 0]
 try simp only [*, go_sem]
 exact jc () h.e [some 0]
 try simp only [*, go_sem]
 exact jc () h.e [some 0]
 try simp only [*, go_sem]
 exact jc () h.e [some 0]
 try simp only [*, go_sem]
 exact jc () h.e [some 0]
 try simp only [*, go_sem]
 exact jc () h.e [some 0]
 try simp only [*, go_sem]
 exact jc () h.e [some 0]
 try simp only [*, go_sem]
 exact jc () h.e [some 0]
 try simp only [*, go_sem]
 exact jc () h.e [some 0]
 try simp only [*, go_sem]
 exact jc () h.e [some 0]
 try simp only [*, go_sem]
 exact jc (p0.Label, p0.Key, 0) h.e [some 0]
 try simp only [*, go_sem]
 refine jn2 h (fun b19_1 b19_2 => [zK 1 (Call.enc p0), zP 3 0]) (fun b19_1 b19_2 => [ox [zi p0.Kind, zi b11_1, zi 0, zi b19_1, zi b19_2]]) (fun k20 h => ?_) (fun b19_1 b19_2 h => ?_)
 refine oi h (fun hb21 h => ?_) (fun hb21 h => ?_)
 try simp only [*, go_sem]
 refine jn0 h ([zK 1 (Call.enc p0), zP 3 0]) ([ox [zi p0.Kind, zi b11_1, zi 0, zi p0.Key, zi p0.Value]]) (fun k23 h => ?_) (fun h => ?_)
 try simp only [*, go_sem]
 refine ⟨?_, ?_, ?_, ?_, ?_, ?_, ?_, ?_, ?_, ?_, ?_, ?_, ?_, ?_, ?_⟩
 try simp only [*, go_sem]
 exact jc () h.e [some 0]
 try simp only [*, go_sem]
 exact jc () h.e [some 0]
 try simp only [*, go_sem]
 exact jc () h.e [some 0]
 try simp only [*, go_sem]
 exact jc () h.e [some 0]
 try simp only [*, go_sem]
 exact jc () h.e [some 0]
 try simp only [*, go_sem]
 exact jc () h.e [some 0]
 try simp only [*, go_sem]
 exact jc () h.e [some 0]
 try simp only [*, go_sem]
 exact jc () h.e [some 0]
 try simp only [*, go_sem]
 exact jc () h.e [some 0]
 try simp only [*, go_sem]
 exact jc () h.e [some 0]
 try simp only [*, go_sem]
 exact jc () h.e [some 0]
 try simp only [*, go_sem]
 exact jc () h.e [some 0]
 try simp only [*, go_sem]
 exact jc () h.e [some 0]
 try simp only [*, go_sem]
 exact jc () h.e [some 0]
 try simp only [*, go_sem]
 exact jc () h.e [some 0]
 try simp only [*, go_sem]
 exact jc (p0.Key, p0.Value) h.e [some 0]
 try simp only [*, go_sem]
 exact jc (0, 0) h.e [some 0]
 try simp only [*, go_sem]
 exact jc (0, b19_1, b19_2) h.e [some 0]
 refine oin h (fun hb24 hkhb24 h => ?_) (fun hb24 hkhb24 h => ?_)
 try simp only [*, go_sem]
 cases h.e
 simp only [*, go_sem, mA, mS]
 try simp only [*, go_sem]
 cases h.e
 simp only [*, go_sem, mA, mS]
def lines_Check (p0 : Config) (p1 : Act) : Option (Int) := (Option.bind (label_Check p0) fun v1 => (if (v1 != 0) = true then (some v1) else (if (decide (p1.Kind < 1)) = true then (some 3) else (if (decide (p1.Kind > 8)) = true then (some 3) else (Option.bind (lines_numbers p0 p1) fun v5 => (if (!v5) = true then (some 2) else (Option.bind (lines_bare p1) fun v7 => (if (!v7) = true then (some 4) else (if (p1.Kind == 1) = true then (Option.bind (lines_call p1.Call) fun v10 => (some v10)) else (some 0))))))))))
def F30 : VFn := ⟨36, (.seq (.reg [vo 2 (.box 3 (.t 0)), vo 3 (.box 12 (.t 1)), mi 4 0]) (.seq (.seq (.reg [vl 6 3 2, vo 7 (.call 29 [(.t 6)]), vm 5 7]) (.seq (.reg [vm 8 5, bk 9 .neq 8 0]) (.cond (.t 9) (.seq (.reg [vm 10 5, vm 4 10]) .ret) .skip))) (.seq (.block 0 (.seq (.reg [vf 12 0 3, vs 13 12, bk 14 .lss 13 1, vm 15 14, gf 16 15 (.fa 0 (.t 3)), gf 17 15 (.ld false 1 (.t 16)), gf 18 15 (.bin .i .gtr (.t 17) (ci 8)), vo 19 (.pick (.t 15) (cb true) (.t 18)), vm 11 19]) (.cond (.t 11) (.seq (.reg [mi 4 3]) .ret) (.seq (.reg [vl 21 3 2, vl 22 12 3, vo 23 (.call 74 [(.t 21), (.t 22)]), nt 24 23, vm 20 24]) (.cond (.t 20) (.seq (.reg [mi 4 2]) .ret) (.seq (.reg [vl 26 12 3, vo 27 (.call 75 [(.t 26)]), nt 28 27, vm 25 28]) (.cond (.t 25) (.seq (.reg [mi 4 4]) .ret) (.seq (.reg [vf 30 0 3, vs 31 30, bk 32 .eql 31 1, vm 29 32]) (.cond (.t 29) (.seq (.reg [vf 33 6 3, vl 34 5 33, vo 35 (.call 76 [(.t 34)]), vm 4 35]) .ret) .skip))))))))) (.seq (.reg [mi 4 0]) .ret)))), [.t 4]⟩
theorem low30 : lowF Tryd.prog 30 = some F30.strip := by kernel_rfl
theorem fok30 : fOk Tryd.prog 30 = true := by kernel_rfl
theorem lines_Check_ok (p0 : Config) (p1 : Act) (r : Int) (h : lines_Check p0 p1 = some r) : FnRO Tryd.prog G 30 [.agg p0.bx, .agg p1.bx] (fun rs => rs = [.one (.i .i64 r)]) := by
 refine FnRO.of' low30 fok30 (by simp [F30]) ?_
 rw [lines_Check] at h
 replace h := Hd.mk h
 simp only [F30, go_sem]
 try simp only [*, go_sem]
 refine cr h (label_Check_ok G p0) (fun v1 h => ?_)
 refine oi h (fun hb2 h => ?_) (fun hb2 h => ?_)
 cases h.e
 simp only [*, go_sem, mA, mS]
 refine oi h (fun hb3 h => ?_) (fun hb3 h => ?_)
 have := of_decide_eq_true hb3
 cases h.e
 simp only [*, go_sem, mA, mS]
 refine oi h (fun hb4 h => ?_) (fun hb4 h => ?_)
 cases h.e
 simp only [*, go_sem, mA, mS]
 try simp only [*, go_sem]
 refine cr h (lines_numbers_ok G p0 p1) (fun v5 h => ?_)
 refine oin h (fun hb6 hkhb6 h => ?_) (fun hb6 hkhb6 h => ?_)
 cases h.e
 simp only [*, go_sem, mA, mS]
 try simp only [*, go_sem]
 refine cr h (lines_bare_ok G p1) (fun v7 h => ?_)
 refine oin h (fun hb8 hkhb8 h => ?_) (fun hb8 hkhb8 h => ?_)
 cases h.e
 simp only [*, go_sem, mA, mS]
 refine oi h (fun hb9 h => ?_) (fun hb9 h => ?_)
 try simp only [*, go_sem]
 refine cr h (lines_call_ok G p1.Call) (fun v10 h => ?_)
 cases h.e
 simp only [*, go_sem, mA, mS]
 cases h.e
 simp only [*, go_sem, mA, mS]
def lines_values (p0 : Act) : Option ((List Int)) := (withK (fun (b1_1 : Bool) => (if b1_1 = true then (some [p0.Site, p0.To, p0.Label, p0.Pick]) else (if (p0.Kind == 5) = true then (some []) else (if (p0.Kind == 6) = true then (if fits 8 (1 + p0.Keep.length) then (some ([p0.Site] ++ p0.Keep)) else none) else (if (p0.Kind == 7) = true then (some [p0.Site]) else (some [p0.Site, p0.Label])))))) fun k2 => (if (p0.Kind == 2) = true then (k2 true) else (withK (fun (b4_1 : Bool) => (k2 b4_1)) fun k5 => (if (p0.Kind == 3) = true then (k5 true) else (k5 (p0.Kind == 4))))))
def F32 : VFn := ⟨38, (.seq (.reg [vo 1 (.box 12 (.t 0)), vo 2 (.mv (.c (.one (.nl 1))))]) (.seq (.seq (.reg [vf 3 0 1, vs 4 3]) (.block 0 (.seq (.seq (.reg [bk 6 .eql 4 2, vm 5 6]) (.wk (.cond (.t 5) .skip (.seq (.reg [bk 7 .eql 4 3, vm 5 7]) (.wk (.cond (.t 5) .skip (.reg [bk 8 .eql 4 4, vm 5 8]))))))) (.cond (.t 5) (.seq (.reg [vf 9 1 1, vs 10 9, vf 11 2 1, vs 12 11, vf 13 3 1, vs 14 13, vf 15 4 1, vs 16 15, vo 17 (.bsl 1 4 [(zi 0)] [(0, (.t 10)), (1, (.t 12)), (2, (.t 14)), (3, (.t 16))]), vm 2 17]) .ret) (.seq (.reg [bk 19 .eql 4 5, vm 18 19]) (.cond (.t 18) (.seq (.reg [vo 2 (.mv (.c (.one (.nl 1))))]) .ret) (.seq (.reg [bk 21 .eql 4 6, vm 20 21]) (.cond (.t 20) (.seq (.reg [vf 22 1 1, vs 23 22, vo 24 (.bsl 1 1 [(zi 0)] [(0, (.t 23))]), vf 25 5 1, vs 26 25, vo 27 (.app 1 8 (.t 24) (.t 26)), vm 2 27]) .ret) (.seq (.reg [bk 29 .eql 4 7, vm 28 29]) (.cond (.t 28) (.seq (.reg [vf 30 1 1, vs 31 30, vo 32 (.bsl 1 1 [(zi 0)] [(0, (.t 31))]), vm 2 32]) .ret) .skip)))))))))) (.seq (.reg [vf 33 1 1, vs 34 33, vf 35 3 1, vs 36 35, vo 37 (.bsl 1 2 [(zi 0)] [(0, (.t 34)), (1, (.t 36))]), vm 2 37]) .ret))), [.t 2]⟩
theorem low32 : lowF Tryd.prog 32 = some F32.strip := by kernel_rfl
theorem fok32 : fOk Tryd.prog 32 = true := by kernel_rfl
theorem lines_values_ok (p0 : Act) (r : (List Int)) (h : lines_values p0 = some r) : FnRO Tryd.prog G 32 [.agg p0.bx] (fun rs => rs = [.one (.o 1 (r.map encI))]) := by
 refine FnRO.of' low32 fok32 (by simp [F32]) ?_
 rw [lines_values] at h
 replace h := Hd.mk h
 simp only [F32, go_sem]
 try simp only [*, go_sem]
 refine jn1 h (fun b1_1 => [zP 1 0, zI 4 p0.Kind, zB 5 b1_1]) (fun b1_1 => [ox p0.bx]) (fun k2 h => ?_) (fun b1_1 h => ?_)
 refine oi h (fun hb3 h => ?_) (fun hb3 h => ?_)
 try simp only [*, go_sem]
 exact jc (true) h.e [some 0]
 try simp only [*, go_sem]
 refine jn1 h (fun b4_1 => [zP 1 0, zI 4 p0.Kind, zB 5 b4_1]) (fun b4_1 => [ox p0.bx]) (fun k5 h => ?_) (fun b4_1 h => ?_)
 refine oi h (fun hb6 h => ?_) (fun hb6 h => ?_)
 try simp only [*, go_sem]
 exact jc (true) h.e [some 0]
 try simp only [*, go_sem]
 exact jc (p0.Kind == 4) h.e [some 0]
 try simp only [*, go_sem]
 exact jc (b4_1) h.e [some 0]
 refine oi h (fun hb7 h => ?_) (fun hb7 h => ?_)
 cases h.e
 simp only [*, go_sem, mA, mS]
 refine oi h (fun hb8 h => ?_) (fun hb8 h => ?_)
 cases h.e
 simp only [*, go_sem, mA, mS]
 refine oi h (fun hb9 h => ?_) (fun hb9 h => ?_)
 refine ck h (fun _ h => ?_)
 cases h.e
 simp only [*, go_sem, mA, mS]
 simp only [*, go_sem, mA, mS, Nat.add_comm 1]
 refine oi h (fun hb11 h => ?_) (fun hb11 h => ?_)
 cases h.e
 simp only [*, go_sem, mA, mS]
 cases h.e
 simp only [*, go_sem, mA, mS]
theorem itoa33_ok (htab_strconv_uint64pow10 : constG G 3 = .one (.d (.k tab_strconv_uint64pow10D))) (p0 : Int) (r : ByteArray) (h : itoaF p0 = some r) : FnRO Tryd.prog G 33 [.one (.d (.i .i64 p0))] (fun rs => rs = [.one (.s r)]) := itoa_okF itoaLays rfl (by kernel_rfl) (by kernel_rfl) (by rfl) htab_strconv_uint64pow10 p0 r h
def lines_asked_L1 (b4_1 : List Int) (k18 : ByteArray → Option (ByteArray)) : Nat → ByteArray → Nat → Option (ByteArray)
 | 0, _, _ => none
 | n20 + 1, a19_1, a19_2 => (if (decide (a19_2 < b4_1.length)) = true then (Option.bind (b4_1[a19_2]?) fun x22 => (Option.bind (itoaF x22) fun v23 => (if bs_7215ee9c.size + v23.size ≤ maxLen then (if a19_1.size + (bs_7215ee9c.size + v23.size) ≤ maxLen then (lines_asked_L1 b4_1 k18 n20 (a19_1 ++ (bs_7215ee9c ++ v23)) (a19_2 + 1)) else none) else none))) else (k18 a19_1))
def lines_asked (p0 : Call) : Option (ByteArray) := (if 0 ≤ p0.Kind then (Option.bind (tab_lines_calls[p0.Kind.toNat]?) fun x1 => (if bs_7215ee9c.size + x1.size ≤ maxLen then (withK (fun (b4_1 : List Int) => (withK (fun (b17_1 : ByteArray) => (some b17_1)) fun k18 => (lines_asked_L1 b4_1 k18 (b4_1.length + 1) (bs_7215ee9c ++ x1) 0))) fun k5 => (if (p0.Kind == 2) = true then (k5 [p0.N, p0.Label, p0.Key]) else (withK (fun (b7_1 : List Int) => (k5 b7_1)) fun k8 => (if (p0.Kind == 3) = true then (k8 [p0.N, p0.Key, p0.Value]) else (withK (fun (b10_1 : Bool) => (withK (fun (b13_1 : List Int) => (k8 b13_1)) fun k14 => (if b10_1 = true then (k14 [p0.N]) else (k14 [])))) fun k11 => (if (p0.Kind == 4) = true then (k11 true) else (k11 (p0.Kind == 5)))))))) else none)) else none)
def F34 : VFn := ⟨51, (.seq (.reg [vo 1 (.boxk 5 (.t 0)), vo 2 (.mv (.c (.one (.d (.s ⟨#[]⟩)))))]) (.seq (.reg [vf 7 0 1, vs 8 7, vo 9 (.iaa 6 1 (.g 2) (.t 8)), vs 10 9, vo 11 (.bin .s .add (.c (.one (.d (.s bs_7215ee9c)))) (.t 10)), vm 3 11]) (.seq (.reg [vo 4 (.mv (.c (.one (.nl 1))))]) (.seq (.seq (.reg [vf 12 0 1, vs 13 12]) (.block 0 (.seq (.reg [bk 15 .eql 13 2, vm 14 15]) (.wk (.cond (.t 14) (.reg [vf 16 1 1, vs 17 16, vf 18 2 1, vs 19 18, vf 20 3 1, vs 21 20, vo 22 (.bsl 1 3 [(zi 0)] [(0, (.t 17)), (1, (.t 19)), (2, (.t 21))]), vm 4 22]) (.seq (.reg [bk 24 .eql 13 3, vm 23 24]) (.wk (.cond (.t 23) (.reg [vf 25 1 1, vs 26 25, vf 27 3 1, vs 28 27, vf 29 4 1, vs 30 29, vo 31 (.bsl 1 3 [(zi 0)] [(0, (.t 26)), (1, (.t 28)), (2, (.t 30))]), vm 4 31]) (.seq (.seq (.reg [bk 33 .eql 13 4, vm 32 33]) (.wk (.cond (.t 32) .skip (.reg [bk 34 .eql 13 5, vm 32 34])))) (.wk (.cond (.t 32) (.reg [vf 35 1 1, vs 36 35, vo 37 (.bsl 1 1 [(zi 0)] [(0, (.t 36))]), vm 4 37]) .skip))))))))))) (.seq (.seq (.reg [vm 38 4, ln 39 38, mi 40 0]) (.wk (.block 1 (.loop (.seq (.reg [bt 41 .lss 40 39]) (.seq (.cond (.t 41) .skip (.exit 1)) (.seq (.block 2 (.seq (.reg [xa 42 1 38 40, vs 43 42, vm 6 43]) (.reg [vm 44 3, vm 45 6, vo 46 (.call 33 [(.t 45)]), vo 47 (.bin .s .add (.c (.one (.d (.s bs_7215ee9c)))) (.t 46)), vo 48 (.bin .s .add (.t 44) (.t 47)), vm 3 48]))) (.reg [bk 49 .add 40 1, vm 40 49])))))))) (.seq (.reg [vm 50 3, vm 2 50]) .ret)))))), [.t 2]⟩
theorem low34 : lowF Tryd.prog 34 = some F34.strip := by kernel_rfl
theorem fok34 : fOk Tryd.prog 34 = true := by kernel_rfl
theorem lines_asked_ok (htab_lines_calls : constG G 2 = .one (.d (.k tab_lines_callsD))) (htab_strconv_uint64pow10 : constG G 3 = .one (.d (.k tab_strconv_uint64pow10D))) (p0 : Call) (r : ByteArray) (h : lines_asked p0 = some r) : FnRO Tryd.prog G 34 [.agg p0.bx] (fun rs => rs = [.one (.s r)]) := by
 refine FnRO.of' low34 fok34 (by simp [F34]) ?_
 rw [lines_asked] at h
 replace h := Hd.mk h
 simp only [F34, go_sem]
 refine ck h (fun _ h => ?_)
 refine obg h (fun x1 _ hkx1 h => ?_)
 rw [tab_lines_calls_len] at hkx1
 have : p0.Kind < 6 := by omega
 refine ck h (fun _ h => ?_)
 try simp only [*, go_sem]
 refine jn1 h (fun b4_1 => [(3, .one (.d (.s (bs_7215ee9c ++ x1)))), zR 4 0 0 b4_1.length]) (fun b4_1 => [oa 1 (b4_1.map encI)]) (fun k5 h => ?_) (fun b4_1 h => ?_)
 refine oi h (fun hb6 h => ?_) (fun hb6 h => ?_)
 try simp only [*, go_sem]
 exact jc ([p0.N, p0.Label, p0.Key]) h.e [some 0]
 try simp only [*, go_sem]
 refine jn1 h (fun b7_1 => [(3, .one (.d (.s (bs_7215ee9c ++ x1)))), zR 4 0 0 b7_1.length]) (fun b7_1 => [oa 1 (b7_1.map encI)]) (fun k8 h => ?_) (fun b7_1 h => ?_)
 refine oi h (fun hb9 h => ?_) (fun hb9 h => ?_)
 try simp only [*, go_sem]
 exact jc ([p0.N, p0.Key, p0.Value]) h.e [some 0]
 try simp only [*, go_sem]
 refine jn1 h (fun b10_1 => [zK 1 (Call.enc p0), (3, .one (.d (.s (bs_7215ee9c ++ x1)))), (4, .one (.nl 1)), zB 32 b10_1]) (fun b10_1 => []) (fun k11 h => ?_) (fun b10_1 h => ?_)
 refine oi h (fun hb12 h => ?_) (fun hb12 h => ?_)
 try simp only [*, go_sem]
 exact jc (true) h.e []
 try simp only [*, go_sem]
 exact jc (p0.Kind == 5) h.e []
 try simp only [*, go_sem]
 refine jn1 h (fun b13_1 => [(3, .one (.d (.s (bs_7215ee9c ++ x1)))), zR 4 0 0 b13_1.length]) (fun b13_1 => [oa 1 (b13_1.map encI)]) (fun k14 h => ?_) (fun b13_1 h => ?_)
 refine oi h (fun hb15 h => ?_) (fun hb15 h => ?_)
 try simp only [*, go_sem]
 exact jc ([p0.N]) h.e [some 0]
 try simp only [*, go_sem]
 exact jc ([]) h.e [none]
 try simp only [*, go_sem]
 exact jc (b13_1) h.e [some 0]
 try simp only [*, go_sem]
 exact jc (b7_1) h.e [some 0]
 try simp only [*, go_sem]
 intro hl16
 try simp only [*, go_sem]
 refine jn1 h (fun b17_1 => [(3, .one (.d (.s b17_1)))]) (fun b17_1 => []) (fun k18 h => ?_) (fun b17_1 h => ?_)
 try simp only [*, go_sem]
 refine lp2 (lines_asked_L1 b4_1 k18) (fun a19_1 a19_2 => [(3, .one (.d (.s a19_1))), zR 38 0 0 b4_1.length, zI 39 ((b4_1.length : Nat) : Int), zI 40 ((a19_2 : Nat) : Int)]) (fun a19_1 a19_2 => [oa 1 (b4_1.map encI)]) h [] [some 0] (fun n20 a19_1 a19_2 h => ?_) (by intros; rw [lines_asked_L1])
 rw [lines_asked_L1] at h
 refine oi h (fun hb21 h => ?_) (fun hb21 h => ?_)
 have := of_decide_eq_true hb21
 refine obg h (fun x22 _ hkx22 h => ?_)
 try simp only [*, go_sem]
 refine cr h (itoa33_ok G htab_strconv_uint64pow10 x22) (fun v23 h => ?_)
 refine ck h (fun _ h => ?_)
 refine ck h (fun _ h => ?_)
 have := wrap_succ_max hkx22 hl16
 try simp only [*, go_sem]
 exact lc ((a19_1 ++ (bs_7215ee9c ++ v23)), a19_2 + 1) h.e [some 0]
 try simp only [*, go_sem]
 exact jc (a19_1) h.e []
 cases h.e
 simp only [*, go_sem, mA, mS]
def lines_hex_L1 (p0 : ByteArray) (k2 : (List Int) → Option (ByteArray)) : Nat → Int → (List Int) → Option (ByteArray)
 | 0, _, _ => none
 | n4 + 1, a3_1, a3_2 => (if (decide (a3_1 < ((p0.size : Nat) : Int))) = true then (if 0 ≤ a3_1 ∧ a3_1 < ((p0.size : Nat) : Int) then (if 0 ≤ (((p0.data.toList.getD a3_1.toNat 0).toNat : Nat) : Int).fdiv (2 ^ 4) ∧ (((p0.data.toList.getD a3_1.toNat 0).toNat : Nat) : Int).fdiv (2 ^ 4) < ((bs_4032af8d.size : Nat) : Int) then (if 0 ≤ a3_1 ∧ a3_1 < ((p0.size : Nat) : Int) then (if 0 ≤ andU8 (((p0.data.toList.getD a3_1.toNat 0).toNat : Nat) : Int) 15 ∧ andU8 (((p0.data.toList.getD a3_1.toNat 0).toNat : Nat) : Int) 15 < ((bs_4032af8d.size : Nat) : Int) then (if fits 1 (a3_2.length + 2) then (lines_hex_L1 p0 k2 n4 (IntKind.i64.wrap (a3_1 + 1)) (a3_2 ++ [(((bs_4032af8d.data.toList.getD (((((p0.data.toList.getD a3_1.toNat 0).toNat : Nat) : Int).fdiv (2 ^ 4)).toNat) 0).toNat : Nat) : Int), (((bs_4032af8d.data.toList.getD ((andU8 (((p0.data.toList.getD a3_1.toNat 0).toNat : Nat) : Int) 15).toNat) 0).toNat : Nat) : Int)])) else none) else none) else none) else none) else none) else (k2 a3_2))
def lines_hex (p0 : ByteArray) : Option (ByteArray) := (withK (fun (b1_1 : List Int) => (some (strOfNums b1_1))) fun k2 => (lines_hex_L1 p0 k2 (p0.size + 1) 0 [46]))
def F35 : VFn := ⟨27, (.seq (.reg [vo 2 (.mv (.c (.one (.d (.s ⟨#[]⟩)))))]) (.seq (.reg [vo 5 (.bsl 1 1 [(.d (.i .u8 0))] [(0, (.c (.one (.d (.i .u8 46)))))]), vm 3 5]) (.seq (.seq (.reg [vm 6 0, vo 7 (.lens (.t 6)), mi 8 0]) (.wk (.block 0 (.loop (.seq (.reg [bt 9 .lss 8 7]) (.seq (.cond (.t 9) .skip (.exit 0)) (.seq (.block 1 (.seq (.reg [vm 10 8, vm 4 10]) (.draw [vd (vm 11 3) 0, vd (vm 12 0) 0, vd (vm 13 4) 0, vd (vo 14 (.ix (.t 12) (.t 13))) 6, vd (vo 15 (.bin .i .shr (.t 14) (.c (.one (.d (.i .u64 4)))))) 14, vd (vo 16 (.ix (.c (.one (.d (.s bs_4032af8d)))) (.t 15))) 30, vd (vm 17 0) 0, vd (vm 18 4) 0, vd (vo 19 (.ix (.t 17) (.t 18))) 192, vd (vo 20 (.bin .i .and (.t 19) (.c (.one (.d (.i .u8 15)))))) 448, vd (vo 21 (.ix (.c (.one (.d (.s bs_4032af8d)))) (.t 20))) 960, vd (vo 22 (.bsl 1 2 [(.d (.i .u8 0))] [(0, (.t 16)), (1, (.t 21))])) 2046, vd (vo 23 (.app 1 1 (.t 11) (.t 22))) 4095, vd (vm 3 23) 8191]))) (.reg [bk 24 .add 8 1, vm 8 24])))))))) (.seq (.reg [vm 25 3, vo 26 (.b2s (.t 25)), vm 2 26]) .ret)))), [.t 2]⟩
theorem low35 : lowF Tryd.prog 35 = some F35.strip := by kernel_rfl
theorem fok35 : fOk Tryd.prog 35 = true := by kernel_rfl
theorem lines_hex_ok (p0 : ByteArray) (r : ByteArray) (h : lines_hex p0 = some r) : FnRO Tryd.prog G 35 [.one (.d (.s p0))] (fun rs => rs = [.one (.s r)]) := by
 refine FnRO.of' low35 fok35 (by simp [F35]) ?_
 rw [lines_hex] at h
 replace h := Hd.mk h
 simp only [F35, go_sem]
 try simp only [*, go_sem]
 refine jn1 h (fun b1_1 => [zR 3 0 0 b1_1.length]) (fun b1_1 => [oa 1 (b1_1.map encU8)]) (fun k2 h => ?_) (fun b1_1 h => ?_)
 try simp only [*, go_sem]
 refine lp2 (lines_hex_L1 p0 k2) (fun a3_1 a3_2 => [(0, .one (.d (.s p0))), zR 3 0 0 a3_2.length, zI 7 ((p0.size : Nat) : Int), zI 8 a3_1]) (fun a3_1 a3_2 => [oa 1 (a3_2.map encU8)]) h [] [some 0] (fun n4 a3_1 a3_2 h => ?_) (by intros; rw [lines_hex_L1])
 rw [lines_hex_L1] at h
 refine oi h (fun hb5 h => ?_) (fun hb5 h => ?_)
 refine ck h (fun _ h => ?_)
 have : shI .shr .u8 (((p0.data.toList.getD a3_1.toNat 0).toNat : Nat) : Int) 4 = some (.i .u8 ((((p0.data.toList.getD a3_1.toNat 0).toNat : Nat) : Int).fdiv (2 ^ 4))) := rfl
 refine ck h (fun _ h => ?_)
 refine ck h (fun _ h => ?_)
 refine ck h (fun _ h => ?_)
 refine ck h (fun _ h => ?_)
 try simp only [*, go_sem]
 exact lc (IntKind.i64.wrap (a3_1 + 1), (a3_2 ++ [(((bs_4032af8d.data.toList.getD (((((p0.data.toList.getD a3_1.toNat 0).toNat : Nat) : Int).fdiv (2 ^ 4)).toNat) 0).toNat : Nat) : Int), (((bs_4032af8d.data.toList.getD ((andU8 (((p0.data.toList.getD a3_1.toNat 0).toNat : Nat) : Int) 15).toNat) 0).toNat : Nat) : Int)])) h.e [some 13]
 try simp only [*, go_sem]
 exact jc (a3_2) h.e [some 0]
 cases h.e
 simp only [*, go_sem, mA, mS]
def lines_Show_L2 (v16 : (List Int)) (k19 : (List UInt8) → Option (ByteArray × Int × Int)) : Nat → Nat → (List UInt8) → Option (ByteArray × Int × Int)
 | 0, _, _ => none
 | n21 + 1, a20_1, a20_2 => (if (decide (a20_1 < v16.length)) = true then (Option.bind (v16[a20_1]?) fun x23 => (Option.bind (itoaF x23) fun v24 => (if bs_7215ee9c.size + v24.size ≤ maxLen then (if a20_2.length + (bs_7215ee9c ++ v24).size ≤ 140737488355328 then (lines_Show_L2 v16 k19 n21 (a20_1 + 1) (a20_2 ++ (bs_7215ee9c ++ v24).data.toList)) else none) else none))) else (k19 a20_2))
def lines_Show_L1 (p0 : Config) (p1 : List Act) (k7 : (List UInt8) → Option (ByteArray × Int × Int)) : Nat → Nat → (List UInt8) → Option (ByteArray × Int × Int)
 | 0, _, _ => none
 | n9 + 1, a8_1, a8_2 => (if (decide (a8_1 < p1.length)) = true then (Option.bind (p1[a8_1]?) fun x11 => (Option.bind (lines_Check p0 x11) fun v12 => (if (v12 != 0) = true then (some ((⟨#[]⟩ : ByteArray), ((a8_1 : Nat) : Int), v12)) else (if 0 ≤ x11.Kind then (Option.bind (tab_lines_words[x11.Kind.toNat]?) fun x14 => (if a8_2.length + x14.size ≤ 140737488355328 then (Option.bind (lines_values x11) fun v16 => (withK (fun (b18_1 : List UInt8) => (withK (fun (b27_1 : List UInt8) => (if (0 ≤ (10 : Int) ∧ (10 : Int) < 256) ∧ b27_1.length + 1 ≤ 140737488355328 then (lines_Show_L1 p0 p1 k7 n9 (a8_1 + 1) (b27_1 ++ [UInt8.ofNat (Int.toNat (10 : Int))])) else none)) fun k28 => (if (x11.Kind == 1) = true then (Option.bind (lines_asked x11.Call) fun v30 => (if b18_1.length + v30.size ≤ 140737488355328 then (k28 (b18_1 ++ v30.data.toList)) else none)) else (withK (fun (b31_1 : List UInt8) => (k28 b31_1)) fun k32 => (if (x11.Kind == 8) = true then (Option.bind (lines_hex x11.Line) fun v34 => (if bs_7215ee9c.size + v34.size ≤ maxLen then (if b18_1.length + (bs_7215ee9c ++ v34).size ≤ 140737488355328 then (k32 (b18_1 ++ (bs_7215ee9c ++ v34).data.toList)) else none) else none)) else (k32 b18_1)))))) fun k19 => (lines_Show_L2 v16 k19 (v16.length + 1) 0 (a8_2 ++ x14.data.toList)))) else none)) else none)))) else (k7 a8_2))
def lines_Show (p0 : Config) (p1 : List Act) : Option (ByteArray × Int × Int) := (Option.bind (label_Check p0) fun v1 => (if (v1 != 0) = true then (some ((⟨#[]⟩ : ByteArray), 0, v1)) else (if (decide (((p1.length : Nat) : Int) > 3000)) = true then (some ((⟨#[]⟩ : ByteArray), 0, 1)) else (withK (fun (b6_1 : List UInt8) => (some ((⟨b6_1.toArray⟩ : ByteArray), 0, 0))) fun k7 => (lines_Show_L1 p0 p1 k7 (p1.length + 1) 0 [])))))
def F14 : VFn := ⟨71, (.seq (.reg [vo 2 (.box 3 (.t 0)), vo 4 (.mv (.c (.one (.d (.s ⟨#[]⟩))))), mi 5 0, mi 6 0]) (.seq (.seq (.reg [vl 14 3 2, vo 15 (.call 29 [(.t 14)]), vm 7 15]) (.seq (.reg [vm 16 7, bk 17 .neq 16 0]) (.cond (.t 17) (.seq (.reg [vm 18 7, vo 4 (.mv (.c (.one (.d (.s ⟨#[]⟩))))), mi 5 0, vm 6 18]) .ret) .skip))) (.seq (.seq (.reg [vm 19 1, ln 20 19, bk 21 .gtr 20 3000]) (.cond (.t 21) (.seq (.reg [vo 4 (.mv (.c (.one (.d (.s ⟨#[]⟩))))), mi 5 0, mi 6 1]) .ret) .skip)) (.seq (.reg [vo 8 (.allocb 68 5)]) (.seq (.seq (.reg [vm 22 1, ln 23 22, mi 24 0]) (.wk (.block 0 (.loop (.seq (.reg [bt 25 .lss 24 23]) (.seq (.cond (.t 25) .skip (.exit 0)) (.seq (.block 1 (.seq (.reg [vm 26 24, xa 27 12 22 24, vl 28 12 27, vo 10 (.alloc [(zi 0), (zi 0), (zi 0), (zi 0), (zi 0), (.nl 1), (zi 0), (zi 0), (zi 0), (zi 0), (zi 0), (.d (.s ⟨#[]⟩))]), vm 9 26, vu (.st 12 (.t 10) (.t 28))]) (.seq (.seq (.reg [vl 29 3 2, vl 30 12 10, vo 31 (.call 30 [(.t 29), (.t 30)]), vm 11 31]) (.seq (.reg [vm 32 11, bk 33 .neq 32 0]) (.cond (.t 33) (.seq (.reg [vm 34 9, vm 35 11, vo 4 (.mv (.c (.one (.d (.s ⟨#[]⟩))))), vm 5 34, vm 6 35]) .ret) .skip))) (.seq (.reg [vf 36 0 10, vs 37 36, vo 38 (.iaa 9 1 (.g 0) (.t 37)), vs 39 38, vo 40 (.call 31 [(.t 8), (.t 39)])]) (.seq (.seq (.reg [vl 41 12 10, vo 42 (.call 32 [(.t 41)]), ln 43 42, mi 44 0]) (.wk (.block 2 (.loop (.seq (.reg [bt 45 .lss 44 43]) (.seq (.cond (.t 45) .skip (.exit 2)) (.seq (.block 3 (.seq (.reg [xa 46 1 42 44, vs 47 46, vm 13 47]) (.reg [vm 48 13, vo 49 (.call 33 [(.t 48)]), vo 50 (.bin .s .add (.c (.one (.d (.s bs_7215ee9c)))) (.t 49)), vo 51 (.call 31 [(.t 8), (.t 50)])]))) (.reg [bk 52 .add 44 1, vm 44 52])))))))) (.seq (.seq (.reg [vf 53 0 10, vs 54 53]) (.block 4 (.seq (.reg [bk 56 .eql 54 1, vm 55 56]) (.wk (.cond (.t 55) (.reg [vf 57 6 10, vl 58 5 57, vo 59 (.call 34 [(.t 58)]), vo 60 (.call 31 [(.t 8), (.t 59)])]) (.seq (.reg [bk 62 .eql 54 8, vm 61 62]) (.wk (.cond (.t 61) (.reg [vf 63 11 10, vs 64 63, vo 65 (.call 35 [(.t 64)]), vo 66 (.bin .s .add (.c (.one (.d (.s bs_7215ee9c)))) (.t 65)), vo 67 (.call 31 [(.t 8), (.t 66)])]) .skip)))))))) (.reg [vo 68 (.call 36 [(.t 8), (.c (.one (.d (.i .u8 10))))])]))))))) (.reg [bk 69 .add 24 1, vm 24 69])))))))) (.seq (.reg [vo 70 (.call 37 [(.t 8)]), vm 4 70, mi 5 0, mi 6 0]) .ret)))))), [.t 4, .t 5, .t 6]⟩
theorem low14 : lowF Tryd.prog 14 = some F14.strip := by kernel_rfl
theorem fok14 : fOk Tryd.prog 14 = true := by kernel_rfl
theorem lines_Show_ok (htab_lines_words : constG G 0 = .one (.d (.k tab_lines_wordsD))) (htab_lines_calls : constG G 2 = .one (.d (.k tab_lines_callsD))) (htab_strconv_uint64pow10 : constG G 3 = .one (.d (.k tab_strconv_uint64pow10D))) (p0 : Config) (p1 : List Act) (r : ByteArray × Int × Int) (h : lines_Show p0 p1 = some r) : FnRO Tryd.prog G 14 [.agg p0.bx, .one (.d (.l 12 (p1.map Act.enc)))] (fun rs => rs = [.one (.s r.1), .one (.i .i64 r.2.1), .one (.i .i64 r.2.2)]) := by
 refine FnRO.of' low14 fok14 (by simp [F14]) ?_
 rw [lines_Show] at h
 replace h := Hd.mk h
 simp only [F14, go_sem]
 try simp only [*, go_sem]
 refine cr h (label_Check_ok G p0) (fun v1 h => ?_)
 refine oi h (fun hb2 h => ?_) (fun hb2 h => ?_)
 cases h.e
 simp only [*, go_sem, mA, mS]
 try simp only [*, go_sem]
 intro hl3
 refine oi h (fun hb4 h => ?_) (fun hb4 h => ?_)
 cases h.e
 simp only [*, go_sem, mA, mS]
 try simp only [*, go_sem]
 intro hl5
 try simp only [*, go_sem]
 refine jn1 h (fun b6_1 => [zP 8 0]) (fun b6_1 => [oB 68 5 b6_1]) (fun k7 h => ?_) (fun b6_1 h => ?_)
 try simp only [*, go_sem]
 refine lp2 (lines_Show_L1 p0 p1 k7) (fun a8_1 a8_2 => [zP 2 0, zP 8 1, zL 22 12 (p1.map Act.enc), zI 23 ((p1.length : Nat) : Int), zI 24 ((a8_1 : Nat) : Int)]) (fun a8_1 a8_2 => [ox p0.bx, oB 68 5 a8_2]) h [] [some 0, some 1] (fun n9 a8_1 a8_2 h => ?_) (by intros; rw [lines_Show_L1])
 rw [lines_Show_L1] at h
 refine oi h (fun hb10 h => ?_) (fun hb10 h => ?_)
 have := of_decide_eq_true hb10
 refine obg h (fun x11 _ hkx11 h => ?_)
 try simp only [*, go_sem]
 refine cr h (lines_Check_ok G p0 x11) (fun v12 h => ?_)
 refine oi h (fun hb13 h => ?_) (fun hb13 h => ?_)
 cases h.e
 simp only [*, go_sem, mA, mS]
 refine ck h (fun _ h => ?_)
 refine obg h (fun x14 _ hkx14 h => ?_)
 rw [tab_lines_words_len] at hkx14
 have : x11.Kind < 9 := by omega
 try simp only [*, go_sem]
 refine cbs h bldOk (by first | rfl | (simp only [*, go_sem]; done)) (fun h => ?_)
 try simp only [*, go_sem]
 refine cr h (lines_values_ok G x11) (fun v16 h => ?_)
 try simp only [*, go_sem]
 intro hl17
 try simp only [*, go_sem]
 refine jn1 h (fun b18_1 => [zP 2 0, zP 8 1, zP 10 2, zL 22 12 (p1.map Act.enc), zI 23 ((p1.length : Nat) : Int), zI 24 ((a8_1 : Nat) : Int)]) (fun b18_1 => [ox p0.bx, oB 68 5 b18_1, ox x11.bx]) (fun k19 h => ?_) (fun b18_1 h => ?_)
 try simp only [*, go_sem]
 refine lp2 (lines_Show_L2 v16 k19) (fun a20_1 a20_2 => [zP 2 0, zP 8 1, zP 10 2, zL 22 12 (p1.map Act.enc), zI 23 ((p1.length : Nat) : Int), zI 24 ((a8_1 : Nat) : Int), zR 42 3 0 v16.length, zI 43 ((v16.length : Nat) : Int), zI 44 ((a20_1 : Nat) : Int)]) (fun a20_1 a20_2 => [ox p0.bx, oB 68 5 a20_2, ox x11.bx, oa 1 (v16.map encI)]) h [] [some 0, some 1, some 2, some 3] (fun n21 a20_1 a20_2 h => ?_) (by intros; rw [lines_Show_L2])
 rw [lines_Show_L2] at h
 refine oi h (fun hb22 h => ?_) (fun hb22 h => ?_)
 have := of_decide_eq_true hb22
 refine obg h (fun x23 _ hkx23 h => ?_)
 try simp only [*, go_sem]
 refine cr h (itoa33_ok G htab_strconv_uint64pow10 x23) (fun v24 h => ?_)
 refine ck h (fun _ h => ?_)
 try simp only [*, go_sem]
 refine cbs h bldOk (by first | rfl | (simp only [*, go_sem]; done)) (fun h => ?_)
 have := wrap_succ_max hkx23 hl17
 try simp only [*, go_sem]
 exact lc (a20_1 + 1, (a20_2 ++ (bs_7215ee9c ++ v24).data.toList)) h.e [some 0, some 1, some 2, some 3]
 try simp only [*, go_sem]
 exact jc (a20_2) h.e [some 0, some 1, some 2]
 try simp only [*, go_sem]
 refine jn1 h (fun b27_1 => [zP 2 0, zP 8 1, zL 22 12 (p1.map Act.enc), zI 23 ((p1.length : Nat) : Int), zI 24 ((a8_1 : Nat) : Int)]) (fun b27_1 => [ox p0.bx, oB 68 5 b27_1]) (fun k28 h => ?_) (fun b27_1 h => ?_)
 refine oi h (fun hb29 h => ?_) (fun hb29 h => ?_)
 try simp only [*, go_sem]
 refine cr h (lines_asked_ok G htab_lines_calls htab_strconv_uint64pow10 x11.Call) (fun v30 h => ?_)
 try simp only [*, go_sem]
 refine cbs h bldOk (by first | rfl | (simp only [*, go_sem]; done)) (fun h => ?_)
 try simp only [*, go_sem]
 exact jc ((b18_1 ++ v30.data.toList)) h.e [some 0, some 1]
 try simp only [*, go_sem]
 refine jn1 h (fun b31_1 => [zP 2 0, zP 8 1, zL 22 12 (p1.map Act.enc), zI 23 ((p1.length : Nat) : Int), zI 24 ((a8_1 : Nat) : Int)]) (fun b31_1 => [ox p0.bx, oB 68 5 b31_1]) (fun k32 h => ?_) (fun b31_1 h => ?_)
 refine oi h (fun hb33 h => ?_) (fun hb33 h => ?_)
 try simp only [*, go_sem]
 refine cr h (lines_hex_ok G x11.Line) (fun v34 h => ?_)
 refine ck h (fun _ h => ?_)
 try simp only [*, go_sem]
 refine cbs h bldOk (by first | rfl | (simp only [*, go_sem]; done)) (fun h => ?_)
 try simp only [*, go_sem]
 exact jc ((b18_1 ++ (bs_7215ee9c ++ v34).data.toList)) h.e [some 0, some 1]
 try simp only [*, go_sem]
 exact jc (b18_1) h.e [some 0, some 1]
 try simp only [*, go_sem]
 exact jc (b31_1) h.e [some 0, some 1]
 try simp only [*, go_sem]
 refine cbb h bldOk (by first | rfl | (simp only [*, go_sem]; done)) (fun h => ?_)
 have := wrap_succ_max hkx11 hl3
 try simp only [*, go_sem]
 exact lc (a8_1 + 1, (b27_1 ++ [UInt8.ofNat (Int.toNat (10 : Int))])) h.e [some 0, some 1]
 try simp only [*, go_sem]
 exact jc (a8_2) h.e [some 1]
 try simp only [*, go_sem]
 refine cbt bldOk (by first | rfl | (simp only [*, go_sem]; done)) ?_
 cases h.e
 simp only [*, go_sem, mA, mS]
def reredosref_In (p0 : Int) (p1 : Int) (p2 : Int) : Option (Bool) := (withK (fun (b1_1 : Bool) => (some b1_1)) fun k2 => (if (decide (p0 ≥ p1)) = true then (k2 (decide (p0 ≤ p2))) else (k2 false)))
def F58 : VFn := ⟨15, (.seq (.reg [vo 6 (.mv (cb false))]) (.seq (.wk (.reg [vm 7 0, vm 8 1, bt 9 .geq 7 8, vm 10 9, gt 11 10 (.mv (.t 0)), gt 12 10 (.mv (.t 2)), gt 13 10 (.bin .i .leq (.t 11) (.t 12)), vo 14 (.pick (.t 10) (.t 13) (cb false)), vm 6 14])) .ret)), [.t 6]⟩
theorem low58 : lowF Tryd.prog 58 = some F58.strip := by kernel_rfl
theorem fok58 : fOk Tryd.prog 58 = true := by kernel_rfl
theorem reredosref_In_ok (p0 : Int) (p1 : Int) (p2 : Int) (r : Bool) (h : reredosref_In p0 p1 p2 = some r) : FnRO Tryd.prog G 58 [.one (.d (.i .i64 p0)), .one (.d (.i .i64 p1)), .one (.d (.i .i64 p2))] (fun rs => rs = [.one (.b r)]) := by
 refine FnRO.of' low58 fok58 (by simp [F58]) ?_
 rw [reredosref_In] at h
 replace h := Hd.mk h
 simp only [F58, go_sem]
 try simp only [*, go_sem]
 refine jn1 h (fun b1_1 => [zB 6 b1_1]) (fun b1_1 => []) (fun k2 h => ?_) (fun b1_1 h => ?_)
 refine oi h (fun hb3 h => ?_) (fun hb3 h => ?_)
 try simp only [*, go_sem]
 exact jc (decide (p0 ≤ p2)) h.e []
 try simp only [*, go_sem]
 exact jc (false) h.e []
 cases h.e
 simp only [*, go_sem, mA, mS]
def reredosref_ConfigFault_L2 (p0 : Config) (a8_1 : Nat) (x12 : Label) (k18 : Option (Int)) : Nat → Nat → Option (Int)
 | 0, _ => none
 | n20 + 1, a19_1 => (if (decide (a19_1 < a8_1)) = true then (Option.bind (p0.Labels[a19_1]?) fun x22 => (if ((x22.Level == x12.Level) && (x22.Cats == x12.Cats)) = true then (some 7) else (reredosref_ConfigFault_L2 p0 a8_1 x12 k18 n20 (a19_1 + 1)))) else k18)
def reredosref_ConfigFault_L1 (p0 : Config) (k7 : Option (Int)) : Nat → Nat → Option (Int)
 | 0, _ => none
 | n9 + 1, a8_1 => (if (decide (a8_1 < p0.Labels.length)) = true then (Option.bind (p0.Labels[a8_1]?) fun x12 => (Option.bind (reredosref_In x12.Level 0 9) fun v13 => (if (!v13) = true then (some 2) else (Option.bind (reredosref_In x12.Cats 0 15) fun v15 => (if (!v15) = true then (some 2) else (withK (reredosref_ConfigFault_L1 p0 k7 n9 (a8_1 + 1)) fun k18 => (reredosref_ConfigFault_L2 p0 a8_1 x12 k18 (a8_1 + 1) 0))))))) else k7)
def reredosref_ConfigFault (p0 : Config) : Option (Int) := (Option.bind (reredosref_In p0.Sites 1 4) fun v1 => (if (!v1) = true then (some 2) else (Option.bind (reredosref_In ((p0.Labels.length : Nat) : Int) 1 6) fun v4 => (if (!v4) = true then (some 1) else (withK (Option.bind (reredosref_In p0.Patience 1 1048576) fun v26 => (if (!v26) = true then (some 2) else (some 0))) fun k7 => (reredosref_ConfigFault_L1 p0 k7 (p0.Labels.length + 1) 0))))))
def F26 : VFn := ⟨59, (.seq (.reg [vo 1 (.boxk 3 (.t 0)), mi 2 0]) (.seq (.seq (.reg [vf 5 0 1, vs 6 5, vo 7 (.call 58 [(.t 6), (ci 1), (ci 4)]), nt 8 7]) (.cond (.t 8) (.seq (.reg [mi 2 2]) .ret) .skip)) (.seq (.seq (.reg [vf 9 1 1, vs 10 9, ln 11 10, vo 12 (.call 58 [(.t 11), (ci 1), (ci 6)]), nt 13 12]) (.cond (.t 13) (.seq (.reg [mi 2 1]) .ret) .skip)) (.seq (.seq (.reg [mi 3 0]) (.wk (.block 0 (.loop (.seq (.seq (.reg [vm 14 3, vf 15 1 1, vs 16 15, ln 17 16, bt 18 .lss 14 17]) (.cond (.t 18) .skip (.exit 0))) (.seq (.block 1 (.seq (.seq (.reg [vf 21 1 1, vs 22 21, vm 23 3, xa 24 2 22 23, vf 25 0 24, vs 26 25, vo 27 (.call 58 [(.t 26), (ci 0), (ci 9)]), nt 28 27, vm 29 28, gf 30 29 (.fa 1 (.t 1)), gf 31 29 (.ld false 1 (.t 30)), gf 32 29 (.mv (.t 3)), gf 33 29 (.ia 2 (.t 31) (.t 32)), gf 34 29 (.fa 1 (.t 33)), gf 35 29 (.ld false 1 (.t 34)), gf 36 29 (.call 58 [(.t 35), (ci 0), (ci 15)]), gf 37 29 (.un .not (.t 36)), vo 38 (.pick (.t 29) (cb true) (.t 37))]) (.cond (.t 38) (.seq (.reg [mi 2 2]) .ret) .skip)) (.seq (.reg [mi 4 0]) (.wk (.block 2 (.loop (.seq (.seq (.reg [vm 39 4, vm 40 3, bt 41 .lss 39 40]) (.cond (.t 41) .skip (.exit 2))) (.seq (.block 3 (.seq (.draw [vd (vf 44 1 1) 0, vd (vs 45 44) 1, vd (vm 46 4) 0, vd (xa 47 2 45 46) 7, vd (vl 48 2 47) 15, vd (vf 49 1 1) 0, vd (vs 50 49) 32, vd (vm 51 3) 0, vd (xa 52 2 50 51) 224, vd (vl 53 2 52) 480, vd (vo 54 (.eqs false [.i, .i] (.t 48) (.t 53))) 1023]) (.cond (.t 54) (.seq (.reg [mi 2 7]) .ret) .skip))) (.reg [vm 42 4, bk 43 .add 42 1, vm 4 43]))))))))) (.reg [vm 19 3, bk 20 .add 19 1, vm 3 20]))))))) (.seq (.seq (.reg [vf 55 2 1, vs 56 55, vo 57 (.call 58 [(.t 56), (ci 1), (ci 1048576)]), nt 58 57]) (.cond (.t 58) (.seq (.reg [mi 2 2]) .ret) .skip)) (.seq (.reg [mi 2 0]) .ret)))))), [.t 2]⟩
theorem low26 : lowF Tryd.prog 26 = some F26.strip := by kernel_rfl
theorem fok26 : fOk Tryd.prog 26 = true := by kernel_rfl
theorem reredosref_ConfigFault_ok (p0 : Config) (r : Int) (h : reredosref_ConfigFault p0 = some r) : FnRO Tryd.prog G 26 [.agg p0.bx] (fun rs => rs = [.one (.i .i64 r)]) := by
 refine FnRO.of' low26 fok26 (by simp [F26]) ?_
 rw [reredosref_ConfigFault] at h
 replace h := Hd.mk h
 simp only [F26, go_sem]
 try simp only [*, go_sem]
 refine cr h (reredosref_In_ok G p0.Sites 1 4) (fun v1 h => ?_)
 refine oin h (fun hb2 hkhb2 h => ?_) (fun hb2 hkhb2 h => ?_)
 cases h.e
 simp only [*, go_sem, mA, mS]
 try simp only [*, go_sem]
 intro hl3
 try simp only [*, go_sem]
 refine cr h (reredosref_In_ok G ((p0.Labels.length : Nat) : Int) 1 6) (fun v4 h => ?_)
 refine oin h (fun hb5 hkhb5 h => ?_) (fun hb5 hkhb5 h => ?_)
 cases h.e
 simp only [*, go_sem, mA, mS]
 try simp only [*, go_sem]
 refine jn0 h ([zK 1 (Config.enc p0)]) ([]) (fun k7 h => ?_) (fun h => ?_)
 try simp only [*, go_sem]
 refine lp1 (reredosref_ConfigFault_L1 p0 k7) (fun a8_1 => [zK 1 (Config.enc p0), zI 3 ((a8_1 : Nat) : Int)]) (fun a8_1 => []) h [] [] (fun n9 a8_1 h => ?_) (by intros; rw [reredosref_ConfigFault_L1])
 rw [reredosref_ConfigFault_L1] at h
 try simp only [*, go_sem]
 intro hl10
 refine oi h (fun hb11 h => ?_) (fun hb11 h => ?_)
 have := of_decide_eq_true hb11
 refine obg h (fun x12 _ hkx12 h => ?_)
 try simp only [*, go_sem]
 refine cr h (reredosref_In_ok G x12.Level 0 9) (fun v13 h => ?_)
 refine oin h (fun hb14 hkhb14 h => ?_) (fun hb14 hkhb14 h => ?_)
 cases h.e
 simp only [*, go_sem, mA, mS]
 try simp only [*, go_sem]
 refine cr h (reredosref_In_ok G x12.Cats 0 15) (fun v15 h => ?_)
 refine oin h (fun hb16 hkhb16 h => ?_) (fun hb16 hkhb16 h => ?_)
 cases h.e
 simp only [*, go_sem, mA, mS]
 try simp only [*, go_sem]
 refine jn0 h ([zK 1 (Config.enc p0), zI 3 ((a8_1 : Nat) : Int), (30, .one (.p (.l 3 [(Config.enc p0)] 0 1))), zL 31 2 (p0.Labels.map Label.enc), zI 32 ((a8_1 : Nat) : Int), (33, .one (.p (.l 2 (p0.Labels.map Label.enc) a8_1 0))), (34, .one (.p (.l 2 (p0.Labels.map Label.enc) a8_1 1))), zI 35 x12.Cats, zB 36 true, zB 37 false]) ([]) (fun k18 h => ?_) (fun h => ?_)
 try simp only [*, go_sem]
 refine lp1 (reredosref_ConfigFault_L2 p0 a8_1 x12 k18) (fun a19_1 => [zK 1 (Config.enc p0), zI 3 ((a8_1 : Nat) : Int), zI 4 ((a19_1 : Nat) : Int), (30, .one (.p (.l 3 [(Config.enc p0)] 0 1))), zL 31 2 (p0.Labels.map Label.enc), zI 32 ((a8_1 : Nat) : Int), (33, .one (.p (.l 2 (p0.Labels.map Label.enc) a8_1 0))), (34, .one (.p (.l 2 (p0.Labels.map Label.enc) a8_1 1))), zI 35 x12.Cats, zB 36 true, zB 37 false]) (fun a19_1 => []) h [] [] (fun n20 a19_1 h => ?_) (by intros; rw [reredosref_ConfigFault_L2])
 rw [reredosref_ConfigFault_L2] at h
 refine oi h (fun hb21 h => ?_) (fun hb21 h => ?_)
 have := of_decide_eq_true hb21
 refine obg h (fun x22 _ hkx22 h => ?_)
 refine oi h (fun hb23 h => ?_) (fun hb23 h => ?_)
 try simp only [*, go_sem]
 cases h.e
 simp only [*, go_sem, mA, mS]
 try simp only [*, go_sem]
 have := wrap_succ_max hkx22 hl3
 try simp only [*, go_sem]
 exact lc (a19_1 + 1) h.e []
 try simp only [*, go_sem]
 exact jc () h.e []
 have := wrap_succ_max hkx12 hl3
 try simp only [*, go_sem]
 exact lc (a8_1 + 1) h.e []
 try simp only [*, go_sem]
 exact jc () h.e []
 try simp only [*, go_sem]
 refine cr h (reredosref_In_ok G p0.Patience 1 1048576) (fun v26 h => ?_)
 refine oin h (fun hb27 hkhb27 h => ?_) (fun hb27 hkhb27 h => ?_)
 cases h.e
 simp only [*, go_sem, mA, mS]
 cases h.e
 simp only [*, go_sem, mA, mS]
def reredosref_labelMay (p0 : Config) (p1 : Int) : Option (Bool) := (Option.bind (reredosref_In p1 0 (IntKind.i64.wrap (((p0.Labels.length : Nat) : Int) - 1))) fun v2 => (some v2))
def F46 : VFn := ⟨11, (.seq (.reg [vo 2 (.box 3 (.t 0)), vo 4 (.mv (cb false))]) (.seq (.reg [vm 5 1, vf 6 1 2, vs 7 6, ln 8 7, bk 9 .sub 8 1, vo 10 (.call 58 [(.t 5), (ci 0), (.t 9)]), vm 4 10]) .ret)), [.t 4]⟩
theorem low46 : lowF Tryd.prog 46 = some F46.strip := by kernel_rfl
theorem fok46 : fOk Tryd.prog 46 = true := by kernel_rfl
theorem reredosref_labelMay_ok (p0 : Config) (p1 : Int) (r : Bool) (h : reredosref_labelMay p0 p1 = some r) : FnRO Tryd.prog G 46 [.agg p0.bx, .one (.d (.i .i64 p1))] (fun rs => rs = [.one (.b r)]) := by
 refine FnRO.of' low46 fok46 (by simp [F46]) ?_
 rw [reredosref_labelMay] at h
 replace h := Hd.mk h
 simp only [F46, go_sem]
 try simp only [*, go_sem]
 intro hl1
 try simp only [*, go_sem]
 refine cr h (reredosref_In_ok G p1 0 (IntKind.i64.wrap (((p0.Labels.length : Nat) : Int) - 1))) (fun v2 h => ?_)
 cases h.e
 simp only [*, go_sem, mA, mS]
def reredosref_callMay (p0 : Call) : Option (Int) := (Option.bind (reredosref_In p0.Kind 1 5) fun v1 => (if (!v1) = true then (some 3) else (Option.bind (reredosref_In p0.N 0 1048576) fun v3 => (if (!v3) = true then (some 2) else (Option.bind (reredosref_In p0.Label 0 5) fun v5 => (if (!v5) = true then (some 2) else (Option.bind (reredosref_In p0.Key 0 8) fun v7 => (if (!v7) = true then (some 2) else (Option.bind (reredosref_In p0.Value 0 1073741824) fun v9 => (if (!v9) = true then (some 2) else (if (p0.Kind == 1) = true then (if (p0.N != 0) = true then (some 4) else (if (p0.Kind != 2) = true then (if (p0.Label != 0) = true then (some 4) else (if (p0.Kind != 3) = true then (if (p0.Key != 0) = true then (some 4) else (if (p0.Value != 0) = true then (some 4) else (some 0))) else (some 0))) else (if (p0.Kind != 3) = true then (if (p0.Value != 0) = true then (some 4) else (some 0)) else (some 0)))) else (if (p0.Kind != 2) = true then (if (p0.Label != 0) = true then (some 4) else (if (p0.Kind != 3) = true then (if (p0.Key != 0) = true then (some 4) else (if (p0.Value != 0) = true then (some 4) else (some 0))) else (some 0))) else (if (p0.Kind != 3) = true then (if (p0.Value != 0) = true then (some 4) else (some 0)) else (some 0))))))))))))))
def F79 : VFn := ⟨72, (.seq (.reg [vo 1 (.boxk 5 (.t 0)), mi 2 0]) (.seq (.seq (.reg [vf 3 0 1, vs 4 3, vo 5 (.call 58 [(.t 4), (ci 1), (ci 5)]), nt 6 5]) (.cond (.t 6) (.seq (.reg [mi 2 3]) .ret) .skip)) (.seq (.seq (.reg [vf 7 1 1, vs 8 7, vo 9 (.call 58 [(.t 8), (ci 0), (ci 1048576)]), nt 10 9, vm 11 10, gf 12 11 (.fa 2 (.t 1)), gf 13 11 (.ld false 1 (.t 12)), gf 14 11 (.call 58 [(.t 13), (ci 0), (ci 5)]), gf 15 11 (.un .not (.t 14)), vo 16 (.pick (.t 11) (cb true) (.t 15)), vm 17 16, gf 18 17 (.fa 3 (.t 1)), gf 19 17 (.ld false 1 (.t 18)), gf 20 17 (.call 58 [(.t 19), (ci 0), (ci 8)]), gf 21 17 (.un .not (.t 20)), vo 22 (.pick (.t 17) (cb true) (.t 21)), vm 23 22, gf 24 23 (.fa 4 (.t 1)), gf 25 23 (.ld false 1 (.t 24)), gf 26 23 (.call 58 [(.t 25), (ci 0), (ci 1073741824)]), gf 27 23 (.un .not (.t 26)), vo 28 (.pick (.t 23) (cb true) (.t 27))]) (.cond (.t 28) (.seq (.reg [mi 2 2]) .ret) .skip)) (.seq (.seq (.reg [vf 29 0 1, vs 30 29, bk 31 .eql 30 1, vm 32 31, gt 33 32 (.fa 1 (.t 1)), gt 34 32 (.ld false 1 (.t 33)), gt 35 32 (.bin .i .neq (.t 34) (ci 0)), vo 36 (.pick (.t 32) (.t 35) (cb false)), vm 37 36, gf 38 37 (.fa 0 (.t 1)), gf 39 37 (.ld false 1 (.t 38)), gf 40 37 (.bin .i .neq (.t 39) (ci 2)), gf 41 37 (.mv (.t 40)), gt 42 41 (.fa 2 (.t 1)), gt 43 41 (.ld false 1 (.t 42)), gt 44 41 (.bin .i .neq (.t 43) (ci 0)), gf 45 37 (.pick (.t 41) (.t 44) (cb false)), vo 46 (.pick (.t 37) (cb true) (.t 45)), vm 47 46, gf 48 47 (.fa 0 (.t 1)), gf 49 47 (.ld false 1 (.t 48)), gf 50 47 (.bin .i .neq (.t 49) (ci 2)), gf 51 47 (.mv (.t 50)), gt 52 51 (.fa 0 (.t 1)), gt 53 51 (.ld false 1 (.t 52)), gt 54 51 (.bin .i .neq (.t 53) (ci 3)), gf 55 47 (.pick (.t 51) (.t 54) (cb false)), gf 56 47 (.mv (.t 55)), gt 57 56 (.fa 3 (.t 1)), gt 58 56 (.ld false 1 (.t 57)), gt 59 56 (.bin .i .neq (.t 58) (ci 0)), gf 60 47 (.pick (.t 56) (.t 59) (cb false)), vo 61 (.pick (.t 47) (cb true) (.t 60)), vm 62 61, gf 63 62 (.fa 0 (.t 1)), gf 64 62 (.ld false 1 (.t 63)), gf 65 62 (.bin .i .neq (.t 64) (ci 3)), gf 66 62 (.mv (.t 65)), gt 67 66 (.fa 4 (.t 1)), gt 68 66 (.ld false 1 (.t 67)), gt 69 66 (.bin .i .neq (.t 68) (ci 0)), gf 70 62 (.pick (.t 66) (.t 69) (cb false)), vo 71 (.pick (.t 62) (cb true) (.t 70))]) (.cond (.t 71) (.seq (.reg [mi 2 4]) .ret) .skip)) (.seq (.reg [mi 2 0]) .ret))))), [.t 2]⟩
theorem low79 : lowF Tryd.prog 79 = some F79.strip := by kernel_rfl
theorem fok79 : fOk Tryd.prog 79 = true := by kernel_rfl
theorem reredosref_callMay_ok (p0 : Call) (r : Int) (h : reredosref_callMay p0 = some r) : FnRO Tryd.prog G 79 [.agg p0.bx] (fun rs => rs = [.one (.i .i64 r)]) := by
 refine FnRO.of' low79 fok79 (by simp [F79]) ?_
 rw [reredosref_callMay] at h
 replace h := Hd.mk h
 simp only [F79, go_sem]
 try simp only [*, go_sem]
 refine cr h (reredosref_In_ok G p0.Kind 1 5) (fun v1 h => ?_)
 refine oin h (fun hb2 hkhb2 h => ?_) (fun hb2 hkhb2 h => ?_)
 cases h.e
 simp only [*, go_sem, mA, mS]
 try simp only [*, go_sem]
 refine cr h (reredosref_In_ok G p0.N 0 1048576) (fun v3 h => ?_)
 refine oin h (fun hb4 hkhb4 h => ?_) (fun hb4 hkhb4 h => ?_)
 cases h.e
 simp only [*, go_sem, mA, mS]
 try simp only [*, go_sem]
 refine cr h (reredosref_In_ok G p0.Label 0 5) (fun v5 h => ?_)
 refine oin h (fun hb6 hkhb6 h => ?_) (fun hb6 hkhb6 h => ?_)
 cases h.e
 simp only [*, go_sem, mA, mS]
 try simp only [*, go_sem]
 refine cr h (reredosref_In_ok G p0.Key 0 8) (fun v7 h => ?_)
 refine oin h (fun hb8 hkhb8 h => ?_) (fun hb8 hkhb8 h => ?_)
 cases h.e
 simp only [*, go_sem, mA, mS]
 try simp only [*, go_sem]
 refine cr h (reredosref_In_ok G p0.Value 0 1073741824) (fun v9 h => ?_)
 refine oin h (fun hb10 hkhb10 h => ?_) (fun hb10 hkhb10 h => ?_)
 cases h.e
 simp only [*, go_sem, mA, mS]
 refine oi h (fun hb11 h => ?_) (fun hb11 h => ?_)
 refine oi h (fun hb12 h => ?_) (fun hb12 h => ?_)
 cases h.e
 simp only [*, go_sem, mA, mS]
 refine oi h (fun hb13 h => ?_) (fun hb13 h => ?_)
 refine oi h (fun hb14 h => ?_) (fun hb14 h => ?_)
 cases h.e
 simp only [*, go_sem, mA, mS]
 refine oi h (fun hb15 h => ?_) (fun hb15 h => ?_)
 refine oi h (fun hb16 h => ?_) (fun hb16 h => ?_)
 cases h.e
 simp only [*, go_sem, mA, mS]
 refine oi h (fun hb17 h => ?_) (fun hb17 h => ?_)
 cases h.e
 simp only [*, go_sem, mA, mS]
 cases h.e
 simp only [*, go_sem, mA, mS]
 cases h.e
 simp only [*, go_sem, mA, mS]
 refine oi h (fun hb18 h => ?_) (fun hb18 h => ?_)
 refine oi h (fun hb19 h => ?_) (fun hb19 h => ?_)
 cases h.e
 simp only [*, go_sem, mA, mS]
 cases h.e
 simp only [*, go_sem, mA, mS]
 cases h.e
 simp only [*, go_sem, mA, mS]
 refine oi h (fun hb20 h => ?_) (fun hb20 h => ?_)
 refine oi h (fun hb21 h => ?_) (fun hb21 h => ?_)
 cases h.e
 simp only [*, go_sem, mA, mS]
 refine oi h (fun hb22 h => ?_) (fun hb22 h => ?_)
 refine oi h (fun hb23 h => ?_) (fun hb23 h => ?_)
 cases h.e
 simp only [*, go_sem, mA, mS]
 refine oi h (fun hb24 h => ?_) (fun hb24 h => ?_)
 cases h.e
 simp only [*, go_sem, mA, mS]
 cases h.e
 simp only [*, go_sem, mA, mS]
 cases h.e
 simp only [*, go_sem, mA, mS]
 refine oi h (fun hb25 h => ?_) (fun hb25 h => ?_)
 refine oi h (fun hb26 h => ?_) (fun hb26 h => ?_)
 cases h.e
 simp only [*, go_sem, mA, mS]
 cases h.e
 simp only [*, go_sem, mA, mS]
 cases h.e
 simp only [*, go_sem, mA, mS]
def reredosref_ActFault_L1 (p1 : Act) (k18 : Option (Int)) : Nat → Nat → Option (Int)
 | 0, _ => none
 | n20 + 1, a19_1 => (if (decide (a19_1 < p1.Keep.length)) = true then (Option.bind (p1.Keep[a19_1]?) fun x23 => (Option.bind (reredosref_In x23 0 6000) fun v24 => (if (!v24) = true then (some 2) else (reredosref_ActFault_L1 p1 k18 n20 (a19_1 + 1))))) else k18)
def reredosref_ActFault (p0 : Config) (p1 : Act) : Option (Int) := (Option.bind (reredosref_ConfigFault p0) fun v1 => (if (v1 != 0) = true then (some v1) else (Option.bind (reredosref_In p1.Kind 1 8) fun v3 => (if (!v3) = true then (some 3) else (Option.bind (reredosref_In p1.Site 0 (IntKind.i64.wrap (p0.Sites - 1))) fun v5 => (if (!v5) = true then (some 2) else (Option.bind (reredosref_In p1.To 0 (IntKind.i64.wrap (p0.Sites - 1))) fun v7 => (if (!v7) = true then (some 2) else (Option.bind (reredosref_labelMay p0 p1.Label) fun v9 => (if (!v9) = true then (some 2) else (Option.bind (reredosref_In p1.Pick 0 1048576) fun v11 => (if (!v11) = true then (some 2) else (if (decide (p1.Keep.length > p0.Labels.length)) = true then (some 2) else (if (decide (((p1.Line.size : Nat) : Int) > 60)) = true then (some 2) else (withK (Option.bind (reredosref_In p1.Kind 2 4) fun v27 => (if (p1.Kind == 5) = true then (if (p1.Site != 0) = true then (some 4) else (if (!v27) = true then (if (p1.To != 0) = true then (some 4) else (if (p1.Pick != 0) = true then (some 4) else (if (p1.Kind != 1) = true then (if (p1.Kind != 8) = true then (if (p1.Label != 0) = true then (some 4) else (if (p1.Kind != 6) = true then (if (decide (((p1.Keep.length : Nat) : Int) > 0)) = true then (some 4) else (if (!((p1.Call.Kind == 0) && ((p1.Call.N == 0) && ((p1.Call.Label == 0) && ((p1.Call.Key == 0) && (p1.Call.Value == 0)))))) = true then (some 4) else (if (!(p1.Line.toList == (⟨#[]⟩ : ByteArray).toList)) = true then (some 4) else (if (p1.Kind == 1) = true then (Option.bind (reredosref_callMay p1.Call) fun v42 => (some v42)) else (some 0))))) else (if (!((p1.Call.Kind == 0) && ((p1.Call.N == 0) && ((p1.Call.Label == 0) && ((p1.Call.Key == 0) && (p1.Call.Value == 0)))))) = true then (some 4) else (if (!(p1.Line.toList == (⟨#[]⟩ : ByteArray).toList)) = true then (some 4) else (if (p1.Kind == 1) = true then (Option.bind (reredosref_callMay p1.Call) fun v46 => (some v46)) else (some 0)))))) else (if (p1.Kind != 6) = true then (if (decide (((p1.Keep.length : Nat) : Int) > 0)) = true then (some 4) else (if (!((p1.Call.Kind == 0) && ((p1.Call.N == 0) && ((p1.Call.Label == 0) && ((p1.Call.Key == 0) && (p1.Call.Value == 0)))))) = true then (some 4) else (if (p1.Kind == 1) = true then (Option.bind (reredosref_callMay p1.Call) fun v52 => (some v52)) else (some 0)))) else (if (!((p1.Call.Kind == 0) && ((p1.Call.N == 0) && ((p1.Call.Label == 0) && ((p1.Call.Key == 0) && (p1.Call.Value == 0)))))) = true then (some 4) else (if (p1.Kind == 1) = true then (Option.bind (reredosref_callMay p1.Call) fun v55 => (some v55)) else (some 0))))) else (if (p1.Kind != 6) = true then (if (decide (((p1.Keep.length : Nat) : Int) > 0)) = true then (some 4) else (if (p1.Kind != 8) = true then (if (!(p1.Line.toList == (⟨#[]⟩ : ByteArray).toList)) = true then (some 4) else (if (p1.Kind == 1) = true then (Option.bind (reredosref_callMay p1.Call) fun v62 => (some v62)) else (some 0))) else (if (p1.Kind == 1) = true then (Option.bind (reredosref_callMay p1.Call) fun v64 => (some v64)) else (some 0)))) else (if (p1.Kind != 8) = true then (if (!(p1.Line.toList == (⟨#[]⟩ : ByteArray).toList)) = true then (some 4) else (if (p1.Kind == 1) = true then (Option.bind (reredosref_callMay p1.Call) fun v68 => (some v68)) else (some 0))) else (if (p1.Kind == 1) = true then (Option.bind (reredosref_callMay p1.Call) fun v70 => (some v70)) else (some 0))))))) else (if (p1.Kind != 6) = true then (if (decide (((p1.Keep.length : Nat) : Int) > 0)) = true then (some 4) else (if (p1.Kind != 1) = true then (if (!((p1.Call.Kind == 0) && ((p1.Call.N == 0) && ((p1.Call.Label == 0) && ((p1.Call.Key == 0) && (p1.Call.Value == 0)))))) = true then (some 4) else (if (p1.Kind != 8) = true then (if (!(p1.Line.toList == (⟨#[]⟩ : ByteArray).toList)) = true then (some 4) else (if (p1.Kind == 1) = true then (Option.bind (reredosref_callMay p1.Call) fun v79 => (some v79)) else (some 0))) else (if (p1.Kind == 1) = true then (Option.bind (reredosref_callMay p1.Call) fun v81 => (some v81)) else (some 0)))) else (if (p1.Kind != 8) = true then (if (!(p1.Line.toList == (⟨#[]⟩ : ByteArray).toList)) = true then (some 4) else (if (p1.Kind == 1) = true then (Option.bind (reredosref_callMay p1.Call) fun v85 => (some v85)) else (some 0))) else (if (p1.Kind == 1) = true then (Option.bind (reredosref_callMay p1.Call) fun v87 => (some v87)) else (some 0))))) else (if (p1.Kind != 1) = true then (if (!((p1.Call.Kind == 0) && ((p1.Call.N == 0) && ((p1.Call.Label == 0) && ((p1.Call.Key == 0) && (p1.Call.Value == 0)))))) = true then (some 4) else (if (p1.Kind != 8) = true then (if (!(p1.Line.toList == (⟨#[]⟩ : ByteArray).toList)) = true then (some 4) else (if (p1.Kind == 1) = true then (Option.bind (reredosref_callMay p1.Call) fun v93 => (some v93)) else (some 0))) else (if (p1.Kind == 1) = true then (Option.bind (reredosref_callMay p1.Call) fun v95 => (some v95)) else (some 0)))) else (if (p1.Kind != 8) = true then (if (!(p1.Line.toList == (⟨#[]⟩ : ByteArray).toList)) = true then (some 4) else (if (p1.Kind == 1) = true then (Option.bind (reredosref_callMay p1.Call) fun v99 => (some v99)) else (some 0))) else (if (p1.Kind == 1) = true then (Option.bind (reredosref_callMay p1.Call) fun v101 => (some v101)) else (some 0))))))) else (if (!v27) = true then (if (p1.To != 0) = true then (some 4) else (if (p1.Pick != 0) = true then (some 4) else (if (p1.Kind != 1) = true then (if (p1.Kind != 8) = true then (if (p1.Label != 0) = true then (some 4) else (if (p1.Kind != 6) = true then (if (decide (((p1.Keep.length : Nat) : Int) > 0)) = true then (some 4) else (if (!((p1.Call.Kind == 0) && ((p1.Call.N == 0) && ((p1.Call.Label == 0) && ((p1.Call.Key == 0) && (p1.Call.Value == 0)))))) = true then (some 4) else (if (!(p1.Line.toList == (⟨#[]⟩ : ByteArray).toList)) = true then (some 4) else (if (p1.Kind == 1) = true then (Option.bind (reredosref_callMay p1.Call) fun v114 => (some v114)) else (some 0))))) else (if (!((p1.Call.Kind == 0) && ((p1.Call.N == 0) && ((p1.Call.Label == 0) && ((p1.Call.Key == 0) && (p1.Call.Value == 0)))))) = true then (some 4) else (if (!(p1.Line.toList == (⟨#[]⟩ : ByteArray).toList)) = true then (some 4) else (if (p1.Kind == 1) = true then (Option.bind (reredosref_callMay p1.Call) fun v118 => (some v118)) else (some 0)))))) else (if (p1.Kind != 6) = true then (if (decide (((p1.Keep.length : Nat) : Int) > 0)) = true then (some 4) else (if (!((p1.Call.Kind == 0) && ((p1.Call.N == 0) && ((p1.Call.Label == 0) && ((p1.Call.Key == 0) && (p1.Call.Value == 0)))))) = true then (some 4) else (if (p1.Kind == 1) = true then (Option.bind (reredosref_callMay p1.Call) fun v124 => (some v124)) else (some 0)))) else (if (!((p1.Call.Kind == 0) && ((p1.Call.N == 0) && ((p1.Call.Label == 0) && ((p1.Call.Key == 0) && (p1.Call.Value == 0)))))) = true then (some 4) else (if (p1.Kind == 1) = true then (Option.bind (reredosref_callMay p1.Call) fun v127 => (some v127)) else (some 0))))) else (if (p1.Kind != 6) = true then (if (decide (((p1.Keep.length : Nat) : Int) > 0)) = true then (some 4) else (if (p1.Kind != 8) = true then (if (!(p1.Line.toList == (⟨#[]⟩ : ByteArray).toList)) = true then (some 4) else (if (p1.Kind == 1) = true then (Option.bind (reredosref_callMay p1.Call) fun v134 => (some v134)) else (some 0))) else (if (p1.Kind == 1) = true then (Option.bind (reredosref_callMay p1.Call) fun v136 => (some v136)) else (some 0)))) else (if (p1.Kind != 8) = true then (if (!(p1.Line.toList == (⟨#[]⟩ : ByteArray).toList)) = true then (some 4) else (if (p1.Kind == 1) = true then (Option.bind (reredosref_callMay p1.Call) fun v140 => (some v140)) else (some 0))) else (if (p1.Kind == 1) = true then (Option.bind (reredosref_callMay p1.Call) fun v142 => (some v142)) else (some 0))))))) else (if (p1.Kind != 6) = true then (if (decide (((p1.Keep.length : Nat) : Int) > 0)) = true then (some 4) else (if (p1.Kind != 1) = true then (if (!((p1.Call.Kind == 0) && ((p1.Call.N == 0) && ((p1.Call.Label == 0) && ((p1.Call.Key == 0) && (p1.Call.Value == 0)))))) = true then (some 4) else (if (p1.Kind != 8) = true then (if (!(p1.Line.toList == (⟨#[]⟩ : ByteArray).toList)) = true then (some 4) else (if (p1.Kind == 1) = true then (Option.bind (reredosref_callMay p1.Call) fun v151 => (some v151)) else (some 0))) else (if (p1.Kind == 1) = true then (Option.bind (reredosref_callMay p1.Call) fun v153 => (some v153)) else (some 0)))) else (if (p1.Kind != 8) = true then (if (!(p1.Line.toList == (⟨#[]⟩ : ByteArray).toList)) = true then (some 4) else (if (p1.Kind == 1) = true then (Option.bind (reredosref_callMay p1.Call) fun v157 => (some v157)) else (some 0))) else (if (p1.Kind == 1) = true then (Option.bind (reredosref_callMay p1.Call) fun v159 => (some v159)) else (some 0))))) else (if (p1.Kind != 1) = true then (if (!((p1.Call.Kind == 0) && ((p1.Call.N == 0) && ((p1.Call.Label == 0) && ((p1.Call.Key == 0) && (p1.Call.Value == 0)))))) = true then (some 4) else (if (p1.Kind != 8) = true then (if (!(p1.Line.toList == (⟨#[]⟩ : ByteArray).toList)) = true then (some 4) else (if (p1.Kind == 1) = true then (Option.bind (reredosref_callMay p1.Call) fun v165 => (some v165)) else (some 0))) else (if (p1.Kind == 1) = true then (Option.bind (reredosref_callMay p1.Call) fun v167 => (some v167)) else (some 0)))) else (if (p1.Kind != 8) = true then (if (!(p1.Line.toList == (⟨#[]⟩ : ByteArray).toList)) = true then (some 4) else (if (p1.Kind == 1) = true then (Option.bind (reredosref_callMay p1.Call) fun v171 => (some v171)) else (some 0))) else (if (p1.Kind == 1) = true then (Option.bind (reredosref_callMay p1.Call) fun v173 => (some v173)) else (some 0)))))))) fun k18 => (reredosref_ActFault_L1 p1 k18 (p1.Keep.length + 1) 0))))))))))))))))
def F38 : VFn := ⟨157, (.seq (.reg [vo 2 (.box 3 (.t 0)), vo 3 (.box 12 (.t 1)), mi 4 0]) (.seq (.reg [vl 8 3 2, vo 9 (.call 26 [(.t 8)]), vm 5 9]) (.seq (.seq (.reg [vm 10 5, bk 11 .neq 10 0]) (.cond (.t 11) (.seq (.reg [vm 12 5, vm 4 12]) .ret) .skip)) (.seq (.seq (.reg [vf 13 0 3, vs 14 13, vo 15 (.call 58 [(.t 14), (ci 1), (ci 8)]), nt 16 15]) (.cond (.t 16) (.seq (.reg [mi 4 3]) .ret) .skip)) (.seq (.seq (.reg [vf 17 1 3, vs 18 17, vf 19 0 2, vs 20 19, bk 21 .sub 20 1, vo 22 (.call 58 [(.t 18), (ci 0), (.t 21)]), nt 23 22, vm 24 23, gf 25 24 (.fa 2 (.t 3)), gf 26 24 (.ld false 1 (.t 25)), gf 27 24 (.fa 0 (.t 2)), gf 28 24 (.ld false 1 (.t 27)), gf 29 24 (.bin .i .sub (.t 28) (ci 1)), gf 30 24 (.call 58 [(.t 26), (ci 0), (.t 29)]), gf 31 24 (.un .not (.t 30)), vo 32 (.pick (.t 24) (cb true) (.t 31)), vm 33 32, gf 34 33 (.ld true 3 (.t 2)), gf 35 33 (.fa 3 (.t 3)), gf 36 33 (.ld false 1 (.t 35)), gf 37 33 (.call 46 [(.t 34), (.t 36)]), gf 38 33 (.un .not (.t 37)), vo 39 (.pick (.t 33) (cb true) (.t 38)), vm 40 39, gf 41 40 (.fa 4 (.t 3)), gf 42 40 (.ld false 1 (.t 41)), gf 43 40 (.call 58 [(.t 42), (ci 0), (ci 1048576)]), gf 44 40 (.un .not (.t 43)), vo 45 (.pick (.t 40) (cb true) (.t 44)), vm 46 45, gf 47 46 (.fa 5 (.t 3)), gf 48 46 (.ld false 1 (.t 47)), gf 49 46 (.len (.t 48)), gf 50 46 (.fa 1 (.t 2)), gf 51 46 (.ld false 1 (.t 50)), gf 52 46 (.len (.t 51)), gf 53 46 (.bin .i .gtr (.t 49) (.t 52)), vo 54 (.pick (.t 46) (cb true) (.t 53)), vm 55 54, gf 56 55 (.fa 11 (.t 3)), gf 57 55 (.ld false 1 (.t 56)), gf 58 55 (.lens (.t 57)), gf 59 55 (.bin .i .gtr (.t 58) (ci 60)), vo 60 (.pick (.t 55) (cb true) (.t 59))]) (.cond (.t 60) (.seq (.reg [mi 4 2]) .ret) .skip)) (.seq (.seq (.reg [mi 6 0]) (.wk (.block 0 (.loop (.seq (.seq (.reg [vm 61 6, vf 62 5 3, vs 63 62, ln 64 63, bt 65 .lss 61 64]) (.cond (.t 65) .skip (.exit 0))) (.seq (.block 1 (.seq (.reg [vf 68 5 3, vs 69 68, vm 70 6, xa 71 1 69 70, vs 72 71, vo 73 (.call 58 [(.t 72), (ci 0), (ci 6000)]), nt 74 73]) (.cond (.t 74) (.seq (.reg [mi 4 2]) .ret) .skip))) (.reg [vm 66 6, bk 67 .add 66 1, vm 6 67]))))))) (.seq (.reg [vf 75 0 3, vs 76 75, vo 77 (.call 58 [(.t 76), (ci 2), (ci 4)]), vm 7 77]) (.seq (.seq (.reg [vf 78 0 3, vs 79 78, bk 80 .eql 79 5, vm 81 80, gt 82 81 (.fa 1 (.t 3)), gt 83 81 (.ld false 1 (.t 82)), gt 84 81 (.bin .i .neq (.t 83) (ci 0)), vo 85 (.pick (.t 81) (.t 84) (cb false)), vm 86 85, gf 87 86 (.mv (.t 7)), gf 88 86 (.un .not (.t 87)), gf 89 86 (.mv (.t 88)), gt 90 89 (.fa 2 (.t 3)), gt 91 89 (.ld false 1 (.t 90)), gt 92 89 (.bin .i .neq (.t 91) (ci 0)), gt 93 89 (.mv (.t 92)), gf 94 93 (.fa 4 (.t 3)), gf 95 93 (.ld false 1 (.t 94)), gf 96 93 (.bin .i .neq (.t 95) (ci 0)), gt 97 89 (.pick (.t 93) (cb true) (.t 96)), gf 98 86 (.pick (.t 89) (.t 97) (cb false)), vo 99 (.pick (.t 86) (cb true) (.t 98)), vm 100 99, gf 101 100 (.mv (.t 7)), gf 102 100 (.un .not (.t 101)), gf 103 100 (.mv (.t 102)), gt 104 103 (.fa 0 (.t 3)), gt 105 103 (.ld false 1 (.t 104)), gt 106 103 (.bin .i .neq (.t 105) (ci 1)), gf 107 100 (.pick (.t 103) (.t 106) (cb false)), gf 108 100 (.mv (.t 107)), gt 109 108 (.fa 0 (.t 3)), gt 110 108 (.ld false 1 (.t 109)), gt 111 108 (.bin .i .neq (.t 110) (ci 8)), gf 112 100 (.pick (.t 108) (.t 111) (cb false)), gf 113 100 (.mv (.t 112)), gt 114 113 (.fa 3 (.t 3)), gt 115 113 (.ld false 1 (.t 114)), gt 116 113 (.bin .i .neq (.t 115) (ci 0)), gf 117 100 (.pick (.t 113) (.t 116) (cb false)), vo 118 (.pick (.t 100) (cb true) (.t 117)), vm 119 118, gf 120 119 (.fa 0 (.t 3)), gf 121 119 (.ld false 1 (.t 120)), gf 122 119 (.bin .i .neq (.t 121) (ci 6)), gf 123 119 (.mv (.t 122)), gt 124 123 (.fa 5 (.t 3)), gt 125 123 (.ld false 1 (.t 124)), gt 126 123 (.len (.t 125)), gt 127 123 (.bin .i .gtr (.t 126) (ci 0)), gf 128 119 (.pick (.t 123) (.t 127) (cb false)), vo 129 (.pick (.t 119) (cb true) (.t 128)), vm 130 129, gf 131 130 (.fa 0 (.t 3)), gf 132 130 (.ld false 1 (.t 131)), gf 133 130 (.bin .i .neq (.t 132) (ci 1)), gf 134 130 (.mv (.t 133)), gt 135 134 (.fa 6 (.t 3)), gt 136 134 (.ld true 5 (.t 135)), gt 137 134 (.build [(zi 0), (zi 0), (zi 0), (zi 0), (zi 0)] []), gt 138 134 (.eqs true [.i, .i, .i, .i, .i] (.t 136) (.t 137)), gf 139 130 (.pick (.t 134) (.t 138) (cb false)), vo 140 (.pick (.t 130) (cb true) (.t 139)), vm 141 140, gf 142 141 (.fa 0 (.t 3)), gf 143 141 (.ld false 1 (.t 142)), gf 144 141 (.bin .i .neq (.t 143) (ci 8)), gf 145 141 (.mv (.t 144)), gt 146 145 (.fa 11 (.t 3)), gt 147 145 (.ld false 1 (.t 146)), gt 148 145 (.bin .s .neq (.t 147) (.c (.one (.d (.s ⟨#[]⟩))))), gf 149 141 (.pick (.t 145) (.t 148) (cb false)), vo 150 (.pick (.t 141) (cb true) (.t 149))]) (.cond (.t 150) (.seq (.reg [mi 4 4]) .ret) .skip)) (.seq (.seq (.reg [vf 151 0 3, vs 152 151, bk 153 .eql 152 1]) (.cond (.t 153) (.seq (.reg [vf 154 6 3, vl 155 5 154, vo 156 (.call 79 [(.t 155)]), vm 4 156]) .ret) .skip)) (.seq (.reg [mi 4 0]) .ret)))))))))), [.t 4]⟩
theorem low38 : lowF Tryd.prog 38 = some F38.strip := by kernel_rfl
theorem fok38 : fOk Tryd.prog 38 = true := by kernel_rfl
theorem reredosref_ActFault_ok (p0 : Config) (p1 : Act) (r : Int) (h : reredosref_ActFault p0 p1 = some r) : FnRO Tryd.prog G 38 [.agg p0.bx, .agg p1.bx] (fun rs => rs = [.one (.i .i64 r)]) := by
 refine FnRO.of' low38 fok38 (by simp [F38]) ?_
 rw [reredosref_ActFault] at h
 replace h := Hd.mk h
 simp only [F38, go_sem]
 try simp only [*, go_sem]
 refine cr h (reredosref_ConfigFault_ok G p0) (fun v1 h => ?_)
 refine oi h (fun hb2 h => ?_) (fun hb2 h => ?_)
 cases h.e
 simp only [*, go_sem, mA, mS]
 try simp only [*, go_sem]
 refine cr h (reredosref_In_ok G p1.Kind 1 8) (fun v3 h => ?_)
 refine oin h (fun hb4 hkhb4 h => ?_) (fun hb4 hkhb4 h => ?_)
 cases h.e
 simp only [*, go_sem, mA, mS]
 try simp only [*, go_sem]
 refine cr h (reredosref_In_ok G p1.Site 0 (IntKind.i64.wrap (p0.Sites - 1))) (fun v5 h => ?_)
 refine oin h (fun hb6 hkhb6 h => ?_) (fun hb6 hkhb6 h => ?_)
 cases h.e
 simp only [*, go_sem, mA, mS]
 try simp only [*, go_sem]
 refine cr h (reredosref_In_ok G p1.To 0 (IntKind.i64.wrap (p0.Sites - 1))) (fun v7 h => ?_)
 refine oin h (fun hb8 hkhb8 h => ?_) (fun hb8 hkhb8 h => ?_)
 cases h.e
 simp only [*, go_sem, mA, mS]
 try simp only [*, go_sem]
 refine cr h (reredosref_labelMay_ok G p0 p1.Label) (fun v9 h => ?_)
 refine oin h (fun hb10 hkhb10 h => ?_) (fun hb10 hkhb10 h => ?_)
 cases h.e
 simp only [*, go_sem, mA, mS]
 try simp only [*, go_sem]
 refine cr h (reredosref_In_ok G p1.Pick 0 1048576) (fun v11 h => ?_)
 refine oin h (fun hb12 hkhb12 h => ?_) (fun hb12 hkhb12 h => ?_)
 cases h.e
 simp only [*, go_sem, mA, mS]
 try simp only [*, go_sem]
 intro hl13
 try simp only [*, go_sem]
 intro hl14
 refine oi h (fun hb15 h => ?_) (fun hb15 h => ?_)
 cases h.e
 simp only [*, go_sem, mA, mS]
 refine oi h (fun hb16 h => ?_) (fun hb16 h => ?_)
 cases h.e
 simp only [*, go_sem, mA, mS]
 try simp only [*, go_sem]
 refine jn0 h ([zP 3 0]) ([ox p1.bx]) (fun k18 h => ?_) (fun h => ?_)
 try simp only [*, go_sem]
 refine lp1 (reredosref_ActFault_L1 p1 k18) (fun a19_1 => [zP 3 0, zI 6 ((a19_1 : Nat) : Int)]) (fun a19_1 => [ox p1.bx]) h [] [some 1] (fun n20 a19_1 h => ?_) (by intros; rw [reredosref_ActFault_L1])
 rw [reredosref_ActFault_L1] at h
 try simp only [*, go_sem]
 intro hl21
 refine oi h (fun hb22 h => ?_) (fun hb22 h => ?_)
 have := of_decide_eq_true hb22
 refine obg h (fun x23 _ hkx23 h => ?_)
 try simp only [*, go_sem]
 refine cr h (reredosref_In_ok G x23 0 6000) (fun v24 h => ?_)
 refine oin h (fun hb25 hkhb25 h => ?_) (fun hb25 hkhb25 h => ?_)
 cases h.e
 simp only [*, go_sem, mA, mS]
 have := wrap_succ_max hkx23 hl13
 try simp only [*, go_sem]
 exact lc (a19_1 + 1) h.e [some 0]
 try simp only [*, go_sem]
 exact jc () h.e [some 0]
 try simp only [*, go_sem]
 refine cr h (reredosref_In_ok G p1.Kind 2 4) (fun v27 h => ?_)
 refine oi h (fun hb28 h => ?_) (fun hb28 h => ?_)
 refine oi h (fun hb29 h => ?_) (fun hb29 h => ?_)
 cases h.e
 simp only [*, go_sem, mA, mS]
 refine oin h (fun hb30 hkhb30 h => ?_) (fun hb30 hkhb30 h => ?_)
 refine oi h (fun hb31 h => ?_) (fun hb31 h => ?_)
 cases h.e
 simp only [*, go_sem, mA, mS]
 refine oi h (fun hb32 h => ?_) (fun hb32 h => ?_)
 cases h.e
 simp only [*, go_sem, mA, mS]
 refine oi h (fun hb33 h => ?_) (fun hb33 h => ?_)
 refine oi h (fun hb34 h => ?_) (fun hb34 h => ?_)
 refine oi h (fun hb35 h => ?_) (fun hb35 h => ?_)
 cases h.e
 simp only [*, go_sem, mA, mS]
 refine oi h (fun hb36 h => ?_) (fun hb36 h => ?_)
 try simp only [*, go_sem]
 intro hl37
 refine oi h (fun hb38 h => ?_) (fun hb38 h => ?_)
 cases h.e
 simp only [*, go_sem, mA, mS]
 refine oin h (fun hb39 hkhb39 h => ?_) (fun hb39 hkhb39 h => ?_)
 try simp only [*, go_sem]
 cases h.e
 simp only [*, go_sem, mA, mS]
 try simp only [*, go_sem]
 refine oin h (fun hb40 hkhb40 h => ?_) (fun hb40 hkhb40 h => ?_)
 cases h.e
 simp only [*, go_sem, mA, mS]
 refine oi h (fun hb41 h => ?_) (fun hb41 h => ?_)
 try simp only [*, go_sem]
 refine cr h (reredosref_callMay_ok G p1.Call) (fun v42 h => ?_)
 cases h.e
 simp only [*, go_sem, mA, mS]
 cases h.e
 simp only [*, go_sem, mA, mS]
 refine oin h (fun hb43 hkhb43 h => ?_) (fun hb43 hkhb43 h => ?_)
 try simp only [*, go_sem]
 cases h.e
 simp only [*, go_sem, mA, mS]
 try simp only [*, go_sem]
 refine oin h (fun hb44 hkhb44 h => ?_) (fun hb44 hkhb44 h => ?_)
 cases h.e
 simp only [*, go_sem, mA, mS]
 refine oi h (fun hb45 h => ?_) (fun hb45 h => ?_)
 try simp only [*, go_sem]
 refine cr h (reredosref_callMay_ok G p1.Call) (fun v46 h => ?_)
 cases h.e
 simp only [*, go_sem, mA, mS]
 cases h.e
 simp only [*, go_sem, mA, mS]
 refine oi h (fun hb47 h => ?_) (fun hb47 h => ?_)
 try simp only [*, go_sem]
 intro hl48
 refine oi h (fun hb49 h => ?_) (fun hb49 h => ?_)
 cases h.e
 simp only [*, go_sem, mA, mS]
 refine oin h (fun hb50 hkhb50 h => ?_) (fun hb50 hkhb50 h => ?_)
 try simp only [*, go_sem]
 cases h.e
 simp only [*, go_sem, mA, mS]
 try simp only [*, go_sem]
 refine oi h (fun hb51 h => ?_) (fun hb51 h => ?_)
 try simp only [*, go_sem]
 refine cr h (reredosref_callMay_ok G p1.Call) (fun v52 h => ?_)
 cases h.e
 simp only [*, go_sem, mA, mS]
 cases h.e
 simp only [*, go_sem, mA, mS]
 refine oin h (fun hb53 hkhb53 h => ?_) (fun hb53 hkhb53 h => ?_)
 try simp only [*, go_sem]
 cases h.e
 simp only [*, go_sem, mA, mS]
 try simp only [*, go_sem]
 refine oi h (fun hb54 h => ?_) (fun hb54 h => ?_)
 try simp only [*, go_sem]
 refine cr h (reredosref_callMay_ok G p1.Call) (fun v55 h => ?_)
 cases h.e
 simp only [*, go_sem, mA, mS]
 cases h.e
 simp only [*, go_sem, mA, mS]
 refine oi h (fun hb56 h => ?_) (fun hb56 h => ?_)
 try simp only [*, go_sem]
 intro hl57
 refine oi h (fun hb58 h => ?_) (fun hb58 h => ?_)
 cases h.e
 simp only [*, go_sem, mA, mS]
 refine oi h (fun hb59 h => ?_) (fun hb59 h => ?_)
 refine oin h (fun hb60 hkhb60 h => ?_) (fun hb60 hkhb60 h => ?_)
 cases h.e
 simp only [*, go_sem, mA, mS]
 refine oi h (fun hb61 h => ?_) (fun hb61 h => ?_)
 try simp only [*, go_sem]
 refine cr h (reredosref_callMay_ok G p1.Call) (fun v62 h => ?_)
 cases h.e
 simp only [*, go_sem, mA, mS]
 cases h.e
 simp only [*, go_sem, mA, mS]
 refine oi h (fun hb63 h => ?_) (fun hb63 h => ?_)
 try simp only [*, go_sem]
 refine cr h (reredosref_callMay_ok G p1.Call) (fun v64 h => ?_)
 cases h.e
 simp only [*, go_sem, mA, mS]
 cases h.e
 simp only [*, go_sem, mA, mS]
 refine oi h (fun hb65 h => ?_) (fun hb65 h => ?_)
 refine oin h (fun hb66 hkhb66 h => ?_) (fun hb66 hkhb66 h => ?_)
 cases h.e
 simp only [*, go_sem, mA, mS]
 refine oi h (fun hb67 h => ?_) (fun hb67 h => ?_)
 try simp only [*, go_sem]
 refine cr h (reredosref_callMay_ok G p1.Call) (fun v68 h => ?_)
 cases h.e
 simp only [*, go_sem, mA, mS]
 cases h.e
 simp only [*, go_sem, mA, mS]
 refine oi h (fun hb69 h => ?_) (fun hb69 h => ?_)
 try simp only [*, go_sem]
 refine cr h (reredosref_callMay_ok G p1.Call) (fun v70 h => ?_)
 cases h.e
 simp only [*, go_sem, mA, mS]
 cases h.e
 simp only [*, go_sem, mA, mS]
 refine oi h (fun hb71 h => ?_) (fun hb71 h => ?_)
 try simp only [*, go_sem]
 intro hl72
 refine oi h (fun hb73 h => ?_) (fun hb73 h => ?_)
 cases h.e
 simp only [*, go_sem, mA, mS]
 refine oi h (fun hb74 h => ?_) (fun hb74 h => ?_)
 refine oin h (fun hb75 hkhb75 h => ?_) (fun hb75 hkhb75 h => ?_)
 try simp only [*, go_sem]
 cases h.e
 simp only [*, go_sem, mA, mS]
 try simp only [*, go_sem]
 refine oi h (fun hb76 h => ?_) (fun hb76 h => ?_)
 refine oin h (fun hb77 hkhb77 h => ?_) (fun hb77 hkhb77 h => ?_)
 cases h.e
 simp only [*, go_sem, mA, mS]
 refine oi h (fun hb78 h => ?_) (fun hb78 h => ?_)
 try simp only [*, go_sem]
 refine cr h (reredosref_callMay_ok G p1.Call) (fun v79 h => ?_)
 cases h.e
 simp only [*, go_sem, mA, mS]
 cases h.e
 simp only [*, go_sem, mA, mS]
 refine oi h (fun hb80 h => ?_) (fun hb80 h => ?_)
 try simp only [*, go_sem]
 refine cr h (reredosref_callMay_ok G p1.Call) (fun v81 h => ?_)
 cases h.e
 simp only [*, go_sem, mA, mS]
 cases h.e
 simp only [*, go_sem, mA, mS]
 refine oi h (fun hb82 h => ?_) (fun hb82 h => ?_)
 refine oin h (fun hb83 hkhb83 h => ?_) (fun hb83 hkhb83 h => ?_)
 cases h.e
 simp only [*, go_sem, mA, mS]
 refine oi h (fun hb84 h => ?_) (fun hb84 h => ?_)
 try simp only [*, go_sem]
 refine cr h (reredosref_callMay_ok G p1.Call) (fun v85 h => ?_)
 cases h.e
 simp only [*, go_sem, mA, mS]
 cases h.e
 simp only [*, go_sem, mA, mS]
 refine oi h (fun hb86 h => ?_) (fun hb86 h => ?_)
 try simp only [*, go_sem]
 refine cr h (reredosref_callMay_ok G p1.Call) (fun v87 h => ?_)
 cases h.e
 simp only [*, go_sem, mA, mS]
 cases h.e
 simp only [*, go_sem, mA, mS]
 refine oi h (fun hb88 h => ?_) (fun hb88 h => ?_)
 refine oin h (fun hb89 hkhb89 h => ?_) (fun hb89 hkhb89 h => ?_)
 try simp only [*, go_sem]
 cases h.e
 simp only [*, go_sem, mA, mS]
 try simp only [*, go_sem]
 refine oi h (fun hb90 h => ?_) (fun hb90 h => ?_)
 refine oin h (fun hb91 hkhb91 h => ?_) (fun hb91 hkhb91 h => ?_)
 cases h.e
 simp only [*, go_sem, mA, mS]
 refine oi h (fun hb92 h => ?_) (fun hb92 h => ?_)
 try simp only [*, go_sem]
 refine cr h (reredosref_callMay_ok G p1.Call) (fun v93 h => ?_)
 cases h.e
 simp only [*, go_sem, mA, mS]
 cases h.e
 simp only [*, go_sem, mA, mS]
 refine oi h (fun hb94 h => ?_) (fun hb94 h => ?_)
 try simp only [*, go_sem]
 refine cr h (reredosref_callMay_ok G p1.Call) (fun v95 h => ?_)
 cases h.e
 simp only [*, go_sem, mA, mS]
 cases h.e
 simp only [*, go_sem, mA, mS]
 refine oi h (fun hb96 h => ?_) (fun hb96 h => ?_)
 refine oin h (fun hb97 hkhb97 h => ?_) (fun hb97 hkhb97 h => ?_)
 cases h.e
 simp only [*, go_sem, mA, mS]
 refine oi h (fun hb98 h => ?_) (fun hb98 h => ?_)
 try simp only [*, go_sem]
 refine cr h (reredosref_callMay_ok G p1.Call) (fun v99 h => ?_)
 cases h.e
 simp only [*, go_sem, mA, mS]
 cases h.e
 simp only [*, go_sem, mA, mS]
 refine oi h (fun hb100 h => ?_) (fun hb100 h => ?_)
 try simp only [*, go_sem]
 refine cr h (reredosref_callMay_ok G p1.Call) (fun v101 h => ?_)
 cases h.e
 simp only [*, go_sem, mA, mS]
 cases h.e
 simp only [*, go_sem, mA, mS]
 refine oin h (fun hb102 hkhb102 h => ?_) (fun hb102 hkhb102 h => ?_)
 refine oi h (fun hb103 h => ?_) (fun hb103 h => ?_)
 cases h.e
 simp only [*, go_sem, mA, mS]
 refine oi h (fun hb104 h => ?_) (fun hb104 h => ?_)
 cases h.e
 simp only [*, go_sem, mA, mS]
 refine oi h (fun hb105 h => ?_) (fun hb105 h => ?_)
 refine oi h (fun hb106 h => ?_) (fun hb106 h => ?_)
 refine oi h (fun hb107 h => ?_) (fun hb107 h => ?_)
 cases h.e
 simp only [*, go_sem, mA, mS]
 refine oi h (fun hb108 h => ?_) (fun hb108 h => ?_)
 try simp only [*, go_sem]
 intro hl109
 refine oi h (fun hb110 h => ?_) (fun hb110 h => ?_)
 cases h.e
 simp only [*, go_sem, mA, mS]
 refine oin h (fun hb111 hkhb111 h => ?_) (fun hb111 hkhb111 h => ?_)
 try simp only [*, go_sem]
 cases h.e
 simp only [*, go_sem, mA, mS]
 try simp only [*, go_sem]
 refine oin h (fun hb112 hkhb112 h => ?_) (fun hb112 hkhb112 h => ?_)
 cases h.e
 simp only [*, go_sem, mA, mS]
 refine oi h (fun hb113 h => ?_) (fun hb113 h => ?_)
 try simp only [*, go_sem]
 refine cr h (reredosref_callMay_ok G p1.Call) (fun v114 h => ?_)
 cases h.e
 simp only [*, go_sem, mA, mS]
 cases h.e
 simp only [*, go_sem, mA, mS]
 refine oin h (fun hb115 hkhb115 h => ?_) (fun hb115 hkhb115 h => ?_)
 try simp only [*, go_sem]
 cases h.e
 simp only [*, go_sem, mA, mS]
 try simp only [*, go_sem]
 refine oin h (fun hb116 hkhb116 h => ?_) (fun hb116 hkhb116 h => ?_)
 cases h.e
 simp only [*, go_sem, mA, mS]
 refine oi h (fun hb117 h => ?_) (fun hb117 h => ?_)
 try simp only [*, go_sem]
 refine cr h (reredosref_callMay_ok G p1.Call) (fun v118 h => ?_)
 cases h.e
 simp only [*, go_sem, mA, mS]
 cases h.e
 simp only [*, go_sem, mA, mS]
 refine oi h (fun hb119 h => ?_) (fun hb119 h => ?_)
 try simp only [*, go_sem]
 intro hl120
 refine oi h (fun hb121 h => ?_) (fun hb121 h => ?_)
 cases h.e
 simp only [*, go_sem, mA, mS]
 refine oin h (fun hb122 hkhb122 h => ?_) (fun hb122 hkhb122 h => ?_)
 try simp only [*, go_sem]
 cases h.e
 simp only [*, go_sem, mA, mS]
 try simp only [*, go_sem]
 refine oi h (fun hb123 h => ?_) (fun hb123 h => ?_)
 try simp only [*, go_sem]
 refine cr h (reredosref_callMay_ok G p1.Call) (fun v124 h => ?_)
 cases h.e
 simp only [*, go_sem, mA, mS]
 cases h.e
 simp only [*, go_sem, mA, mS]
 refine oin h (fun hb125 hkhb125 h => ?_) (fun hb125 hkhb125 h => ?_)
 try simp only [*, go_sem]
 cases h.e
 simp only [*, go_sem, mA, mS]
 try simp only [*, go_sem]
 refine oi h (fun hb126 h => ?_) (fun hb126 h => ?_)
 try simp only [*, go_sem]
 refine cr h (reredosref_callMay_ok G p1.Call) (fun v127 h => ?_)
 cases h.e
 simp only [*, go_sem, mA, mS]
 cases h.e
 simp only [*, go_sem, mA, mS]
 refine oi h (fun hb128 h => ?_) (fun hb128 h => ?_)
 try simp only [*, go_sem]
 intro hl129
 refine oi h (fun hb130 h => ?_) (fun hb130 h => ?_)
 cases h.e
 simp only [*, go_sem, mA, mS]
 refine oi h (fun hb131 h => ?_) (fun hb131 h => ?_)
 refine oin h (fun hb132 hkhb132 h => ?_) (fun hb132 hkhb132 h => ?_)
 cases h.e
 simp only [*, go_sem, mA, mS]
 refine oi h (fun hb133 h => ?_) (fun hb133 h => ?_)
 try simp only [*, go_sem]
 refine cr h (reredosref_callMay_ok G p1.Call) (fun v134 h => ?_)
 cases h.e
 simp only [*, go_sem, mA, mS]
 cases h.e
 simp only [*, go_sem, mA, mS]
 refine oi h (fun hb135 h => ?_) (fun hb135 h => ?_)
 try simp only [*, go_sem]
 refine cr h (reredosref_callMay_ok G p1.Call) (fun v136 h => ?_)
 cases h.e
 simp only [*, go_sem, mA, mS]
 cases h.e
 simp only [*, go_sem, mA, mS]
 refine oi h (fun hb137 h => ?_) (fun hb137 h => ?_)
 refine oin h (fun hb138 hkhb138 h => ?_) (fun hb138 hkhb138 h => ?_)
 cases h.e
 simp only [*, go_sem, mA, mS]
 refine oi h (fun hb139 h => ?_) (fun hb139 h => ?_)
 try simp only [*, go_sem]
 refine cr h (reredosref_callMay_ok G p1.Call) (fun v140 h => ?_)
 cases h.e
 simp only [*, go_sem, mA, mS]
 cases h.e
 simp only [*, go_sem, mA, mS]
 refine oi h (fun hb141 h => ?_) (fun hb141 h => ?_)
 try simp only [*, go_sem]
 refine cr h (reredosref_callMay_ok G p1.Call) (fun v142 h => ?_)
 cases h.e
 simp only [*, go_sem, mA, mS]
 cases h.e
 simp only [*, go_sem, mA, mS]
 refine oi h (fun hb143 h => ?_) (fun hb143 h => ?_)
 try simp only [*, go_sem]
 intro hl144
 refine oi h (fun hb145 h => ?_) (fun hb145 h => ?_)
 cases h.e
 simp only [*, go_sem, mA, mS]
 refine oi h (fun hb146 h => ?_) (fun hb146 h => ?_)
 refine oin h (fun hb147 hkhb147 h => ?_) (fun hb147 hkhb147 h => ?_)
 try simp only [*, go_sem]
 cases h.e
 simp only [*, go_sem, mA, mS]
 try simp only [*, go_sem]
 refine oi h (fun hb148 h => ?_) (fun hb148 h => ?_)
 refine oin h (fun hb149 hkhb149 h => ?_) (fun hb149 hkhb149 h => ?_)
 cases h.e
 simp only [*, go_sem, mA, mS]
 refine oi h (fun hb150 h => ?_) (fun hb150 h => ?_)
 try simp only [*, go_sem]
 refine cr h (reredosref_callMay_ok G p1.Call) (fun v151 h => ?_)
 cases h.e
 simp only [*, go_sem, mA, mS]
 cases h.e
 simp only [*, go_sem, mA, mS]
 refine oi h (fun hb152 h => ?_) (fun hb152 h => ?_)
 try simp only [*, go_sem]
 refine cr h (reredosref_callMay_ok G p1.Call) (fun v153 h => ?_)
 cases h.e
 simp only [*, go_sem, mA, mS]
 cases h.e
 simp only [*, go_sem, mA, mS]
 refine oi h (fun hb154 h => ?_) (fun hb154 h => ?_)
 refine oin h (fun hb155 hkhb155 h => ?_) (fun hb155 hkhb155 h => ?_)
 cases h.e
 simp only [*, go_sem, mA, mS]
 refine oi h (fun hb156 h => ?_) (fun hb156 h => ?_)
 try simp only [*, go_sem]
 refine cr h (reredosref_callMay_ok G p1.Call) (fun v157 h => ?_)
 cases h.e
 simp only [*, go_sem, mA, mS]
 cases h.e
 simp only [*, go_sem, mA, mS]
 refine oi h (fun hb158 h => ?_) (fun hb158 h => ?_)
 try simp only [*, go_sem]
 refine cr h (reredosref_callMay_ok G p1.Call) (fun v159 h => ?_)
 cases h.e
 simp only [*, go_sem, mA, mS]
 cases h.e
 simp only [*, go_sem, mA, mS]
 refine oi h (fun hb160 h => ?_) (fun hb160 h => ?_)
 refine oin h (fun hb161 hkhb161 h => ?_) (fun hb161 hkhb161 h => ?_)
 try simp only [*, go_sem]
 cases h.e
 simp only [*, go_sem, mA, mS]
 try simp only [*, go_sem]
 refine oi h (fun hb162 h => ?_) (fun hb162 h => ?_)
 refine oin h (fun hb163 hkhb163 h => ?_) (fun hb163 hkhb163 h => ?_)
 cases h.e
 simp only [*, go_sem, mA, mS]
 refine oi h (fun hb164 h => ?_) (fun hb164 h => ?_)
 try simp only [*, go_sem]
 refine cr h (reredosref_callMay_ok G p1.Call) (fun v165 h => ?_)
 cases h.e
 simp only [*, go_sem, mA, mS]
 cases h.e
 simp only [*, go_sem, mA, mS]
 refine oi h (fun hb166 h => ?_) (fun hb166 h => ?_)
 try simp only [*, go_sem]
 refine cr h (reredosref_callMay_ok G p1.Call) (fun v167 h => ?_)
 cases h.e
 simp only [*, go_sem, mA, mS]
 cases h.e
 simp only [*, go_sem, mA, mS]
 refine oi h (fun hb168 h => ?_) (fun hb168 h => ?_)
 refine oin h (fun hb169 hkhb169 h => ?_) (fun hb169 hkhb169 h => ?_)
 cases h.e
 simp only [*, go_sem, mA, mS]
 refine oi h (fun hb170 h => ?_) (fun hb170 h => ?_)
 try simp only [*, go_sem]
 refine cr h (reredosref_callMay_ok G p1.Call) (fun v171 h => ?_)
 cases h.e
 simp only [*, go_sem, mA, mS]
 cases h.e
 simp only [*, go_sem, mA, mS]
 refine oi h (fun hb172 h => ?_) (fun hb172 h => ?_)
 try simp only [*, go_sem]
 refine cr h (reredosref_callMay_ok G p1.Call) (fun v173 h => ?_)
 cases h.e
 simp only [*, go_sem, mA, mS]
 cases h.e
 simp only [*, go_sem, mA, mS]
def reredosref_actWords  : Option ((List ByteArray)) := (some [(⟨#[]⟩ : ByteArray), bs_5ed33f70, bs_45a69146, bs_6e9d2536, bs_12cba3ee, bs_e5e5c075, bs_dcaa9fd4, bs_ea2b2676, bs_599dcce2])
def F80 : VFn := ⟨2, (.seq (.reg [vo 0 (.mv (.c (.one (.nl 1))))]) (.seq (.reg [vo 1 (.bsl 1 9 [(.d (.s ⟨#[]⟩))] [(0, (.c (.one (.d (.s ⟨#[]⟩))))), (1, (.c (.one (.d (.s bs_5ed33f70))))), (2, (.c (.one (.d (.s bs_45a69146))))), (3, (.c (.one (.d (.s bs_6e9d2536))))), (4, (.c (.one (.d (.s bs_12cba3ee))))), (5, (.c (.one (.d (.s bs_e5e5c075))))), (6, (.c (.one (.d (.s bs_dcaa9fd4))))), (7, (.c (.one (.d (.s bs_ea2b2676))))), (8, (.c (.one (.d (.s bs_599dcce2)))))]), vm 0 1]) .ret)), [.t 0]⟩
theorem low80 : lowF Tryd.prog 80 = some F80.strip := by kernel_rfl
theorem fok80 : fOk Tryd.prog 80 = true := by kernel_rfl
theorem reredosref_actWords_ok  (r : (List ByteArray)) (h : reredosref_actWords  = some r) : FnRO Tryd.prog G 80 [] (fun rs => rs = [.one (.o 1 (r.map encS))]) := by
 refine FnRO.of' low80 fok80 (by simp [F80]) ?_
 rw [reredosref_actWords] at h
 replace h := Hd.mk h
 simp only [F80, go_sem]
 cases h.e
 simp only [*, go_sem, mA, mS]
def reredosref_Dec_R : Nat → Int → Option (ByteArray)
 | 0, _ => none
 | fu + 1, p0 => (if (decide (p0 < 0)) = true then (withK (fun (b2_1 : ByteArray) => (if bs_336d5ebc.size + b2_1.size ≤ maxLen then (some (bs_336d5ebc ++ b2_1)) else none)) fun k3 => (Option.bind (reredosref_Dec_R fu (IntKind.i64.wrap (0 - p0))) fun v4 => (k3 v4))) else (if (decide (p0 < 10)) = true then (some (strOfNums [IntKind.u8.wrap (IntKind.i64.wrap (48 + p0))])) else (Option.bind (reredosref_Dec_R fu (IntKind.i64.wrap (p0.tdiv 10))) fun v7 => (if v7.size + (strOfNums [IntKind.u8.wrap (IntKind.i64.wrap (48 + p0.tmod 10))]).size ≤ maxLen then (some (v7 ++ (strOfNums [IntKind.u8.wrap (IntKind.i64.wrap (48 + p0.tmod 10))]))) else none))))
def reredosref_Dec (p0 : Int) : Option (ByteArray) := reredosref_Dec_R 24 p0
def F51 : VFn := ⟨26, (.seq (.reg [vo 2 (.mv (.c (.one (.d (.s ⟨#[]⟩)))))]) (.seq (.seq (.reg [vm 3 0, bk 4 .lss 3 0]) (.cond (.t 4) (.seq (.regs [[vm 5 0, vo 6 (.un .neg (.t 5)), vo 7 (.call 51 [(.t 6)])], [vo 8 (.bin .s .add (.c (.one (.d (.s bs_336d5ebc)))) (.t 7)), vm 2 8]]) .ret) .skip)) (.seq (.seq (.reg [vm 9 0, bk 10 .lss 9 10]) (.cond (.t 10) (.seq (.reg [vm 11 0, vo 12 (.bin .i .add (ci 48) (.t 11)), vo 13 (.cvi .u8 (.t 12)), vo 14 (.bsl 1 1 [(.d (.i .u8 0))] [(0, (.t 13))]), vo 15 (.b2s (.t 14)), vm 2 15]) .ret) .skip)) (.seq (.draw [vd (vm 16 0) 0, vd (bk 17 .quo 16 10) 1, vd (vo 18 (.call 51 [(.t 17)])) 3, ⟨vm 19 0, 0, [2], none, []⟩, ⟨bk 20 .rem 19 10, 8, [2], none, []⟩, ⟨vo 21 (.bin .i .add (ci 48) (.t 20)), 24, [2], none, []⟩, ⟨vo 22 (.cvi .u8 (.t 21)), 56, [2], none, []⟩, ⟨vo 23 (.bsl 1 1 [(.d (.i .u8 0))] [(0, (.t 22))]), 120, [2], none, []⟩, ⟨vo 24 (.b2s (.t 23)), 248, [2], none, []⟩, vd (vo 25 (.bin .s .add (.t 18) (.t 24))) 511, vd (vm 2 25) 1023]) .ret)))), [.t 2]⟩
theorem low51 : lowF Tryd.prog 51 = some F51.strip := by kernel_rfl
theorem fok51 : fOk Tryd.prog 51 = true := by kernel_rfl
theorem reredosref_Dec_R_ok (fu : Nat) (p0 : Int) (r : ByteArray) (h : reredosref_Dec_R fu p0 = some r) : FnRO Tryd.prog G 51 [.one (.d (.i .i64 p0))] (fun rs => rs = [.one (.s r)]) := by
 induction fu generalizing p0 r with
 | zero => cases h
 | succ fu ih0 =>
  have ih := fun (_ : Nat → Option (List D)) => ih0
  refine FnRO.of' low51 fok51 (by simp [F51]) ?_
  rw [reredosref_Dec_R] at h
  replace h := Hd.mk h
  clear ih0
  simp only [F51, go_sem]
  refine oi h (fun hb1 h => ?_) (fun hb1 h => ?_)
  have := of_decide_eq_true hb1
  try simp only [*, go_sem]
  refine rg1 h (fun b2_1 => [(7, .one (.d (.s b2_1)))]) (fun b2_1 => []) (fun k3 h => ?_) (fun b2_1 h => ?_)
  try simp only [*, go_sem]
  refine cr h (ih G (IntKind.i64.wrap (0 - p0))) (fun v4 h => ?_)
  try simp only [*, go_sem]
  exact jc (v4) h.e []
  refine ck h (fun _ h => ?_)
  cases h.e
  simp only [*, go_sem, mA, mS]
  refine oi h (fun hb6 h => ?_) (fun hb6 h => ?_)
  have := of_decide_eq_true hb6
  cases h.e
  simp only [*, go_sem, mA, mS]
  refine obk h (fun v7 hv7 h => ?_)
  try simp only [*, go_sem]
  refine cd (ih G (IntKind.i64.wrap (p0.tdiv 10)) v7 hv7) ?_
  refine ck h (fun _ h => ?_)
  cases h.e
  simp only [*, go_sem, mA, mS]
theorem reredosref_Dec_ok (p0 : Int) (r : ByteArray) (h : reredosref_Dec p0 = some r) : FnRO Tryd.prog G 51 [.one (.d (.i .i64 p0))] (fun rs => rs = [.one (.s r)]) := reredosref_Dec_R_ok G 24 p0 r h
def reredosref_blanked_L1 (p0 : List Int) (k2 : ByteArray → Option (ByteArray)) : Nat → ByteArray → Nat → Option (ByteArray)
 | 0, _, _ => none
 | n4 + 1, a3_1, a3_2 => (if (decide (a3_2 < p0.length)) = true then (if a3_1.size + bs_7215ee9c.size ≤ maxLen then (Option.bind (p0[a3_2]?) fun x8 => (Option.bind (reredosref_Dec x8) fun v9 => (if a3_1.size + bs_7215ee9c.size + v9.size ≤ maxLen then (reredosref_blanked_L1 p0 k2 n4 ((a3_1 ++ bs_7215ee9c) ++ v9) (a3_2 + 1)) else none))) else none) else (k2 a3_1))
def reredosref_blanked (p0 : List Int) : Option (ByteArray) := (withK (fun (b1_1 : ByteArray) => (some b1_1)) fun k2 => (reredosref_blanked_L1 p0 k2 (p0.length + 1) (⟨#[]⟩ : ByteArray) 0))
def F81 : VFn := ⟨20, (.seq (.reg [vo 2 (.mv (.c (.one (.d (.s ⟨#[]⟩)))))]) (.seq (.reg [vo 3 (.mv (.c (.one (.d (.s ⟨#[]⟩)))))]) (.seq (.seq (.reg [mi 4 0]) (.wk (.block 0 (.loop (.seq (.seq (.reg [vm 5 4, vm 6 0, ln 7 6, bt 8 .lss 5 7]) (.cond (.t 8) .skip (.exit 0))) (.seq (.block 1 (.reg [vm 11 3, vo 12 (.bin .s .add (.t 11) (.c (.one (.d (.s bs_7215ee9c))))), vm 13 0, vm 14 4, xa 15 1 13 14, vs 16 15, vo 17 (.call 51 [(.t 16)]), vo 18 (.bin .s .add (.t 12) (.t 17)), vm 3 18])) (.reg [vm 9 4, bk 10 .add 9 1, vm 4 10]))))))) (.seq (.reg [vm 19 3, vm 2 19]) .ret)))), [.t 2]⟩
theorem low81 : lowF Tryd.prog 81 = some F81.strip := by kernel_rfl
theorem fok81 : fOk Tryd.prog 81 = true := by kernel_rfl
theorem reredosref_blanked_ok (p0 : List Int) (r : ByteArray) (h : reredosref_blanked p0 = some r) : FnRO Tryd.prog G 81 [.one (.d (.l 1 (p0.map encI)))] (fun rs => rs = [.one (.s r)]) := by
 refine FnRO.of' low81 fok81 (by simp [F81]) ?_
 rw [reredosref_blanked] at h
 replace h := Hd.mk h
 simp only [F81, go_sem]
 try simp only [*, go_sem]
 refine jn1 h (fun b1_1 => [(3, .one (.d (.s b1_1)))]) (fun b1_1 => []) (fun k2 h => ?_) (fun b1_1 h => ?_)
 try simp only [*, go_sem]
 refine lp2 (reredosref_blanked_L1 p0 k2) (fun a3_1 a3_2 => [zL 0 1 (p0.map encI), (3, .one (.d (.s a3_1))), zI 4 ((a3_2 : Nat) : Int)]) (fun a3_1 a3_2 => []) h [] [] (fun n4 a3_1 a3_2 h => ?_) (by intros; rw [reredosref_blanked_L1])
 rw [reredosref_blanked_L1] at h
 try simp only [*, go_sem]
 intro hl5
 refine oi h (fun hb6 h => ?_) (fun hb6 h => ?_)
 have := of_decide_eq_true hb6
 refine ck h (fun _ h => ?_)
 refine obg h (fun x8 _ hkx8 h => ?_)
 try simp only [*, go_sem]
 refine cr h (reredosref_Dec_ok G x8) (fun v9 h => ?_)
 refine ck h (fun _ h => ?_)
 have := wrap_succ_max hkx8 hl5
 try simp only [*, go_sem]
 exact lc (((a3_1 ++ bs_7215ee9c) ++ v9), a3_2 + 1) h.e []
 try simp only [*, go_sem]
 exact jc (a3_1) h.e []
 cases h.e
 simp only [*, go_sem, mA, mS]
def reredosref_callWords  : Option ((List ByteArray)) := (some [(⟨#[]⟩ : ByteArray), bs_8d589afa, bs_b5eda0a7, bs_8e13ffc9, bs_fffca4d6, bs_fff66e9b])
def F82 : VFn := ⟨2, (.seq (.reg [vo 0 (.mv (.c (.one (.nl 1))))]) (.seq (.reg [vo 1 (.bsl 1 6 [(.d (.s ⟨#[]⟩))] [(0, (.c (.one (.d (.s ⟨#[]⟩))))), (1, (.c (.one (.d (.s bs_8d589afa))))), (2, (.c (.one (.d (.s bs_b5eda0a7))))), (3, (.c (.one (.d (.s bs_8e13ffc9))))), (4, (.c (.one (.d (.s bs_fffca4d6))))), (5, (.c (.one (.d (.s bs_fff66e9b)))))]), vm 0 1]) .ret)), [.t 0]⟩
theorem low82 : lowF Tryd.prog 82 = some F82.strip := by kernel_rfl
theorem fok82 : fOk Tryd.prog 82 = true := by kernel_rfl
theorem reredosref_callWords_ok  (r : (List ByteArray)) (h : reredosref_callWords  = some r) : FnRO Tryd.prog G 82 [] (fun rs => rs = [.one (.o 1 (r.map encS))]) := by
 refine FnRO.of' low82 fok82 (by simp [F82]) ?_
 rw [reredosref_callWords] at h
 replace h := Hd.mk h
 simp only [F82, go_sem]
 cases h.e
 simp only [*, go_sem, mA, mS]
def reredosref_hexDigit (p0 : Int) : Option (Int) := (if (decide (p0 < 10)) = true then (some (IntKind.u8.wrap (IntKind.i64.wrap (48 + p0)))) else (some (IntKind.u8.wrap (IntKind.i64.wrap (IntKind.i64.wrap (97 + p0) - 10)))))
def F83 : VFn := ⟨12, (.seq (.reg [vo 2 (.mv (.c (.one (.d (.i .u8 0)))))]) (.seq (.seq (.reg [vm 3 0, bk 4 .lss 3 10]) (.cond (.t 4) (.seq (.reg [vm 5 0, vo 6 (.bin .i .add (ci 48) (.t 5)), vo 7 (.cvi .u8 (.t 6)), vm 2 7]) .ret) .skip)) (.seq (.reg [vm 8 0, vo 9 (.bin .i .add (ci 97) (.t 8)), bk 10 .sub 9 10, vo 11 (.cvi .u8 (.t 10)), vm 2 11]) .ret))), [.t 2]⟩
theorem low83 : lowF Tryd.prog 83 = some F83.strip := by kernel_rfl
theorem fok83 : fOk Tryd.prog 83 = true := by kernel_rfl
theorem reredosref_hexDigit_ok (p0 : Int) (r : Int) (h : reredosref_hexDigit p0 = some r) : FnRO Tryd.prog G 83 [.one (.d (.i .i64 p0))] (fun rs => rs = [.one (.i .u8 r)]) := by
 refine FnRO.of' low83 fok83 (by simp [F83]) ?_
 rw [reredosref_hexDigit] at h
 replace h := Hd.mk h
 simp only [F83, go_sem]
 refine oi h (fun hb1 h => ?_) (fun hb1 h => ?_)
 have := of_decide_eq_true hb1
 cases h.e
 simp only [*, go_sem, mA, mS]
 cases h.e
 simp only [*, go_sem, mA, mS]
end Go.V.Dec
