/- Plain laws (LinesShow): no program, no memory; conditions as stated. -/
import Derived.Test.YtmplhamakfnjbaaDoorG2
import Derived.Test.YtmplhamakfnjbaaDoorQLines
import Derived.Test.YtmplhamakfnjbaaDoorQItoa
set_option linter.unusedVariables false
set_option linter.unusedSimpArgs false
namespace Go.V.Dec
open Go Go.Proofs Classical
set_option maxRecDepth 100000
set_option maxHeartbeats 4000000
variable (G : Nat → Option (List D))
def sp1 : List UInt8 := [32]
def blank (l : List Int) : List UInt8 := (l.map fun n => 32 :: Lib.itoa n).flatten
theorem blank_nil : blank [] = [] := rfl
theorem blank_cons (n : Int) (l : List Int) : blank (n :: l) = 32 :: Lib.itoa n ++ blank l := by simp [blank]
theorem blank_len {l : List Int} (h : ∀ x ∈ l, Rg x) : (blank l).length ≤ 22 * l.length := by
  induction l with
  | nil => simp [blank]
  | cons n l ih =>
    have h1 := itoa_len (h n (by simp))
    have h2 := ih fun x hx => h x (by simp [hx])
    rw [blank_cons]; simp; omega
theorem bs_sp : bL bs_7215ee9c = [32] := rfl
theorem bs_sp_size : bs_7215ee9c.size = 1 := rfl
theorem acc_loop {A R : Type} {L : Nat → A → Nat → Option R} {l : List Int} {k : A → Option R} {step : A → Int → A} {ok : Nat → A → Prop}
    (hk : ∀ n a i, ¬ i < l.length → L (n + 1) a i = k a) (hs : ∀ n a i x, l[i]? = some x → i < l.length → ok i a → L (n + 1) a i = L n (step a x) (i + 1))
    (ho : ∀ a i x, l[i]? = some x → i < l.length → ok i a → ok (i + 1) (step a x)) : ∀ n a i, l.length < n + i → i ≤ l.length → ok i a → L n a i = k ((l.drop i).foldl step a) := by
  intro n
  induction n with
  | zero => intro a i h1 h2; omega
  | succ n ih =>
    intro a i h1 h2 h3
    by_cases hi : i < l.length
    · have hx : l[i]? = some l[i] := List.getElem?_eq_getElem hi
      rw [hs n a i _ hx hi h3, ih _ _ (by omega) (by omega) (ho a i _ hx hi h3), List.drop_eq_getElem_cons hi, List.foldl_cons]
    · rw [hk n a i hi, List.drop_eq_nil_of_le (by omega), List.foldl_nil]
theorem foldB (l : List Int) : ∀ a : ByteArray, l.foldl (fun a n => bM (bL a ++ (32 :: Lib.itoa n))) a = bM (bL a ++ blank l) := by
  induction l with
  | nil => intro a; rw [List.foldl_nil, blank_nil, List.append_nil, bM_L]
  | cons n l ih => intro a; rw [List.foldl_cons, ih, bL_mk, blank_cons, List.append_assoc]
theorem foldL (l : List Int) : ∀ a : List UInt8, l.foldl (fun a n => a ++ (32 :: Lib.itoa n)) a = a ++ blank l := by
  induction l with
  | nil => intro a; rw [List.foldl_nil, blank_nil, List.append_nil]
  | cons n l ih => intro a; rw [List.foldl_cons, ih, blank_cons, List.append_assoc]
theorem asked1 (l : List Int) (hl : ∀ x ∈ l, Rg x) (k : ByteArray → Option ByteArray) (a : ByteArray) (ha : a.size + 22 * l.length ≤ 1000000000000) : lines_asked_L1 l k (l.length + 1) a 0 = k (bM (bL a ++ blank l)) := by
  rw [acc_loop (L := lines_asked_L1 l k) (l := l) (k := k) (step := fun a n => bM (bL a ++ (32 :: Lib.itoa n))) (ok := fun i a => a.size + 22 * (l.length - i) ≤ 1000000000000) _ _ _ _ _ _ (by omega) (by omega) (by simpa using ha), List.drop_zero, foldB]
  · intro n a i hi; rw [lines_asked_L1, if_neg (by simpa using hi)]
  · intro n a i x hx hi ho
    have hr := hl x (List.mem_of_getElem? hx)
    have hn := itoa_len hr
    have e : bs_7215ee9c ++ bM (Lib.itoa x) = bM (32 :: Lib.itoa x) := by rw [app_bM, bs_sp]; rfl
    rw [lines_asked_L1, if_pos (by simpa using hi), hx, Option.bind_some, itoaF_eq hr, Option.bind_some, bM_size, bs_sp_size, if_pos (by unfold maxLen; omega), if_pos (by unfold maxLen; omega), e, app_bM]
  · intro a i x hx hi ho
    have hn := itoa_len (hl x (List.mem_of_getElem? hx))
    simp only [bM_size, List.length_append, List.length_cons, ← bL_size]; omega
theorem show2 (l : List Int) (hl : ∀ x ∈ l, Rg x) (k : List UInt8 → Option (ByteArray × Int × Int)) (a : List UInt8) (ha : a.length + 22 * l.length ≤ 1000000000000) : lines_Show_L2 l k (l.length + 1) 0 a = k (a ++ blank l) := by
  rw [acc_loop (L := fun n a i => lines_Show_L2 l k n i a) (l := l) (k := k) (step := fun a n => a ++ (32 :: Lib.itoa n)) (ok := fun i a => a.length + 22 * (l.length - i) ≤ 1000000000000) _ _ _ (l.length + 1) a 0 (by omega) (by omega) (by simpa using ha), List.drop_zero, foldL]
  · intro n a i hi; rw [lines_Show_L2, if_neg (by simpa using hi)]
  · intro n a i x hx hi ho
    have hr := hl x (List.mem_of_getElem? hx)
    have hn := itoa_len hr
    have e : bs_7215ee9c ++ bM (Lib.itoa x) = bM (32 :: Lib.itoa x) := by rw [app_bM, bs_sp]; rfl
    rw [lines_Show_L2, if_pos (by simpa using hi), hx, Option.bind_some, itoaF_eq hr, Option.bind_some, e, bM_size, bM_size, bs_sp_size, if_pos (by unfold maxLen; omega), if_pos (by simp; omega)]
    rfl
  · intro a i x hx hi ho
    have hn := itoa_len (hl x (List.mem_of_getElem? hx))
    simp only [List.length_append, List.length_cons]; omega
theorem blanked_eq (l : List Int) (hl : ∀ x ∈ l, Rg x) (ha : l.length ≤ 1000000000) : reredosref_blanked l = some (bM (blank l)) := by
  rw [reredosref_blanked, withK]
  rw [acc_loop (L := reredosref_blanked_L1 l fun b => some b) (l := l) (k := fun b => some b) (step := fun a n => bM (bL a ++ (32 :: Lib.itoa n))) (ok := fun i a => a.size + 22 * (l.length - i) ≤ 1000000000000) _ _ _ _ _ _ (by omega) (by omega) (by show (0 : Nat) + _ ≤ _; omega), List.drop_zero, foldB]
  · rfl
  · intro n a i hi; rw [reredosref_blanked_L1, if_neg (by simpa using hi)]
  · intro n a i x hx hi ho
    have hr := hl x (List.mem_of_getElem? hx)
    have hn := itoa_len hr
    have e : (a ++ bs_7215ee9c) ++ bM (Lib.itoa x) = bM (bL a ++ (32 :: Lib.itoa x)) := by rw [app_bM, bL_app, bs_sp]; simp
    rw [reredosref_blanked_L1, if_pos (by simpa using hi), bs_sp_size, if_pos (by unfold maxLen; omega), hx, Option.bind_some, dec_eq hr, Option.bind_some, bM_size, if_pos (by unfold maxLen; omega), e]
  · intro a i x hx hi ho
    have hn := itoa_len (hl x (List.mem_of_getElem? hx))
    simp only [bM_size, List.length_append, List.length_cons, ← bL_size]; omega

structure CallR (x : Call) : Prop where
  k : x.Kind = 1 ∨ x.Kind = 2 ∨ x.Kind = 3 ∨ x.Kind = 4 ∨ x.Kind = 5
  n : Rg x.N
  l : Rg x.Label
  y : Rg x.Key
  v : Rg x.Value
def cw (k : Int) : List UInt8 := if k = 1 then [98, 101, 103, 105, 110] else if k = 2 then [103, 101, 116] else if k = 3 then [112, 117, 116] else if k = 4 then [99, 111, 109, 109, 105, 116] else [114, 111, 108, 108, 98, 97, 99, 107]
def cargs (x : Call) : List Int := if x.Kind = 1 then [] else if x.Kind = 2 then [x.N, x.Label, x.Key] else if x.Kind = 3 then [x.N, x.Key, x.Value] else [x.N]
def callL (x : Call) : List UInt8 := 32 :: cw x.Kind ++ blank (cargs x)
theorem cargs_rg {x : Call} (h : CallR x) : ∀ y ∈ cargs x, Rg y := by
  intro y hy
  unfold cargs at hy
  have := h.n; have := h.l; have := h.y; have := h.v
  split at hy
  · cases hy
  · split at hy
    · simp only [List.mem_cons, List.not_mem_nil, or_false] at hy; rcases hy with rfl | rfl | rfl <;> assumption
    · split at hy
      · simp only [List.mem_cons, List.not_mem_nil, or_false] at hy; rcases hy with rfl | rfl | rfl <;> assumption
      · simp only [List.mem_cons, List.not_mem_nil, or_false] at hy; rcases hy with rfl; assumption
theorem cargs_len (x : Call) : (cargs x).length ≤ 3 := by
  unfold cargs; repeat' split
  all_goals simp
theorem cw_len (k : Int) : (cw k).length ≤ 8 := by
  unfold cw; repeat' split
  all_goals simp
theorem cw_at {x : Call} (h : CallR x) : 0 ≤ x.Kind ∧ tab_lines_calls[x.Kind.toNat]? = some (bM (cw x.Kind)) ∧ [(⟨#[]⟩ : ByteArray), bs_8d589afa, bs_b5eda0a7, bs_8e13ffc9, bs_fffca4d6, bs_fff66e9b][x.Kind.toNat]? = some (bM (cw x.Kind)) := by
  rcases h.k with e | e | e | e | e <;> rw [e] <;> exact ⟨by decide, rfl, rfl⟩
theorem asked_eq (x : Call) (h : CallR x) : lines_asked x = some (bM (callL x)) := by
  obtain ⟨h0, h1, _⟩ := cw_at h
  have hc := cw_len x.Kind
  have hl := cargs_len x
  have e : bs_7215ee9c ++ bM (cw x.Kind) = bM (32 :: cw x.Kind) := by rw [app_bM, bs_sp]; rfl
  have key : ∀ l, l = cargs x → lines_asked_L1 l (fun b => some b) (l.length + 1) (bs_7215ee9c ++ bM (cw x.Kind)) 0 = some (bM (callL x)) := by
    rintro l rfl
    rw [asked1 _ (cargs_rg h) _ _ (by rw [e, bM_size, List.length_cons]; omega), e, bL_mk]; rfl
  simp only [lines_asked, withK]
  rw [if_pos h0, h1, Option.bind_some, bM_size, bs_sp_size, if_pos (by unfold maxLen; omega)]
  rcases h.k with k | k | k | k | k <;> simp only [k, Int.reduceBEq, if_true, if_false, Bool.false_eq_true] <;> rw [← k] <;> exact key _ (by simp [cargs, k])
/-! Bytes as digits of sixteen. -/
def hi (b : Nat) : Int := (((bs_4032af8d.data.toList.getD (((b : Int).fdiv (2 ^ 4)).toNat) 0).toNat : Nat) : Int)
def lo (b : Nat) : Int := (((bs_4032af8d.data.toList.getD ((andU8 (b : Int) 15).toNat) 0).toNat : Nat) : Int)
theorem hexf : ∀ b : Fin 256, (reredosref_hexDigit (IntKind.i64.wrap ((IntKind.i64.wrap ((b.1 : Nat) : Int)).tdiv 16)) = some (hi b.1) ∧ reredosref_hexDigit ((IntKind.i64.wrap ((b.1 : Nat) : Int)).tmod 16) = some (lo b.1)) ∧
    (0 ≤ ((b.1 : Nat) : Int).fdiv (2 ^ 4) ∧ ((b.1 : Nat) : Int).fdiv (2 ^ 4) < ((bs_4032af8d.size : Nat) : Int)) ∧ (0 ≤ andU8 ((b.1 : Nat) : Int) 15 ∧ andU8 ((b.1 : Nat) : Int) 15 < ((bs_4032af8d.size : Nat) : Int)) := by decide +kernel
theorem hexloop {R : Type} {L : Nat → Int → List Int → Option R} {k : List Int → Option R} {m : Nat} {f : Nat → List Int} (hk : ∀ n (i : Nat) acc, ¬ i < m → L (n + 1) (i : Int) acc = k acc)
    (hs : ∀ n (i : Nat) acc, i < m → acc.length = 2 * i + 1 → L (n + 1) (i : Int) acc = L n ((i + 1 : Nat) : Int) (acc ++ f i)) (hf : ∀ i, (f i).length = 2) :
    ∀ n (i : Nat) acc, m < n + i → i ≤ m → acc.length = 2 * i + 1 → L n (i : Int) acc = k (acc ++ ((List.range' i (m - i)).map f).flatten) := by
  intro n
  induction n with
  | zero => intro i acc h1 h2; omega
  | succ n ih =>
    intro i acc h1 h2 h3
    by_cases h : i < m
    · rw [hs n i acc h h3, ih (i + 1) _ (by omega) (by omega) (by rw [List.length_append, hf]; omega), show m - i = (m - (i + 1)) + 1 from by omega, List.range'_succ]
      simp
    · rw [hk n i acc h, show m - i = 0 from by omega]; simp
def hexs (p : ByteArray) : List Int := [46] ++ ((List.range' 0 p.size).map fun i => [hi (p.data.toList.getD i 0).toNat, lo (p.data.toList.getD i 0).toNat]).flatten
theorem hexs_len (p : ByteArray) : (hexs p).length = 1 + 2 * p.size := by
  have : ∀ l : List Nat, ((l.map fun i => [hi (p.data.toList.getD i 0).toNat, lo (p.data.toList.getD i 0).toNat]).flatten).length = 2 * l.length := by
    intro l
    induction l with
    | nil => rfl
    | cons x l ih => simp only [List.map_cons, List.flatten_cons, List.length_append, ih, List.length_cons, List.length_nil]; omega
  rw [hexs, List.length_append, this, List.length_range']; rfl
theorem hexfb (b : UInt8) : (reredosref_hexDigit (IntKind.i64.wrap ((IntKind.i64.wrap ((b.toNat : Nat) : Int)).tdiv 16)) = some (hi b.toNat) ∧ reredosref_hexDigit ((IntKind.i64.wrap ((b.toNat : Nat) : Int)).tmod 16) = some (lo b.toNat)) ∧
    (0 ≤ ((b.toNat : Nat) : Int).fdiv (2 ^ 4) ∧ ((b.toNat : Nat) : Int).fdiv (2 ^ 4) < ((bs_4032af8d.size : Nat) : Int)) ∧ (0 ≤ andU8 ((b.toNat : Nat) : Int) 15 ∧ andU8 ((b.toNat : Nat) : Int) 15 < ((bs_4032af8d.size : Nat) : Int)) := hexf ⟨b.toNat, b.toNat_lt⟩
theorem wrap_nx {i m : Nat} (h : i < m) (hm : m ≤ maxLen) : IntKind.i64.wrap ((i : Int) + 1) = ((i + 1 : Nat) : Int) := by
  unfold maxLen at hm
  rw [wrap_in (by omega) (by omega)]; rfl
theorem fits1 {n : Nat} (h : n ≤ 1000000) : fits 1 n := by unfold fits maxLen; omega
theorem hex_eq (p : ByteArray) (hp : p.size ≤ 60) : lines_hex p = some (strOfNums (hexs p)) := by
  rw [lines_hex, withK]
  have := hexloop (L := lines_hex_L1 p fun b => some (strOfNums b)) (k := fun b => some (strOfNums b)) (m := p.size) (f := fun i => [hi (p.data.toList.getD i 0).toNat, lo (p.data.toList.getD i 0).toNat]) (fun n i acc h => by rw [lines_hex_L1, if_neg (by simpa using h)])
    (fun n i acc h ha => by
      obtain ⟨_, h1, h2⟩ := hexfb (p.data.toList.getD i 0)
      have hb : 0 ≤ (i : Int) ∧ (i : Int) < ((p.size : Nat) : Int) := by omega
      rw [lines_hex_L1, if_pos (by simpa using h), if_pos hb, Int.toNat_natCast, if_pos h1, if_pos hb, if_pos h2, if_pos (fits1 (by omega)), wrap_nx h (by unfold maxLen; omega)]; rfl)
    (fun i => rfl) (p.size + 1) 0 [46] (by omega) (by omega) rfl
  rw [Nat.sub_zero] at this
  exact this
theorem hexA_eq (a : Act) (hp : a.Line.size ≤ 60) (k : List Int → Option ByteArray) : reredosref_actLine_L1 a k (a.Line.size + 1) 0 [46] = k (hexs a.Line) := by
  have := hexloop (L := reredosref_actLine_L1 a k) (k := k) (m := a.Line.size) (f := fun i => [hi (a.Line.data.toList.getD i 0).toNat, lo (a.Line.data.toList.getD i 0).toNat]) (fun n i acc h => by rw [reredosref_actLine_L1, if_neg (by simpa using h)])
    (fun n i acc h ha => by
      obtain ⟨⟨h1, h2⟩, _⟩ := hexfb (a.Line.data.toList.getD i 0)
      have hb : 0 ≤ (i : Int) ∧ (i : Int) < ((a.Line.size : Nat) : Int) := by omega
      rw [reredosref_actLine_L1, if_pos (by simpa using h), if_pos hb, Int.toNat_natCast, h1, Option.bind_some, if_pos hb, h2, Option.bind_some, if_pos (fits1 (by omega)), wrap_nx h (by unfold maxLen; omega)])
    (fun i => rfl) (a.Line.size + 1) 0 [46] (by omega) (by omega) rfl
  rw [Nat.sub_zero] at this
  exact this

structure ActR (a : Act) : Prop where
  k : a.Kind = 1 ∨ a.Kind = 2 ∨ a.Kind = 3 ∨ a.Kind = 4 ∨ a.Kind = 5 ∨ a.Kind = 6 ∨ a.Kind = 7 ∨ a.Kind = 8
  s : Rg a.Site
  t : Rg a.To
  l : Rg a.Label
  p : Rg a.Pick
  kp : ∀ x ∈ a.Keep, Rg x
  kl : a.Keep.length ≤ 6
  ls : a.Line.size ≤ 60
  c : a.Kind = 1 → CallR a.Call
theorem call_zero {x : Call} (h : lines_call x = some 0) : CallR x := by
  rw [(call_same x).1] at h
  simp only [reredosref_callMay, In_eq, Option.bind_some] at h
  by_cases h1 : 1 ≤ x.Kind ∧ x.Kind ≤ 5
  case neg => simp [decide_eq_false h1] at h
  by_cases h2 : 0 ≤ x.N ∧ x.N ≤ 1048576
  case neg => simp [decide_eq_true h1, decide_eq_false h2] at h
  by_cases h3 : 0 ≤ x.Label ∧ x.Label ≤ 5
  case neg => simp [decide_eq_true h1, decide_eq_true h2, decide_eq_false h3] at h
  by_cases h4 : 0 ≤ x.Key ∧ x.Key ≤ 8
  case neg => simp [decide_eq_true h1, decide_eq_true h2, decide_eq_true h3, decide_eq_false h4] at h
  by_cases h5 : 0 ≤ x.Value ∧ x.Value ≤ 1073741824
  case neg => simp [decide_eq_true h1, decide_eq_true h2, decide_eq_true h3, decide_eq_true h4, decide_eq_false h5] at h
  exact ⟨by omega, ⟨by omega, by omega⟩, ⟨by omega, by omega⟩, ⟨by omega, by omega⟩, ⟨by omega, by omega⟩⟩
theorem check_zero {c : Config} {a : Act} (h : lines_Check c a = some 0) : ActR a := by
  obtain ⟨e, he, h0⟩ := fault_total c
  simp only [lines_Check, label_same, he, num_eq, Option.bind_some] at h
  by_cases he0 : e = 0
  case neg => rw [if_pos (by simpa using he0)] at h; exact absurd (Option.some.inj h) he0
  obtain ⟨hs, hl, hl2, _⟩ := h0 he0
  rw [if_neg (by simpa using he0)] at h
  by_cases k1 : a.Kind < 1
  · rw [if_pos (by simpa using k1)] at h; cases h
  rw [if_neg (by simpa using k1)] at h
  by_cases k2 : a.Kind > 8
  · rw [if_pos (by simpa using k2)] at h; cases h
  rw [if_neg (by simpa using k2)] at h
  by_cases hn : numR c a
  case neg => rw [decide_eq_false hn] at h; simp at h
  rw [decide_eq_true hn] at h
  simp only [Bool.not_true, Bool.false_eq_true, if_false] at h
  obtain ⟨n1, n2, n3, n4, n5, n6, n7⟩ := hn
  refine ⟨by omega, ⟨by omega, by omega⟩, ⟨by omega, by omega⟩, ⟨by omega, by omega⟩, ⟨by omega, by omega⟩, fun x hx => ⟨(n7 x hx).1, by have := (n7 x hx).2; omega⟩, by omega, by omega, fun hk => ?_⟩
  cases hb : lines_bare a with
  | none => rw [hb] at h; cases h
  | some b =>
    rw [hb] at h
    cases b with
    | false => simp at h
    | true =>
      simp only [hk, Option.bind_some, Bool.not_true, Bool.false_eq_true, if_false, Int.reduceBEq, if_true] at h
      obtain ⟨v, h1, h2⟩ := Option.bind_eq_some_iff.1 h
      cases h2
      exact call_zero h1
def vals (a : Act) : List Int := if a.Kind = 2 ∨ a.Kind = 3 ∨ a.Kind = 4 then [a.Site, a.To, a.Label, a.Pick] else if a.Kind = 5 then [] else if a.Kind = 6 then a.Site :: a.Keep else if a.Kind = 7 then [a.Site] else [a.Site, a.Label]
def wd (k : Int) : List UInt8 := if k = 1 then [97, 115, 107] else if k = 2 then [100, 101, 108, 105, 118, 101, 114] else if k = 3 then [100, 114, 111, 112] else if k = 4 then [99, 111, 112, 121] else if k = 5 then [116, 105, 99, 107] else if k = 6 then [99, 114, 97, 115, 104] else if k = 7 then [115, 116, 97, 114, 116] else [116, 121, 112, 101]
def tailL (a : Act) : List UInt8 := if a.Kind = 1 then callL a.Call else if a.Kind = 8 then 32 :: bL (strOfNums (hexs a.Line)) else []
def lineL (a : Act) : List UInt8 := wd a.Kind ++ blank (vals a) ++ tailL a ++ [10]
theorem wd_len (k : Int) : (wd k).length ≤ 7 := by
  unfold wd; repeat' split
  all_goals simp
theorem vals_rg {a : Act} (h : ActR a) : ∀ x ∈ vals a, Rg x := by
  intro x hx
  have h1 := h.s; have h2 := h.t; have h3 := h.l; have h4 := h.p; have h5 := h.kp
  unfold vals at hx
  repeat' split at hx
  all_goals simp only [List.mem_cons, List.not_mem_nil, or_false] at hx
  · rcases hx with rfl | rfl | rfl | rfl <;> assumption
  · rcases hx with rfl | hx
    · assumption
    · exact h5 x hx
  · subst hx; assumption
  · rcases hx with rfl | rfl <;> assumption
theorem vals_len {a : Act} (h : ActR a) : (vals a).length ≤ 7 := by
  have := h.kl
  unfold vals; repeat' split
  all_goals simp
  omega
theorem values_eq {a : Act} (h : ActR a) : lines_values a = some (vals a) := by
  have hf : fits 8 (1 + a.Keep.length) := by have := h.kl; unfold fits maxLen; omega
  rcases h.k with k | k | k | k | k | k | k | k <;> simp [lines_values, withK, vals, k, hf]
theorem hexs_bl (p : ByteArray) : (bL (strOfNums (hexs p))).length = 1 + 2 * p.size := by rw [← bL_size, strOfNums_size, hexs_len]
theorem blank_l2 (a b : Int) (h1 : Rg a) (h2 : Rg b) : (blank [a, b]).length ≤ 44 := blank_len (l := [a, b]) (by simpa using ⟨h1, h2⟩)
theorem callL_len {x : Call} (h : CallR x) : (callL x).length ≤ 75 := by
  have h1 := cw_len x.Kind
  have h2 := blank_len (cargs_rg h)
  have h3 := cargs_len x
  unfold callL
  simp only [List.length_append, List.length_cons]; omega
theorem tail_len {a : Act} (h : ActR a) : (tailL a).length ≤ 122 := by
  unfold tailL
  split
  · rename_i k; have := callL_len (h.c k); omega
  · split
    · have := h.ls; rw [List.length_cons, hexs_bl]; omega
    · simp
theorem line_len {a : Act} (h : ActR a) : (lineL a).length ≤ 400 := by
  have h1 := wd_len a.Kind
  have h2 := blank_len (vals_rg h)
  have h3 := vals_len h
  have h4 := tail_len h
  unfold lineL
  simp only [List.length_append, List.length_cons, List.length_nil]; omega
theorem wd_at {a : Act} (h : ActR a) : 0 ≤ a.Kind ∧ tab_lines_words[a.Kind.toNat]? = some (bM (wd a.Kind)) ∧ [(⟨#[]⟩ : ByteArray), bs_5ed33f70, bs_45a69146, bs_6e9d2536, bs_12cba3ee, bs_e5e5c075, bs_dcaa9fd4, bs_ea2b2676, bs_599dcce2][a.Kind.toNat]? = some (bM (wd a.Kind)) := by
  rcases h.k with e | e | e | e | e | e | e | e <;> rw [e] <;> exact ⟨by decide, rfl, rfl⟩
theorem data_bM (l : List UInt8) : (bM l).data.toList = l := bL_mk l
theorem show_step {c : Config} {l : List Act} {k7 : List UInt8 → Option (ByteArray × Int × Int)} {n i : Nat} {acc : List UInt8} {a : Act} (hi : l[i]? = some a) (hc : lines_Check c a = some 0) (h : ActR a) (ha : acc.length ≤ 1000000000) :
    lines_Show_L1 c l k7 (n + 1) i acc = lines_Show_L1 c l k7 n (i + 1) (acc ++ lineL a) := by
  obtain ⟨w0, w1, _⟩ := wd_at h
  have g1 := wd_len a.Kind
  have g2 := blank_len (vals_rg h)
  have g3 := vals_len h
  have g4 := tail_len h
  have hil := lt_of_at hi
  rw [lines_Show_L1, if_pos (by simpa using hil), hi, Option.bind_some, hc, Option.bind_some, if_neg (by simp), if_pos w0, w1, Option.bind_some, bM_size, if_pos (by omega), values_eq h, Option.bind_some]
  simp only [withK]
  rw [show2 _ (vals_rg h) _ _ (by rw [data_bM, List.length_append]; omega), data_bM]
  have gl : ∀ t : List UInt8, t = tailL a → (if (0 ≤ (10 : Int) ∧ (10 : Int) < 256) ∧ (acc ++ wd a.Kind ++ blank (vals a) ++ t).length + 1 ≤ 140737488355328 then lines_Show_L1 c l k7 n (i + 1) (acc ++ wd a.Kind ++ blank (vals a) ++ t ++ [UInt8.ofNat (Int.toNat (10 : Int))]) else none) = lines_Show_L1 c l k7 n (i + 1) (acc ++ lineL a) := by
    rintro t rfl
    rw [if_pos ⟨by decide, by simp only [List.length_append]; omega⟩]
    simp only [lineL, List.append_assoc]; rfl
  by_cases k1 : a.Kind = 1
  · have hk := callL_len (h.c k1)
    rw [if_pos (by simpa using k1), asked_eq _ (h.c k1), Option.bind_some, bM_size, if_pos (by simp only [List.length_append]; omega), data_bM]
    exact gl _ (by rw [tailL, if_pos k1])
  rw [if_neg (by simpa using k1)]
  by_cases k8 : a.Kind = 8
  · have hs := h.ls
    rw [if_pos (by simpa using k8), hex_eq _ hs, Option.bind_some, strOfNums_size, hexs_len, bs_sp_size, if_pos (by unfold maxLen; omega), sz_app, strOfNums_size, hexs_len, bs_sp_size, if_pos (by simp only [List.length_append]; omega)]
    exact gl _ (by rw [tailL, if_neg k1, if_pos k8]; show bL _ = _; rw [bL_app, bs_sp]; rfl)
  rw [if_neg (by simpa using k8)]
  have := gl [] (by rw [tailL, if_neg k1, if_neg k8])
  simpa only [List.append_nil] using this

theorem bs_nl : bL bs_68b329da = [10] := rfl
theorem bs_nl_size : bs_68b329da.size = 1 := rfl
theorem actLine_eq {a : Act} (h : ActR a) : reredosref_actLine a = some (bM (lineL a)) := by
  obtain ⟨w0, _, w2⟩ := wd_at h
  have g1 := wd_len a.Kind
  have g2 := blank_len (vals_rg h)
  have g3 := vals_len h
  have g4 := tail_len h
  have fin : ∀ t : ByteArray, bL t = wd a.Kind ++ blank (vals a) ++ tailL a → (if t.size + bs_68b329da.size ≤ maxLen then some (t ++ bs_68b329da) else none) = some (bM (lineL a)) := by
    intro t ht
    rw [if_pos (by rw [bL_size, ht, bs_nl_size]; unfold maxLen; simp only [List.length_append]; omega)]
    congr 1
    refine bL_ext ?_
    rw [bL_app, ht, bs_nl, bL_mk, lineL]
  simp only [reredosref_actLine, reredosref_actWords, Option.bind_some, withK]
  rw [if_pos w0, w2, Option.bind_some]
  have one : ∀ (v : List Int), (∀ x ∈ v, Rg x) → v.length ≤ 7 → (bM (blank v)).size ≤ 154 := fun v h1 h2 => by have := blank_len h1; rw [bM_size]; omega
  rcases h.k with k | k | k | k | k | k | k | k <;> simp only [k, Int.reduceBEq, if_true, if_false, Bool.false_eq_true]
  · -- ask
    have hr : ∀ x ∈ [a.Site, a.Label], Rg x := by simpa using ⟨h.s, h.l⟩
    have hb := one _ hr (by simp)
    obtain ⟨c0, _, c2⟩ := cw_at (h.c k)
    have hcl := cargs_len a.Call
    have hcr := cargs_rg (h.c k)
    have hcb := one _ hcr (by omega)
    have hcw := cw_len a.Call.Kind
    rw [k] at g1 fin
    rw [blanked_eq _ hr (by simp), Option.bind_some, bM_size, if_pos (by unfold maxLen; omega), bs_sp_size, if_pos (by unfold maxLen; omega)]
    simp only [reredosref_callWords, Option.bind_some]
    rw [if_pos c0, c2, Option.bind_some, bM_size (cw _), if_pos (by unfold maxLen; omega)]
    have ev : vals a = [a.Site, a.Label] := by simp [vals, k]
    have et : tailL a = 32 :: cw a.Call.Kind ++ blank (cargs a.Call) := by simp only [tailL, k, if_true, callL]
    have go : ∀ v, v = cargs a.Call → (reredosref_blanked v).bind (fun b => if (wd 1).length + (bM (blank [a.Site, a.Label])).size + 1 + (cw a.Call.Kind).length + b.size ≤ maxLen then (if (bM (wd 1) ++ bM (blank [a.Site, a.Label]) ++ bs_7215ee9c ++ bM (cw a.Call.Kind) ++ b).size + bs_68b329da.size ≤ maxLen then some (bM (wd 1) ++ bM (blank [a.Site, a.Label]) ++ bs_7215ee9c ++ bM (cw a.Call.Kind) ++ b ++ bs_68b329da) else none) else none) = some (bM (lineL a)) := by
      rintro v rfl
      rw [blanked_eq _ hcr (by omega), Option.bind_some, if_pos (by unfold maxLen; omega)]
      exact fin _ (by simp only [bL_app, bL_mk, bs_sp, ev, et]; simp)
    rcases (h.c k).k with q | q | q | q | q <;> simp only [q, Int.reduceBEq, Int.reduceBNe, bne_self_eq_false, if_true, if_false, Bool.false_eq_true]
    · rw [q] at et hcw
      refine fin _ ?_
      simp only [bL_app, bL_mk, bs_sp, ev, et, show cargs a.Call = [] from by simp [cargs, q], blank_nil]; simp
    all_goals rw [q] at go; exact go _ (by simp [cargs, q])
  · -- 2
    rw [k] at fin g1
    have ev : vals a = [a.Site, a.To, a.Label, a.Pick] := by simp [vals, k]
    have hr : ∀ x ∈ [a.Site, a.To, a.Label, a.Pick], Rg x := ev ▸ vals_rg h
    have hb := one _ hr (by simp)
    rw [blanked_eq _ hr (by simp), Option.bind_some, bM_size (wd _), if_pos (by unfold maxLen; omega)]
    exact fin _ (by simp only [bL_app, bL_mk, ev, tailL, k]; simp)
  · rw [k] at fin g1
    have ev : vals a = [a.Site, a.To, a.Label, a.Pick] := by simp [vals, k]
    have hr : ∀ x ∈ [a.Site, a.To, a.Label, a.Pick], Rg x := ev ▸ vals_rg h
    have hb := one _ hr (by simp)
    rw [blanked_eq _ hr (by simp), Option.bind_some, bM_size (wd _), if_pos (by unfold maxLen; omega)]
    exact fin _ (by simp only [bL_app, bL_mk, ev, tailL, k]; simp)
  · rw [k] at fin g1
    have ev : vals a = [a.Site, a.To, a.Label, a.Pick] := by simp [vals, k]
    have hr : ∀ x ∈ [a.Site, a.To, a.Label, a.Pick], Rg x := ev ▸ vals_rg h
    have hb := one _ hr (by simp)
    rw [blanked_eq _ hr (by simp), Option.bind_some, bM_size (wd _), if_pos (by unfold maxLen; omega)]
    exact fin _ (by simp only [bL_app, bL_mk, ev, tailL, k]; simp)
  · rw [k] at fin g1
    exact fin _ (by simp only [bL_mk, vals, tailL, k]; simp [blank_nil])
  · rw [k] at fin g1
    have ev : vals a = a.Site :: a.Keep := by simp [vals, k]
    have hr : ∀ x ∈ [a.Site], Rg x := by simpa using h.s
    have hb := one _ hr (by simp)
    have hb2 := one _ h.kp (by have := h.kl; omega)
    rw [blanked_eq _ hr (by simp), Option.bind_some, bM_size (wd _), if_pos (by unfold maxLen; omega), blanked_eq _ h.kp (by have := h.kl; omega), Option.bind_some, if_pos (by unfold maxLen; omega)]
    exact fin _ (by simp only [bL_app, bL_mk, ev, tailL, k, blank_cons, blank_nil]; simp)
  · rw [k] at fin g1
    have ev : vals a = [a.Site] := by simp [vals, k]
    have hr : ∀ x ∈ [a.Site], Rg x := by simpa using h.s
    have hb := one _ hr (by simp)
    rw [blanked_eq _ hr (by simp), Option.bind_some, bM_size (wd _), if_pos (by unfold maxLen; omega)]
    exact fin _ (by simp only [bL_app, bL_mk, ev, tailL, k]; simp)
  · rw [k] at fin g1
    have ev : vals a = [a.Site, a.Label] := by simp [vals, k]
    have hr : ∀ x ∈ [a.Site, a.Label], Rg x := by simpa using ⟨h.s, h.l⟩
    have hb := one _ hr (by simp)
    have hs := h.ls
    rw [hexA_eq a hs, blanked_eq _ hr (by simp), Option.bind_some, bM_size (wd _), if_pos (by unfold maxLen; omega), bs_sp_size, if_pos (by unfold maxLen; omega), strOfNums_size, hexs_len, if_pos (by unfold maxLen; omega)]
    exact fin _ (by simp only [bL_app, bL_mk, bs_sp, ev, tailL, k]; simp)
theorem shown_step {c : Config} {l : List Act} {k9 : ByteArray → Option (ByteArray × Int × Int)} {n i : Nat} {acc : ByteArray} {a : Act} (hi : l[i]? = some a) (hc : reredosref_ActFault c a = some 0) (h : ActR a) (ha : acc.size ≤ 1000000000) :
    reredosref_ActsShown_L1 c l k9 (n + 1) acc i = reredosref_ActsShown_L1 c l k9 n (bM (bL acc ++ lineL a)) (i + 1) := by
  have hil := lt_of_at hi
  have hl := line_len h
  rw [reredosref_ActsShown_L1, if_pos (by simpa using hil), hi, Option.bind_some, hc, Option.bind_some, if_neg (by simp), actLine_eq h, Option.bind_some, bM_size, if_pos (by unfold maxLen; omega), app_bM]
theorem show_loop (c : Config) (l : List Act) (hc : c.Labels.length ≤ maxLen) (hl : l.length ≤ 3000) : ∀ n i acc, l.length < n + i → i ≤ l.length → acc.length ≤ 400 * i →
    ∃ r, lines_Show_L1 c l (fun b => some ((⟨b.toArray⟩ : ByteArray), 0, 0)) n i acc = some r ∧ reredosref_ActsShown_L1 c l (fun b => some (b, 0, 0)) n (bM acc) i = some r := by
  intro n
  induction n with
  | zero => intro i acc h1 h2; omega
  | succ n ih =>
    intro i acc h1 h2 h3
    by_cases hi : i < l.length
    · have hx : l[i]? = some l[i] := List.getElem?_eq_getElem hi
      obtain ⟨e1, r, e2⟩ := act_same c l[i] hc
      by_cases hr : r = 0
      · subst hr
        have hA := check_zero (e1.trans e2)
        have := line_len hA
        rw [show_step hx (e1.trans e2) hA (by omega), shown_step hx e2 hA (by rw [bM_size]; omega), bL_mk]
        exact ih (i + 1) _ (by omega) (by omega) (by rw [List.length_append]; omega)
      · refine ⟨((⟨#[]⟩ : ByteArray), ((i : Nat) : Int), r), ?_, ?_⟩
        rotate_left
        · rw [reredosref_ActsShown_L1, if_pos (by simpa using hi), hx, Option.bind_some, e2, Option.bind_some, if_pos (by simpa using hr)]
        · rw [lines_Show_L1, if_pos (by simpa using hi), hx, Option.bind_some, e1, e2, Option.bind_some, if_pos (by simpa using hr)]
    · refine ⟨(bM acc, 0, 0), ?_, ?_⟩
      rotate_left
      · rw [reredosref_ActsShown_L1, if_neg (by simpa using hi)]
      · rw [lines_Show_L1, if_neg (by simpa using hi)]; rfl
theorem shows_same (c : Config) (l : List Act) (hc : c.Labels.length ≤ maxLen) : ∃ r, lines_Show c l = some r ∧ reredosref_ActsShown c l = some r := by
  obtain ⟨e, he, h0⟩ := fault_total c
  simp only [lines_Show, reredosref_ActsShown, label_same, he, withK, Option.bind_some]
  by_cases he0 : e = 0
  · subst he0
    simp only [bne_self_eq_false, beq_self_eq_true, Bool.false_eq_true, if_false, if_true]
    by_cases hl : (l.length : Int) > 3000
    · rw [if_pos (by simpa using hl), if_pos (by simpa using hl)]
      exact ⟨_, rfl, rfl⟩
    · rw [if_neg (by simpa using hl), if_neg (by simpa using hl)]
      exact show_loop c l hc (by omega) _ 0 [] (by omega) (by omega) (by simp)
  · rw [if_pos (by simpa using he0), if_neg (by simpa using he0), if_pos (by simpa using he0)]
    exact ⟨_, rfl, rfl⟩

end Go.V.Dec
