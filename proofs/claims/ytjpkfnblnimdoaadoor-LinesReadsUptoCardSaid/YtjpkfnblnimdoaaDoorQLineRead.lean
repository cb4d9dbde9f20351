/- Plain laws (LineRead): no program, no memory; conditions as stated. -/
import Derived.Test.YtjpkfnblnimdoaaDoorG2
import Derived.Test.YtjpkfnblnimdoaaDoorQLines
set_option linter.unusedVariables false
set_option linter.unusedSimpArgs false
namespace Go.V.Dec
open Go Go.Proofs Classical
set_option maxRecDepth 100000
set_option maxHeartbeats 4000000
variable (G : Nat → Option (List D))
theorem wrap_u8b (n : Int) : IntKind.u8.wrap n = n % 256 := by
  unfold IntKind.wrap
  simp [IntKind.bits, IntKind.signed]
def bL (s : ByteArray) : List UInt8 := s.data.toList
def bM (l : List UInt8) : ByteArray := ⟨l.toArray⟩
theorem bL_app (a b : ByteArray) : bL (a ++ b) = bL a ++ bL b := by simp [bL]
theorem bL_size (s : ByteArray) : s.size = (bL s).length := by rw [bL, Array.length_toList]; rfl
theorem bL_mk (l : List UInt8) : bL (bM l) = l := by simp [bL, bM]
theorem bM_L (s : ByteArray) : bM (bL s) = s := by
  obtain ⟨⟨l⟩⟩ := s
  rfl
theorem bM_size (l : List UInt8) : (bM l).size = l.length := by rw [bL_size, bL_mk]
theorem bL_ext {a b : ByteArray} (h : bL a = bL b) : a = b := by rw [← bM_L a, h, bM_L]
theorem sz_app (a b : ByteArray) : (a ++ b).size = a.size + b.size := by rw [bL_size, bL_size, bL_size, bL_app, List.length_append]
theorem bM_app (a b : List UInt8) : bM a ++ bM b = bM (a ++ b) := bL_ext (by rw [bL_app, bL_mk, bL_mk, bL_mk])
theorem app_bM (a : ByteArray) (b : List UInt8) : a ++ bM b = bM (bL a ++ b) := bL_ext (by rw [bL_app, bL_mk, bL_mk])
theorem dig_byte (n : Nat) (h : n < 10) : strOfNums [IntKind.u8.wrap (IntKind.i64.wrap (48 + (n : Int)))] = bM [UInt8.ofNat (48 + n)] := by
  rw [wrap_in (n := 48 + (n : Int)) (by omega) (by omega), show IntKind.u8.wrap (48 + (n : Int)) = ((48 + n : Nat) : Int) from by rw [wrap_u8b]; omega]
  rw [strOfNums, bM, List.map_cons, List.map_nil, Int.toNat_natCast]
def Rg (n : Int) : Prop := 0 ≤ n ∧ n ≤ 2147483648
theorem itoaF_eq {n : Int} (h : Rg n) : itoaF n = some (bM (Lib.itoa n)) := by
  have h1 := h.1
  have h2 := h.2
  rw [itoaF, if_pos (by omega)]; rfl
theorem itoa_len {n : Int} (h : Rg n) : (Lib.itoa n).length ≤ 21 := by
  have h1 := h.1
  have h2 := h.2
  exact Lib.itoa_length_le n (by omega) (by omega)

theorem toL_eq {a b : ByteArray} : (a.toList == b.toList) = true ↔ a = b := by
  rw [ByteArray.toList_eq, ByteArray.toList_eq, beq_iff_eq]
  exact ⟨fun h => bL_ext h, fun h => by rw [h]⟩
theorem toL_dec (a b : ByteArray) : (a.toList == b.toList) = decide (a = b) := by
  rw [Bool.eq_iff_iff, decide_eq_true_eq]; exact toL_eq
/-- The pieces between single blanks. -/
def pieces : List UInt8 → List (List UInt8)
  | [] => [[]]
  | c :: r => if c = 32 then [] :: pieces r else match pieces r with
    | p :: ps => (c :: p) :: ps
    | [] => [[c]]
theorem pieces_ne : ∀ l, pieces l ≠ []
  | [] => by simp [pieces]
  | c :: r => by
    unfold pieces
    split
    · simp
    · split <;> simp
theorem pieces_len : ∀ l, (pieces l).length ≤ l.length + 1
  | [] => by simp [pieces]
  | c :: r => by
    have := pieces_len r
    unfold pieces
    split
    · simp; omega
    · split
      · rename_i h; rw [h] at this; simp at this ⊢; omega
      · simp
theorem index_cons (c : UInt8) (r : List UInt8) : Lib.index (c :: r) [32] = if c = 32 then 0 else if Lib.index r [32] = -1 then -1 else Lib.index r [32] + 1 := by
  rw [Lib.index]
  by_cases h : c = 32
  · subst h; rfl
  · have : ([32] : List UInt8).isPrefixOf (c :: r) = false := by
      simp only [List.isPrefixOf, Bool.and_true, beq_eq_false_iff_ne]
      exact fun e => h e.symm
    rw [this, if_neg h]
    simp only [Bool.false_eq_true, if_false, beq_iff_eq]
theorem split_pieces : ∀ l : List UInt8, Lib.splitK [32] 0 (Lib.count l [32]) l = pieces l
  | [] => by
    have : Lib.index [] [32] = -1 := rfl
    rw [Lib.count_miss this]; rfl
  | c :: r => by
    have ih := split_pieces r
    have hi := index_cons c r
    unfold pieces
    by_cases h : c = 32
    · rw [if_pos h] at hi ⊢
      have hc : Lib.count (c :: r) [32] = 1 + Lib.count r [32] := Lib.count_hit (i := 0) (by simp) (by simpa using hi)
      rw [hc, Nat.add_comm, Lib.splitK, hi]
      simp only [List.length_cons, List.length_nil, Int.toNat_zero, Nat.zero_add, List.take_zero, List.drop_succ_cons, List.drop_zero, ih]
      rfl
    · rw [if_neg h] at hi ⊢
      by_cases hr : Lib.index r [32] = -1
      · rw [if_pos hr] at hi
        rw [Lib.count_miss hr] at ih
        rw [Lib.count_miss hi, ← ih]; rfl
      · rw [if_neg hr] at hi
        obtain ⟨i, hn⟩ : ∃ i : Nat, Lib.index r [32] = i := ⟨(Lib.index r [32]).toNat, by have := Lib.index_ge r [32]; omega⟩
        have h1 : Lib.count r [32] = 1 + Lib.count (r.drop (i + 1)) [32] := Lib.count_hit (by simp) hn
        have h2 : Lib.count (c :: r) [32] = 1 + Lib.count (r.drop (i + 1)) [32] := Lib.count_hit (i := i + 1) (by simp) (by rw [hi, hn]; rfl)
        rw [h1, Nat.add_comm, Lib.splitK, if_neg (by simpa using hr), hn] at ih
        rw [h2, Nat.add_comm, Lib.splitK, if_neg (by rw [hi, hn, beq_iff_eq]; omega), hi, hn, ← ih]
        have e : ((i : Int) + 1).toNat = i + 1 := by omega
        simp only [e, Int.toNat_natCast, List.length_cons, List.length_nil, Nat.zero_add, Nat.add_zero, List.take_succ_cons, List.drop_succ_cons]
theorem map_bM {l : List ByteArray} {k : List (List UInt8)} (h : l.map (·.data.toList) = k) : l = k.map bM := by
  subst h
  rw [List.map_map]
  conv => lhs; rw [← List.map_id l]
  exact List.map_congr_left fun x _ => (bM_L x).symm
def words (p : ByteArray) : List ByteArray := (pieces (bL p)).map bM
theorem splitF_eq {p : ByteArray} (h : p.size < 4294967281) : splitF p bs_7215ee9c = some (words p) := by
  rw [splitF, if_pos ⟨h, by decide⟩]
  congr 1
  refine map_bM ?_
  rw [Lib.splitB_data]
  exact split_pieces (bL p)
theorem ext_bM (p : ByteArray) (a b : Nat) : p.extract a b = bM (((bL p).drop a).take (b - a)) := by
  refine bL_ext ?_
  rw [bL_mk, bL, ByteArray.data_extract, Array.toList_extract, List.extract_eq_take_drop]; rfl
def glue (cur : List UInt8) : List (List UInt8) → List (List UInt8)
  | p :: ps => (cur ++ p) :: ps
  | [] => [cur]
theorem parts_loop (p : ByteArray) (hp : p.size ≤ 1000000000) (k : List ByteArray → Option (List ByteArray)) : ∀ (m i f N : Nat) (out : List ByteArray), p.size - i = m → i ≤ p.size → f ≤ i → out.length ≤ i → p.size + 2 ≤ N + i →
    reredosref_partsOf_L1 p k N (f : Int) (i : Int) out = k (out ++ (glue (((bL p).drop f).take (i - f)) (pieces ((bL p).drop i))).map bM) := by
  intro m
  induction m with
  | zero =>
    intro i f N out h1 h2 h3 h4 h5
    have hi : i = p.size := by omega
    subst hi
    obtain ⟨N, rfl⟩ : ∃ n, N = n + 2 := ⟨N - 2, by omega⟩
    rw [reredosref_partsOf_L1, if_pos (by simp), if_pos (by simp), withK, if_pos ⟨by omega, by omega, by omega⟩, if_pos (by unfold fits maxLen; omega), reredosref_partsOf_L1, if_neg]
    · have hd : (bL p).drop p.size = [] := List.drop_eq_nil_of_le (by rw [← bL_size]; exact Nat.le_refl _)
      rw [hd]
      simp only [pieces, glue, List.append_nil, List.map_cons, List.map_nil, Int.toNat_natCast, ext_bM]
    · rw [wrap_in (by omega) (by omega)]; simp; omega
  | succ m ih =>
    intro i f N out h1 h2 h3 h4 h5
    obtain ⟨N, rfl⟩ : ∃ n, N = n + 1 := ⟨N - 1, by omega⟩
    have hi : i < p.size := by omega
    have hl : i < (bL p).length := by rw [← bL_size]; exact hi
    have hw : IntKind.i64.wrap ((i : Int) + 1) = ((i + 1 : Nat) : Int) := by rw [wrap_in (by omega) (by omega)]; rfl
    have hb : p.data.toList.getD i 0 = (bL p)[i] := by show (bL p).getD i 0 = _; rw [List.getD_eq_getElem?_getD, List.getElem?_eq_getElem hl]; rfl
    rw [reredosref_partsOf_L1, if_pos (by simp; omega), if_neg (by simp; omega), if_pos ⟨by omega, by omega⟩, withK, Int.toNat_natCast, hb, hw]
    rw [List.drop_eq_getElem_cons hl, pieces]
    by_cases hc : (bL p)[i] = 32
    · rw [if_pos (by rw [hc]; rfl), if_pos ⟨by omega, by omega, by omega⟩, if_pos (by unfold fits maxLen; omega), if_pos hc]
      have := ih (i + 1) (i + 1) N (out ++ [p.extract f i]) (by omega) (by omega) (by omega) (by simp; omega) (by omega)
      simp only [Int.toNat_natCast] at this ⊢
      rw [this]
      congr 1
      rw [Nat.sub_self, List.take_zero, ext_bM, List.append_assoc]
      congr 1
      cases hq : pieces ((bL p).drop (i + 1)) with
      | nil => exact absurd hq (pieces_ne _)
      | cons q qs => simp [glue]
    · have hne : ¬ ((((bL p)[i].toNat : Nat) : Int) == 32) = true := by
        rw [beq_iff_eq]
        intro e
        exact hc (UInt8.toNat_inj.1 (by show (bL p)[i].toNat = 32; omega))
      rw [if_neg hne, if_neg hc]
      show reredosref_partsOf_L1 p k N (f : Int) ((i + 1 : Nat) : Int) out = _
      rw [ih (i + 1) f N out (by omega) (by omega) (by omega) (by omega) (by omega)]
      congr 2
      have ht : ((bL p).drop f).take (i + 1 - f) = ((bL p).drop f).take (i - f) ++ [(bL p)[i]] := by
        rw [show i + 1 - f = (i - f) + 1 from by omega, List.take_add_one, List.getElem?_drop, show f + (i - f) = i from by omega, List.getElem?_eq_getElem hl]; rfl
      cases hq : pieces ((bL p).drop (i + 1)) with
      | nil => exact absurd hq (pieces_ne _)
      | cons q qs => simp only [glue, ht, List.append_assoc, List.singleton_append]
theorem parts_eq {p : ByteArray} (hp : p.size ≤ 1000000000) : reredosref_partsOf p = some (words p) := by
  rw [reredosref_partsOf, withK]
  have := parts_loop p hp (fun b => some b) p.size 0 0 (p.size + 2) [] (by omega) (by omega) (by omega) (by simp) (by omega)
  rw [show ((0 : Nat) : Int) = 0 from rfl] at this
  rw [this]
  congr 1
  rw [Nat.sub_zero, List.take_zero, List.drop_zero, List.nil_append, words]
  cases hq : pieces (bL p) with
  | nil => exact absurd hq (pieces_ne _)
  | cons q qs => rfl

/-- What a row of digits spells. -/
def valG (d : UInt8 → Nat) : Nat → List UInt8 → Nat
  | acc, [] => acc
  | acc, c :: r => valG d (acc * 10 + d c) r
theorem valG_cons (d : UInt8 → Nat) (acc : Nat) (c : UInt8) (r : List UInt8) : valG d acc (c :: r) = valG d (acc * 10 + d c) r := by rw [valG]
theorem valG_nil (d : UInt8 → Nat) (acc : Nat) : valG d acc [] = acc := by rw [valG]
theorem valG_app (d : UInt8 → Nat) (l : List UInt8) : ∀ (acc : Nat) (c : UInt8), valG d acc (l ++ [c]) = valG d acc l * 10 + d c := by
  induction l with
  | nil => intro acc c; rw [List.nil_append, valG_cons, valG_nil, valG_nil]
  | cons x l ih => intro acc c; rw [List.cons_append, valG_cons, valG_cons, ih]
theorem valG_le (d : UInt8 → Nat) (l : List UInt8) : ∀ acc : Nat, acc ≤ valG d acc l := by
  induction l with
  | nil => intro acc; rw [valG_nil]; exact Nat.le_refl _
  | cons c l ih =>
    intro acc
    have h := ih (acc * 10 + d c)
    rw [valG_cons]
    omega
def dgt (c : UInt8) : Nat := c.toNat - 48
theorem dig_toNat {n : Nat} (h : n < 10) : (UInt8.ofNat (48 + n)).toNat = 48 + n := by
  have h2 : 48 + n < 256 := by omega
  rw [UInt8.toNat_ofNat_of_lt' h2]
theorem dgt_of {n : Nat} (h : n < 10) : dgt (UInt8.ofNat (48 + n)) = n := by
  unfold dgt
  rw [dig_toNat h, Nat.add_sub_cancel_left]
def isD (l : List UInt8) : Prop := ∀ c ∈ l, 48 ≤ c.toNat ∧ c.toNat ≤ 57
theorem dec_one {n : Nat} (hn : n < 10) : valG dgt 0 (Lib.decDigits n) = n ∧ isD (Lib.decDigits n) := by
  rw [Lib.decDigits_one hn]
  refine ⟨?_, fun c hc => ?_⟩
  · rw [valG_cons, valG_nil, dgt_of hn]; omega
  · simp only [List.mem_singleton] at hc; subst hc; rw [dig_toNat hn]; omega
theorem dec_val : ∀ (k n : Nat), n ≤ k → valG dgt 0 (Lib.decDigits n) = n ∧ isD (Lib.decDigits n) := by
  intro k
  induction k with
  | zero => intro n h; exact dec_one (by omega)
  | succ k ih =>
    intro n h
    by_cases hn : n < 10
    · exact dec_one hn
    · obtain ⟨h1, h2⟩ := ih (n / 10) (by omega)
      have hm : n % 10 < 10 := Nat.mod_lt _ (by omega)
      rw [Lib.decDigits, dif_neg hn]
      refine ⟨by rw [valG_app, h1, dgt_of hm]; omega, fun c hc => ?_⟩
      rcases List.mem_append.1 hc with hc | hc
      · exact h2 c hc
      · simp only [List.mem_singleton] at hc; subst hc; rw [dig_toNat hm]; omega
theorem dec_ne (n : Nat) : Lib.decDigits n ≠ [] := by
  rw [Lib.decDigits]; split <;> simp
theorem parse_val (l : List UInt8) : ∀ acc : Nat, isD l → valG dgt acc l ≤ 1000000000000000000 → Lib.parseUint10 acc l = .ok (valG dgt acc l) := by
  induction l with
  | nil => intro acc _ _; rw [valG_nil, Lib.parseUint10]
  | cons c l ih =>
    intro acc h hv
    have hc := h c (by simp)
    have hle := valG_le dgt l (acc * 10 + dgt c)
    rw [valG_cons] at hv ⊢
    have hi := ih (acc * 10 + dgt c) (fun x hx => h x (by simp [hx])) hv
    have hd : c.toNat - 48 = dgt c := rfl
    rw [Lib.parseUint10, if_pos hc, hd]
    generalize dgt c = d at *
    rw [if_neg (by omega), if_neg (by omega), hi]

/-! Numbers of 64 bits as words. -/
theorem parse_val2 (l : List UInt8) : ∀ acc : Nat, isD l → valG dgt acc l ≤ 9223372036854775808 → Lib.parseUint10 acc l = .ok (valG dgt acc l) := by
  induction l with
  | nil => intro acc _ _; rw [valG_nil, Lib.parseUint10]
  | cons c l ih =>
    intro acc h hv
    have hc := h c (by simp)
    have hle := valG_le dgt l (acc * 10 + dgt c)
    rw [valG_cons] at hv ⊢
    have hi := ih (acc * 10 + dgt c) (fun x hx => h x (by simp [hx])) hv
    have hd : c.toNat - 48 = dgt c := rfl
    rw [Lib.parseUint10, if_pos hc, hd]
    generalize dgt c = d at *
    rw [if_neg (by omega), if_neg (by omega), hi]
theorem mag_dec (n : Nat) (h : n ≤ 9223372036854775808) : Lib.parseMag (Lib.decDigits n) = .ok n := by
  obtain ⟨h1, h2⟩ := dec_val n n (Nat.le_refl _)
  rw [Lib.parseMag, if_neg (dec_ne n), parse_val2 _ _ h2 (by rw [h1]; exact h), h1]
theorem atoi_dec2 (n : Nat) (h : n ≤ 9223372036854775807) : Lib.atoiAll (Lib.decDigits n) = .ok (n : Int) := by
  have hm := mag_dec n (by omega)
  obtain ⟨_, h2⟩ := dec_val n n (Nat.le_refl _)
  cases hl : Lib.decDigits n with
  | nil => exact absurd hl (dec_ne n)
  | cons c r =>
    have hc := h2 c (by rw [hl]; simp)
    rw [hl] at hm
    simp only [Lib.atoiAll]
    rw [if_neg (by omega), hm]
    simp only []
    rw [if_neg (by omega), if_neg (by omega), if_neg (by omega)]
theorem atoi_neg (n : Nat) (h1 : 1 ≤ n) (h : n ≤ 9223372036854775808) : Lib.atoiAll (45 :: Lib.decDigits n) = .ok (-(n : Int)) := by
  have hm := mag_dec n h
  simp only [Lib.atoiAll]
  rw [if_pos (.inr rfl), hm]
  simp only []
  have h45 : (45 : UInt8).toNat = 45 := rfl
  rw [if_neg (by rw [h45]; omega), if_neg (by omega), if_pos h45]
/-- The word is the text of a number of 64 bits. -/
def IsI (s : ByteArray) (n : Int) : Prop := (-9223372036854775808 ≤ n ∧ n ≤ 9223372036854775807) ∧ s = bM (Lib.itoa n)
theorem atoi_itoa {n : Int} (h : -9223372036854775808 ≤ n ∧ n ≤ 9223372036854775807) : Lib.atoiAll (Lib.itoa n) = .ok n := by
  by_cases h0 : 0 ≤ n
  · obtain ⟨m, rfl⟩ := Int.eq_ofNat_of_zero_le h0
    rw [Lib.itoa_nonneg]; exact atoi_dec2 m (by omega)
  · obtain ⟨m, rfl⟩ : ∃ m : Nat, n = -(m : Int) := ⟨n.natAbs, by omega⟩
    rw [Lib.itoa_neg m (by omega)]; exact atoi_neg m (by omega) (by omega)
theorem itoa_len2 {n : Int} (h : -9223372036854775808 ≤ n ∧ n ≤ 9223372036854775807) : (Lib.itoa n).length ≤ 21 := Lib.itoa_length_le n h.1 h.2
theorem atoi_int {s : ByteArray} {n : Int} (h : IsI s n) : atoiF s = some (n, true) := by
  obtain ⟨h0, rfl⟩ := h
  have hl := itoa_len2 h0
  unfold atoiF
  rw [if_pos (by rw [bM_size]; omega)]
  have : (bM (Lib.itoa n)).data.toList = Lib.itoa n := bL_mk _
  rw [this, atoi_itoa h0]
theorem IsI_uniq {s : ByteArray} {a b : Int} (ha : IsI s a) (hb : IsI s b) : a = b := by
  have h1 := atoi_int ha
  rw [atoi_int hb] at h1
  simp only [Option.some.injEq, Prod.mk.injEq, and_true] at h1
  exact h1.symm
noncomputable def intOf (s : ByteArray) : Option Int := if h : ∃ n, IsI s n then some (Classical.choose h) else none
theorem intOf_some {s : ByteArray} {n : Int} (h : IsI s n) : intOf s = some n := by
  have he : ∃ n, IsI s n := ⟨n, h⟩
  rw [intOf, dif_pos he, IsI_uniq (Classical.choose_spec he) h]
theorem intOf_none {s : ByteArray} (h : ¬ ∃ n, IsI s n) : intOf s = none := by rw [intOf, dif_neg h]
theorem atoiF_any {s : ByteArray} (hs : s.size ≤ 281474976710656) : ∃ v, atoiF s = some v ∧ (v.2 = true → -9223372036854775808 ≤ v.1 ∧ v.1 ≤ 9223372036854775807) := by
  unfold atoiF
  rw [if_pos hs]
  match h : Lib.atoiAll s.data.toList with
  | Lib.NumEnd.ok n =>
    refine ⟨_, rfl, fun _ => ?_⟩
    show -9223372036854775808 ≤ n ∧ n ≤ 9223372036854775807
    unfold Lib.atoiAll at h
    split at h
    · cases h
    · rename_i c r
      simp only [] at h
      split at h
      · cases h
      · cases h
      · rename_i u hu
        have := Lib.parseMag_lt hu
        split at h
        · cases h
        · split at h
          · cases h
          · injection h with h
            subst h
            split <;> omega
  | Lib.NumEnd.syntax => exact ⟨_, rfl, fun h => by cases h⟩
  | Lib.NumEnd.range => exact ⟨_, rfl, fun h => by cases h⟩
/-- Digits without a needless 0 are a number's own. -/
theorem canon : ∀ (k : Nat) (l : List UInt8), l.length = k → isD l → l ≠ [] → (l.head? ≠ some 48 ∨ l = [48]) → Lib.decDigits (valG dgt 0 l) = l ∧ (l.head? ≠ some 48 → 1 ≤ valG dgt 0 l) := by
  intro k
  induction k using Nat.strongRecOn with
  | _ k ih =>
    intro l hk hd hne hz
    obtain ⟨l', c, rfl⟩ : ∃ l' c, l = l' ++ [c] := ⟨l.dropLast, l.getLast hne, (List.dropLast_concat_getLast hne).symm⟩
    have hc := hd c (by simp)
    have hdg : dgt c = c.toNat - 48 := rfl
    have hcb : UInt8.ofNat (48 + dgt c) = c := by
      rw [hdg, show 48 + (c.toNat - 48) = c.toNat from by omega]; exact UInt8.ofNat_toNat
    have hlt : dgt c < 10 := by rw [hdg]; omega
    rw [valG_app]
    by_cases hl : l' = []
    · subst hl
      rw [valG_nil]
      simp only [List.nil_append, Nat.zero_mul, Nat.zero_add]
      rw [Lib.decDigits_one hlt, hcb]
      refine ⟨rfl, fun h => ?_⟩
      have h48 : c ≠ 48 := fun e => h (by rw [e]; rfl)
      have : c.toNat ≠ 48 := fun e => h48 (UInt8.toNat_inj.1 e)
      rw [hdg]; omega
    · have hh : l'.head? ≠ some 48 := by
        rcases hz with hz | hz
        · cases l' with
          | nil => exact absurd rfl hl
          | cons a r => exact hz
        · have := congrArg List.length hz
          cases l' with
          | nil => exact absurd rfl hl
          | cons a r => simp at this
      obtain ⟨e1, e2⟩ := ih l'.length (by simp at hk; omega) l' rfl (fun x hx => hd x (by simp [hx])) hl (.inl hh)
      have h1 := e2 hh
      generalize valG dgt 0 l' = v at *
      generalize dgt c = d at *
      rw [Lib.decDigits, dif_neg (by omega), show (v * 10 + d) / 10 = v from by omega, show (v * 10 + d) % 10 = d from by omega, e1, hcb]
      exact ⟨rfl, fun _ => by omega⟩
theorem dec_head (n : Nat) : (Lib.decDigits n).head? ≠ some 48 ∨ Lib.decDigits n = [48] := by
  induction n using Nat.strongRecOn with
  | _ n ih =>
    by_cases h : n < 10
    · rw [Lib.decDigits_one h]
      by_cases h0 : n = 0
      · subst h0; exact .inr rfl
      · left
        intro e
        simp only [List.head?_cons, Option.some.injEq] at e
        have := congrArg UInt8.toNat e
        rw [dig_toNat h] at this
        have h48 : (48 : UInt8).toNat = 48 := rfl
        omega
    · rw [Lib.decDigits, dif_neg h]
      have hne := dec_ne (n / 10)
      rcases ih (n / 10) (by omega) with k | k
      · left
        cases hq : Lib.decDigits (n / 10) with
        | nil => exact absurd hq hne
        | cons a r => rw [hq] at k; exact k
      · exfalso
        have := (dec_val (n / 10) (n / 10) (Nat.le_refl _)).1
        rw [k, valG_cons, valG_nil] at this
        have h0 : dgt 48 = 0 := rfl
        rw [h0] at this
        omega
theorem dec_len : ∀ (k n : Nat), 0 < k → n < 10 ^ k → (Lib.decDigits n).length ≤ k := by
  intro k
  induction k with
  | zero => intro n h; omega
  | succ k ih =>
    intro n _ h
    by_cases hn : n < 10
    · rw [Lib.decDigits_one hn]; simp
    · have hk : 0 < k := by
        cases k with
        | zero => omega
        | succ => omega
      rw [Nat.pow_succ] at h
      have := ih (n / 10) hk (by omega)
      rw [Lib.decDigits, dif_neg hn, List.length_append]; simp; omega
theorem val_lt : ∀ (l : List UInt8) (acc : Nat), isD l → valG dgt acc l < (acc + 1) * 10 ^ l.length := by
  intro l
  induction l with
  | nil => intro acc _; rw [valG_nil]; simp
  | cons c l ih =>
    intro acc h
    have hc := h c (by simp)
    have hd : dgt c = c.toNat - 48 := rfl
    have := ih (acc * 10 + dgt c) fun x hx => h x (by simp [hx])
    rw [valG_cons, List.length_cons, Nat.pow_succ]
    refine Nat.lt_of_lt_of_le this ?_
    have h10 : acc * 10 + dgt c + 1 ≤ (acc + 1) * 10 := by rw [hd]; omega
    calc (acc * 10 + dgt c + 1) * 10 ^ l.length ≤ ((acc + 1) * 10) * 10 ^ l.length := Nat.mul_le_mul_right _ h10
      _ = (acc + 1) * (10 ^ l.length * 10) := by rw [Nat.mul_assoc, Nat.mul_comm 10]
/-- Rows of digits of one length compare as the numbers do. -/
theorem less_val : ∀ (a b : List UInt8) (x y : Nat), a.length = b.length → isD a → isD b → x < y → valG dgt x a < valG dgt y b := by
  intro a
  induction a with
  | nil => intro b x y hl _ _ h; cases b with
    | nil => rw [valG_nil, valG_nil]; exact h
    | cons => simp at hl
  | cons c a ih =>
    intro b x y hl ha hb h
    cases b with
    | nil => simp at hl
    | cons d b =>
      have h1 := ha c (by simp)
      have h2 : dgt c = c.toNat - 48 := rfl
      rw [valG_cons, valG_cons]
      refine ih b _ _ (by simpa using hl) (fun z hz => ha z (by simp [hz])) (fun z hz => hb z (by simp [hz])) ?_
      rw [h2]; omega
theorem less_eq : ∀ (a b : List UInt8) (x : Nat), a.length = b.length → isD a → isD b → Op.bytesLess a b = decide (valG dgt x a < valG dgt x b) := by
  intro a
  induction a with
  | nil => intro b x hl _ _; cases b with
    | nil => rw [valG_nil]; simp [Op.bytesLess]
    | cons => simp at hl
  | cons c a ih =>
    intro b x hl ha hb
    cases b with
    | nil => simp at hl
    | cons d b =>
      have hl' : a.length = b.length := by simpa using hl
      have a' : isD a := fun z hz => ha z (by simp [hz])
      have b' : isD b := fun z hz => hb z (by simp [hz])
      have h1 := ha c (by simp)
      have h2 := hb d (by simp)
      have e1 : dgt c = c.toNat - 48 := rfl
      have e2 : dgt d = d.toNat - 48 := rfl
      rw [valG_cons, valG_cons, Op.bytesLess]
      by_cases hlt : c.toNat < d.toNat
      · have hcd : c < d := UInt8.lt_iff_toNat_lt.2 hlt
        have := less_val a b (x * 10 + dgt c) (x * 10 + dgt d) hl' a' b' (by rw [e1, e2]; omega)
        simp [hcd, this]
      · have hcd : ¬ c < d := fun h => hlt (UInt8.lt_iff_toNat_lt.1 h)
        by_cases heq : c = d
        · subst heq
          rw [ih b (x * 10 + dgt c) hl' a' b']; simp [hcd]
        · have hne : c.toNat ≠ d.toNat := fun h => heq (UInt8.toNat_inj.1 h)
          have := less_val b a (x * 10 + dgt d) (x * 10 + dgt c) hl'.symm b' a' (by rw [e1, e2]; omega)
          have h3 : ¬ valG dgt (x * 10 + dgt c) a < valG dgt (x * 10 + dgt d) b := by omega
          simp [hcd, heq, h3]

theorem lnext_nil (b : Bool) : lines_taker_next ⟨[], b⟩ = some (⟨[], true⟩, (⟨#[]⟩ : ByteArray)) := by
  simp [lines_taker_next]
theorem lnext_cons (s : ByteArray) (r : List ByteArray) (b : Bool) : lines_taker_next ⟨s :: r, b⟩ = some (⟨r, b⟩, s) := by
  simp only [lines_taker_next, List.getElem?_cons_zero, Option.bind_some, List.length_cons, List.drop_succ_cons, List.drop_zero]
  rw [if_neg (by simp; omega), if_pos (by omega)]
theorem lnumber_nil (b : Bool) : lines_taker_number ⟨[], b⟩ = some (⟨[], true⟩, 0) := by
  have h : atoiF (⟨#[]⟩ : ByteArray) = some (0, false) := by
    unfold atoiF
    rw [if_pos (by decide)]
    have : Lib.atoiAll (⟨#[]⟩ : ByteArray).data.toList = Lib.NumEnd.syntax := rfl
    rw [this]
  simp only [lines_taker_number, lnext_nil, Option.bind_some, h, withK, if_true]
theorem lnumber_cons {s : ByteArray} (r : List ByteArray) (b : Bool) (hs : s.size ≤ 281474976710656) : ∃ v, lines_taker_number ⟨s :: r, b⟩ = some (⟨r, b || (intOf s).isNone⟩, v) ∧ ∀ n, intOf s = some n → v = n := by
  simp only [lines_taker_number, lnext_cons, Option.bind_some, withK]
  by_cases h : ∃ n, IsI s n
  · obtain ⟨n, hn⟩ := h
    rw [intOf_some hn, atoi_int hn, Option.bind_some]
    obtain ⟨hr, hb⟩ := hn
    have hi : itoaF n = some (bM (Lib.itoa n)) := by rw [itoaF, if_pos hr]; rfl
    simp only [hi, Option.bind_some, toL_dec]
    refine ⟨n, ?_, fun m hm => by simpa using hm⟩
    cases b <;> simp [hb]
  · rw [intOf_none h]
    obtain ⟨v, hv, hr⟩ := atoiF_any hs
    rw [hv, Option.bind_some]
    refine ⟨v.1, ?_, fun m hm => by cases hm⟩
    cases b with
    | true => simp
    | false =>
      cases h2 : v.2 with
      | false => simp
      | true =>
        have hr := hr h2
        have hi : itoaF v.1 = some (bM (Lib.itoa v.1)) := by rw [itoaF, if_pos hr]; rfl
        have hne : ¬ bM (Lib.itoa v.1) = s := fun e => h ⟨v.1, hr, e.symm⟩
        simp [hi, toL_dec, hne]
theorem whole_bad (d : ByteArray) (hp : d.size ≤ 1000000000) (k : Int → Option (Int × Bool)) : ∀ (m i N : Nat) (x : Int), d.size - i = m → i ≤ d.size → d.size + 1 ≤ N + i → ¬ isD ((bL d).drop i) → reredosref_whole_L1 d k N x (i : Int) = some (0, false) := by
  intro m
  induction m with
  | zero =>
    intro i N x h1 h2 h3 h
    rw [List.drop_eq_nil_of_le (by rw [← bL_size]; omega)] at h
    exact absurd (fun c hc => by cases hc) h
  | succ m ih =>
    intro i N x h1 h2 h3 h
    obtain ⟨N, rfl⟩ : ∃ n, N = n + 1 := ⟨N - 1, by omega⟩
    have hi : i < d.size := by omega
    have hl : i < (bL d).length := by rw [← bL_size]; exact hi
    have hw : IntKind.i64.wrap ((i : Int) + 1) = ((i + 1 : Nat) : Int) := by rw [wrap_in (by omega) (by omega)]; rfl
    have hb : d.data.toList.getD i 0 = (bL d)[i] := by show (bL d).getD i 0 = _; rw [List.getD_eq_getElem?_getD, List.getElem?_eq_getElem hl]; rfl
    have hin : 0 ≤ (i : Int) ∧ (i : Int) < ((d.size : Nat) : Int) := by omega
    have hlt := (bL d)[i].toNat_lt
    rw [reredosref_whole_L1, if_pos (by simpa using hi), if_pos hin, Int.toNat_natCast, hb, hw, wrap_in (n := (((bL d)[i].toNat : Nat) : Int)) (by omega) (by omega), In_eq, Option.bind_some]
    rw [List.drop_eq_getElem_cons hl] at h
    by_cases hc : 48 ≤ (bL d)[i].toNat ∧ (bL d)[i].toNat ≤ 57
    · rw [decide_eq_true (show 48 ≤ (((bL d)[i].toNat : Nat) : Int) ∧ (((bL d)[i].toNat : Nat) : Int) ≤ 57 by omega)]
      simp only [Bool.not_true, Bool.false_eq_true, if_false]
      rw [if_pos hin]
      refine ih (i + 1) N _ (by omega) (by omega) (by omega) fun hd => h fun c hm => ?_
      rcases List.mem_cons.1 hm with rfl | hm
      · exact hc
      · exact hd c hm
    · rw [decide_eq_false (show ¬ (48 ≤ (((bL d)[i].toNat : Nat) : Int) ∧ (((bL d)[i].toNat : Nat) : Int) ≤ 57) by omega)]
      rfl
theorem whole_good (d : ByteArray) (hp : d.size ≤ 1000000000) (k : Int → Option (Int × Bool)) : ∀ (m i N acc : Nat), d.size - i = m → i ≤ d.size → d.size + 1 ≤ N + i → isD ((bL d).drop i) → valG dgt acc ((bL d).drop i) ≤ 9223372036854775808 →
    reredosref_whole_L1 d k N (-(acc : Int)) (i : Int) = k (-((valG dgt acc ((bL d).drop i) : Nat) : Int)) := by
  intro m
  induction m with
  | zero =>
    intro i N acc h1 h2 h3 h hv
    obtain ⟨N, rfl⟩ : ∃ n, N = n + 1 := ⟨N - 1, by omega⟩
    have hd : (bL d).drop i = [] := List.drop_eq_nil_of_le (by rw [← bL_size]; omega)
    rw [reredosref_whole_L1, if_neg (by simp; omega), hd, valG_nil]
  | succ m ih =>
    intro i N acc h1 h2 h3 h hv
    obtain ⟨N, rfl⟩ : ∃ n, N = n + 1 := ⟨N - 1, by omega⟩
    have hi : i < d.size := by omega
    have hl : i < (bL d).length := by rw [← bL_size]; exact hi
    have hw : IntKind.i64.wrap ((i : Int) + 1) = ((i + 1 : Nat) : Int) := by rw [wrap_in (by omega) (by omega)]; rfl
    have hb : d.data.toList.getD i 0 = (bL d)[i] := by show (bL d).getD i 0 = _; rw [List.getD_eq_getElem?_getD, List.getElem?_eq_getElem hl]; rfl
    have hin : 0 ≤ (i : Int) ∧ (i : Int) < ((d.size : Nat) : Int) := by omega
    rw [List.drop_eq_getElem_cons hl] at h hv ⊢
    rw [reredosref_whole_L1, if_pos (by simpa using hi), if_pos hin, Int.toNat_natCast, hb, hw]
    generalize (bL d)[i] = c at *
    have hc := h c (by simp)
    have hdg : dgt c = c.toNat - 48 := rfl
    rw [valG_cons] at hv ⊢
    have hle := valG_le dgt ((bL d).drop (i + 1)) (acc * 10 + dgt c)
    rw [wrap_in (n := ((c.toNat : Nat) : Int)) (by omega) (by omega), In_eq, Option.bind_some, decide_eq_true (show 48 ≤ ((c.toNat : Nat) : Int) ∧ ((c.toNat : Nat) : Int) ≤ 57 by omega)]
    simp only [Bool.not_true, Bool.false_eq_true, if_false]
    rw [if_pos hin]
    have hx : IntKind.i64.wrap (IntKind.i64.wrap (10 * -(acc : Int)) - IntKind.i64.wrap (IntKind.u8.wrap (((c.toNat : Nat) : Int) - 48))) = -((acc * 10 + dgt c : Nat) : Int) := by
      rw [wrap_u8b, show (((c.toNat : Nat) : Int) - 48) % 256 = ((dgt c : Nat) : Int) from by rw [hdg]; omega]
      generalize dgt c = e at *
      rw [wrap_in (n := 10 * -(acc : Int)) (by omega) (by omega), wrap_in (n := (e : Int)) (by omega) (by omega), wrap_in (by omega) (by omega)]
      omega
    rw [hx]
    exact ih (i + 1) N (acc * 10 + dgt c) (by omega) (by omega) (by omega) (fun x hx => h x (by simp [hx])) hv

noncomputable def hexV (c : UInt8) : Int := Lib.indexByte bs_4032af8d.data.toList c
theorem hex_all : (List.range 256).all (fun n => (reredosref_sixteenth (n : Int) == idxF bs_4032af8d (n : Int)) && (match idxF bs_4032af8d (n : Int) with | some v => decide (-1 ≤ v ∧ v ≤ 15) | none => false)) = true := by rfl
theorem or_all : (List.range 16).all (fun a => (List.range 16).all fun b => IntKind.u8.wrap (orI64 (IntKind.i64.wrap ((a : Int) * 2 ^ 4)) (b : Int)) == IntKind.u8.wrap (IntKind.i64.wrap (IntKind.i64.wrap (16 * (a : Int)) + (b : Int)))) = true := by rfl
theorem hex_of (c : UInt8) : idxF bs_4032af8d (c.toNat : Int) = some (hexV c) ∧ reredosref_sixteenth (c.toNat : Int) = some (hexV c) ∧ -1 ≤ hexV c ∧ hexV c ≤ 15 := by
  have e : idxF bs_4032af8d (c.toNat : Int) = some (hexV c) := by
    rw [idxF, hexV, Int.toNat_natCast]; congr 2; simp
  have h := List.all_eq_true.1 hex_all c.toNat (List.mem_range.2 c.toNat_lt)
  rw [Bool.and_eq_true, beq_iff_eq, e] at h
  refine ⟨e, h.1, ?_⟩
  simpa using h.2
theorem or_of {a b : Int} (ha : 0 ≤ a ∧ a ≤ 15) (hb : 0 ≤ b ∧ b ≤ 15) : IntKind.u8.wrap (orI64 (IntKind.i64.wrap (a * 2 ^ 4)) b) = IntKind.u8.wrap (IntKind.i64.wrap (IntKind.i64.wrap (16 * a) + b)) := by
  obtain ⟨x, rfl⟩ : ∃ n : Nat, a = n := ⟨a.toNat, by omega⟩
  obtain ⟨y, rfl⟩ : ∃ n : Nat, b = n := ⟨b.toNat, by omega⟩
  have h := List.all_eq_true.1 (List.all_eq_true.1 or_all x (List.mem_range.2 (by omega))) y (List.mem_range.2 (by omega))
  exact beq_iff_eq.1 h
theorem hex_loop (w : ByteArray) (t : LinesTaker) (hw : w.size ≤ 1000000000) (ho : w.size % 2 = 1) (k : List Int → Option (LinesTaker × ByteArray)) (k' : List Int → Option (ByteArray × Bool)) : ∀ (N i : Nat) (acc : List Int), i % 2 = 1 → i ≤ w.size → acc.length ≤ i → w.size < N + i →
    (∃ a, lines_taker_text_L1 (t, w) k N (i : Int) acc = k a ∧ reredosref_undotted_L1 w k' N (i : Int) acc = k' a) ∨ (lines_taker_text_L1 (t, w) k N (i : Int) acc = some (⟨t.l, true⟩, (⟨#[]⟩ : ByteArray)) ∧ reredosref_undotted_L1 w k' N (i : Int) acc = some ((⟨#[]⟩ : ByteArray), false)) := by
  intro N
  induction N with
  | zero => intro i acc h1 h2 h3 h4; omega
  | succ N ih =>
    intro i acc h1 h2 h3 h4
    by_cases hi : i < w.size
    · have w1 : IntKind.i64.wrap ((i : Int) + 1) = ((i + 1 : Nat) : Int) := by rw [wrap_in (by omega) (by omega)]; omega
      have w2 : IntKind.i64.wrap ((i : Int) + 2) = ((i + 2 : Nat) : Int) := by rw [wrap_in (by omega) (by omega)]; omega
      obtain ⟨a1, a2, a3, a4⟩ := hex_of (w.data.toList.getD (i : Int).toNat 0)
      obtain ⟨b1, b2, b3, b4⟩ := hex_of (w.data.toList.getD ((i + 1 : Nat) : Int).toNat 0)
      rw [lines_taker_text_L1, reredosref_undotted_L1]
      have c1 : decide ((i : Int) < ((w.size : Nat) : Int)) = true := by rw [decide_eq_true_eq]; omega
      have c2 : (0 ≤ (i : Int) ∧ (i : Int) < ((w.size : Nat) : Int)) = True := eq_true ⟨by omega, by omega⟩
      have c3 : (0 ≤ ((i + 1 : Nat) : Int) ∧ ((i + 1 : Nat) : Int) < ((w.size : Nat) : Int)) = True := eq_true ⟨by omega, by omega⟩
      have c4 : fits 1 (acc.length + 1) := by unfold fits maxLen; omega
      simp only [w1, w2, a1, a2, b1, b2, Option.bind_some, c1, c2, c3, eq_true c4, if_true]
      generalize hexV (w.data.toList.getD (i : Int).toNat 0) = x at *
      generalize hexV (w.data.toList.getD ((i + 1 : Nat) : Int).toNat 0) = y at *
      by_cases hx : x < 0
      · simp only [decide_eq_true hx, if_true]; exact .inr ⟨trivial, trivial⟩
      by_cases hy : y < 0
      · simp only [decide_eq_false hx, decide_eq_true hy, if_true, Bool.false_eq_true, if_false]; exact .inr ⟨trivial, trivial⟩
      simp only [decide_eq_false hx, decide_eq_false hy, Bool.false_eq_true, if_false]
      rw [or_of ⟨by omega, a4⟩ ⟨by omega, b4⟩]
      exact ih (i + 2) _ (by omega) (by omega) (by simp; omega) (by omega)
    · rw [lines_taker_text_L1, reredosref_undotted_L1, if_neg (by rw [decide_eq_true_eq]; simp; omega), if_neg (by rw [decide_eq_true_eq]; omega)]
      exact .inl ⟨acc, rfl, rfl⟩
theorem text_nil (b : Bool) : lines_taker_text ⟨[], b⟩ = some (⟨[], true⟩, (⟨#[]⟩ : ByteArray)) := by
  simp only [lines_taker_text, lnext_nil, Option.bind_some, withK]
  rw [if_pos (by decide)]
theorem text_eq {w : ByteArray} (r : List ByteArray) (b : Bool) (hw : w.size ≤ 1000000000) : ∃ y ok, reredosref_undotted w = some (y, ok) ∧ lines_taker_text ⟨w :: r, b⟩ = some (⟨r, b || !ok⟩, y) := by
  simp only [reredosref_undotted, lines_taker_text, lnext_cons, Option.bind_some, withK]
  have hm : ((w.size : Nat) : Int).tmod 2 = ((w.size % 2 : Nat) : Int) := by rw [Int.tmod_eq_emod_of_nonneg (by omega)]; rfl
  rw [hm]
  by_cases hz : w.size = 0
  · have cA : (((w.size : Nat) : Int) == 0) = true := by rw [beq_iff_eq]; omega
    have cB : (((w.size % 2 : Nat) : Int) != 1) = true := by rw [bne_iff_ne]; omega
    simp only [cA, cB, if_true]
    exact ⟨_, false, rfl, by simp⟩
  have cA : (((w.size : Nat) : Int) == 0) = false := by rw [beq_eq_false_iff_ne]; omega
  rw [if_pos (c := (0 : Nat) ≤ 0 ∧ 0 < ((w.size : Nat) : Int)) ⟨by omega, by omega⟩, if_pos (c := (0 : Nat) ≤ 0 ∧ 0 < ((w.size : Nat) : Int)) ⟨by omega, by omega⟩]
  simp only [cA, Bool.false_eq_true, if_false]
  by_cases ho : w.size % 2 = 1
  · have cB : (((w.size % 2 : Nat) : Int) != 1) = false := by rw [bne_eq_false_iff_eq]; omega
    have cE : (((w.size % 2 : Nat) : Int) == 0) = false := by rw [beq_eq_false_iff_ne]; omega
    simp only [cB, cE, Bool.false_eq_true, if_false]
    cases hd : ((((w.data.toList.getD 0 0).toNat : Nat) : Int) != 46) with
    | true => simp only [if_true]; exact ⟨_, false, rfl, by simp⟩
    | false =>
      simp only [Bool.false_eq_true, if_false]
      rcases hex_loop w ⟨r, b⟩ hw ho (fun b5 => some (⟨r, b⟩, strOfNums b5)) (fun b5 => some (strOfNums b5, true)) (w.size + 1) 1 [] (by omega) (by omega) (by simp) (by omega) with ⟨a, e1, e2⟩ | ⟨e1, e2⟩
      · exact ⟨strOfNums a, true, by rw [← e2]; rfl, by rw [show ((1 : Nat) : Int) = 1 from rfl] at e1; rw [e1]; simp⟩
      · exact ⟨_, false, by rw [← e2]; rfl, by rw [show ((1 : Nat) : Int) = 1 from rfl] at e1; rw [e1]; simp⟩
  · have cB : (((w.size % 2 : Nat) : Int) != 1) = true := by rw [bne_iff_ne]; omega
    have cE : (((w.size % 2 : Nat) : Int) == 0) = true := by rw [beq_iff_eq]; omega
    simp only [cB, cE, if_true]
    cases hd : ((((w.data.toList.getD 0 0).toNat : Nat) : Int) != 46) with
    | true => simp only [if_true]; exact ⟨_, false, rfl, by simp⟩
    | false => simp only [Bool.false_eq_true, if_false]; exact ⟨_, false, rfl, by simp⟩

theorem bs_max7 : bL bs_15767b25 = Lib.decDigits 9223372036854775807 ∧ bs_15767b25.size = 19 := ⟨by decide +kernel, rfl⟩
theorem bs_max8 : bL bs_8dbd9644 = Lib.decDigits 9223372036854775808 ∧ bs_8dbd9644.size = 19 := ⟨by decide +kernel, rfl⟩
/-- What `whole` does behind the sign. -/
def wT (s d : ByteArray) : Option (Int × Bool) :=
  if (((d.size : Nat) : Int) == 0) = true then some (0, false) else if 0 ≤ 0 ∧ 0 < ((d.size : Nat) : Int) then
    (if ((((d.data.toList.getD 0 0).toNat : Nat) : Int) == 48) = true then (if (!(s.toList == bs_cfcd2084.toList)) = true then some (0, false) else if (decide (((d.size : Nat) : Int) > 19)) = true then some (0, false) else wK s d) else if (decide (((d.size : Nat) : Int) > 19)) = true then some (0, false) else wK s d) else none
where
  wK (s d : ByteArray) : Option (Int × Bool) := if (decide (d.size < s.size)) = true then wM s d bs_8dbd9644 else wM s d bs_15767b25
  wM (s d m : ByteArray) : Option (Int × Bool) := if (((d.size : Nat) : Int) == 19) = true then (if (!(Op.bytesLess d.toList m.toList || d.toList == m.toList)) = true then some (0, false) else wL s d) else wL s d
  wL (s d : ByteArray) : Option (Int × Bool) := reredosref_whole_L1 d (fun b22_1 => if (((d.size : Nat) : Int) == ((s.size : Nat) : Int)) = true then some (IntKind.i64.wrap (0 - b22_1), true) else some (b22_1, true)) (d.size + 1) 0 0
theorem whole_wT (s : ByteArray) : reredosref_whole s = if (decide (((s.size : Nat) : Int) > 0)) = true then (if 0 ≤ 0 ∧ 0 < ((s.size : Nat) : Int) then (if ((((s.data.toList.getD 0 0).toNat : Nat) : Int) == 45) = true then (if 0 ≤ 1 ∧ 1 ≤ ((s.size : Nat) : Int) ∧ ((s.size : Nat) : Int) ≤ ((s.size : Nat) : Int) then wT s (s.extract 1 s.size) else none) else wT s s) else none) else wT s s := by
  rfl
/-- What stands behind the sign is right, up to M. -/
def Mag (d : ByteArray) (M : Nat) (m : Nat) : Prop := m ≤ M ∧ bL d = Lib.decDigits m
theorem mag_of {d : ByteArray} {M : Nat} (hd : isD (bL d)) (hne : bL d ≠ []) (hz : (bL d).head? ≠ some 48 ∨ bL d = [48]) (hM : valG dgt 0 (bL d) ≤ M) : Mag d M (valG dgt 0 (bL d)) := ⟨hM, ((canon _ _ rfl hd hne hz).1).symm⟩
theorem get0 (d : ByteArray) (h : 0 < d.size) : ∃ c, (bL d).head? = some c ∧ d.data.toList.getD 0 0 = c := by
  cases hq : bL d with
  | nil => rw [bL_size, hq] at h; simp at h
  | cons c l => exact ⟨c, rfl, by show (bL d).getD 0 0 = c; rw [hq]; rfl⟩
theorem wM_eq {s d m : ByteArray} {M : Nat} (hs : d.size ≤ 19) (hne : bL d ≠ []) (hz : (bL d).head? ≠ some 48 ∨ bL d = [48]) (hm : bL m = Lib.decDigits M) (hml : m.size = 19) (hM : 1000000000000000000 ≤ M) (hM2 : M ≤ 9223372036854775808) :
    (∀ k, Mag d M k → wT.wM s d m = if d.size = s.size then some (IntKind.i64.wrap (k : Int), true) else some (-(k : Int), true)) ∧ ((¬ ∃ k, Mag d M k) → wT.wM s d m = some (0, false)) := by
  obtain ⟨v1, v2⟩ := dec_val M M (Nat.le_refl _)
  have hml' : (Lib.decDigits M).length = 19 := by rw [← hm, ← bL_size, hml]
  have hbad : ¬ isD (bL d) → wT.wL s d = some (0, false) := fun h => by
    have := whole_bad d (by omega) (fun b22_1 => if (((d.size : Nat) : Int) == ((s.size : Nat) : Int)) = true then some (IntKind.i64.wrap (0 - b22_1), true) else some (b22_1, true)) d.size 0 (d.size + 1) 0 (by omega) (by omega) (by omega) (by rw [List.drop_zero]; exact h)
    exact this
  have hgood : isD (bL d) → valG dgt 0 (bL d) ≤ M → wT.wL s d = if d.size = s.size then some (IntKind.i64.wrap ((valG dgt 0 (bL d) : Nat) : Int), true) else some (-((valG dgt 0 (bL d) : Nat) : Int), true) := fun h hv => by
    have := whole_good d (by omega) (fun b22_1 => if (((d.size : Nat) : Int) == ((s.size : Nat) : Int)) = true then some (IntKind.i64.wrap (0 - b22_1), true) else some (b22_1, true)) d.size 0 (d.size + 1) 0 (by omega) (by omega) (by omega) (by rw [List.drop_zero]; exact h) (by rw [List.drop_zero]; omega)
    rw [List.drop_zero] at this
    rw [show -(((0 : Nat) : Int)) = 0 from rfl, show ((0 : Nat) : Int) = 0 from rfl] at this
    rw [wT.wL, this]
    by_cases he : d.size = s.size
    · rw [if_pos (by simp [he]), if_pos he]
      congr 3; omega
    · rw [if_neg (by simp; omega), if_neg he]
  have key : isD (bL d) → d.size = 19 → (Op.bytesLess d.toList m.toList || d.toList == m.toList) = decide (valG dgt 0 (bL d) ≤ M) := fun h h19 => by
    rw [toL_dec, ByteArray.toList_eq, ByteArray.toList_eq]
    show (Op.bytesLess (bL d) (bL m) || _) = _
    rw [less_eq (bL d) (bL m) 0 (by rw [← bL_size, ← bL_size, h19, hml]) h (by rw [hm]; exact v2), hm, v1]
    rw [Bool.eq_iff_iff]
    simp only [Bool.or_eq_true, decide_eq_true_eq]
    constructor
    · rintro (h | h)
      · omega
      · subst h; rw [hm, v1]; exact Nat.le_refl _
    · intro hle
      by_cases he : valG dgt 0 (bL d) = M
      · right
        refine bL_ext ?_
        rw [hm, ← he]
        exact ((canon _ _ rfl h hne hz).1).symm
      · left; omega
  rw [wT.wM]
  by_cases hd : isD (bL d)
  · by_cases hv : valG dgt 0 (bL d) ≤ M
    · have hmag := mag_of hd hne hz hv
      have hun : ∀ k, Mag d M k → k = valG dgt 0 (bL d) := fun k hk => by rw [hk.2, (dec_val k k (Nat.le_refl _)).1]
      refine ⟨fun k hk => ?_, fun h => absurd ⟨_, hmag⟩ h⟩
      rw [hun k hk, ← hgood hd hv]
      by_cases h19 : d.size = 19
      · rw [if_pos (by simp [h19]), key hd h19, decide_eq_true hv]; rfl
      · rw [if_neg (by simp; omega)]
    · have h19 : d.size = 19 := by
        apply Classical.byContradiction
        intro hc
        have := val_lt (bL d) 0 hd
        rw [← bL_size] at this
        have h18 : (10 : Nat) ^ d.size ≤ 10 ^ 18 := Nat.pow_le_pow_right (by omega) (by omega)
        have h18' : (10 : Nat) ^ 18 = 1000000000000000000 := by decide
        omega
      refine ⟨fun k hk => absurd (by have := hk.1; have h2 := (dec_val k k (Nat.le_refl _)).1; rw [← hk.2] at h2; omega) hv, fun _ => ?_⟩
      rw [if_pos (by simp [h19]), key hd h19, decide_eq_false hv]; rfl
  · refine ⟨fun k hk => absurd (by rw [hk.2]; exact (dec_val k k (Nat.le_refl _)).2) hd, fun _ => ?_⟩
    rw [hbad hd]
    split
    · split <;> rfl
    · rfl
theorem wT_eq {s d : ByteArray} (hds : d.size = s.size ∨ d.size < s.size) (h0 : d.size < s.size → s ≠ bs_cfcd2084) (h1 : d.size = s.size → d = s) (hsz : s.size ≤ 1000000000) :
    (∀ k, Mag d (if d.size = s.size then 9223372036854775807 else 9223372036854775808) k → (d.size < s.size → 1 ≤ k) → wT s d = if d.size = s.size then some ((k : Int), true) else some (-(k : Int), true)) ∧
    ((¬ ∃ k, Mag d (if d.size = s.size then 9223372036854775807 else 9223372036854775808) k ∧ (d.size < s.size → 1 ≤ k)) → ∃ v, wT s d = some (v, false)) := by
  generalize hMM : (if d.size = s.size then 9223372036854775807 else 9223372036854775808) = M
  have hMle : M ≤ 9223372036854775808 ∧ 1000000000000000000 ≤ M := by subst hMM; split <;> omega
  by_cases hz0 : d.size = 0
  · have hnil : bL d = [] := List.eq_nil_of_length_eq_zero (by rw [← bL_size]; exact hz0)
    refine ⟨fun k hk _ => absurd (hk.2.symm.trans hnil) (dec_ne k), fun _ => ⟨0, ?_⟩⟩
    rw [wT, if_pos (by simp [hz0])]
  · have hpos : 0 < d.size := by omega
    obtain ⟨c, hc, hg⟩ := get0 d hpos
    have hne : bL d ≠ [] := fun h => by rw [h] at hc; cases hc
    have h48 : ((((c.toNat : Nat) : Int) == 48) = true) ↔ c = 48 := by
      rw [beq_iff_eq]
      exact ⟨fun h => UInt8.toNat_inj.1 (by show c.toNat = 48; omega), fun h => by subst h; rfl⟩
    rw [wT, if_neg (by rw [beq_iff_eq]; omega), if_pos ⟨by omega, by omega⟩, hg]
    have hK : wT.wK s d = wT.wM s d (if d.size = s.size then bs_15767b25 else bs_8dbd9644) := by
      rw [wT.wK]
      by_cases h : d.size < s.size
      · rw [if_pos (by simpa using h), if_neg (by omega)]
      · rw [if_neg (by simpa using h), if_pos (by omega)]
    by_cases hzero : c = 48 ∧ s ≠ bs_cfcd2084
    · -- a needless 0
      obtain ⟨hz, hs⟩ := hzero
      rw [if_pos (h48.2 hz), toL_dec, if_pos (by simp [hs])]
      refine ⟨fun k hk hk1 => ?_, fun _ => ⟨0, rfl⟩⟩
      exfalso
      rcases dec_head k with h | h
      · rw [← hk.2, hc, hz] at h; exact h rfl
      · rcases hds with e | e
        · apply hs
          rw [← h1 e]
          refine bL_ext ?_
          rw [hk.2, h]; rfl
        · have := (dec_val k k (Nat.le_refl _)).1
          rw [h, valG_cons, valG_nil] at this
          have h00 : dgt 48 = 0 := rfl
          rw [h00] at this
          have := hk1 e
          omega
    · have hzz : (bL d).head? ≠ some 48 ∨ bL d = [48] := by
        by_cases h : c = 48
        · right
          have hs : s = bs_cfcd2084 := Classical.byContradiction fun hn => hzero ⟨h, hn⟩
          rcases hds with e | e
          · rw [h1 e, hs]; rfl
          · exact absurd hs (h0 e)
        · left; rw [hc]; exact fun e => h (Option.some.inj e)
      have hif : (if (((c.toNat : Nat) : Int) == 48) = true then (if (!(s.toList == bs_cfcd2084.toList)) = true then some ((0 : Int), false) else if (decide (((d.size : Nat) : Int) > 19)) = true then some (0, false) else wT.wK s d) else if (decide (((d.size : Nat) : Int) > 19)) = true then some (0, false) else wT.wK s d) = if d.size > 19 then some (0, false) else wT.wK s d := by
        have e19 : (if (decide (((d.size : Nat) : Int) > 19)) = true then some ((0 : Int), false) else wT.wK s d) = if d.size > 19 then some (0, false) else wT.wK s d := by
          by_cases h : d.size > 19
          · rw [if_pos (by simp; omega), if_pos h]
          · rw [if_neg (by simp; omega), if_neg h]
        by_cases h : c = 48
        · have hs : s = bs_cfcd2084 := Classical.byContradiction fun hn => hzero ⟨h, hn⟩
          rw [if_pos (h48.2 h), toL_dec, if_neg (by simp [hs]), e19]
        · rw [if_neg (fun e => h (h48.1 e)), e19]
      rw [hif]
      by_cases h19 : d.size > 19
      · rw [if_pos h19]
        refine ⟨fun k hk _ => ?_, fun _ => ⟨0, rfl⟩⟩
        exfalso
        have := dec_len 19 k (by omega) (by have := hk.1; have h10 : (10 : Nat) ^ 19 = 10000000000000000000 := by decide
                                            omega)
        rw [← hk.2, ← bL_size] at this
        omega
      · rw [if_neg h19, hK]
        obtain ⟨g1, g2⟩ := wM_eq (s := s) (d := d) (m := if d.size = s.size then bs_15767b25 else bs_8dbd9644) (M := M) (by omega) hne hzz
          (by subst hMM; split; exact bs_max7.1; exact bs_max8.1) (by split; exact bs_max7.2; exact bs_max8.2) hMle.2 hMle.1
        refine ⟨fun k hk _ => ?_, fun hno => ?_⟩
        · rw [g1 k hk]
          have hkM := hk.1
          by_cases he : d.size = s.size
          · rw [if_pos he, if_pos he]
            rw [if_pos he] at hMM
            rw [wrap_in (by omega) (by omega)]
          · rw [if_neg he, if_neg he]
        · by_cases hm : ∃ k, Mag d M k
          · obtain ⟨k, hk⟩ := hm
            have hk0 : ¬ (d.size < s.size → 1 ≤ k) := fun h => hno ⟨k, hk, h⟩
            have hlt : d.size < s.size := Classical.byContradiction fun h => hk0 fun h' => absurd h' h
            have k0 : k = 0 := Classical.byContradiction fun h => hk0 fun _ => by omega
            exfalso
            have e48 : bL d = [48] := by rw [hk.2, k0]; exact Lib.decDigits_one (by omega)
            have : c = 48 := by rw [e48] at hc; exact (Option.some.inj hc).symm
            exact hzero ⟨this, h0 hlt⟩
          · exact ⟨0, g2 hm⟩
theorem whole_eq {s : ByteArray} (hs : s.size ≤ 1000000000) : ∃ v, reredosref_whole s = some (v, (intOf s).isSome) ∧ ∀ n, intOf s = some n → v = n := by
  rw [whole_wT]
  by_cases h0 : s.size = 0
  · rw [if_neg (by rw [decide_eq_true_eq]; omega)]
    obtain ⟨_, g2⟩ := wT_eq (s := s) (d := s) (.inl rfl) (fun h => absurd h (Nat.lt_irrefl _)) (fun _ => rfl) hs
    have hnil : bL s = [] := List.eq_nil_of_length_eq_zero (by rw [← bL_size]; exact h0)
    obtain ⟨v, hv⟩ := g2 (fun ⟨k, hk, _⟩ => dec_ne k (hk.2.symm.trans hnil))
    have hn : intOf s = none := intOf_none fun ⟨n, hr, hn⟩ => by
      have hb : bL s = Lib.itoa n := by rw [hn, bL_mk]
      rw [hnil] at hb
      by_cases h : 0 ≤ n
      · obtain ⟨m, rfl⟩ := Int.eq_ofNat_of_zero_le h
        rw [Lib.itoa_nonneg] at hb
        exact dec_ne m hb.symm
      · obtain ⟨m, rfl⟩ : ∃ m : Nat, n = -(m : Int) := ⟨n.natAbs, by omega⟩
        rw [Lib.itoa_neg m (by omega)] at hb; cases hb
    rw [hv, hn]
    exact ⟨v, rfl, fun n h => by cases h⟩
  · have hpos : 0 < s.size := by omega
    obtain ⟨c, hc, hg⟩ := get0 s hpos
    rw [if_pos (by rw [decide_eq_true_eq]; omega), if_pos ⟨by omega, by omega⟩, hg]
    by_cases h45 : c = 45
    · rw [if_pos (by rw [h45]; rfl), if_pos ⟨by omega, by omega, by omega⟩]
      have hbs : bL s = 45 :: (bL s).tail := by
        cases hq : bL s with
        | nil => rw [hq] at hc; cases hc
        | cons a l => rw [hq] at hc; have := Option.some.inj hc; subst this; rw [h45]; rfl
      have hd : bL (s.extract 1 s.size) = (bL s).tail := by
        rw [ext_bM, bL_mk, List.drop_one, List.take_of_length_le (by rw [List.length_tail, ← bL_size]; exact Nat.le_refl _)]
      have hdl : (s.extract 1 s.size).size = s.size - 1 := by rw [bL_size, hd, List.length_tail, ← bL_size]
      have hlt : (s.extract 1 s.size).size < s.size := by omega
      obtain ⟨g1, g2⟩ := wT_eq (s := s) (d := s.extract 1 s.size) (.inr hlt) (fun _ e => by rw [e] at hc; have := Option.some.inj hc; rw [h45] at this; exact absurd this (by decide)) (fun h => absurd h (by omega)) hs
      rw [if_neg (show ¬ (s.extract 1 s.size).size = s.size by omega)] at g1 g2
      by_cases hm : ∃ k, Mag (s.extract 1 s.size) 9223372036854775808 k ∧ ((s.extract 1 s.size).size < s.size → 1 ≤ k)
      · obtain ⟨k, hk, hk1⟩ := hm
        have hk1' := hk1 hlt
        have hI : IsI s (-(k : Int)) := ⟨by have := hk.1; omega, bL_ext (by rw [bL_mk, Lib.itoa_neg k hk1', hbs, ← hd, hk.2])⟩
        rw [g1 k hk hk1, intOf_some hI]
        exact ⟨_, by rw [if_neg (by omega)]; rfl, fun n h => Option.some.inj h⟩
      · obtain ⟨v, hv⟩ := g2 hm
        have hn : intOf s = none := intOf_none fun ⟨n, hr, hn⟩ => by
          have hb : bL s = Lib.itoa n := by rw [hn, bL_mk]
          by_cases h : 0 ≤ n
          · obtain ⟨m, rfl⟩ := Int.eq_ofNat_of_zero_le h
            rw [Lib.itoa_nonneg, hbs] at hb
            have := (dec_val m m (Nat.le_refl _)).2 45 (by rw [← hb]; simp)
            have h45' : (45 : UInt8).toNat = 45 := rfl
            omega
          · obtain ⟨m, rfl⟩ : ∃ m : Nat, n = -(m : Int) := ⟨n.natAbs, by omega⟩
            rw [Lib.itoa_neg m (by omega), hbs] at hb
            exact hm ⟨m, ⟨by omega, by rw [hd]; exact (List.cons.inj hb).2⟩, fun _ => by omega⟩
        rw [hv, hn]
        exact ⟨v, rfl, fun n h => by cases h⟩
    · have hc45 : ¬ ((((c.toNat : Nat) : Int) == 45) = true) := by
        rw [beq_iff_eq]
        exact fun h => h45 (UInt8.toNat_inj.1 (by show c.toNat = 45; omega))
      rw [if_neg hc45]
      obtain ⟨g1, g2⟩ := wT_eq (s := s) (d := s) (.inl rfl) (fun h => absurd h (Nat.lt_irrefl _)) (fun _ => rfl) hs
      simp only [if_true] at g1 g2
      by_cases hm : ∃ k, Mag s 9223372036854775807 k ∧ (s.size < s.size → 1 ≤ k)
      · obtain ⟨k, hk, hk1⟩ := hm
        have hI : IsI s (k : Int) := ⟨by have := hk.1; omega, bL_ext (by rw [bL_mk, Lib.itoa_nonneg, hk.2])⟩
        rw [g1 k hk hk1, intOf_some hI]
        exact ⟨_, rfl, fun n h => Option.some.inj h⟩
      · obtain ⟨v, hv⟩ := g2 hm
        have hn : intOf s = none := intOf_none fun ⟨n, hr, hn⟩ => by
          have hb : bL s = Lib.itoa n := by rw [hn, bL_mk]
          by_cases h : 0 ≤ n
          · obtain ⟨m, rfl⟩ := Int.eq_ofNat_of_zero_le h
            rw [Lib.itoa_nonneg] at hb
            exact hm ⟨m, ⟨by omega, hb⟩, fun h => absurd h (Nat.lt_irrefl _)⟩
          · obtain ⟨m, rfl⟩ : ∃ m : Nat, n = -(m : Int) := ⟨n.natAbs, by omega⟩
            rw [Lib.itoa_neg m (by omega)] at hb
            rw [hb] at hc
            exact h45 (Option.some.inj hc).symm
        rw [hv, hn]
        exact ⟨v, rfl, fun n h => by cases h⟩

/-- All words are numbers. -/
noncomputable def allInts : List ByteArray → Option (List Int)
  | [] => some []
  | s :: r => match intOf s, allInts r with
    | some n, some l => some (n :: l)
    | _, _ => none
theorem allInts_len : ∀ {w : List ByteArray} {l : List Int}, allInts w = some l → l.length = w.length
  | [], l, h => by simp only [allInts, Option.some.injEq] at h; subst h; rfl
  | s :: r, l, h => by
    rw [allInts] at h
    cases h1 : intOf s with
    | none => rw [h1] at h; cases h
    | some n =>
      cases h2 : allInts r with
      | none => rw [h1, h2] at h; cases h
      | some m =>
        rw [h1, h2] at h
        simp only [Option.some.injEq] at h
        subst h
        simp [allInts_len h2]
theorem wholes_loop (w : List ByteArray) (hw : ∀ s ∈ w, s.size ≤ 1000000000) (hl : w.length ≤ 1000000000) (k : List Int → Option (List Int × Bool)) : ∀ (m i N : Nat) (acc : List Int), w.length - i = m → i ≤ w.length → acc.length ≤ i → w.length + 1 ≤ N + i →
    reredosref_wholes_L1 w k N i acc = match allInts (w.drop i) with | some l => k (acc ++ l) | none => some ([], false) := by
  intro m
  induction m with
  | zero =>
    intro i N acc h1 h2 h3 h4
    obtain ⟨N, rfl⟩ : ∃ n, N = n + 1 := ⟨N - 1, by omega⟩
    rw [reredosref_wholes_L1, if_neg (by simp; omega), List.drop_eq_nil_of_le (by omega)]
    simp [allInts]
  | succ m ih =>
    intro i N acc h1 h2 h3 h4
    obtain ⟨N, rfl⟩ : ∃ n, N = n + 1 := ⟨N - 1, by omega⟩
    have hi : i < w.length := by omega
    obtain ⟨v, e, hv⟩ := whole_eq (hw _ (List.getElem_mem hi))
    rw [reredosref_wholes_L1, if_pos (by simpa using hi), bind_at hi, e, Option.bind_some, List.drop_eq_getElem_cons hi, allInts]
    cases hn : intOf w[i] with
    | none => simp
    | some n =>
      have := hv n hn
      subst this
      simp only [Option.isSome_some, Bool.not_true, Bool.false_eq_true, if_false]
      rw [if_pos (by unfold fits maxLen; omega), ih (i + 1) N (acc ++ [v]) (by omega) (by omega) (by simp; omega) (by omega)]
      cases allInts (w.drop (i + 1)) with
      | none => rfl
      | some l => simp
theorem wholes_eq {w : List ByteArray} (hw : ∀ s ∈ w, s.size ≤ 1000000000) (hl : w.length ≤ 1000000000) : reredosref_wholes w = some (match allInts w with | some l => (l, true) | none => ([], false)) := by
  rw [reredosref_wholes, withK, wholes_loop w hw hl _ w.length 0 (w.length + 1) [] (by omega) (by omega) (by simp) (by omega), List.drop_zero]
  cases allInts w with
  | none => rfl
  | some l => simp
noncomputable def nv (l : List ByteArray) (b : Bool) : Int := ((lines_taker_number ⟨l, b⟩).getD default).2
noncomputable def nb (l : List ByteArray) (b : Bool) : Bool := match l with
  | [] => true
  | s :: _ => b || (intOf s).isNone
theorem tnum_eq {l : List ByteArray} (b : Bool) (h : ∀ s ∈ l, s.size ≤ 1000000000) : lines_taker_number ⟨l, b⟩ = some (⟨l.tail, nb l b⟩, nv l b) ∧ ∀ s r n, l = s :: r → intOf s = some n → nv l b = n := by
  cases l with
  | nil => exact ⟨by rw [nv, lnumber_nil]; rfl, fun s r n h => by cases h⟩
  | cons s r =>
    obtain ⟨v, e, hv⟩ := lnumber_cons (s := s) r b (by have := h s (by simp); omega)
    have hnv : nv (s :: r) b = v := by rw [nv, e]; rfl
    refine ⟨by rw [e, hnv]; rfl, fun s' r' n hs hn => ?_⟩
    cases hs
    rw [hnv]; exact hv n hn
theorem crash_loop (k : List ByteArray → Bool → List Int → Option (Act × Bool)) : ∀ (m N : Nat) (l : List ByteArray) (acc : List Int), l.length = m → l.length < N → (∀ s ∈ l, s.size ≤ 1000000000) → acc.length + l.length ≤ 1000000000 →
    match allInts l with
    | some v => lines_one_L1 k N l false acc = k [] false (acc ++ v)
    | none => ∃ l' a', lines_one_L1 k N l false acc = k l' true a' := by
  intro m
  induction m with
  | zero =>
    intro N l acc h1 h2 h3 h4
    have hl : l = [] := List.eq_nil_of_length_eq_zero h1
    subst hl
    obtain ⟨N, rfl⟩ : ∃ n, N = n + 1 := ⟨N - 1, by omega⟩
    simp only [allInts]
    rw [lines_one_L1, if_neg (by simp), List.append_nil]
  | succ m ih =>
    intro N l acc h1 h2 h3 h4
    obtain ⟨N, rfl⟩ : ∃ n, N = n + 1 := ⟨N - 1, by omega⟩
    cases l with
    | nil => simp at h1
    | cons s r =>
      obtain ⟨v, e, hv⟩ := lnumber_cons (s := s) r false (by have := h3 s (by simp); omega)
      simp only [List.length_cons] at h1 h2 h4
      have hstep : lines_one_L1 k (N + 1) (s :: r) false acc = lines_one_L1 k N r (intOf s).isNone (acc ++ [v]) := by
        rw [lines_one_L1, if_pos (by rw [decide_eq_true_eq, List.length_cons]; omega), if_pos (by rfl)]
        simp only [withK]
        rw [e, Option.bind_some, if_pos (by unfold fits maxLen; omega)]
        simp
      rw [hstep, allInts]
      cases hn : intOf s with
      | none =>
        simp only [Option.isNone_none]
        obtain ⟨N, rfl⟩ : ∃ n, N = n + 1 := ⟨N - 1, by omega⟩
        rw [lines_one_L1]
        by_cases hr : r = []
        · subst hr
          exact ⟨[], acc ++ [v], by rw [if_neg (by simp)]⟩
        · have : 0 < r.length := List.length_pos_iff.2 hr
          exact ⟨r, acc ++ [v], by rw [if_pos (by rw [decide_eq_true_eq]; omega), if_neg (by simp)]⟩
      | some n =>
        have hvn := hv n hn
        subst hvn
        have := ih N r (acc ++ [v]) (by omega) (by omega) (fun x hx => h3 x (by simp [hx])) (by simp; omega)
        simp only [Option.isNone_some]
        cases ha : allInts r with
        | none => rw [ha] at this; exact this
        | some l => rw [ha] at this; simpa using this

theorem words8 : (tab_lines_words.drop 1).take 8 = [bs_5ed33f70, bs_45a69146, bs_6e9d2536, bs_12cba3ee, bs_e5e5c075, bs_dcaa9fd4, bs_ea2b2676, bs_599dcce2] := rfl
theorem words5 : (tab_lines_calls.drop 1).take 5 = [bs_8d589afa, bs_b5eda0a7, bs_8e13ffc9, bs_fffca4d6, bs_fff66e9b] := rfl
theorem idx_at (l : List ByteArray) (w : ByteArray) : ∀ (m i N : Nat), l.length - i = m → i ≤ l.length → l.length + 1 ≤ N + i →
    slices_Index_string_L1 l w (some (-1)) N i = some (match (l.drop i).findIdx? (fun x => decide (w = x)) with | some j => ((i + j : Nat) : Int) | none => -1) := by
  intro m
  induction m with
  | zero =>
    intro i N h1 h2 h3
    obtain ⟨N, rfl⟩ : ∃ n, N = n + 1 := ⟨N - 1, by omega⟩
    rw [slices_Index_string_L1, if_neg (by rw [decide_eq_true_eq]; omega), List.drop_eq_nil_of_le (by omega)]; rfl
  | succ m ih =>
    intro i N h1 h2 h3
    obtain ⟨N, rfl⟩ : ∃ n, N = n + 1 := ⟨N - 1, by omega⟩
    have hi : i < l.length := by omega
    rw [slices_Index_string_L1, if_pos (by rw [decide_eq_true_eq]; exact hi), bind_at hi, toL_dec, List.drop_eq_getElem_cons hi, List.findIdx?_cons]
    by_cases h : w = l[i]
    · rw [if_pos (by rw [decide_eq_true_eq]; exact h), if_pos (by rw [decide_eq_true_eq]; exact h)]; rfl
    · rw [if_neg (by rw [decide_eq_true_eq]; exact h), if_neg (by rw [decide_eq_true_eq]; exact h), ih (i + 1) N (by omega) (by omega) (by omega)]
      cases (l.drop (i + 1)).findIdx? (fun x => decide (w = x)) with
      | none => rfl
      | some j => simp only [Option.map_some]; congr 2; omega
theorem idx_eq (l : List ByteArray) (w : ByteArray) : slices_Index_string l w = some (match l.findIdx? (fun x => decide (w = x)) with | some j => (j : Int) | none => -1) := by
  rw [slices_Index_string, withK, idx_at l w l.length 0 (l.length + 1) (by omega) (by omega) (by omega), List.drop_zero]
  cases l.findIdx? (fun x => decide (w = x)) with
  | none => rfl
  | some j => simp
/-- Words are told apart. -/
theorem ne_bs {a b : ByteArray} (h : (bL a == bL b) = false) : a ≠ b := fun e => by subst e; simp at h
theorem kind_of (w : ByteArray) : slices_Index_string ((tab_lines_words.drop 1).take 8) w = some (if w = bs_5ed33f70 then 0 else if w = bs_45a69146 then 1 else if w = bs_6e9d2536 then 2 else if w = bs_12cba3ee then 3 else if w = bs_e5e5c075 then 4 else if w = bs_dcaa9fd4 then 5 else if w = bs_ea2b2676 then 6 else if w = bs_599dcce2 then 7 else -1) := by
  rw [words8, idx_eq]
  simp only [List.findIdx?_cons, List.findIdx?_nil, decide_eq_true_eq]
  repeat' split
  all_goals first | (simp_all; done) | (simp_all; omega)
theorem call_of (w : ByteArray) : slices_Index_string ((tab_lines_calls.drop 1).take 5) w = some (if w = bs_8d589afa then 0 else if w = bs_b5eda0a7 then 1 else if w = bs_8e13ffc9 then 2 else if w = bs_fffca4d6 then 3 else if w = bs_fff66e9b then 4 else -1) := by
  rw [words5, idx_eq]
  simp only [List.findIdx?_cons, List.findIdx?_nil, decide_eq_true_eq]
  repeat' split
  all_goals first | (simp_all; done) | (simp_all; omega)

def Sz (l : List ByteArray) : Prop := ∀ s ∈ l, s.size ≤ 1000000000
theorem Sz.tail {l : List ByteArray} (h : Sz l) : Sz l.tail := fun s hs => h s (List.mem_of_mem_tail hs)
theorem Sz.of {w : ByteArray} {l : List ByteArray} (h : Sz (w :: l)) : Sz l := fun s hs => h s (by simp [hs])
theorem nb_true (l : List ByteArray) : nb l true = true := by cases l <;> simp [nb]
theorem num3 {r : List ByteArray} (b : Bool) (h : Sz r) : lines_taker_number ⟨r, b⟩ = some (⟨r.tail, nb r b⟩, nv r b) ∧ lines_taker_number ⟨r.tail, nb r b⟩ = some (⟨r.tail.tail, nb r.tail (nb r b)⟩, nv r.tail (nb r b)) ∧ lines_taker_number ⟨r.tail.tail, nb r.tail (nb r b)⟩ = some (⟨r.tail.tail.tail, nb r.tail.tail (nb r.tail (nb r b))⟩, nv r.tail.tail (nb r.tail (nb r b))) :=
  ⟨(tnum_eq b h).1, (tnum_eq _ h.tail).1, (tnum_eq _ h.tail.tail).1⟩
theorem w_ne : (bs_8d589afa ≠ bs_b5eda0a7 ∧ bs_8d589afa ≠ bs_8e13ffc9 ∧ bs_8d589afa ≠ bs_fffca4d6 ∧ bs_8d589afa ≠ bs_fff66e9b) ∧ (bs_b5eda0a7 ≠ bs_8e13ffc9 ∧ bs_b5eda0a7 ≠ bs_fffca4d6 ∧ bs_b5eda0a7 ≠ bs_fff66e9b) ∧ (bs_8e13ffc9 ≠ bs_fffca4d6 ∧ bs_8e13ffc9 ≠ bs_fff66e9b) ∧ bs_fffca4d6 ≠ bs_fff66e9b :=
  ⟨⟨ne_bs rfl, ne_bs rfl, ne_bs rfl, ne_bs rfl⟩, ⟨ne_bs rfl, ne_bs rfl, ne_bs rfl⟩, ⟨ne_bs rfl, ne_bs rfl⟩, ne_bs rfl⟩
/-- What the taker reads as a call. -/
noncomputable def callR (l : List ByteArray) (b : Bool) : LinesTaker × Call :=
  match l with
  | [] => (⟨[], true⟩, Call.mk 0 0 0 0 0)
  | w :: r =>
    let b1 := nb r b; let b2 := nb r.tail b1; let b3 := nb r.tail.tail b2
    if w = bs_8d589afa then (⟨r, b⟩, Call.mk 1 0 0 0 0)
    else if w = bs_b5eda0a7 then (⟨r.tail.tail.tail, b3⟩, Call.mk 2 (nv r b) (nv r.tail b1) (nv r.tail.tail b2) 0)
    else if w = bs_8e13ffc9 then (⟨r.tail.tail.tail, b3⟩, Call.mk 3 (nv r b) 0 (nv r.tail b1) (nv r.tail.tail b2))
    else if w = bs_fffca4d6 then (⟨r.tail, b1⟩, Call.mk 4 (nv r b) 0 0 0)
    else if w = bs_fff66e9b then (⟨r.tail, b1⟩, Call.mk 5 (nv r b) 0 0 0)
    else (⟨r, true⟩, Call.mk 0 0 0 0 0)
theorem w5 (i : Int) (h : -1 ≤ i ∧ i ≤ 7) : IntKind.i64.wrap (i + 1) = i + 1 := wrap_in (by omega) (by omega)
theorem call_take {l : List ByteArray} (b : Bool) (h : Sz l) : lines_taker_call ⟨l, b⟩ = some (callR l b) := by
  obtain ⟨⟨n1, n2, n3, n4⟩, ⟨n5, n6, n7⟩, ⟨n8, n9⟩, n10⟩ := w_ne
  cases l with
  | nil =>
    have hk : slices_Index_string ((tab_lines_calls.drop 1).take 5) (⟨#[]⟩ : ByteArray) = some (-1) := by
      rw [call_of, if_neg (ne_bs rfl), if_neg (ne_bs rfl), if_neg (ne_bs rfl), if_neg (ne_bs rfl), if_neg (ne_bs rfl)]
    simp only [lines_taker_call, withK, lnext_nil, Option.bind_some, hk, w5 (-1) (by omega), callR]
    rfl
  | cons w r =>
    obtain ⟨e1, e2, e3⟩ := num3 b h.of
    simp only [lines_taker_call, withK, lnext_cons, Option.bind_some, call_of, callR]
    by_cases k1 : w = bs_8d589afa
    · simp only [k1, if_true, w5 0 (by omega)]; rfl
    by_cases k2 : w = bs_b5eda0a7
    · simp only [k2, n1.symm, if_true, if_false, w5 1 (by omega)]
      simp [e1, e2, e3]
    by_cases k3 : w = bs_8e13ffc9
    · simp only [k3, n2.symm, n5.symm, if_true, if_false, w5 2 (by omega)]
      simp [e1, e2, e3]
    by_cases k4 : w = bs_fffca4d6
    · simp only [k4, n3.symm, n6.symm, n8.symm, if_true, if_false, w5 3 (by omega)]
      simp [e1]
    by_cases k5 : w = bs_fff66e9b
    · simp only [k5, n4.symm, n7.symm, n9.symm, n10.symm, if_true, if_false, w5 4 (by omega)]
      simp [e1]
    · simp only [k1, k2, k3, k4, k5, if_false, w5 (-1) (by omega)]
      simp

theorem opt_cases {α : Type} (o : Option α) : o = none ∨ ∃ n, o = some n := by cases o <;> simp
theorem nv_some {a : ByteArray} {r : List ByteArray} {b : Bool} {n : Int} (h : Sz (a :: r)) (hn : intOf a = some n) : nv (a :: r) b = n := (tnum_eq b h).2 a r n rfl hn
def okT (t : LinesTaker) : Bool := !t.bad && decide (t.l = [])
/-- Where not all are numbers, or there are too many words, the call is none. -/
theorem all_some {r : List ByteArray} : ∀ {l : List Int}, allInts r = some l → ∀ s ∈ r, (intOf s).isSome = true := by
  induction r with
  | nil => intro l _ s hs; cases hs
  | cons a r ih =>
    intro l h s hs
    rw [allInts] at h
    rcases opt_cases (intOf a) with ha | ⟨x, ha⟩
    · rw [ha] at h; cases h
    · rcases opt_cases (allInts r) with hr | ⟨y, hr⟩
      · rw [ha, hr] at h; cases h
      · rcases List.mem_cons.1 hs with rfl | hs
        · rw [ha]; rfl
        · exact ih hr s hs
theorem all_of {r : List ByteArray} (h : ∀ s ∈ r, (intOf s).isSome = true) : ∃ l, allInts r = some l := by
  induction r with
  | nil => exact ⟨[], rfl⟩
  | cons a r ih =>
    obtain ⟨l, hl⟩ := ih fun s hs => h s (by simp [hs])
    have ha := h a (by simp)
    rcases opt_cases (intOf a) with hn | ⟨x, hn⟩
    · rw [hn] at ha; cases ha
    · exact ⟨x :: l, by rw [allInts, hn, hl]⟩
theorem okT_none {w : ByteArray} {r : List ByteArray} (h : allInts r = none) : okT (callR (w :: r) false).1 = false := by
  have hno : ¬ ∀ s ∈ r, (intOf s).isSome = true := fun q => by obtain ⟨l, hl⟩ := all_of q; rw [hl] at h; cases h
  match r, hno with
  | [], hno => exact absurd (fun s hs => by cases hs) hno
  | [a], hno =>
    have ha : intOf a = none := by
      rcases opt_cases (intOf a) with q | ⟨x, q⟩
      · exact q
      · exact absurd (fun s hs => by simp only [List.mem_singleton] at hs; subst hs; rw [q]; rfl) hno
    simp only [callR, nb, ha, List.tail_cons, List.tail_nil]
    repeat' split
    all_goals simp [okT]
  | [a, b], hno =>
    have hab : intOf a = none ∨ intOf b = none := by
      rcases opt_cases (intOf a) with q | ⟨x, q⟩
      · exact .inl q
      · rcases opt_cases (intOf b) with q2 | ⟨x2, q2⟩
        · exact .inr q2
        · exact absurd (fun s hs => by simp only [List.mem_cons, List.not_mem_nil, or_false] at hs; rcases hs with rfl | rfl <;> simp [q, q2]) hno
    simp only [callR, nb, List.tail_cons, List.tail_nil]
    rcases hab with q | q <;> repeat' split
    all_goals simp [okT, q]
  | [a, b, c], hno =>
    have hab : intOf a = none ∨ intOf b = none ∨ intOf c = none := by
      rcases opt_cases (intOf a) with q | ⟨x, q⟩
      · exact .inl q
      · rcases opt_cases (intOf b) with q2 | ⟨x2, q2⟩
        · exact .inr (.inl q2)
        · rcases opt_cases (intOf c) with q3 | ⟨x3, q3⟩
          · exact .inr (.inr q3)
          · exact absurd (fun s hs => by simp only [List.mem_cons, List.not_mem_nil, or_false] at hs; rcases hs with rfl | rfl | rfl <;> simp [q, q2, q3]) hno
    simp only [callR, nb, List.tail_cons, List.tail_nil]
    rcases hab with q | q | q <;> repeat' split
    all_goals simp [okT, q]
  | a :: b :: c :: d :: l, hno =>
    simp only [callR, nb, List.tail_cons, List.tail_nil]
    repeat' split
    all_goals simp [okT]
theorem callOf_eq {l : List ByteArray} (h : Sz l) (hl : l.length ≤ 1000000000) : ∃ y, reredosref_callOf l = some (y, okT (callR l false).1) ∧ (okT (callR l false).1 = true → y = (callR l false).2) := by
  obtain ⟨⟨n1, n2, n3, n4⟩, ⟨n5, n6, n7⟩, ⟨n8, n9⟩, n10⟩ := w_ne
  cases l with
  | nil => exact ⟨_, by simp [reredosref_callOf, okT, callR]; rfl, fun h => by simp [okT, callR] at h⟩
  | cons w r =>
    have hr := h.of
    have hrl : r.length ≤ 1000000000 := by simp at hl; omega
    have hw : reredosref_wholes r = some (match allInts r with | some l => (l, true) | none => ([], false)) := wholes_eq hr hrl
    simp only [reredosref_callOf, withK, List.length_cons, List.drop_succ_cons, List.drop_zero, List.getElem?_cons_zero, Option.bind_some, toL_dec]
    rw [if_neg (by rw [beq_iff_eq]; omega), if_pos (by omega), hw, Option.bind_some]
    by_cases hall : allInts r = none
    · rw [hall, okT_none hall]; exact ⟨_, by simp; rfl, fun h => by cases h⟩
    match r, hr, hall with
    | [], hr, hall =>
      by_cases k1 : w = bs_8d589afa
      · subst k1; exact ⟨_, by simp [allInts, okT, callR]; rfl, fun _ => by simp [callR]⟩
      by_cases k2 : w = bs_b5eda0a7
      · subst k2; exact ⟨_, by simp [allInts, okT, callR, n1.symm, n5, n6, n7, nb]; rfl, fun h => by simp [okT, callR, n1.symm, nb] at h⟩
      by_cases k3 : w = bs_8e13ffc9
      · subst k3; exact ⟨_, by simp [allInts, okT, callR, n2.symm, n5.symm, n8, n9, nb]; rfl, fun h => by simp [okT, callR, n2.symm, n5.symm, nb] at h⟩
      by_cases k4 : w = bs_fffca4d6
      · subst k4; exact ⟨_, by simp [allInts, okT, callR, n3.symm, n6.symm, n8.symm, n10, nb]; rfl, fun h => by simp [okT, callR, n3.symm, n6.symm, n8.symm, nb] at h⟩
      by_cases k5 : w = bs_fff66e9b
      · subst k5; exact ⟨_, by simp [allInts, okT, callR, n4.symm, n7.symm, n9.symm, n10.symm, nb]; rfl, fun h => by simp [okT, callR, n4.symm, n7.symm, n9.symm, n10.symm, nb] at h⟩
      · exact ⟨_, by simp [allInts, okT, callR, k1, k2, k3, k4, k5]; rfl, fun h => by simp [okT, callR, k1, k2, k3, k4, k5] at h⟩
    | [a], hr, hall =>
      rcases opt_cases (intOf a) with ha | ⟨x, ha⟩
      · exact absurd (by simp [allInts, ha]) hall
      · have hv := nv_some (b := false) hr ha
        by_cases k1 : w = bs_8d589afa
        · subst k1; exact ⟨_, by simp [allInts, okT, callR, ha]; rfl, fun h => by simp [okT, callR] at h⟩
        by_cases k2 : w = bs_b5eda0a7
        · subst k2; exact ⟨_, by simp [allInts, okT, callR, n1.symm, n5, n6, n7, nb, ha]; rfl, fun h => by simp [okT, callR, n1.symm, nb] at h⟩
        by_cases k3 : w = bs_8e13ffc9
        · subst k3; exact ⟨_, by simp [allInts, okT, callR, n2.symm, n5.symm, n8, n9, nb, ha]; rfl, fun h => by simp [okT, callR, n2.symm, n5.symm, nb] at h⟩
        by_cases k4 : w = bs_fffca4d6
        · subst k4; exact ⟨_, by simp [allInts, okT, callR, n3.symm, n6.symm, n8.symm, n10, nb, ha]; rfl, fun h => by simp [callR, n3.symm, n6.symm, n8.symm, hv]⟩
        by_cases k5 : w = bs_fff66e9b
        · subst k5; exact ⟨_, by simp [allInts, okT, callR, n4.symm, n7.symm, n9.symm, n10.symm, nb, ha]; rfl, fun h => by simp [callR, n4.symm, n7.symm, n9.symm, n10.symm, hv]⟩
        · exact ⟨_, by simp [allInts, okT, callR, k1, k2, k3, k4, k5, ha]; rfl, fun h => by simp [okT, callR, k1, k2, k3, k4, k5] at h⟩
    | [a, b], hr, hall =>
      obtain ⟨li, hli⟩ : ∃ li, allInts [a, b] = some li := by
        rcases opt_cases (allInts [a, b]) with q | ⟨x, q⟩
        · exact absurd q hall
        · exact ⟨x, q⟩
      have hli2 := allInts_len hli
      simp only [hli]
      by_cases k1 : w = bs_8d589afa
      · subst k1; exact ⟨_, by simp [hli2, okT, callR]; rfl, fun h => by simp [okT, callR] at h⟩
      by_cases k2 : w = bs_b5eda0a7
      · subst k2; exact ⟨_, by simp [hli2, okT, callR, n1.symm, n5, n6, n7, nb]; rfl, fun h => by simp [okT, callR, n1.symm, nb] at h⟩
      by_cases k3 : w = bs_8e13ffc9
      · subst k3; exact ⟨_, by simp [hli2, okT, callR, n2.symm, n5.symm, n8, n9, nb]; rfl, fun h => by simp [okT, callR, n2.symm, n5.symm, nb] at h⟩
      by_cases k4 : w = bs_fffca4d6
      · subst k4; exact ⟨_, by simp [hli2, okT, callR, n3.symm, n6.symm, n8.symm, n10, nb]; rfl, fun h => by simp [okT, callR, n3.symm, n6.symm, n8.symm, nb] at h⟩
      by_cases k5 : w = bs_fff66e9b
      · subst k5; exact ⟨_, by simp [hli2, okT, callR, n4.symm, n7.symm, n9.symm, n10.symm, nb]; rfl, fun h => by simp [okT, callR, n4.symm, n7.symm, n9.symm, n10.symm, nb] at h⟩
      · exact ⟨_, by simp [okT, callR, k1, k2, k3, k4, k5]; rfl, fun h => by simp [okT, callR, k1, k2, k3, k4, k5] at h⟩
    | [a, b, c], hr, hall =>
      obtain ⟨li, hli⟩ : ∃ li, allInts [a, b, c] = some li := by
        rcases opt_cases (allInts [a, b, c]) with q | ⟨x, q⟩
        · exact absurd q hall
        · exact ⟨x, q⟩
      have hs := all_some hli
      rcases opt_cases (intOf a) with ha | ⟨x, ha⟩
      · have := hs a (by simp); rw [ha] at this; cases this
      rcases opt_cases (intOf b) with hb | ⟨y, hb⟩
      · have := hs b (by simp); rw [hb] at this; cases this
      rcases opt_cases (intOf c) with hc | ⟨z, hc⟩
      · have := hs c (by simp); rw [hc] at this; cases this
      have hv := nv_some (b := false) hr ha
      have hv2 := nv_some (b := nb [a, b, c] false) hr.of hb
      have hv3 := nv_some (b := nb [b, c] (nb [a, b, c] false)) hr.of.of hc
      simp only [nb, ha, hb, Option.isNone_some, Bool.or_false] at hv hv2 hv3
      have hlv : allInts [a, b, c] = some [x, y, z] := by simp [allInts, ha, hb, hc]
      simp only [hlv]
      by_cases k1 : w = bs_8d589afa
      · subst k1; exact ⟨_, by simp [okT, callR]; rfl, fun h => by simp [okT, callR] at h⟩
      by_cases k2 : w = bs_b5eda0a7
      · subst k2; exact ⟨_, by simp [okT, callR, n1.symm, n5, n6, n7, nb, ha, hb, hc]; rfl, fun h => by simp [callR, n1.symm, nb, ha, hb, hc, hv, hv2, hv3]⟩
      by_cases k3 : w = bs_8e13ffc9
      · subst k3; exact ⟨_, by simp [okT, callR, n2.symm, n5.symm, n8, n9, nb, ha, hb, hc]; rfl, fun h => by simp [callR, n2.symm, n5.symm, nb, ha, hb, hc, hv, hv2, hv3]⟩
      by_cases k4 : w = bs_fffca4d6
      · subst k4; exact ⟨_, by simp [okT, callR, n3.symm, n6.symm, n8.symm, n10, nb]; rfl, fun h => by simp [okT, callR, n3.symm, n6.symm, n8.symm, nb] at h⟩
      by_cases k5 : w = bs_fff66e9b
      · subst k5; exact ⟨_, by simp [okT, callR, n4.symm, n7.symm, n9.symm, n10.symm, nb]; rfl, fun h => by simp [okT, callR, n4.symm, n7.symm, n9.symm, n10.symm, nb] at h⟩
      · exact ⟨_, by simp [okT, callR, k1, k2, k3, k4, k5]; rfl, fun h => by simp [okT, callR, k1, k2, k3, k4, k5] at h⟩
    | a :: b :: c :: d :: l, hr, hall =>
      obtain ⟨li, hli⟩ : ∃ li, allInts (a :: b :: c :: d :: l) = some li := by
        rcases opt_cases (allInts (a :: b :: c :: d :: l)) with q | ⟨x, q⟩
        · exact absurd q hall
        · exact ⟨x, q⟩
      have hli2 := allInts_len hli
      have q0 : ¬ ((li.length : Int) = 0) := by rw [hli2]; simp; omega
      have q1 : ¬ ((li.length : Int) = 1) := by rw [hli2]; simp; omega
      have q3 : ¬ ((li.length : Int) = 3) := by rw [hli2]; simp; omega
      have e0 : (((li.length : Nat) : Int) == 0) = false := by rw [beq_eq_false_iff_ne]; exact q0
      have e1 : (((li.length : Nat) : Int) == 1) = false := by rw [beq_eq_false_iff_ne]; exact q1
      have e3 : (((li.length : Nat) : Int) == 3) = false := by rw [beq_eq_false_iff_ne]; exact q3
      simp only [hli, e0, e1, e3]
      have hok : okT (callR (w :: a :: b :: c :: d :: l) false).1 = false := by
        simp only [callR, nb, List.tail_cons]
        repeat' split
        all_goals simp [okT]
      rw [hok]
      refine ⟨(if w = bs_8d589afa then Call.mk 1 0 0 0 0 else Call.mk 0 0 0 0 0), ?_, fun h => by cases h⟩
      by_cases k1 : w = bs_8d589afa
      · subst k1; simp
      · simp [k1]

/-- Where a line ends well. -/
theorem fin_ok (a : Act) (l : List ByteArray) (b : Bool) : (if b = false then some (a, (((l.length : Nat) : Int) == 0)) else some (a, false)) = some (a, okT ⟨l, b⟩) := by
  cases b <;> cases l <;> simp [okT]
  omega
theorem fin_t (l : List ByteArray) : (((l.length : Nat) : Int) == 0) = okT ⟨l, false⟩ := by
  cases l <;> simp [okT]
  omega
theorem v_ne : bs_5ed33f70 ≠ bs_45a69146 ∧ bs_5ed33f70 ≠ bs_6e9d2536 ∧ bs_5ed33f70 ≠ bs_12cba3ee ∧ bs_5ed33f70 ≠ bs_e5e5c075 ∧ bs_5ed33f70 ≠ bs_dcaa9fd4 ∧ bs_5ed33f70 ≠ bs_ea2b2676 ∧ bs_5ed33f70 ≠ bs_599dcce2 :=
  ⟨ne_bs rfl, ne_bs rfl, ne_bs rfl, ne_bs rfl, ne_bs rfl, ne_bs rfl, ne_bs rfl⟩
/-- The kind of a word. -/
noncomputable def kindW (w : ByteArray) : Int := if w = bs_5ed33f70 then 1 else if w = bs_45a69146 then 2 else if w = bs_6e9d2536 then 3 else if w = bs_12cba3ee then 4 else if w = bs_e5e5c075 then 5 else if w = bs_dcaa9fd4 then 6 else if w = bs_ea2b2676 then 7 else if w = bs_599dcce2 then 8 else 0
theorem kind_w (w : ByteArray) : ∃ v, slices_Index_string ((tab_lines_words.drop 1).take 8) w = some v ∧ IntKind.i64.wrap (v + 1) = kindW w := by
  refine ⟨_, kind_of w, ?_⟩
  unfold kindW
  repeat' split
  all_goals exact w5 _ (by omega)
/-- The line's reading, word by word. -/
noncomputable def oneR (w : ByteArray) (r : List ByteArray) (N : Nat) : Option (Act × Bool) :=
  let k := kindW w; let b := nb r false; let s := nv r false; let b1 := nb r.tail b; let b2 := nb r.tail.tail b1; let b3 := nb r.tail.tail.tail b2
  if k = 0 then some (Act.mk 0 0 0 0 0 [] (Call.mk 0 0 0 0 0) (⟨#[]⟩ : ByteArray), false)
  else if k = 5 then some (Act.mk 5 0 0 0 0 [] (Call.mk 0 0 0 0 0) (⟨#[]⟩ : ByteArray), okT ⟨r, false⟩)
  else if k = 2 ∨ k = 3 ∨ k = 4 then some (Act.mk k s (nv r.tail b) (nv r.tail.tail b1) (nv r.tail.tail.tail b2) [] (Call.mk 0 0 0 0 0) (⟨#[]⟩ : ByteArray), okT ⟨r.tail.tail.tail.tail, b3⟩)
  else if k = 6 then lines_one_L1 (fun l b a => some (Act.mk 6 s 0 0 0 a (Call.mk 0 0 0 0 0) (⟨#[]⟩ : ByteArray), okT ⟨l, b⟩)) N r.tail b []
  else if k = 1 then some (Act.mk 1 s 0 (nv r.tail b) 0 [] (callR r.tail.tail b1).2 (⟨#[]⟩ : ByteArray), okT (callR r.tail.tail b1).1)
  else if k = 8 then Option.bind (lines_taker_text ⟨r.tail.tail, b1⟩) fun v => some (Act.mk 8 s 0 (nv r.tail b) 0 [] (Call.mk 0 0 0 0 0) v.2, okT v.1)
  else some (Act.mk 7 s 0 0 0 [] (Call.mk 0 0 0 0 0) (⟨#[]⟩ : ByteArray), okT ⟨r.tail, b⟩)
theorem kindW_in (w : ByteArray) : kindW w = 0 ∨ kindW w = 1 ∨ kindW w = 2 ∨ kindW w = 3 ∨ kindW w = 4 ∨ kindW w = 5 ∨ kindW w = 6 ∨ kindW w = 7 ∨ kindW w = 8 := by
  unfold kindW
  repeat' split
  all_goals omega
theorem one_R {p w : ByteArray} {r : List ByteArray} (hp : p.size ≤ 1000000000) (hw : words p = w :: r) (h : Sz r) : lines_one p = oneR w r (p.size + 3) := by
  obtain ⟨v, e1, e2⟩ := kind_w w
  have n1 := (tnum_eq false h).1
  have n2 := (tnum_eq (nb r false) h.tail).1
  have n3 := (tnum_eq (nb r.tail (nb r false)) h.tail.tail).1
  have n4 := (tnum_eq (nb r.tail.tail (nb r.tail (nb r false))) h.tail.tail.tail).1
  have n5 := call_take (nb r.tail (nb r false)) h.tail.tail
  simp only [lines_one, splitF_eq (show p.size < 4294967281 by omega), hw, lnext_cons, Option.bind_some, withK, e1, e2, oneR]
  rcases kindW_in w with hk | hk | hk | hk | hk | hk | hk | hk | hk <;> rw [hk]
  all_goals simp [n1, n2, n3, n4, n5, fin_ok, -List.length_tail]
  exact fin_t r

noncomputable def stepN : Nat → List ByteArray → Bool → LinesTaker
  | 0, r, b => ⟨r, b⟩
  | n + 1, r, b => stepN n r.tail (nb r b)
theorem okN : ∀ (n : Nat) (r : List ByteArray) (b : Bool), okT (stepN n r b) = (!b && decide (r.length = n) && (allInts r).isSome)
  | 0, r, b => by
    cases r with
    | nil => simp [stepN, okT, allInts]
    | cons s t => simp [stepN, okT]
  | n + 1, [], b => by
    rw [stepN, okN n]; simp [nb]
  | n + 1, s :: t, b => by
    rw [stepN, okN n, allInts, nb]
    simp only [List.tail_cons, List.length_cons, Nat.add_right_cancel_iff]
    cases b <;> rcases opt_cases (intOf s) with q | ⟨x, q⟩ <;> rcases opt_cases (allInts t) with g | ⟨y, g⟩ <;> simp [q, g] <;> exact decide_eq_decide.2 Iff.rfl
theorem ok1 (r : List ByteArray) : okT ⟨r.tail, nb r false⟩ = (decide (r.length = 1) && (allInts r).isSome) := by
  have := okN 1 r false
  simpa [stepN] using this
theorem ok4 (r : List ByteArray) : okT ⟨r.tail.tail.tail.tail, nb r.tail.tail.tail (nb r.tail.tail (nb r.tail (nb r false)))⟩ = (decide (r.length = 4) && (allInts r).isSome) := by
  have := okN 4 r false
  simpa [stepN] using this
theorem callR_bad (l : List ByteArray) : okT (callR l true).1 = false := by
  cases l with
  | nil => simp [callR, okT]
  | cons w r =>
    simp only [callR, nb_true]
    repeat' split
    all_goals simp [okT]
theorem text_bad (l : List ByteArray) (h : Sz l) : ∃ t y, lines_taker_text ⟨l, true⟩ = some (t, y) ∧ okT t = false := by
  cases l with
  | nil => exact ⟨_, _, text_nil true, rfl⟩
  | cons w r =>
    obtain ⟨y, ok, _, e⟩ := text_eq r true (h w (by simp))
    exact ⟨_, _, e, by simp [okT]⟩
theorem all_cons {s : ByteArray} {t : List ByteArray} {l : List Int} (h : allInts (s :: t) = some l) : ∃ n m, l = n :: m ∧ intOf s = some n ∧ allInts t = some m := by
  rw [allInts] at h
  rcases opt_cases (intOf s) with q | ⟨x, q⟩ <;> rcases opt_cases (allInts t) with g | ⟨y, g⟩ <;> rw [q, g] at h
  · cases h
  · cases h
  · cases h
  · simp only [Option.some.injEq] at h; exact ⟨x, y, h.symm, q, g⟩
theorem v_ne2 : bs_45a69146 ≠ bs_6e9d2536 ∧ bs_45a69146 ≠ bs_12cba3ee ∧ bs_45a69146 ≠ bs_e5e5c075 ∧ bs_45a69146 ≠ bs_dcaa9fd4 ∧ bs_45a69146 ≠ bs_ea2b2676 ∧ bs_45a69146 ≠ bs_599dcce2 ∧ bs_6e9d2536 ≠ bs_12cba3ee ∧ bs_6e9d2536 ≠ bs_e5e5c075 ∧ bs_6e9d2536 ≠ bs_dcaa9fd4 ∧ bs_6e9d2536 ≠ bs_ea2b2676 ∧ bs_6e9d2536 ≠ bs_599dcce2 :=
  ⟨ne_bs rfl, ne_bs rfl, ne_bs rfl, ne_bs rfl, ne_bs rfl, ne_bs rfl, ne_bs rfl, ne_bs rfl, ne_bs rfl, ne_bs rfl, ne_bs rfl⟩
theorem v_ne3 : bs_12cba3ee ≠ bs_e5e5c075 ∧ bs_12cba3ee ≠ bs_dcaa9fd4 ∧ bs_12cba3ee ≠ bs_ea2b2676 ∧ bs_12cba3ee ≠ bs_599dcce2 ∧ bs_e5e5c075 ≠ bs_dcaa9fd4 ∧ bs_e5e5c075 ≠ bs_ea2b2676 ∧ bs_e5e5c075 ≠ bs_599dcce2 ∧ bs_dcaa9fd4 ≠ bs_ea2b2676 ∧ bs_dcaa9fd4 ≠ bs_599dcce2 ∧ bs_ea2b2676 ≠ bs_599dcce2 :=
  ⟨ne_bs rfl, ne_bs rfl, ne_bs rfl, ne_bs rfl, ne_bs rfl, ne_bs rfl, ne_bs rfl, ne_bs rfl, ne_bs rfl, ne_bs rfl⟩
def zAct : Act := Act.mk 0 0 0 0 0 [] (Call.mk 0 0 0 0 0) (⟨#[]⟩ : ByteArray)
theorem take_len {r : List ByteArray} {w : ByteArray} : ((w :: r).drop 1).take ((w :: r).length - 1) = r := by simp
theorem one_le {r : List ByteArray} {w : ByteArray} : 1 ≤ (w :: r).length := by simp
/-- The reference's line whose first word is neither of the two with words behind. -/
noncomputable def actR (w : ByteArray) (r : List ByteArray) : Act × Bool :=
  match allInts r with
  | none => (zAct, false)
  | some l =>
    if kindW w = 5 then (Act.mk 5 0 0 0 0 [] (Call.mk 0 0 0 0 0) (⟨#[]⟩ : ByteArray), decide (r.length = 0))
    else if kindW w = 7 then (match l with | [x] => (Act.mk 7 x 0 0 0 [] (Call.mk 0 0 0 0 0) (⟨#[]⟩ : ByteArray), true) | _ => (zAct, false))
    else if kindW w = 6 then (match l with | x :: v => (Act.mk 6 x 0 0 0 v (Call.mk 0 0 0 0 0) (⟨#[]⟩ : ByteArray), true) | _ => (zAct, false))
    else if kindW w = 0 then (zAct, false)
    else (match l with | [x, y, z, u] => (Act.mk (kindW w) x y z u [] (Call.mk 0 0 0 0 0) (⟨#[]⟩ : ByteArray), true) | _ => (zAct, false))
theorem act_R {p w : ByteArray} {r : List ByteArray} (hp : p.size ≤ 1000000000) (hw : words p = w :: r) (h : Sz r) (hl : r.length ≤ 1000000000) (h1 : w ≠ bs_5ed33f70) (h8 : w ≠ bs_599dcce2) : reredosref_lineAct p = some (actR w r) := by
  obtain ⟨n1, n2, n3, n4, n5, n6, n7⟩ := v_ne
  obtain ⟨m1, m2, m3, m4, m5, m6, m7, m8, m9, m10, m11⟩ := v_ne2
  obtain ⟨o1, o2, o3, o4, o5, o6, o7, o8, o9, o10⟩ := v_ne3
  have hwh : reredosref_wholes r = some (match allInts r with | some l => (l, true) | none => ([], false)) := wholes_eq h hl
  simp only [reredosref_lineAct, parts_eq hp, hw, Option.bind_some, withK, List.getElem?_cons_zero, toL_dec, decide_eq_false h1, decide_eq_false h8, Bool.false_eq_true, if_false, take_len, if_pos one_le, hwh, actR]
  rcases opt_cases (allInts r) with q | ⟨l, q⟩
  · simp [q, zAct]
  have hlen := allInts_len q
  simp only [q, Bool.not_true, Bool.false_eq_true, if_false, decide_eq_true_eq]
  by_cases k5 : w = bs_e5e5c075
  · subst k5; simp [kindW, n4.symm, m3.symm, m8.symm, o1.symm, hlen]; cases r <;> simp <;> omega
  by_cases k7 : w = bs_ea2b2676
  · subst k7
    simp only [kindW, n6.symm, m5.symm, m10.symm, o3.symm, o6.symm, o8.symm, if_true, if_false]
    match l, hlen with
    | [], _ => simp [m5.symm, m10.symm, o3.symm, o8.symm, zAct]
    | [x], _ => simp
    | x :: y :: l, _ => simp [m5.symm, m10.symm, o3.symm, o8.symm, zAct]; omega
  by_cases k6 : w = bs_dcaa9fd4
  · subst k6
    simp only [kindW, n5.symm, m4.symm, m9.symm, o2.symm, o5.symm, o8, if_true, if_false]
    match l, hlen with
    | [], _ => simp [m4.symm, m9.symm, o2.symm, zAct]
    | x :: l, _ => simp
  by_cases k2 : w = bs_45a69146
  · subst k2
    simp only [kindW, n1.symm, m1, m2, m3, m4, m5, m6, if_true, if_false]
    match l, hlen with
    | [], _ => simp [zAct]
    | [x], _ => simp [zAct]
    | [x, y], _ => simp [zAct]
    | [x, y, z], _ => simp [zAct]
    | [x, y, z, u], _ => simp
    | x :: y :: z :: u :: v :: l, _ => simp [zAct]; omega
  by_cases k3 : w = bs_6e9d2536
  · subst k3
    simp only [kindW, n2.symm, m1.symm, m7, m8, m9, m10, m11, if_true, if_false]
    match l, hlen with
    | [], _ => simp [zAct]
    | [x], _ => simp [zAct]
    | [x, y], _ => simp [zAct]
    | [x, y, z], _ => simp [zAct]
    | [x, y, z, u], _ => simp
    | x :: y :: z :: u :: v :: l, _ => simp [zAct]; omega
  by_cases k4 : w = bs_12cba3ee
  · subst k4
    simp only [kindW, n3.symm, m2.symm, m7.symm, o1, o2, o3, o4, if_true, if_false]
    match l, hlen with
    | [], _ => simp [zAct]
    | [x], _ => simp [zAct]
    | [x, y], _ => simp [zAct]
    | [x, y, z], _ => simp [zAct]
    | [x, y, z, u], _ => simp
    | x :: y :: z :: u :: v :: l, _ => simp [zAct]; omega
  · simp [kindW, k2, k3, k4, k5, k6, k7, h1, h8, zAct]

theorem len4 (t : List ByteArray) : (((t.length : Nat) : Int) + 1 + 1 + 1 + 1 == 4) = okT ⟨t, false⟩ := by
  cases t <;> simp [okT]
  omega
theorem all_of_cons {r : List ByteArray} {x : Int} {l : List Int} (h : allInts r = some (x :: l)) : ∃ s t, r = s :: t ∧ intOf s = some x ∧ allInts t = some l := by
  cases r with
  | nil => simp [allInts] at h
  | cons s t =>
    obtain ⟨n, m, e, h1, h2⟩ := all_cons h
    cases e
    exact ⟨s, t, rfl, h1, h2⟩
theorem all_of_nil {r : List ByteArray} (h : allInts r = some []) : r = [] := by
  have := allInts_len h
  exact List.eq_nil_of_length_eq_zero this.symm
theorem move_same {w : ByteArray} {r : List ByteArray} {N : Nat} (h : Sz r) (hk : kindW w = 2 ∨ kindW w = 3 ∨ kindW w = 4) : ∃ a a' ok, oneR w r N = some (a, ok) ∧ some (actR w r) = some (a', ok) ∧ (ok = true → a = a') := by
  have k0 : kindW w ≠ 0 := by omega
  have k5 : kindW w ≠ 5 := by omega
  have k6 : kindW w ≠ 6 := by omega
  have k7 : kindW w ≠ 7 := by omega
  simp only [oneR, actR, if_neg k0, if_neg k5, if_neg k6, if_neg k7, if_pos hk, ok4]
  rcases opt_cases (allInts r) with q | ⟨l, q⟩
  · rw [q]; exact ⟨_, _, false, by simp; rfl, rfl, fun q => by cases q⟩
  have hlen := allInts_len q
  rw [q, ← hlen]
  match l, hlen, q with
  | [], _, q => exact ⟨_, _, false, by simp; rfl, rfl, fun q => by cases q⟩
  | [x], _, q => exact ⟨_, _, false, by simp; rfl, rfl, fun q => by cases q⟩
  | [x, y], _, q => exact ⟨_, _, false, by simp; rfl, rfl, fun q => by cases q⟩
  | [x, y, z], _, q => exact ⟨_, _, false, by simp; rfl, rfl, fun q => by cases q⟩
  | x :: y :: z :: u :: v :: l, _, q => exact ⟨_, _, false, by simp; rfl, rfl, fun q => by cases q⟩
  | [x, y, z, u], _, q =>
    obtain ⟨a, r1, rfl, q1, q⟩ := all_of_cons q
    obtain ⟨b, r2, rfl, q2, q⟩ := all_of_cons q
    obtain ⟨c, r3, rfl, q3, q⟩ := all_of_cons q
    obtain ⟨d, r4, rfl, q4, q⟩ := all_of_cons q
    refine ⟨_, _, true, by simp; rfl, rfl, fun _ => ?_⟩
    have e1 := nv_some (b := false) h q1
    have e2 := nv_some (b := nb (a :: b :: c :: d :: r4) false) h.of q2
    have e3 := nv_some (b := nb (b :: c :: d :: r4) (nb (a :: b :: c :: d :: r4) false)) h.of.of q3
    have e4 := nv_some (b := nb (c :: d :: r4) (nb (b :: c :: d :: r4) (nb (a :: b :: c :: d :: r4) false))) h.of.of.of q4
    simp only [List.tail_cons, e1, e2, e3, e4]
theorem crash_same {w : ByteArray} {r : List ByteArray} {N : Nat} (h : Sz r) (hl : r.length ≤ 100000000) (hN : r.length + 1 < N) (hk : kindW w = 6) : ∃ a a' ok, oneR w r N = some (a, ok) ∧ some (actR w r) = some (a', ok) ∧ (ok = true → a = a') := by
  simp only [oneR, actR, hk]
  cases r with
  | nil =>
    obtain ⟨N, rfl⟩ : ∃ n, N = n + 1 := ⟨N - 1, by simp at hN; omega⟩
    rw [if_neg (by omega), if_neg (by omega), if_neg (by omega), if_pos trivial, List.tail_nil, lines_one_L1, if_neg (by simp)]
    exact ⟨_, _, false, rfl, rfl, fun q => by cases q⟩
  | cons s t =>
    rw [if_neg (by omega), if_neg (by omega), if_neg (by omega), if_pos trivial, List.tail_cons]
    rcases opt_cases (intOf s) with q1 | ⟨x, q1⟩
    · obtain ⟨N, rfl⟩ : ∃ n, N = n + 1 := ⟨N - 1, by simp at hN; omega⟩
      have hb : nb (s :: t) false = true := by simp [nb, q1]
      have ha : allInts (s :: t) = none := by rw [allInts, q1]
      rw [hb, ha]
      rw [lines_one_L1]
      split
      · exact ⟨_, _, false, rfl, rfl, fun q => by cases q⟩
      · exact ⟨_, _, false, rfl, rfl, fun q => by cases q⟩
    · have hb : nb (s :: t) false = false := by simp [nb, q1]
      have hs := nv_some (b := false) h q1
      rw [hb, hs]
      have hc := crash_loop (fun l b a => some (Act.mk 6 x 0 0 0 a (Call.mk 0 0 0 0 0) (⟨#[]⟩ : ByteArray), okT ⟨l, b⟩)) t.length N t [] rfl (by simp at hN; omega) h.of (by simp at hl ⊢; omega)
      rcases opt_cases (allInts t) with q2 | ⟨v, q2⟩
      · have ha : allInts (s :: t) = none := by rw [allInts, q1, q2]
        rw [q2] at hc
        obtain ⟨l', a', hc⟩ := hc
        rw [ha, hc]
        exact ⟨_, _, false, by simp [okT]; rfl, rfl, fun q => by cases q⟩
      · have ha : allInts (s :: t) = some (x :: v) := by rw [allInts, q1, q2]
        rw [q2] at hc
        rw [ha]
        simp only at hc
        rw [hc]
        exact ⟨_, _, true, by simp [okT]; rfl, by simp, fun _ => rfl⟩
theorem start_same {w : ByteArray} {r : List ByteArray} {N : Nat} (h : Sz r) (hk : kindW w = 7) : ∃ a a' ok, oneR w r N = some (a, ok) ∧ some (actR w r) = some (a', ok) ∧ (ok = true → a = a') := by
  simp only [oneR, actR, hk, ok1]
  rcases opt_cases (allInts r) with q | ⟨l, q⟩
  · rw [q]; exact ⟨_, _, false, by simp; rfl, rfl, fun q => by cases q⟩
  have hlen := allInts_len q
  rw [q, ← hlen]
  match l, hlen, q with
  | [], _, q => exact ⟨_, _, false, by simp; rfl, rfl, fun q => by cases q⟩
  | x :: y :: l, _, q => exact ⟨_, _, false, by simp; rfl, rfl, fun q => by cases q⟩
  | [x], _, q =>
    obtain ⟨a, r1, rfl, q1, q⟩ := all_of_cons q
    refine ⟨_, _, true, by simp; rfl, rfl, fun _ => ?_⟩
    rw [nv_some (b := false) h q1]
theorem tick_same {w : ByteArray} {r : List ByteArray} {N : Nat} (hk : kindW w = 5) : ∃ a a' ok, oneR w r N = some (a, ok) ∧ some (actR w r) = some (a', ok) ∧ (ok = true → a = a') := by
  simp only [oneR, actR, hk]
  have e : okT ⟨r, false⟩ = decide (r.length = 0) := by cases r <;> simp [okT]
  rw [if_neg (by omega), if_pos trivial, e]
  rcases opt_cases (allInts r) with q | ⟨l, q⟩
  · have : r ≠ [] := fun g => by subst g; cases q
    have hd : decide (r.length = 0) = false := by cases r <;> simp at this ⊢
    rw [q, hd]
    exact ⟨_, _, false, rfl, rfl, fun q => by cases q⟩
  · rw [q]
    exact ⟨_, _, decide (r.length = 0), rfl, by simp, fun _ => rfl⟩
theorem none_same {w : ByteArray} {r : List ByteArray} {N : Nat} (hk : kindW w = 0) : ∃ a a' ok, oneR w r N = some (a, ok) ∧ some (actR w r) = some (a', ok) ∧ (ok = true → a = a') := by
  simp only [oneR, actR, hk]
  rcases opt_cases (allInts r) with q | ⟨l, q⟩
  · rw [q]; exact ⟨_, _, false, by simp; rfl, rfl, fun q => by cases q⟩
  · rw [q]; exact ⟨_, _, false, by simp; rfl, by simp; rfl, fun q => by cases q⟩
theorem line_rest {p w : ByteArray} {r : List ByteArray} (hp : p.size ≤ 1000000000) (h : Sz r) (hl : r.length ≤ 100000000) (hlp : r.length ≤ p.size) (h1 : w ≠ bs_5ed33f70) (h8 : w ≠ bs_599dcce2) : ∃ a a' ok, oneR w r (p.size + 3) = some (a, ok) ∧ some (actR w r) = some (a', ok) ∧ (ok = true → a = a') := by
  rcases kindW_in w with hk | hk | hk | hk | hk | hk | hk | hk | hk
  · exact none_same hk
  · exfalso; unfold kindW at hk; rw [if_neg h1] at hk; revert hk; repeat' split
    all_goals omega
  · exact move_same h (.inl hk)
  · exact move_same h (.inr (.inl hk))
  · exact move_same h (.inr (.inr hk))
  · exact tick_same hk
  · exact crash_same h hl (by omega) hk
  · exact start_same h hk
  · exfalso; unfold kindW at hk; revert hk; repeat' split
    all_goals first | omega | (intro _; exact absurd ‹_› h8)
/-- A line and the reference's line. -/
theorem line_same {p w : ByteArray} {r : List ByteArray} (hp : p.size ≤ 1000000000) (hw : words p = w :: r) (h : Sz r) (hl : r.length ≤ 100000000) (hlp : r.length ≤ p.size) : ∃ a a' ok, lines_one p = some (a, ok) ∧ reredosref_lineAct p = some (a', ok) ∧ (ok = true → a = a') := by
  rw [one_R hp hw h]
  by_cases h1 : w = bs_5ed33f70
  · subst h1
    obtain ⟨n1, n2, n3, n4, n5, n6, n7⟩ := v_ne
    have hk : kindW bs_5ed33f70 = 1 := by simp [kindW]
    simp only [oneR, hk, reredosref_lineAct, parts_eq hp, hw, Option.bind_some, withK, List.getElem?_cons_zero, toL_dec, decide_true, if_true]
    match r, h, hl with
    | [], h, hl => exact ⟨_, _, false, by simp [callR, okT]; rfl, by simp; rfl, fun q => by cases q⟩
    | [a], h, hl =>
      have hb : nb [a].tail (nb [a] false) = true := rfl
      rw [hb]
      exact ⟨_, _, false, by simp [callR_bad]; rfl, by simp; rfl, fun q => by cases q⟩
    | [a, b], h, hl => exact ⟨_, _, false, by simp [callR, okT]; rfl, by simp; rfl, fun q => by cases q⟩
    | a :: b :: c :: t, h, hl =>
      have hwh := wholes_eq (w := [a, b]) (fun s hs => h s (by simp only [List.mem_cons, List.not_mem_nil, or_false] at hs; rcases hs with rfl | rfl <;> simp)) (by simp)
      have hct : Sz (c :: t) := h.of.of
      obtain ⟨y, e1, e2⟩ := callOf_eq hct (by simp at hl ⊢; omega)
      have ht : (((bs_5ed33f70 :: a :: b :: c :: t).drop 1).take 2) = [a, b] := by simp
      have hd : (((bs_5ed33f70 :: a :: b :: c :: t).drop 3).take ((bs_5ed33f70 :: a :: b :: c :: t).length - 3)) = c :: t := by simp
      rw [ht, hd, hwh, e1]
      rcases opt_cases (allInts [a, b]) with q | ⟨l, q⟩
      · have hb : nb (a :: b :: c :: t).tail (nb (a :: b :: c :: t) false) = true := by
          simp only [nb, List.tail_cons]
          rcases opt_cases (intOf a) with qa | ⟨x, qa⟩
          · simp [qa]
          · rcases opt_cases (intOf b) with qb | ⟨z, qb⟩
            · simp [qb]
            · simp [allInts, qa, qb] at q
        rw [hb, q]
        exact ⟨_, _, false, by simp [callR_bad]; rfl, by simp; rfl, fun q => by cases q⟩
      · obtain ⟨x, l1, rfl, qa, q1⟩ := all_cons q
        obtain ⟨z, l2, rfl, qb, q2⟩ := all_cons q1
        obtain rfl : l2 = [] := by simpa [allInts] using q2.symm
        have hb : nb (a :: b :: c :: t).tail (nb (a :: b :: c :: t) false) = false := by simp [nb, qa, qb]
        have hb0 : nb (a :: b :: c :: t) false = false := by simp [nb, qa]
        have hs := nv_some (b := false) h qa
        have hs2 := nv_some (b := false) h.of qb
        rw [hb, hb0, hs, q]
        simp only [List.tail_cons, hs2]
        refine ⟨_, _, okT (callR (c :: t) false).1, by simp; rfl, by simp; rfl, fun g => ?_⟩
        rw [e2 g]
  by_cases h8 : w = bs_599dcce2
  · subst h8
    obtain ⟨n1, n2, n3, n4, n5, n6, n7⟩ := v_ne
    obtain ⟨m1, m2, m3, m4, m5, m6, m7, m8, m9, m10, m11⟩ := v_ne2
    obtain ⟨o1, o2, o3, o4, o5, o6, o7, o8, o9, o10⟩ := v_ne3
    have hk : kindW bs_599dcce2 = 8 := by simp [kindW, n7.symm, m6.symm, m11.symm, o4.symm, o7.symm, o9.symm, o10.symm]
    simp only [oneR, hk, reredosref_lineAct, parts_eq hp, hw, Option.bind_some, withK, List.getElem?_cons_zero, toL_dec, decide_true, if_true, decide_eq_false n7.symm, Bool.false_eq_true, if_false]
    match r, h, hl with
    | [], h, hl => exact ⟨_, _, false, by simp [text_nil, okT]; rfl, by simp; rfl, fun q => by cases q⟩
    | [a], h, hl => exact ⟨_, _, false, by simp [text_nil, okT]; rfl, by simp; rfl, fun q => by cases q⟩
    | [a, b], h, hl => exact ⟨_, _, false, by simp [text_nil, okT]; rfl, by simp; rfl, fun q => by cases q⟩
    | a :: b :: c :: t, h, hl =>
      have hwh := wholes_eq (w := [a, b]) (fun s hs => h s (by simp only [List.mem_cons, List.not_mem_nil, or_false] at hs; rcases hs with rfl | rfl <;> simp)) (by simp)
      have ht : (((bs_599dcce2 :: a :: b :: c :: t).drop 1).take 2) = [a, b] := by simp
      have hl4 : ((((bs_599dcce2 :: a :: b :: c :: t).length : Nat) : Int) == 4) = okT ⟨t, false⟩ := by rw [← len4]; simp
      rw [hl4]
      have hc3 : (bs_599dcce2 :: a :: b :: c :: t)[3]? = some c := rfl
      rw [ht, hc3, hwh]
      rcases opt_cases (allInts [a, b]) with q | ⟨l, q⟩
      · have hb : nb (a :: b :: c :: t).tail (nb (a :: b :: c :: t) false) = true := by
          simp only [nb, List.tail_cons]
          rcases opt_cases (intOf a) with qa | ⟨x, qa⟩
          · simp [qa]
          · rcases opt_cases (intOf b) with qb | ⟨z, qb⟩
            · simp [qb]
            · simp [allInts, qa, qb] at q
        obtain ⟨t', y, g1, g2⟩ := text_bad (c :: t) h.of.of
        rw [hb, q]
        simp only [List.tail_cons, g1]
        exact ⟨_, _, false, by simp [g2]; rfl, by simp; rfl, fun q => by cases q⟩
      · obtain ⟨x, l1, rfl, qa, q1⟩ := all_cons q
        obtain ⟨z, l2, rfl, qb, q2⟩ := all_cons q1
        obtain rfl : l2 = [] := by simpa [allInts] using q2.symm
        have hb : nb (a :: b :: c :: t).tail (nb (a :: b :: c :: t) false) = false := by simp [nb, qa, qb]
        have hb0 : nb (a :: b :: c :: t) false = false := by simp [nb, qa]
        have hs := nv_some (b := false) h qa
        have hs2 := nv_some (b := false) h.of qb
        obtain ⟨y, ok, g1, g2⟩ := text_eq t false (h c (by simp))
        rw [hb, hb0, hs, q]
        simp only [List.tail_cons, hs2, g1, g2]
        cases ok with
        | false => exact ⟨_, _, false, by simp [okT]; rfl, by simp [g1]; rfl, fun q => by cases q⟩
        | true => exact ⟨_, _, okT ⟨t, false⟩, by simp; rfl, by simp [g1]; omega, fun q => rfl⟩
  rw [act_R hp hw h (by omega) h1 h8]
  exact line_rest hp h hl hlp h1 h8

theorem pieces_size : ∀ (l : List UInt8), ∀ x ∈ pieces l, x.length ≤ l.length
  | [], x, hx => by simp only [pieces, List.mem_singleton] at hx; subst hx; simp
  | c :: r, x, hx => by
    have ih := pieces_size r
    unfold pieces at hx
    split at hx
    · rcases List.mem_cons.1 hx with rfl | hx
      · simp
      · have := ih x hx; simp; omega
    · split at hx
      · rename_i p ps hps
        rcases List.mem_cons.1 hx with rfl | hx
        · have := ih p (by rw [hps]; simp); simp; omega
        · have := ih x (by rw [hps]; simp [hx]); simp; omega
      · simp only [List.mem_singleton] at hx; subst hx; simp
theorem line_eq {p : ByteArray} (hp : p.size ≤ 100000000) : ∃ a a' ok, lines_one p = some (a, ok) ∧ reredosref_lineAct p = some (a', ok) ∧ (ok = true → a = a') := by
  have hs : Sz (words p) := fun s hs => by
    obtain ⟨x, hx, rfl⟩ := List.mem_map.1 hs
    have := pieces_size _ x hx
    rw [bM_size]; rw [bL_size] at hp; omega
  have hl : (words p).length ≤ p.size + 1 := by
    have := pieces_len (bL p)
    rw [words, List.length_map, bL_size]; exact this
  cases hw : words p with
  | nil => exact absurd (List.map_eq_nil_iff.1 hw) (pieces_ne _)
  | cons w r =>
    rw [hw] at hs hl
    simp only [List.length_cons] at hl
    exact line_same (by omega) hw hs.of (by omega) (by omega)
def nlI : List UInt8 → Nat
  | [] => 0
  | c :: r => if c = 10 then 0 else nlI r + 1
theorem nlI_le : ∀ l : List UInt8, nlI l ≤ l.length
  | [] => by simp [nlI]
  | c :: r => by
    have := nlI_le r
    rw [nlI]
    split <;> simp
    omega
theorem idx_nl : ∀ l : List UInt8, Lib.index l [10] = if nlI l < l.length then (nlI l : Int) else -1
  | [] => rfl
  | c :: r => by
    have ih := idx_nl r
    rw [Lib.index, nlI]
    by_cases h : c = 10
    · subst h; simp [List.isPrefixOf]
    · have h1 : ([10] : List UInt8).isPrefixOf (c :: r) = false := by
        simp only [List.isPrefixOf, Bool.and_true, beq_eq_false_iff_ne]
        exact fun e => h e.symm
      simp only [h1, if_neg h, ih, Bool.false_eq_true, if_false, List.length_cons, Nat.add_lt_add_iff_right]
      by_cases h2 : nlI r < r.length
      · have : (((nlI r : Nat) : Int) == -1) = false := by rw [beq_eq_false_iff_ne]; omega
        simp only [if_pos h2, this, Bool.false_eq_true, if_false]; rfl
      · simp only [if_neg h2]; rfl
theorem cut_nl (l : List UInt8) : Lib.cut l [10] = if nlI l < l.length then (l.take (nlI l), l.drop (nlI l + 1), true) else (l, [], false) := by
  rw [Lib.cut, idx_nl]
  by_cases h : nlI l < l.length
  · rw [if_pos h, if_pos h, if_pos (by omega)]; rfl
  · rw [if_neg h, if_neg h, if_neg (by omega)]
theorem cutF_nl {l : List UInt8} (h : l.length ≤ 100000000) : cutF (bM l) bs_68b329da = some (if nlI l < l.length then (bM (l.take (nlI l)), bM (l.drop (nlI l + 1)), true) else (bM l, bM [], false)) := by
  rw [cutF, if_pos (by rw [bM_size]; omega)]
  have e : (bM l).data.toList = l := bL_mk l
  have e2 : bs_68b329da.data.toList = [10] := rfl
  rw [e, e2, cut_nl]
  split <;> rfl
theorem getD_drop {l : List UInt8} {o : Nat} (h : o < l.length) : l.drop o = l.getD o 0 :: l.drop (o + 1) := by
  rw [List.drop_eq_getElem_cons h]; simp [h]
theorem L2_eq (p : ByteArray) (hp : p.size ≤ 100000000) (k : Int → Option ((List Act) × Int × Int)) : ∀ (m o N : Nat), p.size - o = m → o ≤ p.size → p.size < N + o → reredosref_ActsOf_L2 p k N (o : Int) = k ((o + nlI ((bL p).drop o) : Nat) : Int) := by
  intro m
  induction m with
  | zero =>
    intro o N h1 h2 h3
    obtain ⟨N, rfl⟩ : ∃ n, N = n + 1 := ⟨N - 1, by omega⟩
    rw [reredosref_ActsOf_L2, if_neg (by rw [decide_eq_true_eq]; omega), List.drop_eq_nil_of_le (by rw [← bL_size]; omega)]
    rfl
  | succ m ih =>
    intro o N h1 h2 h3
    obtain ⟨N, rfl⟩ : ∃ n, N = n + 1 := ⟨N - 1, by omega⟩
    have ho : o < (bL p).length := by rw [← bL_size]; omega
    rw [reredosref_ActsOf_L2, if_pos (by rw [decide_eq_true_eq]; omega), if_pos ⟨by omega, by omega⟩, getD_drop ho, nlI, Int.toNat_natCast]
    rw [show p.data.toList = bL p from rfl]
    have hb : (((((bL p).getD o 0).toNat : Nat) : Int) != 10) = !decide ((bL p).getD o 0 = 10) := by
      rw [Bool.eq_iff_iff, bne_iff_ne, Bool.not_eq_true', decide_eq_false_iff_not, ne_eq]
      refine not_congr ⟨fun h => UInt8.toNat_inj.1 (by rw [show (10 : UInt8).toNat = 10 from rfl]; omega), fun h => by rw [h]; rfl⟩
    rw [hb]
    by_cases h : (bL p).getD o 0 = 10
    · rw [if_pos h, decide_eq_true h]; rfl
    · rw [if_neg h, decide_eq_false h, Bool.not_false, if_pos rfl, show IntKind.i64.wrap ((o : Int) + 1) = ((o + 1 : Nat) : Int) from by rw [wrap_in (by omega) (by omega)]; omega, ih (o + 1) N (by omega) (by omega) (by omega)]
      congr 2; omega
theorem read_loop (c : Config) (hc : c.Labels.length ≤ maxLen) (p : ByteArray) (hp : p.size ≤ 100000000) : ∀ (N o n : Nat) (acc : List Act), o ≤ p.size → p.size < N + o → n ≤ 3000 → acc.length ≤ n →
    lines_Read_L1 c (fun b => some (b, 0, 0)) (N + 1) (bM ((bL p).drop o)) (n : Int) acc = reredosref_ActsOf_L1 c p (fun b => some (b, 0, 0)) N (o : Int) (n : Int) acc ∧ ∃ r, reredosref_ActsOf_L1 c p (fun b => some (b, 0, 0)) N (o : Int) (n : Int) acc = some r := by
  intro N
  induction N with
  | zero => intro o n acc h1 h2; omega
  | succ N ih =>
    intro o n acc h1 h2 h3 h4
    rw [lines_Read_L1, reredosref_ActsOf_L1, toL_dec]
    have hlen : ((bL p).drop o).length = p.size - o := by rw [List.length_drop, bL_size]
    by_cases ho : o < p.size
    · have hne : ¬ bM ((bL p).drop o) = (⟨#[]⟩ : ByteArray) := fun e => by
        have := congrArg ByteArray.size e
        rw [bM_size, hlen] at this
        have h0 : (⟨#[]⟩ : ByteArray).size = 0 := rfl
        omega
      rw [decide_eq_false hne, Bool.not_false, if_pos rfl, if_pos (by rw [decide_eq_true_eq]; omega), cutF_nl (by omega), Option.bind_some]
      simp only [withK]
      rw [L2_eq p hp _ (p.size - o) o (p.size + 1) rfl (by omega) (by omega)]
      have hj := nlI_le ((bL p).drop o)
      generalize hjd : nlI ((bL p).drop o) = j at *
      rw [hlen] at hj ⊢
      by_cases hn : ((n : Int) == 3000) = true
      · rw [if_pos hn, if_pos hn]; exact ⟨rfl, _, rfl⟩
      rw [if_neg hn, if_neg hn]
      have hn' : n ≠ 3000 := fun e => hn (by rw [beq_iff_eq]; omega)
      by_cases hlt : j < p.size - o
      · have hb : (((o + j : Nat) : Int) == ((p.size : Nat) : Int)) = false := by rw [beq_eq_false_iff_ne]; omega
        have hin : 0 ≤ (o : Int) ∧ (o : Int) ≤ ((o + j : Nat) : Int) ∧ ((o + j : Nat) : Int) ≤ ((p.size : Nat) : Int) := ⟨by omega, by omega, by omega⟩
        rw [if_pos hlt, hb, ext_bM, if_pos hin]
        simp only [Bool.not_true, Bool.false_eq_true, if_false, Int.toNat_natCast]
        rw [show o + j - o = j by omega]
        have hls : (bM (((bL p).drop o).take j)).size ≤ 100000000 := by rw [bM_size, List.length_take]; omega
        obtain ⟨a, a', ok, e1, e2, e3⟩ := line_eq hls
        rw [e1, e2, Option.bind_some, Option.bind_some]
        cases ok with
        | false => exact ⟨rfl, _, rfl⟩
        | true =>
          obtain rfl := e3 rfl
          obtain ⟨g1, r, g2⟩ := act_same c a hc
          simp only [Bool.not_true, Bool.false_eq_true, if_false, g1, g2, Option.bind_some]
          by_cases hr : (r != 0) = true
          · rw [if_pos hr, if_pos hr]; exact ⟨rfl, _, rfl⟩
          · rw [if_neg hr, if_neg hr, if_pos (by unfold fits maxLen; omega), if_pos (by unfold fits maxLen; omega)]
            rw [show IntKind.i64.wrap ((n : Int) + 1) = ((n + 1 : Nat) : Int) from by rw [wrap_in (by omega) (by omega)]; omega, show IntKind.i64.wrap (((o + j : Nat) : Int) + 1) = ((o + j + 1 : Nat) : Int) from by rw [wrap_in (by omega) (by omega)]; omega]
            rw [List.drop_drop, show o + (j + 1) = o + j + 1 by omega]
            exact ih (o + j + 1) (n + 1) (acc ++ [a]) (by omega) (by omega) (by omega) (by simp; omega)
      · have hb : (((o + j : Nat) : Int) == ((p.size : Nat) : Int)) = true := by rw [beq_iff_eq]; omega
        rw [if_neg hlt, hb, if_pos rfl]
        have hls : (bM ((bL p).drop o)).size ≤ 100000000 := by rw [bM_size, hlen]; omega
        obtain ⟨a, a', ok, e1, e2, e3⟩ := line_eq hls
        rw [e1, Option.bind_some]
        exact ⟨rfl, _, rfl⟩
    · have he : bM ((bL p).drop o) = (⟨#[]⟩ : ByteArray) := by rw [List.drop_eq_nil_of_le (by rw [← bL_size]; omega)]; rfl
      rw [decide_eq_true he, Bool.not_true, if_neg (by simp), if_neg (by rw [decide_eq_true_eq]; omega)]
      exact ⟨rfl, _, rfl⟩
theorem read_same (c : Config) (hc : c.Labels.length ≤ maxLen) (p : ByteArray) (hp : p.size ≤ 100000000) : lines_Read c p = reredosref_ActsOf c p ∧ ∃ r, reredosref_ActsOf c p = some r := by
  obtain ⟨e, he, h0⟩ := fault_total c
  simp only [lines_Read, reredosref_ActsOf, label_same, he, Option.bind_some, withK]
  have h := read_loop c hc p hp (p.size + 1) 0 0 [] (by omega) (by omega) (by omega) (by simp)
  rw [List.drop_zero, bM_L] at h
  by_cases h1 : (e != 0) = true
  · rw [if_pos h1, if_pos h1]; exact ⟨rfl, _, rfl⟩
  · rw [if_neg h1, if_neg h1]; exact h
theorem sameIntsL (l : List Int) : reredoslaw_sameInts l l = some true := by
  simp only [reredoslaw_sameInts, withK, bne_self_eq_false, Bool.false_eq_true, if_false]
  rw [all_loop (L := reredoslaw_sameInts_L1 l l (some true)) (len := l.length) (p := fun _ => True) (k := some true) (bad := some true) (fun n i hi => by rw [reredoslaw_sameInts_L1, if_neg (by simpa using hi)]) (fun n i hi _ => by rw [reredoslaw_sameInts_L1, if_pos (by simpa using hi), bind_at hi, bind_at hi, if_neg (by simp)]) (fun n i hi h => absurd trivial h) _ 0 (by omega) (by omega), if_pos (fun _ _ _ => trivial)]
theorem sameActsL (l : List Act) : reredoslaw_sameActs l l = some true := by
  simp only [reredoslaw_sameActs, withK, bne_self_eq_false, Bool.false_eq_true, if_false]
  rw [all_loop (L := reredoslaw_sameActs_L1 l l (some true)) (len := l.length) (p := fun _ => True) (k := some true) (bad := some true) (fun n i hi => by rw [reredoslaw_sameActs_L1, if_neg (by simpa using hi)]) (fun n i hi _ => by rw [reredoslaw_sameActs_L1, if_pos (by simpa using hi), bind_at hi, bind_at hi]; simp [sameIntsL]) (fun n i hi h => absurd trivial h) _ 0 (by omega) (by omega), if_pos (fun _ _ _ => trivial)]

end Go.V.Dec
