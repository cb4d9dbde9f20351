/- Plain laws (ConsoleRead): no program, no memory; conditions as stated. -/
import Derived.Test.YtjpkfnblnimdoaaDoorF1
import Derived.Test.YtjpkfnblnimdoaaDoorPItoa
set_option linter.unusedVariables false
set_option linter.unusedSimpArgs false
namespace Go.V.Dec
open Go Go.Proofs Classical
set_option maxRecDepth 100000
set_option maxHeartbeats 4000000
variable (G : Nat → Option (List D))
theorem toL_eq {a b : ByteArray} : (a.toList == b.toList) = true ↔ a = b := by
  rw [ByteArray.toList_eq, ByteArray.toList_eq, beq_iff_eq]
  exact ⟨fun h => bL_ext h, fun h => by rw [h]⟩
theorem toL_dec (a b : ByteArray) : (a.toList == b.toList) = decide (a = b) := by
  rw [Bool.eq_iff_iff, decide_eq_true_eq]; exact toL_eq
/-- The pieces between single blanks. -/
def pieces : List UInt8 → List (List UInt8)
  | [] => [[]]
  | c :: r => if c = 32 then [] :: pieces r else match pieces r with
    | p :: ps => (c :: p) :: ps
    | [] => [[c]]
theorem pieces_ne : ∀ l, pieces l ≠ []
  | [] => by simp [pieces]
  | c :: r => by
    unfold pieces
    split
    · simp
    · split <;> simp
theorem pieces_len : ∀ l, (pieces l).length ≤ l.length + 1
  | [] => by simp [pieces]
  | c :: r => by
    have := pieces_len r
    unfold pieces
    split
    · simp; omega
    · split
      · rename_i h; rw [h] at this; simp at this ⊢; omega
      · simp
theorem index_cons (c : UInt8) (r : List UInt8) : Lib.index (c :: r) [32] = if c = 32 then 0 else if Lib.index r [32] = -1 then -1 else Lib.index r [32] + 1 := by
  rw [Lib.index]
  by_cases h : c = 32
  · subst h; rfl
  · have : ([32] : List UInt8).isPrefixOf (c :: r) = false := by
      simp only [List.isPrefixOf, Bool.and_true, beq_eq_false_iff_ne]
      exact fun e => h e.symm
    rw [this, if_neg h]
    simp only [Bool.false_eq_true, if_false, beq_iff_eq]
theorem split_pieces : ∀ l : List UInt8, Lib.splitK [32] 0 (Lib.count l [32]) l = pieces l
  | [] => by
    have : Lib.index [] [32] = -1 := rfl
    rw [Lib.count_miss this]; rfl
  | c :: r => by
    have ih := split_pieces r
    have hi := index_cons c r
    unfold pieces
    by_cases h : c = 32
    · rw [if_pos h] at hi ⊢
      have hc : Lib.count (c :: r) [32] = 1 + Lib.count r [32] := Lib.count_hit (i := 0) (by simp) (by simpa using hi)
      rw [hc, Nat.add_comm, Lib.splitK, hi]
      simp only [List.length_cons, List.length_nil, Int.toNat_zero, Nat.zero_add, List.take_zero, List.drop_succ_cons, List.drop_zero, ih]
      rfl
    · rw [if_neg h] at hi ⊢
      by_cases hr : Lib.index r [32] = -1
      · rw [if_pos hr] at hi
        rw [Lib.count_miss hr] at ih
        rw [Lib.count_miss hi, ← ih]; rfl
      · rw [if_neg hr] at hi
        obtain ⟨i, hn⟩ : ∃ i : Nat, Lib.index r [32] = i := ⟨(Lib.index r [32]).toNat, by have := Lib.index_ge r [32]; omega⟩
        have h1 : Lib.count r [32] = 1 + Lib.count (r.drop (i + 1)) [32] := Lib.count_hit (by simp) hn
        have h2 : Lib.count (c :: r) [32] = 1 + Lib.count (r.drop (i + 1)) [32] := Lib.count_hit (i := i + 1) (by simp) (by rw [hi, hn]; rfl)
        rw [h1, Nat.add_comm, Lib.splitK, if_neg (by simpa using hr), hn] at ih
        rw [h2, Nat.add_comm, Lib.splitK, if_neg (by rw [hi, hn, beq_iff_eq]; omega), hi, hn, ← ih]
        have e : ((i : Int) + 1).toNat = i + 1 := by omega
        simp only [e, Int.toNat_natCast, List.length_cons, List.length_nil, Nat.zero_add, Nat.add_zero, List.take_succ_cons, List.drop_succ_cons]
theorem map_bM {l : List ByteArray} {k : List (List UInt8)} (h : l.map (·.data.toList) = k) : l = k.map bM := by
  subst h
  rw [List.map_map]
  conv => lhs; rw [← List.map_id l]
  exact List.map_congr_left fun x _ => (bM_L x).symm
def words (p : ByteArray) : List ByteArray := (pieces (bL p)).map bM
theorem splitF_eq {p : ByteArray} (h : p.size < 4294967281) : splitF p bs_7215ee9c = some (words p) := by
  rw [splitF, if_pos ⟨h, by decide⟩]
  congr 1
  refine map_bM ?_
  rw [Lib.splitB_data]
  exact split_pieces (bL p)
theorem ext_bM (p : ByteArray) (a b : Nat) : p.extract a b = bM (((bL p).drop a).take (b - a)) := by
  refine bL_ext ?_
  rw [bL_mk, bL, ByteArray.data_extract, Array.toList_extract, List.extract_eq_take_drop]; rfl
def glue (cur : List UInt8) : List (List UInt8) → List (List UInt8)
  | p :: ps => (cur ++ p) :: ps
  | [] => [cur]
theorem parts_loop (p : ByteArray) (hp : p.size ≤ 1000000) (k : List ByteArray → Option (List ByteArray)) : ∀ (m i f N : Nat) (out : List ByteArray), p.size - i = m → i ≤ p.size → f ≤ i → out.length ≤ i → p.size + 2 ≤ N + i →
    reredosref_partsOf_L1 p k N (f : Int) (i : Int) out = k (out ++ (glue (((bL p).drop f).take (i - f)) (pieces ((bL p).drop i))).map bM) := by
  intro m
  induction m with
  | zero =>
    intro i f N out h1 h2 h3 h4 h5
    have hi : i = p.size := by omega
    subst hi
    obtain ⟨N, rfl⟩ : ∃ n, N = n + 2 := ⟨N - 2, by omega⟩
    rw [reredosref_partsOf_L1, if_pos (by simp), if_pos (by simp), withK, if_pos ⟨by omega, by omega, by omega⟩, if_pos (by unfold fits maxLen; omega), reredosref_partsOf_L1, if_neg]
    · have hd : (bL p).drop p.size = [] := List.drop_eq_nil_of_le (by rw [← bL_size]; exact Nat.le_refl _)
      rw [hd]
      simp only [pieces, glue, List.append_nil, List.map_cons, List.map_nil, Int.toNat_natCast, ext_bM]
    · rw [wrap_in (by omega) (by omega)]; simp; omega
  | succ m ih =>
    intro i f N out h1 h2 h3 h4 h5
    obtain ⟨N, rfl⟩ : ∃ n, N = n + 1 := ⟨N - 1, by omega⟩
    have hi : i < p.size := by omega
    have hl : i < (bL p).length := by rw [← bL_size]; exact hi
    have hw : IntKind.i64.wrap ((i : Int) + 1) = ((i + 1 : Nat) : Int) := by rw [wrap_in (by omega) (by omega)]; rfl
    have hb : p.data.toList.getD i 0 = (bL p)[i] := by show (bL p).getD i 0 = _; rw [List.getD_eq_getElem?_getD, List.getElem?_eq_getElem hl]; rfl
    rw [reredosref_partsOf_L1, if_pos (by simp; omega), if_neg (by simp; omega), if_pos ⟨by omega, by omega⟩, withK, Int.toNat_natCast, hb, hw]
    rw [List.drop_eq_getElem_cons hl, pieces]
    by_cases hc : (bL p)[i] = 32
    · rw [if_pos (by rw [hc]; rfl), if_pos ⟨by omega, by omega, by omega⟩, if_pos (by unfold fits maxLen; omega), if_pos hc]
      have := ih (i + 1) (i + 1) N (out ++ [p.extract f i]) (by omega) (by omega) (by omega) (by simp; omega) (by omega)
      simp only [Int.toNat_natCast] at this ⊢
      rw [this]
      congr 1
      rw [Nat.sub_self, List.take_zero, ext_bM, List.append_assoc]
      congr 1
      cases hq : pieces ((bL p).drop (i + 1)) with
      | nil => exact absurd hq (pieces_ne _)
      | cons q qs => simp [glue]
    · have hne : ¬ ((((bL p)[i].toNat : Nat) : Int) == 32) = true := by
        rw [beq_iff_eq]
        intro e
        exact hc (UInt8.toNat_inj.1 (by show (bL p)[i].toNat = 32; omega))
      rw [if_neg hne, if_neg hc]
      show reredosref_partsOf_L1 p k N (f : Int) ((i + 1 : Nat) : Int) out = _
      rw [ih (i + 1) f N out (by omega) (by omega) (by omega) (by omega) (by omega)]
      congr 2
      have ht : ((bL p).drop f).take (i + 1 - f) = ((bL p).drop f).take (i - f) ++ [(bL p)[i]] := by
        rw [show i + 1 - f = (i - f) + 1 from by omega, List.take_add_one, List.getElem?_drop, show f + (i - f) = i from by omega, List.getElem?_eq_getElem hl]; rfl
      cases hq : pieces ((bL p).drop (i + 1)) with
      | nil => exact absurd hq (pieces_ne _)
      | cons q qs => simp only [glue, ht, List.append_assoc, List.singleton_append]
theorem parts_eq {p : ByteArray} (hp : p.size ≤ 1000000) : reredosref_partsOf p = some (words p) := by
  rw [reredosref_partsOf, withK]
  have := parts_loop p hp (fun b => some b) p.size 0 0 (p.size + 2) [] (by omega) (by omega) (by omega) (by simp) (by omega)
  rw [show ((0 : Nat) : Int) = 0 from rfl] at this
  rw [this]
  congr 1
  rw [Nat.sub_zero, List.take_zero, List.drop_zero, List.nil_append, words]
  cases hq : pieces (bL p) with
  | nil => exact absurd hq (pieces_ne _)
  | cons q qs => rfl

/-- What a row of digits spells. -/
def valG (d : UInt8 → Nat) : Nat → List UInt8 → Nat
  | acc, [] => acc
  | acc, c :: r => valG d (acc * 10 + d c) r
theorem valG_cons (d : UInt8 → Nat) (acc : Nat) (c : UInt8) (r : List UInt8) : valG d acc (c :: r) = valG d (acc * 10 + d c) r := by rw [valG]
theorem valG_nil (d : UInt8 → Nat) (acc : Nat) : valG d acc [] = acc := by rw [valG]
theorem valG_app (d : UInt8 → Nat) (l : List UInt8) : ∀ (acc : Nat) (c : UInt8), valG d acc (l ++ [c]) = valG d acc l * 10 + d c := by
  induction l with
  | nil => intro acc c; rw [List.nil_append, valG_cons, valG_nil, valG_nil]
  | cons x l ih => intro acc c; rw [List.cons_append, valG_cons, valG_cons, ih]
theorem valG_le (d : UInt8 → Nat) (l : List UInt8) : ∀ acc : Nat, acc ≤ valG d acc l := by
  induction l with
  | nil => intro acc; rw [valG_nil]; exact Nat.le_refl _
  | cons c l ih =>
    intro acc
    have h := ih (acc * 10 + d c)
    rw [valG_cons]
    omega
def dgt (c : UInt8) : Nat := c.toNat - 48
theorem dig_toNat {n : Nat} (h : n < 10) : (UInt8.ofNat (48 + n)).toNat = 48 + n := by
  have h2 : 48 + n < 256 := by omega
  rw [UInt8.toNat_ofNat_of_lt' h2]
theorem dgt_of {n : Nat} (h : n < 10) : dgt (UInt8.ofNat (48 + n)) = n := by
  unfold dgt
  rw [dig_toNat h, Nat.add_sub_cancel_left]
def isD (l : List UInt8) : Prop := ∀ c ∈ l, 48 ≤ c.toNat ∧ c.toNat ≤ 57
theorem dec_one {n : Nat} (hn : n < 10) : valG dgt 0 (Lib.decDigits n) = n ∧ isD (Lib.decDigits n) := by
  rw [Lib.decDigits_one hn]
  refine ⟨?_, fun c hc => ?_⟩
  · rw [valG_cons, valG_nil, dgt_of hn]; omega
  · simp only [List.mem_singleton] at hc; subst hc; rw [dig_toNat hn]; omega
theorem dec_val : ∀ (k n : Nat), n ≤ k → valG dgt 0 (Lib.decDigits n) = n ∧ isD (Lib.decDigits n) := by
  intro k
  induction k with
  | zero => intro n h; exact dec_one (by omega)
  | succ k ih =>
    intro n h
    by_cases hn : n < 10
    · exact dec_one hn
    · obtain ⟨h1, h2⟩ := ih (n / 10) (by omega)
      have hm : n % 10 < 10 := Nat.mod_lt _ (by omega)
      rw [Lib.decDigits, dif_neg hn]
      refine ⟨by rw [valG_app, h1, dgt_of hm]; omega, fun c hc => ?_⟩
      rcases List.mem_append.1 hc with hc | hc
      · exact h2 c hc
      · simp only [List.mem_singleton] at hc; subst hc; rw [dig_toNat hm]; omega
theorem dec_ne (n : Nat) : Lib.decDigits n ≠ [] := by
  rw [Lib.decDigits]; split <;> simp
theorem parse_val (l : List UInt8) : ∀ acc : Nat, isD l → valG dgt acc l ≤ 1000000000000000000 → Lib.parseUint10 acc l = .ok (valG dgt acc l) := by
  induction l with
  | nil => intro acc _ _; rw [valG_nil, Lib.parseUint10]
  | cons c l ih =>
    intro acc h hv
    have hc := h c (by simp)
    have hle := valG_le dgt l (acc * 10 + dgt c)
    rw [valG_cons] at hv ⊢
    have hi := ih (acc * 10 + dgt c) (fun x hx => h x (by simp [hx])) hv
    have hd : c.toNat - 48 = dgt c := rfl
    rw [Lib.parseUint10, if_pos hc, hd]
    generalize dgt c = d at *
    rw [if_neg (by omega), if_neg (by omega), hi]
theorem atoi_dec (n : Nat) (h : n ≤ 1000000000000000000) : Lib.atoiAll (Lib.decDigits n) = .ok (n : Int) := by
  obtain ⟨h1, h2⟩ := dec_val n n (Nat.le_refl _)
  cases hl : Lib.decDigits n with
  | nil => exact absurd hl (dec_ne n)
  | cons c r =>
    have hc := h2 c (by rw [hl]; simp)
    rw [hl] at h1 h2
    have hp : Lib.parseMag (c :: r) = .ok n := by
      rw [Lib.parseMag, if_neg (by simp), parse_val _ _ h2 (by rw [h1]; exact h), h1]
    simp only [Lib.atoiAll]
    rw [if_neg (by omega), hp]
    simp only []
    rw [if_neg (by omega), if_neg (by omega), if_neg (by omega)]
/-- A number of which a word is the text. -/
def IsN (s : ByteArray) (M : Int) (n : Int) : Prop := (0 ≤ n ∧ n ≤ M) ∧ s = bM (Lib.itoa n)
theorem itoa_inj {a b : Int} (ha : Rg a) (hb : Rg b) (h : Lib.itoa a = Lib.itoa b) : a = b := by
  obtain ⟨m, rfl⟩ := Int.eq_ofNat_of_zero_le ha.1
  obtain ⟨n, rfl⟩ := Int.eq_ofNat_of_zero_le hb.1
  rw [Lib.itoa_nonneg, Lib.itoa_nonneg] at h
  have h1 := atoi_dec m (by have := ha.2; omega)
  have h2 := atoi_dec n (by have := hb.2; omega)
  rw [h, h2] at h1
  injection h1 with h1
  exact h1.symm
theorem bM_inj {a b : List UInt8} (h : bM a = bM b) : a = b := by rw [← bL_mk a, h, bL_mk]
theorem IsN_uniq {s : ByteArray} {M a b : Int} (hM : M ≤ 2000000000) (ha : IsN s M a) (hb : IsN s M b) : a = b :=
  itoa_inj ⟨ha.1.1, by have := ha.1.2; omega⟩ ⟨hb.1.1, by have := hb.1.2; omega⟩ (bM_inj (ha.2.symm.trans hb.2))
noncomputable def numOf (s : ByteArray) (M : Int) : Option Int := if h : ∃ n, IsN s M n then some (Classical.choose h) else none
theorem numOf_some {s : ByteArray} {M n : Int} (hM : M ≤ 2000000000) (h : IsN s M n) : numOf s M = some n := by
  have he : ∃ n, IsN s M n := ⟨n, h⟩
  rw [numOf, dif_pos he, IsN_uniq hM (Classical.choose_spec he) h]
theorem numOf_none {s : ByteArray} {M : Int} (h : ¬ ∃ n, IsN s M n) : numOf s M = none := by rw [numOf, dif_neg h]
theorem atoiF_total {s : ByteArray} (hs : s.size ≤ 1000) : ∃ v, atoiF s = some v ∧ (v.2 = true → -9223372036854775808 ≤ v.1 ∧ v.1 ≤ 9223372036854775807) := by
  unfold atoiF
  rw [if_pos (by omega)]
  match h : Lib.atoiAll s.data.toList with
  | Lib.NumEnd.ok n =>
    refine ⟨_, rfl, fun _ => ?_⟩
    show -9223372036854775808 ≤ n ∧ n ≤ 9223372036854775807
    unfold Lib.atoiAll at h
    split at h
    · cases h
    · rename_i c r
      simp only [] at h
      split at h
      · cases h
      · cases h
      · rename_i u hu
        have := Lib.parseMag_lt hu
        split at h
        · cases h
        · split at h
          · cases h
          · injection h with h
            subst h
            split <;> omega
  | Lib.NumEnd.syntax => exact ⟨_, rfl, fun h => by cases h⟩
  | Lib.NumEnd.range => exact ⟨_, rfl, fun h => by cases h⟩
/-- Of a word: the number, or that there is none. -/
theorem atoi_num {s : ByteArray} {M n : Int} (hM : M ≤ 2000000000) (h : IsN s M n) : atoiF s = some (n, true) := by
  obtain ⟨⟨h0, h1⟩, rfl⟩ := h
  have hl := itoa_len (n := n) ⟨h0, by omega⟩
  unfold atoiF
  rw [if_pos (by rw [bM_size]; omega)]
  obtain ⟨m, rfl⟩ := Int.eq_ofNat_of_zero_le h0
  have : (bM (Lib.itoa (m : Int))).data.toList = Lib.decDigits m := by rw [← Lib.itoa_nonneg]; exact bL_mk _
  rw [this, atoi_dec m (by omega)]
theorem plain_loop (p : ByteArray) (M : Nat) (hM : M ≤ 2000000000) (hp : p.size ≤ 1000) (k : Int → Option (Int × Bool)) : ∀ (m i N acc : Nat), p.size - i = m → i ≤ p.size → acc ≤ 10 * M + 9 → p.size + 1 ≤ N + i →
    (isD ((bL p).drop i) → valG dgt acc ((bL p).drop i) ≤ M → reredosref_plain_L1 p (M : Int) k N (acc : Int) (i : Int) = k ((valG dgt acc ((bL p).drop i) : Nat) : Int)) ∧
    (reredosref_plain_L1 p (M : Int) k N (acc : Int) (i : Int) = some (0, false) ∨ ∃ v : Nat, v ≤ 10 * M + 9 ∧ reredosref_plain_L1 p (M : Int) k N (acc : Int) (i : Int) = k (v : Int)) := by
  intro m
  induction m with
  | zero =>
    intro i N acc h1 h2 h3 h4
    obtain ⟨N, rfl⟩ : ∃ n, N = n + 1 := ⟨N - 1, by omega⟩
    have hd : (bL p).drop i = [] := List.drop_eq_nil_of_le (by rw [← bL_size]; omega)
    have e : reredosref_plain_L1 p (M : Int) k (N + 1) (acc : Int) (i : Int) = k (acc : Int) := by rw [reredosref_plain_L1, if_neg (by simp; omega)]
    exact ⟨fun _ _ => by rw [e, hd]; rfl, .inr ⟨acc, h3, e⟩⟩
  | succ m ih =>
    intro i N acc h1 h2 h3 h4
    obtain ⟨N, rfl⟩ : ∃ n, N = n + 1 := ⟨N - 1, by omega⟩
    have hi : i < p.size := by omega
    have hl : i < (bL p).length := by rw [← bL_size]; exact hi
    have hw : IntKind.i64.wrap ((i : Int) + 1) = ((i + 1 : Nat) : Int) := by rw [wrap_in (by omega) (by omega)]; rfl
    have hb : p.data.toList.getD i 0 = (bL p)[i] := by show (bL p).getD i 0 = _; rw [List.getD_eq_getElem?_getD, List.getElem?_eq_getElem hl]; rfl
    rw [List.drop_eq_getElem_cons hl]
    have hin : 0 ≤ (i : Int) ∧ (i : Int) < ((p.size : Nat) : Int) := by omega
    rw [reredosref_plain_L1, if_pos (by simpa using hi), if_pos hin, Int.toNat_natCast, hb, hw]
    generalize hc : (bL p)[i] = c
    by_cases c1 : c.toNat < 48
    · rw [if_pos (by simp; omega)]
      exact ⟨fun h => absurd (h c (by simp)) (by omega), .inl rfl⟩
    rw [if_neg (by simp; omega), if_pos hin]
    by_cases c2 : 57 < c.toNat
    · rw [if_pos (by simp; omega)]
      exact ⟨fun h => absurd (h c (by simp)) (by omega), .inl rfl⟩
    rw [if_neg (by simp; omega)]
    by_cases c3 : M < acc
    · rw [if_pos (by simp; omega)]
      refine ⟨fun _ hv => ?_, .inl rfl⟩
      have := valG_le dgt ((bL p).drop (i + 1)) (acc * 10 + dgt c)
      rw [valG_cons] at hv
      generalize dgt c = d at *
      omega
    rw [if_neg (by simp; omega), if_pos hin]
    have hv : IntKind.i64.wrap (IntKind.i64.wrap (10 * (acc : Int)) + IntKind.i64.wrap (IntKind.u8.wrap (((c.toNat : Nat) : Int) - 48))) = ((acc * 10 + dgt c : Nat) : Int) := by
      have hd : dgt c = c.toNat - 48 := rfl
      rw [hd]
      rw [wrap_in (n := 10 * (acc : Int)) (by omega) (by omega), wrap_u8b, show (((c.toNat : Nat) : Int) - 48) % 256 = ((c.toNat - 48 : Nat) : Int) from by omega, wrap_in (n := ((c.toNat - 48 : Nat) : Int)) (by omega) (by omega), wrap_in (by omega) (by omega)]
      omega
    rw [hv]
    have hb9 : acc * 10 + dgt c ≤ 10 * M + 9 := by
      have hd : dgt c = c.toNat - 48 := rfl
      rw [hd]; omega
    obtain ⟨i1, i2⟩ := ih (i + 1) N (acc * 10 + dgt c) (by omega) (by omega) hb9 (by omega)
    rw [valG_cons]
    exact ⟨fun h hle => i1 (fun x hx => h x (by simp [hx])) hle, i2⟩
theorem plain_eq {p : ByteArray} {M : Nat} (hM : M ≤ 200000000) (hp : p.size ≤ 1000) : reredosref_plain p (M : Int) = some (match numOf p M with | some n => (n, true) | none => (0, false)) := by
  rw [reredosref_plain, withK]
  generalize hk : (fun (b1_1 : Int) => (if (decide (b1_1 > (M : Int))) = true then (some ((0 : Int), false)) else (Option.bind (reredosref_Dec b1_1) fun v13 => (if (!(v13.toList == p.toList)) = true then (some (0, false)) else (some (b1_1, true)))))) = k
  have kv : ∀ v : Nat, v ≤ 10 * M + 9 → k (v : Int) = if (v : Int) ≤ M ∧ p = bM (Lib.itoa (v : Int)) then some ((v : Int), true) else some (0, false) := by
    intro v hv
    subst hk
    by_cases h1 : (v : Int) > M
    · simp only []
      rw [if_pos (by simpa using h1), if_neg (by omega)]
    · simp only []
      rw [if_neg (by simpa using h1), dec_eq ⟨by omega, by omega⟩, Option.bind_some, toL_dec]
      by_cases h2 : bM (Lib.itoa (v : Int)) = p
      · rw [if_neg (by simp [h2]), if_pos ⟨by omega, h2.symm⟩]
      · rw [if_pos (by simp [h2]), if_neg (fun h => h2 h.2.symm)]
  obtain ⟨l1, l2⟩ := plain_loop p M (by omega) hp k p.size 0 (p.size + 1) 0 (by omega) (by omega) (by omega) (by omega)
  rw [show ((0 : Nat) : Int) = 0 from rfl, List.drop_zero] at l1
  rw [show ((0 : Nat) : Int) = 0 from rfl] at l2
  by_cases h : ∃ n, IsN p M n
  · obtain ⟨n, hn⟩ := h
    rw [numOf_some (by omega) hn]
    obtain ⟨⟨h0, h1⟩, hs⟩ := hn
    obtain ⟨m, rfl⟩ := Int.eq_ofNat_of_zero_le h0
    obtain ⟨d1, d2⟩ := dec_val m m (Nat.le_refl _)
    have hb : bL p = Lib.decDigits m := by rw [hs, bL_mk, Lib.itoa_nonneg]
    rw [l1 (by rw [hb]; exact d2) (by rw [hb, d1]; omega), hb, d1, kv m (by omega), if_pos ⟨h1, hs⟩]
  · rw [numOf_none h]
    rcases l2 with l2 | ⟨v, hv, l2⟩
    · exact l2
    · rw [l2, kv v hv, if_neg]
      intro hc
      exact h ⟨v, ⟨by omega, hc.1⟩, hc.2⟩

theorem pieces_size : ∀ (l : List UInt8), ∀ p ∈ pieces l, p.length ≤ l.length
  | [], p, h => by simp only [pieces, List.mem_singleton] at h; subst h; simp
  | c :: r, p, h => by
    have ih := pieces_size r
    unfold pieces at h
    split at h
    · rcases List.mem_cons.1 h with rfl | h
      · simp
      · have := ih p h; simp; omega
    · split at h
      · rename_i q qs hq
        rw [hq] at ih
        rcases List.mem_cons.1 h with rfl | h
        · have := ih q (by simp); simp; omega
        · have := ih p (by simp [h]); simp; omega
      · simp only [List.mem_singleton] at h; subst h; simp
theorem words_size {p s : ByteArray} (h : s ∈ words p) : s.size ≤ p.size := by
  obtain ⟨l, hl, rfl⟩ := List.mem_map.1 h
  have := pieces_size _ l hl
  rw [bM_size, bL_size p]; exact this
theorem words_ne (p : ByteArray) : ∃ s r, words p = s :: r := by
  unfold words
  cases h : pieces (bL p) with
  | nil => exact absurd h (pieces_ne _)
  | cons a l => exact ⟨bM a, l.map bM, rfl⟩
theorem next_nil (b : Bool) : console_taker_next ⟨[], b⟩ = some (⟨[], true⟩, (⟨#[]⟩ : ByteArray)) := by
  simp [console_taker_next]
theorem next_cons (s : ByteArray) (r : List ByteArray) (b : Bool) : console_taker_next ⟨s :: r, b⟩ = some (⟨r, b⟩, s) := by
  simp only [console_taker_next, List.getElem?_cons_zero, Option.bind_some, List.length_cons, List.drop_succ_cons, List.drop_zero]
  rw [if_neg (by simp; omega), if_pos (by omega)]
theorem number_nil (b : Bool) (M : Int) : console_taker_number ⟨[], b⟩ M = some (⟨[], true⟩, 0) := by
  have h : atoiF (⟨#[]⟩ : ByteArray) = some (0, false) := by
    unfold atoiF
    rw [if_pos (by decide)]
    have : Lib.atoiAll (⟨#[]⟩ : ByteArray).data.toList = Lib.NumEnd.syntax := rfl
    rw [this]
  simp only [console_taker_number, next_nil, Option.bind_some, h, Bool.not_false, if_true]
theorem number_cons {s : ByteArray} (r : List ByteArray) (b : Bool) {M : Int} (hM : M ≤ 200000000) (hs : s.size ≤ 1000) : console_taker_number ⟨s :: r, b⟩ M = some (match numOf s M with | some n => (⟨r, b⟩, n) | none => (⟨r, true⟩, 0)) := by
  simp only [console_taker_number, next_cons, Option.bind_some]
  by_cases h : ∃ n, IsN s M n
  · obtain ⟨n, hn⟩ := h
    rw [numOf_some (by omega) hn, atoi_num (by omega) hn]
    obtain ⟨⟨h0, h1⟩, hb⟩ := hn
    simp only [Option.bind_some, Bool.not_true, Bool.false_eq_true, if_false]
    rw [itoaF_eq ⟨h0, by omega⟩, Option.bind_some, toL_dec, hb, if_neg (by simp), if_neg (by simpa using h0), if_neg (by simpa using h1)]
  · rw [numOf_none h]
    obtain ⟨v, hv, hr⟩ := atoiF_total (s := s) hs
    rw [hv, Option.bind_some]
    cases h2 : v.2 with
    | false => simp
    | true =>
      obtain ⟨r1, r2⟩ := hr h2
      have hi : itoaF v.1 = some (bM (Lib.itoa v.1)) := by rw [itoaF, if_pos ⟨r1, r2⟩]; rfl
      simp only [Bool.not_true, Bool.false_eq_true, if_false, hi, Option.bind_some, toL_dec]
      by_cases e : bM (Lib.itoa v.1) = s
      · rw [decide_eq_true e]
        simp only [Bool.not_true, Bool.false_eq_true, if_false]
        by_cases k0 : v.1 < 0
        · rw [if_pos (by simpa using k0)]
        · rw [if_neg (by simpa using k0)]
          by_cases k1 : v.1 > M
          · rw [if_pos (by simpa using k1)]
          · exact absurd ⟨v.1, ⟨by omega, by omega⟩, e.symm⟩ h
      · rw [decide_eq_false e]; simp
def z0 : Command := Command.mk 0 0 (Txn.mk 0 0) false
theorem cmd_form {p w : ByteArray} {r : List ByteArray} (hs : p.size ≤ 60) (hw : words p = w :: r) (h1 : r = [] → w ≠ bs_10ae9fc7 ∧ w ≠ bs_a5a63d9b) (h2 : r.length = 3 → w ≠ bs_9acb4454)
    (h3 : ∀ a b c d, r = [a, b, c, d] → w = bs_ae254d63 → d ≠ bs_fffca4d6 ∧ d ≠ bs_5bb94a1c) : reredosref_CommandOf p = some (z0, 4) := by
  simp only [reredosref_CommandOf, withK]
  rw [if_neg (by simp; omega), parts_eq (by omega), Option.bind_some, hw]
  simp only [toL_dec, List.getElem?_cons_zero, Option.bind_some, List.length_cons, List.getElem?_cons_succ]
  match r, h1, h2, h3 with
  | [], h1, h2, h3 => obtain ⟨k1, k2⟩ := h1 rfl; simp [k1, k2, z0]
  | [a], h1, h2, h3 => simp [z0]
  | [a, b], h1, h2, h3 => simp [z0]
  | [a, b, c], h1, h2, h3 => have := h2 rfl; simp [this, z0]
  | [a, b, c, d], h1, h2, h3 =>
    by_cases hf : w = bs_ae254d63
    · obtain ⟨k1, k2⟩ := h3 a b c d rfl hf
      simp [hf, k1, k2, z0]
    · simp [hf, z0]
  | a :: b :: c :: d :: e :: l, h1, h2, h3 =>
    have n1 : ¬ ((l.length : Int) + 1 + 1 + 1 + 1 + 1 + 1 = 1) := by omega
    have n4 : ¬ ((l.length : Int) + 1 + 1 + 1 + 1 + 1 + 1 = 4) := by omega
    have n5 : ¬ ((l.length : Int) + 1 + 1 + 1 + 1 + 1 + 1 = 5) := by omega
    simp [n1, n4, n5, z0]
theorem read_other {p w : ByteArray} {r : List ByteArray} (hs : p.size ≤ 60) (hw : words p = w :: r) (h1 : w ≠ bs_10ae9fc7) (h2 : w ≠ bs_a5a63d9b) (h3 : w ≠ bs_9acb4454) (h4 : w ≠ bs_ae254d63) : console_Read p = some (z0, 4) := by
  simp only [console_Read, withK]
  rw [if_neg (by simp; omega), splitF_eq (by omega), Option.bind_some, hw, next_cons, Option.bind_some]
  simp only [toL_dec]
  simp [h1, h2, h3, h4, z0]
theorem read_plain {p w : ByteArray} {r : List ByteArray} (hs : p.size ≤ 60) (hw : words p = w :: r) (h1 : w = bs_10ae9fc7 ∨ w = bs_a5a63d9b) : console_Read p = some (if r = [] then (if w = bs_10ae9fc7 then (Command.mk 1 0 (Txn.mk 0 0) false, 0) else (Command.mk 4 0 (Txn.mk 0 0) false, 0)) else (z0, 4)) := by
  have d1 : bs_a5a63d9b ≠ bs_10ae9fc7 := fun h => absurd (congrArg ByteArray.size h) (by decide)
  simp only [console_Read, withK]
  rw [if_neg (by simp; omega), splitF_eq (by omega), Option.bind_some, hw, next_cons, Option.bind_some]
  simp only [toL_dec]
  rcases h1 with rfl | rfl <;> cases r <;> simp [d1, z0]
/-- The three numbers of status and force. -/
noncomputable def three (r : List ByteArray) : ConsoleTaker × Int × Int × Int :=
  match r with
  | [] => (⟨[], true⟩, 0, 0, 0)
  | [a] => (⟨[], true⟩, (numOf a 5).getD 0, 0, 0)
  | [a, b] => (⟨[], true⟩, (numOf a 5).getD 0, (numOf b 3).getD 0, 0)
  | a :: b :: c :: l => (⟨l, !((numOf a 5).isSome && (numOf b 3).isSome && (numOf c 1048576).isSome)⟩, (numOf a 5).getD 0, (numOf b 3).getD 0, (numOf c 1048576).getD 0)
theorem three_eq {r : List ByteArray} (h : ∀ s ∈ r, s.size ≤ 1000) : ∃ t1 t2, console_taker_number ⟨r, false⟩ 5 = some (t1, (three r).2.1) ∧ console_taker_number t1 3 = some (t2, (three r).2.2.1) ∧ console_taker_number t2 1048576 = some ((three r).1, (three r).2.2.2) := by
  match r, h with
  | [], h => exact ⟨_, _, number_nil _ _, number_nil _ _, number_nil _ _⟩
  | [a], h =>
    rw [number_cons _ _ (by omega) (h a (by simp))]
    cases hn : numOf a 5 <;> exact ⟨_, _, by simp [three, hn]; rfl, by rw [number_nil]; simp [three]; rfl, by rw [number_nil]; simp [three]⟩
  | [a, b], h =>
    rw [number_cons _ _ (by omega) (h a (by simp))]
    cases hn : numOf a 5 <;> cases hm : numOf b 3 <;> exact ⟨_, _, by simp [three, hn]; rfl, by rw [number_cons _ _ (by omega) (h b (by simp))]; simp [three, hm]; rfl, by rw [number_nil]; simp [three]⟩
  | a :: b :: c :: l, h =>
    rw [number_cons _ _ (by omega) (h a (by simp))]
    cases hn : numOf a 5 <;> cases hm : numOf b 3 <;> cases hk : numOf c 1048576 <;> exact ⟨_, _, by simp [three, hn]; rfl, by rw [number_cons _ _ (by omega) (h b (by simp))]; simp [three, hm]; rfl, by rw [number_cons _ _ (by omega) (h c (by simp))]; simp [three, hn, hm, hk]⟩
theorem read_status {p : ByteArray} {r : List ByteArray} (hs : p.size ≤ 60) (hw : words p = bs_9acb4454 :: r) (hz : ∀ s ∈ r, s.size ≤ 1000) : console_Read p = some (if (three r).1.bad = true ∨ (three r).1.l ≠ [] then (z0, 4) else (Command.mk 2 (three r).2.1 (Txn.mk (three r).2.2.1 (three r).2.2.2) false, 0)) := by
  have d1 : bs_9acb4454 ≠ bs_10ae9fc7 := fun h => absurd (congrArg ByteArray.size h) (by decide)
  have d2 : bs_9acb4454 ≠ bs_a5a63d9b := fun h => absurd (congrArg ByteArray.size h) (by decide)
  obtain ⟨t1, t2, e1, e2, e3⟩ := three_eq hz
  simp only [console_Read, withK]
  rw [if_neg (by simp; omega), splitF_eq (by omega), Option.bind_some, hw, next_cons, Option.bind_some]
  simp only [toL_dec, decide_eq_false d1, decide_eq_false d2, decide_true, Bool.false_eq_true, if_false, if_true, e1, e2, e3, Option.bind_some]
  cases hb : (three r).1.bad <;> cases hl : (three r).1.l <;> simp [z0]
theorem read_force {p : ByteArray} {r : List ByteArray} (hs : p.size ≤ 60) (hw : words p = bs_ae254d63 :: r) (hz : ∀ s ∈ r, s.size ≤ 1000) : console_Read p = some (if (three r).1.bad = false ∧ ∃ d, (three r).1.l = [d] ∧ (d = bs_fffca4d6 ∨ d = bs_5bb94a1c) then (Command.mk 3 (three r).2.1 (Txn.mk (three r).2.2.1 (three r).2.2.2) (decide ((three r).1.l = [bs_fffca4d6])), 0) else (z0, 4)) := by
  have d1 : bs_ae254d63 ≠ bs_10ae9fc7 := fun h => absurd (congrArg ByteArray.size h) (by decide)
  have d2 : bs_ae254d63 ≠ bs_a5a63d9b := fun h => absurd (congrArg bL h) (by decide)
  have d3 : bs_ae254d63 ≠ bs_9acb4454 := fun h => absurd (congrArg ByteArray.size h) (by decide)
  have d4 : bs_5bb94a1c ≠ bs_fffca4d6 := fun h => absurd (congrArg ByteArray.size h) (by decide)
  obtain ⟨t1, t2, e1, e2, e3⟩ := three_eq hz
  simp only [console_Read, withK]
  rw [if_neg (by simp; omega), splitF_eq (by omega), Option.bind_some, hw, next_cons, Option.bind_some]
  simp only [toL_dec, decide_eq_false d1, decide_eq_false d2, decide_eq_false d3, decide_true, Bool.false_eq_true, if_false, if_true, e1, e2, e3, Option.bind_some]
  obtain ⟨⟨l, b⟩, x1, x2, x3⟩ := three r
  cases l with
  | nil => simp only [next_nil]; simp [z0]
  | cons d l =>
    simp only [next_cons, Option.bind_some]
    by_cases k1 : d = bs_fffca4d6
    · subst k1
      cases b <;> cases l <;> simp [z0]
    · by_cases k2 : d = bs_5bb94a1c
      · subst k2
        cases b <;> cases l <;> simp [z0, d4]
      · cases b <;> cases l <;> simp [z0, k1, k2]
theorem pl_eq (s : ByteArray) (hs : s.size ≤ 1000) : reredosref_plain s 5 = some (match numOf s 5 with | some n => (n, true) | none => (0, false)) ∧ reredosref_plain s 3 = some (match numOf s 3 with | some n => (n, true) | none => (0, false)) ∧ reredosref_plain s 1048576 = some (match numOf s 1048576 with | some n => (n, true) | none => (0, false)) :=
  ⟨plain_eq (M := 5) (by omega) hs, plain_eq (M := 3) (by omega) hs, plain_eq (M := 1048576) (by omega) hs⟩
theorem opt_cases {α : Type} (o : Option α) : o = none ∨ ∃ n, o = some n := by cases o <;> simp
theorem cmd_status {p a b c : ByteArray} (hs : p.size ≤ 60) (hw : words p = [bs_9acb4454, a, b, c]) (ha : a.size ≤ 1000) (hb : b.size ≤ 1000) (hc : c.size ≤ 1000) :
    reredosref_CommandOf p = some (if (three [a, b, c]).1.bad = true then (z0, 4) else (Command.mk 2 (three [a, b, c]).2.1 (Txn.mk (three [a, b, c]).2.2.1 (three [a, b, c]).2.2.2) false, 0)) := by
  simp only [reredosref_CommandOf, withK]
  rw [if_neg (by simp; omega), parts_eq (by omega), Option.bind_some, hw]
  simp only [toL_dec, List.getElem?_cons_zero, Option.bind_some, List.length_cons, List.length_nil, List.getElem?_cons_succ, (pl_eq a ha).1, (pl_eq b hb).2.1, (pl_eq c hc).2.2, three]
  rcases opt_cases (numOf a 5) with g1 | ⟨n1, g1⟩ <;> rcases opt_cases (numOf b 3) with g2 | ⟨n2, g2⟩ <;> rcases opt_cases (numOf c 1048576) with g3 | ⟨n3, g3⟩ <;> simp [g1, g2, g3, z0]
theorem cmd_force {p a b c d : ByteArray} (hs : p.size ≤ 60) (hw : words p = [bs_ae254d63, a, b, c, d]) (ha : a.size ≤ 1000) (hb : b.size ≤ 1000) (hc : c.size ≤ 1000) (hd : d = bs_fffca4d6 ∨ d = bs_5bb94a1c) :
    reredosref_CommandOf p = some (if (three [a, b, c, d]).1.bad = false then (Command.mk 3 (three [a, b, c, d]).2.1 (Txn.mk (three [a, b, c, d]).2.2.1 (three [a, b, c, d]).2.2.2) (decide (d = bs_fffca4d6)), 0) else (z0, 4)) := by
  have d4 : bs_5bb94a1c ≠ bs_fffca4d6 := fun h => absurd (congrArg ByteArray.size h) (by decide)
  simp only [reredosref_CommandOf, withK]
  rw [if_neg (by simp; omega), parts_eq (by omega), Option.bind_some, hw]
  simp only [toL_dec, List.getElem?_cons_zero, Option.bind_some, List.length_cons, List.length_nil, List.getElem?_cons_succ, (pl_eq a ha).1, (pl_eq b hb).2.1, (pl_eq c hc).2.2, three]
  rcases hd with rfl | rfl <;> rcases opt_cases (numOf a 5) with g1 | ⟨n1, g1⟩ <;> rcases opt_cases (numOf b 3) with g2 | ⟨n2, g2⟩ <;> rcases opt_cases (numOf c 1048576) with g3 | ⟨n3, g3⟩ <;> simp [g1, g2, g3, z0, d4]
theorem reads_same {p : ByteArray} : ∃ r, console_Read p = some r ∧ reredosref_CommandOf p = some r := by
  by_cases hs : (p.size : Int) > 60
  · refine ⟨(z0, 1), ?_, ?_⟩
    · simp only [console_Read]; rw [if_pos (by simpa using hs)]; rfl
    · simp only [reredosref_CommandOf]; rw [if_pos (by simpa using hs)]; rfl
  have hs : p.size ≤ 60 := by omega
  obtain ⟨w, r, hw⟩ := words_ne p
  have hz : ∀ s ∈ r, s.size ≤ 1000 := fun s hm => by have := words_size (p := p) (s := s) (by rw [hw]; simp [hm]); omega
  have d1 : bs_a5a63d9b ≠ bs_10ae9fc7 := fun h => absurd (congrArg ByteArray.size h) (by decide)
  have d2 : bs_10ae9fc7 ≠ bs_9acb4454 := fun h => absurd (congrArg ByteArray.size h) (by decide)
  have d3 : bs_10ae9fc7 ≠ bs_ae254d63 := fun h => absurd (congrArg ByteArray.size h) (by decide)
  have d4 : bs_a5a63d9b ≠ bs_9acb4454 := fun h => absurd (congrArg ByteArray.size h) (by decide)
  have d5 : bs_a5a63d9b ≠ bs_ae254d63 := fun h => absurd (congrArg bL h) (by decide)
  have d6 : bs_9acb4454 ≠ bs_ae254d63 := fun h => absurd (congrArg ByteArray.size h) (by decide)
  have d7 : bs_9acb4454 ≠ bs_10ae9fc7 := fun h => absurd (congrArg ByteArray.size h) (by decide)
  have d8 : bs_9acb4454 ≠ bs_a5a63d9b := fun h => absurd (congrArg ByteArray.size h) (by decide)
  have d9 : bs_ae254d63 ≠ bs_10ae9fc7 := fun h => absurd (congrArg ByteArray.size h) (by decide)
  have d10 : bs_ae254d63 ≠ bs_a5a63d9b := fun h => absurd (congrArg bL h) (by decide)
  have d11 : bs_ae254d63 ≠ bs_9acb4454 := fun h => absurd (congrArg ByteArray.size h) (by decide)
  have plainref : ∀ w, (w = bs_10ae9fc7 ∨ w = bs_a5a63d9b) → words p = [w] → reredosref_CommandOf p = some (if w = bs_10ae9fc7 then (Command.mk 1 0 (Txn.mk 0 0) false, 0) else (Command.mk 4 0 (Txn.mk 0 0) false, 0)) := by
    intro w h1 hw
    simp only [reredosref_CommandOf, withK]
    rw [if_neg (by simp; omega), parts_eq (by omega), Option.bind_some, hw]
    simp only [toL_dec, List.getElem?_cons_zero, Option.bind_some, List.length_cons, List.length_nil]
    rcases h1 with rfl | rfl <;> simp [d1]
  by_cases w1 : w = bs_10ae9fc7 ∨ w = bs_a5a63d9b
  · refine ⟨_, read_plain hs hw w1, ?_⟩
    by_cases hr : r = []
    · subst hr
      rw [plainref w w1 hw, if_pos rfl]
    · rw [if_neg hr]
      refine cmd_form hs hw (fun h => absurd h hr) ?_ ?_
      · rcases w1 with rfl | rfl <;> intro _ <;> assumption
      · intro a b c d _ h
        rcases w1 with rfl | rfl
        · exact absurd h d3
        · exact absurd h d5
  have k1 : w ≠ bs_10ae9fc7 := fun h => w1 (.inl h)
  have k2 : w ≠ bs_a5a63d9b := fun h => w1 (.inr h)
  by_cases w3 : w = bs_9acb4454
  · subst w3
    refine ⟨_, read_status hs hw hz, ?_⟩
    match r, hw, hz with
    | [a, b, c], hw, hz =>
      rw [cmd_status hs hw (hz a (by simp)) (hz b (by simp)) (hz c (by simp))]
      simp [three]
    | [], hw, hz => rw [cmd_form hs hw (fun _ => ⟨k1, k2⟩) (by simp) (by simp)]; simp [three]
    | [a], hw, hz => rw [cmd_form hs hw (by simp) (by simp) (by simp)]; simp [three]
    | [a, b], hw, hz => rw [cmd_form hs hw (by simp) (by simp) (by simp)]; simp [three]
    | a :: b :: c :: d :: l, hw, hz => rw [cmd_form hs hw (by simp) (by simp) (fun _ _ _ _ _ h => absurd h d6)]; simp [three]
  by_cases w4 : w = bs_ae254d63
  · subst w4
    refine ⟨_, read_force hs hw hz, ?_⟩
    match r, hw, hz with
    | [a, b, c, d], hw, hz =>
      by_cases hd : d = bs_fffca4d6 ∨ d = bs_5bb94a1c
      · rw [cmd_force hs hw (hz a (by simp)) (hz b (by simp)) (hz c (by simp)) hd]
        simp [three, hd]
      · rw [cmd_form hs hw (by simp) (by simp) (fun a' b' c' d' h _ => by
          simp only [List.cons.injEq, and_true] at h
          obtain ⟨_, _, _, rfl⟩ := h
          exact ⟨fun h => hd (.inl h), fun h => hd (.inr h)⟩)]
        simp [three, hd]
    | [], hw, hz => rw [cmd_form hs hw (fun _ => ⟨k1, k2⟩) (by simp) (by simp)]; simp [three]
    | [a], hw, hz => rw [cmd_form hs hw (by simp) (by simp) (by simp)]; simp [three]
    | [a, b], hw, hz => rw [cmd_form hs hw (by simp) (by simp) (by simp)]; simp [three]
    | [a, b, c], hw, hz => rw [cmd_form hs hw (by simp) (fun _ => d11) (by simp)]; simp [three]
    | a :: b :: c :: d :: e :: l, hw, hz => rw [cmd_form hs hw (by simp) (by simp) (by simp)]; simp [three]
  · exact ⟨_, read_other hs hw k1 k2 w3 w4, cmd_form hs hw (fun _ => ⟨k1, k2⟩) (fun _ => w3) (fun _ _ _ _ _ h => absurd h w4)⟩

end Go.V.Dec
