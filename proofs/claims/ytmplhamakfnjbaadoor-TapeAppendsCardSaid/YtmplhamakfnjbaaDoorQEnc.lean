/- Plain laws (Enc): no program, no memory; conditions as stated. -/
import Derived.Test.YtmplhamakfnjbaaDoorG4
import Derived.Test.YtmplhamakfnjbaaDoorQGen
set_option linter.unusedVariables false
set_option linter.unusedSimpArgs false
namespace Go.V.Dec
open Go Go.Proofs Classical
set_option maxRecDepth 100000
set_option maxHeartbeats 4000000
theorem wrap_u8 (n : Int) : IntKind.u8.wrap n = n % 256 := by
  unfold IntKind.wrap
  simp [IntKind.bits, IntKind.signed]
def by1 (x : Int) : List Int := [IntKind.u8.wrap x]
def by3 (x : Int) : List Int := [IntKind.u8.wrap (x / 65536), IntKind.u8.wrap (x / 256), IntKind.u8.wrap x]
def by4 (x : Int) : List Int := [IntKind.u8.wrap (x / 16777216), IntKind.u8.wrap (x / 65536), IntKind.u8.wrap (x / 256), IntKind.u8.wrap x]
theorem by1_len (x : Int) : (by1 x).length = 1 := rfl
theorem by3_len (x : Int) : (by3 x).length = 3 := rfl
theorem by4_len (x : Int) : (by4 x).length = 4 := rfl
theorem f1_of {m : Nat} (h : m ≤ 70000000000000) : fits 1 m := by unfold fits maxLen; omega
def PutEq {R : Type} (L : Nat → Int → List Int → Option R) (k : List Int → Option R) (x : Int) : Prop :=
  ∀ n i acc, L (n + 1) i acc = (if (decide (i ≥ 0)) = true then (if IntKind.i64.wrap (8 * i) < 0 then none else (if fits 1 (acc.length + 1) then (L n (IntKind.i64.wrap (i - 1)) (acc ++ [IntKind.u8.wrap (x.fdiv (2 ^ (min (IntKind.i64.wrap (8 * i)).toNat 64)))])) else none)) else (k acc))
section
variable {R : Type} {L : Nat → Int → List Int → Option R} {k : List Int → Option R} {x : Int}
theorem put_end (h : PutEq L k x) (n : Nat) (acc : List Int) : L (n + 1) (-1) acc = k acc := by rw [h]; rfl
theorem put_0 (h : PutEq L k x) (n : Nat) (acc : List Int) (ha : acc.length ≤ 60000000000000) : L (n + 1) 0 acc = L n (-1) (acc ++ [IntKind.u8.wrap x]) := by
  rw [h, if_pos (by decide), if_neg (by decide), if_pos (f1_of (by omega)), show IntKind.i64.wrap (0 - 1) = -1 from by decide, show (2 : Int) ^ (min (IntKind.i64.wrap (8 * 0)).toNat 64) = 1 from by decide, Int.fdiv_one]
theorem put_1 (h : PutEq L k x) (n : Nat) (acc : List Int) (ha : acc.length ≤ 60000000000000) : L (n + 1) 1 acc = L n 0 (acc ++ [IntKind.u8.wrap (x / 256)]) := by
  rw [h, if_pos (by decide), if_neg (by decide), if_pos (f1_of (by omega)), show IntKind.i64.wrap (1 - 1) = 0 from by decide, show (2 : Int) ^ (min (IntKind.i64.wrap (8 * 1)).toNat 64) = 256 from by decide, Int.fdiv_eq_ediv_of_nonneg _ (by decide)]
theorem put_2 (h : PutEq L k x) (n : Nat) (acc : List Int) (ha : acc.length ≤ 60000000000000) : L (n + 1) 2 acc = L n 1 (acc ++ [IntKind.u8.wrap (x / 65536)]) := by
  rw [h, if_pos (by decide), if_neg (by decide), if_pos (f1_of (by omega)), show IntKind.i64.wrap (2 - 1) = 1 from by decide, show (2 : Int) ^ (min (IntKind.i64.wrap (8 * 2)).toNat 64) = 65536 from by decide, Int.fdiv_eq_ediv_of_nonneg _ (by decide)]
theorem put_3 (h : PutEq L k x) (n : Nat) (acc : List Int) (ha : acc.length ≤ 60000000000000) : L (n + 1) 3 acc = L n 2 (acc ++ [IntKind.u8.wrap (x / 16777216)]) := by
  rw [h, if_pos (by decide), if_neg (by decide), if_pos (f1_of (by omega)), show IntKind.i64.wrap (3 - 1) = 2 from by decide, show (2 : Int) ^ (min (IntKind.i64.wrap (8 * 3)).toNat 64) = 16777216 from by decide, Int.fdiv_eq_ediv_of_nonneg _ (by decide)]
theorem put1 (h : PutEq L k x) (acc : List Int) (ha : acc.length ≤ 50000000000000) : L 2 0 acc = k (acc ++ by1 x) := by
  rw [put_0 h _ _ (by omega), put_end h]; rfl
theorem put3 (h : PutEq L k x) (acc : List Int) (ha : acc.length ≤ 50000000000000) : L 4 2 acc = k (acc ++ by3 x) := by
  rw [put_2 h _ _ (by omega), put_1 h _ _ (by simp; omega), put_0 h _ _ (by simp; omega), put_end h]; simp [by3]
theorem put4 (h : PutEq L k x) (acc : List Int) (ha : acc.length ≤ 50000000000000) : L 5 3 acc = k (acc ++ by4 x) := by
  rw [put_3 h _ _ (by omega), put_2 h _ _ (by simp; omega), put_1 h _ _ (by simp; omega), put_0 h _ _ (by simp; omega), put_end h]; simp [by4]
end
theorem tt (x : Int) (u : Int) (hx : 0 ≤ x ∧ x ≤ 2000000000) (hu : 0 < u) (h : 0 ≤ x / u ∧ x / u ≤ 2000000000) : IntKind.u8.wrap ((IntKind.i64.wrap (x.tdiv u)).tmod 256) = IntKind.u8.wrap (x / u) := by
  rw [Int.tdiv_eq_ediv_of_nonneg hx.1, wrap_in (by omega) (by omega), Int.tmod_eq_emod_of_nonneg h.1, wrap_u8, wrap_u8]
  omega
theorem bytes1 (x : Int) (hx : 0 ≤ x ∧ x ≤ 2000000000) : reredosref_bytesOf x 1 = some (by1 x) := by
  have e : IntKind.u8.wrap ((IntKind.i64.wrap (x.tdiv 1)).tmod 256) = IntKind.u8.wrap x := by rw [tt x 1 hx (by decide) (by omega)]; simp
  simp only [reredosref_bytesOf, withK, show (1 : Int).toNat + 1 = 2 from rfl]
  rw [reredosref_bytesOf_L1, if_neg (by decide), reredosref_bytesOf_L2, if_pos (by decide), if_neg (by decide), if_pos (f1_of (by simp)), reredosref_bytesOf_L2, if_neg (by decide), e]
  rfl
theorem bytes3 (x : Int) (hx : 0 ≤ x ∧ x ≤ 2000000000) : reredosref_bytesOf x 3 = some (by3 x) := by
  have e1 : IntKind.u8.wrap ((IntKind.i64.wrap (x.tdiv 1)).tmod 256) = IntKind.u8.wrap x := by rw [tt x 1 hx (by decide) (by omega)]; simp
  have e2 := tt x 256 hx (by decide) (by omega)
  have e3 := tt x 65536 hx (by decide) (by omega)
  simp only [reredosref_bytesOf, withK, show (3 : Int).toNat + 1 = 4 from rfl]
  rw [reredosref_bytesOf_L1, if_pos (by decide), reredosref_bytesOf_L1, if_pos (by decide), reredosref_bytesOf_L1, if_neg (by decide)]
  rw [show IntKind.i64.wrap (IntKind.i64.wrap (1 * 256) * 256) = 65536 from by decide]
  rw [reredosref_bytesOf_L2, if_pos (by decide), if_neg (by decide), if_pos (f1_of (by simp)), show IntKind.i64.wrap ((65536 : Int).tdiv 256) = 256 from by decide]
  rw [reredosref_bytesOf_L2, if_pos (by decide), if_neg (by decide), if_pos (f1_of (by simp)), show IntKind.i64.wrap ((256 : Int).tdiv 256) = 1 from by decide]
  rw [reredosref_bytesOf_L2, if_pos (by decide), if_neg (by decide), if_pos (f1_of (by simp))]
  rw [reredosref_bytesOf_L2, if_neg (by decide), e1, e2, e3]
  rfl
theorem bytes4 (x : Int) (hx : 0 ≤ x ∧ x ≤ 2000000000) : reredosref_bytesOf x 4 = some (by4 x) := by
  have e1 : IntKind.u8.wrap ((IntKind.i64.wrap (x.tdiv 1)).tmod 256) = IntKind.u8.wrap x := by rw [tt x 1 hx (by decide) (by omega)]; simp
  have e2 := tt x 256 hx (by decide) (by omega)
  have e3 := tt x 65536 hx (by decide) (by omega)
  have e4 := tt x 16777216 hx (by decide) (by omega)
  simp only [reredosref_bytesOf, withK, show (4 : Int).toNat + 1 = 5 from rfl]
  rw [reredosref_bytesOf_L1, if_pos (by decide), reredosref_bytesOf_L1, if_pos (by decide), reredosref_bytesOf_L1, if_pos (by decide), reredosref_bytesOf_L1, if_neg (by decide)]
  rw [show IntKind.i64.wrap (IntKind.i64.wrap (IntKind.i64.wrap (1 * 256) * 256) * 256) = 16777216 from by decide]
  rw [reredosref_bytesOf_L2, if_pos (by decide), if_neg (by decide), if_pos (f1_of (by simp)), show IntKind.i64.wrap ((16777216 : Int).tdiv 256) = 65536 from by decide]
  rw [reredosref_bytesOf_L2, if_pos (by decide), if_neg (by decide), if_pos (f1_of (by simp)), show IntKind.i64.wrap ((65536 : Int).tdiv 256) = 256 from by decide]
  rw [reredosref_bytesOf_L2, if_pos (by decide), if_neg (by decide), if_pos (f1_of (by simp)), show IntKind.i64.wrap ((256 : Int).tdiv 256) = 1 from by decide]
  rw [reredosref_bytesOf_L2, if_pos (by decide), if_neg (by decide), if_pos (f1_of (by simp))]
  rw [reredosref_bytesOf_L2, if_neg (by decide), e1, e2, e3, e4]
  rfl
theorem joined2 (l : List (List Int)) (i : Nat) (hi : i < l.length) (k : List Int → Option (List Int)) : ∀ n j acc, l[i].length < n + j → j ≤ l[i].length → acc.length + l[i].length ≤ 60000000000000 + j → reredosref_joined_L2 l i k n j acc = k (acc ++ l[i].drop j) := by
  intro n
  induction n with
  | zero => intro j acc h1 h2; omega
  | succ n ih =>
    intro j acc h1 h2 h3
    rw [reredosref_joined_L2, bind_at hi]
    by_cases hj : j < l[i].length
    · rw [if_pos (by simpa using hj), bind_at hj, if_pos (f1_of (by omega)), ih _ _ (by omega) (by omega) (by simp; omega), List.append_assoc, List.singleton_append, List.getElem_cons_drop]
    · rw [if_neg (by simpa using hj), List.drop_of_length_le (by omega), List.append_nil]
theorem joined1 (l : List (List Int)) (k : List Int → Option (List Int)) : ∀ n i acc, l.length < n + i → i ≤ l.length → acc.length + (l.drop i).flatten.length ≤ 60000000000000 → reredosref_joined_L1 l k n i acc = k (acc ++ (l.drop i).flatten) := by
  intro n
  induction n with
  | zero => intro i acc h1 h2; omega
  | succ n ih =>
    intro i acc h1 h2 h3
    rw [reredosref_joined_L1]
    by_cases hi : i < l.length
    · have e : (l.drop i).flatten = l[i] ++ (l.drop (i + 1)).flatten := by rw [List.drop_eq_getElem_cons hi, List.flatten_cons]
      rw [e, List.length_append] at h3
      rw [if_pos (by simpa using hi)]
      simp only [withK, List.getElem?_eq_getElem hi, Option.getD_some]
      rw [joined2 l i hi _ _ _ _ (by omega) (by omega) (by omega), List.drop_zero, ih _ _ (by omega) (by omega) (by rw [List.length_append]; omega), e, List.append_assoc]
    · rw [if_neg (by simpa using hi), List.drop_of_length_le (by omega)]; simp
theorem joined_eq (l : List (List Int)) (h : l.flatten.length ≤ 60000000000000) : reredosref_joined l = some l.flatten := by
  simp only [reredosref_joined, withK]
  rw [joined1 l _ _ _ _ (by omega) (by omega) (by simpa using h)]
  simp
theorem txn_bytes (t : Txn) (h : (0 ≤ t.Site ∧ t.Site ≤ 3) ∧ 1 ≤ t.N ∧ t.N ≤ 1048576) : reredosref_txnBytes t = some (by1 t.Site ++ by3 t.N) := by
  simp only [reredosref_txnBytes, bytes1 t.Site (by omega), bytes3 t.N (by omega), Option.bind_some]
  rw [joined_eq _ (by simp [by1_len, by3_len])]
  simp
theorem bit_bytes (b : Bool) : reredosref_bitByte b = some (by1 (if b = true then 1 else 0)) := by
  cases b <;> rfl

end Go.V.Dec
