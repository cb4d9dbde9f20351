/- Plain laws (Itoa): no program, no memory; conditions as stated. -/
import Derived.Test.YtjpkfnblnimdoaaDoorF1
set_option linter.unusedVariables false
set_option linter.unusedSimpArgs false
namespace Go.V.Dec
open Go Go.Proofs Classical
set_option maxRecDepth 100000
set_option maxHeartbeats 4000000
variable (G : Nat → Option (List D))
theorem wrap_u8b (n : Int) : IntKind.u8.wrap n = n % 256 := by
  unfold IntKind.wrap
  simp [IntKind.bits, IntKind.signed]
def bL (s : ByteArray) : List UInt8 := s.data.toList
def bM (l : List UInt8) : ByteArray := ⟨l.toArray⟩
theorem bL_app (a b : ByteArray) : bL (a ++ b) = bL a ++ bL b := by simp [bL]
theorem bL_size (s : ByteArray) : s.size = (bL s).length := by rw [bL, Array.length_toList]; rfl
theorem bL_mk (l : List UInt8) : bL (bM l) = l := by simp [bL, bM]
theorem bM_L (s : ByteArray) : bM (bL s) = s := by
  obtain ⟨⟨l⟩⟩ := s
  rfl
theorem bM_size (l : List UInt8) : (bM l).size = l.length := by rw [bL_size, bL_mk]
theorem bL_ext {a b : ByteArray} (h : bL a = bL b) : a = b := by rw [← bM_L a, h, bM_L]
theorem sz_app (a b : ByteArray) : (a ++ b).size = a.size + b.size := by rw [bL_size, bL_size, bL_size, bL_app, List.length_append]
theorem bM_app (a b : List UInt8) : bM a ++ bM b = bM (a ++ b) := bL_ext (by rw [bL_app, bL_mk, bL_mk, bL_mk])
theorem app_bM (a : ByteArray) (b : List UInt8) : a ++ bM b = bM (bL a ++ b) := bL_ext (by rw [bL_app, bL_mk, bL_mk])
theorem dig_byte (n : Nat) (h : n < 10) : strOfNums [IntKind.u8.wrap (IntKind.i64.wrap (48 + (n : Int)))] = bM [UInt8.ofNat (48 + n)] := by
  rw [wrap_in (n := 48 + (n : Int)) (by omega) (by omega), show IntKind.u8.wrap (48 + (n : Int)) = ((48 + n : Nat) : Int) from by rw [wrap_u8b]; omega]
  rw [strOfNums, bM, List.map_cons, List.map_nil, Int.toNat_natCast]
theorem dec_R : ∀ (fu n : Nat), 0 < fu → fu ≤ 30 → n < 10 ^ fu → n ≤ 4611686018427387904 → reredosref_Dec_R fu (n : Int) = some (bM (Lib.decDigits n)) ∧ (Lib.decDigits n).length ≤ fu := by
  intro fu
  induction fu with
  | zero => intro n h; omega
  | succ fu ih =>
    intro n _ h1 h2 h3
    rw [reredosref_Dec_R, if_neg (by simp), Lib.decDigits]
    by_cases h : n < 10
    · rw [dif_pos h, if_pos (by simpa using (by omega : (n : Int) < 10)), dig_byte n h]
      exact ⟨rfl, by simp⟩
    · rw [dif_neg h, if_neg (by simpa using (by omega : ¬ (n : Int) < 10))]
      have hf : 0 < fu := by
        cases fu with
        | zero => omega
        | succ => omega
      obtain ⟨e1, e2⟩ := ih (n / 10) hf (by omega) (by rw [Nat.pow_succ] at h2; omega) (by omega)
      have t1 : IntKind.i64.wrap ((n : Int).tdiv 10) = ((n / 10 : Nat) : Int) := by
        rw [Int.tdiv_eq_ediv_of_nonneg (by omega), wrap_in (by omega) (by omega)]; rfl
      have t2 : (n : Int).tmod 10 = ((n % 10 : Nat) : Int) := by
        rw [Int.tmod_eq_emod_of_nonneg (by omega)]; rfl
      rw [t1, e1, t2, Option.bind_some, dig_byte _ (Nat.mod_lt _ (by omega)), if_pos, bM_app]
      · exact ⟨rfl, by simp; omega⟩
      · rw [bM_size, bM_size]; unfold maxLen; simp; omega
def Rg (n : Int) : Prop := 0 ≤ n ∧ n ≤ 2147483648
theorem dec_eq {n : Int} (h : Rg n) : reredosref_Dec n = some (bM (Lib.itoa n)) := by
  obtain ⟨m, rfl⟩ := Int.eq_ofNat_of_zero_le h.1
  have := h.2
  rw [reredosref_Dec, (dec_R 24 m (by omega) (by omega) (by omega) (by omega)).1, Lib.itoa_nonneg]
theorem itoaF_eq {n : Int} (h : Rg n) : itoaF n = some (bM (Lib.itoa n)) := by
  have h1 := h.1
  have h2 := h.2
  rw [itoaF, if_pos (by omega)]; rfl
theorem itoa_len {n : Int} (h : Rg n) : (Lib.itoa n).length ≤ 21 := by
  have h1 := h.1
  have h2 := h.2
  exact Lib.itoa_length_le n (by omega) (by omega)

end Go.V.Dec
