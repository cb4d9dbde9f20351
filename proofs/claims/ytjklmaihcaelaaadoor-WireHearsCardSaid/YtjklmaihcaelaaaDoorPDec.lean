/- Plain laws (Dec): no program, no memory; conditions as stated. -/
import Derived.Test.YtjklmaihcaelaaaDoorF1
import Derived.Test.YtjklmaihcaelaaaDoorPCopies
set_option linter.unusedVariables false
set_option linter.unusedSimpArgs false
namespace Go.V.Dec
open Go Go.Proofs Classical
set_option maxRecDepth 100000
set_option maxHeartbeats 4000000
variable (G : Nat → Option (List D))
theorem sim_k {A R : Type} {K K' : A} {T T' : A → Option R} (h : ∃ r, T K = some r ∧ T' K' = some r) : ∃ r, withK K T = some r ∧ withK K' T' = some r := h
def bytesB (B : List Int) : Prop := ∀ x ∈ B, 0 ≤ x ∧ x < 256
theorem or_add (a x : Int) (ha : 0 ≤ a ∧ a < 4294967296) (hx : 0 ≤ x ∧ x < 256) : bitOp .i64 (· ||| ·) (IntKind.i64.wrap (a * 2 ^ 8)) (IntKind.i64.wrap x) = 256 * a + x := by
  rw [show (2 : Int) ^ 8 = 256 from by decide, wrap_in (n := a * 256) (by omega) (by omega), wrap_in (n := x) (by omega) (by omega)]
  obtain ⟨n, rfl⟩ : ∃ n : Nat, a = n := ⟨a.toNat, by omega⟩
  obtain ⟨m, rfl⟩ : ∃ m : Nat, x = m := ⟨x.toNat, by omega⟩
  have hn : n * 256 < 2 ^ 64 := by omega
  have hm : m < 2 ^ 64 := by omega
  have h1 : (n : Int) * 256 = ((n * 256 : Nat) : Int) := by omega
  have hor : n * 256 ||| m = n * 256 + m := by
    have := Nat.two_pow_add_eq_or_of_lt (i := 8) (b := m) (by omega) n
    rw [show 2 ^ 8 * n = n * 256 from by omega] at this
    exact this.symm
  have key : (BitVec.ofInt 64 ((n * 256 : Nat) : Int) ||| BitVec.ofInt 64 (m : Int)).toNat = n * 256 + m := by
    rw [BitVec.toNat_or, BitVec.ofInt_natCast, BitVec.ofInt_natCast, BitVec.toNat_ofNat, BitVec.toNat_ofNat, Nat.mod_eq_of_lt hn, Nat.mod_eq_of_lt hm, hor]
  rw [h1]
  show IntKind.i64.wrap (((BitVec.ofInt 64 ((n * 256 : Nat) : Int) ||| BitVec.ofInt 64 (m : Int)).toNat : Nat) : Int) = _
  rw [key, wrap_in (by omega) (by omega)]
  omega
def vf (B : List Int) : Nat → Int → Nat → Int
  | 0, acc, _ => acc
  | m + 1, acc, j => vf B m (256 * acc + B.getD j 0) (j + 1)
def CodeEq {R : Type} (L : Nat → Int → Nat → Option R) (k : Int → Option R) (B : List Int) (off b : Nat) : Prop :=
  ∀ n acc i, L (n + 1) acc i = if i < b then (B[off + i]?).bind fun x => L n (bitOp .i64 (· ||| ·) (IntKind.i64.wrap (acc * 2 ^ 8)) (IntKind.i64.wrap x)) (i + 1) else k acc
def RefEq {R : Type} (L : Nat → Int → Int → Int → Option R) (k : Int → Int → Option R) (B : List Int) (b : Int) : Prop :=
  ∀ n acc i p, L (n + 1) acc i p = if i < b then (if 0 ≤ p then (B[p.toNat]?).bind fun x => L n (IntKind.i64.wrap (IntKind.i64.wrap (256 * acc) + IntKind.i64.wrap x)) (IntKind.i64.wrap (i + 1)) (IntKind.i64.wrap (p + 1)) else none) else k acc p
theorem getD_in {B : List Int} {j : Nat} (hB : bytesB B) (hj : j < B.length) : B[j]? = some (B.getD j 0) ∧ 0 ≤ B.getD j 0 ∧ B.getD j 0 < 256 := by
  have e : B.getD j 0 = B[j] := by simp [List.getD_eq_getElem?_getD, hj]
  rw [e]
  exact ⟨List.getElem?_eq_getElem hj, hB _ (List.getElem_mem hj)⟩
theorem pow_le {i : Nat} (h : i ≤ 3) : (256 : Int) ^ i ≤ 16777216 := by
  have : i = 0 ∨ i = 1 ∨ i = 2 ∨ i = 3 := by omega
  rcases this with rfl | rfl | rfl | rfl <;> decide
theorem code_loop {R : Type} {L : Nat → Int → Nat → Option R} {k : Int → Option R} {B : List Int} {off b : Nat} (h : CodeEq L k B off b) (hB : bytesB B) (hb : b ≤ 4) (ho : off + b ≤ B.length) : ∀ m i acc, i + m = b → 0 ≤ acc → acc < 256 ^ i → L (m + 1) acc i = k (vf B m acc (off + i)) := by
  intro m
  induction m with
  | zero => intro i acc h1 h2 h3; rw [h, if_neg (by omega)]; rfl
  | succ m ih =>
    intro i acc h1 h2 h3
    obtain ⟨g1, g2, g3⟩ := getD_in hB (show off + i < B.length by omega)
    have := pow_le (show i ≤ 3 by omega)
    rw [h, if_pos (by omega), g1, Option.bind_some, or_add acc _ (by omega) ⟨g2, g3⟩, ih (i + 1) _ (by omega) (by omega) (by rw [Int.pow_succ]; omega)]
    rfl
theorem ref_loop {R : Type} {L : Nat → Int → Int → Int → Option R} {k : Int → Int → Option R} {B : List Int} {off b : Nat} (h : RefEq L k B b) (hB : bytesB B) (hb : b ≤ 4) (ho : off + b ≤ B.length) (hl : B.length ≤ 900000000000000) : ∀ m i acc, i + m = b → 0 ≤ acc → acc < 256 ^ i → L (m + 1) acc (i : Int) ((off + i : Nat) : Int) = k (vf B m acc (off + i)) ((off + b : Nat) : Int) := by
  intro m
  induction m with
  | zero => intro i acc h1 h2 h3; obtain rfl : i = b := (by omega); rw [h, if_neg (by omega)]; rfl
  | succ m ih =>
    intro i acc h1 h2 h3
    obtain ⟨g1, g2, g3⟩ := getD_in hB (show off + i < B.length by omega)
    have := pow_le (show i ≤ 3 by omega)
    rw [h, if_pos (by omega), if_pos (by omega), Int.toNat_natCast, g1, Option.bind_some]
    rw [wrap_in (n := 256 * acc) (by omega) (by omega), wrap_in (n := B.getD (off + i) 0) (by omega) (by omega), wrap_in (n := 256 * acc + B.getD (off + i) 0) (by omega) (by omega), wrap_in (n := (i : Int) + 1) (by omega) (by omega), wrap_in (by omega) (by omega)]
    have := ih (i + 1) (256 * acc + B.getD (off + i) 0) (by omega) (by omega) (by rw [Int.pow_succ]; omega)
    rw [show ((i : Int) + 1) = ((i + 1 : Nat) : Int) from by omega, show (((off + i : Nat) : Int) + 1) = ((off + (i + 1) : Nat) : Int) from by omega, this]
    rfl
theorem vf_nonneg {B : List Int} (hB : bytesB B) : ∀ m acc j, 0 ≤ acc → j + m ≤ B.length → 0 ≤ vf B m acc j := by
  intro m
  induction m with
  | zero => intro acc j h _; exact h
  | succ m ih =>
    intro acc j h hj
    obtain ⟨_, g2, _⟩ := getD_in hB (show j < B.length by omega)
    exact ih _ _ (by omega) (by omega)
theorem vf1_lt {B : List Int} (hB : bytesB B) (j : Nat) (hj : j + 1 ≤ B.length) : vf B 1 0 j < 256 := by
  obtain ⟨_, g2, g3⟩ := getD_in hB (show j < B.length by omega)
  show 256 * 0 + B.getD j 0 < 256
  omega
/-- Where the two readers are. -/
def Rel (B : List Int) (off len f : Nat) (L : List Int) (p : Int) (e : Nat) : Prop :=
  f = e ∧ ((L = B ∧ off + len = B.length ∧ p = (off : Int) ∧ f ≠ 5) ∨ (len = 0 ∧ p = (B.length : Int) ∧ f ≠ 0))
theorem take_short {R : Type} {B : List Int} (hB : bytesB B) (hl : B.length ≤ 900000000000000) {b : Nat} (hb : 1 ≤ b ∧ b ≤ 4) {off len f : Nat} {L : List Int} {p : Int}
    {k : Int → Nat → Nat → Nat → List Int → Option R} {k' : Int → Int → Nat → Option R} {LC : (Int → Option R) → Nat → Int → Nat → Option R} {LR : (Int → Int → Option R) → Nat → Int → Int → Int → Option R}
    (h1 : (len : Int) < b) (h2 : (((f : Nat) : Int) == 5) = true ∨ (((f : Nat) : Int) == 5) = false ∧ decide (IntKind.i64.wrap (p + (b : Int)) > ((B.length : Nat) : Int)) = true)
    (hk : ∀ v off len f L p e, Rel B off len f L p e → 0 ≤ v → (b = 1 → v < 256) → ∃ r, k v off len f L = some r ∧ k' v p e = some r) :
    ∃ r, (if (decide (((len : Nat) : Int) < (b : Int))) = true then (withK (fun (f' : Nat) => (k 0 0 0 f' [])) fun k1 => (if (((f : Nat) : Int) == 0) = true then (k1 5) else (k1 f))) else (if b ≤ len then (withK (fun (v : Int) => (k v (off + b) (len - b) f L)) fun k1 => (LC k1 (b + 1) 0 0)) else none)) = some r ∧
      (if (((f : Nat) : Int) == 5) = true then (withK (fun (e' : Nat) => (k' 0 ((B.length : Nat) : Int) e')) fun k1 => (if (((f : Nat) : Int) == 0) = true then (k1 5) else (k1 f))) else (if (decide (IntKind.i64.wrap (p + (b : Int)) > ((B.length : Nat) : Int))) = true then (withK (fun (e' : Nat) => (k' 0 ((B.length : Nat) : Int) e')) fun k1 => (if (((f : Nat) : Int) == 0) = true then (k1 5) else (k1 f))) else (withK (fun (v : Int) (p' : Int) => (k' v p' f)) fun k1 => (LR k1 (b + 1) 0 0 p)))) = some r := by
  have fin : ∃ r, (k 0 0 0 (if (((f : Nat) : Int) == 0) = true then 5 else f) []) = some r ∧ (k' 0 ((B.length : Nat) : Int) (if (((f : Nat) : Int) == 0) = true then 5 else f)) = some r := by
    refine hk 0 0 0 _ [] _ _ ⟨rfl, .inr ⟨rfl, rfl, ?_⟩⟩ (by omega) (fun _ => by omega)
    split
    · decide
    · rename_i h0; simpa using h0
  obtain ⟨r, r1, r2⟩ := fin
  refine ⟨r, ?_, ?_⟩
  · rw [if_pos (by simpa using h1)]
    simp only [withK]
    cases hz : (((f : Nat) : Int) == 0) <;> simp only [hz, if_true, Bool.false_eq_true, if_false] at r1 ⊢ <;> exact r1
  · simp only [withK]
    have body : (if (((f : Nat) : Int) == 0) = true then (k' 0 ((B.length : Nat) : Int) 5) else (k' 0 ((B.length : Nat) : Int) f)) = some r := by
      cases hz : (((f : Nat) : Int) == 0) <;> simp only [hz, if_true, Bool.false_eq_true, if_false] at r2 ⊢ <;> exact r2
    rcases h2 with h2 | ⟨h2, h3⟩
    · simp only [h2, if_true]; exact body
    · simp only [h2, h3, if_true, Bool.false_eq_true, if_false]; exact body
theorem take_sim {R : Type} {B : List Int} (hB : bytesB B) (hl : B.length ≤ 900000000000000) {b : Nat} (hb : 1 ≤ b ∧ b ≤ 4) {off len f : Nat} {L : List Int} {p : Int} {e : Nat} (rel : Rel B off len f L p e)
    {k : Int → Nat → Nat → Nat → List Int → Option R} {k' : Int → Int → Nat → Option R} {LC : (Int → Option R) → Nat → Int → Nat → Option R} {LR : (Int → Int → Option R) → Nat → Int → Int → Int → Option R}
    (hC : ∀ k, CodeEq (LC k) k L off b) (hR : ∀ k, RefEq (LR k) k B b)
    (hk : ∀ v off len f L p e, Rel B off len f L p e → 0 ≤ v → (b = 1 → v < 256) → ∃ r, k v off len f L = some r ∧ k' v p e = some r) :
    ∃ r, (if (decide (((len : Nat) : Int) < (b : Int))) = true then (withK (fun (f' : Nat) => (k 0 0 0 f' [])) fun k1 => (if (((f : Nat) : Int) == 0) = true then (k1 5) else (k1 f))) else (if b ≤ len then (withK (fun (v : Int) => (k v (off + b) (len - b) f L)) fun k1 => (LC k1 (b + 1) 0 0)) else none)) = some r ∧
      (if (((e : Nat) : Int) == 5) = true then (withK (fun (e' : Nat) => (k' 0 ((B.length : Nat) : Int) e')) fun k1 => (if (((e : Nat) : Int) == 0) = true then (k1 5) else (k1 e))) else (if (decide (IntKind.i64.wrap (p + (b : Int)) > ((B.length : Nat) : Int))) = true then (withK (fun (e' : Nat) => (k' 0 ((B.length : Nat) : Int) e')) fun k1 => (if (((e : Nat) : Int) == 0) = true then (k1 5) else (k1 e))) else (withK (fun (v : Int) (p' : Int) => (k' v p' e)) fun k1 => (LR k1 (b + 1) 0 0 p)))) = some r := by
  obtain ⟨rfl, h⟩ := rel
  rcases h with ⟨rfl, h1, rfl, h5⟩ | ⟨rfl, rfl, h0⟩
  · have hf5 : (((f : Nat) : Int) == 5) = false := by simp; omega
    have hw : IntKind.i64.wrap ((off : Int) + (b : Int)) = (off : Int) + b := wrap_in (by omega) (by omega)
    by_cases hs : (len : Int) < b
    · exact take_short hB hl hb hs (.inr ⟨hf5, by rw [hw]; simp; omega⟩) hk
    · have hd : decide ((len : Int) < (b : Int)) = false := by simpa using hs
      have hd2 : decide (IntKind.i64.wrap ((off : Int) + (b : Int)) > ((L.length : Nat) : Int)) = false := by rw [hw]; simp; omega
      have hv := vf_nonneg hB b 0 off (by omega) (by omega)
      obtain ⟨r, r1, r2⟩ := hk (vf L b 0 off) (off + b) (len - b) f L ((off + b : Nat) : Int) f ⟨rfl, .inl ⟨rfl, by omega, rfl, h5⟩⟩ hv (fun hb1 => by subst hb1; exact vf1_lt hB off (by omega))
      refine ⟨r, ?_, ?_⟩
      · simp only [hd, Bool.false_eq_true, if_false, withK]
        rw [if_pos (by omega)]
        have := code_loop (hC fun v => k v (off + b) (len - b) f L) hB (by omega) (by omega) b 0 0 (by omega) (by omega) (by decide)
        rw [this]; exact r1
      · simp only [hf5, hd2, Bool.false_eq_true, if_false, withK]
        have := ref_loop (hR fun v p' => k' v p' f) hB (by omega) (show off + b ≤ L.length by omega) hl b 0 0 (by omega) (by omega) (by decide)
        simp only [Nat.add_zero, Int.natCast_zero] at this
        exact this.trans r2
  · have hs : ((0 : Nat) : Int) < b := by omega
    have hw2 : IntKind.i64.wrap ((B.length : Int) + (b : Int)) = (B.length : Int) + b := wrap_in (by omega) (by omega)
    rcases Bool.eq_false_or_eq_true (((f : Nat) : Int) == 5) with hf5 | hf5
    · exact take_short hB hl hb hs (.inl hf5) hk
    · exact take_short hB hl hb hs (.inr ⟨hf5, by rw [hw2]; simp; omega⟩) hk

end Go.V.Dec
