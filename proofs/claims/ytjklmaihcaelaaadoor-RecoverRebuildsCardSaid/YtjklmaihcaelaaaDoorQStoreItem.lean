/- Plain laws (StoreItem): no program, no memory; conditions as stated. -/
import Derived.Test.YtjklmaihcaelaaaDoorG2
import Derived.Test.YtjklmaihcaelaaaDoorQStore
set_option linter.unusedVariables false
set_option linter.unusedSimpArgs false
namespace Go.V.Dec
open Go Go.Proofs Classical
set_option maxRecDepth 100000
set_option maxHeartbeats 4000000
variable (G : Nat → Option (List D))
theorem w4n {l : List Item} (h : u0e l) : ∀ (i : Nat) (x : Item), l[i]? = some x → (i : Int) ≤ x.Key
 | 0, x, hx => by have := (h 0 (zj hx) x hx).1.1; omega
 | i + 1, x, hx => by
  have hi := zj hx
  obtain ⟨y, hy⟩ : ∃ y, l[i]? = some y := at_of (by omega)
  have h1 := w4n h i y hy
  have h2 := (h (i + 1) hi x hx).2 y (by omega) (by simpa using hy)
  omega
theorem y3j {l : List Item} (h : u0e l) : l.length ≤ 8 := by
 rcases Nat.lt_or_ge 8 l.length with h8 | h8
 ·obtain ⟨x, hx⟩ : ∃ x, l[8]? = some x := at_of h8
  have h1 := w4n h 8 x hx
  have h2 := (h 8 h8 x hx).1.2.1
  omega
 ·exact h8
theorem v0m {l : List Item} (h : u0e l) : ∀ (j i : Nat) (x y : Item), i < j → l[i]? = some x → l[j]? = some y → x.Key < y.Key
 | 0, i, x, y, hij, _, _ => by omega
 | j + 1, i, x, y, hij, hx, hy => by
  have hj := zj hy
  obtain ⟨z, hz⟩ : ∃ z, l[j]? = some z := at_of (by omega)
  have h1 := (h (j + 1) hj y hy).2 z (by omega) (by simpa using hz)
  rcases Nat.lt_or_ge i j with h2 | h2
  ·have := v0m h j i x z h2 hx hz; omega
  ·obtain rfl : i = j := by omega
   rw [hx] at hz; cases hz; exact h1
theorem u3u {n : Int} (h0 : 0 ≤ n) (h1 : n < 18446744073709551616) : IntKind.u64.wrap n = n := by
 unfold IntKind.wrap
 simp [IntKind.bits, IntKind.signed]
 omega
theorem y5l (x : Item) (k : Int) : wz x k = some (if x.Key < k then -1 else if x.Key > k then 1 else 0) := by
 simp only [wz, v0r, y0t, Option.bind_some, Bool.false_eq_true, if_false]
 by_cases h1 : x.Key < k
 ·simp [h1]
 ·by_cases h2 : x.Key > k
  ·simp [h1, h2]
  ·simp [h1, h2]
theorem bs_loop {l : List Item} (hs : u0e l) (k : Int) (k3 : Int → Option (Int × Bool)) : ∀ (n i j : Nat), j - i < n → i ≤ j → j ≤ l.length →
 (∀ m x, m < i → l[m]? = some x → x.Key < k) → (∀ m x, j ≤ m → l[m]? = some x → k ≤ x.Key) →
 ∃ p : Nat, p ≤ l.length ∧ (∀ m x, m < p → l[m]? = some x → x.Key < k) ∧ (∀ m x, p ≤ m → l[m]? = some x → k ≤ x.Key) ∧
  wc l k (fun y1 y2 => wz y1 y2) k3 n (i : Int) (j : Int) = k3 (p : Int) := by
 have h8 := y3j hs
 intro n
 induction n with
 | zero => intro i j h; omega
 | succ n ih =>
  intro i j h1 h2 h3 hlo hhi
  rw [wc]
  by_cases hij : i < j
  ·have e : IntKind.i64.wrap ((IntKind.u64.wrap (IntKind.i64.wrap ((i : Int) + (j : Int)))).fdiv (2 ^ 1)) = (((i + j) / 2 : Nat) : Int) := by
    rw [vw (n := (i : Int) + (j : Int)) (by omega) (by omega), u3u (by omega) (by omega), show ((2 : Int) ^ 1) = 2 from rfl, Int.fdiv_eq_ediv_of_nonneg _ (by omega), vw (by omega) (by omega)]
    omega
   have hm : (i + j) / 2 < l.length := by omega
   rw [if_pos (by simp; omega), e, if_pos (by omega), Int.toNat_natCast, va hm]
   simp only [y5l (l[(i + j) / 2]'hm) k, Option.bind_some, withK]
   by_cases hc : l[(i + j) / 2].Key < k
   ·rw [if_pos hc, if_pos (by decide), vw (n := (((i + j) / 2 : Nat) : Int) + 1) (by omega) (by omega), show (((i + j) / 2 : Nat) : Int) + 1 = (((i + j) / 2 + 1 : Nat) : Int) from by omega]
    refine ih ((i + j) / 2 + 1) j (by omega) (by omega) h3 (fun m x hm1 hx => ?_) hhi
    rcases Nat.lt_or_ge m ((i + j) / 2) with hlt | hge
    ·have := v0m hs _ _ _ _ hlt hx (List.getElem?_eq_getElem hm); omega
    ·obtain rfl : m = (i + j) / 2 := by omega
     rw [List.getElem?_eq_getElem hm] at hx; cases hx; exact hc
   ·have hge : ¬ decide ((if l[(i + j) / 2].Key < k then (-1 : Int) else if l[(i + j) / 2].Key > k then 1 else 0) < 0) = true := by
     rw [if_neg hc]; split <;> decide
    rw [if_neg hge]
    refine ih i ((i + j) / 2) (by omega) (by omega) (by omega) hlo (fun m x hm1 hx => ?_)
    rcases Nat.lt_or_ge ((i + j) / 2) m with hlt | hge2
    ·have := v0m hs _ _ _ _ hlt (List.getElem?_eq_getElem hm) hx; omega
    ·obtain rfl : m = (i + j) / 2 := by omega
     rw [List.getElem?_eq_getElem hm] at hx; cases hx; omega
  ·rw [if_neg (by simp; omega)]
   obtain rfl : i = j := by omega
   exact ⟨i, h3, hlo, hhi, rfl⟩
/-- Where a key's item is, or would be. -/
theorem at_eq {l : List Item} (hs : u0e l) (k : Int) : ∃ p : Nat, p ≤ l.length ∧ (∀ m x, m < p → l[m]? = some x → x.Key < k) ∧ (∀ m x, p ≤ m → l[m]? = some x → k ≤ x.Key) ∧
 u0p l k = some ((p : Int), decide (∃ x, l[p]? = some x ∧ x.Key = k)) := by
 simp only [u0p, xo, withK]
 obtain ⟨p, h1, h2, h3, e⟩ := bs_loop hs k (fun (b2_1 : Int) => if decide (b2_1 < ((l.length : Nat) : Int)) = true then (if 0 ≤ b2_1 then (l[b2_1.toNat]?).bind fun x16 => (wz x16 k).bind fun v18 => some (b2_1, v18 == 0) else none) else some (b2_1, false)) (l.length + 1) 0 l.length (by omega) (by omega) (by omega) (fun m x h => by omega) (fun m x h hx => by have := zj hx; omega)
 refine ⟨p, h1, h2, h3, ?_⟩
 rw [show ((0 : Nat) : Int) = 0 from rfl] at e
 rw [e]
 by_cases hp : p < l.length
 ·rw [if_pos (by simpa using hp), if_pos (by omega), Int.toNat_natCast, va hp, y5l]
  simp only [Option.bind_some]
  congr 2
  have hk := h3 p _ (Nat.le_refl _) (List.getElem?_eq_getElem hp)
  have : (∃ x, l[p]? = some x ∧ x.Key = k) ↔ l[p].Key = k := by
   constructor
   ·rintro ⟨x, hx, hk⟩; rw [List.getElem?_eq_getElem hp] at hx; cases hx; exact hk
   ·intro h; exact ⟨_, List.getElem?_eq_getElem hp, h⟩
  rw [decide_eq_decide.2 this]
  by_cases h4 : l[p].Key = k
  ·simp [h4]
  ·have : l[p].Key > k := by omega
   rw [decide_eq_false h4, if_neg (by omega), if_pos this]; rfl
 ·rw [if_neg (by simpa using hp)]
  simp only [Option.bind_some]
  have : ¬ ∃ x, l[p]? = some x ∧ x.Key = k := by rintro ⟨x, hx, _⟩; exact hp (zj hx)
  rw [decide_eq_false this]
theorem w4x (s : Store) (hs : u0e s.Items) (k : Int) : w0n s k = ve s k ∧ ∃ r, ve s k = some r := by
 have hk : ∀ n i, ¬ i < s.Items.length → wd s k (some (Item.mk k 0 0)) (n + 1) i = some (Item.mk k 0 0) := fun n i hi => by rw [wd, if_neg (by simpa using hi)]
 have hg : ∀ n i, i < s.Items.length → ¬ (∃ x, s.Items[i]? = some x ∧ x.Key = k) → wd s k (some (Item.mk k 0 0)) (n + 1) i = wd s k (some (Item.mk k 0 0)) n (i + 1) := fun n i hi hp => by
  rw [wd, if_pos (by simpa using hi), va hi, if_neg]
  intro e; exact hp ⟨_, List.getElem?_eq_getElem hi, by simpa using e⟩
 have hb : ∀ n i, i < s.Items.length → (∃ x, s.Items[i]? = some x ∧ x.Key = k) → wd s k (some (Item.mk k 0 0)) (n + 1) i = s.Items[i]? := fun n i hi hp => by
  obtain ⟨x, hx, hp⟩ := hp
  rw [wd, if_pos (by simpa using hi), va hi]
  rw [List.getElem?_eq_getElem hi] at hx ⊢; cases hx
  rw [if_pos (by simpa using hp)]
 obtain ⟨p, h1, h2, h3, e⟩ := at_eq hs k
 simp only [w0n, ve, withK, e, Option.bind_some]
 rcases z0g (f := fun i => s.Items[i]?) hk hg hb with ⟨h, e'⟩ | ⟨j, g1, ⟨x, g2, g3⟩, g4, e'⟩
 ·have : ¬ ∃ x, s.Items[p]? = some x ∧ x.Key = k := by rintro ⟨x, hx, hq⟩; exact h ⟨p, zj hx, x, hx, hq⟩
  rw [e', decide_eq_false this]; exact ⟨rfl, _, rfl⟩
 ·have hjp : j = p := by
   have a : ¬ j < p := fun hlt => by have := h2 j x hlt g2; omega
   have b : ¬ p < j := fun hlt => by
    obtain ⟨y, hy⟩ : ∃ y, s.Items[p]? = some y := at_of (by omega)
    have c1 := h3 p y (Nat.le_refl _) hy
    have c2 := v0m hs _ _ _ _ hlt hy g2
    omega
   omega
  subst hjp
  rw [e', decide_eq_true ⟨x, g2, g3⟩, if_pos rfl, if_pos (by omega), Int.toNat_natCast, g2]
  exact ⟨rfl, _, rfl⟩
theorem u4w (s : Store) (t : Txn) (k : Int) : y0u s t k = uq s t k := by
 have key : ∀ n i, yb s.Locks (fun y1 => v0i y1 t k) (some (-1)) n i = ub s t k (some (-1)) n i := by
  intro n
  induction n with
  | zero => intro i; rfl
  | succ n ih =>
   intro i
   rw [yb, ub]
   by_cases hi : i < s.Locks.length
   ·rw [if_pos (by simpa using hi), if_pos (by simpa using hi), va hi, va hi, ih]
    simp only [v0i, withK]
    by_cases h1 : ((s.Locks[i].Txn.Site == t.Site) && (s.Locks[i].Txn.N == t.N)) = true
    ·rw [if_pos h1, if_pos h1]; rfl
    ·rw [if_neg h1, if_neg h1]; rfl
   ·rw [if_neg (by simpa using hi), if_neg (by simpa using hi)]
 simp only [y0u, uq, wh, withK, key]
 cases ub s t k (some (-1)) (s.Locks.length + 1) 0 <;> rfl
theorem v3a (s : Store) (t : Txn) (k : Int) : ∃ v, uq s t k = some v ∧ ((v = -1 ∧ ¬ ∃ x ∈ s.Locks, x.Txn = t ∧ x.Key = k) ∨ ∃ (j : Nat) (x : Lock), v = j ∧ s.Locks[j]? = some x ∧ x.Txn = t ∧ x.Key = k) := by
 have hk : ∀ n i, ¬ i < s.Locks.length → ub s t k (some (-1)) (n + 1) i = some (-1) := fun n i hi => by rw [ub, if_neg (by simpa using hi)]
 have hg : ∀ n i, i < s.Locks.length → ¬ (∃ x, s.Locks[i]? = some x ∧ x.Txn = t ∧ x.Key = k) → ub s t k (some (-1)) (n + 1) i = ub s t k (some (-1)) n (i + 1) := fun n i hi hp => by
  rw [ub, if_pos (by simpa using hi), va hi]
  simp only [z0d, beq_iff_eq]
  by_cases h1 : s.Locks[i].Txn = t
  ·rw [if_pos h1, if_neg]; intro e; exact hp ⟨_, List.getElem?_eq_getElem hi, h1, e⟩
  ·rw [if_neg h1]
 have hb : ∀ n i, i < s.Locks.length → (∃ x, s.Locks[i]? = some x ∧ x.Txn = t ∧ x.Key = k) → ub s t k (some (-1)) (n + 1) i = some (i : Int) := fun n i hi hp => by
  obtain ⟨x, hx, h1, h2⟩ := hp
  rw [ub, if_pos (by simpa using hi), va hi]
  rw [List.getElem?_eq_getElem hi] at hx; cases hx
  rw [if_pos (z0d.2 h1), if_pos (by simpa using h2)]
 simp only [uq, withK]
 rcases z0g (f := fun i => some (i : Int)) hk hg hb with ⟨h, e⟩ | ⟨j, h1, ⟨x, h2, h2', h2''⟩, h3, e⟩
 ·refine ⟨_, e, .inl ⟨rfl, ?_⟩⟩
  rintro ⟨x, hm, hq⟩
  obtain ⟨j, hj, rfl⟩ := List.getElem_of_mem hm
  exact h ⟨j, hj, _, by simp [hj], hq⟩
 ·exact ⟨_, e, .inr ⟨j, x, rfl, h2, h2', h2''⟩⟩
theorem ite2_some {α : Type} (c d : Bool) (x y z : α) : ∃ r, (if c = true then some x else if d = true then some y else some z) = some r := by
 cases c <;> cases d <;> exact ⟨_, rfl⟩

end Go.V.Dec
