/- Plain laws (StoreEnd): no program, no memory; conditions as stated. -/
import Derived.Test.YtjklmaihcaelaaaDoorG3
import Derived.Test.YtjklmaihcaelaaaDoorQStore
import Derived.Test.YtjklmaihcaelaaaDoorQStoreCopy
import Derived.Test.YtjklmaihcaelaaaDoorQStoreLens
set_option linter.unusedVariables false
set_option linter.unusedSimpArgs false
namespace Go.V.Dec
open Go Go.Proofs Classical
set_option maxRecDepth 100000
set_option maxHeartbeats 4000000
variable (G : Nat → Option (List D))
theorem u1q {α : Type} {l : List α} {i : Nat} {x : α} (h : i < l.length) : (l.set i x).take (i + 1) = l.take i ++ [x] := by
 rw [List.take_add_one, List.take_set_of_le (Nat.le_refl i)]
 simp [h]
theorem z2m {α : Type} {l : List α} {i j : Nat} {x : α} (h : i < j) : (l.set i x).drop j = l.drop j := by
 rw [List.drop_set, if_pos h]
theorem z0c {i : Nat} (h : i < maxLen) : IntKind.i64.wrap ((i : Int) + 1) = ((i + 1 : Nat) : Int) := za h (Nat.le_refl _)
/-- What a loop that drops some elements in place comes to. -/
theorem u3c {α R : Type} {p : α → Bool} {L : Nat → Int → Int → List α → Option R} {k : Int → List α → Option R} {orig : List α} (hmax : orig.length ≤ maxLen)
 (hk : ∀ n i (j : Nat) l, ¬ j < l.length → L (n + 1) i j l = k i l)
 (hd : ∀ n (i j : Nat) l x, l[j]? = some x → p x = true → L (n + 1) i j l = L n i (IntKind.i64.wrap ((j : Int) + 1)) l)
 (hs : ∀ n (i j : Nat) l x, l[j]? = some x → p x = false → i < l.length → L (n + 1) i j l = L n (IntKind.i64.wrap ((i : Int) + 1)) (IntKind.i64.wrap ((j : Int) + 1)) (l.set i x)) :
 ∀ n (i j : Nat) l, l.length = orig.length → l.length < n + j → i ≤ j → j ≤ l.length → l.drop j = orig.drop j → l.take i = (orig.take j).filter (fun x => !p x) →
  ∃ (i' : Nat) (l' : List α), L n i j l = k i' l' ∧ i' ≤ l'.length ∧ l'.take i' = orig.filter (fun x => !p x) := by
 intro n
 induction n with
 | zero => intro i j l h1 h2 h3 h4; omega
 | succ n ih =>
  intro i j l h1 h2 h3 h4 h5 h6
  by_cases hj : j < l.length
  ·obtain ⟨x, hx⟩ := at_of hj
   have hox : orig[j]? = some x := by
    have := congrArg (fun m => m[0]?) h5
    simp only [List.getElem?_drop, Nat.add_zero] at this
    rw [← this]; exact hx
   have hjo : j < orig.length := zj hox
   have hstep : orig.take (j + 1) = orig.take j ++ [x] := by rw [List.take_add_one, hox]; rfl
   have hdrop : l.drop (j + 1) = orig.drop (j + 1) := by
    have := congrArg (List.drop 1) h5
    rwa [List.drop_drop, List.drop_drop] at this
   cases hp : p x with
   | true =>
    rw [hd n i j l x hx hp, z0c (by omega)]
    exact ih i (j + 1) l h1 (by omega) (by omega) (by omega) hdrop (by rw [h6, hstep]; simp [hp])
   | false =>
    have hi : i < l.length := by omega
    rw [hs n i j l x hx hp hi, z0c (by omega), z0c (by omega)]
    exact ih (i + 1) (j + 1) (l.set i x) (by simpa using h1) (by simp; omega) (by omega) (by simp; omega) (by rw [z2m (by omega), hdrop]) (by rw [u1q hi, h6, hstep]; simp [hp])
  ·rw [hk n i j l hj]
   refine ⟨i, l, rfl, by omega, ?_⟩
   rw [h6, List.take_of_length_le (by omega)]
theorem x1i {α : Type} {l : List α} {p : α → Bool} (h : ¬ ∃ x ∈ l, p x = true) : l.filter (fun x => !p x) = l := by
 rw [List.filter_eq_self]
 intro x hx
 cases hp : p x with
 | false => rfl
 | true => exact absurd ⟨x, hx, hp⟩ h
/-- As it begins: the first that goes stands at j. -/
theorem w2i {α : Type} {l : List α} {p : α → Bool} {j : Nat} {x : α} (hx : l[j]? = some x) (hp : p x = true) (hb : ∀ m y, m < j → l[m]? = some y → ¬ p y = true) : l.take j = (l.take (j + 1)).filter (fun x => !p x) := by
 rw [List.take_add_one, hx, List.filter_append]
 simp only [Option.toList_some, List.filter_cons, hp, Bool.not_true, Bool.false_eq_true, if_false, List.filter_nil, List.append_nil]
 symm
 rw [List.filter_eq_self]
 intro y hy
 obtain ⟨m, hm, rfl⟩ := List.mem_iff_getElem.1 hy
 simp only [List.length_take] at hm
 have := hb m (l.take j)[m] (by omega) (by simp [List.getElem?_eq_getElem (show m < l.length by omega)])
 simpa using this

/-- Items in the order of their keys. -/
def KOk (l : List Item) : Prop := ∀ i, i < l.length → ∀ x, l[i]? = some x → (0 ≤ x.Key ∧ x.Key < 8) ∧ ∀ y, 0 < i → l[i - 1]? = some y → y.Key < x.Key
theorem u0e.k {l : List Item} (h : u0e l) : KOk l := fun i hi x hx => ⟨⟨(h i hi x hx).1.1, (h i hi x hx).1.2.1⟩, (h i hi x hx).2⟩
theorem w4a {l : List Item} (h : KOk l) : ∀ (i : Nat) (x : Item), l[i]? = some x → (i : Int) ≤ x.Key
 | 0, x, hx => by have := (h 0 (zj hx) x hx).1.1; omega
 | i + 1, x, hx => by
  have hi := zj hx
  obtain ⟨y, hy⟩ : ∃ y, l[i]? = some y := at_of (by omega)
  have h1 := w4a h i y hy
  have h2 := (h (i + 1) hi x hx).2 y (by omega) (by simpa using hy)
  omega
theorem z1e {l : List Item} (h : KOk l) : l.length ≤ 8 := by
 rcases Nat.lt_or_ge 8 l.length with h8 | h8
 ·obtain ⟨x, hx⟩ : ∃ x, l[8]? = some x := at_of h8
  have h1 := w4a h 8 x hx
  have h2 := (h 8 h8 x hx).1.2
  omega
 ·exact h8
theorem x0p {l : List Item} (h : KOk l) : ∀ (j i : Nat) (x y : Item), i < j → l[i]? = some x → l[j]? = some y → x.Key < y.Key
 | 0, i, x, y, hij, _, _ => by omega
 | j + 1, i, x, y, hij, hx, hy => by
  have hj := zj hy
  obtain ⟨z, hz⟩ : ∃ z, l[j]? = some z := at_of (by omega)
  have h1 := (h (j + 1) hj y hy).2 z (by omega) (by simpa using hz)
  rcases Nat.lt_or_ge i j with h2 | h2
  ·have := x0p h j i x z h2 hx hz; omega
  ·obtain rfl : i = j := by omega
   rw [hx] at hz; cases hz; exact h1
theorem x4x {n : Int} (h0 : 0 ≤ n) (h1 : n < 18446744073709551616) : IntKind.u64.wrap n = n := by
 unfold IntKind.wrap
 simp [IntKind.bits, IntKind.signed]
 omega
theorem v4n (x : Item) (k : Int) : wz x k = some (if x.Key < k then -1 else if x.Key > k then 1 else 0) := by
 simp only [wz, v0r, y0t, Option.bind_some, Bool.false_eq_true, if_false]
 by_cases h1 : x.Key < k
 ·simp [h1]
 ·by_cases h2 : x.Key > k
  ·simp [h1, h2]
  ·simp [h1, h2]
theorem v5i {l : List Item} (hs : KOk l) (k : Int) (k3 : Int → Option (Int × Bool)) : ∀ (n i j : Nat), j - i < n → i ≤ j → j ≤ l.length →
 (∀ m x, m < i → l[m]? = some x → x.Key < k) → (∀ m x, j ≤ m → l[m]? = some x → k ≤ x.Key) →
 ∃ p : Nat, p ≤ l.length ∧ (∀ m x, m < p → l[m]? = some x → x.Key < k) ∧ (∀ m x, p ≤ m → l[m]? = some x → k ≤ x.Key) ∧
  wc l k (fun y1 y2 => wz y1 y2) k3 n (i : Int) (j : Int) = k3 (p : Int) := by
 have h8 := z1e hs
 intro n
 induction n with
 | zero => intro i j h; omega
 | succ n ih =>
  intro i j h1 h2 h3 hlo hhi
  rw [wc]
  by_cases hij : i < j
  ·have e : IntKind.i64.wrap ((IntKind.u64.wrap (IntKind.i64.wrap ((i : Int) + (j : Int)))).fdiv (2 ^ 1)) = (((i + j) / 2 : Nat) : Int) := by
    rw [vw (n := (i : Int) + (j : Int)) (by omega) (by omega), x4x (by omega) (by omega), show ((2 : Int) ^ 1) = 2 from rfl, Int.fdiv_eq_ediv_of_nonneg _ (by omega), vw (by omega) (by omega)]
    omega
   have hm : (i + j) / 2 < l.length := by omega
   rw [if_pos (by simp; omega), e, if_pos (by omega), Int.toNat_natCast, va hm]
   simp only [v4n (l[(i + j) / 2]'hm) k, Option.bind_some, withK]
   by_cases hc : l[(i + j) / 2].Key < k
   ·rw [if_pos hc, if_pos (by decide), vw (n := (((i + j) / 2 : Nat) : Int) + 1) (by omega) (by omega), show (((i + j) / 2 : Nat) : Int) + 1 = (((i + j) / 2 + 1 : Nat) : Int) from by omega]
    refine ih ((i + j) / 2 + 1) j (by omega) (by omega) h3 (fun m x hm1 hx => ?_) hhi
    rcases Nat.lt_or_ge m ((i + j) / 2) with hlt | hge
    ·have := x0p hs _ _ _ _ hlt hx (List.getElem?_eq_getElem hm); omega
    ·obtain rfl : m = (i + j) / 2 := by omega
     rw [List.getElem?_eq_getElem hm] at hx; cases hx; exact hc
   ·have hge : ¬ decide ((if l[(i + j) / 2].Key < k then (-1 : Int) else if l[(i + j) / 2].Key > k then 1 else 0) < 0) = true := by
     rw [if_neg hc]; split <;> decide
    rw [if_neg hge]
    refine ih i ((i + j) / 2) (by omega) (by omega) (by omega) hlo (fun m x hm1 hx => ?_)
    rcases Nat.lt_or_ge ((i + j) / 2) m with hlt | hge2
    ·have := x0p hs _ _ _ _ hlt (List.getElem?_eq_getElem hm) hx; omega
    ·obtain rfl : m = (i + j) / 2 := by omega
     rw [List.getElem?_eq_getElem hm] at hx; cases hx; omega
  ·rw [if_neg (by simp; omega)]
   obtain rfl : i = j := by omega
   exact ⟨i, h3, hlo, hhi, rfl⟩
/-- Where a key's item is, or would be. -/
theorem kat_eq {l : List Item} (hs : KOk l) (k : Int) : ∃ p : Nat, p ≤ l.length ∧ (∀ m x, m < p → l[m]? = some x → x.Key < k) ∧ (∀ m x, p ≤ m → l[m]? = some x → k ≤ x.Key) ∧
 u0p l k = some ((p : Int), decide (∃ x, l[p]? = some x ∧ x.Key = k)) := by
 simp only [u0p, xo, withK]
 obtain ⟨p, h1, h2, h3, e⟩ := v5i hs k (fun (b2_1 : Int) => if decide (b2_1 < ((l.length : Nat) : Int)) = true then (if 0 ≤ b2_1 then (l[b2_1.toNat]?).bind fun x16 => (wz x16 k).bind fun v18 => some (b2_1, v18 == 0) else none) else some (b2_1, false)) (l.length + 1) 0 l.length (by omega) (by omega) (by omega) (fun m x h => by omega) (fun m x h hx => by have := zj hx; omega)
 refine ⟨p, h1, h2, h3, ?_⟩
 rw [show ((0 : Nat) : Int) = 0 from rfl] at e
 rw [e]
 by_cases hp : p < l.length
 ·rw [if_pos (by simpa using hp), if_pos (by omega), Int.toNat_natCast, va hp, v4n]
  simp only [Option.bind_some]
  congr 2
  have hk := h3 p _ (Nat.le_refl _) (List.getElem?_eq_getElem hp)
  have : (∃ x, l[p]? = some x ∧ x.Key = k) ↔ l[p].Key = k := by
   constructor
   ·rintro ⟨x, hx, hk⟩; rw [List.getElem?_eq_getElem hp] at hx; cases hx; exact hk
   ·intro h; exact ⟨_, List.getElem?_eq_getElem hp, h⟩
  rw [decide_eq_decide.2 this]
  by_cases h4 : l[p].Key = k
  ·simp [h4]
  ·have : l[p].Key > k := by omega
   rw [decide_eq_false h4, if_neg (by omega), if_pos this]; rfl
 ·rw [if_neg (by simpa using hp)]
  simp only [Option.bind_some]
  have : ¬ ∃ x, l[p]? = some x ∧ x.Key = k := by rintro ⟨x, hx, _⟩; exact hp (zj hx)
  rw [decide_eq_false this]

/-- A key's item with a new value. -/
def zz (k v : Int) : List Item → List Item
 | [] => [⟨k, v, 1⟩]
 | x :: r => if x.Key = k then ⟨k, v, IntKind.i64.wrap (x.Version + 1)⟩ :: r else if x.Key > k then ⟨k, v, 1⟩ :: x :: r else x :: zz k v r
theorem KOk.pw {l : List Item} (h : KOk l) : l.Pairwise (fun x y => x.Key < y.Key) := by
 rw [List.pairwise_iff_getElem]
 intro i j hi hj hij
 exact x0p h j i _ _ hij (List.getElem?_eq_getElem hi) (List.getElem?_eq_getElem hj)
theorem KOk.of {l : List Item} (h : l.Pairwise (fun x y => x.Key < y.Key)) (h2 : ∀ x ∈ l, 0 ≤ x.Key ∧ x.Key < 8) : KOk l := by
 intro i hi x hx
 refine ⟨h2 x (List.mem_of_getElem? hx), fun y h0 hy => ?_⟩
 rw [List.pairwise_iff_getElem] at h
 have := h (i - 1) i (by omega) hi (by omega)
 rw [List.getElem?_eq_getElem hi] at hx; cases hx
 rw [List.getElem?_eq_getElem (by omega)] at hy; cases hy
 exact this
theorem KOk.mem {l : List Item} (h : KOk l) : ∀ x ∈ l, 0 ≤ x.Key ∧ x.Key < 8 := by
 intro x hx
 obtain ⟨i, hi, rfl⟩ := List.mem_iff_getElem.1 hx
 exact (h i hi _ (List.getElem?_eq_getElem hi)).1
theorem x3n {k v : Int} : ∀ {l : List Item} {y : Item}, y ∈ zz k v l → y.Key = k ∨ y ∈ l
 | [], y, h => by simp [zz] at h; simp [h]
 | x :: r, y, h => by
  rw [zz] at h
  split at h
  ·rcases List.mem_cons.1 h with rfl | h
   ·exact .inl rfl
   ·exact .inr (List.mem_cons_of_mem _ h)
  ·split at h
   ·rcases List.mem_cons.1 h with rfl | h
    ·exact .inl rfl
    ·exact .inr h
   ·rcases List.mem_cons.1 h with rfl | h
    ·exact .inr (List.mem_cons_self ..)
    ·rcases x3n h with h | h
     ·exact .inl h
     ·exact .inr (List.mem_cons_of_mem _ h)
theorem y5f {k v : Int} : ∀ {l : List Item}, l.Pairwise (fun x y => x.Key < y.Key) → (zz k v l).Pairwise (fun x y => x.Key < y.Key)
 | [], _ => by simp [zz]
 | x :: r, h => by
  rw [List.pairwise_cons] at h
  rw [zz]
  split
  ·rename_i e
   rw [List.pairwise_cons]
   exact ⟨fun y hy => by have := h.1 y hy; simpa [e] using (e ▸ this), h.2⟩
  ·split
   ·rename_i e
    rw [List.pairwise_cons, List.pairwise_cons]
    refine ⟨fun y hy => ?_, h⟩
    rcases List.mem_cons.1 hy with rfl | hy
    ·exact e
    ·have := h.1 y hy; show k < y.Key; omega
   ·rw [List.pairwise_cons]
    refine ⟨fun y hy => ?_, y5f h.2⟩
    rcases x3n hy with hk | hy
    ·omega
    ·exact h.1 y hy
theorem KOk.put {l : List Item} (h : KOk l) {k v : Int} (hk : 0 ≤ k ∧ k < 8) : KOk (zz k v l) := by
 refine .of (y5f h.pw) fun x hx => ?_
 rcases x3n hx with e | hx
 ·rw [e]; exact hk
 ·exact h.mem x hx
theorem x5f {k v : Int} : ∀ (l : List Item) (p : Nat) (x : Item), (∀ m y, m < p → l[m]? = some y → y.Key < k) → l[p]? = some x → x.Key = k → l.set p ⟨k, v, IntKind.i64.wrap (x.Version + 1)⟩ = zz k v l
 | [], p, x, _, h, _ => by simp at h
 | y :: r, 0, x, _, h, e => by
  simp only [List.getElem?_cons_zero, Option.some.injEq] at h
  subst h
  simp [zz, e]
 | y :: r, p + 1, x, hb, h, e => by
  have hy := hb 0 y (by omega) rfl
  rw [zz, if_neg (by omega), if_neg (by omega), List.set_cons_succ, x5f r p x (fun m z hm hz => hb (m + 1) z (by omega) (by simpa using hz)) (by simpa using h) e]
theorem z4m {k v : Int} : ∀ (l : List Item) (p : Nat), p ≤ l.length → (∀ m y, m < p → l[m]? = some y → y.Key < k) → (∀ x, l[p]? = some x → k < x.Key) → l.take p ++ ⟨k, v, 1⟩ :: l.drop p = zz k v l
 | [], p, _, _, _ => by simp [zz]
 | y :: r, 0, _, _, h => by
  have := h y rfl
  rw [zz, if_neg (by omega), if_pos (by omega)]; rfl
 | y :: r, p + 1, hp, hb, h => by
  have hy := hb 0 y (by omega) rfl
  rw [zz, if_neg (by omega), if_neg (by omega)]
  simp only [List.take_succ_cons, List.drop_succ_cons, List.cons_append]
  rw [z4m r p (by simpa using hp) (fun m z hm hz => hb (m + 1) z (by omega) (by simpa using hz)) (fun x hx => h x (by simpa using hx))]
theorem x4j {n : Nat} (h : n ≤ 1000) : fits 24 n := by unfold fits maxLen; omega
theorem wrap1 : IntKind.i64.wrap ((0 : Int) + 1) = 1 := by decide
theorem x3f {l : List Item} (h8 : l.length ≤ 8) (hs : l.Pairwise (fun x y => x.Key < y.Key)) (k v : Int) (k2 : Bool → List Item → Option (List Item)) (hk : ∀ a : List Item, a.length ≤ 50 → k2 false a = some (a ++ [⟨k, v, 1⟩])) (hk' : ∀ a, k2 true a = some a) : ∀ n i (acc : List Item), l.length < n + i → i ≤ l.length → acc.length ≤ i + 1 →
 (acc.length ≤ i → uc l k v k2 n false i acc = some (acc ++ zz k v (l.drop i))) ∧ ((∀ x ∈ l.drop i, k < x.Key) → uc l k v k2 n true i acc = some (acc ++ l.drop i)) := by
 intro n
 induction n with
 | zero => intro i acc h1 h2; omega
 | succ n ih =>
  intro i acc h1 h2 h3
  by_cases hi : i < l.length
  ·have hd : l.drop i = l[i] :: l.drop (i + 1) := List.drop_eq_getElem_cons hi
   have hgt : ∀ x ∈ l.drop (i + 1), l[i].Key < x.Key := by
    have := hs.sublist (List.drop_sublist i l)
    rw [hd, List.pairwise_cons] at this
    exact this.1
   have hf : ∀ m, m ≤ 100 → fits 24 m := fun m hm => x4j (by omega)
   refine ⟨fun h4 => ?_, fun ha => ?_⟩
   ·rw [uc, if_pos (by simpa using hi), va hi, hd, zz]
    by_cases e1 : l[i].Key = k
    ·rw [if_pos (by simpa using e1), if_pos e1, if_pos (hf _ (by omega)), (ih (i + 1) _ (by omega) (by omega) (by simp; omega)).2 (by rw [← e1]; exact hgt)]
     simp
    ·rw [if_neg (by simpa using e1), if_neg e1]
     by_cases e2 : l[i].Key > k
     ·rw [if_pos (by simpa using e2), if_pos e2]
      simp only [withK, Bool.not_false, if_true]
      rw [if_pos (hf _ (by omega)), if_pos (hf _ (by simp; omega)), (ih (i + 1) _ (by omega) (by omega) (by simp; omega)).2 (fun x hx => by have := hgt x hx; omega)]
      simp
     ·rw [if_neg (by simpa using e2), if_neg e2]
      simp only [withK]
      rw [if_pos (hf _ (by omega)), (ih (i + 1) _ (by omega) (by omega) (by simp; omega)).1 (by simp; omega)]
      simp
   ·rw [hd] at ha
    have hik := ha _ (List.mem_cons_self ..)
    rw [uc, if_pos (by simpa using hi), va hi, hd, if_neg (by simp; omega), if_pos (by simpa using hik)]
    simp only [withK, Bool.not_true, Bool.false_eq_true, if_false]
    rw [if_pos (hf _ (by omega)), (ih (i + 1) _ (by omega) (by omega) (by simp; omega)).2 (fun x hx => by have := hgt x hx; omega)]
    simp
  ·have e : ∀ b, uc l k v k2 (n + 1) b i acc = k2 b acc := fun b => by rw [uc, if_neg (by simpa using hi)]
   rw [e, e, List.drop_eq_nil_of_le (by omega), hk acc (by omega), hk']
   simp [zz]
theorem y3v {l : List Item} (h : KOk l) (k v : Int) : v0a l k v = some (zz k v l) := by
 have h8 := z1e h
 have f9 : ∀ m, m ≤ 100 → fits 24 m := fun m hm => x4j (by omega)
 simp only [v0a, withK]
 have hk : ∀ a : List Item, a.length ≤ 50 → (if (!false) = true then (if fits 24 (a.length + 1) then some (a ++ [Item.mk k v 1]) else none) else some a) = some (a ++ [Item.mk k v 1]) := fun a ha => by
  rw [if_pos (show (!false) = true from rfl), if_pos (f9 _ (by omega))]
 have := (x3f h8 h.pw k v (fun b a => if (!b) = true then (if fits 24 (a.length + 1) then some (a ++ [Item.mk k v 1]) else none) else some a) hk (fun a => rfl) (l.length + 1) 0 [] (by omega) (by omega) (by simp)).1 (by simp)
 refine this.trans ?_
 simp
/-- What the locks of a transaction that is sure do to the items. -/
noncomputable def x0i (t : Txn) (y : Bool) (ls : List Lock) (a : List Item) : List Item := ls.foldl (fun a x => if decide (x.Txn = t) && x.Write && y then zz x.Key x.Value a else a) a
theorem w3c {t : Txn} {y : Bool} : ∀ {ls : List Lock} {a : List Item}, KOk a → (∀ x ∈ ls, 0 ≤ x.Key ∧ x.Key < 8) → KOk (x0i t y ls a)
 | [], a, h, _ => h
 | x :: ls, a, h, hl => by
  rw [x0i, List.foldl_cons]
  refine w3c ?_ fun z hz => hl z (List.mem_cons_of_mem _ hz)
  split
  ·exact h.put (hl x (List.mem_cons_self ..))
  ·exact h
theorem w5k (s : Store) (t : Txn) (k6 : List Item → Option (Store × Int)) (hl : ∀ x ∈ s.Locks, 0 ≤ x.Key ∧ x.Key < 8) : ∀ n y i a, s.Locks.length < n + i → i ≤ s.Locks.length → KOk a →
 yx s t k6 n y i a = k6 (x0i t y (s.Locks.drop i) a) := by
 intro n
 induction n with
 | zero => intro y i a h1 h2; omega
 | succ n ih =>
  intro y i a h1 h2 h3
  rw [yx]
  by_cases hi : i < s.Locks.length
  ·have hd : s.Locks.drop i = s.Locks[i] :: s.Locks.drop (i + 1) := List.drop_eq_getElem_cons hi
   have hki := hl _ (List.getElem_mem hi)
   rw [if_pos (by simpa using hi), va hi, hd, x0i, List.foldl_cons, ← x0i]
   by_cases ht : s.Locks[i].Txn = t
   case neg =>
    have : (!((s.Locks[i].Txn.Site == t.Site) && (s.Locks[i].Txn.N == t.N))) = true := by
     rw [Bool.not_eq_true', ← Bool.not_eq_true]; exact fun h => ht (z0d.1 h)
    rw [if_pos this, ih y (i + 1) a (by omega) (by omega) h3]
    simp [ht]
   have : ¬ (!((s.Locks[i].Txn.Site == t.Site) && (s.Locks[i].Txn.N == t.N))) = true := by
    rw [z0d.2 ht]; simp
   rw [if_neg this]
   cases hw : s.Locks[i].Write with
   | false =>
    rw [if_pos (show (!false) = true from rfl), ih y (i + 1) a (by omega) (by omega) h3]
    simp
   | true =>
    rw [if_neg (by simp)]
    cases y with
    | false =>
     rw [if_pos (show (!false) = true from rfl), ih false (i + 1) a (by omega) (by omega) h3]
     simp
    | true =>
     rw [if_neg (by simp)]
     obtain ⟨p, p1, p2, p3, p4⟩ := kat_eq h3 s.Locks[i].Key
     rw [p4]
     simp only [Option.bind_some, withK, ht, decide_true, Bool.true_and, if_true]
     by_cases hx : ∃ x, a[p]? = some x ∧ x.Key = s.Locks[i].Key
     ·obtain ⟨x, hx1, hx2⟩ := hx
      have hp : p < a.length := zj hx1
      have e1 : (∃ x, a[p]? = some x ∧ x.Key = s.Locks[i].Key) := ⟨x, hx1, hx2⟩
      rw [decide_eq_true e1]
      simp only [Bool.not_true, Bool.false_eq_true, if_false]
      rw [if_pos (by omega), Int.toNat_natCast, hx1]
      simp only [Option.bind_some]
      have e2 := x5f a p x p2 hx1 hx2 (v := s.Locks[i].Value)
      rw [hx2, e2, ih true (i + 1) _ (by omega) (by omega) (h3.put hki)]
     ·rw [decide_eq_false hx]
      simp only [Bool.not_false, if_true]
      have h8 := z1e h3
      have e3 : x1e 24 a (p : Int) (Item.mk s.Locks[i].Key 0 0) = some (a.take p ++ (Item.mk s.Locks[i].Key 0 0) :: a.drop p) := by
       rw [x1e, if_pos ⟨by omega, by omega, x4j (by omega)⟩, Int.toNat_natCast]
      have e4 : (a.take p ++ (Item.mk s.Locks[i].Key 0 0) :: a.drop p)[p]? = some (Item.mk s.Locks[i].Key 0 0) := by
       rw [List.getElem?_append_right (by simp; omega)]
       simp [Nat.min_eq_left p1]
      have e5 : ∀ z, (a.take p ++ (Item.mk s.Locks[i].Key 0 0) :: a.drop p).set p z = a.take p ++ z :: a.drop p := by
       intro z
       rw [List.set_append_right _ _ (by simp; omega)]
       simp [Nat.min_eq_left p1]
      rw [e3]
      simp only [Option.bind_some]
      rw [if_pos (by omega), Int.toNat_natCast, e4]
      simp only [Option.bind_some, e5, wrap1]
      rw [z4m a p p1 p2 (fun x hx1 => by
       have := p3 p x (Nat.le_refl _) hx1
       have : ¬ x.Key = s.Locks[i].Key := fun e => hx ⟨x, hx1, e⟩
       omega)]
      rw [ih true (i + 1) _ (by omega) (by omega) (h3.put hki)]
  ·rw [if_neg (by simpa using hi), List.drop_eq_nil_of_le (by omega)]
   rfl
def isT (t u : Txn) : Bool := (u.Site == t.Site) && (u.N == t.N)
theorem z5j {t u : Txn} : isT t u = decide (u = t) := by rw [Bool.eq_iff_iff, isT, z0d]; simp
theorem u4y (v3 : Store) (t : Txn) (hl : v3.Locks.length ≤ maxLen) (k : List Lock → Option (Store × Int)) :
 (withK k fun k26 => Option.bind (wh v3.Locks (fun y27 => u0d y27 t)) fun v28 => (if (v28 == (-1)) = true then (k26 v3.Locks) else (withK (fun (b30_1 : Int) (b30_2 : List Lock) => (if 0 ≤ b30_1 then (if b30_1 ≤ ((b30_2.length : Nat) : Int) then (k26 (b30_2.take b30_1.toNat)) else none) else none)) fun k31 => (zx t k31 (v3.Locks.length + 1) v28 (IntKind.i64.wrap (v28 + 1)) v3.Locks)))) = k (v3.Locks.filter fun x => !isT t x.Txn) := by
 simp only [withK]
 rw [show (fun y27 => u0d y27 t) = (fun x : Lock => some (isT t x.Txn)) from rfl]
 rcases v3j v3.Locks (fun x => isT t x.Txn) with ⟨hn, e⟩ | ⟨j, x, h1, h2, h3, e⟩
 ·rw [e]
  have := x1i hn
  simp [this]
 ·rw [e]
  have hj := zj h1
  have hne : ((j : Int) == -1) = false := by simp
  simp only [Option.bind_some, hne, Bool.false_eq_true, if_false]
  rw [z0c (by omega)]
  obtain ⟨i', l', h4, h5, h6⟩ := u3c (p := fun x : Lock => isT t x.Txn) (k := (fun (b30_1 : Int) (b30_2 : List Lock) => (if 0 ≤ b30_1 then (if b30_1 ≤ ((b30_2.length : Nat) : Int) then (k (b30_2.take b30_1.toNat)) else none) else none))) (L := zx t (fun (b30_1 : Int) (b30_2 : List Lock) => (if 0 ≤ b30_1 then (if b30_1 ≤ ((b30_2.length : Nat) : Int) then (k (b30_2.take b30_1.toNat)) else none) else none))) (orig := v3.Locks) hl
   (fun n i j l hj => by rw [zx, if_neg (by simpa using hj)])
   (fun n i j l x hx hp => by rw [zx, if_pos (by simpa using zj hx), if_pos (by omega), Int.toNat_natCast, hx]; simp only [Option.bind_some, show u0d x t = some (isT t x.Txn) from rfl, withK, hp, Bool.not_true, Bool.false_eq_true, if_false])
   (fun n i j l x hx hp hi => by rw [zx, if_pos (by simpa using zj hx), if_pos (by omega), Int.toNat_natCast, hx]; simp only [Option.bind_some, show u0d x t = some (isT t x.Txn) from rfl, withK, hp, Bool.not_false, if_true]; rw [if_pos (by omega), Int.toNat_natCast, va hi])
   (v3.Locks.length + 1) j (j + 1) v3.Locks rfl (by omega) (by omega) (by omega) rfl (w2i h1 h2 h3)
  refine h4.trans ?_
  rw [if_pos (by omega), if_pos (by omega), Int.toNat_natCast, h6]
theorem u4j (v3 : Store) (t : Txn) (hl : v3.Doubts.length ≤ maxLen) (k : List Doubt → Option (Store × Int)) :
 (withK k fun k49 => Option.bind (uk v3.Doubts (fun y50 => v0d y50 t)) fun v51 => (if (v51 == (-1)) = true then (k49 v3.Doubts) else (withK (fun (b53_1 : Int) (b53_2 : List Doubt) => (if 0 ≤ b53_1 then (if b53_1 ≤ ((b53_2.length : Nat) : Int) then (k49 (b53_2.take b53_1.toNat)) else none) else none)) fun k54 => (uw t k54 (v3.Doubts.length + 1) v51 (IntKind.i64.wrap (v51 + 1)) v3.Doubts)))) = k (v3.Doubts.filter fun x => !isT t x.Txn) := by
 simp only [withK]
 rw [show (fun y27 => v0d y27 t) = (fun x : Doubt => some (isT t x.Txn)) from rfl]
 rcases u3b v3.Doubts (fun x => isT t x.Txn) with ⟨hn, e⟩ | ⟨j, x, h1, h2, h3, e⟩
 ·rw [e]
  have := x1i hn
  simp [this]
 ·rw [e]
  have hj := zj h1
  have hne : ((j : Int) == -1) = false := by simp
  simp only [Option.bind_some, hne, Bool.false_eq_true, if_false]
  rw [z0c (by omega)]
  obtain ⟨i', l', h4, h5, h6⟩ := u3c (p := fun x : Doubt => isT t x.Txn) (k := (fun (b30_1 : Int) (b30_2 : List Doubt) => (if 0 ≤ b30_1 then (if b30_1 ≤ ((b30_2.length : Nat) : Int) then (k (b30_2.take b30_1.toNat)) else none) else none))) (L := uw t (fun (b30_1 : Int) (b30_2 : List Doubt) => (if 0 ≤ b30_1 then (if b30_1 ≤ ((b30_2.length : Nat) : Int) then (k (b30_2.take b30_1.toNat)) else none) else none))) (orig := v3.Doubts) hl
   (fun n i j l hj => by rw [uw, if_neg (by simpa using hj)])
   (fun n i j l x hx hp => by rw [uw, if_pos (by simpa using zj hx), if_pos (by omega), Int.toNat_natCast, hx]; simp only [Option.bind_some, show v0d x t = some (isT t x.Txn) from rfl, withK, hp, Bool.not_true, Bool.false_eq_true, if_false])
   (fun n i j l x hx hp hi => by rw [uw, if_pos (by simpa using zj hx), if_pos (by omega), Int.toNat_natCast, hx]; simp only [Option.bind_some, show v0d x t = some (isT t x.Txn) from rfl, withK, hp, Bool.not_false, if_true]; rw [if_pos (by omega), Int.toNat_natCast, va hi])
   (v3.Doubts.length + 1) j (j + 1) v3.Doubts rfl (by omega) (by omega) (by omega) rfl (w2i h1 h2 h3)
  refine h4.trans ?_
  rw [if_pos (by omega), if_pos (by omega), Int.toNat_natCast, h6]
theorem x2a (s : Store) (h : May s) : s.Over.length ≤ 4194304 := by
 have hn : s.Over.Nodup := by
  rw [List.nodup_iff_pairwise_ne, List.pairwise_iff_getElem]
  intro i j hi hj hij e
  exact (h.2.2.1 j hj _ (List.getElem?_eq_getElem hj)).2 i _ hij (List.getElem?_eq_getElem hi) e
 have := w2h s.Over ((List.range 4194304).map fun n => Txn.mk ((n / 1048576 : Nat) : Int) ((n % 1048576 + 1 : Nat) : Int)) hn (fun x hx => by
  obtain ⟨i, hi, rfl⟩ := List.mem_iff_getElem.1 hx
  have hr := (h.2.2.1 i hi _ (List.getElem?_eq_getElem hi)).1
  generalize s.Over[i] = u at hr
  obtain ⟨a, b⟩ := u
  obtain ⟨r1, r2, r3, r4⟩ := hr
  simp only at r1 r2 r3 r4
  rw [List.mem_map]
  refine ⟨a.toNat * 1048576 + (b.toNat - 1), by rw [List.mem_range]; omega, ?_⟩
  simp only [Txn.mk.injEq]
  omega)
 simpa using this
noncomputable def endS (s : Store) (t : Txn) (y : Bool) : Store := ⟨x0i t y s.Locks s.Items, s.Locks.filter fun x => !isT t x.Txn, s.Doubts.filter fun x => !isT t x.Txn, if t ∈ s.Over then s.Over else s.Over ++ [t]⟩
theorem x1o {s : Store} (hm : May s) : ∀ x ∈ s.Locks, 0 ≤ x.Key ∧ x.Key < 8 := by
 intro x hx
 obtain ⟨i, hi, rfl⟩ := List.mem_iff_getElem.1 hx
 have := hm.2.2.2.1 i hi _ (List.getElem?_eq_getElem hi)
 exact ⟨this.2.1, this.2.2.1⟩
theorem End_eq (s : Store) (t : Txn) (y : Bool) (h : vp s) : w0x s t y = some (if May s then (if txnR t then (endS s t y, 0) else (⟨[], [], [], []⟩, 2)) else (⟨[], [], [], []⟩, 9)) := by
 have h1 : s.Items.length ≤ maxLen := h.1.2
 simp only [w0x, u4p s t 0 h1, y5g s h, Option.bind_some]
 by_cases hm : May s
 case neg => simp [hm]
 by_cases ht : txnR t
 case neg => simp [hm, ht]
 have e : txnR t ∧ (0 : Int) ≤ 0 ∧ (0 : Int) < 8 := ⟨ht, by omega, by omega⟩
 rw [if_pos hm, if_pos e, if_pos hm, if_pos ht]
 simp only [bne_self_eq_false, Bool.false_eq_true, if_false, z0j]
 rw [withK, w5k s t _ (x1o hm) _ _ _ _ (by omega) (by omega) hm.1.k]
 refine (u4y s t h.2.1.2 _).trans ?_
 refine (u4j s t h.2.2.1.2 _).trans ?_
 have f16 : fits 16 (s.Over.length + 1) := by have := x2a s hm; unfold fits maxLen; omega
 simp only [Option.bind_some, withK, endS, List.drop_zero]
 by_cases ho : t ∈ s.Over
 ·simp [ho]
 ·simp [ho, f16]
theorem x3c (t : Txn) (y : Bool) (v : Store) (hf : fits 48 v.Locks.length) (hl : ∀ x ∈ v.Locks, 0 ≤ x.Key ∧ x.Key < 8) (k10 : List Item → List Lock → Option (Store × Int)) : ∀ n i a acc, v.Locks.length < n + i → i ≤ v.Locks.length → acc.length ≤ i → KOk a →
 wq t y v k10 n i a acc = k10 (x0i t y (v.Locks.drop i) a) (acc ++ (v.Locks.drop i).filter fun x => !isT t x.Txn) := by
 intro n
 induction n with
 | zero => intro i a acc h1 h2; omega
 | succ n ih =>
  intro i a acc h1 h2 h3 h4
  rw [wq]
  by_cases hi : i < v.Locks.length
  ·have hki := hl _ (List.getElem_mem hi)
   rw [if_pos (by simpa using hi), va hi]
   simp only [withK]
   rw [List.drop_eq_getElem_cons hi, List.filter_cons, x0i, List.foldl_cons, ← x0i]
   rw [show ((v.Locks[i].Txn.Site == t.Site) && (v.Locks[i].Txn.N == t.N)) = isT t v.Locks[i].Txn from rfl]
   by_cases ht : v.Locks[i].Txn = t
   case neg =>
    have e : isT t v.Locks[i].Txn = false := by rw [z5j]; simpa using ht
    rw [e, if_pos (show (!false) = true from rfl), if_pos (w2t hf (by omega)), ih (i + 1) _ _ (by omega) (by omega) (by simp; omega) h4]
    simp [ht]
   have e : isT t v.Locks[i].Txn = true := by rw [z5j]; simpa using ht
   rw [e]
   simp only [ht, Bool.not_true, Bool.false_eq_true, if_false, decide_true, Bool.true_and]
   cases hw : v.Locks[i].Write with
   | false =>
    simp only [Bool.false_eq_true, if_false, Bool.false_and]
    rw [ih (i + 1) _ _ (by omega) (by omega) (by omega) h4]
   | true =>
    cases y with
    | false =>
     simp only [if_true, Bool.false_eq_true, if_false, Bool.and_false]
     rw [ih (i + 1) _ _ (by omega) (by omega) (by omega) h4]
    | true =>
     simp only [if_true, y3v h4, Option.bind_some, Bool.and_true]
     rw [ih (i + 1) _ _ (by omega) (by omega) (by omega) (h4.put hki)]
  ·rw [if_neg (by simpa using hi), List.drop_eq_nil_of_le (by omega)]
   simp [x0i]
theorem u2l (t : Txn) (v : Store) (hf : fits 24 v.Doubts.length) (k : List Doubt → Option (Store × Int)) : ∀ n i acc, v.Doubts.length < n + i → i ≤ v.Doubts.length → acc.length ≤ i →
 xq t v k n i acc = k (acc ++ (v.Doubts.drop i).filter fun x => !isT t x.Txn) := by
 intro n
 induction n with
 | zero => intro i acc h1 h2; omega
 | succ n ih =>
  intro i acc h1 h2 h3
  rw [xq]
  by_cases hi : i < v.Doubts.length
  ·rw [if_pos (by simpa using hi), va hi]
   simp only [withK]
   rw [List.drop_eq_getElem_cons hi, List.filter_cons]
   rw [show ((v.Doubts[i].Txn.Site == t.Site) && (v.Doubts[i].Txn.N == t.N)) = isT t v.Doubts[i].Txn from rfl]
   cases he : isT t v.Doubts[i].Txn with
   | false =>
    rw [if_pos (show (!false) = true from rfl), if_pos (w2t hf (by omega)), ih (i + 1) _ (by omega) (by omega) (by simp; omega)]
    simp
   | true =>
    rw [if_neg (by simp), ih (i + 1) _ (by omega) (by omega) (by omega)]
    simp
  ·rw [if_neg (by simpa using hi), List.drop_eq_nil_of_le (by omega)]
   simp
theorem u5m (s : Store) (t : Txn) (y : Bool) (h : vp s) : x0c s t y = some (if May s then (if txnR t then (endS s t y, 0) else (⟨[], [], [], []⟩, 2)) else (⟨[], [], [], []⟩, 9)) := by
 have h1 : s.Items.length ≤ maxLen := h.1.2
 have h2 : s.Doubts.length ≤ maxLen := h.2.2.1.2
 simp only [x0c, u0w s t 0 h1 h2, y3s s h, y0z, Option.bind_some, withK]
 by_cases hm : May s
 case neg => simp [hm]
 by_cases ht : txnR t
 case neg => simp [hm, ht]
 have e : txnR t ∧ (0 : Int) ≤ 0 ∧ (0 : Int) < 8 := ⟨ht, by omega, by omega⟩
 rw [if_pos hm, if_pos e, if_pos hm, if_pos ht]
 have f16 : fits 16 (s.Over.length + 1) := by have := x2a s hm; unfold fits maxLen; omega
 simp only [bne_self_eq_false, Bool.false_eq_true, if_false, f16, if_true]
 rw [x3c t y s h.2.1 (x1o hm) _ _ _ _ _ (by omega) (by omega) (by simp) hm.1.k]
 rw [x3c t y s h.2.1 (x1o hm) _ _ _ _ _ (by omega) (by omega) (by simp) hm.1.k]
 rw [u2l t s h.2.2.1 _ _ _ _ (by omega) (by omega) (by simp)]
 rw [u2l t s h.2.2.1 _ _ _ _ (by omega) (by omega) (by simp)]
 simp only [endS, List.drop_zero]
 by_cases ho : t ∈ s.Over
 ·simp [ho]
 ·simp [ho]

end Go.V.Dec
