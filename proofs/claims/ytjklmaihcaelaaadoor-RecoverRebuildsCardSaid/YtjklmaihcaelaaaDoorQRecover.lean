/- Plain laws (Recover): no program, no memory; conditions as stated. -/
import Derived.Test.YtjklmaihcaelaaaDoorG4
import Derived.Test.YtjklmaihcaelaaaDoorQWireRec
import Derived.Test.YtjklmaihcaelaaaDoorQStoreWriteX
import Derived.Test.YtjklmaihcaelaaaDoorQStoreEnd
set_option linter.unusedVariables false
set_option linter.unusedSimpArgs false
namespace Go.V.Dec
open Go Go.Proofs Classical
set_option maxRecDepth 100000
set_option maxHeartbeats 4000000
variable (G : Nat → Option (List D))
/-- Jobs by rising numbers, few. -/
def y0h (l : List Job) : Prop := l.Pairwise (fun x y => x.N < y.N) ∧ (∀ j ∈ l, 1 ≤ j.N ∧ j.N ≤ 1048576) ∧ l.length ≤ 6
theorem u2b {l : List Job} (h : y0h l) {i j : Nat} {x y : Job} (hij : i < j) (hx : l[i]? = some x) (hy : l[j]? = some y) : x.N < y.N := by
 obtain ⟨hi, rfl⟩ := List.getElem?_eq_some_iff.1 hx
 obtain ⟨hj, rfl⟩ := List.getElem?_eq_some_iff.1 hy
 exact List.pairwise_iff_getElem.1 h.1 i j hi hj hij
theorem v4a {l : List Job} (h : y0h l) {i : Nat} {x : Job} (hx : l[i]? = some x) : 1 ≤ x.N ∧ x.N ≤ 1048576 := h.2.1 x (List.mem_of_getElem? hx)
theorem y5m {l : List Job} (hs : y0h l) (k : Int) (hk0 : 1 ≤ k ∧ k ≤ 1048576) (k3 : Int → Option (Int × Bool)) : ∀ (n i j : Nat), j - i < n → i ≤ j → j ≤ l.length →
 (∀ m x, m < i → l[m]? = some x → x.N < k) → (∀ m x, j ≤ m → l[m]? = some x → k ≤ x.N) →
 ∃ p : Nat, p ≤ l.length ∧ (∀ m x, m < p → l[m]? = some x → x.N < k) ∧ (∀ m x, p ≤ m → l[m]? = some x → k ≤ x.N) ∧
  ze l k (fun y1 y2 => zf y1 y2) k3 n (i : Int) (j : Int) = k3 (p : Int) := by
 have h8 := hs.2.2
 intro n
 induction n with
 | zero => intro i j h; omega
 | succ n ih =>
  intro i j h1 h2 h3 hlo hhi
  rw [ze]
  by_cases hij : i < j
  ·have e : IntKind.i64.wrap ((IntKind.u64.wrap (IntKind.i64.wrap ((i : Int) + (j : Int)))).fdiv (2 ^ 1)) = (((i + j) / 2 : Nat) : Int) := by
    rw [vw (n := (i : Int) + (j : Int)) (by omega) (by omega), u3u (by omega) (by omega), show ((2 : Int) ^ 1) = 2 from rfl, Int.fdiv_eq_ediv_of_nonneg _ (by omega), vw (by omega) (by omega)]
    omega
   have hm : (i + j) / 2 < l.length := by omega
   have hr := v4a hs (List.getElem?_eq_getElem hm)
   rw [if_pos (by simp; omega), e, if_pos (by omega), Int.toNat_natCast, va hm]
   simp only [zf, Option.bind_some, withK]
   rw [vw (n := l[(i + j) / 2].N - k) (by omega) (by omega)]
   by_cases hc : l[(i + j) / 2].N < k
   ·rw [if_pos (by simp; omega), vw (n := (((i + j) / 2 : Nat) : Int) + 1) (by omega) (by omega), show (((i + j) / 2 : Nat) : Int) + 1 = (((i + j) / 2 + 1 : Nat) : Int) from by omega]
    refine ih ((i + j) / 2 + 1) j (by omega) (by omega) h3 (fun m x hm1 hx => ?_) hhi
    rcases Nat.lt_or_ge m ((i + j) / 2) with hlt | hge
    ·have := u2b hs hlt hx (List.getElem?_eq_getElem hm); omega
    ·obtain rfl : m = (i + j) / 2 := by omega
     rw [List.getElem?_eq_getElem hm] at hx; cases hx; exact hc
   ·rw [if_neg (by simp; omega)]
    refine ih i ((i + j) / 2) (by omega) (by omega) (by omega) hlo (fun m x hm1 hx => ?_)
    rcases Nat.lt_or_ge ((i + j) / 2) m with hlt | hge2
    ·have := u2b hs hlt (List.getElem?_eq_getElem hm) hx; omega
    ·obtain rfl : m = (i + j) / 2 := by omega
     rw [List.getElem?_eq_getElem hm] at hx; cases hx; omega
  ·rw [if_neg (by simp; omega)]
   obtain rfl : i = j := by omega
   exact ⟨i, h3, hlo, hhi, rfl⟩
/-- Where a job of a number is, or would be. -/
theorem bsj_eq {l : List Job} (hs : y0h l) (k : Int) (hk : 1 ≤ k ∧ k ≤ 1048576) : ∃ p : Nat, p ≤ l.length ∧ (∀ m x, m < p → l[m]? = some x → x.N < k) ∧ (∀ m x, p ≤ m → l[m]? = some x → k ≤ x.N) ∧
 wm l k (fun y1 y2 => zf y1 y2) = some ((p : Int), decide (∃ x ∈ l, x.N = k)) := by
 simp only [wm, withK]
 obtain ⟨p, h1, h2, h3, e⟩ := y5m hs k hk (fun (b2_1 : Int) => if decide (b2_1 < ((l.length : Nat) : Int)) = true then (if 0 ≤ b2_1 then (l[b2_1.toNat]?).bind fun x16 => (zf x16 k).bind fun v18 => some (b2_1, v18 == 0) else none) else some (b2_1, false)) (l.length + 1) 0 l.length (by omega) (by omega) (by omega) (fun m x h => by omega) (fun m x h hx => by have := zj hx; omega)
 refine ⟨p, h1, h2, h3, ?_⟩
 rw [show ((0 : Nat) : Int) = 0 from rfl] at e
 rw [e]
 by_cases hp : p < l.length
 ·have hr := v4a hs (List.getElem?_eq_getElem hp)
  rw [if_pos (by simp; omega), if_pos (by omega), Int.toNat_natCast, va hp]
  simp only [zf, Option.bind_some]
  rw [vw (n := l[p].N - k) (by omega) (by omega)]
  congr 2
  rw [Bool.eq_iff_iff]
  simp only [beq_iff_eq, decide_eq_true_eq]
  constructor
  ·intro h; exact ⟨_, List.getElem_mem hp, by omega⟩
  ·rintro ⟨x, hx, e⟩
   obtain ⟨m, hm, rfl⟩ := List.getElem_of_mem hx
   rcases Nat.lt_trichotomy m p with h | h | h
   ·have := h2 m _ h (List.getElem?_eq_getElem hm); omega
   ·subst h; omega
   ·have := u2b hs h (List.getElem?_eq_getElem hp) (List.getElem?_eq_getElem hm)
    have := h3 p _ (Nat.le_refl _) (List.getElem?_eq_getElem hp); omega
 ·rw [if_neg (by simp; omega)]
  congr 2
  symm
  rw [decide_eq_false_iff_not]
  rintro ⟨x, hx, e⟩
  obtain ⟨m, hm, rfl⟩ := List.getElem_of_mem hx
  have := h2 m _ (by omega) (List.getElem?_eq_getElem hm); omega
theorem v5j (l : List Job) (q : Job → Bool) : (¬ (∃ x ∈ l, q x = true) ∧ wo l (fun x => some (q x)) = some (-1)) ∨ ∃ (j : Nat) (x : Job), l[j]? = some x ∧ q x = true ∧ (∀ m y, m < j → l[m]? = some y → ¬ q y = true) ∧ wo l (fun x => some (q x)) = some (j : Int) := by
 have hk : ∀ n i, ¬ i < l.length → yd l (fun x => some (q x)) (some (-1)) (n + 1) i = some (-1) := fun n i hi => by rw [yd, if_neg (by simpa using hi)]
 have hg : ∀ n i, i < l.length → ¬ (∃ x, l[i]? = some x ∧ q x = true) → yd l (fun x => some (q x)) (some (-1)) (n + 1) i = yd l (fun x => some (q x)) (some (-1)) n (i + 1) := fun n i hi hp => by
  rw [yd, if_pos (by simpa using hi), va hi]
  simp only [Option.bind_some]
  rw [if_neg]; intro e; exact hp ⟨_, List.getElem?_eq_getElem hi, e⟩
 have hb : ∀ n i, i < l.length → (∃ x, l[i]? = some x ∧ q x = true) → yd l (fun x => some (q x)) (some (-1)) (n + 1) i = some (i : Int) := fun n i hi hp => by
  obtain ⟨x, hx, hp⟩ := hp
  rw [yd, if_pos (by simpa using hi), va hi]
  rw [List.getElem?_eq_getElem hi] at hx; cases hx
  simp only [Option.bind_some]
  rw [if_pos hp]
 simp only [wo, withK]
 rcases z0g (f := fun i => some (i : Int)) hk hg hb with ⟨h, e⟩ | ⟨j, h1, ⟨x, h2, h2'⟩, h3, e⟩
 ·refine .inl ⟨?_, e⟩
  rintro ⟨x, hm, hq⟩
  obtain ⟨j, hj, rfl⟩ := List.getElem_of_mem hm
  exact h ⟨j, hj, _, by simp [hj], hq⟩
 ·exact .inr ⟨j, x, h2, h2', fun m y hm hy hq => h3 m hm ⟨y, hy, hq⟩, e⟩
/-- Where the reference finds a job. -/
theorem u4a (d : Desk) (k : Int) : (¬ (∃ x ∈ d.Jobs, x.N = k) ∧ xw d k = some (-1)) ∨ ∃ (j : Nat) (x : Job), d.Jobs[j]? = some x ∧ x.N = k ∧ xw d k = some (j : Int) := by
 have hk : ∀ n i, ¬ i < d.Jobs.length → xg d k (some (-1)) (n + 1) i = some (-1) := fun n i hi => by rw [xg, if_neg (by simpa using hi)]
 have hg : ∀ n i, i < d.Jobs.length → ¬ (∃ x, d.Jobs[i]? = some x ∧ x.N = k) → xg d k (some (-1)) (n + 1) i = xg d k (some (-1)) n (i + 1) := fun n i hi hp => by
  rw [xg, if_pos (by simpa using hi), va hi, if_neg]
  intro h; exact hp ⟨d.Jobs[i], by simp [hi], by simpa using h⟩
 have hb : ∀ n i, i < d.Jobs.length → (∃ x, d.Jobs[i]? = some x ∧ x.N = k) → xg d k (some (-1)) (n + 1) i = some (i : Int) := fun n i hi hp => by
  obtain ⟨y, g1, g2⟩ := hp
  rw [xg, if_pos (by simpa using hi), g1]
  simp [g2]
 simp only [xw, withK]
 rcases z0g (f := fun i => some (i : Int)) hk hg hb with ⟨h, e⟩ | ⟨j, h1, ⟨x, h2, h2'⟩, h3, e⟩
 ·refine .inl ⟨?_, e⟩
  rintro ⟨x, hm, hq⟩
  obtain ⟨j, hj, rfl⟩ := List.getElem_of_mem hm
  exact h ⟨j, hj, _, by simp [hj], hq⟩
 ·exact .inr ⟨j, x, h2, h2', e⟩
/-- A job at its place by its number. -/
def y0m (j : Job) (l : List Job) : List Job := l.filter (fun x => decide (x.N < j.N)) ++ j :: l.filter (fun x => !decide (x.N < j.N))
theorem z4w {l : List Job} (j : Job) (p : Nat) (h1 : ∀ m x, m < p → l[m]? = some x → x.N < j.N) (h2 : ∀ m x, p ≤ m → l[m]? = some x → j.N ≤ x.N) : l.take p ++ j :: l.drop p = y0m j l := by
 have e1 : (l.take p).filter (fun x => decide (x.N < j.N)) = l.take p := by
  rw [List.filter_eq_self]; intro x hx
  obtain ⟨m, hm, rfl⟩ := List.getElem_of_mem hx
  simp only [List.length_take] at hm
  have := h1 m _ (by omega) (List.getElem?_eq_getElem (show m < l.length by omega))
  simpa using this
 have e2 : (l.drop p).filter (fun x => decide (x.N < j.N)) = [] := by
  rw [List.filter_eq_nil_iff]; intro x hx
  obtain ⟨m, hm, rfl⟩ := List.getElem_of_mem hx
  simp only [List.length_drop] at hm
  have := h2 (p + m) _ (by omega) (List.getElem?_eq_getElem (show p + m < l.length by omega))
  simpa using this
 have e3 : (l.take p).filter (fun x => !decide (x.N < j.N)) = [] := by
  rw [List.filter_eq_nil_iff]; intro x hx
  have := List.filter_eq_self.1 e1 x hx
  simp only [decide_eq_true_eq] at this; simpa using this
 have e4 : (l.drop p).filter (fun x => !decide (x.N < j.N)) = l.drop p := by
  rw [List.filter_eq_self]; intro x hx
  have := List.filter_eq_nil_iff.1 e2 x hx
  simp only [decide_eq_true_eq] at this; simpa using this
 unfold y0m
 conv => rhs; rw [← List.take_append_drop p l]
 rw [List.filter_append, List.filter_append, e1, e2, e3, e4]; simp
theorem flen {α : Type} (p : α → Bool) : ∀ l : List α, (l.filter p).length + (l.filter (fun x => !p x)).length = l.length
 | [] => rfl
 | x :: l => by
  have := flen p l
  cases h : p x <;> simp [h] <;> omega
theorem y0h.put {l : List Job} (h : y0h l) (j : Job) (h6 : l.length < 6) (hr : 1 ≤ j.N ∧ j.N ≤ 1048576) (hn : ¬ ∃ x ∈ l, x.N = j.N) : y0h (y0m j l) := by
 refine ⟨?_, ?_, ?_⟩
 ·unfold y0m
  rw [List.pairwise_append, List.pairwise_cons]
  refine ⟨h.1.filter _, ⟨fun x hx => ?_, h.1.filter _⟩, fun x hx y hy => ?_⟩
  ·obtain ⟨h1, h2⟩ := List.mem_filter.1 hx
   have h3 : ¬ x.N = j.N := fun e => hn ⟨x, h1, e⟩
   simp at h2; omega
  ·obtain ⟨h1, h2⟩ := List.mem_filter.1 hx
   simp at h2
   rcases List.mem_cons.1 hy with rfl | hy
   ·exact h2
   ·obtain ⟨_, h3⟩ := List.mem_filter.1 hy
    simp at h3; omega
 ·intro x hx
  unfold y0m at hx
  rcases List.mem_append.1 hx with hx | hx
  ·exact h.2.1 x (List.mem_filter.1 hx).1
  ·rcases List.mem_cons.1 hx with rfl | hx
   ·exact hr
   ·exact h.2.1 x (List.mem_filter.1 hx).1
 ·have := flen (fun x : Job => decide (x.N < j.N)) l
  simp only [y0m, List.length_append, List.length_cons]; omega
theorem y0h.filter {l : List Job} (h : y0h l) (p : Job → Bool) : y0h (l.filter p) :=
 ⟨h.1.filter _, fun x hx => h.2.1 x (List.mem_filter.1 hx).1, Nat.le_trans (List.length_filter_le _ _) h.2.2⟩
theorem y4k {l : List Job} (h : y0h l) {v : Nat} {x : Job} (hx : l[v]? = some x) : l.take v ++ l.drop (v + 1) = l.filter (fun y => !(x.N == y.N)) := by
 conv => rhs; rw [← List.take_append_drop v l]
 have hv := zj hx
 rw [List.drop_eq_getElem_cons hv, List.filter_append, List.filter_cons]
 rw [List.getElem?_eq_getElem hv] at hx; cases hx
 rw [if_neg (by simp)]
 congr 1
 ·symm; rw [List.filter_eq_self]; intro y hy
  obtain ⟨m, hm, rfl⟩ := List.getElem_of_mem hy
  simp only [List.length_take] at hm
  have := u2b h (show m < v by omega) (List.getElem?_eq_getElem (by omega)) (List.getElem?_eq_getElem hv)
  simp only [List.getElem_take]
  simp; omega
 ·symm; rw [List.filter_eq_self]; intro y hy
  obtain ⟨m, hm, rfl⟩ := List.getElem_of_mem hy
  simp only [List.length_drop] at hm
  have := u2b h (show v < v + 1 + m by omega) (List.getElem?_eq_getElem hv) (List.getElem?_eq_getElem (by omega))
  simp only [List.getElem_drop]
  simp; omega

theorem yu {n b : Nat} (h : n ≤ 5000000) (hb : b ≤ 100) : fits b n := by
 unfold fits maxLen
 exact ⟨Nat.le_trans (Nat.mul_le_mul h hb) (by decide), by omega⟩
theorem items8 {s : Store} (h : May s) : s.Items.length ≤ 8 := y3j h.1
/-- What a write leaves is small. -/
theorem z4e {s s' : Store} {t : Txn} {k v a : Int} (hf : vp s) (h : ui s t k v a = some (s', 0)) : vp s' := by
 have h1 : s.Items.length ≤ maxLen := hf.1.2
 have h2 : s.Doubts.length ≤ maxLen := hf.2.2.1.2
 by_cases hm : May s
 case neg => simp [ui, u0w s t k h1 h2, hm, withK] at h
 have b1 := items8 hm
 have b2 := w1t s hm
 have b3 := x2a s hm
 have b4 := hm.2.2.2.2
 have key : ∀ (I : List Item) (L : List Lock) (D : List Doubt) (O : List Txn), I.length ≤ 1000 → L.length ≤ 1000 → D.length ≤ 1000 → O.length ≤ 4194304 → vp ⟨I, L, D, O⟩ := fun I L D O h1 h2 h3 h4 => ⟨yu (n := I.length) (by omega) (by omega), yu (n := L.length) (by omega) (by omega), yu (n := D.length) (by omega) (by omega), yu (n := O.length) (by omega) (by omega)⟩
 simp only [ui, u0w s t k h1 h2, y3s s hf, In_eq, y0z, withK, Option.bind_some, if_pos hm] at h
 by_cases ht : txnR t ∧ 0 ≤ k ∧ k < 8
 case neg => rw [if_neg ht] at h; simp at h
 by_cases b5 : (0 ≤ v ∧ v ≤ 1073741824)
 case neg => simp [ht, b5] at h
 by_cases c3 : (0 ≤ a ∧ a ≤ 1048576)
 case neg => simp [ht, b5, c3] at h
 obtain ⟨m, n, e1, e2⟩ := v4o s t k hm.2.2.2.2
 obtain ⟨w, e3, e4⟩ := v3a s t k
 obtain ⟨x, e6, e7⟩ := w3b s hm.1 k
 obtain ⟨d, e8, e9⟩ := x2m s t
 have f1 : fits 24 (s.Doubts.length + 1) := yu (by omega) (by omega)
 have f2 : fits 48 (s.Locks.length + 1) := yu (by omega) (by omega)
 simp only [if_pos ht, decide_eq_true b5, decide_eq_true c3, e1, e3, e6, e8, if_pos f1, if_pos f2, Option.bind_some] at h
 have fin : ∀ (L : List Lock) (D : List Doubt), L.length ≤ 1000 → D.length ≤ 1000 → Store.mk s.Items L D s.Over = s' → vp s' := fun L D h1 h2 h3 => by subst h3; exact key _ _ _ _ (by omega) h1 h2 (by omega)
 have hd1 : (s.Doubts ++ [Doubt.mk t 0]).length ≤ 1000 := by simp; omega
 generalize decide (d < 0) = q5 at h
 generalize decide (t ∈ s.Over) = q1 at h
 generalize decide (m > 0) = q2 at h
 generalize decide ((s.Locks.length : Int) ≥ 24) = q3 at h
 generalize decide (x.Version ≥ 1048576) = q4 at h
 rcases e4 with ⟨rfl, e4⟩ | ⟨j, y, rfl, e4, _, _⟩
 ·cases q1 <;> cases q2 <;> cases q3 <;> cases q4 <;> cases q5 <;> simp at h <;> first | exact fin _ _ (by simp; omega) hd1 h | exact fin _ _ (by simp; omega) (by omega) h
 ·have g : ¬ ((j : Int) < 0) := by omega
  have g' : (j : Int) ≥ 0 := by omega
  simp only [Int.toNat_natCast, e4, Option.bind_some, decide_eq_false g, decide_eq_true g', if_pos g'] at h
  generalize decide (y.Ask > a) = q6 at h
  cases q1 <;> cases q2 <;> cases q6 <;> cases q4 <;> cases q5 <;> simp at h <;> first | exact fin _ _ (by simp; omega) hd1 h | exact fin _ _ (by simp; omega) (by omega) h
theorem v4y {t : Txn} {y : Bool} {s : Store} (hm : May s) : vp (endS s t y) := by
 have b1 : (x0i t y s.Locks s.Items).length ≤ 8 := by
  have hk : KOk s.Items := KOk.of (by
   rw [List.pairwise_iff_getElem]
   intro i j hi hj hij
   exact v0m hm.1 j i _ _ hij (List.getElem?_eq_getElem hi) (List.getElem?_eq_getElem hj)) (fun x hx => by
   obtain ⟨i, hi, rfl⟩ := List.getElem_of_mem hx
   have := (hm.1 i hi _ (List.getElem?_eq_getElem hi)).1; exact ⟨this.1, this.2.1⟩)
  exact z1e (w3c hk (x1o hm))
 have b2 := w1t s hm
 have b3 := x2a s hm
 have b4 := hm.2.2.2.2
 refine ⟨yu (by simp only [endS]; omega) (by omega), yu ?_ (by omega), yu ?_ (by omega), yu ?_ (by omega)⟩
 ·exact Nat.le_trans (List.length_filter_le _ _) (by omega)
 ·exact Nat.le_trans (List.length_filter_le _ _) (by omega)
 ·show (if t ∈ s.Over then s.Over else s.Over ++ [t]).length ≤ _; split
  ·omega
  ·rw [List.length_append]; simp; omega

theorem y3y {α R : Type} {L : Nat → Nat → List α → Option R} {f : α → α} {k : List α → Option R} {len : Nat}
 (hk : ∀ n i a, a.length = len → ¬ i < len → L (n + 1) i a = k a)
 (hg : ∀ n i a x, a.length = len → a[i]? = some x → L (n + 1) i a = L n (i + 1) (a.set i (f x))) :
 ∀ n i a, a.length = len → len < n + i → i ≤ len → L n i a = k (a.take i ++ (a.drop i).map f) := by
 intro n
 induction n with
 | zero => intro i a h1 h2 h3; omega
 | succ n ih =>
  intro i a h1 h2 h3
  by_cases hi : i < len
  ·rw [hg n i a _ h1 (List.getElem?_eq_getElem (by omega)), ih _ _ (by simpa using h1) (by omega) (by omega)]
   congr 1
   have hl : i < a.length := by omega
   rw [u1q hl, z2m (by omega), ← List.getElem_cons_drop hl, List.map_cons, List.append_assoc]
   simp
  ·rw [hk n i a h1 hi]
   congr 1
   rw [List.drop_of_length_le (by omega), List.take_of_length_le (by omega)]; simp
noncomputable def dmg (r : Record) (x : Note) : Note := if isT r.Txn x.Txn = true ∧ x.Yes ≠ r.Yes then ⟨x.Txn, x.Yes, true⟩ else x
theorem v2u {r : Record} {x : Note} {a : List Note} {i : Nat} (hx : a[i]? = some x) (h : ¬ (isT r.Txn x.Txn = true ∧ x.Yes ≠ r.Yes)) : a.set i (dmg r x) = a := by
 obtain ⟨hi, rfl⟩ := List.getElem?_eq_some_iff.1 hx
 rw [dmg, if_neg h, List.set_getElem_self]
theorem dmgP (r : Record) (v : RecoverMemory) (k : List Note → Option RecoverMemory) : yi r v k (v.notes.length + 1) 0 v.notes = k (v.notes.map (dmg r)) := by
 rw [y3y (L := yi r v k) (f := dmg r) (k := k) (len := v.notes.length) (fun n i a h hi => by rw [yi, if_neg (by simpa using hi)]) (fun n i a x h hx => ?_) _ _ _ rfl (by omega) (by omega)]
 ·simp
 ·have hi := zj hx
  rw [yi, if_pos (by simp; omega), hx]
  simp only [Option.bind_some, withK]
  have e : ((x.Txn.Site == r.Txn.Site) && (x.Txn.N == r.Txn.N)) = isT r.Txn x.Txn := rfl
  rw [e]
  by_cases h1 : isT r.Txn x.Txn = true
  ·rw [if_pos h1]
   by_cases h2 : x.Yes = r.Yes
   ·rw [if_neg (by simp [h2]), v2u hx (fun q => q.2 h2)]
   ·rw [if_pos (by simp [h2]), dmg, if_pos ⟨h1, h2⟩]
  ·rw [if_neg h1, v2u hx (fun q => h1 q.1)]
theorem dmgR (r : Record) (h2 : r.Kind = 2) (k : List Note → Option (Store × Desk × List Note × Int)) (l : List Note) (hl : l.length ≤ maxLen) : xd r k (l.length + 1) 0 l = k (l.map (dmg r)) := by
 have := y3y (L := fun n i a => xd r k n (i : Int) a) (f := dmg r) (k := k) (len := l.length) (fun n i a h hi => by
  simp only [xd, withK]; rw [if_neg (by simp; omega)]) (fun n i a x h hx => by
  have hi := zj hx
  simp only [xd, withK]
  rw [if_pos (by simp; omega), if_pos (by simp [h2]), if_pos (by omega), Int.toNat_natCast, hx, z0c (by omega)]
  simp only [Option.bind_some]
  have e : ((x.Txn.Site == r.Txn.Site) && (x.Txn.N == r.Txn.N)) = isT r.Txn x.Txn := rfl
  rw [e]
  by_cases h1 : isT r.Txn x.Txn = true
  ·rw [if_pos h1]
   by_cases h2 : x.Yes = r.Yes
   ·rw [if_neg (by simp [h2]), v2u hx (fun q => q.2 h2)]
   ·rw [if_pos (by simp [h2]), dmg, if_pos ⟨h1, h2⟩]
  ·rw [if_neg h1, v2u hx (fun q => h1 q.1)]) (l.length + 1) 0 l rfl (by omega) (by omega)
 simpa using this
theorem dmgR' (r : Record) (h2 : r.Kind ≠ 2) (k : List Note → Option (Store × Desk × List Note × Int)) (l : List Note) : xd r k (l.length + 1) 0 l = k l := by
 simp only [xd, withK]
 by_cases h : (0 : Int) < l.length
 ·rw [if_pos (by simpa using h), if_neg (by simpa using h2)]
 ·rw [if_neg (by simpa using h)]
/-- The reference's loop that puts a job at its place. -/
def insL (j : Job) : List Job → Bool → List Job → Bool × List Job
 | [], b, acc => (b, acc)
 | x :: r, b, acc => if x.N > j.N then (if b = false then insL j r true (acc ++ [j] ++ [x]) else insL j r true (acc ++ [x])) else insL j r b (acc ++ [x])
theorem w4b (j : Job) : ∀ (l acc : List Job), (∀ x ∈ l, j.N < x.N) → insL j l true acc = (true, acc ++ l)
 | [], acc, _ => by simp [insL]
 | x :: l, acc, h => by
  have h1 := h x (by simp)
  rw [insL, if_pos h1, if_neg (by simp), w4b j l _ (fun y hy => h y (by simp [hy]))]; simp
theorem x3j (j : Job) : ∀ (l acc : List Job), l.Pairwise (fun x y => x.N < y.N) → (¬ ∃ x ∈ l, x.N = j.N) → (if (insL j l false acc).1 = false then (insL j l false acc).2 ++ [j] else (insL j l false acc).2) = acc ++ y0m j l
 | [], acc, _, _ => by simp [insL, y0m]
 | x :: l, acc, hp, hn => by
  obtain ⟨h1, h2⟩ := List.pairwise_cons.1 hp
  have hx : ¬ x.N = j.N := fun e => hn ⟨x, by simp, e⟩
  by_cases hc : x.N > j.N
  ·have h3 : ∀ y ∈ l, j.N < y.N := fun y hy => by have := h1 y hy; omega
   rw [insL, if_pos hc, if_pos rfl, w4b j l _ h3]
   have e1 : (x :: l).filter (fun y => decide (y.N < j.N)) = [] := by
    rw [List.filter_eq_nil_iff]; intro y hy
    rcases List.mem_cons.1 hy with rfl | hy
    ·simp; omega
    ·have := h3 y hy; simp; omega
   have e2 : (x :: l).filter (fun y => !decide (y.N < j.N)) = x :: l := by
    rw [List.filter_eq_self]; intro y hy
    have := List.filter_eq_nil_iff.1 e1 y hy
    simpa using this
   rw [y0m, e1, e2]; simp
  ·rw [insL, if_neg hc, x3j j l _ h2 (fun ⟨y, hy, e⟩ => hn ⟨y, by simp [hy], e⟩)]
   have : x.N < j.N := by omega
   simp [y0m, List.filter_cons, this]
theorem v2t {n : Nat} (h : n ≤ 100) : fits 80 n := yu (by omega) (by omega)
theorem y5j (l : List Job) (r : Record) (v : List Int) (k : Bool → List Job → Option (Store × Desk × List Note × Int)) (hl : l.length ≤ 6) : ∀ n (b : Bool) i acc, l.length < n + i → i ≤ l.length → acc.length ≤ i + b.toNat →
 um l r v k n b i acc = k (insL (Job.mk r.Txn.N 3 [] v 0 0) (l.drop i) b acc).1 (insL (Job.mk r.Txn.N 3 [] v 0 0) (l.drop i) b acc).2 := by
 intro n
 induction n with
 | zero => intro b i acc h1 h2; omega
 | succ n ih =>
  intro b i acc h1 h2 h3
  rw [um]
  by_cases hi : i < l.length
  ·rw [if_pos (by simpa using hi), ← List.getElem_cons_drop hi]
   simp only [withK, va hi]
   have hb : b.toNat ≤ 1 := by cases b <;> decide
   have hf : ∀ m, m ≤ i + 3 → fits 80 m := fun m hm => v2t (by omega)
   by_cases hc : l[i].N > r.Txn.N
   ·rw [if_pos (by simpa using hc)]
    cases b with
    | false =>
     rw [if_pos (show (!false) = true from rfl), if_pos (hf _ (by omega)), if_pos (hf _ (by simp at h3 ⊢; omega)), ih _ _ _ (by omega) (by omega) (by simp at h3 ⊢; omega)]
     simp only [insL, if_pos hc, if_true]
    | true =>
     rw [if_neg (by simp), if_pos (hf _ (by omega)), ih _ _ _ (by omega) (by omega) (by simp at h3 ⊢; omega)]
     simp only [insL, if_pos hc]
     rfl
   ·rw [if_neg (by simpa using hc), if_pos (hf _ (by omega)), ih _ _ _ (by omega) (by omega) (by simp at h3 ⊢; omega)]
    simp only [insL, if_neg hc]
  ·rw [if_neg (by simpa using hi), List.drop_of_length_le (by omega)]; rfl
noncomputable def sS (r : Record) (s : Store) : Store :=
 if r.Kind = 1 then (match ui s r.Txn r.Key r.Value r.Ask with | some (s', e) => if e = 0 then s' else s | none => s)
 else if r.Kind = 2 ∨ r.Kind = 6 then (if May s ∧ txnR r.Txn then endS s r.Txn r.Yes else s) else s
noncomputable def nS (me : Int) (r : Record) (next : Int) : Int := if r.Kind = 5 ∧ r.Txn.Site = me ∧ next ≤ r.Txn.N then r.Txn.N + 1 else next
noncomputable def jS (me : Int) (r : Record) (next : Int) (jobs : List Job) : List Job :=
 if r.Kind = 3 then (if r.Txn.Site = me ∧ r.Txn.N < next ∧ r.Sites.length ≠ 0 ∧ jobs.length < 6 ∧ ¬ ∃ x ∈ jobs, x.N = r.Txn.N then y0m ⟨r.Txn.N, 3, [], r.Sites, 0, 0⟩ jobs else jobs)
 else if r.Kind = 4 then jobs.filter (fun x => !((r.Txn.Site == me) && (r.Txn.N == x.N))) else jobs
noncomputable def noS (r : Record) (notes : List Note) : List Note := if r.Kind = 2 then notes.map (dmg r) else if r.Kind = 6 then notes ++ [⟨r.Txn, r.Yes, false⟩] else notes
def RecOk (r : Record) : Prop := (1 ≤ r.Kind ∧ r.Kind ≤ 6) ∧ (1 ≤ r.Txn.N ∧ r.Txn.N ≤ 1048576) ∧ fits 8 r.Sites.length
theorem v4p (me : Int) (s : Store) (d : Desk) (no : List Note) (t : Txn) (y : Bool) (h : vp s) : ww ⟨me, s, d, no⟩ t y = some ⟨me, if May s ∧ txnR t then endS s t y else s, d, no⟩ := by
 simp only [ww, End_eq s t y h, withK, Option.bind_some]
 by_cases h1 : May s <;> by_cases h2 : txnR t <;> simp [h1, h2]
theorem y3h (s : Store) (r : Record) (h : vp s) (hk : r.Kind = 1) {R : Type} (F : List Item → List Lock → List Doubt → List Txn → Option R) :
 ((ui s r.Txn r.Key r.Value r.Ask).bind fun v => if (v.2 == 0) = true then F v.1.Items v.1.Locks v.1.Doubts v.1.Over else F s.Items s.Locks s.Doubts s.Over) = F (sS r s).Items (sS r s).Locks (sS r s).Doubts (sS r s).Over := by
 obtain ⟨_, v, hv⟩ := z2w s r.Txn r.Key r.Value r.Ask h
 rw [hv, Option.bind_some, sS, if_pos hk, hv]
 by_cases h0 : v.2 = 0
 ·obtain ⟨v1, v2⟩ := v; simp only at h0; subst h0; simp
 ·obtain ⟨v1, v2⟩ := v; simp only at h0; simp [h0]
theorem v3s (me : Int) (s : Store) (next : Int) (jobs : List Job) (no : List Note) (r : Record) (hj : y0h jobs) (hr : RecOk r) (hk : r.Kind = 3) :
 vr ⟨me, s, ⟨next, jobs⟩, no⟩ r = some ⟨me, s, ⟨next, jS me r next jobs⟩, no⟩ := by
 obtain ⟨p, h1, h2, h3, e⟩ := bsj_eq hj r.Txn.N hr.2.1
 simp only [vr, e, Option.bind_some, jS, if_pos hk]
 have h6 := hj.2.2
 by_cases c1 : ∃ x ∈ jobs, x.N = r.Txn.N
 ·rw [if_pos (by simpa using c1), if_neg (fun q => q.2.2.2.2 c1)]
 rw [if_neg (by simpa using c1)]
 by_cases c2 : r.Txn.Site = me
 case neg => rw [if_pos (by simpa using c2), if_neg (fun q => c2 q.1)]
 rw [if_neg (by simpa using c2)]
 by_cases c3 : r.Txn.N < next
 case neg => rw [if_pos (by simp; omega), if_neg (fun q => c3 q.2.1)]
 rw [if_neg (by simp; omega)]
 by_cases c4 : r.Sites.length = 0
 ·rw [if_pos (by have := List.eq_nil_of_length_eq_zero c4; simp [this]), if_neg (fun q => q.2.2.1 c4)]
 rw [if_neg (by intro q; simp at q; exact c4 (by simp [q]))]
 by_cases c5 : jobs.length = 6
 ·rw [if_pos (by simp [c5]), if_neg (fun q => by have := q.2.2.2.1; omega)]
 have c6 : jobs.length < 6 := by omega
 rw [if_neg (by intro q; simp at q; omega), if_pos ⟨c2, c3, c4, c6, c1⟩, v0o, if_pos hr.2.2, Option.bind_some, x1e, if_pos ⟨by omega, by omega, v2t (by omega)⟩, Option.bind_some, Int.toNat_natCast,
  z4w ⟨r.Txn.N, 3, [], r.Sites, 0, 0⟩ p h2 h3]
theorem v4j (p0 : RecoverMemory) (r : Record) (hj : p0.desk.Jobs.length ≤ 6) (k : Int → List Job → Option RecoverMemory) :
 (Option.bind (wo p0.desk.Jobs (fun y39 => ym y39 r p0)) fun v40 => (if (v40 == (-1)) = true then (k p0.desk.Next p0.desk.Jobs) else (uh p0 r (fun (b42_1 : Int) (b42_2 : List Job) => (if 0 ≤ b42_1 then (if b42_1 ≤ ((b42_2.length : Nat) : Int) then (k p0.desk.Next (b42_2.take b42_1.toNat)) else none) else none)) (p0.desk.Jobs.length + 1) v40 (IntKind.i64.wrap (v40 + 1)) p0.desk.Jobs))) = k p0.desk.Next (p0.desk.Jobs.filter (fun x => !((r.Txn.Site == p0.me) && (r.Txn.N == x.N)))) := by
 have hm : p0.desk.Jobs.length ≤ maxLen := by unfold maxLen; omega
 rw [show (fun y39 => ym y39 r p0) = (fun x : Job => some ((r.Txn.Site == p0.me) && (r.Txn.N == x.N))) from rfl]
 rcases v5j p0.desk.Jobs (fun x => (r.Txn.Site == p0.me) && (r.Txn.N == x.N)) with ⟨hn, e⟩ | ⟨j, x, h1, h2, h3, e⟩
 ·rw [e]
  have := x1i hn
  rw [this]; simp
 ·rw [e]
  have hj := zj h1
  have hne : ((j : Int) == -1) = false := by simp
  simp only [Option.bind_some, hne, Bool.false_eq_true, if_false]
  rw [z0c (by omega)]
  obtain ⟨i', l', h4, h5, h6⟩ := u3c (p := fun x : Job => (r.Txn.Site == p0.me) && (r.Txn.N == x.N)) (k := (fun (b42_1 : Int) (b42_2 : List Job) => (if 0 ≤ b42_1 then (if b42_1 ≤ ((b42_2.length : Nat) : Int) then (k p0.desk.Next (b42_2.take b42_1.toNat)) else none) else none))) (L := uh p0 r (fun (b42_1 : Int) (b42_2 : List Job) => (if 0 ≤ b42_1 then (if b42_1 ≤ ((b42_2.length : Nat) : Int) then (k p0.desk.Next (b42_2.take b42_1.toNat)) else none) else none))) (orig := p0.desk.Jobs) hm
   (fun n i j l hj => by rw [uh, if_neg (by simpa using hj)])
   (fun n i j l x hx hp => by rw [uh, if_pos (by simpa using zj hx), if_pos (by omega), Int.toNat_natCast, hx]; simp only [Option.bind_some, ym, withK, hp, Bool.not_true, Bool.false_eq_true, if_false])
   (fun n i j l x hx hp hi => by rw [uh, if_pos (by simpa using zj hx), if_pos (by omega), Int.toNat_natCast, hx]; simp only [Option.bind_some, ym, withK, hp, Bool.not_false, if_true]; rw [if_pos (by omega), Int.toNat_natCast, va hi])
   (p0.desk.Jobs.length + 1) j (j + 1) p0.desk.Jobs rfl (by omega) (by omega) (by omega) rfl (w2i h1 h2 h3)
  refine h4.trans ?_
  rw [if_pos (by omega), if_pos (by omega), Int.toNat_natCast, h6]
theorem z5h (me : Int) (s : Store) (next : Int) (jobs : List Job) (no : List Note) (r : Record) (hs : vp s) (hj : y0h jobs) (hn : fits 24 (no.length + 1)) (hr : RecOk r) (hx : 1 ≤ next ∧ next ≤ 1048577) :
 v0c ⟨me, s, ⟨next, jobs⟩, no⟩ r = some ⟨me, sS r s, ⟨nS me r next, jS me r next jobs⟩, noS r no⟩ := by
 obtain ⟨⟨hk1, hk6⟩, hN, hS⟩ := hr
 simp only [v0c, withK]
 by_cases k1 : r.Kind = 1
 ·rw [if_pos (by simp [k1]), (z2w s r.Txn r.Key r.Value r.Ask hs).1]
  rw [y3h s r hs k1 (fun a b c d => some (RecoverMemory.mk me (Store.mk a b c d) (Desk.mk next jobs) no))]
  simp [nS, jS, noS, k1]
 rw [if_neg (by simpa using k1)]
 by_cases k2 : r.Kind = 2
 ·rw [if_pos (by simp [k2]), v4p me s _ no r.Txn r.Yes hs, Option.bind_some, dmgP]
  simp [sS, nS, jS, noS, k2]
 rw [if_neg (by simpa using k2)]
 by_cases k6 : r.Kind = 6
 ·rw [if_pos (by simp [k6]), v4p me s _ no r.Txn r.Yes hs, Option.bind_some, if_pos hn]
  simp [sS, nS, jS, noS, k6]
 rw [if_neg (by simpa using k6)]
 by_cases k3 : r.Kind = 3
 ·rw [if_pos (by simp [k3]), v3s me s next jobs no r hj ⟨⟨hk1, hk6⟩, hN, hS⟩ k3, Option.bind_some]
  simp [sS, nS, noS, k3]
 rw [if_neg (by simpa using k3)]
 by_cases k4 : r.Kind = 4
 ·rw [if_pos (by simp [k4])]
  rw [v4j ⟨me, s, ⟨next, jobs⟩, no⟩ r hj.2.2 (fun a b => some (RecoverMemory.mk me (Store.mk s.Items s.Locks s.Doubts s.Over) (Desk.mk a b) no))]
  simp [sS, nS, jS, noS, k4]
 rw [if_neg (by simpa using k4)]
 have k5 : r.Kind = 5 := by omega
 rw [if_pos (by simp [k5]), vw (n := r.Txn.N + 1) (by omega) (by omega)]
 by_cases c : r.Txn.Site = me
 ·rw [if_pos (by simp [c])]
  by_cases c2 : next ≤ r.Txn.N
  ·rw [if_pos (by omega)]; simp [sS, nS, jS, noS, k5, c, c2]
  ·by_cases c3 : r.Txn.N + 1 > next
   ·omega
   ·rw [if_neg c3]; simp [sS, nS, jS, noS, k5, c, c2]
 ·rw [if_neg (by simp [c])]; simp [sS, nS, jS, noS, k5, c]

theorem end_eq3 (s : Store) (r : Record) (h : vp s) {R : Type} (F : List Item → List Lock → List Doubt → List Txn → Option R) :
 ((x0c s r.Txn r.Yes).bind fun v => if (v.2 == 0) = true then F v.1.Items v.1.Locks v.1.Doubts v.1.Over else F s.Items s.Locks s.Doubts s.Over) = F (if May s ∧ txnR r.Txn then endS s r.Txn r.Yes else s).Items (if May s ∧ txnR r.Txn then endS s r.Txn r.Yes else s).Locks (if May s ∧ txnR r.Txn then endS s r.Txn r.Yes else s).Doubts (if May s ∧ txnR r.Txn then endS s r.Txn r.Yes else s).Over := by
 rw [u5m s r.Txn r.Yes h, Option.bind_some]
 by_cases h1 : May s <;> by_cases h2 : txnR r.Txn <;> simp [h1, h2]
theorem z3l (l : List Job) (a : Nat) (hl : l.length ≤ 50) (k : List Job → Option (List Job)) : ∀ n i acc, l.length < n + i → i ≤ l.length → acc.length ≤ i → zo l (a : Int) k n i acc = k (acc ++ ((l.take a).drop i ++ l.drop (max (a + 1) i))) := by
 intro n
 induction n with
 | zero => intro i acc h1 h2 h3; omega
 | succ n ih =>
  intro i acc h1 h2 h3
  rw [zo]
  by_cases hi : i < l.length
  ·have ed : l.drop i = l[i] :: l.drop (i + 1) := (List.getElem_cons_drop hi).symm
   rw [if_pos (by simpa using hi)]
   simp only [withK]
   by_cases hia : i = a
   ·rw [if_neg (by simp [hia]), ih _ _ (by omega) (by omega) (by omega)]
    have e1 : (l.take a).drop (i + 1) = [] := List.drop_of_length_le (by simp; omega)
    have e2 : (l.take a).drop i = [] := List.drop_of_length_le (by simp; omega)
    rw [e1, e2, show max (a + 1) (i + 1) = a + 1 by omega, show max (a + 1) i = a + 1 by omega]
   ·rw [if_pos (by simp; omega), va hi]
    rw [if_pos (v2t (by omega)), ih _ _ (by omega) (by omega) (by simp; omega), List.append_assoc]
    congr 2
    rcases Nat.lt_or_ge i a with h | h
    ·have hlt : i < (l.take a).length := by simp; omega
     have e2 : (l.take a).drop i = l[i] :: (l.take a).drop (i + 1) := by
      rw [← List.getElem_cons_drop hlt]
      simp
     rw [e2, show max (a + 1) (i + 1) = a + 1 by omega, show max (a + 1) i = a + 1 by omega]
     rfl
    ·have e1 : (l.take a).drop (i + 1) = [] := List.drop_of_length_le (by simp; omega)
     have e2 : (l.take a).drop i = [] := List.drop_of_length_le (by simp; omega)
     rw [e1, e2, show max (a + 1) (i + 1) = i + 1 by omega, show max (a + 1) i = i by omega, ed]
     rfl
  ·rw [if_neg (by simpa using hi), List.drop_of_length_le (l := l.take a) (by simp; omega), List.drop_of_length_le (by omega)]
   simp
theorem w4e (l : List Job) (a : Nat) (hl : l.length ≤ 50) : w0c l (a : Int) = some (l.take a ++ l.drop (a + 1)) := by
 simp only [w0c, withK]
 rw [z3l l a hl _ _ _ _ (by omega) (by omega) (by simp)]
 simp
theorem z4b (l : List Int) (h : fits 8 l.length) : u0a l = some l := by
 simp only [u0a, withK]
 refine (u0z h (L := zl l (fun b => some b)) (k := fun b => some b) (fun n i acc hi => by rw [zl, if_neg (by simpa using hi)]) (fun n i acc hi hf => by rw [zl, if_pos (by simpa using hi), va hi, if_pos hf]) (l.length + 1) 0 [] (by omega) rfl (by omega)).trans ?_
 simp
theorem fin_put (l : List Job) (j : Job) (h : y0h l) (hn : ¬ ∃ x ∈ l, x.N = j.N) (h6 : l.length < 6) {R : Type} (F : List Job → Option R) :
 (if (!(insL j l false []).1) = true then (if fits 80 ((insL j l false []).2.length + 1) then F ((insL j l false []).2 ++ [j]) else none) else F (insL j l false []).2) = F (y0m j l) := by
 have := x3j j l [] h.1 hn
 rw [List.nil_append] at this
 have hlen : (y0m j l).length ≤ 7 := by
  have := flen (fun x : Job => decide (x.N < j.N)) l
  simp only [y0m, List.length_append, List.length_cons]; omega
 cases hb : (insL j l false []).1 with
 | false =>
  rw [hb, if_pos rfl] at this
  rw [if_pos (by rfl), if_pos (v2t (by have := congrArg List.length this; simp at this; omega)), this]
 | true =>
  rw [hb, if_neg (by simp)] at this
  rw [if_neg (by simp), this]
theorem u5e (me : Int) (p2 : List Record) (k) (n i : Nat) (s : Store) (next : Int) (jobs : List Job) (no : List Note) (r : Record) (hi : p2[i]? = some r) (hs : vp s) (hj : y0h jobs) (hn : fits 24 (no.length + 1)) (hr : RecOk r) (hx : 1 ≤ next ∧ next ≤ 1048577) :
 ua me p2 k (n + 1) i next no s.Items s.Locks s.Doubts s.Over jobs = ua me p2 k n (i + 1) (nS me r next) (noS r no) (sS r s).Items (sS r s).Locks (sS r s).Doubts (sS r s).Over (jS me r next jobs) := by
 obtain ⟨⟨hk1, hk6⟩, hN, hS⟩ := hr
 have hil := zj hi
 have hno : no.length ≤ maxLen := by have := hn.2; omega
 have hjl := hj.2.2
 rw [ua, if_pos (by simpa using hil), hi, Option.bind_some]
 simp only [withK]
 by_cases k1 : r.Kind = 1
 ·rw [if_pos (by simp [k1])]
  have := y3h s r hs k1 (fun a b c d => ua me p2 k n (i + 1) next no a b c d jobs)
  rw [show (⟨s.Items, s.Locks, s.Doubts, s.Over⟩ : Store) = s from rfl, this]
  simp [nS, jS, noS, k1]
 rw [if_neg (by simpa using k1)]
 by_cases k26 : r.Kind = 2 ∨ r.Kind = 6
 ·have e : ∀ (A B : Option (Store × Desk × List Note × Int)), (if (r.Kind == 2) = true then (if True then A else B) else (if (r.Kind == 6) = true then A else B)) = A := by
   intro A B
   rcases k26 with h | h <;> simp [h]
  rw [e]
  have := end_eq3 s r hs (fun a b c d => xd r (fun b44_1 => if (r.Kind == 6) = true then (if fits 24 (b44_1.length + 1) then ua me p2 k n (i + 1) next (b44_1 ++ [Note.mk r.Txn r.Yes false]) a b c d jobs else none) else ua me p2 k n (i + 1) next b44_1 a b c d jobs) (no.length + 1) 0 no)
  rw [show (⟨s.Items, s.Locks, s.Doubts, s.Over⟩ : Store) = s from rfl, this]
  rcases k26 with h | h
  ·rw [dmgR r h _ no hno, if_neg (by simp [h])]
   simp [sS, nS, jS, noS, h]
  ·rw [dmgR' r (by omega) _ no, if_pos (by simp [h]), if_pos hn]
   simp [sS, nS, jS, noS, h]
 have k2 : r.Kind ≠ 2 := fun h => k26 (.inl h)
 have k6 : r.Kind ≠ 6 := fun h => k26 (.inr h)
 have e : ∀ (A B : Option (Store × Desk × List Note × Int)), (if (r.Kind == 2) = true then (if True then A else B) else (if (r.Kind == 6) = true then A else B)) = B := by
  intro A B; simp [k2, k6]
 rw [e]
 have hsS : sS r s = s := by simp [sS, k1, k2, k6]
 have hno' : noS r no = no := by simp [noS, k2, k6]
 rw [hsS, hno']
 by_cases k3 : r.Kind = 3
 ·rw [if_pos (by simp [k3])]
  have hns : nS me r next = next := by simp [nS, k3]
  rw [hns]
  by_cases c2 : r.Txn.Site = me
  case neg => rw [if_pos (by simpa using c2), jS, if_pos k3, if_neg (fun q => c2 q.1)]
  rw [if_neg (by simpa using c2)]
  by_cases c3 : r.Txn.N < next
  case neg => rw [if_pos (by simp; omega), jS, if_pos k3, if_neg (fun q => c3 q.2.1)]
  rw [if_neg (by simp; omega)]
  by_cases c4 : r.Sites.length = 0
  ·rw [if_pos (by have := List.eq_nil_of_length_eq_zero c4; simp [this]), jS, if_pos k3, if_neg (fun q => q.2.2.1 c4)]
  rw [if_neg (by intro q; simp at q; exact c4 (by simp [q]))]
  by_cases c5 : jobs.length < 6
  case neg => rw [if_pos (by simp; omega), jS, if_pos k3, if_neg (fun q => c5 q.2.2.2.1)]
  rw [if_neg (by simp; omega)]
  rcases u4a ⟨next, jobs⟩ r.Txn.N with ⟨c1, e1⟩ | ⟨j, x, g1, g2, e1⟩
  ·rw [e1, Option.bind_some, if_neg (by decide), z4b _ hS, Option.bind_some, y5j jobs r r.Sites _ hjl _ _ _ _ (by omega) (by omega) (by simp), List.drop_zero]
   rw [fin_put jobs ⟨r.Txn.N, 3, [], r.Sites, 0, 0⟩ hj c1 c5 (fun a => ua me p2 k n (i + 1) next no s.Items s.Locks s.Doubts s.Over a)]
   rw [jS, if_pos k3, if_pos ⟨c2, c3, c4, c5, c1⟩]
  ·rw [e1, Option.bind_some, if_pos (by first | (simp; done) | (simp; omega)), jS, if_pos k3, if_neg (fun q => q.2.2.2.2 ⟨x, List.mem_of_getElem? g1, g2⟩)]
 rw [if_neg (by simpa using k3)]
 by_cases k4 : r.Kind = 4
 ·rw [if_pos (by simp [k4])]
  have hns : nS me r next = next := by simp [nS, k4]
  rw [hns, jS, if_neg k3, if_pos k4]
  rcases u4a ⟨next, jobs⟩ r.Txn.N with ⟨c1, e1⟩ | ⟨j, x, g1, g2, e1⟩
  ·have hfl : jobs.filter (fun x => !((r.Txn.Site == me) && (r.Txn.N == x.N))) = jobs := by
    rw [List.filter_eq_self]; intro x hx
    have : ¬ x.N = r.Txn.N := fun e => c1 ⟨x, hx, e⟩
    have : ¬ r.Txn.N = x.N := fun e => this e.symm
    simp [this]
   rw [e1, Option.bind_some, hfl]
   by_cases c : r.Txn.Site = me <;> simp [c]
  ·rw [e1, Option.bind_some]
   by_cases c : r.Txn.Site = me
   ·rw [if_pos (by simp [c]), if_pos (by first | (simp; done) | (simp; omega)), w4e jobs j (by omega), Option.bind_some]
    have hfl := y4k hj g1
    rw [hfl]
    congr 1
    apply List.filter_congr; intro y _
    rw [g2]; simp [c]
   ·rw [if_neg (by simp [c])]
    have hfl : jobs.filter (fun x => !((r.Txn.Site == me) && (r.Txn.N == x.N))) = jobs := by
     rw [List.filter_eq_self]; intro x hx; simp [c]
    rw [hfl]
 rw [if_neg (by simpa using k4)]
 have k5 : r.Kind = 5 := by omega
 have hjS : jS me r next jobs = jobs := by simp [jS, k5]
 rw [hjS, vw (n := r.Txn.N + 1) (by omega) (by omega), nS]
 by_cases c : r.Txn.Site = me
 ·rw [if_pos (by simp [c])]
  by_cases c2 : next ≤ r.Txn.N
  ·rw [if_pos (by simp; omega), if_pos ⟨k5, c, c2⟩]
  ·rw [if_neg (by simp; omega), if_neg (fun q => c2 q.2.2)]
 ·rw [if_neg (by simp [c]), if_neg (fun q => c q.2.1)]

theorem y4h (c : Config) (r : Record) (h : zh c r = some 0) : (1 ≤ r.Kind ∧ r.Kind ≤ 6) ∧ ((0 ≤ r.Txn.Site ∧ r.Txn.Site ≤ 3) ∧ 1 ≤ r.Txn.N ∧ r.Txn.N ≤ 1048576) ∧ (0 ≤ r.Value ∧ r.Value ≤ 1073741824) ∧ (0 ≤ r.Ask ∧ r.Ask ≤ 1048576) := by
 obtain ⟨e, he, hb⟩ := w1i c
 simp only [zh, he, Option.bind_some] at h
 by_cases h0 : e = 0
 case neg => simp [h0] at h
 obtain ⟨hs, _⟩ := hb h0
 subst h0
 simp only [w3h c _ hs, In_eq, Option.bind_some, bne_self_eq_false, Bool.false_eq_true, if_false] at h
 by_cases hk : 1 ≤ r.Kind ∧ r.Kind ≤ 6
 case neg => simp [hk] at h
 by_cases a5 : wtxnR c r.Txn
 case neg => simp [hk, a5] at h
 by_cases a8 : 0 ≤ r.Key ∧ r.Key ≤ 7
 case neg => simp [hk, a5, a8] at h
 by_cases a9 : 0 ≤ r.Value ∧ r.Value ≤ 1073741824
 case neg => simp [hk, a5, a8, a9] at h
 by_cases b3 : 0 ≤ r.Ask ∧ r.Ask ≤ 1048576
 case neg => simp [hk, a5, a8, a9, b3] at h
 obtain ⟨q1, q2, q3, q4⟩ := a5
 exact ⟨hk, ⟨⟨q1, by omega⟩, q3, q4⟩, a9, b3⟩

noncomputable def flt (c : Config) (r : Record) : Int := (zh c r).getD 0
noncomputable def chk (c : Config) : List Record → Int
 | [] => 0
 | r :: l => if flt c r = 0 then chk c l else flt c r
def v3u (l : List Record) : Prop := l.length ≤ maxLen ∧ ∀ r ∈ l, r.Sites.length ≤ maxLen
theorem y4j (c : Config) (r : Record) (h : r.Sites.length ≤ maxLen) : zh c r = some (flt c r) ∧ y0c c r = some (flt c r) := by
 obtain ⟨e, v, hv⟩ := z5f c r h
 rw [e, flt, hv]; exact ⟨rfl, rfl⟩
theorem chkP (c : Config) (l : List Record) (hl : v3u l) (k : Option (Store × Desk × List Note × Int)) : ∀ n i, l.length < n + i → i ≤ l.length → ut c l k n i = if chk c (l.drop i) = 0 then k else some (⟨[], [], [], []⟩, ⟨0, []⟩, [], chk c (l.drop i)) := by
 intro n
 induction n with
 | zero => intro i h1 h2; omega
 | succ n ih =>
  intro i h1 h2
  rw [ut]
  by_cases hi : i < l.length
  ·rw [if_pos (by simpa using hi), va hi, (y4j c l[i] (hl.2 _ (List.getElem_mem hi))).2, Option.bind_some, ← List.getElem_cons_drop hi, chk]
   by_cases h0 : flt c l[i] = 0
   ·rw [if_neg (by simp [h0]), ih _ (by omega) (by omega), if_pos h0]
   ·rw [if_pos (by simp [h0]), if_neg h0, if_neg h0]
  ·rw [if_neg (by simpa using hi), List.drop_of_length_le (by omega), chk, if_pos rfl]
theorem chkR (c : Config) (l : List Record) (hl : v3u l) (k : Int → Option (Store × Desk × List Note × Int)) : ∀ n (i : Nat), l.length < n + i → i ≤ l.length → zg c l k n 0 (i : Int) = k (chk c (l.drop i)) := by
 intro n
 induction n with
 | zero => intro i h1 h2; omega
 | succ n ih =>
  intro i h1 h2
  simp only [zg, withK]
  have hm := hl.1
  by_cases hi : i < l.length
  ·rw [if_pos (by simp; omega), if_pos (by simp), if_pos (by omega), Int.toNat_natCast, va hi, (y4j c l[i] (hl.2 _ (List.getElem_mem hi))).1, Option.bind_some, z0c (by omega), ← List.getElem_cons_drop hi, chk]
   by_cases h0 : flt c l[i] = 0
   ·rw [h0, ih _ (by omega) (by omega), if_pos rfl]
   ·rw [if_neg h0]
    cases n with
    | zero => omega
    | succ n =>
     simp only [zg, withK]
     by_cases h : ((i + 1 : Nat) : Int) < l.length
     ·rw [if_pos (by simpa using h), if_neg (by simpa using h0)]
     ·rw [if_neg (by simpa using h)]
  ·rw [if_neg (by simp; omega), List.drop_of_length_le (by omega), chk]
theorem chkR' (c : Config) (l : List Record) (e : Int) (he : e ≠ 0) (k : Int → Option (Store × Desk × List Note × Int)) : zg c l k (l.length + 1) e 0 = k e := by
 simp only [zg, withK]
 by_cases h : (0 : Int) < l.length
 ·rw [if_pos (by simpa using h), if_neg (by simpa using he)]
 ·rw [if_neg (by simpa using h)]
theorem x5l (c : Config) : ∀ (l : List Record), chk c l = 0 → ∀ r ∈ l, flt c r = 0
 | [], _, r, hr => by cases hr
 | x :: l, h, r, hr => by
  rw [chk] at h
  by_cases h0 : flt c x = 0
  ·rw [if_pos h0] at h
   rcases List.mem_cons.1 hr with rfl | hr
   ·exact h0
   ·exact x5l c l h r hr
  ·rw [if_neg h0] at h; exact absurd h h0
theorem sS_fits {r : Record} {s : Store} (h : vp s) : vp (sS r s) := by
 unfold sS
 split
 ·split
  ·rename_i s' e hw
   split
   ·rename_i h0; subst h0; exact z4e h hw
   ·exact h
  ·exact h
 ·split
  ·split
   ·rename_i hm; exact v4y hm.1
   ·exact h
  ·exact h
theorem jS_ok {me : Int} {r : Record} {next : Int} {jobs : List Job} (h : y0h jobs) (hr : RecOk r) : y0h (jS me r next jobs) := by
 unfold jS
 split
 ·split
  ·rename_i hc; exact h.put _ hc.2.2.2.1 hr.2.1 hc.2.2.2.2
  ·exact h
 ·split
  ·exact h.filter _
  ·exact h
theorem nS_ok {me : Int} {r : Record} {next : Int} (h : 1 ≤ next ∧ next ≤ 1048577) (hr : RecOk r) : 1 ≤ nS me r next ∧ nS me r next ≤ 1048577 := by
 unfold nS
 have := hr.2.1
 split <;> omega
theorem noS_len {r : Record} {no : List Note} : (noS r no).length ≤ no.length + 1 := by
 unfold noS
 split
 ·simp
 ·split <;> simp
theorem loops (me : Int) (p2 : List Record) (hp : ∀ r ∈ p2, RecOk r) (hf : fits 24 (p2.length + 1)) (kP) (kR) : ∀ n i (s : Store) next jobs no, p2.length < n + i → i ≤ p2.length → vp s → y0h jobs → no.length ≤ i → (1 ≤ next ∧ next ≤ 1048577) →
 ∃ (s' : Store) (next' : Int) (jobs' : List Job) (no' : List Note), zp p2 kP n i me s.Items s.Locks s.Doubts s.Over next jobs no = kP me s'.Items s'.Locks s'.Doubts s'.Over next' jobs' no' ∧
  ua me p2 kR n i next no s.Items s.Locks s.Doubts s.Over jobs = kR next' no' s'.Items s'.Locks s'.Doubts s'.Over jobs' := by
 intro n
 induction n with
 | zero => intro i s next jobs no h1 h2; omega
 | succ n ih =>
  intro i s next jobs no h1 h2 hs hj hn hx
  by_cases hi : i < p2.length
  ·have hx' := List.getElem?_eq_getElem hi
   have hr := hp _ (List.getElem_mem hi)
   have hfn : fits 24 (no.length + 1) := w2t hf (by omega)
   obtain ⟨s', next', jobs', no', e1, e2⟩ := ih (i + 1) (sS p2[i] s) (nS me p2[i] next) (jS me p2[i] next jobs) (noS p2[i] no) (by omega) (by omega) (sS_fits hs) (jS_ok hj hr) (by have := @noS_len p2[i] no; omega) (nS_ok hx hr)
   refine ⟨s', next', jobs', no', ?_, ?_⟩
   ·rw [zp, if_pos (by simpa using hi), hx', Option.bind_some, show (⟨s.Items, s.Locks, s.Doubts, s.Over⟩ : Store) = s from rfl, z5h me s next jobs no p2[i] hs hj hfn hr hx, Option.bind_some]
    exact e1
   ·rw [u5e me p2 kR n i s next jobs no p2[i] hx' hs hj hfn hr hx]; exact e2
  ·refine ⟨s, next, jobs, no, ?_, ?_⟩
   ·rw [zp, if_neg (by simpa using hi)]
   ·rw [ua, if_neg (by simpa using hi)]
theorem z4k : vp ⟨[], [], [], []⟩ := ⟨yu (by simp) (by omega), yu (by simp) (by omega), yu (by simp) (by omega), yu (by simp) (by omega)⟩
theorem y3n (c : Config) (me : Int) (l : List Record) (hf : fits 80 l.length) (hs : ∀ r ∈ l, fits 8 r.Sites.length) : ∃ r, x0g c me l = some r ∧ ux c me l = some r := by
 have hl : v3u l := ⟨hf.2, fun r hr => (hs r hr).2⟩
 obtain ⟨e, he, hb⟩ := w1i c
 have hlab := (x3b c).trans he
 simp only [x0g, ux, hlab, he, withK, Option.bind_some, In_eq]
 by_cases h0 : e = 0
 case neg =>
  refine ⟨_, by rw [if_pos (by simpa using h0)], ?_⟩
  rw [if_neg (by simpa using h0), chkR' c l e h0, if_pos (by simpa using h0)]
 subst h0
 obtain ⟨hS, _⟩ := hb rfl
 rw [if_neg (show ¬ ((0 : Int) != 0) = true by decide), if_pos (show ((0 : Int) == 0) = true from rfl), vw (n := c.Sites - 1) (by omega) (by omega)]
 by_cases hm : 0 ≤ me ∧ me ≤ c.Sites - 1
 case neg =>
  refine ⟨(⟨[], [], [], []⟩, ⟨0, []⟩, [], 2), ?_, ?_⟩
  ·by_cases h1 : me < 0
   ·rw [if_pos (by simpa using h1)]
   ·rw [if_neg (by simpa using h1), if_pos (by simp; omega)]
  ·rw [if_pos (show (!decide (0 ≤ me ∧ me ≤ c.Sites - 1)) = true by simp; omega), chkR' c l 2 (by decide), if_pos (by decide)]
 rw [if_neg (show ¬ decide (me < 0) = true by simp; omega), if_neg (show ¬ decide (me ≥ c.Sites) = true by simp; omega), if_neg (show ¬ (!decide (0 ≤ me ∧ me ≤ c.Sites - 1)) = true by simp; omega), chkP c l hl _ _ _ (by omega) (by omega)]
 have := chkR c l hl (fun b7_1 => if (b7_1 != 0) = true then (some ((Store.mk [] [] [] []), (Desk.mk 0 []), [], b7_1)) else (ua me l (fun (b20_1 : Int) (b20_2 : List Note) (b20_3 : List Item) (b20_4 : List Lock) (b20_5 : List Doubt) (b20_6 : List Txn) (b20_7 : List Job) => (some ((Store.mk b20_3 b20_4 b20_5 b20_6), (Desk.mk b20_1 b20_7), b20_2, 0))) (l.length + 1) 0 1 [] [] [] [] [] [])) (l.length + 1) 0 (by omega) (by omega)
 rw [show ((0 : Nat) : Int) = 0 from rfl] at this
 rw [this, List.drop_zero]
 by_cases hc : chk c l = 0
 case neg => exact ⟨_, by rw [if_neg hc], by rw [if_pos (by simpa using hc)]⟩
 rw [if_pos hc, if_neg (by simpa using hc)]
 have hok : ∀ r ∈ l, RecOk r := fun r hr => by
  have h1 := (y4j c r (hl.2 r hr)).1
  rw [x5l c l hc r hr] at h1
  obtain ⟨a, b, _⟩ := y4h c r h1
  exact ⟨a, b.2, hs r hr⟩
 obtain ⟨s', next', jobs', no', e1, e2⟩ := loops me l hok (by unfold fits maxLen at *; omega) (fun (b16_1 : Int) (b16_2 : List Item) (b16_3 : List Lock) (b16_4 : List Doubt) (b16_5 : List Txn) (b16_6 : Int) (b16_7 : List Job) (b16_8 : List Note) => (some ((Store.mk b16_2 b16_3 b16_4 b16_5), (Desk.mk b16_6 b16_7), b16_8, (0 : Int)))) (fun (b20_1 : Int) (b20_2 : List Note) (b20_3 : List Item) (b20_4 : List Lock) (b20_5 : List Doubt) (b20_6 : List Txn) (b20_7 : List Job) => (some ((Store.mk b20_3 b20_4 b20_5 b20_6), (Desk.mk b20_1 b20_7), b20_2, 0))) (l.length + 1) 0 ⟨[], [], [], []⟩ 1 [] [] (by omega) (by omega) z4k ⟨List.Pairwise.nil, (fun j hj => by cases hj), by simp⟩ (by simp) (by omega)
 exact ⟨_, e1, e2⟩
theorem x4v (l : List Int) : x0b l l = some true := by
 simp only [x0b, withK, bne_self_eq_false, Bool.false_eq_true, if_false]
 exact w0k (L := ul l l (some true)) (len := l.length) (fun n i hi => by rw [ul, if_neg (by simpa using hi)]) (fun n i hi => by rw [ul, if_pos (by simpa using hi), va hi, va hi, if_neg (by simp)]) _ _ (by omega) (by omega)
theorem v4g (l : List Task) : zy l l = some true := by
 simp only [zy, withK, bne_self_eq_false, Bool.false_eq_true, if_false]
 exact w0k (L := uj l l (some true)) (len := l.length) (fun n i hi => by rw [uj, if_neg (by simpa using hi)]) (fun n i hi => by rw [uj, if_pos (by simpa using hi), va hi, va hi, if_neg (by simp)]) _ _ (by omega) (by omega)
theorem w4v (d : Desk) : w0b d d = some true := by
 simp only [w0b, withK, bne_self_eq_false, Bool.false_eq_true, if_false]
 exact w0k (L := zm d d (some true)) (len := d.Jobs.length) (fun n i hi => by rw [zm, if_neg (by simpa using hi)]) (fun n i hi => by rw [zm, if_pos (by simpa using hi), va hi, va hi]; simp [v4g, x4v]) _ _ (by omega) (by omega)
theorem u4g (l : List Note) : xy l l = some true := by
 simp only [xy, withK, bne_self_eq_false, Bool.false_eq_true, if_false]
 exact w0k (L := vk l l (some true)) (len := l.length) (fun n i hi => by rw [vk, if_neg (by simpa using hi)]) (fun n i hi => by rw [vk, if_pos (by simpa using hi), va hi, va hi, if_neg (by simp)]) _ _ (by omega) (by omega)
theorem z3n (c : Config) (me : Int) (l : List Record) (hf : fits 80 l.length) (hs : ∀ r ∈ l, fits 8 r.Sites.length) : uo c me l = some true := by
 obtain ⟨r, e1, e2⟩ := y3n c me l hf hs
 simp only [uo, if_pos hf, e1, e2, withK, Option.bind_some, x2y, w4v, u4g]
 simp

end Go.V.Dec
