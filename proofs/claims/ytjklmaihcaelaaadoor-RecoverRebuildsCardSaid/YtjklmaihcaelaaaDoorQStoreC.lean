/- Plain laws (StoreC): no program, no memory; conditions as stated. -/
import Derived.Test.YtjklmaihcaelaaaDoorG2
import Derived.Test.YtjklmaihcaelaaaDoorQGen
set_option linter.unusedVariables false
set_option linter.unusedSimpArgs false
namespace Go.V.Dec
open Go Go.Proofs Classical
set_option maxRecDepth 100000
set_option maxHeartbeats 4000000
variable (G : Nat → Option (List D))
theorem z0d {a b : Txn} : ((a.Site == b.Site) && (a.N == b.N)) = true ↔ a = b := by
 cases a; cases b; simp
def txnR (t : Txn) : Prop := 0 ≤ t.Site ∧ t.Site < 4 ∧ 1 ≤ t.N ∧ t.N ≤ 1048576
theorem w0l (t : Txn) : y0n t = some (decide (txnR t)) := by
 simp only [y0n, withK, txnR]
 by_cases h1 : 0 ≤ t.Site <;> by_cases h2 : t.Site < 4 <;> by_cases h3 : 1 ≤ t.N <;> by_cases h4 : t.N ≤ 1048576 <;> simp [h1, h2, h3, h4]
theorem y0r (t : Txn) : yq t = some (decide (txnR t)) := by
 rw [show decide (txnR t) = (decide (0 ≤ t.Site ∧ t.Site ≤ 3) && decide (1 ≤ t.N ∧ t.N ≤ 1048576)) from by rw [Bool.eq_iff_iff, decide_eq_true_eq, Bool.and_eq_true, decide_eq_true_eq, decide_eq_true_eq]; unfold txnR; omega]
 simp only [yq, withK, In_eq, Option.bind_some]
 by_cases h1 : 0 ≤ t.Site ∧ t.Site ≤ 3 <;> by_cases h2 : 1 ≤ t.N ∧ t.N ≤ 1048576 <;> simp [h1, h2]
def itemR (x : Item) : Prop := 0 ≤ x.Key ∧ x.Key < 8 ∧ 0 ≤ x.Value ∧ x.Value ≤ 1073741824 ∧ 1 ≤ x.Version ∧ x.Version ≤ 1048576
def z3q (l : List Item) (i : Nat) : Prop := ∀ x, l[i]? = some x → itemR x ∧ ∀ y, 0 < i → l[i - 1]? = some y → y.Key < x.Key
def u0e (l : List Item) : Prop := ∀ i, i < l.length → z3q l i
theorem y2x (l : List Item) (hl : l.length ≤ maxLen) : v0p l = some (decide (u0e l)) := by
 simp only [v0p, withK]
 rw [x3e (L := xr l (some true)) (p := z3q l) (k := some true) (bad := some false) (len := l.length) ?_ ?_ ?_ _ _ (by omega) (by omega)]
 ·have : (∀ j, 0 ≤ j → j < l.length → z3q l j) ↔ u0e l := ⟨fun h j hj => h j (Nat.zero_le _) hj, fun h j _ hj => h j hj⟩
  by_cases h : u0e l
  ·rw [if_pos (this.2 h)]; simp [h]
  ·rw [if_neg (fun q => h (this.1 q))]; simp [h]
 ·intro n i hi
  rw [xr, if_neg (by simpa using hi)]
 ·intro n i hi hp
  obtain ⟨x, hx⟩ := at_of hi
  obtain ⟨⟨a1, a2, a3, a4, a5, a6⟩, hq⟩ := hp x hx
  rw [xr, if_pos (by simpa using hi), hx]
  simp only [Option.bind_some]
  rw [if_neg (by simp; omega), if_neg (by simp; omega), if_neg (by simp; omega), if_neg (by simp; omega), if_neg (by simp; omega), if_neg (by simp; omega)]
  by_cases h0 : 0 < i
  ·obtain ⟨y, hy⟩ : ∃ y, l[i - 1]? = some y := at_of (by omega)
   rw [y0x h0 (by omega)]
   have := hq y h0 hy
   rw [if_pos (by simp; omega), if_pos (by omega), Int.toNat_natCast, hy]
   simp only [Option.bind_some]
   rw [if_neg (by simp; omega)]
  ·rw [if_neg (by simp; omega)]
 ·intro n i hi hp
  obtain ⟨x, hx⟩ := at_of hi
  rw [xr, if_pos (by simpa using hi), hx]
  simp only [Option.bind_some]
  by_cases hr : itemR x
  ·obtain ⟨a1, a2, a3, a4, a5, a6⟩ := hr
   have : ∃ y, 0 < i ∧ l[i - 1]? = some y ∧ ¬ y.Key < x.Key := by
    apply Classical.byContradiction
    intro hc
    apply hp
    intro x' hx'
    rw [hx] at hx'; cases hx'
    refine ⟨⟨a1, a2, a3, a4, a5, a6⟩, fun y h0 hy => ?_⟩
    apply Classical.byContradiction
    intro hlt; exact hc ⟨y, h0, hy, hlt⟩
   obtain ⟨y, h0, hy, hlt⟩ := this
   rw [if_neg (by simp; omega), if_neg (by simp; omega), if_neg (by simp; omega), if_neg (by simp; omega), if_neg (by simp; omega), if_neg (by simp; omega)]
   rw [y0x h0 (by omega)]
   rw [if_pos (by simp; omega), if_pos (by omega), Int.toNat_natCast, hy]
   simp only [Option.bind_some]
   rw [if_pos (by simp; omega)]
  ·unfold itemR at hr
   repeat' split
   all_goals first | rfl | (exfalso; simp_all <;> omega)

theorem idx_Txn (l : List Txn) (t : Txn) : ∃ v, y0f l t = some v ∧ (0 ≤ v ↔ t ∈ l) := by
 have hk : ∀ n i, ¬ i < l.length → yg l t (some (-1)) (n + 1) i = some (-1) := fun n i hi => by rw [yg, if_neg (by simpa using hi)]
 have hg : ∀ n i, i < l.length → ¬ l[i]? = some t → yg l t (some (-1)) (n + 1) i = yg l t (some (-1)) n (i + 1) := fun n i hi hp => by
  rw [yg, if_pos (by simpa using hi), va hi, if_neg]
  rw [z0d]; intro e; exact hp (by rw [List.getElem?_eq_getElem hi, ← e])
 have hb : ∀ n i, i < l.length → l[i]? = some t → yg l t (some (-1)) (n + 1) i = some (i : Int) := fun n i hi hp => by
  rw [yg, if_pos (by simpa using hi), va hi, if_pos]
  rw [List.getElem?_eq_getElem hi] at hp; rw [z0d]; cases hp; rfl
 simp only [y0f, withK]
 rcases z0g (f := fun i => some (i : Int)) hk hg hb with ⟨h, e⟩ | ⟨j, h1, h2, h3, e⟩
 ·refine ⟨-1, e, by omega, fun hm => ?_⟩
  obtain ⟨j, hj, rfl⟩ := List.getElem_of_mem hm
  exact absurd ⟨j, hj, by simp [hj]⟩ h
 ·exact ⟨j, e, fun _ => List.mem_of_getElem? h2, fun _ => by omega⟩
theorem z0j (l : List Txn) (t : Txn) : vn l t = some (decide (t ∈ l)) := by
 obtain ⟨v, h1, h2⟩ := idx_Txn l t
 simp only [vn, h1, Option.bind_some]
 congr 1; rw [decide_eq_decide]; exact h2
theorem v3j (l : List Lock) (q : Lock → Bool) : (¬ (∃ x ∈ l, q x = true) ∧ wh l (fun x => some (q x)) = some (-1)) ∨ ∃ (j : Nat) (x : Lock), l[j]? = some x ∧ q x = true ∧ (∀ m y, m < j → l[m]? = some y → ¬ q y = true) ∧ wh l (fun x => some (q x)) = some (j : Int) := by
 have hk : ∀ n i, ¬ i < l.length → yb l (fun x => some (q x)) (some (-1)) (n + 1) i = some (-1) := fun n i hi => by rw [yb, if_neg (by simpa using hi)]
 have hg : ∀ n i, i < l.length → ¬ (∃ x, l[i]? = some x ∧ q x = true) → yb l (fun x => some (q x)) (some (-1)) (n + 1) i = yb l (fun x => some (q x)) (some (-1)) n (i + 1) := fun n i hi hp => by
  rw [yb, if_pos (by simpa using hi), va hi]
  simp only [Option.bind_some]
  rw [if_neg]; intro e; exact hp ⟨_, List.getElem?_eq_getElem hi, e⟩
 have hb : ∀ n i, i < l.length → (∃ x, l[i]? = some x ∧ q x = true) → yb l (fun x => some (q x)) (some (-1)) (n + 1) i = some (i : Int) := fun n i hi hp => by
  obtain ⟨x, hx, hp⟩ := hp
  rw [yb, if_pos (by simpa using hi), va hi]
  rw [List.getElem?_eq_getElem hi] at hx; cases hx
  simp only [Option.bind_some]
  rw [if_pos hp]
 simp only [wh, withK]
 rcases z0g (f := fun i => some (i : Int)) hk hg hb with ⟨h, e⟩ | ⟨j, h1, ⟨x, h2, h2'⟩, h3, e⟩
 ·refine .inl ⟨?_, e⟩
  rintro ⟨x, hm, hq⟩
  obtain ⟨j, hj, rfl⟩ := List.getElem_of_mem hm
  exact h ⟨j, hj, _, by simp [hj], hq⟩
 ·exact .inr ⟨j, x, h2, h2', fun m y hm hy hq => h3 m hm ⟨y, hy, hq⟩, e⟩
theorem u1i (l : List Lock) (q : Lock → Bool) : xm l (fun x => some (q x)) = some (decide (∃ x ∈ l, q x = true)) := by
 simp only [xm]
 rcases v3j l q with ⟨h, e⟩ | ⟨j, x, h2, h3, h4, e⟩
 ·rw [e]; simp [h]
 ·rw [e]
  have : ∃ x ∈ l, q x = true := ⟨x, List.mem_of_getElem? h2, h3⟩
  simp [this]
theorem u3b (l : List Doubt) (q : Doubt → Bool) : (¬ (∃ x ∈ l, q x = true) ∧ uk l (fun x => some (q x)) = some (-1)) ∨ ∃ (j : Nat) (x : Doubt), l[j]? = some x ∧ q x = true ∧ (∀ m y, m < j → l[m]? = some y → ¬ q y = true) ∧ uk l (fun x => some (q x)) = some (j : Int) := by
 have hk : ∀ n i, ¬ i < l.length → xc l (fun x => some (q x)) (some (-1)) (n + 1) i = some (-1) := fun n i hi => by rw [xc, if_neg (by simpa using hi)]
 have hg : ∀ n i, i < l.length → ¬ (∃ x, l[i]? = some x ∧ q x = true) → xc l (fun x => some (q x)) (some (-1)) (n + 1) i = xc l (fun x => some (q x)) (some (-1)) n (i + 1) := fun n i hi hp => by
  rw [xc, if_pos (by simpa using hi), va hi]
  simp only [Option.bind_some]
  rw [if_neg]; intro e; exact hp ⟨_, List.getElem?_eq_getElem hi, e⟩
 have hb : ∀ n i, i < l.length → (∃ x, l[i]? = some x ∧ q x = true) → xc l (fun x => some (q x)) (some (-1)) (n + 1) i = some (i : Int) := fun n i hi hp => by
  obtain ⟨x, hx, hp⟩ := hp
  rw [xc, if_pos (by simpa using hi), va hi]
  rw [List.getElem?_eq_getElem hi] at hx; cases hx
  simp only [Option.bind_some]
  rw [if_pos hp]
 simp only [uk, withK]
 rcases z0g (f := fun i => some (i : Int)) hk hg hb with ⟨h, e⟩ | ⟨j, h1, ⟨x, h2, h2'⟩, h3, e⟩
 ·refine .inl ⟨?_, e⟩
  rintro ⟨x, hm, hq⟩
  obtain ⟨j, hj, rfl⟩ := List.getElem_of_mem hm
  exact h ⟨j, hj, _, by simp [hj], hq⟩
 ·exact .inr ⟨j, x, h2, h2', fun m y hm hy hq => h3 m hm ⟨y, hy, hq⟩, e⟩
theorem v2n (l : List Doubt) (q : Doubt → Bool) : zq l (fun x => some (q x)) = some (decide (∃ x ∈ l, q x = true)) := by
 simp only [zq]
 rcases u3b l q with ⟨h, e⟩ | ⟨j, x, h2, h3, h4, e⟩
 ·rw [e]; simp [h]
 ·rw [e]
  have : ∃ x ∈ l, q x = true := ⟨x, List.mem_of_getElem? h2, h3⟩
  simp [this]
def x0f (s : Store) (t : Txn) : Prop := ∃ d ∈ s.Doubts, d.Txn = t
def x2c (s : Store) (t : Txn) : Prop := ∃ x ∈ s.Locks, x.Txn = t
theorem v1t (s : Store) (t : Txn) : w0g s t = some (decide (x0f s t)) := by
 simp only [w0g, y0g, v2n, Option.bind_some, z0d]
 congr 1; rw [decide_eq_decide]; exact Iff.rfl
theorem v3z (s : Store) (d : Doubt) : xm s.Locks (fun y => z0f y d) = some (decide (x2c s d.Txn)) := by
 simp only [z0f, u1i, z0d]
 congr 1; rw [decide_eq_decide]; exact Iff.rfl

def x2e (s : Store) (i : Nat) : Prop := ∀ d, s.Doubts[i]? = some d → txnR d.Txn ∧ 0 ≤ d.Age ∧ d.Age ≤ 1048576 ∧ ¬ d.Txn ∈ s.Over ∧ x2c s d.Txn ∧ ∀ j e, j < i → s.Doubts[j]? = some e → ¬ e.Txn = d.Txn
def w2g (s : Store) (i : Nat) : Prop := ∀ t, s.Over[i]? = some t → txnR t ∧ ∀ j u, j < i → s.Over[j]? = some u → ¬ u = t
def meets (x y : Lock) : Prop := y.Key = x.Key ∧ (y.Txn = x.Txn ∨ y.Write = true ∨ x.Write = true)
def u3a (s : Store) (i : Nat) : Prop := ∀ x, s.Locks[i]? = some x → x0f s x.Txn ∧ 0 ≤ x.Key ∧ x.Key < 8 ∧ 0 ≤ x.Value ∧ x.Value ≤ 1073741824 ∧ 0 ≤ x.Ask ∧ x.Ask ≤ 1048576 ∧ (x.Write = false → x.Value = 0 ∧ x.Ask = 0) ∧ ∀ j y, j < i → s.Locks[j]? = some y → ¬ meets x y
def May (s : Store) : Prop := u0e s.Items ∧ (∀ i, i < s.Doubts.length → x2e s i) ∧ (∀ i, i < s.Over.length → w2g s i) ∧ (∀ i, i < s.Locks.length → u3a s i) ∧ s.Locks.length ≤ 24
theorem d2 (s : Store) (i : Nat) (hi : i < s.Doubts.length) (d : Doubt) (k : Option Bool) : yp s i d k (min i s.Doubts.length + 1) 0 = if ∀ j e, j < i → s.Doubts[j]? = some e → ¬ e.Txn = d.Txn then k else some false := by
 have hm : min i s.Doubts.length = i := by omega
 rw [x0l (L := yp s i d k) (len := min i s.Doubts.length) (k := k) (bad := some false) (p := fun j => ∀ e, s.Doubts[j]? = some e → ¬ e.Txn = d.Txn)]
 ·rw [hm]
  by_cases h : ∀ j e, j < i → s.Doubts[j]? = some e → ¬ e.Txn = d.Txn
  ·rw [if_pos h, if_pos (fun j hj e he => h j e hj he)]
  ·rw [if_neg h, if_neg (fun q => h fun j e hj he => q j hj e he)]
 ·intro n j hj; rw [yp, if_neg (by simpa using hj)]
 ·intro n j hj hp
  have hl : j < s.Doubts.length := by omega
  rw [yp, if_pos (by simpa using hj), List.getElem?_take, if_pos (by omega), va hl, if_neg]
  rw [z0d]; exact hp _ (List.getElem?_eq_getElem hl)
 ·intro n j hj hp
  have hl : j < s.Doubts.length := by omega
  rw [yp, if_pos (by simpa using hj), List.getElem?_take, if_pos (by omega), va hl, if_pos]
  rw [z0d]
  exact Classical.byContradiction fun hc => hp fun e he => by rw [List.getElem?_eq_getElem hl] at he; cases he; exact hc
theorem z4z (s : Store) : v0l s = some (decide (∀ i, i < s.Doubts.length → x2e s i) && decide (∀ i, i < s.Over.length → w2g s i)) := by
 have o : xt s (some true) (s.Over.length + 1) 0 = some (decide (∀ i, i < s.Over.length → w2g s i) && true) := by
  refine u0o ?_ ?_ ?_
  ·intro n i hi; rw [xt, if_neg (by simpa using hi)]
  ·intro n i hi hp
   obtain ⟨h1, h2⟩ := hp _ (List.getElem?_eq_getElem hi)
   rw [xt, if_pos (by simpa using hi), va hi, w0l, decide_eq_true h1]
   simp only [Option.bind_some, Bool.not_true, Bool.false_eq_true, if_false, z0j]
   rw [if_neg]
   rw [decide_eq_true_eq, List.mem_take_iff_getElem]
   rintro ⟨j, hj, e⟩
   exact h2 j _ (by omega) (List.getElem?_eq_getElem (by omega)) e
  ·intro n i hi hp
   rw [xt, if_pos (by simpa using hi), va hi, w0l]
   by_cases h1 : txnR s.Over[i]
   ·rw [decide_eq_true h1]
    simp only [Option.bind_some, Bool.not_true, Bool.false_eq_true, if_false, z0j]
    rw [if_pos]
    rw [decide_eq_true_eq, List.mem_take_iff_getElem]
    apply Classical.byContradiction
    intro hc
    apply hp
    intro t ht
    rw [List.getElem?_eq_getElem hi] at ht; cases ht
    refine ⟨h1, fun j u hj hu e => hc ⟨j, ?_, ?_⟩⟩
    ·have := zj hu; omega
    ·rw [List.getElem?_eq_getElem (zj hu)] at hu; exact (Option.some.inj hu).trans e
   ·rw [decide_eq_false h1]; rfl
 simp only [v0l, withK]
 rw [o, Bool.and_true]
 refine u0o ?_ ?_ ?_
 ·intro n i hi; rw [vv, if_neg (by simpa using hi)]
 ·intro n i hi hp
  obtain ⟨h1, h2, h3, h4, h5, h6⟩ := hp _ (List.getElem?_eq_getElem hi)
  rw [vv, if_pos (by simpa using hi), va hi, w0l, decide_eq_true h1]
  simp only [Option.bind_some, Bool.not_true, Bool.false_eq_true, if_false, z0j, withK, v3z, decide_eq_true h5, decide_eq_false h4]
  rw [if_neg (by simp; omega), if_neg (by simp; omega), d2 s i hi, if_pos h6]
 ·intro n i hi hp
  rw [vv, if_pos (by simpa using hi), va hi, w0l]
  simp only [Option.bind_some, z0j, withK, v3z, d2 s i hi]
  by_cases h1 : txnR s.Doubts[i].Txn
  case neg => simp [h1]
  by_cases h2 : s.Doubts[i].Age < 0
  case pos => simp [h1, h2]
  by_cases h3 : s.Doubts[i].Age > 1048576
  case pos => simp [h1, h2, h3]
  by_cases h4 : s.Doubts[i].Txn ∈ s.Over
  case pos => simp [h1, h2, h3, h4]
  by_cases h5 : x2c s s.Doubts[i].Txn
  case neg => simp [h1, h2, h3, h4, h5]
  have h6 : ¬ ∀ j e, j < i → s.Doubts[j]? = some e → ¬ e.Txn = s.Doubts[i].Txn := fun q => hp fun d hd => by
   rw [List.getElem?_eq_getElem hi] at hd; cases hd
   exact ⟨h1, by omega, by omega, h4, h5, q⟩
  rw [if_neg h6]
  simp [h1, h2, h3, h4, h5]

theorem l2 (s : Store) (i : Nat) (hi : i < s.Locks.length) (x : Lock) (hw : x.Write = false) (k : Option Bool) : yr s i x k (min i s.Locks.length + 1) 0 = if ∀ j y, j < i → s.Locks[j]? = some y → ¬ meets x y then k else some false := by
 have hm : min i s.Locks.length = i := by omega
 rw [x0l (L := yr s i x k) (len := min i s.Locks.length) (k := k) (bad := some false) (p := fun j => ∀ y, s.Locks[j]? = some y → ¬ meets x y)]
 ·rw [hm]
  by_cases h : ∀ j y, j < i → s.Locks[j]? = some y → ¬ meets x y
  ·rw [if_pos h, if_pos (fun j hj e he => h j e hj he)]
  ·rw [if_neg h, if_neg (fun q => h fun j e hj he => q j hj e he)]
 ·intro n j hj; rw [yr, if_neg (by simpa using hj)]
 all_goals
  intro n j hj hp
  have hl : j < s.Locks.length := by omega
  rw [yr, if_pos (by simpa using hj), List.getElem?_take, if_pos (by omega), va hl]
  simp only [beq_iff_eq, z0d]
 ·have hp' := hp _ (List.getElem?_eq_getElem hl)
  simp only [meets, hw, Bool.false_eq_true, or_false, not_and, not_or] at hp'
  by_cases h1 : s.Locks[j].Key = x.Key
  ·rw [if_pos h1, if_neg (hp' h1).1, if_neg (hp' h1).2]
  ·rw [if_neg h1]
 ·have hp' : meets x s.Locks[j] := Classical.byContradiction fun hc => hp fun y hy => by rw [List.getElem?_eq_getElem hl] at hy; cases hy; exact hc
  obtain ⟨h1, h2⟩ := hp'
  rw [if_pos h1]
  by_cases h3 : s.Locks[j].Txn = x.Txn
  ·rw [if_pos h3]
  ·rw [if_neg h3, if_pos]
   rcases h2 with h | h | h
   ·exact absurd h h3
   ·exact h
   ·rw [hw] at h; cases h
theorem l3 (s : Store) (i : Nat) (hi : i < s.Locks.length) (x : Lock) (hw : x.Write = true) (k : Option Bool) : uu s i x k (min i s.Locks.length + 1) 0 = if ∀ j y, j < i → s.Locks[j]? = some y → ¬ meets x y then k else some false := by
 have hm : min i s.Locks.length = i := by omega
 rw [x0l (L := uu s i x k) (len := min i s.Locks.length) (k := k) (bad := some false) (p := fun j => ∀ y, s.Locks[j]? = some y → ¬ meets x y)]
 ·rw [hm]
  by_cases h : ∀ j y, j < i → s.Locks[j]? = some y → ¬ meets x y
  ·rw [if_pos h, if_pos (fun j hj e he => h j e hj he)]
  ·rw [if_neg h, if_neg (fun q => h fun j e hj he => q j hj e he)]
 ·intro n j hj; rw [uu, if_neg (by simpa using hj)]
 all_goals
  intro n j hj hp
  have hl : j < s.Locks.length := by omega
  rw [uu, if_pos (by simpa using hj), List.getElem?_take, if_pos (by omega), va hl]
  simp only [beq_iff_eq, z0d]
 ·have hp' := hp _ (List.getElem?_eq_getElem hl)
  simp only [meets, hw, or_true, and_true] at hp'
  rw [if_neg hp']
 ·have hp' : meets x s.Locks[j] := Classical.byContradiction fun hc => hp fun y hy => by rw [List.getElem?_eq_getElem hl] at hy; cases hy; exact hc
  rw [if_pos hp'.1]
  simp
theorem y4e {a b : Int} (h0 : 0 ≤ a) (h1 : a ≤ 2147483647) (h2 : 0 ≤ b) (h3 : b ≤ 2147483647) : IntKind.i64.wrap (a + b) = a + b := vw (by omega) (by omega)
theorem y5i (s : Store) : w0p s = some (decide (∀ i, i < s.Locks.length → u3a s i) && decide (s.Locks.length ≤ 24)) := by
 simp only [w0p, withK]
 rw [show decide (((s.Locks.length : Nat) : Int) ≤ 24) = decide (s.Locks.length ≤ 24) from by rw [decide_eq_decide]; omega]
 refine u0o ?_ ?_ ?_
 ·intro n i hi; rw [yv, if_neg (by simpa using hi)]
 ·intro n i hi hp
  obtain ⟨h1, h2, h3, h4, h5, h6, h7, h8, h9⟩ := hp _ (List.getElem?_eq_getElem hi)
  rw [yv, if_pos (by simpa using hi), va hi, v1t, decide_eq_true h1]
  simp only [Option.bind_some, Bool.not_true, Bool.false_eq_true, if_false, withK]
  rw [if_neg (by simp; omega), if_neg (by simp; omega), if_neg (by simp; omega), if_neg (by simp; omega), if_neg (by simp; omega), if_neg (by simp; omega)]
  cases hw : s.Locks[i].Write
  ·obtain ⟨e1, e2⟩ := h8 hw
   rw [if_pos (by simp), if_neg (by rw [e1, e2]; decide), l2 s i hi _ hw, if_pos h9]
  ·rw [if_neg (by simp), l3 s i hi _ hw, if_pos h9]
 ·intro n i hi hp
  rw [yv, if_pos (by simpa using hi), va hi, v1t]
  simp only [Option.bind_some, withK]
  by_cases h1 : x0f s s.Locks[i].Txn
  case neg => simp [h1]
  by_cases h2 : s.Locks[i].Key < 0
  case pos => simp [h1, h2]
  by_cases h3 : s.Locks[i].Key ≥ 8
  case pos => simp [h1, h2, h3]
  by_cases h4 : s.Locks[i].Value < 0
  case pos => simp [h1, h2, h3, h4]
  by_cases h5 : s.Locks[i].Value > 1073741824
  case pos => simp [h1, h2, h3, h4, h5]
  by_cases h6 : s.Locks[i].Ask < 0
  case pos => simp [h1, h2, h3, h4, h5, h6]
  by_cases h7 : s.Locks[i].Ask > 1048576
  case pos => simp [h1, h2, h3, h4, h5, h6, h7]
  rw [decide_eq_true h1, decide_eq_false h2, decide_eq_false h3, decide_eq_false h4, decide_eq_false h5, decide_eq_false h6, decide_eq_false h7]
  simp only [Bool.not_true, Bool.false_eq_true, if_false]
  cases hw : s.Locks[i].Write
  ·rw [if_pos (by simp), y4e (by omega) (by omega) (by omega) (by omega)]
   by_cases h8 : s.Locks[i].Value + s.Locks[i].Ask = 0
   ·rw [if_neg (by simp [h8]), l2 s i hi _ hw, if_neg]
    intro q
    apply hp
    intro x hx
    rw [List.getElem?_eq_getElem hi] at hx; cases hx
    exact ⟨h1, by omega, by omega, by omega, by omega, by omega, by omega, fun _ => by omega, q⟩
   ·rw [if_pos (by simp [h8])]
  ·rw [if_neg (by simp), l3 s i hi _ hw, if_neg]
   intro q
   apply hp
   intro x hx
   rw [List.getElem?_eq_getElem hi] at hx; cases hx
   exact ⟨h1, by omega, by omega, by omega, by omega, by omega, by omega, (fun h => by rw [hw] at h; cases h), q⟩
theorem v5l (s : Store) (hl : s.Items.length ≤ maxLen) : y0q s = some (if May s then 0 else 9) := by
 simp only [y0q, y2x s.Items hl, z4z, y5i, Option.bind_some]
 unfold May
 by_cases h1 : u0e s.Items
 case neg => simp [h1]
 by_cases h2 : ∀ i, i < s.Doubts.length → x2e s i
 case neg => rw [decide_eq_false h2, if_neg (fun h : _ ∧ _ => h2 h.2.1)]; simp [h1]
 by_cases h3 : ∀ i, i < s.Over.length → w2g s i
 case neg => rw [decide_eq_false h3, if_neg (fun h : _ ∧ _ => h3 h.2.2.1)]; simp [h1]
 by_cases h4 : ∀ i, i < s.Locks.length → u3a s i
 case neg => rw [decide_eq_true h2, decide_eq_true h3, decide_eq_false h4, if_neg (fun h : _ ∧ _ => h4 h.2.2.2.1)]; simp [h1]
 by_cases h5 : s.Locks.length ≤ 24
 case neg => rw [decide_eq_true h2, decide_eq_true h3, decide_eq_true h4, decide_eq_false h5, if_neg (fun h : _ ∧ _ => h5 h.2.2.2.2)]; simp [h1]
 have hm : u0e s.Items ∧ (∀ i, i < s.Doubts.length → x2e s i) ∧ (∀ i, i < s.Over.length → w2g s i) ∧ (∀ i, i < s.Locks.length → u3a s i) ∧ s.Locks.length ≤ 24 := ⟨h1, h2, h3, h4, h5⟩
 rw [if_pos hm, decide_eq_true h2, decide_eq_true h3, decide_eq_true h4, decide_eq_true h5]; simp [h1]

theorem u1t (s : Store) (t : Txn) : (¬ x0f s t ∧ yc s t = some (-1)) ∨ ∃ (j : Nat) (d : Doubt), s.Doubts[j]? = some d ∧ d.Txn = t ∧ (∀ m e, m < j → s.Doubts[m]? = some e → ¬ e.Txn = t) ∧ yc s t = some (j : Int) := by
 have hk : ∀ n i, ¬ i < s.Doubts.length → we s t (some (-1)) (n + 1) i = some (-1) := fun n i hi => by rw [we, if_neg (by simpa using hi)]
 have hg : ∀ n i, i < s.Doubts.length → ¬ (∃ d, s.Doubts[i]? = some d ∧ d.Txn = t) → we s t (some (-1)) (n + 1) i = we s t (some (-1)) n (i + 1) := fun n i hi hp => by
  rw [we, if_pos (by simpa using hi), va hi, if_neg]
  rw [z0d]; intro e; exact hp ⟨_, List.getElem?_eq_getElem hi, e⟩
 have hb : ∀ n i, i < s.Doubts.length → (∃ d, s.Doubts[i]? = some d ∧ d.Txn = t) → we s t (some (-1)) (n + 1) i = some (i : Int) := fun n i hi hp => by
  obtain ⟨x, hx, hp⟩ := hp
  rw [we, if_pos (by simpa using hi), va hi]
  rw [List.getElem?_eq_getElem hi] at hx; cases hx
  rw [if_pos (z0d.2 hp)]
 simp only [yc, withK]
 rcases z0g (f := fun i => some (i : Int)) hk hg hb with ⟨h, e⟩ | ⟨j, h1, ⟨x, h2, h2'⟩, h3, e⟩
 ·refine .inl ⟨?_, e⟩
  rintro ⟨x, hm, hq⟩
  obtain ⟨j, hj, rfl⟩ := List.getElem_of_mem hm
  exact h ⟨j, hj, _, by simp [hj], hq⟩
 ·exact .inr ⟨j, x, h2, h2', fun m y hm hy hq => h3 m hm ⟨y, hy, hq⟩, e⟩
theorem y0z (s : Store) (t : Txn) : zr s t = some (decide (t ∈ s.Over)) := by
 have hk : ∀ n i, ¬ i < s.Over.length → uf s t (some false) (n + 1) i = some false := fun n i hi => by rw [uf, if_neg (by simpa using hi)]
 have hg : ∀ n i, i < s.Over.length → ¬ s.Over[i]? = some t → uf s t (some false) (n + 1) i = uf s t (some false) n (i + 1) := fun n i hi hp => by
  rw [uf, if_pos (by simpa using hi), va hi, if_neg]
  rw [z0d]; intro e; exact hp (by rw [List.getElem?_eq_getElem hi, e])
 have hb : ∀ n i, i < s.Over.length → s.Over[i]? = some t → uf s t (some false) (n + 1) i = some true := fun n i hi hp => by
  rw [uf, if_pos (by simpa using hi), va hi, if_pos]
  rw [List.getElem?_eq_getElem hi] at hp; rw [z0d]; cases hp; rfl
 simp only [zr, withK]
 rcases z0g (f := fun _ => some true) hk hg hb with ⟨h, e⟩ | ⟨j, h1, h2, h3, e⟩
 ·have : ¬ t ∈ s.Over := fun hm => by
   obtain ⟨j, hj, rfl⟩ := List.getElem_of_mem hm
   exact h ⟨j, hj, by simp [hj]⟩
  rw [e, decide_eq_false this]
 ·rw [e, decide_eq_true (List.mem_of_getElem? h2)]
theorem rItems (s : Store) (hl : s.Items.length ≤ maxLen) (q : Bool) : ue s (some q) (s.Items.length + 1) 0 = some (decide (u0e s.Items) && q) := by
 have key : ue s (some q) (s.Items.length + 1) 0 = some (decide (∀ j, j < s.Items.length → z3q s.Items j) && q) := by
  refine u0o ?_ ?_ ?_
  ·intro n i hi; rw [ue, if_neg (by simpa using hi)]
  ·intro n i hi hp
   obtain ⟨⟨a1, a2, a3, a4, a5, a6⟩, hq⟩ := hp _ (List.getElem?_eq_getElem hi)
   rw [ue, if_pos (by simpa using hi), va hi]
   simp only [In_eq, Option.bind_some]
   rw [if_neg (by simp; omega), if_neg (by simp; omega), if_neg (by simp; omega)]
   by_cases h0 : 0 < i
   ·rw [y0x h0 (by omega), if_pos (by simp; omega), if_pos (by omega), Int.toNat_natCast, va (by omega), if_neg]
    have := hq _ h0 (List.getElem?_eq_getElem (by omega))
    simp; omega
   ·rw [if_neg (by simp; omega)]
  ·intro n i hi hp
   rw [ue, if_pos (by simpa using hi), va hi]
   simp only [In_eq, Option.bind_some]
   by_cases hr : itemR s.Items[i]
   ·obtain ⟨a1, a2, a3, a4, a5, a6⟩ := hr
    rw [if_neg (by simp; omega), if_neg (by simp; omega), if_neg (by simp; omega)]
    have : 0 < i ∧ ∀ (h : i - 1 < s.Items.length), ¬ (s.Items[i - 1]'h).Key < s.Items[i].Key := by
     apply Classical.byContradiction
     intro hc
     apply hp
     intro x hx
     rw [List.getElem?_eq_getElem hi] at hx; cases hx
     refine ⟨⟨a1, a2, a3, a4, a5, a6⟩, fun y h0 hy => ?_⟩
     apply Classical.byContradiction
     intro hlt
     refine hc ⟨h0, fun h => ?_⟩
     rw [List.getElem?_eq_getElem h] at hy; cases hy; exact hlt
    obtain ⟨h0, hlt⟩ := this
    have := hlt (by omega)
    rw [y0x h0 (by omega), if_pos (by simp; omega), if_pos (by omega), Int.toNat_natCast, va (by omega), if_pos]
    simp; omega
   ·unfold itemR at hr
    by_cases h1 : 0 ≤ s.Items[i].Key ∧ s.Items[i].Key ≤ 7
    case neg => rw [decide_eq_false h1]; rfl
    by_cases h2 : 0 ≤ s.Items[i].Value ∧ s.Items[i].Value ≤ 1073741824
    case neg => rw [decide_eq_true h1, decide_eq_false h2]; rfl
    by_cases h3 : 1 ≤ s.Items[i].Version ∧ s.Items[i].Version ≤ 1048576
    case neg => rw [decide_eq_true h1, decide_eq_true h2, decide_eq_false h3]; rfl
    exfalso; apply hr; omega
 rw [key]; congr 2; rw [decide_eq_decide]; exact Iff.rfl
theorem rl3 (s : Store) (i : Nat) (hi : i < s.Locks.length) (x : Lock) (hw : x.Write = false) (k : Option Bool) : vg s i x k (i + 1) 0 = if ∀ j y, j < i → s.Locks[j]? = some y → ¬ meets x y then k else some false := by
 rw [x0l (L := vg s i x k) (len := i) (k := k) (bad := some false) (p := fun j => ∀ y, s.Locks[j]? = some y → ¬ meets x y)]
 ·by_cases h : ∀ j y, j < i → s.Locks[j]? = some y → ¬ meets x y
  ·rw [if_pos h, if_pos (fun j hj e he => h j e hj he)]
  ·rw [if_neg h, if_neg (fun q => h fun j e hj he => q j hj e he)]
 ·intro n j hj; rw [vg, if_neg (by simpa using hj)]
 all_goals
  intro n j hj hp
  have hl : j < s.Locks.length := by omega
  rw [vg, if_pos (by simpa using hj), va hl]
  simp only [beq_iff_eq, z0d]
 ·have hp' := hp _ (List.getElem?_eq_getElem hl)
  simp only [meets, hw, Bool.false_eq_true, or_false, not_and, not_or] at hp'
  by_cases h1 : x.Key = s.Locks[j].Key
  ·rw [if_pos h1, if_neg (fun h => (hp' h1.symm).1 h.symm), if_neg (hp' h1.symm).2]
  ·rw [if_neg h1]
 ·have hp' : meets x s.Locks[j] := Classical.byContradiction fun hc => hp fun y hy => by rw [List.getElem?_eq_getElem hl] at hy; cases hy; exact hc
  obtain ⟨h1, h2⟩ := hp'
  rw [if_pos h1.symm]
  by_cases h3 : x.Txn = s.Locks[j].Txn
  ·rw [if_pos h3]
  ·rw [if_neg h3, if_pos]
   rcases h2 with h | h | h
   ·exact absurd h.symm h3
   ·exact h
   ·rw [hw] at h; cases h
theorem rl4 (s : Store) (i : Nat) (hi : i < s.Locks.length) (x : Lock) (hw : x.Write = true) (k : Option Bool) : vi s i x k (i + 1) 0 = if ∀ j y, j < i → s.Locks[j]? = some y → ¬ meets x y then k else some false := by
 rw [x0l (L := vi s i x k) (len := i) (k := k) (bad := some false) (p := fun j => ∀ y, s.Locks[j]? = some y → ¬ meets x y)]
 ·by_cases h : ∀ j y, j < i → s.Locks[j]? = some y → ¬ meets x y
  ·rw [if_pos h, if_pos (fun j hj e he => h j e hj he)]
  ·rw [if_neg h, if_neg (fun q => h fun j e hj he => q j hj e he)]
 ·intro n j hj; rw [vi, if_neg (by simpa using hj)]
 all_goals
  intro n j hj hp
  have hl : j < s.Locks.length := by omega
  rw [vi, if_pos (by simpa using hj), va hl]
  simp only [beq_iff_eq, z0d]
 ·have hp' := hp _ (List.getElem?_eq_getElem hl)
  simp only [meets, hw, or_true, and_true] at hp'
  rw [if_neg (fun h => hp' h.symm)]
 ·have hp' : meets x s.Locks[j] := Classical.byContradiction fun hc => hp fun y hy => by rw [List.getElem?_eq_getElem hl] at hy; cases hy; exact hc
  rw [if_pos hp'.1.symm]
  simp
theorem rLocks (s : Store) (q : Bool) : ug s (some q) (s.Locks.length + 1) 0 = some (decide (∀ i, i < s.Locks.length → u3a s i) && q) := by
 have hd : ∀ t, ∃ v, yc s t = some v ∧ (v < 0 ↔ ¬ x0f s t) := by
  intro t
  rcases u1t s t with ⟨h, e⟩ | ⟨j, d, h1, h2, h3, e⟩
  ·exact ⟨_, e, by simp [h]⟩
  ·have : x0f s t := ⟨d, List.mem_of_getElem? h1, h2⟩
   exact ⟨_, e, by simp [this]⟩
 refine u0o ?_ ?_ ?_
 ·intro n i hi; rw [ug, if_neg (by simpa using hi)]
 ·intro n i hi hp
  obtain ⟨h1, h2, h3, h4, h5, h6, h7, h8, h9⟩ := hp _ (List.getElem?_eq_getElem hi)
  obtain ⟨v, e, hv⟩ := hd s.Locks[i].Txn
  rw [ug, if_pos (by simpa using hi), va hi, e]
  simp only [Option.bind_some, withK, In_eq]
  rw [if_neg (by rw [decide_eq_true_eq]; exact fun h => hv.1 h h1), if_neg (by simp; omega), if_neg (by simp; omega), if_neg (by simp; omega)]
  cases hw : s.Locks[i].Write
  ·obtain ⟨e1, e2⟩ := h8 hw
   rw [if_pos (by simp), if_neg (by simp [e1]), if_neg (by simp [e2]), rl3 s i hi _ hw, if_pos h9]
  ·rw [if_neg (by simp), rl4 s i hi _ hw, if_pos h9]
 ·intro n i hi hp
  obtain ⟨v, e, hv⟩ := hd s.Locks[i].Txn
  rw [ug, if_pos (by simpa using hi), va hi, e]
  simp only [Option.bind_some, withK, In_eq]
  by_cases h1 : v < 0
  case pos => rw [if_pos (by simpa using h1)]
  have h1' : x0f s s.Locks[i].Txn := Classical.byContradiction fun h => h1 (hv.2 h)
  rw [if_neg (by simpa using h1)]
  by_cases h2 : 0 ≤ s.Locks[i].Key ∧ s.Locks[i].Key ≤ 7
  case neg => rw [decide_eq_false h2]; rfl
  by_cases h3 : 0 ≤ s.Locks[i].Value ∧ s.Locks[i].Value ≤ 1073741824
  case neg => rw [decide_eq_true h2, decide_eq_false h3]; rfl
  by_cases h4 : 0 ≤ s.Locks[i].Ask ∧ s.Locks[i].Ask ≤ 1048576
  case neg => rw [decide_eq_true h2, decide_eq_true h3, decide_eq_false h4]; rfl
  rw [decide_eq_true h2, decide_eq_true h3, decide_eq_true h4]
  simp only [Bool.not_true, Bool.false_eq_true, if_false]
  cases hw : s.Locks[i].Write
  ·rw [if_pos (by simp)]
   by_cases h5 : s.Locks[i].Value = 0
   case neg => rw [if_pos (by simp [h5])]
   by_cases h6 : s.Locks[i].Ask = 0
   case neg => rw [if_neg (by simp [h5]), if_pos (by simp [h6])]
   rw [if_neg (by simp [h5]), if_neg (by simp [h6]), rl3 s i hi _ hw, if_neg]
   intro q
   apply hp
   intro x hx
   rw [List.getElem?_eq_getElem hi] at hx; cases hx
   exact ⟨h1', by omega, by omega, by omega, by omega, by omega, by omega, fun _ => ⟨h5, h6⟩, q⟩
  ·rw [if_neg (by simp), rl4 s i hi _ hw, if_neg]
   intro q
   apply hp
   intro x hx
   rw [List.getElem?_eq_getElem hi] at hx; cases hx
   exact ⟨h1', by omega, by omega, by omega, by omega, by omega, by omega, (fun h => by rw [hw] at h; cases h), q⟩
theorem rHand (s : Store) (d : Doubt) (k : Bool → Option Bool) : ∀ n b i, s.Locks.length < n + i → i ≤ s.Locks.length → yl s d k n b i = k (b || decide (∃ (j : Nat) (x : Lock), i ≤ j ∧ s.Locks[j]? = some x ∧ x.Txn = d.Txn)) := by
 intro n
 induction n with
 | zero => intro b i h1 h2; omega
 | succ n ih =>
  intro b i h1 h2
  rw [yl]
  by_cases hi : i < s.Locks.length
  ·rw [if_pos (by simpa using hi)]
   cases b
   ·rw [if_neg (by simp), va hi, ih _ _ (by omega) (by omega)]
    congr 1
    rw [Bool.false_or, Bool.eq_iff_iff, Bool.or_eq_true, decide_eq_true_eq, decide_eq_true_eq, z0d]
    constructor
    ·rintro (h | ⟨j, x, h3, h4, h5⟩)
     ·exact ⟨i, _, Nat.le_refl _, List.getElem?_eq_getElem hi, h⟩
     ·exact ⟨j, x, by omega, h4, h5⟩
    ·rintro ⟨j, x, h3, h4, h5⟩
     rcases Nat.eq_or_lt_of_le h3 with rfl | h6
     ·rw [List.getElem?_eq_getElem hi] at h4; cases h4; exact .inl h5
     ·exact .inr ⟨j, x, h6, h4, h5⟩
   ·rw [if_pos rfl, ih _ _ (by omega) (by omega)]; rfl
  ·rw [if_neg (by simpa using hi)]
   congr 1
   have : ¬ ∃ (j : Nat) (x : Lock), i ≤ j ∧ s.Locks[j]? = some x ∧ x.Txn = d.Txn := by
    rintro ⟨j, x, h3, h4, _⟩; have := zj h4; omega
   rw [decide_eq_false this, Bool.or_false]
theorem rDoubts (s : Store) (hl : s.Doubts.length ≤ maxLen) (q : Bool) : wi s (some q) (s.Doubts.length + 1) 0 = some (decide (∀ i, i < s.Doubts.length → x2e s i) && q) := by
 have hh : ∀ d : Doubt, (∃ (j : Nat) (x : Lock), 0 ≤ j ∧ s.Locks[j]? = some x ∧ x.Txn = d.Txn) ↔ x2c s d.Txn := by
  intro d
  constructor
  ·rintro ⟨j, x, _, h1, h2⟩; exact ⟨x, List.mem_of_getElem? h1, h2⟩
  ·rintro ⟨x, hm, h2⟩
   obtain ⟨j, hj, rfl⟩ := List.getElem_of_mem hm
   exact ⟨j, _, Nat.zero_le _, List.getElem?_eq_getElem hj, h2⟩
 have first : ∀ i (hi : i < s.Doubts.length), ∃ v, yc s s.Doubts[i].Txn = some v ∧ (v = (i : Int) ↔ ∀ j e, j < i → s.Doubts[j]? = some e → ¬ e.Txn = s.Doubts[i].Txn) := by
  intro i hi
  rcases u1t s s.Doubts[i].Txn with ⟨h, e⟩ | ⟨j, d, h1, h2, h3, e⟩
  ·exact absurd ⟨_, List.getElem_mem hi, rfl⟩ h
  ·refine ⟨_, e, ?_⟩
   constructor
   ·intro hji m e' hm he
    obtain rfl : j = i := by omega
    exact h3 m e' hm he
   ·intro hq
    have h4 : ¬ j < i := fun h => hq j d h h1 h2
    have h5 : ¬ i < j := fun h => h3 i _ h (List.getElem?_eq_getElem hi) rfl
    have : j = i := by omega
    rw [this]
 refine u0o ?_ ?_ ?_
 ·intro n i hi; rw [wi, if_neg (by simpa using hi)]
 ·intro n i hi hp
  obtain ⟨h1, h2, h3, h4, h5, h6⟩ := hp _ (List.getElem?_eq_getElem hi)
  obtain ⟨v, e, hv⟩ := first i hi
  rw [wi, if_pos (by simpa using hi), va hi]
  simp only [withK]
  rw [rHand s _ _ _ _ _ (by omega) (by omega)]
  simp only [hh, y0r, y0z, In_eq, e, Option.bind_some, decide_eq_true h1, decide_eq_true h5, decide_eq_false h4, Bool.false_or, Bool.not_true, Bool.false_eq_true, if_false]
  rw [if_neg (by simp; omega), if_neg (by simp [hv.2 h6])]
 ·intro n i hi hp
  obtain ⟨v, e, hv⟩ := first i hi
  rw [wi, if_pos (by simpa using hi), va hi]
  simp only [withK]
  rw [rHand s _ _ _ _ _ (by omega) (by omega)]
  simp only [hh, y0r, y0z, In_eq, e, Option.bind_some, Bool.false_or]
  by_cases h1 : txnR s.Doubts[i].Txn
  case neg => simp [h1]
  by_cases h2 : 0 ≤ s.Doubts[i].Age ∧ s.Doubts[i].Age ≤ 1048576
  case neg => rw [decide_eq_true h1, decide_eq_false h2]; rfl
  by_cases h3 : x2c s s.Doubts[i].Txn
  case neg => rw [decide_eq_true h1, decide_eq_true h2, decide_eq_false h3]; rfl
  rw [decide_eq_true h1, decide_eq_true h2, decide_eq_true h3]
  simp only [Bool.not_true, Bool.false_eq_true, if_false]
  by_cases h4 : v = (i : Int)
  case neg => rw [if_pos (by simp [h4])]
  rw [if_neg (by simp [h4])]
  by_cases h5 : s.Doubts[i].Txn ∈ s.Over
  case pos => rw [if_pos (by simp [h5])]
  exfalso; apply hp
  intro d hd
  rw [List.getElem?_eq_getElem hi] at hd; cases hd
  exact ⟨h1, h2.1, h2.2, h5, h3, hv.1 h4⟩
theorem rOver (s : Store) (q : Bool) : xi s (some q) (s.Over.length + 1) 0 = some (decide (∀ i, i < s.Over.length → w2g s i) && q) := by
 have inner : ∀ i (hi : i < s.Over.length) (k : Option Bool), wg s i k (i + 1) 0 = if ∀ j u, j < i → s.Over[j]? = some u → ¬ u = s.Over[i] then k else some false := by
  intro i hi k
  rw [x0l (L := wg s i k) (len := i) (k := k) (bad := some false) (p := fun j => ∀ u, s.Over[j]? = some u → ¬ u = s.Over[i])]
  ·by_cases h : ∀ j u, j < i → s.Over[j]? = some u → ¬ u = s.Over[i]
   ·rw [if_pos h, if_pos (fun j hj e he => h j e hj he)]
   ·rw [if_neg h, if_neg (fun q => h fun j e hj he => q j hj e he)]
  ·intro n j hj; rw [wg, if_neg (by simpa using hj)]
  ·intro n j hj hp
   have hl : j < s.Over.length := by omega
   rw [wg, if_pos (by simpa using hj), va hl, va hi, if_neg]
   rw [z0d]; exact hp _ (List.getElem?_eq_getElem hl)
  ·intro n j hj hp
   have hl : j < s.Over.length := by omega
   rw [wg, if_pos (by simpa using hj), va hl, va hi, if_pos]
   rw [z0d]
   exact Classical.byContradiction fun hc => hp fun u hu => by rw [List.getElem?_eq_getElem hl] at hu; exact fun e => hc ((Option.some.inj hu).trans e)
 refine u0o ?_ ?_ ?_
 ·intro n i hi; rw [xi, if_neg (by simpa using hi)]
 ·intro n i hi hp
  obtain ⟨h1, h2⟩ := hp _ (List.getElem?_eq_getElem hi)
  rw [xi, if_pos (by simpa using hi)]
  simp only [withK]
  rw [inner i hi, if_pos h2, va hi, y0r, decide_eq_true h1]; rfl
 ·intro n i hi hp
  rw [xi, if_pos (by simpa using hi)]
  simp only [withK]
  rw [inner i hi, va hi, y0r]
  by_cases h2 : ∀ j u, j < i → s.Over[j]? = some u → ¬ u = s.Over[i]
  case neg => rw [if_neg h2]
  rw [if_pos h2]
  by_cases h1 : txnR s.Over[i]
  ·exfalso; apply hp
   intro t ht
   rw [List.getElem?_eq_getElem hi] at ht; cases ht
   exact ⟨h1, h2⟩
  ·rw [decide_eq_false h1]; rfl
theorem May_eq (s : Store) (h1 : s.Items.length ≤ maxLen) (h2 : s.Doubts.length ≤ maxLen) : z0b s = some (decide (May s)) := by
 simp only [z0b, withK]
 by_cases h5 : s.Locks.length ≤ 24
 ·rw [if_neg (by simp; omega)]
  rw [rOver, rDoubts s h2, rLocks, rItems s h1]
  congr 1
  rw [Bool.eq_iff_iff, decide_eq_true_eq (p := May s)]
  simp only [Bool.and_eq_true, decide_eq_true_eq, and_true]
  unfold May
  constructor
  ·rintro ⟨a, b, c, d⟩; exact ⟨a, c, d, b, h5⟩
  ·rintro ⟨a, c, d, b, _⟩; exact ⟨a, b, c, d⟩
 ·rw [if_pos (by simp; omega), decide_eq_false (fun h : May s => h5 h.2.2.2.2)]

end Go.V.Dec
