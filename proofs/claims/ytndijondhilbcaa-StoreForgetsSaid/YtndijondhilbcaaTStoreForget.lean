/- Plain laws (StoreForget): no program, no memory; conditions as stated. -/
import Derived.Test.YtndijondhilbcaaK3
import Derived.Test.YtndijondhilbcaaTStoreAsk
import Derived.Test.YtndijondhilbcaaTStoreCopy
import Derived.Test.YtndijondhilbcaaTStoreLens
set_option linter.unusedVariables false
set_option linter.unusedSimpArgs false
namespace Go.V.Dec
open Go Go.Proofs Classical
set_option maxRecDepth 100000
set_option maxHeartbeats 4000000
theorem take_set_snoc {α : Type} {l : List α} {i : Nat} {x : α} (h : i < l.length) : (l.set i x).take (i + 1) = l.take i ++ [x] := by
  rw [List.take_add_one, List.take_set_of_le (Nat.le_refl i)]
  simp [h]
theorem drop_set_lt {α : Type} {l : List α} {i j : Nat} {x : α} (h : i < j) : (l.set i x).drop j = l.drop j := by
  rw [List.drop_set, if_pos h]
theorem wrap_succ_nat {i : Nat} (h : i < maxLen) : IntKind.i64.wrap ((i : Int) + 1) = ((i + 1 : Nat) : Int) := wrap_succ_max h (Nat.le_refl _)
/-- What a loop that drops some elements in place comes to. -/
theorem del_loop {α R : Type} {p : α → Bool} {L : Nat → Int → Int → List α → Option R} {k : Int → List α → Option R} {orig : List α} (hmax : orig.length ≤ maxLen)
    (hk : ∀ n i (j : Nat) l, ¬ j < l.length → L (n + 1) i j l = k i l)
    (hd : ∀ n (i j : Nat) l x, l[j]? = some x → p x = true → L (n + 1) i j l = L n i (IntKind.i64.wrap ((j : Int) + 1)) l)
    (hs : ∀ n (i j : Nat) l x, l[j]? = some x → p x = false → i < l.length → L (n + 1) i j l = L n (IntKind.i64.wrap ((i : Int) + 1)) (IntKind.i64.wrap ((j : Int) + 1)) (l.set i x)) :
    ∀ n (i j : Nat) l, l.length = orig.length → l.length < n + j → i ≤ j → j ≤ l.length → l.drop j = orig.drop j → l.take i = (orig.take j).filter (fun x => !p x) →
      ∃ (i' : Nat) (l' : List α), L n i j l = k i' l' ∧ i' ≤ l'.length ∧ l'.take i' = orig.filter (fun x => !p x) := by
  intro n
  induction n with
  | zero => intro i j l h1 h2 h3 h4; omega
  | succ n ih =>
    intro i j l h1 h2 h3 h4 h5 h6
    by_cases hj : j < l.length
    · obtain ⟨x, hx⟩ := at_of hj
      have hox : orig[j]? = some x := by
        have := congrArg (fun m => m[0]?) h5
        simp only [List.getElem?_drop, Nat.add_zero] at this
        rw [← this]; exact hx
      have hjo : j < orig.length := lt_of_at hox
      have hstep : orig.take (j + 1) = orig.take j ++ [x] := by rw [List.take_add_one, hox]; rfl
      have hdrop : l.drop (j + 1) = orig.drop (j + 1) := by
        have := congrArg (List.drop 1) h5
        rwa [List.drop_drop, List.drop_drop] at this
      cases hp : p x with
      | true =>
        rw [hd n i j l x hx hp, wrap_succ_nat (by omega)]
        exact ih i (j + 1) l h1 (by omega) (by omega) (by omega) hdrop (by rw [h6, hstep]; simp [hp])
      | false =>
        have hi : i < l.length := by omega
        rw [hs n i j l x hx hp hi, wrap_succ_nat (by omega), wrap_succ_nat (by omega)]
        exact ih (i + 1) (j + 1) (l.set i x) (by simpa using h1) (by simp; omega) (by omega) (by simp; omega) (by rw [drop_set_lt (by omega), hdrop]) (by rw [take_set_snoc hi, h6, hstep]; simp [hp])
    · rw [hk n i j l hj]
      refine ⟨i, l, rfl, by omega, ?_⟩
      rw [h6, List.take_of_length_le (by omega)]
theorem filter_none {α : Type} {l : List α} {p : α → Bool} (h : ¬ ∃ x ∈ l, p x = true) : l.filter (fun x => !p x) = l := by
  rw [List.filter_eq_self]
  intro x hx
  cases hp : p x with
  | false => rfl
  | true => exact absurd ⟨x, hx, hp⟩ h
/-- As it begins: the first that goes stands at j. -/
theorem del_start {α : Type} {l : List α} {p : α → Bool} {j : Nat} {x : α} (hx : l[j]? = some x) (hp : p x = true) (hb : ∀ m y, m < j → l[m]? = some y → ¬ p y = true) : l.take j = (l.take (j + 1)).filter (fun x => !p x) := by
  rw [List.take_add_one, hx, List.filter_append]
  simp only [Option.toList_some, List.filter_cons, hp, Bool.not_true, Bool.false_eq_true, if_false, List.filter_nil, List.append_nil]
  symm
  rw [List.filter_eq_self]
  intro y hy
  obtain ⟨m, hm, rfl⟩ := List.mem_iff_getElem.1 hy
  simp only [List.length_take] at hm
  have := hb m (l.take j)[m] (by omega) (by simp [List.getElem?_eq_getElem (show m < l.length by omega)])
  simpa using this

noncomputable def writesN (s : Store) (t : Txn) : Nat := (s.Locks.filter fun x => decide (x.Txn = t) && x.Write).length
theorem writesOf_loop (s : Store) (t : Txn) (hl : s.Locks.length ≤ 24) (k : Int → Option (Int × Int)) : ∀ n (a i : Nat), s.Locks.length < n + i → i ≤ s.Locks.length → a ≤ i →
    reredosref_WritesOf_L1 s t k n (a : Int) i = k ((a + ((s.Locks.drop i).filter fun x => decide (x.Txn = t) && x.Write).length : Nat) : Int) := by
  intro n
  induction n with
  | zero => intro a i h1 h2; omega
  | succ n ih =>
    intro a i h1 h2 h3
    rw [reredosref_WritesOf_L1]
    by_cases hi : i < s.Locks.length
    · rw [if_pos (by simpa using hi), bind_at hi]
      simp only [withK]
      have hd : s.Locks.drop i = s.Locks[i] :: s.Locks.drop (i + 1) := List.drop_eq_getElem_cons hi
      rw [hd, List.filter_cons]
      by_cases ht : s.Locks[i].Txn = t
      · rw [if_pos (txn_eq.2 ht)]
        cases hw : s.Locks[i].Write with
        | true =>
          simp only [if_true, ht, decide_true, Bool.true_and, hw]
          rw [wrap_succ_nat (by simp only [maxLen]; omega), ih (a + 1) (i + 1) (by omega) (by omega) (by omega)]
          simp only [List.length_cons]; congr 2; omega
        | false =>
          simp only [Bool.false_eq_true, if_false, hw, Bool.and_false]
          rw [ih a (i + 1) (by omega) (by omega) (by omega)]
      · rw [if_neg (fun h => ht (txn_eq.1 h))]
        simp only [ht, decide_false, Bool.false_and, Bool.false_eq_true, if_false]
        rw [ih a (i + 1) (by omega) (by omega) (by omega)]
    · rw [if_neg (by simpa using hi), List.drop_eq_nil_of_le (by omega)]
      rfl
theorem WritesOf_eq (s : Store) (t : Txn) (h1 : s.Items.length ≤ maxLen) (h2 : s.Doubts.length ≤ maxLen) :
    reredosref_WritesOf s t = some (if May s then (if txnR t then ((writesN s t : Int), 0) else (0, 2)) else (0, 9)) := by
  simp only [reredosref_WritesOf, askFault_eq s t 0 h1 h2, Option.bind_some, withK]
  by_cases hm : May s
  case neg => simp [hm]
  by_cases ht : txnR t
  case neg => simp [hm, ht]
  have hl : s.Locks.length ≤ 24 := hm.2.2.2.2
  have e : txnR t ∧ (0 : Int) ≤ 0 ∧ (0 : Int) < 8 := ⟨ht, by omega, by omega⟩
  rw [if_pos hm, if_pos e, if_pos hm, if_pos ht]
  have := writesOf_loop s t hl (fun b => some (b, 0)) (s.Locks.length + 1) 0 0 (by omega) (by omega) (by omega)
  simp only [bne_self_eq_false, Bool.false_eq_true, if_false]
  refine Eq.trans this ?_
  simp [writesN]
noncomputable def forgetS (s : Store) : Store := ⟨s.Items, s.Locks.filter (·.Write), (s.Doubts.filter fun d => decide (0 < writesN s d.Txn)).map (fun d => ⟨d.Txn, 0⟩), s.Over⟩
theorem forget_locks (v3 : Store) (hl : v3.Locks.length ≤ maxLen) (k : List Lock → Option (Store × Int)) :
    (withK k fun k5 => (Option.bind (slices_IndexFunc_Lock v3.Locks (fun y6 => store_Forget_1 y6)) fun v7 => (if (v7 == (-1)) = true then (k5 v3.Locks) else (withK (fun (b9_1 : Int) (b9_2 : List Lock) => (if 0 ≤ b9_1 then (if b9_1 ≤ ((b9_2.length : Nat) : Int) then (k5 (b9_2.take b9_1.toNat)) else none) else none)) fun k10 => (store_Forget_L1 k10 (v3.Locks.length + 1) v7 (IntKind.i64.wrap (v7 + 1)) v3.Locks))))) = k (v3.Locks.filter (·.Write)) := by
  simp only [withK]
  have hf : (fun x : Lock => !(!x.Write)) = (·.Write) := by funext x; simp
  rcases idxF_Lock v3.Locks (fun x => !x.Write) with ⟨hn, e⟩ | ⟨j, x, h1, h2, h3, e⟩
  · rw [show (fun y6 => store_Forget_1 y6) = (fun x : Lock => some (!x.Write)) from rfl, e]
    have := filter_none hn
    rw [hf] at this
    simp [this]
  · rw [show (fun y6 => store_Forget_1 y6) = (fun x : Lock => some (!x.Write)) from rfl, e]
    have hj := lt_of_at h1
    have hne : ((j : Int) == -1) = false := by simp
    simp only [Option.bind_some, hne, Bool.false_eq_true, if_false]
    rw [wrap_succ_nat (by omega)]
    obtain ⟨i', l', h4, h5, h6⟩ := del_loop (p := fun x : Lock => !x.Write) (k := (fun (b9_1 : Int) (b9_2 : List Lock) => (if 0 ≤ b9_1 then (if b9_1 ≤ ((b9_2.length : Nat) : Int) then (k (b9_2.take b9_1.toNat)) else none) else none))) (L := store_Forget_L1 (fun (b9_1 : Int) (b9_2 : List Lock) => (if 0 ≤ b9_1 then (if b9_1 ≤ ((b9_2.length : Nat) : Int) then (k (b9_2.take b9_1.toNat)) else none) else none))) (orig := v3.Locks) hl
      (fun n i j l hj => by rw [store_Forget_L1, if_neg (by simpa using hj)])
      (fun n i j l x hx hp => by rw [store_Forget_L1, if_pos (by simpa using lt_of_at hx), if_pos (by omega), Int.toNat_natCast, hx]; simp only [Option.bind_some, store_Forget_1, withK, hp, Bool.not_true, Bool.false_eq_true, if_false])
      (fun n i j l x hx hp hi => by rw [store_Forget_L1, if_pos (by simpa using lt_of_at hx), if_pos (by omega), Int.toNat_natCast, hx]; simp only [Option.bind_some, store_Forget_1, withK, hp, Bool.not_false, if_true]; rw [if_pos (by omega), Int.toNat_natCast, bind_at hi])
      (v3.Locks.length + 1) j (j + 1) v3.Locks rfl (by omega) (by omega) (by omega) rfl (del_start h1 h2 h3)
    refine h4.trans ?_
    rw [if_pos (by omega), if_pos (by omega), Int.toNat_natCast, h6, hf]
theorem forget_doubts (v3 : Store) (b4_1 : List Lock) (q : Doubt → Bool) (hq : ∀ d ds, store_Forget_2 d (Store.mk v3.Items b4_1 ds v3.Over) = some (q d)) (hl : v3.Doubts.length ≤ maxLen) (k : List Doubt → Option (Store × Int)) :
    (withK k fun k28 => (Option.bind (slices_IndexFunc_Doubt v3.Doubts (fun y29 => store_Forget_2 y29 (Store.mk v3.Items b4_1 v3.Doubts v3.Over))) fun v30 => (if (v30 == (-1)) = true then (k28 v3.Doubts) else (withK (fun (b32_1 : Int) (b32_2 : List Doubt) => (if 0 ≤ b32_1 then (if b32_1 ≤ ((b32_2.length : Nat) : Int) then (k28 (b32_2.take b32_1.toNat)) else none) else none)) fun k33 => (store_Forget_L2 v3 b4_1 k33 (v3.Doubts.length + 1) v30 (IntKind.i64.wrap (v30 + 1)) v3.Doubts))))) = k (v3.Doubts.filter (fun d => !q d)) := by
  simp only [withK]
  have hfq : (fun y29 => store_Forget_2 y29 (Store.mk v3.Items b4_1 v3.Doubts v3.Over)) = (fun x : Doubt => some (q x)) := funext fun d => hq d _
  rw [hfq]
  rcases idxF_Doubt v3.Doubts q with ⟨hn, e⟩ | ⟨j, x, h1, h2, h3, e⟩
  · rw [e]
    simp [filter_none hn]
  · rw [e]
    have hj := lt_of_at h1
    have hne : ((j : Int) == -1) = false := by simp
    simp only [Option.bind_some, hne, Bool.false_eq_true, if_false]
    rw [wrap_succ_nat (by omega)]
    obtain ⟨i', l', h4, h5, h6⟩ := del_loop (p := q) (k := (fun (b32_1 : Int) (b32_2 : List Doubt) => (if 0 ≤ b32_1 then (if b32_1 ≤ ((b32_2.length : Nat) : Int) then (k (b32_2.take b32_1.toNat)) else none) else none))) (L := store_Forget_L2 v3 b4_1 (fun (b32_1 : Int) (b32_2 : List Doubt) => (if 0 ≤ b32_1 then (if b32_1 ≤ ((b32_2.length : Nat) : Int) then (k (b32_2.take b32_1.toNat)) else none) else none))) (orig := v3.Doubts) hl
      (fun n i j l hj => by rw [store_Forget_L2, if_neg (by simpa using hj)])
      (fun n i j l x hx hp => by rw [store_Forget_L2, if_pos (by simpa using lt_of_at hx), if_pos (by omega), Int.toNat_natCast, hx]; simp only [Option.bind_some, hq, withK, hp, Bool.not_true, Bool.false_eq_true, if_false])
      (fun n i j l x hx hp hi => by rw [store_Forget_L2, if_pos (by simpa using lt_of_at hx), if_pos (by omega), Int.toNat_natCast, hx]; simp only [Option.bind_some, hq, withK, hp, Bool.not_false, if_true]; rw [if_pos (by omega), Int.toNat_natCast, bind_at hi])
      (v3.Doubts.length + 1) j (j + 1) v3.Doubts rfl (by omega) (by omega) (by omega) rfl (del_start h1 h2 h3)
    refine h4.trans ?_
    rw [if_pos (by omega), if_pos (by omega), Int.toNat_natCast, h6]
theorem ages_loop (b : List Doubt) (k : List Doubt → Option (Store × Int)) : ∀ n i ds, ds.length = b.length → b.length < n + i → i ≤ b.length →
    store_Forget_L3 b k n i ds = k (ds.take i ++ (ds.drop i).map fun d => ⟨d.Txn, 0⟩) := by
  intro n
  induction n with
  | zero => intro i ds h1 h2 h3; omega
  | succ n ih =>
    intro i ds h1 h2 h3
    rw [store_Forget_L3]
    by_cases hi : i < b.length
    · have hi' : i < ds.length := by omega
      rw [if_pos (by simpa using hi), bind_at hi', ih (i + 1) _ (by simpa using h1) (by omega) (by omega), take_set_snoc hi', drop_set_lt (by omega), List.drop_eq_getElem_cons hi', List.map_cons, List.append_assoc]
      rfl
    · rw [if_neg (by simpa using hi), List.drop_eq_nil_of_le (by omega), List.take_of_length_le (by omega)]
      simp
theorem writesN_pos {s : Store} {t : Txn} : 0 < writesN s t ↔ ∃ x ∈ s.Locks.filter (·.Write), x.Txn = t := by
  unfold writesN
  rw [List.length_pos_iff_exists_mem]
  constructor
  · rintro ⟨x, hx⟩
    simp only [List.mem_filter, Bool.and_eq_true, decide_eq_true_eq] at hx
    exact ⟨x, List.mem_filter.2 ⟨hx.1, hx.2.2⟩, hx.2.1⟩
  · rintro ⟨x, hx, rfl⟩
    have := List.mem_filter.1 hx
    exact ⟨x, List.mem_filter.2 ⟨this.1, by simp [this.2]⟩⟩
theorem Forget_eq (s : Store) (h : StoreFits s) : store_Forget s = some (if May s then (forgetS s, 0) else (⟨[], [], [], []⟩, 9)) := by
  have h1 : s.Items.length ≤ maxLen := h.1.2
  simp only [store_Forget, check_eq s h1, own_eq s h, Option.bind_some]
  by_cases hm : May s
  case neg => simp [hm]
  rw [if_pos hm, if_pos hm]
  simp only [bne_self_eq_false, Bool.false_eq_true, if_false]
  refine (forget_locks s h.2.1.2 _).trans ?_
  have hq : ∀ d ds, store_Forget_2 d (Store.mk s.Items (s.Locks.filter (·.Write)) ds s.Over) = some (!decide (0 < writesN s d.Txn)) := by
    intro d ds
    have e : (fun y1 => store_Forget_2_1 y1 d) = (fun x : Lock => some (decide (x.Txn = d.Txn))) := by
      funext x
      rw [store_Forget_2_1]
      congr 1
      exact Bool.eq_iff_iff.2 (by rw [txn_eq]; simp)
    simp only [store_Forget_2, e]
    rw [containsF_Lock]
    simp only [Option.bind_some, decide_eq_true_eq]
    congr 2
    exact decide_eq_decide.2 writesN_pos.symm
  refine (forget_doubts s _ _ hq h.2.2.1.2 _).trans ?_
  simp only [withK]
  rw [ages_loop _ _ _ _ _ rfl (by omega) (by omega)]
  simp [forgetS]
theorem forgetR_locks (v : Store) (hf : fits 48 v.Locks.length) (k : List Lock → Option (Store × Int)) : ∀ n i acc, v.Locks.length < n + i → i ≤ v.Locks.length → acc.length ≤ i →
    reredosref_ForgetOf_L1 v k n i acc = k (acc ++ (v.Locks.drop i).filter (·.Write)) := by
  intro n
  induction n with
  | zero => intro i acc h1 h2; omega
  | succ n ih =>
    intro i acc h1 h2 h3
    rw [reredosref_ForgetOf_L1]
    by_cases hi : i < v.Locks.length
    · rw [if_pos (by simpa using hi), bind_at hi]
      simp only [withK]
      rw [List.drop_eq_getElem_cons hi, List.filter_cons]
      cases hw : v.Locks[i].Write with
      | true =>
        rw [if_pos rfl, if_pos (fits_le hf (by omega)), ih (i + 1) _ (by omega) (by omega) (by simp; omega)]
        have : (Lock.mk v.Locks[i].Txn v.Locks[i].Key true v.Locks[i].Value v.Locks[i].Ask) = v.Locks[i] := by
          rw [← hw]
        simp [this]
      | false =>
        simp only [Bool.false_eq_true, if_false]
        rw [ih (i + 1) _ (by omega) (by omega) (by omega)]
    · rw [if_neg (by simpa using hi), List.drop_eq_nil_of_le (by omega)]
      simp
theorem forgetR_doubts (s : Store) (h1 : s.Items.length ≤ maxLen) (hm : May s) (v : Store) (hf : fits 24 v.Doubts.length) (hv : ∀ d ∈ v.Doubts, txnR d.Txn) (k : List Doubt → Option (Store × Int)) : ∀ n i acc, v.Doubts.length < n + i → i ≤ v.Doubts.length → acc.length ≤ i →
    reredosref_ForgetOf_L2 s v k n i acc = k (acc ++ ((v.Doubts.drop i).filter fun d => decide (0 < writesN s d.Txn)).map fun d => ⟨d.Txn, 0⟩) := by
  have hd : s.Doubts.length ≤ maxLen := by have := doubts_len s hm; simp only [maxLen]; omega
  intro n
  induction n with
  | zero => intro i acc h1 h2; omega
  | succ n ih =>
    intro i acc g1 g2 g3
    rw [reredosref_ForgetOf_L2]
    by_cases hi : i < v.Doubts.length
    · rw [if_pos (by simpa using hi), bind_at hi]
      simp only [withK, WritesOf_eq s _ h1 hd, Option.bind_some, if_pos hm, if_pos (hv _ (List.getElem_mem hi))]
      rw [List.drop_eq_getElem_cons hi, List.filter_cons]
      by_cases hw : 0 < writesN s v.Doubts[i].Txn
      · rw [if_pos (by simpa using hw), if_pos (fits_le hf (by omega)), ih (i + 1) _ (by omega) (by omega) (by simp; omega), if_pos (by simpa using hw)]
        simp
      · rw [if_neg (by simpa using hw), ih (i + 1) _ (by omega) (by omega) (by omega), if_neg (by simpa using hw)]
    · rw [if_neg (by simpa using hi), List.drop_eq_nil_of_le (by omega)]
      simp
theorem may_txn {s : Store} (hm : May s) : ∀ d ∈ s.Doubts, txnR d.Txn := by
  intro d hd
  obtain ⟨i, hi, rfl⟩ := List.mem_iff_getElem.1 hd
  exact (hm.2.1 i hi _ (List.getElem?_eq_getElem hi)).1
theorem ForgetOf_eq (s : Store) (h : StoreFits s) : reredosref_ForgetOf s = some (if May s then (forgetS s, 0) else (⟨[], [], [], []⟩, 9)) := by
  have h1 : s.Items.length ≤ maxLen := h.1.2
  have h2 : s.Doubts.length ≤ maxLen := h.2.2.1.2
  simp only [reredosref_ForgetOf, May_eq s h1 h2, copy_eq s h, Option.bind_some, withK]
  by_cases hm : May s
  case neg => simp [hm]
  simp only [hm, decide_true, Bool.not_true, Bool.false_eq_true, if_false, if_true]
  rw [forgetR_locks s h.2.1 _ _ _ _ (by omega) (by omega) (by simp)]
  rw [forgetR_doubts s h1 hm s h.2.2.1 (may_txn hm) _ _ _ _ (by omega) (by omega) (by simp)]
  simp [forgetS]

end Go.V.Dec
