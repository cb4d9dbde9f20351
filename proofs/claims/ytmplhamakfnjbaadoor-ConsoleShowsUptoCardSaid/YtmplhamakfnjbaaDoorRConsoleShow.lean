/- Plain laws (ConsoleShow): no program, no memory; conditions as stated. -/
import Derived.Test.YtmplhamakfnjbaaDoorH2
import Derived.Test.YtmplhamakfnjbaaDoorRStoreWr
import Derived.Test.YtmplhamakfnjbaaDoorRLabelM
import Derived.Test.YtmplhamakfnjbaaDoorRItoa
set_option linter.unusedVariables false
set_option linter.unusedSimpArgs false
namespace Go.V.Dec
open Go Go.Proofs Classical
set_option maxRecDepth 100000
set_option maxHeartbeats 4000000
variable (G : Nat → Option (List D))
theorem bs_sp : bL bs_7215ee9c = [32] := rfl
theorem bs_sp_size : bs_7215ee9c.size = 1 := rfl
theorem bs_nl : bL bs_68b329da = [10] := rfl
theorem bs_nl_size : bs_68b329da.size = 1 := rfl
theorem txn_rg {t : Txn} (h : txnR t) : Rg t.Site ∧ Rg t.N := by
  obtain ⟨h1, h2, h3, h4⟩ := h
  exact ⟨⟨by omega, by omega⟩, by omega, by omega⟩
theorem text_loop {α R : Type} {L : Nat → List UInt8 → Nat → Option R} {l : List α} {k : List UInt8 → Option R} {f : α → List UInt8} {M C : Nat}
    (hk : ∀ n a i, ¬ i < l.length → L (n + 1) a i = k a) (hs : ∀ n a i x, l[i]? = some x → i < l.length → a.length ≤ C + M * i → L (n + 1) a i = L n (a ++ f x) (i + 1))
    (hf : ∀ x ∈ l, (f x).length ≤ M) : ∀ n a i, l.length < n + i → i ≤ l.length → a.length ≤ C + M * i → L n a i = k (a ++ ((l.drop i).map f).flatten) := by
  intro n
  induction n with
  | zero => intro a i h1 h2; omega
  | succ n ih =>
    intro a i h1 h2 h3
    by_cases hi : i < l.length
    · have hx : l[i]? = some l[i] := List.getElem?_eq_getElem hi
      have := hf _ (List.getElem_mem hi)
      rw [hs n a i _ hx hi h3, ih _ _ (by omega) (by omega) (by rw [List.length_append, Nat.mul_succ]; omega), List.drop_eq_getElem_cons hi, List.map_cons, List.flatten_cons, List.append_assoc]
    · rw [hk n a i hi, List.drop_eq_nil_of_le (by omega)]; simp
theorem flat_len {α : Type} {f : α → List UInt8} {M : Nat} : ∀ {l : List α}, (∀ x ∈ l, (f x).length ≤ M) → ((l.map f).flatten).length ≤ M * l.length
  | [], _ => by simp
  | x :: l, h => by
    have h1 := h x (by simp)
    have h2 := flat_len (l := l) (f := f) fun y hy => h y (by simp [hy])
    simp only [List.map_cons, List.flatten_cons, List.length_append, List.length_cons, Nat.mul_succ]; omega
/-- The words of a transaction of a label. -/
def tw (k : Int) (t : Txn) : List UInt8 := Lib.itoa k ++ 32 :: Lib.itoa t.Site ++ 32 :: Lib.itoa t.N
theorem tw_len {k : Int} {t : Txn} (hk : Rg k) (h : txnR t) : (tw k t).length ≤ 65 := by
  obtain ⟨h1, h2⟩ := txn_rg h
  have := itoa_len hk; have := itoa_len h1; have := itoa_len h2
  unfold tw; simp only [List.length_append, List.length_cons]; omega
theorem words_eq {k : Int} {t : Txn} (hk : Rg k) (h : txnR t) : console_words k t = some (bM (tw k t)) := by
  obtain ⟨h1, h2⟩ := txn_rg h
  have := itoa_len hk; have := itoa_len h1; have := itoa_len h2
  rw [console_words, itoaF_eq hk, Option.bind_some, bM_size, bs_sp_size, if_pos (by unfold maxLen; omega), itoaF_eq h1, Option.bind_some, bM_size, if_pos (by unfold maxLen; omega), if_pos (by unfold maxLen; omega), itoaF_eq h2, Option.bind_some, bM_size, if_pos (by unfold maxLen; omega)]
  congr 1
  refine bL_ext ?_
  simp only [bL_app, bL_mk, bs_sp, tw]; simp
def prep (s : Store) (t : Txn) : Bool := (reredosref_preparedAt s t).getD false
theorem prep_same {s : Store} (t : Txn) (h1 : s.Items.length ≤ maxLen) (h2 : s.Doubts.length ≤ maxLen) : console_prepared s t = some (prep s t) ∧ reredosref_preparedAt s t = some (prep s t) := by
  obtain ⟨e1, r, e2⟩ := Writes_same s t h1 h2
  have hb : ∃ b, reredosref_preparedAt s t = some b := by
    simp only [reredosref_preparedAt, e2, Option.bind_some, withK]
    split <;> exact ⟨_, rfl⟩
  obtain ⟨b, hb⟩ := hb
  have hc : console_prepared s t = reredosref_preparedAt s t := by simp only [console_prepared, reredosref_preparedAt, e1]
  rw [hc, prep, hb]; exact ⟨rfl, rfl⟩
def dl (k : Int) (s : Store) (d : Doubt) : List UInt8 := if prep s d.Txn = true then tw k d.Txn ++ 32 :: Lib.itoa d.Age ++ [10] else []
def nl (k : Int) (n : Note) : List UInt8 := tw k n.Txn ++ (if n.Yes = true then [32, 99, 111, 109, 109, 105, 116] else [32, 97, 98, 111, 114, 116]) ++ (if n.Damage = true then [32, 100, 97, 109, 97, 103, 101] else []) ++ [10]
def okD (d : Doubt) : Prop := txnR d.Txn ∧ Rg d.Age
theorem dl_len {k : Int} {s : Store} {d : Doubt} (hk : Rg k) (h : okD d) : (dl k s d).length ≤ 100 := by
  have := tw_len hk h.1; have := itoa_len h.2
  unfold dl; split
  · simp only [List.length_append, List.length_cons, List.length_nil]; omega
  · simp
theorem nl_len {k : Int} {n : Note} (hk : Rg k) (h : txnR n.Txn) : (nl k n).length ≤ 100 := by
  have := tw_len hk h
  unfold nl; split <;> split <;> simp only [List.length_append, List.length_cons, List.length_nil] <;> omega
theorem list_eq {s : Store} {m : Nat} {k : List UInt8 → Option (ByteArray × Int)} (hm : m < 1000) (h1 : s.Items.length ≤ maxLen) (h2 : s.Doubts.length ≤ 1048576) (hd : ∀ d ∈ s.Doubts, okD d) (a : List UInt8) (ha : a.length ≤ 1000000000000) :
    console_Show_L5 m s k (s.Doubts.length + 1) 0 a = k (a ++ (s.Doubts.map (dl m s)).flatten) := by
  have hk : Rg (m : Int) := ⟨by omega, by omega⟩
  have := text_loop (L := fun n a i => console_Show_L5 m s k n i a) (l := s.Doubts) (k := k) (f := dl m s) (M := 100) (C := 1000000000000) (fun n a i hi => by rw [console_Show_L5, if_neg (by simpa using hi)])
    (fun n a i x hx hi ho => by
      obtain ⟨g1, g2⟩ := hd x (List.mem_of_getElem? hx)
      have t1 := tw_len hk g1
      have t2 := itoa_len g2
      rw [console_Show_L5, if_pos (by simpa using hi), hx, Option.bind_some, (prep_same x.Txn h1 (by unfold maxLen; omega)).1, Option.bind_some]
      simp only [withK]
      unfold dl
      by_cases hp : prep s x.Txn = true
      · rw [if_pos hp, if_pos hp, words_eq hk g1, Option.bind_some, bM_size, bs_sp_size, if_pos (by unfold maxLen; omega), itoaF_eq g2, Option.bind_some, bM_size, if_pos (by unfold maxLen; omega), bs_nl_size, if_pos (by unfold maxLen; omega)]
        have e : bM (tw (m : Int) x.Txn) ++ bs_7215ee9c ++ bM (Lib.itoa x.Age) ++ bs_68b329da = bM (tw (m : Int) x.Txn ++ 32 :: Lib.itoa x.Age ++ [10]) := bL_ext (by simp only [bL_app, bL_mk, bs_sp, bs_nl]; simp)
        rw [e, bM_size, if_pos (by simp only [List.length_append, List.length_cons, List.length_nil]; omega)]; rfl
      · rw [if_neg hp, if_neg hp, List.append_nil])
    (fun x hx => dl_len hk (hd x hx)) (s.Doubts.length + 1) a 0 (by omega) (by omega) (by omega)
  simpa using this
theorem audit_eq {l : List Note} {m : Nat} {k : List UInt8 → Option (ByteArray × Int)} (hm : m < 1000) (h2 : l.length ≤ 1048576) (hd : ∀ d ∈ l, txnR d.Txn) (a : List UInt8) (ha : a.length ≤ 1000000000000) :
    console_Show_L6 m l k (l.length + 1) 0 a = k (a ++ (l.map (nl m)).flatten) := by
  have hk : Rg (m : Int) := ⟨by omega, by omega⟩
  have := text_loop (L := fun n a i => console_Show_L6 m l k n i a) (l := l) (k := k) (f := nl m) (M := 100) (C := 1000000000000) (fun n a i hi => by rw [console_Show_L6, if_neg (by simpa using hi)])
    (fun n a i x hx hi ho => by
      have g1 := hd x (List.mem_of_getElem? hx)
      have t1 := tw_len hk g1
      have q1 : bs_4d42290a.size = 7 := rfl
      have q2 : bs_0fc6f503.size = 6 := rfl
      have q3 : bs_6d74a691.size = 7 := rfl
      have r1 : bs_4d42290a.data.toList = [32, 99, 111, 109, 109, 105, 116] := rfl
      have r2 : bs_0fc6f503.data.toList = [32, 97, 98, 111, 114, 116] := rfl
      have r3 : bs_6d74a691.data.toList = [32, 100, 97, 109, 97, 103, 101] := rfl
      have r0 : (bM (tw (m : Int) x.Txn)).data.toList = tw m x.Txn := bL_mk _
      rw [console_Show_L6, if_pos (by simpa using hi), hx, Option.bind_some, words_eq hk g1, Option.bind_some, bM_size, if_pos (by omega)]
      simp only [withK, r0, r1, r2, r3, q1, q2, q3]
      unfold nl
      by_cases hy : x.Yes = true <;> by_cases hg : x.Damage = true <;> simp only [hy, hg, if_true, if_false, Bool.false_eq_true] <;> rw [if_pos (by simp only [List.length_append]; omega)]
      · rw [if_pos (by simp only [List.length_append, List.length_cons, List.length_nil]; omega), if_pos ⟨by decide, by simp only [List.length_append, List.length_cons, List.length_nil]; omega⟩]
        simp only [List.append_assoc]; rfl
      · rw [if_pos ⟨by decide, by simp only [List.length_append, List.length_cons, List.length_nil]; omega⟩]
        simp only [List.append_assoc]; rfl
      · rw [if_pos (by simp only [List.length_append, List.length_cons, List.length_nil]; omega), if_pos ⟨by decide, by simp only [List.length_append, List.length_cons, List.length_nil]; omega⟩]
        simp only [List.append_assoc]; rfl
      · rw [if_pos ⟨by decide, by simp only [List.length_append, List.length_cons, List.length_nil]; omega⟩]
        simp only [List.append_assoc]; rfl)
    (fun x hx => nl_len hk (hd x hx)) (l.length + 1) a 0 (by omega) (by omega) (by omega)
  simpa using this

theorem rlist_eq {p2 : List Store} {p4 : Command} {s : Store} {m : Nat} {k : ByteArray → Option (ByteArray × Int)} (hs : p2[m]? = some s) (hk4 : p4.Kind = 1) (hm : m < 1000) (h1 : s.Items.length ≤ maxLen) (h2 : s.Doubts.length ≤ 1048576) (hd : ∀ d ∈ s.Doubts, okD d) (a : List UInt8) (ha : a.length ≤ 1000000000000) :
    reredosref_ShownOf_L5 p2 p4 m k ((((p2[m]?).getD default).Doubts).length + 1) (bM a) 0 = k (bM (a ++ (s.Doubts.map (dl m s)).flatten)) := by
  have hk : Rg (m : Int) := ⟨by omega, by omega⟩
  have := text_loop (L := fun n a i => reredosref_ShownOf_L5 p2 p4 m k n (bM a) (i : Int)) (l := s.Doubts) (k := fun a => k (bM a)) (f := dl m s) (M := 100) (C := 1000000000000) (fun n a i hi => by rw [reredosref_ShownOf_L5, withK, hs, Option.bind_some, if_neg (by simpa using hi)])
    (fun n a i x hx hi ho => by
      obtain ⟨g1, g2⟩ := hd x (List.mem_of_getElem? hx)
      obtain ⟨g3, g4⟩ := txn_rg g1
      have t0 := itoa_len hk
      have t2 := itoa_len g2
      have t3 := itoa_len g3
      have t4 := itoa_len g4
      have hw : IntKind.i64.wrap ((i : Int) + 1) = ((i + 1 : Nat) : Int) := by rw [wrap_in (by omega) (by omega)]; rfl
      rw [reredosref_ShownOf_L5]
      simp only [withK, hs, Option.bind_some]
      rw [if_pos (by simpa using hi), if_pos (by simpa using hk4), if_pos (by omega), Int.toNat_natCast, hx, Option.bind_some, (prep_same x.Txn h1 (by unfold maxLen; omega)).2, Option.bind_some, hw]
      unfold dl
      by_cases hp : prep s x.Txn = true
      · rw [if_pos hp, if_pos hp, dec_eq hk, Option.bind_some, bM_size, bM_size, if_pos (by unfold maxLen; omega), bs_sp_size, if_pos (by unfold maxLen; omega), dec_eq g3, Option.bind_some, bM_size, if_pos (by unfold maxLen; omega), if_pos (by unfold maxLen; omega), dec_eq g4, Option.bind_some, bM_size, if_pos (by unfold maxLen; omega), if_pos (by unfold maxLen; omega), dec_eq g2, Option.bind_some, bM_size, if_pos (by unfold maxLen; omega), bs_nl_size, if_pos (by unfold maxLen; omega)]
        congr 1
        exact bL_ext (by simp only [bL_app, bL_mk, bs_sp, bs_nl, tw]; simp)
      · rw [if_neg hp, if_neg hp, List.append_nil])
    (fun x hx => dl_len hk (hd x hx)) (s.Doubts.length + 1) a 0 (by omega) (by omega) (by omega)
  rw [hs]
  simpa using this
theorem rlist_no {p2 : List Store} {p4 : Command} {s : Store} {m n : Nat} {k : ByteArray → Option (ByteArray × Int)} (hs : p2[m]? = some s) (hk4 : p4.Kind ≠ 1) (a : ByteArray) : reredosref_ShownOf_L5 p2 p4 m k (n + 1) a 0 = k a := by
  rw [reredosref_ShownOf_L5, withK, hs, Option.bind_some, if_neg (c := (p4.Kind == 1) = true) (by simpa using hk4)]
  split <;> rfl
theorem raudit_eq {p3 : List (List Note)} {p4 : Command} {l : List Note} {m : Nat} {k : ByteArray → Option (ByteArray × Int)} (hs : p3[m]? = some l) (hk4 : p4.Kind = 4) (hm : m < 1000) (h2 : l.length ≤ 1048576) (hd : ∀ d ∈ l, txnR d.Txn) (a : List UInt8) (ha : a.length ≤ 1000000000000) :
    reredosref_ShownOf_L6 p3 p4 m k (((p3[m]?).getD default).length + 1) (bM a) 0 = k (bM (a ++ (l.map (nl m)).flatten)) := by
  have hk : Rg (m : Int) := ⟨by omega, by omega⟩
  have := text_loop (L := fun n a i => reredosref_ShownOf_L6 p3 p4 m k n (bM a) (i : Int)) (l := l) (k := fun a => k (bM a)) (f := nl m) (M := 100) (C := 1000000000000) (fun n a i hi => by rw [reredosref_ShownOf_L6, withK, hs, Option.bind_some, if_neg (by simpa using hi)])
    (fun n a i x hx hi ho => by
      have g1 := hd x (List.mem_of_getElem? hx)
      obtain ⟨g3, g4⟩ := txn_rg g1
      have t0 := itoa_len hk
      have t3 := itoa_len g3
      have t4 := itoa_len g4
      have q1 : bs_4d42290a.size = 7 := rfl
      have q2 : bs_0fc6f503.size = 6 := rfl
      have q3 : bs_6d74a691.size = 7 := rfl
      have r1 : bL bs_4d42290a = [32, 99, 111, 109, 109, 105, 116] := rfl
      have r2 : bL bs_0fc6f503 = [32, 97, 98, 111, 114, 116] := rfl
      have r3 : bL bs_6d74a691 = [32, 100, 97, 109, 97, 103, 101] := rfl
      have hw : IntKind.i64.wrap ((i : Int) + 1) = ((i + 1 : Nat) : Int) := by rw [wrap_in (by omega) (by omega)]; rfl
      rw [reredosref_ShownOf_L6]
      simp only [withK, hs, Option.bind_some]
      rw [if_pos (by simpa using hi), if_pos (by simpa using hk4), if_pos (by omega), Int.toNat_natCast, hx, Option.bind_some, hw, dec_eq hk, Option.bind_some, bM_size, bM_size, if_pos (by unfold maxLen; omega), bs_sp_size, if_pos (by unfold maxLen; omega), dec_eq g3, Option.bind_some, bM_size, if_pos (by unfold maxLen; omega), if_pos (by unfold maxLen; omega), dec_eq g4, Option.bind_some, bM_size, if_pos (by unfold maxLen; omega)]
      simp only [q1, q2, q3, sz_app, bM_size, bs_sp_size, bs_nl_size]
      unfold nl
      by_cases hy : x.Yes = true <;> by_cases hg : x.Damage = true <;> simp only [hy, hg, if_true, if_false, Bool.false_eq_true, sz_app, bM_size, bs_sp_size, bs_nl_size, q1, q2, q3] <;> rw [if_pos (by unfold maxLen; omega), if_pos (by unfold maxLen; omega)] <;> (try rw [if_pos (by unfold maxLen; omega)])
      all_goals
        congr 1
        exact bL_ext (by simp only [bL_app, bL_mk, bs_sp, bs_nl, tw, r1, r2, r3]; simp))
    (fun x hx => nl_len hk (hd x hx)) (l.length + 1) a 0 (by omega) (by omega) (by omega)
  rw [hs]
  simpa using this
theorem raudit_no {p3 : List (List Note)} {p4 : Command} {l : List Note} {m n : Nat} {k : ByteArray → Option (ByteArray × Int)} (hs : p3[m]? = some l) (hk4 : p4.Kind ≠ 4) (a : ByteArray) : reredosref_ShownOf_L6 p3 p4 m k (n + 1) a 0 = k a := by
  rw [reredosref_ShownOf_L6, withK, hs, Option.bind_some, if_neg (c := (p4.Kind == 4) = true) (by simpa using hk4)]
  split <;> rfl

theorem ite_iff {p q : Prop} [Decidable p] [Decidable q] {α : Type} {a b : α} (h : p ↔ q) : (if p then a else b) = if q then a else b := by
  by_cases hp : p
  · rw [if_pos hp, if_pos (h.1 hp)]
  · rw [if_neg hp, if_neg (fun g => hp (h.2 g))]
theorem above_same (x y : Label) : label_Above x y = reredosref_Dominates x y ∧ ∃ b, reredosref_Dominates x y = some b := by
  refine ⟨rfl, ?_⟩
  simp only [reredosref_Dominates, withK]
  split <;> exact ⟨_, rfl⟩
/-- Stores and notes such as checks let through. -/
structure Let (p0 : Config) (p2 : List Store) (p3 : List (List Note)) : Prop where
  l6 : p0.Labels.length ≤ 6
  s : p2.length = p0.Labels.length
  n : p3.length = p0.Labels.length
  si : ∀ s ∈ p2, s.Items.length ≤ maxLen
  sd : ∀ s ∈ p2, s.Doubts.length ≤ 1048576
  so : ∀ s ∈ p2, ∀ d ∈ s.Doubts, okD d
  nn : ∀ l ∈ p3, l.length ≤ 1048576
  no : ∀ l ∈ p3, ∀ x ∈ l, txnR x.Txn
theorem lab_loop {p0 : Config} {p1 : Int} {p2 : List Store} {p3 : List (List Note)} {p4 : Command} (L : Let p0 p2 p3) (h1 : 0 ≤ p1) (h1' : p1 < p0.Labels.length) (hk : p4.Kind = 1 ∨ p4.Kind = 4) :
    ∀ n i (a : List UInt8), p0.Labels.length < n + i → i ≤ p0.Labels.length → a.length ≤ 110000000 * i →
      ∃ r, console_Show_L4 p0 p1 p2 p3 p4 (fun b => some ((⟨b.toArray⟩ : ByteArray), 0)) n i a = some r ∧ reredosref_ShownOf_L4 p0 p1 p2 p3 p4 (fun b => some (b, 0)) n (bM a) i = some r := by
  intro n
  induction n with
  | zero => intro i a h1 h2; omega
  | succ n ih =>
    intro i a g1 g2 g3
    have l6 := L.l6
    by_cases hi : i < p0.Labels.length
    · obtain ⟨s, hs⟩ := at_of (l := p2) (i := i) (by have := L.s; omega)
      obtain ⟨l, hn⟩ := at_of (l := p3) (i := i) (by have := L.n; omega)
      have ms := List.mem_of_getElem? hs
      have mn := List.mem_of_getElem? hn
      obtain ⟨lx, hx⟩ := at_of (l := p0.Labels) (i := p1.toNat) (by omega)
      obtain ⟨e1, b, e2⟩ := above_same lx p0.Labels[i]
      rw [console_Show_L4, if_pos (by simpa using hi), if_pos h1, hx, Option.bind_some, bind_at hi, e1, e2, Option.bind_some, reredosref_ShownOf_L4, if_pos (c := decide (i < p0.Labels.length) = true) (by simpa using hi), if_pos h1, hx, Option.bind_some, bind_at hi, e2, Option.bind_some]
      cases b with
      | false => exact ih (i + 1) a (by omega) (by omega) (by omega)
      | true =>
        simp only [Bool.not_true, Bool.false_eq_true, if_false, withK, hs, hn, Option.bind_some]
        have ha : a.length ≤ 1000000000000 := by omega
        rcases hk with hk | hk
        · have r1 := flat_len (f := dl (i : Int) s) (M := 100) (l := s.Doubts) fun d hd => dl_len ⟨by omega, by omega⟩ (L.so s ms d hd)
          have r2 := L.sd s ms
          have q1 := list_eq (k := fun b => console_Show_L4 p0 p1 p2 p3 p4 (fun b => some ((⟨b.toArray⟩ : ByteArray), 0)) n (i + 1) b) (m := i) (by omega) (L.si s ms) r2 (L.so s ms) a ha
          have q2 := rlist_eq (p2 := p2) (p4 := p4) (s := s) (m := i) (k := fun b88 => reredosref_ShownOf_L6 p3 p4 i (fun b117 => reredosref_ShownOf_L4 p0 p1 p2 p3 p4 (fun b => some (b, 0)) n b117 (i + 1)) (((p3[i]?).getD default).length + 1) b88 0) hs hk (by omega) (L.si s ms) r2 (L.so s ms) a ha
          rw [hs] at q2
          rw [hn] at q2
          simp only [Option.getD_some] at q2 ⊢
          rw [if_pos (by simpa using hk), q1, q2, raudit_no hn (by omega)]
          exact ih (i + 1) _ (by omega) (by omega) (by rw [List.length_append]; omega)
        · have r1 := flat_len (f := nl (i : Int)) (M := 100) (l := l) fun d hd => nl_len ⟨by omega, by omega⟩ (L.no l mn d hd)
          have r2 := L.nn l mn
          have q1 := audit_eq (k := fun b => console_Show_L4 p0 p1 p2 p3 p4 (fun b => some ((⟨b.toArray⟩ : ByteArray), 0)) n (i + 1) b) (m := i) (by omega) r2 (L.no l mn) a ha
          have q2 := raudit_eq (p3 := p3) (p4 := p4) (l := l) (m := i) (k := fun b117 => reredosref_ShownOf_L4 p0 p1 p2 p3 p4 (fun b => some (b, 0)) n b117 (i + 1)) hn hk (by omega) r2 (L.no l mn) a ha
          rw [hn] at q2
          simp only [Option.getD_some] at q2 ⊢
          rw [if_neg (by simp [hk]), q1, rlist_no hs (by omega), q2]
          exact ih (i + 1) _ (by omega) (by omega) (by rw [List.length_append]; omega)
    · refine ⟨(bM a, 0), ?_, ?_⟩
      · rw [console_Show_L4, if_neg (by simpa using hi)]; rfl
      · rw [reredosref_ShownOf_L4, if_neg (by simpa using hi)]
theorem c1 (p2 : List Store) (h : ∀ s ∈ p2, s.Items.length ≤ maxLen) (k : Option (ByteArray × Int)) : console_Show_L1 p2 k (p2.length + 1) 0 = if ∀ s ∈ p2, May s then k else some ((⟨#[]⟩ : ByteArray), 9) := by
  rw [all_loop0 (L := console_Show_L1 p2 k) (len := p2.length) (k := k) (bad := some ((⟨#[]⟩ : ByteArray), 9)) (p := fun i => ∀ x, p2[i]? = some x → May x)]
  · have this : (∀ j, j < p2.length → ∀ x, p2[j]? = some x → May x) ↔ (∀ s ∈ p2, May s) := by
      constructor
      · intro h s hs
        obtain ⟨j, hj, rfl⟩ := List.getElem_of_mem hs
        exact h j hj _ (List.getElem?_eq_getElem hj)
      · intro h j hj x hx; exact h x (List.mem_of_getElem? hx)
    by_cases h : (∀ s ∈ p2, May s)
    · rw [if_pos h, if_pos (this.2 h)]
    · rw [if_neg h, if_neg (fun q => h (this.1 q))]
  · intro n i hi; rw [console_Show_L1, if_neg (by simpa using hi)]
  · intro n i hi hp
    rw [console_Show_L1, if_pos (by simpa using hi), bind_at hi, check_eq _ (h _ (List.getElem_mem hi)), if_pos (hp _ (List.getElem?_eq_getElem hi))]; rfl
  · intro n i hi hp
    have hn : ¬ May p2[i] := fun g => hp fun x hx => by rw [List.getElem?_eq_getElem hi] at hx; cases hx; exact g
    rw [console_Show_L1, if_pos (by simpa using hi), bind_at hi, check_eq _ (h _ (List.getElem_mem hi)), if_neg hn]; rfl
theorem may0 : May (Store.mk [] [] [] []) := by
  refine ⟨?_, fun i hi => absurd hi (by simp), fun i hi => absurd hi (by simp), fun i hi => absurd hi (by simp), by simp⟩
  first | exact ⟨by simp, by simp⟩ | simp [ItemsOk]
theorem wr0 (t : Txn) : ∃ v, store_Writes (Store.mk [] [] [] []) t = some v ∧ (v.2 = 0 ↔ txnR t) := by
  rw [store_Writes, call_eq _ _ _ (by simp), if_pos may0]
  by_cases h : txnR t
  · rw [if_pos ⟨h, by omega, by omega⟩]
    exact ⟨_, rfl, by simp [h]⟩
  · rw [if_neg (fun g => h g.1)]
    exact ⟨_, rfl, by simp [h]⟩
theorem c3 (l : List Note) (k : Option (ByteArray × Int)) : console_Show_L3 l k (l.length + 1) 0 = if ∀ x ∈ l, txnR x.Txn then k else some ((⟨#[]⟩ : ByteArray), 9) := by
  rw [all_loop0 (L := console_Show_L3 l k) (len := l.length) (k := k) (bad := some ((⟨#[]⟩ : ByteArray), 9)) (p := fun i => ∀ x, l[i]? = some x → txnR x.Txn)]
  · have this : (∀ j, j < l.length → ∀ x, l[j]? = some x → txnR x.Txn) ↔ (∀ x ∈ l, txnR x.Txn) := by
      constructor
      · intro h s hs
        obtain ⟨j, hj, rfl⟩ := List.getElem_of_mem hs
        exact h j hj _ (List.getElem?_eq_getElem hj)
      · intro h j hj x hx; exact h x (List.mem_of_getElem? hx)
    by_cases h : (∀ x ∈ l, txnR x.Txn)
    · rw [if_pos h, if_pos (this.2 h)]
    · rw [if_neg h, if_neg (fun q => h (this.1 q))]
  · intro n i hi; rw [console_Show_L3, if_neg (by simpa using hi)]
  · intro n i hi hp
    obtain ⟨v, e, hv⟩ := wr0 l[i].Txn
    rw [console_Show_L3, if_pos (by simpa using hi), bind_at hi, e, Option.bind_some, if_neg (by simpa using hv.2 (hp _ (List.getElem?_eq_getElem hi)))]
  · intro n i hi hp
    have hn : ¬ txnR l[i].Txn := fun g => hp fun x hx => by rw [List.getElem?_eq_getElem hi] at hx; cases hx; exact g
    obtain ⟨v, e, hv⟩ := wr0 l[i].Txn
    rw [console_Show_L3, if_pos (by simpa using hi), bind_at hi, e, Option.bind_some, if_pos (by simpa using fun g => hn (hv.1 g))]
theorem c2 (p3 : List (List Note)) (k : Option (ByteArray × Int)) : console_Show_L2 p3 k (p3.length + 1) 0 = if ∀ l ∈ p3, ∀ x ∈ l, txnR x.Txn then k else some ((⟨#[]⟩ : ByteArray), 9) := by
  rw [all_loop0 (L := console_Show_L2 p3 k) (len := p3.length) (k := k) (bad := some ((⟨#[]⟩ : ByteArray), 9)) (p := fun i => ∀ l, p3[i]? = some l → ∀ x ∈ l, txnR x.Txn)]
  · have this : (∀ j, j < p3.length → ∀ l, p3[j]? = some l → ∀ x ∈ l, txnR x.Txn) ↔ (∀ l ∈ p3, ∀ x ∈ l, txnR x.Txn) := by
      constructor
      · intro h s hs
        obtain ⟨j, hj, rfl⟩ := List.getElem_of_mem hs
        exact h j hj _ (List.getElem?_eq_getElem hj)
      · intro h j hj x hx; exact h x (List.mem_of_getElem? hx)
    by_cases h : (∀ l ∈ p3, ∀ x ∈ l, txnR x.Txn)
    · rw [if_pos h, if_pos (this.2 h)]
    · rw [if_neg h, if_neg (fun q => h (this.1 q))]
  · intro n i hi; rw [console_Show_L2, if_neg (by simpa using hi)]
  · intro n i hi hp
    rw [console_Show_L2, if_pos (by simpa using hi), bind_at hi, withK, c3, if_pos (hp _ (List.getElem?_eq_getElem hi))]
  · intro n i hi hp
    have hn : ¬ ∀ x ∈ p3[i], txnR x.Txn := fun g => hp fun x hx => by rw [List.getElem?_eq_getElem hi] at hx; cases hx; exact g
    rw [console_Show_L2, if_pos (by simpa using hi), bind_at hi, withK, c3, if_neg hn]

theorem wrap_nx {i m : Nat} (h : i < m) (hm : m ≤ maxLen) : IntKind.i64.wrap ((i : Int) + 1) = ((i + 1 : Nat) : Int) := by
  unfold maxLen at hm
  rw [wrap_in (by omega) (by omega)]; rfl
theorem r1ne {p2 : List Store} {k : Int → Option (ByteArray × Int)} {n : Nat} {e i : Int} (he : e ≠ 0) : reredosref_ShownOf_L1 p2 k (n + 1) e i = k e := by
  rw [reredosref_ShownOf_L1, withK, if_neg (c := (e == 0) = true) (by simpa using he)]
  split <;> rfl
theorem r1 {p2 : List Store} (hl : p2.length ≤ maxLen) (h1 : ∀ s ∈ p2, s.Items.length ≤ maxLen) (h2 : ∀ s ∈ p2, s.Doubts.length ≤ maxLen) (k : Int → Option (ByteArray × Int)) : ∀ (n i : Nat), p2.length < n + i → i ≤ p2.length →
    reredosref_ShownOf_L1 p2 k n 0 (i : Int) = k (if ∀ j, i ≤ j → ∀ s, p2[j]? = some s → May s then 0 else 9) := by
  intro n
  induction n with
  | zero => intro i h1 h2; omega
  | succ n ih =>
    intro i g1 g2
    rw [reredosref_ShownOf_L1, withK]
    by_cases hi : i < p2.length
    · obtain ⟨s, hs⟩ := at_of hi
      have ms := List.mem_of_getElem? hs
      rw [if_pos (by simpa using hi), if_pos (by rfl), if_pos (by omega), Int.toNat_natCast, hs, Option.bind_some, May_eq s (h1 s ms) (h2 s ms), Option.bind_some, withK, wrap_nx hi hl]
      by_cases hm : May s
      · rw [decide_eq_true hm]
        simp only [Bool.not_true, Bool.false_eq_true, if_false]
        rw [ih (i + 1) (by omega) (by omega)]
        congr 1
        have : (∀ j, i ≤ j → ∀ s, p2[j]? = some s → May s) ↔ ∀ j, i + 1 ≤ j → ∀ s, p2[j]? = some s → May s := by
          constructor
          · intro h j hj; exact h j (by omega)
          · intro h j hj s' hs'
            by_cases e : j = i
            · subst e; rw [hs] at hs'; cases hs'; exact hm
            · exact h j (by omega) s' hs'
        by_cases h : ∀ j, i ≤ j → ∀ s, p2[j]? = some s → May s
        · rw [if_pos h, if_pos (this.1 h)]
        · rw [if_neg h, if_neg (fun q => h (this.2 q))]
      · rw [decide_eq_false hm]
        simp only [Bool.not_false, if_true]
        obtain ⟨n, rfl⟩ : ∃ m, n = m + 1 := ⟨n - 1, by omega⟩
        rw [r1ne (by omega), if_neg (fun h => hm (h i (by omega) s hs))]
    · rw [if_neg (by simpa using hi), if_pos]
      intro j hj s hs
      have := lt_of_at hs
      omega
theorem r3 {p3 : List (List Note)} {l : List Note} {i : Nat} (hl : p3[i]? = some l) (k : Int → Option (ByteArray × Int)) : ∀ (n : Nat) (e : Int) (j : Nat), l.length < n + j → j ≤ l.length →
    reredosref_ShownOf_L3 p3 (i : Int) k n e j = k (if ∀ m, j ≤ m → ∀ x, l[m]? = some x → txnR x.Txn then e else 9) := by
  intro n
  induction n with
  | zero => intro e j h1 h2; omega
  | succ n ih =>
    intro e j g1 g2
    rw [reredosref_ShownOf_L3, if_pos (by omega), Int.toNat_natCast, hl, Option.bind_some]
    by_cases hj : j < l.length
    · obtain ⟨x, hx⟩ := at_of hj
      rw [if_pos (by simpa using hj), hx, Option.bind_some, plainTxn_eq, Option.bind_some, withK]
      by_cases hm : txnR x.Txn
      · rw [decide_eq_true hm]
        simp only [Bool.not_true, Bool.false_eq_true, if_false]
        rw [ih e (j + 1) (by omega) (by omega)]
        congr 1
        have : (∀ m, j ≤ m → ∀ x, l[m]? = some x → txnR x.Txn) ↔ ∀ m, j + 1 ≤ m → ∀ x, l[m]? = some x → txnR x.Txn := by
          constructor
          · intro h m hm; exact h m (by omega)
          · intro h m hm' x' hx'
            by_cases e : m = j
            · subst e; rw [hx] at hx'; cases hx'; exact hm
            · exact h m (by omega) x' hx'
        by_cases h : ∀ m, j ≤ m → ∀ x, l[m]? = some x → txnR x.Txn
        · rw [if_pos h, if_pos (this.1 h)]
        · rw [if_neg h, if_neg (fun q => h (this.2 q))]
      · rw [decide_eq_false hm]
        simp only [Bool.not_false, if_true]
        rw [ih 9 (j + 1) (by omega) (by omega), if_neg (c := ∀ m, j ≤ m → ∀ x, l[m]? = some x → txnR x.Txn) (fun h => hm (h j (by omega) x hx))]
        congr 1
        split <;> rfl
    · rw [if_neg (by simpa using hj), if_pos]
      intro m hm x hx
      have := lt_of_at hx
      omega
theorem r2ne {p3 : List (List Note)} {k : Int → Option (ByteArray × Int)} {n : Nat} {e i : Int} (he : e ≠ 0) : reredosref_ShownOf_L2 p3 k (n + 1) e i = k e := by
  rw [reredosref_ShownOf_L2, withK, if_neg (c := (e == 0) = true) (by simpa using he)]
  split <;> rfl
theorem r2 {p3 : List (List Note)} (hl : p3.length ≤ maxLen) (k : Int → Option (ByteArray × Int)) : ∀ (n i : Nat), p3.length < n + i → i ≤ p3.length →
    reredosref_ShownOf_L2 p3 k n 0 (i : Int) = k (if ∀ j, i ≤ j → ∀ l, p3[j]? = some l → ∀ x ∈ l, txnR x.Txn then 0 else 9) := by
  intro n
  induction n with
  | zero => intro i h1 h2; omega
  | succ n ih =>
    intro i g1 g2
    rw [reredosref_ShownOf_L2, withK]
    by_cases hi : i < p3.length
    · obtain ⟨l, hs⟩ := at_of hi
      rw [if_pos (by simpa using hi), if_pos (by rfl), withK, Int.toNat_natCast, hs, Option.getD_some, r3 hs _ _ _ _ (by omega) (by omega), wrap_nx hi hl]
      have hm' : (∀ m, 0 ≤ m → ∀ x, l[m]? = some x → txnR x.Txn) ↔ ∀ x ∈ l, txnR x.Txn := by
        constructor
        · intro h x hx
          obtain ⟨m, hm, rfl⟩ := List.getElem_of_mem hx
          exact h m (by omega) _ (List.getElem?_eq_getElem hm)
        · intro h m _ x hx; exact h x (List.mem_of_getElem? hx)
      by_cases hm : ∀ x ∈ l, txnR x.Txn
      · rw [if_pos (hm'.2 hm), ih (i + 1) (by omega) (by omega)]
        congr 1
        have : (∀ j, i ≤ j → ∀ l, p3[j]? = some l → ∀ x ∈ l, txnR x.Txn) ↔ ∀ j, i + 1 ≤ j → ∀ l, p3[j]? = some l → ∀ x ∈ l, txnR x.Txn := by
          constructor
          · intro h j hj; exact h j (by omega)
          · intro h j hj s' hs'
            by_cases e : j = i
            · subst e; rw [hs] at hs'; cases hs'; exact hm
            · exact h j (by omega) s' hs'
        by_cases h : ∀ j, i ≤ j → ∀ l, p3[j]? = some l → ∀ x ∈ l, txnR x.Txn
        · rw [if_pos h, if_pos (this.1 h)]
        · rw [if_neg h, if_neg (fun q => h (this.2 q))]
      · obtain ⟨n, rfl⟩ : ∃ m, n = m + 1 := ⟨n - 1, by omega⟩
        rw [if_neg (fun h => hm (hm'.1 h)), r2ne (by omega), if_neg (fun h => hm (h i (by omega) l hs))]
    · rw [if_neg (by simpa using hi), if_pos]
      intro j hj s hs
      have := lt_of_at hs
      omega
theorem shows_same {p0 : Config} {p1 : Int} {p2 : List Store} {p3 : List (List Note)} {p4 : Command} (hl0 : p0.Labels.length ≤ maxLen) (hl2 : p2.length ≤ maxLen) (hl3 : p3.length ≤ maxLen) (hi : ∀ s ∈ p2, s.Items.length ≤ maxLen)
    (hd : ∀ s ∈ p2, s.Doubts.length ≤ 1048576) (hn : ∀ l ∈ p3, l.length ≤ 1048576) : ∃ r, console_Show p0 p1 p2 p3 p4 = some r ∧ reredosref_ShownOf p0 p1 p2 p3 p4 = some r := by
  obtain ⟨e, he, h0⟩ := fault_total p0
  have hdm : ∀ s ∈ p2, s.Doubts.length ≤ maxLen := fun s hs => by have := hd s hs; unfold maxLen; omega
  have rb : ∀ k, reredosref_ShownOf_L1 p2 k (p2.length + 1) 0 0 = k (if ∀ s ∈ p2, May s then 0 else 9) := by
    intro k
    have := r1 hl2 hi hdm k (p2.length + 1) 0 (by omega) (by omega)
    rw [show ((0 : Nat) : Int) = 0 from rfl] at this
    rw [this]; congr 1
    have hq : (∀ j, 0 ≤ j → ∀ s, p2[j]? = some s → May s) ↔ ∀ s ∈ p2, May s := by
      constructor
      · intro h s hs
        obtain ⟨j, hj, rfl⟩ := List.getElem_of_mem hs
        exact h j (by omega) _ (List.getElem?_eq_getElem hj)
      · intro h j _ x hx; exact h x (List.mem_of_getElem? hx)
    by_cases h : ∀ s ∈ p2, May s
    · rw [if_pos h, if_pos (hq.2 h)]
    · rw [if_neg h, if_neg (fun q => h (hq.1 q))]
  have rc : ∀ k, reredosref_ShownOf_L2 p3 k (p3.length + 1) 0 0 = k (if ∀ l ∈ p3, ∀ x ∈ l, txnR x.Txn then 0 else 9) := by
    intro k
    have := r2 hl3 k (p3.length + 1) 0 (by omega) (by omega)
    rw [show ((0 : Nat) : Int) = 0 from rfl] at this
    rw [this]; congr 1
    have hq : (∀ j, 0 ≤ j → ∀ l, p3[j]? = some l → ∀ x ∈ l, txnR x.Txn) ↔ ∀ l ∈ p3, ∀ x ∈ l, txnR x.Txn := by
      constructor
      · intro h s hs
        obtain ⟨j, hj, rfl⟩ := List.getElem_of_mem hs
        exact h j (by omega) _ (List.getElem?_eq_getElem hj)
      · intro h j _ x hx; exact h x (List.mem_of_getElem? hx)
    by_cases h : ∀ l ∈ p3, ∀ x ∈ l, txnR x.Txn
    · rw [if_pos h, if_pos (hq.2 h)]
    · rw [if_neg h, if_neg (fun q => h (hq.1 q))]
  simp only [console_Show, reredosref_ShownOf, label_same, he, withK, Option.bind_some, labelMay_eq p0 _ hl0, c1 p2 hi, c2 p3]
  -- an error e goes through
  have thru : ∀ e : Int, e ≠ 0 → ∀ (k : Int → Option (ByteArray × Int)), reredosref_ShownOf_L1 p2 (fun b => reredosref_ShownOf_L2 p3 k (p3.length + 1) b 0) (p2.length + 1) e 0 = k e := by
    intro e he k
    rw [r1ne he, r2ne he]
  by_cases he0 : e = 0
  case neg =>
    rw [if_pos (by simpa using he0), if_neg (c := (e == 0) = true) (by simpa using he0), if_neg (c := (e == 0) = true) (by simpa using he0), thru e he0, if_neg (c := (e == 0) = true) (by simpa using he0), if_pos (by simpa using he0)]
    exact ⟨_, rfl, rfl⟩
  subst he0
  obtain ⟨_, hl1, hl6, _⟩ := h0 rfl
  simp only [bne_self_eq_false, beq_self_eq_true, Bool.false_eq_true, if_false, if_true]
  by_cases hp : 0 ≤ p1 ∧ p1 < p0.Labels.length
  case neg =>
    rw [decide_eq_false hp]
    simp only [Bool.not_false, if_true]
    rw [if_neg (c := ((6 : Int) == 0) = true) (by decide), thru 6 (by omega)]
    refine ⟨((⟨#[]⟩ : ByteArray), 6), ?_, rfl⟩
    by_cases h : p1 < 0
    · rw [if_pos (by simpa using h)]
    · rw [if_neg (by simpa using h), if_pos (by simp; omega)]
  obtain ⟨hp0, hp1⟩ := hp
  rw [decide_eq_true (show 0 ≤ p1 ∧ p1 < p0.Labels.length from ⟨hp0, hp1⟩), if_neg (c := decide (p1 < 0) = true) (by simpa using hp0), if_neg (c := decide (p1 ≥ (p0.Labels.length : Int)) = true) (by simpa using hp1)]
  simp only [Bool.not_true, Bool.false_eq_true, if_false, beq_self_eq_true, if_true]
  by_cases hs : p2.length = p0.Labels.length
  case neg =>
    rw [if_pos (by simp; omega), if_pos (by simp; omega), thru 9 (by omega)]
    exact ⟨_, rfl, rfl⟩
  rw [if_neg (c := (((p2.length : Nat) : Int) != ((p0.Labels.length : Nat) : Int)) = true) (by simp; omega), if_neg (c := (((p2.length : Nat) : Int) != ((p0.Labels.length : Nat) : Int)) = true) (by simp; omega)]
  by_cases hs3 : p3.length = p0.Labels.length
  case neg =>
    rw [if_pos (by simp; omega), if_pos (by simp; omega), thru 9 (by omega)]
    exact ⟨_, rfl, rfl⟩
  rw [if_neg (c := (((p3.length : Nat) : Int) != ((p0.Labels.length : Nat) : Int)) = true) (by simp; omega), if_neg (c := (((p3.length : Nat) : Int) != ((p0.Labels.length : Nat) : Int)) = true) (by simp; omega), rb]
  by_cases hm : ∀ s ∈ p2, May s
  case neg =>
    rw [if_neg hm, if_neg hm, r2ne (by omega)]
    exact ⟨_, rfl, rfl⟩
  rw [if_pos hm, if_pos hm, rc]
  by_cases ht : ∀ l ∈ p3, ∀ x ∈ l, txnR x.Txn
  case neg =>
    rw [if_neg ht, if_neg ht]
    exact ⟨_, rfl, rfl⟩
  rw [if_pos ht, if_pos ht]
  have L : Let p0 p2 p3 := ⟨hl6, hs, hs3, hi, hd, fun s hs d hd => by
    obtain ⟨j, hj, rfl⟩ := List.getElem_of_mem hd
    have := (hm s hs).2.1 j hj _ (List.getElem?_eq_getElem hj)
    exact ⟨this.1, this.2.1, by omega⟩, hn, ht⟩
  simp only [beq_self_eq_true, if_true, bne_self_eq_false, Bool.false_eq_true, if_false]
  by_cases k1 : p4.Kind = 1
  · have := lab_loop L hp0 hp1 (.inl k1) (p0.Labels.length + 1) 0 [] (by omega) (by omega) (by simp)
    simpa [k1, bM] using this
  by_cases k4 : p4.Kind = 4
  · have := lab_loop L hp0 hp1 (.inr k4) (p0.Labels.length + 1) 0 [] (by omega) (by omega) (by simp)
    simpa [k4, bM] using this
  by_cases k2 : p4.Kind = 2
  · have un : ([] : List UInt8).length + bs_d9f7497c.size ≤ 140737488355328 := by decide
    have pr : ([] : List UInt8).length + bs_298e1f25.size ≤ 140737488355328 := by decide
    have eu : (⟨(([] : List UInt8) ++ bs_d9f7497c.data.toList).toArray⟩ : ByteArray) = bs_d9f7497c := rfl
    have ep : (⟨(([] : List UInt8) ++ bs_298e1f25.data.toList).toArray⟩ : ByteArray) = bs_298e1f25 := rfl
    simp only [k2, Int.reduceBEq, Int.reduceBNe, Bool.false_eq_true, if_false, if_true, if_pos un, if_pos pr, eu, ep]
    by_cases hL : 0 ≤ p4.Label ∧ p4.Label < p0.Labels.length
    case neg =>
      rw [decide_eq_false hL]
      simp only [Bool.false_eq_true, if_false]
      refine ⟨_, ?_, rfl⟩
      by_cases h : p4.Label ≥ 0
      · rw [if_pos (by simpa using h), if_neg (by simp; omega)]
      · rw [if_neg (by simpa using h)]
    rw [decide_eq_true hL, if_pos (c := decide (p4.Label ≥ 0) = true) (by simp; omega), if_pos (c := decide (p4.Label < (p0.Labels.length : Int)) = true) (by simp; omega)]
    obtain ⟨lx, hx⟩ := at_of (l := p0.Labels) (i := p1.toNat) (by omega)
    obtain ⟨ly, hy⟩ := at_of (l := p0.Labels) (i := p4.Label.toNat) (by omega)
    obtain ⟨s, hS⟩ := at_of (l := p2) (i := p4.Label.toNat) (by omega)
    obtain ⟨e1, b, e2⟩ := above_same lx ly
    have ms := List.mem_of_getElem? hS
    obtain ⟨q1, q2⟩ := prep_same (s := s) p4.Txn (hi s ms) (hdm s ms)
    simp only [if_pos hp0, if_pos hL.1, hx, hy, hS, e1, e2, q1, q2, Option.bind_some, if_true]
    cases b <;> cases prep s p4.Txn <;> exact ⟨_, rfl, rfl⟩
  · refine ⟨((⟨#[]⟩ : ByteArray), 3), ?_, ?_⟩ <;> simp [k1, k2, k4]

theorem nD_pos : ∀ d : D, 1 ≤ nD d := by
  intro d
  cases d <;> simp [nD]
theorem nRs_mem {r : List D} : ∀ {rows : List (List D)}, r ∈ rows → nCs r ≤ nRs rows
  | [], h => by cases h
  | x :: rows, h => by
    rw [nRs]
    cases h with
    | head => omega
    | tail _ h => have := nRs_mem h; omega
theorem nRs_len : ∀ {rows : List (List D)}, (∀ r ∈ rows, r ≠ []) → rows.length ≤ nRs rows
  | [], _ => by simp [nRs]
  | x :: rows, h => by
    have h1 := nRs_len (rows := rows) fun r hr => h r (by simp [hr])
    have h2 : 1 ≤ nCs x := by
      cases x with
      | nil => exact absurd rfl (h [] (by simp))
      | cons d ds => have := nD_pos d; rw [nCs]; omega
    rw [nRs, List.length_cons]; omega

end Go.V.Dec
