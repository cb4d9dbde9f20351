/- Plain laws (CoordHear): no program, no memory; conditions as stated. -/
import Derived.Test.YtmnicbhniaejjaaDoorG4
import Derived.Test.YtmnicbhniaejjaaDoorQCoordCommit
import Derived.Test.YtmnicbhniaejjaaDoorQWireMsg
set_option linter.unusedVariables false
set_option linter.unusedSimpArgs false
namespace Go.V.Dec
open Go Go.Proofs Classical
set_option maxRecDepth 100000
set_option maxHeartbeats 4000000
variable (G : Nat → Option (List D))
theorem take_set_snoc {α : Type} {l : List α} {i : Nat} {x : α} (h : i < l.length) : (l.set i x).take (i + 1) = l.take i ++ [x] := by
  rw [List.take_add_one, List.take_set_of_le (Nat.le_refl i)]
  simp [h]
theorem drop_set_lt {α : Type} {l : List α} {i j : Nat} {x : α} (h : i < j) : (l.set i x).drop j = l.drop j := by
  rw [List.drop_set, if_pos h]
theorem wrap_succ_nat {i : Nat} (h : i < maxLen) : IntKind.i64.wrap ((i : Int) + 1) = ((i + 1 : Nat) : Int) := wrap_succ_max h (Nat.le_refl _)
/-- What a loop that drops some elements in place comes to. -/
theorem del_loop {α R : Type} {p : α → Bool} {L : Nat → Int → Int → List α → Option R} {k : Int → List α → Option R} {orig : List α} (hmax : orig.length ≤ maxLen)
    (hk : ∀ n i (j : Nat) l, ¬ j < l.length → L (n + 1) i j l = k i l)
    (hd : ∀ n (i j : Nat) l x, l[j]? = some x → p x = true → L (n + 1) i j l = L n i (IntKind.i64.wrap ((j : Int) + 1)) l)
    (hs : ∀ n (i j : Nat) l x, l[j]? = some x → p x = false → i < l.length → L (n + 1) i j l = L n (IntKind.i64.wrap ((i : Int) + 1)) (IntKind.i64.wrap ((j : Int) + 1)) (l.set i x)) :
    ∀ n (i j : Nat) l, l.length = orig.length → l.length < n + j → i ≤ j → j ≤ l.length → l.drop j = orig.drop j → l.take i = (orig.take j).filter (fun x => !p x) →
      ∃ (i' : Nat) (l' : List α), L n i j l = k i' l' ∧ i' ≤ l'.length ∧ l'.take i' = orig.filter (fun x => !p x) := by
  intro n
  induction n with
  | zero => intro i j l h1 h2 h3 h4; omega
  | succ n ih =>
    intro i j l h1 h2 h3 h4 h5 h6
    by_cases hj : j < l.length
    · obtain ⟨x, hx⟩ := at_of hj
      have hox : orig[j]? = some x := by
        have := congrArg (fun m => m[0]?) h5
        simp only [List.getElem?_drop, Nat.add_zero] at this
        rw [← this]; exact hx
      have hjo : j < orig.length := lt_of_at hox
      have hstep : orig.take (j + 1) = orig.take j ++ [x] := by rw [List.take_add_one, hox]; rfl
      have hdrop : l.drop (j + 1) = orig.drop (j + 1) := by
        have := congrArg (List.drop 1) h5
        rwa [List.drop_drop, List.drop_drop] at this
      cases hp : p x with
      | true =>
        rw [hd n i j l x hx hp, wrap_succ_nat (by omega)]
        exact ih i (j + 1) l h1 (by omega) (by omega) (by omega) hdrop (by rw [h6, hstep]; simp [hp])
      | false =>
        have hi : i < l.length := by omega
        rw [hs n i j l x hx hp hi, wrap_succ_nat (by omega), wrap_succ_nat (by omega)]
        exact ih (i + 1) (j + 1) (l.set i x) (by simpa using h1) (by simp; omega) (by omega) (by simp; omega) (by rw [drop_set_lt (by omega), hdrop]) (by rw [take_set_snoc hi, h6, hstep]; simp [hp])
    · rw [hk n i j l hj]
      refine ⟨i, l, rfl, by omega, ?_⟩
      rw [h6, List.take_of_length_le (by omega)]
theorem filter_none {α : Type} {l : List α} {p : α → Bool} (h : ¬ ∃ x ∈ l, p x = true) : l.filter (fun x => !p x) = l := by
  rw [List.filter_eq_self]
  intro x hx
  cases hp : p x with
  | false => rfl
  | true => exact absurd ⟨x, hx, hp⟩ h
/-- As it begins: the first that goes stands at j. -/
theorem del_start {α : Type} {l : List α} {p : α → Bool} {j : Nat} {x : α} (hx : l[j]? = some x) (hp : p x = true) (hb : ∀ m y, m < j → l[m]? = some y → ¬ p y = true) : l.take j = (l.take (j + 1)).filter (fun x => !p x) := by
  rw [List.take_add_one, hx, List.filter_append]
  simp only [Option.toList_some, List.filter_cons, hp, Bool.not_true, Bool.false_eq_true, if_false, List.filter_nil, List.append_nil]
  symm
  rw [List.filter_eq_self]
  intro y hy
  obtain ⟨m, hm, rfl⟩ := List.mem_iff_getElem.1 hy
  simp only [List.length_take] at hm
  have := hb m (l.take j)[m] (by omega) (by simp [List.getElem?_eq_getElem (show m < l.length by omega)])
  simpa using this

theorem idxF_int (l : List Int) (q : Int → Bool) : (¬ (∃ x ∈ l, q x = true) ∧ slices_IndexFunc_int l (fun x => some (q x)) = some (-1)) ∨ ∃ (j : Nat) (x : Int), l[j]? = some x ∧ q x = true ∧ (∀ m y, m < j → l[m]? = some y → ¬ q y = true) ∧ slices_IndexFunc_int l (fun x => some (q x)) = some (j : Int) := by
  have hk : ∀ n i, ¬ i < l.length → slices_IndexFunc_int_L1 l (fun x => some (q x)) (some (-1)) (n + 1) i = some (-1) := fun n i hi => by rw [slices_IndexFunc_int_L1, if_neg (by simpa using hi)]
  have hg : ∀ n i, i < l.length → ¬ (∃ x, l[i]? = some x ∧ q x = true) → slices_IndexFunc_int_L1 l (fun x => some (q x)) (some (-1)) (n + 1) i = slices_IndexFunc_int_L1 l (fun x => some (q x)) (some (-1)) n (i + 1) := fun n i hi hp => by
    rw [slices_IndexFunc_int_L1, if_pos (by simpa using hi), bind_at hi]
    simp only [Option.bind_some]
    rw [if_neg]; intro e; exact hp ⟨_, List.getElem?_eq_getElem hi, e⟩
  have hb : ∀ n i, i < l.length → (∃ x, l[i]? = some x ∧ q x = true) → slices_IndexFunc_int_L1 l (fun x => some (q x)) (some (-1)) (n + 1) i = some (i : Int) := fun n i hi hp => by
    obtain ⟨x, hx, hp⟩ := hp
    rw [slices_IndexFunc_int_L1, if_pos (by simpa using hi), bind_at hi]
    rw [List.getElem?_eq_getElem hi] at hx; cases hx
    simp only [Option.bind_some]
    rw [if_pos hp]
  simp only [slices_IndexFunc_int, withK]
  rcases index_loop (f := fun i => some (i : Int)) hk hg hb with ⟨h, e⟩ | ⟨j, h1, ⟨x, h2, h2'⟩, h3, e⟩
  · refine .inl ⟨?_, e⟩
    rintro ⟨x, hm, hq⟩
    obtain ⟨j, hj, rfl⟩ := List.getElem_of_mem hm
    exact h ⟨j, hj, _, by simp [hj], hq⟩
  · exact .inr ⟨j, x, h2, h2', fun m y hm hy hq => h3 m hm ⟨y, hy, hq⟩, e⟩
theorem no_place (w : CoordWork) (n : Int) (h : ¬ ∃ j ∈ w.turn.Desk.Jobs, j.N = n) : coord_work_place w n = some (-1) ∧ reredosref_jobAt w.turn.Desk n = some (-1) := by
  have nx : ∀ i (hi : i < w.turn.Desk.Jobs.length), ¬ w.turn.Desk.Jobs[i].N = n := fun i hi e => h ⟨_, List.getElem_mem hi, e⟩
  constructor
  · simp only [coord_work_place, slices_IndexFunc_Job, withK]
    rw [true_loop (L := slices_IndexFunc_Job_L1 w.turn.Desk.Jobs (fun y1 => coord_work_place_1 y1 n) (some (-1))) (len := w.turn.Desk.Jobs.length) (k := some (-1)) (fun m i hi => by rw [slices_IndexFunc_Job_L1, if_neg (by simpa using hi)])
      (fun m i hi => by
        rw [slices_IndexFunc_Job_L1, if_pos (by simpa using hi), bind_at hi]
        simp only [coord_work_place_1, Option.bind_some]
        rw [if_neg (by simpa using nx i hi)]) _ 0 (by omega) (by omega)]
    rfl
  · simp only [reredosref_jobAt, withK]
    rw [true_loop (L := reredosref_jobAt_L1 w.turn.Desk n (some (-1))) (len := w.turn.Desk.Jobs.length) (k := some (-1)) (fun m i hi => by rw [reredosref_jobAt_L1, if_neg (by simpa using hi)])
      (fun m i hi => by
        rw [reredosref_jobAt_L1, if_pos (by simpa using hi), bind_at hi, if_neg (by simpa using nx i hi)]) _ 0 (by omega) (by omega)]
theorem cut_set {α : Type} (l : List α) (v : Nat) (x : α) : (l.set v x).take v ++ (l.set v x).drop (v + 1) = l.take v ++ l.drop (v + 1) := by
  rw [List.take_set_of_le (Nat.le_refl v), List.drop_set, if_pos (by omega)]
theorem endT_set (S l me : Int) (nx : Int) (J : List Job) (M : List Message) (R : List Record) (P : List Reply) (s cm : Int) (j j' : Job) (v : Nat) (h1 : j'.N = j.N) (h2 : j'.Tasks = j.Tasks) :
    endT S l me ⟨⟨nx, J.set v j'⟩, M, R, P, s, cm⟩ j' v = endT S l me ⟨⟨nx, J⟩, M, R, P, s, cm⟩ j v := by
  simp only [endT, cut_set, h1, h2]
/-- What the answer of a read or a write does. -/
theorem answered_same (c : Config) (l me : Int) (t : Turn) (m : Message) (v : Nat) (j : Job) (hj : t.Desk.Jobs[v]? = some j) (hS : 1 ≤ c.Sites ∧ c.Sites ≤ 4) (ok : JobOk c j) (hm : t.Messages.length ≤ 800) (hr : t.Replies.length ≤ 800) (hl : t.Desk.Jobs.length ≤ 100) :
    ∃ T, coord_work_answered ⟨c, l, me, t⟩ (v : Int) m (m.Kind == 6) = some ⟨c, l, me, T⟩ ∧ reredosref_answeredTask c l me t (v : Int) m = some T := by
  have hv0 : (0 : Int) ≤ (v : Int) := by omega
  have hv := lt_of_at hj
  simp only [coord_work_answered, reredosref_answeredTask, if_pos hv0, Int.toNat_natCast, hj, Option.bind_some, set_self hj, withK]
  have ht := ok.tasks
  by_cases h0 : 0 < j.Tasks.length
  case neg =>
    have p1 : decide (IntKind.i64.wrap (((j.Tasks.length : Nat) : Int) - 1) < 0) = true := decide_eq_true (by rw [wrap_in (by omega) (by omega)]; omega)
    rw [if_pos p1, if_pos p1]
    exact ⟨_, rfl, rfl⟩
  have e1 : IntKind.i64.wrap (((j.Tasks.length : Nat) : Int) - 1) = ((j.Tasks.length - 1 : Nat) : Int) := by rw [wrap_in (by omega) (by omega)]; omega
  have p1 : ¬ decide (((j.Tasks.length - 1 : Nat) : Int) < 0) = true := by intro hc; have := of_decide_eq_true hc; omega
  have p2 : (0 : Int) ≤ ((j.Tasks.length - 1 : Nat) : Int) := by omega
  have p3 : ((j.Tasks.length - 1 : Nat) : Int) ≤ (j.Tasks.length : Int) := by omega
  have hlt : j.Tasks.length - 1 < j.Tasks.length := by omega
  have f48 : fits 48 (t.Replies.length + 1) := fits48 (by omega)
  have hS0 : c.Sites ≠ 0 := by omega
  have f56 : fits 56 (j.Tasks.take (j.Tasks.length - 1)).length := ⟨by simp; omega, by simp; unfold maxLen; omega⟩
  simp only [e1, if_neg p1, if_pos p2, if_pos p3, Int.toNat_natCast, bind_at hlt, if_pos f48, if_neg hS0, TasksCopy_eq _ f56, Option.bind_some]
  generalize hx : j.Tasks[j.Tasks.length - 1] = x
  by_cases c1 : x.Done = true
  · rw [if_pos c1, if_pos c1]; exact ⟨_, rfl, rfl⟩
  rw [if_neg c1, if_neg c1]
  by_cases c2 : (x.Ask != m.Ask) = true
  · rw [if_pos c2, if_pos c2]; exact ⟨_, rfl, rfl⟩
  rw [if_neg c2, if_neg c2]
  by_cases c3 : (!(x.Write == (m.Kind == 6))) = true
  · rw [if_pos c3, if_pos c3]; exact ⟨_, rfl, rfl⟩
  rw [if_neg c3, if_neg c3]
  by_cases c4 : (x.Key != m.Key) = true
  · rw [if_pos c4, if_pos c4]; exact ⟨_, rfl, rfl⟩
  rw [if_neg c4, if_neg c4]
  cases k6 : (m.Kind == 6) with
  | false =>
    simp only [Bool.not_false, Bool.false_eq_true, if_false, if_true]
    by_cases c5 : (x.Label != m.Label) = true
    · rw [if_pos c5, if_pos c5]; exact ⟨_, rfl, rfl⟩
    rw [if_neg c5, if_neg c5]
    by_cases c6 : (m.From != x.Key.tmod c.Sites) = true
    · rw [if_pos c6, if_pos c6]; exact ⟨_, rfl, rfl⟩
    rw [if_neg c6, if_neg c6]
    by_cases c7 : (m.Code != 0) = true
    · simp only [if_pos c7]; exact ⟨_, rfl, rfl⟩
    · simp only [if_neg c7]; exact ⟨_, rfl, rfl⟩
  | true =>
    simp only [Bool.not_true, Bool.false_eq_true, if_false, if_true]
    by_cases c6 : (m.From != x.Key.tmod c.Sites) = true
    · rw [if_pos c6, if_pos c6]; exact ⟨_, rfl, rfl⟩
    rw [if_neg c6, if_neg c6]
    by_cases c7 : (m.Code != 0) = true
    · simp only [if_pos c7]
      have hen := end_eq ⟨c, l, me, ⟨⟨t.Desk.Next, t.Desk.Jobs.set v (Job.mk j.N j.State j.Tasks j.Asked j.Asks 0)⟩, t.Messages, t.Records, t.Replies ++ [Reply.mk me ((3 : Nat) : Int) j.N m.Key m.Value m.Code], t.Sure, t.Committed⟩⟩ v (Job.mk j.N j.State j.Tasks j.Asked j.Asks 0) (by simp [hv]) hS (fun t ht => (ok.key t ht).1) (by simp; omega) (by simp; omega)
      have hed := ended_eq c l me ⟨⟨t.Desk.Next, t.Desk.Jobs⟩, t.Messages, t.Records, t.Replies ++ [Reply.mk me ((3 : Nat) : Int) j.N m.Key m.Value m.Code], t.Sure, t.Committed⟩ v j hj hS (by simp; omega) (by simp; omega)
      rw [hen, hed, endT_set c.Sites l me t.Desk.Next t.Desk.Jobs _ _ _ _ _ j (Job.mk j.N j.State j.Tasks j.Asked j.Asks 0) v rfl rfl]
      exact ⟨_, rfl, rfl⟩
    · simp only [if_neg c7]; exact ⟨_, rfl, rfl⟩
/-- Is a task one that an answer makes sure? -/
def hitT (m : Message) (t : Task) : Bool := !t.Write && (t.Label == m.Label) && (t.Key == m.Key) && (t.Version == m.Version)
def markT (m : Message) (t : Task) : Task := if hitT m t = true then ⟨t.Write, t.Label, t.Key, t.Value, t.Version, t.Ask, t.Done, t.Sure || m.Yes⟩ else t
def openT (t : Task) : Bool := !t.Write && !t.Sure
theorem markT_key (m : Message) (t : Task) : (markT m t).Key = t.Key := by unfold markT; split <;> rfl
theorem set_at_self {α : Type} {l : List α} {i : Nat} (h : i < l.length) : l.set i l[i] = l := set_self (by simp [h])
theorem sure_step (m : Message) (x : Task) (a : Bool) (ts : List Task) (i : Nat) (hx : ts[i]? = some x) (k : Bool → List Task → Option CoordWork) :
    (if (!x.Write) = true then (if (x.Label == m.Label) = true then (if (x.Key == m.Key) = true then (if (x.Version == m.Version) = true then (if x.Sure = true then (k true (ts.set i (Task.mk x.Write x.Label x.Key x.Value x.Version x.Ask x.Done true))) else (k true (ts.set i (Task.mk x.Write x.Label x.Key x.Value x.Version x.Ask x.Done m.Yes)))) else (k a ts)) else (k a ts)) else (k a ts)) else (k a ts)) = k (a || hitT m x) (ts.set i (markT m x)) := by
  unfold markT hitT
  cases h1 : x.Write
  case true => simp [set_self hx]
  cases h2 : x.Label == m.Label
  case false => simp [set_self hx]
  cases h3 : x.Key == m.Key
  case false => simp [set_self hx]
  cases h4 : x.Version == m.Version
  case false => simp [set_self hx]
  cases h5 : x.Sure <;> simp
theorem sure_loop (m : Message) (j : Job) (k : Bool → Bool → List Task → Option CoordWork) : ∀ n a b i ts, ts.length = j.Tasks.length → j.Tasks.length < n + i → i ≤ j.Tasks.length →
    coord_work_sure_L1 m j k n a b i ts = k (a || (ts.drop i).any (hitT m)) (b || ((ts.drop i).map (markT m)).any openT) (ts.take i ++ (ts.drop i).map (markT m)) := by
  intro n
  induction n with
  | zero => intro a b i ts h1 h2 h3; omega
  | succ n ih =>
    intro a b i ts h1 h2 h3
    rw [coord_work_sure_L1]
    by_cases hi : i < j.Tasks.length
    · have hi' : i < ts.length := by omega
      have hx : ts[i]? = some ts[i] := by simp [hi']
      have ed : ts.drop i = ts[i] :: ts.drop (i + 1) := (List.getElem_cons_drop hi').symm
      have es : (ts.set i (markT m ts[i]))[i]? = some (markT m ts[i]) := by simp [hi']
      rw [if_pos (by simpa using hi), hx, Option.bind_some]
      simp only [withK]
      rw [sure_step m ts[i] a ts i hx (fun b15_1 b15_2 => if b = true then coord_work_sure_L1 m j k n b15_1 true (i + 1) b15_2 else Option.bind (b15_2[i]?) fun x24 => if (!x24.Write) = true then coord_work_sure_L1 m j k n b15_1 (!x24.Sure) (i + 1) b15_2 else coord_work_sure_L1 m j k n b15_1 false (i + 1) b15_2)]
      have ht : (ts.set i (markT m ts[i])).take (i + 1) = ts.take i ++ [markT m ts[i]] := take_set_snoc hi'
      have hd : (ts.set i (markT m ts[i])).drop (i + 1) = ts.drop (i + 1) := drop_set_lt (by omega)
      have e1 : (a || (ts.drop i).any (hitT m)) = ((a || hitT m ts[i]) || (ts.drop (i + 1)).any (hitT m)) := by rw [ed, List.any_cons, Bool.or_assoc]
      have e2 : ts.take i ++ (ts.drop i).map (markT m) = (ts.take i ++ [markT m ts[i]]) ++ (ts.drop (i + 1)).map (markT m) := by rw [ed, List.map_cons, List.append_assoc]; rfl
      have e3 : (b || ((ts.drop i).map (markT m)).any openT) = ((b || openT (markT m ts[i])) || ((ts.drop (i + 1)).map (markT m)).any openT) := by rw [ed, List.map_cons, List.any_cons, Bool.or_assoc]
      rw [e1, e2, e3]
      cases b with
      | true => rw [if_pos rfl, ih _ _ _ _ (by simpa using h1) (by omega) (by omega), ht, hd]; rfl
      | false =>
        rw [if_neg (by simp), es, Option.bind_some]
        cases hw : (markT m ts[i]).Write with
        | true =>
          have eo : openT (markT m ts[i]) = false := by simp [openT, hw]
          rw [if_neg (by simp), ih _ _ _ _ (by simpa using h1) (by omega) (by omega), ht, hd, eo]; rfl
        | false =>
          have eo : openT (markT m ts[i]) = !(markT m ts[i]).Sure := by simp [openT, hw]
          rw [if_pos (by simp), ih _ _ _ _ (by simpa using h1) (by omega) (by omega), ht, hd, eo]; rfl
    · rw [if_neg (by simpa using hi), List.drop_of_length_le (by omega), List.take_of_length_le (by omega)]; simp
theorem made_step (m : Message) (x : Task) (a : Int) (ts : List Task) (i : Nat) (hx : ts[i]? = some x) (k : Int → List Task → Option Turn) :
    (if (!x.Write) = true then (if (x.Label == m.Label) = true then (if (x.Key == m.Key) = true then (if (x.Version == m.Version) = true then (if m.Yes = true then (k (IntKind.i64.wrap (a + 1)) (ts.set i (Task.mk x.Write x.Label x.Key x.Value x.Version x.Ask x.Done true))) else (k (IntKind.i64.wrap (a + 1)) ts)) else (k a ts)) else (k a ts)) else (k a ts)) else (k a ts)) = k (if hitT m x = true then IntKind.i64.wrap (a + 1) else a) (ts.set i (markT m x)) := by
  unfold markT hitT
  cases h1 : x.Write
  case true => simp [set_self hx]
  cases h2 : x.Label == m.Label
  case false => simp [set_self hx]
  cases h3 : x.Key == m.Key
  case false => simp [set_self hx]
  cases h4 : x.Version == m.Version
  case false => simp [set_self hx]
  cases h5 : m.Yes
  · have : Task.mk false x.Label x.Key x.Value x.Version x.Ask x.Done x.Sure = x := by rw [← h1]
    simp [this, set_self hx]
  · simp
theorem made_loop (m : Message) (len : Nat) (k : Int → List Task → Option Turn) : ∀ n (a : Nat) i ts, ts.length = len → len < n + i → i ≤ len → a + (len - i) ≤ 1000 →
    reredosref_madeSure_L1 m k n (a : Int) i ts = k ((a + ((ts.drop i).filter (hitT m)).length : Nat) : Int) (ts.take i ++ (ts.drop i).map (markT m)) := by
  intro n
  induction n with
  | zero => intro a i ts h1 h2 h3; omega
  | succ n ih =>
    intro a i ts h1 h2 h3 h4
    rw [reredosref_madeSure_L1]
    by_cases hi : i < len
    · have hi' : i < ts.length := by omega
      have hx : ts[i]? = some ts[i] := by simp [hi']
      have ed : ts.drop i = ts[i] :: ts.drop (i + 1) := (List.getElem_cons_drop hi').symm
      rw [if_pos (by simpa using hi')]
      simp only [withK]
      rw [hx, Option.bind_some, made_step m ts[i] a ts i hx (fun b14_1 b14_2 => reredosref_madeSure_L1 m k n b14_1 (i + 1) b14_2)]
      have ht : (ts.set i (markT m ts[i])).take (i + 1) = ts.take i ++ [markT m ts[i]] := take_set_snoc hi'
      have hd : (ts.set i (markT m ts[i])).drop (i + 1) = ts.drop (i + 1) := drop_set_lt (by omega)
      have e2 : ts.take i ++ (ts.drop i).map (markT m) = (ts.take i ++ [markT m ts[i]]) ++ (ts.drop (i + 1)).map (markT m) := by rw [ed, List.map_cons, List.append_assoc]; rfl
      rw [e2]
      cases hh : hitT m ts[i] with
      | true =>
        have e : IntKind.i64.wrap ((a : Int) + 1) = ((a + 1 : Nat) : Int) := by rw [wrap_in (by omega) (by omega)]; omega
        rw [if_pos rfl, e, ih _ _ _ (by simpa using h1) (by omega) (by omega) (by omega), ht, hd, ed, List.filter_cons, hh]
        simp only [if_true, List.length_cons]
        congr 2; omega
      | false =>
        rw [if_neg (by simp), ih _ _ _ (by simpa using h1) (by omega) (by omega) (by omega), ht, hd, ed, List.filter_cons, hh]
        simp only [Bool.false_eq_true, if_false]
    · rw [if_neg (by simp; omega), List.drop_of_length_le (by omega), List.take_of_length_le (by omega)]; simp
theorem open_loop (t : Turn) (p : Int) (j : Job) (B : List Task) (k : Option Turn) : ∀ n i, B.length < n + i → i ≤ B.length →
    reredosref_madeSure_L2 t p j B k n i = if (B.drop i).any openT = true then some (Turn.mk (Desk.mk t.Desk.Next (t.Desk.Jobs.set p.toNat (Job.mk j.N j.State B j.Asked j.Asks j.Age))) t.Messages t.Records t.Replies t.Sure t.Committed) else k := by
  intro n
  induction n with
  | zero => intro i h1 h2; omega
  | succ n ih =>
    intro i h1 h2
    rw [reredosref_madeSure_L2]
    by_cases hi : i < B.length
    · have ed : B.drop i = B[i] :: B.drop (i + 1) := (List.getElem_cons_drop hi).symm
      rw [if_pos (by simpa using hi), ed, List.any_cons]
      simp only [withK]
      rw [bind_at hi, ih _ (by omega) (by omega)]
      unfold openT
      cases hw : B[i].Write <;> cases hs : B[i].Sure <;> simp
    · rw [if_neg (by simpa using hi), List.drop_of_length_le (by omega)]; simp
/-- What the answer of a second look does. -/
theorem sure_same (c : Config) (l me : Int) (t : Turn) (m : Message) (v : Nat) (j : Job) (hj : t.Desk.Jobs[v]? = some j) (hS : 1 ≤ c.Sites ∧ c.Sites ≤ 4) (ok : JobOk c j) (hm : t.Messages.length ≤ 800) (hr : t.Replies.length ≤ 800) (hc : t.Records.length ≤ 800) (hl : t.Desk.Jobs.length ≤ 100) :
    ∃ T, coord_work_sure ⟨c, l, me, t⟩ (v : Int) m = some ⟨c, l, me, T⟩ ∧ reredosref_madeSure c l me t (v : Int) m = some T := by
  have hv0 : (0 : Int) ≤ (v : Int) := by omega
  have hv := lt_of_at hj
  have hS0 : c.Sites ≠ 0 := by omega
  have ht := ok.tasks
  have f48 : fits 48 (t.Replies.length + 1) := fits48 (by omega)
  simp only [coord_work_sure, reredosref_madeSure, if_pos hv0, Int.toNat_natCast, hj, Option.bind_some, set_self hj, withK, if_neg hS0]
  by_cases c1 : (j.State != 2) = true
  · rw [if_pos c1, if_pos c1]; exact ⟨_, rfl, rfl⟩
  rw [if_neg c1, if_neg c1]
  by_cases c2 : (m.From != m.Key.tmod c.Sites) = true
  · rw [if_pos c2, if_pos c2]; exact ⟨_, rfl, rfl⟩
  rw [if_neg c2, if_neg c2]
  rw [sure_loop m j _ _ _ _ _ _ rfl (by omega) (by omega)]
  have ml := fun k => made_loop m j.Tasks.length k (j.Tasks.length + 1) 0 0 j.Tasks rfl (by omega) (by omega) (by omega)
  simp only [Int.natCast_zero, Nat.zero_add, List.drop_zero, List.take_zero, List.nil_append, Bool.false_or] at ml ⊢
  rw [ml]
  simp only [open_loop t (v : Int) j _ _ _ _ (Nat.lt_succ_self _) (Nat.zero_le _), List.drop_zero, Int.toNat_natCast, if_pos f48]
  have hmk : ∀ t ∈ j.Tasks.map (markT m), 0 ≤ t.Key := fun t ht => by
    obtain ⟨x, hx, rfl⟩ := List.mem_map.1 ht
    rw [markT_key]; exact (ok.key x hx).1
  have hJ : ((t.Desk.Jobs.set v (Job.mk j.N j.State (j.Tasks.map (markT m)) j.Asked j.Asks j.Age)))[v]? = some (Job.mk j.N j.State (j.Tasks.map (markT m)) j.Asked j.Asks j.Age) := by simp [hv]
  cases hh : j.Tasks.any (hitT m) with
  | false =>
    have e0 : (j.Tasks.filter (hitT m)) = [] := by
      rw [List.filter_eq_nil_iff]; intro x hx; have := List.any_eq_false.1 hh x hx; simpa using this
    simp only [e0, List.length_nil, Int.natCast_zero, beq_self_eq_true, if_true, Bool.not_false]
    exact ⟨_, rfl, rfl⟩
  | true =>
    have e0 : ¬ ((((j.Tasks.filter (hitT m)).length : Nat) : Int) == 0) = true := by
      obtain ⟨x, hx, hq⟩ := List.any_eq_true.1 hh
      have : 0 < (j.Tasks.filter (hitT m)).length := List.length_pos_of_mem (List.mem_filter.2 ⟨hx, hq⟩)
      simp; exact ⟨x, hx, hq⟩
    rw [if_neg e0]
    simp only [Bool.not_true, Bool.false_eq_true, if_false]
    cases hy : m.Yes with
    | false =>
      simp only [Bool.not_false, if_true]
      rw [end_eq ⟨c, l, me, ⟨⟨t.Desk.Next, t.Desk.Jobs.set v (Job.mk j.N j.State (j.Tasks.map (markT m)) j.Asked j.Asks j.Age)⟩, t.Messages, t.Records, t.Replies ++ [Reply.mk me 4 j.N 0 0 11], t.Sure, t.Committed⟩⟩ v _ hJ hS hmk (by simp; omega) (by simp; omega), ended_eq c l me _ v _ hJ hS (by simp; omega) (by simp; omega)]
      exact ⟨_, rfl, rfl⟩
    | true =>
      simp only [Bool.not_true, Bool.false_eq_true, if_false]
      cases ho : (j.Tasks.map (markT m)).any openT with
      | true => simp only [Bool.not_true, Bool.false_eq_true, if_false, if_true]; exact ⟨_, rfl, rfl⟩
      | false =>
        simp only [Bool.not_false, Bool.false_eq_true, if_false, if_true]
        rw [commit_eq ⟨c, l, me, ⟨⟨t.Desk.Next, t.Desk.Jobs.set v (Job.mk j.N j.State (j.Tasks.map (markT m)) j.Asked j.Asks j.Age)⟩, t.Messages, t.Records, t.Replies, t.Sure, t.Committed⟩⟩ v _ hJ hS hmk (by simp; omega) (by simp; omega) (by simp; omega) (by simp; omega), committed_eq c l me _ v _ hJ hS (by simp; omega) (by simp; omega) (by simp; omega) (by simp; omega)]
        exact ⟨_, rfl, rfl⟩
/-- What an answer that an outcome arrived leaves of those to be told. -/
theorem acked_list (m : Message) (A : List Int) (hA : A.length ≤ 1000) (k : List Int → Option CoordWork) :
    (Option.bind (slices_IndexFunc_int A (fun y6 => coord_work_acked_1 y6 m)) fun v7 => (if (v7 == (-1)) = true then (k A) else (coord_work_acked_L1 m (fun (b9_1 : Int) (b9_2 : List Int) => (if 0 ≤ b9_1 then (if b9_1 ≤ ((b9_2.length : Nat) : Int) then (k (b9_2.take b9_1.toNat)) else none) else none)) (A.length + 1) v7 (IntKind.i64.wrap (v7 + 1)) A))) = k (A.filter fun x => !(x == m.From)) := by
  have hmx : A.length ≤ maxLen := by unfold maxLen; omega
  rcases idxF_int A (fun x => x == m.From) with ⟨hn, e⟩ | ⟨j, x, h1, h2, h3, e⟩
  · rw [show (fun y6 => coord_work_acked_1 y6 m) = (fun x : Int => some (x == m.From)) from rfl, e]
    have := filter_none hn
    simp [this]
  · rw [show (fun y6 => coord_work_acked_1 y6 m) = (fun x : Int => some (x == m.From)) from rfl, e]
    have hj := lt_of_at h1
    have hne : ((j : Int) == -1) = false := by simp
    simp only [Option.bind_some, hne, Bool.false_eq_true, if_false]
    rw [wrap_succ_nat (by omega)]
    obtain ⟨i', l', h4, h5, h6⟩ := del_loop (p := fun x : Int => x == m.From) (k := (fun (b9_1 : Int) (b9_2 : List Int) => (if 0 ≤ b9_1 then (if b9_1 ≤ ((b9_2.length : Nat) : Int) then (k (b9_2.take b9_1.toNat)) else none) else none))) (L := coord_work_acked_L1 m (fun (b9_1 : Int) (b9_2 : List Int) => (if 0 ≤ b9_1 then (if b9_1 ≤ ((b9_2.length : Nat) : Int) then (k (b9_2.take b9_1.toNat)) else none) else none))) (orig := A) hmx
      (fun n i j l hj => by rw [coord_work_acked_L1, if_neg (by simpa using hj)])
      (fun n i j l x hx hp => by rw [coord_work_acked_L1, if_pos (by simpa using lt_of_at hx), if_pos (by omega), Int.toNat_natCast, hx]; simp only [Option.bind_some, coord_work_acked_1, withK, hp, Bool.not_true, Bool.false_eq_true, if_false])
      (fun n i j l x hx hp hi => by rw [coord_work_acked_L1, if_pos (by simpa using lt_of_at hx), if_pos (by omega), Int.toNat_natCast, hx]; simp only [Option.bind_some, coord_work_acked_1, withK, hp, Bool.not_false, if_true]; rw [if_pos (by omega), Int.toNat_natCast, bind_at hi])
      (A.length + 1) j (j + 1) A rfl (by omega) (by omega) (by omega) rfl (del_start h1 h2 h3)
    refine h4.trans ?_
    rw [if_pos (by omega), if_pos (by omega), Int.toNat_natCast, h6]
theorem heard_left (m : Message) (j : Job) (hA : j.Asked.length ≤ 50) (k : List Int → Option (Turn × Int)) : ∀ n i acc, j.Asked.length < n + i → i ≤ j.Asked.length → acc.length ≤ i →
    reredosref_CoordHeard_L1 m j k n i acc = k (acc ++ (j.Asked.drop i).filter fun x => !(x == m.From)) := by
  intro n
  induction n with
  | zero => intro i acc h1 h2 h3; omega
  | succ n ih =>
    intro i acc h1 h2 h3
    rw [reredosref_CoordHeard_L1]
    by_cases hi : i < j.Asked.length
    · have ed : j.Asked.drop i = j.Asked[i] :: j.Asked.drop (i + 1) := (List.getElem_cons_drop hi).symm
      rw [if_pos (by simpa using hi), bind_at hi, ed, List.filter_cons]
      simp only [withK]
      cases hq : (j.Asked[i] == m.From) with
      | true => rw [if_neg (by simpa using hq), ih _ _ (by omega) (by omega) (by omega)]; simp
      | false => rw [if_pos (by simpa using hq), if_pos (fits8 (by omega)), ih _ _ (by omega) (by omega) (by simp; omega)]; simp
    · rw [if_neg (by simpa using hi), List.drop_of_length_le (by omega)]; simp
theorem heard_ask (me : Int) (m : Message) (j : Job) (hA : j.Asked.length ≤ 50) (k : List Message → Option (Turn × Int)) : ∀ n i acc, j.Asked.length < n + i → i ≤ j.Asked.length → acc.length ≤ i →
    reredosref_CoordHeard_L2 me m j k n i acc = k (acc ++ if j.State = 3 then ((j.Asked.drop i).filter fun x => x == m.From).map fun _ => sayM me j.N true m.From else []) := by
  intro n
  induction n with
  | zero => intro i acc h1 h2 h3; omega
  | succ n ih =>
    intro i acc h1 h2 h3
    rw [reredosref_CoordHeard_L2]
    by_cases hi : i < j.Asked.length
    · have ed : j.Asked.drop i = j.Asked[i] :: j.Asked.drop (i + 1) := (List.getElem_cons_drop hi).symm
      rw [if_pos (by simpa using hi), ed, List.filter_cons]
      simp only [withK]
      by_cases hs : j.State = 3
      · rw [if_pos (by simpa using hs), bind_at hi]
        simp only [if_pos hs]
        cases hq : (j.Asked[i] == m.From) with
        | true =>
          rw [if_pos rfl]
          simp only [reredosref_about, Option.bind_some]
          rw [if_pos (fits96 (by omega)), ih _ _ (by omega) (by omega) (by simp; omega)]
          simp [hs, sayM]
        | false => rw [if_neg (by simp), ih _ _ (by omega) (by omega) (by omega)]; simp [hs]
      · rw [if_neg (by simpa using hs), ih _ _ (by omega) (by omega) (by omega)]
        simp [hs]
    · rw [if_neg (by simpa using hi), List.drop_of_length_le (by omega)]; simp
theorem nodup_one {l : List Int} (h : l.Nodup) (x : Int) : (l.filter fun y => y == x) = if x ∈ l then [x] else [] := by
  induction l with
  | nil => simp
  | cons y l ih =>
    obtain ⟨h1, h2⟩ := List.nodup_cons.1 h
    rw [List.filter_cons, ih h2]
    by_cases e : y = x
    · subst e; simp [h1]
    · have e' : (y == x) = false := by simpa using e
      rw [e', if_neg (by simp)]
      have : (x ∈ y :: l) ↔ x ∈ l := by
        rw [List.mem_cons]; constructor
        · rintro (h | h)
          · exact absurd h.symm e
          · exact h
        · exact .inr
      by_cases hm : x ∈ l
      · rw [if_pos hm, if_pos (this.2 hm)]
      · rw [if_neg hm, if_neg (fun q => hm (this.1 q))]
theorem msg_kind (c : Config) (m : Message) (h : reredosref_MessageFault c m = some 0) : 1 ≤ m.Kind ∧ m.Kind ≤ 9 := by
  obtain ⟨e, he, _⟩ := fault_total c
  simp only [reredosref_MessageFault, he, Option.bind_some, In_eq] at h
  by_cases h0 : e = 0
  case neg => rw [if_pos (by simpa using h0)] at h; exact absurd (Option.some.inj h) h0
  rw [if_neg (by simpa using h0)] at h
  by_cases hk : 1 ≤ m.Kind ∧ m.Kind ≤ 9
  · exact hk
  · simp [hk] at h
theorem CoordHears_run (c : Config) (l me : Int) (d : Desk) (m : Message) (hl : c.Labels.length ≤ maxLen) (hd : d.lens) (hf : d.fit) : reredoslaw_CoordHears c l me d m = some true := by
  obtain ⟨e, e1, e2, e3⟩ := deskFault_eq c l me d hl hd
  obtain ⟨m1, r, m2⟩ := msg_same c m hl
  rw [m2] at m1
  have key : ∃ r, coord_Hear c l me d m = some r ∧ reredosref_CoordHeard c l me d m = some r := by
    simp only [coord_Hear, reredosref_CoordHeard, e1, e3, m1, m2, own_eq d hf, DeskCopy_eq d hf, Option.bind_some, withK]
    by_cases he : e = 0
    case neg => simp [he]
    subst he
    have D := desk_ok c d hl hd e2
    by_cases a : 0 ≤ l ∧ l < c.Labels.length
    case neg =>
      by_cases a1 : l < 0
      · simp [a, a1]
      · have a2 : l ≥ c.Labels.length := by omega
        simp [a, a2]
    by_cases b : 0 ≤ me ∧ me < c.Sites
    case neg =>
      have a1 : ¬ l < 0 := by omega
      have a2 : ¬ l ≥ c.Labels.length := by omega
      by_cases b1 : me < 0
      · simp [a, a1, a2, b, b1]
      · have b2 : me ≥ c.Sites := by omega
        simp [a, a1, a2, b, b1, b2]
    have a1 : ¬ l < 0 := by omega
    have a2 : ¬ l ≥ c.Labels.length := by omega
    have b1 : ¬ me < 0 := by omega
    have b2 : ¬ me ≥ c.Sites := by omega
    have hE : (if (0 : Int) ≠ 0 then (0 : Int) else if ¬ (0 ≤ l ∧ l < c.Labels.length) then 6 else if ¬ (0 ≤ me ∧ me < c.Sites) then 2 else 0) = 0 := by simp [a, b]
    rw [hE]
    simp only [decide_eq_false a1, decide_eq_false a2, decide_eq_false b1, decide_eq_false b2, Bool.false_eq_true, if_false, bne_self_eq_false, beq_self_eq_true, if_true]
    by_cases hr : r = 0
    case neg =>
      have hr1 : (r != 0) = true := by simpa using hr
      have hr2 : (r == 0) = false := by simpa using hr
      simp only [hr1, hr2, if_true, Bool.false_eq_true, if_false]
      exact ⟨_, rfl, rfl⟩
    subst hr
    simp only [bne_self_eq_false, beq_self_eq_true, Bool.false_eq_true, if_false, if_true]
    by_cases t1 : (m.To != me) = true
    · simp only [if_pos t1]; exact ⟨_, rfl, rfl⟩
    simp only [if_neg t1]
    by_cases t2 : (m.Txn.Site != me) = true
    · simp only [if_pos t2]; exact ⟨_, rfl, rfl⟩
    simp only [if_neg t2, beq_self_eq_true, if_true]
    by_cases t3 : decide (m.Kind < 5) = true
    · simp only [if_pos t3]; exact ⟨_, rfl, rfl⟩
    simp only [if_neg t3, bne_self_eq_false, Bool.false_eq_true, if_false]
    have hk : 5 ≤ m.Kind ∧ m.Kind ≤ 9 := by
      have := msg_kind c m m2
      have : ¬ m.Kind < 5 := by simpa using t3
      omega
    have hsite : m.Txn.Site = me := by simpa using t2
    have htxn : m.Txn = Txn.mk me m.Txn.N := by rw [← hsite]
    have hS := D.sites
    have hlen := D.len
    rcases Classical.em (∃ j ∈ d.Jobs, j.N = m.Txn.N) with hx | hx
    case inr =>
      obtain ⟨g1, g2⟩ := no_place ⟨c, l, me, ⟨d, [], [], [], 0, 0⟩⟩ m.Txn.N hx
      simp only at g2
      have n1 : decide ((-1 : Int) < 0) = true := rfl
      have f96 : fits 96 (0 + 1) := fits96 (by omega)
      simp only [g1, g2, Option.bind_some, coord_work_asked, reredosref_about, n1, if_true, List.length_nil, if_pos f96, List.nil_append]
      by_cases k9 : (m.Kind == 9) = true
      · simp only [if_pos k9]; exact ⟨_, rfl, rfl⟩
      · simp only [if_neg k9]; exact ⟨_, rfl, rfl⟩
    obtain ⟨v, j, hj, hn, g1, g2⟩ := place_at ⟨c, l, me, ⟨d, [], [], [], 0, 0⟩⟩ m.Txn.N hx
    simp only at hj g2
    have hv := lt_of_at hj
    have hv0 : (0 : Int) ≤ ((v : Nat) : Int) := by omega
    have hv1 : ¬ decide (((v : Nat) : Int) < 0) = true := by simp
    have okj := (D.job j (List.mem_of_getElem? hj)).1
    have hasked := okj.asked
    simp only [g1, g2, Option.bind_some, if_neg hv1, if_pos hv0, Int.toNat_natCast, hj, set_self hj]
    have hd : Desk.mk d.Next d.Jobs = d := rfl
    have hkk : m.Kind = 5 ∨ m.Kind = 6 ∨ m.Kind = 7 ∨ m.Kind = 8 ∨ m.Kind = 9 := by omega
    rcases hkk with h | h | h | h | h
    · obtain ⟨T, w1, w2⟩ := answered_same c l me ⟨d, [], [], [], 0, 0⟩ m v j hj hS okj (by simp) (by simp) (by simp; omega)
      have k6 : (m.Kind == 6) = false := by rw [h]; rfl
      rw [k6] at w1
      have k5 : (m.Kind == 5) = true := by rw [h]; rfl
      have k9 : (m.Kind == 9) = false := by rw [h]; rfl
      simp only [k5, k9, hd, w1, w2, Bool.false_eq_true, if_false, if_true, Option.bind_some]
      exact ⟨_, rfl, rfl⟩
    · obtain ⟨T, w1, w2⟩ := answered_same c l me ⟨d, [], [], [], 0, 0⟩ m v j hj hS okj (by simp) (by simp) (by simp; omega)
      have k6 : (m.Kind == 6) = true := by rw [h]; rfl
      rw [k6] at w1
      have k5 : (m.Kind == 5) = false := by rw [h]; rfl
      have k9 : (m.Kind == 9) = false := by rw [h]; rfl
      simp only [k5, k6, k9, hd, w1, w2, Bool.false_eq_true, if_false, if_true, Option.bind_some]
      exact ⟨_, rfl, rfl⟩
    · obtain ⟨T, w1, w2⟩ := sure_same c l me ⟨d, [], [], [], 0, 0⟩ m v j hj hS okj (by simp) (by simp) (by simp) (by simp; omega)
      have k5 : (m.Kind == 5) = false := by rw [h]; rfl
      have k6 : (m.Kind == 6) = false := by rw [h]; rfl
      have k7 : (m.Kind == 7) = true := by rw [h]; rfl
      have k9 : (m.Kind == 9) = false := by rw [h]; rfl
      simp only [k5, k6, k7, k9, hd, w1, w2, Bool.false_eq_true, if_false, if_true, Option.bind_some]
      exact ⟨_, rfl, rfl⟩
    · have k5 : (m.Kind == 5) = false := by rw [h]; rfl
      have k6 : (m.Kind == 6) = false := by rw [h]; rfl
      have k7 : (m.Kind == 7) = false := by rw [h]; rfl
      have k8 : (m.Kind == 8) = true := by rw [h]; rfl
      have k9 : (m.Kind == 9) = false := by rw [h]; rfl
      simp only [k5, k6, k7, k8, k9, Bool.false_eq_true, if_false, if_true]
      rw [heard_left m j (by omega) _ _ _ _ (by omega) (by omega) (by simp), List.drop_zero, List.nil_append]
      simp only [coord_work_acked, withK, if_pos hv0, Int.toNat_natCast, hj, Option.bind_some]
      by_cases hs : j.State = 3
      · have s1 : (j.State != 3) = false := by simpa using hs
        have s2 : (j.State == 3) = true := by simpa using hs
        simp only [s1, s2, Bool.false_eq_true, if_false, if_true]
        have al := acked_list m j.Asked (by omega) (fun b4 => if (((b4.length : Nat) : Int) == 0) = true then (if fits 80 (([] : List Record).length + 1) then (Option.bind (deleteF (d.Jobs.set v (Job.mk j.N j.State j.Tasks b4 j.Asks j.Age)) (v : Int) (IntKind.i64.wrap ((v : Int) + 1))) fun v33 => some (CoordWork.mk c l me (Turn.mk (Desk.mk d.Next v33) [] ([] ++ [(Record.mk 4 (Txn.mk me j.N) 0 0 0 false [])]) [] 0 0))) else none) else some (CoordWork.mk c l me (Turn.mk (Desk.mk d.Next (d.Jobs.set v (Job.mk j.N j.State j.Tasks b4 j.Asks j.Age))) [] [] [] 0 0)))
        rw [al]
        cases hz : (((((j.Asked.filter fun x => !(x == m.From)).length : Nat) : Int)) == 0) with
        | true =>
          have f80 : fits 80 (0 + 1) := fits80 (by omega)
          simp only [if_true, List.length_nil, if_pos f80, List.nil_append]
          rw [deleteF_at _ _ (by simpa using hv) (by simp; omega), without_eq _ _ (by simp; omega), Option.bind_some, Option.bind_some, hn, ← htxn]
          exact ⟨_, rfl, rfl⟩
        | false =>
          simp only [Bool.false_eq_true, if_false]
          exact ⟨_, rfl, rfl⟩
      · have s1 : (j.State != 3) = true := by simpa using hs
        have s2 : (j.State == 3) = false := by simpa using hs
        simp only [s1, s2, Bool.false_eq_true, if_false, if_true]
        exact ⟨_, rfl, rfl⟩
    · have k5 : (m.Kind == 5) = false := by rw [h]; rfl
      have k6 : (m.Kind == 6) = false := by rw [h]; rfl
      have k7 : (m.Kind == 7) = false := by rw [h]; rfl
      have k8 : (m.Kind == 8) = false := by rw [h]; rfl
      have k9 : (m.Kind == 9) = true := by rw [h]; rfl
      simp only [k5, k6, k7, k8, k9, Bool.false_eq_true, if_false, if_true]
      rw [heard_ask me m j (by omega) _ _ _ _ (by omega) (by omega) (by simp), List.drop_zero, List.nil_append, nodup_one okj.nd]
      simp only [coord_work_asked, withK, if_neg hv1, if_pos hv0, Int.toNat_natCast, hj, Option.bind_some, contains_int, set_self hj]
      have f96 : fits 96 (0 + 1) := fits96 (by omega)
      by_cases hs : j.State = 3
      · have s2 : (j.State == 3) = true := by simpa using hs
        simp only [s2, if_pos hs, if_true, List.length_nil, if_pos f96, List.nil_append]
        by_cases hm : m.From ∈ j.Asked
        · simp only [decide_eq_true hm, if_pos hm, if_true]; exact ⟨_, rfl, rfl⟩
        · simp only [decide_eq_false hm, if_neg hm, Bool.false_eq_true, if_false]; exact ⟨_, rfl, rfl⟩
      · have s2 : (j.State == 3) = false := by simpa using hs
        simp only [s2, if_neg hs, Bool.false_eq_true, if_false]
        exact ⟨_, rfl, rfl⟩
  obtain ⟨r, r1, r2⟩ := key
  simp only [reredoslaw_CoordHears, DeskCopy_eq d hf, Option.bind_some, r1, r2, withK, sameTurnR, sameDeskR]
  simp

end Go.V.Dec
