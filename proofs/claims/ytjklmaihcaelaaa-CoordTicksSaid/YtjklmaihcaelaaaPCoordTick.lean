/- Plain laws (CoordTick): no program, no memory; conditions as stated. -/
import Derived.Test.YtjklmaihcaelaaaF2
import Derived.Test.YtjklmaihcaelaaaPCoordTurn
set_option linter.unusedVariables false
set_option linter.unusedSimpArgs false
namespace Go.V.Dec
open Go Go.Proofs Classical
set_option maxRecDepth 100000
set_option maxHeartbeats 4000000
variable (G : Nat → Option (List D))
theorem mem_set_ne {α : Type} {l : List α} {v : Nat} {x y z : α} (hx : x ∈ l) (hy : l[v]? = some y) (hne : x ≠ y) : x ∈ l.set v z := by
  obtain ⟨i, hi, rfl⟩ := List.getElem_of_mem hx
  have : v ≠ i := fun e => by subst e; rw [List.getElem?_eq_getElem hi] at hy; exact hne (Option.some.inj hy)
  have h2 : (l.set v z)[i]? = some l[i] := by rw [List.getElem?_set, if_neg this]; simp [hi]
  exact List.mem_of_getElem? h2
theorem mem_cut_ne {α : Type} {l : List α} {v : Nat} {x y : α} (hx : x ∈ l) (hy : l[v]? = some y) (hne : x ≠ y) : x ∈ l.take v ++ l.drop (v + 1) := by
  obtain ⟨i, hi, rfl⟩ := List.getElem_of_mem hx
  have hv : v ≠ i := fun e => by subst e; rw [List.getElem?_eq_getElem hi] at hy; exact hne (Option.some.inj hy)
  rw [List.mem_append]
  rcases Nat.lt_or_ge i v with h | h
  · left
    have h2 : (l.take v)[i]? = some l[i] := by rw [List.getElem?_take, if_pos h]; simp [hi]
    exact List.mem_of_getElem? h2
  · right
    have h2 : (l.drop (v + 1))[i - (v + 1)]? = some l[i] := by rw [List.getElem?_drop, show v + 1 + (i - (v + 1)) = i by omega]; simp [hi]
    exact List.mem_of_getElem? h2
theorem mem_set_or {α : Type} {l : List α} {v : Nat} {x z : α} (hx : x ∈ l.set v z) : x ∈ l ∨ x = z := List.mem_or_eq_of_mem_set hx
theorem mem_cut {α : Type} {l : List α} {v : Nat} {x : α} (hx : x ∈ l.take v ++ l.drop (v + 1)) : x ∈ l := by
  rcases List.mem_append.1 hx with h | h
  · exact List.mem_of_mem_take h
  · exact List.mem_of_mem_drop h
/-- The place of a job: both look alike. -/
theorem place_at (w : CoordWork) (n : Int) (h : ∃ j ∈ w.turn.Desk.Jobs, j.N = n) : ∃ (v : Nat) (j : Job), w.turn.Desk.Jobs[v]? = some j ∧ j.N = n ∧ coord_work_place w n = some (v : Int) ∧ reredosref_jobAt w.turn.Desk n = some (v : Int) := by
  obtain ⟨x, hx, hn⟩ := h
  obtain ⟨i, hi, rfl⟩ := List.getElem_of_mem hx
  obtain ⟨v, j, h1, h2, h3⟩ := find_first (l := w.turn.Desk.Jobs) (p := fun j => j.N = n) ⟨i, _, by simp [hi], hn⟩
  have hv := lt_of_at h1
  refine ⟨v, j, h1, h2, ?_, ?_⟩
  · simp only [coord_work_place, slices_IndexFunc_Job, withK]
    obtain ⟨_, b⟩ := find_loop (L := slices_IndexFunc_Job_L1 w.turn.Desk.Jobs (fun y1 => coord_work_place_1 y1 n) (some (-1))) (len := w.turn.Desk.Jobs.length) (p := fun i => ∃ y, w.turn.Desk.Jobs[i]? = some y ∧ y.N = n) (k := some (-1)) (f := fun i => some ((i : Nat) : Int))
      (fun m i hi => by rw [slices_IndexFunc_Job_L1, if_neg (by simpa using hi)])
      (fun m i hi hp => by
        rw [slices_IndexFunc_Job_L1, if_pos (by simpa using hi), bind_at hi]
        simp only [coord_work_place_1, Option.bind_some]
        rw [if_neg]
        intro h; exact hp ⟨w.turn.Desk.Jobs[i], by simp [hi], by simpa using h⟩)
      (fun m i hi hp => by
        obtain ⟨y, g1, g2⟩ := hp
        rw [slices_IndexFunc_Job_L1, if_pos (by simpa using hi), g1]
        simp [coord_work_place_1, g2]) (w.turn.Desk.Jobs.length + 1) 0 (by omega) (by omega)
    rw [b v (by omega) hv ⟨j, h1, h2⟩ (fun m _ hm ⟨y, g1, g2⟩ => h3 m y hm g1 g2)]
    rfl
  · simp only [reredosref_jobAt, withK]
    obtain ⟨_, b⟩ := find_loop (L := reredosref_jobAt_L1 w.turn.Desk n (some (-1))) (len := w.turn.Desk.Jobs.length) (p := fun i => ∃ y, w.turn.Desk.Jobs[i]? = some y ∧ y.N = n) (k := some (-1)) (f := fun i => some ((i : Nat) : Int))
      (fun m i hi => by rw [reredosref_jobAt_L1, if_neg (by simpa using hi)])
      (fun m i hi hp => by
        rw [reredosref_jobAt_L1, if_pos (by simpa using hi), bind_at hi, if_neg]
        intro h; exact hp ⟨w.turn.Desk.Jobs[i], by simp [hi], by simpa using h⟩)
      (fun m i hi hp => by
        obtain ⟨y, g1, g2⟩ := hp
        rw [reredosref_jobAt_L1, if_pos (by simpa using hi), g1]
        simp [g2]) (w.turn.Desk.Jobs.length + 1) 0 (by omega) (by omega)
    rw [b v (by omega) hv ⟨j, h1, h2⟩ (fun m _ hm ⟨y, g1, g2⟩ => h3 m y hm g1 g2)]
/-- What a late job's client is told. -/
def lateR (me : Int) (j : Job) : List Reply :=
  if j.State == 2 then [Reply.mk me 4 j.N 0 0 14] else match j.Tasks[j.Tasks.length - 1]? with
  | some t => if t.Done = true then [] else [Reply.mk me (if t.Write = true then 3 else 2) j.N t.Key 0 14]
  | none => []
def lateT (S l me : Int) (t : Turn) (v : Nat) (j : Job) : Turn :=
  if j.State == 3 then ⟨⟨t.Desk.Next, t.Desk.Jobs.set v ⟨j.N, j.State, j.Tasks, j.Asked, j.Asks, 0⟩⟩, t.Messages ++ j.Asked.map (sayM me j.N true), t.Records, t.Replies, t.Sure, t.Committed⟩
  else endT S l me ⟨t.Desk, t.Messages, t.Records, t.Replies ++ lateR me j, t.Sure, t.Committed⟩ j v
theorem lateR_len (me : Int) (j : Job) : (lateR me j).length ≤ 1 := by
  unfold lateR
  split
  · simp
  · split
    · split <;> simp
    · simp
theorem late_eq (w : CoordWork) (a : Nat) (j : Job) (hj : w.turn.Desk.Jobs[a]? = some j) (hS : 1 ≤ w.c.Sites ∧ w.c.Sites ≤ 4) (ok : JobOk w.c j) (hm : w.turn.Messages.length ≤ 800) (hr : w.turn.Replies.length ≤ 800) (hl : w.turn.Desk.Jobs.length ≤ 100) :
    coord_work_late w (a : Int) = some ⟨w.c, w.l, w.me, lateT w.c.Sites w.l w.me w.turn a j⟩ := by
  have hk : ∀ t ∈ j.Tasks, 0 ≤ t.Key := fun t ht => (ok.key t ht).1
  rw [coord_work_late, if_pos (by omega), Int.toNat_natCast, hj, Option.bind_some]
  simp only [withK]
  unfold lateT
  by_cases h3 : (j.State == 3) = true
  · rw [if_pos h3, if_pos h3]
    rw [map_loop (L := coord_work_late_L1 w j _) (l := j.Asked) (f := sayM w.me j.N true) (fits96 (show 1000 ≤ 1000 by omega)) (fun n i acc hi => by rw [coord_work_late_L1, if_neg (by simpa using hi)]) (fun n i acc hi hf => by rw [coord_work_late_L1, if_pos (by simpa using hi), bind_at hi, if_pos hf]; rfl) _ _ _ (by omega) (by omega) (by have := ok.asked; omega)]
    rw [List.drop_zero]
  · rw [if_neg h3, if_neg h3]
    by_cases h2 : (j.State == 2) = true
    · rw [if_pos h2, if_pos (fits48 (by omega)), end_eq _ a j (by exact hj) (by exact hS) hk (by simpa using (by omega : w.turn.Messages.length ≤ 900)) (by exact hl), Option.bind_some]
      simp [lateR, h2]
    · rw [if_neg h2]
      have hn := ok.tasks
      rw [wrap_in (by omega) (by omega)]
      by_cases h0 : 0 < j.Tasks.length
      · have e1 : ((j.Tasks.length : Nat) : Int) - 1 = ((j.Tasks.length - 1 : Nat) : Int) := by omega
        rw [if_pos (by simp; omega), e1, if_pos (by omega), Int.toNat_natCast, bind_at (by omega : j.Tasks.length - 1 < j.Tasks.length), set_self hj]
        have hlt : j.Tasks[j.Tasks.length - 1]? = some j.Tasks[j.Tasks.length - 1] := by simp
        have hR : lateR w.me j = if j.Tasks[j.Tasks.length - 1].Done = true then [] else [Reply.mk w.me (if j.Tasks[j.Tasks.length - 1].Write = true then 3 else 2) j.N j.Tasks[j.Tasks.length - 1].Key 0 14] := by
          unfold lateR; rw [if_neg h2, hlt]
        generalize j.Tasks[j.Tasks.length - 1] = x at hR
        rw [hR]
        cases hd : x.Done with
        | true =>
          simp only [Bool.not_true, Bool.false_eq_true, if_false, if_true]
          rw [end_eq _ a j (by exact hj) (by exact hS) hk (by simpa using (by omega : w.turn.Messages.length ≤ 900)) (by exact hl), Option.bind_some, List.append_nil]
        | false =>
          simp only [Bool.not_false, if_true, Bool.false_eq_true, if_false]
          have key : ∀ q : Nat, (if fits 48 (w.turn.Replies.length + 1) then (coord_work_end (CoordWork.mk w.c w.l w.me (Turn.mk (Desk.mk w.turn.Desk.Next w.turn.Desk.Jobs) w.turn.Messages w.turn.Records (w.turn.Replies ++ [Reply.mk w.me (q : Int) j.N x.Key 0 14]) w.turn.Sure w.turn.Committed)) (a : Int)) else none) = some ⟨w.c, w.l, w.me, endT w.c.Sites w.l w.me ⟨w.turn.Desk, w.turn.Messages, w.turn.Records, w.turn.Replies ++ [Reply.mk w.me (q : Int) j.N x.Key 0 14], w.turn.Sure, w.turn.Committed⟩ j a⟩ := by
            intro q
            rw [if_pos (fits48 (by omega)), end_eq _ a j (by exact hj) (by exact hS) hk (by simpa using (by omega : w.turn.Messages.length ≤ 900)) (by exact hl)]
          cases hw : x.Write with
          | true =>
            have := key 3
            rw [if_pos (fits48 (by omega))] at this
            simp only [if_true, Bool.false_eq_true, if_false]
            rw [if_pos (fits48 (by omega))]
            erw [this]
            rfl
          | false =>
            have := key 2
            rw [if_pos (fits48 (by omega))] at this
            simp only [if_true, Bool.false_eq_true, if_false]
            rw [if_pos (fits48 (by omega))]
            erw [this]
            rfl
      · rw [if_neg (by simp; omega), set_self hj, end_eq _ a j (by exact hj) (by exact hS) hk (by simpa using (by omega : w.turn.Messages.length ≤ 900)) (by exact hl), Option.bind_some]
        have e0 : j.Tasks.length = 0 := by omega
        have : lateR w.me j = [] := by
          unfold lateR
          rw [if_neg h2, List.getElem?_eq_none (by omega)]
        rw [this, List.append_nil]
def agedJ (j : Job) : Job := ⟨j.N, j.State, j.Tasks, j.Asked, j.Asks, IntKind.i64.wrap (j.Age + 1)⟩
/-- A turn behind one job's tick. -/
def tickT (c : Config) (l me : Int) (t : Turn) (v : Nat) (j : Job) : Turn :=
  if IntKind.i64.wrap (j.Age + 1) < c.Patience then ⟨⟨t.Desk.Next, t.Desk.Jobs.set v (agedJ j)⟩, t.Messages, t.Records, t.Replies, t.Sure, t.Committed⟩ else lateT c.Sites l me t v j
theorem aged_ok {c : Config} {j : Job} (ok : JobOk c j) (a : Int) (h : 0 ≤ a ∧ a ≤ 2000000) : JobOk c ⟨j.N, j.State, j.Tasks, j.Asked, j.Asks, a⟩ :=
  ⟨ok.tasks, ok.key, ok.asked, ok.asks, h, ok.state, ok.few, ok.nd, ok.tell⟩
theorem lateT_aged (S l me : Int) (t : Turn) (v : Nat) (j : Job) : lateT S l me ⟨⟨t.Desk.Next, t.Desk.Jobs.set v (agedJ j)⟩, t.Messages, t.Records, t.Replies, t.Sure, t.Committed⟩ v (agedJ j) = lateT S l me t v j := by
  unfold lateT
  have e1 : lateR me (agedJ j) = lateR me j := rfl
  have e2 : handsL S l (agedJ j).Tasks = handsL S l j.Tasks := rfl
  show (if (j.State == 3) = true then _ else _) = _
  split
  · simp only [agedJ, List.set_set]
  · rw [e1]
    unfold endT
    rw [e2]
    simp only [agedJ]
    congr 2
    rw [List.take_set_of_le (Nat.le_refl _), List.drop_set_of_lt (Nat.lt_succ_self _)]
theorem told_eq (me : Int) (t : Turn) (j : Job) (h : t.Messages.length + j.Asked.length ≤ 1000) : reredosref_told me t j = some ⟨t.Desk, t.Messages ++ j.Asked.map (sayM me j.N true), t.Records, t.Replies, t.Sure, t.Committed⟩ := by
  simp only [reredosref_told, withK]
  rw [map_loop (L := reredosref_told_L1 me j _) (l := j.Asked) (f := sayM me j.N true) (fits96 (show 1000 ≤ 1000 by omega)) (fun n i acc hi => by rw [reredosref_told_L1, if_neg (by simpa using hi)]) (fun n i acc hi hf => by rw [reredosref_told_L1, if_pos (by simpa using hi), bind_at hi]; simp only [reredosref_about, Option.bind_some]; rw [if_pos hf]; rfl) _ _ _ (by omega) (by omega) (by omega)]
  rw [List.drop_zero]
/-- What stands while the jobs are gone through. -/
structure TickI (c : Config) (d : Desk) (i : Nat) (t : Turn) : Prop where
  len : t.Desk.Jobs.length ≤ 6
  msg : t.Messages.length ≤ 4 * i
  rep : t.Replies.length ≤ i
  ok : ∀ j ∈ t.Desk.Jobs, JobOk c j ∧ j.Age ≤ 1048576
  has : ∀ m (h : m < d.Jobs.length), i ≤ m → ∃ j ∈ t.Desk.Jobs, j.N = d.Jobs[m].N
theorem tick_keeps {c : Config} {d : Desk} {i : Nat} {t : Turn} (hd : DeskOk c d) (I : TickI c d i t) (hi : i < d.Jobs.length) {l me : Int} {v : Nat} {j : Job} (hj : t.Desk.Jobs[v]? = some j) (hn : j.N = d.Jobs[i].N) : TickI c d (i + 1) (tickT c l me t v j) := by
  have hjm := List.mem_of_getElem? hj
  obtain ⟨okj, haj⟩ := I.ok j hjm
  have hv := lt_of_at hj
  have hp := hd.patience
  have far : ∀ m (h : m < d.Jobs.length), i + 1 ≤ m → ∃ x ∈ t.Desk.Jobs, x.N = d.Jobs[m].N ∧ x ≠ j := fun m h hm => by
    obtain ⟨x, h1, h2⟩ := I.has m h (by omega)
    have := hd.inc i m hi h (by omega)
    exact ⟨x, h1, h2, fun e => by subst e; omega⟩
  unfold tickT
  split
  · rename_i hlt
    have ha := okj.age
    rw [wrap_in (by omega) (by omega)] at hlt
    refine ⟨by simpa using I.len, by have := I.msg; simp; omega, by have := I.rep; simp; omega, fun x hx => ?_, fun m h hm => ?_⟩
    · rcases mem_set_or hx with h | rfl
      · exact I.ok x h
      · unfold agedJ; rw [wrap_in (by omega) (by omega)]; exact ⟨aged_ok okj _ (by omega), by simp; omega⟩
    · obtain ⟨x, h1, h2, h3⟩ := far m h hm
      exact ⟨x, mem_set_ne h1 hj h3, h2⟩
  · unfold lateT
    split
    · refine ⟨by simpa using I.len, by have := I.msg; have := okj.asked; simp; omega, by have := I.rep; simp; omega, fun x hx => ?_, fun m h hm => ?_⟩
      · rcases mem_set_or hx with h | rfl
        · exact I.ok x h
        · exact ⟨aged_ok okj _ (by omega), by simp⟩
      · obtain ⟨x, h1, h2, h3⟩ := far m h hm
        exact ⟨x, mem_set_ne h1 hj h3, h2⟩
    · unfold endT
      refine ⟨by have := I.len; simp; omega, by have := I.msg; have := handsL_len c.Sites l j.Tasks; simp; omega, by have := I.rep; have := lateR_len me j; simp; omega, fun x hx => I.ok x (mem_cut hx), fun m h hm => ?_⟩
      obtain ⟨x, h1, h2, h3⟩ := far m h hm
      exact ⟨x, mem_cut_ne h1 hj h3, h2⟩
/-- The program's step. -/
theorem tickP_step (c : Config) (l me : Int) (d : Desk) (k : Int → (List Label) → Int → Int → Int → Int → Int → Int → (List Job) → (List Message) → (List Record) → (List Reply) → Option (Turn × Int)) (n i : Nat) (t : Turn) (hd : DeskOk c d) (I : TickI c d i t) (hi : i < d.Jobs.length) (v : Nat) (j : Job) (hj : t.Desk.Jobs[v]? = some j)
    (hp : coord_work_place ⟨c, l, me, t⟩ d.Jobs[i].N = some (v : Int)) :
    coord_Tick_L1 c d k (n + 1) i c.Sites c.Labels c.Patience l me t.Desk.Next t.Sure t.Committed t.Desk.Jobs t.Messages t.Records t.Replies =
      coord_Tick_L1 c d k n (i + 1) c.Sites c.Labels c.Patience l me (tickT c l me t v j).Desk.Next (tickT c l me t v j).Sure (tickT c l me t v j).Committed (tickT c l me t v j).Desk.Jobs (tickT c l me t v j).Messages (tickT c l me t v j).Records (tickT c l me t v j).Replies := by
  have hv := lt_of_at hj
  obtain ⟨okj, haj⟩ := I.ok j (List.mem_of_getElem? hj)
  have ha := okj.age
  have hpa := hd.patience
  rw [coord_Tick_L1, if_pos (by simpa using hi), bind_at hi, hp, Option.bind_some, if_pos (by omega), Int.toNat_natCast, hj, Option.bind_some]
  simp only [withK]
  unfold tickT
  by_cases hl : IntKind.i64.wrap (j.Age + 1) < c.Patience
  · rw [if_neg (by simpa using hl), if_pos hl]
    rfl
  · rw [if_pos (by simpa using hl), if_neg hl]
    have hw : IntKind.i64.wrap (j.Age + 1) = j.Age + 1 := wrap_in (by omega) (by omega)
    have hok : c.Patience ≤ 1048576 := hpa.2
    have e := late_eq ⟨c, l, me, ⟨⟨t.Desk.Next, t.Desk.Jobs.set v (agedJ j)⟩, t.Messages, t.Records, t.Replies, t.Sure, t.Committed⟩⟩ v (agedJ j) (by simp [hv]) hd.sites (by unfold agedJ; rw [hw]; exact aged_ok okj _ (by omega)) (by have := I.msg; have := hd.len; simp; omega) (by have := I.rep; have := hd.len; simp; omega) (by have := I.len; simp; omega)
    rw [lateT_aged] at e
    have e2 : (Job.mk j.N j.State j.Tasks j.Asked j.Asks (IntKind.i64.wrap (j.Age + 1))) = agedJ j := rfl
    rw [e2]
    erw [e]
    rfl
/-- The answer's step. -/
theorem tickR_step (c : Config) (l me : Int) (d : Desk) (k : Int → Int → Int → (List Job) → (List Message) → (List Record) → (List Reply) → Option (Turn × Int)) (n i : Nat) (t : Turn) (hd : DeskOk c d) (I : TickI c d i t) (hi : i < d.Jobs.length) (v : Nat) (j : Job) (hj : t.Desk.Jobs[v]? = some j)
    (hp : reredosref_jobAt t.Desk d.Jobs[i].N = some (v : Int)) :
    reredosref_CoordTicked_L1 c l me d k (n + 1) i t.Desk.Next t.Sure t.Committed t.Desk.Jobs t.Messages t.Records t.Replies =
      reredosref_CoordTicked_L1 c l me d k n (i + 1) (tickT c l me t v j).Desk.Next (tickT c l me t v j).Sure (tickT c l me t v j).Committed (tickT c l me t v j).Desk.Jobs (tickT c l me t v j).Messages (tickT c l me t v j).Records (tickT c l me t v j).Replies := by
  have hv := lt_of_at hj
  obtain ⟨okj, haj⟩ := I.ok j (List.mem_of_getElem? hj)
  have ha := okj.age
  have hpa := hd.patience
  have hlen := hd.len
  have hmsg := I.msg
  have hrep := I.rep
  have hjl := I.len
  have hn := okj.tasks
  have hask := okj.asked
  rw [reredosref_CoordTicked_L1, if_pos (by simpa using hi), bind_at hi, hp, Option.bind_some, if_pos (by omega), Int.toNat_natCast, hj, Option.bind_some]
  simp only [withK]
  unfold tickT
  by_cases hl : IntKind.i64.wrap (j.Age + 1) < c.Patience
  · rw [if_pos (by simpa using hl), if_pos hl]
    rfl
  · rw [if_neg (by simpa using hl), if_neg hl]
    unfold lateT
    by_cases h3 : (j.State == 3) = true
    · rw [if_pos h3, if_pos h3, told_eq _ _ _ (by show t.Messages.length + j.Asked.length ≤ 1000; omega), Option.bind_some]
    · rw [if_neg h3, if_neg h3]
      have fin : ∀ rs, rs = lateR me j → reredosref_ended c l me ⟨⟨t.Desk.Next, t.Desk.Jobs⟩, t.Messages, t.Records, t.Replies ++ rs, t.Sure, t.Committed⟩ (v : Int) = some (endT c.Sites l me ⟨t.Desk, t.Messages, t.Records, t.Replies ++ lateR me j, t.Sure, t.Committed⟩ j v) := by
        rintro rs rfl
        rw [ended_eq c l me _ v j (by exact hj) hd.sites (by simp; omega) (by simp; omega)]
      have f48 : fits 48 (t.Replies.length + 1) := fits48 (by omega)
      by_cases h1 : (j.State == 1) = true
      · have h2 : (j.State == 2) = false := by have : j.State = 1 := by simpa using h1
                                               rw [this]; rfl
        rw [if_pos h1]
        by_cases h0 : 0 < j.Tasks.length
        · have e1 : ((j.Tasks.length : Nat) : Int) - 1 = ((j.Tasks.length - 1 : Nat) : Int) := by omega
          rw [if_pos (by simp; omega), wrap_in (by omega) (by omega), e1, if_pos (by omega), Int.toNat_natCast, bind_at (by omega : j.Tasks.length - 1 < j.Tasks.length)]
          have hlt : j.Tasks[j.Tasks.length - 1]? = some j.Tasks[j.Tasks.length - 1] := by simp
          have hR : lateR me j = if j.Tasks[j.Tasks.length - 1].Done = true then [] else [Reply.mk me (if j.Tasks[j.Tasks.length - 1].Write = true then 3 else 2) j.N j.Tasks[j.Tasks.length - 1].Key 0 14] := by
            unfold lateR; rw [if_neg (by rw [h2]; simp), hlt]
          generalize j.Tasks[j.Tasks.length - 1] = x at hR
          cases hdn : x.Done with
          | true =>
            have := fin [] (by rw [hR, hdn]; rfl)
            rw [List.append_nil] at this
            simp [h2, this]
          | false =>
            cases hw : x.Write with
            | true =>
              have := fin [Reply.mk me 3 j.N x.Key 0 14] (by rw [hR, hdn, hw]; rfl)
              simp [h2, this, f48]
            | false =>
              have := fin [Reply.mk me 2 j.N x.Key 0 14] (by rw [hR, hdn, hw]; rfl)
              simp [h2, this, f48]
        · rw [if_neg (by intro hc; have := of_decide_eq_true hc; omega)]
          have hR : lateR me j = [] := by
            unfold lateR
            rw [if_neg (by rw [h2]; simp), List.getElem?_eq_none (by omega)]
          have := fin [] hR.symm
          rw [List.append_nil] at this
          simp [h2, this]
      · have h2 : (j.State == 2) = true := by
          have := okj.state
          have a1 : ¬ j.State = 1 := by simpa using h1
          have a3 : ¬ j.State = 3 := by simpa using h3
          simp; omega
        rw [if_neg h1]
        have hR : lateR me j = [Reply.mk me 4 j.N 0 0 14] := by unfold lateR; rw [if_pos h2]
        have := fin _ hR.symm
        simp [h2, this, f48]
theorem tick_run (c : Config) (l me : Int) (d : Desk) (hd : DeskOk c d) (kp : Int → (List Label) → Int → Int → Int → Int → Int → Int → (List Job) → (List Message) → (List Record) → (List Reply) → Option (Turn × Int)) (kr : Int → Int → Int → (List Job) → (List Message) → (List Record) → (List Reply) → Option (Turn × Int)) :
    ∀ n i (t : Turn), d.Jobs.length < n + i → i ≤ d.Jobs.length → TickI c d i t → ∃ T : Turn,
      coord_Tick_L1 c d kp n i c.Sites c.Labels c.Patience l me t.Desk.Next t.Sure t.Committed t.Desk.Jobs t.Messages t.Records t.Replies = kp c.Sites c.Labels c.Patience l me T.Desk.Next T.Sure T.Committed T.Desk.Jobs T.Messages T.Records T.Replies ∧
      reredosref_CoordTicked_L1 c l me d kr n i t.Desk.Next t.Sure t.Committed t.Desk.Jobs t.Messages t.Records t.Replies = kr T.Desk.Next T.Sure T.Committed T.Desk.Jobs T.Messages T.Records T.Replies := by
  intro n
  induction n with
  | zero => intro i t h1 h2 _; omega
  | succ n ih =>
    intro i t h1 h2 I
    by_cases hi : i < d.Jobs.length
    · obtain ⟨v, j, hj, hn, g1, g2⟩ := place_at ⟨c, l, me, t⟩ d.Jobs[i].N (I.has i hi (Nat.le_refl _))
      rw [tickP_step c l me d kp n i t hd I hi v j hj g1, tickR_step c l me d kr n i t hd I hi v j hj g2]
      exact ih (i + 1) _ (by omega) (by omega) (tick_keeps hd I hi hj hn)
    · refine ⟨t, ?_, ?_⟩
      · rw [coord_Tick_L1, if_neg (by simpa using hi)]
      · rw [reredosref_CoordTicked_L1, if_neg (by simpa using hi)]
theorem TasksCopy_eq (l : List Task) (h : fits 56 l.length) : reredosref_TasksCopy l = some l := by
  simp only [reredosref_TasksCopy, withK]
  refine (copy_loop h (L := reredosref_TasksCopy_L1 l (fun b => some b)) (k := fun b => some b) (fun n i acc hi => by rw [reredosref_TasksCopy_L1, if_neg (by simpa using hi)]) (fun n i acc hi hf => by rw [reredosref_TasksCopy_L1, if_pos (by simpa using hi), bind_at hi, if_pos hf]) (l.length + 1) 0 [] (by omega) rfl (by omega)).trans ?_
  simp
theorem intsCopy_eq (l : List Int) (h : fits 8 l.length) : reredosref_intsCopy l = some l := by
  simp only [reredosref_intsCopy, withK]
  refine (copy_loop h (L := reredosref_intsCopy_L1 l (fun b => some b)) (k := fun b => some b) (fun n i acc hi => by rw [reredosref_intsCopy_L1, if_neg (by simpa using hi)]) (fun n i acc hi hf => by rw [reredosref_intsCopy_L1, if_pos (by simpa using hi), bind_at hi, if_pos hf]) (l.length + 1) 0 [] (by omega) rfl (by omega)).trans ?_
  simp
/-- A desk that memory has room for. -/
def Desk.fit (d : Desk) : Prop := fits 80 d.Jobs.length ∧ ∀ j ∈ d.Jobs, fits 56 j.Tasks.length ∧ fits 8 j.Asked.length
theorem DeskCopy_eq (d : Desk) (h : d.fit) : reredosref_DeskCopy d = some d := by
  simp only [reredosref_DeskCopy, withK]
  refine (copy_loop h.1 (L := reredosref_DeskCopy_L1 d (fun b => some (Desk.mk d.Next b))) (k := fun b => some (Desk.mk d.Next b)) (fun n i acc hi => by rw [reredosref_DeskCopy_L1, if_neg (by simpa using hi)]) (fun n i acc hi hf => by
    obtain ⟨f1, f2⟩ := h.2 _ (List.getElem_mem hi)
    rw [reredosref_DeskCopy_L1, if_pos (by simpa using hi), bind_at hi, TasksCopy_eq _ f1, Option.bind_some, intsCopy_eq _ f2, Option.bind_some]
    simp only [withK]
    rw [if_pos hf]) (d.Jobs.length + 1) 0 [] (by omega) rfl (by omega)).trans ?_
  simp
theorem own_eq (d : Desk) (h : d.fit) : coord_own d = some d := by
  simp only [coord_own, withK]
  refine (copy_loop h.1 (L := coord_own_L1 d (fun b => some (Desk.mk d.Next b))) (k := fun b => some (Desk.mk d.Next b)) (fun n i acc hi => by rw [coord_own_L1, if_neg (by simpa using hi)]) (fun n i acc hi hf => by
    obtain ⟨f1, f2⟩ := h.2 _ (List.getElem_mem hi)
    rw [coord_own_L1, if_pos (by simpa using hi), bind_at hi, cloneF, if_pos f1, Option.bind_some, cloneF, if_pos f2, Option.bind_some]
    simp only [withK]
    rw [if_pos hf]) (d.Jobs.length + 1) 0 [] (by omega) rfl (by omega)).trans ?_
  simp
/-- What stands ahead of a turn: both look alike. -/
theorem deskFault_eq (c : Config) (l me : Int) (d : Desk) (hl : c.Labels.length ≤ maxLen) (hd : d.lens) :
    ∃ e, coord_Check c d = some e ∧ reredosref_DeskFault c d = some e ∧ reredosref_deskFault c l me d = some (if e ≠ 0 then e else if ¬ (0 ≤ l ∧ l < c.Labels.length) then 6 else if ¬ (0 ≤ me ∧ me < c.Sites) then 2 else 0) := by
  obtain ⟨h1, e, h2⟩ := desk_same c d hl hd
  refine ⟨e, h1.trans h2, h2, ?_⟩
  simp only [reredosref_deskFault, h2, Option.bind_some, withK, labelMay_eq c l hl, In_eq]
  by_cases he : e = 0
  · subst he
    have hS := (desk_ok c d hl hd h2).sites
    rw [wrap_in (by omega) (by omega)]
    by_cases a : 0 ≤ l ∧ l < c.Labels.length
    · by_cases b : 0 ≤ me ∧ me < c.Sites
      · have b' : 0 ≤ me ∧ me ≤ c.Sites - 1 := by omega
        simp [a, b, b']
      · have b' : ¬ (0 ≤ me ∧ me ≤ c.Sites - 1) := by omega
        simp [a, b, b']
    · simp [a]
  · simp [he]
theorem CoordTicks_run (c : Config) (l me : Int) (d : Desk) (hl : c.Labels.length ≤ maxLen) (hd : d.lens) (hf : d.fit) : reredoslaw_CoordTicks c l me d = some true := by
  obtain ⟨e, e1, e2, e3⟩ := deskFault_eq c l me d hl hd
  have key : ∃ r, coord_Tick c l me d = some r ∧ reredosref_CoordTicked c l me d = some r := by
    simp only [coord_Tick, reredosref_CoordTicked, e1, e3, Option.bind_some, withK]
    by_cases he : e = 0
    case neg => simp [he]
    subst he
    have D := desk_ok c d hl hd e2
    by_cases a : 0 ≤ l ∧ l < c.Labels.length
    case neg =>
      by_cases a1 : l < 0
      · simp [a, a1]
      · have a2 : l ≥ c.Labels.length := by omega
        simp [a, a2]
    by_cases b : 0 ≤ me ∧ me < c.Sites
    case neg =>
      have a1 : ¬ l < 0 := by omega
      have a2 : ¬ l ≥ c.Labels.length := by omega
      by_cases b1 : me < 0
      · simp [a, a1, a2, b, b1]
      · have b2 : me ≥ c.Sites := by omega
        simp [a, a1, a2, b, b1, b2]
    have a1 : ¬ l < 0 := by omega
    have a2 : ¬ l ≥ c.Labels.length := by omega
    have b1 : ¬ me < 0 := by omega
    have b2 : ¬ me ≥ c.Sites := by omega
    rw [if_neg (by simp), if_neg (by simpa using a1), if_neg (by simpa using a2), if_neg (by simpa using b1), if_neg (by simpa using b2), if_neg (by simp [a, b])]
    rw [own_eq d hf, DeskCopy_eq d hf]
    simp only [Option.bind_some]
    obtain ⟨T, t1, t2⟩ := tick_run c l me d D (fun b1 b2 b3 b4 b5 b6 b7 b8 b9 b10 b11 b12 => some (Turn.mk (Desk.mk b6 b9) b10 b11 b12 b7 b8, 0)) (fun b1 b2 b3 b4 b5 b6 b7 => some (Turn.mk (Desk.mk b1 b4) b5 b6 b7 b2 b3, 0)) (d.Jobs.length + 1) 0 ⟨d, [], [], [], 0, 0⟩ (by omega) (by omega)
      ⟨D.len, by simp, by simp, D.job, fun m h _ => ⟨_, List.getElem_mem h, rfl⟩⟩
    exact ⟨_, t1, t2⟩
  obtain ⟨r, r1, r2⟩ := key
  simp only [reredoslaw_CoordTicks, DeskCopy_eq d hf, Option.bind_some, r1, r2, withK, sameTurnR, sameDeskR]
  simp

end Go.V.Dec
