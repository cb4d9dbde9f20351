/- Plain laws (CoordCommit): no program, no memory; conditions as stated. -/
import Derived.Test.YtmnicbhniaejjaaDoorG3
import Derived.Test.YtmnicbhniaejjaaDoorQCoordTurn
set_option linter.unusedVariables false
set_option linter.unusedSimpArgs false
namespace Go.V.Dec
open Go Go.Proofs Classical
set_option maxRecDepth 100000
set_option maxHeartbeats 4000000
variable (G : Nat → Option (List D))
theorem commit_L1 (w : CoordWork) (j : Job) (k : List Int → Option CoordWork) (hS : 1 ≤ w.c.Sites ∧ w.c.Sites ≤ 4) (hk : ∀ t ∈ j.Tasks, 0 ≤ t.Key) : ∀ n i acc, j.Tasks.length < n + i → i ≤ j.Tasks.length → Few acc →
    ∃ out, coord_work_commit_L1 w j k n i acc = k out ∧ Few out ∧ ∀ x, x ∈ out ↔ x ∈ acc ∨ handB w.c.Sites w.l (j.Tasks.drop i) x = true := by
  intro n
  induction n with
  | zero => intro i acc h1 h2 _; omega
  | succ n ih =>
    intro i acc h1 h2 ha
    rw [coord_work_commit_L1]
    by_cases hi : i < j.Tasks.length
    · have ed : j.Tasks.drop i = j.Tasks[i] :: j.Tasks.drop (i + 1) := (List.getElem_cons_drop hi).symm
      have hb : ∀ x, handB w.c.Sites w.l (j.Tasks.drop i) x = (j.Tasks[i].Label == w.l && j.Tasks[i].Key.tmod w.c.Sites == x || handB w.c.Sites w.l (j.Tasks.drop (i + 1)) x) := fun x => by rw [ed, handB, List.any_cons]; rfl
      have h0 := hk j.Tasks[i] (List.getElem_mem hi)
      have hr : 0 ≤ j.Tasks[i].Key.tmod w.c.Sites ∧ j.Tasks[i].Key.tmod w.c.Sites < 4 := by
        have := Int.tmod_lt_of_pos j.Tasks[i].Key (show 0 < w.c.Sites by omega)
        have := Int.tmod_nonneg w.c.Sites h0
        omega
      rw [if_pos (by simpa using hi), bind_at hi, if_neg (by omega)]
      simp only [withK]
      split
      · rename_i hlab
        rw [contains_int, Option.bind_some]
        by_cases hm : j.Tasks[i].Key.tmod w.c.Sites ∈ acc
        · rw [decide_eq_true hm]
          simp only [Bool.not_true, Bool.false_eq_true, if_false]
          obtain ⟨out, q1, q2, q3⟩ := ih (i + 1) acc (by omega) (by omega) ha
          refine ⟨out, q1, q2, fun x => ?_⟩
          rw [q3, hb, hlab, Bool.true_and, Bool.or_eq_true, beq_iff_eq]
          constructor
          · rintro (h | h)
            · exact .inl h
            · exact .inr (.inr h)
          · rintro (h | h | h)
            · exact .inl h
            · exact .inl (h ▸ hm)
            · exact .inr h
        · rw [decide_eq_false hm]
          simp only [Bool.not_false, if_true]
          have hn : Few (acc ++ [j.Tasks[i].Key.tmod w.c.Sites]) := by
            refine ⟨List.nodup_append.2 ⟨ha.1, by simp, fun x hx y hy e => ?_⟩, fun x hx => ?_⟩
            · simp at hy; subst hy; subst e; exact hm hx
            · rcases List.mem_append.1 hx with hx | hx
              · exact ha.2 x hx
              · simp at hx; subst hx; exact hr
          rw [if_pos (fits8 (by have := ha.cases; omega))]
          obtain ⟨out, q1, q2, q3⟩ := ih (i + 1) _ (by omega) (by omega) hn
          refine ⟨out, q1, q2, fun x => ?_⟩
          rw [q3, hb, hlab, Bool.true_and, Bool.or_eq_true, beq_iff_eq, List.mem_append, List.mem_singleton]
          constructor
          · rintro ((h | h) | h)
            · exact .inl h
            · exact .inr (.inl h.symm)
            · exact .inr (.inr h)
          · rintro (h | h | h)
            · exact .inl (.inl h)
            · exact .inl (.inr h.symm)
            · exact .inr h
      · rename_i hlab
        obtain ⟨out, q1, q2, q3⟩ := ih (i + 1) acc (by omega) (by omega) ha
        refine ⟨out, q1, q2, fun x => ?_⟩
        rw [q3, hb]
        simp [hlab]
    · rw [if_neg (by simpa using hi)]
      exact ⟨acc, rfl, ha, fun x => by rw [List.drop_of_length_le (by omega)]; simp [handB]⟩
set_option maxHeartbeats 4000000 in
theorem commit_sort (k : List Int → Option CoordWork) : ∀ {l : List Int}, Few l → (Option.bind (math_bits_Len (IntKind.u64.wrap (((l.length : Nat) : Int)))) fun _ => coord_work_commit_L2 l k 1) = k ([0, 1, 2, 3].filter fun s => decide (s ∈ l)) := by
  intro l h
  obtain ⟨hn, hm⟩ := h
  have hl := Few.cases ⟨hn, hm⟩
  have c : ∀ x : Int, 0 ≤ x ∧ x < 4 → x = 0 ∨ x = 1 ∨ x = 2 ∨ x = 3 := fun x hx => by omega
  match l, hn, hm, hl with
  | [], _, _, _ => rfl
  | [a], _, hm, _ => rcases c a (hm a (by simp)) with rfl | rfl | rfl | rfl <;> rfl
  | [a, b], hn, hm, _ =>
    rcases c a (hm a (by simp)) with rfl | rfl | rfl | rfl <;> rcases c b (hm b (by simp)) with rfl | rfl | rfl | rfl <;> first | (exact absurd hn (by decide)) | rfl
  | [a, b, d], hn, hm, _ =>
    rcases c a (hm a (by simp)) with rfl | rfl | rfl | rfl <;> rcases c b (hm b (by simp)) with rfl | rfl | rfl | rfl <;> rcases c d (hm d (by simp)) with rfl | rfl | rfl | rfl <;> first | (exact absurd hn (by decide)) | rfl
  | [a, b, d, e], hn, hm, _ =>
    rcases c a (hm a (by simp)) with rfl | rfl | rfl | rfl <;> rcases c b (hm b (by simp)) with rfl | rfl | rfl | rfl <;> rcases c d (hm d (by simp)) with rfl | rfl | rfl | rfl <;> rcases c e (hm e (by simp)) with rfl | rfl | rfl | rfl <;> first | (exact absurd hn (by decide)) | rfl
  | _ :: _ :: _ :: _ :: _ :: _, _, _, hl => simp at hl
theorem commit_hands (w : CoordWork) (j : Job) (k : List Int → Option CoordWork) (hS : 1 ≤ w.c.Sites ∧ w.c.Sites ≤ 4) (hk : ∀ t ∈ j.Tasks, 0 ≤ t.Key) :
    coord_work_commit_L1 w j (fun b => (Option.bind (math_bits_Len (IntKind.u64.wrap (((b.length : Nat) : Int)))) fun _ => coord_work_commit_L2 b k 1)) (j.Tasks.length + 1) 0 [] = k (handsL w.c.Sites w.l j.Tasks) := by
  obtain ⟨out, q1, q2, q3⟩ := commit_L1 w j (fun b => (Option.bind (math_bits_Len (IntKind.u64.wrap (((b.length : Nat) : Int)))) fun _ => coord_work_commit_L2 b k 1)) hS hk (j.Tasks.length + 1) 0 [] (by omega) (by omega) ⟨by simp, by simp⟩
  rw [q1, commit_sort k q2]
  congr 1
  unfold handsL
  apply List.filter_congr
  intro s _
  have := q3 s
  rw [List.drop_zero] at this
  simp only [List.not_mem_nil, false_or] at this
  by_cases h : s ∈ out
  · rw [decide_eq_true h, this.1 h]
  · rw [decide_eq_false h]
    cases hb : handB w.c.Sites w.l j.Tasks s with
    | false => rfl
    | true => exact absurd (this.2 hb) h
theorem containsF_Task (l : List Task) (q : Task → Bool) : slices_ContainsFunc_Task l (fun x => some (q x)) = some (l.any q) := by
  simp only [slices_ContainsFunc_Task, slices_IndexFunc_Task, withK]
  rcases index_loop (L := slices_IndexFunc_Task_L1 l (fun x => some (q x)) (some (-1))) (len := l.length) (p := fun i => ∃ y, l[i]? = some y ∧ q y = true) (k := some (-1)) (f := fun i => some ((i : Nat) : Int))
    (fun n i hi => by rw [slices_IndexFunc_Task_L1, if_neg (by simpa using hi)])
    (fun n i hi hp => by
      rw [slices_IndexFunc_Task_L1, if_pos (by simpa using hi), bind_at hi, Option.bind_some, if_neg]
      intro h; exact hp ⟨l[i], by simp [hi], h⟩)
    (fun n i hi hp => by
      obtain ⟨y, h1, h2⟩ := hp
      rw [slices_IndexFunc_Task_L1, if_pos (by simpa using hi), h1]
      simp [h2]) with ⟨h1, h2⟩ | ⟨j, h1, ⟨y, h2, h3⟩, _, h4⟩
  · rw [h2, Option.bind_some]
    have : l.any q = false := by
      rw [List.any_eq_false]
      intro x hx hq
      obtain ⟨i, hi, rfl⟩ := List.getElem_of_mem hx
      exact h1 ⟨i, hi, l[i], by simp [hi], hq⟩
    rw [this]; rfl
  · rw [h4, Option.bind_some]
    have : l.any q = true := List.any_eq_true.2 ⟨y, List.mem_of_getElem? h2, h3⟩
    rw [this]
    simp
/-- A turn behind a job that is committed. -/
def commitT (S l me : Int) (t : Turn) (j : Job) (a : Nat) : Turn :=
  if (handsL S l j.Tasks).length = 0 then ⟨⟨t.Desk.Next, t.Desk.Jobs.take a ++ t.Desk.Jobs.drop (a + 1)⟩, t.Messages, t.Records, t.Replies ++ [Reply.mk me 4 j.N 0 0 0], t.Sure, j.N⟩
  else ⟨⟨t.Desk.Next, t.Desk.Jobs.set a ⟨j.N, 3, j.Tasks, handsL S l j.Tasks, j.Asks, 0⟩⟩, t.Messages ++ (handsL S l j.Tasks).map (sayM me j.N true), t.Records ++ (if (j.Tasks.any fun t => t.Write) = true then [Record.mk 3 (Txn.mk me j.N) 0 0 0 false (handsL S l j.Tasks)] else []), t.Replies ++ [Reply.mk me 4 j.N 0 0 0], t.Sure, j.N⟩
theorem commit_eq (w : CoordWork) (a : Nat) (j : Job) (hj : w.turn.Desk.Jobs[a]? = some j) (hS : 1 ≤ w.c.Sites ∧ w.c.Sites ≤ 4) (hk : ∀ t ∈ j.Tasks, 0 ≤ t.Key) (hm : w.turn.Messages.length ≤ 900) (hr : w.turn.Replies.length ≤ 900) (hc : w.turn.Records.length ≤ 900) (hl : w.turn.Desk.Jobs.length ≤ 100) :
    coord_work_commit w (a : Int) = some ⟨w.c, w.l, w.me, commitT w.c.Sites w.l w.me w.turn j a⟩ := by
  have ha := lt_of_at hj
  rw [coord_work_commit, if_pos (by omega), Int.toNat_natCast, hj, Option.bind_some]
  simp only [withK]
  rw [commit_hands w j _ hS hk, if_pos (fits48 (by omega))]
  unfold commitT
  by_cases h0 : (handsL w.c.Sites w.l j.Tasks).length = 0
  · rw [if_pos (by simpa using h0), if_pos h0, set_self hj, deleteF_at _ _ ha (by omega), Option.bind_some]
  · rw [if_neg (by simpa using h0), if_neg h0]
    have e : (fun y => coord_work_commit_1 y) = fun y => some y.Write := by funext y; rfl
    rw [e, containsF_Task, Option.bind_some]
    have hh := handsL_len w.c.Sites w.l j.Tasks
    have run : ∀ recs, coord_work_commit_L5 w j (handsL w.c.Sites w.l j.Tasks) (fun b61 => some (CoordWork.mk w.c w.l w.me (Turn.mk (Desk.mk w.turn.Desk.Next (w.turn.Desk.Jobs.set a (Job.mk j.N 3 j.Tasks (handsL w.c.Sites w.l j.Tasks) j.Asks 0))) b61 recs (w.turn.Replies ++ [Reply.mk w.me 4 j.N 0 0 0]) w.turn.Sure j.N))) ((handsL w.c.Sites w.l j.Tasks).length + 1) 0 w.turn.Messages = some (CoordWork.mk w.c w.l w.me (Turn.mk (Desk.mk w.turn.Desk.Next (w.turn.Desk.Jobs.set a (Job.mk j.N 3 j.Tasks (handsL w.c.Sites w.l j.Tasks) j.Asks 0))) (w.turn.Messages ++ (handsL w.c.Sites w.l j.Tasks).map (sayM w.me j.N true)) recs (w.turn.Replies ++ [Reply.mk w.me 4 j.N 0 0 0]) w.turn.Sure j.N)) := by
      intro recs
      rw [map_loop (L := coord_work_commit_L5 w j _ _) (l := handsL w.c.Sites w.l j.Tasks) (f := sayM w.me j.N true) (fits96 (show 1000 ≤ 1000 by omega)) (fun n i acc hi => by rw [coord_work_commit_L5, if_neg (by simpa using hi)]) (fun n i acc hi hf => by rw [coord_work_commit_L5, if_pos (by simpa using hi), bind_at hi, if_pos hf]; rfl) _ _ _ (by omega) (by omega) (by omega)]
      rw [List.drop_zero]
    cases hw : j.Tasks.any fun t => t.Write with
    | true => simp only [if_true]; rw [cloneF, if_pos (fits8 (by omega)), Option.bind_some, if_pos (fits80 (by omega)), run]
    | false => simp only [Bool.false_eq_true, if_false]; rw [run, List.append_nil]
theorem committed_w (j : Job) (k : Bool → Option Turn) : ∀ n i b, j.Tasks.length < n + i → i ≤ j.Tasks.length → reredosref_committed_L1 j k n b i = k (b || (j.Tasks.drop i).any fun t => t.Write) := by
  intro n
  induction n with
  | zero => intro i b h1 h2; omega
  | succ n ih =>
    intro i b h1 h2
    rw [reredosref_committed_L1]
    by_cases hi : i < j.Tasks.length
    · have ed : j.Tasks.drop i = j.Tasks[i] :: j.Tasks.drop (i + 1) := (List.getElem_cons_drop hi).symm
      rw [if_pos (by simpa using hi), ed, List.any_cons]
      cases b with
      | true => rw [if_pos rfl, ih _ _ (by omega) (by omega)]; simp
      | false => rw [if_neg (by simp), bind_at hi, ih _ _ (by omega) (by omega), Bool.false_or]
    · rw [if_neg (by simpa using hi), List.drop_of_length_le (by omega)]; simp
theorem committed_eq (c : Config) (l me : Int) (t : Turn) (a : Nat) (j : Job) (hj : t.Desk.Jobs[a]? = some j) (hS : 1 ≤ c.Sites ∧ c.Sites ≤ 4) (hm : t.Messages.length ≤ 900) (hr : t.Replies.length ≤ 900) (hc : t.Records.length ≤ 900) (hl : t.Desk.Jobs.length ≤ 100) :
    reredosref_committed c l me t (a : Int) = some (commitT c.Sites l me t j a) := by
  have hh := handsL_len c.Sites l j.Tasks
  rw [reredosref_committed, if_pos (by omega), Int.toNat_natCast, hj, Option.bind_some, hands_eq c l j hS, Option.bind_some, if_pos (fits48 (by omega))]
  unfold commitT
  by_cases h0 : (handsL c.Sites l j.Tasks).length = 0
  · rw [if_pos (by simpa using h0), if_pos h0]
    try rw [set_self hj]
    rw [without_eq _ _ hl, Option.bind_some]
  · rw [if_neg (by simpa using h0), if_neg h0]
    simp only [withK]
    rw [committed_w j _ _ _ _ (by omega) (by omega), Bool.false_or, List.drop_zero]
    have run : ∀ recs, reredosref_committed_L2 me j (handsL c.Sites l j.Tasks) (fun b23 => some (Turn.mk (Desk.mk t.Desk.Next (t.Desk.Jobs.set a (Job.mk j.N 3 j.Tasks (handsL c.Sites l j.Tasks) j.Asks 0))) b23 recs (t.Replies ++ [Reply.mk me 4 j.N 0 0 0]) t.Sure j.N)) ((handsL c.Sites l j.Tasks).length + 1) 0 t.Messages = some (Turn.mk (Desk.mk t.Desk.Next (t.Desk.Jobs.set a (Job.mk j.N 3 j.Tasks (handsL c.Sites l j.Tasks) j.Asks 0))) (t.Messages ++ (handsL c.Sites l j.Tasks).map (sayM me j.N true)) recs (t.Replies ++ [Reply.mk me 4 j.N 0 0 0]) t.Sure j.N) := by
      intro recs
      rw [map_loop (L := reredosref_committed_L2 me j _ _) (l := handsL c.Sites l j.Tasks) (f := sayM me j.N true) (fits96 (show 1000 ≤ 1000 by omega)) (fun n i acc hi => by rw [reredosref_committed_L2, if_neg (by simpa using hi)]) (fun n i acc hi hf => by rw [reredosref_committed_L2, if_pos (by simpa using hi), bind_at hi]; simp only [reredosref_about, Option.bind_some]; rw [if_pos hf]; rfl) _ _ _ (by omega) (by omega) (by omega)]
      rw [List.drop_zero]
    cases hw : j.Tasks.any fun t => t.Write with
    | true => simp only [if_true]; rw [intsCopy_eq _ (fits8 (by omega)), Option.bind_some, if_pos (fits80 (by omega)), run]
    | false => simp only [Bool.false_eq_true, if_false]; rw [run, List.append_nil]

end Go.V.Dec
