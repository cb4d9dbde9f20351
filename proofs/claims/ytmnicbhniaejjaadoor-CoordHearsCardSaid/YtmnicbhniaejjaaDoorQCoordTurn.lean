/- Plain laws (CoordTurn): no program, no memory; conditions as stated. -/
import Derived.Test.YtmnicbhniaejjaaDoorG4
import Derived.Test.YtmnicbhniaejjaaDoorQCoord
import Derived.Test.YtmnicbhniaejjaaDoorQCopies
set_option linter.unusedVariables false
set_option linter.unusedSimpArgs false
namespace Go.V.Dec
open Go Go.Proofs Classical
set_option maxRecDepth 100000
set_option maxHeartbeats 4000000
variable (G : Nat → Option (List D))
theorem sameIntsR (l : List Int) : reredoslaw_sameInts l l = some true := by
  simp only [reredoslaw_sameInts, withK, bne_self_eq_false, Bool.false_eq_true, if_false]
  exact true_loop (L := reredoslaw_sameInts_L1 l l _) (len := l.length) (fun n i hi => by rw [reredoslaw_sameInts_L1, if_neg (by simpa using hi)]) (fun n i hi => by rw [reredoslaw_sameInts_L1, if_pos (by simpa using hi), bind_at hi, bind_at hi, if_neg (by simp)]) _ 0 (by omega) (by omega)
theorem sameMsgsR (l : List Message) : reredoslaw_sameMessages l l = some true := by
  simp only [reredoslaw_sameMessages, withK, bne_self_eq_false, Bool.false_eq_true, if_false]
  exact true_loop (L := reredoslaw_sameMessages_L1 l l _) (len := l.length) (fun n i hi => by rw [reredoslaw_sameMessages_L1, if_neg (by simpa using hi)]) (fun n i hi => by rw [reredoslaw_sameMessages_L1, if_pos (by simpa using hi), bind_at hi, bind_at hi, if_neg (by simp)]) _ 0 (by omega) (by omega)
theorem sameRecR (r : Record) : reredoslaw_sameRecord r r = some true := by
  simp [reredoslaw_sameRecord, withK, sameIntsR]
theorem sameRecsR (l : List Record) : reredoslaw_sameRecords l l = some true := by
  simp only [reredoslaw_sameRecords, withK, bne_self_eq_false, Bool.false_eq_true, if_false]
  exact true_loop (L := reredoslaw_sameRecords_L1 l l _) (len := l.length) (fun n i hi => by rw [reredoslaw_sameRecords_L1, if_neg (by simpa using hi)]) (fun n i hi => by rw [reredoslaw_sameRecords_L1, if_pos (by simpa using hi), bind_at hi, bind_at hi]; simp [sameRecR]) _ 0 (by omega) (by omega)
theorem sameRepsR (l : List Reply) : reredoslaw_sameReplies l l = some true := by
  simp only [reredoslaw_sameReplies, withK, bne_self_eq_false, Bool.false_eq_true, if_false]
  exact true_loop (L := reredoslaw_sameReplies_L1 l l _) (len := l.length) (fun n i hi => by rw [reredoslaw_sameReplies_L1, if_neg (by simpa using hi)]) (fun n i hi => by rw [reredoslaw_sameReplies_L1, if_pos (by simpa using hi), bind_at hi, bind_at hi, if_neg (by simp)]) _ 0 (by omega) (by omega)
theorem sameTasksR (l : List Task) : reredoslaw_sameTasks l l = some true := by
  simp only [reredoslaw_sameTasks, withK, bne_self_eq_false, Bool.false_eq_true, if_false]
  exact true_loop (L := reredoslaw_sameTasks_L1 l l _) (len := l.length) (fun n i hi => by rw [reredoslaw_sameTasks_L1, if_neg (by simpa using hi)]) (fun n i hi => by rw [reredoslaw_sameTasks_L1, if_pos (by simpa using hi), bind_at hi, bind_at hi, if_neg (by simp)]) _ 0 (by omega) (by omega)
theorem sameDeskR (d : Desk) : reredoslaw_sameDesk d d = some true := by
  simp only [reredoslaw_sameDesk, withK, bne_self_eq_false, Bool.false_eq_true, if_false]
  exact true_loop (L := reredoslaw_sameDesk_L1 d d _) (len := d.Jobs.length) (fun n i hi => by rw [reredoslaw_sameDesk_L1, if_neg (by simpa using hi)]) (fun n i hi => by rw [reredoslaw_sameDesk_L1, if_pos (by simpa using hi), bind_at hi, bind_at hi]; simp [sameTasksR, sameIntsR]) _ 0 (by omega) (by omega)
theorem sameTurnR (t : Turn) : reredoslaw_sameTurn t t = some true := by
  simp [reredoslaw_sameTurn, withK, sameDeskR, sameMsgsR, sameRecsR, sameRepsR]

/-- A loop that appends. -/
theorem map_loop {α β R : Type} {L : Nat → Nat → List β → Option R} {l : List α} {f : α → β} {k : List β → Option R} {b m : Nat} (hf : fits b m)
    (hk : ∀ n i acc, ¬ i < l.length → L (n + 1) i acc = k acc)
    (hg : ∀ n i acc (hi : i < l.length), fits b (acc.length + 1) → L (n + 1) i acc = L n (i + 1) (acc ++ [f l[i]])) :
    ∀ n i acc, l.length < n + i → i ≤ l.length → acc.length + (l.length - i) ≤ m → L n i acc = k (acc ++ (l.drop i).map f) := by
  intro n
  induction n with
  | zero => intro i acc h1 h2 h3; omega
  | succ n ih =>
    intro i acc h1 h2 h3
    by_cases hi : i < l.length
    · have e : l.drop i = l[i] :: l.drop (i + 1) := (List.getElem_cons_drop hi).symm
      rw [hg n i acc hi (fits_le hf (by omega)), ih _ _ (by omega) (by omega) (by simp; omega), List.append_assoc, List.singleton_append, e, List.map_cons]
    · rw [hk n i acc hi, List.drop_of_length_le (by omega)]; simp
/-- Has a site a hand in it? -/
def handB (S l : Int) (ts : List Task) (s : Int) : Bool := ts.any fun t => t.Label == l && t.Key.tmod S == s
/-- The sites that have a hand in a job. -/
def handsL (S l : Int) (ts : List Task) : List Int := [0, 1, 2, 3].filter (handB S l ts)
theorem handB_lt {S l : Int} (hS : 0 < S) {ts : List Task} {s : Int} (h : S ≤ s) : handB S l ts s = false := by
  unfold handB
  rw [List.any_eq_false]
  intro t _ hc
  simp only [Bool.and_eq_true, beq_iff_eq] at hc
  have := Int.tmod_lt_of_pos t.Key hS
  omega
theorem hands_L2 (c : Config) (l : Int) (j : Job) (s : Int) (hS : c.Sites ≠ 0) (k : Bool → Option (List Int)) : ∀ n i b, j.Tasks.length < n + i → i ≤ j.Tasks.length → reredosref_hands_L2 c l j s k n b i = k (b || handB c.Sites l (j.Tasks.drop i) s) := by
  intro n
  induction n with
  | zero => intro i b h1 h2; omega
  | succ n ih =>
    intro i b h1 h2
    rw [reredosref_hands_L2]
    by_cases hi : i < j.Tasks.length
    · have ed : j.Tasks.drop i = j.Tasks[i] :: j.Tasks.drop (i + 1) := (List.getElem_cons_drop hi).symm
      rw [if_pos (by simpa using hi), ed]
      cases b with
      | true => rw [if_pos rfl, ih _ _ (by omega) (by omega)]; simp
      | false =>
        rw [if_neg (by simp), bind_at hi, if_neg hS]
        have e : handB c.Sites l (j.Tasks[i] :: j.Tasks.drop (i + 1)) s = (j.Tasks[i].Label == l && j.Tasks[i].Key.tmod c.Sites == s || handB c.Sites l (j.Tasks.drop (i + 1)) s) := by rw [handB, List.any_cons]; rfl
        rw [e, Bool.false_or]
        split
        · rename_i h; rw [ih _ _ (by omega) (by omega), h, Bool.true_and]
        · rename_i h; rw [ih _ _ (by omega) (by omega)]; simp [h]
    · rw [if_neg (by simpa using hi), List.drop_of_length_le (by omega)]; simp [handB]
theorem fits8 {n : Nat} (h : n ≤ 100) : fits 8 n := ⟨by omega, by unfold maxLen; omega⟩
theorem hands_step (c : Config) (l : Int) (j : Job) (hS : c.Sites ≠ 0) (k : List Int → Option (List Int)) (n : Nat) (s : Int) (hs : s < c.Sites) (h0 : 0 ≤ s ∧ s < 100) (acc : List Int) (ha : acc.length < 10) :
    reredosref_hands_L1 c l j k (n + 1) s acc = reredosref_hands_L1 c l j k n (s + 1) (acc ++ [s].filter (handB c.Sites l j.Tasks)) := by
  rw [reredosref_hands_L1, if_pos (by simpa using hs)]
  simp only [withK]
  rw [hands_L2 c l j s hS _ _ 0 false (by omega) (by omega), List.drop_zero, Bool.false_or, wrap_in (by omega) (by omega)]
  cases h : handB c.Sites l j.Tasks s with
  | true => simp [h, fits8 (show acc.length + 1 ≤ 100 by omega)]
  | false => simp [h]
theorem hands_end (c : Config) (l : Int) (j : Job) (k : List Int → Option (List Int)) (n : Nat) (s : Int) (hs : ¬ s < c.Sites) (acc : List Int) : reredosref_hands_L1 c l j k (n + 1) s acc = k acc := by
  rw [reredosref_hands_L1, if_neg (by simpa using hs)]
theorem filt_one (p : Int → Bool) (s : Int) : ([s].filter p).length ≤ 1 := by
  cases h : p s <;> simp [h]
theorem hands_run (c : Config) (l : Int) (j : Job) (hS : 1 ≤ c.Sites ∧ c.Sites ≤ 4) (k : List Int → Option (List Int)) : ∀ (d : Nat) (s : Int) (acc : List Int), s + d = c.Sites → 0 ≤ s → acc.length + d ≤ 10 →
    reredosref_hands_L1 c l j k (d + 1) s acc = k (acc ++ ((List.range d).map fun i : Nat => s + (i : Int)).filter (handB c.Sites l j.Tasks))
  | 0, s, acc, h1, h2, h3 => by rw [hands_end c l j k _ s (by omega)]; simp
  | d + 1, s, acc, h1, h2, h3 => by
    have g := filt_one (handB c.Sites l j.Tasks) s
    rw [hands_step c l j (by omega) k _ s (by omega) (by omega) acc (by omega), hands_run c l j hS k d (s + 1) _ (by omega) (by omega) (by simp only [List.length_append]; omega), List.append_assoc, ← List.filter_append, List.range_succ_eq_map]
    congr 3
    simp only [List.map_cons, List.map_map, List.singleton_append]
    congr 1
    · simp
    · apply List.map_congr_left; intro i _; simp; omega
theorem hands_eq (c : Config) (l : Int) (j : Job) (hS : 1 ≤ c.Sites ∧ c.Sites ≤ 4) : reredosref_hands c l j = some (handsL c.Sites l j.Tasks) := by
  have e : c.Sites.toNat + 1 = (c.Sites.toNat) + 1 := rfl
  simp only [reredosref_hands, withK]
  rw [hands_run c l j hS _ c.Sites.toNat 0 [] (by omega) (by omega) (by simp; omega)]
  have fl : ∀ s, c.Sites ≤ s → handB c.Sites l j.Tasks s = false := fun s hs => handB_lt (by omega) hs
  have hc : c.Sites = 1 ∨ c.Sites = 2 ∨ c.Sites = 3 ∨ c.Sites = 4 := by omega
  congr 1
  unfold handsL
  generalize handB c.Sites l j.Tasks = p at fl
  rcases hc with hc | hc | hc | hc
  · simp [hc, List.range_succ, List.filter_cons, fl 1 (by omega), fl 2 (by omega), fl 3 (by omega)]
  · simp [hc, List.range_succ, List.filter_cons, fl 2 (by omega), fl 3 (by omega)]
  · simp [hc, List.range_succ, List.filter_cons, fl 3 (by omega)]
  · simp [hc, List.range_succ, List.filter_cons]
theorem index_int (l : List Int) (x : Int) : ∃ v, slices_Index_int l x = some v ∧ (0 ≤ v ↔ x ∈ l) := by
  simp only [slices_Index_int, withK]
  rcases index_loop (L := slices_Index_int_L1 l x (some (-1))) (len := l.length) (p := fun i => ∃ y, l[i]? = some y ∧ x = y) (k := some (-1)) (f := fun i => some ((i : Nat) : Int))
    (fun n i hi => by rw [slices_Index_int_L1, if_neg (by simpa using hi)])
    (fun n i hi hp => by
      rw [slices_Index_int_L1, if_pos (by simpa using hi), bind_at hi, if_neg]
      intro h; exact hp ⟨l[i], by simp [hi], by simpa using h⟩)
    (fun n i hi hp => by
      obtain ⟨y, h1, h2⟩ := hp
      rw [slices_Index_int_L1, if_pos (by simpa using hi), h1]
      simp [h2]) with ⟨h1, h2⟩ | ⟨j, h1, ⟨y, h2, h3⟩, _, h4⟩
  · refine ⟨-1, h2, by simp; intro hx; obtain ⟨i, hi, e⟩ := List.getElem_of_mem hx; exact h1 ⟨i, hi, l[i], by simp [hi], e.symm⟩⟩
  · exact ⟨_, h4, by simp; rw [h3]; exact List.mem_of_getElem? h2⟩
theorem contains_int (l : List Int) (x : Int) : slices_Contains_int l x = some (decide (x ∈ l)) := by
  obtain ⟨v, h1, h2⟩ := index_int l x
  simp only [slices_Contains_int, h1, Option.bind_some]
  by_cases h : x ∈ l
  · rw [decide_eq_true h, decide_eq_true (h2.2 h)]
  · rw [decide_eq_false h, decide_eq_false (fun q => h (h2.1 q))]
/-- Different sites, in whatever order. -/
def Few (l : List Int) : Prop := l.Nodup ∧ ∀ x ∈ l, 0 ≤ x ∧ x < 4
theorem Few.cases {l : List Int} (h : Few l) : l.length ≤ 4 := by
  have : ∀ (m : Nat) (l : List Int), l.Nodup → (∀ x ∈ l, 0 ≤ x ∧ x < (m : Int)) → l.length ≤ m := by
    intro m
    induction m with
    | zero =>
      intro l _ hl
      cases l with
      | nil => simp
      | cons x _ => have := hl x (by simp); omega
    | succ m ih =>
      intro l hn hl
      by_cases hm : (m : Int) ∈ l
      · have h1 := ih (l.erase (m : Int)) (hn.erase _) (fun x hx => by
          have h2 := hl x (List.mem_of_mem_erase hx)
          have h3 : x ≠ (m : Int) := fun e => by subst e; exact (List.Nodup.not_mem_erase hn) hx
          omega)
        have := List.length_erase_of_mem hm
        have := List.length_pos_of_mem hm
        omega
      · have := ih l hn (fun x hx => by
          have h2 := hl x hx
          have h3 : x ≠ (m : Int) := fun e => hm (e ▸ hx)
          omega)
        omega
  exact this 4 l h.1 h.2

theorem end_L1 (w : CoordWork) (j : Job) (k : List Int → Option CoordWork) (hS : 1 ≤ w.c.Sites ∧ w.c.Sites ≤ 4) (hk : ∀ t ∈ j.Tasks, 0 ≤ t.Key) : ∀ n i acc, j.Tasks.length < n + i → i ≤ j.Tasks.length → Few acc →
    ∃ out, coord_work_end_L1 w j k n i acc = k out ∧ Few out ∧ ∀ x, x ∈ out ↔ x ∈ acc ∨ handB w.c.Sites w.l (j.Tasks.drop i) x = true := by
  intro n
  induction n with
  | zero => intro i acc h1 h2 _; omega
  | succ n ih =>
    intro i acc h1 h2 ha
    rw [coord_work_end_L1]
    by_cases hi : i < j.Tasks.length
    · have ed : j.Tasks.drop i = j.Tasks[i] :: j.Tasks.drop (i + 1) := (List.getElem_cons_drop hi).symm
      have hb : ∀ x, handB w.c.Sites w.l (j.Tasks.drop i) x = (j.Tasks[i].Label == w.l && j.Tasks[i].Key.tmod w.c.Sites == x || handB w.c.Sites w.l (j.Tasks.drop (i + 1)) x) := fun x => by rw [ed, handB, List.any_cons]; rfl
      have h0 := hk j.Tasks[i] (List.getElem_mem hi)
      have hr : 0 ≤ j.Tasks[i].Key.tmod w.c.Sites ∧ j.Tasks[i].Key.tmod w.c.Sites < 4 := by
        have := Int.tmod_lt_of_pos j.Tasks[i].Key (show 0 < w.c.Sites by omega)
        have := Int.tmod_nonneg w.c.Sites h0
        omega
      rw [if_pos (by simpa using hi), bind_at hi, if_neg (by omega)]
      simp only [withK]
      split
      · rename_i hlab
        rw [contains_int, Option.bind_some]
        by_cases hm : j.Tasks[i].Key.tmod w.c.Sites ∈ acc
        · rw [decide_eq_true hm]
          simp only [Bool.not_true, Bool.false_eq_true, if_false]
          obtain ⟨out, q1, q2, q3⟩ := ih (i + 1) acc (by omega) (by omega) ha
          refine ⟨out, q1, q2, fun x => ?_⟩
          rw [q3, hb, hlab, Bool.true_and, Bool.or_eq_true, beq_iff_eq]
          constructor
          · rintro (h | h)
            · exact .inl h
            · exact .inr (.inr h)
          · rintro (h | h | h)
            · exact .inl h
            · exact .inl (h ▸ hm)
            · exact .inr h
        · rw [decide_eq_false hm]
          simp only [Bool.not_false, if_true]
          have hn : Few (acc ++ [j.Tasks[i].Key.tmod w.c.Sites]) := by
            refine ⟨List.nodup_append.2 ⟨ha.1, by simp, fun x hx y hy e => ?_⟩, fun x hx => ?_⟩
            · simp at hy; subst hy; subst e; exact hm hx
            · rcases List.mem_append.1 hx with hx | hx
              · exact ha.2 x hx
              · simp at hx; subst hx; exact hr
          rw [if_pos (fits8 (by have := ha.cases; omega))]
          obtain ⟨out, q1, q2, q3⟩ := ih (i + 1) _ (by omega) (by omega) hn
          refine ⟨out, q1, q2, fun x => ?_⟩
          rw [q3, hb, hlab, Bool.true_and, Bool.or_eq_true, beq_iff_eq, List.mem_append, List.mem_singleton]
          constructor
          · rintro ((h | h) | h)
            · exact .inl h
            · exact .inr (.inl h.symm)
            · exact .inr (.inr h)
          · rintro (h | h | h)
            · exact .inl (.inl h)
            · exact .inl (.inr h.symm)
            · exact .inr h
      · rename_i hlab
        obtain ⟨out, q1, q2, q3⟩ := ih (i + 1) acc (by omega) (by omega) ha
        refine ⟨out, q1, q2, fun x => ?_⟩
        rw [q3, hb]
        simp [hlab]
    · rw [if_neg (by simpa using hi)]
      exact ⟨acc, rfl, ha, fun x => by rw [List.drop_of_length_le (by omega)]; simp [handB]⟩
set_option maxHeartbeats 4000000 in
theorem end_sort (k : List Int → Option CoordWork) : ∀ {l : List Int}, Few l → (Option.bind (math_bits_Len (IntKind.u64.wrap (((l.length : Nat) : Int)))) fun _ => coord_work_end_L2 l k 1) = k ([0, 1, 2, 3].filter fun s => decide (s ∈ l)) := by
  intro l h
  obtain ⟨hn, hm⟩ := h
  have hl := Few.cases ⟨hn, hm⟩
  have c : ∀ x : Int, 0 ≤ x ∧ x < 4 → x = 0 ∨ x = 1 ∨ x = 2 ∨ x = 3 := fun x hx => by omega
  match l, hn, hm, hl with
  | [], _, _, _ => rfl
  | [a], _, hm, _ => rcases c a (hm a (by simp)) with rfl | rfl | rfl | rfl <;> rfl
  | [a, b], hn, hm, _ =>
    rcases c a (hm a (by simp)) with rfl | rfl | rfl | rfl <;> rcases c b (hm b (by simp)) with rfl | rfl | rfl | rfl <;> first | (exact absurd hn (by decide)) | rfl
  | [a, b, d], hn, hm, _ =>
    rcases c a (hm a (by simp)) with rfl | rfl | rfl | rfl <;> rcases c b (hm b (by simp)) with rfl | rfl | rfl | rfl <;> rcases c d (hm d (by simp)) with rfl | rfl | rfl | rfl <;> first | (exact absurd hn (by decide)) | rfl
  | [a, b, d, e], hn, hm, _ =>
    rcases c a (hm a (by simp)) with rfl | rfl | rfl | rfl <;> rcases c b (hm b (by simp)) with rfl | rfl | rfl | rfl <;> rcases c d (hm d (by simp)) with rfl | rfl | rfl | rfl <;> rcases c e (hm e (by simp)) with rfl | rfl | rfl | rfl <;> first | (exact absurd hn (by decide)) | rfl
  | _ :: _ :: _ :: _ :: _ :: _, _, _, hl => simp at hl
theorem end_hands (w : CoordWork) (j : Job) (k : List Int → Option CoordWork) (hS : 1 ≤ w.c.Sites ∧ w.c.Sites ≤ 4) (hk : ∀ t ∈ j.Tasks, 0 ≤ t.Key) :
    coord_work_end_L1 w j (fun b => (Option.bind (math_bits_Len (IntKind.u64.wrap (((b.length : Nat) : Int)))) fun _ => coord_work_end_L2 b k 1)) (j.Tasks.length + 1) 0 [] = k (handsL w.c.Sites w.l j.Tasks) := by
  obtain ⟨out, q1, q2, q3⟩ := end_L1 w j (fun b => (Option.bind (math_bits_Len (IntKind.u64.wrap (((b.length : Nat) : Int)))) fun _ => coord_work_end_L2 b k 1)) hS hk (j.Tasks.length + 1) 0 [] (by omega) (by omega) ⟨by simp, by simp⟩
  rw [q1, end_sort k q2]
  congr 1
  unfold handsL
  apply List.filter_congr
  intro s _
  have := q3 s
  rw [List.drop_zero] at this
  simp only [List.not_mem_nil, false_or] at this
  by_cases h : s ∈ out
  · rw [decide_eq_true h, this.1 h]
  · rw [decide_eq_false h]
    cases hb : handB w.c.Sites w.l j.Tasks s with
    | false => rfl
    | true => exact absurd (this.2 hb) h

/-- What a coordinator says of an outcome. -/
def sayM (me n : Int) (yes : Bool) (s : Int) : Message := Message.mk 4 me s (Txn.mk me n) 0 0 0 0 0 yes 0
theorem handsL_len (S l : Int) (ts : List Task) : (handsL S l ts).length ≤ 4 := List.length_filter_le _ _
theorem fits96 {n : Nat} (h : n ≤ 1000) : fits 96 n := ⟨by omega, by unfold maxLen; omega⟩
theorem fits80 {n : Nat} (h : n ≤ 1000) : fits 80 n := ⟨by omega, by unfold maxLen; omega⟩
theorem fits48 {n : Nat} (h : n ≤ 1000) : fits 48 n := ⟨by omega, by unfold maxLen; omega⟩
/-- A turn behind a job that is not committed. -/
def endT (S l me : Int) (t : Turn) (j : Job) (a : Nat) : Turn := ⟨⟨t.Desk.Next, t.Desk.Jobs.take a ++ t.Desk.Jobs.drop (a + 1)⟩, t.Messages ++ (handsL S l j.Tasks).map (sayM me j.N false), t.Records, t.Replies, t.Sure, t.Committed⟩
theorem set_self {α : Type} {l : List α} {i : Nat} {x : α} (h : l[i]? = some x) : l.set i x = l := by
  apply List.ext_getElem?
  intro n
  rw [List.getElem?_set]
  split
  · rename_i e; subst e
    rw [h]
    split
    · rfl
    · rename_i hn; rw [List.getElem?_eq_none (by omega)] at h; cases h
  · rfl
theorem deleteF_at {α : Type} (l : List α) (a : Nat) (h : a < l.length) (hm : l.length ≤ 1000) : deleteF l (a : Int) (IntKind.i64.wrap ((a : Int) + 1)) = some (l.take a ++ l.drop (a + 1)) := by
  rw [wrap_in (by omega) (by omega)]
  unfold deleteF
  rw [if_pos ⟨by omega, by omega, by omega⟩]
  congr 2
theorem end_eq (w : CoordWork) (a : Nat) (j : Job) (hj : w.turn.Desk.Jobs[a]? = some j) (hS : 1 ≤ w.c.Sites ∧ w.c.Sites ≤ 4) (hk : ∀ t ∈ j.Tasks, 0 ≤ t.Key) (hm : w.turn.Messages.length ≤ 900) (hl : w.turn.Desk.Jobs.length ≤ 100) :
    coord_work_end w (a : Int) = some ⟨w.c, w.l, w.me, endT w.c.Sites w.l w.me w.turn j a⟩ := by
  have ha := lt_of_at hj
  rw [coord_work_end, if_pos (by omega), Int.toNat_natCast, hj, Option.bind_some]
  simp only [withK]
  have := end_hands w j (fun b => coord_work_end_L5 w j b (fun b50 => (deleteF (w.turn.Desk.Jobs.set a j) (a : Int) (IntKind.i64.wrap ((a : Int) + 1))).bind fun v => some (CoordWork.mk w.c w.l w.me (Turn.mk (Desk.mk w.turn.Desk.Next v) b50 w.turn.Records w.turn.Replies w.turn.Sure w.turn.Committed))) (b.length + 1) 0 w.turn.Messages) hS hk
  rw [this]
  rw [map_loop (L := coord_work_end_L5 w j _ _) (l := handsL w.c.Sites w.l j.Tasks) (f := sayM w.me j.N false) (fits96 (show 1000 ≤ 1000 by omega)) (fun n i acc hi => by rw [coord_work_end_L5, if_neg (by simpa using hi)]) (fun n i acc hi hf => by rw [coord_work_end_L5, if_pos (by simpa using hi), bind_at hi, if_pos hf]; rfl) _ _ _ (by omega) (by omega) (by have := handsL_len w.c.Sites w.l j.Tasks; omega)]
  rw [set_self hj, deleteF_at _ _ ha (by omega), Option.bind_some, List.drop_zero]
  rfl
theorem without_loop (l : List Job) (a : Nat) (hl : l.length ≤ 100) (k : List Job → Option (List Job)) : ∀ n i acc, l.length < n + i → i ≤ l.length → acc.length ≤ i → reredosref_without_L1 l (a : Int) k n i acc = k (acc ++ ((l.take a).drop i ++ l.drop (max (a + 1) i))) := by
  intro n
  induction n with
  | zero => intro i acc h1 h2 h3; omega
  | succ n ih =>
    intro i acc h1 h2 h3
    rw [reredosref_without_L1]
    by_cases hi : i < l.length
    · have ed : l.drop i = l[i] :: l.drop (i + 1) := (List.getElem_cons_drop hi).symm
      rw [if_pos (by simpa using hi)]
      simp only [withK]
      by_cases hia : i = a
      · rw [if_neg (by simp [hia]), ih _ _ (by omega) (by omega) (by omega)]
        have e1 : (l.take a).drop (i + 1) = [] := List.drop_of_length_le (by simp; omega)
        have e2 : (l.take a).drop i = [] := List.drop_of_length_le (by simp; omega)
        rw [e1, e2, show max (a + 1) (i + 1) = a + 1 by omega, show max (a + 1) i = a + 1 by omega]
      · rw [if_pos (by simp; omega), bind_at hi]
        rw [if_pos (fits80 (by omega)), ih _ _ (by omega) (by omega) (by simp; omega), List.append_assoc]
        congr 2
        rcases Nat.lt_or_ge i a with h | h
        · have hlt : i < (l.take a).length := by simp; omega
          have e2 : (l.take a).drop i = l[i] :: (l.take a).drop (i + 1) := by
            rw [← List.getElem_cons_drop hlt]
            simp
          rw [e2, show max (a + 1) (i + 1) = a + 1 by omega, show max (a + 1) i = a + 1 by omega]
          rfl
        · have e1 : (l.take a).drop (i + 1) = [] := List.drop_of_length_le (by simp; omega)
          have e2 : (l.take a).drop i = [] := List.drop_of_length_le (by simp; omega)
          rw [e1, e2, show max (a + 1) (i + 1) = i + 1 by omega, show max (a + 1) i = i by omega, ed]
          rfl
    · rw [if_neg (by simpa using hi), List.drop_of_length_le (l := l.take a) (by simp; omega), List.drop_of_length_le (by omega)]
      simp
theorem without_eq (l : List Job) (a : Nat) (hl : l.length ≤ 100) : reredosref_without l (a : Int) = some (l.take a ++ l.drop (a + 1)) := by
  simp only [reredosref_without, withK]
  rw [without_loop l a hl _ _ _ _ (by omega) (by omega) (by simp)]
  simp
theorem ended_eq (c : Config) (l me : Int) (t : Turn) (a : Nat) (j : Job) (hj : t.Desk.Jobs[a]? = some j) (hS : 1 ≤ c.Sites ∧ c.Sites ≤ 4) (hm : t.Messages.length ≤ 900) (hl : t.Desk.Jobs.length ≤ 100) :
    reredosref_ended c l me t (a : Int) = some (endT c.Sites l me t j a) := by
  rw [reredosref_ended, if_pos (by omega), Int.toNat_natCast, hj, Option.bind_some, hands_eq c l j hS, Option.bind_some]
  simp only [withK]
  rw [map_loop (L := reredosref_ended_L1 me j _ _) (l := handsL c.Sites l j.Tasks) (f := sayM me j.N false) (fits96 (show 1000 ≤ 1000 by omega)) (fun n i acc hi => by rw [reredosref_ended_L1, if_neg (by simpa using hi)]) (fun n i acc hi hf => by rw [reredosref_ended_L1, if_pos (by simpa using hi), bind_at hi]; simp only [reredosref_about, Option.bind_some]; rw [if_pos hf]; rfl) _ _ _ (by omega) (by omega) (by have := handsL_len c.Sites l j.Tasks; omega)]
  try rw [set_self hj]
  rw [without_eq _ _ hl, Option.bind_some, List.drop_zero]
  rfl

theorem iteF {p : Prop} [Decidable p] {x : Option Bool} : ((if p then some false else x) = some true) ↔ ¬ p ∧ x = some true := by
  by_cases h : p <;> simp [h]
theorem iteN {α : Type} {p : Prop} [Decidable p] {x : Option α} {r : α} : ((if p then x else none) = some r) ↔ p ∧ x = some r := by
  by_cases h : p <;> simp [h]
theorem ite9 {p : Prop} [Decidable p] {x : Option Int} : ((if p then some 9 else x) = some 0) ↔ ¬ p ∧ x = some 0 := by
  by_cases h : p <;> simp [h]
theorem jobL1 (c : Config) (j : Job) (hm : j.Tasks.length ≤ maxLen) (k : Option Bool) : ∀ n i, reredosref_jobMay_L1 c j k n i = some true → k = some true ∧ ∀ m (h : m < j.Tasks.length), i ≤ m → reredosref_taskMay c j.Tasks[m] = some true ∧ j.Tasks[m].Ask ≤ j.Asks := by
  intro n
  induction n with
  | zero => intro i h; cases h
  | succ n ih =>
    intro i h
    rw [reredosref_jobMay_L1] at h
    by_cases hi : i < j.Tasks.length
    · rw [if_pos (by simpa using hi), bind_at hi] at h
      have key : ∃ b, reredosref_taskMay c j.Tasks[i] = some b ∧ b = true ∧ j.Tasks[i].Ask ≤ j.Asks ∧ reredosref_jobMay_L1 c j k n (i + 1) = some true := by
        simp only [Option.bind_eq_some_iff, iteF, Bool.not_eq_true', Bool.not_eq_false, decide_eq_true_eq] at h
        obtain ⟨b, h1, h2, h3, h4⟩ := h
        refine ⟨b, h1, h2, by omega, ?_⟩
        split at h4
        · simp only [iteN, Option.bind_eq_some_iff, iteF] at h4
          obtain ⟨_, x, _, _, h4⟩ := h4
          split at h4
          · exact (iteF.1 (iteF.1 h4).2).2
          · exact h4
        · split at h4
          · exact (iteF.1 (iteF.1 h4).2).2
          · exact h4
      obtain ⟨b, h1, rfl, h2, h3⟩ := key
      obtain ⟨g1, g2⟩ := ih (i + 1) h3
      refine ⟨g1, fun m hm' him => ?_⟩
      rcases Nat.eq_or_lt_of_le him with rfl | hlt
      · exact ⟨h1, h2⟩
      · exact g2 m hm' hlt
    · rw [if_neg (by simpa using hi)] at h
      exact ⟨h, fun m hm' him => by omega⟩
theorem jobL2 (c : Config) (j : Job) (hS : 1 ≤ c.Sites ∧ c.Sites ≤ 4) (hm : j.Asked.length ≤ maxLen) (k : Option Bool) : ∀ n i, reredosref_jobMay_L2 c j k n i = some true → k = some true ∧ ∀ m (h : m < j.Asked.length), i ≤ m → (0 ≤ j.Asked[m] ∧ j.Asked[m] < c.Sites) ∧ ∀ (h0 : 0 < m), j.Asked[m - 1] < j.Asked[m] := by
  intro n
  induction n with
  | zero => intro i h; cases h
  | succ n ih =>
    intro i h
    rw [reredosref_jobMay_L2] at h
    by_cases hi : i < j.Asked.length
    · rw [if_pos (by simpa using hi), bind_at hi, In_eq, Option.bind_some, wrap_in (by omega) (by omega), iteF] at h
      obtain ⟨h1, h2⟩ := h
      have h1' : 0 ≤ j.Asked[i] ∧ j.Asked[i] ≤ c.Sites - 1 := by simpa using h1
      have key : (∀ (h0 : 0 < i), j.Asked[i - 1] < j.Asked[i]) ∧ reredosref_jobMay_L2 c j k n (i + 1) = some true := by
        by_cases h0 : 0 < i
        · rw [if_pos (by simp; omega), wrap_sub1 h0 (by omega), if_pos (by omega), Int.toNat_natCast, bind_at (by omega : i - 1 < j.Asked.length), iteF] at h2
          exact ⟨fun _ => by simpa using h2.1, h2.2⟩
        · rw [if_neg (by simp; omega)] at h2
          exact ⟨fun h => absurd h h0, h2⟩
      obtain ⟨g1, g2⟩ := ih (i + 1) key.2
      refine ⟨g1, fun m hm' him => ?_⟩
      rcases Nat.eq_or_lt_of_le him with rfl | hlt
      · exact ⟨⟨h1'.1, by omega⟩, key.1⟩
      · exact g2 m hm' hlt
    · rw [if_neg (by simpa using hi)] at h
      exact ⟨h, fun m hm' him => by omega⟩
/-- What a job's check says. -/
structure JobOk (c : Config) (j : Job) : Prop where
  tasks : j.Tasks.length ≤ 10
  key : ∀ t ∈ j.Tasks, 0 ≤ t.Key ∧ t.Key ≤ 7
  asked : j.Asked.length ≤ 4
  asks : 0 ≤ j.Asks ∧ j.Asks ≤ 1048576
  age : 0 ≤ j.Age ∧ j.Age ≤ 2000000
  state : 1 ≤ j.State ∧ j.State ≤ 3
  few : ∀ s ∈ j.Asked, 0 ≤ s ∧ s < c.Sites
  nd : j.Asked.Nodup
  tell : j.State = 3 ↔ 0 < j.Asked.length
theorem job_ok (c : Config) (next : Int) (j : Job) (hS : 1 ≤ c.Sites ∧ c.Sites ≤ 4) (hl : c.Labels.length ≤ maxLen) (h1 : j.Tasks.length ≤ maxLen) (h2 : j.Asked.length ≤ maxLen) (h : reredosref_jobMay c next j = some true) : JobOk c j ∧ j.Age ≤ 1048576 := by
  simp only [reredosref_jobMay, In_eq, Option.bind_some, withK, iteF, Bool.not_eq_true', decide_eq_false_iff_not, Classical.not_not, decide_eq_true_eq] at h
  obtain ⟨a1, a2, a3, a4, a5, a6⟩ := h
  obtain ⟨b1, b2⟩ := jobL1 c j h1 _ _ _ a6
  obtain ⟨d1, d2⟩ := jobL2 c j hS h2 _ _ _ b1
  have hst : j.State = 3 ↔ 0 < j.Asked.length := by
    have : (j.State == 3) = decide (((j.Asked.length : Nat) : Int) > 0) := by simpa using d1
    constructor
    · intro e; rw [e] at this; have := of_decide_eq_true this.symm; omega
    · intro e
      have h3 : decide (((j.Asked.length : Nat) : Int) > 0) = true := decide_eq_true (by omega)
      rw [h3] at this; simpa using this
  have hge : ∀ m (h : m < j.Asked.length), (m : Int) ≤ j.Asked[m] := by
    intro m
    induction m with
    | zero => intro h; exact (d2 0 h (by omega)).1.1
    | succ m ih =>
      intro h
      have h3 := ih (by omega)
      have h4 := (d2 (m + 1) h (by omega)).2 (by omega)
      have e : j.Asked[m + 1 - 1] = j.Asked[m] := rfl
      rw [e] at h4
      omega
  have hlt : ∀ (d m : Nat) (h : m + d + 1 < j.Asked.length), j.Asked[m] < j.Asked[m + d + 1] := by
    intro d
    induction d with
    | zero => intro m h; exact (d2 (m + 1) (by omega) (by omega)).2 (by omega)
    | succ d ih =>
      intro m h
      have h3 := ih m (by omega)
      have h4 := (d2 (m + (d + 1) + 1) h (by omega)).2 (by omega)
      have e : j.Asked[m + (d + 1) + 1 - 1] = j.Asked[m + d + 1] := rfl
      rw [e] at h4
      omega
  refine ⟨⟨by omega, fun t ht => ?_, ?_, a5, by omega, a3, fun s hs => ?_, ?_, hst⟩, a2.2⟩
  · obtain ⟨m, hm, rfl⟩ := List.getElem_of_mem ht
    have := (b2 m hm (by omega)).1
    rw [taskMay_eq c _ hl] at this
    have := of_decide_eq_true (Option.some.inj this)
    exact this.2.1
  · rcases Nat.lt_or_ge 4 j.Asked.length with h5 | h5
    · have g1 := hge 4 h5
      have g2 := (d2 4 h5 (by omega)).1.2
      omega
    · exact h5
  · obtain ⟨m, hm, rfl⟩ := List.getElem_of_mem hs
    exact (d2 m hm (by omega)).1
  · rw [List.nodup_iff_pairwise_ne, List.pairwise_iff_getElem]
    intro a b ha hb hab
    have := hlt (b - a - 1) a (by omega)
    have e : a + (b - a - 1) + 1 = b := by omega
    simp only [e] at this
    omega
/-- What a desk's check says. -/
structure DeskOk (c : Config) (d : Desk) : Prop where
  sites : 1 ≤ c.Sites ∧ c.Sites ≤ 4
  labels : c.Labels.length ≤ 6
  patience : 1 ≤ c.Patience ∧ c.Patience ≤ 1048576
  next : 1 ≤ d.Next ∧ d.Next ≤ 1048577
  len : d.Jobs.length ≤ 6
  job : ∀ j ∈ d.Jobs, JobOk c j ∧ j.Age ≤ 1048576
  inc : ∀ a b (ha : a < d.Jobs.length) (hb : b < d.Jobs.length), a < b → d.Jobs[a].N < d.Jobs[b].N
theorem deskL1 (c : Config) (d : Desk) (hm : d.Jobs.length ≤ maxLen) (k : Option Int) : ∀ n i, reredosref_DeskFault_L1 c d k n i = some 0 → k = some 0 ∧ ∀ m (h : m < d.Jobs.length), i ≤ m → reredosref_jobMay c d.Next d.Jobs[m] = some true ∧ ∀ (h0 : 0 < m), d.Jobs[m - 1].N < d.Jobs[m].N := by
  intro n
  induction n with
  | zero => intro i h; cases h
  | succ n ih =>
    intro i h
    rw [reredosref_DeskFault_L1] at h
    by_cases hi : i < d.Jobs.length
    · rw [if_pos (by simpa using hi), bind_at hi, Option.bind_eq_some_iff] at h
      obtain ⟨b, h1, h2⟩ := h
      rw [ite9] at h2
      obtain ⟨h3, h2⟩ := h2
      have hb : b = true := by simpa using h3
      subst hb
      have key : (∀ (h0 : 0 < i), d.Jobs[i - 1].N < d.Jobs[i].N) ∧ reredosref_DeskFault_L1 c d k n (i + 1) = some 0 := by
        by_cases h0 : 0 < i
        · rw [if_pos (by simp; omega), wrap_sub1 h0 (by omega), if_pos (by omega), Int.toNat_natCast, bind_at (by omega : i - 1 < d.Jobs.length), ite9] at h2
          exact ⟨fun _ => by simpa using h2.1, h2.2⟩
        · rw [if_neg (by simp; omega)] at h2
          exact ⟨fun h => absurd h h0, h2⟩
      obtain ⟨g1, g2⟩ := ih (i + 1) key.2
      refine ⟨g1, fun m hm' him => ?_⟩
      rcases Nat.eq_or_lt_of_le him with rfl | hlt
      · exact ⟨h1, key.1⟩
      · exact g2 m hm' hlt
    · rw [if_neg (by simpa using hi)] at h
      exact ⟨h, fun m hm' him => by omega⟩
theorem desk_ok (c : Config) (d : Desk) (hl : c.Labels.length ≤ maxLen) (hd : d.lens) (h : reredosref_DeskFault c d = some 0) : DeskOk c d := by
  obtain ⟨e, he, h0⟩ := fault_total c
  simp only [reredosref_DeskFault, he, Option.bind_some, withK, In_eq] at h
  by_cases he0 : e = 0
  case neg => rw [if_pos (by simpa using he0)] at h; exact absurd (Option.some.inj h) he0
  subst he0
  obtain ⟨hS, hl1, hl2, hp⟩ := h0 rfl
  rw [if_neg (by simp), ite9, ite9] at h
  obtain ⟨h1, h2, h3⟩ := h
  obtain ⟨_, g2⟩ := deskL1 c d hd.1 _ _ _ h3
  have hlt : ∀ (k m : Nat) (h : m + k + 1 < d.Jobs.length), d.Jobs[m].N < d.Jobs[m + k + 1].N := by
    intro k
    induction k with
    | zero => intro m h; exact (g2 (m + 1) (by omega) (by omega)).2 (by omega)
    | succ k ih =>
      intro m h
      have h3 := ih m (by omega)
      have h4 := (g2 (m + (k + 1) + 1) h (by omega)).2 (by omega)
      have e : d.Jobs[m + (k + 1) + 1 - 1] = d.Jobs[m + k + 1] := rfl
      rw [e] at h4
      omega
  refine ⟨hS, hl2, hp, by simpa using h1, by simp at h2; omega, fun j hj => ?_, fun a b ha hb hab => ?_⟩
  · obtain ⟨m, hm, rfl⟩ := List.getElem_of_mem hj
    obtain ⟨q1, q2⟩ := hd.2 _ (List.getElem_mem hm)
    exact job_ok c d.Next _ hS hl q1 q2 (g2 m hm (by omega)).1
  · have := hlt (b - a - 1) a (by omega)
    have e : a + (b - a - 1) + 1 = b := by omega
    simp only [e] at this
    exact this

theorem mem_set_ne {α : Type} {l : List α} {v : Nat} {x y z : α} (hx : x ∈ l) (hy : l[v]? = some y) (hne : x ≠ y) : x ∈ l.set v z := by
  obtain ⟨i, hi, rfl⟩ := List.getElem_of_mem hx
  have : v ≠ i := fun e => by subst e; rw [List.getElem?_eq_getElem hi] at hy; exact hne (Option.some.inj hy)
  have h2 : (l.set v z)[i]? = some l[i] := by rw [List.getElem?_set, if_neg this]; simp [hi]
  exact List.mem_of_getElem? h2
theorem mem_cut_ne {α : Type} {l : List α} {v : Nat} {x y : α} (hx : x ∈ l) (hy : l[v]? = some y) (hne : x ≠ y) : x ∈ l.take v ++ l.drop (v + 1) := by
  obtain ⟨i, hi, rfl⟩ := List.getElem_of_mem hx
  have hv : v ≠ i := fun e => by subst e; rw [List.getElem?_eq_getElem hi] at hy; exact hne (Option.some.inj hy)
  rw [List.mem_append]
  rcases Nat.lt_or_ge i v with h | h
  · left
    have h2 : (l.take v)[i]? = some l[i] := by rw [List.getElem?_take, if_pos h]; simp [hi]
    exact List.mem_of_getElem? h2
  · right
    have h2 : (l.drop (v + 1))[i - (v + 1)]? = some l[i] := by rw [List.getElem?_drop, show v + 1 + (i - (v + 1)) = i by omega]; simp [hi]
    exact List.mem_of_getElem? h2
theorem mem_set_or {α : Type} {l : List α} {v : Nat} {x z : α} (hx : x ∈ l.set v z) : x ∈ l ∨ x = z := List.mem_or_eq_of_mem_set hx
theorem mem_cut {α : Type} {l : List α} {v : Nat} {x : α} (hx : x ∈ l.take v ++ l.drop (v + 1)) : x ∈ l := by
  rcases List.mem_append.1 hx with h | h
  · exact List.mem_of_mem_take h
  · exact List.mem_of_mem_drop h
/-- The place of a job: both look alike. -/
theorem place_at (w : CoordWork) (n : Int) (h : ∃ j ∈ w.turn.Desk.Jobs, j.N = n) : ∃ (v : Nat) (j : Job), w.turn.Desk.Jobs[v]? = some j ∧ j.N = n ∧ coord_work_place w n = some (v : Int) ∧ reredosref_jobAt w.turn.Desk n = some (v : Int) := by
  obtain ⟨x, hx, hn⟩ := h
  obtain ⟨i, hi, rfl⟩ := List.getElem_of_mem hx
  obtain ⟨v, j, h1, h2, h3⟩ := find_first (l := w.turn.Desk.Jobs) (p := fun j => j.N = n) ⟨i, _, by simp [hi], hn⟩
  have hv := lt_of_at h1
  refine ⟨v, j, h1, h2, ?_, ?_⟩
  · simp only [coord_work_place, slices_IndexFunc_Job, withK]
    obtain ⟨_, b⟩ := find_loop (L := slices_IndexFunc_Job_L1 w.turn.Desk.Jobs (fun y1 => coord_work_place_1 y1 n) (some (-1))) (len := w.turn.Desk.Jobs.length) (p := fun i => ∃ y, w.turn.Desk.Jobs[i]? = some y ∧ y.N = n) (k := some (-1)) (f := fun i => some ((i : Nat) : Int))
      (fun m i hi => by rw [slices_IndexFunc_Job_L1, if_neg (by simpa using hi)])
      (fun m i hi hp => by
        rw [slices_IndexFunc_Job_L1, if_pos (by simpa using hi), bind_at hi]
        simp only [coord_work_place_1, Option.bind_some]
        rw [if_neg]
        intro h; exact hp ⟨w.turn.Desk.Jobs[i], by simp [hi], by simpa using h⟩)
      (fun m i hi hp => by
        obtain ⟨y, g1, g2⟩ := hp
        rw [slices_IndexFunc_Job_L1, if_pos (by simpa using hi), g1]
        simp [coord_work_place_1, g2]) (w.turn.Desk.Jobs.length + 1) 0 (by omega) (by omega)
    rw [b v (by omega) hv ⟨j, h1, h2⟩ (fun m _ hm ⟨y, g1, g2⟩ => h3 m y hm g1 g2)]
    rfl
  · simp only [reredosref_jobAt, withK]
    obtain ⟨_, b⟩ := find_loop (L := reredosref_jobAt_L1 w.turn.Desk n (some (-1))) (len := w.turn.Desk.Jobs.length) (p := fun i => ∃ y, w.turn.Desk.Jobs[i]? = some y ∧ y.N = n) (k := some (-1)) (f := fun i => some ((i : Nat) : Int))
      (fun m i hi => by rw [reredosref_jobAt_L1, if_neg (by simpa using hi)])
      (fun m i hi hp => by
        rw [reredosref_jobAt_L1, if_pos (by simpa using hi), bind_at hi, if_neg]
        intro h; exact hp ⟨w.turn.Desk.Jobs[i], by simp [hi], by simpa using h⟩)
      (fun m i hi hp => by
        obtain ⟨y, g1, g2⟩ := hp
        rw [reredosref_jobAt_L1, if_pos (by simpa using hi), g1]
        simp [g2]) (w.turn.Desk.Jobs.length + 1) 0 (by omega) (by omega)
    rw [b v (by omega) hv ⟨j, h1, h2⟩ (fun m _ hm ⟨y, g1, g2⟩ => h3 m y hm g1 g2)]
theorem TasksCopy_eq (l : List Task) (h : fits 56 l.length) : reredosref_TasksCopy l = some l := by
  simp only [reredosref_TasksCopy, withK]
  refine (copy_loop h (L := reredosref_TasksCopy_L1 l (fun b => some b)) (k := fun b => some b) (fun n i acc hi => by rw [reredosref_TasksCopy_L1, if_neg (by simpa using hi)]) (fun n i acc hi hf => by rw [reredosref_TasksCopy_L1, if_pos (by simpa using hi), bind_at hi, if_pos hf]) (l.length + 1) 0 [] (by omega) rfl (by omega)).trans ?_
  simp
theorem intsCopy_eq (l : List Int) (h : fits 8 l.length) : reredosref_intsCopy l = some l := by
  simp only [reredosref_intsCopy, withK]
  refine (copy_loop h (L := reredosref_intsCopy_L1 l (fun b => some b)) (k := fun b => some b) (fun n i acc hi => by rw [reredosref_intsCopy_L1, if_neg (by simpa using hi)]) (fun n i acc hi hf => by rw [reredosref_intsCopy_L1, if_pos (by simpa using hi), bind_at hi, if_pos hf]) (l.length + 1) 0 [] (by omega) rfl (by omega)).trans ?_
  simp
/-- A desk that memory has room for. -/
def Desk.fit (d : Desk) : Prop := fits 80 d.Jobs.length ∧ ∀ j ∈ d.Jobs, fits 56 j.Tasks.length ∧ fits 8 j.Asked.length
theorem DeskCopy_eq (d : Desk) (h : d.fit) : reredosref_DeskCopy d = some d := by
  simp only [reredosref_DeskCopy, withK]
  refine (copy_loop h.1 (L := reredosref_DeskCopy_L1 d (fun b => some (Desk.mk d.Next b))) (k := fun b => some (Desk.mk d.Next b)) (fun n i acc hi => by rw [reredosref_DeskCopy_L1, if_neg (by simpa using hi)]) (fun n i acc hi hf => by
    obtain ⟨f1, f2⟩ := h.2 _ (List.getElem_mem hi)
    rw [reredosref_DeskCopy_L1, if_pos (by simpa using hi), bind_at hi, TasksCopy_eq _ f1, Option.bind_some, intsCopy_eq _ f2, Option.bind_some]
    simp only [withK]
    rw [if_pos hf]) (d.Jobs.length + 1) 0 [] (by omega) rfl (by omega)).trans ?_
  simp
theorem own_eq (d : Desk) (h : d.fit) : coord_own d = some d := by
  simp only [coord_own, withK]
  refine (copy_loop h.1 (L := coord_own_L1 d (fun b => some (Desk.mk d.Next b))) (k := fun b => some (Desk.mk d.Next b)) (fun n i acc hi => by rw [coord_own_L1, if_neg (by simpa using hi)]) (fun n i acc hi hf => by
    obtain ⟨f1, f2⟩ := h.2 _ (List.getElem_mem hi)
    rw [coord_own_L1, if_pos (by simpa using hi), bind_at hi, cloneF, if_pos f1, Option.bind_some, cloneF, if_pos f2, Option.bind_some]
    simp only [withK]
    rw [if_pos hf]) (d.Jobs.length + 1) 0 [] (by omega) rfl (by omega)).trans ?_
  simp
/-- What stands ahead of a turn: both look alike. -/
theorem deskFault_eq (c : Config) (l me : Int) (d : Desk) (hl : c.Labels.length ≤ maxLen) (hd : d.lens) :
    ∃ e, coord_Check c d = some e ∧ reredosref_DeskFault c d = some e ∧ reredosref_deskFault c l me d = some (if e ≠ 0 then e else if ¬ (0 ≤ l ∧ l < c.Labels.length) then 6 else if ¬ (0 ≤ me ∧ me < c.Sites) then 2 else 0) := by
  obtain ⟨h1, e, h2⟩ := desk_same c d hl hd
  refine ⟨e, h1.trans h2, h2, ?_⟩
  simp only [reredosref_deskFault, h2, Option.bind_some, withK, labelMay_eq c l hl, In_eq]
  by_cases he : e = 0
  · subst he
    have hS := (desk_ok c d hl hd h2).sites
    rw [wrap_in (by omega) (by omega)]
    by_cases a : 0 ≤ l ∧ l < c.Labels.length
    · by_cases b : 0 ≤ me ∧ me < c.Sites
      · have b' : 0 ≤ me ∧ me ≤ c.Sites - 1 := by omega
        simp [a, b, b']
      · have b' : ¬ (0 ≤ me ∧ me ≤ c.Sites - 1) := by omega
        simp [a, b, b']
    · simp [a]
  · simp [he]

end Go.V.Dec
