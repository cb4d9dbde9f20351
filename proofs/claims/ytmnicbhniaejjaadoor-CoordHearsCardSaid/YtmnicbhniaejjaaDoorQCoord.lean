/- Plain laws (Coord): no program, no memory; conditions as stated. -/
import Derived.Test.YtmnicbhniaejjaaDoorG2
import Derived.Test.YtmnicbhniaejjaaDoorQLabelM
set_option linter.unusedVariables false
set_option linter.unusedSimpArgs false
namespace Go.V.Dec
open Go Go.Proofs Classical
set_option maxRecDepth 100000
set_option maxHeartbeats 4000000
variable (G : Nat → Option (List D))
def taskR (c : Config) (t : Task) : Prop := (0 ≤ t.Label ∧ t.Label < c.Labels.length) ∧ (0 ≤ t.Key ∧ t.Key ≤ 7) ∧ (0 ≤ t.Value ∧ t.Value ≤ 1073741824) ∧ (0 ≤ t.Version ∧ t.Version ≤ 1048576) ∧ (1 ≤ t.Ask ∧ t.Ask ≤ 1048576) ∧ (t.Done = true ∨ t.Sure = false ∧ (t.Write = true ∨ t.Value = 0 ∧ t.Version = 0))
theorem task_eq (c : Config) (t : Task) : coord_task c t = some (decide (taskR c t)) := by
  simp only [coord_task, withK]
  by_cases h : (0 ≤ t.Label ∧ t.Label < c.Labels.length) ∧ (0 ≤ t.Key ∧ t.Key ≤ 7) ∧ (0 ≤ t.Value ∧ t.Value ≤ 1073741824) ∧ (0 ≤ t.Version ∧ t.Version ≤ 1048576) ∧ (1 ≤ t.Ask ∧ t.Ask ≤ 1048576)
  · obtain ⟨⟨a1, a2⟩, ⟨a3, a4⟩, ⟨a5, a6⟩, ⟨a7, a8⟩, a9, a10⟩ := h
    rw [if_neg (by simp; omega), if_neg (by simp; omega), if_neg (by simp; omega), if_neg (by simp; omega), if_neg (by simp; omega), if_neg (by simp; omega), if_neg (by simp; omega), if_neg (by simp; omega), if_neg (by simp; omega), if_neg (by simp; omega)]
    have hw : IntKind.i64.wrap (t.Value + t.Version) = t.Value + t.Version := wrap_in (by omega) (by omega)
    have e : taskR c t ↔ (t.Done = true ∨ t.Sure = false ∧ (t.Write = true ∨ t.Value = 0 ∧ t.Version = 0)) := by
      unfold taskR; constructor
      · exact fun h => h.2.2.2.2.2
      · exact fun h => ⟨⟨a1, a2⟩, ⟨a3, a4⟩, ⟨a5, a6⟩, ⟨a7, a8⟩, ⟨a9, a10⟩, h⟩
    rw [hw, show decide (taskR c t) = decide (t.Done = true ∨ t.Sure = false ∧ (t.Write = true ∨ t.Value = 0 ∧ t.Version = 0)) from decide_eq_decide.2 e]
    by_cases hd : t.Done = true <;> by_cases hs : t.Sure = true <;> by_cases hw2 : t.Write = true <;> simp [hd, hs, hw2] <;> try (rw [Bool.eq_iff_iff]; simp; omega)
  · have hn : ¬ taskR c t := fun q => h ⟨q.1, q.2.1, q.2.2.1, q.2.2.2.1, q.2.2.2.2.1⟩
    rw [decide_eq_false hn]
    by_cases h1 : t.Label < 0
    · rw [if_pos (by simpa using h1)]
    rw [if_neg (by simpa using h1)]
    by_cases h2 : t.Label ≥ c.Labels.length
    · rw [if_pos (by simpa using h2)]
    rw [if_neg (by simpa using h2)]
    by_cases h3 : t.Key < 0
    · rw [if_pos (by simpa using h3)]
    rw [if_neg (by simpa using h3)]
    by_cases h4 : t.Key ≥ 8
    · rw [if_pos (by simpa using h4)]
    rw [if_neg (by simpa using h4)]
    by_cases h5 : t.Value < 0
    · rw [if_pos (by simpa using h5)]
    rw [if_neg (by simpa using h5)]
    by_cases h6 : t.Value > 1073741824
    · rw [if_pos (by simpa using h6)]
    rw [if_neg (by simpa using h6)]
    by_cases h7 : t.Version < 0
    · rw [if_pos (by simpa using h7)]
    rw [if_neg (by simpa using h7)]
    by_cases h8 : t.Version > 1048576
    · rw [if_pos (by simpa using h8)]
    rw [if_neg (by simpa using h8)]
    by_cases h9 : t.Ask < 1
    · rw [if_pos (by simpa using h9)]
    rw [if_neg (by simpa using h9)]
    by_cases h10 : t.Ask > 1048576
    · rw [if_pos (by simpa using h10)]
    exfalso; apply h; omega
theorem taskMay_eq (c : Config) (t : Task) (hl : c.Labels.length ≤ maxLen) : reredosref_taskMay c t = some (decide (taskR c t)) := by
  simp only [reredosref_taskMay, withK, labelMay_eq c _ hl, In_eq, Option.bind_some]
  by_cases h1 : 0 ≤ t.Label ∧ t.Label < c.Labels.length
  case neg => rw [decide_eq_false h1, decide_eq_false (fun q : taskR c t => h1 q.1)]; rfl
  by_cases h2 : 0 ≤ t.Key ∧ t.Key ≤ 7
  case neg => rw [decide_eq_true h1, decide_eq_false h2, decide_eq_false (fun q : taskR c t => h2 q.2.1)]; rfl
  by_cases h3 : 0 ≤ t.Value ∧ t.Value ≤ 1073741824
  case neg => rw [decide_eq_true h1, decide_eq_true h2, decide_eq_false h3, decide_eq_false (fun q : taskR c t => h3 q.2.2.1)]; rfl
  by_cases h4 : 0 ≤ t.Version ∧ t.Version ≤ 1048576
  case neg => rw [decide_eq_true h1, decide_eq_true h2, decide_eq_true h3, decide_eq_false h4, decide_eq_false (fun q : taskR c t => h4 q.2.2.2.1)]; rfl
  by_cases h5 : 1 ≤ t.Ask ∧ t.Ask ≤ 1048576
  case neg => rw [decide_eq_true h1, decide_eq_true h2, decide_eq_true h3, decide_eq_true h4, decide_eq_false h5, decide_eq_false (fun q : taskR c t => h5 q.2.2.2.2.1)]; rfl
  have e : taskR c t ↔ (t.Done = true ∨ t.Sure = false ∧ (t.Write = true ∨ t.Value = 0 ∧ t.Version = 0)) := by
    unfold taskR; constructor
    · exact fun h => h.2.2.2.2.2
    · exact fun h => ⟨h1, h2, h3, h4, h5, h⟩
  rw [decide_eq_true h1, decide_eq_true h2, decide_eq_true h3, decide_eq_true h4, decide_eq_true h5, show decide (taskR c t) = decide (t.Done = true ∨ t.Sure = false ∧ (t.Write = true ∨ t.Value = 0 ∧ t.Version = 0)) from decide_eq_decide.2 e]
  simp only [Bool.not_true, Bool.false_eq_true, if_false]
  by_cases hd : t.Done = true <;> by_cases hs : t.Sure = true <;> by_cases hw2 : t.Write = true <;> by_cases hv : t.Value = 0 <;> simp [hd, hs, hw2, hv] <;> try (rw [Bool.eq_iff_iff]; simp)
theorem job1 (c : Config) (d : Desk) (j : Job) (hl : c.Labels.length ≤ maxLen) (k : Option Bool) : ∀ n i, coord_job_L1 c j k n i = reredosref_jobMay_L1 c j k n i := by
  intro n
  induction n with
  | zero => intro i; rfl
  | succ n ih =>
    intro i
    rw [coord_job_L1, reredosref_jobMay_L1]
    simp only [task_eq, taskMay_eq c _ hl, ih, ge_iff_le]
theorem job2 (c : Config) (d : Desk) (j : Job) (hs : 1 ≤ c.Sites ∧ c.Sites ≤ 4) (k : Option Bool) : ∀ n i, coord_job_L2 c j k n i = reredosref_jobMay_L2 c j k n i := by
  intro n
  induction n with
  | zero => intro i; rfl
  | succ n ih =>
    intro i
    rw [coord_job_L2, reredosref_jobMay_L2]
    simp only [In_eq, ih, ge_iff_le, Option.bind_some]
    rw [wrap_in (n := c.Sites - 1) (by omega) (by omega)]
    by_cases hi : i < j.Asked.length
    · rw [if_pos (by simpa using hi), if_pos (by simpa using hi), bind_at hi, bind_at hi]
      by_cases h1 : j.Asked[i] < 0
      · rw [if_pos (by simpa using h1), if_pos (by simp; omega)]
      by_cases h2 : c.Sites ≤ j.Asked[i]
      · rw [if_neg (by simpa using h1), if_pos (by simpa using h2), if_pos (by simp; omega)]
      rw [if_neg (by simpa using h1), if_neg (by simpa using h2), if_neg (c := (!decide (0 ≤ j.Asked[i] ∧ j.Asked[i] ≤ c.Sites - 1)) = true) (by simp; omega)]
    · rw [if_neg (by simpa using hi), if_neg (by simpa using hi)]

theorem job1_total (c : Config) (j : Job) (hm : j.Tasks.length ≤ maxLen) (hl : c.Labels.length ≤ maxLen) (k : Option Bool) (hk : ∃ r, k = some r) : ∀ n i, j.Tasks.length < n + i → i ≤ j.Tasks.length → ∃ r, reredosref_jobMay_L1 c j k n i = some r := by
  intro n
  induction n with
  | zero => intro i h1 h2; omega
  | succ n ih =>
    intro i h1 h2
    rw [reredosref_jobMay_L1]
    by_cases hi : i < j.Tasks.length
    · obtain ⟨r, hr⟩ := ih (i + 1) (by omega) (by omega)
      rw [if_pos (by simpa using hi), bind_at hi, taskMay_eq c _ hl, hr]
      simp only [Option.bind_some]
      by_cases h0 : 0 < i
      · rw [wrap_sub1 h0 (by omega), Int.toNat_natCast, bind_at (by omega : i - 1 < j.Tasks.length), if_pos (c := (0 : Int) ≤ ((i - 1 : Nat) : Int)) (by omega)]
        repeat' split
        all_goals exact ⟨_, rfl⟩
      · rw [if_neg (c := decide ((i : Int) > 0) = true) (by simp; omega)]
        repeat' split
        all_goals exact ⟨_, rfl⟩
    · rw [if_neg (by simpa using hi)]; exact hk
theorem job2_total (c : Config) (j : Job) (hm : j.Asked.length ≤ maxLen) (k : Option Bool) (hk : ∃ r, k = some r) : ∀ n i, j.Asked.length < n + i → i ≤ j.Asked.length → ∃ r, reredosref_jobMay_L2 c j k n i = some r := by
  intro n
  induction n with
  | zero => intro i h1 h2; omega
  | succ n ih =>
    intro i h1 h2
    rw [reredosref_jobMay_L2]
    by_cases hi : i < j.Asked.length
    · obtain ⟨r, hr⟩ := ih (i + 1) (by omega) (by omega)
      rw [if_pos (by simpa using hi), bind_at hi, hr]
      simp only [Option.bind_some, In_eq]
      by_cases h0 : 0 < i
      · rw [wrap_sub1 h0 (by omega), Int.toNat_natCast, bind_at (by omega : i - 1 < j.Asked.length), if_pos (c := (0 : Int) ≤ ((i - 1 : Nat) : Int)) (by omega)]
        repeat' split
        all_goals exact ⟨_, rfl⟩
      · rw [if_neg (c := decide ((i : Int) > 0) = true) (by simp; omega)]
        repeat' split
        all_goals exact ⟨_, rfl⟩
    · rw [if_neg (by simpa using hi)]; exact hk
theorem job_same (c : Config) (d : Desk) (j : Job) (hl : c.Labels.length ≤ maxLen) (hs : 1 ≤ c.Sites ∧ c.Sites ≤ 4) (hn : 1 ≤ d.Next ∧ d.Next ≤ 1048577) (hm : j.Tasks.length ≤ maxLen) (hm2 : j.Asked.length ≤ maxLen) :
    coord_job c d j = reredosref_jobMay c d.Next j ∧ ∃ r, reredosref_jobMay c d.Next j = some r := by
  simp only [coord_job, reredosref_jobMay, withK, In_eq, Option.bind_some, job1 c d j hl, job2 c d j hs]
  rw [wrap_in (n := d.Next - 1) (by omega) (by omega)]
  obtain ⟨r2, h2⟩ := job2_total c j hm2 (some ((j.State == 3) == decide (((j.Asked.length : Nat) : Int) > 0))) ⟨_, rfl⟩ (j.Asked.length + 1) 0 (by omega) (by omega)
  rw [h2]
  obtain ⟨r1, h1⟩ := job1_total c j hm hl (some r2) ⟨_, rfl⟩ (j.Tasks.length + 1) 0 (by omega) (by omega)
  rw [h1]
  by_cases a1 : 1 ≤ j.N ∧ j.N ≤ d.Next - 1
  case neg =>
    simp only [decide_eq_false a1, Bool.not_true, Bool.not_false, Bool.false_eq_true, if_true, if_false, ↓reduceIte]
    refine ⟨?_, _, rfl⟩
    by_cases b : j.N < 1
    · simp only [decide_eq_true b, Bool.not_true, Bool.not_false, Bool.false_eq_true, if_true, if_false, ↓reduceIte]
    · have b2 : j.N ≥ d.Next := by omega
      simp only [decide_eq_false b, decide_eq_true b2, Bool.not_true, Bool.not_false, Bool.false_eq_true, if_true, if_false, ↓reduceIte]
  have c1 : ¬ j.N < 1 := by omega
  have e1 : ¬ j.N ≥ d.Next := by omega
  simp only [decide_eq_true a1, decide_eq_false c1, decide_eq_false e1, Bool.not_true, Bool.not_false, Bool.false_eq_true, if_true, if_false, ↓reduceIte]
  by_cases a2 : 0 ≤ j.Age ∧ j.Age ≤ 1048576
  case neg =>
    simp only [decide_eq_false a2, Bool.not_true, Bool.not_false, Bool.false_eq_true, if_true, if_false, ↓reduceIte]
    refine ⟨?_, _, rfl⟩
    by_cases b : j.Age < 0
    · simp only [decide_eq_true b, Bool.not_true, Bool.not_false, Bool.false_eq_true, if_true, if_false, ↓reduceIte]
    · have b2 : j.Age > 1048576 := by omega
      simp only [decide_eq_false b, decide_eq_true b2, Bool.not_true, Bool.not_false, Bool.false_eq_true, if_true, if_false, ↓reduceIte]
  have c2 : ¬ j.Age < 0 := by omega
  have e2 : ¬ j.Age > 1048576 := by omega
  simp only [decide_eq_true a2, decide_eq_false c2, decide_eq_false e2, Bool.not_true, Bool.not_false, Bool.false_eq_true, if_true, if_false, ↓reduceIte]
  by_cases a3 : 1 ≤ j.State ∧ j.State ≤ 3
  case neg =>
    simp only [decide_eq_false a3, Bool.not_true, Bool.not_false, Bool.false_eq_true, if_true, if_false, ↓reduceIte]
    refine ⟨?_, _, rfl⟩
    by_cases b : j.State < 1
    · simp only [decide_eq_true b, Bool.not_true, Bool.not_false, Bool.false_eq_true, if_true, if_false, ↓reduceIte]
    · have b2 : j.State > 3 := by omega
      simp only [decide_eq_false b, decide_eq_true b2, Bool.not_true, Bool.not_false, Bool.false_eq_true, if_true, if_false, ↓reduceIte]
  have c3 : ¬ j.State < 1 := by omega
  have e3 : ¬ j.State > 3 := by omega
  simp only [decide_eq_true a3, decide_eq_false c3, decide_eq_false e3, Bool.not_true, Bool.not_false, Bool.false_eq_true, if_true, if_false, ↓reduceIte]
  by_cases a4 : (j.Tasks.length : Int) > 10
  · simp only [decide_eq_true a4, Bool.not_true, Bool.not_false, Bool.false_eq_true, if_true, if_false, ↓reduceIte]; exact ⟨trivial, _, rfl⟩
  simp only [decide_eq_false a4, Bool.not_true, Bool.not_false, Bool.false_eq_true, if_true, if_false, ↓reduceIte]
  by_cases a5 : 0 ≤ j.Asks ∧ j.Asks ≤ 1048576
  case neg =>
    simp only [decide_eq_false a5, Bool.not_true, Bool.not_false, Bool.false_eq_true, if_true, if_false, ↓reduceIte]
    refine ⟨?_, _, rfl⟩
    by_cases b : j.Asks < 0
    · simp only [decide_eq_true b, Bool.not_true, Bool.not_false, Bool.false_eq_true, if_true, if_false, ↓reduceIte]
    · have b2 : j.Asks > 1048576 := by omega
      simp only [decide_eq_false b, decide_eq_true b2, Bool.not_true, Bool.not_false, Bool.false_eq_true, if_true, if_false, ↓reduceIte]
  have c5 : ¬ j.Asks < 0 := by omega
  have e5 : ¬ j.Asks > 1048576 := by omega
  simp only [decide_eq_true a5, decide_eq_false c5, decide_eq_false e5, Bool.not_true, Bool.not_false, Bool.false_eq_true, if_true, if_false, ↓reduceIte]
  exact ⟨trivial, _, rfl⟩
def Desk.lens (d : Desk) : Prop := d.Jobs.length ≤ maxLen ∧ ∀ j ∈ d.Jobs, j.Tasks.length ≤ maxLen ∧ j.Asked.length ≤ maxLen
theorem desk_same (c : Config) (d : Desk) (hl : c.Labels.length ≤ maxLen) (hd : d.lens) : coord_Check c d = reredosref_DeskFault c d ∧ ∃ r, reredosref_DeskFault c d = some r := by
  obtain ⟨e, he, h0⟩ := fault_total c
  simp only [coord_Check, reredosref_DeskFault, label_same, he, withK, In_eq, Option.bind_some]
  by_cases he0 : e = 0
  case neg => rw [show (e != 0) = true from by simpa using he0]; exact ⟨rfl, _, rfl⟩
  rw [show (e != 0) = false from by simpa using he0]
  simp only [Bool.false_eq_true, if_false]
  obtain ⟨hs, _⟩ := h0 he0
  by_cases hn : 1 ≤ d.Next ∧ d.Next ≤ 1048577
  case neg =>
    simp only [decide_eq_false hn, Bool.not_true, Bool.not_false, Bool.false_eq_true, if_true, if_false, ↓reduceIte]
    refine ⟨?_, _, rfl⟩
    by_cases b : d.Next < 1
    · simp only [decide_eq_true b, Bool.not_true, Bool.not_false, Bool.false_eq_true, if_true, if_false, ↓reduceIte]
    · have b2 : d.Next > 1048577 := by omega
      simp only [decide_eq_false b, decide_eq_true b2, Bool.not_true, Bool.not_false, Bool.false_eq_true, if_true, if_false, ↓reduceIte]
  have c1 : ¬ d.Next < 1 := by omega
  have c2 : ¬ d.Next > 1048577 := by omega
  simp only [decide_eq_true hn, decide_eq_false c1, decide_eq_false c2, Bool.not_true, Bool.not_false, Bool.false_eq_true, if_true, if_false, ↓reduceIte]
  by_cases a4 : (d.Jobs.length : Int) > 6
  · simp only [decide_eq_true a4, Bool.not_true, Bool.not_false, Bool.false_eq_true, if_true, if_false, ↓reduceIte]; exact ⟨trivial, _, rfl⟩
  simp only [decide_eq_false a4, Bool.not_true, Bool.not_false, Bool.false_eq_true, if_true, if_false, ↓reduceIte]
  have key : ∀ n i, d.Jobs.length < n + i → i ≤ d.Jobs.length → coord_Check_L1 c d (some 0) n i = reredosref_DeskFault_L1 c d (some 0) n i ∧ ∃ r, reredosref_DeskFault_L1 c d (some 0) n i = some r := by
    intro n
    induction n with
    | zero => intro i h1 h2; omega
    | succ n ih =>
      intro i h1 h2
      rw [coord_Check_L1, reredosref_DeskFault_L1]
      by_cases hi : i < d.Jobs.length
      · obtain ⟨ie, r, hr⟩ := ih (i + 1) (by omega) (by omega)
        obtain ⟨je, b, hb⟩ := job_same c d d.Jobs[i] hl hs hn (hd.2 _ (List.getElem_mem hi)).1 (hd.2 _ (List.getElem_mem hi)).2
        rw [if_pos (by simpa using hi), if_pos (by simpa using hi), bind_at hi, bind_at hi, je, hb, ie, hr]
        simp only [Option.bind_some]
        refine ⟨trivial, ?_⟩
        cases b
        · exact ⟨_, rfl⟩
        simp only [Bool.not_true, Bool.false_eq_true, if_false]
        by_cases h0 : 0 < i
        · have := hd.1
          rw [wrap_sub1 h0 (by omega), Int.toNat_natCast, bind_at (by omega : i - 1 < d.Jobs.length), if_pos (c := (0 : Int) ≤ ((i - 1 : Nat) : Int)) (by omega), if_pos (c := decide ((i : Int) > 0) = true) (by simp; omega)]
          split
          · exact ⟨_, rfl⟩
          · exact ⟨_, rfl⟩
        · rw [if_neg (c := decide ((i : Int) > 0) = true) (by simp; omega)]
          exact ⟨_, rfl⟩
      · rw [if_neg (by simpa using hi), if_neg (by simpa using hi)]; exact ⟨rfl, _, rfl⟩
  exact key _ _ (by omega) (by omega)

end Go.V.Dec
