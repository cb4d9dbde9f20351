/- Plain laws (CoordCall): no program, no memory; conditions as stated. -/
import Derived.Test.YtjklmaihcaelaaaG3
import Derived.Test.YtjklmaihcaelaaaQCoordCommit
set_option linter.unusedVariables false
set_option linter.unusedSimpArgs false
namespace Go.V.Dec
open Go Go.Proofs Classical
set_option maxRecDepth 100000
set_option maxHeartbeats 4000000
variable (G : Nat → Option (List D))
theorem above_dom (x y : Label) : label_Above x y = reredosref_Dominates x y := rfl
theorem dom_some (x y : Label) : ∃ b, reredosref_Dominates x y = some b := by
  simp only [reredosref_Dominates, withK]
  split <;> exact ⟨_, rfl⟩
/-- No such job. -/
theorem place_none (w : CoordWork) (n : Int) (h : ¬ ∃ j ∈ w.turn.Desk.Jobs, j.N = n) : coord_work_place w n = some (-1) ∧ reredosref_jobAt w.turn.Desk n = some (-1) := by
  have nx : ∀ i (hi : i < w.turn.Desk.Jobs.length), ¬ w.turn.Desk.Jobs[i].N = n := fun i hi e => h ⟨_, List.getElem_mem hi, e⟩
  constructor
  · simp only [coord_work_place, slices_IndexFunc_Job, withK]
    rw [true_loop (L := slices_IndexFunc_Job_L1 w.turn.Desk.Jobs (fun y1 => coord_work_place_1 y1 n) (some (-1))) (len := w.turn.Desk.Jobs.length) (k := some (-1)) (fun m i hi => by rw [slices_IndexFunc_Job_L1, if_neg (by simpa using hi)])
      (fun m i hi => by
        rw [slices_IndexFunc_Job_L1, if_pos (by simpa using hi), bind_at hi]
        simp only [coord_work_place_1, Option.bind_some]
        rw [if_neg (by simpa using nx i hi)]) _ 0 (by omega) (by omega)]
    rfl
  · simp only [reredosref_jobAt, withK]
    rw [true_loop (L := reredosref_jobAt_L1 w.turn.Desk n (some (-1))) (len := w.turn.Desk.Jobs.length) (k := some (-1)) (fun m i hi => by rw [reredosref_jobAt_L1, if_neg (by simpa using hi)])
      (fun m i hi => by
        rw [reredosref_jobAt_L1, if_pos (by simpa using hi), bind_at hi, if_neg (by simpa using nx i hi)]) _ 0 (by omega) (by omega)]
theorem ex_or (d : Desk) (n : Int) : (∃ j ∈ d.Jobs, j.N = n) ∨ ¬ ∃ j ∈ d.Jobs, j.N = n := Classical.em _
theorem refuse_same (c : Config) (l me : Int) (t : Turn) (x : Call) (hl : 0 ≤ l ∧ l < c.Labels.length) (hlm : c.Labels.length ≤ maxLen) (hk : 2 ≤ x.Kind ∧ x.Kind ≤ 5) (ok : ∀ j ∈ t.Desk.Jobs, JobOk c j) :
    (¬ (∃ j ∈ t.Desk.Jobs, j.N = x.N) ∧ coord_work_refuse ⟨c, l, me, t⟩ x = some 6 ∧ reredosref_callFault c l t.Desk x = some 6) ∨
    ∃ (v : Nat) (j : Job) (e : Int), t.Desk.Jobs[v]? = some j ∧ j.N = x.N ∧ coord_work_place ⟨c, l, me, t⟩ x.N = some (v : Int) ∧ reredosref_jobAt t.Desk x.N = some (v : Int) ∧ coord_work_refuse ⟨c, l, me, t⟩ x = some e ∧ reredosref_callFault c l t.Desk x = some e ∧ (e = 0 → j.Asks ≤ 1048576) := by
  rcases ex_or t.Desk x.N with hx | hx
  · right
    obtain ⟨v, j, hj, hn, g1, g2⟩ := place_at ⟨c, l, me, t⟩ x.N hx
    have hjj : t.Desk.Jobs[v]? = some j := hj
    have okj := ok j (List.mem_of_getElem? hjj)
    have key : ∃ e, coord_work_refuse ⟨c, l, me, t⟩ x = some e ∧ reredosref_callFault c l t.Desk x = some e := by
      simp only [coord_work_refuse, reredosref_callFault, g1, g2, Option.bind_some, withK, In_eq, labelMay_eq c _ hlm, above_dom]
      have hv0 : ¬ decide (((v : Nat) : Int) < 0) = true := by simp
      have hv1 : (0 : Int) ≤ ((v : Nat) : Int) := by omega
      rw [if_neg hv0, if_neg hv0, if_pos hv1, if_pos hv1, Int.toNat_natCast, hjj, Option.bind_some, Option.bind_some]
      by_cases hs : (j.State != 1) = true
      · rw [if_pos hs, if_pos hs]; exact ⟨_, rfl, rfl⟩
      rw [if_neg hs, if_neg hs]
      have hn := okj.tasks
      have hasks := okj.asks
      by_cases h0 : 0 < j.Tasks.length
      · have e1 : ((j.Tasks.length : Nat) : Int) - 1 = ((j.Tasks.length - 1 : Nat) : Int) := by omega
        have p1 : decide (((j.Tasks.length : Nat) : Int) > 0) = true := decide_eq_true (by omega)
        have p2 : (0 : Int) ≤ ((j.Tasks.length - 1 : Nat) : Int) := by omega
        rw [if_pos p1, if_pos p1, wrap_in (by omega) (by omega), e1, if_pos p2, if_pos p2, Int.toNat_natCast, bind_at (by omega : j.Tasks.length - 1 < j.Tasks.length), bind_at (by omega : j.Tasks.length - 1 < j.Tasks.length)]
        cases hd : j.Tasks[j.Tasks.length - 1].Done with
        | true =>
          simp only [Bool.not_true, Bool.false_eq_true, if_false]
          have f1 : (((j.Tasks.length : Nat) : Int) == 10) = decide (((j.Tasks.length : Nat) : Int) ≥ 10) := by
            by_cases h : j.Tasks.length = 10
            · simp [h]
            · have a : ¬ ((j.Tasks.length : Nat) : Int) = 10 := by omega
              have b : ¬ ((j.Tasks.length : Nat) : Int) ≥ 10 := by omega
              rw [decide_eq_false b]; simpa using a
          have f2 : (j.Asks == 1048576) = decide (j.Asks ≥ 1048576) := by
            by_cases h : j.Asks = 1048576
            · simp [h]
            · have b : ¬ j.Asks ≥ 1048576 := by omega
              rw [decide_eq_false b]; simpa using h
          rw [f1, f2]
          generalize hE : (if (decide (((j.Tasks.length : Nat) : Int) ≥ 10)) = true then (some 8) else (if (decide (j.Asks ≥ 1048576)) = true then (some 8) else (some 0)) : Option Int) = E
          have hEs : ∃ e, E = some e := by
            rw [← hE]; split
            · exact ⟨_, rfl⟩
            · split <;> exact ⟨_, rfl⟩
          obtain ⟨e0, hEs⟩ := hEs
          have hkk : x.Kind = 2 ∨ x.Kind = 3 ∨ x.Kind = 4 ∨ x.Kind = 5 := by omega
          by_cases k1 : 0 ≤ x.Key ∧ x.Key ≤ 7
          case neg =>
            by_cases q : x.Key < 0
            · rcases hkk with h | h | h | h <;> simp [h, k1, q]
            · have q2 : x.Key ≥ 8 := by omega
              rcases hkk with h | h | h | h <;> simp [h, k1, q2]
          have k2 : ¬ x.Key < 0 := by omega
          have k3 : ¬ x.Key ≥ 8 := by omega
          by_cases v1 : 0 ≤ x.Value ∧ x.Value ≤ 1073741824
          case neg =>
            by_cases q : x.Value < 0
            · rcases hkk with h | h | h | h <;> simp [h, k1, k2, k3, v1, q]
            · have q2 : x.Value > 1073741824 := by omega
              rcases hkk with h | h | h | h <;> simp [h, k1, k2, k3, v1, q2]
          have v2 : ¬ x.Value < 0 := by omega
          have v3 : ¬ x.Value > 1073741824 := by omega
          rcases hkk with h | h | h | h
          · by_cases b1 : 0 ≤ x.Label ∧ x.Label < c.Labels.length
            · have b2 : ¬ x.Label < 0 := by omega
              have b3 : ¬ x.Label ≥ c.Labels.length := by omega
              have i1 : l.toNat < c.Labels.length := by omega
              have i2 : x.Label.toNat < c.Labels.length := by omega
              obtain ⟨db, hdb⟩ := dom_some c.Labels[l.toNat] c.Labels[x.Label.toNat]
              simp only [bind_at i1, bind_at i2, hdb]
              simp only [Option.bind_some]
              cases db <;> simp [h, k1, k2, k3, v1, v2, v3, b1, b2, b3, hl, hEs]
            · by_cases q : x.Label < 0
              · simp [h, k1, k2, k3, v1, v2, v3, b1, q]
              · have q2 : x.Label ≥ c.Labels.length := by omega
                simp [h, k1, k2, k3, v1, v2, v3, b1, q2]
          · simp [h, k1, k2, k3, v1, v2, v3, hEs]
          · simp [h]
          · simp [h]
        | false => exact ⟨14, by simp, by simp⟩
      · have p1 : ¬ decide (((j.Tasks.length : Nat) : Int) > 0) = true := by intro hc; have := of_decide_eq_true hc; omega
        rw [if_neg p1, if_neg p1]
        have f1 : (((j.Tasks.length : Nat) : Int) == 10) = decide (((j.Tasks.length : Nat) : Int) ≥ 10) := by
          by_cases h : j.Tasks.length = 10
          · simp [h]
          · have a : ¬ ((j.Tasks.length : Nat) : Int) = 10 := by omega
            have b : ¬ ((j.Tasks.length : Nat) : Int) ≥ 10 := by omega
            rw [decide_eq_false b]; simpa using a
        have f2 : (j.Asks == 1048576) = decide (j.Asks ≥ 1048576) := by
          by_cases h : j.Asks = 1048576
          · simp [h]
          · have b : ¬ j.Asks ≥ 1048576 := by omega
            rw [decide_eq_false b]; simpa using h
        rw [f1, f2]
        generalize hE : (if (decide (((j.Tasks.length : Nat) : Int) ≥ 10)) = true then (some 8) else (if (decide (j.Asks ≥ 1048576)) = true then (some 8) else (some 0)) : Option Int) = E
        have hEs : ∃ e, E = some e := by
          rw [← hE]; split
          · exact ⟨_, rfl⟩
          · split <;> exact ⟨_, rfl⟩
        obtain ⟨e0, hEs⟩ := hEs
        have hkk : x.Kind = 2 ∨ x.Kind = 3 ∨ x.Kind = 4 ∨ x.Kind = 5 := by omega
        by_cases k1 : 0 ≤ x.Key ∧ x.Key ≤ 7
        case neg =>
          by_cases q : x.Key < 0
          · rcases hkk with h | h | h | h <;> simp [h, k1, q]
          · have q2 : x.Key ≥ 8 := by omega
            rcases hkk with h | h | h | h <;> simp [h, k1, q2]
        have k2 : ¬ x.Key < 0 := by omega
        have k3 : ¬ x.Key ≥ 8 := by omega
        by_cases v1 : 0 ≤ x.Value ∧ x.Value ≤ 1073741824
        case neg =>
          by_cases q : x.Value < 0
          · rcases hkk with h | h | h | h <;> simp [h, k1, k2, k3, v1, q]
          · have q2 : x.Value > 1073741824 := by omega
            rcases hkk with h | h | h | h <;> simp [h, k1, k2, k3, v1, q2]
        have v2 : ¬ x.Value < 0 := by omega
        have v3 : ¬ x.Value > 1073741824 := by omega
        rcases hkk with h | h | h | h
        · by_cases b1 : 0 ≤ x.Label ∧ x.Label < c.Labels.length
          · have b2 : ¬ x.Label < 0 := by omega
            have b3 : ¬ x.Label ≥ c.Labels.length := by omega
            have i1 : l.toNat < c.Labels.length := by omega
            have i2 : x.Label.toNat < c.Labels.length := by omega
            obtain ⟨db, hdb⟩ := dom_some c.Labels[l.toNat] c.Labels[x.Label.toNat]
            simp only [bind_at i1, bind_at i2, hdb]
            simp only [Option.bind_some]
            cases db <;> simp [h, k1, k2, k3, v1, v2, v3, b1, b2, b3, hl, hEs]
          · by_cases q : x.Label < 0
            · simp [h, k1, k2, k3, v1, v2, v3, b1, q]
            · have q2 : x.Label ≥ c.Labels.length := by omega
              simp [h, k1, k2, k3, v1, v2, v3, b1, q2]
        · simp [h, k1, k2, k3, v1, v2, v3, hEs]
        · simp [h]
        · simp [h]
    obtain ⟨e, k1, k2⟩ := key
    exact ⟨v, j, e, hjj, hn, g1, g2, k1, k2, fun _ => okj.asks.2⟩
  · left
    obtain ⟨g1, g2⟩ := place_none ⟨c, l, me, t⟩ x.N hx
    refine ⟨hx, ?_, ?_⟩
    · simp [coord_work_refuse, g1]
    · simp only at g2
      simp [reredosref_callFault, g2]
/-- What is to be read again. -/
def readsL (ts : List Task) : List Task := ts.filter fun t => !t.Write && !t.Sure
def againM (S me n : Int) (t : Task) : Message := Message.mk 3 me (t.Key.tmod S) (Txn.mk me n) t.Label t.Key 0 t.Version 0 false 0
theorem readsL_cons (t : Task) (ts : List Task) : readsL (t :: ts) = if t.Write = true then readsL ts else if t.Sure = true then readsL ts else t :: readsL ts := by
  unfold readsL
  cases hw : t.Write <;> cases hs : t.Sure <;> simp [hw, hs]
theorem readsL_len (ts : List Task) : (readsL ts).length ≤ ts.length := List.length_filter_le _ _
theorem again_loop (w : CoordWork) (j : Job) (hS : w.c.Sites ≠ 0) (k : Bool → List Message → Option CoordWork) : ∀ n b i acc, j.Tasks.length < n + i → i ≤ j.Tasks.length → acc.length + (j.Tasks.length - i) ≤ 1000 →
    coord_work_committing_L1 w j k n b i acc = k (b || !(readsL (j.Tasks.drop i)).isEmpty) (acc ++ (readsL (j.Tasks.drop i)).map (againM w.c.Sites w.me j.N)) := by
  intro n
  induction n with
  | zero => intro b i acc h1 h2 h3; omega
  | succ n ih =>
    intro b i acc h1 h2 h3
    rw [coord_work_committing_L1]
    by_cases hi : i < j.Tasks.length
    · have ed : j.Tasks.drop i = j.Tasks[i] :: j.Tasks.drop (i + 1) := (List.getElem_cons_drop hi).symm
      rw [if_pos (by simpa using hi), bind_at hi, ed, readsL_cons]
      by_cases hw : j.Tasks[i].Write = true
      · rw [if_pos hw, if_pos hw, ih _ _ _ (by omega) (by omega) (by omega)]
      · rw [if_neg hw, if_neg hw]
        by_cases hs : j.Tasks[i].Sure = true
        · rw [if_pos hs, if_pos hs, ih _ _ _ (by omega) (by omega) (by omega)]
        · rw [if_neg hs, if_neg hs, if_neg hS, if_pos (fits96 (by omega)), ih _ _ _ (by omega) (by omega) (by simp; omega)]
          simp [againM]
    · rw [if_neg (by simpa using hi), List.drop_of_length_le (by omega)]
      simp [readsL]
theorem called_loop (c : Config) (me : Int) (x : Call) (j : Job) (hS : c.Sites ≠ 0) (hn : j.N = x.N) (k : Int → List Message → Option (Turn × Int)) : ∀ n (b : Nat) i acc, j.Tasks.length < n + i → i ≤ j.Tasks.length → acc.length + (j.Tasks.length - i) ≤ 1000 → b + (j.Tasks.length - i) ≤ 1000 →
    reredosref_CalledOf_L1 c me x j k n (b : Int) i acc = k (((b + (readsL (j.Tasks.drop i)).length : Nat) : Int)) (acc ++ (readsL (j.Tasks.drop i)).map (againM c.Sites me j.N)) := by
  intro n
  induction n with
  | zero => intro b i acc h1 h2 h3 _; omega
  | succ n ih =>
    intro b i acc h1 h2 h3 h4
    rw [reredosref_CalledOf_L1]
    by_cases hi : i < j.Tasks.length
    · have ed : j.Tasks.drop i = j.Tasks[i] :: j.Tasks.drop (i + 1) := (List.getElem_cons_drop hi).symm
      rw [if_pos (by simpa using hi), bind_at hi, ed, readsL_cons]
      simp only [withK]
      by_cases hw : j.Tasks[i].Write = true
      · rw [if_pos hw, if_pos hw, ih _ _ _ (by omega) (by omega) (by omega) (by omega)]
      · rw [if_neg hw, if_neg hw]
        by_cases hs : j.Tasks[i].Sure = true
        · rw [if_pos hs, if_pos hs, ih _ _ _ (by omega) (by omega) (by omega) (by omega)]
        · rw [if_neg hs, if_neg hs, if_neg hS]
          simp only [reredosref_about, Option.bind_some]
          rw [if_pos (fits96 (by omega)), wrap_in (by omega) (by omega)]
          have e : ((b : Int) + 1) = ((b + 1 : Nat) : Int) := by omega
          rw [e, ih _ _ _ (by omega) (by omega) (by simp; omega) (by omega)]
          congr 1
          · simp; omega
          · simp [againM, hn]
    · rw [if_neg (by simpa using hi), List.drop_of_length_le (by omega)]
      simp [readsL]
theorem fits56 {n : Nat} (h : n ≤ 1000) : fits 56 n := ⟨by omega, by unfold maxLen; omega⟩
/-- A turn behind a client's call for a commit. -/
def committingT (S l me : Int) (t : Turn) (j : Job) (a : Nat) : Turn :=
  if (readsL j.Tasks).isEmpty = true then commitT S l me ⟨t.Desk, t.Messages, t.Records, t.Replies, j.N, t.Committed⟩ j a
  else ⟨⟨t.Desk.Next, t.Desk.Jobs.set a ⟨j.N, 2, j.Tasks, j.Asked, j.Asks, 0⟩⟩, t.Messages ++ (readsL j.Tasks).map (againM S me j.N), t.Records, t.Replies, j.N, t.Committed⟩
theorem committing_eq (w : CoordWork) (a : Nat) (j : Job) (hj : w.turn.Desk.Jobs[a]? = some j) (hS : 1 ≤ w.c.Sites ∧ w.c.Sites ≤ 4) (ok : JobOk w.c j) (hm : w.turn.Messages.length ≤ 800) (hr : w.turn.Replies.length ≤ 800) (hc : w.turn.Records.length ≤ 800) (hl : w.turn.Desk.Jobs.length ≤ 100) :
    coord_work_committing w (a : Int) = some ⟨w.c, w.l, w.me, committingT w.c.Sites w.l w.me w.turn j a⟩ := by
  have hn := ok.tasks
  rw [coord_work_committing, if_pos (by omega), Int.toNat_natCast, hj, Option.bind_some]
  simp only [withK]
  rw [again_loop w j (by omega) _ _ _ _ _ (by omega) (by omega) (by omega), List.drop_zero, Bool.false_or]
  unfold committingT
  cases he : (readsL j.Tasks).isEmpty with
  | false => simp
  | true =>
    have e0 : readsL j.Tasks = [] := List.isEmpty_iff.1 he
    simp only [Bool.not_true, Bool.false_eq_true, if_false, if_true, e0, List.map_nil, List.append_nil]
    rw [set_self hj, commit_eq ⟨w.c, w.l, w.me, ⟨⟨w.turn.Desk.Next, w.turn.Desk.Jobs⟩, w.turn.Messages, w.turn.Records, w.turn.Replies, j.N, w.turn.Committed⟩⟩ a j hj hS (fun t ht => (ok.key t ht).1) (by simp; omega) (by simp; omega) (by simp; omega) (by simpa using hl), Option.bind_some]
theorem call_kind1 (c : Config) (l me : Int) (d : Desk) (D : DeskOk c d) (room : Int) (hf : d.fit) : ∃ T, coord_work_begun ⟨c, l, me, ⟨d, [], [], [], 0, 0⟩⟩ room = some ⟨c, l, me, T⟩ ∧
    (if (decide (((d.Jobs.length : Nat) : Int) ≥ 6)) = true then some ((Turn.mk d [] [] [(Reply.mk me 1 0 0 0 8)] 0 0), (0 : Int)) else (if (decide (d.Next > 1048576)) = true then some ((Turn.mk d [] [] [(Reply.mk me 1 0 0 0 8)] 0 0), 0) else (if (decide (room < 600)) = true then some ((Turn.mk d [] [] [(Reply.mk me 1 0 0 0 8)] 0 0), 0) else some ((Turn.mk (Desk.mk (IntKind.i64.wrap (d.Next + 1)) (d.Jobs ++ [(Job.mk d.Next 1 [] [] 0 0)])) [] [(Record.mk 5 (Txn.mk me d.Next) 0 0 0 false [])] [(Reply.mk me 1 d.Next 0 0 0)] 0 0), 0)))) = some (T, 0) := by
  have hlen := D.len
  have f48 : fits 48 (0 + 1) := fits48 (by omega)
  have f80 : fits 80 (0 + 1) := fits80 (by omega)
  have fj : fits 80 (d.Jobs.length + 1) := fits80 (by omega)
  simp only [coord_work_begun, withK, List.length_nil, if_pos f48, if_pos f80, if_pos fj, List.nil_append]
  by_cases h6 : d.Jobs.length = 6
  · have a : (((d.Jobs.length : Nat) : Int) == 6) = true := by simp [h6]
    have b : decide (((d.Jobs.length : Nat) : Int) ≥ 6) = true := decide_eq_true (by omega)
    rw [if_pos a, if_pos b]; exact ⟨_, rfl, rfl⟩
  · have a : ¬ (((d.Jobs.length : Nat) : Int) == 6) = true := by simp; omega
    have b : ¬ decide (((d.Jobs.length : Nat) : Int) ≥ 6) = true := by intro hc; have := of_decide_eq_true hc; omega
    rw [if_neg a, if_neg b]
    split
    · exact ⟨_, rfl, rfl⟩
    · split
      · exact ⟨_, rfl, rfl⟩
      · exact ⟨_, rfl, rfl⟩
theorem CoordCalls_run (c : Config) (l me : Int) (d : Desk) (room : Int) (x : Call) (hl : c.Labels.length ≤ maxLen) (hd : d.lens) (hf : d.fit) : reredoslaw_CoordCalls c l me d room x = some true := by
  obtain ⟨e, e1, e2, e3⟩ := deskFault_eq c l me d hl hd
  have key : ∃ r, coord_Call c l me d room x = some r ∧ reredosref_CalledOf c l me d room x = some r := by
    simp only [coord_Call, reredosref_CalledOf, e1, e3, Option.bind_some, withK, In_eq]
    by_cases he : e = 0
    case neg => simp [he]
    subst he
    have D := desk_ok c d hl hd e2
    by_cases a : 0 ≤ l ∧ l < c.Labels.length
    case neg =>
      by_cases a1 : l < 0
      · simp [a, a1]
      · have a2 : l ≥ c.Labels.length := by omega
        simp [a, a2]
    by_cases b : 0 ≤ me ∧ me < c.Sites
    case neg =>
      have a1 : ¬ l < 0 := by omega
      have a2 : ¬ l ≥ c.Labels.length := by omega
      by_cases b1 : me < 0
      · simp [a, a1, a2, b, b1]
      · have b2 : me ≥ c.Sites := by omega
        simp [a, a1, a2, b, b1, b2]
    have a1 : ¬ l < 0 := by omega
    have a2 : ¬ l ≥ c.Labels.length := by omega
    have b1 : ¬ me < 0 := by omega
    have b2 : ¬ me ≥ c.Sites := by omega
    by_cases hk : 1 ≤ x.Kind ∧ x.Kind ≤ 5
    case neg =>
      by_cases q : x.Kind < 1
      · simp [a, a1, a2, b, b1, b2, hk, q, own_eq d hf]
      · have q2 : x.Kind > 5 := by omega
        simp [a, a1, a2, b, b1, b2, hk, q2, own_eq d hf]
    have k1 : ¬ x.Kind < 1 := by omega
    have k2 : ¬ x.Kind > 5 := by omega
    have hE : (if (0 : Int) ≠ 0 then (0 : Int) else if ¬ (0 ≤ l ∧ l < c.Labels.length) then 6 else if ¬ (0 ≤ me ∧ me < c.Sites) then 2 else 0) = 0 := by simp [a, b]
    rw [hE, own_eq d hf, DeskCopy_eq d hf]
    simp only [Option.bind_some, decide_eq_true hk, decide_eq_false a1, decide_eq_false a2, decide_eq_false b1, decide_eq_false b2, decide_eq_false k1, decide_eq_false k2, Bool.not_true, Bool.false_eq_true, if_false, bne_self_eq_false, beq_self_eq_true, if_true]
    by_cases h1 : x.Kind = 1
    · obtain ⟨T, g1, g2⟩ := call_kind1 c l me d D room hf
      have hlen := D.len
      rw [h1, g1]
      simp only [beq_self_eq_true, if_true, Option.bind_some, if_pos (fits80 (show d.Jobs.length + 1 ≤ 1000 by omega))]
      exact ⟨_, rfl, g2⟩
    have h1' : (x.Kind == 1) = false := by simpa using h1
    simp only [h1', Bool.false_eq_true, if_false]
    rcases refuse_same c l me ⟨d, [], [], [], 0, 0⟩ x a hl (by omega) (fun j hj => (D.job j hj).1) with ⟨_, r1, r2⟩ | ⟨v, j, e, hj, hn, g1, g2, r1, r2, ha⟩
    · simp only at r2
      rw [r1, r2]; exact ⟨_, rfl, rfl⟩
    · simp only at hj g2 r2
      rw [r1, r2]
      simp only [Option.bind_some]
      by_cases h0 : e = 0
      case neg => rw [if_pos (by simpa using h0), if_pos (by simpa using h0)]; exact ⟨_, rfl, rfl⟩
      subst h0
      have hjm := List.mem_of_getElem? hj
      have okj := (D.job j hjm).1
      have hlen := D.len
      have hS := D.sites
      have hS0 : c.Sites ≠ 0 := by omega
      have hv0 : (0 : Int) ≤ ((v : Nat) : Int) := by omega
      have htl := okj.tasks
      have f56 : fits 56 (j.Tasks.length + 1) := fits56 (by omega)
      have f96 : fits 96 (0 + 1) := fits96 (by omega)
      simp only [bne_self_eq_false, Bool.false_eq_true, if_false, g1, g2, Option.bind_some, if_pos hv0, Int.toNat_natCast, hj]
      by_cases q2 : x.Kind = 2
      · simp [q2, coord_work_task, withK, hj, f56, f96, hS0, reredosref_about, hn]
      have q2' : (x.Kind == 2) = false := by simpa using q2
      by_cases q3 : x.Kind = 3
      · simp [q3, coord_work_task, withK, hj, f56, f96, hS0, reredosref_about, hn]
      have q3' : (x.Kind == 3) = false := by simpa using q3
      by_cases q4 : x.Kind = 4
      · have q4' : (x.Kind == 4) = true := by simpa using q4
        simp only [q2', q3', q4', Bool.false_eq_true, if_false, if_true]
        have hc := committing_eq ⟨c, l, me, ⟨d, [], [], [], 0, 0⟩⟩ v j hj hS okj (by simp) (by simp) (by simp) (by simp; omega)
        rw [hc, Option.bind_some]
        have hloop := fun k => called_loop c me x j hS0 hn k (j.Tasks.length + 1) 0 0 [] (by omega) (by omega) (by simp; omega) (by omega)
        simp only [Int.natCast_zero, List.drop_zero, Nat.zero_add, List.nil_append] at hloop
        erw [hloop]
        unfold committingT
        cases hr : (readsL j.Tasks).isEmpty with
        | true =>
          have e0 : readsL j.Tasks = [] := List.isEmpty_iff.1 hr
          simp only [e0, List.length_nil, List.map_nil, if_true]
          have hset : d.Jobs.set v (Job.mk j.N j.State j.Tasks j.Asked j.Asks j.Age) = d.Jobs := set_self hj
          have hcm := committed_eq c l me ⟨d, [], [], [], j.N, 0⟩ v j hj hS (by simp) (by simp) (by simp) (by simp; omega)
          have e5 : (decide (((0 : Nat) : Int) > 0)) = false := rfl
          have e6 : (((0 : Nat) : Int) == 0) = true := rfl
          rw [e5, e6]
          simp only [Bool.false_eq_true, if_false, if_true, hset]
          rw [← hn]
          erw [hcm]
          exact ⟨_, rfl, rfl⟩
        | false =>
          have hpos : 0 < (readsL j.Tasks).length := by
            cases hq : readsL j.Tasks with
            | nil => rw [hq] at hr; cases hr
            | cons _ _ => simp
          have e5 : (decide (((readsL j.Tasks).length : Int) > 0)) = true := decide_eq_true (by omega)
          have e6 : (((readsL j.Tasks).length : Int) == 0) = false := beq_eq_false_iff_ne.2 (by omega)
          simp only [e5, e6, if_true, Bool.false_eq_true, if_false, List.nil_append, hn]
          exact ⟨_, rfl, rfl⟩
      · have q4' : (x.Kind == 4) = false := by simpa using q4
        simp only [q2', q3', q4', Bool.false_eq_true, if_false]
        have hen := end_eq ⟨c, l, me, ⟨d, [], [], [], 0, 0⟩⟩ v j hj hS (fun t ht => (okj.key t ht).1) (by simp) (by simp; omega)
        have hed := ended_eq c l me ⟨d, [], [], [], 0, 0⟩ v j hj hS (by simp) (by simp; omega)
        have hset : d.Jobs.set v j = d.Jobs := set_self hj
        have f48 : fits 48 (0 + 1) := fits48 (by omega)
        rw [hen, hset]
        erw [hed]
        simp only [Option.bind_some, endT, List.length_nil, if_pos f48]
        exact ⟨_, rfl, rfl⟩
  obtain ⟨r, r1, r2⟩ := key
  simp only [reredoslaw_CoordCalls, DeskCopy_eq d hf, Option.bind_some, r1, r2, withK, sameTurnR, sameDeskR]
  simp

end Go.V.Dec
