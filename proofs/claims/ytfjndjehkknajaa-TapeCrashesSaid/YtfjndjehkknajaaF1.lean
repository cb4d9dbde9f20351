/- What Go's functions come to, as plain functions: part 1; no condition. -/
import Derived.Test.YtfjndjehkknajaaRows
import Derived.Test.YtfjndjehkknajaaVC
set_option linter.unusedVariables false
set_option linter.unusedSimpArgs false
namespace Go.V.Dec
open Go Go.Proofs
set_option maxRecDepth 100000
structure Tape where
  Data : List Int
  Synced : Int
  deriving Inhabited
def Tape.enc (x : Tape) : List D := [.l 1 (x.Data.map encU8), .i .i64 x.Synced]
def Tape.encO (x : Tape) : List D := [.o 1 (x.Data.map encU8), .i .i64 x.Synced]
attribute [go_sem] encI Tape.enc Tape.encO
theorem low52 : lowF Try.prog 52 = some (cloneV 1 1 [(.d (.i .u8 0))]) := by kernel_rfl
theorem fok52 : fOk Try.prog 52 = true := by kernel_rfl
theorem clone52_ok (G : Nat → Option (List D)) (p0 r : List Int) (h : cloneF 1 p0 = some r) : FnRO Try.prog G 52 [.one (.d (.l 1 (p0.map encU8)))] (fun rs => rs = [.one (.o 1 (r.map encU8))]) := clone_ok low52 fok52 G encU8 p0 r h
def tape_open (p0 : Tape) : Option (Tape × Bool) := (if (decide (p0.Synced < 0)) = true then (some ((Tape.mk [] 0), false)) else (if (decide (p0.Synced > ((p0.Data.length : Nat) : Int))) = true then (some ((Tape.mk [] 0), false)) else (if (decide (((p0.Data.length : Nat) : Int) > 6000)) = true then (some ((Tape.mk [] 0), false)) else (Option.bind (cloneF 1 p0.Data) fun v6 => (some ((Tape.mk v6 p0.Synced), true))))))
def F41 : VFn := ⟨28, (.seq (.reg [⟨(some 1), .box 2 (.t 0), none⟩, ⟨(some 2), .alloc [(.nl 1), (.d (.i .i64 0))], none⟩, ⟨(some 3), .mv (.c (.one (.d (.b false)))), none⟩]) (.seq (.seq (.reg [⟨(some 4), .fa 1 (.t 1), none⟩, ⟨(some 5), .ld false 1 (.t 4), none⟩, ⟨(some 6), .bin .i .lss (.t 5) (.c (.one (.d (.i .i64 0)))), none⟩, ⟨(some 7), .mv (.t 6), none⟩, ⟨(some 8), .fa 1 (.t 1), (some (7, false))⟩, ⟨(some 9), .ld false 1 (.t 8), (some (7, false))⟩, ⟨(some 10), .fa 0 (.t 1), (some (7, false))⟩, ⟨(some 11), .ld false 1 (.t 10), (some (7, false))⟩, ⟨(some 12), .len (.t 11), (some (7, false))⟩, ⟨(some 13), .bin .i .gtr (.t 9) (.t 12), (some (7, false))⟩, ⟨(some 14), .pick (.t 7) (.c (.one (.d (.b true)))) (.t 13), none⟩, ⟨(some 15), .mv (.t 14), none⟩, ⟨(some 16), .fa 0 (.t 1), (some (15, false))⟩, ⟨(some 17), .ld false 1 (.t 16), (some (15, false))⟩, ⟨(some 18), .len (.t 17), (some (15, false))⟩, ⟨(some 19), .bin .i .gtr (.t 18) (.c (.one (.d (.i .i64 6000)))), (some (15, false))⟩, ⟨(some 20), .pick (.t 15) (.c (.one (.d (.b true)))) (.t 19), none⟩]) (.cond (.t 20) (.seq (.reg [⟨(some 21), .build [(.nl 1), (.d (.i .i64 0))] [], none⟩, ⟨none, .st 2 (.t 2) (.t 21), none⟩, ⟨(some 3), .mv (.c (.one (.d (.b false)))), none⟩]) .ret) .skip)) (.seq (.draw [⟨⟨(some 22), .fa 0 (.t 1), none⟩, [], []⟩, ⟨⟨(some 23), .ld false 1 (.t 22), none⟩, [0], []⟩, ⟨⟨(some 24), .call 52 [(.t 23)], none⟩, [1, 0], []⟩, ⟨⟨(some 25), .fa 1 (.t 1), none⟩, [], [2]⟩, ⟨⟨(some 26), .ld false 1 (.t 25), none⟩, [3], [2]⟩, ⟨⟨(some 27), .build [(.nl 1), (.d (.i .i64 0))] [(0, 1, (.t 24)), (1, 1, (.t 26))], none⟩, [2, 1, 0, 4, 3], []⟩, ⟨⟨none, .st 2 (.t 2) (.t 27), none⟩, [5, 2, 1, 0, 4, 3], []⟩, ⟨⟨(some 3), .mv (.c (.one (.d (.b true)))), none⟩, [6, 5, 2, 1, 0, 4, 3], []⟩]) .ret))), [.cell 2 true 2, .t 3]⟩
theorem low41 : lowF Try.prog 41 = some F41.strip := by kernel_rfl
theorem fok41 : fOk Try.prog 41 = true := by kernel_rfl
theorem tape_open_ok (G : Nat → Option (List D)) (p0 : Tape) (r : Tape × Bool) (h : tape_open p0 = some r) : FnRO Try.prog G 41 [.agg [.d (.l 1 (p0.Data.map encU8)), .d (.i .i64 p0.Synced)]] (fun rs => rs = [.agg (r.1.encO), .one (.b r.2)]) := by
  refine FnRO.of' low41 fok41 (by simp [F41]) ?_
  rw [tape_open] at h
  simp only [F41, go_sem, Nat.reduceAdd, Nat.reduceEqDiff, Nat.reduceLeDiff, Nat.reduceSub, reduceCtorEq, ↓reduceIte, Nat.reduceBEq, Int.reduceLT, Int.reduceLE, Int.reduceEq, Int.reduceBEq, Int.reduceBNe, Nat.reduceLT, Nat.reduceMul]
  rcases of_if h with ⟨hb1, h⟩ | ⟨hb1, h⟩
  · have hkhb1 := of_decide_eq_true hb1
    simp only [Option.some.injEq] at h
    subst h
    try simp only [hb1, hkhb1, go_sem, Nat.reduceAdd, Nat.reduceEqDiff, Nat.reduceLeDiff, Nat.reduceSub, reduceCtorEq, ↓reduceIte, Nat.reduceBEq, Int.reduceLT, Int.reduceLE, Int.reduceEq, Int.reduceBEq, Int.reduceBNe, Nat.reduceLT, Nat.reduceMul, List.map_append, List.map_cons, List.map_nil, List.map_set]
  · try simp only [hb1, go_sem, Nat.reduceAdd, Nat.reduceEqDiff, Nat.reduceLeDiff, Nat.reduceSub, reduceCtorEq, ↓reduceIte, Nat.reduceBEq, Int.reduceLT, Int.reduceLE, Int.reduceEq, Int.reduceBEq, Int.reduceBNe, Nat.reduceLT, Nat.reduceMul]
    intro hl2
    rcases of_if h with ⟨hb3, h⟩ | ⟨hb3, h⟩
    · simp only [Option.some.injEq] at h
      subst h
      try simp only [hb1, hb3, go_sem, Nat.reduceAdd, Nat.reduceEqDiff, Nat.reduceLeDiff, Nat.reduceSub, reduceCtorEq, ↓reduceIte, Nat.reduceBEq, Int.reduceLT, Int.reduceLE, Int.reduceEq, Int.reduceBEq, Int.reduceBNe, Nat.reduceLT, Nat.reduceMul, List.map_append, List.map_cons, List.map_nil, List.map_set]
    · try simp only [hb1, hb3, go_sem, Nat.reduceAdd, Nat.reduceEqDiff, Nat.reduceLeDiff, Nat.reduceSub, reduceCtorEq, ↓reduceIte, Nat.reduceBEq, Int.reduceLT, Int.reduceLE, Int.reduceEq, Int.reduceBEq, Int.reduceBNe, Nat.reduceLT, Nat.reduceMul]
      intro hl4
      rcases of_if h with ⟨hb5, h⟩ | ⟨hb5, h⟩
      · simp only [Option.some.injEq] at h
        subst h
        try simp only [hb1, hb3, hb5, go_sem, Nat.reduceAdd, Nat.reduceEqDiff, Nat.reduceLeDiff, Nat.reduceSub, reduceCtorEq, ↓reduceIte, Nat.reduceBEq, Int.reduceLT, Int.reduceLE, Int.reduceEq, Int.reduceBEq, Int.reduceBNe, Nat.reduceLT, Nat.reduceMul, List.map_append, List.map_cons, List.map_nil, List.map_set]
      · obtain ⟨v6, hv6, h⟩ := Option.bind_eq_some_iff.1 h
        try simp only [hb1, hb3, hb5, go_sem, Nat.reduceAdd, Nat.reduceEqDiff, Nat.reduceLeDiff, Nat.reduceSub, reduceCtorEq, ↓reduceIte, Nat.reduceBEq, Int.reduceLT, Int.reduceLE, Int.reduceEq, Int.reduceBEq, Int.reduceBNe, Nat.reduceLT, Nat.reduceMul]
        refine ⟨_, _, CallD.ro false (clone52_ok G p0.Data v6 hv6) rfl (.inl rfl) rfl, ?_⟩
        simp only [Option.some.injEq] at h
        subst h
        try simp only [hb1, hb3, hb5, go_sem, Nat.reduceAdd, Nat.reduceEqDiff, Nat.reduceLeDiff, Nat.reduceSub, reduceCtorEq, ↓reduceIte, Nat.reduceBEq, Int.reduceLT, Int.reduceLE, Int.reduceEq, Int.reduceBEq, Int.reduceBNe, Nat.reduceLT, Nat.reduceMul, List.map_append, List.map_cons, List.map_nil, List.map_set]
def tape_Room (p0 : Tape) : Option (Int × Int) := (Option.bind (tape_open p0) fun v1 => (if (!v1.2) = true then (some (0, 9)) else (some (IntKind.i64.wrap (6000 - ((p0.Data.length : Nat) : Int)), 0))))
def F21 : VFn := ⟨17, (.seq (.reg [⟨(some 1), .box 2 (.t 0), none⟩, ⟨(some 2), .mv (.c (.one (.d (.i .i64 0)))), none⟩, ⟨(some 3), .mv (.c (.one (.d (.i .i64 0)))), none⟩]) (.seq (.seq (.reg [⟨(some 7), .ld true 2 (.t 1), none⟩, ⟨(some 8), .call 41 [(.t 7)], none⟩, ⟨(some 6), .mv (.t 8), none⟩, ⟨(some 9), .ext (.t 6) 0, none⟩, ⟨(some 10), .ext (.t 6) 1, none⟩, ⟨(some 4), .alloc [(.nl 1), (.d (.i .i64 0))], none⟩, ⟨none, .st 2 (.t 4) (.t 9), none⟩, ⟨(some 5), .mv (.t 10), none⟩]) (.seq (.reg [⟨(some 11), .mv (.t 5), none⟩, ⟨(some 12), .un .not (.t 11), none⟩]) (.cond (.t 12) (.seq (.reg [⟨(some 2), .mv (.c (.one (.d (.i .i64 0)))), none⟩, ⟨(some 3), .mv (.c (.one (.d (.i .i64 9)))), none⟩]) .ret) .skip))) (.seq (.reg [⟨(some 13), .fa 0 (.t 1), none⟩, ⟨(some 14), .ld false 1 (.t 13), none⟩, ⟨(some 15), .len (.t 14), none⟩, ⟨(some 16), .bin .i .sub (.c (.one (.d (.i .i64 6000)))) (.t 15), none⟩, ⟨(some 2), .mv (.t 16), none⟩, ⟨(some 3), .mv (.c (.one (.d (.i .i64 0)))), none⟩]) .ret))), [.t 2, .t 3]⟩
theorem low21 : lowF Try.prog 21 = some F21.strip := by kernel_rfl
theorem fok21 : fOk Try.prog 21 = true := by kernel_rfl
theorem tape_Room_ok (G : Nat → Option (List D)) (p0 : Tape) (r : Int × Int) (h : tape_Room p0 = some r) : FnRO Try.prog G 21 [.agg [.d (.l 1 (p0.Data.map encU8)), .d (.i .i64 p0.Synced)]] (fun rs => rs = [.one (.i .i64 r.1), .one (.i .i64 r.2)]) := by
  refine FnRO.of' low21 fok21 (by simp [F21]) ?_
  rw [tape_Room] at h
  simp only [F21, go_sem, Nat.reduceAdd, Nat.reduceEqDiff, Nat.reduceLeDiff, Nat.reduceSub, reduceCtorEq, ↓reduceIte, Nat.reduceBEq, Int.reduceLT, Int.reduceLE, Int.reduceEq, Int.reduceBEq, Int.reduceBNe, Nat.reduceLT, Nat.reduceMul]
  obtain ⟨v1, hv1, h⟩ := Option.bind_eq_some_iff.1 h
  try simp only [go_sem, Nat.reduceAdd, Nat.reduceEqDiff, Nat.reduceLeDiff, Nat.reduceSub, reduceCtorEq, ↓reduceIte, Nat.reduceBEq, Int.reduceLT, Int.reduceLE, Int.reduceEq, Int.reduceBEq, Int.reduceBNe, Nat.reduceLT, Nat.reduceMul]
  refine CallV.ro false (tape_open_ok G p0 v1 hv1) rfl ?_
  rintro rs rfl
  refine ⟨.inl rfl, ?_⟩
  rcases of_if h with ⟨hb2, h⟩ | ⟨hb2, h⟩
  · have hkhb2 := not_eq_t hb2
    simp only [Option.some.injEq] at h
    subst h
    try simp only [hb2, hkhb2, go_sem, Nat.reduceAdd, Nat.reduceEqDiff, Nat.reduceLeDiff, Nat.reduceSub, reduceCtorEq, ↓reduceIte, Nat.reduceBEq, Int.reduceLT, Int.reduceLE, Int.reduceEq, Int.reduceBEq, Int.reduceBNe, Nat.reduceLT, Nat.reduceMul, List.map_append, List.map_cons, List.map_nil, List.map_set]
  · have hkhb2 := not_eq_f hb2
    try simp only [hb2, hkhb2, go_sem, Nat.reduceAdd, Nat.reduceEqDiff, Nat.reduceLeDiff, Nat.reduceSub, reduceCtorEq, ↓reduceIte, Nat.reduceBEq, Int.reduceLT, Int.reduceLE, Int.reduceEq, Int.reduceBEq, Int.reduceBNe, Nat.reduceLT, Nat.reduceMul]
    intro hl3
    simp only [Option.some.injEq] at h
    subst h
    try simp only [hb2, hkhb2, go_sem, Nat.reduceAdd, Nat.reduceEqDiff, Nat.reduceLeDiff, Nat.reduceSub, reduceCtorEq, ↓reduceIte, Nat.reduceBEq, Int.reduceLT, Int.reduceLE, Int.reduceEq, Int.reduceBEq, Int.reduceBNe, Nat.reduceLT, Nat.reduceMul, List.map_append, List.map_cons, List.map_nil, List.map_set]
def reredosref_In (p0 : Int) (p1 : Int) (p2 : Int) : Option (Bool) := (withK (fun (b1_1 : Bool) => (some b1_1)) fun k2 => (if (decide (p0 ≥ p1)) = true then (k2 (decide (p0 ≤ p2))) else (k2 false)))
def F46 : VFn := ⟨15, (.seq (.reg [⟨(some 6), .mv (.c (.one (.d (.b false)))), none⟩]) (.seq (.wk (.reg [⟨(some 7), .mv (.t 0), none⟩, ⟨(some 8), .mv (.t 1), none⟩, ⟨(some 9), .bin .i .geq (.t 7) (.t 8), none⟩, ⟨(some 10), .mv (.t 9), none⟩, ⟨(some 11), .mv (.t 0), (some (10, true))⟩, ⟨(some 12), .mv (.t 2), (some (10, true))⟩, ⟨(some 13), .bin .i .leq (.t 11) (.t 12), (some (10, true))⟩, ⟨(some 14), .pick (.t 10) (.t 13) (.c (.one (.d (.b false)))), none⟩, ⟨(some 6), .mv (.t 14), none⟩])) .ret)), [.t 6]⟩
theorem low46 : lowF Try.prog 46 = some F46.strip := by kernel_rfl
theorem fok46 : fOk Try.prog 46 = true := by kernel_rfl
theorem reredosref_In_ok (G : Nat → Option (List D)) (p0 : Int) (p1 : Int) (p2 : Int) (r : Bool) (h : reredosref_In p0 p1 p2 = some r) : FnRO Try.prog G 46 [.one (.d (.i .i64 p0)), .one (.d (.i .i64 p1)), .one (.d (.i .i64 p2))] (fun rs => rs = [.one (.b r)]) := by
  refine FnRO.of' low46 fok46 (by simp [F46]) ?_
  rw [reredosref_In] at h
  simp only [F46, go_sem, Nat.reduceAdd, Nat.reduceEqDiff, Nat.reduceLeDiff, Nat.reduceSub, reduceCtorEq, ↓reduceIte, Nat.reduceBEq, Int.reduceLT, Int.reduceLE, Int.reduceEq, Int.reduceBEq, Int.reduceBNe, Nat.reduceLT, Nat.reduceMul]
  obtain ⟨k2, hk2, h⟩ := withK_lk1 h
  try simp only [go_sem, Nat.reduceAdd, Nat.reduceEqDiff, Nat.reduceLeDiff, Nat.reduceSub, reduceCtorEq, ↓reduceIte, Nat.reduceBEq, Int.reduceLT, Int.reduceLE, Int.reduceEq, Int.reduceBEq, Int.reduceBNe, Nat.reduceLT, Nat.reduceMul]
  refine join_lk Try.prog G _ _ (B := Bool) (fun b => k2 b = some r) (fun b => [(6, .one (.d (.b b)))]) (fun b => []) ?_ (fun b1_1 h => ?_)
  · rcases of_if h with ⟨hb3, h⟩ | ⟨hb3, h⟩
    · try simp only [hb3, go_sem, Nat.reduceAdd, Nat.reduceEqDiff, Nat.reduceLeDiff, Nat.reduceSub, reduceCtorEq, ↓reduceIte, Nat.reduceBEq, Int.reduceLT, Int.reduceLE, Int.reduceEq, Int.reduceBEq, Int.reduceBNe, Nat.reduceLT, Nat.reduceMul]
      exact joinQ_i (decide (p0 ≤ p2)) h [] rfl (by simp only [hb3, go_sem, Nat.reduceAdd, Nat.reduceEqDiff, Nat.reduceLeDiff, Nat.reduceSub, reduceCtorEq, ↓reduceIte, Nat.reduceBEq, Int.reduceLT, Int.reduceLE, Int.reduceEq, Int.reduceBEq, Int.reduceBNe, Nat.reduceLT, Nat.reduceMul, slotsWk, objsWk, objWk, optVOWk, SV.wk, SC.wk, cellsWk, VO.wk, Ptr.wk, ptrsWk, SC.isNl, List.map_append, List.map_cons, List.map_nil, Option.some.injEq, Prod.mk.injEq, SC.d.injEq, D.l.injEq, List.map_set]) (by simp only [hb3, go_sem, Nat.reduceAdd, Nat.reduceEqDiff, Nat.reduceLeDiff, Nat.reduceSub, reduceCtorEq, ↓reduceIte, Nat.reduceBEq, Int.reduceLT, Int.reduceLE, Int.reduceEq, Int.reduceBEq, Int.reduceBNe, Nat.reduceLT, Nat.reduceMul, slotsWk, objsWk, objWk, optVOWk, SV.wk, SC.wk, cellsWk, VO.wk, Ptr.wk, ptrsWk, SC.isNl, List.map_append, List.map_cons, List.map_nil, Option.some.injEq, Prod.mk.injEq, SC.d.injEq, D.l.injEq, List.map_set])
    · try simp only [hb3, go_sem, Nat.reduceAdd, Nat.reduceEqDiff, Nat.reduceLeDiff, Nat.reduceSub, reduceCtorEq, ↓reduceIte, Nat.reduceBEq, Int.reduceLT, Int.reduceLE, Int.reduceEq, Int.reduceBEq, Int.reduceBNe, Nat.reduceLT, Nat.reduceMul]
      exact joinQ_i (false) h [] rfl (by simp only [hb3, go_sem, Nat.reduceAdd, Nat.reduceEqDiff, Nat.reduceLeDiff, Nat.reduceSub, reduceCtorEq, ↓reduceIte, Nat.reduceBEq, Int.reduceLT, Int.reduceLE, Int.reduceEq, Int.reduceBEq, Int.reduceBNe, Nat.reduceLT, Nat.reduceMul, slotsWk, objsWk, objWk, optVOWk, SV.wk, SC.wk, cellsWk, VO.wk, Ptr.wk, ptrsWk, SC.isNl, List.map_append, List.map_cons, List.map_nil, Option.some.injEq, Prod.mk.injEq, SC.d.injEq, D.l.injEq, List.map_set]) (by simp only [hb3, go_sem, Nat.reduceAdd, Nat.reduceEqDiff, Nat.reduceLeDiff, Nat.reduceSub, reduceCtorEq, ↓reduceIte, Nat.reduceBEq, Int.reduceLT, Int.reduceLE, Int.reduceEq, Int.reduceBEq, Int.reduceBNe, Nat.reduceLT, Nat.reduceMul, slotsWk, objsWk, objWk, optVOWk, SV.wk, SC.wk, cellsWk, VO.wk, Ptr.wk, ptrsWk, SC.isNl, List.map_append, List.map_cons, List.map_nil, Option.some.injEq, Prod.mk.injEq, SC.d.injEq, D.l.injEq, List.map_set])
  · try dsimp only at h
    rw [hk2] at h
    simp only [Option.some.injEq] at h
    subst h
    try simp only [go_sem, Nat.reduceAdd, Nat.reduceEqDiff, Nat.reduceLeDiff, Nat.reduceSub, reduceCtorEq, ↓reduceIte, Nat.reduceBEq, Int.reduceLT, Int.reduceLE, Int.reduceEq, Int.reduceBEq, Int.reduceBNe, Nat.reduceLT, Nat.reduceMul, List.map_append, List.map_cons, List.map_nil, List.map_set]
def reredosref_TapeMay (p0 : Tape) : Option (Bool) := (withK (fun (b1_1 : Bool) => (some b1_1)) fun k2 => (if (decide (((p0.Data.length : Nat) : Int) ≤ 6000)) = true then (Option.bind (reredosref_In p0.Synced 0 ((p0.Data.length : Nat) : Int)) fun v6 => (k2 v6)) else (k2 false)))
def F42 : VFn := ⟨15, (.seq (.reg [⟨(some 1), .box 2 (.t 0), none⟩, ⟨(some 2), .mv (.c (.one (.d (.b false)))), none⟩]) (.seq (.wk (.reg [⟨(some 3), .fa 0 (.t 1), none⟩, ⟨(some 4), .ld false 1 (.t 3), none⟩, ⟨(some 5), .len (.t 4), none⟩, ⟨(some 6), .bin .i .leq (.t 5) (.c (.one (.d (.i .i64 6000)))), none⟩, ⟨(some 7), .mv (.t 6), none⟩, ⟨(some 8), .fa 1 (.t 1), (some (7, true))⟩, ⟨(some 9), .ld false 1 (.t 8), (some (7, true))⟩, ⟨(some 10), .fa 0 (.t 1), (some (7, true))⟩, ⟨(some 11), .ld false 1 (.t 10), (some (7, true))⟩, ⟨(some 12), .len (.t 11), (some (7, true))⟩, ⟨(some 13), .call 46 [(.t 9), (.c (.one (.d (.i .i64 0)))), (.t 12)], (some (7, true))⟩, ⟨(some 14), .pick (.t 7) (.t 13) (.c (.one (.d (.b false)))), none⟩, ⟨(some 2), .mv (.t 14), none⟩])) .ret)), [.t 2]⟩
theorem low42 : lowF Try.prog 42 = some F42.strip := by kernel_rfl
theorem fok42 : fOk Try.prog 42 = true := by kernel_rfl
theorem reredosref_TapeMay_ok (G : Nat → Option (List D)) (p0 : Tape) (r : Bool) (h : reredosref_TapeMay p0 = some r) : FnRO Try.prog G 42 [.agg [.d (.l 1 (p0.Data.map encU8)), .d (.i .i64 p0.Synced)]] (fun rs => rs = [.one (.b r)]) := by
  refine FnRO.of' low42 fok42 (by simp [F42]) ?_
  rw [reredosref_TapeMay] at h
  simp only [F42, go_sem, Nat.reduceAdd, Nat.reduceEqDiff, Nat.reduceLeDiff, Nat.reduceSub, reduceCtorEq, ↓reduceIte, Nat.reduceBEq, Int.reduceLT, Int.reduceLE, Int.reduceEq, Int.reduceBEq, Int.reduceBNe, Nat.reduceLT, Nat.reduceMul]
  obtain ⟨k2, hk2, h⟩ := withK_lk1 h
  try simp only [go_sem, Nat.reduceAdd, Nat.reduceEqDiff, Nat.reduceLeDiff, Nat.reduceSub, reduceCtorEq, ↓reduceIte, Nat.reduceBEq, Int.reduceLT, Int.reduceLE, Int.reduceEq, Int.reduceBEq, Int.reduceBNe, Nat.reduceLT, Nat.reduceMul]
  refine join_lk Try.prog G _ _ (B := Bool) (fun b => k2 b = some r) (fun b => [(2, .one (.d (.b b)))]) (fun b => []) ?_ (fun b1_1 h => ?_)
  · try simp only [go_sem, Nat.reduceAdd, Nat.reduceEqDiff, Nat.reduceLeDiff, Nat.reduceSub, reduceCtorEq, ↓reduceIte, Nat.reduceBEq, Int.reduceLT, Int.reduceLE, Int.reduceEq, Int.reduceBEq, Int.reduceBNe, Nat.reduceLT, Nat.reduceMul]
    intro hl3
    rcases of_if h with ⟨hb4, h⟩ | ⟨hb4, h⟩
    · try simp only [hb4, go_sem, Nat.reduceAdd, Nat.reduceEqDiff, Nat.reduceLeDiff, Nat.reduceSub, reduceCtorEq, ↓reduceIte, Nat.reduceBEq, Int.reduceLT, Int.reduceLE, Int.reduceEq, Int.reduceBEq, Int.reduceBNe, Nat.reduceLT, Nat.reduceMul]
      intro hl5
      obtain ⟨v6, hv6, h⟩ := Option.bind_eq_some_iff.1 h
      try simp only [hb4, go_sem, Nat.reduceAdd, Nat.reduceEqDiff, Nat.reduceLeDiff, Nat.reduceSub, reduceCtorEq, ↓reduceIte, Nat.reduceBEq, Int.reduceLT, Int.reduceLE, Int.reduceEq, Int.reduceBEq, Int.reduceBNe, Nat.reduceLT, Nat.reduceMul]
      refine CallV.ro false (reredosref_In_ok G p0.Synced 0 ((p0.Data.length : Nat) : Int) v6 hv6) rfl ?_
      rintro rs rfl
      refine ⟨.inl rfl, ?_⟩
      try simp only [hb4, go_sem, Nat.reduceAdd, Nat.reduceEqDiff, Nat.reduceLeDiff, Nat.reduceSub, reduceCtorEq, ↓reduceIte, Nat.reduceBEq, Int.reduceLT, Int.reduceLE, Int.reduceEq, Int.reduceBEq, Int.reduceBNe, Nat.reduceLT, Nat.reduceMul]
      exact joinQ_i (v6) h [] rfl (by simp only [hb4, go_sem, Nat.reduceAdd, Nat.reduceEqDiff, Nat.reduceLeDiff, Nat.reduceSub, reduceCtorEq, ↓reduceIte, Nat.reduceBEq, Int.reduceLT, Int.reduceLE, Int.reduceEq, Int.reduceBEq, Int.reduceBNe, Nat.reduceLT, Nat.reduceMul, slotsWk, objsWk, objWk, optVOWk, SV.wk, SC.wk, cellsWk, VO.wk, Ptr.wk, ptrsWk, SC.isNl, List.map_append, List.map_cons, List.map_nil, Option.some.injEq, Prod.mk.injEq, SC.d.injEq, D.l.injEq, List.map_set]) (by simp only [hb4, go_sem, Nat.reduceAdd, Nat.reduceEqDiff, Nat.reduceLeDiff, Nat.reduceSub, reduceCtorEq, ↓reduceIte, Nat.reduceBEq, Int.reduceLT, Int.reduceLE, Int.reduceEq, Int.reduceBEq, Int.reduceBNe, Nat.reduceLT, Nat.reduceMul, slotsWk, objsWk, objWk, optVOWk, SV.wk, SC.wk, cellsWk, VO.wk, Ptr.wk, ptrsWk, SC.isNl, List.map_append, List.map_cons, List.map_nil, Option.some.injEq, Prod.mk.injEq, SC.d.injEq, D.l.injEq, List.map_set])
    · try simp only [hb4, go_sem, Nat.reduceAdd, Nat.reduceEqDiff, Nat.reduceLeDiff, Nat.reduceSub, reduceCtorEq, ↓reduceIte, Nat.reduceBEq, Int.reduceLT, Int.reduceLE, Int.reduceEq, Int.reduceBEq, Int.reduceBNe, Nat.reduceLT, Nat.reduceMul]
      exact joinQ_i (false) h [] rfl (by simp only [hb4, go_sem, Nat.reduceAdd, Nat.reduceEqDiff, Nat.reduceLeDiff, Nat.reduceSub, reduceCtorEq, ↓reduceIte, Nat.reduceBEq, Int.reduceLT, Int.reduceLE, Int.reduceEq, Int.reduceBEq, Int.reduceBNe, Nat.reduceLT, Nat.reduceMul, slotsWk, objsWk, objWk, optVOWk, SV.wk, SC.wk, cellsWk, VO.wk, Ptr.wk, ptrsWk, SC.isNl, List.map_append, List.map_cons, List.map_nil, Option.some.injEq, Prod.mk.injEq, SC.d.injEq, D.l.injEq, List.map_set]) (by simp only [hb4, go_sem, Nat.reduceAdd, Nat.reduceEqDiff, Nat.reduceLeDiff, Nat.reduceSub, reduceCtorEq, ↓reduceIte, Nat.reduceBEq, Int.reduceLT, Int.reduceLE, Int.reduceEq, Int.reduceBEq, Int.reduceBNe, Nat.reduceLT, Nat.reduceMul, slotsWk, objsWk, objWk, optVOWk, SV.wk, SC.wk, cellsWk, VO.wk, Ptr.wk, ptrsWk, SC.isNl, List.map_append, List.map_cons, List.map_nil, Option.some.injEq, Prod.mk.injEq, SC.d.injEq, D.l.injEq, List.map_set])
  · try dsimp only at h
    rw [hk2] at h
    simp only [Option.some.injEq] at h
    subst h
    try simp only [go_sem, Nat.reduceAdd, Nat.reduceEqDiff, Nat.reduceLeDiff, Nat.reduceSub, reduceCtorEq, ↓reduceIte, Nat.reduceBEq, Int.reduceLT, Int.reduceLE, Int.reduceEq, Int.reduceBEq, Int.reduceBNe, Nat.reduceLT, Nat.reduceMul, List.map_append, List.map_cons, List.map_nil, List.map_set]
def reredosref_RoomOf (p0 : Tape) : Option (Int × Int) := (Option.bind (reredosref_TapeMay p0) fun v1 => (if (!v1) = true then (some (0, 9)) else (some (IntKind.i64.wrap (6000 - ((p0.Data.length : Nat) : Int)), 0))))
def F22 : VFn := ⟨11, (.seq (.reg [⟨(some 1), .box 2 (.t 0), none⟩, ⟨(some 2), .mv (.c (.one (.d (.i .i64 0)))), none⟩, ⟨(some 3), .mv (.c (.one (.d (.i .i64 0)))), none⟩]) (.seq (.seq (.reg [⟨(some 4), .ld true 2 (.t 1), none⟩, ⟨(some 5), .call 42 [(.t 4)], none⟩, ⟨(some 6), .un .not (.t 5), none⟩]) (.cond (.t 6) (.seq (.reg [⟨(some 2), .mv (.c (.one (.d (.i .i64 0)))), none⟩, ⟨(some 3), .mv (.c (.one (.d (.i .i64 9)))), none⟩]) .ret) .skip)) (.seq (.reg [⟨(some 7), .fa 0 (.t 1), none⟩, ⟨(some 8), .ld false 1 (.t 7), none⟩, ⟨(some 9), .len (.t 8), none⟩, ⟨(some 10), .bin .i .sub (.c (.one (.d (.i .i64 6000)))) (.t 9), none⟩, ⟨(some 2), .mv (.t 10), none⟩, ⟨(some 3), .mv (.c (.one (.d (.i .i64 0)))), none⟩]) .ret))), [.t 2, .t 3]⟩
theorem low22 : lowF Try.prog 22 = some F22.strip := by kernel_rfl
theorem fok22 : fOk Try.prog 22 = true := by kernel_rfl
theorem reredosref_RoomOf_ok (G : Nat → Option (List D)) (p0 : Tape) (r : Int × Int) (h : reredosref_RoomOf p0 = some r) : FnRO Try.prog G 22 [.agg [.d (.l 1 (p0.Data.map encU8)), .d (.i .i64 p0.Synced)]] (fun rs => rs = [.one (.i .i64 r.1), .one (.i .i64 r.2)]) := by
  refine FnRO.of' low22 fok22 (by simp [F22]) ?_
  rw [reredosref_RoomOf] at h
  simp only [F22, go_sem, Nat.reduceAdd, Nat.reduceEqDiff, Nat.reduceLeDiff, Nat.reduceSub, reduceCtorEq, ↓reduceIte, Nat.reduceBEq, Int.reduceLT, Int.reduceLE, Int.reduceEq, Int.reduceBEq, Int.reduceBNe, Nat.reduceLT, Nat.reduceMul]
  obtain ⟨v1, hv1, h⟩ := Option.bind_eq_some_iff.1 h
  try simp only [go_sem, Nat.reduceAdd, Nat.reduceEqDiff, Nat.reduceLeDiff, Nat.reduceSub, reduceCtorEq, ↓reduceIte, Nat.reduceBEq, Int.reduceLT, Int.reduceLE, Int.reduceEq, Int.reduceBEq, Int.reduceBNe, Nat.reduceLT, Nat.reduceMul]
  refine CallV.ro false (reredosref_TapeMay_ok G p0 v1 hv1) rfl ?_
  rintro rs rfl
  refine ⟨.inl rfl, ?_⟩
  rcases of_if h with ⟨hb2, h⟩ | ⟨hb2, h⟩
  · have hkhb2 := not_eq_t hb2
    simp only [Option.some.injEq] at h
    subst h
    try simp only [hb2, hkhb2, go_sem, Nat.reduceAdd, Nat.reduceEqDiff, Nat.reduceLeDiff, Nat.reduceSub, reduceCtorEq, ↓reduceIte, Nat.reduceBEq, Int.reduceLT, Int.reduceLE, Int.reduceEq, Int.reduceBEq, Int.reduceBNe, Nat.reduceLT, Nat.reduceMul, List.map_append, List.map_cons, List.map_nil, List.map_set]
  · have hkhb2 := not_eq_f hb2
    try simp only [hb2, hkhb2, go_sem, Nat.reduceAdd, Nat.reduceEqDiff, Nat.reduceLeDiff, Nat.reduceSub, reduceCtorEq, ↓reduceIte, Nat.reduceBEq, Int.reduceLT, Int.reduceLE, Int.reduceEq, Int.reduceBEq, Int.reduceBNe, Nat.reduceLT, Nat.reduceMul]
    intro hl3
    simp only [Option.some.injEq] at h
    subst h
    try simp only [hb2, hkhb2, go_sem, Nat.reduceAdd, Nat.reduceEqDiff, Nat.reduceLeDiff, Nat.reduceSub, reduceCtorEq, ↓reduceIte, Nat.reduceBEq, Int.reduceLT, Int.reduceLE, Int.reduceEq, Int.reduceBEq, Int.reduceBNe, Nat.reduceLT, Nat.reduceMul, List.map_append, List.map_cons, List.map_nil, List.map_set]
def reredoslaw_TapeRooms (p0 : Tape) : Option (Bool) := (Option.bind (tape_Room p0) fun v1 => (Option.bind (reredosref_RoomOf p0) fun v2 => (withK (fun (b3_1 : Bool) => (some b3_1)) fun k4 => (if (v1.1 == v2.1) = true then (k4 (v1.2 == v2.2)) else (k4 false)))))
def F7 : VFn := ⟨25, (.seq (.reg [⟨(some 1), .box 2 (.t 0), none⟩, ⟨(some 2), .mv (.c (.one (.d (.b false)))), none⟩]) (.seq (.reg [⟨(some 8), .ld true 2 (.t 1), none⟩, ⟨(some 9), .call 21 [(.t 8)], none⟩, ⟨(some 7), .mv (.t 9), none⟩, ⟨(some 10), .ext (.t 7) 0, none⟩, ⟨(some 11), .ext (.t 7) 1, none⟩, ⟨(some 3), .mv (.t 10), none⟩, ⟨(some 4), .mv (.t 11), none⟩]) (.seq (.reg [⟨(some 13), .ld true 2 (.t 1), none⟩, ⟨(some 14), .call 22 [(.t 13)], none⟩, ⟨(some 12), .mv (.t 14), none⟩, ⟨(some 15), .ext (.t 12) 0, none⟩, ⟨(some 16), .ext (.t 12) 1, none⟩, ⟨(some 5), .mv (.t 15), none⟩, ⟨(some 6), .mv (.t 16), none⟩]) (.seq (.wk (.reg [⟨(some 17), .mv (.t 3), none⟩, ⟨(some 18), .mv (.t 5), none⟩, ⟨(some 19), .bin .i .eql (.t 17) (.t 18), none⟩, ⟨(some 20), .mv (.t 19), none⟩, ⟨(some 21), .mv (.t 4), (some (20, true))⟩, ⟨(some 22), .mv (.t 6), (some (20, true))⟩, ⟨(some 23), .bin .i .eql (.t 21) (.t 22), (some (20, true))⟩, ⟨(some 24), .pick (.t 20) (.t 23) (.c (.one (.d (.b false)))), none⟩, ⟨(some 2), .mv (.t 24), none⟩])) .ret)))), [.t 2]⟩
theorem low7 : lowF Try.prog 7 = some F7.strip := by kernel_rfl
theorem fok7 : fOk Try.prog 7 = true := by kernel_rfl
theorem reredoslaw_TapeRooms_ok (G : Nat → Option (List D)) (p0 : Tape) (r : Bool) (h : reredoslaw_TapeRooms p0 = some r) : FnRO Try.prog G 7 [.agg [.d (.l 1 (p0.Data.map encU8)), .d (.i .i64 p0.Synced)]] (fun rs => rs = [.one (.b r)]) := by
  refine FnRO.of' low7 fok7 (by simp [F7]) ?_
  rw [reredoslaw_TapeRooms] at h
  simp only [F7, go_sem, Nat.reduceAdd, Nat.reduceEqDiff, Nat.reduceLeDiff, Nat.reduceSub, reduceCtorEq, ↓reduceIte, Nat.reduceBEq, Int.reduceLT, Int.reduceLE, Int.reduceEq, Int.reduceBEq, Int.reduceBNe, Nat.reduceLT, Nat.reduceMul]
  obtain ⟨v1, hv1, h⟩ := Option.bind_eq_some_iff.1 h
  try simp only [go_sem, Nat.reduceAdd, Nat.reduceEqDiff, Nat.reduceLeDiff, Nat.reduceSub, reduceCtorEq, ↓reduceIte, Nat.reduceBEq, Int.reduceLT, Int.reduceLE, Int.reduceEq, Int.reduceBEq, Int.reduceBNe, Nat.reduceLT, Nat.reduceMul]
  refine CallV.ro false (tape_Room_ok G p0 v1 hv1) rfl ?_
  rintro rs rfl
  refine ⟨.inl rfl, ?_⟩
  obtain ⟨v2, hv2, h⟩ := Option.bind_eq_some_iff.1 h
  try simp only [go_sem, Nat.reduceAdd, Nat.reduceEqDiff, Nat.reduceLeDiff, Nat.reduceSub, reduceCtorEq, ↓reduceIte, Nat.reduceBEq, Int.reduceLT, Int.reduceLE, Int.reduceEq, Int.reduceBEq, Int.reduceBNe, Nat.reduceLT, Nat.reduceMul]
  refine CallV.ro false (reredosref_RoomOf_ok G p0 v2 hv2) rfl ?_
  rintro rs rfl
  refine ⟨.inl rfl, ?_⟩
  obtain ⟨k4, hk4, h⟩ := withK_lk1 h
  try simp only [go_sem, Nat.reduceAdd, Nat.reduceEqDiff, Nat.reduceLeDiff, Nat.reduceSub, reduceCtorEq, ↓reduceIte, Nat.reduceBEq, Int.reduceLT, Int.reduceLE, Int.reduceEq, Int.reduceBEq, Int.reduceBNe, Nat.reduceLT, Nat.reduceMul]
  refine join_lk Try.prog G _ _ (B := Bool) (fun b => k4 b = some r) (fun b => [(2, .one (.d (.b b)))]) (fun b => []) ?_ (fun b3_1 h => ?_)
  · rcases of_if h with ⟨hb5, h⟩ | ⟨hb5, h⟩
    · try simp only [hb5, go_sem, Nat.reduceAdd, Nat.reduceEqDiff, Nat.reduceLeDiff, Nat.reduceSub, reduceCtorEq, ↓reduceIte, Nat.reduceBEq, Int.reduceLT, Int.reduceLE, Int.reduceEq, Int.reduceBEq, Int.reduceBNe, Nat.reduceLT, Nat.reduceMul]
      exact joinQ_i (v1.2 == v2.2) h [] rfl (by simp only [hb5, go_sem, Nat.reduceAdd, Nat.reduceEqDiff, Nat.reduceLeDiff, Nat.reduceSub, reduceCtorEq, ↓reduceIte, Nat.reduceBEq, Int.reduceLT, Int.reduceLE, Int.reduceEq, Int.reduceBEq, Int.reduceBNe, Nat.reduceLT, Nat.reduceMul, slotsWk, objsWk, objWk, optVOWk, SV.wk, SC.wk, cellsWk, VO.wk, Ptr.wk, ptrsWk, SC.isNl, List.map_append, List.map_cons, List.map_nil, Option.some.injEq, Prod.mk.injEq, SC.d.injEq, D.l.injEq, List.map_set]) (by simp only [hb5, go_sem, Nat.reduceAdd, Nat.reduceEqDiff, Nat.reduceLeDiff, Nat.reduceSub, reduceCtorEq, ↓reduceIte, Nat.reduceBEq, Int.reduceLT, Int.reduceLE, Int.reduceEq, Int.reduceBEq, Int.reduceBNe, Nat.reduceLT, Nat.reduceMul, slotsWk, objsWk, objWk, optVOWk, SV.wk, SC.wk, cellsWk, VO.wk, Ptr.wk, ptrsWk, SC.isNl, List.map_append, List.map_cons, List.map_nil, Option.some.injEq, Prod.mk.injEq, SC.d.injEq, D.l.injEq, List.map_set])
    · try simp only [hb5, go_sem, Nat.reduceAdd, Nat.reduceEqDiff, Nat.reduceLeDiff, Nat.reduceSub, reduceCtorEq, ↓reduceIte, Nat.reduceBEq, Int.reduceLT, Int.reduceLE, Int.reduceEq, Int.reduceBEq, Int.reduceBNe, Nat.reduceLT, Nat.reduceMul]
      exact joinQ_i (false) h [] rfl (by simp only [hb5, go_sem, Nat.reduceAdd, Nat.reduceEqDiff, Nat.reduceLeDiff, Nat.reduceSub, reduceCtorEq, ↓reduceIte, Nat.reduceBEq, Int.reduceLT, Int.reduceLE, Int.reduceEq, Int.reduceBEq, Int.reduceBNe, Nat.reduceLT, Nat.reduceMul, slotsWk, objsWk, objWk, optVOWk, SV.wk, SC.wk, cellsWk, VO.wk, Ptr.wk, ptrsWk, SC.isNl, List.map_append, List.map_cons, List.map_nil, Option.some.injEq, Prod.mk.injEq, SC.d.injEq, D.l.injEq, List.map_set]) (by simp only [hb5, go_sem, Nat.reduceAdd, Nat.reduceEqDiff, Nat.reduceLeDiff, Nat.reduceSub, reduceCtorEq, ↓reduceIte, Nat.reduceBEq, Int.reduceLT, Int.reduceLE, Int.reduceEq, Int.reduceBEq, Int.reduceBNe, Nat.reduceLT, Nat.reduceMul, slotsWk, objsWk, objWk, optVOWk, SV.wk, SC.wk, cellsWk, VO.wk, Ptr.wk, ptrsWk, SC.isNl, List.map_append, List.map_cons, List.map_nil, Option.some.injEq, Prod.mk.injEq, SC.d.injEq, D.l.injEq, List.map_set])
  · try dsimp only at h
    rw [hk4] at h
    simp only [Option.some.injEq] at h
    subst h
    try simp only [go_sem, Nat.reduceAdd, Nat.reduceEqDiff, Nat.reduceLeDiff, Nat.reduceSub, reduceCtorEq, ↓reduceIte, Nat.reduceBEq, Int.reduceLT, Int.reduceLE, Int.reduceEq, Int.reduceBEq, Int.reduceBNe, Nat.reduceLT, Nat.reduceMul, List.map_append, List.map_cons, List.map_nil, List.map_set]
def reredoslaw_octets (p0 : List Int) : Option ((List Int)) := (if fits 1 p0.length then (some p0) else none)
def F43 : VFn := ⟨5, (.seq (.reg [⟨(some 2), .mv (.c (.one (.nl 1))), none⟩]) (.seq (.reg [⟨(some 3), .mv (.t 0), none⟩, ⟨(some 4), .app 1 1 (.c (.one (.nl 1))) (.t 3), none⟩, ⟨(some 2), .mv (.t 4), none⟩]) .ret)), [.t 2]⟩
theorem low43 : lowF Try.prog 43 = some F43.strip := by kernel_rfl
theorem fok43 : fOk Try.prog 43 = true := by kernel_rfl
theorem reredoslaw_octets_ok (G : Nat → Option (List D)) (p0 : List Int) (r : (List Int)) (h : reredoslaw_octets p0 = some r) : FnRO Try.prog G 43 [.one (.d (.l 1 (p0.map encU8)))] (fun rs => rs = [.one (.o 1 (r.map encU8))]) := by
  refine FnRO.of' low43 fok43 (by simp [F43]) ?_
  rw [reredoslaw_octets] at h
  simp only [F43, go_sem, Nat.reduceAdd, Nat.reduceEqDiff, Nat.reduceLeDiff, Nat.reduceSub, reduceCtorEq, ↓reduceIte, Nat.reduceBEq, Int.reduceLT, Int.reduceLE, Int.reduceEq, Int.reduceBEq, Int.reduceBNe, Nat.reduceLT, Nat.reduceMul]
  obtain ⟨hf1, h⟩ := of_chk h
  simp only [Option.some.injEq] at h
  subst h
  try simp only [hf1, go_sem, Nat.reduceAdd, Nat.reduceEqDiff, Nat.reduceLeDiff, Nat.reduceSub, reduceCtorEq, ↓reduceIte, Nat.reduceBEq, Int.reduceLT, Int.reduceLE, Int.reduceEq, Int.reduceBEq, Int.reduceBNe, Nat.reduceLT, Nat.reduceMul, List.map_append, List.map_cons, List.map_nil, List.map_set]
def reredoslaw_tapes (p0 : Tape) : Option (Tape) := (Option.bind (reredoslaw_octets p0.Data) fun v1 => (some (Tape.mk v1 p0.Synced)))
def F24 : VFn := ⟨9, (.seq (.reg [⟨(some 1), .box 2 (.t 0), none⟩, ⟨(some 2), .alloc [(.nl 1), (.d (.i .i64 0))], none⟩]) (.seq (.draw [⟨⟨(some 3), .fa 0 (.t 1), none⟩, [], []⟩, ⟨⟨(some 4), .ld false 1 (.t 3), none⟩, [0], []⟩, ⟨⟨(some 5), .call 43 [(.t 4)], none⟩, [1, 0], []⟩, ⟨⟨(some 6), .fa 1 (.t 1), none⟩, [], [2]⟩, ⟨⟨(some 7), .ld false 1 (.t 6), none⟩, [3], [2]⟩, ⟨⟨(some 8), .build [(.nl 1), (.d (.i .i64 0))] [(0, 1, (.t 5)), (1, 1, (.t 7))], none⟩, [2, 1, 0, 4, 3], []⟩, ⟨⟨none, .st 2 (.t 2) (.t 8), none⟩, [5, 2, 1, 0, 4, 3], []⟩]) .ret)), [.cell 2 true 2]⟩
theorem low24 : lowF Try.prog 24 = some F24.strip := by kernel_rfl
theorem fok24 : fOk Try.prog 24 = true := by kernel_rfl
theorem reredoslaw_tapes_ok (G : Nat → Option (List D)) (p0 : Tape) (r : Tape) (h : reredoslaw_tapes p0 = some r) : FnRO Try.prog G 24 [.agg [.d (.l 1 (p0.Data.map encU8)), .d (.i .i64 p0.Synced)]] (fun rs => rs = [.agg (r.encO)]) := by
  refine FnRO.of' low24 fok24 (by simp [F24]) ?_
  rw [reredoslaw_tapes] at h
  simp only [F24, go_sem, Nat.reduceAdd, Nat.reduceEqDiff, Nat.reduceLeDiff, Nat.reduceSub, reduceCtorEq, ↓reduceIte, Nat.reduceBEq, Int.reduceLT, Int.reduceLE, Int.reduceEq, Int.reduceBEq, Int.reduceBNe, Nat.reduceLT, Nat.reduceMul]
  obtain ⟨v1, hv1, h⟩ := Option.bind_eq_some_iff.1 h
  try simp only [go_sem, Nat.reduceAdd, Nat.reduceEqDiff, Nat.reduceLeDiff, Nat.reduceSub, reduceCtorEq, ↓reduceIte, Nat.reduceBEq, Int.reduceLT, Int.reduceLE, Int.reduceEq, Int.reduceBEq, Int.reduceBNe, Nat.reduceLT, Nat.reduceMul]
  refine ⟨_, _, CallD.ro false (reredoslaw_octets_ok G p0.Data v1 hv1) rfl (.inl rfl) rfl, ?_⟩
  simp only [Option.some.injEq] at h
  subst h
  try simp only [go_sem, Nat.reduceAdd, Nat.reduceEqDiff, Nat.reduceLeDiff, Nat.reduceSub, reduceCtorEq, ↓reduceIte, Nat.reduceBEq, Int.reduceLT, Int.reduceLE, Int.reduceEq, Int.reduceBEq, Int.reduceBNe, Nat.reduceLT, Nat.reduceMul, List.map_append, List.map_cons, List.map_nil, List.map_set]
def tape_Sync (p0 : Tape) : Option (Tape × Int) := (Option.bind (tape_open p0) fun v1 => (if (!v1.2) = true then (some ((Tape.mk [] 0), 9)) else (some ((Tape.mk v1.1.Data ((v1.1.Data.length : Nat) : Int)), 0))))
def F23 : VFn := ⟨19, (.seq (.reg [⟨(some 1), .box 2 (.t 0), none⟩, ⟨(some 2), .alloc [(.nl 1), (.d (.i .i64 0))], none⟩, ⟨(some 3), .mv (.c (.one (.d (.i .i64 0)))), none⟩]) (.seq (.reg [⟨(some 7), .ld true 2 (.t 1), none⟩, ⟨(some 8), .call 41 [(.t 7)], none⟩, ⟨(some 6), .mv (.t 8), none⟩, ⟨(some 9), .ext (.t 6) 0, none⟩, ⟨(some 10), .ext (.t 6) 1, none⟩, ⟨(some 4), .alloc [(.nl 1), (.d (.i .i64 0))], none⟩, ⟨none, .st 2 (.t 4) (.t 9), none⟩, ⟨(some 5), .mv (.t 10), none⟩]) (.seq (.seq (.reg [⟨(some 11), .mv (.t 5), none⟩, ⟨(some 12), .un .not (.t 11), none⟩]) (.cond (.t 12) (.seq (.reg [⟨(some 13), .build [(.nl 1), (.d (.i .i64 0))] [], none⟩, ⟨none, .st 2 (.t 2) (.t 13), none⟩, ⟨(some 3), .mv (.c (.one (.d (.i .i64 9)))), none⟩]) .ret) .skip)) (.seq (.reg [⟨(some 14), .fa 0 (.t 4), none⟩, ⟨(some 15), .ld false 1 (.t 14), none⟩, ⟨(some 16), .len (.t 15), none⟩, ⟨(some 17), .fa 1 (.t 4), none⟩, ⟨none, .st 1 (.t 17) (.t 16), none⟩]) (.seq (.reg [⟨(some 18), .ld true 2 (.t 4), none⟩, ⟨none, .st 2 (.t 2) (.t 18), none⟩, ⟨(some 3), .mv (.c (.one (.d (.i .i64 0)))), none⟩]) .ret))))), [.cell 2 true 2, .t 3]⟩
theorem low23 : lowF Try.prog 23 = some F23.strip := by kernel_rfl
theorem fok23 : fOk Try.prog 23 = true := by kernel_rfl
theorem tape_Sync_ok (G : Nat → Option (List D)) (p0 : Tape) (r : Tape × Int) (h : tape_Sync p0 = some r) : FnRO Try.prog G 23 [.agg [.d (.l 1 (p0.Data.map encU8)), .d (.i .i64 p0.Synced)]] (fun rs => rs = [.agg (r.1.encO), .one (.i .i64 r.2)]) := by
  refine FnRO.of' low23 fok23 (by simp [F23]) ?_
  rw [tape_Sync] at h
  simp only [F23, go_sem, Nat.reduceAdd, Nat.reduceEqDiff, Nat.reduceLeDiff, Nat.reduceSub, reduceCtorEq, ↓reduceIte, Nat.reduceBEq, Int.reduceLT, Int.reduceLE, Int.reduceEq, Int.reduceBEq, Int.reduceBNe, Nat.reduceLT, Nat.reduceMul]
  obtain ⟨v1, hv1, h⟩ := Option.bind_eq_some_iff.1 h
  try simp only [go_sem, Nat.reduceAdd, Nat.reduceEqDiff, Nat.reduceLeDiff, Nat.reduceSub, reduceCtorEq, ↓reduceIte, Nat.reduceBEq, Int.reduceLT, Int.reduceLE, Int.reduceEq, Int.reduceBEq, Int.reduceBNe, Nat.reduceLT, Nat.reduceMul]
  refine CallV.ro false (tape_open_ok G p0 v1 hv1) rfl ?_
  rintro rs rfl
  refine ⟨.inl rfl, ?_⟩
  rcases of_if h with ⟨hb2, h⟩ | ⟨hb2, h⟩
  · have hkhb2 := not_eq_t hb2
    simp only [Option.some.injEq] at h
    subst h
    try simp only [hb2, hkhb2, go_sem, Nat.reduceAdd, Nat.reduceEqDiff, Nat.reduceLeDiff, Nat.reduceSub, reduceCtorEq, ↓reduceIte, Nat.reduceBEq, Int.reduceLT, Int.reduceLE, Int.reduceEq, Int.reduceBEq, Int.reduceBNe, Nat.reduceLT, Nat.reduceMul, List.map_append, List.map_cons, List.map_nil, List.map_set]
  · have hkhb2 := not_eq_f hb2
    try simp only [hb2, hkhb2, go_sem, Nat.reduceAdd, Nat.reduceEqDiff, Nat.reduceLeDiff, Nat.reduceSub, reduceCtorEq, ↓reduceIte, Nat.reduceBEq, Int.reduceLT, Int.reduceLE, Int.reduceEq, Int.reduceBEq, Int.reduceBNe, Nat.reduceLT, Nat.reduceMul]
    intro hl3
    simp only [Option.some.injEq] at h
    subst h
    try simp only [hb2, hkhb2, go_sem, Nat.reduceAdd, Nat.reduceEqDiff, Nat.reduceLeDiff, Nat.reduceSub, reduceCtorEq, ↓reduceIte, Nat.reduceBEq, Int.reduceLT, Int.reduceLE, Int.reduceEq, Int.reduceBEq, Int.reduceBNe, Nat.reduceLT, Nat.reduceMul, List.map_append, List.map_cons, List.map_nil, List.map_set]
def reredosref_joined_L2 (p0 : List (List Int)) (a3_1 : Nat) (k8 : (List Int) → Option ((List Int))) : Nat → Nat → (List Int) → Option ((List Int))
  | 0, _, _ => none
  | n10 + 1, a9_1, a9_2 => (Option.bind (p0[a3_1]?) fun x11 => (if (decide (a9_1 < x11.length)) = true then (Option.bind (x11[a9_1]?) fun x14 => (if fits 1 (a9_2.length + 1) then (reredosref_joined_L2 p0 a3_1 k8 n10 (a9_1 + 1) (a9_2 ++ [x14])) else none)) else (k8 a9_2)))
def reredosref_joined_L1 (p0 : List (List Int)) (k2 : (List Int) → Option ((List Int))) : Nat → Nat → (List Int) → Option ((List Int))
  | 0, _, _ => none
  | n4 + 1, a3_1, a3_2 => (if (decide (a3_1 < p0.length)) = true then (withK (fun (b7_1 : List Int) => (reredosref_joined_L1 p0 k2 n4 (a3_1 + 1) b7_1)) fun k8 => (reredosref_joined_L2 p0 a3_1 k8 (((p0[a3_1]?).getD default).length + 1) 0 a3_2)) else (k2 a3_2))
def reredosref_joined (p0 : List (List Int)) : Option ((List Int)) := (withK (fun (b1_1 : List Int) => (some b1_1)) fun k2 => (reredosref_joined_L1 p0 k2 (p0.length + 1) 0 []))
def F44 : VFn := ⟨32, (.seq (.reg [⟨(some 2), .mv (.c (.one (.nl 1))), none⟩]) (.seq (.reg [⟨(some 3), .mv (.c (.one (.nl 1))), none⟩]) (.seq (.seq (.reg [⟨(some 4), .mv (.c (.one (.d (.i .i64 0)))), none⟩]) (.wk (.block 0 (.loop (.seq (.seq (.reg [⟨(some 6), .mv (.t 4), none⟩, ⟨(some 7), .mv (.t 0), none⟩, ⟨(some 8), .len (.t 7), none⟩, ⟨(some 9), .bin .i .lss (.t 6) (.t 8), none⟩]) (.cond (.t 9) .skip (.exit 0))) (.seq (.block 1 (.seq (.reg [⟨(some 5), .mv (.c (.one (.d (.i .i64 0)))), none⟩]) (.wk (.block 2 (.loop (.seq (.seq (.reg [⟨(some 12), .mv (.t 5), none⟩, ⟨(some 13), .mv (.t 0), none⟩, ⟨(some 14), .mv (.t 4), none⟩, ⟨(some 15), .ia 1 (.t 13) (.t 14), none⟩, ⟨(some 16), .ld false 1 (.t 15), none⟩, ⟨(some 17), .len (.t 16), none⟩, ⟨(some 18), .bin .i .lss (.t 12) (.t 17), none⟩]) (.cond (.t 18) .skip (.exit 2))) (.seq (.block 3 (.reg [⟨(some 21), .mv (.t 3), none⟩, ⟨(some 22), .mv (.t 0), none⟩, ⟨(some 23), .mv (.t 4), none⟩, ⟨(some 24), .ia 1 (.t 22) (.t 23), none⟩, ⟨(some 25), .ld false 1 (.t 24), none⟩, ⟨(some 26), .mv (.t 5), none⟩, ⟨(some 27), .ia 1 (.t 25) (.t 26), none⟩, ⟨(some 28), .ld false 1 (.t 27), none⟩, ⟨(some 29), .bsl 1 1 [(.d (.i .u8 0))] [(0, (.t 28))], none⟩, ⟨(some 30), .app 1 1 (.t 21) (.t 29), none⟩, ⟨(some 3), .mv (.t 30), none⟩])) (.reg [⟨(some 19), .mv (.t 5), none⟩, ⟨(some 20), .bin .i .add (.t 19) (.c (.one (.d (.i .i64 1)))), none⟩, ⟨(some 5), .mv (.t 20), none⟩])))))))) (.reg [⟨(some 10), .mv (.t 4), none⟩, ⟨(some 11), .bin .i .add (.t 10) (.c (.one (.d (.i .i64 1)))), none⟩, ⟨(some 4), .mv (.t 11), none⟩]))))))) (.seq (.reg [⟨(some 31), .mv (.t 3), none⟩, ⟨(some 2), .mv (.t 31), none⟩]) .ret)))), [.t 2]⟩
theorem low44 : lowF Try.prog 44 = some F44.strip := by kernel_rfl
theorem fok44 : fOk Try.prog 44 = true := by kernel_rfl
theorem reredosref_joined_ok (G : Nat → Option (List D)) (p0 : List (List Int)) (r : (List Int)) (h : reredosref_joined p0 = some r) : FnRO Try.prog G 44 [.one (.d (.l 1 (p0.map (encL 1 encU8))))] (fun rs => rs = [.one (.o 1 (r.map encU8))]) := by
  refine FnRO.of' low44 fok44 (by simp [F44]) ?_
  rw [reredosref_joined] at h
  simp only [F44, go_sem, Nat.reduceAdd, Nat.reduceEqDiff, Nat.reduceLeDiff, Nat.reduceSub, reduceCtorEq, ↓reduceIte, Nat.reduceBEq, Int.reduceLT, Int.reduceLE, Int.reduceEq, Int.reduceBEq, Int.reduceBNe, Nat.reduceLT, Nat.reduceMul]
  obtain ⟨k2, hk2, h⟩ := withK_lk1 h
  try simp only [go_sem, Nat.reduceAdd, Nat.reduceEqDiff, Nat.reduceLeDiff, Nat.reduceSub, reduceCtorEq, ↓reduceIte, Nat.reduceBEq, Int.reduceLT, Int.reduceLE, Int.reduceEq, Int.reduceBEq, Int.reduceBNe, Nat.reduceLT, Nat.reduceMul]
  refine join_lk Try.prog G _ _ (B := (List Int)) (fun b => k2 b = some r) (fun b => [(3, .one (.r 0 0 b.length))]) (fun b => [some (.arr 1 (b.map encU8) false)]) ?_ (fun b1_1 h => ?_)
  · try simp only [go_sem, Nat.reduceAdd, Nat.reduceEqDiff, Nat.reduceLeDiff, Nat.reduceSub, reduceCtorEq, ↓reduceIte, Nat.reduceBEq, Int.reduceLT, Int.reduceLE, Int.reduceEq, Int.reduceBEq, Int.reduceBNe, Nat.reduceLT, Nat.reduceMul]
    refine loop_lk Try.prog G _ _ (A := Nat × (List Int)) (fun n a => reredosref_joined_L1 p0 k2 n a.1 a.2 = some r) (fun a => [(0, .one (.d (.l 1 (p0.map (encL 1 encU8))))), (3, .one (.r 0 0 a.2.length)), (4, .one (.d (.i .i64 ((a.1 : Nat) : Int))))]) (fun a => [some (.arr 1 (a.2.map encU8) false)]) (p0.length + 1) (0, []) h (wk_i _ _ _ [none] rfl (by simp only [go_sem, Nat.reduceAdd, Nat.reduceEqDiff, Nat.reduceLeDiff, Nat.reduceSub, reduceCtorEq, ↓reduceIte, Nat.reduceBEq, Int.reduceLT, Int.reduceLE, Int.reduceEq, Int.reduceBEq, Int.reduceBNe, Nat.reduceLT, Nat.reduceMul, slotsWk, objsWk, objWk, optVOWk, SV.wk, SC.wk, cellsWk, VO.wk, Ptr.wk, ptrsWk, SC.isNl, List.map_append, List.map_cons, List.map_nil, Option.some.injEq, Prod.mk.injEq, SC.d.injEq, D.l.injEq, List.map_set]) (by simp only [go_sem, Nat.reduceAdd, Nat.reduceEqDiff, Nat.reduceLeDiff, Nat.reduceSub, reduceCtorEq, ↓reduceIte, Nat.reduceBEq, Int.reduceLT, Int.reduceLE, Int.reduceEq, Int.reduceBEq, Int.reduceBNe, Nat.reduceLT, Nat.reduceMul, slotsWk, objsWk, objWk, optVOWk, SV.wk, SC.wk, cellsWk, VO.wk, Ptr.wk, ptrsWk, SC.isNl, List.map_append, List.map_cons, List.map_nil, Option.some.injEq, Prod.mk.injEq, SC.d.injEq, D.l.injEq, List.map_set])) (fun a h => by simp only [reredosref_joined_L1, reduceCtorEq] at h) ?_
    intro n4 a h
    obtain ⟨a3_1, a3_2⟩ := a
    try dsimp only at h
    rw [reredosref_joined_L1] at h
    try simp only [go_sem, Nat.reduceAdd, Nat.reduceEqDiff, Nat.reduceLeDiff, Nat.reduceSub, reduceCtorEq, ↓reduceIte, Nat.reduceBEq, Int.reduceLT, Int.reduceLE, Int.reduceEq, Int.reduceBEq, Int.reduceBNe, Nat.reduceLT, Nat.reduceMul]
    intro hl5
    rcases of_if h with ⟨hb6, h⟩ | ⟨hb6, h⟩
    · have hkhb6 := of_decide_eq_true hb6
      obtain ⟨k8, hk8, h⟩ := withK_lk1 h
      try simp only [hb6, hkhb6, go_sem, Nat.reduceAdd, Nat.reduceEqDiff, Nat.reduceLeDiff, Nat.reduceSub, reduceCtorEq, ↓reduceIte, Nat.reduceBEq, Int.reduceLT, Int.reduceLE, Int.reduceEq, Int.reduceBEq, Int.reduceBNe, Nat.reduceLT, Nat.reduceMul]
      refine join_lk Try.prog G _ _ (B := (List Int)) (fun b => k8 b = some r) (fun b => [(0, .one (.d (.l 1 (p0.map (encL 1 encU8))))), (3, .one (.r 0 0 b.length)), (4, .one (.d (.i .i64 ((a3_1 : Nat) : Int))))]) (fun b => [some (.arr 1 (b.map encU8) false)]) ?_ (fun b7_1 h => ?_)
      · try simp only [hb6, hkhb6, go_sem, Nat.reduceAdd, Nat.reduceEqDiff, Nat.reduceLeDiff, Nat.reduceSub, reduceCtorEq, ↓reduceIte, Nat.reduceBEq, Int.reduceLT, Int.reduceLE, Int.reduceEq, Int.reduceBEq, Int.reduceBNe, Nat.reduceLT, Nat.reduceMul]
        refine loop_lk Try.prog G _ _ (A := Nat × (List Int)) (fun n a => reredosref_joined_L2 p0 a3_1 k8 n a.1 a.2 = some r) (fun a => [(0, .one (.d (.l 1 (p0.map (encL 1 encU8))))), (3, .one (.r 0 0 a.2.length)), (4, .one (.d (.i .i64 ((a3_1 : Nat) : Int)))), (5, .one (.d (.i .i64 ((a.1 : Nat) : Int))))]) (fun a => [some (.arr 1 (a.2.map encU8) false)]) (((p0[a3_1]?).getD default).length + 1) (0, a3_2) h (wk_i _ _ _ [some 0] rfl (by simp only [hb6, hkhb6, go_sem, Nat.reduceAdd, Nat.reduceEqDiff, Nat.reduceLeDiff, Nat.reduceSub, reduceCtorEq, ↓reduceIte, Nat.reduceBEq, Int.reduceLT, Int.reduceLE, Int.reduceEq, Int.reduceBEq, Int.reduceBNe, Nat.reduceLT, Nat.reduceMul, slotsWk, objsWk, objWk, optVOWk, SV.wk, SC.wk, cellsWk, VO.wk, Ptr.wk, ptrsWk, SC.isNl, List.map_append, List.map_cons, List.map_nil, Option.some.injEq, Prod.mk.injEq, SC.d.injEq, D.l.injEq, List.map_set]) (by simp only [hb6, hkhb6, go_sem, Nat.reduceAdd, Nat.reduceEqDiff, Nat.reduceLeDiff, Nat.reduceSub, reduceCtorEq, ↓reduceIte, Nat.reduceBEq, Int.reduceLT, Int.reduceLE, Int.reduceEq, Int.reduceBEq, Int.reduceBNe, Nat.reduceLT, Nat.reduceMul, slotsWk, objsWk, objWk, optVOWk, SV.wk, SC.wk, cellsWk, VO.wk, Ptr.wk, ptrsWk, SC.isNl, List.map_append, List.map_cons, List.map_nil, Option.some.injEq, Prod.mk.injEq, SC.d.injEq, D.l.injEq, List.map_set])) (fun a h => by simp only [reredosref_joined_L2, reduceCtorEq] at h) ?_
        intro n10 a h
        obtain ⟨a9_1, a9_2⟩ := a
        try dsimp only at h
        rw [reredosref_joined_L2] at h
        obtain ⟨x11, hx11, h⟩ := Option.bind_eq_some_iff.1 h
        have hkx11 := (List.getElem?_eq_some_iff.1 hx11).1
        try simp only [List.length_take, List.length_drop, List.length_append, List.length_set, List.length_map, List.length_cons, List.length_nil, Nat.zero_add] at hkx11
        try simp only [hkhb6, hx11, hkx11, go_sem, Nat.reduceAdd, Nat.reduceEqDiff, Nat.reduceLeDiff, Nat.reduceSub, reduceCtorEq, ↓reduceIte, Nat.reduceBEq, Int.reduceLT, Int.reduceLE, Int.reduceEq, Int.reduceBEq, Int.reduceBNe, Nat.reduceLT, Nat.reduceMul]
        intro hl12
        rcases of_if h with ⟨hb13, h⟩ | ⟨hb13, h⟩
        · have hkhb13 := of_decide_eq_true hb13
          obtain ⟨x14, hx14, h⟩ := Option.bind_eq_some_iff.1 h
          have hkx14 := (List.getElem?_eq_some_iff.1 hx14).1
          try simp only [List.length_take, List.length_drop, List.length_append, List.length_set, List.length_map, List.length_cons, List.length_nil, Nat.zero_add] at hkx14
          obtain ⟨hf15, h⟩ := of_chk h
          have hw16 := wrap_succ_max hkx14 hl12
          try simp only [hkhb6, hx11, hkx11, hb13, hkhb13, hx14, hkx14, hf15, hw16, go_sem, Nat.reduceAdd, Nat.reduceEqDiff, Nat.reduceLeDiff, Nat.reduceSub, reduceCtorEq, ↓reduceIte, Nat.reduceBEq, Int.reduceLT, Int.reduceLE, Int.reduceEq, Int.reduceBEq, Int.reduceBNe, Nat.reduceLT, Nat.reduceMul]
          exact loopQ_i (a9_1 + 1, (a9_2 ++ [x14])) h [some 2] rfl (by simp only [hkhb6, hx11, hkx11, hb13, hkhb13, hx14, hkx14, hf15, hw16, go_sem, Nat.reduceAdd, Nat.reduceEqDiff, Nat.reduceLeDiff, Nat.reduceSub, reduceCtorEq, ↓reduceIte, Nat.reduceBEq, Int.reduceLT, Int.reduceLE, Int.reduceEq, Int.reduceBEq, Int.reduceBNe, Nat.reduceLT, Nat.reduceMul, slotsWk, objsWk, objWk, optVOWk, SV.wk, SC.wk, cellsWk, VO.wk, Ptr.wk, ptrsWk, SC.isNl, List.map_append, List.map_cons, List.map_nil, Option.some.injEq, Prod.mk.injEq, SC.d.injEq, D.l.injEq, List.map_set]) (by simp only [hkhb6, hx11, hkx11, hb13, hkhb13, hx14, hkx14, hf15, hw16, go_sem, Nat.reduceAdd, Nat.reduceEqDiff, Nat.reduceLeDiff, Nat.reduceSub, reduceCtorEq, ↓reduceIte, Nat.reduceBEq, Int.reduceLT, Int.reduceLE, Int.reduceEq, Int.reduceBEq, Int.reduceBNe, Nat.reduceLT, Nat.reduceMul, slotsWk, objsWk, objWk, optVOWk, SV.wk, SC.wk, cellsWk, VO.wk, Ptr.wk, ptrsWk, SC.isNl, List.map_append, List.map_cons, List.map_nil, Option.some.injEq, Prod.mk.injEq, SC.d.injEq, D.l.injEq, List.map_set])
        · try simp only [hkhb6, hx11, hkx11, hb13, go_sem, Nat.reduceAdd, Nat.reduceEqDiff, Nat.reduceLeDiff, Nat.reduceSub, reduceCtorEq, ↓reduceIte, Nat.reduceBEq, Int.reduceLT, Int.reduceLE, Int.reduceEq, Int.reduceBEq, Int.reduceBNe, Nat.reduceLT, Nat.reduceMul]
          exact joinQ_i (a9_2) h [some 0] rfl (by simp only [hkhb6, hx11, hkx11, hb13, go_sem, Nat.reduceAdd, Nat.reduceEqDiff, Nat.reduceLeDiff, Nat.reduceSub, reduceCtorEq, ↓reduceIte, Nat.reduceBEq, Int.reduceLT, Int.reduceLE, Int.reduceEq, Int.reduceBEq, Int.reduceBNe, Nat.reduceLT, Nat.reduceMul, slotsWk, objsWk, objWk, optVOWk, SV.wk, SC.wk, cellsWk, VO.wk, Ptr.wk, ptrsWk, SC.isNl, List.map_append, List.map_cons, List.map_nil, Option.some.injEq, Prod.mk.injEq, SC.d.injEq, D.l.injEq, List.map_set]) (by simp only [hkhb6, hx11, hkx11, hb13, go_sem, Nat.reduceAdd, Nat.reduceEqDiff, Nat.reduceLeDiff, Nat.reduceSub, reduceCtorEq, ↓reduceIte, Nat.reduceBEq, Int.reduceLT, Int.reduceLE, Int.reduceEq, Int.reduceBEq, Int.reduceBNe, Nat.reduceLT, Nat.reduceMul, slotsWk, objsWk, objWk, optVOWk, SV.wk, SC.wk, cellsWk, VO.wk, Ptr.wk, ptrsWk, SC.isNl, List.map_append, List.map_cons, List.map_nil, Option.some.injEq, Prod.mk.injEq, SC.d.injEq, D.l.injEq, List.map_set])
      · try dsimp only at h
        rw [hk8] at h
        have hw17 := wrap_succ_max hkhb6 hl5
        try simp only [hkhb6, hw17, go_sem, Nat.reduceAdd, Nat.reduceEqDiff, Nat.reduceLeDiff, Nat.reduceSub, reduceCtorEq, ↓reduceIte, Nat.reduceBEq, Int.reduceLT, Int.reduceLE, Int.reduceEq, Int.reduceBEq, Int.reduceBNe, Nat.reduceLT, Nat.reduceMul]
        exact loopQ_i (a3_1 + 1, b7_1) h [some 0] rfl (by simp only [hkhb6, hw17, go_sem, Nat.reduceAdd, Nat.reduceEqDiff, Nat.reduceLeDiff, Nat.reduceSub, reduceCtorEq, ↓reduceIte, Nat.reduceBEq, Int.reduceLT, Int.reduceLE, Int.reduceEq, Int.reduceBEq, Int.reduceBNe, Nat.reduceLT, Nat.reduceMul, slotsWk, objsWk, objWk, optVOWk, SV.wk, SC.wk, cellsWk, VO.wk, Ptr.wk, ptrsWk, SC.isNl, List.map_append, List.map_cons, List.map_nil, Option.some.injEq, Prod.mk.injEq, SC.d.injEq, D.l.injEq, List.map_set]) (by simp only [hkhb6, hw17, go_sem, Nat.reduceAdd, Nat.reduceEqDiff, Nat.reduceLeDiff, Nat.reduceSub, reduceCtorEq, ↓reduceIte, Nat.reduceBEq, Int.reduceLT, Int.reduceLE, Int.reduceEq, Int.reduceBEq, Int.reduceBNe, Nat.reduceLT, Nat.reduceMul, slotsWk, objsWk, objWk, optVOWk, SV.wk, SC.wk, cellsWk, VO.wk, Ptr.wk, ptrsWk, SC.isNl, List.map_append, List.map_cons, List.map_nil, Option.some.injEq, Prod.mk.injEq, SC.d.injEq, D.l.injEq, List.map_set])
    · try simp only [hb6, go_sem, Nat.reduceAdd, Nat.reduceEqDiff, Nat.reduceLeDiff, Nat.reduceSub, reduceCtorEq, ↓reduceIte, Nat.reduceBEq, Int.reduceLT, Int.reduceLE, Int.reduceEq, Int.reduceBEq, Int.reduceBNe, Nat.reduceLT, Nat.reduceMul]
      exact joinQ_i (a3_2) h [some 0] rfl (by simp only [hb6, go_sem, Nat.reduceAdd, Nat.reduceEqDiff, Nat.reduceLeDiff, Nat.reduceSub, reduceCtorEq, ↓reduceIte, Nat.reduceBEq, Int.reduceLT, Int.reduceLE, Int.reduceEq, Int.reduceBEq, Int.reduceBNe, Nat.reduceLT, Nat.reduceMul, slotsWk, objsWk, objWk, optVOWk, SV.wk, SC.wk, cellsWk, VO.wk, Ptr.wk, ptrsWk, SC.isNl, List.map_append, List.map_cons, List.map_nil, Option.some.injEq, Prod.mk.injEq, SC.d.injEq, D.l.injEq, List.map_set]) (by simp only [hb6, go_sem, Nat.reduceAdd, Nat.reduceEqDiff, Nat.reduceLeDiff, Nat.reduceSub, reduceCtorEq, ↓reduceIte, Nat.reduceBEq, Int.reduceLT, Int.reduceLE, Int.reduceEq, Int.reduceBEq, Int.reduceBNe, Nat.reduceLT, Nat.reduceMul, slotsWk, objsWk, objWk, optVOWk, SV.wk, SC.wk, cellsWk, VO.wk, Ptr.wk, ptrsWk, SC.isNl, List.map_append, List.map_cons, List.map_nil, Option.some.injEq, Prod.mk.injEq, SC.d.injEq, D.l.injEq, List.map_set])
  · try dsimp only at h
    rw [hk2] at h
    simp only [Option.some.injEq] at h
    subst h
    try simp only [go_sem, Nat.reduceAdd, Nat.reduceEqDiff, Nat.reduceLeDiff, Nat.reduceSub, reduceCtorEq, ↓reduceIte, Nat.reduceBEq, Int.reduceLT, Int.reduceLE, Int.reduceEq, Int.reduceBEq, Int.reduceBNe, Nat.reduceLT, Nat.reduceMul, List.map_append, List.map_cons, List.map_nil, List.map_set]
def reredosref_TapeSynced (p0 : Tape) : Option (Tape × Int) := (Option.bind (reredosref_TapeMay p0) fun v1 => (if (!v1) = true then (some ((Tape.mk [] 0), 9)) else (Option.bind (reredosref_joined [p0.Data]) fun v3 => (some ((Tape.mk v3 ((p0.Data.length : Nat) : Int)), 0)))))
def F25 : VFn := ⟨16, (.seq (.reg [⟨(some 1), .box 2 (.t 0), none⟩, ⟨(some 2), .alloc [(.nl 1), (.d (.i .i64 0))], none⟩, ⟨(some 3), .mv (.c (.one (.d (.i .i64 0)))), none⟩]) (.seq (.seq (.reg [⟨(some 4), .ld true 2 (.t 1), none⟩, ⟨(some 5), .call 42 [(.t 4)], none⟩, ⟨(some 6), .un .not (.t 5), none⟩]) (.cond (.t 6) (.seq (.reg [⟨(some 7), .build [(.nl 1), (.d (.i .i64 0))] [], none⟩, ⟨none, .st 2 (.t 2) (.t 7), none⟩, ⟨(some 3), .mv (.c (.one (.d (.i .i64 9)))), none⟩]) .ret) .skip)) (.seq (.draw [⟨⟨(some 8), .fa 0 (.t 1), none⟩, [], []⟩, ⟨⟨(some 9), .ld false 1 (.t 8), none⟩, [0], []⟩, ⟨⟨(some 10), .bsl 1 1 [(.nl 1)] [(0, (.t 9))], none⟩, [1, 0], []⟩, ⟨⟨(some 11), .call 44 [(.t 10)], none⟩, [2, 1, 0], []⟩, ⟨⟨(some 12), .fa 0 (.t 1), none⟩, [], [2, 3]⟩, ⟨⟨(some 13), .ld false 1 (.t 12), none⟩, [4], [2, 3]⟩, ⟨⟨(some 14), .len (.t 13), none⟩, [5, 4], [2, 3]⟩, ⟨⟨(some 15), .build [(.nl 1), (.d (.i .i64 0))] [(0, 1, (.t 11)), (1, 1, (.t 14))], none⟩, [3, 2, 1, 0, 6, 5, 4], []⟩, ⟨⟨none, .st 2 (.t 2) (.t 15), none⟩, [7, 3, 2, 1, 0, 6, 5, 4], []⟩, ⟨⟨(some 3), .mv (.c (.one (.d (.i .i64 0)))), none⟩, [8, 7, 3, 2, 1, 0, 6, 5, 4], []⟩]) .ret))), [.cell 2 true 2, .t 3]⟩
theorem low25 : lowF Try.prog 25 = some F25.strip := by kernel_rfl
theorem fok25 : fOk Try.prog 25 = true := by kernel_rfl
theorem reredosref_TapeSynced_ok (G : Nat → Option (List D)) (p0 : Tape) (r : Tape × Int) (h : reredosref_TapeSynced p0 = some r) : FnRO Try.prog G 25 [.agg [.d (.l 1 (p0.Data.map encU8)), .d (.i .i64 p0.Synced)]] (fun rs => rs = [.agg (r.1.encO), .one (.i .i64 r.2)]) := by
  refine FnRO.of' low25 fok25 (by simp [F25]) ?_
  rw [reredosref_TapeSynced] at h
  simp only [F25, go_sem, Nat.reduceAdd, Nat.reduceEqDiff, Nat.reduceLeDiff, Nat.reduceSub, reduceCtorEq, ↓reduceIte, Nat.reduceBEq, Int.reduceLT, Int.reduceLE, Int.reduceEq, Int.reduceBEq, Int.reduceBNe, Nat.reduceLT, Nat.reduceMul]
  obtain ⟨v1, hv1, h⟩ := Option.bind_eq_some_iff.1 h
  try simp only [go_sem, Nat.reduceAdd, Nat.reduceEqDiff, Nat.reduceLeDiff, Nat.reduceSub, reduceCtorEq, ↓reduceIte, Nat.reduceBEq, Int.reduceLT, Int.reduceLE, Int.reduceEq, Int.reduceBEq, Int.reduceBNe, Nat.reduceLT, Nat.reduceMul]
  refine CallV.ro false (reredosref_TapeMay_ok G p0 v1 hv1) rfl ?_
  rintro rs rfl
  refine ⟨.inl rfl, ?_⟩
  rcases of_if h with ⟨hb2, h⟩ | ⟨hb2, h⟩
  · have hkhb2 := not_eq_t hb2
    simp only [Option.some.injEq] at h
    subst h
    try simp only [hb2, hkhb2, go_sem, Nat.reduceAdd, Nat.reduceEqDiff, Nat.reduceLeDiff, Nat.reduceSub, reduceCtorEq, ↓reduceIte, Nat.reduceBEq, Int.reduceLT, Int.reduceLE, Int.reduceEq, Int.reduceBEq, Int.reduceBNe, Nat.reduceLT, Nat.reduceMul, List.map_append, List.map_cons, List.map_nil, List.map_set]
  · have hkhb2 := not_eq_f hb2
    obtain ⟨v3, hv3, h⟩ := Option.bind_eq_some_iff.1 h
    try simp only [hb2, hkhb2, go_sem, Nat.reduceAdd, Nat.reduceEqDiff, Nat.reduceLeDiff, Nat.reduceSub, reduceCtorEq, ↓reduceIte, Nat.reduceBEq, Int.reduceLT, Int.reduceLE, Int.reduceEq, Int.reduceBEq, Int.reduceBNe, Nat.reduceLT, Nat.reduceMul]
    refine ⟨_, _, CallD.ro true (reredosref_joined_ok G [p0.Data] v3 hv3) (by first | rfl | simp only [hb2, hkhb2, go_sem, Nat.reduceAdd, Nat.reduceEqDiff, Nat.reduceLeDiff, Nat.reduceSub, reduceCtorEq, ↓reduceIte, Nat.reduceBEq, Int.reduceLT, Int.reduceLE, Int.reduceEq, Int.reduceBEq, Int.reduceBNe, Nat.reduceLT, Nat.reduceMul, inVs_caps]) (.inr (by simp only [hb2, hkhb2, go_sem, Nat.reduceAdd, Nat.reduceEqDiff, Nat.reduceLeDiff, Nat.reduceSub, reduceCtorEq, ↓reduceIte, Nat.reduceBEq, Int.reduceLT, Int.reduceLE, Int.reduceEq, Int.reduceBEq, Int.reduceBNe, Nat.reduceLT, Nat.reduceMul, RV.plain, D.plain, D.plain0, D.plain1, List.all_map, Function.comp_def, all_tt])) rfl, ?_⟩
    simp only [Option.some.injEq] at h
    subst h
    try simp only [hb2, hkhb2, go_sem, Nat.reduceAdd, Nat.reduceEqDiff, Nat.reduceLeDiff, Nat.reduceSub, reduceCtorEq, ↓reduceIte, Nat.reduceBEq, Int.reduceLT, Int.reduceLE, Int.reduceEq, Int.reduceBEq, Int.reduceBNe, Nat.reduceLT, Nat.reduceMul, List.map_append, List.map_cons, List.map_nil, List.map_set]
def reredoslaw_sameTape (p0 : Tape) (p1 : Tape) : Option (Bool) := (withK (fun (b1_1 : Bool) => (some b1_1)) fun k2 => (if (p0.Synced == p1.Synced) = true then (k2 ((strOfNums p0.Data).toList == (strOfNums p1.Data).toList)) else (k2 false)))
def F26 : VFn := ⟨19, (.seq (.reg [⟨(some 2), .box 2 (.t 0), none⟩, ⟨(some 3), .box 2 (.t 1), none⟩, ⟨(some 4), .mv (.c (.one (.d (.b false)))), none⟩]) (.seq (.wk (.reg [⟨(some 5), .fa 1 (.t 2), none⟩, ⟨(some 6), .ld false 1 (.t 5), none⟩, ⟨(some 7), .fa 1 (.t 3), none⟩, ⟨(some 8), .ld false 1 (.t 7), none⟩, ⟨(some 9), .bin .i .eql (.t 6) (.t 8), none⟩, ⟨(some 10), .mv (.t 9), none⟩, ⟨(some 11), .fa 0 (.t 2), (some (10, true))⟩, ⟨(some 12), .ld false 1 (.t 11), (some (10, true))⟩, ⟨(some 13), .b2s (.t 12), (some (10, true))⟩, ⟨(some 14), .fa 0 (.t 3), (some (10, true))⟩, ⟨(some 15), .ld false 1 (.t 14), (some (10, true))⟩, ⟨(some 16), .b2s (.t 15), (some (10, true))⟩, ⟨(some 17), .bin .s .eql (.t 13) (.t 16), (some (10, true))⟩, ⟨(some 18), .pick (.t 10) (.t 17) (.c (.one (.d (.b false)))), none⟩, ⟨(some 4), .mv (.t 18), none⟩])) .ret)), [.t 4]⟩
theorem low26 : lowF Try.prog 26 = some F26.strip := by kernel_rfl
theorem fok26 : fOk Try.prog 26 = true := by kernel_rfl
theorem reredoslaw_sameTape_ok (G : Nat → Option (List D)) (p0 : Tape) (p1 : Tape) (r : Bool) (h : reredoslaw_sameTape p0 p1 = some r) : FnRO Try.prog G 26 [.agg [.d (.l 1 (p0.Data.map encU8)), .d (.i .i64 p0.Synced)], .agg [.d (.l 1 (p1.Data.map encU8)), .d (.i .i64 p1.Synced)]] (fun rs => rs = [.one (.b r)]) := by
  refine FnRO.of' low26 fok26 (by simp [F26]) ?_
  rw [reredoslaw_sameTape] at h
  simp only [F26, go_sem, Nat.reduceAdd, Nat.reduceEqDiff, Nat.reduceLeDiff, Nat.reduceSub, reduceCtorEq, ↓reduceIte, Nat.reduceBEq, Int.reduceLT, Int.reduceLE, Int.reduceEq, Int.reduceBEq, Int.reduceBNe, Nat.reduceLT, Nat.reduceMul]
  obtain ⟨k2, hk2, h⟩ := withK_lk1 h
  try simp only [go_sem, Nat.reduceAdd, Nat.reduceEqDiff, Nat.reduceLeDiff, Nat.reduceSub, reduceCtorEq, ↓reduceIte, Nat.reduceBEq, Int.reduceLT, Int.reduceLE, Int.reduceEq, Int.reduceBEq, Int.reduceBNe, Nat.reduceLT, Nat.reduceMul]
  refine join_lk Try.prog G _ _ (B := Bool) (fun b => k2 b = some r) (fun b => [(4, .one (.d (.b b)))]) (fun b => []) ?_ (fun b1_1 h => ?_)
  · rcases of_if h with ⟨hb3, h⟩ | ⟨hb3, h⟩
    · try simp only [hb3, go_sem, Nat.reduceAdd, Nat.reduceEqDiff, Nat.reduceLeDiff, Nat.reduceSub, reduceCtorEq, ↓reduceIte, Nat.reduceBEq, Int.reduceLT, Int.reduceLE, Int.reduceEq, Int.reduceBEq, Int.reduceBNe, Nat.reduceLT, Nat.reduceMul]
      exact joinQ_i ((strOfNums p0.Data).toList == (strOfNums p1.Data).toList) h [] rfl (by simp only [hb3, go_sem, Nat.reduceAdd, Nat.reduceEqDiff, Nat.reduceLeDiff, Nat.reduceSub, reduceCtorEq, ↓reduceIte, Nat.reduceBEq, Int.reduceLT, Int.reduceLE, Int.reduceEq, Int.reduceBEq, Int.reduceBNe, Nat.reduceLT, Nat.reduceMul, slotsWk, objsWk, objWk, optVOWk, SV.wk, SC.wk, cellsWk, VO.wk, Ptr.wk, ptrsWk, SC.isNl, List.map_append, List.map_cons, List.map_nil, Option.some.injEq, Prod.mk.injEq, SC.d.injEq, D.l.injEq, List.map_set]) (by simp only [hb3, go_sem, Nat.reduceAdd, Nat.reduceEqDiff, Nat.reduceLeDiff, Nat.reduceSub, reduceCtorEq, ↓reduceIte, Nat.reduceBEq, Int.reduceLT, Int.reduceLE, Int.reduceEq, Int.reduceBEq, Int.reduceBNe, Nat.reduceLT, Nat.reduceMul, slotsWk, objsWk, objWk, optVOWk, SV.wk, SC.wk, cellsWk, VO.wk, Ptr.wk, ptrsWk, SC.isNl, List.map_append, List.map_cons, List.map_nil, Option.some.injEq, Prod.mk.injEq, SC.d.injEq, D.l.injEq, List.map_set])
    · try simp only [hb3, go_sem, Nat.reduceAdd, Nat.reduceEqDiff, Nat.reduceLeDiff, Nat.reduceSub, reduceCtorEq, ↓reduceIte, Nat.reduceBEq, Int.reduceLT, Int.reduceLE, Int.reduceEq, Int.reduceBEq, Int.reduceBNe, Nat.reduceLT, Nat.reduceMul]
      exact joinQ_i (false) h [] rfl (by simp only [hb3, go_sem, Nat.reduceAdd, Nat.reduceEqDiff, Nat.reduceLeDiff, Nat.reduceSub, reduceCtorEq, ↓reduceIte, Nat.reduceBEq, Int.reduceLT, Int.reduceLE, Int.reduceEq, Int.reduceBEq, Int.reduceBNe, Nat.reduceLT, Nat.reduceMul, slotsWk, objsWk, objWk, optVOWk, SV.wk, SC.wk, cellsWk, VO.wk, Ptr.wk, ptrsWk, SC.isNl, List.map_append, List.map_cons, List.map_nil, Option.some.injEq, Prod.mk.injEq, SC.d.injEq, D.l.injEq, List.map_set]) (by simp only [hb3, go_sem, Nat.reduceAdd, Nat.reduceEqDiff, Nat.reduceLeDiff, Nat.reduceSub, reduceCtorEq, ↓reduceIte, Nat.reduceBEq, Int.reduceLT, Int.reduceLE, Int.reduceEq, Int.reduceBEq, Int.reduceBNe, Nat.reduceLT, Nat.reduceMul, slotsWk, objsWk, objWk, optVOWk, SV.wk, SC.wk, cellsWk, VO.wk, Ptr.wk, ptrsWk, SC.isNl, List.map_append, List.map_cons, List.map_nil, Option.some.injEq, Prod.mk.injEq, SC.d.injEq, D.l.injEq, List.map_set])
  · try dsimp only at h
    rw [hk2] at h
    simp only [Option.some.injEq] at h
    subst h
    try simp only [go_sem, Nat.reduceAdd, Nat.reduceEqDiff, Nat.reduceLeDiff, Nat.reduceSub, reduceCtorEq, ↓reduceIte, Nat.reduceBEq, Int.reduceLT, Int.reduceLE, Int.reduceEq, Int.reduceBEq, Int.reduceBNe, Nat.reduceLT, Nat.reduceMul, List.map_append, List.map_cons, List.map_nil, List.map_set]
def reredoslaw_TapeSyncs (p0 : Tape) : Option (Bool) := (Option.bind (reredoslaw_tapes p0) fun v1 => (Option.bind (tape_Sync v1) fun v2 => (Option.bind (reredosref_TapeSynced p0) fun v3 => (withK (fun (b4_1 : Bool) => (some b4_1)) fun k5 => (if (v2.2 == v3.2) = true then (Option.bind (reredoslaw_sameTape v2.1 v3.1) fun v7 => (k5 v7)) else (k5 false))))))
def F8 : VFn := ⟨26, (.seq (.reg [⟨(some 1), .box 2 (.t 0), none⟩, ⟨(some 2), .mv (.c (.one (.d (.b false)))), none⟩]) (.seq (.reg [⟨(some 8), .ld true 2 (.t 1), none⟩, ⟨(some 9), .call 24 [(.t 8)], none⟩, ⟨(some 10), .call 23 [(.t 9)], none⟩, ⟨(some 7), .mv (.t 10), none⟩, ⟨(some 11), .ext (.t 7) 0, none⟩, ⟨(some 12), .ext (.t 7) 1, none⟩, ⟨(some 3), .alloc [(.nl 1), (.d (.i .i64 0))], none⟩, ⟨none, .st 2 (.t 3) (.t 11), none⟩, ⟨(some 4), .mv (.t 12), none⟩]) (.seq (.reg [⟨(some 14), .ld true 2 (.t 1), none⟩, ⟨(some 15), .call 25 [(.t 14)], none⟩, ⟨(some 13), .mv (.t 15), none⟩, ⟨(some 16), .ext (.t 13) 0, none⟩, ⟨(some 17), .ext (.t 13) 1, none⟩, ⟨(some 5), .alloc [(.nl 1), (.d (.i .i64 0))], none⟩, ⟨none, .st 2 (.t 5) (.t 16), none⟩, ⟨(some 6), .mv (.t 17), none⟩]) (.seq (.wk (.reg [⟨(some 18), .mv (.t 4), none⟩, ⟨(some 19), .mv (.t 6), none⟩, ⟨(some 20), .bin .i .eql (.t 18) (.t 19), none⟩, ⟨(some 21), .mv (.t 20), none⟩, ⟨(some 22), .ld true 2 (.t 3), (some (21, true))⟩, ⟨(some 23), .ld true 2 (.t 5), (some (21, true))⟩, ⟨(some 24), .call 26 [(.t 22), (.t 23)], (some (21, true))⟩, ⟨(some 25), .pick (.t 21) (.t 24) (.c (.one (.d (.b false)))), none⟩, ⟨(some 2), .mv (.t 25), none⟩])) .ret)))), [.t 2]⟩
theorem low8 : lowF Try.prog 8 = some F8.strip := by kernel_rfl
theorem fok8 : fOk Try.prog 8 = true := by kernel_rfl
theorem reredoslaw_TapeSyncs_ok (G : Nat → Option (List D)) (p0 : Tape) (r : Bool) (h : reredoslaw_TapeSyncs p0 = some r) : FnRO Try.prog G 8 [.agg [.d (.l 1 (p0.Data.map encU8)), .d (.i .i64 p0.Synced)]] (fun rs => rs = [.one (.b r)]) := by
  refine FnRO.of' low8 fok8 (by simp [F8]) ?_
  rw [reredoslaw_TapeSyncs] at h
  simp only [F8, go_sem, Nat.reduceAdd, Nat.reduceEqDiff, Nat.reduceLeDiff, Nat.reduceSub, reduceCtorEq, ↓reduceIte, Nat.reduceBEq, Int.reduceLT, Int.reduceLE, Int.reduceEq, Int.reduceBEq, Int.reduceBNe, Nat.reduceLT, Nat.reduceMul]
  obtain ⟨v1, hv1, h⟩ := Option.bind_eq_some_iff.1 h
  try simp only [go_sem, Nat.reduceAdd, Nat.reduceEqDiff, Nat.reduceLeDiff, Nat.reduceSub, reduceCtorEq, ↓reduceIte, Nat.reduceBEq, Int.reduceLT, Int.reduceLE, Int.reduceEq, Int.reduceBEq, Int.reduceBNe, Nat.reduceLT, Nat.reduceMul]
  refine CallV.ro false (reredoslaw_tapes_ok G p0 v1 hv1) rfl ?_
  rintro rs rfl
  refine ⟨.inl rfl, ?_⟩
  obtain ⟨v2, hv2, h⟩ := Option.bind_eq_some_iff.1 h
  try simp only [go_sem, Nat.reduceAdd, Nat.reduceEqDiff, Nat.reduceLeDiff, Nat.reduceSub, reduceCtorEq, ↓reduceIte, Nat.reduceBEq, Int.reduceLT, Int.reduceLE, Int.reduceEq, Int.reduceBEq, Int.reduceBNe, Nat.reduceLT, Nat.reduceMul]
  refine CallV.ro true (tape_Sync_ok G v1 v2 hv2) (by first | rfl | simp only [go_sem, Nat.reduceAdd, Nat.reduceEqDiff, Nat.reduceLeDiff, Nat.reduceSub, reduceCtorEq, ↓reduceIte, Nat.reduceBEq, Int.reduceLT, Int.reduceLE, Int.reduceEq, Int.reduceBEq, Int.reduceBNe, Nat.reduceLT, Nat.reduceMul, inVs_caps]) ?_
  rintro rs rfl
  refine ⟨.inr (by simp only [go_sem, Nat.reduceAdd, Nat.reduceEqDiff, Nat.reduceLeDiff, Nat.reduceSub, reduceCtorEq, ↓reduceIte, Nat.reduceBEq, Int.reduceLT, Int.reduceLE, Int.reduceEq, Int.reduceBEq, Int.reduceBNe, Nat.reduceLT, Nat.reduceMul, RV.plain, D.plain, D.plain0, D.plain1, List.all_map, Function.comp_def, all_tt]), ?_⟩
  obtain ⟨v3, hv3, h⟩ := Option.bind_eq_some_iff.1 h
  try simp only [go_sem, Nat.reduceAdd, Nat.reduceEqDiff, Nat.reduceLeDiff, Nat.reduceSub, reduceCtorEq, ↓reduceIte, Nat.reduceBEq, Int.reduceLT, Int.reduceLE, Int.reduceEq, Int.reduceBEq, Int.reduceBNe, Nat.reduceLT, Nat.reduceMul]
  refine CallV.ro false (reredosref_TapeSynced_ok G p0 v3 hv3) rfl ?_
  rintro rs rfl
  refine ⟨.inl rfl, ?_⟩
  obtain ⟨k5, hk5, h⟩ := withK_lk1 h
  try simp only [go_sem, Nat.reduceAdd, Nat.reduceEqDiff, Nat.reduceLeDiff, Nat.reduceSub, reduceCtorEq, ↓reduceIte, Nat.reduceBEq, Int.reduceLT, Int.reduceLE, Int.reduceEq, Int.reduceBEq, Int.reduceBNe, Nat.reduceLT, Nat.reduceMul]
  refine join_lk Try.prog G _ _ (B := Bool) (fun b => k5 b = some r) (fun b => [(2, .one (.d (.b b)))]) (fun b => []) ?_ (fun b4_1 h => ?_)
  · rcases of_if h with ⟨hb6, h⟩ | ⟨hb6, h⟩
    · obtain ⟨v7, hv7, h⟩ := Option.bind_eq_some_iff.1 h
      try simp only [hb6, go_sem, Nat.reduceAdd, Nat.reduceEqDiff, Nat.reduceLeDiff, Nat.reduceSub, reduceCtorEq, ↓reduceIte, Nat.reduceBEq, Int.reduceLT, Int.reduceLE, Int.reduceEq, Int.reduceBEq, Int.reduceBNe, Nat.reduceLT, Nat.reduceMul]
      refine CallV.ro true (reredoslaw_sameTape_ok G v2.1 v3.1 v7 hv7) (by first | rfl | simp only [hb6, go_sem, Nat.reduceAdd, Nat.reduceEqDiff, Nat.reduceLeDiff, Nat.reduceSub, reduceCtorEq, ↓reduceIte, Nat.reduceBEq, Int.reduceLT, Int.reduceLE, Int.reduceEq, Int.reduceBEq, Int.reduceBNe, Nat.reduceLT, Nat.reduceMul, inVs_caps]) ?_
      rintro rs rfl
      refine ⟨.inr (by simp only [hb6, go_sem, Nat.reduceAdd, Nat.reduceEqDiff, Nat.reduceLeDiff, Nat.reduceSub, reduceCtorEq, ↓reduceIte, Nat.reduceBEq, Int.reduceLT, Int.reduceLE, Int.reduceEq, Int.reduceBEq, Int.reduceBNe, Nat.reduceLT, Nat.reduceMul, RV.plain, D.plain, D.plain0, D.plain1, List.all_map, Function.comp_def, all_tt]), ?_⟩
      try simp only [hb6, go_sem, Nat.reduceAdd, Nat.reduceEqDiff, Nat.reduceLeDiff, Nat.reduceSub, reduceCtorEq, ↓reduceIte, Nat.reduceBEq, Int.reduceLT, Int.reduceLE, Int.reduceEq, Int.reduceBEq, Int.reduceBNe, Nat.reduceLT, Nat.reduceMul]
      exact joinQ_i (v7) h [] rfl (by simp only [hb6, go_sem, Nat.reduceAdd, Nat.reduceEqDiff, Nat.reduceLeDiff, Nat.reduceSub, reduceCtorEq, ↓reduceIte, Nat.reduceBEq, Int.reduceLT, Int.reduceLE, Int.reduceEq, Int.reduceBEq, Int.reduceBNe, Nat.reduceLT, Nat.reduceMul, slotsWk, objsWk, objWk, optVOWk, SV.wk, SC.wk, cellsWk, VO.wk, Ptr.wk, ptrsWk, SC.isNl, List.map_append, List.map_cons, List.map_nil, Option.some.injEq, Prod.mk.injEq, SC.d.injEq, D.l.injEq, List.map_set]) (by simp only [hb6, go_sem, Nat.reduceAdd, Nat.reduceEqDiff, Nat.reduceLeDiff, Nat.reduceSub, reduceCtorEq, ↓reduceIte, Nat.reduceBEq, Int.reduceLT, Int.reduceLE, Int.reduceEq, Int.reduceBEq, Int.reduceBNe, Nat.reduceLT, Nat.reduceMul, slotsWk, objsWk, objWk, optVOWk, SV.wk, SC.wk, cellsWk, VO.wk, Ptr.wk, ptrsWk, SC.isNl, List.map_append, List.map_cons, List.map_nil, Option.some.injEq, Prod.mk.injEq, SC.d.injEq, D.l.injEq, List.map_set])
    · try simp only [hb6, go_sem, Nat.reduceAdd, Nat.reduceEqDiff, Nat.reduceLeDiff, Nat.reduceSub, reduceCtorEq, ↓reduceIte, Nat.reduceBEq, Int.reduceLT, Int.reduceLE, Int.reduceEq, Int.reduceBEq, Int.reduceBNe, Nat.reduceLT, Nat.reduceMul]
      exact joinQ_i (false) h [] rfl (by simp only [hb6, go_sem, Nat.reduceAdd, Nat.reduceEqDiff, Nat.reduceLeDiff, Nat.reduceSub, reduceCtorEq, ↓reduceIte, Nat.reduceBEq, Int.reduceLT, Int.reduceLE, Int.reduceEq, Int.reduceBEq, Int.reduceBNe, Nat.reduceLT, Nat.reduceMul, slotsWk, objsWk, objWk, optVOWk, SV.wk, SC.wk, cellsWk, VO.wk, Ptr.wk, ptrsWk, SC.isNl, List.map_append, List.map_cons, List.map_nil, Option.some.injEq, Prod.mk.injEq, SC.d.injEq, D.l.injEq, List.map_set]) (by simp only [hb6, go_sem, Nat.reduceAdd, Nat.reduceEqDiff, Nat.reduceLeDiff, Nat.reduceSub, reduceCtorEq, ↓reduceIte, Nat.reduceBEq, Int.reduceLT, Int.reduceLE, Int.reduceEq, Int.reduceBEq, Int.reduceBNe, Nat.reduceLT, Nat.reduceMul, slotsWk, objsWk, objWk, optVOWk, SV.wk, SC.wk, cellsWk, VO.wk, Ptr.wk, ptrsWk, SC.isNl, List.map_append, List.map_cons, List.map_nil, Option.some.injEq, Prod.mk.injEq, SC.d.injEq, D.l.injEq, List.map_set])
  · try dsimp only at h
    rw [hk5] at h
    simp only [Option.some.injEq] at h
    subst h
    try simp only [go_sem, Nat.reduceAdd, Nat.reduceEqDiff, Nat.reduceLeDiff, Nat.reduceSub, reduceCtorEq, ↓reduceIte, Nat.reduceBEq, Int.reduceLT, Int.reduceLE, Int.reduceEq, Int.reduceBEq, Int.reduceBNe, Nat.reduceLT, Nat.reduceMul, List.map_append, List.map_cons, List.map_nil, List.map_set]
def tape_Crash (p0 : Tape) (p1 : Int) : Option (Tape × Int) := (Option.bind (tape_open p0) fun v1 => (if (!v1.2) = true then (some ((Tape.mk [] 0), 9)) else (if (decide (p1 < 0)) = true then (some ((Tape.mk [] 0), 2)) else (if 0 ≤ IntKind.i64.wrap (v1.1.Synced + (if IntKind.i64.wrap (((v1.1.Data.length : Nat) : Int) - v1.1.Synced) < p1 then IntKind.i64.wrap (((v1.1.Data.length : Nat) : Int) - v1.1.Synced) else p1)) then (if IntKind.i64.wrap (v1.1.Synced + (if IntKind.i64.wrap (((v1.1.Data.length : Nat) : Int) - v1.1.Synced) < p1 then IntKind.i64.wrap (((v1.1.Data.length : Nat) : Int) - v1.1.Synced) else p1)) ≤ ((v1.1.Data.length : Nat) : Int) then (if decide (0 = IntKind.i64.wrap (v1.1.Synced + (if IntKind.i64.wrap (((v1.1.Data.length : Nat) : Int) - v1.1.Synced) < p1 then IntKind.i64.wrap (((v1.1.Data.length : Nat) : Int) - v1.1.Synced) else p1))) = true then (some ((Tape.mk [] (IntKind.i64.wrap (v1.1.Synced + (if IntKind.i64.wrap (((v1.1.Data.length : Nat) : Int) - v1.1.Synced) < p1 then IntKind.i64.wrap (((v1.1.Data.length : Nat) : Int) - v1.1.Synced) else p1)))), 0)) else (some ((Tape.mk (v1.1.Data.take ((IntKind.i64.wrap (v1.1.Synced + (if IntKind.i64.wrap (((v1.1.Data.length : Nat) : Int) - v1.1.Synced) < p1 then IntKind.i64.wrap (((v1.1.Data.length : Nat) : Int) - v1.1.Synced) else p1))).toNat)) (IntKind.i64.wrap (v1.1.Synced + (if IntKind.i64.wrap (((v1.1.Data.length : Nat) : Int) - v1.1.Synced) < p1 then IntKind.i64.wrap (((v1.1.Data.length : Nat) : Int) - v1.1.Synced) else p1)))), 0))) else none) else none))))
def F29 : VFn := ⟨40, (.seq (.reg [⟨(some 2), .box 2 (.t 0), none⟩, ⟨(some 4), .alloc [(.nl 1), (.d (.i .i64 0))], none⟩, ⟨(some 5), .mv (.c (.one (.d (.i .i64 0)))), none⟩]) (.seq (.reg [⟨(some 10), .ld true 2 (.t 2), none⟩, ⟨(some 11), .call 41 [(.t 10)], none⟩, ⟨(some 9), .mv (.t 11), none⟩, ⟨(some 12), .ext (.t 9) 0, none⟩, ⟨(some 13), .ext (.t 9) 1, none⟩, ⟨(some 6), .alloc [(.nl 1), (.d (.i .i64 0))], none⟩, ⟨none, .st 2 (.t 6) (.t 12), none⟩, ⟨(some 7), .mv (.t 13), none⟩]) (.seq (.block 0 (.seq (.reg [⟨(some 15), .mv (.t 7), none⟩, ⟨(some 16), .un .not (.t 15), none⟩, ⟨(some 14), .mv (.t 16), none⟩]) (.cond (.t 14) (.seq (.reg [⟨(some 17), .build [(.nl 1), (.d (.i .i64 0))] [], none⟩, ⟨none, .st 2 (.t 4) (.t 17), none⟩, ⟨(some 5), .mv (.c (.one (.d (.i .i64 9)))), none⟩]) .ret) (.seq (.reg [⟨(some 19), .mv (.t 1), none⟩, ⟨(some 20), .bin .i .lss (.t 19) (.c (.one (.d (.i .i64 0)))), none⟩, ⟨(some 18), .mv (.t 20), none⟩]) (.cond (.t 18) (.seq (.reg [⟨(some 21), .build [(.nl 1), (.d (.i .i64 0))] [], none⟩, ⟨none, .st 2 (.t 4) (.t 21), none⟩, ⟨(some 5), .mv (.c (.one (.d (.i .i64 2)))), none⟩]) .ret) .skip))))) (.seq (.reg [⟨(some 22), .fa 1 (.t 6), none⟩, ⟨(some 23), .ld false 1 (.t 22), none⟩, ⟨(some 24), .mv (.t 1), none⟩, ⟨(some 25), .fa 0 (.t 6), none⟩, ⟨(some 26), .ld false 1 (.t 25), none⟩, ⟨(some 27), .len (.t 26), none⟩, ⟨(some 28), .fa 1 (.t 6), none⟩, ⟨(some 29), .ld false 1 (.t 28), none⟩, ⟨(some 30), .bin .i .sub (.t 27) (.t 29), none⟩, ⟨(some 31), .mm false (.t 24) (.t 30), none⟩, ⟨(some 32), .bin .i .add (.t 23) (.t 31), none⟩, ⟨(some 8), .mv (.t 32), none⟩]) (.seq (.reg [⟨(some 33), .fa 0 (.t 6), none⟩, ⟨(some 34), .ld false 1 (.t 33), none⟩, ⟨(some 35), .mv (.t 8), none⟩, ⟨(some 36), .mv (.t 8), none⟩, ⟨(some 37), .sl3 1 (.t 34) none (.t 35) (.t 36), none⟩, ⟨(some 38), .mv (.t 8), none⟩, ⟨(some 39), .build [(.nl 1), (.d (.i .i64 0))] [(0, 1, (.t 37)), (1, 1, (.t 38))], none⟩, ⟨none, .st 2 (.t 4) (.t 39), none⟩, ⟨(some 5), .mv (.c (.one (.d (.i .i64 0)))), none⟩]) .ret))))), [.cell 4 true 2, .t 5]⟩
theorem low29 : lowF Try.prog 29 = some F29.strip := by kernel_rfl
theorem fok29 : fOk Try.prog 29 = true := by kernel_rfl
theorem tape_Crash_ok (G : Nat → Option (List D)) (p0 : Tape) (p1 : Int) (r : Tape × Int) (h : tape_Crash p0 p1 = some r) : FnRO Try.prog G 29 [.agg [.d (.l 1 (p0.Data.map encU8)), .d (.i .i64 p0.Synced)], .one (.d (.i .i64 p1))] (fun rs => rs = [.agg (r.1.encO), .one (.i .i64 r.2)]) := by
  refine FnRO.of' low29 fok29 (by simp [F29]) ?_
  rw [tape_Crash] at h
  simp only [F29, go_sem, Nat.reduceAdd, Nat.reduceEqDiff, Nat.reduceLeDiff, Nat.reduceSub, reduceCtorEq, ↓reduceIte, Nat.reduceBEq, Int.reduceLT, Int.reduceLE, Int.reduceEq, Int.reduceBEq, Int.reduceBNe, Nat.reduceLT, Nat.reduceMul]
  obtain ⟨v1, hv1, h⟩ := Option.bind_eq_some_iff.1 h
  try simp only [go_sem, Nat.reduceAdd, Nat.reduceEqDiff, Nat.reduceLeDiff, Nat.reduceSub, reduceCtorEq, ↓reduceIte, Nat.reduceBEq, Int.reduceLT, Int.reduceLE, Int.reduceEq, Int.reduceBEq, Int.reduceBNe, Nat.reduceLT, Nat.reduceMul]
  refine CallV.ro false (tape_open_ok G p0 v1 hv1) rfl ?_
  rintro rs rfl
  refine ⟨.inl rfl, ?_⟩
  rcases of_if h with ⟨hb2, h⟩ | ⟨hb2, h⟩
  · have hkhb2 := not_eq_t hb2
    simp only [Option.some.injEq] at h
    subst h
    try simp only [hb2, hkhb2, go_sem, Nat.reduceAdd, Nat.reduceEqDiff, Nat.reduceLeDiff, Nat.reduceSub, reduceCtorEq, ↓reduceIte, Nat.reduceBEq, Int.reduceLT, Int.reduceLE, Int.reduceEq, Int.reduceBEq, Int.reduceBNe, Nat.reduceLT, Nat.reduceMul, List.map_append, List.map_cons, List.map_nil, List.map_set]
  · have hkhb2 := not_eq_f hb2
    rcases of_if h with ⟨hb3, h⟩ | ⟨hb3, h⟩
    · have hkhb3 := of_decide_eq_true hb3
      simp only [Option.some.injEq] at h
      subst h
      try simp only [hb2, hkhb2, hb3, hkhb3, go_sem, Nat.reduceAdd, Nat.reduceEqDiff, Nat.reduceLeDiff, Nat.reduceSub, reduceCtorEq, ↓reduceIte, Nat.reduceBEq, Int.reduceLT, Int.reduceLE, Int.reduceEq, Int.reduceBEq, Int.reduceBNe, Nat.reduceLT, Nat.reduceMul, List.map_append, List.map_cons, List.map_nil, List.map_set]
    · try simp only [hb2, hkhb2, hb3, go_sem, Nat.reduceAdd, Nat.reduceEqDiff, Nat.reduceLeDiff, Nat.reduceSub, reduceCtorEq, ↓reduceIte, Nat.reduceBEq, Int.reduceLT, Int.reduceLE, Int.reduceEq, Int.reduceBEq, Int.reduceBNe, Nat.reduceLT, Nat.reduceMul]
      intro hl4
      obtain ⟨hle5, h⟩ := of_chk h
      obtain ⟨hle6, h⟩ := of_chk h
      rcases of_if h with ⟨hb7, h⟩ | ⟨hb7, h⟩
      · have hqhb7 := eq_true (of_decide_eq_true hb7)
        simp only [Option.some.injEq] at h
        subst h
        try simp only [hb2, hkhb2, hb3, hle5, hle6, hqhb7, go_sem, Nat.reduceAdd, Nat.reduceEqDiff, Nat.reduceLeDiff, Nat.reduceSub, reduceCtorEq, ↓reduceIte, Nat.reduceBEq, Int.reduceLT, Int.reduceLE, Int.reduceEq, Int.reduceBEq, Int.reduceBNe, Nat.reduceLT, Nat.reduceMul, List.map_append, List.map_cons, List.map_nil, List.map_set]
      · have hqhb7 := eq_false (of_decide_eq_false hb7)
        simp only [Option.some.injEq] at h
        subst h
        have hA : (IntKind.i64.wrap (v1.1.Synced + (if IntKind.i64.wrap (((v1.1.Data.length : Nat) : Int) - v1.1.Synced) < p1 then IntKind.i64.wrap (((v1.1.Data.length : Nat) : Int) - v1.1.Synced) else p1))).toNat ≤ v1.1.Data.length := by omega
        by_cases hB : (IntKind.i64.wrap (v1.1.Synced + (if IntKind.i64.wrap (((v1.1.Data.length : Nat) : Int) - v1.1.Synced) < p1 then IntKind.i64.wrap (((v1.1.Data.length : Nat) : Int) - v1.1.Synced) else p1))).toNat = v1.1.Data.length
        · try simp only [hb2, hkhb2, hb3, hle5, hle6, hqhb7, hA, hB, go_sem, Nat.reduceAdd, Nat.reduceEqDiff, Nat.reduceLeDiff, Nat.reduceSub, reduceCtorEq, ↓reduceIte, Nat.reduceBEq, Int.reduceLT, Int.reduceLE, Int.reduceEq, Int.reduceBEq, Int.reduceBNe, Nat.reduceLT, Nat.reduceMul, List.map_append, List.map_cons, List.map_nil, List.map_set]
        · try simp only [hb2, hkhb2, hb3, hle5, hle6, hqhb7, hA, hB, go_sem, Nat.reduceAdd, Nat.reduceEqDiff, Nat.reduceLeDiff, Nat.reduceSub, reduceCtorEq, ↓reduceIte, Nat.reduceBEq, Int.reduceLT, Int.reduceLE, Int.reduceEq, Int.reduceBEq, Int.reduceBNe, Nat.reduceLT, Nat.reduceMul, List.map_append, List.map_cons, List.map_nil, List.map_set]
def reredosref_TapeCrashed (p0 : Tape) (p1 : Int) : Option (Tape × Int) := (Option.bind (reredosref_TapeMay p0) fun v1 => (if (!v1) = true then (some ((Tape.mk [] 0), 9)) else (if (decide (p1 < 0)) = true then (some ((Tape.mk [] 0), 2)) else (withK (fun (b5_1 : Int) => (if 0 ≤ b5_1 then (if b5_1 ≤ ((p0.Data.length : Nat) : Int) then (Option.bind (reredosref_joined [(p0.Data.take b5_1.toNat)]) fun v10 => (some ((Tape.mk v10 b5_1), 0))) else none) else none)) fun k6 => (if (decide (p1 < IntKind.i64.wrap (((p0.Data.length : Nat) : Int) - p0.Synced))) = true then (k6 (IntKind.i64.wrap (p0.Synced + p1))) else (k6 ((p0.Data.length : Nat) : Int)))))))
def F30 : VFn := ⟨35, (.seq (.reg [⟨(some 2), .box 2 (.t 0), none⟩, ⟨(some 4), .alloc [(.nl 1), (.d (.i .i64 0))], none⟩, ⟨(some 5), .mv (.c (.one (.d (.i .i64 0)))), none⟩]) (.seq (.seq (.reg [⟨(some 7), .ld true 2 (.t 2), none⟩, ⟨(some 8), .call 42 [(.t 7)], none⟩, ⟨(some 9), .un .not (.t 8), none⟩]) (.cond (.t 9) (.seq (.reg [⟨(some 10), .build [(.nl 1), (.d (.i .i64 0))] [], none⟩, ⟨none, .st 2 (.t 4) (.t 10), none⟩, ⟨(some 5), .mv (.c (.one (.d (.i .i64 9)))), none⟩]) .ret) .skip)) (.seq (.seq (.reg [⟨(some 11), .mv (.t 1), none⟩, ⟨(some 12), .bin .i .lss (.t 11) (.c (.one (.d (.i .i64 0)))), none⟩]) (.cond (.t 12) (.seq (.reg [⟨(some 13), .build [(.nl 1), (.d (.i .i64 0))] [], none⟩, ⟨none, .st 2 (.t 4) (.t 13), none⟩, ⟨(some 5), .mv (.c (.one (.d (.i .i64 2)))), none⟩]) .ret) .skip)) (.seq (.reg [⟨(some 14), .fa 0 (.t 2), none⟩, ⟨(some 15), .ld false 1 (.t 14), none⟩, ⟨(some 16), .len (.t 15), none⟩, ⟨(some 6), .mv (.t 16), none⟩]) (.seq (.seq (.reg [⟨(some 17), .mv (.t 1), none⟩, ⟨(some 18), .mv (.t 6), none⟩, ⟨(some 19), .fa 1 (.t 2), none⟩, ⟨(some 20), .ld false 1 (.t 19), none⟩, ⟨(some 21), .bin .i .sub (.t 18) (.t 20), none⟩, ⟨(some 22), .bin .i .lss (.t 17) (.t 21), none⟩]) (.wk (.cond (.t 22) (.reg [⟨(some 23), .fa 1 (.t 2), none⟩, ⟨(some 24), .ld false 1 (.t 23), none⟩, ⟨(some 25), .mv (.t 1), none⟩, ⟨(some 26), .bin .i .add (.t 24) (.t 25), none⟩, ⟨(some 6), .mv (.t 26), none⟩]) .skip))) (.seq (.reg [⟨(some 27), .fa 0 (.t 2), none⟩, ⟨(some 28), .ld false 1 (.t 27), none⟩, ⟨(some 29), .mv (.t 6), none⟩, ⟨(some 30), .sl 1 (.t 28) none (some (.t 29)), none⟩, ⟨(some 31), .bsl 1 1 [(.nl 1)] [(0, (.t 30))], none⟩, ⟨(some 32), .call 44 [(.t 31)], none⟩, ⟨(some 33), .mv (.t 6), none⟩, ⟨(some 34), .build [(.nl 1), (.d (.i .i64 0))] [(0, 1, (.t 32)), (1, 1, (.t 33))], none⟩, ⟨none, .st 2 (.t 4) (.t 34), none⟩, ⟨(some 5), .mv (.c (.one (.d (.i .i64 0)))), none⟩]) .ret)))))), [.cell 4 true 2, .t 5]⟩
theorem low30 : lowF Try.prog 30 = some F30.strip := by kernel_rfl
theorem fok30 : fOk Try.prog 30 = true := by kernel_rfl
theorem reredosref_TapeCrashed_ok (G : Nat → Option (List D)) (p0 : Tape) (p1 : Int) (r : Tape × Int) (h : reredosref_TapeCrashed p0 p1 = some r) : FnRO Try.prog G 30 [.agg [.d (.l 1 (p0.Data.map encU8)), .d (.i .i64 p0.Synced)], .one (.d (.i .i64 p1))] (fun rs => rs = [.agg (r.1.encO), .one (.i .i64 r.2)]) := by
  refine FnRO.of' low30 fok30 (by simp [F30]) ?_
  rw [reredosref_TapeCrashed] at h
  simp only [F30, go_sem, Nat.reduceAdd, Nat.reduceEqDiff, Nat.reduceLeDiff, Nat.reduceSub, reduceCtorEq, ↓reduceIte, Nat.reduceBEq, Int.reduceLT, Int.reduceLE, Int.reduceEq, Int.reduceBEq, Int.reduceBNe, Nat.reduceLT, Nat.reduceMul]
  obtain ⟨v1, hv1, h⟩ := Option.bind_eq_some_iff.1 h
  try simp only [go_sem, Nat.reduceAdd, Nat.reduceEqDiff, Nat.reduceLeDiff, Nat.reduceSub, reduceCtorEq, ↓reduceIte, Nat.reduceBEq, Int.reduceLT, Int.reduceLE, Int.reduceEq, Int.reduceBEq, Int.reduceBNe, Nat.reduceLT, Nat.reduceMul]
  refine CallV.ro false (reredosref_TapeMay_ok G p0 v1 hv1) rfl ?_
  rintro rs rfl
  refine ⟨.inl rfl, ?_⟩
  rcases of_if h with ⟨hb2, h⟩ | ⟨hb2, h⟩
  · have hkhb2 := not_eq_t hb2
    simp only [Option.some.injEq] at h
    subst h
    try simp only [hb2, hkhb2, go_sem, Nat.reduceAdd, Nat.reduceEqDiff, Nat.reduceLeDiff, Nat.reduceSub, reduceCtorEq, ↓reduceIte, Nat.reduceBEq, Int.reduceLT, Int.reduceLE, Int.reduceEq, Int.reduceBEq, Int.reduceBNe, Nat.reduceLT, Nat.reduceMul, List.map_append, List.map_cons, List.map_nil, List.map_set]
  · have hkhb2 := not_eq_f hb2
    rcases of_if h with ⟨hb3, h⟩ | ⟨hb3, h⟩
    · have hkhb3 := of_decide_eq_true hb3
      simp only [Option.some.injEq] at h
      subst h
      try simp only [hb2, hkhb2, hb3, hkhb3, go_sem, Nat.reduceAdd, Nat.reduceEqDiff, Nat.reduceLeDiff, Nat.reduceSub, reduceCtorEq, ↓reduceIte, Nat.reduceBEq, Int.reduceLT, Int.reduceLE, Int.reduceEq, Int.reduceBEq, Int.reduceBNe, Nat.reduceLT, Nat.reduceMul, List.map_append, List.map_cons, List.map_nil, List.map_set]
    · try simp only [hb2, hkhb2, hb3, go_sem, Nat.reduceAdd, Nat.reduceEqDiff, Nat.reduceLeDiff, Nat.reduceSub, reduceCtorEq, ↓reduceIte, Nat.reduceBEq, Int.reduceLT, Int.reduceLE, Int.reduceEq, Int.reduceBEq, Int.reduceBNe, Nat.reduceLT, Nat.reduceMul]
      intro hl4
      obtain ⟨k6, hk6, h⟩ := withK_lk1 h
      try simp only [hb2, hkhb2, hb3, go_sem, Nat.reduceAdd, Nat.reduceEqDiff, Nat.reduceLeDiff, Nat.reduceSub, reduceCtorEq, ↓reduceIte, Nat.reduceBEq, Int.reduceLT, Int.reduceLE, Int.reduceEq, Int.reduceBEq, Int.reduceBNe, Nat.reduceLT, Nat.reduceMul]
      refine join_lk Try.prog G _ _ (B := Int) (fun b => k6 b = some r) (fun b => [(2, .one (.p (.q 0 0 0))), (4, .one (.p (.q 1 0 0))), (6, .one (.d (.i .i64 b)))]) (fun b => [some (.box [.d (.l 1 (p0.Data.map encU8)), .d (.i .i64 p0.Synced)]), some (.box [.nl 1, .d (.i .i64 0)])]) ?_ (fun b5_1 h => ?_)
      · rcases of_if h with ⟨hb7, h⟩ | ⟨hb7, h⟩
        · try simp only [hb2, hkhb2, hb3, hb7, go_sem, Nat.reduceAdd, Nat.reduceEqDiff, Nat.reduceLeDiff, Nat.reduceSub, reduceCtorEq, ↓reduceIte, Nat.reduceBEq, Int.reduceLT, Int.reduceLE, Int.reduceEq, Int.reduceBEq, Int.reduceBNe, Nat.reduceLT, Nat.reduceMul]
          exact joinQ_i (IntKind.i64.wrap (p0.Synced + p1)) h [some 0, some 1] rfl (by simp only [hb2, hkhb2, hb3, hb7, go_sem, Nat.reduceAdd, Nat.reduceEqDiff, Nat.reduceLeDiff, Nat.reduceSub, reduceCtorEq, ↓reduceIte, Nat.reduceBEq, Int.reduceLT, Int.reduceLE, Int.reduceEq, Int.reduceBEq, Int.reduceBNe, Nat.reduceLT, Nat.reduceMul, slotsWk, objsWk, objWk, optVOWk, SV.wk, SC.wk, cellsWk, VO.wk, Ptr.wk, ptrsWk, SC.isNl, List.map_append, List.map_cons, List.map_nil, Option.some.injEq, Prod.mk.injEq, SC.d.injEq, D.l.injEq, List.map_set]) (by simp only [hb2, hkhb2, hb3, hb7, go_sem, Nat.reduceAdd, Nat.reduceEqDiff, Nat.reduceLeDiff, Nat.reduceSub, reduceCtorEq, ↓reduceIte, Nat.reduceBEq, Int.reduceLT, Int.reduceLE, Int.reduceEq, Int.reduceBEq, Int.reduceBNe, Nat.reduceLT, Nat.reduceMul, slotsWk, objsWk, objWk, optVOWk, SV.wk, SC.wk, cellsWk, VO.wk, Ptr.wk, ptrsWk, SC.isNl, List.map_append, List.map_cons, List.map_nil, Option.some.injEq, Prod.mk.injEq, SC.d.injEq, D.l.injEq, List.map_set])
        · try simp only [hb2, hkhb2, hb3, hb7, go_sem, Nat.reduceAdd, Nat.reduceEqDiff, Nat.reduceLeDiff, Nat.reduceSub, reduceCtorEq, ↓reduceIte, Nat.reduceBEq, Int.reduceLT, Int.reduceLE, Int.reduceEq, Int.reduceBEq, Int.reduceBNe, Nat.reduceLT, Nat.reduceMul]
          exact joinQ_i (((p0.Data.length : Nat) : Int)) h [some 0, some 1] rfl (by simp only [hb2, hkhb2, hb3, hb7, go_sem, Nat.reduceAdd, Nat.reduceEqDiff, Nat.reduceLeDiff, Nat.reduceSub, reduceCtorEq, ↓reduceIte, Nat.reduceBEq, Int.reduceLT, Int.reduceLE, Int.reduceEq, Int.reduceBEq, Int.reduceBNe, Nat.reduceLT, Nat.reduceMul, slotsWk, objsWk, objWk, optVOWk, SV.wk, SC.wk, cellsWk, VO.wk, Ptr.wk, ptrsWk, SC.isNl, List.map_append, List.map_cons, List.map_nil, Option.some.injEq, Prod.mk.injEq, SC.d.injEq, D.l.injEq, List.map_set]) (by simp only [hb2, hkhb2, hb3, hb7, go_sem, Nat.reduceAdd, Nat.reduceEqDiff, Nat.reduceLeDiff, Nat.reduceSub, reduceCtorEq, ↓reduceIte, Nat.reduceBEq, Int.reduceLT, Int.reduceLE, Int.reduceEq, Int.reduceBEq, Int.reduceBNe, Nat.reduceLT, Nat.reduceMul, slotsWk, objsWk, objWk, optVOWk, SV.wk, SC.wk, cellsWk, VO.wk, Ptr.wk, ptrsWk, SC.isNl, List.map_append, List.map_cons, List.map_nil, Option.some.injEq, Prod.mk.injEq, SC.d.injEq, D.l.injEq, List.map_set])
      · try dsimp only at h
        rw [hk6] at h
        obtain ⟨hle8, h⟩ := of_chk h
        obtain ⟨hle9, h⟩ := of_chk h
        obtain ⟨v10, hv10, h⟩ := Option.bind_eq_some_iff.1 h
        try simp only [hkhb2, hle8, hle9, go_sem, Nat.reduceAdd, Nat.reduceEqDiff, Nat.reduceLeDiff, Nat.reduceSub, reduceCtorEq, ↓reduceIte, Nat.reduceBEq, Int.reduceLT, Int.reduceLE, Int.reduceEq, Int.reduceBEq, Int.reduceBNe, Nat.reduceLT, Nat.reduceMul]
        refine CallV.ro true (reredosref_joined_ok G [(p0.Data.take b5_1.toNat)] v10 hv10) (by first | rfl | simp only [hkhb2, hle8, hle9, go_sem, Nat.reduceAdd, Nat.reduceEqDiff, Nat.reduceLeDiff, Nat.reduceSub, reduceCtorEq, ↓reduceIte, Nat.reduceBEq, Int.reduceLT, Int.reduceLE, Int.reduceEq, Int.reduceBEq, Int.reduceBNe, Nat.reduceLT, Nat.reduceMul, inVs_caps]) ?_
        rintro rs rfl
        refine ⟨.inr (by simp only [hkhb2, hle8, hle9, go_sem, Nat.reduceAdd, Nat.reduceEqDiff, Nat.reduceLeDiff, Nat.reduceSub, reduceCtorEq, ↓reduceIte, Nat.reduceBEq, Int.reduceLT, Int.reduceLE, Int.reduceEq, Int.reduceBEq, Int.reduceBNe, Nat.reduceLT, Nat.reduceMul, RV.plain, D.plain, D.plain0, D.plain1, List.all_map, Function.comp_def, all_tt]), ?_⟩
        simp only [Option.some.injEq] at h
        subst h
        try simp only [hkhb2, hle8, hle9, go_sem, Nat.reduceAdd, Nat.reduceEqDiff, Nat.reduceLeDiff, Nat.reduceSub, reduceCtorEq, ↓reduceIte, Nat.reduceBEq, Int.reduceLT, Int.reduceLE, Int.reduceEq, Int.reduceBEq, Int.reduceBNe, Nat.reduceLT, Nat.reduceMul, List.map_append, List.map_cons, List.map_nil, List.map_set]
def reredoslaw_TapeCrashes (p0 : Tape) (p1 : Int) : Option (Bool) := (Option.bind (reredoslaw_tapes p0) fun v1 => (Option.bind (tape_Crash v1 p1) fun v2 => (Option.bind (reredosref_TapeCrashed p0 p1) fun v3 => (withK (fun (b4_1 : Bool) => (some b4_1)) fun k5 => (if (v2.2 == v3.2) = true then (Option.bind (reredoslaw_sameTape v2.1 v3.1) fun v7 => (if v7 = true then (Option.bind (reredoslaw_sameTape v1 p0) fun v9 => (k5 v9)) else (k5 false))) else (k5 false))))))
def F10 : VFn := ⟨37, (.seq (.reg [⟨(some 2), .box 2 (.t 0), none⟩, ⟨(some 4), .mv (.c (.one (.d (.b false)))), none⟩]) (.seq (.reg [⟨(some 10), .ld true 2 (.t 2), none⟩, ⟨(some 11), .call 24 [(.t 10)], none⟩, ⟨(some 5), .alloc [(.nl 1), (.d (.i .i64 0))], none⟩, ⟨none, .st 2 (.t 5) (.t 11), none⟩]) (.seq (.reg [⟨(some 13), .ld true 2 (.t 5), none⟩, ⟨(some 14), .mv (.t 1), none⟩, ⟨(some 15), .call 29 [(.t 13), (.t 14)], none⟩, ⟨(some 12), .mv (.t 15), none⟩, ⟨(some 16), .ext (.t 12) 0, none⟩, ⟨(some 17), .ext (.t 12) 1, none⟩, ⟨(some 6), .alloc [(.nl 1), (.d (.i .i64 0))], none⟩, ⟨none, .st 2 (.t 6) (.t 16), none⟩, ⟨(some 7), .mv (.t 17), none⟩]) (.seq (.reg [⟨(some 19), .ld true 2 (.t 2), none⟩, ⟨(some 20), .mv (.t 1), none⟩, ⟨(some 21), .call 30 [(.t 19), (.t 20)], none⟩, ⟨(some 18), .mv (.t 21), none⟩, ⟨(some 22), .ext (.t 18) 0, none⟩, ⟨(some 23), .ext (.t 18) 1, none⟩, ⟨(some 8), .alloc [(.nl 1), (.d (.i .i64 0))], none⟩, ⟨none, .st 2 (.t 8) (.t 22), none⟩, ⟨(some 9), .mv (.t 23), none⟩]) (.seq (.wk (.reg [⟨(some 24), .mv (.t 7), none⟩, ⟨(some 25), .mv (.t 9), none⟩, ⟨(some 26), .bin .i .eql (.t 24) (.t 25), none⟩, ⟨(some 27), .mv (.t 26), none⟩, ⟨(some 28), .ld true 2 (.t 6), (some (27, true))⟩, ⟨(some 29), .ld true 2 (.t 8), (some (27, true))⟩, ⟨(some 30), .call 26 [(.t 28), (.t 29)], (some (27, true))⟩, ⟨(some 31), .pick (.t 27) (.t 30) (.c (.one (.d (.b false)))), none⟩, ⟨(some 32), .mv (.t 31), none⟩, ⟨(some 33), .ld true 2 (.t 5), (some (32, true))⟩, ⟨(some 34), .ld true 2 (.t 2), (some (32, true))⟩, ⟨(some 35), .call 26 [(.t 33), (.t 34)], (some (32, true))⟩, ⟨(some 36), .pick (.t 32) (.t 35) (.c (.one (.d (.b false)))), none⟩, ⟨(some 4), .mv (.t 36), none⟩])) .ret))))), [.t 4]⟩
theorem low10 : lowF Try.prog 10 = some F10.strip := by kernel_rfl
theorem fok10 : fOk Try.prog 10 = true := by kernel_rfl
theorem reredoslaw_TapeCrashes_ok (G : Nat → Option (List D)) (p0 : Tape) (p1 : Int) (r : Bool) (h : reredoslaw_TapeCrashes p0 p1 = some r) : FnRO Try.prog G 10 [.agg [.d (.l 1 (p0.Data.map encU8)), .d (.i .i64 p0.Synced)], .one (.d (.i .i64 p1))] (fun rs => rs = [.one (.b r)]) := by
  refine FnRO.of' low10 fok10 (by simp [F10]) ?_
  rw [reredoslaw_TapeCrashes] at h
  simp only [F10, go_sem, Nat.reduceAdd, Nat.reduceEqDiff, Nat.reduceLeDiff, Nat.reduceSub, reduceCtorEq, ↓reduceIte, Nat.reduceBEq, Int.reduceLT, Int.reduceLE, Int.reduceEq, Int.reduceBEq, Int.reduceBNe, Nat.reduceLT, Nat.reduceMul]
  obtain ⟨v1, hv1, h⟩ := Option.bind_eq_some_iff.1 h
  try simp only [go_sem, Nat.reduceAdd, Nat.reduceEqDiff, Nat.reduceLeDiff, Nat.reduceSub, reduceCtorEq, ↓reduceIte, Nat.reduceBEq, Int.reduceLT, Int.reduceLE, Int.reduceEq, Int.reduceBEq, Int.reduceBNe, Nat.reduceLT, Nat.reduceMul]
  refine CallV.ro false (reredoslaw_tapes_ok G p0 v1 hv1) rfl ?_
  rintro rs rfl
  refine ⟨.inl rfl, ?_⟩
  obtain ⟨v2, hv2, h⟩ := Option.bind_eq_some_iff.1 h
  try simp only [go_sem, Nat.reduceAdd, Nat.reduceEqDiff, Nat.reduceLeDiff, Nat.reduceSub, reduceCtorEq, ↓reduceIte, Nat.reduceBEq, Int.reduceLT, Int.reduceLE, Int.reduceEq, Int.reduceBEq, Int.reduceBNe, Nat.reduceLT, Nat.reduceMul]
  refine CallV.ro true (tape_Crash_ok G v1 p1 v2 hv2) (by first | rfl | simp only [go_sem, Nat.reduceAdd, Nat.reduceEqDiff, Nat.reduceLeDiff, Nat.reduceSub, reduceCtorEq, ↓reduceIte, Nat.reduceBEq, Int.reduceLT, Int.reduceLE, Int.reduceEq, Int.reduceBEq, Int.reduceBNe, Nat.reduceLT, Nat.reduceMul, inVs_caps]) ?_
  rintro rs rfl
  refine ⟨.inr (by simp only [go_sem, Nat.reduceAdd, Nat.reduceEqDiff, Nat.reduceLeDiff, Nat.reduceSub, reduceCtorEq, ↓reduceIte, Nat.reduceBEq, Int.reduceLT, Int.reduceLE, Int.reduceEq, Int.reduceBEq, Int.reduceBNe, Nat.reduceLT, Nat.reduceMul, RV.plain, D.plain, D.plain0, D.plain1, List.all_map, Function.comp_def, all_tt]), ?_⟩
  obtain ⟨v3, hv3, h⟩ := Option.bind_eq_some_iff.1 h
  try simp only [go_sem, Nat.reduceAdd, Nat.reduceEqDiff, Nat.reduceLeDiff, Nat.reduceSub, reduceCtorEq, ↓reduceIte, Nat.reduceBEq, Int.reduceLT, Int.reduceLE, Int.reduceEq, Int.reduceBEq, Int.reduceBNe, Nat.reduceLT, Nat.reduceMul]
  refine CallV.ro false (reredosref_TapeCrashed_ok G p0 p1 v3 hv3) rfl ?_
  rintro rs rfl
  refine ⟨.inl rfl, ?_⟩
  obtain ⟨k5, hk5, h⟩ := withK_lk1 h
  try simp only [go_sem, Nat.reduceAdd, Nat.reduceEqDiff, Nat.reduceLeDiff, Nat.reduceSub, reduceCtorEq, ↓reduceIte, Nat.reduceBEq, Int.reduceLT, Int.reduceLE, Int.reduceEq, Int.reduceBEq, Int.reduceBNe, Nat.reduceLT, Nat.reduceMul]
  refine join_lk Try.prog G _ _ (B := Bool) (fun b => k5 b = some r) (fun b => [(4, .one (.d (.b b)))]) (fun b => []) ?_ (fun b4_1 h => ?_)
  · rcases of_if h with ⟨hb6, h⟩ | ⟨hb6, h⟩
    · obtain ⟨v7, hv7, h⟩ := Option.bind_eq_some_iff.1 h
      try simp only [hb6, go_sem, Nat.reduceAdd, Nat.reduceEqDiff, Nat.reduceLeDiff, Nat.reduceSub, reduceCtorEq, ↓reduceIte, Nat.reduceBEq, Int.reduceLT, Int.reduceLE, Int.reduceEq, Int.reduceBEq, Int.reduceBNe, Nat.reduceLT, Nat.reduceMul]
      refine CallV.ro true (reredoslaw_sameTape_ok G v2.1 v3.1 v7 hv7) (by first | rfl | simp only [hb6, go_sem, Nat.reduceAdd, Nat.reduceEqDiff, Nat.reduceLeDiff, Nat.reduceSub, reduceCtorEq, ↓reduceIte, Nat.reduceBEq, Int.reduceLT, Int.reduceLE, Int.reduceEq, Int.reduceBEq, Int.reduceBNe, Nat.reduceLT, Nat.reduceMul, inVs_caps]) ?_
      rintro rs rfl
      refine ⟨.inr (by simp only [hb6, go_sem, Nat.reduceAdd, Nat.reduceEqDiff, Nat.reduceLeDiff, Nat.reduceSub, reduceCtorEq, ↓reduceIte, Nat.reduceBEq, Int.reduceLT, Int.reduceLE, Int.reduceEq, Int.reduceBEq, Int.reduceBNe, Nat.reduceLT, Nat.reduceMul, RV.plain, D.plain, D.plain0, D.plain1, List.all_map, Function.comp_def, all_tt]), ?_⟩
      rcases of_if h with ⟨hb8, h⟩ | ⟨hb8, h⟩
      · obtain ⟨v9, hv9, h⟩ := Option.bind_eq_some_iff.1 h
        try simp only [hb6, hb8, go_sem, Nat.reduceAdd, Nat.reduceEqDiff, Nat.reduceLeDiff, Nat.reduceSub, reduceCtorEq, ↓reduceIte, Nat.reduceBEq, Int.reduceLT, Int.reduceLE, Int.reduceEq, Int.reduceBEq, Int.reduceBNe, Nat.reduceLT, Nat.reduceMul]
        refine CallV.ro true (reredoslaw_sameTape_ok G v1 p0 v9 hv9) (by first | rfl | simp only [hb6, hb8, go_sem, Nat.reduceAdd, Nat.reduceEqDiff, Nat.reduceLeDiff, Nat.reduceSub, reduceCtorEq, ↓reduceIte, Nat.reduceBEq, Int.reduceLT, Int.reduceLE, Int.reduceEq, Int.reduceBEq, Int.reduceBNe, Nat.reduceLT, Nat.reduceMul, inVs_caps]) ?_
        rintro rs rfl
        refine ⟨.inr (by simp only [hb6, hb8, go_sem, Nat.reduceAdd, Nat.reduceEqDiff, Nat.reduceLeDiff, Nat.reduceSub, reduceCtorEq, ↓reduceIte, Nat.reduceBEq, Int.reduceLT, Int.reduceLE, Int.reduceEq, Int.reduceBEq, Int.reduceBNe, Nat.reduceLT, Nat.reduceMul, RV.plain, D.plain, D.plain0, D.plain1, List.all_map, Function.comp_def, all_tt]), ?_⟩
        try simp only [hb6, hb8, go_sem, Nat.reduceAdd, Nat.reduceEqDiff, Nat.reduceLeDiff, Nat.reduceSub, reduceCtorEq, ↓reduceIte, Nat.reduceBEq, Int.reduceLT, Int.reduceLE, Int.reduceEq, Int.reduceBEq, Int.reduceBNe, Nat.reduceLT, Nat.reduceMul]
        exact joinQ_i (v9) h [] rfl (by simp only [hb6, hb8, go_sem, Nat.reduceAdd, Nat.reduceEqDiff, Nat.reduceLeDiff, Nat.reduceSub, reduceCtorEq, ↓reduceIte, Nat.reduceBEq, Int.reduceLT, Int.reduceLE, Int.reduceEq, Int.reduceBEq, Int.reduceBNe, Nat.reduceLT, Nat.reduceMul, slotsWk, objsWk, objWk, optVOWk, SV.wk, SC.wk, cellsWk, VO.wk, Ptr.wk, ptrsWk, SC.isNl, List.map_append, List.map_cons, List.map_nil, Option.some.injEq, Prod.mk.injEq, SC.d.injEq, D.l.injEq, List.map_set]) (by simp only [hb6, hb8, go_sem, Nat.reduceAdd, Nat.reduceEqDiff, Nat.reduceLeDiff, Nat.reduceSub, reduceCtorEq, ↓reduceIte, Nat.reduceBEq, Int.reduceLT, Int.reduceLE, Int.reduceEq, Int.reduceBEq, Int.reduceBNe, Nat.reduceLT, Nat.reduceMul, slotsWk, objsWk, objWk, optVOWk, SV.wk, SC.wk, cellsWk, VO.wk, Ptr.wk, ptrsWk, SC.isNl, List.map_append, List.map_cons, List.map_nil, Option.some.injEq, Prod.mk.injEq, SC.d.injEq, D.l.injEq, List.map_set])
      · try simp only [hb6, hb8, go_sem, Nat.reduceAdd, Nat.reduceEqDiff, Nat.reduceLeDiff, Nat.reduceSub, reduceCtorEq, ↓reduceIte, Nat.reduceBEq, Int.reduceLT, Int.reduceLE, Int.reduceEq, Int.reduceBEq, Int.reduceBNe, Nat.reduceLT, Nat.reduceMul]
        exact joinQ_i (false) h [] rfl (by simp only [hb6, hb8, go_sem, Nat.reduceAdd, Nat.reduceEqDiff, Nat.reduceLeDiff, Nat.reduceSub, reduceCtorEq, ↓reduceIte, Nat.reduceBEq, Int.reduceLT, Int.reduceLE, Int.reduceEq, Int.reduceBEq, Int.reduceBNe, Nat.reduceLT, Nat.reduceMul, slotsWk, objsWk, objWk, optVOWk, SV.wk, SC.wk, cellsWk, VO.wk, Ptr.wk, ptrsWk, SC.isNl, List.map_append, List.map_cons, List.map_nil, Option.some.injEq, Prod.mk.injEq, SC.d.injEq, D.l.injEq, List.map_set]) (by simp only [hb6, hb8, go_sem, Nat.reduceAdd, Nat.reduceEqDiff, Nat.reduceLeDiff, Nat.reduceSub, reduceCtorEq, ↓reduceIte, Nat.reduceBEq, Int.reduceLT, Int.reduceLE, Int.reduceEq, Int.reduceBEq, Int.reduceBNe, Nat.reduceLT, Nat.reduceMul, slotsWk, objsWk, objWk, optVOWk, SV.wk, SC.wk, cellsWk, VO.wk, Ptr.wk, ptrsWk, SC.isNl, List.map_append, List.map_cons, List.map_nil, Option.some.injEq, Prod.mk.injEq, SC.d.injEq, D.l.injEq, List.map_set])
    · try simp only [hb6, go_sem, Nat.reduceAdd, Nat.reduceEqDiff, Nat.reduceLeDiff, Nat.reduceSub, reduceCtorEq, ↓reduceIte, Nat.reduceBEq, Int.reduceLT, Int.reduceLE, Int.reduceEq, Int.reduceBEq, Int.reduceBNe, Nat.reduceLT, Nat.reduceMul]
      exact joinQ_i (false) h [] rfl (by simp only [hb6, go_sem, Nat.reduceAdd, Nat.reduceEqDiff, Nat.reduceLeDiff, Nat.reduceSub, reduceCtorEq, ↓reduceIte, Nat.reduceBEq, Int.reduceLT, Int.reduceLE, Int.reduceEq, Int.reduceBEq, Int.reduceBNe, Nat.reduceLT, Nat.reduceMul, slotsWk, objsWk, objWk, optVOWk, SV.wk, SC.wk, cellsWk, VO.wk, Ptr.wk, ptrsWk, SC.isNl, List.map_append, List.map_cons, List.map_nil, Option.some.injEq, Prod.mk.injEq, SC.d.injEq, D.l.injEq, List.map_set]) (by simp only [hb6, go_sem, Nat.reduceAdd, Nat.reduceEqDiff, Nat.reduceLeDiff, Nat.reduceSub, reduceCtorEq, ↓reduceIte, Nat.reduceBEq, Int.reduceLT, Int.reduceLE, Int.reduceEq, Int.reduceBEq, Int.reduceBNe, Nat.reduceLT, Nat.reduceMul, slotsWk, objsWk, objWk, optVOWk, SV.wk, SC.wk, cellsWk, VO.wk, Ptr.wk, ptrsWk, SC.isNl, List.map_append, List.map_cons, List.map_nil, Option.some.injEq, Prod.mk.injEq, SC.d.injEq, D.l.injEq, List.map_set])
  · try dsimp only at h
    rw [hk5] at h
    simp only [Option.some.injEq] at h
    subst h
    try simp only [go_sem, Nat.reduceAdd, Nat.reduceEqDiff, Nat.reduceLeDiff, Nat.reduceSub, reduceCtorEq, ↓reduceIte, Nat.reduceBEq, Int.reduceLT, Int.reduceLE, Int.reduceEq, Int.reduceBEq, Int.reduceBNe, Nat.reduceLT, Nat.reduceMul, List.map_append, List.map_cons, List.map_nil, List.map_set]
end Go.V.Dec
