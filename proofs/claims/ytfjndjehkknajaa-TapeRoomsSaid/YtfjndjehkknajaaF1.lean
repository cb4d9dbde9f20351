/- What Go's functions come to, as plain functions: part 1; no condition. -/
import Derived.Test.YtfjndjehkknajaaRows
import Derived.Test.YtfjndjehkknajaaVC
set_option linter.unusedVariables false
set_option linter.unusedSimpArgs false
namespace Go.V.Dec
open Go Go.Proofs
set_option maxRecDepth 100000
def encI (n : Int) : List D := [.i .i64 n]
def encU8 (n : Int) : List D := [.i .u8 n]
def encB (b : Bool) : List D := [.b b]
def encS (b : ByteArray) : List D := [.s b]
def encL {α : Type} (sz : Nat) (f : α → List D) (l : List α) : List D := [.l sz (l.map f)]
structure Tape where
  Data : List Int
  Synced : Int
  deriving Inhabited
def Tape.enc (x : Tape) : List D := [.l 1 (x.Data.map encU8), .i .i64 x.Synced]
def Tape.encO (x : Tape) : List D := [.o 1 (x.Data.map encU8), .i .i64 x.Synced]
attribute [go_sem] encI encU8 encB encS encL Tape.enc Tape.encO
theorem low52 : lowF Try.prog 52 = some (cloneV 1 1 [(.d (.i .u8 0))]) := by kernel_rfl
theorem fok52 : fOk Try.prog 52 = true := by kernel_rfl
theorem clone52_ok (G : Nat → Option (List D)) (p0 r : List Int) (h : cloneF 1 p0 = some r) : FnRO Try.prog G 52 [.one (.d (.l 1 (p0.map encU8)))] (fun rs => rs = [.one (.o 1 (r.map encU8))]) := clone_ok low52 fok52 G encU8 p0 r h
def tape_open (p0 : Tape) : Option (Tape × Bool) := (if (decide (p0.Synced < 0)) = true then (some ((Tape.mk [] 0), false)) else (if (decide (p0.Synced > ((p0.Data.length : Nat) : Int))) = true then (some ((Tape.mk [] 0), false)) else (if (decide (((p0.Data.length : Nat) : Int) > 6000)) = true then (some ((Tape.mk [] 0), false)) else (Option.bind (cloneF 1 p0.Data) fun v6 => (some ((Tape.mk v6 p0.Synced), true))))))
def F41 : VFn := ⟨28, (.seq (.reg [⟨(some 1), .box 2 (.t 0), none⟩, ⟨(some 2), .alloc [(.nl 1), (.d (.i .i64 0))], none⟩, ⟨(some 3), .mv (.c (.one (.d (.b false)))), none⟩]) (.seq (.seq (.reg [⟨(some 4), .fa 1 (.t 1), none⟩, ⟨(some 5), .ld false 1 (.t 4), none⟩, ⟨(some 6), .bin .i .lss (.t 5) (.c (.one (.d (.i .i64 0)))), none⟩, ⟨(some 7), .mv (.t 6), none⟩, ⟨(some 8), .fa 1 (.t 1), (some (7, false))⟩, ⟨(some 9), .ld false 1 (.t 8), (some (7, false))⟩, ⟨(some 10), .fa 0 (.t 1), (some (7, false))⟩, ⟨(some 11), .ld false 1 (.t 10), (some (7, false))⟩, ⟨(some 12), .len (.t 11), (some (7, false))⟩, ⟨(some 13), .bin .i .gtr (.t 9) (.t 12), (some (7, false))⟩, ⟨(some 14), .pick (.t 7) (.c (.one (.d (.b true)))) (.t 13), none⟩, ⟨(some 15), .mv (.t 14), none⟩, ⟨(some 16), .fa 0 (.t 1), (some (15, false))⟩, ⟨(some 17), .ld false 1 (.t 16), (some (15, false))⟩, ⟨(some 18), .len (.t 17), (some (15, false))⟩, ⟨(some 19), .bin .i .gtr (.t 18) (.c (.one (.d (.i .i64 6000)))), (some (15, false))⟩, ⟨(some 20), .pick (.t 15) (.c (.one (.d (.b true)))) (.t 19), none⟩]) (.cond (.t 20) (.seq (.reg [⟨(some 21), .build [(.nl 1), (.d (.i .i64 0))] [], none⟩, ⟨none, .st 2 (.t 2) (.t 21), none⟩, ⟨(some 3), .mv (.c (.one (.d (.b false)))), none⟩]) .ret) .skip)) (.seq (.draw [⟨⟨(some 22), .fa 0 (.t 1), none⟩, [], []⟩, ⟨⟨(some 23), .ld false 1 (.t 22), none⟩, [0], []⟩, ⟨⟨(some 24), .call 52 [(.t 23)], none⟩, [1, 0], []⟩, ⟨⟨(some 25), .fa 1 (.t 1), none⟩, [], [2]⟩, ⟨⟨(some 26), .ld false 1 (.t 25), none⟩, [3], [2]⟩, ⟨⟨(some 27), .build [(.nl 1), (.d (.i .i64 0))] [(0, 1, (.t 24)), (1, 1, (.t 26))], none⟩, [2, 1, 0, 4, 3], []⟩, ⟨⟨none, .st 2 (.t 2) (.t 27), none⟩, [5, 2, 1, 0, 4, 3], []⟩, ⟨⟨(some 3), .mv (.c (.one (.d (.b true)))), none⟩, [6, 5, 2, 1, 0, 4, 3], []⟩]) .ret))), [.cell 2 true 2, .t 3]⟩
theorem low41 : lowF Try.prog 41 = some F41.strip := by kernel_rfl
theorem fok41 : fOk Try.prog 41 = true := by kernel_rfl
theorem tape_open_ok (G : Nat → Option (List D)) (p0 : Tape) (r : Tape × Bool) (h : tape_open p0 = some r) : FnRO Try.prog G 41 [.agg [.d (.l 1 (p0.Data.map encU8)), .d (.i .i64 p0.Synced)]] (fun rs => rs = [.agg (r.1.encO), .one (.b r.2)]) := by
  refine FnRO.of' low41 fok41 (by simp [F41]) ?_
  rw [tape_open] at h
  simp only [F41, go_sem, Nat.reduceAdd, Nat.reduceEqDiff, Nat.reduceLeDiff, Nat.reduceSub, reduceCtorEq, ↓reduceIte, Nat.reduceBEq, Int.reduceLT, Int.reduceLE, Int.reduceEq, Int.reduceBEq, Int.reduceBNe, Nat.reduceLT, Nat.reduceMul]
  rcases of_if h with ⟨hb1, h⟩ | ⟨hb1, h⟩
  · have hkhb1 := of_decide_eq_true hb1
    simp only [Option.some.injEq] at h
    subst h
    try simp only [hb1, hkhb1, go_sem, Nat.reduceAdd, Nat.reduceEqDiff, Nat.reduceLeDiff, Nat.reduceSub, reduceCtorEq, ↓reduceIte, Nat.reduceBEq, Int.reduceLT, Int.reduceLE, Int.reduceEq, Int.reduceBEq, Int.reduceBNe, Nat.reduceLT, Nat.reduceMul, List.map_append, List.map_cons, List.map_nil, List.map_set]
  · try simp only [hb1, go_sem, Nat.reduceAdd, Nat.reduceEqDiff, Nat.reduceLeDiff, Nat.reduceSub, reduceCtorEq, ↓reduceIte, Nat.reduceBEq, Int.reduceLT, Int.reduceLE, Int.reduceEq, Int.reduceBEq, Int.reduceBNe, Nat.reduceLT, Nat.reduceMul]
    intro hl2
    rcases of_if h with ⟨hb3, h⟩ | ⟨hb3, h⟩
    · simp only [Option.some.injEq] at h
      subst h
      try simp only [hb1, hb3, go_sem, Nat.reduceAdd, Nat.reduceEqDiff, Nat.reduceLeDiff, Nat.reduceSub, reduceCtorEq, ↓reduceIte, Nat.reduceBEq, Int.reduceLT, Int.reduceLE, Int.reduceEq, Int.reduceBEq, Int.reduceBNe, Nat.reduceLT, Nat.reduceMul, List.map_append, List.map_cons, List.map_nil, List.map_set]
    · try simp only [hb1, hb3, go_sem, Nat.reduceAdd, Nat.reduceEqDiff, Nat.reduceLeDiff, Nat.reduceSub, reduceCtorEq, ↓reduceIte, Nat.reduceBEq, Int.reduceLT, Int.reduceLE, Int.reduceEq, Int.reduceBEq, Int.reduceBNe, Nat.reduceLT, Nat.reduceMul]
      intro hl4
      rcases of_if h with ⟨hb5, h⟩ | ⟨hb5, h⟩
      · simp only [Option.some.injEq] at h
        subst h
        try simp only [hb1, hb3, hb5, go_sem, Nat.reduceAdd, Nat.reduceEqDiff, Nat.reduceLeDiff, Nat.reduceSub, reduceCtorEq, ↓reduceIte, Nat.reduceBEq, Int.reduceLT, Int.reduceLE, Int.reduceEq, Int.reduceBEq, Int.reduceBNe, Nat.reduceLT, Nat.reduceMul, List.map_append, List.map_cons, List.map_nil, List.map_set]
      · obtain ⟨v6, hv6, h⟩ := Option.bind_eq_some_iff.1 h
        try simp only [hb1, hb3, hb5, go_sem, Nat.reduceAdd, Nat.reduceEqDiff, Nat.reduceLeDiff, Nat.reduceSub, reduceCtorEq, ↓reduceIte, Nat.reduceBEq, Int.reduceLT, Int.reduceLE, Int.reduceEq, Int.reduceBEq, Int.reduceBNe, Nat.reduceLT, Nat.reduceMul]
        refine ⟨_, _, CallD.ro false (clone52_ok G p0.Data v6 hv6) rfl (.inl rfl) rfl, ?_⟩
        simp only [Option.some.injEq] at h
        subst h
        try simp only [hb1, hb3, hb5, go_sem, Nat.reduceAdd, Nat.reduceEqDiff, Nat.reduceLeDiff, Nat.reduceSub, reduceCtorEq, ↓reduceIte, Nat.reduceBEq, Int.reduceLT, Int.reduceLE, Int.reduceEq, Int.reduceBEq, Int.reduceBNe, Nat.reduceLT, Nat.reduceMul, List.map_append, List.map_cons, List.map_nil, List.map_set]
def tape_Room (p0 : Tape) : Option (Int × Int) := (Option.bind (tape_open p0) fun v1 => (if (!v1.2) = true then (some (0, 9)) else (some (IntKind.i64.wrap (6000 - ((p0.Data.length : Nat) : Int)), 0))))
def F21 : VFn := ⟨17, (.seq (.reg [⟨(some 1), .box 2 (.t 0), none⟩, ⟨(some 2), .mv (.c (.one (.d (.i .i64 0)))), none⟩, ⟨(some 3), .mv (.c (.one (.d (.i .i64 0)))), none⟩]) (.seq (.seq (.reg [⟨(some 7), .ld true 2 (.t 1), none⟩, ⟨(some 8), .call 41 [(.t 7)], none⟩, ⟨(some 6), .mv (.t 8), none⟩, ⟨(some 9), .ext (.t 6) 0, none⟩, ⟨(some 10), .ext (.t 6) 1, none⟩, ⟨(some 4), .alloc [(.nl 1), (.d (.i .i64 0))], none⟩, ⟨none, .st 2 (.t 4) (.t 9), none⟩, ⟨(some 5), .mv (.t 10), none⟩]) (.seq (.reg [⟨(some 11), .mv (.t 5), none⟩, ⟨(some 12), .un .not (.t 11), none⟩]) (.cond (.t 12) (.seq (.reg [⟨(some 2), .mv (.c (.one (.d (.i .i64 0)))), none⟩, ⟨(some 3), .mv (.c (.one (.d (.i .i64 9)))), none⟩]) .ret) .skip))) (.seq (.reg [⟨(some 13), .fa 0 (.t 1), none⟩, ⟨(some 14), .ld false 1 (.t 13), none⟩, ⟨(some 15), .len (.t 14), none⟩, ⟨(some 16), .bin .i .sub (.c (.one (.d (.i .i64 6000)))) (.t 15), none⟩, ⟨(some 2), .mv (.t 16), none⟩, ⟨(some 3), .mv (.c (.one (.d (.i .i64 0)))), none⟩]) .ret))), [.t 2, .t 3]⟩
theorem low21 : lowF Try.prog 21 = some F21.strip := by kernel_rfl
theorem fok21 : fOk Try.prog 21 = true := by kernel_rfl
theorem tape_Room_ok (G : Nat → Option (List D)) (p0 : Tape) (r : Int × Int) (h : tape_Room p0 = some r) : FnRO Try.prog G 21 [.agg [.d (.l 1 (p0.Data.map encU8)), .d (.i .i64 p0.Synced)]] (fun rs => rs = [.one (.i .i64 r.1), .one (.i .i64 r.2)]) := by
  refine FnRO.of' low21 fok21 (by simp [F21]) ?_
  rw [tape_Room] at h
  simp only [F21, go_sem, Nat.reduceAdd, Nat.reduceEqDiff, Nat.reduceLeDiff, Nat.reduceSub, reduceCtorEq, ↓reduceIte, Nat.reduceBEq, Int.reduceLT, Int.reduceLE, Int.reduceEq, Int.reduceBEq, Int.reduceBNe, Nat.reduceLT, Nat.reduceMul]
  obtain ⟨v1, hv1, h⟩ := Option.bind_eq_some_iff.1 h
  try simp only [go_sem, Nat.reduceAdd, Nat.reduceEqDiff, Nat.reduceLeDiff, Nat.reduceSub, reduceCtorEq, ↓reduceIte, Nat.reduceBEq, Int.reduceLT, Int.reduceLE, Int.reduceEq, Int.reduceBEq, Int.reduceBNe, Nat.reduceLT, Nat.reduceMul]
  refine CallV.ro false (tape_open_ok G p0 v1 hv1) rfl ?_
  rintro rs rfl
  refine ⟨.inl rfl, ?_⟩
  rcases of_if h with ⟨hb2, h⟩ | ⟨hb2, h⟩
  · have hkhb2 := not_eq_t hb2
    simp only [Option.some.injEq] at h
    subst h
    try simp only [hb2, hkhb2, go_sem, Nat.reduceAdd, Nat.reduceEqDiff, Nat.reduceLeDiff, Nat.reduceSub, reduceCtorEq, ↓reduceIte, Nat.reduceBEq, Int.reduceLT, Int.reduceLE, Int.reduceEq, Int.reduceBEq, Int.reduceBNe, Nat.reduceLT, Nat.reduceMul, List.map_append, List.map_cons, List.map_nil, List.map_set]
  · have hkhb2 := not_eq_f hb2
    try simp only [hb2, hkhb2, go_sem, Nat.reduceAdd, Nat.reduceEqDiff, Nat.reduceLeDiff, Nat.reduceSub, reduceCtorEq, ↓reduceIte, Nat.reduceBEq, Int.reduceLT, Int.reduceLE, Int.reduceEq, Int.reduceBEq, Int.reduceBNe, Nat.reduceLT, Nat.reduceMul]
    intro hl3
    simp only [Option.some.injEq] at h
    subst h
    try simp only [hb2, hkhb2, go_sem, Nat.reduceAdd, Nat.reduceEqDiff, Nat.reduceLeDiff, Nat.reduceSub, reduceCtorEq, ↓reduceIte, Nat.reduceBEq, Int.reduceLT, Int.reduceLE, Int.reduceEq, Int.reduceBEq, Int.reduceBNe, Nat.reduceLT, Nat.reduceMul, List.map_append, List.map_cons, List.map_nil, List.map_set]
def reredosref_In (p0 : Int) (p1 : Int) (p2 : Int) : Option (Bool) := (withK (fun (b1_1 : Bool) => (some b1_1)) fun k2 => (if (decide (p0 ≥ p1)) = true then (k2 (decide (p0 ≤ p2))) else (k2 false)))
def F46 : VFn := ⟨15, (.seq (.reg [⟨(some 6), .mv (.c (.one (.d (.b false)))), none⟩]) (.seq (.wk (.reg [⟨(some 7), .mv (.t 0), none⟩, ⟨(some 8), .mv (.t 1), none⟩, ⟨(some 9), .bin .i .geq (.t 7) (.t 8), none⟩, ⟨(some 10), .mv (.t 9), none⟩, ⟨(some 11), .mv (.t 0), (some (10, true))⟩, ⟨(some 12), .mv (.t 2), (some (10, true))⟩, ⟨(some 13), .bin .i .leq (.t 11) (.t 12), (some (10, true))⟩, ⟨(some 14), .pick (.t 10) (.t 13) (.c (.one (.d (.b false)))), none⟩, ⟨(some 6), .mv (.t 14), none⟩])) .ret)), [.t 6]⟩
theorem low46 : lowF Try.prog 46 = some F46.strip := by kernel_rfl
theorem fok46 : fOk Try.prog 46 = true := by kernel_rfl
theorem reredosref_In_ok (G : Nat → Option (List D)) (p0 : Int) (p1 : Int) (p2 : Int) (r : Bool) (h : reredosref_In p0 p1 p2 = some r) : FnRO Try.prog G 46 [.one (.d (.i .i64 p0)), .one (.d (.i .i64 p1)), .one (.d (.i .i64 p2))] (fun rs => rs = [.one (.b r)]) := by
  refine FnRO.of' low46 fok46 (by simp [F46]) ?_
  rw [reredosref_In] at h
  simp only [F46, go_sem, Nat.reduceAdd, Nat.reduceEqDiff, Nat.reduceLeDiff, Nat.reduceSub, reduceCtorEq, ↓reduceIte, Nat.reduceBEq, Int.reduceLT, Int.reduceLE, Int.reduceEq, Int.reduceBEq, Int.reduceBNe, Nat.reduceLT, Nat.reduceMul]
  obtain ⟨k2, hk2, h⟩ := withK_lk1 h
  try simp only [go_sem, Nat.reduceAdd, Nat.reduceEqDiff, Nat.reduceLeDiff, Nat.reduceSub, reduceCtorEq, ↓reduceIte, Nat.reduceBEq, Int.reduceLT, Int.reduceLE, Int.reduceEq, Int.reduceBEq, Int.reduceBNe, Nat.reduceLT, Nat.reduceMul]
  refine join_lk Try.prog G _ _ (B := Bool) (fun b => k2 b = some r) (fun b => [(6, .one (.d (.b b)))]) (fun b => []) ?_ (fun b1_1 h => ?_)
  · rcases of_if h with ⟨hb3, h⟩ | ⟨hb3, h⟩
    · try simp only [hb3, go_sem, Nat.reduceAdd, Nat.reduceEqDiff, Nat.reduceLeDiff, Nat.reduceSub, reduceCtorEq, ↓reduceIte, Nat.reduceBEq, Int.reduceLT, Int.reduceLE, Int.reduceEq, Int.reduceBEq, Int.reduceBNe, Nat.reduceLT, Nat.reduceMul]
      exact joinQ_i (decide (p0 ≤ p2)) h [] rfl (by simp only [hb3, go_sem, Nat.reduceAdd, Nat.reduceEqDiff, Nat.reduceLeDiff, Nat.reduceSub, reduceCtorEq, ↓reduceIte, Nat.reduceBEq, Int.reduceLT, Int.reduceLE, Int.reduceEq, Int.reduceBEq, Int.reduceBNe, Nat.reduceLT, Nat.reduceMul, slotsWk, objsWk, objWk, optVOWk, SV.wk, SC.wk, cellsWk, VO.wk, Ptr.wk, ptrsWk, SC.isNl, List.map_append, List.map_cons, List.map_nil, Option.some.injEq, Prod.mk.injEq, SC.d.injEq, D.l.injEq, List.map_set]) (by simp only [hb3, go_sem, Nat.reduceAdd, Nat.reduceEqDiff, Nat.reduceLeDiff, Nat.reduceSub, reduceCtorEq, ↓reduceIte, Nat.reduceBEq, Int.reduceLT, Int.reduceLE, Int.reduceEq, Int.reduceBEq, Int.reduceBNe, Nat.reduceLT, Nat.reduceMul, slotsWk, objsWk, objWk, optVOWk, SV.wk, SC.wk, cellsWk, VO.wk, Ptr.wk, ptrsWk, SC.isNl, List.map_append, List.map_cons, List.map_nil, Option.some.injEq, Prod.mk.injEq, SC.d.injEq, D.l.injEq, List.map_set])
    · try simp only [hb3, go_sem, Nat.reduceAdd, Nat.reduceEqDiff, Nat.reduceLeDiff, Nat.reduceSub, reduceCtorEq, ↓reduceIte, Nat.reduceBEq, Int.reduceLT, Int.reduceLE, Int.reduceEq, Int.reduceBEq, Int.reduceBNe, Nat.reduceLT, Nat.reduceMul]
      exact joinQ_i (false) h [] rfl (by simp only [hb3, go_sem, Nat.reduceAdd, Nat.reduceEqDiff, Nat.reduceLeDiff, Nat.reduceSub, reduceCtorEq, ↓reduceIte, Nat.reduceBEq, Int.reduceLT, Int.reduceLE, Int.reduceEq, Int.reduceBEq, Int.reduceBNe, Nat.reduceLT, Nat.reduceMul, slotsWk, objsWk, objWk, optVOWk, SV.wk, SC.wk, cellsWk, VO.wk, Ptr.wk, ptrsWk, SC.isNl, List.map_append, List.map_cons, List.map_nil, Option.some.injEq, Prod.mk.injEq, SC.d.injEq, D.l.injEq, List.map_set]) (by simp only [hb3, go_sem, Nat.reduceAdd, Nat.reduceEqDiff, Nat.reduceLeDiff, Nat.reduceSub, reduceCtorEq, ↓reduceIte, Nat.reduceBEq, Int.reduceLT, Int.reduceLE, Int.reduceEq, Int.reduceBEq, Int.reduceBNe, Nat.reduceLT, Nat.reduceMul, slotsWk, objsWk, objWk, optVOWk, SV.wk, SC.wk, cellsWk, VO.wk, Ptr.wk, ptrsWk, SC.isNl, List.map_append, List.map_cons, List.map_nil, Option.some.injEq, Prod.mk.injEq, SC.d.injEq, D.l.injEq, List.map_set])
  · try dsimp only at h
    rw [hk2] at h
    simp only [Option.some.injEq] at h
    subst h
    try simp only [go_sem, Nat.reduceAdd, Nat.reduceEqDiff, Nat.reduceLeDiff, Nat.reduceSub, reduceCtorEq, ↓reduceIte, Nat.reduceBEq, Int.reduceLT, Int.reduceLE, Int.reduceEq, Int.reduceBEq, Int.reduceBNe, Nat.reduceLT, Nat.reduceMul, List.map_append, List.map_cons, List.map_nil, List.map_set]
def reredosref_TapeMay (p0 : Tape) : Option (Bool) := (withK (fun (b1_1 : Bool) => (some b1_1)) fun k2 => (if (decide (((p0.Data.length : Nat) : Int) ≤ 6000)) = true then (Option.bind (reredosref_In p0.Synced 0 ((p0.Data.length : Nat) : Int)) fun v6 => (k2 v6)) else (k2 false)))
def F42 : VFn := ⟨15, (.seq (.reg [⟨(some 1), .box 2 (.t 0), none⟩, ⟨(some 2), .mv (.c (.one (.d (.b false)))), none⟩]) (.seq (.wk (.reg [⟨(some 3), .fa 0 (.t 1), none⟩, ⟨(some 4), .ld false 1 (.t 3), none⟩, ⟨(some 5), .len (.t 4), none⟩, ⟨(some 6), .bin .i .leq (.t 5) (.c (.one (.d (.i .i64 6000)))), none⟩, ⟨(some 7), .mv (.t 6), none⟩, ⟨(some 8), .fa 1 (.t 1), (some (7, true))⟩, ⟨(some 9), .ld false 1 (.t 8), (some (7, true))⟩, ⟨(some 10), .fa 0 (.t 1), (some (7, true))⟩, ⟨(some 11), .ld false 1 (.t 10), (some (7, true))⟩, ⟨(some 12), .len (.t 11), (some (7, true))⟩, ⟨(some 13), .call 46 [(.t 9), (.c (.one (.d (.i .i64 0)))), (.t 12)], (some (7, true))⟩, ⟨(some 14), .pick (.t 7) (.t 13) (.c (.one (.d (.b false)))), none⟩, ⟨(some 2), .mv (.t 14), none⟩])) .ret)), [.t 2]⟩
theorem low42 : lowF Try.prog 42 = some F42.strip := by kernel_rfl
theorem fok42 : fOk Try.prog 42 = true := by kernel_rfl
theorem reredosref_TapeMay_ok (G : Nat → Option (List D)) (p0 : Tape) (r : Bool) (h : reredosref_TapeMay p0 = some r) : FnRO Try.prog G 42 [.agg [.d (.l 1 (p0.Data.map encU8)), .d (.i .i64 p0.Synced)]] (fun rs => rs = [.one (.b r)]) := by
  refine FnRO.of' low42 fok42 (by simp [F42]) ?_
  rw [reredosref_TapeMay] at h
  simp only [F42, go_sem, Nat.reduceAdd, Nat.reduceEqDiff, Nat.reduceLeDiff, Nat.reduceSub, reduceCtorEq, ↓reduceIte, Nat.reduceBEq, Int.reduceLT, Int.reduceLE, Int.reduceEq, Int.reduceBEq, Int.reduceBNe, Nat.reduceLT, Nat.reduceMul]
  obtain ⟨k2, hk2, h⟩ := withK_lk1 h
  try simp only [go_sem, Nat.reduceAdd, Nat.reduceEqDiff, Nat.reduceLeDiff, Nat.reduceSub, reduceCtorEq, ↓reduceIte, Nat.reduceBEq, Int.reduceLT, Int.reduceLE, Int.reduceEq, Int.reduceBEq, Int.reduceBNe, Nat.reduceLT, Nat.reduceMul]
  refine join_lk Try.prog G _ _ (B := Bool) (fun b => k2 b = some r) (fun b => [(2, .one (.d (.b b)))]) (fun b => []) ?_ (fun b1_1 h => ?_)
  · try simp only [go_sem, Nat.reduceAdd, Nat.reduceEqDiff, Nat.reduceLeDiff, Nat.reduceSub, reduceCtorEq, ↓reduceIte, Nat.reduceBEq, Int.reduceLT, Int.reduceLE, Int.reduceEq, Int.reduceBEq, Int.reduceBNe, Nat.reduceLT, Nat.reduceMul]
    intro hl3
    rcases of_if h with ⟨hb4, h⟩ | ⟨hb4, h⟩
    · try simp only [hb4, go_sem, Nat.reduceAdd, Nat.reduceEqDiff, Nat.reduceLeDiff, Nat.reduceSub, reduceCtorEq, ↓reduceIte, Nat.reduceBEq, Int.reduceLT, Int.reduceLE, Int.reduceEq, Int.reduceBEq, Int.reduceBNe, Nat.reduceLT, Nat.reduceMul]
      intro hl5
      obtain ⟨v6, hv6, h⟩ := Option.bind_eq_some_iff.1 h
      try simp only [hb4, go_sem, Nat.reduceAdd, Nat.reduceEqDiff, Nat.reduceLeDiff, Nat.reduceSub, reduceCtorEq, ↓reduceIte, Nat.reduceBEq, Int.reduceLT, Int.reduceLE, Int.reduceEq, Int.reduceBEq, Int.reduceBNe, Nat.reduceLT, Nat.reduceMul]
      refine CallV.ro false (reredosref_In_ok G p0.Synced 0 ((p0.Data.length : Nat) : Int) v6 hv6) rfl ?_
      rintro rs rfl
      refine ⟨.inl rfl, ?_⟩
      try simp only [hb4, go_sem, Nat.reduceAdd, Nat.reduceEqDiff, Nat.reduceLeDiff, Nat.reduceSub, reduceCtorEq, ↓reduceIte, Nat.reduceBEq, Int.reduceLT, Int.reduceLE, Int.reduceEq, Int.reduceBEq, Int.reduceBNe, Nat.reduceLT, Nat.reduceMul]
      exact joinQ_i (v6) h [] rfl (by simp only [hb4, go_sem, Nat.reduceAdd, Nat.reduceEqDiff, Nat.reduceLeDiff, Nat.reduceSub, reduceCtorEq, ↓reduceIte, Nat.reduceBEq, Int.reduceLT, Int.reduceLE, Int.reduceEq, Int.reduceBEq, Int.reduceBNe, Nat.reduceLT, Nat.reduceMul, slotsWk, objsWk, objWk, optVOWk, SV.wk, SC.wk, cellsWk, VO.wk, Ptr.wk, ptrsWk, SC.isNl, List.map_append, List.map_cons, List.map_nil, Option.some.injEq, Prod.mk.injEq, SC.d.injEq, D.l.injEq, List.map_set]) (by simp only [hb4, go_sem, Nat.reduceAdd, Nat.reduceEqDiff, Nat.reduceLeDiff, Nat.reduceSub, reduceCtorEq, ↓reduceIte, Nat.reduceBEq, Int.reduceLT, Int.reduceLE, Int.reduceEq, Int.reduceBEq, Int.reduceBNe, Nat.reduceLT, Nat.reduceMul, slotsWk, objsWk, objWk, optVOWk, SV.wk, SC.wk, cellsWk, VO.wk, Ptr.wk, ptrsWk, SC.isNl, List.map_append, List.map_cons, List.map_nil, Option.some.injEq, Prod.mk.injEq, SC.d.injEq, D.l.injEq, List.map_set])
    · try simp only [hb4, go_sem, Nat.reduceAdd, Nat.reduceEqDiff, Nat.reduceLeDiff, Nat.reduceSub, reduceCtorEq, ↓reduceIte, Nat.reduceBEq, Int.reduceLT, Int.reduceLE, Int.reduceEq, Int.reduceBEq, Int.reduceBNe, Nat.reduceLT, Nat.reduceMul]
      exact joinQ_i (false) h [] rfl (by simp only [hb4, go_sem, Nat.reduceAdd, Nat.reduceEqDiff, Nat.reduceLeDiff, Nat.reduceSub, reduceCtorEq, ↓reduceIte, Nat.reduceBEq, Int.reduceLT, Int.reduceLE, Int.reduceEq, Int.reduceBEq, Int.reduceBNe, Nat.reduceLT, Nat.reduceMul, slotsWk, objsWk, objWk, optVOWk, SV.wk, SC.wk, cellsWk, VO.wk, Ptr.wk, ptrsWk, SC.isNl, List.map_append, List.map_cons, List.map_nil, Option.some.injEq, Prod.mk.injEq, SC.d.injEq, D.l.injEq, List.map_set]) (by simp only [hb4, go_sem, Nat.reduceAdd, Nat.reduceEqDiff, Nat.reduceLeDiff, Nat.reduceSub, reduceCtorEq, ↓reduceIte, Nat.reduceBEq, Int.reduceLT, Int.reduceLE, Int.reduceEq, Int.reduceBEq, Int.reduceBNe, Nat.reduceLT, Nat.reduceMul, slotsWk, objsWk, objWk, optVOWk, SV.wk, SC.wk, cellsWk, VO.wk, Ptr.wk, ptrsWk, SC.isNl, List.map_append, List.map_cons, List.map_nil, Option.some.injEq, Prod.mk.injEq, SC.d.injEq, D.l.injEq, List.map_set])
  · try dsimp only at h
    rw [hk2] at h
    simp only [Option.some.injEq] at h
    subst h
    try simp only [go_sem, Nat.reduceAdd, Nat.reduceEqDiff, Nat.reduceLeDiff, Nat.reduceSub, reduceCtorEq, ↓reduceIte, Nat.reduceBEq, Int.reduceLT, Int.reduceLE, Int.reduceEq, Int.reduceBEq, Int.reduceBNe, Nat.reduceLT, Nat.reduceMul, List.map_append, List.map_cons, List.map_nil, List.map_set]
def reredosref_RoomOf (p0 : Tape) : Option (Int × Int) := (Option.bind (reredosref_TapeMay p0) fun v1 => (if (!v1) = true then (some (0, 9)) else (some (IntKind.i64.wrap (6000 - ((p0.Data.length : Nat) : Int)), 0))))
def F22 : VFn := ⟨11, (.seq (.reg [⟨(some 1), .box 2 (.t 0), none⟩, ⟨(some 2), .mv (.c (.one (.d (.i .i64 0)))), none⟩, ⟨(some 3), .mv (.c (.one (.d (.i .i64 0)))), none⟩]) (.seq (.seq (.reg [⟨(some 4), .ld true 2 (.t 1), none⟩, ⟨(some 5), .call 42 [(.t 4)], none⟩, ⟨(some 6), .un .not (.t 5), none⟩]) (.cond (.t 6) (.seq (.reg [⟨(some 2), .mv (.c (.one (.d (.i .i64 0)))), none⟩, ⟨(some 3), .mv (.c (.one (.d (.i .i64 9)))), none⟩]) .ret) .skip)) (.seq (.reg [⟨(some 7), .fa 0 (.t 1), none⟩, ⟨(some 8), .ld false 1 (.t 7), none⟩, ⟨(some 9), .len (.t 8), none⟩, ⟨(some 10), .bin .i .sub (.c (.one (.d (.i .i64 6000)))) (.t 9), none⟩, ⟨(some 2), .mv (.t 10), none⟩, ⟨(some 3), .mv (.c (.one (.d (.i .i64 0)))), none⟩]) .ret))), [.t 2, .t 3]⟩
theorem low22 : lowF Try.prog 22 = some F22.strip := by kernel_rfl
theorem fok22 : fOk Try.prog 22 = true := by kernel_rfl
theorem reredosref_RoomOf_ok (G : Nat → Option (List D)) (p0 : Tape) (r : Int × Int) (h : reredosref_RoomOf p0 = some r) : FnRO Try.prog G 22 [.agg [.d (.l 1 (p0.Data.map encU8)), .d (.i .i64 p0.Synced)]] (fun rs => rs = [.one (.i .i64 r.1), .one (.i .i64 r.2)]) := by
  refine FnRO.of' low22 fok22 (by simp [F22]) ?_
  rw [reredosref_RoomOf] at h
  simp only [F22, go_sem, Nat.reduceAdd, Nat.reduceEqDiff, Nat.reduceLeDiff, Nat.reduceSub, reduceCtorEq, ↓reduceIte, Nat.reduceBEq, Int.reduceLT, Int.reduceLE, Int.reduceEq, Int.reduceBEq, Int.reduceBNe, Nat.reduceLT, Nat.reduceMul]
  obtain ⟨v1, hv1, h⟩ := Option.bind_eq_some_iff.1 h
  try simp only [go_sem, Nat.reduceAdd, Nat.reduceEqDiff, Nat.reduceLeDiff, Nat.reduceSub, reduceCtorEq, ↓reduceIte, Nat.reduceBEq, Int.reduceLT, Int.reduceLE, Int.reduceEq, Int.reduceBEq, Int.reduceBNe, Nat.reduceLT, Nat.reduceMul]
  refine CallV.ro false (reredosref_TapeMay_ok G p0 v1 hv1) rfl ?_
  rintro rs rfl
  refine ⟨.inl rfl, ?_⟩
  rcases of_if h with ⟨hb2, h⟩ | ⟨hb2, h⟩
  · have hkhb2 := not_eq_t hb2
    simp only [Option.some.injEq] at h
    subst h
    try simp only [hb2, hkhb2, go_sem, Nat.reduceAdd, Nat.reduceEqDiff, Nat.reduceLeDiff, Nat.reduceSub, reduceCtorEq, ↓reduceIte, Nat.reduceBEq, Int.reduceLT, Int.reduceLE, Int.reduceEq, Int.reduceBEq, Int.reduceBNe, Nat.reduceLT, Nat.reduceMul, List.map_append, List.map_cons, List.map_nil, List.map_set]
  · have hkhb2 := not_eq_f hb2
    try simp only [hb2, hkhb2, go_sem, Nat.reduceAdd, Nat.reduceEqDiff, Nat.reduceLeDiff, Nat.reduceSub, reduceCtorEq, ↓reduceIte, Nat.reduceBEq, Int.reduceLT, Int.reduceLE, Int.reduceEq, Int.reduceBEq, Int.reduceBNe, Nat.reduceLT, Nat.reduceMul]
    intro hl3
    simp only [Option.some.injEq] at h
    subst h
    try simp only [hb2, hkhb2, go_sem, Nat.reduceAdd, Nat.reduceEqDiff, Nat.reduceLeDiff, Nat.reduceSub, reduceCtorEq, ↓reduceIte, Nat.reduceBEq, Int.reduceLT, Int.reduceLE, Int.reduceEq, Int.reduceBEq, Int.reduceBNe, Nat.reduceLT, Nat.reduceMul, List.map_append, List.map_cons, List.map_nil, List.map_set]
def reredoslaw_TapeRooms (p0 : Tape) : Option (Bool) := (Option.bind (tape_Room p0) fun v1 => (Option.bind (reredosref_RoomOf p0) fun v2 => (withK (fun (b3_1 : Bool) => (some b3_1)) fun k4 => (if (v1.1 == v2.1) = true then (k4 (v1.2 == v2.2)) else (k4 false)))))
def F7 : VFn := ⟨25, (.seq (.reg [⟨(some 1), .box 2 (.t 0), none⟩, ⟨(some 2), .mv (.c (.one (.d (.b false)))), none⟩]) (.seq (.reg [⟨(some 8), .ld true 2 (.t 1), none⟩, ⟨(some 9), .call 21 [(.t 8)], none⟩, ⟨(some 7), .mv (.t 9), none⟩, ⟨(some 10), .ext (.t 7) 0, none⟩, ⟨(some 11), .ext (.t 7) 1, none⟩, ⟨(some 3), .mv (.t 10), none⟩, ⟨(some 4), .mv (.t 11), none⟩]) (.seq (.reg [⟨(some 13), .ld true 2 (.t 1), none⟩, ⟨(some 14), .call 22 [(.t 13)], none⟩, ⟨(some 12), .mv (.t 14), none⟩, ⟨(some 15), .ext (.t 12) 0, none⟩, ⟨(some 16), .ext (.t 12) 1, none⟩, ⟨(some 5), .mv (.t 15), none⟩, ⟨(some 6), .mv (.t 16), none⟩]) (.seq (.wk (.reg [⟨(some 17), .mv (.t 3), none⟩, ⟨(some 18), .mv (.t 5), none⟩, ⟨(some 19), .bin .i .eql (.t 17) (.t 18), none⟩, ⟨(some 20), .mv (.t 19), none⟩, ⟨(some 21), .mv (.t 4), (some (20, true))⟩, ⟨(some 22), .mv (.t 6), (some (20, true))⟩, ⟨(some 23), .bin .i .eql (.t 21) (.t 22), (some (20, true))⟩, ⟨(some 24), .pick (.t 20) (.t 23) (.c (.one (.d (.b false)))), none⟩, ⟨(some 2), .mv (.t 24), none⟩])) .ret)))), [.t 2]⟩
theorem low7 : lowF Try.prog 7 = some F7.strip := by kernel_rfl
theorem fok7 : fOk Try.prog 7 = true := by kernel_rfl
theorem reredoslaw_TapeRooms_ok (G : Nat → Option (List D)) (p0 : Tape) (r : Bool) (h : reredoslaw_TapeRooms p0 = some r) : FnRO Try.prog G 7 [.agg [.d (.l 1 (p0.Data.map encU8)), .d (.i .i64 p0.Synced)]] (fun rs => rs = [.one (.b r)]) := by
  refine FnRO.of' low7 fok7 (by simp [F7]) ?_
  rw [reredoslaw_TapeRooms] at h
  simp only [F7, go_sem, Nat.reduceAdd, Nat.reduceEqDiff, Nat.reduceLeDiff, Nat.reduceSub, reduceCtorEq, ↓reduceIte, Nat.reduceBEq, Int.reduceLT, Int.reduceLE, Int.reduceEq, Int.reduceBEq, Int.reduceBNe, Nat.reduceLT, Nat.reduceMul]
  obtain ⟨v1, hv1, h⟩ := Option.bind_eq_some_iff.1 h
  try simp only [go_sem, Nat.reduceAdd, Nat.reduceEqDiff, Nat.reduceLeDiff, Nat.reduceSub, reduceCtorEq, ↓reduceIte, Nat.reduceBEq, Int.reduceLT, Int.reduceLE, Int.reduceEq, Int.reduceBEq, Int.reduceBNe, Nat.reduceLT, Nat.reduceMul]
  refine CallV.ro false (tape_Room_ok G p0 v1 hv1) rfl ?_
  rintro rs rfl
  refine ⟨.inl rfl, ?_⟩
  obtain ⟨v2, hv2, h⟩ := Option.bind_eq_some_iff.1 h
  try simp only [go_sem, Nat.reduceAdd, Nat.reduceEqDiff, Nat.reduceLeDiff, Nat.reduceSub, reduceCtorEq, ↓reduceIte, Nat.reduceBEq, Int.reduceLT, Int.reduceLE, Int.reduceEq, Int.reduceBEq, Int.reduceBNe, Nat.reduceLT, Nat.reduceMul]
  refine CallV.ro false (reredosref_RoomOf_ok G p0 v2 hv2) rfl ?_
  rintro rs rfl
  refine ⟨.inl rfl, ?_⟩
  obtain ⟨k4, hk4, h⟩ := withK_lk1 h
  try simp only [go_sem, Nat.reduceAdd, Nat.reduceEqDiff, Nat.reduceLeDiff, Nat.reduceSub, reduceCtorEq, ↓reduceIte, Nat.reduceBEq, Int.reduceLT, Int.reduceLE, Int.reduceEq, Int.reduceBEq, Int.reduceBNe, Nat.reduceLT, Nat.reduceMul]
  refine join_lk Try.prog G _ _ (B := Bool) (fun b => k4 b = some r) (fun b => [(2, .one (.d (.b b)))]) (fun b => []) ?_ (fun b3_1 h => ?_)
  · rcases of_if h with ⟨hb5, h⟩ | ⟨hb5, h⟩
    · try simp only [hb5, go_sem, Nat.reduceAdd, Nat.reduceEqDiff, Nat.reduceLeDiff, Nat.reduceSub, reduceCtorEq, ↓reduceIte, Nat.reduceBEq, Int.reduceLT, Int.reduceLE, Int.reduceEq, Int.reduceBEq, Int.reduceBNe, Nat.reduceLT, Nat.reduceMul]
      exact joinQ_i (v1.2 == v2.2) h [] rfl (by simp only [hb5, go_sem, Nat.reduceAdd, Nat.reduceEqDiff, Nat.reduceLeDiff, Nat.reduceSub, reduceCtorEq, ↓reduceIte, Nat.reduceBEq, Int.reduceLT, Int.reduceLE, Int.reduceEq, Int.reduceBEq, Int.reduceBNe, Nat.reduceLT, Nat.reduceMul, slotsWk, objsWk, objWk, optVOWk, SV.wk, SC.wk, cellsWk, VO.wk, Ptr.wk, ptrsWk, SC.isNl, List.map_append, List.map_cons, List.map_nil, Option.some.injEq, Prod.mk.injEq, SC.d.injEq, D.l.injEq, List.map_set]) (by simp only [hb5, go_sem, Nat.reduceAdd, Nat.reduceEqDiff, Nat.reduceLeDiff, Nat.reduceSub, reduceCtorEq, ↓reduceIte, Nat.reduceBEq, Int.reduceLT, Int.reduceLE, Int.reduceEq, Int.reduceBEq, Int.reduceBNe, Nat.reduceLT, Nat.reduceMul, slotsWk, objsWk, objWk, optVOWk, SV.wk, SC.wk, cellsWk, VO.wk, Ptr.wk, ptrsWk, SC.isNl, List.map_append, List.map_cons, List.map_nil, Option.some.injEq, Prod.mk.injEq, SC.d.injEq, D.l.injEq, List.map_set])
    · try simp only [hb5, go_sem, Nat.reduceAdd, Nat.reduceEqDiff, Nat.reduceLeDiff, Nat.reduceSub, reduceCtorEq, ↓reduceIte, Nat.reduceBEq, Int.reduceLT, Int.reduceLE, Int.reduceEq, Int.reduceBEq, Int.reduceBNe, Nat.reduceLT, Nat.reduceMul]
      exact joinQ_i (false) h [] rfl (by simp only [hb5, go_sem, Nat.reduceAdd, Nat.reduceEqDiff, Nat.reduceLeDiff, Nat.reduceSub, reduceCtorEq, ↓reduceIte, Nat.reduceBEq, Int.reduceLT, Int.reduceLE, Int.reduceEq, Int.reduceBEq, Int.reduceBNe, Nat.reduceLT, Nat.reduceMul, slotsWk, objsWk, objWk, optVOWk, SV.wk, SC.wk, cellsWk, VO.wk, Ptr.wk, ptrsWk, SC.isNl, List.map_append, List.map_cons, List.map_nil, Option.some.injEq, Prod.mk.injEq, SC.d.injEq, D.l.injEq, List.map_set]) (by simp only [hb5, go_sem, Nat.reduceAdd, Nat.reduceEqDiff, Nat.reduceLeDiff, Nat.reduceSub, reduceCtorEq, ↓reduceIte, Nat.reduceBEq, Int.reduceLT, Int.reduceLE, Int.reduceEq, Int.reduceBEq, Int.reduceBNe, Nat.reduceLT, Nat.reduceMul, slotsWk, objsWk, objWk, optVOWk, SV.wk, SC.wk, cellsWk, VO.wk, Ptr.wk, ptrsWk, SC.isNl, List.map_append, List.map_cons, List.map_nil, Option.some.injEq, Prod.mk.injEq, SC.d.injEq, D.l.injEq, List.map_set])
  · try dsimp only at h
    rw [hk4] at h
    simp only [Option.some.injEq] at h
    subst h
    try simp only [go_sem, Nat.reduceAdd, Nat.reduceEqDiff, Nat.reduceLeDiff, Nat.reduceSub, reduceCtorEq, ↓reduceIte, Nat.reduceBEq, Int.reduceLT, Int.reduceLE, Int.reduceEq, Int.reduceBEq, Int.reduceBNe, Nat.reduceLT, Nat.reduceMul, List.map_append, List.map_cons, List.map_nil, List.map_set]
end Go.V.Dec
