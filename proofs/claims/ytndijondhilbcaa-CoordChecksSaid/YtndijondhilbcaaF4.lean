/- What Go's functions come to, as plain functions: part 4; no condition. -/
import Derived.Test.YtndijondhilbcaaF3
set_option linter.unusedVariables false
set_option linter.unusedSimpArgs false
namespace Go.V.Dec
open Go Go.Proofs
set_option maxRecDepth 100000
def reredosref_DeskFault_L1 (p0 : Config) (p1 : Desk) (k8 : Option (Int)) : Nat → Nat → Option (Int)
  | 0, _ => none
  | n10 + 1, a9_1 => (if (decide (a9_1 < p1.Jobs.length)) = true then (Option.bind (p1.Jobs[a9_1]?) fun x13 => (Option.bind (reredosref_jobMay p0 p1.Next x13) fun v14 => (if (!v14) = true then (some 9) else (if (decide (((a9_1 : Nat) : Int) > 0)) = true then (if 0 ≤ IntKind.i64.wrap (((a9_1 : Nat) : Int) - 1) then (Option.bind (p1.Jobs[(IntKind.i64.wrap (((a9_1 : Nat) : Int) - 1)).toNat]?) fun x17 => (if (decide (x13.N ≤ x17.N)) = true then (some 9) else (reredosref_DeskFault_L1 p0 p1 k8 n10 (a9_1 + 1)))) else none) else (reredosref_DeskFault_L1 p0 p1 k8 n10 (a9_1 + 1)))))) else k8)
def reredosref_DeskFault (p0 : Config) (p1 : Desk) : Option (Int) := (Option.bind (reredosref_ConfigFault p0) fun v1 => (if (v1 != 0) = true then (some v1) else (Option.bind (reredosref_In p1.Next 1 1048577) fun v3 => (if (!v3) = true then (some 9) else (if (decide (((p1.Jobs.length : Nat) : Int) > 6)) = true then (some 9) else (withK (some 0) fun k8 => (reredosref_DeskFault_L1 p0 p1 k8 (p1.Jobs.length + 1) 0)))))))
def F10 : VFn := ⟨59, (.seq (.reg [⟨(some 2), .box 3 (.t 0), none⟩, ⟨(some 3), .box 2 (.t 1), none⟩, ⟨(some 4), .mv (.c (.one (.d (.i .i64 0)))), none⟩]) (.seq (.reg [⟨(some 7), .ld true 3 (.t 2), none⟩, ⟨(some 8), .call 26 [(.t 7)], none⟩, ⟨(some 5), .mv (.t 8), none⟩]) (.seq (.seq (.reg [⟨(some 9), .mv (.t 5), none⟩, ⟨(some 10), .bin .i .neq (.t 9) (.c (.one (.d (.i .i64 0)))), none⟩]) (.cond (.t 10) (.seq (.reg [⟨(some 11), .mv (.t 5), none⟩, ⟨(some 4), .mv (.t 11), none⟩]) .ret) .skip)) (.seq (.seq (.reg [⟨(some 12), .fa 0 (.t 3), none⟩, ⟨(some 13), .ld false 1 (.t 12), none⟩, ⟨(some 14), .call 27 [(.t 13), (.c (.one (.d (.i .i64 1)))), (.c (.one (.d (.i .i64 1048577))))], none⟩, ⟨(some 15), .un .not (.t 14), none⟩, ⟨(some 16), .mv (.t 15), none⟩, ⟨(some 17), .fa 1 (.t 3), (some (16, false))⟩, ⟨(some 18), .ld false 1 (.t 17), (some (16, false))⟩, ⟨(some 19), .len (.t 18), (some (16, false))⟩, ⟨(some 20), .bin .i .gtr (.t 19) (.c (.one (.d (.i .i64 6)))), (some (16, false))⟩, ⟨(some 21), .pick (.t 16) (.c (.one (.d (.b true)))) (.t 20), none⟩]) (.cond (.t 21) (.seq (.reg [⟨(some 4), .mv (.c (.one (.d (.i .i64 9)))), none⟩]) .ret) .skip)) (.seq (.seq (.reg [⟨(some 6), .mv (.c (.one (.d (.i .i64 0)))), none⟩]) (.wk (.block 0 (.loop (.seq (.seq (.reg [⟨(some 22), .mv (.t 6), none⟩, ⟨(some 23), .fa 1 (.t 3), none⟩, ⟨(some 24), .ld false 1 (.t 23), none⟩, ⟨(some 25), .len (.t 24), none⟩, ⟨(some 26), .bin .i .lss (.t 22) (.t 25), none⟩]) (.cond (.t 26) .skip (.exit 0))) (.seq (.block 1 (.seq (.draw [⟨⟨(some 29), .ld true 3 (.t 2), none⟩, [], []⟩, ⟨⟨(some 30), .fa 0 (.t 3), none⟩, [], []⟩, ⟨⟨(some 31), .ld false 1 (.t 30), none⟩, [1], []⟩, ⟨⟨(some 32), .fa 1 (.t 3), none⟩, [], []⟩, ⟨⟨(some 33), .ld false 1 (.t 32), none⟩, [3], []⟩, ⟨⟨(some 34), .mv (.t 6), none⟩, [], []⟩, ⟨⟨(some 35), .ia 6 (.t 33) (.t 34), none⟩, [4, 3, 5], []⟩, ⟨⟨(some 36), .ld true 6 (.t 35), none⟩, [6, 4, 3, 5], []⟩, ⟨⟨(some 37), .call 28 [(.t 29), (.t 31), (.t 36)], none⟩, [0, 2, 1, 7, 6, 4, 3, 5], []⟩, ⟨⟨(some 38), .un .not (.t 37), none⟩, [8, 0, 2, 1, 7, 6, 4, 3, 5], []⟩, ⟨⟨(some 39), .mv (.t 38), none⟩, [9, 8, 0, 2, 1, 7, 6, 4, 3, 5], []⟩, ⟨⟨(some 40), .mv (.t 6), (some (39, false))⟩, [10, 9, 8, 0, 2, 1, 7, 6, 4, 3, 5], []⟩, ⟨⟨(some 41), .bin .i .gtr (.t 40) (.c (.one (.d (.i .i64 0)))), (some (39, false))⟩, [11, 10, 9, 8, 0, 2, 1, 7, 6, 4, 3, 5], []⟩, ⟨⟨(some 42), .mv (.t 41), (some (39, false))⟩, [12, 11, 10, 9, 8, 0, 2, 1, 7, 6, 4, 3, 5], []⟩, ⟨⟨(some 43), .fa 1 (.t 3), (some (42, true))⟩, [13, 12, 11, 10, 9, 8, 0, 2, 1, 7, 6, 4, 3, 5], []⟩, ⟨⟨(some 44), .ld false 1 (.t 43), (some (42, true))⟩, [14, 13, 12, 11, 10, 9, 8, 0, 2, 1, 7, 6, 4, 3, 5], []⟩, ⟨⟨(some 45), .mv (.t 6), (some (42, true))⟩, [13, 12, 11, 10, 9, 8, 0, 2, 1, 7, 6, 4, 3, 5], []⟩, ⟨⟨(some 46), .ia 6 (.t 44) (.t 45), (some (42, true))⟩, [15, 14, 13, 12, 11, 10, 9, 8, 0, 2, 1, 7, 6, 4, 3, 5, 16], []⟩, ⟨⟨(some 47), .fa 0 (.t 46), (some (42, true))⟩, [17, 15, 14, 13, 12, 11, 10, 9, 8, 0, 2, 1, 7, 6, 4, 3, 5, 16], []⟩, ⟨⟨(some 48), .ld false 1 (.t 47), (some (42, true))⟩, [18, 17, 15, 14, 13, 12, 11, 10, 9, 8, 0, 2, 1, 7, 6, 4, 3, 5, 16], []⟩, ⟨⟨(some 49), .fa 1 (.t 3), (some (42, true))⟩, [13, 12, 11, 10, 9, 8, 0, 2, 1, 7, 6, 4, 3, 5], []⟩, ⟨⟨(some 50), .ld false 1 (.t 49), (some (42, true))⟩, [20, 13, 12, 11, 10, 9, 8, 0, 2, 1, 7, 6, 4, 3, 5], []⟩, ⟨⟨(some 51), .mv (.t 6), (some (42, true))⟩, [13, 12, 11, 10, 9, 8, 0, 2, 1, 7, 6, 4, 3, 5], []⟩, ⟨⟨(some 52), .bin .i .sub (.t 51) (.c (.one (.d (.i .i64 1)))), (some (42, true))⟩, [22, 13, 12, 11, 10, 9, 8, 0, 2, 1, 7, 6, 4, 3, 5], []⟩, ⟨⟨(some 53), .ia 6 (.t 50) (.t 52), (some (42, true))⟩, [21, 20, 13, 12, 11, 10, 9, 8, 0, 2, 1, 7, 6, 4, 3, 5, 23, 22], []⟩, ⟨⟨(some 54), .fa 0 (.t 53), (some (42, true))⟩, [24, 21, 20, 13, 12, 11, 10, 9, 8, 0, 2, 1, 7, 6, 4, 3, 5, 23, 22], []⟩, ⟨⟨(some 55), .ld false 1 (.t 54), (some (42, true))⟩, [25, 24, 21, 20, 13, 12, 11, 10, 9, 8, 0, 2, 1, 7, 6, 4, 3, 5, 23, 22], []⟩, ⟨⟨(some 56), .bin .i .leq (.t 48) (.t 55), (some (42, true))⟩, [19, 18, 17, 15, 14, 13, 12, 11, 10, 9, 8, 0, 2, 1, 7, 6, 4, 3, 5, 16, 26, 25, 24, 21, 20, 23, 22], []⟩, ⟨⟨(some 57), .pick (.t 42) (.t 56) (.c (.one (.d (.b false)))), (some (39, false))⟩, [13, 12, 11, 10, 9, 8, 0, 2, 1, 7, 6, 4, 3, 5, 27, 19, 18, 17, 15, 14, 16, 26, 25, 24, 21, 20, 23, 22], []⟩, ⟨⟨(some 58), .pick (.t 39) (.c (.one (.d (.b true)))) (.t 57), none⟩, [10, 9, 8, 0, 2, 1, 7, 6, 4, 3, 5, 28, 13, 12, 11, 27, 19, 18, 17, 15, 14, 16, 26, 25, 24, 21, 20, 23, 22], []⟩]) (.cond (.t 58) (.seq (.reg [⟨(some 4), .mv (.c (.one (.d (.i .i64 9)))), none⟩]) .ret) .skip))) (.reg [⟨(some 27), .mv (.t 6), none⟩, ⟨(some 28), .bin .i .add (.t 27) (.c (.one (.d (.i .i64 1)))), none⟩, ⟨(some 6), .mv (.t 28), none⟩]))))))) (.seq (.reg [⟨(some 4), .mv (.c (.one (.d (.i .i64 0)))), none⟩]) .ret)))))), [.t 4]⟩
theorem low10 : lowF Try.prog 10 = some F10.strip := by kernel_rfl
theorem fok10 : fOk Try.prog 10 = true := by kernel_rfl
theorem reredosref_DeskFault_ok (G : Nat → Option (List D)) (p0 : Config) (p1 : Desk) (r : Int) (h : reredosref_DeskFault p0 p1 = some r) : FnRO Try.prog G 10 [.agg [.d (.i .i64 p0.Sites), .d (.l 2 (p0.Labels.map Label.enc)), .d (.i .i64 p0.Patience)], .agg [.d (.i .i64 p1.Next), .d (.l 6 (p1.Jobs.map Job.enc))]] (fun rs => rs = [.one (.i .i64 r)]) := by
  refine FnRO.of' low10 fok10 (by simp [F10]) ?_
  rw [reredosref_DeskFault] at h
  simp only [F10, go_sem, Nat.reduceAdd, Nat.reduceEqDiff, Nat.reduceLeDiff, Nat.reduceSub, reduceCtorEq, ↓reduceIte, Nat.reduceBEq, Int.reduceLT, Int.reduceLE, Int.reduceEq, Int.reduceBEq, Int.reduceBNe, Nat.reduceLT, Nat.reduceMul]
  obtain ⟨v1, hv1, h⟩ := Option.bind_eq_some_iff.1 h
  try simp only [go_sem, Nat.reduceAdd, Nat.reduceEqDiff, Nat.reduceLeDiff, Nat.reduceSub, reduceCtorEq, ↓reduceIte, Nat.reduceBEq, Int.reduceLT, Int.reduceLE, Int.reduceEq, Int.reduceBEq, Int.reduceBNe, Nat.reduceLT, Nat.reduceMul]
  refine CallV.ro false (reredosref_ConfigFault_ok G p0 v1 hv1) rfl ?_
  rintro rs rfl
  refine ⟨.inl rfl, ?_⟩
  rcases of_if h with ⟨hb2, h⟩ | ⟨hb2, h⟩
  · simp only [Option.some.injEq] at h
    subst h
    try simp only [hb2, go_sem, Nat.reduceAdd, Nat.reduceEqDiff, Nat.reduceLeDiff, Nat.reduceSub, reduceCtorEq, ↓reduceIte, Nat.reduceBEq, Int.reduceLT, Int.reduceLE, Int.reduceEq, Int.reduceBEq, Int.reduceBNe, Nat.reduceLT, Nat.reduceMul, List.map_append, List.map_cons, List.map_nil, List.map_set]
  · obtain ⟨v3, hv3, h⟩ := Option.bind_eq_some_iff.1 h
    try simp only [hb2, go_sem, Nat.reduceAdd, Nat.reduceEqDiff, Nat.reduceLeDiff, Nat.reduceSub, reduceCtorEq, ↓reduceIte, Nat.reduceBEq, Int.reduceLT, Int.reduceLE, Int.reduceEq, Int.reduceBEq, Int.reduceBNe, Nat.reduceLT, Nat.reduceMul]
    refine CallV.ro false (reredosref_In_ok G p1.Next 1 1048577 v3 hv3) rfl ?_
    rintro rs rfl
    refine ⟨.inl rfl, ?_⟩
    rcases of_if h with ⟨hb4, h⟩ | ⟨hb4, h⟩
    · have hkhb4 := not_eq_t hb4
      simp only [Option.some.injEq] at h
      subst h
      try simp only [hb2, hb4, hkhb4, go_sem, Nat.reduceAdd, Nat.reduceEqDiff, Nat.reduceLeDiff, Nat.reduceSub, reduceCtorEq, ↓reduceIte, Nat.reduceBEq, Int.reduceLT, Int.reduceLE, Int.reduceEq, Int.reduceBEq, Int.reduceBNe, Nat.reduceLT, Nat.reduceMul, List.map_append, List.map_cons, List.map_nil, List.map_set]
    · have hkhb4 := not_eq_f hb4
      try simp only [hb2, hb4, hkhb4, go_sem, Nat.reduceAdd, Nat.reduceEqDiff, Nat.reduceLeDiff, Nat.reduceSub, reduceCtorEq, ↓reduceIte, Nat.reduceBEq, Int.reduceLT, Int.reduceLE, Int.reduceEq, Int.reduceBEq, Int.reduceBNe, Nat.reduceLT, Nat.reduceMul]
      intro hl5
      rcases of_if h with ⟨hb6, h⟩ | ⟨hb6, h⟩
      · simp only [Option.some.injEq] at h
        subst h
        try simp only [hb2, hb4, hkhb4, hb6, go_sem, Nat.reduceAdd, Nat.reduceEqDiff, Nat.reduceLeDiff, Nat.reduceSub, reduceCtorEq, ↓reduceIte, Nat.reduceBEq, Int.reduceLT, Int.reduceLE, Int.reduceEq, Int.reduceBEq, Int.reduceBNe, Nat.reduceLT, Nat.reduceMul, List.map_append, List.map_cons, List.map_nil, List.map_set]
      · obtain ⟨k8, hk8, h⟩ := withK_lk0 h
        try simp only [hb2, hb4, hkhb4, hb6, go_sem, Nat.reduceAdd, Nat.reduceEqDiff, Nat.reduceLeDiff, Nat.reduceSub, reduceCtorEq, ↓reduceIte, Nat.reduceBEq, Int.reduceLT, Int.reduceLE, Int.reduceEq, Int.reduceBEq, Int.reduceBNe, Nat.reduceLT, Nat.reduceMul]
        refine join_lk Try.prog G _ _ (B := Unit) (fun b => k8 = some r) (fun b => []) (fun b => []) ?_ (fun b h => ?_)
        · try simp only [hb2, hb4, hkhb4, hb6, go_sem, Nat.reduceAdd, Nat.reduceEqDiff, Nat.reduceLeDiff, Nat.reduceSub, reduceCtorEq, ↓reduceIte, Nat.reduceBEq, Int.reduceLT, Int.reduceLE, Int.reduceEq, Int.reduceBEq, Int.reduceBNe, Nat.reduceLT, Nat.reduceMul]
          refine loop_lk Try.prog G _ _ (A := Nat) (fun n a => reredosref_DeskFault_L1 p0 p1 k8 n a = some r) (fun a => [(2, .one (.p (.q 0 0 0))), (3, .one (.p (.q 1 0 0))), (6, .one (.d (.i .i64 ((a : Nat) : Int))))]) (fun a => [some (.box [.d (.i .i64 p0.Sites), .d (.l 2 (p0.Labels.map Label.enc)), .d (.i .i64 p0.Patience)]), some (.box [.d (.i .i64 p1.Next), .d (.l 6 (p1.Jobs.map Job.enc))])]) (p1.Jobs.length + 1) (0) h (wk_i _ _ _ [some 0, some 1] rfl (by simp only [hb2, hb4, hkhb4, hb6, go_sem, Nat.reduceAdd, Nat.reduceEqDiff, Nat.reduceLeDiff, Nat.reduceSub, reduceCtorEq, ↓reduceIte, Nat.reduceBEq, Int.reduceLT, Int.reduceLE, Int.reduceEq, Int.reduceBEq, Int.reduceBNe, Nat.reduceLT, Nat.reduceMul, slotsWk, objsWk, objWk, optVOWk, SV.wk, SC.wk, cellsWk, VO.wk, Ptr.wk, ptrsWk, SC.isNl, List.map_append, List.map_cons, List.map_nil, Option.some.injEq, Prod.mk.injEq, SC.d.injEq, D.l.injEq, List.map_set]) (by simp only [hb2, hb4, hkhb4, hb6, go_sem, Nat.reduceAdd, Nat.reduceEqDiff, Nat.reduceLeDiff, Nat.reduceSub, reduceCtorEq, ↓reduceIte, Nat.reduceBEq, Int.reduceLT, Int.reduceLE, Int.reduceEq, Int.reduceBEq, Int.reduceBNe, Nat.reduceLT, Nat.reduceMul, slotsWk, objsWk, objWk, optVOWk, SV.wk, SC.wk, cellsWk, VO.wk, Ptr.wk, ptrsWk, SC.isNl, List.map_append, List.map_cons, List.map_nil, Option.some.injEq, Prod.mk.injEq, SC.d.injEq, D.l.injEq, List.map_set])) (fun a h => by simp only [reredosref_DeskFault_L1, reduceCtorEq] at h) ?_
          intro n10 a9_1 h
          try dsimp only at h
          rw [reredosref_DeskFault_L1] at h
          try simp only [hkhb4, go_sem, Nat.reduceAdd, Nat.reduceEqDiff, Nat.reduceLeDiff, Nat.reduceSub, reduceCtorEq, ↓reduceIte, Nat.reduceBEq, Int.reduceLT, Int.reduceLE, Int.reduceEq, Int.reduceBEq, Int.reduceBNe, Nat.reduceLT, Nat.reduceMul]
          intro hl11
          rcases of_if h with ⟨hb12, h⟩ | ⟨hb12, h⟩
          · have hkhb12 := of_decide_eq_true hb12
            obtain ⟨x13, hx13, h⟩ := Option.bind_eq_some_iff.1 h
            have hkx13 := (List.getElem?_eq_some_iff.1 hx13).1
            try simp only [List.length_take, List.length_drop, List.length_append, List.length_set, List.length_map, List.length_cons, List.length_nil, Nat.zero_add] at hkx13
            obtain ⟨v14, hv14, h⟩ := Option.bind_eq_some_iff.1 h
            try simp only [hkhb4, hb12, hkhb12, hx13, hkx13, go_sem, Nat.reduceAdd, Nat.reduceEqDiff, Nat.reduceLeDiff, Nat.reduceSub, reduceCtorEq, ↓reduceIte, Nat.reduceBEq, Int.reduceLT, Int.reduceLE, Int.reduceEq, Int.reduceBEq, Int.reduceBNe, Nat.reduceLT, Nat.reduceMul]
            refine ⟨_, _, CallD.ro false (reredosref_jobMay_ok G p0 p1.Next x13 v14 hv14) rfl (.inl rfl) rfl, ?_⟩
            rcases of_if h with ⟨hb15, h⟩ | ⟨hb15, h⟩
            · have hkhb15 := not_eq_t hb15
              simp only [Option.some.injEq] at h
              subst h
              try simp only [hkhb4, hb12, hkhb12, hx13, hkx13, hb15, hkhb15, go_sem, Nat.reduceAdd, Nat.reduceEqDiff, Nat.reduceLeDiff, Nat.reduceSub, reduceCtorEq, ↓reduceIte, Nat.reduceBEq, Int.reduceLT, Int.reduceLE, Int.reduceEq, Int.reduceBEq, Int.reduceBNe, Nat.reduceLT, Nat.reduceMul, List.map_append, List.map_cons, List.map_nil, List.map_set]
            · have hkhb15 := not_eq_f hb15
              rcases of_if h with ⟨hb16, h⟩ | ⟨hb16, h⟩
              · obtain ⟨hn18, h⟩ := of_chk h
                obtain ⟨x17, hx17, h⟩ := Option.bind_eq_some_iff.1 h
                have hkx17 := (List.getElem?_eq_some_iff.1 hx17).1
                try simp only [List.length_take, List.length_drop, List.length_append, List.length_set, List.length_map, List.length_cons, List.length_nil, Nat.zero_add] at hkx17
                have hk2x17 : IntKind.i64.wrap (((a9_1 : Nat) : Int) - 1) < ((p1.Jobs.length : Nat) : Int) := by omega
                rcases of_if h with ⟨hb19, h⟩ | ⟨hb19, h⟩
                · simp only [Option.some.injEq] at h
                  subst h
                  try simp only [hkhb4, hb12, hkhb12, hx13, hkx13, hb15, hkhb15, hb16, hx17, hkx17, hn18, hk2x17, hb19, go_sem, Nat.reduceAdd, Nat.reduceEqDiff, Nat.reduceLeDiff, Nat.reduceSub, reduceCtorEq, ↓reduceIte, Nat.reduceBEq, Int.reduceLT, Int.reduceLE, Int.reduceEq, Int.reduceBEq, Int.reduceBNe, Nat.reduceLT, Nat.reduceMul, List.map_append, List.map_cons, List.map_nil, List.map_set]
                · have hw20 := wrap_succ_max hkx13 hl11
                  try simp only [hkhb4, hb12, hkhb12, hx13, hkx13, hb15, hkhb15, hb16, hx17, hkx17, hn18, hk2x17, hb19, hw20, go_sem, Nat.reduceAdd, Nat.reduceEqDiff, Nat.reduceLeDiff, Nat.reduceSub, reduceCtorEq, ↓reduceIte, Nat.reduceBEq, Int.reduceLT, Int.reduceLE, Int.reduceEq, Int.reduceBEq, Int.reduceBNe, Nat.reduceLT, Nat.reduceMul]
                  exact loopQ_i (a9_1 + 1) h [some 0, some 1] rfl (by simp only [hkhb4, hb12, hkhb12, hx13, hkx13, hb15, hkhb15, hb16, hx17, hkx17, hn18, hk2x17, hb19, hw20, go_sem, Nat.reduceAdd, Nat.reduceEqDiff, Nat.reduceLeDiff, Nat.reduceSub, reduceCtorEq, ↓reduceIte, Nat.reduceBEq, Int.reduceLT, Int.reduceLE, Int.reduceEq, Int.reduceBEq, Int.reduceBNe, Nat.reduceLT, Nat.reduceMul, slotsWk, objsWk, objWk, optVOWk, SV.wk, SC.wk, cellsWk, VO.wk, Ptr.wk, ptrsWk, SC.isNl, List.map_append, List.map_cons, List.map_nil, Option.some.injEq, Prod.mk.injEq, SC.d.injEq, D.l.injEq, List.map_set]) (by simp only [hkhb4, hb12, hkhb12, hx13, hkx13, hb15, hkhb15, hb16, hx17, hkx17, hn18, hk2x17, hb19, hw20, go_sem, Nat.reduceAdd, Nat.reduceEqDiff, Nat.reduceLeDiff, Nat.reduceSub, reduceCtorEq, ↓reduceIte, Nat.reduceBEq, Int.reduceLT, Int.reduceLE, Int.reduceEq, Int.reduceBEq, Int.reduceBNe, Nat.reduceLT, Nat.reduceMul, slotsWk, objsWk, objWk, optVOWk, SV.wk, SC.wk, cellsWk, VO.wk, Ptr.wk, ptrsWk, SC.isNl, List.map_append, List.map_cons, List.map_nil, Option.some.injEq, Prod.mk.injEq, SC.d.injEq, D.l.injEq, List.map_set])
              · have hw21 := wrap_succ_max hkx13 hl11
                try simp only [hkhb4, hb12, hkhb12, hx13, hkx13, hb15, hkhb15, hb16, hw21, go_sem, Nat.reduceAdd, Nat.reduceEqDiff, Nat.reduceLeDiff, Nat.reduceSub, reduceCtorEq, ↓reduceIte, Nat.reduceBEq, Int.reduceLT, Int.reduceLE, Int.reduceEq, Int.reduceBEq, Int.reduceBNe, Nat.reduceLT, Nat.reduceMul]
                exact loopQ_i (a9_1 + 1) h [some 0, some 1] rfl (by simp only [hkhb4, hb12, hkhb12, hx13, hkx13, hb15, hkhb15, hb16, hw21, go_sem, Nat.reduceAdd, Nat.reduceEqDiff, Nat.reduceLeDiff, Nat.reduceSub, reduceCtorEq, ↓reduceIte, Nat.reduceBEq, Int.reduceLT, Int.reduceLE, Int.reduceEq, Int.reduceBEq, Int.reduceBNe, Nat.reduceLT, Nat.reduceMul, slotsWk, objsWk, objWk, optVOWk, SV.wk, SC.wk, cellsWk, VO.wk, Ptr.wk, ptrsWk, SC.isNl, List.map_append, List.map_cons, List.map_nil, Option.some.injEq, Prod.mk.injEq, SC.d.injEq, D.l.injEq, List.map_set]) (by simp only [hkhb4, hb12, hkhb12, hx13, hkx13, hb15, hkhb15, hb16, hw21, go_sem, Nat.reduceAdd, Nat.reduceEqDiff, Nat.reduceLeDiff, Nat.reduceSub, reduceCtorEq, ↓reduceIte, Nat.reduceBEq, Int.reduceLT, Int.reduceLE, Int.reduceEq, Int.reduceBEq, Int.reduceBNe, Nat.reduceLT, Nat.reduceMul, slotsWk, objsWk, objWk, optVOWk, SV.wk, SC.wk, cellsWk, VO.wk, Ptr.wk, ptrsWk, SC.isNl, List.map_append, List.map_cons, List.map_nil, Option.some.injEq, Prod.mk.injEq, SC.d.injEq, D.l.injEq, List.map_set])
          · try simp only [hkhb4, hb12, go_sem, Nat.reduceAdd, Nat.reduceEqDiff, Nat.reduceLeDiff, Nat.reduceSub, reduceCtorEq, ↓reduceIte, Nat.reduceBEq, Int.reduceLT, Int.reduceLE, Int.reduceEq, Int.reduceBEq, Int.reduceBNe, Nat.reduceLT, Nat.reduceMul]
            exact joinQ_i () h [] rfl (by simp only [hkhb4, hb12, go_sem, Nat.reduceAdd, Nat.reduceEqDiff, Nat.reduceLeDiff, Nat.reduceSub, reduceCtorEq, ↓reduceIte, Nat.reduceBEq, Int.reduceLT, Int.reduceLE, Int.reduceEq, Int.reduceBEq, Int.reduceBNe, Nat.reduceLT, Nat.reduceMul, slotsWk, objsWk, objWk, optVOWk, SV.wk, SC.wk, cellsWk, VO.wk, Ptr.wk, ptrsWk, SC.isNl, List.map_append, List.map_cons, List.map_nil, Option.some.injEq, Prod.mk.injEq, SC.d.injEq, D.l.injEq, List.map_set]) (by simp only [hkhb4, hb12, go_sem, Nat.reduceAdd, Nat.reduceEqDiff, Nat.reduceLeDiff, Nat.reduceSub, reduceCtorEq, ↓reduceIte, Nat.reduceBEq, Int.reduceLT, Int.reduceLE, Int.reduceEq, Int.reduceBEq, Int.reduceBNe, Nat.reduceLT, Nat.reduceMul, slotsWk, objsWk, objWk, optVOWk, SV.wk, SC.wk, cellsWk, VO.wk, Ptr.wk, ptrsWk, SC.isNl, List.map_append, List.map_cons, List.map_nil, Option.some.injEq, Prod.mk.injEq, SC.d.injEq, D.l.injEq, List.map_set])
        · try dsimp only at h
          rw [hk8] at h
          simp only [Option.some.injEq] at h
          subst h
          try simp only [hkhb4, go_sem, Nat.reduceAdd, Nat.reduceEqDiff, Nat.reduceLeDiff, Nat.reduceSub, reduceCtorEq, ↓reduceIte, Nat.reduceBEq, Int.reduceLT, Int.reduceLE, Int.reduceEq, Int.reduceBEq, Int.reduceBNe, Nat.reduceLT, Nat.reduceMul, List.map_append, List.map_cons, List.map_nil, List.map_set]
def reredoslaw_CoordChecks (p0 : Config) (p1 : Desk) : Option (Bool) := (Option.bind (coord_Check p0 p1) fun v1 => (Option.bind (reredosref_DeskFault p0 p1) fun v2 => (some (v1 == v2))))
def F3 : VFn := ⟨16, (.seq (.reg [⟨(some 2), .box 3 (.t 0), none⟩, ⟨(some 3), .box 2 (.t 1), none⟩, ⟨(some 4), .mv (.c (.one (.d (.b false)))), none⟩]) (.seq (.reg [⟨(some 7), .ld true 3 (.t 2), none⟩, ⟨(some 8), .ld true 2 (.t 3), none⟩, ⟨(some 9), .call 9 [(.t 7), (.t 8)], none⟩, ⟨(some 5), .mv (.t 9), none⟩]) (.seq (.reg [⟨(some 10), .ld true 3 (.t 2), none⟩, ⟨(some 11), .ld true 2 (.t 3), none⟩, ⟨(some 12), .call 10 [(.t 10), (.t 11)], none⟩, ⟨(some 6), .mv (.t 12), none⟩]) (.seq (.reg [⟨(some 13), .mv (.t 5), none⟩, ⟨(some 14), .mv (.t 6), none⟩, ⟨(some 15), .bin .i .eql (.t 13) (.t 14), none⟩, ⟨(some 4), .mv (.t 15), none⟩]) .ret)))), [.t 4]⟩
theorem low3 : lowF Try.prog 3 = some F3.strip := by kernel_rfl
theorem fok3 : fOk Try.prog 3 = true := by kernel_rfl
theorem reredoslaw_CoordChecks_ok (G : Nat → Option (List D)) (p0 : Config) (p1 : Desk) (r : Bool) (h : reredoslaw_CoordChecks p0 p1 = some r) : FnRO Try.prog G 3 [.agg [.d (.i .i64 p0.Sites), .d (.l 2 (p0.Labels.map Label.enc)), .d (.i .i64 p0.Patience)], .agg [.d (.i .i64 p1.Next), .d (.l 6 (p1.Jobs.map Job.enc))]] (fun rs => rs = [.one (.b r)]) := by
  refine FnRO.of' low3 fok3 (by simp [F3]) ?_
  rw [reredoslaw_CoordChecks] at h
  simp only [F3, go_sem, Nat.reduceAdd, Nat.reduceEqDiff, Nat.reduceLeDiff, Nat.reduceSub, reduceCtorEq, ↓reduceIte, Nat.reduceBEq, Int.reduceLT, Int.reduceLE, Int.reduceEq, Int.reduceBEq, Int.reduceBNe, Nat.reduceLT, Nat.reduceMul]
  obtain ⟨v1, hv1, h⟩ := Option.bind_eq_some_iff.1 h
  try simp only [go_sem, Nat.reduceAdd, Nat.reduceEqDiff, Nat.reduceLeDiff, Nat.reduceSub, reduceCtorEq, ↓reduceIte, Nat.reduceBEq, Int.reduceLT, Int.reduceLE, Int.reduceEq, Int.reduceBEq, Int.reduceBNe, Nat.reduceLT, Nat.reduceMul]
  refine CallV.ro false (coord_Check_ok G p0 p1 v1 hv1) rfl ?_
  rintro rs rfl
  refine ⟨.inl rfl, ?_⟩
  obtain ⟨v2, hv2, h⟩ := Option.bind_eq_some_iff.1 h
  try simp only [go_sem, Nat.reduceAdd, Nat.reduceEqDiff, Nat.reduceLeDiff, Nat.reduceSub, reduceCtorEq, ↓reduceIte, Nat.reduceBEq, Int.reduceLT, Int.reduceLE, Int.reduceEq, Int.reduceBEq, Int.reduceBNe, Nat.reduceLT, Nat.reduceMul]
  refine CallV.ro false (reredosref_DeskFault_ok G p0 p1 v2 hv2) rfl ?_
  rintro rs rfl
  refine ⟨.inl rfl, ?_⟩
  simp only [Option.some.injEq] at h
  subst h
  try simp only [go_sem, Nat.reduceAdd, Nat.reduceEqDiff, Nat.reduceLeDiff, Nat.reduceSub, reduceCtorEq, ↓reduceIte, Nat.reduceBEq, Int.reduceLT, Int.reduceLE, Int.reduceEq, Int.reduceBEq, Int.reduceBNe, Nat.reduceLT, Nat.reduceMul, List.map_append, List.map_cons, List.map_nil, List.map_set]
end Go.V.Dec
