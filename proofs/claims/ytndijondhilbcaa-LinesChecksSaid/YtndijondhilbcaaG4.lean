/- What Go's functions come to, as plain functions: part 4; no condition. -/
import Derived.Test.YtndijondhilbcaaG3
set_option linter.unusedVariables false
set_option linter.unusedSimpArgs false
namespace Go.V.Dec
open Go Go.Proofs
set_option maxRecDepth 100000
set_option maxHeartbeats 4000000
def reredosref_callMay (p0 : Call) : Option (Int) := (Option.bind (reredosref_In p0.Kind 1 5) fun v1 => (if (!v1) = true then (some 3) else (Option.bind (reredosref_In p0.N 0 1048576) fun v3 => (if (!v3) = true then (some 2) else (Option.bind (reredosref_In p0.Label 0 5) fun v5 => (if (!v5) = true then (some 2) else (Option.bind (reredosref_In p0.Key 0 8) fun v7 => (if (!v7) = true then (some 2) else (Option.bind (reredosref_In p0.Value 0 1073741824) fun v9 => (if (!v9) = true then (some 2) else (if (p0.Kind == 1) = true then (if (p0.N != 0) = true then (some 4) else (if (p0.Kind != 2) = true then (if (p0.Label != 0) = true then (some 4) else (if (p0.Kind != 3) = true then (if (p0.Key != 0) = true then (some 4) else (if (p0.Value != 0) = true then (some 4) else (some 0))) else (some 0))) else (if (p0.Kind != 3) = true then (if (p0.Value != 0) = true then (some 4) else (some 0)) else (some 0)))) else (if (p0.Kind != 2) = true then (if (p0.Label != 0) = true then (some 4) else (if (p0.Kind != 3) = true then (if (p0.Key != 0) = true then (some 4) else (if (p0.Value != 0) = true then (some 4) else (some 0))) else (some 0))) else (if (p0.Kind != 3) = true then (if (p0.Value != 0) = true then (some 4) else (some 0)) else (some 0))))))))))))))
def F39 : VFn := ⟨72, (.seq (.reg [⟨(some 1), .box 5 (.t 0), none⟩, ⟨(some 2), .mv (.c (.one (.d (.i .i64 0)))), none⟩]) (.seq (.seq (.reg [⟨(some 3), .fa 0 (.t 1), none⟩, ⟨(some 4), .ld false 1 (.t 3), none⟩, ⟨(some 5), .call 27 [(.t 4), (.c (.one (.d (.i .i64 1)))), (.c (.one (.d (.i .i64 5))))], none⟩, ⟨(some 6), .un .not (.t 5), none⟩]) (.cond (.t 6) (.seq (.reg [⟨(some 2), .mv (.c (.one (.d (.i .i64 3)))), none⟩]) .ret) .skip)) (.seq (.seq (.reg [⟨(some 7), .fa 1 (.t 1), none⟩, ⟨(some 8), .ld false 1 (.t 7), none⟩, ⟨(some 9), .call 27 [(.t 8), (.c (.one (.d (.i .i64 0)))), (.c (.one (.d (.i .i64 1048576))))], none⟩, ⟨(some 10), .un .not (.t 9), none⟩, ⟨(some 11), .mv (.t 10), none⟩, ⟨(some 12), .fa 2 (.t 1), (some (11, false))⟩, ⟨(some 13), .ld false 1 (.t 12), (some (11, false))⟩, ⟨(some 14), .call 27 [(.t 13), (.c (.one (.d (.i .i64 0)))), (.c (.one (.d (.i .i64 5))))], (some (11, false))⟩, ⟨(some 15), .un .not (.t 14), (some (11, false))⟩, ⟨(some 16), .pick (.t 11) (.c (.one (.d (.b true)))) (.t 15), none⟩, ⟨(some 17), .mv (.t 16), none⟩, ⟨(some 18), .fa 3 (.t 1), (some (17, false))⟩, ⟨(some 19), .ld false 1 (.t 18), (some (17, false))⟩, ⟨(some 20), .call 27 [(.t 19), (.c (.one (.d (.i .i64 0)))), (.c (.one (.d (.i .i64 8))))], (some (17, false))⟩, ⟨(some 21), .un .not (.t 20), (some (17, false))⟩, ⟨(some 22), .pick (.t 17) (.c (.one (.d (.b true)))) (.t 21), none⟩, ⟨(some 23), .mv (.t 22), none⟩, ⟨(some 24), .fa 4 (.t 1), (some (23, false))⟩, ⟨(some 25), .ld false 1 (.t 24), (some (23, false))⟩, ⟨(some 26), .call 27 [(.t 25), (.c (.one (.d (.i .i64 0)))), (.c (.one (.d (.i .i64 1073741824))))], (some (23, false))⟩, ⟨(some 27), .un .not (.t 26), (some (23, false))⟩, ⟨(some 28), .pick (.t 23) (.c (.one (.d (.b true)))) (.t 27), none⟩]) (.cond (.t 28) (.seq (.reg [⟨(some 2), .mv (.c (.one (.d (.i .i64 2)))), none⟩]) .ret) .skip)) (.seq (.seq (.reg [⟨(some 29), .fa 0 (.t 1), none⟩, ⟨(some 30), .ld false 1 (.t 29), none⟩, ⟨(some 31), .bin .i .eql (.t 30) (.c (.one (.d (.i .i64 1)))), none⟩, ⟨(some 32), .mv (.t 31), none⟩, ⟨(some 33), .fa 1 (.t 1), (some (32, true))⟩, ⟨(some 34), .ld false 1 (.t 33), (some (32, true))⟩, ⟨(some 35), .bin .i .neq (.t 34) (.c (.one (.d (.i .i64 0)))), (some (32, true))⟩, ⟨(some 36), .pick (.t 32) (.t 35) (.c (.one (.d (.b false)))), none⟩, ⟨(some 37), .mv (.t 36), none⟩, ⟨(some 38), .fa 0 (.t 1), (some (37, false))⟩, ⟨(some 39), .ld false 1 (.t 38), (some (37, false))⟩, ⟨(some 40), .bin .i .neq (.t 39) (.c (.one (.d (.i .i64 2)))), (some (37, false))⟩, ⟨(some 41), .mv (.t 40), (some (37, false))⟩, ⟨(some 42), .fa 2 (.t 1), (some (41, true))⟩, ⟨(some 43), .ld false 1 (.t 42), (some (41, true))⟩, ⟨(some 44), .bin .i .neq (.t 43) (.c (.one (.d (.i .i64 0)))), (some (41, true))⟩, ⟨(some 45), .pick (.t 41) (.t 44) (.c (.one (.d (.b false)))), (some (37, false))⟩, ⟨(some 46), .pick (.t 37) (.c (.one (.d (.b true)))) (.t 45), none⟩, ⟨(some 47), .mv (.t 46), none⟩, ⟨(some 48), .fa 0 (.t 1), (some (47, false))⟩, ⟨(some 49), .ld false 1 (.t 48), (some (47, false))⟩, ⟨(some 50), .bin .i .neq (.t 49) (.c (.one (.d (.i .i64 2)))), (some (47, false))⟩, ⟨(some 51), .mv (.t 50), (some (47, false))⟩, ⟨(some 52), .fa 0 (.t 1), (some (51, true))⟩, ⟨(some 53), .ld false 1 (.t 52), (some (51, true))⟩, ⟨(some 54), .bin .i .neq (.t 53) (.c (.one (.d (.i .i64 3)))), (some (51, true))⟩, ⟨(some 55), .pick (.t 51) (.t 54) (.c (.one (.d (.b false)))), (some (47, false))⟩, ⟨(some 56), .mv (.t 55), (some (47, false))⟩, ⟨(some 57), .fa 3 (.t 1), (some (56, true))⟩, ⟨(some 58), .ld false 1 (.t 57), (some (56, true))⟩, ⟨(some 59), .bin .i .neq (.t 58) (.c (.one (.d (.i .i64 0)))), (some (56, true))⟩, ⟨(some 60), .pick (.t 56) (.t 59) (.c (.one (.d (.b false)))), (some (47, false))⟩, ⟨(some 61), .pick (.t 47) (.c (.one (.d (.b true)))) (.t 60), none⟩, ⟨(some 62), .mv (.t 61), none⟩, ⟨(some 63), .fa 0 (.t 1), (some (62, false))⟩, ⟨(some 64), .ld false 1 (.t 63), (some (62, false))⟩, ⟨(some 65), .bin .i .neq (.t 64) (.c (.one (.d (.i .i64 3)))), (some (62, false))⟩, ⟨(some 66), .mv (.t 65), (some (62, false))⟩, ⟨(some 67), .fa 4 (.t 1), (some (66, true))⟩, ⟨(some 68), .ld false 1 (.t 67), (some (66, true))⟩, ⟨(some 69), .bin .i .neq (.t 68) (.c (.one (.d (.i .i64 0)))), (some (66, true))⟩, ⟨(some 70), .pick (.t 66) (.t 69) (.c (.one (.d (.b false)))), (some (62, false))⟩, ⟨(some 71), .pick (.t 62) (.c (.one (.d (.b true)))) (.t 70), none⟩]) (.cond (.t 71) (.seq (.reg [⟨(some 2), .mv (.c (.one (.d (.i .i64 4)))), none⟩]) .ret) .skip)) (.seq (.reg [⟨(some 2), .mv (.c (.one (.d (.i .i64 0)))), none⟩]) .ret))))), [.t 2]⟩
theorem low39 : lowF Try.prog 39 = some F39.strip := by kernel_rfl
theorem fok39 : fOk Try.prog 39 = true := by kernel_rfl
theorem reredosref_callMay_ok (G : Nat → Option (List D)) (p0 : Call) (r : Int) (h : reredosref_callMay p0 = some r) : FnRO Try.prog G 39 [.agg [.d (.i .i64 p0.Kind), .d (.i .i64 p0.N), .d (.i .i64 p0.Label), .d (.i .i64 p0.Key), .d (.i .i64 p0.Value)]] (fun rs => rs = [.one (.i .i64 r)]) := by
  refine FnRO.of' low39 fok39 (by simp [F39]) ?_
  rw [reredosref_callMay] at h
  simp only [F39, go_sem, Nat.reduceAdd, Nat.reduceEqDiff, Nat.reduceLeDiff, Nat.reduceSub, reduceCtorEq, ↓reduceIte, Nat.reduceBEq, Int.reduceLT, Int.reduceLE, Int.reduceEq, Int.reduceBEq, Int.reduceBNe, Nat.reduceLT, Nat.reduceMul]
  obtain ⟨v1, hv1, h⟩ := Option.bind_eq_some_iff.1 h
  try simp only [go_sem, Nat.reduceAdd, Nat.reduceEqDiff, Nat.reduceLeDiff, Nat.reduceSub, reduceCtorEq, ↓reduceIte, Nat.reduceBEq, Int.reduceLT, Int.reduceLE, Int.reduceEq, Int.reduceBEq, Int.reduceBNe, Nat.reduceLT, Nat.reduceMul]
  refine CallV.ro false (reredosref_In_ok G p0.Kind 1 5 v1 hv1) rfl ?_
  rintro rs rfl
  refine ⟨.inl rfl, ?_⟩
  rcases of_if h with ⟨hb2, h⟩ | ⟨hb2, h⟩
  · have hkhb2 := not_eq_t hb2
    simp only [Option.some.injEq] at h
    subst h
    try simp only [hb2, hkhb2, go_sem, Nat.reduceAdd, Nat.reduceEqDiff, Nat.reduceLeDiff, Nat.reduceSub, reduceCtorEq, ↓reduceIte, Nat.reduceBEq, Int.reduceLT, Int.reduceLE, Int.reduceEq, Int.reduceBEq, Int.reduceBNe, Nat.reduceLT, Nat.reduceMul, List.map_append, List.map_cons, List.map_nil, List.map_set]
  · have hkhb2 := not_eq_f hb2
    obtain ⟨v3, hv3, h⟩ := Option.bind_eq_some_iff.1 h
    try simp only [hb2, hkhb2, go_sem, Nat.reduceAdd, Nat.reduceEqDiff, Nat.reduceLeDiff, Nat.reduceSub, reduceCtorEq, ↓reduceIte, Nat.reduceBEq, Int.reduceLT, Int.reduceLE, Int.reduceEq, Int.reduceBEq, Int.reduceBNe, Nat.reduceLT, Nat.reduceMul]
    refine CallV.ro false (reredosref_In_ok G p0.N 0 1048576 v3 hv3) rfl ?_
    rintro rs rfl
    refine ⟨.inl rfl, ?_⟩
    rcases of_if h with ⟨hb4, h⟩ | ⟨hb4, h⟩
    · have hkhb4 := not_eq_t hb4
      simp only [Option.some.injEq] at h
      subst h
      try simp only [hb2, hkhb2, hb4, hkhb4, go_sem, Nat.reduceAdd, Nat.reduceEqDiff, Nat.reduceLeDiff, Nat.reduceSub, reduceCtorEq, ↓reduceIte, Nat.reduceBEq, Int.reduceLT, Int.reduceLE, Int.reduceEq, Int.reduceBEq, Int.reduceBNe, Nat.reduceLT, Nat.reduceMul, List.map_append, List.map_cons, List.map_nil, List.map_set]
    · have hkhb4 := not_eq_f hb4
      obtain ⟨v5, hv5, h⟩ := Option.bind_eq_some_iff.1 h
      try simp only [hb2, hkhb2, hb4, hkhb4, go_sem, Nat.reduceAdd, Nat.reduceEqDiff, Nat.reduceLeDiff, Nat.reduceSub, reduceCtorEq, ↓reduceIte, Nat.reduceBEq, Int.reduceLT, Int.reduceLE, Int.reduceEq, Int.reduceBEq, Int.reduceBNe, Nat.reduceLT, Nat.reduceMul]
      refine CallV.ro false (reredosref_In_ok G p0.Label 0 5 v5 hv5) rfl ?_
      rintro rs rfl
      refine ⟨.inl rfl, ?_⟩
      rcases of_if h with ⟨hb6, h⟩ | ⟨hb6, h⟩
      · have hkhb6 := not_eq_t hb6
        simp only [Option.some.injEq] at h
        subst h
        try simp only [hb2, hkhb2, hb4, hkhb4, hb6, hkhb6, go_sem, Nat.reduceAdd, Nat.reduceEqDiff, Nat.reduceLeDiff, Nat.reduceSub, reduceCtorEq, ↓reduceIte, Nat.reduceBEq, Int.reduceLT, Int.reduceLE, Int.reduceEq, Int.reduceBEq, Int.reduceBNe, Nat.reduceLT, Nat.reduceMul, List.map_append, List.map_cons, List.map_nil, List.map_set]
      · have hkhb6 := not_eq_f hb6
        obtain ⟨v7, hv7, h⟩ := Option.bind_eq_some_iff.1 h
        try simp only [hb2, hkhb2, hb4, hkhb4, hb6, hkhb6, go_sem, Nat.reduceAdd, Nat.reduceEqDiff, Nat.reduceLeDiff, Nat.reduceSub, reduceCtorEq, ↓reduceIte, Nat.reduceBEq, Int.reduceLT, Int.reduceLE, Int.reduceEq, Int.reduceBEq, Int.reduceBNe, Nat.reduceLT, Nat.reduceMul]
        refine CallV.ro false (reredosref_In_ok G p0.Key 0 8 v7 hv7) rfl ?_
        rintro rs rfl
        refine ⟨.inl rfl, ?_⟩
        rcases of_if h with ⟨hb8, h⟩ | ⟨hb8, h⟩
        · have hkhb8 := not_eq_t hb8
          simp only [Option.some.injEq] at h
          subst h
          try simp only [hb2, hkhb2, hb4, hkhb4, hb6, hkhb6, hb8, hkhb8, go_sem, Nat.reduceAdd, Nat.reduceEqDiff, Nat.reduceLeDiff, Nat.reduceSub, reduceCtorEq, ↓reduceIte, Nat.reduceBEq, Int.reduceLT, Int.reduceLE, Int.reduceEq, Int.reduceBEq, Int.reduceBNe, Nat.reduceLT, Nat.reduceMul, List.map_append, List.map_cons, List.map_nil, List.map_set]
        · have hkhb8 := not_eq_f hb8
          obtain ⟨v9, hv9, h⟩ := Option.bind_eq_some_iff.1 h
          try simp only [hb2, hkhb2, hb4, hkhb4, hb6, hkhb6, hb8, hkhb8, go_sem, Nat.reduceAdd, Nat.reduceEqDiff, Nat.reduceLeDiff, Nat.reduceSub, reduceCtorEq, ↓reduceIte, Nat.reduceBEq, Int.reduceLT, Int.reduceLE, Int.reduceEq, Int.reduceBEq, Int.reduceBNe, Nat.reduceLT, Nat.reduceMul]
          refine CallV.ro false (reredosref_In_ok G p0.Value 0 1073741824 v9 hv9) rfl ?_
          rintro rs rfl
          refine ⟨.inl rfl, ?_⟩
          rcases of_if h with ⟨hb10, h⟩ | ⟨hb10, h⟩
          · have hkhb10 := not_eq_t hb10
            simp only [Option.some.injEq] at h
            subst h
            try simp only [hb2, hkhb2, hb4, hkhb4, hb6, hkhb6, hb8, hkhb8, hb10, hkhb10, go_sem, Nat.reduceAdd, Nat.reduceEqDiff, Nat.reduceLeDiff, Nat.reduceSub, reduceCtorEq, ↓reduceIte, Nat.reduceBEq, Int.reduceLT, Int.reduceLE, Int.reduceEq, Int.reduceBEq, Int.reduceBNe, Nat.reduceLT, Nat.reduceMul, List.map_append, List.map_cons, List.map_nil, List.map_set]
          · have hkhb10 := not_eq_f hb10
            rcases of_if h with ⟨hb11, h⟩ | ⟨hb11, h⟩
            · rcases of_if h with ⟨hb12, h⟩ | ⟨hb12, h⟩
              · simp only [Option.some.injEq] at h
                subst h
                try simp only [hb2, hkhb2, hb4, hkhb4, hb6, hkhb6, hb8, hkhb8, hb10, hkhb10, hb11, hb12, go_sem, Nat.reduceAdd, Nat.reduceEqDiff, Nat.reduceLeDiff, Nat.reduceSub, reduceCtorEq, ↓reduceIte, Nat.reduceBEq, Int.reduceLT, Int.reduceLE, Int.reduceEq, Int.reduceBEq, Int.reduceBNe, Nat.reduceLT, Nat.reduceMul, List.map_append, List.map_cons, List.map_nil, List.map_set]
              · rcases of_if h with ⟨hb13, h⟩ | ⟨hb13, h⟩
                · rcases of_if h with ⟨hb14, h⟩ | ⟨hb14, h⟩
                  · simp only [Option.some.injEq] at h
                    subst h
                    try simp only [hb2, hkhb2, hb4, hkhb4, hb6, hkhb6, hb8, hkhb8, hb10, hkhb10, hb11, hb12, hb13, hb14, go_sem, Nat.reduceAdd, Nat.reduceEqDiff, Nat.reduceLeDiff, Nat.reduceSub, reduceCtorEq, ↓reduceIte, Nat.reduceBEq, Int.reduceLT, Int.reduceLE, Int.reduceEq, Int.reduceBEq, Int.reduceBNe, Nat.reduceLT, Nat.reduceMul, List.map_append, List.map_cons, List.map_nil, List.map_set]
                  · rcases of_if h with ⟨hb15, h⟩ | ⟨hb15, h⟩
                    · rcases of_if h with ⟨hb16, h⟩ | ⟨hb16, h⟩
                      · simp only [Option.some.injEq] at h
                        subst h
                        try simp only [hb2, hkhb2, hb4, hkhb4, hb6, hkhb6, hb8, hkhb8, hb10, hkhb10, hb11, hb12, hb13, hb14, hb15, hb16, go_sem, Nat.reduceAdd, Nat.reduceEqDiff, Nat.reduceLeDiff, Nat.reduceSub, reduceCtorEq, ↓reduceIte, Nat.reduceBEq, Int.reduceLT, Int.reduceLE, Int.reduceEq, Int.reduceBEq, Int.reduceBNe, Nat.reduceLT, Nat.reduceMul, List.map_append, List.map_cons, List.map_nil, List.map_set]
                      · rcases of_if h with ⟨hb17, h⟩ | ⟨hb17, h⟩
                        · simp only [Option.some.injEq] at h
                          subst h
                          try simp only [hb2, hkhb2, hb4, hkhb4, hb6, hkhb6, hb8, hkhb8, hb10, hkhb10, hb11, hb12, hb13, hb14, hb15, hb16, hb17, go_sem, Nat.reduceAdd, Nat.reduceEqDiff, Nat.reduceLeDiff, Nat.reduceSub, reduceCtorEq, ↓reduceIte, Nat.reduceBEq, Int.reduceLT, Int.reduceLE, Int.reduceEq, Int.reduceBEq, Int.reduceBNe, Nat.reduceLT, Nat.reduceMul, List.map_append, List.map_cons, List.map_nil, List.map_set]
                        · simp only [Option.some.injEq] at h
                          subst h
                          try simp only [hb2, hkhb2, hb4, hkhb4, hb6, hkhb6, hb8, hkhb8, hb10, hkhb10, hb11, hb12, hb13, hb14, hb15, hb16, hb17, go_sem, Nat.reduceAdd, Nat.reduceEqDiff, Nat.reduceLeDiff, Nat.reduceSub, reduceCtorEq, ↓reduceIte, Nat.reduceBEq, Int.reduceLT, Int.reduceLE, Int.reduceEq, Int.reduceBEq, Int.reduceBNe, Nat.reduceLT, Nat.reduceMul, List.map_append, List.map_cons, List.map_nil, List.map_set]
                    · simp only [Option.some.injEq] at h
                      subst h
                      try simp only [hb2, hkhb2, hb4, hkhb4, hb6, hkhb6, hb8, hkhb8, hb10, hkhb10, hb11, hb12, hb13, hb14, hb15, go_sem, Nat.reduceAdd, Nat.reduceEqDiff, Nat.reduceLeDiff, Nat.reduceSub, reduceCtorEq, ↓reduceIte, Nat.reduceBEq, Int.reduceLT, Int.reduceLE, Int.reduceEq, Int.reduceBEq, Int.reduceBNe, Nat.reduceLT, Nat.reduceMul, List.map_append, List.map_cons, List.map_nil, List.map_set]
                · rcases of_if h with ⟨hb18, h⟩ | ⟨hb18, h⟩
                  · rcases of_if h with ⟨hb19, h⟩ | ⟨hb19, h⟩
                    · simp only [Option.some.injEq] at h
                      subst h
                      try simp only [hb2, hkhb2, hb4, hkhb4, hb6, hkhb6, hb8, hkhb8, hb10, hkhb10, hb11, hb12, hb13, hb18, hb19, go_sem, Nat.reduceAdd, Nat.reduceEqDiff, Nat.reduceLeDiff, Nat.reduceSub, reduceCtorEq, ↓reduceIte, Nat.reduceBEq, Int.reduceLT, Int.reduceLE, Int.reduceEq, Int.reduceBEq, Int.reduceBNe, Nat.reduceLT, Nat.reduceMul, List.map_append, List.map_cons, List.map_nil, List.map_set]
                    · simp only [Option.some.injEq] at h
                      subst h
                      try simp only [hb2, hkhb2, hb4, hkhb4, hb6, hkhb6, hb8, hkhb8, hb10, hkhb10, hb11, hb12, hb13, hb18, hb19, go_sem, Nat.reduceAdd, Nat.reduceEqDiff, Nat.reduceLeDiff, Nat.reduceSub, reduceCtorEq, ↓reduceIte, Nat.reduceBEq, Int.reduceLT, Int.reduceLE, Int.reduceEq, Int.reduceBEq, Int.reduceBNe, Nat.reduceLT, Nat.reduceMul, List.map_append, List.map_cons, List.map_nil, List.map_set]
                  · simp only [Option.some.injEq] at h
                    subst h
                    try simp only [hb2, hkhb2, hb4, hkhb4, hb6, hkhb6, hb8, hkhb8, hb10, hkhb10, hb11, hb12, hb13, hb18, go_sem, Nat.reduceAdd, Nat.reduceEqDiff, Nat.reduceLeDiff, Nat.reduceSub, reduceCtorEq, ↓reduceIte, Nat.reduceBEq, Int.reduceLT, Int.reduceLE, Int.reduceEq, Int.reduceBEq, Int.reduceBNe, Nat.reduceLT, Nat.reduceMul, List.map_append, List.map_cons, List.map_nil, List.map_set]
            · rcases of_if h with ⟨hb20, h⟩ | ⟨hb20, h⟩
              · rcases of_if h with ⟨hb21, h⟩ | ⟨hb21, h⟩
                · simp only [Option.some.injEq] at h
                  subst h
                  try simp only [hb2, hkhb2, hb4, hkhb4, hb6, hkhb6, hb8, hkhb8, hb10, hkhb10, hb11, hb20, hb21, go_sem, Nat.reduceAdd, Nat.reduceEqDiff, Nat.reduceLeDiff, Nat.reduceSub, reduceCtorEq, ↓reduceIte, Nat.reduceBEq, Int.reduceLT, Int.reduceLE, Int.reduceEq, Int.reduceBEq, Int.reduceBNe, Nat.reduceLT, Nat.reduceMul, List.map_append, List.map_cons, List.map_nil, List.map_set]
                · rcases of_if h with ⟨hb22, h⟩ | ⟨hb22, h⟩
                  · rcases of_if h with ⟨hb23, h⟩ | ⟨hb23, h⟩
                    · simp only [Option.some.injEq] at h
                      subst h
                      try simp only [hb2, hkhb2, hb4, hkhb4, hb6, hkhb6, hb8, hkhb8, hb10, hkhb10, hb11, hb20, hb21, hb22, hb23, go_sem, Nat.reduceAdd, Nat.reduceEqDiff, Nat.reduceLeDiff, Nat.reduceSub, reduceCtorEq, ↓reduceIte, Nat.reduceBEq, Int.reduceLT, Int.reduceLE, Int.reduceEq, Int.reduceBEq, Int.reduceBNe, Nat.reduceLT, Nat.reduceMul, List.map_append, List.map_cons, List.map_nil, List.map_set]
                    · rcases of_if h with ⟨hb24, h⟩ | ⟨hb24, h⟩
                      · simp only [Option.some.injEq] at h
                        subst h
                        try simp only [hb2, hkhb2, hb4, hkhb4, hb6, hkhb6, hb8, hkhb8, hb10, hkhb10, hb11, hb20, hb21, hb22, hb23, hb24, go_sem, Nat.reduceAdd, Nat.reduceEqDiff, Nat.reduceLeDiff, Nat.reduceSub, reduceCtorEq, ↓reduceIte, Nat.reduceBEq, Int.reduceLT, Int.reduceLE, Int.reduceEq, Int.reduceBEq, Int.reduceBNe, Nat.reduceLT, Nat.reduceMul, List.map_append, List.map_cons, List.map_nil, List.map_set]
                      · simp only [Option.some.injEq] at h
                        subst h
                        try simp only [hb2, hkhb2, hb4, hkhb4, hb6, hkhb6, hb8, hkhb8, hb10, hkhb10, hb11, hb20, hb21, hb22, hb23, hb24, go_sem, Nat.reduceAdd, Nat.reduceEqDiff, Nat.reduceLeDiff, Nat.reduceSub, reduceCtorEq, ↓reduceIte, Nat.reduceBEq, Int.reduceLT, Int.reduceLE, Int.reduceEq, Int.reduceBEq, Int.reduceBNe, Nat.reduceLT, Nat.reduceMul, List.map_append, List.map_cons, List.map_nil, List.map_set]
                  · simp only [Option.some.injEq] at h
                    subst h
                    try simp only [hb2, hkhb2, hb4, hkhb4, hb6, hkhb6, hb8, hkhb8, hb10, hkhb10, hb11, hb20, hb21, hb22, go_sem, Nat.reduceAdd, Nat.reduceEqDiff, Nat.reduceLeDiff, Nat.reduceSub, reduceCtorEq, ↓reduceIte, Nat.reduceBEq, Int.reduceLT, Int.reduceLE, Int.reduceEq, Int.reduceBEq, Int.reduceBNe, Nat.reduceLT, Nat.reduceMul, List.map_append, List.map_cons, List.map_nil, List.map_set]
              · rcases of_if h with ⟨hb25, h⟩ | ⟨hb25, h⟩
                · rcases of_if h with ⟨hb26, h⟩ | ⟨hb26, h⟩
                  · simp only [Option.some.injEq] at h
                    subst h
                    try simp only [hb2, hkhb2, hb4, hkhb4, hb6, hkhb6, hb8, hkhb8, hb10, hkhb10, hb11, hb20, hb25, hb26, go_sem, Nat.reduceAdd, Nat.reduceEqDiff, Nat.reduceLeDiff, Nat.reduceSub, reduceCtorEq, ↓reduceIte, Nat.reduceBEq, Int.reduceLT, Int.reduceLE, Int.reduceEq, Int.reduceBEq, Int.reduceBNe, Nat.reduceLT, Nat.reduceMul, List.map_append, List.map_cons, List.map_nil, List.map_set]
                  · simp only [Option.some.injEq] at h
                    subst h
                    try simp only [hb2, hkhb2, hb4, hkhb4, hb6, hkhb6, hb8, hkhb8, hb10, hkhb10, hb11, hb20, hb25, hb26, go_sem, Nat.reduceAdd, Nat.reduceEqDiff, Nat.reduceLeDiff, Nat.reduceSub, reduceCtorEq, ↓reduceIte, Nat.reduceBEq, Int.reduceLT, Int.reduceLE, Int.reduceEq, Int.reduceBEq, Int.reduceBNe, Nat.reduceLT, Nat.reduceMul, List.map_append, List.map_cons, List.map_nil, List.map_set]
                · simp only [Option.some.injEq] at h
                  subst h
                  try simp only [hb2, hkhb2, hb4, hkhb4, hb6, hkhb6, hb8, hkhb8, hb10, hkhb10, hb11, hb20, hb25, go_sem, Nat.reduceAdd, Nat.reduceEqDiff, Nat.reduceLeDiff, Nat.reduceSub, reduceCtorEq, ↓reduceIte, Nat.reduceBEq, Int.reduceLT, Int.reduceLE, Int.reduceEq, Int.reduceBEq, Int.reduceBNe, Nat.reduceLT, Nat.reduceMul, List.map_append, List.map_cons, List.map_nil, List.map_set]
end Go.V.Dec
