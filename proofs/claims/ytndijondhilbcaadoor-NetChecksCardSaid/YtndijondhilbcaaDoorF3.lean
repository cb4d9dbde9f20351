/- What Go's functions come to, as plain functions: part 3; no condition. -/
import Derived.Test.YtndijondhilbcaaDoorF2
set_option linter.unusedVariables false
set_option linter.unusedSimpArgs false
namespace Go.V.Dec
open Go Go.Proofs
set_option maxRecDepth 100000
set_option maxHeartbeats 4000000
def reredosref_FlyingFault_L2 (p0 : Config) (a7_1 : Nat) (x11 : List Message) (k15 : Option (Int)) : Nat → Nat → Option (Int)
  | 0, _ => none
  | n17 + 1, a16_1 => (if (decide (a16_1 < x11.length)) = true then (Option.bind (x11[a16_1]?) fun x20 => (Option.bind (reredosref_MessageFault p0 x20) fun v21 => (if (v21 != 0) = true then (some 9) else (if (IntKind.i64.wrap (IntKind.i64.wrap (x20.From * p0.Sites) + x20.To) != ((a7_1 : Nat) : Int)) = true then (some 9) else (reredosref_FlyingFault_L2 p0 a7_1 x11 k15 n17 (a16_1 + 1)))))) else k15)
def reredosref_FlyingFault_L1 (p0 : Config) (p1 : List (List Message)) (k6 : Option (Int)) : Nat → Nat → Option (Int)
  | 0, _ => none
  | n8 + 1, a7_1 => (if (decide (a7_1 < p1.length)) = true then (Option.bind (p1[a7_1]?) fun x11 => (if (decide (((x11.length : Nat) : Int) > 30)) = true then (some 9) else (withK (reredosref_FlyingFault_L1 p0 p1 k6 n8 (a7_1 + 1)) fun k15 => (reredosref_FlyingFault_L2 p0 a7_1 x11 k15 (x11.length + 1) 0)))) else k6)
def reredosref_FlyingFault (p0 : Config) (p1 : List (List Message)) : Option (Int) := (Option.bind (reredosref_ConfigFault p0) fun v1 => (if (v1 != 0) = true then (some v1) else (if (((p1.length : Nat) : Int) != IntKind.i64.wrap (p0.Sites * p0.Sites)) = true then (some 9) else (withK (some 0) fun k6 => (reredosref_FlyingFault_L1 p0 p1 k6 (p1.length + 1) 0)))))
def F10 : VFn := ⟨66, (.seq (.reg [⟨(some 2), .box 3 (.t 0), none⟩, ⟨(some 4), .mv (.c (.one (.d (.i .i64 0)))), none⟩]) (.seq (.reg [⟨(some 9), .ld true 3 (.t 2), none⟩, ⟨(some 10), .call 27 [(.t 9)], none⟩, ⟨(some 5), .mv (.t 10), none⟩]) (.seq (.seq (.reg [⟨(some 11), .mv (.t 5), none⟩, ⟨(some 12), .bin .i .neq (.t 11) (.c (.one (.d (.i .i64 0)))), none⟩]) (.cond (.t 12) (.seq (.reg [⟨(some 13), .mv (.t 5), none⟩, ⟨(some 4), .mv (.t 13), none⟩]) .ret) .skip)) (.seq (.seq (.reg [⟨(some 14), .mv (.t 1), none⟩, ⟨(some 15), .len (.t 14), none⟩, ⟨(some 16), .fa 0 (.t 2), none⟩, ⟨(some 17), .ld false 1 (.t 16), none⟩, ⟨(some 18), .fa 0 (.t 2), none⟩, ⟨(some 19), .ld false 1 (.t 18), none⟩, ⟨(some 20), .bin .i .mul (.t 17) (.t 19), none⟩, ⟨(some 21), .bin .i .neq (.t 15) (.t 20), none⟩]) (.cond (.t 21) (.seq (.reg [⟨(some 4), .mv (.c (.one (.d (.i .i64 9)))), none⟩]) .ret) .skip)) (.seq (.seq (.reg [⟨(some 6), .mv (.c (.one (.d (.i .i64 0)))), none⟩]) (.wk (.block 0 (.loop (.seq (.seq (.reg [⟨(some 22), .mv (.t 6), none⟩, ⟨(some 23), .mv (.t 1), none⟩, ⟨(some 24), .len (.t 23), none⟩, ⟨(some 25), .bin .i .lss (.t 22) (.t 24), none⟩]) (.cond (.t 25) .skip (.exit 0))) (.seq (.block 1 (.seq (.seq (.reg [⟨(some 28), .mv (.t 1), none⟩, ⟨(some 29), .mv (.t 6), none⟩, ⟨(some 30), .ia 1 (.t 28) (.t 29), none⟩, ⟨(some 31), .ld false 1 (.t 30), none⟩, ⟨(some 32), .len (.t 31), none⟩, ⟨(some 33), .bin .i .gtr (.t 32) (.c (.one (.d (.i .i64 30)))), none⟩]) (.cond (.t 33) (.seq (.reg [⟨(some 4), .mv (.c (.one (.d (.i .i64 9)))), none⟩]) .ret) .skip)) (.seq (.reg [⟨(some 7), .mv (.c (.one (.d (.i .i64 0)))), none⟩]) (.wk (.block 2 (.loop (.seq (.seq (.reg [⟨(some 34), .mv (.t 7), none⟩, ⟨(some 35), .mv (.t 1), none⟩, ⟨(some 36), .mv (.t 6), none⟩, ⟨(some 37), .ia 1 (.t 35) (.t 36), none⟩, ⟨(some 38), .ld false 1 (.t 37), none⟩, ⟨(some 39), .len (.t 38), none⟩, ⟨(some 40), .bin .i .lss (.t 34) (.t 39), none⟩]) (.cond (.t 40) .skip (.exit 2))) (.seq (.block 3 (.seq (.reg [⟨(some 43), .mv (.t 1), none⟩, ⟨(some 44), .mv (.t 6), none⟩, ⟨(some 45), .ia 1 (.t 43) (.t 44), none⟩, ⟨(some 46), .ld false 1 (.t 45), none⟩, ⟨(some 47), .mv (.t 7), none⟩, ⟨(some 48), .ia 12 (.t 46) (.t 47), none⟩, ⟨(some 49), .ld true 12 (.t 48), none⟩, ⟨(some 8), .alloc [(.d (.i .i64 0)), (.d (.i .i64 0)), (.d (.i .i64 0)), (.d (.i .i64 0)), (.d (.i .i64 0)), (.d (.i .i64 0)), (.d (.i .i64 0)), (.d (.i .i64 0)), (.d (.i .i64 0)), (.d (.i .i64 0)), (.d (.b false)), (.d (.i .i64 0))], none⟩, ⟨none, .st 12 (.t 8) (.t 49), none⟩]) (.seq (.reg [⟨(some 50), .ld true 3 (.t 2), none⟩, ⟨(some 51), .ld true 12 (.t 8), none⟩, ⟨(some 52), .call 28 [(.t 50), (.t 51)], none⟩, ⟨(some 53), .bin .i .neq (.t 52) (.c (.one (.d (.i .i64 0)))), none⟩, ⟨(some 54), .mv (.t 53), none⟩, ⟨(some 55), .fa 1 (.t 8), (some (54, false))⟩, ⟨(some 56), .ld false 1 (.t 55), (some (54, false))⟩, ⟨(some 57), .fa 0 (.t 2), (some (54, false))⟩, ⟨(some 58), .ld false 1 (.t 57), (some (54, false))⟩, ⟨(some 59), .bin .i .mul (.t 56) (.t 58), (some (54, false))⟩, ⟨(some 60), .fa 2 (.t 8), (some (54, false))⟩, ⟨(some 61), .ld false 1 (.t 60), (some (54, false))⟩, ⟨(some 62), .bin .i .add (.t 59) (.t 61), (some (54, false))⟩, ⟨(some 63), .mv (.t 6), (some (54, false))⟩, ⟨(some 64), .bin .i .neq (.t 62) (.t 63), (some (54, false))⟩, ⟨(some 65), .pick (.t 54) (.c (.one (.d (.b true)))) (.t 64), none⟩]) (.cond (.t 65) (.seq (.reg [⟨(some 4), .mv (.c (.one (.d (.i .i64 9)))), none⟩]) .ret) .skip)))) (.reg [⟨(some 41), .mv (.t 7), none⟩, ⟨(some 42), .bin .i .add (.t 41) (.c (.one (.d (.i .i64 1)))), none⟩, ⟨(some 7), .mv (.t 42), none⟩]))))))))) (.reg [⟨(some 26), .mv (.t 6), none⟩, ⟨(some 27), .bin .i .add (.t 26) (.c (.one (.d (.i .i64 1)))), none⟩, ⟨(some 6), .mv (.t 27), none⟩]))))))) (.seq (.reg [⟨(some 4), .mv (.c (.one (.d (.i .i64 0)))), none⟩]) .ret)))))), [.t 4]⟩
theorem low10 : lowF Tryd.prog 10 = some F10.strip := by kernel_rfl
theorem fok10 : fOk Tryd.prog 10 = true := by kernel_rfl
theorem reredosref_FlyingFault_ok (G : Nat → Option (List D)) (p0 : Config) (p1 : List (List Message)) (r : Int) (h : reredosref_FlyingFault p0 p1 = some r) : FnRO Tryd.prog G 10 [.agg [.d (.i .i64 p0.Sites), .d (.l 2 (p0.Labels.map Label.enc)), .d (.i .i64 p0.Patience)], .one (.d (.l 1 (p1.map (encL 12 Message.enc))))] (fun rs => rs = [.one (.i .i64 r)]) := by
  refine FnRO.of' low10 fok10 (by simp [F10]) ?_
  rw [reredosref_FlyingFault] at h
  simp only [F10, go_sem, Nat.reduceAdd, Nat.reduceEqDiff, Nat.reduceLeDiff, Nat.reduceSub, reduceCtorEq, ↓reduceIte, Nat.reduceBEq, Int.reduceLT, Int.reduceLE, Int.reduceEq, Int.reduceBEq, Int.reduceBNe, Nat.reduceLT, Nat.reduceMul]
  obtain ⟨v1, hv1, h⟩ := Option.bind_eq_some_iff.1 h
  try simp only [go_sem, Nat.reduceAdd, Nat.reduceEqDiff, Nat.reduceLeDiff, Nat.reduceSub, reduceCtorEq, ↓reduceIte, Nat.reduceBEq, Int.reduceLT, Int.reduceLE, Int.reduceEq, Int.reduceBEq, Int.reduceBNe, Nat.reduceLT, Nat.reduceMul]
  refine CallV.ro false (reredosref_ConfigFault_ok G p0 v1 hv1) rfl ?_
  rintro rs rfl
  refine ⟨.inl rfl, ?_⟩
  rcases of_if h with ⟨hb2, h⟩ | ⟨hb2, h⟩
  · simp only [Option.some.injEq] at h
    subst h
    try simp only [hb2, go_sem, Nat.reduceAdd, Nat.reduceEqDiff, Nat.reduceLeDiff, Nat.reduceSub, reduceCtorEq, ↓reduceIte, Nat.reduceBEq, Int.reduceLT, Int.reduceLE, Int.reduceEq, Int.reduceBEq, Int.reduceBNe, Nat.reduceLT, Nat.reduceMul, List.map_append, List.map_cons, List.map_nil, List.map_set]
  · try simp only [hb2, go_sem, Nat.reduceAdd, Nat.reduceEqDiff, Nat.reduceLeDiff, Nat.reduceSub, reduceCtorEq, ↓reduceIte, Nat.reduceBEq, Int.reduceLT, Int.reduceLE, Int.reduceEq, Int.reduceBEq, Int.reduceBNe, Nat.reduceLT, Nat.reduceMul]
    intro hl3
    rcases of_if h with ⟨hb4, h⟩ | ⟨hb4, h⟩
    · simp only [Option.some.injEq] at h
      subst h
      try simp only [hb2, hb4, go_sem, Nat.reduceAdd, Nat.reduceEqDiff, Nat.reduceLeDiff, Nat.reduceSub, reduceCtorEq, ↓reduceIte, Nat.reduceBEq, Int.reduceLT, Int.reduceLE, Int.reduceEq, Int.reduceBEq, Int.reduceBNe, Nat.reduceLT, Nat.reduceMul, List.map_append, List.map_cons, List.map_nil, List.map_set]
    · obtain ⟨k6, hk6, h⟩ := withK_lk0 h
      try simp only [hb2, hb4, go_sem, Nat.reduceAdd, Nat.reduceEqDiff, Nat.reduceLeDiff, Nat.reduceSub, reduceCtorEq, ↓reduceIte, Nat.reduceBEq, Int.reduceLT, Int.reduceLE, Int.reduceEq, Int.reduceBEq, Int.reduceBNe, Nat.reduceLT, Nat.reduceMul]
      refine join_lk Tryd.prog G _ _ (B := Unit) (fun b => k6 = some r) (fun b => []) (fun b => []) ?_ (fun b h => ?_)
      · try simp only [hb2, hb4, go_sem, Nat.reduceAdd, Nat.reduceEqDiff, Nat.reduceLeDiff, Nat.reduceSub, reduceCtorEq, ↓reduceIte, Nat.reduceBEq, Int.reduceLT, Int.reduceLE, Int.reduceEq, Int.reduceBEq, Int.reduceBNe, Nat.reduceLT, Nat.reduceMul]
        refine loop_lk Tryd.prog G _ _ (A := Nat) (fun n a => reredosref_FlyingFault_L1 p0 p1 k6 n a = some r) (fun a => [(1, .one (.d (.l 1 (p1.map (encL 12 Message.enc))))), (2, .one (.p (.q 0 0 0))), (6, .one (.d (.i .i64 ((a : Nat) : Int))))]) (fun a => [some (.box [.d (.i .i64 p0.Sites), .d (.l 2 (p0.Labels.map Label.enc)), .d (.i .i64 p0.Patience)])]) (p1.length + 1) (0) h (wk_i _ _ _ [some 0] rfl (by simp only [hb2, hb4, go_sem, Nat.reduceAdd, Nat.reduceEqDiff, Nat.reduceLeDiff, Nat.reduceSub, reduceCtorEq, ↓reduceIte, Nat.reduceBEq, Int.reduceLT, Int.reduceLE, Int.reduceEq, Int.reduceBEq, Int.reduceBNe, Nat.reduceLT, Nat.reduceMul, slotsWk, objsWk, objWk, optVOWk, SV.wk, SC.wk, cellsWk, VO.wk, Ptr.wk, ptrsWk, SC.isNl, List.map_append, List.map_cons, List.map_nil, Option.some.injEq, Prod.mk.injEq, SC.d.injEq, D.l.injEq, List.map_set]) (by simp only [hb2, hb4, go_sem, Nat.reduceAdd, Nat.reduceEqDiff, Nat.reduceLeDiff, Nat.reduceSub, reduceCtorEq, ↓reduceIte, Nat.reduceBEq, Int.reduceLT, Int.reduceLE, Int.reduceEq, Int.reduceBEq, Int.reduceBNe, Nat.reduceLT, Nat.reduceMul, slotsWk, objsWk, objWk, optVOWk, SV.wk, SC.wk, cellsWk, VO.wk, Ptr.wk, ptrsWk, SC.isNl, List.map_append, List.map_cons, List.map_nil, Option.some.injEq, Prod.mk.injEq, SC.d.injEq, D.l.injEq, List.map_set])) (fun a h => by simp only [reredosref_FlyingFault_L1, reduceCtorEq] at h) ?_
        intro n8 a7_1 h
        try dsimp only at h
        rw [reredosref_FlyingFault_L1] at h
        try simp only [go_sem, Nat.reduceAdd, Nat.reduceEqDiff, Nat.reduceLeDiff, Nat.reduceSub, reduceCtorEq, ↓reduceIte, Nat.reduceBEq, Int.reduceLT, Int.reduceLE, Int.reduceEq, Int.reduceBEq, Int.reduceBNe, Nat.reduceLT, Nat.reduceMul]
        intro hl9
        rcases of_if h with ⟨hb10, h⟩ | ⟨hb10, h⟩
        · have hkhb10 := of_decide_eq_true hb10
          obtain ⟨x11, hx11, h⟩ := Option.bind_eq_some_iff.1 h
          have hkx11 := (List.getElem?_eq_some_iff.1 hx11).1
          try simp only [List.length_take, List.length_drop, List.length_append, List.length_set, List.length_map, List.length_cons, List.length_nil, Nat.zero_add] at hkx11
          try simp only [hb10, hkhb10, hx11, hkx11, go_sem, Nat.reduceAdd, Nat.reduceEqDiff, Nat.reduceLeDiff, Nat.reduceSub, reduceCtorEq, ↓reduceIte, Nat.reduceBEq, Int.reduceLT, Int.reduceLE, Int.reduceEq, Int.reduceBEq, Int.reduceBNe, Nat.reduceLT, Nat.reduceMul]
          intro hl12
          rcases of_if h with ⟨hb13, h⟩ | ⟨hb13, h⟩
          · simp only [Option.some.injEq] at h
            subst h
            try simp only [hb10, hkhb10, hx11, hkx11, hb13, go_sem, Nat.reduceAdd, Nat.reduceEqDiff, Nat.reduceLeDiff, Nat.reduceSub, reduceCtorEq, ↓reduceIte, Nat.reduceBEq, Int.reduceLT, Int.reduceLE, Int.reduceEq, Int.reduceBEq, Int.reduceBNe, Nat.reduceLT, Nat.reduceMul, List.map_append, List.map_cons, List.map_nil, List.map_set]
          · obtain ⟨k15, hk15, h⟩ := withK_lk0 h
            try simp only [hb10, hkhb10, hx11, hkx11, hb13, go_sem, Nat.reduceAdd, Nat.reduceEqDiff, Nat.reduceLeDiff, Nat.reduceSub, reduceCtorEq, ↓reduceIte, Nat.reduceBEq, Int.reduceLT, Int.reduceLE, Int.reduceEq, Int.reduceBEq, Int.reduceBNe, Nat.reduceLT, Nat.reduceMul]
            refine join_lk Tryd.prog G _ _ (B := Unit) (fun b => k15 = some r) (fun b => [(1, .one (.d (.l 1 (p1.map (encL 12 Message.enc))))), (2, .one (.p (.q 0 0 0))), (6, .one (.d (.i .i64 ((a7_1 : Nat) : Int))))]) (fun b => [some (.box [.d (.i .i64 p0.Sites), .d (.l 2 (p0.Labels.map Label.enc)), .d (.i .i64 p0.Patience)])]) ?_ (fun b h => ?_)
            · try simp only [hb10, hkhb10, hx11, hkx11, hb13, go_sem, Nat.reduceAdd, Nat.reduceEqDiff, Nat.reduceLeDiff, Nat.reduceSub, reduceCtorEq, ↓reduceIte, Nat.reduceBEq, Int.reduceLT, Int.reduceLE, Int.reduceEq, Int.reduceBEq, Int.reduceBNe, Nat.reduceLT, Nat.reduceMul]
              refine loop_lk Tryd.prog G _ _ (A := Nat) (fun n a => reredosref_FlyingFault_L2 p0 a7_1 x11 k15 n a = some r) (fun a => [(1, .one (.d (.l 1 (p1.map (encL 12 Message.enc))))), (2, .one (.p (.q 0 0 0))), (6, .one (.d (.i .i64 ((a7_1 : Nat) : Int)))), (7, .one (.d (.i .i64 ((a : Nat) : Int))))]) (fun a => [some (.box [.d (.i .i64 p0.Sites), .d (.l 2 (p0.Labels.map Label.enc)), .d (.i .i64 p0.Patience)])]) (x11.length + 1) (0) h (wk_i _ _ _ [some 0] rfl (by simp only [hb10, hkhb10, hx11, hkx11, hb13, go_sem, Nat.reduceAdd, Nat.reduceEqDiff, Nat.reduceLeDiff, Nat.reduceSub, reduceCtorEq, ↓reduceIte, Nat.reduceBEq, Int.reduceLT, Int.reduceLE, Int.reduceEq, Int.reduceBEq, Int.reduceBNe, Nat.reduceLT, Nat.reduceMul, slotsWk, objsWk, objWk, optVOWk, SV.wk, SC.wk, cellsWk, VO.wk, Ptr.wk, ptrsWk, SC.isNl, List.map_append, List.map_cons, List.map_nil, Option.some.injEq, Prod.mk.injEq, SC.d.injEq, D.l.injEq, List.map_set]) (by simp only [hb10, hkhb10, hx11, hkx11, hb13, go_sem, Nat.reduceAdd, Nat.reduceEqDiff, Nat.reduceLeDiff, Nat.reduceSub, reduceCtorEq, ↓reduceIte, Nat.reduceBEq, Int.reduceLT, Int.reduceLE, Int.reduceEq, Int.reduceBEq, Int.reduceBNe, Nat.reduceLT, Nat.reduceMul, slotsWk, objsWk, objWk, optVOWk, SV.wk, SC.wk, cellsWk, VO.wk, Ptr.wk, ptrsWk, SC.isNl, List.map_append, List.map_cons, List.map_nil, Option.some.injEq, Prod.mk.injEq, SC.d.injEq, D.l.injEq, List.map_set])) (fun a h => by simp only [reredosref_FlyingFault_L2, reduceCtorEq] at h) ?_
              intro n17 a16_1 h
              try dsimp only at h
              rw [reredosref_FlyingFault_L2] at h
              try simp only [hkhb10, hx11, hkx11, go_sem, Nat.reduceAdd, Nat.reduceEqDiff, Nat.reduceLeDiff, Nat.reduceSub, reduceCtorEq, ↓reduceIte, Nat.reduceBEq, Int.reduceLT, Int.reduceLE, Int.reduceEq, Int.reduceBEq, Int.reduceBNe, Nat.reduceLT, Nat.reduceMul]
              intro hl18
              rcases of_if h with ⟨hb19, h⟩ | ⟨hb19, h⟩
              · have hkhb19 := of_decide_eq_true hb19
                obtain ⟨x20, hx20, h⟩ := Option.bind_eq_some_iff.1 h
                have hkx20 := (List.getElem?_eq_some_iff.1 hx20).1
                try simp only [List.length_take, List.length_drop, List.length_append, List.length_set, List.length_map, List.length_cons, List.length_nil, Nat.zero_add] at hkx20
                obtain ⟨v21, hv21, h⟩ := Option.bind_eq_some_iff.1 h
                try simp only [hkhb10, hx11, hkx11, hb19, hkhb19, hx20, hkx20, go_sem, Nat.reduceAdd, Nat.reduceEqDiff, Nat.reduceLeDiff, Nat.reduceSub, reduceCtorEq, ↓reduceIte, Nat.reduceBEq, Int.reduceLT, Int.reduceLE, Int.reduceEq, Int.reduceBEq, Int.reduceBNe, Nat.reduceLT, Nat.reduceMul]
                refine CallV.ro false (reredosref_MessageFault_ok G p0 x20 v21 hv21) rfl ?_
                rintro rs rfl
                refine ⟨.inl rfl, ?_⟩
                rcases of_if h with ⟨hb22, h⟩ | ⟨hb22, h⟩
                · simp only [Option.some.injEq] at h
                  subst h
                  try simp only [hkhb10, hx11, hkx11, hb19, hkhb19, hx20, hkx20, hb22, go_sem, Nat.reduceAdd, Nat.reduceEqDiff, Nat.reduceLeDiff, Nat.reduceSub, reduceCtorEq, ↓reduceIte, Nat.reduceBEq, Int.reduceLT, Int.reduceLE, Int.reduceEq, Int.reduceBEq, Int.reduceBNe, Nat.reduceLT, Nat.reduceMul, List.map_append, List.map_cons, List.map_nil, List.map_set]
                · rcases of_if h with ⟨hb23, h⟩ | ⟨hb23, h⟩
                  · simp only [Option.some.injEq] at h
                    subst h
                    try simp only [hkhb10, hx11, hkx11, hb19, hkhb19, hx20, hkx20, hb22, hb23, go_sem, Nat.reduceAdd, Nat.reduceEqDiff, Nat.reduceLeDiff, Nat.reduceSub, reduceCtorEq, ↓reduceIte, Nat.reduceBEq, Int.reduceLT, Int.reduceLE, Int.reduceEq, Int.reduceBEq, Int.reduceBNe, Nat.reduceLT, Nat.reduceMul, List.map_append, List.map_cons, List.map_nil, List.map_set]
                  · have hw24 := wrap_succ_max hkx20 hl18
                    try simp only [hkhb10, hx11, hkx11, hb19, hkhb19, hx20, hkx20, hb22, hb23, hw24, go_sem, Nat.reduceAdd, Nat.reduceEqDiff, Nat.reduceLeDiff, Nat.reduceSub, reduceCtorEq, ↓reduceIte, Nat.reduceBEq, Int.reduceLT, Int.reduceLE, Int.reduceEq, Int.reduceBEq, Int.reduceBNe, Nat.reduceLT, Nat.reduceMul]
                    exact loopQ_i (a16_1 + 1) h [some 0] rfl (by simp only [hkhb10, hx11, hkx11, hb19, hkhb19, hx20, hkx20, hb22, hb23, hw24, go_sem, Nat.reduceAdd, Nat.reduceEqDiff, Nat.reduceLeDiff, Nat.reduceSub, reduceCtorEq, ↓reduceIte, Nat.reduceBEq, Int.reduceLT, Int.reduceLE, Int.reduceEq, Int.reduceBEq, Int.reduceBNe, Nat.reduceLT, Nat.reduceMul, slotsWk, objsWk, objWk, optVOWk, SV.wk, SC.wk, cellsWk, VO.wk, Ptr.wk, ptrsWk, SC.isNl, List.map_append, List.map_cons, List.map_nil, Option.some.injEq, Prod.mk.injEq, SC.d.injEq, D.l.injEq, List.map_set]) (by simp only [hkhb10, hx11, hkx11, hb19, hkhb19, hx20, hkx20, hb22, hb23, hw24, go_sem, Nat.reduceAdd, Nat.reduceEqDiff, Nat.reduceLeDiff, Nat.reduceSub, reduceCtorEq, ↓reduceIte, Nat.reduceBEq, Int.reduceLT, Int.reduceLE, Int.reduceEq, Int.reduceBEq, Int.reduceBNe, Nat.reduceLT, Nat.reduceMul, slotsWk, objsWk, objWk, optVOWk, SV.wk, SC.wk, cellsWk, VO.wk, Ptr.wk, ptrsWk, SC.isNl, List.map_append, List.map_cons, List.map_nil, Option.some.injEq, Prod.mk.injEq, SC.d.injEq, D.l.injEq, List.map_set])
              · try simp only [hkhb10, hx11, hkx11, hb19, go_sem, Nat.reduceAdd, Nat.reduceEqDiff, Nat.reduceLeDiff, Nat.reduceSub, reduceCtorEq, ↓reduceIte, Nat.reduceBEq, Int.reduceLT, Int.reduceLE, Int.reduceEq, Int.reduceBEq, Int.reduceBNe, Nat.reduceLT, Nat.reduceMul]
                exact joinQ_i () h [some 0] rfl (by simp only [hkhb10, hx11, hkx11, hb19, go_sem, Nat.reduceAdd, Nat.reduceEqDiff, Nat.reduceLeDiff, Nat.reduceSub, reduceCtorEq, ↓reduceIte, Nat.reduceBEq, Int.reduceLT, Int.reduceLE, Int.reduceEq, Int.reduceBEq, Int.reduceBNe, Nat.reduceLT, Nat.reduceMul, slotsWk, objsWk, objWk, optVOWk, SV.wk, SC.wk, cellsWk, VO.wk, Ptr.wk, ptrsWk, SC.isNl, List.map_append, List.map_cons, List.map_nil, Option.some.injEq, Prod.mk.injEq, SC.d.injEq, D.l.injEq, List.map_set]) (by simp only [hkhb10, hx11, hkx11, hb19, go_sem, Nat.reduceAdd, Nat.reduceEqDiff, Nat.reduceLeDiff, Nat.reduceSub, reduceCtorEq, ↓reduceIte, Nat.reduceBEq, Int.reduceLT, Int.reduceLE, Int.reduceEq, Int.reduceBEq, Int.reduceBNe, Nat.reduceLT, Nat.reduceMul, slotsWk, objsWk, objWk, optVOWk, SV.wk, SC.wk, cellsWk, VO.wk, Ptr.wk, ptrsWk, SC.isNl, List.map_append, List.map_cons, List.map_nil, Option.some.injEq, Prod.mk.injEq, SC.d.injEq, D.l.injEq, List.map_set])
            · try dsimp only at h
              rw [hk15] at h
              have hw25 := wrap_succ_max hkx11 hl9
              try simp only [hkhb10, hx11, hkx11, hw25, go_sem, Nat.reduceAdd, Nat.reduceEqDiff, Nat.reduceLeDiff, Nat.reduceSub, reduceCtorEq, ↓reduceIte, Nat.reduceBEq, Int.reduceLT, Int.reduceLE, Int.reduceEq, Int.reduceBEq, Int.reduceBNe, Nat.reduceLT, Nat.reduceMul]
              exact loopQ_i (a7_1 + 1) h [some 0] rfl (by simp only [hkhb10, hx11, hkx11, hw25, go_sem, Nat.reduceAdd, Nat.reduceEqDiff, Nat.reduceLeDiff, Nat.reduceSub, reduceCtorEq, ↓reduceIte, Nat.reduceBEq, Int.reduceLT, Int.reduceLE, Int.reduceEq, Int.reduceBEq, Int.reduceBNe, Nat.reduceLT, Nat.reduceMul, slotsWk, objsWk, objWk, optVOWk, SV.wk, SC.wk, cellsWk, VO.wk, Ptr.wk, ptrsWk, SC.isNl, List.map_append, List.map_cons, List.map_nil, Option.some.injEq, Prod.mk.injEq, SC.d.injEq, D.l.injEq, List.map_set]) (by simp only [hkhb10, hx11, hkx11, hw25, go_sem, Nat.reduceAdd, Nat.reduceEqDiff, Nat.reduceLeDiff, Nat.reduceSub, reduceCtorEq, ↓reduceIte, Nat.reduceBEq, Int.reduceLT, Int.reduceLE, Int.reduceEq, Int.reduceBEq, Int.reduceBNe, Nat.reduceLT, Nat.reduceMul, slotsWk, objsWk, objWk, optVOWk, SV.wk, SC.wk, cellsWk, VO.wk, Ptr.wk, ptrsWk, SC.isNl, List.map_append, List.map_cons, List.map_nil, Option.some.injEq, Prod.mk.injEq, SC.d.injEq, D.l.injEq, List.map_set])
        · try simp only [hb10, go_sem, Nat.reduceAdd, Nat.reduceEqDiff, Nat.reduceLeDiff, Nat.reduceSub, reduceCtorEq, ↓reduceIte, Nat.reduceBEq, Int.reduceLT, Int.reduceLE, Int.reduceEq, Int.reduceBEq, Int.reduceBNe, Nat.reduceLT, Nat.reduceMul]
          exact joinQ_i () h [] rfl (by simp only [hb10, go_sem, Nat.reduceAdd, Nat.reduceEqDiff, Nat.reduceLeDiff, Nat.reduceSub, reduceCtorEq, ↓reduceIte, Nat.reduceBEq, Int.reduceLT, Int.reduceLE, Int.reduceEq, Int.reduceBEq, Int.reduceBNe, Nat.reduceLT, Nat.reduceMul, slotsWk, objsWk, objWk, optVOWk, SV.wk, SC.wk, cellsWk, VO.wk, Ptr.wk, ptrsWk, SC.isNl, List.map_append, List.map_cons, List.map_nil, Option.some.injEq, Prod.mk.injEq, SC.d.injEq, D.l.injEq, List.map_set]) (by simp only [hb10, go_sem, Nat.reduceAdd, Nat.reduceEqDiff, Nat.reduceLeDiff, Nat.reduceSub, reduceCtorEq, ↓reduceIte, Nat.reduceBEq, Int.reduceLT, Int.reduceLE, Int.reduceEq, Int.reduceBEq, Int.reduceBNe, Nat.reduceLT, Nat.reduceMul, slotsWk, objsWk, objWk, optVOWk, SV.wk, SC.wk, cellsWk, VO.wk, Ptr.wk, ptrsWk, SC.isNl, List.map_append, List.map_cons, List.map_nil, Option.some.injEq, Prod.mk.injEq, SC.d.injEq, D.l.injEq, List.map_set])
      · try dsimp only at h
        rw [hk6] at h
        simp only [Option.some.injEq] at h
        subst h
        try simp only [go_sem, Nat.reduceAdd, Nat.reduceEqDiff, Nat.reduceLeDiff, Nat.reduceSub, reduceCtorEq, ↓reduceIte, Nat.reduceBEq, Int.reduceLT, Int.reduceLE, Int.reduceEq, Int.reduceBEq, Int.reduceBNe, Nat.reduceLT, Nat.reduceMul, List.map_append, List.map_cons, List.map_nil, List.map_set]
def reredoslaw_NetChecks (p0 : Config) (p1 : List (List Message)) : Option (Bool) := (Option.bind (net_Check p0 p1) fun v1 => (Option.bind (reredosref_FlyingFault p0 p1) fun v2 => (some (v1 == v2))))
def F3 : VFn := ⟨16, (.seq (.reg [⟨(some 2), .box 3 (.t 0), none⟩, ⟨(some 4), .mv (.c (.one (.d (.b false)))), none⟩]) (.seq (.reg [⟨(some 7), .ld true 3 (.t 2), none⟩, ⟨(some 8), .mv (.t 1), none⟩, ⟨(some 9), .call 9 [(.t 7), (.t 8)], none⟩, ⟨(some 5), .mv (.t 9), none⟩]) (.seq (.reg [⟨(some 10), .ld true 3 (.t 2), none⟩, ⟨(some 11), .mv (.t 1), none⟩, ⟨(some 12), .call 10 [(.t 10), (.t 11)], none⟩, ⟨(some 6), .mv (.t 12), none⟩]) (.seq (.reg [⟨(some 13), .mv (.t 5), none⟩, ⟨(some 14), .mv (.t 6), none⟩, ⟨(some 15), .bin .i .eql (.t 13) (.t 14), none⟩, ⟨(some 4), .mv (.t 15), none⟩]) .ret)))), [.t 4]⟩
theorem low3 : lowF Tryd.prog 3 = some F3.strip := by kernel_rfl
theorem fok3 : fOk Tryd.prog 3 = true := by kernel_rfl
theorem reredoslaw_NetChecks_ok (G : Nat → Option (List D)) (htab_wire_messages : constG G 1 = .one (.d (.k tab_wire_messagesD))) (p0 : Config) (p1 : List (List Message)) (r : Bool) (h : reredoslaw_NetChecks p0 p1 = some r) : FnRO Tryd.prog G 3 [.agg [.d (.i .i64 p0.Sites), .d (.l 2 (p0.Labels.map Label.enc)), .d (.i .i64 p0.Patience)], .one (.d (.l 1 (p1.map (encL 12 Message.enc))))] (fun rs => rs = [.one (.b r)]) := by
  refine FnRO.of' low3 fok3 (by simp [F3]) ?_
  rw [reredoslaw_NetChecks] at h
  simp only [F3, go_sem, Nat.reduceAdd, Nat.reduceEqDiff, Nat.reduceLeDiff, Nat.reduceSub, reduceCtorEq, ↓reduceIte, Nat.reduceBEq, Int.reduceLT, Int.reduceLE, Int.reduceEq, Int.reduceBEq, Int.reduceBNe, Nat.reduceLT, Nat.reduceMul]
  obtain ⟨v1, hv1, h⟩ := Option.bind_eq_some_iff.1 h
  try simp only [htab_wire_messages, go_sem, Nat.reduceAdd, Nat.reduceEqDiff, Nat.reduceLeDiff, Nat.reduceSub, reduceCtorEq, ↓reduceIte, Nat.reduceBEq, Int.reduceLT, Int.reduceLE, Int.reduceEq, Int.reduceBEq, Int.reduceBNe, Nat.reduceLT, Nat.reduceMul]
  refine CallV.ro false (net_Check_ok G htab_wire_messages p0 p1 v1 hv1) rfl ?_
  rintro rs rfl
  refine ⟨.inl rfl, ?_⟩
  obtain ⟨v2, hv2, h⟩ := Option.bind_eq_some_iff.1 h
  try simp only [htab_wire_messages, go_sem, Nat.reduceAdd, Nat.reduceEqDiff, Nat.reduceLeDiff, Nat.reduceSub, reduceCtorEq, ↓reduceIte, Nat.reduceBEq, Int.reduceLT, Int.reduceLE, Int.reduceEq, Int.reduceBEq, Int.reduceBNe, Nat.reduceLT, Nat.reduceMul]
  refine CallV.ro false (reredosref_FlyingFault_ok G p0 p1 v2 hv2) rfl ?_
  rintro rs rfl
  refine ⟨.inl rfl, ?_⟩
  simp only [Option.some.injEq] at h
  subst h
  try simp only [htab_wire_messages, go_sem, Nat.reduceAdd, Nat.reduceEqDiff, Nat.reduceLeDiff, Nat.reduceSub, reduceCtorEq, ↓reduceIte, Nat.reduceBEq, Int.reduceLT, Int.reduceLE, Int.reduceEq, Int.reduceBEq, Int.reduceBNe, Nat.reduceLT, Nat.reduceMul, List.map_append, List.map_cons, List.map_nil, List.map_set]
end Go.V.Dec
