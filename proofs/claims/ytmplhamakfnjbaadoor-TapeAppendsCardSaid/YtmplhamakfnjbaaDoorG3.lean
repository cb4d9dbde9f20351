/- What Go's functions come to, as plain functions: part 3; no condition. -/
import Derived.Test.YtmplhamakfnjbaaDoorG2
set_option linter.unusedVariables false
set_option linter.unusedSimpArgs false
namespace Go.V.Dec
open Go Go.Proofs
set_option maxRecDepth 100000
set_option maxHeartbeats 4000000
def slices_Concat_byte_L1 (p0 : List (List Int)) (k3 : Int → Option ((List Int))) : Nat → Int → Nat → Option ((List Int))
  | 0, _, _ => none
  | n5 + 1, a4_1, a4_2 => (if (decide (a4_2 < p0.length)) = true then (Option.bind (p0[a4_2]?) fun x7 => (withK (slices_Concat_byte_L1 p0 k3 n5 (IntKind.i64.wrap (a4_1 + ((x7.length : Nat) : Int))) (a4_2 + 1)) fun k10 => (if (decide (IntKind.i64.wrap (a4_1 + ((x7.length : Nat) : Int)) < 0)) = true then none else k10))) else (k3 a4_1))
def slices_Concat_byte_L2 (p0 : List (List Int)) (k26 : (List Int) → Option ((List Int))) : Nat → Nat → (List Int) → Option ((List Int))
  | 0, _, _ => none
  | n28 + 1, a27_1, a27_2 => (if (decide (a27_1 < p0.length)) = true then (Option.bind (p0[a27_1]?) fun x30 => (if fits 1 (a27_2.length + x30.length) then (slices_Concat_byte_L2 p0 k26 n28 (a27_1 + 1) (a27_2 ++ x30)) else none)) else (k26 a27_2))
def slices_Concat_byte (p0 : List (List Int)) : Option ((List Int)) := (withK (fun (b2_1 : Int) => (withK (withK (fun (b18_1 : List Int) => (withK (fun (b25_1 : List Int) => (some b25_1)) fun k26 => (slices_Concat_byte_L2 p0 k26 (p0.length + 1) 0 b18_1))) fun k19 => (if (decide (IntKind.i64.wrap (b2_1) > 0)) = true then (if 0 < IntKind.i64.wrap (b2_1) then (if fits 1 ((IntKind.i64.wrap (b2_1)).toNat) then (k19 []) else none) else none) else (k19 []))) fun k14 => (if (decide (b2_1 < 0)) = true then none else k14))) fun k3 => (slices_Concat_byte_L1 p0 k3 (p0.length + 1) 0 0))
def F21 : VFn := ⟨36, (.seq (.reg [⟨(some 2), .mv (.c (.one (.nl 1))), none⟩]) (.seq (.reg [⟨(some 3), .mv (.c (.one (.d (.i .i64 0)))), none⟩]) (.seq (.seq (.reg [⟨(some 9), .mv (.t 0), none⟩, ⟨(some 10), .len (.t 9), none⟩, ⟨(some 11), .mv (.c (.one (.d (.i .i64 0)))), none⟩]) (.wk (.block 0 (.loop (.seq (.reg [⟨(some 12), .bin .i .lss (.t 11) (.t 10), none⟩]) (.seq (.cond (.t 12) .skip (.exit 0)) (.seq (.block 1 (.seq (.reg [⟨(some 13), .ia 1 (.t 9) (.t 11), none⟩, ⟨(some 14), .ld false 1 (.t 13), none⟩, ⟨(some 5), .mv (.t 14), none⟩]) (.seq (.reg [⟨(some 15), .mv (.t 3), none⟩, ⟨(some 16), .mv (.t 5), none⟩, ⟨(some 17), .len (.t 16), none⟩, ⟨(some 18), .bin .i .add (.t 15) (.t 17), none⟩, ⟨(some 3), .mv (.t 18), none⟩]) (.seq (.reg [⟨(some 19), .mv (.t 3), none⟩, ⟨(some 20), .bin .i .lss (.t 19) (.c (.one (.d (.i .i64 0)))), none⟩]) (.wk (.cond (.t 20) (.reg [⟨(some 21), .bad, none⟩, ⟨none, .bad, none⟩]) .skip)))))) (.reg [⟨(some 22), .bin .i .add (.t 11) (.c (.one (.d (.i .i64 1)))), none⟩, ⟨(some 11), .mv (.t 22), none⟩])))))))) (.seq (.reg [⟨(some 23), .mv (.t 3), none⟩, ⟨(some 24), .call 57 [(.c (.one (.nl 1))), (.t 23)], none⟩, ⟨(some 6), .mv (.t 24), none⟩]) (.seq (.seq (.reg [⟨(some 25), .mv (.t 0), none⟩, ⟨(some 26), .len (.t 25), none⟩, ⟨(some 27), .mv (.c (.one (.d (.i .i64 0)))), none⟩]) (.wk (.block 2 (.loop (.seq (.reg [⟨(some 28), .bin .i .lss (.t 27) (.t 26), none⟩]) (.seq (.cond (.t 28) .skip (.exit 2)) (.seq (.block 3 (.seq (.reg [⟨(some 29), .ia 1 (.t 25) (.t 27), none⟩, ⟨(some 30), .ld false 1 (.t 29), none⟩, ⟨(some 8), .mv (.t 30), none⟩]) (.reg [⟨(some 31), .mv (.t 6), none⟩, ⟨(some 32), .mv (.t 8), none⟩, ⟨(some 33), .app 1 1 (.t 31) (.t 32), none⟩, ⟨(some 6), .mv (.t 33), none⟩]))) (.reg [⟨(some 34), .bin .i .add (.t 27) (.c (.one (.d (.i .i64 1)))), none⟩, ⟨(some 27), .mv (.t 34), none⟩])))))))) (.seq (.reg [⟨(some 35), .mv (.t 6), none⟩, ⟨(some 2), .mv (.t 35), none⟩]) .ret)))))), [.t 2]⟩
theorem low21 : lowF Tryd.prog 21 = some F21.strip := by kernel_rfl
theorem fok21 : fOk Tryd.prog 21 = true := by kernel_rfl
theorem slices_Concat_byte_ok (G : Nat → Option (List D)) (p0 : List (List Int)) (r : (List Int)) (h : slices_Concat_byte p0 = some r) : FnRO Tryd.prog G 21 [.one (.d (.l 1 (p0.map (encL 1 encU8))))] (fun rs => rs = [.one (.o 1 (r.map encU8))]) := by
  refine FnRO.of' low21 fok21 (by simp [F21]) ?_
  rw [slices_Concat_byte] at h
  simp only [F21, go_sem, Nat.reduceAdd, Nat.reduceEqDiff, Nat.reduceLeDiff, Nat.reduceSub, reduceCtorEq, ↓reduceIte, Nat.reduceBEq, Int.reduceLT, Int.reduceLE, Int.reduceEq, Int.reduceBEq, Int.reduceBNe, Nat.reduceLT, Nat.reduceMul, Int.reduceToNat]
  try simp only [go_sem, Nat.reduceAdd, Nat.reduceEqDiff, Nat.reduceLeDiff, Nat.reduceSub, reduceCtorEq, ↓reduceIte, Nat.reduceBEq, Int.reduceLT, Int.reduceLE, Int.reduceEq, Int.reduceBEq, Int.reduceBNe, Nat.reduceLT, Nat.reduceMul, Int.reduceToNat]
  intro hl1
  obtain ⟨k3, hk3, h⟩ := withK_lk1 h
  try simp only [go_sem, Nat.reduceAdd, Nat.reduceEqDiff, Nat.reduceLeDiff, Nat.reduceSub, reduceCtorEq, ↓reduceIte, Nat.reduceBEq, Int.reduceLT, Int.reduceLE, Int.reduceEq, Int.reduceBEq, Int.reduceBNe, Nat.reduceLT, Nat.reduceMul, Int.reduceToNat]
  refine join_lk Tryd.prog G _ _ (B := Int) (fun b => k3 b = some r) (fun b => [(0, .one (.d (.l 1 (p0.map (encL 1 encU8))))), (3, .one (.d (.i .i64 b)))]) (fun b => []) ?_ (fun b2_1 h => ?_)
  · try simp only [go_sem, Nat.reduceAdd, Nat.reduceEqDiff, Nat.reduceLeDiff, Nat.reduceSub, reduceCtorEq, ↓reduceIte, Nat.reduceBEq, Int.reduceLT, Int.reduceLE, Int.reduceEq, Int.reduceBEq, Int.reduceBNe, Nat.reduceLT, Nat.reduceMul, Int.reduceToNat]
    refine loop_lk Tryd.prog G _ _ (A := Int × Nat) (fun n a => slices_Concat_byte_L1 p0 k3 n a.1 a.2 = some r) (fun a => [(0, .one (.d (.l 1 (p0.map (encL 1 encU8))))), (3, .one (.d (.i .i64 a.1))), (9, .one (.d (.l 1 (p0.map (encL 1 encU8))))), (10, .one (.d (.i .i64 ((p0.length : Nat) : Int)))), (11, .one (.d (.i .i64 ((a.2 : Nat) : Int))))]) (fun a => []) (p0.length + 1) (0, 0) h (wk_c _ _ _ [] rfl (by simp only [go_sem, Nat.reduceAdd, Nat.reduceEqDiff, Nat.reduceLeDiff, Nat.reduceSub, reduceCtorEq, ↓reduceIte, Nat.reduceBEq, Int.reduceLT, Int.reduceLE, Int.reduceEq, Int.reduceBEq, Int.reduceBNe, Nat.reduceLT, Nat.reduceMul, Int.reduceToNat, slotsWk, objsWk, objWk, optVOWk, SV.wk, SC.wk, cellsWk, VO.wk, Ptr.wk, ptrsWk, SC.isNl, List.map_append, List.map_cons, List.map_nil, Option.some.injEq, Prod.mk.injEq, SC.d.injEq, D.l.injEq, List.map_set])) (fun a h => by simp only [slices_Concat_byte_L1, reduceCtorEq] at h) ?_
    intro n5 a h
    obtain ⟨a4_1, a4_2⟩ := a
    try dsimp only at h
    rw [slices_Concat_byte_L1] at h
    rcases of_if h with ⟨hb6, h⟩ | ⟨hb6, h⟩
    · have hkhb6 := of_decide_eq_true hb6
      obtain ⟨x7, hx7, h⟩ := Option.bind_eq_some_iff.1 h
      have hkx7 := (List.getElem?_eq_some_iff.1 hx7).1
      try simp only [List.length_take, List.length_drop, List.length_append, List.length_set, List.length_map, List.length_cons, List.length_nil, Nat.zero_add] at hkx7
      try simp only [hb6, hkhb6, hx7, hkx7, go_sem, Nat.reduceAdd, Nat.reduceEqDiff, Nat.reduceLeDiff, Nat.reduceSub, reduceCtorEq, ↓reduceIte, Nat.reduceBEq, Int.reduceLT, Int.reduceLE, Int.reduceEq, Int.reduceBEq, Int.reduceBNe, Nat.reduceLT, Nat.reduceMul, Int.reduceToNat]
      intro hl8
      obtain ⟨k10, hk10, h⟩ := withK_lk0 h
      try simp only [hb6, hkhb6, hx7, hkx7, go_sem, Nat.reduceAdd, Nat.reduceEqDiff, Nat.reduceLeDiff, Nat.reduceSub, reduceCtorEq, ↓reduceIte, Nat.reduceBEq, Int.reduceLT, Int.reduceLE, Int.reduceEq, Int.reduceBEq, Int.reduceBNe, Nat.reduceLT, Nat.reduceMul, Int.reduceToNat]
      refine join_lk Tryd.prog G _ _ (B := Unit) (fun b => k10 = some r) (fun b => [(0, .one (.d (.l 1 (p0.map (encL 1 encU8))))), (3, .one (.d (.i .i64 (IntKind.i64.wrap (a4_1 + ((x7.length : Nat) : Int)))))), (9, .one (.d (.l 1 (p0.map (encL 1 encU8))))), (10, .one (.d (.i .i64 ((p0.length : Nat) : Int)))), (11, .one (.d (.i .i64 ((a4_2 : Nat) : Int))))]) (fun b => []) ?_ (fun b h => ?_)
      · rcases of_if h with ⟨hb11, h⟩ | ⟨hb11, h⟩
        · cases h
        · try simp only [hb6, hkhb6, hx7, hkx7, hb11, go_sem, Nat.reduceAdd, Nat.reduceEqDiff, Nat.reduceLeDiff, Nat.reduceSub, reduceCtorEq, ↓reduceIte, Nat.reduceBEq, Int.reduceLT, Int.reduceLE, Int.reduceEq, Int.reduceBEq, Int.reduceBNe, Nat.reduceLT, Nat.reduceMul, Int.reduceToNat]
          exact joinQ_c () h [] rfl (by simp only [hb6, hkhb6, hx7, hkx7, hb11, go_sem, Nat.reduceAdd, Nat.reduceEqDiff, Nat.reduceLeDiff, Nat.reduceSub, reduceCtorEq, ↓reduceIte, Nat.reduceBEq, Int.reduceLT, Int.reduceLE, Int.reduceEq, Int.reduceBEq, Int.reduceBNe, Nat.reduceLT, Nat.reduceMul, Int.reduceToNat, slotsWk, objsWk, objWk, optVOWk, SV.wk, SC.wk, cellsWk, VO.wk, Ptr.wk, ptrsWk, SC.isNl, List.map_append, List.map_cons, List.map_nil, Option.some.injEq, Prod.mk.injEq, SC.d.injEq, D.l.injEq, List.map_set])
      · try dsimp only at h
        rw [hk10] at h
        have hw12 := wrap_succ_max hkx7 hl1
        try simp only [hkhb6, hx7, hkx7, hw12, go_sem, Nat.reduceAdd, Nat.reduceEqDiff, Nat.reduceLeDiff, Nat.reduceSub, reduceCtorEq, ↓reduceIte, Nat.reduceBEq, Int.reduceLT, Int.reduceLE, Int.reduceEq, Int.reduceBEq, Int.reduceBNe, Nat.reduceLT, Nat.reduceMul, Int.reduceToNat]
        exact loopQ_c (IntKind.i64.wrap (a4_1 + ((x7.length : Nat) : Int)), a4_2 + 1) h [] rfl (by simp only [hkhb6, hx7, hkx7, hw12, go_sem, Nat.reduceAdd, Nat.reduceEqDiff, Nat.reduceLeDiff, Nat.reduceSub, reduceCtorEq, ↓reduceIte, Nat.reduceBEq, Int.reduceLT, Int.reduceLE, Int.reduceEq, Int.reduceBEq, Int.reduceBNe, Nat.reduceLT, Nat.reduceMul, Int.reduceToNat, slotsWk, objsWk, objWk, optVOWk, SV.wk, SC.wk, cellsWk, VO.wk, Ptr.wk, ptrsWk, SC.isNl, List.map_append, List.map_cons, List.map_nil, Option.some.injEq, Prod.mk.injEq, SC.d.injEq, D.l.injEq, List.map_set])
    · try simp only [hb6, go_sem, Nat.reduceAdd, Nat.reduceEqDiff, Nat.reduceLeDiff, Nat.reduceSub, reduceCtorEq, ↓reduceIte, Nat.reduceBEq, Int.reduceLT, Int.reduceLE, Int.reduceEq, Int.reduceBEq, Int.reduceBNe, Nat.reduceLT, Nat.reduceMul, Int.reduceToNat]
      exact joinQ_c (a4_1) h [] rfl (by simp only [hb6, go_sem, Nat.reduceAdd, Nat.reduceEqDiff, Nat.reduceLeDiff, Nat.reduceSub, reduceCtorEq, ↓reduceIte, Nat.reduceBEq, Int.reduceLT, Int.reduceLE, Int.reduceEq, Int.reduceBEq, Int.reduceBNe, Nat.reduceLT, Nat.reduceMul, Int.reduceToNat, slotsWk, objsWk, objWk, optVOWk, SV.wk, SC.wk, cellsWk, VO.wk, Ptr.wk, ptrsWk, SC.isNl, List.map_append, List.map_cons, List.map_nil, Option.some.injEq, Prod.mk.injEq, SC.d.injEq, D.l.injEq, List.map_set])
  · try dsimp only at h
    rw [hk3] at h
    try simp only [go_sem, Nat.reduceAdd, Nat.reduceEqDiff, Nat.reduceLeDiff, Nat.reduceSub, reduceCtorEq, ↓reduceIte, Nat.reduceBEq, Int.reduceLT, Int.reduceLE, Int.reduceEq, Int.reduceBEq, Int.reduceBNe, Nat.reduceLT, Nat.reduceMul, Int.reduceToNat]
    refine CallV.x low57 fok57 (by simp [F57]) (by simp [F57]) ?_
    simp only [F57, go_sem, Nat.reduceAdd, Nat.reduceEqDiff, Nat.reduceLeDiff, Nat.reduceSub, reduceCtorEq, ↓reduceIte, Nat.reduceBEq, Int.reduceLT, Int.reduceLE, Int.reduceEq, Int.reduceBEq, Int.reduceBNe, Nat.reduceLT, Nat.reduceMul, Int.reduceToNat]
    obtain ⟨k14, hk14, h⟩ := withK_lk0 h
    try simp only [go_sem, Nat.reduceAdd, Nat.reduceEqDiff, Nat.reduceLeDiff, Nat.reduceSub, reduceCtorEq, ↓reduceIte, Nat.reduceBEq, Int.reduceLT, Int.reduceLE, Int.reduceEq, Int.reduceBEq, Int.reduceBNe, Nat.reduceLT, Nat.reduceMul, Int.reduceToNat]
    refine join_lk Tryd.prog G _ _ (B := Unit) (fun b => k14 = some r) (fun b => [(0, .one (.nl 1)), (1, .one (.d (.i .i64 b2_1))), (1000000, .one (.d (.l 1 (p0.map (encL 1 encU8)))))]) (fun b => []) ?_ (fun b h => ?_)
    · rcases of_if h with ⟨hb15, h⟩ | ⟨hb15, h⟩
      · have hkhb15 := of_decide_eq_true hb15
        cases h
      · try simp only [hb15, go_sem, Nat.reduceAdd, Nat.reduceEqDiff, Nat.reduceLeDiff, Nat.reduceSub, reduceCtorEq, ↓reduceIte, Nat.reduceBEq, Int.reduceLT, Int.reduceLE, Int.reduceEq, Int.reduceBEq, Int.reduceBNe, Nat.reduceLT, Nat.reduceMul, Int.reduceToNat]
        exact joinQ_c () h [] rfl (by simp only [hb15, go_sem, Nat.reduceAdd, Nat.reduceEqDiff, Nat.reduceLeDiff, Nat.reduceSub, reduceCtorEq, ↓reduceIte, Nat.reduceBEq, Int.reduceLT, Int.reduceLE, Int.reduceEq, Int.reduceBEq, Int.reduceBNe, Nat.reduceLT, Nat.reduceMul, Int.reduceToNat, slotsWk, objsWk, objWk, optVOWk, SV.wk, SC.wk, cellsWk, VO.wk, Ptr.wk, ptrsWk, SC.isNl, List.map_append, List.map_cons, List.map_nil, Option.some.injEq, Prod.mk.injEq, SC.d.injEq, D.l.injEq, List.map_set])
    · try dsimp only at h
      rw [hk14] at h
      try simp only [go_sem, Nat.reduceAdd, Nat.reduceEqDiff, Nat.reduceLeDiff, Nat.reduceSub, reduceCtorEq, ↓reduceIte, Nat.reduceBEq, Int.reduceLT, Int.reduceLE, Int.reduceEq, Int.reduceBEq, Int.reduceBNe, Nat.reduceLT, Nat.reduceMul, Int.reduceToNat]
      intro hl16
      have hw17 : IntKind.i64.wrap (0) = 0 := by decide
      obtain ⟨k19, hk19, h⟩ := withK_lk1 h
      try simp only [hw17, go_sem, Nat.reduceAdd, Nat.reduceEqDiff, Nat.reduceLeDiff, Nat.reduceSub, reduceCtorEq, ↓reduceIte, Nat.reduceBEq, Int.reduceLT, Int.reduceLE, Int.reduceEq, Int.reduceBEq, Int.reduceBNe, Nat.reduceLT, Nat.reduceMul, Int.reduceToNat]
      refine join_lk Tryd.prog G _ _ (B := (List Int)) (fun b => k19 b = some r) (fun b => [(0, .one (.r 0 0 b.length)), (1000000, .one (.d (.l 1 (p0.map (encL 1 encU8)))))]) (fun b => [some (.arr 1 (b.map encU8) false)]) ?_ (fun b18_1 h => ?_)
      · rcases of_if h with ⟨hb20, h⟩ | ⟨hb20, h⟩
        · obtain ⟨hz21, h⟩ := of_chk h
          obtain ⟨hf22, h⟩ := of_chk h
          try simp only [hw17, hb20, hz21, hf22, go_sem, Nat.reduceAdd, Nat.reduceEqDiff, Nat.reduceLeDiff, Nat.reduceSub, reduceCtorEq, ↓reduceIte, Nat.reduceBEq, Int.reduceLT, Int.reduceLE, Int.reduceEq, Int.reduceBEq, Int.reduceBNe, Nat.reduceLT, Nat.reduceMul, Int.reduceToNat]
          intro hl23
          try simp only [hw17, hb20, hz21, hf22, go_sem, Nat.reduceAdd, Nat.reduceEqDiff, Nat.reduceLeDiff, Nat.reduceSub, reduceCtorEq, ↓reduceIte, Nat.reduceBEq, Int.reduceLT, Int.reduceLE, Int.reduceEq, Int.reduceBEq, Int.reduceBNe, Nat.reduceLT, Nat.reduceMul, Int.reduceToNat]
          exact joinQ_c ([]) h [some 0] rfl (by simp only [hw17, hb20, hz21, hf22, go_sem, Nat.reduceAdd, Nat.reduceEqDiff, Nat.reduceLeDiff, Nat.reduceSub, reduceCtorEq, ↓reduceIte, Nat.reduceBEq, Int.reduceLT, Int.reduceLE, Int.reduceEq, Int.reduceBEq, Int.reduceBNe, Nat.reduceLT, Nat.reduceMul, Int.reduceToNat, slotsWk, objsWk, objWk, optVOWk, SV.wk, SC.wk, cellsWk, VO.wk, Ptr.wk, ptrsWk, SC.isNl, List.map_append, List.map_cons, List.map_nil, Option.some.injEq, Prod.mk.injEq, SC.d.injEq, D.l.injEq, List.map_set])
        · try simp only [hw17, hb20, go_sem, Nat.reduceAdd, Nat.reduceEqDiff, Nat.reduceLeDiff, Nat.reduceSub, reduceCtorEq, ↓reduceIte, Nat.reduceBEq, Int.reduceLT, Int.reduceLE, Int.reduceEq, Int.reduceBEq, Int.reduceBNe, Nat.reduceLT, Nat.reduceMul, Int.reduceToNat]
          exact joinQ_c ([]) h [none] rfl (by simp only [hw17, hb20, go_sem, Nat.reduceAdd, Nat.reduceEqDiff, Nat.reduceLeDiff, Nat.reduceSub, reduceCtorEq, ↓reduceIte, Nat.reduceBEq, Int.reduceLT, Int.reduceLE, Int.reduceEq, Int.reduceBEq, Int.reduceBNe, Nat.reduceLT, Nat.reduceMul, Int.reduceToNat, slotsWk, objsWk, objWk, optVOWk, SV.wk, SC.wk, cellsWk, VO.wk, Ptr.wk, ptrsWk, SC.isNl, List.map_append, List.map_cons, List.map_nil, Option.some.injEq, Prod.mk.injEq, SC.d.injEq, D.l.injEq, List.map_set])
      · try dsimp only at h
        rw [hk19] at h
        try simp only [hw17, go_sem, Nat.reduceAdd, Nat.reduceEqDiff, Nat.reduceLeDiff, Nat.reduceSub, reduceCtorEq, ↓reduceIte, Nat.reduceBEq, Int.reduceLT, Int.reduceLE, Int.reduceEq, Int.reduceBEq, Int.reduceBNe, Nat.reduceLT, Nat.reduceMul, Int.reduceToNat]
        intro hl24
        obtain ⟨k26, hk26, h⟩ := withK_lk1 h
        try simp only [hw17, go_sem, Nat.reduceAdd, Nat.reduceEqDiff, Nat.reduceLeDiff, Nat.reduceSub, reduceCtorEq, ↓reduceIte, Nat.reduceBEq, Int.reduceLT, Int.reduceLE, Int.reduceEq, Int.reduceBEq, Int.reduceBNe, Nat.reduceLT, Nat.reduceMul, Int.reduceToNat]
        refine join_lk Tryd.prog G _ _ (B := (List Int)) (fun b => k26 b = some r) (fun b => [(6, .one (.r 0 0 b.length))]) (fun b => [some (.arr 1 (b.map encU8) false)]) ?_ (fun b25_1 h => ?_)
        · try simp only [hw17, go_sem, Nat.reduceAdd, Nat.reduceEqDiff, Nat.reduceLeDiff, Nat.reduceSub, reduceCtorEq, ↓reduceIte, Nat.reduceBEq, Int.reduceLT, Int.reduceLE, Int.reduceEq, Int.reduceBEq, Int.reduceBNe, Nat.reduceLT, Nat.reduceMul, Int.reduceToNat]
          refine loop_lk Tryd.prog G _ _ (A := Nat × (List Int)) (fun n a => slices_Concat_byte_L2 p0 k26 n a.1 a.2 = some r) (fun a => [(6, .one (.r 0 0 a.2.length)), (25, .one (.d (.l 1 (p0.map (encL 1 encU8))))), (26, .one (.d (.i .i64 ((p0.length : Nat) : Int)))), (27, .one (.d (.i .i64 ((a.1 : Nat) : Int))))]) (fun a => [some (.arr 1 (a.2.map encU8) false)]) (p0.length + 1) (0, b18_1) h (wk_c _ _ _ [some 0] rfl (by simp only [hw17, go_sem, Nat.reduceAdd, Nat.reduceEqDiff, Nat.reduceLeDiff, Nat.reduceSub, reduceCtorEq, ↓reduceIte, Nat.reduceBEq, Int.reduceLT, Int.reduceLE, Int.reduceEq, Int.reduceBEq, Int.reduceBNe, Nat.reduceLT, Nat.reduceMul, Int.reduceToNat, slotsWk, objsWk, objWk, optVOWk, SV.wk, SC.wk, cellsWk, VO.wk, Ptr.wk, ptrsWk, SC.isNl, List.map_append, List.map_cons, List.map_nil, Option.some.injEq, Prod.mk.injEq, SC.d.injEq, D.l.injEq, List.map_set])) (fun a h => by simp only [slices_Concat_byte_L2, reduceCtorEq] at h) ?_
          intro n28 a h
          obtain ⟨a27_1, a27_2⟩ := a
          try dsimp only at h
          rw [slices_Concat_byte_L2] at h
          rcases of_if h with ⟨hb29, h⟩ | ⟨hb29, h⟩
          · have hkhb29 := of_decide_eq_true hb29
            obtain ⟨x30, hx30, h⟩ := Option.bind_eq_some_iff.1 h
            have hkx30 := (List.getElem?_eq_some_iff.1 hx30).1
            try simp only [List.length_take, List.length_drop, List.length_append, List.length_set, List.length_map, List.length_cons, List.length_nil, Nat.zero_add] at hkx30
            obtain ⟨hf31, h⟩ := of_chk h
            have hw32 := wrap_succ_max hkx30 hl24
            try simp only [hw17, hb29, hkhb29, hx30, hkx30, hf31, hw32, go_sem, Nat.reduceAdd, Nat.reduceEqDiff, Nat.reduceLeDiff, Nat.reduceSub, reduceCtorEq, ↓reduceIte, Nat.reduceBEq, Int.reduceLT, Int.reduceLE, Int.reduceEq, Int.reduceBEq, Int.reduceBNe, Nat.reduceLT, Nat.reduceMul, Int.reduceToNat]
            exact loopQ_c (a27_1 + 1, (a27_2 ++ x30)) h [some 1] rfl (by simp only [hw17, hb29, hkhb29, hx30, hkx30, hf31, hw32, go_sem, Nat.reduceAdd, Nat.reduceEqDiff, Nat.reduceLeDiff, Nat.reduceSub, reduceCtorEq, ↓reduceIte, Nat.reduceBEq, Int.reduceLT, Int.reduceLE, Int.reduceEq, Int.reduceBEq, Int.reduceBNe, Nat.reduceLT, Nat.reduceMul, Int.reduceToNat, slotsWk, objsWk, objWk, optVOWk, SV.wk, SC.wk, cellsWk, VO.wk, Ptr.wk, ptrsWk, SC.isNl, List.map_append, List.map_cons, List.map_nil, Option.some.injEq, Prod.mk.injEq, SC.d.injEq, D.l.injEq, List.map_set])
          · try simp only [hw17, hb29, go_sem, Nat.reduceAdd, Nat.reduceEqDiff, Nat.reduceLeDiff, Nat.reduceSub, reduceCtorEq, ↓reduceIte, Nat.reduceBEq, Int.reduceLT, Int.reduceLE, Int.reduceEq, Int.reduceBEq, Int.reduceBNe, Nat.reduceLT, Nat.reduceMul, Int.reduceToNat]
            exact joinQ_c (a27_2) h [some 0] rfl (by simp only [hw17, hb29, go_sem, Nat.reduceAdd, Nat.reduceEqDiff, Nat.reduceLeDiff, Nat.reduceSub, reduceCtorEq, ↓reduceIte, Nat.reduceBEq, Int.reduceLT, Int.reduceLE, Int.reduceEq, Int.reduceBEq, Int.reduceBNe, Nat.reduceLT, Nat.reduceMul, Int.reduceToNat, slotsWk, objsWk, objWk, optVOWk, SV.wk, SC.wk, cellsWk, VO.wk, Ptr.wk, ptrsWk, SC.isNl, List.map_append, List.map_cons, List.map_nil, Option.some.injEq, Prod.mk.injEq, SC.d.injEq, D.l.injEq, List.map_set])
        · try dsimp only at h
          rw [hk26] at h
          simp only [Option.some.injEq] at h
          subst h
          try simp only [hw17, go_sem, Nat.reduceAdd, Nat.reduceEqDiff, Nat.reduceLeDiff, Nat.reduceSub, reduceCtorEq, ↓reduceIte, Nat.reduceBEq, Int.reduceLT, Int.reduceLE, Int.reduceEq, Int.reduceBEq, Int.reduceBNe, Nat.reduceLT, Nat.reduceMul, Int.reduceToNat, List.map_append, List.map_cons, List.map_nil, List.map_set]
def tape_Append (p0 : Config) (p1 : Tape) (p2 : Record) : Option (Tape × Int) := (Option.bind (tape_open p1) fun v1 => (if (!v1.2) = true then (some ((Tape.mk [] 0), 9)) else (Option.bind (wire_EncodeRecord p0 p2) fun v3 => (if (v3.2 != 0) = true then (some ((Tape.mk [] 0), v3.2)) else (if (decide (IntKind.i64.wrap (IntKind.i64.wrap (((v1.1.Data.length : Nat) : Int) + 1) + ((v3.1.length : Nat) : Int)) > 6000)) = true then (some ((Tape.mk [] 0), 8)) else (withK (Option.bind (slices_Concat_byte [v1.1.Data, [IntKind.u8.wrap (((v3.1.length : Nat) : Int))], v3.1]) fun v11 => (some ((Tape.mk v11 v1.1.Synced), 0))) fun k9 => k9))))))
def F8 : VFn := ⟨50, (.seq (.reg [⟨(some 3), .box 3 (.t 0), none⟩, ⟨(some 4), .box 2 (.t 1), none⟩, ⟨(some 5), .box 8 (.t 2), none⟩, ⟨(some 6), .alloc [(.nl 1), (.d (.i .i64 0))], none⟩, ⟨(some 7), .mv (.c (.one (.d (.i .i64 0)))), none⟩]) (.seq (.reg [⟨(some 13), .ld true 2 (.t 4), none⟩, ⟨(some 14), .call 19 [(.t 13)], none⟩, ⟨(some 12), .mv (.t 14), none⟩, ⟨(some 15), .ext (.t 12) 0, none⟩, ⟨(some 16), .ext (.t 12) 1, none⟩, ⟨(some 8), .alloc [(.nl 1), (.d (.i .i64 0))], none⟩, ⟨none, .st 2 (.t 8) (.t 15), none⟩, ⟨(some 9), .mv (.t 16), none⟩]) (.seq (.seq (.reg [⟨(some 17), .mv (.t 9), none⟩, ⟨(some 18), .un .not (.t 17), none⟩]) (.cond (.t 18) (.seq (.reg [⟨(some 19), .build [(.nl 1), (.d (.i .i64 0))] [], none⟩, ⟨none, .st 2 (.t 6) (.t 19), none⟩, ⟨(some 7), .mv (.c (.one (.d (.i .i64 9)))), none⟩]) .ret) .skip)) (.seq (.reg [⟨(some 21), .ld true 3 (.t 3), none⟩, ⟨(some 22), .ld true 8 (.t 5), none⟩, ⟨(some 23), .call 20 [(.t 21), (.t 22)], none⟩, ⟨(some 20), .mv (.t 23), none⟩, ⟨(some 24), .ext (.t 20) 0, none⟩, ⟨(some 25), .ext (.t 20) 1, none⟩, ⟨(some 10), .mv (.t 24), none⟩, ⟨(some 11), .mv (.t 25), none⟩]) (.seq (.seq (.reg [⟨(some 26), .mv (.t 11), none⟩, ⟨(some 27), .bin .i .neq (.t 26) (.c (.one (.d (.i .i64 0)))), none⟩]) (.cond (.t 27) (.seq (.reg [⟨(some 28), .build [(.nl 1), (.d (.i .i64 0))] [], none⟩, ⟨(some 29), .mv (.t 11), none⟩, ⟨none, .st 2 (.t 6) (.t 28), none⟩, ⟨(some 7), .mv (.t 29), none⟩]) .ret) .skip)) (.seq (.seq (.reg [⟨(some 30), .fa 0 (.t 8), none⟩, ⟨(some 31), .ld false 1 (.t 30), none⟩, ⟨(some 32), .len (.t 31), none⟩, ⟨(some 33), .bin .i .add (.t 32) (.c (.one (.d (.i .i64 1)))), none⟩, ⟨(some 34), .mv (.t 10), none⟩, ⟨(some 35), .len (.t 34), none⟩, ⟨(some 36), .bin .i .add (.t 33) (.t 35), none⟩, ⟨(some 37), .bin .i .gtr (.t 36) (.c (.one (.d (.i .i64 6000)))), none⟩]) (.cond (.t 37) (.seq (.reg [⟨(some 38), .build [(.nl 1), (.d (.i .i64 0))] [], none⟩, ⟨none, .st 2 (.t 6) (.t 38), none⟩, ⟨(some 7), .mv (.c (.one (.d (.i .i64 8)))), none⟩]) .ret) .skip)) (.seq (.regs [[⟨(some 39), .fa 0 (.t 8), none⟩, ⟨(some 40), .ld false 1 (.t 39), none⟩, ⟨(some 41), .mv (.t 10), none⟩, ⟨(some 42), .len (.t 41), none⟩, ⟨(some 43), .cvi .u8 (.t 42), none⟩, ⟨(some 44), .bsl 1 1 [(.d (.i .u8 0))] [(0, (.t 43))], none⟩, ⟨(some 45), .mv (.t 10), none⟩], [⟨(some 46), .bsl 1 3 [(.nl 1)] [(0, (.t 40)), (1, (.t 44)), (2, (.t 45))], none⟩, ⟨(some 47), .call 21 [(.t 46)], none⟩, ⟨(some 48), .fa 0 (.t 8), none⟩, ⟨none, .st 1 (.t 48) (.t 47), none⟩]]) (.seq (.reg [⟨(some 49), .ld true 2 (.t 8), none⟩, ⟨none, .st 2 (.t 6) (.t 49), none⟩, ⟨(some 7), .mv (.c (.one (.d (.i .i64 0)))), none⟩]) .ret)))))))), [.cell 6 true 2, .t 7]⟩
theorem low8 : lowF Tryd.prog 8 = some F8.strip := by kernel_rfl
theorem fok8 : fOk Tryd.prog 8 = true := by kernel_rfl
theorem tape_Append_ok (G : Nat → Option (List D)) (htab_wire_records : constG G 1 = .one (.d (.k tab_wire_recordsD))) (p0 : Config) (p1 : Tape) (p2 : Record) (r : Tape × Int) (h : tape_Append p0 p1 p2 = some r) : FnRO Tryd.prog G 8 [.agg [.d (.i .i64 p0.Sites), .d (.l 2 (p0.Labels.map Label.enc)), .d (.i .i64 p0.Patience)], .agg [.d (.l 1 (p1.Data.map encU8)), .d (.i .i64 p1.Synced)], .agg [.d (.i .i64 p2.Kind), .d (.i .i64 p2.Txn.Site), .d (.i .i64 p2.Txn.N), .d (.i .i64 p2.Key), .d (.i .i64 p2.Value), .d (.i .i64 p2.Ask), .d (.b p2.Yes), .d (.l 1 (p2.Sites.map encI))]] (fun rs => rs = [.agg (r.1.encO), .one (.i .i64 r.2)]) := by
  refine FnRO.of' low8 fok8 (by simp [F8]) ?_
  rw [tape_Append] at h
  simp only [F8, go_sem, Nat.reduceAdd, Nat.reduceEqDiff, Nat.reduceLeDiff, Nat.reduceSub, reduceCtorEq, ↓reduceIte, Nat.reduceBEq, Int.reduceLT, Int.reduceLE, Int.reduceEq, Int.reduceBEq, Int.reduceBNe, Nat.reduceLT, Nat.reduceMul, Int.reduceToNat]
  obtain ⟨v1, hv1, h⟩ := Option.bind_eq_some_iff.1 h
  try simp only [htab_wire_records, go_sem, Nat.reduceAdd, Nat.reduceEqDiff, Nat.reduceLeDiff, Nat.reduceSub, reduceCtorEq, ↓reduceIte, Nat.reduceBEq, Int.reduceLT, Int.reduceLE, Int.reduceEq, Int.reduceBEq, Int.reduceBNe, Nat.reduceLT, Nat.reduceMul, Int.reduceToNat]
  refine CallV.ro false (tape_open_ok G p1 v1 hv1) rfl ?_
  rintro rs rfl
  refine ⟨.inl rfl, ?_⟩
  rcases of_if h with ⟨hb2, h⟩ | ⟨hb2, h⟩
  · have hkhb2 := not_eq_t hb2
    simp only [Option.some.injEq] at h
    subst h
    try simp only [htab_wire_records, hb2, hkhb2, go_sem, Nat.reduceAdd, Nat.reduceEqDiff, Nat.reduceLeDiff, Nat.reduceSub, reduceCtorEq, ↓reduceIte, Nat.reduceBEq, Int.reduceLT, Int.reduceLE, Int.reduceEq, Int.reduceBEq, Int.reduceBNe, Nat.reduceLT, Nat.reduceMul, Int.reduceToNat, List.map_append, List.map_cons, List.map_nil, List.map_set]
  · have hkhb2 := not_eq_f hb2
    obtain ⟨v3, hv3, h⟩ := Option.bind_eq_some_iff.1 h
    try simp only [htab_wire_records, hb2, hkhb2, go_sem, Nat.reduceAdd, Nat.reduceEqDiff, Nat.reduceLeDiff, Nat.reduceSub, reduceCtorEq, ↓reduceIte, Nat.reduceBEq, Int.reduceLT, Int.reduceLE, Int.reduceEq, Int.reduceBEq, Int.reduceBNe, Nat.reduceLT, Nat.reduceMul, Int.reduceToNat]
    refine CallV.ro false (wire_EncodeRecord_ok G htab_wire_records p0 p2 v3 hv3) rfl ?_
    rintro rs rfl
    refine ⟨.inl rfl, ?_⟩
    rcases of_if h with ⟨hb4, h⟩ | ⟨hb4, h⟩
    · simp only [Option.some.injEq] at h
      subst h
      try simp only [htab_wire_records, hb2, hkhb2, hb4, go_sem, Nat.reduceAdd, Nat.reduceEqDiff, Nat.reduceLeDiff, Nat.reduceSub, reduceCtorEq, ↓reduceIte, Nat.reduceBEq, Int.reduceLT, Int.reduceLE, Int.reduceEq, Int.reduceBEq, Int.reduceBNe, Nat.reduceLT, Nat.reduceMul, Int.reduceToNat, List.map_append, List.map_cons, List.map_nil, List.map_set]
    · try simp only [htab_wire_records, hb2, hkhb2, hb4, go_sem, Nat.reduceAdd, Nat.reduceEqDiff, Nat.reduceLeDiff, Nat.reduceSub, reduceCtorEq, ↓reduceIte, Nat.reduceBEq, Int.reduceLT, Int.reduceLE, Int.reduceEq, Int.reduceBEq, Int.reduceBNe, Nat.reduceLT, Nat.reduceMul, Int.reduceToNat]
      intro hl5
      try simp only [htab_wire_records, hb2, hkhb2, hb4, go_sem, Nat.reduceAdd, Nat.reduceEqDiff, Nat.reduceLeDiff, Nat.reduceSub, reduceCtorEq, ↓reduceIte, Nat.reduceBEq, Int.reduceLT, Int.reduceLE, Int.reduceEq, Int.reduceBEq, Int.reduceBNe, Nat.reduceLT, Nat.reduceMul, Int.reduceToNat]
      intro hl6
      rcases of_if h with ⟨hb7, h⟩ | ⟨hb7, h⟩
      · simp only [Option.some.injEq] at h
        subst h
        try simp only [htab_wire_records, hb2, hkhb2, hb4, hb7, go_sem, Nat.reduceAdd, Nat.reduceEqDiff, Nat.reduceLeDiff, Nat.reduceSub, reduceCtorEq, ↓reduceIte, Nat.reduceBEq, Int.reduceLT, Int.reduceLE, Int.reduceEq, Int.reduceBEq, Int.reduceBNe, Nat.reduceLT, Nat.reduceMul, Int.reduceToNat, List.map_append, List.map_cons, List.map_nil, List.map_set]
      · obtain ⟨k9, hk9, h⟩ := withK_lk0 h
        try simp only [htab_wire_records, hb2, hkhb2, hb4, hb7, go_sem, Nat.reduceAdd, Nat.reduceEqDiff, Nat.reduceLeDiff, Nat.reduceSub, reduceCtorEq, ↓reduceIte, Nat.reduceBEq, Int.reduceLT, Int.reduceLE, Int.reduceEq, Int.reduceBEq, Int.reduceBNe, Nat.reduceLT, Nat.reduceMul, Int.reduceToNat]
        refine regs_lk Tryd.prog G _ _ (B := Unit) (fun b => k9 = some r) (fun b => [(6, .one (.p (.q 0 0 0))), (8, .one (.p (.q 1 0 0))), (40, .one (.r 2 0 v1.1.Data.length)), (44, .one (.r 3 0 1)), (45, .one (.r 4 0 v3.1.length))]) (fun b => [some (.box [.nl 1, .d (.i .i64 0)]), some (.box [.r 2 0 v1.1.Data.length, .d (.i .i64 v1.1.Synced)]), some (.arr 1 (v1.1.Data.map encU8) true), some (.arr 1 ([IntKind.u8.wrap (((v3.1.length : Nat) : Int))].map encU8) true), some (.arr 1 (v3.1.map encU8) true)]) ?_ (fun b h => ?_)
        · try simp only [htab_wire_records, hb2, hkhb2, hb4, hb7, go_sem, Nat.reduceAdd, Nat.reduceEqDiff, Nat.reduceLeDiff, Nat.reduceSub, reduceCtorEq, ↓reduceIte, Nat.reduceBEq, Int.reduceLT, Int.reduceLE, Int.reduceEq, Int.reduceBEq, Int.reduceBNe, Nat.reduceLT, Nat.reduceMul, Int.reduceToNat]
          intro hl10
          try simp only [htab_wire_records, hb2, hkhb2, hb4, hb7, go_sem, Nat.reduceAdd, Nat.reduceEqDiff, Nat.reduceLeDiff, Nat.reduceSub, reduceCtorEq, ↓reduceIte, Nat.reduceBEq, Int.reduceLT, Int.reduceLE, Int.reduceEq, Int.reduceBEq, Int.reduceBNe, Nat.reduceLT, Nat.reduceMul, Int.reduceToNat]
          exact joinQ_fc [4, 7, 6] () h [some 3, some 5, some 4, some 7, some 6] rfl (by simp only [htab_wire_records, hb2, hkhb2, hb4, hb7, go_sem, Nat.reduceAdd, Nat.reduceEqDiff, Nat.reduceLeDiff, Nat.reduceSub, reduceCtorEq, ↓reduceIte, Nat.reduceBEq, Int.reduceLT, Int.reduceLE, Int.reduceEq, Int.reduceBEq, Int.reduceBNe, Nat.reduceLT, Nat.reduceMul, Int.reduceToNat, slotsWk, objsWk, objWk, optVOWk, SV.wk, SC.wk, cellsWk, VO.wk, Ptr.wk, ptrsWk, SC.isNl, List.map_append, List.map_cons, List.map_nil, Option.some.injEq, Prod.mk.injEq, SC.d.injEq, D.l.injEq, List.map_set])
        · try dsimp only at h
          rw [hk9] at h
          obtain ⟨v11, hv11, h⟩ := Option.bind_eq_some_iff.1 h
          try simp only [htab_wire_records, hkhb2, go_sem, Nat.reduceAdd, Nat.reduceEqDiff, Nat.reduceLeDiff, Nat.reduceSub, reduceCtorEq, ↓reduceIte, Nat.reduceBEq, Int.reduceLT, Int.reduceLE, Int.reduceEq, Int.reduceBEq, Int.reduceBNe, Nat.reduceLT, Nat.reduceMul, Int.reduceToNat]
          refine CallV.ro true (slices_Concat_byte_ok G [v1.1.Data, [IntKind.u8.wrap (((v3.1.length : Nat) : Int))], v3.1] v11 hv11) (by first | rfl | simp only [htab_wire_records, hkhb2, go_sem, Nat.reduceAdd, Nat.reduceEqDiff, Nat.reduceLeDiff, Nat.reduceSub, reduceCtorEq, ↓reduceIte, Nat.reduceBEq, Int.reduceLT, Int.reduceLE, Int.reduceEq, Int.reduceBEq, Int.reduceBNe, Nat.reduceLT, Nat.reduceMul, Int.reduceToNat, inVs_caps]) ?_
          rintro rs rfl
          refine ⟨.inr (by simp only [htab_wire_records, hkhb2, go_sem, Nat.reduceAdd, Nat.reduceEqDiff, Nat.reduceLeDiff, Nat.reduceSub, reduceCtorEq, ↓reduceIte, Nat.reduceBEq, Int.reduceLT, Int.reduceLE, Int.reduceEq, Int.reduceBEq, Int.reduceBNe, Nat.reduceLT, Nat.reduceMul, Int.reduceToNat, RV.plain, D.plain, D.plain0, D.plain1, List.all_map, Function.comp_def, all_tt]), ?_⟩
          simp only [Option.some.injEq] at h
          subst h
          try simp only [htab_wire_records, hkhb2, go_sem, Nat.reduceAdd, Nat.reduceEqDiff, Nat.reduceLeDiff, Nat.reduceSub, reduceCtorEq, ↓reduceIte, Nat.reduceBEq, Int.reduceLT, Int.reduceLE, Int.reduceEq, Int.reduceBEq, Int.reduceBNe, Nat.reduceLT, Nat.reduceMul, Int.reduceToNat, List.map_append, List.map_cons, List.map_nil, List.map_set]
def reredosref_In (p0 : Int) (p1 : Int) (p2 : Int) : Option (Bool) := (withK (fun (b1_1 : Bool) => (some b1_1)) fun k2 => (if (decide (p0 ≥ p1)) = true then (k2 (decide (p0 ≤ p2))) else (k2 false)))
def F58 : VFn := ⟨15, (.seq (.reg [⟨(some 6), .mv (.c (.one (.d (.b false)))), none⟩]) (.seq (.wk (.reg [⟨(some 7), .mv (.t 0), none⟩, ⟨(some 8), .mv (.t 1), none⟩, ⟨(some 9), .bin .i .geq (.t 7) (.t 8), none⟩, ⟨(some 10), .mv (.t 9), none⟩, ⟨(some 11), .mv (.t 0), (some (10, true))⟩, ⟨(some 12), .mv (.t 2), (some (10, true))⟩, ⟨(some 13), .bin .i .leq (.t 11) (.t 12), (some (10, true))⟩, ⟨(some 14), .pick (.t 10) (.t 13) (.c (.one (.d (.b false)))), none⟩, ⟨(some 6), .mv (.t 14), none⟩])) .ret)), [.t 6]⟩
theorem low58 : lowF Tryd.prog 58 = some F58.strip := by kernel_rfl
theorem fok58 : fOk Tryd.prog 58 = true := by kernel_rfl
theorem reredosref_In_ok (G : Nat → Option (List D)) (p0 : Int) (p1 : Int) (p2 : Int) (r : Bool) (h : reredosref_In p0 p1 p2 = some r) : FnRO Tryd.prog G 58 [.one (.d (.i .i64 p0)), .one (.d (.i .i64 p1)), .one (.d (.i .i64 p2))] (fun rs => rs = [.one (.b r)]) := by
  refine FnRO.of' low58 fok58 (by simp [F58]) ?_
  rw [reredosref_In] at h
  simp only [F58, go_sem, Nat.reduceAdd, Nat.reduceEqDiff, Nat.reduceLeDiff, Nat.reduceSub, reduceCtorEq, ↓reduceIte, Nat.reduceBEq, Int.reduceLT, Int.reduceLE, Int.reduceEq, Int.reduceBEq, Int.reduceBNe, Nat.reduceLT, Nat.reduceMul, Int.reduceToNat]
  obtain ⟨k2, hk2, h⟩ := withK_lk1 h
  try simp only [go_sem, Nat.reduceAdd, Nat.reduceEqDiff, Nat.reduceLeDiff, Nat.reduceSub, reduceCtorEq, ↓reduceIte, Nat.reduceBEq, Int.reduceLT, Int.reduceLE, Int.reduceEq, Int.reduceBEq, Int.reduceBNe, Nat.reduceLT, Nat.reduceMul, Int.reduceToNat]
  refine join_lk Tryd.prog G _ _ (B := Bool) (fun b => k2 b = some r) (fun b => [(6, .one (.d (.b b)))]) (fun b => []) ?_ (fun b1_1 h => ?_)
  · rcases of_if h with ⟨hb3, h⟩ | ⟨hb3, h⟩
    · try simp only [hb3, go_sem, Nat.reduceAdd, Nat.reduceEqDiff, Nat.reduceLeDiff, Nat.reduceSub, reduceCtorEq, ↓reduceIte, Nat.reduceBEq, Int.reduceLT, Int.reduceLE, Int.reduceEq, Int.reduceBEq, Int.reduceBNe, Nat.reduceLT, Nat.reduceMul, Int.reduceToNat]
      exact joinQ_c (decide (p0 ≤ p2)) h [] rfl (by simp only [hb3, go_sem, Nat.reduceAdd, Nat.reduceEqDiff, Nat.reduceLeDiff, Nat.reduceSub, reduceCtorEq, ↓reduceIte, Nat.reduceBEq, Int.reduceLT, Int.reduceLE, Int.reduceEq, Int.reduceBEq, Int.reduceBNe, Nat.reduceLT, Nat.reduceMul, Int.reduceToNat, slotsWk, objsWk, objWk, optVOWk, SV.wk, SC.wk, cellsWk, VO.wk, Ptr.wk, ptrsWk, SC.isNl, List.map_append, List.map_cons, List.map_nil, Option.some.injEq, Prod.mk.injEq, SC.d.injEq, D.l.injEq, List.map_set])
    · try simp only [hb3, go_sem, Nat.reduceAdd, Nat.reduceEqDiff, Nat.reduceLeDiff, Nat.reduceSub, reduceCtorEq, ↓reduceIte, Nat.reduceBEq, Int.reduceLT, Int.reduceLE, Int.reduceEq, Int.reduceBEq, Int.reduceBNe, Nat.reduceLT, Nat.reduceMul, Int.reduceToNat]
      exact joinQ_c (false) h [] rfl (by simp only [hb3, go_sem, Nat.reduceAdd, Nat.reduceEqDiff, Nat.reduceLeDiff, Nat.reduceSub, reduceCtorEq, ↓reduceIte, Nat.reduceBEq, Int.reduceLT, Int.reduceLE, Int.reduceEq, Int.reduceBEq, Int.reduceBNe, Nat.reduceLT, Nat.reduceMul, Int.reduceToNat, slotsWk, objsWk, objWk, optVOWk, SV.wk, SC.wk, cellsWk, VO.wk, Ptr.wk, ptrsWk, SC.isNl, List.map_append, List.map_cons, List.map_nil, Option.some.injEq, Prod.mk.injEq, SC.d.injEq, D.l.injEq, List.map_set])
  · try dsimp only at h
    rw [hk2] at h
    simp only [Option.some.injEq] at h
    subst h
    try simp only [go_sem, Nat.reduceAdd, Nat.reduceEqDiff, Nat.reduceLeDiff, Nat.reduceSub, reduceCtorEq, ↓reduceIte, Nat.reduceBEq, Int.reduceLT, Int.reduceLE, Int.reduceEq, Int.reduceBEq, Int.reduceBNe, Nat.reduceLT, Nat.reduceMul, Int.reduceToNat, List.map_append, List.map_cons, List.map_nil, List.map_set]
def reredosref_TapeMay (p0 : Tape) : Option (Bool) := (withK (fun (b1_1 : Bool) => (some b1_1)) fun k2 => (if (decide (((p0.Data.length : Nat) : Int) ≤ 6000)) = true then (Option.bind (reredosref_In p0.Synced 0 ((p0.Data.length : Nat) : Int)) fun v6 => (k2 v6)) else (k2 false)))
def F22 : VFn := ⟨15, (.seq (.reg [⟨(some 1), .box 2 (.t 0), none⟩, ⟨(some 2), .mv (.c (.one (.d (.b false)))), none⟩]) (.seq (.wk (.reg [⟨(some 3), .fa 0 (.t 1), none⟩, ⟨(some 4), .ld false 1 (.t 3), none⟩, ⟨(some 5), .len (.t 4), none⟩, ⟨(some 6), .bin .i .leq (.t 5) (.c (.one (.d (.i .i64 6000)))), none⟩, ⟨(some 7), .mv (.t 6), none⟩, ⟨(some 8), .fa 1 (.t 1), (some (7, true))⟩, ⟨(some 9), .ld false 1 (.t 8), (some (7, true))⟩, ⟨(some 10), .fa 0 (.t 1), (some (7, true))⟩, ⟨(some 11), .ld false 1 (.t 10), (some (7, true))⟩, ⟨(some 12), .len (.t 11), (some (7, true))⟩, ⟨(some 13), .call 58 [(.t 9), (.c (.one (.d (.i .i64 0)))), (.t 12)], (some (7, true))⟩, ⟨(some 14), .pick (.t 7) (.t 13) (.c (.one (.d (.b false)))), none⟩, ⟨(some 2), .mv (.t 14), none⟩])) .ret)), [.t 2]⟩
theorem low22 : lowF Tryd.prog 22 = some F22.strip := by kernel_rfl
theorem fok22 : fOk Tryd.prog 22 = true := by kernel_rfl
theorem reredosref_TapeMay_ok (G : Nat → Option (List D)) (p0 : Tape) (r : Bool) (h : reredosref_TapeMay p0 = some r) : FnRO Tryd.prog G 22 [.agg [.d (.l 1 (p0.Data.map encU8)), .d (.i .i64 p0.Synced)]] (fun rs => rs = [.one (.b r)]) := by
  refine FnRO.of' low22 fok22 (by simp [F22]) ?_
  rw [reredosref_TapeMay] at h
  simp only [F22, go_sem, Nat.reduceAdd, Nat.reduceEqDiff, Nat.reduceLeDiff, Nat.reduceSub, reduceCtorEq, ↓reduceIte, Nat.reduceBEq, Int.reduceLT, Int.reduceLE, Int.reduceEq, Int.reduceBEq, Int.reduceBNe, Nat.reduceLT, Nat.reduceMul, Int.reduceToNat]
  obtain ⟨k2, hk2, h⟩ := withK_lk1 h
  try simp only [go_sem, Nat.reduceAdd, Nat.reduceEqDiff, Nat.reduceLeDiff, Nat.reduceSub, reduceCtorEq, ↓reduceIte, Nat.reduceBEq, Int.reduceLT, Int.reduceLE, Int.reduceEq, Int.reduceBEq, Int.reduceBNe, Nat.reduceLT, Nat.reduceMul, Int.reduceToNat]
  refine join_lk Tryd.prog G _ _ (B := Bool) (fun b => k2 b = some r) (fun b => [(2, .one (.d (.b b)))]) (fun b => []) ?_ (fun b1_1 h => ?_)
  · try simp only [go_sem, Nat.reduceAdd, Nat.reduceEqDiff, Nat.reduceLeDiff, Nat.reduceSub, reduceCtorEq, ↓reduceIte, Nat.reduceBEq, Int.reduceLT, Int.reduceLE, Int.reduceEq, Int.reduceBEq, Int.reduceBNe, Nat.reduceLT, Nat.reduceMul, Int.reduceToNat]
    intro hl3
    rcases of_if h with ⟨hb4, h⟩ | ⟨hb4, h⟩
    · try simp only [hb4, go_sem, Nat.reduceAdd, Nat.reduceEqDiff, Nat.reduceLeDiff, Nat.reduceSub, reduceCtorEq, ↓reduceIte, Nat.reduceBEq, Int.reduceLT, Int.reduceLE, Int.reduceEq, Int.reduceBEq, Int.reduceBNe, Nat.reduceLT, Nat.reduceMul, Int.reduceToNat]
      intro hl5
      obtain ⟨v6, hv6, h⟩ := Option.bind_eq_some_iff.1 h
      try simp only [hb4, go_sem, Nat.reduceAdd, Nat.reduceEqDiff, Nat.reduceLeDiff, Nat.reduceSub, reduceCtorEq, ↓reduceIte, Nat.reduceBEq, Int.reduceLT, Int.reduceLE, Int.reduceEq, Int.reduceBEq, Int.reduceBNe, Nat.reduceLT, Nat.reduceMul, Int.reduceToNat]
      refine CallV.ro false (reredosref_In_ok G p0.Synced 0 ((p0.Data.length : Nat) : Int) v6 hv6) rfl ?_
      rintro rs rfl
      refine ⟨.inl rfl, ?_⟩
      try simp only [hb4, go_sem, Nat.reduceAdd, Nat.reduceEqDiff, Nat.reduceLeDiff, Nat.reduceSub, reduceCtorEq, ↓reduceIte, Nat.reduceBEq, Int.reduceLT, Int.reduceLE, Int.reduceEq, Int.reduceBEq, Int.reduceBNe, Nat.reduceLT, Nat.reduceMul, Int.reduceToNat]
      exact joinQ_c (v6) h [] rfl (by simp only [hb4, go_sem, Nat.reduceAdd, Nat.reduceEqDiff, Nat.reduceLeDiff, Nat.reduceSub, reduceCtorEq, ↓reduceIte, Nat.reduceBEq, Int.reduceLT, Int.reduceLE, Int.reduceEq, Int.reduceBEq, Int.reduceBNe, Nat.reduceLT, Nat.reduceMul, Int.reduceToNat, slotsWk, objsWk, objWk, optVOWk, SV.wk, SC.wk, cellsWk, VO.wk, Ptr.wk, ptrsWk, SC.isNl, List.map_append, List.map_cons, List.map_nil, Option.some.injEq, Prod.mk.injEq, SC.d.injEq, D.l.injEq, List.map_set])
    · try simp only [hb4, go_sem, Nat.reduceAdd, Nat.reduceEqDiff, Nat.reduceLeDiff, Nat.reduceSub, reduceCtorEq, ↓reduceIte, Nat.reduceBEq, Int.reduceLT, Int.reduceLE, Int.reduceEq, Int.reduceBEq, Int.reduceBNe, Nat.reduceLT, Nat.reduceMul, Int.reduceToNat]
      exact joinQ_c (false) h [] rfl (by simp only [hb4, go_sem, Nat.reduceAdd, Nat.reduceEqDiff, Nat.reduceLeDiff, Nat.reduceSub, reduceCtorEq, ↓reduceIte, Nat.reduceBEq, Int.reduceLT, Int.reduceLE, Int.reduceEq, Int.reduceBEq, Int.reduceBNe, Nat.reduceLT, Nat.reduceMul, Int.reduceToNat, slotsWk, objsWk, objWk, optVOWk, SV.wk, SC.wk, cellsWk, VO.wk, Ptr.wk, ptrsWk, SC.isNl, List.map_append, List.map_cons, List.map_nil, Option.some.injEq, Prod.mk.injEq, SC.d.injEq, D.l.injEq, List.map_set])
  · try dsimp only at h
    rw [hk2] at h
    simp only [Option.some.injEq] at h
    subst h
    try simp only [go_sem, Nat.reduceAdd, Nat.reduceEqDiff, Nat.reduceLeDiff, Nat.reduceSub, reduceCtorEq, ↓reduceIte, Nat.reduceBEq, Int.reduceLT, Int.reduceLE, Int.reduceEq, Int.reduceBEq, Int.reduceBNe, Nat.reduceLT, Nat.reduceMul, Int.reduceToNat, List.map_append, List.map_cons, List.map_nil, List.map_set]
def reredosref_ConfigFault_L2 (p0 : Config) (a8_1 : Nat) (x12 : Label) (k18 : Option (Int)) : Nat → Nat → Option (Int)
  | 0, _ => none
  | n20 + 1, a19_1 => (if (decide (a19_1 < a8_1)) = true then (Option.bind (p0.Labels[a19_1]?) fun x22 => (if ((x22.Level == x12.Level) && (x22.Cats == x12.Cats)) = true then (some 7) else (reredosref_ConfigFault_L2 p0 a8_1 x12 k18 n20 (a19_1 + 1)))) else k18)
def reredosref_ConfigFault_L1 (p0 : Config) (k7 : Option (Int)) : Nat → Nat → Option (Int)
  | 0, _ => none
  | n9 + 1, a8_1 => (if (decide (a8_1 < p0.Labels.length)) = true then (Option.bind (p0.Labels[a8_1]?) fun x12 => (Option.bind (reredosref_In x12.Level 0 9) fun v13 => (if (!v13) = true then (some 2) else (Option.bind (reredosref_In x12.Cats 0 15) fun v15 => (if (!v15) = true then (some 2) else (withK (reredosref_ConfigFault_L1 p0 k7 n9 (a8_1 + 1)) fun k18 => (reredosref_ConfigFault_L2 p0 a8_1 x12 k18 (a8_1 + 1) 0))))))) else k7)
def reredosref_ConfigFault (p0 : Config) : Option (Int) := (Option.bind (reredosref_In p0.Sites 1 4) fun v1 => (if (!v1) = true then (some 2) else (Option.bind (reredosref_In ((p0.Labels.length : Nat) : Int) 1 6) fun v4 => (if (!v4) = true then (some 1) else (withK (Option.bind (reredosref_In p0.Patience 1 1048576) fun v26 => (if (!v26) = true then (some 2) else (some 0))) fun k7 => (reredosref_ConfigFault_L1 p0 k7 (p0.Labels.length + 1) 0))))))
def F26 : VFn := ⟨59, (.seq (.reg [⟨(some 1), .box 3 (.t 0), none⟩, ⟨(some 2), .mv (.c (.one (.d (.i .i64 0)))), none⟩]) (.seq (.seq (.reg [⟨(some 5), .fa 0 (.t 1), none⟩, ⟨(some 6), .ld false 1 (.t 5), none⟩, ⟨(some 7), .call 58 [(.t 6), (.c (.one (.d (.i .i64 1)))), (.c (.one (.d (.i .i64 4))))], none⟩, ⟨(some 8), .un .not (.t 7), none⟩]) (.cond (.t 8) (.seq (.reg [⟨(some 2), .mv (.c (.one (.d (.i .i64 2)))), none⟩]) .ret) .skip)) (.seq (.seq (.reg [⟨(some 9), .fa 1 (.t 1), none⟩, ⟨(some 10), .ld false 1 (.t 9), none⟩, ⟨(some 11), .len (.t 10), none⟩, ⟨(some 12), .call 58 [(.t 11), (.c (.one (.d (.i .i64 1)))), (.c (.one (.d (.i .i64 6))))], none⟩, ⟨(some 13), .un .not (.t 12), none⟩]) (.cond (.t 13) (.seq (.reg [⟨(some 2), .mv (.c (.one (.d (.i .i64 1)))), none⟩]) .ret) .skip)) (.seq (.seq (.reg [⟨(some 3), .mv (.c (.one (.d (.i .i64 0)))), none⟩]) (.wk (.block 0 (.loop (.seq (.seq (.reg [⟨(some 14), .mv (.t 3), none⟩, ⟨(some 15), .fa 1 (.t 1), none⟩, ⟨(some 16), .ld false 1 (.t 15), none⟩, ⟨(some 17), .len (.t 16), none⟩, ⟨(some 18), .bin .i .lss (.t 14) (.t 17), none⟩]) (.cond (.t 18) .skip (.exit 0))) (.seq (.block 1 (.seq (.seq (.reg [⟨(some 21), .fa 1 (.t 1), none⟩, ⟨(some 22), .ld false 1 (.t 21), none⟩, ⟨(some 23), .mv (.t 3), none⟩, ⟨(some 24), .ia 2 (.t 22) (.t 23), none⟩, ⟨(some 25), .fa 0 (.t 24), none⟩, ⟨(some 26), .ld false 1 (.t 25), none⟩, ⟨(some 27), .call 58 [(.t 26), (.c (.one (.d (.i .i64 0)))), (.c (.one (.d (.i .i64 9))))], none⟩, ⟨(some 28), .un .not (.t 27), none⟩, ⟨(some 29), .mv (.t 28), none⟩, ⟨(some 30), .fa 1 (.t 1), (some (29, false))⟩, ⟨(some 31), .ld false 1 (.t 30), (some (29, false))⟩, ⟨(some 32), .mv (.t 3), (some (29, false))⟩, ⟨(some 33), .ia 2 (.t 31) (.t 32), (some (29, false))⟩, ⟨(some 34), .fa 1 (.t 33), (some (29, false))⟩, ⟨(some 35), .ld false 1 (.t 34), (some (29, false))⟩, ⟨(some 36), .call 58 [(.t 35), (.c (.one (.d (.i .i64 0)))), (.c (.one (.d (.i .i64 15))))], (some (29, false))⟩, ⟨(some 37), .un .not (.t 36), (some (29, false))⟩, ⟨(some 38), .pick (.t 29) (.c (.one (.d (.b true)))) (.t 37), none⟩]) (.cond (.t 38) (.seq (.reg [⟨(some 2), .mv (.c (.one (.d (.i .i64 2)))), none⟩]) .ret) .skip)) (.seq (.reg [⟨(some 4), .mv (.c (.one (.d (.i .i64 0)))), none⟩]) (.wk (.block 2 (.loop (.seq (.seq (.reg [⟨(some 39), .mv (.t 4), none⟩, ⟨(some 40), .mv (.t 3), none⟩, ⟨(some 41), .bin .i .lss (.t 39) (.t 40), none⟩]) (.cond (.t 41) .skip (.exit 2))) (.seq (.block 3 (.seq (.draw [⟨⟨(some 44), .fa 1 (.t 1), none⟩, [], []⟩, ⟨⟨(some 45), .ld false 1 (.t 44), none⟩, [0], []⟩, ⟨⟨(some 46), .mv (.t 4), none⟩, [], []⟩, ⟨⟨(some 47), .ia 2 (.t 45) (.t 46), none⟩, [1, 0, 2], []⟩, ⟨⟨(some 48), .ld true 2 (.t 47), none⟩, [3, 1, 0, 2], []⟩, ⟨⟨(some 49), .fa 1 (.t 1), none⟩, [], []⟩, ⟨⟨(some 50), .ld false 1 (.t 49), none⟩, [5], []⟩, ⟨⟨(some 51), .mv (.t 3), none⟩, [], []⟩, ⟨⟨(some 52), .ia 2 (.t 50) (.t 51), none⟩, [6, 5, 7], []⟩, ⟨⟨(some 53), .ld true 2 (.t 52), none⟩, [8, 6, 5, 7], []⟩, ⟨⟨(some 54), .eqs false [.i, .i] (.t 48) (.t 53), none⟩, [4, 3, 1, 0, 2, 9, 8, 6, 5, 7], []⟩]) (.cond (.t 54) (.seq (.reg [⟨(some 2), .mv (.c (.one (.d (.i .i64 7)))), none⟩]) .ret) .skip))) (.reg [⟨(some 42), .mv (.t 4), none⟩, ⟨(some 43), .bin .i .add (.t 42) (.c (.one (.d (.i .i64 1)))), none⟩, ⟨(some 4), .mv (.t 43), none⟩]))))))))) (.reg [⟨(some 19), .mv (.t 3), none⟩, ⟨(some 20), .bin .i .add (.t 19) (.c (.one (.d (.i .i64 1)))), none⟩, ⟨(some 3), .mv (.t 20), none⟩]))))))) (.seq (.seq (.reg [⟨(some 55), .fa 2 (.t 1), none⟩, ⟨(some 56), .ld false 1 (.t 55), none⟩, ⟨(some 57), .call 58 [(.t 56), (.c (.one (.d (.i .i64 1)))), (.c (.one (.d (.i .i64 1048576))))], none⟩, ⟨(some 58), .un .not (.t 57), none⟩]) (.cond (.t 58) (.seq (.reg [⟨(some 2), .mv (.c (.one (.d (.i .i64 2)))), none⟩]) .ret) .skip)) (.seq (.reg [⟨(some 2), .mv (.c (.one (.d (.i .i64 0)))), none⟩]) .ret)))))), [.t 2]⟩
theorem low26 : lowF Tryd.prog 26 = some F26.strip := by kernel_rfl
theorem fok26 : fOk Tryd.prog 26 = true := by kernel_rfl
theorem reredosref_ConfigFault_ok (G : Nat → Option (List D)) (p0 : Config) (r : Int) (h : reredosref_ConfigFault p0 = some r) : FnRO Tryd.prog G 26 [.agg [.d (.i .i64 p0.Sites), .d (.l 2 (p0.Labels.map Label.enc)), .d (.i .i64 p0.Patience)]] (fun rs => rs = [.one (.i .i64 r)]) := by
  refine FnRO.of' low26 fok26 (by simp [F26]) ?_
  rw [reredosref_ConfigFault] at h
  simp only [F26, go_sem, Nat.reduceAdd, Nat.reduceEqDiff, Nat.reduceLeDiff, Nat.reduceSub, reduceCtorEq, ↓reduceIte, Nat.reduceBEq, Int.reduceLT, Int.reduceLE, Int.reduceEq, Int.reduceBEq, Int.reduceBNe, Nat.reduceLT, Nat.reduceMul, Int.reduceToNat]
  obtain ⟨v1, hv1, h⟩ := Option.bind_eq_some_iff.1 h
  try simp only [go_sem, Nat.reduceAdd, Nat.reduceEqDiff, Nat.reduceLeDiff, Nat.reduceSub, reduceCtorEq, ↓reduceIte, Nat.reduceBEq, Int.reduceLT, Int.reduceLE, Int.reduceEq, Int.reduceBEq, Int.reduceBNe, Nat.reduceLT, Nat.reduceMul, Int.reduceToNat]
  refine CallV.ro false (reredosref_In_ok G p0.Sites 1 4 v1 hv1) rfl ?_
  rintro rs rfl
  refine ⟨.inl rfl, ?_⟩
  rcases of_if h with ⟨hb2, h⟩ | ⟨hb2, h⟩
  · have hkhb2 := not_eq_t hb2
    simp only [Option.some.injEq] at h
    subst h
    try simp only [hb2, hkhb2, go_sem, Nat.reduceAdd, Nat.reduceEqDiff, Nat.reduceLeDiff, Nat.reduceSub, reduceCtorEq, ↓reduceIte, Nat.reduceBEq, Int.reduceLT, Int.reduceLE, Int.reduceEq, Int.reduceBEq, Int.reduceBNe, Nat.reduceLT, Nat.reduceMul, Int.reduceToNat, List.map_append, List.map_cons, List.map_nil, List.map_set]
  · have hkhb2 := not_eq_f hb2
    try simp only [hb2, hkhb2, go_sem, Nat.reduceAdd, Nat.reduceEqDiff, Nat.reduceLeDiff, Nat.reduceSub, reduceCtorEq, ↓reduceIte, Nat.reduceBEq, Int.reduceLT, Int.reduceLE, Int.reduceEq, Int.reduceBEq, Int.reduceBNe, Nat.reduceLT, Nat.reduceMul, Int.reduceToNat]
    intro hl3
    obtain ⟨v4, hv4, h⟩ := Option.bind_eq_some_iff.1 h
    try simp only [hb2, hkhb2, go_sem, Nat.reduceAdd, Nat.reduceEqDiff, Nat.reduceLeDiff, Nat.reduceSub, reduceCtorEq, ↓reduceIte, Nat.reduceBEq, Int.reduceLT, Int.reduceLE, Int.reduceEq, Int.reduceBEq, Int.reduceBNe, Nat.reduceLT, Nat.reduceMul, Int.reduceToNat]
    refine CallV.ro false (reredosref_In_ok G ((p0.Labels.length : Nat) : Int) 1 6 v4 hv4) rfl ?_
    rintro rs rfl
    refine ⟨.inl rfl, ?_⟩
    rcases of_if h with ⟨hb5, h⟩ | ⟨hb5, h⟩
    · have hkhb5 := not_eq_t hb5
      simp only [Option.some.injEq] at h
      subst h
      try simp only [hb2, hkhb2, hb5, hkhb5, go_sem, Nat.reduceAdd, Nat.reduceEqDiff, Nat.reduceLeDiff, Nat.reduceSub, reduceCtorEq, ↓reduceIte, Nat.reduceBEq, Int.reduceLT, Int.reduceLE, Int.reduceEq, Int.reduceBEq, Int.reduceBNe, Nat.reduceLT, Nat.reduceMul, Int.reduceToNat, List.map_append, List.map_cons, List.map_nil, List.map_set]
    · have hkhb5 := not_eq_f hb5
      obtain ⟨k7, hk7, h⟩ := withK_lk0 h
      try simp only [hb2, hkhb2, hb5, hkhb5, go_sem, Nat.reduceAdd, Nat.reduceEqDiff, Nat.reduceLeDiff, Nat.reduceSub, reduceCtorEq, ↓reduceIte, Nat.reduceBEq, Int.reduceLT, Int.reduceLE, Int.reduceEq, Int.reduceBEq, Int.reduceBNe, Nat.reduceLT, Nat.reduceMul, Int.reduceToNat]
      refine join_lk Tryd.prog G _ _ (B := Unit) (fun b => k7 = some r) (fun b => [(1, .one (.p (.q 0 0 0)))]) (fun b => [some (.box [.d (.i .i64 p0.Sites), .d (.l 2 (p0.Labels.map Label.enc)), .d (.i .i64 p0.Patience)])]) ?_ (fun b h => ?_)
      · try simp only [hb2, hkhb2, hb5, hkhb5, go_sem, Nat.reduceAdd, Nat.reduceEqDiff, Nat.reduceLeDiff, Nat.reduceSub, reduceCtorEq, ↓reduceIte, Nat.reduceBEq, Int.reduceLT, Int.reduceLE, Int.reduceEq, Int.reduceBEq, Int.reduceBNe, Nat.reduceLT, Nat.reduceMul, Int.reduceToNat]
        refine loop_lk Tryd.prog G _ _ (A := Nat) (fun n a => reredosref_ConfigFault_L1 p0 k7 n a = some r) (fun a => [(1, .one (.p (.q 0 0 0))), (3, .one (.d (.i .i64 ((a : Nat) : Int))))]) (fun a => [some (.box [.d (.i .i64 p0.Sites), .d (.l 2 (p0.Labels.map Label.enc)), .d (.i .i64 p0.Patience)])]) (p0.Labels.length + 1) (0) h (wk_c _ _ _ [some 0] rfl (by simp only [hb2, hkhb2, hb5, hkhb5, go_sem, Nat.reduceAdd, Nat.reduceEqDiff, Nat.reduceLeDiff, Nat.reduceSub, reduceCtorEq, ↓reduceIte, Nat.reduceBEq, Int.reduceLT, Int.reduceLE, Int.reduceEq, Int.reduceBEq, Int.reduceBNe, Nat.reduceLT, Nat.reduceMul, Int.reduceToNat, slotsWk, objsWk, objWk, optVOWk, SV.wk, SC.wk, cellsWk, VO.wk, Ptr.wk, ptrsWk, SC.isNl, List.map_append, List.map_cons, List.map_nil, Option.some.injEq, Prod.mk.injEq, SC.d.injEq, D.l.injEq, List.map_set])) (fun a h => by simp only [reredosref_ConfigFault_L1, reduceCtorEq] at h) ?_
        intro n9 a8_1 h
        try dsimp only at h
        rw [reredosref_ConfigFault_L1] at h
        try simp only [hkhb2, hkhb5, go_sem, Nat.reduceAdd, Nat.reduceEqDiff, Nat.reduceLeDiff, Nat.reduceSub, reduceCtorEq, ↓reduceIte, Nat.reduceBEq, Int.reduceLT, Int.reduceLE, Int.reduceEq, Int.reduceBEq, Int.reduceBNe, Nat.reduceLT, Nat.reduceMul, Int.reduceToNat]
        intro hl10
        rcases of_if h with ⟨hb11, h⟩ | ⟨hb11, h⟩
        · have hkhb11 := of_decide_eq_true hb11
          obtain ⟨x12, hx12, h⟩ := Option.bind_eq_some_iff.1 h
          have hkx12 := (List.getElem?_eq_some_iff.1 hx12).1
          try simp only [List.length_take, List.length_drop, List.length_append, List.length_set, List.length_map, List.length_cons, List.length_nil, Nat.zero_add] at hkx12
          obtain ⟨v13, hv13, h⟩ := Option.bind_eq_some_iff.1 h
          try simp only [hkhb2, hkhb5, hb11, hkhb11, hx12, hkx12, go_sem, Nat.reduceAdd, Nat.reduceEqDiff, Nat.reduceLeDiff, Nat.reduceSub, reduceCtorEq, ↓reduceIte, Nat.reduceBEq, Int.reduceLT, Int.reduceLE, Int.reduceEq, Int.reduceBEq, Int.reduceBNe, Nat.reduceLT, Nat.reduceMul, Int.reduceToNat]
          refine CallV.ro false (reredosref_In_ok G x12.Level 0 9 v13 hv13) rfl ?_
          rintro rs rfl
          refine ⟨.inl rfl, ?_⟩
          rcases of_if h with ⟨hb14, h⟩ | ⟨hb14, h⟩
          · have hkhb14 := not_eq_t hb14
            simp only [Option.some.injEq] at h
            subst h
            try simp only [hkhb2, hkhb5, hb11, hkhb11, hx12, hkx12, hb14, hkhb14, go_sem, Nat.reduceAdd, Nat.reduceEqDiff, Nat.reduceLeDiff, Nat.reduceSub, reduceCtorEq, ↓reduceIte, Nat.reduceBEq, Int.reduceLT, Int.reduceLE, Int.reduceEq, Int.reduceBEq, Int.reduceBNe, Nat.reduceLT, Nat.reduceMul, Int.reduceToNat, List.map_append, List.map_cons, List.map_nil, List.map_set]
          · have hkhb14 := not_eq_f hb14
            obtain ⟨v15, hv15, h⟩ := Option.bind_eq_some_iff.1 h
            try simp only [hkhb2, hkhb5, hb11, hkhb11, hx12, hkx12, hb14, hkhb14, go_sem, Nat.reduceAdd, Nat.reduceEqDiff, Nat.reduceLeDiff, Nat.reduceSub, reduceCtorEq, ↓reduceIte, Nat.reduceBEq, Int.reduceLT, Int.reduceLE, Int.reduceEq, Int.reduceBEq, Int.reduceBNe, Nat.reduceLT, Nat.reduceMul, Int.reduceToNat]
            refine CallV.ro false (reredosref_In_ok G x12.Cats 0 15 v15 hv15) rfl ?_
            rintro rs rfl
            refine ⟨.inl rfl, ?_⟩
            rcases of_if h with ⟨hb16, h⟩ | ⟨hb16, h⟩
            · have hkhb16 := not_eq_t hb16
              simp only [Option.some.injEq] at h
              subst h
              try simp only [hkhb2, hkhb5, hb11, hkhb11, hx12, hkx12, hb14, hkhb14, hb16, hkhb16, go_sem, Nat.reduceAdd, Nat.reduceEqDiff, Nat.reduceLeDiff, Nat.reduceSub, reduceCtorEq, ↓reduceIte, Nat.reduceBEq, Int.reduceLT, Int.reduceLE, Int.reduceEq, Int.reduceBEq, Int.reduceBNe, Nat.reduceLT, Nat.reduceMul, Int.reduceToNat, List.map_append, List.map_cons, List.map_nil, List.map_set]
            · have hkhb16 := not_eq_f hb16
              obtain ⟨k18, hk18, h⟩ := withK_lk0 h
              try simp only [hkhb2, hkhb5, hb11, hkhb11, hx12, hkx12, hb14, hkhb14, hb16, hkhb16, go_sem, Nat.reduceAdd, Nat.reduceEqDiff, Nat.reduceLeDiff, Nat.reduceSub, reduceCtorEq, ↓reduceIte, Nat.reduceBEq, Int.reduceLT, Int.reduceLE, Int.reduceEq, Int.reduceBEq, Int.reduceBNe, Nat.reduceLT, Nat.reduceMul, Int.reduceToNat]
              refine join_lk Tryd.prog G _ _ (B := Unit) (fun b => k18 = some r) (fun b => [(1, .one (.p (.q 0 0 0))), (3, .one (.d (.i .i64 ((a8_1 : Nat) : Int)))), (30, .one (.p (.q 0 0 1))), (31, .one (.d (.l 2 (p0.Labels.map Label.enc)))), (32, .one (.d (.i .i64 ((a8_1 : Nat) : Int)))), (33, .one (.p (.l 2 (p0.Labels.map Label.enc) a8_1 0))), (34, .one (.p (.l 2 (p0.Labels.map Label.enc) a8_1 1))), (35, .one (.d (.i .i64 x12.Cats))), (36, .one (.d (.b true))), (37, .one (.d (.b false)))]) (fun b => [some (.box [.d (.i .i64 p0.Sites), .d (.l 2 (p0.Labels.map Label.enc)), .d (.i .i64 p0.Patience)])]) ?_ (fun b h => ?_)
              · try simp only [hkhb2, hkhb5, hb11, hkhb11, hx12, hkx12, hb14, hkhb14, hb16, hkhb16, go_sem, Nat.reduceAdd, Nat.reduceEqDiff, Nat.reduceLeDiff, Nat.reduceSub, reduceCtorEq, ↓reduceIte, Nat.reduceBEq, Int.reduceLT, Int.reduceLE, Int.reduceEq, Int.reduceBEq, Int.reduceBNe, Nat.reduceLT, Nat.reduceMul, Int.reduceToNat]
                refine loop_lk Tryd.prog G _ _ (A := Nat) (fun n a => reredosref_ConfigFault_L2 p0 a8_1 x12 k18 n a = some r) (fun a => [(1, .one (.p (.q 0 0 0))), (3, .one (.d (.i .i64 ((a8_1 : Nat) : Int)))), (4, .one (.d (.i .i64 ((a : Nat) : Int)))), (30, .one (.p (.q 0 0 1))), (31, .one (.d (.l 2 (p0.Labels.map Label.enc)))), (32, .one (.d (.i .i64 ((a8_1 : Nat) : Int)))), (33, .one (.p (.l 2 (p0.Labels.map Label.enc) a8_1 0))), (34, .one (.p (.l 2 (p0.Labels.map Label.enc) a8_1 1))), (35, .one (.d (.i .i64 x12.Cats))), (36, .one (.d (.b true))), (37, .one (.d (.b false)))]) (fun a => [some (.box [.d (.i .i64 p0.Sites), .d (.l 2 (p0.Labels.map Label.enc)), .d (.i .i64 p0.Patience)])]) (a8_1 + 1) (0) h (wk_c _ _ _ [some 0] rfl (by simp only [hkhb2, hkhb5, hb11, hkhb11, hx12, hkx12, hb14, hkhb14, hb16, hkhb16, go_sem, Nat.reduceAdd, Nat.reduceEqDiff, Nat.reduceLeDiff, Nat.reduceSub, reduceCtorEq, ↓reduceIte, Nat.reduceBEq, Int.reduceLT, Int.reduceLE, Int.reduceEq, Int.reduceBEq, Int.reduceBNe, Nat.reduceLT, Nat.reduceMul, Int.reduceToNat, slotsWk, objsWk, objWk, optVOWk, SV.wk, SC.wk, cellsWk, VO.wk, Ptr.wk, ptrsWk, SC.isNl, List.map_append, List.map_cons, List.map_nil, Option.some.injEq, Prod.mk.injEq, SC.d.injEq, D.l.injEq, List.map_set])) (fun a h => by simp only [reredosref_ConfigFault_L2, reduceCtorEq] at h) ?_
                intro n20 a19_1 h
                try dsimp only at h
                rw [reredosref_ConfigFault_L2] at h
                rcases of_if h with ⟨hb21, h⟩ | ⟨hb21, h⟩
                · have hkhb21 := of_decide_eq_true hb21
                  obtain ⟨x22, hx22, h⟩ := Option.bind_eq_some_iff.1 h
                  have hkx22 := (List.getElem?_eq_some_iff.1 hx22).1
                  try simp only [List.length_take, List.length_drop, List.length_append, List.length_set, List.length_map, List.length_cons, List.length_nil, Nat.zero_add] at hkx22
                  rcases of_if h with ⟨hb23, h⟩ | ⟨hb23, h⟩
                  · try simp only [hkhb2, hkhb5, hkhb11, hx12, hkx12, hkhb14, hkhb16, hb21, hkhb21, hx22, hkx22, hb23, go_sem, Nat.reduceAdd, Nat.reduceEqDiff, Nat.reduceLeDiff, Nat.reduceSub, reduceCtorEq, ↓reduceIte, Nat.reduceBEq, Int.reduceLT, Int.reduceLE, Int.reduceEq, Int.reduceBEq, Int.reduceBNe, Nat.reduceLT, Nat.reduceMul, Int.reduceToNat]
                    simp only [Option.some.injEq] at h
                    subst h
                    try simp only [hkhb2, hkhb5, hkhb11, hx12, hkx12, hkhb14, hkhb16, hb21, hkhb21, hx22, hkx22, hb23, go_sem, Nat.reduceAdd, Nat.reduceEqDiff, Nat.reduceLeDiff, Nat.reduceSub, reduceCtorEq, ↓reduceIte, Nat.reduceBEq, Int.reduceLT, Int.reduceLE, Int.reduceEq, Int.reduceBEq, Int.reduceBNe, Nat.reduceLT, Nat.reduceMul, Int.reduceToNat, List.map_append, List.map_cons, List.map_nil, List.map_set]
                  · try simp only [hkhb2, hkhb5, hkhb11, hx12, hkx12, hkhb14, hkhb16, hb21, hkhb21, hx22, hkx22, hb23, go_sem, Nat.reduceAdd, Nat.reduceEqDiff, Nat.reduceLeDiff, Nat.reduceSub, reduceCtorEq, ↓reduceIte, Nat.reduceBEq, Int.reduceLT, Int.reduceLE, Int.reduceEq, Int.reduceBEq, Int.reduceBNe, Nat.reduceLT, Nat.reduceMul, Int.reduceToNat]
                    have hw24 := wrap_succ_max hkx22 hl10
                    try simp only [hkhb2, hkhb5, hkhb11, hx12, hkx12, hkhb14, hkhb16, hb21, hkhb21, hx22, hkx22, hb23, hw24, go_sem, Nat.reduceAdd, Nat.reduceEqDiff, Nat.reduceLeDiff, Nat.reduceSub, reduceCtorEq, ↓reduceIte, Nat.reduceBEq, Int.reduceLT, Int.reduceLE, Int.reduceEq, Int.reduceBEq, Int.reduceBNe, Nat.reduceLT, Nat.reduceMul, Int.reduceToNat]
                    exact loopQ_c (a19_1 + 1) h [some 0] rfl (by simp only [hkhb2, hkhb5, hkhb11, hx12, hkx12, hkhb14, hkhb16, hb21, hkhb21, hx22, hkx22, hb23, hw24, go_sem, Nat.reduceAdd, Nat.reduceEqDiff, Nat.reduceLeDiff, Nat.reduceSub, reduceCtorEq, ↓reduceIte, Nat.reduceBEq, Int.reduceLT, Int.reduceLE, Int.reduceEq, Int.reduceBEq, Int.reduceBNe, Nat.reduceLT, Nat.reduceMul, Int.reduceToNat, slotsWk, objsWk, objWk, optVOWk, SV.wk, SC.wk, cellsWk, VO.wk, Ptr.wk, ptrsWk, SC.isNl, List.map_append, List.map_cons, List.map_nil, Option.some.injEq, Prod.mk.injEq, SC.d.injEq, D.l.injEq, List.map_set])
                · try simp only [hkhb2, hkhb5, hkhb11, hx12, hkx12, hkhb14, hkhb16, hb21, go_sem, Nat.reduceAdd, Nat.reduceEqDiff, Nat.reduceLeDiff, Nat.reduceSub, reduceCtorEq, ↓reduceIte, Nat.reduceBEq, Int.reduceLT, Int.reduceLE, Int.reduceEq, Int.reduceBEq, Int.reduceBNe, Nat.reduceLT, Nat.reduceMul, Int.reduceToNat]
                  exact joinQ_c () h [some 0] rfl (by simp only [hkhb2, hkhb5, hkhb11, hx12, hkx12, hkhb14, hkhb16, hb21, go_sem, Nat.reduceAdd, Nat.reduceEqDiff, Nat.reduceLeDiff, Nat.reduceSub, reduceCtorEq, ↓reduceIte, Nat.reduceBEq, Int.reduceLT, Int.reduceLE, Int.reduceEq, Int.reduceBEq, Int.reduceBNe, Nat.reduceLT, Nat.reduceMul, Int.reduceToNat, slotsWk, objsWk, objWk, optVOWk, SV.wk, SC.wk, cellsWk, VO.wk, Ptr.wk, ptrsWk, SC.isNl, List.map_append, List.map_cons, List.map_nil, Option.some.injEq, Prod.mk.injEq, SC.d.injEq, D.l.injEq, List.map_set])
              · try dsimp only at h
                rw [hk18] at h
                have hw25 := wrap_succ_max hkx12 hl10
                try simp only [hkhb2, hkhb5, hkhb11, hx12, hkx12, hkhb14, hkhb16, hw25, go_sem, Nat.reduceAdd, Nat.reduceEqDiff, Nat.reduceLeDiff, Nat.reduceSub, reduceCtorEq, ↓reduceIte, Nat.reduceBEq, Int.reduceLT, Int.reduceLE, Int.reduceEq, Int.reduceBEq, Int.reduceBNe, Nat.reduceLT, Nat.reduceMul, Int.reduceToNat]
                exact loopQ_c (a8_1 + 1) h [some 0] rfl (by simp only [hkhb2, hkhb5, hkhb11, hx12, hkx12, hkhb14, hkhb16, hw25, go_sem, Nat.reduceAdd, Nat.reduceEqDiff, Nat.reduceLeDiff, Nat.reduceSub, reduceCtorEq, ↓reduceIte, Nat.reduceBEq, Int.reduceLT, Int.reduceLE, Int.reduceEq, Int.reduceBEq, Int.reduceBNe, Nat.reduceLT, Nat.reduceMul, Int.reduceToNat, slotsWk, objsWk, objWk, optVOWk, SV.wk, SC.wk, cellsWk, VO.wk, Ptr.wk, ptrsWk, SC.isNl, List.map_append, List.map_cons, List.map_nil, Option.some.injEq, Prod.mk.injEq, SC.d.injEq, D.l.injEq, List.map_set])
        · try simp only [hkhb2, hkhb5, hb11, go_sem, Nat.reduceAdd, Nat.reduceEqDiff, Nat.reduceLeDiff, Nat.reduceSub, reduceCtorEq, ↓reduceIte, Nat.reduceBEq, Int.reduceLT, Int.reduceLE, Int.reduceEq, Int.reduceBEq, Int.reduceBNe, Nat.reduceLT, Nat.reduceMul, Int.reduceToNat]
          exact joinQ_c () h [some 0] rfl (by simp only [hkhb2, hkhb5, hb11, go_sem, Nat.reduceAdd, Nat.reduceEqDiff, Nat.reduceLeDiff, Nat.reduceSub, reduceCtorEq, ↓reduceIte, Nat.reduceBEq, Int.reduceLT, Int.reduceLE, Int.reduceEq, Int.reduceBEq, Int.reduceBNe, Nat.reduceLT, Nat.reduceMul, Int.reduceToNat, slotsWk, objsWk, objWk, optVOWk, SV.wk, SC.wk, cellsWk, VO.wk, Ptr.wk, ptrsWk, SC.isNl, List.map_append, List.map_cons, List.map_nil, Option.some.injEq, Prod.mk.injEq, SC.d.injEq, D.l.injEq, List.map_set])
      · try dsimp only at h
        rw [hk7] at h
        obtain ⟨v26, hv26, h⟩ := Option.bind_eq_some_iff.1 h
        try simp only [hkhb2, hkhb5, go_sem, Nat.reduceAdd, Nat.reduceEqDiff, Nat.reduceLeDiff, Nat.reduceSub, reduceCtorEq, ↓reduceIte, Nat.reduceBEq, Int.reduceLT, Int.reduceLE, Int.reduceEq, Int.reduceBEq, Int.reduceBNe, Nat.reduceLT, Nat.reduceMul, Int.reduceToNat]
        refine CallV.ro false (reredosref_In_ok G p0.Patience 1 1048576 v26 hv26) rfl ?_
        rintro rs rfl
        refine ⟨.inl rfl, ?_⟩
        rcases of_if h with ⟨hb27, h⟩ | ⟨hb27, h⟩
        · have hkhb27 := not_eq_t hb27
          simp only [Option.some.injEq] at h
          subst h
          try simp only [hkhb2, hkhb5, hb27, hkhb27, go_sem, Nat.reduceAdd, Nat.reduceEqDiff, Nat.reduceLeDiff, Nat.reduceSub, reduceCtorEq, ↓reduceIte, Nat.reduceBEq, Int.reduceLT, Int.reduceLE, Int.reduceEq, Int.reduceBEq, Int.reduceBNe, Nat.reduceLT, Nat.reduceMul, Int.reduceToNat, List.map_append, List.map_cons, List.map_nil, List.map_set]
        · have hkhb27 := not_eq_f hb27
          simp only [Option.some.injEq] at h
          subst h
          try simp only [hkhb2, hkhb5, hb27, hkhb27, go_sem, Nat.reduceAdd, Nat.reduceEqDiff, Nat.reduceLeDiff, Nat.reduceSub, reduceCtorEq, ↓reduceIte, Nat.reduceBEq, Int.reduceLT, Int.reduceLE, Int.reduceEq, Int.reduceBEq, Int.reduceBNe, Nat.reduceLT, Nat.reduceMul, Int.reduceToNat, List.map_append, List.map_cons, List.map_nil, List.map_set]
def reredosref_txnMay (p0 : Config) (p1 : Txn) : Option (Bool) := (withK (fun (b1_1 : Bool) => (some b1_1)) fun k2 => (Option.bind (reredosref_In p1.Site 0 (IntKind.i64.wrap (p0.Sites - 1))) fun v3 => (if v3 = true then (Option.bind (reredosref_In p1.N 1 1048576) fun v5 => (k2 v5)) else (k2 false))))
def F96 : VFn := ⟨16, (.seq (.reg [⟨(some 2), .box 3 (.t 0), none⟩, ⟨(some 3), .box 2 (.t 1), none⟩, ⟨(some 4), .mv (.c (.one (.d (.b false)))), none⟩]) (.seq (.wk (.reg [⟨(some 5), .fa 0 (.t 3), none⟩, ⟨(some 6), .ld false 1 (.t 5), none⟩, ⟨(some 7), .fa 0 (.t 2), none⟩, ⟨(some 8), .ld false 1 (.t 7), none⟩, ⟨(some 9), .bin .i .sub (.t 8) (.c (.one (.d (.i .i64 1)))), none⟩, ⟨(some 10), .call 58 [(.t 6), (.c (.one (.d (.i .i64 0)))), (.t 9)], none⟩, ⟨(some 11), .mv (.t 10), none⟩, ⟨(some 12), .fa 1 (.t 3), (some (11, true))⟩, ⟨(some 13), .ld false 1 (.t 12), (some (11, true))⟩, ⟨(some 14), .call 58 [(.t 13), (.c (.one (.d (.i .i64 1)))), (.c (.one (.d (.i .i64 1048576))))], (some (11, true))⟩, ⟨(some 15), .pick (.t 11) (.t 14) (.c (.one (.d (.b false)))), none⟩, ⟨(some 4), .mv (.t 15), none⟩])) .ret)), [.t 4]⟩
theorem low96 : lowF Tryd.prog 96 = some F96.strip := by kernel_rfl
theorem fok96 : fOk Tryd.prog 96 = true := by kernel_rfl
theorem reredosref_txnMay_ok (G : Nat → Option (List D)) (p0 : Config) (p1 : Txn) (r : Bool) (h : reredosref_txnMay p0 p1 = some r) : FnRO Tryd.prog G 96 [.agg [.d (.i .i64 p0.Sites), .d (.l 2 (p0.Labels.map Label.enc)), .d (.i .i64 p0.Patience)], .agg [.d (.i .i64 p1.Site), .d (.i .i64 p1.N)]] (fun rs => rs = [.one (.b r)]) := by
  refine FnRO.of' low96 fok96 (by simp [F96]) ?_
  rw [reredosref_txnMay] at h
  simp only [F96, go_sem, Nat.reduceAdd, Nat.reduceEqDiff, Nat.reduceLeDiff, Nat.reduceSub, reduceCtorEq, ↓reduceIte, Nat.reduceBEq, Int.reduceLT, Int.reduceLE, Int.reduceEq, Int.reduceBEq, Int.reduceBNe, Nat.reduceLT, Nat.reduceMul, Int.reduceToNat]
  obtain ⟨k2, hk2, h⟩ := withK_lk1 h
  try simp only [go_sem, Nat.reduceAdd, Nat.reduceEqDiff, Nat.reduceLeDiff, Nat.reduceSub, reduceCtorEq, ↓reduceIte, Nat.reduceBEq, Int.reduceLT, Int.reduceLE, Int.reduceEq, Int.reduceBEq, Int.reduceBNe, Nat.reduceLT, Nat.reduceMul, Int.reduceToNat]
  refine join_lk Tryd.prog G _ _ (B := Bool) (fun b => k2 b = some r) (fun b => [(4, .one (.d (.b b)))]) (fun b => []) ?_ (fun b1_1 h => ?_)
  · obtain ⟨v3, hv3, h⟩ := Option.bind_eq_some_iff.1 h
    try simp only [go_sem, Nat.reduceAdd, Nat.reduceEqDiff, Nat.reduceLeDiff, Nat.reduceSub, reduceCtorEq, ↓reduceIte, Nat.reduceBEq, Int.reduceLT, Int.reduceLE, Int.reduceEq, Int.reduceBEq, Int.reduceBNe, Nat.reduceLT, Nat.reduceMul, Int.reduceToNat]
    refine CallV.ro false (reredosref_In_ok G p1.Site 0 (IntKind.i64.wrap (p0.Sites - 1)) v3 hv3) rfl ?_
    rintro rs rfl
    refine ⟨.inl rfl, ?_⟩
    rcases of_if h with ⟨hb4, h⟩ | ⟨hb4, h⟩
    · obtain ⟨v5, hv5, h⟩ := Option.bind_eq_some_iff.1 h
      try simp only [hb4, go_sem, Nat.reduceAdd, Nat.reduceEqDiff, Nat.reduceLeDiff, Nat.reduceSub, reduceCtorEq, ↓reduceIte, Nat.reduceBEq, Int.reduceLT, Int.reduceLE, Int.reduceEq, Int.reduceBEq, Int.reduceBNe, Nat.reduceLT, Nat.reduceMul, Int.reduceToNat]
      refine CallV.ro false (reredosref_In_ok G p1.N 1 1048576 v5 hv5) rfl ?_
      rintro rs rfl
      refine ⟨.inl rfl, ?_⟩
      try simp only [hb4, go_sem, Nat.reduceAdd, Nat.reduceEqDiff, Nat.reduceLeDiff, Nat.reduceSub, reduceCtorEq, ↓reduceIte, Nat.reduceBEq, Int.reduceLT, Int.reduceLE, Int.reduceEq, Int.reduceBEq, Int.reduceBNe, Nat.reduceLT, Nat.reduceMul, Int.reduceToNat]
      exact joinQ_c (v5) h [] rfl (by simp only [hb4, go_sem, Nat.reduceAdd, Nat.reduceEqDiff, Nat.reduceLeDiff, Nat.reduceSub, reduceCtorEq, ↓reduceIte, Nat.reduceBEq, Int.reduceLT, Int.reduceLE, Int.reduceEq, Int.reduceBEq, Int.reduceBNe, Nat.reduceLT, Nat.reduceMul, Int.reduceToNat, slotsWk, objsWk, objWk, optVOWk, SV.wk, SC.wk, cellsWk, VO.wk, Ptr.wk, ptrsWk, SC.isNl, List.map_append, List.map_cons, List.map_nil, Option.some.injEq, Prod.mk.injEq, SC.d.injEq, D.l.injEq, List.map_set])
    · try simp only [hb4, go_sem, Nat.reduceAdd, Nat.reduceEqDiff, Nat.reduceLeDiff, Nat.reduceSub, reduceCtorEq, ↓reduceIte, Nat.reduceBEq, Int.reduceLT, Int.reduceLE, Int.reduceEq, Int.reduceBEq, Int.reduceBNe, Nat.reduceLT, Nat.reduceMul, Int.reduceToNat]
      exact joinQ_c (false) h [] rfl (by simp only [hb4, go_sem, Nat.reduceAdd, Nat.reduceEqDiff, Nat.reduceLeDiff, Nat.reduceSub, reduceCtorEq, ↓reduceIte, Nat.reduceBEq, Int.reduceLT, Int.reduceLE, Int.reduceEq, Int.reduceBEq, Int.reduceBNe, Nat.reduceLT, Nat.reduceMul, Int.reduceToNat, slotsWk, objsWk, objWk, optVOWk, SV.wk, SC.wk, cellsWk, VO.wk, Ptr.wk, ptrsWk, SC.isNl, List.map_append, List.map_cons, List.map_nil, Option.some.injEq, Prod.mk.injEq, SC.d.injEq, D.l.injEq, List.map_set])
  · try dsimp only at h
    rw [hk2] at h
    simp only [Option.some.injEq] at h
    subst h
    try simp only [go_sem, Nat.reduceAdd, Nat.reduceEqDiff, Nat.reduceLeDiff, Nat.reduceSub, reduceCtorEq, ↓reduceIte, Nat.reduceBEq, Int.reduceLT, Int.reduceLE, Int.reduceEq, Int.reduceBEq, Int.reduceBNe, Nat.reduceLT, Nat.reduceMul, Int.reduceToNat, List.map_append, List.map_cons, List.map_nil, List.map_set]
def reredosref_RecordFault_L1 (p0 : Config) (p1 : Record) (k14 : Option (Int)) : Nat → Nat → Option (Int)
  | 0, _ => none
  | n16 + 1, a15_1 => (if (decide (a15_1 < p1.Sites.length)) = true then (Option.bind (p1.Sites[a15_1]?) fun x19 => (Option.bind (reredosref_In x19 0 (IntKind.i64.wrap (p0.Sites - 1))) fun v20 => (if (!v20) = true then (some 2) else (if (decide (((a15_1 : Nat) : Int) > 0)) = true then (if 0 ≤ IntKind.i64.wrap (((a15_1 : Nat) : Int) - 1) then (Option.bind (p1.Sites[(IntKind.i64.wrap (((a15_1 : Nat) : Int) - 1)).toNat]?) fun x23 => (if (decide (x19 ≤ x23)) = true then (some 2) else (reredosref_RecordFault_L1 p0 p1 k14 n16 (a15_1 + 1)))) else none) else (reredosref_RecordFault_L1 p0 p1 k14 n16 (a15_1 + 1)))))) else k14)
def reredosref_RecordFault (p0 : Config) (p1 : Record) : Option (Int) := (Option.bind (reredosref_ConfigFault p0) fun v1 => (if (v1 != 0) = true then (some v1) else (Option.bind (reredosref_In p1.Kind 1 6) fun v3 => (if (!v3) = true then (some 3) else (Option.bind (reredosref_txnMay p0 p1.Txn) fun v5 => (if (!v5) = true then (some 2) else (Option.bind (reredosref_In p1.Key 0 7) fun v7 => (if (!v7) = true then (some 2) else (Option.bind (reredosref_In p1.Value 0 1073741824) fun v9 => (if (!v9) = true then (some 2) else (Option.bind (reredosref_In p1.Ask 0 1048576) fun v11 => (if (!v11) = true then (some 2) else (withK (if (p1.Kind != 1) = true then (if (p1.Key != 0) = true then (some 4) else (if (p1.Value != 0) = true then (some 4) else (if (p1.Ask != 0) = true then (some 4) else (if (p1.Kind != 2) = true then (if (p1.Kind != 6) = true then (if p1.Yes = true then (some 4) else (if (p1.Kind != 3) = true then (if (decide (((p1.Sites.length : Nat) : Int) > 0)) = true then (some 4) else (some 0)) else (some 0))) else (if (p1.Kind != 3) = true then (if (decide (((p1.Sites.length : Nat) : Int) > 0)) = true then (some 4) else (some 0)) else (some 0))) else (if (p1.Kind != 3) = true then (if (decide (((p1.Sites.length : Nat) : Int) > 0)) = true then (some 4) else (some 0)) else (some 0)))))) else (if (p1.Kind != 2) = true then (if (p1.Kind != 6) = true then (if p1.Yes = true then (some 4) else (if (p1.Kind != 3) = true then (if (decide (((p1.Sites.length : Nat) : Int) > 0)) = true then (some 4) else (some 0)) else (some 0))) else (if (p1.Kind != 3) = true then (if (decide (((p1.Sites.length : Nat) : Int) > 0)) = true then (some 4) else (some 0)) else (some 0))) else (if (p1.Kind != 3) = true then (if (decide (((p1.Sites.length : Nat) : Int) > 0)) = true then (some 4) else (some 0)) else (some 0)))) fun k14 => (reredosref_RecordFault_L1 p0 p1 k14 (p1.Sites.length + 1) 0))))))))))))))
def F59 : VFn := ⟨117, (.seq (.reg [⟨(some 2), .box 3 (.t 0), none⟩, ⟨(some 3), .box 8 (.t 1), none⟩, ⟨(some 4), .mv (.c (.one (.d (.i .i64 0)))), none⟩]) (.seq (.reg [⟨(some 7), .ld true 3 (.t 2), none⟩, ⟨(some 8), .call 26 [(.t 7)], none⟩, ⟨(some 5), .mv (.t 8), none⟩]) (.seq (.seq (.reg [⟨(some 9), .mv (.t 5), none⟩, ⟨(some 10), .bin .i .neq (.t 9) (.c (.one (.d (.i .i64 0)))), none⟩]) (.cond (.t 10) (.seq (.reg [⟨(some 11), .mv (.t 5), none⟩, ⟨(some 4), .mv (.t 11), none⟩]) .ret) .skip)) (.seq (.seq (.reg [⟨(some 12), .fa 0 (.t 3), none⟩, ⟨(some 13), .ld false 1 (.t 12), none⟩, ⟨(some 14), .call 58 [(.t 13), (.c (.one (.d (.i .i64 1)))), (.c (.one (.d (.i .i64 6))))], none⟩, ⟨(some 15), .un .not (.t 14), none⟩]) (.cond (.t 15) (.seq (.reg [⟨(some 4), .mv (.c (.one (.d (.i .i64 3)))), none⟩]) .ret) .skip)) (.seq (.seq (.reg [⟨(some 16), .ld true 3 (.t 2), none⟩, ⟨(some 17), .fa 1 (.t 3), none⟩, ⟨(some 18), .ld true 2 (.t 17), none⟩, ⟨(some 19), .call 96 [(.t 16), (.t 18)], none⟩, ⟨(some 20), .un .not (.t 19), none⟩, ⟨(some 21), .mv (.t 20), none⟩, ⟨(some 22), .fa 3 (.t 3), (some (21, false))⟩, ⟨(some 23), .ld false 1 (.t 22), (some (21, false))⟩, ⟨(some 24), .call 58 [(.t 23), (.c (.one (.d (.i .i64 0)))), (.c (.one (.d (.i .i64 7))))], (some (21, false))⟩, ⟨(some 25), .un .not (.t 24), (some (21, false))⟩, ⟨(some 26), .pick (.t 21) (.c (.one (.d (.b true)))) (.t 25), none⟩, ⟨(some 27), .mv (.t 26), none⟩, ⟨(some 28), .fa 4 (.t 3), (some (27, false))⟩, ⟨(some 29), .ld false 1 (.t 28), (some (27, false))⟩, ⟨(some 30), .call 58 [(.t 29), (.c (.one (.d (.i .i64 0)))), (.c (.one (.d (.i .i64 1073741824))))], (some (27, false))⟩, ⟨(some 31), .un .not (.t 30), (some (27, false))⟩, ⟨(some 32), .pick (.t 27) (.c (.one (.d (.b true)))) (.t 31), none⟩, ⟨(some 33), .mv (.t 32), none⟩, ⟨(some 34), .fa 5 (.t 3), (some (33, false))⟩, ⟨(some 35), .ld false 1 (.t 34), (some (33, false))⟩, ⟨(some 36), .call 58 [(.t 35), (.c (.one (.d (.i .i64 0)))), (.c (.one (.d (.i .i64 1048576))))], (some (33, false))⟩, ⟨(some 37), .un .not (.t 36), (some (33, false))⟩, ⟨(some 38), .pick (.t 33) (.c (.one (.d (.b true)))) (.t 37), none⟩]) (.cond (.t 38) (.seq (.reg [⟨(some 4), .mv (.c (.one (.d (.i .i64 2)))), none⟩]) .ret) .skip)) (.seq (.seq (.reg [⟨(some 6), .mv (.c (.one (.d (.i .i64 0)))), none⟩]) (.wk (.block 0 (.loop (.seq (.seq (.reg [⟨(some 39), .mv (.t 6), none⟩, ⟨(some 40), .fa 7 (.t 3), none⟩, ⟨(some 41), .ld false 1 (.t 40), none⟩, ⟨(some 42), .len (.t 41), none⟩, ⟨(some 43), .bin .i .lss (.t 39) (.t 42), none⟩]) (.cond (.t 43) .skip (.exit 0))) (.seq (.block 1 (.seq (.draw [⟨⟨(some 46), .fa 7 (.t 3), none⟩, [], []⟩, ⟨⟨(some 47), .ld false 1 (.t 46), none⟩, [0], []⟩, ⟨⟨(some 48), .mv (.t 6), none⟩, [], []⟩, ⟨⟨(some 49), .ia 1 (.t 47) (.t 48), none⟩, [1, 0, 2], []⟩, ⟨⟨(some 50), .ld false 1 (.t 49), none⟩, [3, 1, 0, 2], []⟩, ⟨⟨(some 51), .fa 0 (.t 2), none⟩, [], []⟩, ⟨⟨(some 52), .ld false 1 (.t 51), none⟩, [5], []⟩, ⟨⟨(some 53), .bin .i .sub (.t 52) (.c (.one (.d (.i .i64 1)))), none⟩, [6, 5], []⟩, ⟨⟨(some 54), .call 58 [(.t 50), (.c (.one (.d (.i .i64 0)))), (.t 53)], none⟩, [4, 3, 1, 0, 2, 7, 6, 5], []⟩, ⟨⟨(some 55), .un .not (.t 54), none⟩, [8, 4, 3, 1, 0, 2, 7, 6, 5], []⟩, ⟨⟨(some 56), .mv (.t 55), none⟩, [9, 8, 4, 3, 1, 0, 2, 7, 6, 5], []⟩, ⟨⟨(some 57), .mv (.t 6), (some (56, false))⟩, [10, 9, 8, 4, 3, 1, 0, 2, 7, 6, 5], []⟩, ⟨⟨(some 58), .bin .i .gtr (.t 57) (.c (.one (.d (.i .i64 0)))), (some (56, false))⟩, [11, 10, 9, 8, 4, 3, 1, 0, 2, 7, 6, 5], []⟩, ⟨⟨(some 59), .mv (.t 58), (some (56, false))⟩, [12, 11, 10, 9, 8, 4, 3, 1, 0, 2, 7, 6, 5], []⟩, ⟨⟨(some 60), .fa 7 (.t 3), (some (59, true))⟩, [13, 12, 11, 10, 9, 8, 4, 3, 1, 0, 2, 7, 6, 5], []⟩, ⟨⟨(some 61), .ld false 1 (.t 60), (some (59, true))⟩, [14, 13, 12, 11, 10, 9, 8, 4, 3, 1, 0, 2, 7, 6, 5], []⟩, ⟨⟨(some 62), .mv (.t 6), (some (59, true))⟩, [13, 12, 11, 10, 9, 8, 4, 3, 1, 0, 2, 7, 6, 5], []⟩, ⟨⟨(some 63), .ia 1 (.t 61) (.t 62), (some (59, true))⟩, [15, 14, 13, 12, 11, 10, 9, 8, 4, 3, 1, 0, 2, 7, 6, 5, 16], []⟩, ⟨⟨(some 64), .ld false 1 (.t 63), (some (59, true))⟩, [17, 15, 14, 13, 12, 11, 10, 9, 8, 4, 3, 1, 0, 2, 7, 6, 5, 16], []⟩, ⟨⟨(some 65), .fa 7 (.t 3), (some (59, true))⟩, [13, 12, 11, 10, 9, 8, 4, 3, 1, 0, 2, 7, 6, 5], []⟩, ⟨⟨(some 66), .ld false 1 (.t 65), (some (59, true))⟩, [19, 13, 12, 11, 10, 9, 8, 4, 3, 1, 0, 2, 7, 6, 5], []⟩, ⟨⟨(some 67), .mv (.t 6), (some (59, true))⟩, [13, 12, 11, 10, 9, 8, 4, 3, 1, 0, 2, 7, 6, 5], []⟩, ⟨⟨(some 68), .bin .i .sub (.t 67) (.c (.one (.d (.i .i64 1)))), (some (59, true))⟩, [21, 13, 12, 11, 10, 9, 8, 4, 3, 1, 0, 2, 7, 6, 5], []⟩, ⟨⟨(some 69), .ia 1 (.t 66) (.t 68), (some (59, true))⟩, [20, 19, 13, 12, 11, 10, 9, 8, 4, 3, 1, 0, 2, 7, 6, 5, 22, 21], []⟩, ⟨⟨(some 70), .ld false 1 (.t 69), (some (59, true))⟩, [23, 20, 19, 13, 12, 11, 10, 9, 8, 4, 3, 1, 0, 2, 7, 6, 5, 22, 21], []⟩, ⟨⟨(some 71), .bin .i .leq (.t 64) (.t 70), (some (59, true))⟩, [18, 17, 15, 14, 13, 12, 11, 10, 9, 8, 4, 3, 1, 0, 2, 7, 6, 5, 16, 24, 23, 20, 19, 22, 21], []⟩, ⟨⟨(some 72), .pick (.t 59) (.t 71) (.c (.one (.d (.b false)))), (some (56, false))⟩, [13, 12, 11, 10, 9, 8, 4, 3, 1, 0, 2, 7, 6, 5, 25, 18, 17, 15, 14, 16, 24, 23, 20, 19, 22, 21], []⟩, ⟨⟨(some 73), .pick (.t 56) (.c (.one (.d (.b true)))) (.t 72), none⟩, [10, 9, 8, 4, 3, 1, 0, 2, 7, 6, 5, 26, 13, 12, 11, 25, 18, 17, 15, 14, 16, 24, 23, 20, 19, 22, 21], []⟩]) (.cond (.t 73) (.seq (.reg [⟨(some 4), .mv (.c (.one (.d (.i .i64 2)))), none⟩]) .ret) .skip))) (.reg [⟨(some 44), .mv (.t 6), none⟩, ⟨(some 45), .bin .i .add (.t 44) (.c (.one (.d (.i .i64 1)))), none⟩, ⟨(some 6), .mv (.t 45), none⟩]))))))) (.seq (.seq (.reg [⟨(some 74), .fa 0 (.t 3), none⟩, ⟨(some 75), .ld false 1 (.t 74), none⟩, ⟨(some 76), .bin .i .neq (.t 75) (.c (.one (.d (.i .i64 1)))), none⟩, ⟨(some 77), .mv (.t 76), none⟩, ⟨(some 78), .fa 3 (.t 3), (some (77, true))⟩, ⟨(some 79), .ld false 1 (.t 78), (some (77, true))⟩, ⟨(some 80), .bin .i .neq (.t 79) (.c (.one (.d (.i .i64 0)))), (some (77, true))⟩, ⟨(some 81), .mv (.t 80), (some (77, true))⟩, ⟨(some 82), .fa 4 (.t 3), (some (81, false))⟩, ⟨(some 83), .ld false 1 (.t 82), (some (81, false))⟩, ⟨(some 84), .bin .i .neq (.t 83) (.c (.one (.d (.i .i64 0)))), (some (81, false))⟩, ⟨(some 85), .pick (.t 81) (.c (.one (.d (.b true)))) (.t 84), (some (77, true))⟩, ⟨(some 86), .mv (.t 85), (some (77, true))⟩, ⟨(some 87), .fa 5 (.t 3), (some (86, false))⟩, ⟨(some 88), .ld false 1 (.t 87), (some (86, false))⟩, ⟨(some 89), .bin .i .neq (.t 88) (.c (.one (.d (.i .i64 0)))), (some (86, false))⟩, ⟨(some 90), .pick (.t 86) (.c (.one (.d (.b true)))) (.t 89), (some (77, true))⟩, ⟨(some 91), .pick (.t 77) (.t 90) (.c (.one (.d (.b false)))), none⟩, ⟨(some 92), .mv (.t 91), none⟩, ⟨(some 93), .fa 0 (.t 3), (some (92, false))⟩, ⟨(some 94), .ld false 1 (.t 93), (some (92, false))⟩, ⟨(some 95), .bin .i .neq (.t 94) (.c (.one (.d (.i .i64 2)))), (some (92, false))⟩, ⟨(some 96), .mv (.t 95), (some (92, false))⟩, ⟨(some 97), .fa 0 (.t 3), (some (96, true))⟩, ⟨(some 98), .ld false 1 (.t 97), (some (96, true))⟩, ⟨(some 99), .bin .i .neq (.t 98) (.c (.one (.d (.i .i64 6)))), (some (96, true))⟩, ⟨(some 100), .pick (.t 96) (.t 99) (.c (.one (.d (.b false)))), (some (92, false))⟩, ⟨(some 101), .mv (.t 100), (some (92, false))⟩, ⟨(some 102), .fa 6 (.t 3), (some (101, true))⟩, ⟨(some 103), .ld false 1 (.t 102), (some (101, true))⟩, ⟨(some 104), .pick (.t 101) (.t 103) (.c (.one (.d (.b false)))), (some (92, false))⟩, ⟨(some 105), .pick (.t 92) (.c (.one (.d (.b true)))) (.t 104), none⟩, ⟨(some 106), .mv (.t 105), none⟩, ⟨(some 107), .fa 0 (.t 3), (some (106, false))⟩, ⟨(some 108), .ld false 1 (.t 107), (some (106, false))⟩, ⟨(some 109), .bin .i .neq (.t 108) (.c (.one (.d (.i .i64 3)))), (some (106, false))⟩, ⟨(some 110), .mv (.t 109), (some (106, false))⟩, ⟨(some 111), .fa 7 (.t 3), (some (110, true))⟩, ⟨(some 112), .ld false 1 (.t 111), (some (110, true))⟩, ⟨(some 113), .len (.t 112), (some (110, true))⟩, ⟨(some 114), .bin .i .gtr (.t 113) (.c (.one (.d (.i .i64 0)))), (some (110, true))⟩, ⟨(some 115), .pick (.t 110) (.t 114) (.c (.one (.d (.b false)))), (some (106, false))⟩, ⟨(some 116), .pick (.t 106) (.c (.one (.d (.b true)))) (.t 115), none⟩]) (.cond (.t 116) (.seq (.reg [⟨(some 4), .mv (.c (.one (.d (.i .i64 4)))), none⟩]) .ret) .skip)) (.seq (.reg [⟨(some 4), .mv (.c (.one (.d (.i .i64 0)))), none⟩]) .ret)))))))), [.t 4]⟩
theorem low59 : lowF Tryd.prog 59 = some F59.strip := by kernel_rfl
theorem fok59 : fOk Tryd.prog 59 = true := by kernel_rfl
theorem reredosref_RecordFault_ok (G : Nat → Option (List D)) (p0 : Config) (p1 : Record) (r : Int) (h : reredosref_RecordFault p0 p1 = some r) : FnRO Tryd.prog G 59 [.agg [.d (.i .i64 p0.Sites), .d (.l 2 (p0.Labels.map Label.enc)), .d (.i .i64 p0.Patience)], .agg [.d (.i .i64 p1.Kind), .d (.i .i64 p1.Txn.Site), .d (.i .i64 p1.Txn.N), .d (.i .i64 p1.Key), .d (.i .i64 p1.Value), .d (.i .i64 p1.Ask), .d (.b p1.Yes), .d (.l 1 (p1.Sites.map encI))]] (fun rs => rs = [.one (.i .i64 r)]) := by
  refine FnRO.of' low59 fok59 (by simp [F59]) ?_
  rw [reredosref_RecordFault] at h
  simp only [F59, go_sem, Nat.reduceAdd, Nat.reduceEqDiff, Nat.reduceLeDiff, Nat.reduceSub, reduceCtorEq, ↓reduceIte, Nat.reduceBEq, Int.reduceLT, Int.reduceLE, Int.reduceEq, Int.reduceBEq, Int.reduceBNe, Nat.reduceLT, Nat.reduceMul, Int.reduceToNat]
  obtain ⟨v1, hv1, h⟩ := Option.bind_eq_some_iff.1 h
  try simp only [go_sem, Nat.reduceAdd, Nat.reduceEqDiff, Nat.reduceLeDiff, Nat.reduceSub, reduceCtorEq, ↓reduceIte, Nat.reduceBEq, Int.reduceLT, Int.reduceLE, Int.reduceEq, Int.reduceBEq, Int.reduceBNe, Nat.reduceLT, Nat.reduceMul, Int.reduceToNat]
  refine CallV.ro false (reredosref_ConfigFault_ok G p0 v1 hv1) rfl ?_
  rintro rs rfl
  refine ⟨.inl rfl, ?_⟩
  rcases of_if h with ⟨hb2, h⟩ | ⟨hb2, h⟩
  · simp only [Option.some.injEq] at h
    subst h
    try simp only [hb2, go_sem, Nat.reduceAdd, Nat.reduceEqDiff, Nat.reduceLeDiff, Nat.reduceSub, reduceCtorEq, ↓reduceIte, Nat.reduceBEq, Int.reduceLT, Int.reduceLE, Int.reduceEq, Int.reduceBEq, Int.reduceBNe, Nat.reduceLT, Nat.reduceMul, Int.reduceToNat, List.map_append, List.map_cons, List.map_nil, List.map_set]
  · obtain ⟨v3, hv3, h⟩ := Option.bind_eq_some_iff.1 h
    try simp only [hb2, go_sem, Nat.reduceAdd, Nat.reduceEqDiff, Nat.reduceLeDiff, Nat.reduceSub, reduceCtorEq, ↓reduceIte, Nat.reduceBEq, Int.reduceLT, Int.reduceLE, Int.reduceEq, Int.reduceBEq, Int.reduceBNe, Nat.reduceLT, Nat.reduceMul, Int.reduceToNat]
    refine CallV.ro false (reredosref_In_ok G p1.Kind 1 6 v3 hv3) rfl ?_
    rintro rs rfl
    refine ⟨.inl rfl, ?_⟩
    rcases of_if h with ⟨hb4, h⟩ | ⟨hb4, h⟩
    · have hkhb4 := not_eq_t hb4
      simp only [Option.some.injEq] at h
      subst h
      try simp only [hb2, hb4, hkhb4, go_sem, Nat.reduceAdd, Nat.reduceEqDiff, Nat.reduceLeDiff, Nat.reduceSub, reduceCtorEq, ↓reduceIte, Nat.reduceBEq, Int.reduceLT, Int.reduceLE, Int.reduceEq, Int.reduceBEq, Int.reduceBNe, Nat.reduceLT, Nat.reduceMul, Int.reduceToNat, List.map_append, List.map_cons, List.map_nil, List.map_set]
    · have hkhb4 := not_eq_f hb4
      obtain ⟨v5, hv5, h⟩ := Option.bind_eq_some_iff.1 h
      try simp only [hb2, hb4, hkhb4, go_sem, Nat.reduceAdd, Nat.reduceEqDiff, Nat.reduceLeDiff, Nat.reduceSub, reduceCtorEq, ↓reduceIte, Nat.reduceBEq, Int.reduceLT, Int.reduceLE, Int.reduceEq, Int.reduceBEq, Int.reduceBNe, Nat.reduceLT, Nat.reduceMul, Int.reduceToNat]
      refine CallV.ro false (reredosref_txnMay_ok G p0 p1.Txn v5 hv5) rfl ?_
      rintro rs rfl
      refine ⟨.inl rfl, ?_⟩
      rcases of_if h with ⟨hb6, h⟩ | ⟨hb6, h⟩
      · have hkhb6 := not_eq_t hb6
        simp only [Option.some.injEq] at h
        subst h
        try simp only [hb2, hb4, hkhb4, hb6, hkhb6, go_sem, Nat.reduceAdd, Nat.reduceEqDiff, Nat.reduceLeDiff, Nat.reduceSub, reduceCtorEq, ↓reduceIte, Nat.reduceBEq, Int.reduceLT, Int.reduceLE, Int.reduceEq, Int.reduceBEq, Int.reduceBNe, Nat.reduceLT, Nat.reduceMul, Int.reduceToNat, List.map_append, List.map_cons, List.map_nil, List.map_set]
      · have hkhb6 := not_eq_f hb6
        obtain ⟨v7, hv7, h⟩ := Option.bind_eq_some_iff.1 h
        try simp only [hb2, hb4, hkhb4, hb6, hkhb6, go_sem, Nat.reduceAdd, Nat.reduceEqDiff, Nat.reduceLeDiff, Nat.reduceSub, reduceCtorEq, ↓reduceIte, Nat.reduceBEq, Int.reduceLT, Int.reduceLE, Int.reduceEq, Int.reduceBEq, Int.reduceBNe, Nat.reduceLT, Nat.reduceMul, Int.reduceToNat]
        refine CallV.ro false (reredosref_In_ok G p1.Key 0 7 v7 hv7) rfl ?_
        rintro rs rfl
        refine ⟨.inl rfl, ?_⟩
        rcases of_if h with ⟨hb8, h⟩ | ⟨hb8, h⟩
        · have hkhb8 := not_eq_t hb8
          simp only [Option.some.injEq] at h
          subst h
          try simp only [hb2, hb4, hkhb4, hb6, hkhb6, hb8, hkhb8, go_sem, Nat.reduceAdd, Nat.reduceEqDiff, Nat.reduceLeDiff, Nat.reduceSub, reduceCtorEq, ↓reduceIte, Nat.reduceBEq, Int.reduceLT, Int.reduceLE, Int.reduceEq, Int.reduceBEq, Int.reduceBNe, Nat.reduceLT, Nat.reduceMul, Int.reduceToNat, List.map_append, List.map_cons, List.map_nil, List.map_set]
        · have hkhb8 := not_eq_f hb8
          obtain ⟨v9, hv9, h⟩ := Option.bind_eq_some_iff.1 h
          try simp only [hb2, hb4, hkhb4, hb6, hkhb6, hb8, hkhb8, go_sem, Nat.reduceAdd, Nat.reduceEqDiff, Nat.reduceLeDiff, Nat.reduceSub, reduceCtorEq, ↓reduceIte, Nat.reduceBEq, Int.reduceLT, Int.reduceLE, Int.reduceEq, Int.reduceBEq, Int.reduceBNe, Nat.reduceLT, Nat.reduceMul, Int.reduceToNat]
          refine CallV.ro false (reredosref_In_ok G p1.Value 0 1073741824 v9 hv9) rfl ?_
          rintro rs rfl
          refine ⟨.inl rfl, ?_⟩
          rcases of_if h with ⟨hb10, h⟩ | ⟨hb10, h⟩
          · have hkhb10 := not_eq_t hb10
            simp only [Option.some.injEq] at h
            subst h
            try simp only [hb2, hb4, hkhb4, hb6, hkhb6, hb8, hkhb8, hb10, hkhb10, go_sem, Nat.reduceAdd, Nat.reduceEqDiff, Nat.reduceLeDiff, Nat.reduceSub, reduceCtorEq, ↓reduceIte, Nat.reduceBEq, Int.reduceLT, Int.reduceLE, Int.reduceEq, Int.reduceBEq, Int.reduceBNe, Nat.reduceLT, Nat.reduceMul, Int.reduceToNat, List.map_append, List.map_cons, List.map_nil, List.map_set]
          · have hkhb10 := not_eq_f hb10
            obtain ⟨v11, hv11, h⟩ := Option.bind_eq_some_iff.1 h
            try simp only [hb2, hb4, hkhb4, hb6, hkhb6, hb8, hkhb8, hb10, hkhb10, go_sem, Nat.reduceAdd, Nat.reduceEqDiff, Nat.reduceLeDiff, Nat.reduceSub, reduceCtorEq, ↓reduceIte, Nat.reduceBEq, Int.reduceLT, Int.reduceLE, Int.reduceEq, Int.reduceBEq, Int.reduceBNe, Nat.reduceLT, Nat.reduceMul, Int.reduceToNat]
            refine CallV.ro false (reredosref_In_ok G p1.Ask 0 1048576 v11 hv11) rfl ?_
            rintro rs rfl
            refine ⟨.inl rfl, ?_⟩
            rcases of_if h with ⟨hb12, h⟩ | ⟨hb12, h⟩
            · have hkhb12 := not_eq_t hb12
              simp only [Option.some.injEq] at h
              subst h
              try simp only [hb2, hb4, hkhb4, hb6, hkhb6, hb8, hkhb8, hb10, hkhb10, hb12, hkhb12, go_sem, Nat.reduceAdd, Nat.reduceEqDiff, Nat.reduceLeDiff, Nat.reduceSub, reduceCtorEq, ↓reduceIte, Nat.reduceBEq, Int.reduceLT, Int.reduceLE, Int.reduceEq, Int.reduceBEq, Int.reduceBNe, Nat.reduceLT, Nat.reduceMul, Int.reduceToNat, List.map_append, List.map_cons, List.map_nil, List.map_set]
            · have hkhb12 := not_eq_f hb12
              obtain ⟨k14, hk14, h⟩ := withK_lk0 h
              try simp only [hb2, hb4, hkhb4, hb6, hkhb6, hb8, hkhb8, hb10, hkhb10, hb12, hkhb12, go_sem, Nat.reduceAdd, Nat.reduceEqDiff, Nat.reduceLeDiff, Nat.reduceSub, reduceCtorEq, ↓reduceIte, Nat.reduceBEq, Int.reduceLT, Int.reduceLE, Int.reduceEq, Int.reduceBEq, Int.reduceBNe, Nat.reduceLT, Nat.reduceMul, Int.reduceToNat]
              refine join_lk Tryd.prog G _ _ (B := Unit) (fun b => k14 = some r) (fun b => [(3, .one (.p (.q 0 0 0)))]) (fun b => [some (.box [.d (.i .i64 p1.Kind), .d (.i .i64 p1.Txn.Site), .d (.i .i64 p1.Txn.N), .d (.i .i64 p1.Key), .d (.i .i64 p1.Value), .d (.i .i64 p1.Ask), .d (.b p1.Yes), .d (.l 1 (p1.Sites.map encI))])]) ?_ (fun b h => ?_)
              · try simp only [hb2, hb4, hkhb4, hb6, hkhb6, hb8, hkhb8, hb10, hkhb10, hb12, hkhb12, go_sem, Nat.reduceAdd, Nat.reduceEqDiff, Nat.reduceLeDiff, Nat.reduceSub, reduceCtorEq, ↓reduceIte, Nat.reduceBEq, Int.reduceLT, Int.reduceLE, Int.reduceEq, Int.reduceBEq, Int.reduceBNe, Nat.reduceLT, Nat.reduceMul, Int.reduceToNat]
                refine loop_lk Tryd.prog G _ _ (A := Nat) (fun n a => reredosref_RecordFault_L1 p0 p1 k14 n a = some r) (fun a => [(2, .one (.p (.q 0 0 0))), (3, .one (.p (.q 1 0 0))), (6, .one (.d (.i .i64 ((a : Nat) : Int))))]) (fun a => [some (.box [.d (.i .i64 p0.Sites), .d (.l 2 (p0.Labels.map Label.enc)), .d (.i .i64 p0.Patience)]), some (.box [.d (.i .i64 p1.Kind), .d (.i .i64 p1.Txn.Site), .d (.i .i64 p1.Txn.N), .d (.i .i64 p1.Key), .d (.i .i64 p1.Value), .d (.i .i64 p1.Ask), .d (.b p1.Yes), .d (.l 1 (p1.Sites.map encI))])]) (p1.Sites.length + 1) (0) h (wk_c _ _ _ [some 0, some 1] rfl (by simp only [hb2, hb4, hkhb4, hb6, hkhb6, hb8, hkhb8, hb10, hkhb10, hb12, hkhb12, go_sem, Nat.reduceAdd, Nat.reduceEqDiff, Nat.reduceLeDiff, Nat.reduceSub, reduceCtorEq, ↓reduceIte, Nat.reduceBEq, Int.reduceLT, Int.reduceLE, Int.reduceEq, Int.reduceBEq, Int.reduceBNe, Nat.reduceLT, Nat.reduceMul, Int.reduceToNat, slotsWk, objsWk, objWk, optVOWk, SV.wk, SC.wk, cellsWk, VO.wk, Ptr.wk, ptrsWk, SC.isNl, List.map_append, List.map_cons, List.map_nil, Option.some.injEq, Prod.mk.injEq, SC.d.injEq, D.l.injEq, List.map_set])) (fun a h => by simp only [reredosref_RecordFault_L1, reduceCtorEq] at h) ?_
                intro n16 a15_1 h
                try dsimp only at h
                rw [reredosref_RecordFault_L1] at h
                try simp only [hkhb4, hkhb6, hkhb8, hkhb10, hkhb12, go_sem, Nat.reduceAdd, Nat.reduceEqDiff, Nat.reduceLeDiff, Nat.reduceSub, reduceCtorEq, ↓reduceIte, Nat.reduceBEq, Int.reduceLT, Int.reduceLE, Int.reduceEq, Int.reduceBEq, Int.reduceBNe, Nat.reduceLT, Nat.reduceMul, Int.reduceToNat]
                intro hl17
                rcases of_if h with ⟨hb18, h⟩ | ⟨hb18, h⟩
                · have hkhb18 := of_decide_eq_true hb18
                  obtain ⟨x19, hx19, h⟩ := Option.bind_eq_some_iff.1 h
                  have hkx19 := (List.getElem?_eq_some_iff.1 hx19).1
                  try simp only [List.length_take, List.length_drop, List.length_append, List.length_set, List.length_map, List.length_cons, List.length_nil, Nat.zero_add] at hkx19
                  obtain ⟨v20, hv20, h⟩ := Option.bind_eq_some_iff.1 h
                  try simp only [hkhb4, hkhb6, hkhb8, hkhb10, hkhb12, hb18, hkhb18, hx19, hkx19, go_sem, Nat.reduceAdd, Nat.reduceEqDiff, Nat.reduceLeDiff, Nat.reduceSub, reduceCtorEq, ↓reduceIte, Nat.reduceBEq, Int.reduceLT, Int.reduceLE, Int.reduceEq, Int.reduceBEq, Int.reduceBNe, Nat.reduceLT, Nat.reduceMul, Int.reduceToNat]
                  refine ⟨_, _, CallD.ro false (reredosref_In_ok G x19 0 (IntKind.i64.wrap (p0.Sites - 1)) v20 hv20) rfl (.inl rfl) rfl, ?_⟩
                  rcases of_if h with ⟨hb21, h⟩ | ⟨hb21, h⟩
                  · have hkhb21 := not_eq_t hb21
                    simp only [Option.some.injEq] at h
                    subst h
                    try simp only [hkhb4, hkhb6, hkhb8, hkhb10, hkhb12, hb18, hkhb18, hx19, hkx19, hb21, hkhb21, go_sem, Nat.reduceAdd, Nat.reduceEqDiff, Nat.reduceLeDiff, Nat.reduceSub, reduceCtorEq, ↓reduceIte, Nat.reduceBEq, Int.reduceLT, Int.reduceLE, Int.reduceEq, Int.reduceBEq, Int.reduceBNe, Nat.reduceLT, Nat.reduceMul, Int.reduceToNat, List.map_append, List.map_cons, List.map_nil, List.map_set]
                  · have hkhb21 := not_eq_f hb21
                    rcases of_if h with ⟨hb22, h⟩ | ⟨hb22, h⟩
                    · obtain ⟨hn24, h⟩ := of_chk h
                      obtain ⟨x23, hx23, h⟩ := Option.bind_eq_some_iff.1 h
                      have hkx23 := (List.getElem?_eq_some_iff.1 hx23).1
                      try simp only [List.length_take, List.length_drop, List.length_append, List.length_set, List.length_map, List.length_cons, List.length_nil, Nat.zero_add] at hkx23
                      have hk2x23 : IntKind.i64.wrap (((a15_1 : Nat) : Int) - 1) < ((p1.Sites.length : Nat) : Int) := by omega
                      rcases of_if h with ⟨hb25, h⟩ | ⟨hb25, h⟩
                      · simp only [Option.some.injEq] at h
                        subst h
                        try simp only [hkhb4, hkhb6, hkhb8, hkhb10, hkhb12, hb18, hkhb18, hx19, hkx19, hb21, hkhb21, hb22, hx23, hkx23, hn24, hk2x23, hb25, go_sem, Nat.reduceAdd, Nat.reduceEqDiff, Nat.reduceLeDiff, Nat.reduceSub, reduceCtorEq, ↓reduceIte, Nat.reduceBEq, Int.reduceLT, Int.reduceLE, Int.reduceEq, Int.reduceBEq, Int.reduceBNe, Nat.reduceLT, Nat.reduceMul, Int.reduceToNat, List.map_append, List.map_cons, List.map_nil, List.map_set]
                      · have hw26 := wrap_succ_max hkx19 hl17
                        try simp only [hkhb4, hkhb6, hkhb8, hkhb10, hkhb12, hb18, hkhb18, hx19, hkx19, hb21, hkhb21, hb22, hx23, hkx23, hn24, hk2x23, hb25, hw26, go_sem, Nat.reduceAdd, Nat.reduceEqDiff, Nat.reduceLeDiff, Nat.reduceSub, reduceCtorEq, ↓reduceIte, Nat.reduceBEq, Int.reduceLT, Int.reduceLE, Int.reduceEq, Int.reduceBEq, Int.reduceBNe, Nat.reduceLT, Nat.reduceMul, Int.reduceToNat]
                        exact loopQ_c (a15_1 + 1) h [some 0, some 1] rfl (by simp only [hkhb4, hkhb6, hkhb8, hkhb10, hkhb12, hb18, hkhb18, hx19, hkx19, hb21, hkhb21, hb22, hx23, hkx23, hn24, hk2x23, hb25, hw26, go_sem, Nat.reduceAdd, Nat.reduceEqDiff, Nat.reduceLeDiff, Nat.reduceSub, reduceCtorEq, ↓reduceIte, Nat.reduceBEq, Int.reduceLT, Int.reduceLE, Int.reduceEq, Int.reduceBEq, Int.reduceBNe, Nat.reduceLT, Nat.reduceMul, Int.reduceToNat, slotsWk, objsWk, objWk, optVOWk, SV.wk, SC.wk, cellsWk, VO.wk, Ptr.wk, ptrsWk, SC.isNl, List.map_append, List.map_cons, List.map_nil, Option.some.injEq, Prod.mk.injEq, SC.d.injEq, D.l.injEq, List.map_set])
                    · have hw27 := wrap_succ_max hkx19 hl17
                      try simp only [hkhb4, hkhb6, hkhb8, hkhb10, hkhb12, hb18, hkhb18, hx19, hkx19, hb21, hkhb21, hb22, hw27, go_sem, Nat.reduceAdd, Nat.reduceEqDiff, Nat.reduceLeDiff, Nat.reduceSub, reduceCtorEq, ↓reduceIte, Nat.reduceBEq, Int.reduceLT, Int.reduceLE, Int.reduceEq, Int.reduceBEq, Int.reduceBNe, Nat.reduceLT, Nat.reduceMul, Int.reduceToNat]
                      exact loopQ_c (a15_1 + 1) h [some 0, some 1] rfl (by simp only [hkhb4, hkhb6, hkhb8, hkhb10, hkhb12, hb18, hkhb18, hx19, hkx19, hb21, hkhb21, hb22, hw27, go_sem, Nat.reduceAdd, Nat.reduceEqDiff, Nat.reduceLeDiff, Nat.reduceSub, reduceCtorEq, ↓reduceIte, Nat.reduceBEq, Int.reduceLT, Int.reduceLE, Int.reduceEq, Int.reduceBEq, Int.reduceBNe, Nat.reduceLT, Nat.reduceMul, Int.reduceToNat, slotsWk, objsWk, objWk, optVOWk, SV.wk, SC.wk, cellsWk, VO.wk, Ptr.wk, ptrsWk, SC.isNl, List.map_append, List.map_cons, List.map_nil, Option.some.injEq, Prod.mk.injEq, SC.d.injEq, D.l.injEq, List.map_set])
                · try simp only [hkhb4, hkhb6, hkhb8, hkhb10, hkhb12, hb18, go_sem, Nat.reduceAdd, Nat.reduceEqDiff, Nat.reduceLeDiff, Nat.reduceSub, reduceCtorEq, ↓reduceIte, Nat.reduceBEq, Int.reduceLT, Int.reduceLE, Int.reduceEq, Int.reduceBEq, Int.reduceBNe, Nat.reduceLT, Nat.reduceMul, Int.reduceToNat]
                  exact joinQ_c () h [some 1] rfl (by simp only [hkhb4, hkhb6, hkhb8, hkhb10, hkhb12, hb18, go_sem, Nat.reduceAdd, Nat.reduceEqDiff, Nat.reduceLeDiff, Nat.reduceSub, reduceCtorEq, ↓reduceIte, Nat.reduceBEq, Int.reduceLT, Int.reduceLE, Int.reduceEq, Int.reduceBEq, Int.reduceBNe, Nat.reduceLT, Nat.reduceMul, Int.reduceToNat, slotsWk, objsWk, objWk, optVOWk, SV.wk, SC.wk, cellsWk, VO.wk, Ptr.wk, ptrsWk, SC.isNl, List.map_append, List.map_cons, List.map_nil, Option.some.injEq, Prod.mk.injEq, SC.d.injEq, D.l.injEq, List.map_set])
              · try dsimp only at h
                rw [hk14] at h
                rcases of_if h with ⟨hb28, h⟩ | ⟨hb28, h⟩
                · rcases of_if h with ⟨hb29, h⟩ | ⟨hb29, h⟩
                  · simp only [Option.some.injEq] at h
                    subst h
                    try simp only [hkhb4, hkhb6, hkhb8, hkhb10, hkhb12, hb28, hb29, go_sem, Nat.reduceAdd, Nat.reduceEqDiff, Nat.reduceLeDiff, Nat.reduceSub, reduceCtorEq, ↓reduceIte, Nat.reduceBEq, Int.reduceLT, Int.reduceLE, Int.reduceEq, Int.reduceBEq, Int.reduceBNe, Nat.reduceLT, Nat.reduceMul, Int.reduceToNat, List.map_append, List.map_cons, List.map_nil, List.map_set]
                  · rcases of_if h with ⟨hb30, h⟩ | ⟨hb30, h⟩
                    · simp only [Option.some.injEq] at h
                      subst h
                      try simp only [hkhb4, hkhb6, hkhb8, hkhb10, hkhb12, hb28, hb29, hb30, go_sem, Nat.reduceAdd, Nat.reduceEqDiff, Nat.reduceLeDiff, Nat.reduceSub, reduceCtorEq, ↓reduceIte, Nat.reduceBEq, Int.reduceLT, Int.reduceLE, Int.reduceEq, Int.reduceBEq, Int.reduceBNe, Nat.reduceLT, Nat.reduceMul, Int.reduceToNat, List.map_append, List.map_cons, List.map_nil, List.map_set]
                    · rcases of_if h with ⟨hb31, h⟩ | ⟨hb31, h⟩
                      · simp only [Option.some.injEq] at h
                        subst h
                        try simp only [hkhb4, hkhb6, hkhb8, hkhb10, hkhb12, hb28, hb29, hb30, hb31, go_sem, Nat.reduceAdd, Nat.reduceEqDiff, Nat.reduceLeDiff, Nat.reduceSub, reduceCtorEq, ↓reduceIte, Nat.reduceBEq, Int.reduceLT, Int.reduceLE, Int.reduceEq, Int.reduceBEq, Int.reduceBNe, Nat.reduceLT, Nat.reduceMul, Int.reduceToNat, List.map_append, List.map_cons, List.map_nil, List.map_set]
                      · rcases of_if h with ⟨hb32, h⟩ | ⟨hb32, h⟩
                        · rcases of_if h with ⟨hb33, h⟩ | ⟨hb33, h⟩
                          · rcases of_if h with ⟨hb34, h⟩ | ⟨hb34, h⟩
                            · simp only [Option.some.injEq] at h
                              subst h
                              try simp only [hkhb4, hkhb6, hkhb8, hkhb10, hkhb12, hb28, hb29, hb30, hb31, hb32, hb33, hb34, go_sem, Nat.reduceAdd, Nat.reduceEqDiff, Nat.reduceLeDiff, Nat.reduceSub, reduceCtorEq, ↓reduceIte, Nat.reduceBEq, Int.reduceLT, Int.reduceLE, Int.reduceEq, Int.reduceBEq, Int.reduceBNe, Nat.reduceLT, Nat.reduceMul, Int.reduceToNat, List.map_append, List.map_cons, List.map_nil, List.map_set]
                            · rcases of_if h with ⟨hb35, h⟩ | ⟨hb35, h⟩
                              · try simp only [hkhb4, hkhb6, hkhb8, hkhb10, hkhb12, hb28, hb29, hb30, hb31, hb32, hb33, hb34, hb35, go_sem, Nat.reduceAdd, Nat.reduceEqDiff, Nat.reduceLeDiff, Nat.reduceSub, reduceCtorEq, ↓reduceIte, Nat.reduceBEq, Int.reduceLT, Int.reduceLE, Int.reduceEq, Int.reduceBEq, Int.reduceBNe, Nat.reduceLT, Nat.reduceMul, Int.reduceToNat]
                                intro hl36
                                rcases of_if h with ⟨hb37, h⟩ | ⟨hb37, h⟩
                                · simp only [Option.some.injEq] at h
                                  subst h
                                  try simp only [hkhb4, hkhb6, hkhb8, hkhb10, hkhb12, hb28, hb29, hb30, hb31, hb32, hb33, hb34, hb35, hb37, go_sem, Nat.reduceAdd, Nat.reduceEqDiff, Nat.reduceLeDiff, Nat.reduceSub, reduceCtorEq, ↓reduceIte, Nat.reduceBEq, Int.reduceLT, Int.reduceLE, Int.reduceEq, Int.reduceBEq, Int.reduceBNe, Nat.reduceLT, Nat.reduceMul, Int.reduceToNat, List.map_append, List.map_cons, List.map_nil, List.map_set]
                                · simp only [Option.some.injEq] at h
                                  subst h
                                  try simp only [hkhb4, hkhb6, hkhb8, hkhb10, hkhb12, hb28, hb29, hb30, hb31, hb32, hb33, hb34, hb35, hb37, go_sem, Nat.reduceAdd, Nat.reduceEqDiff, Nat.reduceLeDiff, Nat.reduceSub, reduceCtorEq, ↓reduceIte, Nat.reduceBEq, Int.reduceLT, Int.reduceLE, Int.reduceEq, Int.reduceBEq, Int.reduceBNe, Nat.reduceLT, Nat.reduceMul, Int.reduceToNat, List.map_append, List.map_cons, List.map_nil, List.map_set]
                              · simp only [Option.some.injEq] at h
                                subst h
                                try simp only [hkhb4, hkhb6, hkhb8, hkhb10, hkhb12, hb28, hb29, hb30, hb31, hb32, hb33, hb34, hb35, go_sem, Nat.reduceAdd, Nat.reduceEqDiff, Nat.reduceLeDiff, Nat.reduceSub, reduceCtorEq, ↓reduceIte, Nat.reduceBEq, Int.reduceLT, Int.reduceLE, Int.reduceEq, Int.reduceBEq, Int.reduceBNe, Nat.reduceLT, Nat.reduceMul, Int.reduceToNat, List.map_append, List.map_cons, List.map_nil, List.map_set]
                          · rcases of_if h with ⟨hb38, h⟩ | ⟨hb38, h⟩
                            · try simp only [hkhb4, hkhb6, hkhb8, hkhb10, hkhb12, hb28, hb29, hb30, hb31, hb32, hb33, hb38, go_sem, Nat.reduceAdd, Nat.reduceEqDiff, Nat.reduceLeDiff, Nat.reduceSub, reduceCtorEq, ↓reduceIte, Nat.reduceBEq, Int.reduceLT, Int.reduceLE, Int.reduceEq, Int.reduceBEq, Int.reduceBNe, Nat.reduceLT, Nat.reduceMul, Int.reduceToNat]
                              intro hl39
                              rcases of_if h with ⟨hb40, h⟩ | ⟨hb40, h⟩
                              · simp only [Option.some.injEq] at h
                                subst h
                                try simp only [hkhb4, hkhb6, hkhb8, hkhb10, hkhb12, hb28, hb29, hb30, hb31, hb32, hb33, hb38, hb40, go_sem, Nat.reduceAdd, Nat.reduceEqDiff, Nat.reduceLeDiff, Nat.reduceSub, reduceCtorEq, ↓reduceIte, Nat.reduceBEq, Int.reduceLT, Int.reduceLE, Int.reduceEq, Int.reduceBEq, Int.reduceBNe, Nat.reduceLT, Nat.reduceMul, Int.reduceToNat, List.map_append, List.map_cons, List.map_nil, List.map_set]
                              · simp only [Option.some.injEq] at h
                                subst h
                                try simp only [hkhb4, hkhb6, hkhb8, hkhb10, hkhb12, hb28, hb29, hb30, hb31, hb32, hb33, hb38, hb40, go_sem, Nat.reduceAdd, Nat.reduceEqDiff, Nat.reduceLeDiff, Nat.reduceSub, reduceCtorEq, ↓reduceIte, Nat.reduceBEq, Int.reduceLT, Int.reduceLE, Int.reduceEq, Int.reduceBEq, Int.reduceBNe, Nat.reduceLT, Nat.reduceMul, Int.reduceToNat, List.map_append, List.map_cons, List.map_nil, List.map_set]
                            · simp only [Option.some.injEq] at h
                              subst h
                              try simp only [hkhb4, hkhb6, hkhb8, hkhb10, hkhb12, hb28, hb29, hb30, hb31, hb32, hb33, hb38, go_sem, Nat.reduceAdd, Nat.reduceEqDiff, Nat.reduceLeDiff, Nat.reduceSub, reduceCtorEq, ↓reduceIte, Nat.reduceBEq, Int.reduceLT, Int.reduceLE, Int.reduceEq, Int.reduceBEq, Int.reduceBNe, Nat.reduceLT, Nat.reduceMul, Int.reduceToNat, List.map_append, List.map_cons, List.map_nil, List.map_set]
                        · rcases of_if h with ⟨hb41, h⟩ | ⟨hb41, h⟩
                          · try simp only [hkhb4, hkhb6, hkhb8, hkhb10, hkhb12, hb28, hb29, hb30, hb31, hb32, hb41, go_sem, Nat.reduceAdd, Nat.reduceEqDiff, Nat.reduceLeDiff, Nat.reduceSub, reduceCtorEq, ↓reduceIte, Nat.reduceBEq, Int.reduceLT, Int.reduceLE, Int.reduceEq, Int.reduceBEq, Int.reduceBNe, Nat.reduceLT, Nat.reduceMul, Int.reduceToNat]
                            intro hl42
                            rcases of_if h with ⟨hb43, h⟩ | ⟨hb43, h⟩
                            · simp only [Option.some.injEq] at h
                              subst h
                              try simp only [hkhb4, hkhb6, hkhb8, hkhb10, hkhb12, hb28, hb29, hb30, hb31, hb32, hb41, hb43, go_sem, Nat.reduceAdd, Nat.reduceEqDiff, Nat.reduceLeDiff, Nat.reduceSub, reduceCtorEq, ↓reduceIte, Nat.reduceBEq, Int.reduceLT, Int.reduceLE, Int.reduceEq, Int.reduceBEq, Int.reduceBNe, Nat.reduceLT, Nat.reduceMul, Int.reduceToNat, List.map_append, List.map_cons, List.map_nil, List.map_set]
                            · simp only [Option.some.injEq] at h
                              subst h
                              try simp only [hkhb4, hkhb6, hkhb8, hkhb10, hkhb12, hb28, hb29, hb30, hb31, hb32, hb41, hb43, go_sem, Nat.reduceAdd, Nat.reduceEqDiff, Nat.reduceLeDiff, Nat.reduceSub, reduceCtorEq, ↓reduceIte, Nat.reduceBEq, Int.reduceLT, Int.reduceLE, Int.reduceEq, Int.reduceBEq, Int.reduceBNe, Nat.reduceLT, Nat.reduceMul, Int.reduceToNat, List.map_append, List.map_cons, List.map_nil, List.map_set]
                          · simp only [Option.some.injEq] at h
                            subst h
                            try simp only [hkhb4, hkhb6, hkhb8, hkhb10, hkhb12, hb28, hb29, hb30, hb31, hb32, hb41, go_sem, Nat.reduceAdd, Nat.reduceEqDiff, Nat.reduceLeDiff, Nat.reduceSub, reduceCtorEq, ↓reduceIte, Nat.reduceBEq, Int.reduceLT, Int.reduceLE, Int.reduceEq, Int.reduceBEq, Int.reduceBNe, Nat.reduceLT, Nat.reduceMul, Int.reduceToNat, List.map_append, List.map_cons, List.map_nil, List.map_set]
                · rcases of_if h with ⟨hb44, h⟩ | ⟨hb44, h⟩
                  · rcases of_if h with ⟨hb45, h⟩ | ⟨hb45, h⟩
                    · rcases of_if h with ⟨hb46, h⟩ | ⟨hb46, h⟩
                      · simp only [Option.some.injEq] at h
                        subst h
                        try simp only [hkhb4, hkhb6, hkhb8, hkhb10, hkhb12, hb28, hb44, hb45, hb46, go_sem, Nat.reduceAdd, Nat.reduceEqDiff, Nat.reduceLeDiff, Nat.reduceSub, reduceCtorEq, ↓reduceIte, Nat.reduceBEq, Int.reduceLT, Int.reduceLE, Int.reduceEq, Int.reduceBEq, Int.reduceBNe, Nat.reduceLT, Nat.reduceMul, Int.reduceToNat, List.map_append, List.map_cons, List.map_nil, List.map_set]
                      · rcases of_if h with ⟨hb47, h⟩ | ⟨hb47, h⟩
                        · try simp only [hkhb4, hkhb6, hkhb8, hkhb10, hkhb12, hb28, hb44, hb45, hb46, hb47, go_sem, Nat.reduceAdd, Nat.reduceEqDiff, Nat.reduceLeDiff, Nat.reduceSub, reduceCtorEq, ↓reduceIte, Nat.reduceBEq, Int.reduceLT, Int.reduceLE, Int.reduceEq, Int.reduceBEq, Int.reduceBNe, Nat.reduceLT, Nat.reduceMul, Int.reduceToNat]
                          intro hl48
                          rcases of_if h with ⟨hb49, h⟩ | ⟨hb49, h⟩
                          · simp only [Option.some.injEq] at h
                            subst h
                            try simp only [hkhb4, hkhb6, hkhb8, hkhb10, hkhb12, hb28, hb44, hb45, hb46, hb47, hb49, go_sem, Nat.reduceAdd, Nat.reduceEqDiff, Nat.reduceLeDiff, Nat.reduceSub, reduceCtorEq, ↓reduceIte, Nat.reduceBEq, Int.reduceLT, Int.reduceLE, Int.reduceEq, Int.reduceBEq, Int.reduceBNe, Nat.reduceLT, Nat.reduceMul, Int.reduceToNat, List.map_append, List.map_cons, List.map_nil, List.map_set]
                          · simp only [Option.some.injEq] at h
                            subst h
                            try simp only [hkhb4, hkhb6, hkhb8, hkhb10, hkhb12, hb28, hb44, hb45, hb46, hb47, hb49, go_sem, Nat.reduceAdd, Nat.reduceEqDiff, Nat.reduceLeDiff, Nat.reduceSub, reduceCtorEq, ↓reduceIte, Nat.reduceBEq, Int.reduceLT, Int.reduceLE, Int.reduceEq, Int.reduceBEq, Int.reduceBNe, Nat.reduceLT, Nat.reduceMul, Int.reduceToNat, List.map_append, List.map_cons, List.map_nil, List.map_set]
                        · simp only [Option.some.injEq] at h
                          subst h
                          try simp only [hkhb4, hkhb6, hkhb8, hkhb10, hkhb12, hb28, hb44, hb45, hb46, hb47, go_sem, Nat.reduceAdd, Nat.reduceEqDiff, Nat.reduceLeDiff, Nat.reduceSub, reduceCtorEq, ↓reduceIte, Nat.reduceBEq, Int.reduceLT, Int.reduceLE, Int.reduceEq, Int.reduceBEq, Int.reduceBNe, Nat.reduceLT, Nat.reduceMul, Int.reduceToNat, List.map_append, List.map_cons, List.map_nil, List.map_set]
                    · rcases of_if h with ⟨hb50, h⟩ | ⟨hb50, h⟩
                      · try simp only [hkhb4, hkhb6, hkhb8, hkhb10, hkhb12, hb28, hb44, hb45, hb50, go_sem, Nat.reduceAdd, Nat.reduceEqDiff, Nat.reduceLeDiff, Nat.reduceSub, reduceCtorEq, ↓reduceIte, Nat.reduceBEq, Int.reduceLT, Int.reduceLE, Int.reduceEq, Int.reduceBEq, Int.reduceBNe, Nat.reduceLT, Nat.reduceMul, Int.reduceToNat]
                        intro hl51
                        rcases of_if h with ⟨hb52, h⟩ | ⟨hb52, h⟩
                        · simp only [Option.some.injEq] at h
                          subst h
                          try simp only [hkhb4, hkhb6, hkhb8, hkhb10, hkhb12, hb28, hb44, hb45, hb50, hb52, go_sem, Nat.reduceAdd, Nat.reduceEqDiff, Nat.reduceLeDiff, Nat.reduceSub, reduceCtorEq, ↓reduceIte, Nat.reduceBEq, Int.reduceLT, Int.reduceLE, Int.reduceEq, Int.reduceBEq, Int.reduceBNe, Nat.reduceLT, Nat.reduceMul, Int.reduceToNat, List.map_append, List.map_cons, List.map_nil, List.map_set]
                        · simp only [Option.some.injEq] at h
                          subst h
                          try simp only [hkhb4, hkhb6, hkhb8, hkhb10, hkhb12, hb28, hb44, hb45, hb50, hb52, go_sem, Nat.reduceAdd, Nat.reduceEqDiff, Nat.reduceLeDiff, Nat.reduceSub, reduceCtorEq, ↓reduceIte, Nat.reduceBEq, Int.reduceLT, Int.reduceLE, Int.reduceEq, Int.reduceBEq, Int.reduceBNe, Nat.reduceLT, Nat.reduceMul, Int.reduceToNat, List.map_append, List.map_cons, List.map_nil, List.map_set]
                      · simp only [Option.some.injEq] at h
                        subst h
                        try simp only [hkhb4, hkhb6, hkhb8, hkhb10, hkhb12, hb28, hb44, hb45, hb50, go_sem, Nat.reduceAdd, Nat.reduceEqDiff, Nat.reduceLeDiff, Nat.reduceSub, reduceCtorEq, ↓reduceIte, Nat.reduceBEq, Int.reduceLT, Int.reduceLE, Int.reduceEq, Int.reduceBEq, Int.reduceBNe, Nat.reduceLT, Nat.reduceMul, Int.reduceToNat, List.map_append, List.map_cons, List.map_nil, List.map_set]
                  · rcases of_if h with ⟨hb53, h⟩ | ⟨hb53, h⟩
                    · try simp only [hkhb4, hkhb6, hkhb8, hkhb10, hkhb12, hb28, hb44, hb53, go_sem, Nat.reduceAdd, Nat.reduceEqDiff, Nat.reduceLeDiff, Nat.reduceSub, reduceCtorEq, ↓reduceIte, Nat.reduceBEq, Int.reduceLT, Int.reduceLE, Int.reduceEq, Int.reduceBEq, Int.reduceBNe, Nat.reduceLT, Nat.reduceMul, Int.reduceToNat]
                      intro hl54
                      rcases of_if h with ⟨hb55, h⟩ | ⟨hb55, h⟩
                      · simp only [Option.some.injEq] at h
                        subst h
                        try simp only [hkhb4, hkhb6, hkhb8, hkhb10, hkhb12, hb28, hb44, hb53, hb55, go_sem, Nat.reduceAdd, Nat.reduceEqDiff, Nat.reduceLeDiff, Nat.reduceSub, reduceCtorEq, ↓reduceIte, Nat.reduceBEq, Int.reduceLT, Int.reduceLE, Int.reduceEq, Int.reduceBEq, Int.reduceBNe, Nat.reduceLT, Nat.reduceMul, Int.reduceToNat, List.map_append, List.map_cons, List.map_nil, List.map_set]
                      · simp only [Option.some.injEq] at h
                        subst h
                        try simp only [hkhb4, hkhb6, hkhb8, hkhb10, hkhb12, hb28, hb44, hb53, hb55, go_sem, Nat.reduceAdd, Nat.reduceEqDiff, Nat.reduceLeDiff, Nat.reduceSub, reduceCtorEq, ↓reduceIte, Nat.reduceBEq, Int.reduceLT, Int.reduceLE, Int.reduceEq, Int.reduceBEq, Int.reduceBNe, Nat.reduceLT, Nat.reduceMul, Int.reduceToNat, List.map_append, List.map_cons, List.map_nil, List.map_set]
                    · simp only [Option.some.injEq] at h
                      subst h
                      try simp only [hkhb4, hkhb6, hkhb8, hkhb10, hkhb12, hb28, hb44, hb53, go_sem, Nat.reduceAdd, Nat.reduceEqDiff, Nat.reduceLeDiff, Nat.reduceSub, reduceCtorEq, ↓reduceIte, Nat.reduceBEq, Int.reduceLT, Int.reduceLE, Int.reduceEq, Int.reduceBEq, Int.reduceBNe, Nat.reduceLT, Nat.reduceMul, Int.reduceToNat, List.map_append, List.map_cons, List.map_nil, List.map_set]
end Go.V.Dec
