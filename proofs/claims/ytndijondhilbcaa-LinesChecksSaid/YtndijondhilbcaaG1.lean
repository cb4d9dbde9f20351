/- What Go's functions come to, as plain functions: part 1; no condition. -/
import Derived.Test.YtndijondhilbcaaRows
import Derived.Test.YtndijondhilbcaaVC
set_option linter.unusedVariables false
set_option linter.unusedSimpArgs false
namespace Go.V.Dec
open Go Go.Proofs
set_option maxRecDepth 100000
set_option maxHeartbeats 4000000
structure Label where
  Level : Int
  Cats : Int
  deriving Inhabited
def Label.enc (x : Label) : List D := [.i .i64 x.Level, .i .i64 x.Cats]
def Label.encO (x : Label) : List D := [.i .i64 x.Level, .i .i64 x.Cats]
structure Config where
  Sites : Int
  Labels : List Label
  Patience : Int
  deriving Inhabited
def Config.enc (x : Config) : List D := [.i .i64 x.Sites, .l 2 (x.Labels.map Label.enc), .i .i64 x.Patience]
def Config.encO (x : Config) : List D := [.i .i64 x.Sites, .o 2 (x.Labels.map Label.enc), .i .i64 x.Patience]
structure Call where
  Kind : Int
  N : Int
  Label : Int
  Key : Int
  Value : Int
  deriving Inhabited
def Call.enc (x : Call) : List D := [.i .i64 x.Kind, .i .i64 x.N, .i .i64 x.Label, .i .i64 x.Key, .i .i64 x.Value]
def Call.encO (x : Call) : List D := [.i .i64 x.Kind, .i .i64 x.N, .i .i64 x.Label, .i .i64 x.Key, .i .i64 x.Value]
structure Act where
  Kind : Int
  Site : Int
  To : Int
  Label : Int
  Pick : Int
  Keep : List Int
  Call : Call
  Line : ByteArray
  deriving Inhabited
def Act.enc (x : Act) : List D := [.i .i64 x.Kind, .i .i64 x.Site, .i .i64 x.To, .i .i64 x.Label, .i .i64 x.Pick, .l 1 (x.Keep.map encI), .i .i64 x.Call.Kind, .i .i64 x.Call.N, .i .i64 x.Call.Label, .i .i64 x.Call.Key, .i .i64 x.Call.Value, .s x.Line]
def Act.encO (x : Act) : List D := [.i .i64 x.Kind, .i .i64 x.Site, .i .i64 x.To, .i .i64 x.Label, .i .i64 x.Pick, .o 1 (x.Keep.map encI), .i .i64 x.Call.Kind, .i .i64 x.Call.N, .i .i64 x.Call.Label, .i .i64 x.Call.Key, .i .i64 x.Call.Value, .s x.Line]
attribute [go_sem] encI Label.enc Label.encO Config.enc Config.encO Call.enc Call.encO Act.enc Act.encO
def label_one (p0 : Label) : Option (Bool) := (withK (fun (b1_1 : Bool) => (some b1_1)) fun k2 => (if (decide (p0.Level ≥ 0)) = true then (if (decide (p0.Level ≤ 9)) = true then (if (decide (p0.Cats ≥ 0)) = true then (k2 (decide (p0.Cats ≤ 15))) else (k2 false)) else (k2 false)) else (k2 false)))
def F49 : VFn := ⟨21, (.seq (.reg [⟨(some 1), .box 2 (.t 0), none⟩, ⟨(some 2), .mv (.c (.one (.d (.b false)))), none⟩]) (.seq (.wk (.reg [⟨(some 3), .fa 0 (.t 1), none⟩, ⟨(some 4), .ld false 1 (.t 3), none⟩, ⟨(some 5), .bin .i .geq (.t 4) (.c (.one (.d (.i .i64 0)))), none⟩, ⟨(some 6), .mv (.t 5), none⟩, ⟨(some 7), .fa 0 (.t 1), (some (6, true))⟩, ⟨(some 8), .ld false 1 (.t 7), (some (6, true))⟩, ⟨(some 9), .bin .i .leq (.t 8) (.c (.one (.d (.i .i64 9)))), (some (6, true))⟩, ⟨(some 10), .pick (.t 6) (.t 9) (.c (.one (.d (.b false)))), none⟩, ⟨(some 11), .mv (.t 10), none⟩, ⟨(some 12), .fa 1 (.t 1), (some (11, true))⟩, ⟨(some 13), .ld false 1 (.t 12), (some (11, true))⟩, ⟨(some 14), .bin .i .geq (.t 13) (.c (.one (.d (.i .i64 0)))), (some (11, true))⟩, ⟨(some 15), .pick (.t 11) (.t 14) (.c (.one (.d (.b false)))), none⟩, ⟨(some 16), .mv (.t 15), none⟩, ⟨(some 17), .fa 1 (.t 1), (some (16, true))⟩, ⟨(some 18), .ld false 1 (.t 17), (some (16, true))⟩, ⟨(some 19), .bin .i .leq (.t 18) (.c (.one (.d (.i .i64 15)))), (some (16, true))⟩, ⟨(some 20), .pick (.t 16) (.t 19) (.c (.one (.d (.b false)))), none⟩, ⟨(some 2), .mv (.t 20), none⟩])) .ret)), [.t 2]⟩
theorem low49 : lowF Try.prog 49 = some F49.strip := by kernel_rfl
theorem fok49 : fOk Try.prog 49 = true := by kernel_rfl
theorem label_one_ok (G : Nat → Option (List D)) (p0 : Label) (r : Bool) (h : label_one p0 = some r) : FnRO Try.prog G 49 [.agg [.d (.i .i64 p0.Level), .d (.i .i64 p0.Cats)]] (fun rs => rs = [.one (.b r)]) := by
  refine FnRO.of' low49 fok49 (by simp [F49]) ?_
  rw [label_one] at h
  simp only [F49, go_sem, Nat.reduceAdd, Nat.reduceEqDiff, Nat.reduceLeDiff, Nat.reduceSub, reduceCtorEq, ↓reduceIte, Nat.reduceBEq, Int.reduceLT, Int.reduceLE, Int.reduceEq, Int.reduceBEq, Int.reduceBNe, Nat.reduceLT, Nat.reduceMul]
  obtain ⟨k2, hk2, h⟩ := withK_lk1 h
  try simp only [go_sem, Nat.reduceAdd, Nat.reduceEqDiff, Nat.reduceLeDiff, Nat.reduceSub, reduceCtorEq, ↓reduceIte, Nat.reduceBEq, Int.reduceLT, Int.reduceLE, Int.reduceEq, Int.reduceBEq, Int.reduceBNe, Nat.reduceLT, Nat.reduceMul]
  refine join_lk Try.prog G _ _ (B := Bool) (fun b => k2 b = some r) (fun b => [(2, .one (.d (.b b)))]) (fun b => []) ?_ (fun b1_1 h => ?_)
  · rcases of_if h with ⟨hb3, h⟩ | ⟨hb3, h⟩
    · rcases of_if h with ⟨hb4, h⟩ | ⟨hb4, h⟩
      · rcases of_if h with ⟨hb5, h⟩ | ⟨hb5, h⟩
        · try simp only [hb3, hb4, hb5, go_sem, Nat.reduceAdd, Nat.reduceEqDiff, Nat.reduceLeDiff, Nat.reduceSub, reduceCtorEq, ↓reduceIte, Nat.reduceBEq, Int.reduceLT, Int.reduceLE, Int.reduceEq, Int.reduceBEq, Int.reduceBNe, Nat.reduceLT, Nat.reduceMul]
          exact joinQ_i (decide (p0.Cats ≤ 15)) h [] rfl (by simp only [hb3, hb4, hb5, go_sem, Nat.reduceAdd, Nat.reduceEqDiff, Nat.reduceLeDiff, Nat.reduceSub, reduceCtorEq, ↓reduceIte, Nat.reduceBEq, Int.reduceLT, Int.reduceLE, Int.reduceEq, Int.reduceBEq, Int.reduceBNe, Nat.reduceLT, Nat.reduceMul, slotsWk, objsWk, objWk, optVOWk, SV.wk, SC.wk, cellsWk, VO.wk, Ptr.wk, ptrsWk, SC.isNl, List.map_append, List.map_cons, List.map_nil, Option.some.injEq, Prod.mk.injEq, SC.d.injEq, D.l.injEq, List.map_set]) (by simp only [hb3, hb4, hb5, go_sem, Nat.reduceAdd, Nat.reduceEqDiff, Nat.reduceLeDiff, Nat.reduceSub, reduceCtorEq, ↓reduceIte, Nat.reduceBEq, Int.reduceLT, Int.reduceLE, Int.reduceEq, Int.reduceBEq, Int.reduceBNe, Nat.reduceLT, Nat.reduceMul, slotsWk, objsWk, objWk, optVOWk, SV.wk, SC.wk, cellsWk, VO.wk, Ptr.wk, ptrsWk, SC.isNl, List.map_append, List.map_cons, List.map_nil, Option.some.injEq, Prod.mk.injEq, SC.d.injEq, D.l.injEq, List.map_set])
        · try simp only [hb3, hb4, hb5, go_sem, Nat.reduceAdd, Nat.reduceEqDiff, Nat.reduceLeDiff, Nat.reduceSub, reduceCtorEq, ↓reduceIte, Nat.reduceBEq, Int.reduceLT, Int.reduceLE, Int.reduceEq, Int.reduceBEq, Int.reduceBNe, Nat.reduceLT, Nat.reduceMul]
          exact joinQ_i (false) h [] rfl (by simp only [hb3, hb4, hb5, go_sem, Nat.reduceAdd, Nat.reduceEqDiff, Nat.reduceLeDiff, Nat.reduceSub, reduceCtorEq, ↓reduceIte, Nat.reduceBEq, Int.reduceLT, Int.reduceLE, Int.reduceEq, Int.reduceBEq, Int.reduceBNe, Nat.reduceLT, Nat.reduceMul, slotsWk, objsWk, objWk, optVOWk, SV.wk, SC.wk, cellsWk, VO.wk, Ptr.wk, ptrsWk, SC.isNl, List.map_append, List.map_cons, List.map_nil, Option.some.injEq, Prod.mk.injEq, SC.d.injEq, D.l.injEq, List.map_set]) (by simp only [hb3, hb4, hb5, go_sem, Nat.reduceAdd, Nat.reduceEqDiff, Nat.reduceLeDiff, Nat.reduceSub, reduceCtorEq, ↓reduceIte, Nat.reduceBEq, Int.reduceLT, Int.reduceLE, Int.reduceEq, Int.reduceBEq, Int.reduceBNe, Nat.reduceLT, Nat.reduceMul, slotsWk, objsWk, objWk, optVOWk, SV.wk, SC.wk, cellsWk, VO.wk, Ptr.wk, ptrsWk, SC.isNl, List.map_append, List.map_cons, List.map_nil, Option.some.injEq, Prod.mk.injEq, SC.d.injEq, D.l.injEq, List.map_set])
      · try simp only [hb3, hb4, go_sem, Nat.reduceAdd, Nat.reduceEqDiff, Nat.reduceLeDiff, Nat.reduceSub, reduceCtorEq, ↓reduceIte, Nat.reduceBEq, Int.reduceLT, Int.reduceLE, Int.reduceEq, Int.reduceBEq, Int.reduceBNe, Nat.reduceLT, Nat.reduceMul]
        exact joinQ_i (false) h [] rfl (by simp only [hb3, hb4, go_sem, Nat.reduceAdd, Nat.reduceEqDiff, Nat.reduceLeDiff, Nat.reduceSub, reduceCtorEq, ↓reduceIte, Nat.reduceBEq, Int.reduceLT, Int.reduceLE, Int.reduceEq, Int.reduceBEq, Int.reduceBNe, Nat.reduceLT, Nat.reduceMul, slotsWk, objsWk, objWk, optVOWk, SV.wk, SC.wk, cellsWk, VO.wk, Ptr.wk, ptrsWk, SC.isNl, List.map_append, List.map_cons, List.map_nil, Option.some.injEq, Prod.mk.injEq, SC.d.injEq, D.l.injEq, List.map_set]) (by simp only [hb3, hb4, go_sem, Nat.reduceAdd, Nat.reduceEqDiff, Nat.reduceLeDiff, Nat.reduceSub, reduceCtorEq, ↓reduceIte, Nat.reduceBEq, Int.reduceLT, Int.reduceLE, Int.reduceEq, Int.reduceBEq, Int.reduceBNe, Nat.reduceLT, Nat.reduceMul, slotsWk, objsWk, objWk, optVOWk, SV.wk, SC.wk, cellsWk, VO.wk, Ptr.wk, ptrsWk, SC.isNl, List.map_append, List.map_cons, List.map_nil, Option.some.injEq, Prod.mk.injEq, SC.d.injEq, D.l.injEq, List.map_set])
    · try simp only [hb3, go_sem, Nat.reduceAdd, Nat.reduceEqDiff, Nat.reduceLeDiff, Nat.reduceSub, reduceCtorEq, ↓reduceIte, Nat.reduceBEq, Int.reduceLT, Int.reduceLE, Int.reduceEq, Int.reduceBEq, Int.reduceBNe, Nat.reduceLT, Nat.reduceMul]
      exact joinQ_i (false) h [] rfl (by simp only [hb3, go_sem, Nat.reduceAdd, Nat.reduceEqDiff, Nat.reduceLeDiff, Nat.reduceSub, reduceCtorEq, ↓reduceIte, Nat.reduceBEq, Int.reduceLT, Int.reduceLE, Int.reduceEq, Int.reduceBEq, Int.reduceBNe, Nat.reduceLT, Nat.reduceMul, slotsWk, objsWk, objWk, optVOWk, SV.wk, SC.wk, cellsWk, VO.wk, Ptr.wk, ptrsWk, SC.isNl, List.map_append, List.map_cons, List.map_nil, Option.some.injEq, Prod.mk.injEq, SC.d.injEq, D.l.injEq, List.map_set]) (by simp only [hb3, go_sem, Nat.reduceAdd, Nat.reduceEqDiff, Nat.reduceLeDiff, Nat.reduceSub, reduceCtorEq, ↓reduceIte, Nat.reduceBEq, Int.reduceLT, Int.reduceLE, Int.reduceEq, Int.reduceBEq, Int.reduceBNe, Nat.reduceLT, Nat.reduceMul, slotsWk, objsWk, objWk, optVOWk, SV.wk, SC.wk, cellsWk, VO.wk, Ptr.wk, ptrsWk, SC.isNl, List.map_append, List.map_cons, List.map_nil, Option.some.injEq, Prod.mk.injEq, SC.d.injEq, D.l.injEq, List.map_set])
  · try dsimp only at h
    rw [hk2] at h
    simp only [Option.some.injEq] at h
    subst h
    try simp only [go_sem, Nat.reduceAdd, Nat.reduceEqDiff, Nat.reduceLeDiff, Nat.reduceSub, reduceCtorEq, ↓reduceIte, Nat.reduceBEq, Int.reduceLT, Int.reduceLE, Int.reduceEq, Int.reduceBEq, Int.reduceBNe, Nat.reduceLT, Nat.reduceMul, List.map_append, List.map_cons, List.map_nil, List.map_set]
def label_Check_L2 (p0 : Config) (a10_1 : Nat) (x13 : Label) (k19 : Option (Int)) : Nat → Nat → Option (Int)
  | 0, _ => none
  | n21 + 1, a20_1 => (if (decide (a20_1 < min a10_1 p0.Labels.length)) = true then (Option.bind ((p0.Labels.take a10_1)[a20_1]?) fun x23 => (if ((x23.Level == x13.Level) && (x23.Cats == x13.Cats)) = true then (some 7) else (label_Check_L2 p0 a10_1 x13 k19 n21 (a20_1 + 1)))) else k19)
def label_Check_L1 (p0 : Config) (k9 : Option (Int)) : Nat → Nat → Option (Int)
  | 0, _ => none
  | n11 + 1, a10_1 => (if (decide (a10_1 < p0.Labels.length)) = true then (Option.bind (p0.Labels[a10_1]?) fun x13 => (Option.bind (label_one x13) fun v14 => (if (!v14) = true then (some 2) else (withK (label_Check_L1 p0 k9 n11 (a10_1 + 1)) fun k19 => (label_Check_L2 p0 a10_1 x13 k19 (min a10_1 p0.Labels.length + 1) 0))))) else k9)
def label_Check (p0 : Config) : Option (Int) := (if (decide (p0.Sites < 1)) = true then (some 2) else (if (decide (p0.Sites > 4)) = true then (some 2) else (if (decide (((p0.Labels.length : Nat) : Int) < 1)) = true then (some 1) else (if (decide (((p0.Labels.length : Nat) : Int) > 6)) = true then (some 1) else (withK (if (decide (p0.Patience < 1)) = true then (some 2) else (if (decide (p0.Patience > 1048576)) = true then (some 2) else (some 0))) fun k9 => (label_Check_L1 p0 k9 (p0.Labels.length + 1) 0))))))
def F24 : VFn := ⟨58, (.seq (.reg [⟨(some 1), .box 3 (.t 0), none⟩, ⟨(some 2), .mv (.c (.one (.d (.i .i64 0)))), none⟩]) (.seq (.seq (.reg [⟨(some 7), .fa 0 (.t 1), none⟩, ⟨(some 8), .ld false 1 (.t 7), none⟩, ⟨(some 9), .bin .i .lss (.t 8) (.c (.one (.d (.i .i64 1)))), none⟩, ⟨(some 10), .mv (.t 9), none⟩, ⟨(some 11), .fa 0 (.t 1), (some (10, false))⟩, ⟨(some 12), .ld false 1 (.t 11), (some (10, false))⟩, ⟨(some 13), .bin .i .gtr (.t 12) (.c (.one (.d (.i .i64 4)))), (some (10, false))⟩, ⟨(some 14), .pick (.t 10) (.c (.one (.d (.b true)))) (.t 13), none⟩]) (.cond (.t 14) (.seq (.reg [⟨(some 2), .mv (.c (.one (.d (.i .i64 2)))), none⟩]) .ret) .skip)) (.seq (.seq (.reg [⟨(some 15), .fa 1 (.t 1), none⟩, ⟨(some 16), .ld false 1 (.t 15), none⟩, ⟨(some 17), .len (.t 16), none⟩, ⟨(some 18), .bin .i .lss (.t 17) (.c (.one (.d (.i .i64 1)))), none⟩, ⟨(some 19), .mv (.t 18), none⟩, ⟨(some 20), .fa 1 (.t 1), (some (19, false))⟩, ⟨(some 21), .ld false 1 (.t 20), (some (19, false))⟩, ⟨(some 22), .len (.t 21), (some (19, false))⟩, ⟨(some 23), .bin .i .gtr (.t 22) (.c (.one (.d (.i .i64 6)))), (some (19, false))⟩, ⟨(some 24), .pick (.t 19) (.c (.one (.d (.b true)))) (.t 23), none⟩]) (.cond (.t 24) (.seq (.reg [⟨(some 2), .mv (.c (.one (.d (.i .i64 1)))), none⟩]) .ret) .skip)) (.seq (.seq (.reg [⟨(some 25), .fa 1 (.t 1), none⟩, ⟨(some 26), .ld false 1 (.t 25), none⟩, ⟨(some 27), .len (.t 26), none⟩, ⟨(some 28), .mv (.c (.one (.d (.i .i64 0)))), none⟩]) (.wk (.block 0 (.loop (.seq (.reg [⟨(some 29), .bin .i .lss (.t 28) (.t 27), none⟩]) (.seq (.cond (.t 29) .skip (.exit 0)) (.seq (.block 1 (.seq (.reg [⟨(some 30), .mv (.t 28), none⟩, ⟨(some 31), .ia 2 (.t 26) (.t 28), none⟩, ⟨(some 32), .ld true 2 (.t 31), none⟩, ⟨(some 4), .alloc [(.d (.i .i64 0)), (.d (.i .i64 0))], none⟩, ⟨(some 3), .mv (.t 30), none⟩, ⟨none, .st 2 (.t 4) (.t 32), none⟩]) (.seq (.seq (.reg [⟨(some 33), .ld true 2 (.t 4), none⟩, ⟨(some 34), .call 49 [(.t 33)], none⟩, ⟨(some 35), .un .not (.t 34), none⟩]) (.cond (.t 35) (.seq (.reg [⟨(some 2), .mv (.c (.one (.d (.i .i64 2)))), none⟩]) .ret) .skip)) (.seq (.reg [⟨(some 36), .fa 1 (.t 1), none⟩, ⟨(some 37), .ld false 1 (.t 36), none⟩, ⟨(some 38), .mv (.t 3), none⟩, ⟨(some 39), .sl 2 (.t 37) none (some (.t 38)), none⟩, ⟨(some 40), .len (.t 39), none⟩, ⟨(some 41), .mv (.c (.one (.d (.i .i64 0)))), none⟩]) (.wk (.block 2 (.loop (.seq (.reg [⟨(some 42), .bin .i .lss (.t 41) (.t 40), none⟩]) (.seq (.cond (.t 42) .skip (.exit 2)) (.seq (.block 3 (.seq (.reg [⟨(some 43), .ia 2 (.t 39) (.t 41), none⟩, ⟨(some 44), .ld true 2 (.t 43), none⟩, ⟨(some 6), .alloc [(.d (.i .i64 0)), (.d (.i .i64 0))], none⟩, ⟨none, .st 2 (.t 6) (.t 44), none⟩]) (.seq (.reg [⟨(some 45), .ld true 2 (.t 6), none⟩, ⟨(some 46), .ld true 2 (.t 4), none⟩, ⟨(some 47), .eqs false [.i, .i] (.t 45) (.t 46), none⟩]) (.cond (.t 47) (.seq (.reg [⟨(some 2), .mv (.c (.one (.d (.i .i64 7)))), none⟩]) .ret) .skip)))) (.reg [⟨(some 48), .bin .i .add (.t 41) (.c (.one (.d (.i .i64 1)))), none⟩, ⟨(some 41), .mv (.t 48), none⟩]))))))))))) (.reg [⟨(some 49), .bin .i .add (.t 28) (.c (.one (.d (.i .i64 1)))), none⟩, ⟨(some 28), .mv (.t 49), none⟩])))))))) (.seq (.seq (.reg [⟨(some 50), .fa 2 (.t 1), none⟩, ⟨(some 51), .ld false 1 (.t 50), none⟩, ⟨(some 52), .bin .i .lss (.t 51) (.c (.one (.d (.i .i64 1)))), none⟩, ⟨(some 53), .mv (.t 52), none⟩, ⟨(some 54), .fa 2 (.t 1), (some (53, false))⟩, ⟨(some 55), .ld false 1 (.t 54), (some (53, false))⟩, ⟨(some 56), .bin .i .gtr (.t 55) (.c (.one (.d (.i .i64 1048576)))), (some (53, false))⟩, ⟨(some 57), .pick (.t 53) (.c (.one (.d (.b true)))) (.t 56), none⟩]) (.cond (.t 57) (.seq (.reg [⟨(some 2), .mv (.c (.one (.d (.i .i64 2)))), none⟩]) .ret) .skip)) (.seq (.reg [⟨(some 2), .mv (.c (.one (.d (.i .i64 0)))), none⟩]) .ret)))))), [.t 2]⟩
theorem low24 : lowF Try.prog 24 = some F24.strip := by kernel_rfl
theorem fok24 : fOk Try.prog 24 = true := by kernel_rfl
theorem label_Check_ok (G : Nat → Option (List D)) (p0 : Config) (r : Int) (h : label_Check p0 = some r) : FnRO Try.prog G 24 [.agg [.d (.i .i64 p0.Sites), .d (.l 2 (p0.Labels.map Label.enc)), .d (.i .i64 p0.Patience)]] (fun rs => rs = [.one (.i .i64 r)]) := by
  refine FnRO.of' low24 fok24 (by simp [F24]) ?_
  rw [label_Check] at h
  simp only [F24, go_sem, Nat.reduceAdd, Nat.reduceEqDiff, Nat.reduceLeDiff, Nat.reduceSub, reduceCtorEq, ↓reduceIte, Nat.reduceBEq, Int.reduceLT, Int.reduceLE, Int.reduceEq, Int.reduceBEq, Int.reduceBNe, Nat.reduceLT, Nat.reduceMul]
  rcases of_if h with ⟨hb1, h⟩ | ⟨hb1, h⟩
  · have hkhb1 := of_decide_eq_true hb1
    simp only [Option.some.injEq] at h
    subst h
    try simp only [hb1, hkhb1, go_sem, Nat.reduceAdd, Nat.reduceEqDiff, Nat.reduceLeDiff, Nat.reduceSub, reduceCtorEq, ↓reduceIte, Nat.reduceBEq, Int.reduceLT, Int.reduceLE, Int.reduceEq, Int.reduceBEq, Int.reduceBNe, Nat.reduceLT, Nat.reduceMul, List.map_append, List.map_cons, List.map_nil, List.map_set]
  · rcases of_if h with ⟨hb2, h⟩ | ⟨hb2, h⟩
    · simp only [Option.some.injEq] at h
      subst h
      try simp only [hb1, hb2, go_sem, Nat.reduceAdd, Nat.reduceEqDiff, Nat.reduceLeDiff, Nat.reduceSub, reduceCtorEq, ↓reduceIte, Nat.reduceBEq, Int.reduceLT, Int.reduceLE, Int.reduceEq, Int.reduceBEq, Int.reduceBNe, Nat.reduceLT, Nat.reduceMul, List.map_append, List.map_cons, List.map_nil, List.map_set]
    · try simp only [hb1, hb2, go_sem, Nat.reduceAdd, Nat.reduceEqDiff, Nat.reduceLeDiff, Nat.reduceSub, reduceCtorEq, ↓reduceIte, Nat.reduceBEq, Int.reduceLT, Int.reduceLE, Int.reduceEq, Int.reduceBEq, Int.reduceBNe, Nat.reduceLT, Nat.reduceMul]
      intro hl3
      rcases of_if h with ⟨hb4, h⟩ | ⟨hb4, h⟩
      · simp only [Option.some.injEq] at h
        subst h
        try simp only [hb1, hb2, hb4, go_sem, Nat.reduceAdd, Nat.reduceEqDiff, Nat.reduceLeDiff, Nat.reduceSub, reduceCtorEq, ↓reduceIte, Nat.reduceBEq, Int.reduceLT, Int.reduceLE, Int.reduceEq, Int.reduceBEq, Int.reduceBNe, Nat.reduceLT, Nat.reduceMul, List.map_append, List.map_cons, List.map_nil, List.map_set]
      · try simp only [hb1, hb2, hb4, go_sem, Nat.reduceAdd, Nat.reduceEqDiff, Nat.reduceLeDiff, Nat.reduceSub, reduceCtorEq, ↓reduceIte, Nat.reduceBEq, Int.reduceLT, Int.reduceLE, Int.reduceEq, Int.reduceBEq, Int.reduceBNe, Nat.reduceLT, Nat.reduceMul]
        intro hl5
        rcases of_if h with ⟨hb6, h⟩ | ⟨hb6, h⟩
        · simp only [Option.some.injEq] at h
          subst h
          try simp only [hb1, hb2, hb4, hb6, go_sem, Nat.reduceAdd, Nat.reduceEqDiff, Nat.reduceLeDiff, Nat.reduceSub, reduceCtorEq, ↓reduceIte, Nat.reduceBEq, Int.reduceLT, Int.reduceLE, Int.reduceEq, Int.reduceBEq, Int.reduceBNe, Nat.reduceLT, Nat.reduceMul, List.map_append, List.map_cons, List.map_nil, List.map_set]
        · try simp only [hb1, hb2, hb4, hb6, go_sem, Nat.reduceAdd, Nat.reduceEqDiff, Nat.reduceLeDiff, Nat.reduceSub, reduceCtorEq, ↓reduceIte, Nat.reduceBEq, Int.reduceLT, Int.reduceLE, Int.reduceEq, Int.reduceBEq, Int.reduceBNe, Nat.reduceLT, Nat.reduceMul]
          intro hl7
          obtain ⟨k9, hk9, h⟩ := withK_lk0 h
          try simp only [hb1, hb2, hb4, hb6, go_sem, Nat.reduceAdd, Nat.reduceEqDiff, Nat.reduceLeDiff, Nat.reduceSub, reduceCtorEq, ↓reduceIte, Nat.reduceBEq, Int.reduceLT, Int.reduceLE, Int.reduceEq, Int.reduceBEq, Int.reduceBNe, Nat.reduceLT, Nat.reduceMul]
          refine join_lk Try.prog G _ _ (B := Unit) (fun b => k9 = some r) (fun b => [(1, .one (.p (.q 0 0 0)))]) (fun b => [some (.box [.d (.i .i64 p0.Sites), .d (.l 2 (p0.Labels.map Label.enc)), .d (.i .i64 p0.Patience)])]) ?_ (fun b h => ?_)
          · try simp only [hb1, hb2, hb4, hb6, go_sem, Nat.reduceAdd, Nat.reduceEqDiff, Nat.reduceLeDiff, Nat.reduceSub, reduceCtorEq, ↓reduceIte, Nat.reduceBEq, Int.reduceLT, Int.reduceLE, Int.reduceEq, Int.reduceBEq, Int.reduceBNe, Nat.reduceLT, Nat.reduceMul]
            refine loop_lk Try.prog G _ _ (A := Nat) (fun n a => label_Check_L1 p0 k9 n a = some r) (fun a => [(1, .one (.p (.q 0 0 0))), (26, .one (.d (.l 2 (p0.Labels.map Label.enc)))), (27, .one (.d (.i .i64 ((p0.Labels.length : Nat) : Int)))), (28, .one (.d (.i .i64 ((a : Nat) : Int))))]) (fun a => [some (.box [.d (.i .i64 p0.Sites), .d (.l 2 (p0.Labels.map Label.enc)), .d (.i .i64 p0.Patience)])]) (p0.Labels.length + 1) (0) h (wk_i _ _ _ [some 0] rfl (by simp only [hb1, hb2, hb4, hb6, go_sem, Nat.reduceAdd, Nat.reduceEqDiff, Nat.reduceLeDiff, Nat.reduceSub, reduceCtorEq, ↓reduceIte, Nat.reduceBEq, Int.reduceLT, Int.reduceLE, Int.reduceEq, Int.reduceBEq, Int.reduceBNe, Nat.reduceLT, Nat.reduceMul, slotsWk, objsWk, objWk, optVOWk, SV.wk, SC.wk, cellsWk, VO.wk, Ptr.wk, ptrsWk, SC.isNl, List.map_append, List.map_cons, List.map_nil, Option.some.injEq, Prod.mk.injEq, SC.d.injEq, D.l.injEq, List.map_set]) (by simp only [hb1, hb2, hb4, hb6, go_sem, Nat.reduceAdd, Nat.reduceEqDiff, Nat.reduceLeDiff, Nat.reduceSub, reduceCtorEq, ↓reduceIte, Nat.reduceBEq, Int.reduceLT, Int.reduceLE, Int.reduceEq, Int.reduceBEq, Int.reduceBNe, Nat.reduceLT, Nat.reduceMul, slotsWk, objsWk, objWk, optVOWk, SV.wk, SC.wk, cellsWk, VO.wk, Ptr.wk, ptrsWk, SC.isNl, List.map_append, List.map_cons, List.map_nil, Option.some.injEq, Prod.mk.injEq, SC.d.injEq, D.l.injEq, List.map_set])) (fun a h => by simp only [label_Check_L1, reduceCtorEq] at h) ?_
            intro n11 a10_1 h
            try dsimp only at h
            rw [label_Check_L1] at h
            rcases of_if h with ⟨hb12, h⟩ | ⟨hb12, h⟩
            · have hkhb12 := of_decide_eq_true hb12
              obtain ⟨x13, hx13, h⟩ := Option.bind_eq_some_iff.1 h
              have hkx13 := (List.getElem?_eq_some_iff.1 hx13).1
              try simp only [List.length_take, List.length_drop, List.length_append, List.length_set, List.length_map, List.length_cons, List.length_nil, Nat.zero_add] at hkx13
              obtain ⟨v14, hv14, h⟩ := Option.bind_eq_some_iff.1 h
              try simp only [hb12, hkhb12, hx13, hkx13, go_sem, Nat.reduceAdd, Nat.reduceEqDiff, Nat.reduceLeDiff, Nat.reduceSub, reduceCtorEq, ↓reduceIte, Nat.reduceBEq, Int.reduceLT, Int.reduceLE, Int.reduceEq, Int.reduceBEq, Int.reduceBNe, Nat.reduceLT, Nat.reduceMul]
              refine CallV.ro false (label_one_ok G x13 v14 hv14) rfl ?_
              rintro rs rfl
              refine ⟨.inl rfl, ?_⟩
              rcases of_if h with ⟨hb15, h⟩ | ⟨hb15, h⟩
              · have hkhb15 := not_eq_t hb15
                simp only [Option.some.injEq] at h
                subst h
                try simp only [hb12, hkhb12, hx13, hkx13, hb15, hkhb15, go_sem, Nat.reduceAdd, Nat.reduceEqDiff, Nat.reduceLeDiff, Nat.reduceSub, reduceCtorEq, ↓reduceIte, Nat.reduceBEq, Int.reduceLT, Int.reduceLE, Int.reduceEq, Int.reduceBEq, Int.reduceBNe, Nat.reduceLT, Nat.reduceMul, List.map_append, List.map_cons, List.map_nil, List.map_set]
              · have hkhb15 := not_eq_f hb15
                have hle16 := Nat.le_of_lt hkx13
                try simp only [hb12, hkhb12, hx13, hkx13, hb15, hkhb15, hle16, go_sem, Nat.reduceAdd, Nat.reduceEqDiff, Nat.reduceLeDiff, Nat.reduceSub, reduceCtorEq, ↓reduceIte, Nat.reduceBEq, Int.reduceLT, Int.reduceLE, Int.reduceEq, Int.reduceBEq, Int.reduceBNe, Nat.reduceLT, Nat.reduceMul]
                intro hl17
                obtain ⟨k19, hk19, h⟩ := withK_lk0 h
                try simp only [hb12, hkhb12, hx13, hkx13, hb15, hkhb15, hle16, go_sem, Nat.reduceAdd, Nat.reduceEqDiff, Nat.reduceLeDiff, Nat.reduceSub, reduceCtorEq, ↓reduceIte, Nat.reduceBEq, Int.reduceLT, Int.reduceLE, Int.reduceEq, Int.reduceBEq, Int.reduceBNe, Nat.reduceLT, Nat.reduceMul]
                refine join_lk Try.prog G _ _ (B := Unit) (fun b => k19 = some r) (fun b => [(1, .one (.p (.q 0 0 0))), (26, .one (.d (.l 2 (p0.Labels.map Label.enc)))), (27, .one (.d (.i .i64 ((p0.Labels.length : Nat) : Int)))), (28, .one (.d (.i .i64 ((a10_1 : Nat) : Int))))]) (fun b => [some (.box [.d (.i .i64 p0.Sites), .d (.l 2 (p0.Labels.map Label.enc)), .d (.i .i64 p0.Patience)])]) ?_ (fun b h => ?_)
                · try simp only [hb12, hkhb12, hx13, hkx13, hb15, hkhb15, hle16, go_sem, Nat.reduceAdd, Nat.reduceEqDiff, Nat.reduceLeDiff, Nat.reduceSub, reduceCtorEq, ↓reduceIte, Nat.reduceBEq, Int.reduceLT, Int.reduceLE, Int.reduceEq, Int.reduceBEq, Int.reduceBNe, Nat.reduceLT, Nat.reduceMul]
                  refine loop_lk Try.prog G _ _ (A := Nat) (fun n a => label_Check_L2 p0 a10_1 x13 k19 n a = some r) (fun a => [(1, .one (.p (.q 0 0 0))), (4, .one (.p (.q 1 0 0))), (26, .one (.d (.l 2 (p0.Labels.map Label.enc)))), (27, .one (.d (.i .i64 ((p0.Labels.length : Nat) : Int)))), (28, .one (.d (.i .i64 ((a10_1 : Nat) : Int)))), (39, .one (.d (.l 2 ((p0.Labels.take a10_1).map Label.enc)))), (40, .one (.d (.i .i64 ((min a10_1 p0.Labels.length : Nat) : Int)))), (41, .one (.d (.i .i64 ((a : Nat) : Int))))]) (fun a => [some (.box [.d (.i .i64 p0.Sites), .d (.l 2 (p0.Labels.map Label.enc)), .d (.i .i64 p0.Patience)]), some (.box [.d (.i .i64 x13.Level), .d (.i .i64 x13.Cats)])]) (min a10_1 p0.Labels.length + 1) (0) h (wk_i _ _ _ [some 0, some 1] rfl (by simp only [hb12, hkhb12, hx13, hkx13, hb15, hkhb15, hle16, go_sem, Nat.reduceAdd, Nat.reduceEqDiff, Nat.reduceLeDiff, Nat.reduceSub, reduceCtorEq, ↓reduceIte, Nat.reduceBEq, Int.reduceLT, Int.reduceLE, Int.reduceEq, Int.reduceBEq, Int.reduceBNe, Nat.reduceLT, Nat.reduceMul, slotsWk, objsWk, objWk, optVOWk, SV.wk, SC.wk, cellsWk, VO.wk, Ptr.wk, ptrsWk, SC.isNl, List.map_append, List.map_cons, List.map_nil, Option.some.injEq, Prod.mk.injEq, SC.d.injEq, D.l.injEq, List.map_set]) (by simp only [hb12, hkhb12, hx13, hkx13, hb15, hkhb15, hle16, go_sem, Nat.reduceAdd, Nat.reduceEqDiff, Nat.reduceLeDiff, Nat.reduceSub, reduceCtorEq, ↓reduceIte, Nat.reduceBEq, Int.reduceLT, Int.reduceLE, Int.reduceEq, Int.reduceBEq, Int.reduceBNe, Nat.reduceLT, Nat.reduceMul, slotsWk, objsWk, objWk, optVOWk, SV.wk, SC.wk, cellsWk, VO.wk, Ptr.wk, ptrsWk, SC.isNl, List.map_append, List.map_cons, List.map_nil, Option.some.injEq, Prod.mk.injEq, SC.d.injEq, D.l.injEq, List.map_set])) (fun a h => by simp only [label_Check_L2, reduceCtorEq] at h) ?_
                  intro n21 a20_1 h
                  try dsimp only at h
                  rw [label_Check_L2] at h
                  rcases of_if h with ⟨hb22, h⟩ | ⟨hb22, h⟩
                  · obtain ⟨x23, hx23, h⟩ := Option.bind_eq_some_iff.1 h
                    have hkx23 := (List.getElem?_eq_some_iff.1 hx23).1
                    try simp only [List.length_take, List.length_drop, List.length_append, List.length_set, List.length_map, List.length_cons, List.length_nil, Nat.zero_add] at hkx23
                    rcases of_if h with ⟨hb24, h⟩ | ⟨hb24, h⟩
                    · simp only [Option.some.injEq] at h
                      subst h
                      try simp only [hkhb12, hx13, hkx13, hkhb15, hle16, hb22, hx23, hkx23, hb24, go_sem, Nat.reduceAdd, Nat.reduceEqDiff, Nat.reduceLeDiff, Nat.reduceSub, reduceCtorEq, ↓reduceIte, Nat.reduceBEq, Int.reduceLT, Int.reduceLE, Int.reduceEq, Int.reduceBEq, Int.reduceBNe, Nat.reduceLT, Nat.reduceMul, List.map_append, List.map_cons, List.map_nil, List.map_set]
                    · have hw25 := wrap_succ_max hkx23 hl17
                      try simp only [hkhb12, hx13, hkx13, hkhb15, hle16, hb22, hx23, hkx23, hb24, hw25, go_sem, Nat.reduceAdd, Nat.reduceEqDiff, Nat.reduceLeDiff, Nat.reduceSub, reduceCtorEq, ↓reduceIte, Nat.reduceBEq, Int.reduceLT, Int.reduceLE, Int.reduceEq, Int.reduceBEq, Int.reduceBNe, Nat.reduceLT, Nat.reduceMul]
                      exact loopQ_i (a20_1 + 1) h [some 0, some 1] rfl (by simp only [hkhb12, hx13, hkx13, hkhb15, hle16, hb22, hx23, hkx23, hb24, hw25, go_sem, Nat.reduceAdd, Nat.reduceEqDiff, Nat.reduceLeDiff, Nat.reduceSub, reduceCtorEq, ↓reduceIte, Nat.reduceBEq, Int.reduceLT, Int.reduceLE, Int.reduceEq, Int.reduceBEq, Int.reduceBNe, Nat.reduceLT, Nat.reduceMul, slotsWk, objsWk, objWk, optVOWk, SV.wk, SC.wk, cellsWk, VO.wk, Ptr.wk, ptrsWk, SC.isNl, List.map_append, List.map_cons, List.map_nil, Option.some.injEq, Prod.mk.injEq, SC.d.injEq, D.l.injEq, List.map_set]) (by simp only [hkhb12, hx13, hkx13, hkhb15, hle16, hb22, hx23, hkx23, hb24, hw25, go_sem, Nat.reduceAdd, Nat.reduceEqDiff, Nat.reduceLeDiff, Nat.reduceSub, reduceCtorEq, ↓reduceIte, Nat.reduceBEq, Int.reduceLT, Int.reduceLE, Int.reduceEq, Int.reduceBEq, Int.reduceBNe, Nat.reduceLT, Nat.reduceMul, slotsWk, objsWk, objWk, optVOWk, SV.wk, SC.wk, cellsWk, VO.wk, Ptr.wk, ptrsWk, SC.isNl, List.map_append, List.map_cons, List.map_nil, Option.some.injEq, Prod.mk.injEq, SC.d.injEq, D.l.injEq, List.map_set])
                  · try simp only [hkhb12, hx13, hkx13, hkhb15, hle16, hb22, go_sem, Nat.reduceAdd, Nat.reduceEqDiff, Nat.reduceLeDiff, Nat.reduceSub, reduceCtorEq, ↓reduceIte, Nat.reduceBEq, Int.reduceLT, Int.reduceLE, Int.reduceEq, Int.reduceBEq, Int.reduceBNe, Nat.reduceLT, Nat.reduceMul]
                    exact joinQ_i () h [some 0] rfl (by simp only [hkhb12, hx13, hkx13, hkhb15, hle16, hb22, go_sem, Nat.reduceAdd, Nat.reduceEqDiff, Nat.reduceLeDiff, Nat.reduceSub, reduceCtorEq, ↓reduceIte, Nat.reduceBEq, Int.reduceLT, Int.reduceLE, Int.reduceEq, Int.reduceBEq, Int.reduceBNe, Nat.reduceLT, Nat.reduceMul, slotsWk, objsWk, objWk, optVOWk, SV.wk, SC.wk, cellsWk, VO.wk, Ptr.wk, ptrsWk, SC.isNl, List.map_append, List.map_cons, List.map_nil, Option.some.injEq, Prod.mk.injEq, SC.d.injEq, D.l.injEq, List.map_set]) (by simp only [hkhb12, hx13, hkx13, hkhb15, hle16, hb22, go_sem, Nat.reduceAdd, Nat.reduceEqDiff, Nat.reduceLeDiff, Nat.reduceSub, reduceCtorEq, ↓reduceIte, Nat.reduceBEq, Int.reduceLT, Int.reduceLE, Int.reduceEq, Int.reduceBEq, Int.reduceBNe, Nat.reduceLT, Nat.reduceMul, slotsWk, objsWk, objWk, optVOWk, SV.wk, SC.wk, cellsWk, VO.wk, Ptr.wk, ptrsWk, SC.isNl, List.map_append, List.map_cons, List.map_nil, Option.some.injEq, Prod.mk.injEq, SC.d.injEq, D.l.injEq, List.map_set])
                · try dsimp only at h
                  rw [hk19] at h
                  have hw26 := wrap_succ_max hkx13 hl7
                  try simp only [hkhb12, hx13, hkx13, hkhb15, hle16, hw26, go_sem, Nat.reduceAdd, Nat.reduceEqDiff, Nat.reduceLeDiff, Nat.reduceSub, reduceCtorEq, ↓reduceIte, Nat.reduceBEq, Int.reduceLT, Int.reduceLE, Int.reduceEq, Int.reduceBEq, Int.reduceBNe, Nat.reduceLT, Nat.reduceMul]
                  exact loopQ_i (a10_1 + 1) h [some 0] rfl (by simp only [hkhb12, hx13, hkx13, hkhb15, hle16, hw26, go_sem, Nat.reduceAdd, Nat.reduceEqDiff, Nat.reduceLeDiff, Nat.reduceSub, reduceCtorEq, ↓reduceIte, Nat.reduceBEq, Int.reduceLT, Int.reduceLE, Int.reduceEq, Int.reduceBEq, Int.reduceBNe, Nat.reduceLT, Nat.reduceMul, slotsWk, objsWk, objWk, optVOWk, SV.wk, SC.wk, cellsWk, VO.wk, Ptr.wk, ptrsWk, SC.isNl, List.map_append, List.map_cons, List.map_nil, Option.some.injEq, Prod.mk.injEq, SC.d.injEq, D.l.injEq, List.map_set]) (by simp only [hkhb12, hx13, hkx13, hkhb15, hle16, hw26, go_sem, Nat.reduceAdd, Nat.reduceEqDiff, Nat.reduceLeDiff, Nat.reduceSub, reduceCtorEq, ↓reduceIte, Nat.reduceBEq, Int.reduceLT, Int.reduceLE, Int.reduceEq, Int.reduceBEq, Int.reduceBNe, Nat.reduceLT, Nat.reduceMul, slotsWk, objsWk, objWk, optVOWk, SV.wk, SC.wk, cellsWk, VO.wk, Ptr.wk, ptrsWk, SC.isNl, List.map_append, List.map_cons, List.map_nil, Option.some.injEq, Prod.mk.injEq, SC.d.injEq, D.l.injEq, List.map_set])
            · try simp only [hb12, go_sem, Nat.reduceAdd, Nat.reduceEqDiff, Nat.reduceLeDiff, Nat.reduceSub, reduceCtorEq, ↓reduceIte, Nat.reduceBEq, Int.reduceLT, Int.reduceLE, Int.reduceEq, Int.reduceBEq, Int.reduceBNe, Nat.reduceLT, Nat.reduceMul]
              exact joinQ_i () h [some 0] rfl (by simp only [hb12, go_sem, Nat.reduceAdd, Nat.reduceEqDiff, Nat.reduceLeDiff, Nat.reduceSub, reduceCtorEq, ↓reduceIte, Nat.reduceBEq, Int.reduceLT, Int.reduceLE, Int.reduceEq, Int.reduceBEq, Int.reduceBNe, Nat.reduceLT, Nat.reduceMul, slotsWk, objsWk, objWk, optVOWk, SV.wk, SC.wk, cellsWk, VO.wk, Ptr.wk, ptrsWk, SC.isNl, List.map_append, List.map_cons, List.map_nil, Option.some.injEq, Prod.mk.injEq, SC.d.injEq, D.l.injEq, List.map_set]) (by simp only [hb12, go_sem, Nat.reduceAdd, Nat.reduceEqDiff, Nat.reduceLeDiff, Nat.reduceSub, reduceCtorEq, ↓reduceIte, Nat.reduceBEq, Int.reduceLT, Int.reduceLE, Int.reduceEq, Int.reduceBEq, Int.reduceBNe, Nat.reduceLT, Nat.reduceMul, slotsWk, objsWk, objWk, optVOWk, SV.wk, SC.wk, cellsWk, VO.wk, Ptr.wk, ptrsWk, SC.isNl, List.map_append, List.map_cons, List.map_nil, Option.some.injEq, Prod.mk.injEq, SC.d.injEq, D.l.injEq, List.map_set])
          · try dsimp only at h
            rw [hk9] at h
            rcases of_if h with ⟨hb27, h⟩ | ⟨hb27, h⟩
            · have hkhb27 := of_decide_eq_true hb27
              simp only [Option.some.injEq] at h
              subst h
              try simp only [hb27, hkhb27, go_sem, Nat.reduceAdd, Nat.reduceEqDiff, Nat.reduceLeDiff, Nat.reduceSub, reduceCtorEq, ↓reduceIte, Nat.reduceBEq, Int.reduceLT, Int.reduceLE, Int.reduceEq, Int.reduceBEq, Int.reduceBNe, Nat.reduceLT, Nat.reduceMul, List.map_append, List.map_cons, List.map_nil, List.map_set]
            · rcases of_if h with ⟨hb28, h⟩ | ⟨hb28, h⟩
              · simp only [Option.some.injEq] at h
                subst h
                try simp only [hb27, hb28, go_sem, Nat.reduceAdd, Nat.reduceEqDiff, Nat.reduceLeDiff, Nat.reduceSub, reduceCtorEq, ↓reduceIte, Nat.reduceBEq, Int.reduceLT, Int.reduceLE, Int.reduceEq, Int.reduceBEq, Int.reduceBNe, Nat.reduceLT, Nat.reduceMul, List.map_append, List.map_cons, List.map_nil, List.map_set]
              · simp only [Option.some.injEq] at h
                subst h
                try simp only [hb27, hb28, go_sem, Nat.reduceAdd, Nat.reduceEqDiff, Nat.reduceLeDiff, Nat.reduceSub, reduceCtorEq, ↓reduceIte, Nat.reduceBEq, Int.reduceLT, Int.reduceLE, Int.reduceEq, Int.reduceBEq, Int.reduceBNe, Nat.reduceLT, Nat.reduceMul, List.map_append, List.map_cons, List.map_nil, List.map_set]
def slices_IndexFunc_int_L1 (p0 : List Int) (p1 : Int → Option (Bool)) (k3 : Option (Int)) : Nat → Nat → Option (Int)
  | 0, _ => none
  | n5 + 1, a4_1 => (if (decide (a4_1 < p0.length)) = true then (Option.bind (p0[a4_1]?) fun x7 => (Option.bind (p1 x7) fun v8 => (if v8 = true then (some ((a4_1 : Nat) : Int)) else (slices_IndexFunc_int_L1 p0 p1 k3 n5 (a4_1 + 1))))) else k3)
def slices_IndexFunc_int (p0 : List Int) (p1 : Int → Option (Bool)) : Option (Int) := (withK (some (-1)) fun k3 => (slices_IndexFunc_int_L1 p0 p1 k3 (p0.length + 1) 0))
def F67 : VFn := ⟨19, (.seq (.reg [⟨(some 4), .mv (.c (.one (.d (.i .i64 0)))), none⟩]) (.seq (.seq (.reg [⟨(some 6), .mv (.t 0), none⟩, ⟨(some 7), .len (.t 6), none⟩, ⟨(some 8), .mv (.c (.one (.d (.i .i64 0)))), none⟩]) (.wk (.block 0 (.loop (.seq (.reg [⟨(some 9), .bin .i .lss (.t 8) (.t 7), none⟩]) (.seq (.cond (.t 9) .skip (.exit 0)) (.seq (.block 1 (.seq (.reg [⟨(some 10), .mv (.t 8), none⟩, ⟨(some 5), .mv (.t 10), none⟩]) (.seq (.reg [⟨(some 11), .mv (.t 1), none⟩, ⟨(some 12), .mv (.t 0), none⟩, ⟨(some 13), .mv (.t 5), none⟩, ⟨(some 14), .ia 1 (.t 12) (.t 13), none⟩, ⟨(some 15), .ld false 1 (.t 14), none⟩, ⟨(some 16), .callv (.t 11) [(.t 15)], none⟩]) (.cond (.t 16) (.seq (.reg [⟨(some 17), .mv (.t 5), none⟩, ⟨(some 4), .mv (.t 17), none⟩]) .ret) .skip)))) (.reg [⟨(some 18), .bin .i .add (.t 8) (.c (.one (.d (.i .i64 1)))), none⟩, ⟨(some 8), .mv (.t 18), none⟩])))))))) (.seq (.reg [⟨(some 4), .mv (.c (.one (.d (.i .i64 (-1))))), none⟩]) .ret))), [.t 4]⟩
theorem low67 : lowF Try.prog 67 = some F67.strip := by kernel_rfl
theorem fok67 : fOk Try.prog 67 = true := by kernel_rfl
theorem slices_IndexFunc_int_ok (G : Nat → Option (List D)) (p0 : List Int) (p1 : Int → Option (Bool)) (g_p1 : Nat) (c_p1 : List D) (h_p1 : ∀ (x0 : Int) (r : Bool), p1 x0 = some r → FnRO Try.prog G g_p1 ([.one (.d (.i .i64 x0))] ++ c_p1.map fun d => .one (.d d)) (fun rs => rs = [.one (.b r)])) (r : Int) (h : slices_IndexFunc_int p0 p1 = some r) : FnRO Try.prog G 67 [.one (.d (.l 1 (p0.map encI))), .one (.d (.f g_p1 c_p1))] (fun rs => rs = [.one (.i .i64 r)]) := by
  refine FnRO.of' low67 fok67 (by simp [F67]) ?_
  rw [slices_IndexFunc_int] at h
  simp only [F67, go_sem, Nat.reduceAdd, Nat.reduceEqDiff, Nat.reduceLeDiff, Nat.reduceSub, reduceCtorEq, ↓reduceIte, Nat.reduceBEq, Int.reduceLT, Int.reduceLE, Int.reduceEq, Int.reduceBEq, Int.reduceBNe, Nat.reduceLT, Nat.reduceMul]
  try simp only [go_sem, Nat.reduceAdd, Nat.reduceEqDiff, Nat.reduceLeDiff, Nat.reduceSub, reduceCtorEq, ↓reduceIte, Nat.reduceBEq, Int.reduceLT, Int.reduceLE, Int.reduceEq, Int.reduceBEq, Int.reduceBNe, Nat.reduceLT, Nat.reduceMul]
  intro hl1
  obtain ⟨k3, hk3, h⟩ := withK_lk0 h
  try simp only [go_sem, Nat.reduceAdd, Nat.reduceEqDiff, Nat.reduceLeDiff, Nat.reduceSub, reduceCtorEq, ↓reduceIte, Nat.reduceBEq, Int.reduceLT, Int.reduceLE, Int.reduceEq, Int.reduceBEq, Int.reduceBNe, Nat.reduceLT, Nat.reduceMul]
  refine join_lk Try.prog G _ _ (B := Unit) (fun b => k3 = some r) (fun b => []) (fun b => []) ?_ (fun b h => ?_)
  · try simp only [go_sem, Nat.reduceAdd, Nat.reduceEqDiff, Nat.reduceLeDiff, Nat.reduceSub, reduceCtorEq, ↓reduceIte, Nat.reduceBEq, Int.reduceLT, Int.reduceLE, Int.reduceEq, Int.reduceBEq, Int.reduceBNe, Nat.reduceLT, Nat.reduceMul]
    refine loop_lk Try.prog G _ _ (A := Nat) (fun n a => slices_IndexFunc_int_L1 p0 p1 k3 n a = some r) (fun a => [(0, .one (.d (.l 1 (p0.map encI)))), (1, .one (.d (.f g_p1 c_p1))), (7, .one (.d (.i .i64 ((p0.length : Nat) : Int)))), (8, .one (.d (.i .i64 ((a : Nat) : Int))))]) (fun a => []) (p0.length + 1) (0) h (wk_i _ _ _ [] rfl (by simp only [go_sem, Nat.reduceAdd, Nat.reduceEqDiff, Nat.reduceLeDiff, Nat.reduceSub, reduceCtorEq, ↓reduceIte, Nat.reduceBEq, Int.reduceLT, Int.reduceLE, Int.reduceEq, Int.reduceBEq, Int.reduceBNe, Nat.reduceLT, Nat.reduceMul, slotsWk, objsWk, objWk, optVOWk, SV.wk, SC.wk, cellsWk, VO.wk, Ptr.wk, ptrsWk, SC.isNl, List.map_append, List.map_cons, List.map_nil, Option.some.injEq, Prod.mk.injEq, SC.d.injEq, D.l.injEq, List.map_set]) (by simp only [go_sem, Nat.reduceAdd, Nat.reduceEqDiff, Nat.reduceLeDiff, Nat.reduceSub, reduceCtorEq, ↓reduceIte, Nat.reduceBEq, Int.reduceLT, Int.reduceLE, Int.reduceEq, Int.reduceBEq, Int.reduceBNe, Nat.reduceLT, Nat.reduceMul, slotsWk, objsWk, objWk, optVOWk, SV.wk, SC.wk, cellsWk, VO.wk, Ptr.wk, ptrsWk, SC.isNl, List.map_append, List.map_cons, List.map_nil, Option.some.injEq, Prod.mk.injEq, SC.d.injEq, D.l.injEq, List.map_set])) (fun a h => by simp only [slices_IndexFunc_int_L1, reduceCtorEq] at h) ?_
    intro n5 a4_1 h
    try dsimp only at h
    rw [slices_IndexFunc_int_L1] at h
    rcases of_if h with ⟨hb6, h⟩ | ⟨hb6, h⟩
    · have hkhb6 := of_decide_eq_true hb6
      obtain ⟨x7, hx7, h⟩ := Option.bind_eq_some_iff.1 h
      have hkx7 := (List.getElem?_eq_some_iff.1 hx7).1
      try simp only [List.length_take, List.length_drop, List.length_append, List.length_set, List.length_map, List.length_cons, List.length_nil, Nat.zero_add] at hkx7
      obtain ⟨v8, hv8, h⟩ := Option.bind_eq_some_iff.1 h
      try simp only [hb6, hkhb6, hx7, hkx7, go_sem, Nat.reduceAdd, Nat.reduceEqDiff, Nat.reduceLeDiff, Nat.reduceSub, reduceCtorEq, ↓reduceIte, Nat.reduceBEq, Int.reduceLT, Int.reduceLE, Int.reduceEq, Int.reduceBEq, Int.reduceBNe, Nat.reduceLT, Nat.reduceMul]
      refine CallV.ro false (h_p1 x7 v8 hv8) (by first | rfl | simp only [hb6, hkhb6, hx7, hkx7, go_sem, Nat.reduceAdd, Nat.reduceEqDiff, Nat.reduceLeDiff, Nat.reduceSub, reduceCtorEq, ↓reduceIte, Nat.reduceBEq, Int.reduceLT, Int.reduceLE, Int.reduceEq, Int.reduceBEq, Int.reduceBNe, Nat.reduceLT, Nat.reduceMul, inVs_caps]) ?_
      rintro rs rfl
      refine ⟨.inl rfl, ?_⟩
      rcases of_if h with ⟨hb9, h⟩ | ⟨hb9, h⟩
      · simp only [Option.some.injEq] at h
        subst h
        try simp only [hb6, hkhb6, hx7, hkx7, hb9, go_sem, Nat.reduceAdd, Nat.reduceEqDiff, Nat.reduceLeDiff, Nat.reduceSub, reduceCtorEq, ↓reduceIte, Nat.reduceBEq, Int.reduceLT, Int.reduceLE, Int.reduceEq, Int.reduceBEq, Int.reduceBNe, Nat.reduceLT, Nat.reduceMul, List.map_append, List.map_cons, List.map_nil, List.map_set]
      · have hw10 := wrap_succ_max hkx7 hl1
        try simp only [hb6, hkhb6, hx7, hkx7, hb9, hw10, go_sem, Nat.reduceAdd, Nat.reduceEqDiff, Nat.reduceLeDiff, Nat.reduceSub, reduceCtorEq, ↓reduceIte, Nat.reduceBEq, Int.reduceLT, Int.reduceLE, Int.reduceEq, Int.reduceBEq, Int.reduceBNe, Nat.reduceLT, Nat.reduceMul]
        exact loopQ_i (a4_1 + 1) h [] rfl (by simp only [hb6, hkhb6, hx7, hkx7, hb9, hw10, go_sem, Nat.reduceAdd, Nat.reduceEqDiff, Nat.reduceLeDiff, Nat.reduceSub, reduceCtorEq, ↓reduceIte, Nat.reduceBEq, Int.reduceLT, Int.reduceLE, Int.reduceEq, Int.reduceBEq, Int.reduceBNe, Nat.reduceLT, Nat.reduceMul, slotsWk, objsWk, objWk, optVOWk, SV.wk, SC.wk, cellsWk, VO.wk, Ptr.wk, ptrsWk, SC.isNl, List.map_append, List.map_cons, List.map_nil, Option.some.injEq, Prod.mk.injEq, SC.d.injEq, D.l.injEq, List.map_set]) (by simp only [hb6, hkhb6, hx7, hkx7, hb9, hw10, go_sem, Nat.reduceAdd, Nat.reduceEqDiff, Nat.reduceLeDiff, Nat.reduceSub, reduceCtorEq, ↓reduceIte, Nat.reduceBEq, Int.reduceLT, Int.reduceLE, Int.reduceEq, Int.reduceBEq, Int.reduceBNe, Nat.reduceLT, Nat.reduceMul, slotsWk, objsWk, objWk, optVOWk, SV.wk, SC.wk, cellsWk, VO.wk, Ptr.wk, ptrsWk, SC.isNl, List.map_append, List.map_cons, List.map_nil, Option.some.injEq, Prod.mk.injEq, SC.d.injEq, D.l.injEq, List.map_set])
    · try simp only [hb6, go_sem, Nat.reduceAdd, Nat.reduceEqDiff, Nat.reduceLeDiff, Nat.reduceSub, reduceCtorEq, ↓reduceIte, Nat.reduceBEq, Int.reduceLT, Int.reduceLE, Int.reduceEq, Int.reduceBEq, Int.reduceBNe, Nat.reduceLT, Nat.reduceMul]
      exact joinQ_i () h [] rfl (by simp only [hb6, go_sem, Nat.reduceAdd, Nat.reduceEqDiff, Nat.reduceLeDiff, Nat.reduceSub, reduceCtorEq, ↓reduceIte, Nat.reduceBEq, Int.reduceLT, Int.reduceLE, Int.reduceEq, Int.reduceBEq, Int.reduceBNe, Nat.reduceLT, Nat.reduceMul, slotsWk, objsWk, objWk, optVOWk, SV.wk, SC.wk, cellsWk, VO.wk, Ptr.wk, ptrsWk, SC.isNl, List.map_append, List.map_cons, List.map_nil, Option.some.injEq, Prod.mk.injEq, SC.d.injEq, D.l.injEq, List.map_set]) (by simp only [hb6, go_sem, Nat.reduceAdd, Nat.reduceEqDiff, Nat.reduceLeDiff, Nat.reduceSub, reduceCtorEq, ↓reduceIte, Nat.reduceBEq, Int.reduceLT, Int.reduceLE, Int.reduceEq, Int.reduceBEq, Int.reduceBNe, Nat.reduceLT, Nat.reduceMul, slotsWk, objsWk, objWk, optVOWk, SV.wk, SC.wk, cellsWk, VO.wk, Ptr.wk, ptrsWk, SC.isNl, List.map_append, List.map_cons, List.map_nil, Option.some.injEq, Prod.mk.injEq, SC.d.injEq, D.l.injEq, List.map_set])
  · try dsimp only at h
    rw [hk3] at h
    simp only [Option.some.injEq] at h
    subst h
    try simp only [go_sem, Nat.reduceAdd, Nat.reduceEqDiff, Nat.reduceLeDiff, Nat.reduceSub, reduceCtorEq, ↓reduceIte, Nat.reduceBEq, Int.reduceLT, Int.reduceLE, Int.reduceEq, Int.reduceBEq, Int.reduceBNe, Nat.reduceLT, Nat.reduceMul, List.map_append, List.map_cons, List.map_nil, List.map_set]
def slices_ContainsFunc_int (p0 : List Int) (p1 : Int → Option (Bool)) : Option (Bool) := (Option.bind (slices_IndexFunc_int p0 p1) fun v1 => (some (decide (v1 ≥ 0))))
def F56 : VFn := ⟨9, (.seq (.reg [⟨(some 4), .mv (.c (.one (.d (.b false)))), none⟩]) (.seq (.reg [⟨(some 5), .mv (.t 0), none⟩, ⟨(some 6), .mv (.t 1), none⟩, ⟨(some 7), .call 67 [(.t 5), (.t 6)], none⟩, ⟨(some 8), .bin .i .geq (.t 7) (.c (.one (.d (.i .i64 0)))), none⟩, ⟨(some 4), .mv (.t 8), none⟩]) .ret)), [.t 4]⟩
theorem low56 : lowF Try.prog 56 = some F56.strip := by kernel_rfl
theorem fok56 : fOk Try.prog 56 = true := by kernel_rfl
theorem slices_ContainsFunc_int_ok (G : Nat → Option (List D)) (p0 : List Int) (p1 : Int → Option (Bool)) (g_p1 : Nat) (c_p1 : List D) (h_p1 : ∀ (x0 : Int) (r : Bool), p1 x0 = some r → FnRO Try.prog G g_p1 ([.one (.d (.i .i64 x0))] ++ c_p1.map fun d => .one (.d d)) (fun rs => rs = [.one (.b r)])) (r : Bool) (h : slices_ContainsFunc_int p0 p1 = some r) : FnRO Try.prog G 56 [.one (.d (.l 1 (p0.map encI))), .one (.d (.f g_p1 c_p1))] (fun rs => rs = [.one (.b r)]) := by
  refine FnRO.of' low56 fok56 (by simp [F56]) ?_
  rw [slices_ContainsFunc_int] at h
  simp only [F56, go_sem, Nat.reduceAdd, Nat.reduceEqDiff, Nat.reduceLeDiff, Nat.reduceSub, reduceCtorEq, ↓reduceIte, Nat.reduceBEq, Int.reduceLT, Int.reduceLE, Int.reduceEq, Int.reduceBEq, Int.reduceBNe, Nat.reduceLT, Nat.reduceMul]
  obtain ⟨v1, hv1, h⟩ := Option.bind_eq_some_iff.1 h
  try simp only [go_sem, Nat.reduceAdd, Nat.reduceEqDiff, Nat.reduceLeDiff, Nat.reduceSub, reduceCtorEq, ↓reduceIte, Nat.reduceBEq, Int.reduceLT, Int.reduceLE, Int.reduceEq, Int.reduceBEq, Int.reduceBNe, Nat.reduceLT, Nat.reduceMul]
  refine CallV.ro false (slices_IndexFunc_int_ok G p0 p1 g_p1 c_p1 h_p1 v1 hv1) (by first | rfl | simp only [go_sem, Nat.reduceAdd, Nat.reduceEqDiff, Nat.reduceLeDiff, Nat.reduceSub, reduceCtorEq, ↓reduceIte, Nat.reduceBEq, Int.reduceLT, Int.reduceLE, Int.reduceEq, Int.reduceBEq, Int.reduceBNe, Nat.reduceLT, Nat.reduceMul, inVs_caps]) ?_
  rintro rs rfl
  refine ⟨.inl rfl, ?_⟩
  simp only [Option.some.injEq] at h
  subst h
  try simp only [go_sem, Nat.reduceAdd, Nat.reduceEqDiff, Nat.reduceLeDiff, Nat.reduceSub, reduceCtorEq, ↓reduceIte, Nat.reduceBEq, Int.reduceLT, Int.reduceLE, Int.reduceEq, Int.reduceBEq, Int.reduceBNe, Nat.reduceLT, Nat.reduceMul, List.map_append, List.map_cons, List.map_nil, List.map_set]
def lines_numbers_1 (p0 : Int) : Option (Bool) := (withK (fun (b1_1 : Bool) => (some b1_1)) fun k2 => (if (decide (p0 < 0)) = true then (k2 true) else (k2 (decide (p0 > 6000)))))
def F57 : VFn := ⟨9, (.seq (.reg [⟨(some 2), .mv (.c (.one (.d (.b false)))), none⟩]) (.seq (.wk (.reg [⟨(some 3), .mv (.t 0), none⟩, ⟨(some 4), .bin .i .lss (.t 3) (.c (.one (.d (.i .i64 0)))), none⟩, ⟨(some 5), .mv (.t 4), none⟩, ⟨(some 6), .mv (.t 0), (some (5, false))⟩, ⟨(some 7), .bin .i .gtr (.t 6) (.c (.one (.d (.i .i64 6000)))), (some (5, false))⟩, ⟨(some 8), .pick (.t 5) (.c (.one (.d (.b true)))) (.t 7), none⟩, ⟨(some 2), .mv (.t 8), none⟩])) .ret)), [.t 2]⟩
theorem low57 : lowF Try.prog 57 = some F57.strip := by kernel_rfl
theorem fok57 : fOk Try.prog 57 = true := by kernel_rfl
theorem lines_numbers_1_ok (G : Nat → Option (List D)) (p0 : Int) (r : Bool) (h : lines_numbers_1 p0 = some r) : FnRO Try.prog G 57 [.one (.d (.i .i64 p0))] (fun rs => rs = [.one (.b r)]) := by
  refine FnRO.of' low57 fok57 (by simp [F57]) ?_
  rw [lines_numbers_1] at h
  simp only [F57, go_sem, Nat.reduceAdd, Nat.reduceEqDiff, Nat.reduceLeDiff, Nat.reduceSub, reduceCtorEq, ↓reduceIte, Nat.reduceBEq, Int.reduceLT, Int.reduceLE, Int.reduceEq, Int.reduceBEq, Int.reduceBNe, Nat.reduceLT, Nat.reduceMul]
  obtain ⟨k2, hk2, h⟩ := withK_lk1 h
  try simp only [go_sem, Nat.reduceAdd, Nat.reduceEqDiff, Nat.reduceLeDiff, Nat.reduceSub, reduceCtorEq, ↓reduceIte, Nat.reduceBEq, Int.reduceLT, Int.reduceLE, Int.reduceEq, Int.reduceBEq, Int.reduceBNe, Nat.reduceLT, Nat.reduceMul]
  refine join_lk Try.prog G _ _ (B := Bool) (fun b => k2 b = some r) (fun b => [(2, .one (.d (.b b)))]) (fun b => []) ?_ (fun b1_1 h => ?_)
  · rcases of_if h with ⟨hb3, h⟩ | ⟨hb3, h⟩
    · have hkhb3 := of_decide_eq_true hb3
      try simp only [hb3, hkhb3, go_sem, Nat.reduceAdd, Nat.reduceEqDiff, Nat.reduceLeDiff, Nat.reduceSub, reduceCtorEq, ↓reduceIte, Nat.reduceBEq, Int.reduceLT, Int.reduceLE, Int.reduceEq, Int.reduceBEq, Int.reduceBNe, Nat.reduceLT, Nat.reduceMul]
      exact joinQ_i (true) h [] rfl (by simp only [hb3, hkhb3, go_sem, Nat.reduceAdd, Nat.reduceEqDiff, Nat.reduceLeDiff, Nat.reduceSub, reduceCtorEq, ↓reduceIte, Nat.reduceBEq, Int.reduceLT, Int.reduceLE, Int.reduceEq, Int.reduceBEq, Int.reduceBNe, Nat.reduceLT, Nat.reduceMul, slotsWk, objsWk, objWk, optVOWk, SV.wk, SC.wk, cellsWk, VO.wk, Ptr.wk, ptrsWk, SC.isNl, List.map_append, List.map_cons, List.map_nil, Option.some.injEq, Prod.mk.injEq, SC.d.injEq, D.l.injEq, List.map_set]) (by simp only [hb3, hkhb3, go_sem, Nat.reduceAdd, Nat.reduceEqDiff, Nat.reduceLeDiff, Nat.reduceSub, reduceCtorEq, ↓reduceIte, Nat.reduceBEq, Int.reduceLT, Int.reduceLE, Int.reduceEq, Int.reduceBEq, Int.reduceBNe, Nat.reduceLT, Nat.reduceMul, slotsWk, objsWk, objWk, optVOWk, SV.wk, SC.wk, cellsWk, VO.wk, Ptr.wk, ptrsWk, SC.isNl, List.map_append, List.map_cons, List.map_nil, Option.some.injEq, Prod.mk.injEq, SC.d.injEq, D.l.injEq, List.map_set])
    · try simp only [hb3, go_sem, Nat.reduceAdd, Nat.reduceEqDiff, Nat.reduceLeDiff, Nat.reduceSub, reduceCtorEq, ↓reduceIte, Nat.reduceBEq, Int.reduceLT, Int.reduceLE, Int.reduceEq, Int.reduceBEq, Int.reduceBNe, Nat.reduceLT, Nat.reduceMul]
      exact joinQ_i (decide (p0 > 6000)) h [] rfl (by simp only [hb3, go_sem, Nat.reduceAdd, Nat.reduceEqDiff, Nat.reduceLeDiff, Nat.reduceSub, reduceCtorEq, ↓reduceIte, Nat.reduceBEq, Int.reduceLT, Int.reduceLE, Int.reduceEq, Int.reduceBEq, Int.reduceBNe, Nat.reduceLT, Nat.reduceMul, slotsWk, objsWk, objWk, optVOWk, SV.wk, SC.wk, cellsWk, VO.wk, Ptr.wk, ptrsWk, SC.isNl, List.map_append, List.map_cons, List.map_nil, Option.some.injEq, Prod.mk.injEq, SC.d.injEq, D.l.injEq, List.map_set]) (by simp only [hb3, go_sem, Nat.reduceAdd, Nat.reduceEqDiff, Nat.reduceLeDiff, Nat.reduceSub, reduceCtorEq, ↓reduceIte, Nat.reduceBEq, Int.reduceLT, Int.reduceLE, Int.reduceEq, Int.reduceBEq, Int.reduceBNe, Nat.reduceLT, Nat.reduceMul, slotsWk, objsWk, objWk, optVOWk, SV.wk, SC.wk, cellsWk, VO.wk, Ptr.wk, ptrsWk, SC.isNl, List.map_append, List.map_cons, List.map_nil, Option.some.injEq, Prod.mk.injEq, SC.d.injEq, D.l.injEq, List.map_set])
  · try dsimp only at h
    rw [hk2] at h
    simp only [Option.some.injEq] at h
    subst h
    try simp only [go_sem, Nat.reduceAdd, Nat.reduceEqDiff, Nat.reduceLeDiff, Nat.reduceSub, reduceCtorEq, ↓reduceIte, Nat.reduceBEq, Int.reduceLT, Int.reduceLE, Int.reduceEq, Int.reduceBEq, Int.reduceBNe, Nat.reduceLT, Nat.reduceMul, List.map_append, List.map_cons, List.map_nil, List.map_set]
def lines_numbers (p0 : Config) (p1 : Act) : Option (Bool) := (if (decide (p1.Site < 0)) = true then (some false) else (if (decide (p1.Site ≥ p0.Sites)) = true then (some false) else (if (decide (p1.To < 0)) = true then (some false) else (if (decide (p1.To ≥ p0.Sites)) = true then (some false) else (if (decide (p1.Label < 0)) = true then (some false) else (if (decide (p1.Label ≥ ((p0.Labels.length : Nat) : Int))) = true then (some false) else (if (decide (p1.Pick < 0)) = true then (some false) else (if (decide (p1.Pick > 1048576)) = true then (some false) else (if (decide (p1.Keep.length > p0.Labels.length)) = true then (some false) else (if (decide (((p1.Line.size : Nat) : Int) > 60)) = true then (some false) else (Option.bind (slices_ContainsFunc_int p1.Keep (fun y14 => lines_numbers_1 y14)) fun v15 => (some (!v15)))))))))))))
def F35 : VFn := ⟨69, (.seq (.reg [⟨(some 2), .box 3 (.t 0), none⟩, ⟨(some 3), .box 12 (.t 1), none⟩, ⟨(some 4), .mv (.c (.one (.d (.b false)))), none⟩]) (.seq (.seq (.reg [⟨(some 5), .fa 1 (.t 3), none⟩, ⟨(some 6), .ld false 1 (.t 5), none⟩, ⟨(some 7), .bin .i .lss (.t 6) (.c (.one (.d (.i .i64 0)))), none⟩, ⟨(some 8), .mv (.t 7), none⟩, ⟨(some 9), .fa 1 (.t 3), (some (8, false))⟩, ⟨(some 10), .ld false 1 (.t 9), (some (8, false))⟩, ⟨(some 11), .fa 0 (.t 2), (some (8, false))⟩, ⟨(some 12), .ld false 1 (.t 11), (some (8, false))⟩, ⟨(some 13), .bin .i .geq (.t 10) (.t 12), (some (8, false))⟩, ⟨(some 14), .pick (.t 8) (.c (.one (.d (.b true)))) (.t 13), none⟩, ⟨(some 15), .mv (.t 14), none⟩, ⟨(some 16), .fa 2 (.t 3), (some (15, false))⟩, ⟨(some 17), .ld false 1 (.t 16), (some (15, false))⟩, ⟨(some 18), .bin .i .lss (.t 17) (.c (.one (.d (.i .i64 0)))), (some (15, false))⟩, ⟨(some 19), .pick (.t 15) (.c (.one (.d (.b true)))) (.t 18), none⟩, ⟨(some 20), .mv (.t 19), none⟩, ⟨(some 21), .fa 2 (.t 3), (some (20, false))⟩, ⟨(some 22), .ld false 1 (.t 21), (some (20, false))⟩, ⟨(some 23), .fa 0 (.t 2), (some (20, false))⟩, ⟨(some 24), .ld false 1 (.t 23), (some (20, false))⟩, ⟨(some 25), .bin .i .geq (.t 22) (.t 24), (some (20, false))⟩, ⟨(some 26), .pick (.t 20) (.c (.one (.d (.b true)))) (.t 25), none⟩, ⟨(some 27), .mv (.t 26), none⟩, ⟨(some 28), .fa 3 (.t 3), (some (27, false))⟩, ⟨(some 29), .ld false 1 (.t 28), (some (27, false))⟩, ⟨(some 30), .bin .i .lss (.t 29) (.c (.one (.d (.i .i64 0)))), (some (27, false))⟩, ⟨(some 31), .pick (.t 27) (.c (.one (.d (.b true)))) (.t 30), none⟩, ⟨(some 32), .mv (.t 31), none⟩, ⟨(some 33), .fa 3 (.t 3), (some (32, false))⟩, ⟨(some 34), .ld false 1 (.t 33), (some (32, false))⟩, ⟨(some 35), .fa 1 (.t 2), (some (32, false))⟩, ⟨(some 36), .ld false 1 (.t 35), (some (32, false))⟩, ⟨(some 37), .len (.t 36), (some (32, false))⟩, ⟨(some 38), .bin .i .geq (.t 34) (.t 37), (some (32, false))⟩, ⟨(some 39), .pick (.t 32) (.c (.one (.d (.b true)))) (.t 38), none⟩, ⟨(some 40), .mv (.t 39), none⟩, ⟨(some 41), .fa 4 (.t 3), (some (40, false))⟩, ⟨(some 42), .ld false 1 (.t 41), (some (40, false))⟩, ⟨(some 43), .bin .i .lss (.t 42) (.c (.one (.d (.i .i64 0)))), (some (40, false))⟩, ⟨(some 44), .pick (.t 40) (.c (.one (.d (.b true)))) (.t 43), none⟩, ⟨(some 45), .mv (.t 44), none⟩, ⟨(some 46), .fa 4 (.t 3), (some (45, false))⟩, ⟨(some 47), .ld false 1 (.t 46), (some (45, false))⟩, ⟨(some 48), .bin .i .gtr (.t 47) (.c (.one (.d (.i .i64 1048576)))), (some (45, false))⟩, ⟨(some 49), .pick (.t 45) (.c (.one (.d (.b true)))) (.t 48), none⟩, ⟨(some 50), .mv (.t 49), none⟩, ⟨(some 51), .fa 5 (.t 3), (some (50, false))⟩, ⟨(some 52), .ld false 1 (.t 51), (some (50, false))⟩, ⟨(some 53), .len (.t 52), (some (50, false))⟩, ⟨(some 54), .fa 1 (.t 2), (some (50, false))⟩, ⟨(some 55), .ld false 1 (.t 54), (some (50, false))⟩, ⟨(some 56), .len (.t 55), (some (50, false))⟩, ⟨(some 57), .bin .i .gtr (.t 53) (.t 56), (some (50, false))⟩, ⟨(some 58), .pick (.t 50) (.c (.one (.d (.b true)))) (.t 57), none⟩, ⟨(some 59), .mv (.t 58), none⟩, ⟨(some 60), .fa 11 (.t 3), (some (59, false))⟩, ⟨(some 61), .ld false 1 (.t 60), (some (59, false))⟩, ⟨(some 62), .lens (.t 61), (some (59, false))⟩, ⟨(some 63), .bin .i .gtr (.t 62) (.c (.one (.d (.i .i64 60)))), (some (59, false))⟩, ⟨(some 64), .pick (.t 59) (.c (.one (.d (.b true)))) (.t 63), none⟩]) (.cond (.t 64) (.seq (.reg [⟨(some 4), .mv (.c (.one (.d (.b false)))), none⟩]) .ret) .skip)) (.seq (.reg [⟨(some 65), .fa 5 (.t 3), none⟩, ⟨(some 66), .ld false 1 (.t 65), none⟩, ⟨(some 67), .call 56 [(.t 66), (.fn 57)], none⟩, ⟨(some 68), .un .not (.t 67), none⟩, ⟨(some 4), .mv (.t 68), none⟩]) .ret))), [.t 4]⟩
theorem low35 : lowF Try.prog 35 = some F35.strip := by kernel_rfl
theorem fok35 : fOk Try.prog 35 = true := by kernel_rfl
theorem lines_numbers_ok (G : Nat → Option (List D)) (p0 : Config) (p1 : Act) (r : Bool) (h : lines_numbers p0 p1 = some r) : FnRO Try.prog G 35 [.agg [.d (.i .i64 p0.Sites), .d (.l 2 (p0.Labels.map Label.enc)), .d (.i .i64 p0.Patience)], .agg [.d (.i .i64 p1.Kind), .d (.i .i64 p1.Site), .d (.i .i64 p1.To), .d (.i .i64 p1.Label), .d (.i .i64 p1.Pick), .d (.l 1 (p1.Keep.map encI)), .d (.i .i64 p1.Call.Kind), .d (.i .i64 p1.Call.N), .d (.i .i64 p1.Call.Label), .d (.i .i64 p1.Call.Key), .d (.i .i64 p1.Call.Value), .d (.s p1.Line)]] (fun rs => rs = [.one (.b r)]) := by
  refine FnRO.of' low35 fok35 (by simp [F35]) ?_
  rw [lines_numbers] at h
  simp only [F35, go_sem, Nat.reduceAdd, Nat.reduceEqDiff, Nat.reduceLeDiff, Nat.reduceSub, reduceCtorEq, ↓reduceIte, Nat.reduceBEq, Int.reduceLT, Int.reduceLE, Int.reduceEq, Int.reduceBEq, Int.reduceBNe, Nat.reduceLT, Nat.reduceMul]
  rcases of_if h with ⟨hb1, h⟩ | ⟨hb1, h⟩
  · have hkhb1 := of_decide_eq_true hb1
    simp only [Option.some.injEq] at h
    subst h
    try simp only [hb1, hkhb1, go_sem, Nat.reduceAdd, Nat.reduceEqDiff, Nat.reduceLeDiff, Nat.reduceSub, reduceCtorEq, ↓reduceIte, Nat.reduceBEq, Int.reduceLT, Int.reduceLE, Int.reduceEq, Int.reduceBEq, Int.reduceBNe, Nat.reduceLT, Nat.reduceMul, List.map_append, List.map_cons, List.map_nil, List.map_set]
  · rcases of_if h with ⟨hb2, h⟩ | ⟨hb2, h⟩
    · simp only [Option.some.injEq] at h
      subst h
      try simp only [hb1, hb2, go_sem, Nat.reduceAdd, Nat.reduceEqDiff, Nat.reduceLeDiff, Nat.reduceSub, reduceCtorEq, ↓reduceIte, Nat.reduceBEq, Int.reduceLT, Int.reduceLE, Int.reduceEq, Int.reduceBEq, Int.reduceBNe, Nat.reduceLT, Nat.reduceMul, List.map_append, List.map_cons, List.map_nil, List.map_set]
    · rcases of_if h with ⟨hb3, h⟩ | ⟨hb3, h⟩
      · have hkhb3 := of_decide_eq_true hb3
        simp only [Option.some.injEq] at h
        subst h
        try simp only [hb1, hb2, hb3, hkhb3, go_sem, Nat.reduceAdd, Nat.reduceEqDiff, Nat.reduceLeDiff, Nat.reduceSub, reduceCtorEq, ↓reduceIte, Nat.reduceBEq, Int.reduceLT, Int.reduceLE, Int.reduceEq, Int.reduceBEq, Int.reduceBNe, Nat.reduceLT, Nat.reduceMul, List.map_append, List.map_cons, List.map_nil, List.map_set]
      · rcases of_if h with ⟨hb4, h⟩ | ⟨hb4, h⟩
        · simp only [Option.some.injEq] at h
          subst h
          try simp only [hb1, hb2, hb3, hb4, go_sem, Nat.reduceAdd, Nat.reduceEqDiff, Nat.reduceLeDiff, Nat.reduceSub, reduceCtorEq, ↓reduceIte, Nat.reduceBEq, Int.reduceLT, Int.reduceLE, Int.reduceEq, Int.reduceBEq, Int.reduceBNe, Nat.reduceLT, Nat.reduceMul, List.map_append, List.map_cons, List.map_nil, List.map_set]
        · rcases of_if h with ⟨hb5, h⟩ | ⟨hb5, h⟩
          · have hkhb5 := of_decide_eq_true hb5
            simp only [Option.some.injEq] at h
            subst h
            try simp only [hb1, hb2, hb3, hb4, hb5, hkhb5, go_sem, Nat.reduceAdd, Nat.reduceEqDiff, Nat.reduceLeDiff, Nat.reduceSub, reduceCtorEq, ↓reduceIte, Nat.reduceBEq, Int.reduceLT, Int.reduceLE, Int.reduceEq, Int.reduceBEq, Int.reduceBNe, Nat.reduceLT, Nat.reduceMul, List.map_append, List.map_cons, List.map_nil, List.map_set]
          · try simp only [hb1, hb2, hb3, hb4, hb5, go_sem, Nat.reduceAdd, Nat.reduceEqDiff, Nat.reduceLeDiff, Nat.reduceSub, reduceCtorEq, ↓reduceIte, Nat.reduceBEq, Int.reduceLT, Int.reduceLE, Int.reduceEq, Int.reduceBEq, Int.reduceBNe, Nat.reduceLT, Nat.reduceMul]
            intro hl6
            rcases of_if h with ⟨hb7, h⟩ | ⟨hb7, h⟩
            · simp only [Option.some.injEq] at h
              subst h
              try simp only [hb1, hb2, hb3, hb4, hb5, hb7, go_sem, Nat.reduceAdd, Nat.reduceEqDiff, Nat.reduceLeDiff, Nat.reduceSub, reduceCtorEq, ↓reduceIte, Nat.reduceBEq, Int.reduceLT, Int.reduceLE, Int.reduceEq, Int.reduceBEq, Int.reduceBNe, Nat.reduceLT, Nat.reduceMul, List.map_append, List.map_cons, List.map_nil, List.map_set]
            · rcases of_if h with ⟨hb8, h⟩ | ⟨hb8, h⟩
              · have hkhb8 := of_decide_eq_true hb8
                simp only [Option.some.injEq] at h
                subst h
                try simp only [hb1, hb2, hb3, hb4, hb5, hb7, hb8, hkhb8, go_sem, Nat.reduceAdd, Nat.reduceEqDiff, Nat.reduceLeDiff, Nat.reduceSub, reduceCtorEq, ↓reduceIte, Nat.reduceBEq, Int.reduceLT, Int.reduceLE, Int.reduceEq, Int.reduceBEq, Int.reduceBNe, Nat.reduceLT, Nat.reduceMul, List.map_append, List.map_cons, List.map_nil, List.map_set]
              · rcases of_if h with ⟨hb9, h⟩ | ⟨hb9, h⟩
                · simp only [Option.some.injEq] at h
                  subst h
                  try simp only [hb1, hb2, hb3, hb4, hb5, hb7, hb8, hb9, go_sem, Nat.reduceAdd, Nat.reduceEqDiff, Nat.reduceLeDiff, Nat.reduceSub, reduceCtorEq, ↓reduceIte, Nat.reduceBEq, Int.reduceLT, Int.reduceLE, Int.reduceEq, Int.reduceBEq, Int.reduceBNe, Nat.reduceLT, Nat.reduceMul, List.map_append, List.map_cons, List.map_nil, List.map_set]
                · try simp only [hb1, hb2, hb3, hb4, hb5, hb7, hb8, hb9, go_sem, Nat.reduceAdd, Nat.reduceEqDiff, Nat.reduceLeDiff, Nat.reduceSub, reduceCtorEq, ↓reduceIte, Nat.reduceBEq, Int.reduceLT, Int.reduceLE, Int.reduceEq, Int.reduceBEq, Int.reduceBNe, Nat.reduceLT, Nat.reduceMul]
                  intro hl10
                  try simp only [hb1, hb2, hb3, hb4, hb5, hb7, hb8, hb9, go_sem, Nat.reduceAdd, Nat.reduceEqDiff, Nat.reduceLeDiff, Nat.reduceSub, reduceCtorEq, ↓reduceIte, Nat.reduceBEq, Int.reduceLT, Int.reduceLE, Int.reduceEq, Int.reduceBEq, Int.reduceBNe, Nat.reduceLT, Nat.reduceMul]
                  intro hl11
                  rcases of_if h with ⟨hb12, h⟩ | ⟨hb12, h⟩
                  · simp only [Option.some.injEq] at h
                    subst h
                    try simp only [hb1, hb2, hb3, hb4, hb5, hb7, hb8, hb9, hb12, go_sem, Nat.reduceAdd, Nat.reduceEqDiff, Nat.reduceLeDiff, Nat.reduceSub, reduceCtorEq, ↓reduceIte, Nat.reduceBEq, Int.reduceLT, Int.reduceLE, Int.reduceEq, Int.reduceBEq, Int.reduceBNe, Nat.reduceLT, Nat.reduceMul, List.map_append, List.map_cons, List.map_nil, List.map_set]
                  · rcases of_if h with ⟨hb13, h⟩ | ⟨hb13, h⟩
                    · simp only [Option.some.injEq] at h
                      subst h
                      try simp only [hb1, hb2, hb3, hb4, hb5, hb7, hb8, hb9, hb12, hb13, go_sem, Nat.reduceAdd, Nat.reduceEqDiff, Nat.reduceLeDiff, Nat.reduceSub, reduceCtorEq, ↓reduceIte, Nat.reduceBEq, Int.reduceLT, Int.reduceLE, Int.reduceEq, Int.reduceBEq, Int.reduceBNe, Nat.reduceLT, Nat.reduceMul, List.map_append, List.map_cons, List.map_nil, List.map_set]
                    · obtain ⟨v15, hv15, h⟩ := Option.bind_eq_some_iff.1 h
                      try simp only [hb1, hb2, hb3, hb4, hb5, hb7, hb8, hb9, hb12, hb13, go_sem, Nat.reduceAdd, Nat.reduceEqDiff, Nat.reduceLeDiff, Nat.reduceSub, reduceCtorEq, ↓reduceIte, Nat.reduceBEq, Int.reduceLT, Int.reduceLE, Int.reduceEq, Int.reduceBEq, Int.reduceBNe, Nat.reduceLT, Nat.reduceMul]
                      refine CallV.ro false (slices_ContainsFunc_int_ok G p1.Keep (fun y14 => lines_numbers_1 y14) 57 [] (fun y14 r h => lines_numbers_1_ok G y14 r h) v15 hv15) (by first | rfl | simp only [hb1, hb2, hb3, hb4, hb5, hb7, hb8, hb9, hb12, hb13, go_sem, Nat.reduceAdd, Nat.reduceEqDiff, Nat.reduceLeDiff, Nat.reduceSub, reduceCtorEq, ↓reduceIte, Nat.reduceBEq, Int.reduceLT, Int.reduceLE, Int.reduceEq, Int.reduceBEq, Int.reduceBNe, Nat.reduceLT, Nat.reduceMul, inVs_caps]) ?_
                      rintro rs rfl
                      refine ⟨.inl rfl, ?_⟩
                      simp only [Option.some.injEq] at h
                      subst h
                      try simp only [hb1, hb2, hb3, hb4, hb5, hb7, hb8, hb9, hb12, hb13, go_sem, Nat.reduceAdd, Nat.reduceEqDiff, Nat.reduceLeDiff, Nat.reduceSub, reduceCtorEq, ↓reduceIte, Nat.reduceBEq, Int.reduceLT, Int.reduceLE, Int.reduceEq, Int.reduceBEq, Int.reduceBNe, Nat.reduceLT, Nat.reduceMul, List.map_append, List.map_cons, List.map_nil, List.map_set]
end Go.V.Dec
