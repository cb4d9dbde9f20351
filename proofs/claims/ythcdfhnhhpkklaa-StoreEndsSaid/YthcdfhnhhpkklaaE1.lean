/- What Go's functions come to, as plain functions: part 1; no condition. -/
import Derived.Test.YthcdfhnhhpkklaaRows
import Derived.Test.YthcdfhnhhpkklaaVI
set_option linter.unusedVariables false
set_option linter.unusedSimpArgs false
namespace Go.V.Dec
open Go Go.Proofs
set_option maxRecDepth 100000
set_option maxHeartbeats 4000000
structure Item where
  Key : Int
  Value : Int
  Version : Int
  deriving Inhabited
def Item.enc (x : Item) : List D := [.i .i64 x.Key, .i .i64 x.Value, .i .i64 x.Version]
def Item.encO (x : Item) : List D := [.i .i64 x.Key, .i .i64 x.Value, .i .i64 x.Version]
structure Txn where
  Site : Int
  N : Int
  deriving Inhabited
def Txn.enc (x : Txn) : List D := [.i .i64 x.Site, .i .i64 x.N]
def Txn.encO (x : Txn) : List D := [.i .i64 x.Site, .i .i64 x.N]
structure Lock where
  Txn : Txn
  Key : Int
  Write : Bool
  Value : Int
  Ask : Int
  deriving Inhabited
def Lock.enc (x : Lock) : List D := [.i .i64 x.Txn.Site, .i .i64 x.Txn.N, .i .i64 x.Key, .b x.Write, .i .i64 x.Value, .i .i64 x.Ask]
def Lock.encO (x : Lock) : List D := [.i .i64 x.Txn.Site, .i .i64 x.Txn.N, .i .i64 x.Key, .b x.Write, .i .i64 x.Value, .i .i64 x.Ask]
structure Doubt where
  Txn : Txn
  Age : Int
  deriving Inhabited
def Doubt.enc (x : Doubt) : List D := [.i .i64 x.Txn.Site, .i .i64 x.Txn.N, .i .i64 x.Age]
def Doubt.encO (x : Doubt) : List D := [.i .i64 x.Txn.Site, .i .i64 x.Txn.N, .i .i64 x.Age]
structure Store where
  Items : List Item
  Locks : List Lock
  Doubts : List Doubt
  Over : List Txn
  deriving Inhabited
def Store.enc (x : Store) : List D := [.l 3 (x.Items.map Item.enc), .l 6 (x.Locks.map Lock.enc), .l 3 (x.Doubts.map Doubt.enc), .l 2 (x.Over.map Txn.enc)]
def Store.encO (x : Store) : List D := [.o 3 (x.Items.map Item.enc), .o 6 (x.Locks.map Lock.enc), .o 3 (x.Doubts.map Doubt.enc), .o 2 (x.Over.map Txn.enc)]
attribute [go_sem] encI Item.enc Item.encO Txn.enc Txn.encO Lock.enc Lock.encO Doubt.enc Doubt.encO Store.enc Store.encO
def reredosref_StoreCopy_L1 (p0 : Store) (k2 : (List Item) → Option (Store)) : Nat → Nat → (List Item) → Option (Store)
  | 0, _, _ => none
  | n4 + 1, a3_1, a3_2 => (if (decide (a3_1 < p0.Items.length)) = true then (Option.bind (p0.Items[a3_1]?) fun x7 => (if fits 24 (a3_2.length + 1) then (reredosref_StoreCopy_L1 p0 k2 n4 (a3_1 + 1) (a3_2 ++ [x7])) else none)) else (k2 a3_2))
def reredosref_StoreCopy_L2 (p0 : Store) (k11 : (List Lock) → Option (Store)) : Nat → Nat → (List Lock) → Option (Store)
  | 0, _, _ => none
  | n13 + 1, a12_1, a12_2 => (if (decide (a12_1 < p0.Locks.length)) = true then (Option.bind (p0.Locks[a12_1]?) fun x16 => (if fits 48 (a12_2.length + 1) then (reredosref_StoreCopy_L2 p0 k11 n13 (a12_1 + 1) (a12_2 ++ [x16])) else none)) else (k11 a12_2))
def reredosref_StoreCopy_L3 (p0 : Store) (k20 : (List Doubt) → Option (Store)) : Nat → Nat → (List Doubt) → Option (Store)
  | 0, _, _ => none
  | n22 + 1, a21_1, a21_2 => (if (decide (a21_1 < p0.Doubts.length)) = true then (Option.bind (p0.Doubts[a21_1]?) fun x25 => (if fits 24 (a21_2.length + 1) then (reredosref_StoreCopy_L3 p0 k20 n22 (a21_1 + 1) (a21_2 ++ [x25])) else none)) else (k20 a21_2))
def reredosref_StoreCopy_L4 (p0 : Store) (k29 : (List Txn) → Option (Store)) : Nat → Nat → (List Txn) → Option (Store)
  | 0, _, _ => none
  | n31 + 1, a30_1, a30_2 => (if (decide (a30_1 < p0.Over.length)) = true then (Option.bind (p0.Over[a30_1]?) fun x34 => (if fits 16 (a30_2.length + 1) then (reredosref_StoreCopy_L4 p0 k29 n31 (a30_1 + 1) (a30_2 ++ [x34])) else none)) else (k29 a30_2))
def reredosref_StoreCopy (p0 : Store) : Option (Store) := (withK (fun (b1_1 : List Item) => (withK (fun (b10_1 : List Lock) => (withK (fun (b19_1 : List Doubt) => (withK (fun (b28_1 : List Txn) => (some (Store.mk b1_1 b10_1 b19_1 b28_1))) fun k29 => (reredosref_StoreCopy_L4 p0 k29 (p0.Over.length + 1) 0 []))) fun k20 => (reredosref_StoreCopy_L3 p0 k20 (p0.Doubts.length + 1) 0 []))) fun k11 => (reredosref_StoreCopy_L2 p0 k11 (p0.Locks.length + 1) 0 []))) fun k2 => (reredosref_StoreCopy_L1 p0 k2 (p0.Items.length + 1) 0 []))
def F12 : VFn := ⟨78, (.seq (.reg [⟨(some 1), .box 4 (.t 0), none⟩, ⟨(some 2), .alloc [(.nl 3), (.nl 6), (.nl 3), (.nl 2)], none⟩]) (.seq (.reg [⟨(some 8), .build [(.nl 3), (.nl 6), (.nl 3), (.nl 2)] [], none⟩, ⟨(some 3), .alloc [(.nl 3), (.nl 6), (.nl 3), (.nl 2)], none⟩, ⟨none, .st 4 (.t 3) (.t 8), none⟩]) (.seq (.seq (.reg [⟨(some 4), .mv (.c (.one (.d (.i .i64 0)))), none⟩]) (.wk (.block 0 (.loop (.seq (.seq (.reg [⟨(some 9), .mv (.t 4), none⟩, ⟨(some 10), .fa 0 (.t 1), none⟩, ⟨(some 11), .ld false 1 (.t 10), none⟩, ⟨(some 12), .len (.t 11), none⟩, ⟨(some 13), .bin .i .lss (.t 9) (.t 12), none⟩]) (.cond (.t 13) .skip (.exit 0))) (.seq (.block 1 (.draw [⟨⟨(some 16), .fa 0 (.t 3), none⟩, [], [], none, []⟩, ⟨⟨(some 17), .ld false 1 (.t 16), none⟩, [0], [], none, []⟩, ⟨⟨(some 18), .fa 0 (.t 1), none⟩, [], [], none, []⟩, ⟨⟨(some 19), .ld false 1 (.t 18), none⟩, [2], [], none, []⟩, ⟨⟨(some 20), .mv (.t 4), none⟩, [], [], none, []⟩, ⟨⟨(some 21), .ia 3 (.t 19) (.t 20), none⟩, [3, 2, 4], [], none, []⟩, ⟨⟨(some 22), .ld true 3 (.t 21), none⟩, [5, 3, 2, 4], [], none, []⟩, ⟨⟨(some 23), .bsl 3 1 [(.d (.i .i64 0)), (.d (.i .i64 0)), (.d (.i .i64 0))] [(0, (.t 22))], none⟩, [6, 5, 3, 2, 4], [], none, []⟩, ⟨⟨(some 24), .app 3 24 (.t 17) (.t 23), none⟩, [1, 0, 7, 6, 5, 3, 2, 4], [], none, []⟩, ⟨⟨(some 25), .fa 0 (.t 3), none⟩, [0, 1, 2, 3, 4, 5, 6, 7, 8], [], none, []⟩, ⟨⟨none, .st 1 (.t 25) (.t 24), none⟩, [9, 0, 1, 2, 3, 4, 5, 6, 7, 8], [], none, []⟩])) (.reg [⟨(some 14), .mv (.t 4), none⟩, ⟨(some 15), .bin .i .add (.t 14) (.c (.one (.d (.i .i64 1)))), none⟩, ⟨(some 4), .mv (.t 15), none⟩]))))))) (.seq (.seq (.reg [⟨(some 5), .mv (.c (.one (.d (.i .i64 0)))), none⟩]) (.wk (.block 2 (.loop (.seq (.seq (.reg [⟨(some 26), .mv (.t 5), none⟩, ⟨(some 27), .fa 1 (.t 1), none⟩, ⟨(some 28), .ld false 1 (.t 27), none⟩, ⟨(some 29), .len (.t 28), none⟩, ⟨(some 30), .bin .i .lss (.t 26) (.t 29), none⟩]) (.cond (.t 30) .skip (.exit 2))) (.seq (.block 3 (.draw [⟨⟨(some 33), .fa 1 (.t 3), none⟩, [], [], none, []⟩, ⟨⟨(some 34), .ld false 1 (.t 33), none⟩, [0], [], none, []⟩, ⟨⟨(some 35), .fa 1 (.t 1), none⟩, [], [], none, []⟩, ⟨⟨(some 36), .ld false 1 (.t 35), none⟩, [2], [], none, []⟩, ⟨⟨(some 37), .mv (.t 5), none⟩, [], [], none, []⟩, ⟨⟨(some 38), .ia 6 (.t 36) (.t 37), none⟩, [3, 2, 4], [], none, []⟩, ⟨⟨(some 39), .ld true 6 (.t 38), none⟩, [5, 3, 2, 4], [], none, []⟩, ⟨⟨(some 40), .bsl 6 1 [(.d (.i .i64 0)), (.d (.i .i64 0)), (.d (.i .i64 0)), (.d (.b false)), (.d (.i .i64 0)), (.d (.i .i64 0))] [(0, (.t 39))], none⟩, [6, 5, 3, 2, 4], [], none, []⟩, ⟨⟨(some 41), .app 6 48 (.t 34) (.t 40), none⟩, [1, 0, 7, 6, 5, 3, 2, 4], [], none, []⟩, ⟨⟨(some 42), .fa 1 (.t 3), none⟩, [0, 1, 2, 3, 4, 5, 6, 7, 8], [], none, []⟩, ⟨⟨none, .st 1 (.t 42) (.t 41), none⟩, [9, 0, 1, 2, 3, 4, 5, 6, 7, 8], [], none, []⟩])) (.reg [⟨(some 31), .mv (.t 5), none⟩, ⟨(some 32), .bin .i .add (.t 31) (.c (.one (.d (.i .i64 1)))), none⟩, ⟨(some 5), .mv (.t 32), none⟩]))))))) (.seq (.seq (.reg [⟨(some 6), .mv (.c (.one (.d (.i .i64 0)))), none⟩]) (.wk (.block 4 (.loop (.seq (.seq (.reg [⟨(some 43), .mv (.t 6), none⟩, ⟨(some 44), .fa 2 (.t 1), none⟩, ⟨(some 45), .ld false 1 (.t 44), none⟩, ⟨(some 46), .len (.t 45), none⟩, ⟨(some 47), .bin .i .lss (.t 43) (.t 46), none⟩]) (.cond (.t 47) .skip (.exit 4))) (.seq (.block 5 (.draw [⟨⟨(some 50), .fa 2 (.t 3), none⟩, [], [], none, []⟩, ⟨⟨(some 51), .ld false 1 (.t 50), none⟩, [0], [], none, []⟩, ⟨⟨(some 52), .fa 2 (.t 1), none⟩, [], [], none, []⟩, ⟨⟨(some 53), .ld false 1 (.t 52), none⟩, [2], [], none, []⟩, ⟨⟨(some 54), .mv (.t 6), none⟩, [], [], none, []⟩, ⟨⟨(some 55), .ia 3 (.t 53) (.t 54), none⟩, [3, 2, 4], [], none, []⟩, ⟨⟨(some 56), .ld true 3 (.t 55), none⟩, [5, 3, 2, 4], [], none, []⟩, ⟨⟨(some 57), .bsl 3 1 [(.d (.i .i64 0)), (.d (.i .i64 0)), (.d (.i .i64 0))] [(0, (.t 56))], none⟩, [6, 5, 3, 2, 4], [], none, []⟩, ⟨⟨(some 58), .app 3 24 (.t 51) (.t 57), none⟩, [1, 0, 7, 6, 5, 3, 2, 4], [], none, []⟩, ⟨⟨(some 59), .fa 2 (.t 3), none⟩, [0, 1, 2, 3, 4, 5, 6, 7, 8], [], none, []⟩, ⟨⟨none, .st 1 (.t 59) (.t 58), none⟩, [9, 0, 1, 2, 3, 4, 5, 6, 7, 8], [], none, []⟩])) (.reg [⟨(some 48), .mv (.t 6), none⟩, ⟨(some 49), .bin .i .add (.t 48) (.c (.one (.d (.i .i64 1)))), none⟩, ⟨(some 6), .mv (.t 49), none⟩]))))))) (.seq (.seq (.reg [⟨(some 7), .mv (.c (.one (.d (.i .i64 0)))), none⟩]) (.wk (.block 6 (.loop (.seq (.seq (.reg [⟨(some 60), .mv (.t 7), none⟩, ⟨(some 61), .fa 3 (.t 1), none⟩, ⟨(some 62), .ld false 1 (.t 61), none⟩, ⟨(some 63), .len (.t 62), none⟩, ⟨(some 64), .bin .i .lss (.t 60) (.t 63), none⟩]) (.cond (.t 64) .skip (.exit 6))) (.seq (.block 7 (.draw [⟨⟨(some 67), .fa 3 (.t 3), none⟩, [], [], none, []⟩, ⟨⟨(some 68), .ld false 1 (.t 67), none⟩, [0], [], none, []⟩, ⟨⟨(some 69), .fa 3 (.t 1), none⟩, [], [], none, []⟩, ⟨⟨(some 70), .ld false 1 (.t 69), none⟩, [2], [], none, []⟩, ⟨⟨(some 71), .mv (.t 7), none⟩, [], [], none, []⟩, ⟨⟨(some 72), .ia 2 (.t 70) (.t 71), none⟩, [3, 2, 4], [], none, []⟩, ⟨⟨(some 73), .ld true 2 (.t 72), none⟩, [5, 3, 2, 4], [], none, []⟩, ⟨⟨(some 74), .bsl 2 1 [(.d (.i .i64 0)), (.d (.i .i64 0))] [(0, (.t 73))], none⟩, [6, 5, 3, 2, 4], [], none, []⟩, ⟨⟨(some 75), .app 2 16 (.t 68) (.t 74), none⟩, [1, 0, 7, 6, 5, 3, 2, 4], [], none, []⟩, ⟨⟨(some 76), .fa 3 (.t 3), none⟩, [0, 1, 2, 3, 4, 5, 6, 7, 8], [], none, []⟩, ⟨⟨none, .st 1 (.t 76) (.t 75), none⟩, [9, 0, 1, 2, 3, 4, 5, 6, 7, 8], [], none, []⟩])) (.reg [⟨(some 65), .mv (.t 7), none⟩, ⟨(some 66), .bin .i .add (.t 65) (.c (.one (.d (.i .i64 1)))), none⟩, ⟨(some 7), .mv (.t 66), none⟩]))))))) (.seq (.reg [⟨(some 77), .ld true 4 (.t 3), none⟩, ⟨none, .st 4 (.t 2) (.t 77), none⟩]) .ret))))))), [.cell 2 true 4]⟩
theorem low12 : lowF Try.prog 12 = some F12.strip := by kernel_rfl
theorem fok12 : fOk Try.prog 12 = true := by kernel_rfl
theorem reredosref_StoreCopy_ok (G : Nat → Option (List D)) (p0 : Store) (r : Store) (h : reredosref_StoreCopy p0 = some r) : FnRO Try.prog G 12 [.agg [.d (.l 3 (p0.Items.map Item.enc)), .d (.l 6 (p0.Locks.map Lock.enc)), .d (.l 3 (p0.Doubts.map Doubt.enc)), .d (.l 2 (p0.Over.map Txn.enc))]] (fun rs => rs = [.agg (r.encO)]) := by
  refine FnRO.of' low12 fok12 (by simp [F12]) ?_
  rw [reredosref_StoreCopy] at h
  simp only [F12, go_sem, Nat.reduceAdd, Nat.reduceEqDiff, Nat.reduceLeDiff, Nat.reduceSub, reduceCtorEq, ↓reduceIte, Nat.reduceBEq, Int.reduceLT, Int.reduceLE, Int.reduceEq, Int.reduceBEq, Int.reduceBNe, Nat.reduceLT, Nat.reduceMul, Int.reduceToNat]
  obtain ⟨k2, hk2, h⟩ := withK_lk1 h
  try simp only [go_sem, Nat.reduceAdd, Nat.reduceEqDiff, Nat.reduceLeDiff, Nat.reduceSub, reduceCtorEq, ↓reduceIte, Nat.reduceBEq, Int.reduceLT, Int.reduceLE, Int.reduceEq, Int.reduceBEq, Int.reduceBNe, Nat.reduceLT, Nat.reduceMul, Int.reduceToNat]
  refine join_lk Try.prog G _ _ (B := (List Item)) (fun b => k2 b = some r) (fun b => [(1, .one (.p (.q 0 0 0))), (2, .one (.p (.q 1 0 0))), (3, .one (.p (.q 2 0 0)))]) (fun b => [some (.box [.d (.l 3 (p0.Items.map Item.enc)), .d (.l 6 (p0.Locks.map Lock.enc)), .d (.l 3 (p0.Doubts.map Doubt.enc)), .d (.l 2 (p0.Over.map Txn.enc))]), some (.box [.nl 3, .nl 6, .nl 3, .nl 2]), some (.box [.r 3 0 b.length, .nl 6, .nl 3, .nl 2]), some (.arr 3 (b.map Item.enc) false)]) ?_ (fun b1_1 h => ?_)
  · try simp only [go_sem, Nat.reduceAdd, Nat.reduceEqDiff, Nat.reduceLeDiff, Nat.reduceSub, reduceCtorEq, ↓reduceIte, Nat.reduceBEq, Int.reduceLT, Int.reduceLE, Int.reduceEq, Int.reduceBEq, Int.reduceBNe, Nat.reduceLT, Nat.reduceMul, Int.reduceToNat]
    refine loop_lk Try.prog G _ _ (A := Nat × (List Item)) (fun n a => reredosref_StoreCopy_L1 p0 k2 n a.1 a.2 = some r) (fun a => [(1, .one (.p (.q 0 0 0))), (2, .one (.p (.q 1 0 0))), (3, .one (.p (.q 2 0 0))), (4, .one (.d (.i .i64 ((a.1 : Nat) : Int))))]) (fun a => [some (.box [.d (.l 3 (p0.Items.map Item.enc)), .d (.l 6 (p0.Locks.map Lock.enc)), .d (.l 3 (p0.Doubts.map Doubt.enc)), .d (.l 2 (p0.Over.map Txn.enc))]), some (.box [.nl 3, .nl 6, .nl 3, .nl 2]), some (.box [.r 3 0 a.2.length, .nl 6, .nl 3, .nl 2]), some (.arr 3 (a.2.map Item.enc) false)]) (p0.Items.length + 1) (0, []) h (wk_c _ _ _ [some 0, some 1, some 2, none] rfl (by simp only [go_sem, Nat.reduceAdd, Nat.reduceEqDiff, Nat.reduceLeDiff, Nat.reduceSub, reduceCtorEq, ↓reduceIte, Nat.reduceBEq, Int.reduceLT, Int.reduceLE, Int.reduceEq, Int.reduceBEq, Int.reduceBNe, Nat.reduceLT, Nat.reduceMul, Int.reduceToNat, slotsWk, objsWk, objWk, optVOWk, SV.wk, SC.wk, cellsWk, VO.wk, Ptr.wk, ptrsWk, SC.isNl, List.map_append, List.map_cons, List.map_nil, Option.some.injEq, Prod.mk.injEq, SC.d.injEq, D.l.injEq, List.map_set])) (fun a h => by simp only [reredosref_StoreCopy_L1, reduceCtorEq] at h) ?_
    intro n4 a h
    obtain ⟨a3_1, a3_2⟩ := a
    try dsimp only at h
    rw [reredosref_StoreCopy_L1] at h
    try simp only [go_sem, Nat.reduceAdd, Nat.reduceEqDiff, Nat.reduceLeDiff, Nat.reduceSub, reduceCtorEq, ↓reduceIte, Nat.reduceBEq, Int.reduceLT, Int.reduceLE, Int.reduceEq, Int.reduceBEq, Int.reduceBNe, Nat.reduceLT, Nat.reduceMul, Int.reduceToNat]
    intro hl5
    rcases of_if h with ⟨hb6, h⟩ | ⟨hb6, h⟩
    · have hkhb6 := of_decide_eq_true hb6
      obtain ⟨x7, hx7, h⟩ := Option.bind_eq_some_iff.1 h
      have hkx7 := (List.getElem?_eq_some_iff.1 hx7).1
      try simp only [List.length_take, List.length_drop, List.length_append, List.length_set, List.length_map, List.length_cons, List.length_nil, Nat.zero_add] at hkx7
      obtain ⟨hf8, h⟩ := of_chk h
      have hw9 := wrap_succ_max hkx7 hl5
      try simp only [hb6, hkhb6, hx7, hkx7, hf8, hw9, go_sem, Nat.reduceAdd, Nat.reduceEqDiff, Nat.reduceLeDiff, Nat.reduceSub, reduceCtorEq, ↓reduceIte, Nat.reduceBEq, Int.reduceLT, Int.reduceLE, Int.reduceEq, Int.reduceBEq, Int.reduceBNe, Nat.reduceLT, Nat.reduceMul, Int.reduceToNat]
      exact loopQ_c (a3_1 + 1, (a3_2 ++ [x7])) h [some 0, some 1, some 2, some 12] rfl (by simp only [hb6, hkhb6, hx7, hkx7, hf8, hw9, go_sem, Nat.reduceAdd, Nat.reduceEqDiff, Nat.reduceLeDiff, Nat.reduceSub, reduceCtorEq, ↓reduceIte, Nat.reduceBEq, Int.reduceLT, Int.reduceLE, Int.reduceEq, Int.reduceBEq, Int.reduceBNe, Nat.reduceLT, Nat.reduceMul, Int.reduceToNat, slotsWk, objsWk, objWk, optVOWk, SV.wk, SC.wk, cellsWk, VO.wk, Ptr.wk, ptrsWk, SC.isNl, List.map_append, List.map_cons, List.map_nil, Option.some.injEq, Prod.mk.injEq, SC.d.injEq, D.l.injEq, List.map_set])
    · try simp only [hb6, go_sem, Nat.reduceAdd, Nat.reduceEqDiff, Nat.reduceLeDiff, Nat.reduceSub, reduceCtorEq, ↓reduceIte, Nat.reduceBEq, Int.reduceLT, Int.reduceLE, Int.reduceEq, Int.reduceBEq, Int.reduceBNe, Nat.reduceLT, Nat.reduceMul, Int.reduceToNat]
      exact joinQ_c (a3_2) h [some 0, some 1, some 2, some 3] rfl (by simp only [hb6, go_sem, Nat.reduceAdd, Nat.reduceEqDiff, Nat.reduceLeDiff, Nat.reduceSub, reduceCtorEq, ↓reduceIte, Nat.reduceBEq, Int.reduceLT, Int.reduceLE, Int.reduceEq, Int.reduceBEq, Int.reduceBNe, Nat.reduceLT, Nat.reduceMul, Int.reduceToNat, slotsWk, objsWk, objWk, optVOWk, SV.wk, SC.wk, cellsWk, VO.wk, Ptr.wk, ptrsWk, SC.isNl, List.map_append, List.map_cons, List.map_nil, Option.some.injEq, Prod.mk.injEq, SC.d.injEq, D.l.injEq, List.map_set])
  · try dsimp only at h
    rw [hk2] at h
    obtain ⟨k11, hk11, h⟩ := withK_lk1 h
    try simp only [go_sem, Nat.reduceAdd, Nat.reduceEqDiff, Nat.reduceLeDiff, Nat.reduceSub, reduceCtorEq, ↓reduceIte, Nat.reduceBEq, Int.reduceLT, Int.reduceLE, Int.reduceEq, Int.reduceBEq, Int.reduceBNe, Nat.reduceLT, Nat.reduceMul, Int.reduceToNat]
    refine join_lk Try.prog G _ _ (B := (List Lock)) (fun b => k11 b = some r) (fun b => [(1, .one (.p (.q 0 0 0))), (2, .one (.p (.q 1 0 0))), (3, .one (.p (.q 2 0 0)))]) (fun b => [some (.box [.d (.l 3 (p0.Items.map Item.enc)), .d (.l 6 (p0.Locks.map Lock.enc)), .d (.l 3 (p0.Doubts.map Doubt.enc)), .d (.l 2 (p0.Over.map Txn.enc))]), some (.box [.nl 3, .nl 6, .nl 3, .nl 2]), some (.box [.r 3 0 b1_1.length, .r 4 0 b.length, .nl 3, .nl 2]), some (.arr 3 (b1_1.map Item.enc) false), some (.arr 6 (b.map Lock.enc) false)]) ?_ (fun b10_1 h => ?_)
    · try simp only [go_sem, Nat.reduceAdd, Nat.reduceEqDiff, Nat.reduceLeDiff, Nat.reduceSub, reduceCtorEq, ↓reduceIte, Nat.reduceBEq, Int.reduceLT, Int.reduceLE, Int.reduceEq, Int.reduceBEq, Int.reduceBNe, Nat.reduceLT, Nat.reduceMul, Int.reduceToNat]
      refine loop_lk Try.prog G _ _ (A := Nat × (List Lock)) (fun n a => reredosref_StoreCopy_L2 p0 k11 n a.1 a.2 = some r) (fun a => [(1, .one (.p (.q 0 0 0))), (2, .one (.p (.q 1 0 0))), (3, .one (.p (.q 2 0 0))), (5, .one (.d (.i .i64 ((a.1 : Nat) : Int))))]) (fun a => [some (.box [.d (.l 3 (p0.Items.map Item.enc)), .d (.l 6 (p0.Locks.map Lock.enc)), .d (.l 3 (p0.Doubts.map Doubt.enc)), .d (.l 2 (p0.Over.map Txn.enc))]), some (.box [.nl 3, .nl 6, .nl 3, .nl 2]), some (.box [.r 3 0 b1_1.length, .r 4 0 a.2.length, .nl 3, .nl 2]), some (.arr 3 (b1_1.map Item.enc) false), some (.arr 6 (a.2.map Lock.enc) false)]) (p0.Locks.length + 1) (0, []) h (wk_c _ _ _ [some 0, some 1, some 2, some 3, none] rfl (by simp only [go_sem, Nat.reduceAdd, Nat.reduceEqDiff, Nat.reduceLeDiff, Nat.reduceSub, reduceCtorEq, ↓reduceIte, Nat.reduceBEq, Int.reduceLT, Int.reduceLE, Int.reduceEq, Int.reduceBEq, Int.reduceBNe, Nat.reduceLT, Nat.reduceMul, Int.reduceToNat, slotsWk, objsWk, objWk, optVOWk, SV.wk, SC.wk, cellsWk, VO.wk, Ptr.wk, ptrsWk, SC.isNl, List.map_append, List.map_cons, List.map_nil, Option.some.injEq, Prod.mk.injEq, SC.d.injEq, D.l.injEq, List.map_set])) (fun a h => by simp only [reredosref_StoreCopy_L2, reduceCtorEq] at h) ?_
      intro n13 a h
      obtain ⟨a12_1, a12_2⟩ := a
      try dsimp only at h
      rw [reredosref_StoreCopy_L2] at h
      try simp only [go_sem, Nat.reduceAdd, Nat.reduceEqDiff, Nat.reduceLeDiff, Nat.reduceSub, reduceCtorEq, ↓reduceIte, Nat.reduceBEq, Int.reduceLT, Int.reduceLE, Int.reduceEq, Int.reduceBEq, Int.reduceBNe, Nat.reduceLT, Nat.reduceMul, Int.reduceToNat]
      intro hl14
      rcases of_if h with ⟨hb15, h⟩ | ⟨hb15, h⟩
      · have hkhb15 := of_decide_eq_true hb15
        obtain ⟨x16, hx16, h⟩ := Option.bind_eq_some_iff.1 h
        have hkx16 := (List.getElem?_eq_some_iff.1 hx16).1
        try simp only [List.length_take, List.length_drop, List.length_append, List.length_set, List.length_map, List.length_cons, List.length_nil, Nat.zero_add] at hkx16
        obtain ⟨hf17, h⟩ := of_chk h
        have hw18 := wrap_succ_max hkx16 hl14
        try simp only [hb15, hkhb15, hx16, hkx16, hf17, hw18, go_sem, Nat.reduceAdd, Nat.reduceEqDiff, Nat.reduceLeDiff, Nat.reduceSub, reduceCtorEq, ↓reduceIte, Nat.reduceBEq, Int.reduceLT, Int.reduceLE, Int.reduceEq, Int.reduceBEq, Int.reduceBNe, Nat.reduceLT, Nat.reduceMul, Int.reduceToNat]
        exact loopQ_c (a12_1 + 1, (a12_2 ++ [x16])) h [some 0, some 1, some 2, some 3, some 13] rfl (by simp only [hb15, hkhb15, hx16, hkx16, hf17, hw18, go_sem, Nat.reduceAdd, Nat.reduceEqDiff, Nat.reduceLeDiff, Nat.reduceSub, reduceCtorEq, ↓reduceIte, Nat.reduceBEq, Int.reduceLT, Int.reduceLE, Int.reduceEq, Int.reduceBEq, Int.reduceBNe, Nat.reduceLT, Nat.reduceMul, Int.reduceToNat, slotsWk, objsWk, objWk, optVOWk, SV.wk, SC.wk, cellsWk, VO.wk, Ptr.wk, ptrsWk, SC.isNl, List.map_append, List.map_cons, List.map_nil, Option.some.injEq, Prod.mk.injEq, SC.d.injEq, D.l.injEq, List.map_set])
      · try simp only [hb15, go_sem, Nat.reduceAdd, Nat.reduceEqDiff, Nat.reduceLeDiff, Nat.reduceSub, reduceCtorEq, ↓reduceIte, Nat.reduceBEq, Int.reduceLT, Int.reduceLE, Int.reduceEq, Int.reduceBEq, Int.reduceBNe, Nat.reduceLT, Nat.reduceMul, Int.reduceToNat]
        exact joinQ_c (a12_2) h [some 0, some 1, some 2, some 3, some 4] rfl (by simp only [hb15, go_sem, Nat.reduceAdd, Nat.reduceEqDiff, Nat.reduceLeDiff, Nat.reduceSub, reduceCtorEq, ↓reduceIte, Nat.reduceBEq, Int.reduceLT, Int.reduceLE, Int.reduceEq, Int.reduceBEq, Int.reduceBNe, Nat.reduceLT, Nat.reduceMul, Int.reduceToNat, slotsWk, objsWk, objWk, optVOWk, SV.wk, SC.wk, cellsWk, VO.wk, Ptr.wk, ptrsWk, SC.isNl, List.map_append, List.map_cons, List.map_nil, Option.some.injEq, Prod.mk.injEq, SC.d.injEq, D.l.injEq, List.map_set])
    · try dsimp only at h
      rw [hk11] at h
      obtain ⟨k20, hk20, h⟩ := withK_lk1 h
      try simp only [go_sem, Nat.reduceAdd, Nat.reduceEqDiff, Nat.reduceLeDiff, Nat.reduceSub, reduceCtorEq, ↓reduceIte, Nat.reduceBEq, Int.reduceLT, Int.reduceLE, Int.reduceEq, Int.reduceBEq, Int.reduceBNe, Nat.reduceLT, Nat.reduceMul, Int.reduceToNat]
      refine join_lk Try.prog G _ _ (B := (List Doubt)) (fun b => k20 b = some r) (fun b => [(1, .one (.p (.q 0 0 0))), (2, .one (.p (.q 1 0 0))), (3, .one (.p (.q 2 0 0)))]) (fun b => [some (.box [.d (.l 3 (p0.Items.map Item.enc)), .d (.l 6 (p0.Locks.map Lock.enc)), .d (.l 3 (p0.Doubts.map Doubt.enc)), .d (.l 2 (p0.Over.map Txn.enc))]), some (.box [.nl 3, .nl 6, .nl 3, .nl 2]), some (.box [.r 3 0 b1_1.length, .r 4 0 b10_1.length, .r 5 0 b.length, .nl 2]), some (.arr 3 (b1_1.map Item.enc) false), some (.arr 6 (b10_1.map Lock.enc) false), some (.arr 3 (b.map Doubt.enc) false)]) ?_ (fun b19_1 h => ?_)
      · try simp only [go_sem, Nat.reduceAdd, Nat.reduceEqDiff, Nat.reduceLeDiff, Nat.reduceSub, reduceCtorEq, ↓reduceIte, Nat.reduceBEq, Int.reduceLT, Int.reduceLE, Int.reduceEq, Int.reduceBEq, Int.reduceBNe, Nat.reduceLT, Nat.reduceMul, Int.reduceToNat]
        refine loop_lk Try.prog G _ _ (A := Nat × (List Doubt)) (fun n a => reredosref_StoreCopy_L3 p0 k20 n a.1 a.2 = some r) (fun a => [(1, .one (.p (.q 0 0 0))), (2, .one (.p (.q 1 0 0))), (3, .one (.p (.q 2 0 0))), (6, .one (.d (.i .i64 ((a.1 : Nat) : Int))))]) (fun a => [some (.box [.d (.l 3 (p0.Items.map Item.enc)), .d (.l 6 (p0.Locks.map Lock.enc)), .d (.l 3 (p0.Doubts.map Doubt.enc)), .d (.l 2 (p0.Over.map Txn.enc))]), some (.box [.nl 3, .nl 6, .nl 3, .nl 2]), some (.box [.r 3 0 b1_1.length, .r 4 0 b10_1.length, .r 5 0 a.2.length, .nl 2]), some (.arr 3 (b1_1.map Item.enc) false), some (.arr 6 (b10_1.map Lock.enc) false), some (.arr 3 (a.2.map Doubt.enc) false)]) (p0.Doubts.length + 1) (0, []) h (wk_c _ _ _ [some 0, some 1, some 2, some 3, some 4, none] rfl (by simp only [go_sem, Nat.reduceAdd, Nat.reduceEqDiff, Nat.reduceLeDiff, Nat.reduceSub, reduceCtorEq, ↓reduceIte, Nat.reduceBEq, Int.reduceLT, Int.reduceLE, Int.reduceEq, Int.reduceBEq, Int.reduceBNe, Nat.reduceLT, Nat.reduceMul, Int.reduceToNat, slotsWk, objsWk, objWk, optVOWk, SV.wk, SC.wk, cellsWk, VO.wk, Ptr.wk, ptrsWk, SC.isNl, List.map_append, List.map_cons, List.map_nil, Option.some.injEq, Prod.mk.injEq, SC.d.injEq, D.l.injEq, List.map_set])) (fun a h => by simp only [reredosref_StoreCopy_L3, reduceCtorEq] at h) ?_
        intro n22 a h
        obtain ⟨a21_1, a21_2⟩ := a
        try dsimp only at h
        rw [reredosref_StoreCopy_L3] at h
        try simp only [go_sem, Nat.reduceAdd, Nat.reduceEqDiff, Nat.reduceLeDiff, Nat.reduceSub, reduceCtorEq, ↓reduceIte, Nat.reduceBEq, Int.reduceLT, Int.reduceLE, Int.reduceEq, Int.reduceBEq, Int.reduceBNe, Nat.reduceLT, Nat.reduceMul, Int.reduceToNat]
        intro hl23
        rcases of_if h with ⟨hb24, h⟩ | ⟨hb24, h⟩
        · have hkhb24 := of_decide_eq_true hb24
          obtain ⟨x25, hx25, h⟩ := Option.bind_eq_some_iff.1 h
          have hkx25 := (List.getElem?_eq_some_iff.1 hx25).1
          try simp only [List.length_take, List.length_drop, List.length_append, List.length_set, List.length_map, List.length_cons, List.length_nil, Nat.zero_add] at hkx25
          obtain ⟨hf26, h⟩ := of_chk h
          have hw27 := wrap_succ_max hkx25 hl23
          try simp only [hb24, hkhb24, hx25, hkx25, hf26, hw27, go_sem, Nat.reduceAdd, Nat.reduceEqDiff, Nat.reduceLeDiff, Nat.reduceSub, reduceCtorEq, ↓reduceIte, Nat.reduceBEq, Int.reduceLT, Int.reduceLE, Int.reduceEq, Int.reduceBEq, Int.reduceBNe, Nat.reduceLT, Nat.reduceMul, Int.reduceToNat]
          exact loopQ_c (a21_1 + 1, (a21_2 ++ [x25])) h [some 0, some 1, some 2, some 3, some 4, some 14] rfl (by simp only [hb24, hkhb24, hx25, hkx25, hf26, hw27, go_sem, Nat.reduceAdd, Nat.reduceEqDiff, Nat.reduceLeDiff, Nat.reduceSub, reduceCtorEq, ↓reduceIte, Nat.reduceBEq, Int.reduceLT, Int.reduceLE, Int.reduceEq, Int.reduceBEq, Int.reduceBNe, Nat.reduceLT, Nat.reduceMul, Int.reduceToNat, slotsWk, objsWk, objWk, optVOWk, SV.wk, SC.wk, cellsWk, VO.wk, Ptr.wk, ptrsWk, SC.isNl, List.map_append, List.map_cons, List.map_nil, Option.some.injEq, Prod.mk.injEq, SC.d.injEq, D.l.injEq, List.map_set])
        · try simp only [hb24, go_sem, Nat.reduceAdd, Nat.reduceEqDiff, Nat.reduceLeDiff, Nat.reduceSub, reduceCtorEq, ↓reduceIte, Nat.reduceBEq, Int.reduceLT, Int.reduceLE, Int.reduceEq, Int.reduceBEq, Int.reduceBNe, Nat.reduceLT, Nat.reduceMul, Int.reduceToNat]
          exact joinQ_c (a21_2) h [some 0, some 1, some 2, some 3, some 4, some 5] rfl (by simp only [hb24, go_sem, Nat.reduceAdd, Nat.reduceEqDiff, Nat.reduceLeDiff, Nat.reduceSub, reduceCtorEq, ↓reduceIte, Nat.reduceBEq, Int.reduceLT, Int.reduceLE, Int.reduceEq, Int.reduceBEq, Int.reduceBNe, Nat.reduceLT, Nat.reduceMul, Int.reduceToNat, slotsWk, objsWk, objWk, optVOWk, SV.wk, SC.wk, cellsWk, VO.wk, Ptr.wk, ptrsWk, SC.isNl, List.map_append, List.map_cons, List.map_nil, Option.some.injEq, Prod.mk.injEq, SC.d.injEq, D.l.injEq, List.map_set])
      · try dsimp only at h
        rw [hk20] at h
        obtain ⟨k29, hk29, h⟩ := withK_lk1 h
        try simp only [go_sem, Nat.reduceAdd, Nat.reduceEqDiff, Nat.reduceLeDiff, Nat.reduceSub, reduceCtorEq, ↓reduceIte, Nat.reduceBEq, Int.reduceLT, Int.reduceLE, Int.reduceEq, Int.reduceBEq, Int.reduceBNe, Nat.reduceLT, Nat.reduceMul, Int.reduceToNat]
        refine join_lk Try.prog G _ _ (B := (List Txn)) (fun b => k29 b = some r) (fun b => [(2, .one (.p (.q 0 0 0))), (3, .one (.p (.q 1 0 0)))]) (fun b => [some (.box [.nl 3, .nl 6, .nl 3, .nl 2]), some (.box [.r 2 0 b1_1.length, .r 3 0 b10_1.length, .r 4 0 b19_1.length, .r 5 0 b.length]), some (.arr 3 (b1_1.map Item.enc) false), some (.arr 6 (b10_1.map Lock.enc) false), some (.arr 3 (b19_1.map Doubt.enc) false), some (.arr 2 (b.map Txn.enc) false)]) ?_ (fun b28_1 h => ?_)
        · try simp only [go_sem, Nat.reduceAdd, Nat.reduceEqDiff, Nat.reduceLeDiff, Nat.reduceSub, reduceCtorEq, ↓reduceIte, Nat.reduceBEq, Int.reduceLT, Int.reduceLE, Int.reduceEq, Int.reduceBEq, Int.reduceBNe, Nat.reduceLT, Nat.reduceMul, Int.reduceToNat]
          refine loop_lk Try.prog G _ _ (A := Nat × (List Txn)) (fun n a => reredosref_StoreCopy_L4 p0 k29 n a.1 a.2 = some r) (fun a => [(1, .one (.p (.q 0 0 0))), (2, .one (.p (.q 1 0 0))), (3, .one (.p (.q 2 0 0))), (7, .one (.d (.i .i64 ((a.1 : Nat) : Int))))]) (fun a => [some (.box [.d (.l 3 (p0.Items.map Item.enc)), .d (.l 6 (p0.Locks.map Lock.enc)), .d (.l 3 (p0.Doubts.map Doubt.enc)), .d (.l 2 (p0.Over.map Txn.enc))]), some (.box [.nl 3, .nl 6, .nl 3, .nl 2]), some (.box [.r 3 0 b1_1.length, .r 4 0 b10_1.length, .r 5 0 b19_1.length, .r 6 0 a.2.length]), some (.arr 3 (b1_1.map Item.enc) false), some (.arr 6 (b10_1.map Lock.enc) false), some (.arr 3 (b19_1.map Doubt.enc) false), some (.arr 2 (a.2.map Txn.enc) false)]) (p0.Over.length + 1) (0, []) h (wk_c _ _ _ [some 0, some 1, some 2, some 3, some 4, some 5, none] rfl (by simp only [go_sem, Nat.reduceAdd, Nat.reduceEqDiff, Nat.reduceLeDiff, Nat.reduceSub, reduceCtorEq, ↓reduceIte, Nat.reduceBEq, Int.reduceLT, Int.reduceLE, Int.reduceEq, Int.reduceBEq, Int.reduceBNe, Nat.reduceLT, Nat.reduceMul, Int.reduceToNat, slotsWk, objsWk, objWk, optVOWk, SV.wk, SC.wk, cellsWk, VO.wk, Ptr.wk, ptrsWk, SC.isNl, List.map_append, List.map_cons, List.map_nil, Option.some.injEq, Prod.mk.injEq, SC.d.injEq, D.l.injEq, List.map_set])) (fun a h => by simp only [reredosref_StoreCopy_L4, reduceCtorEq] at h) ?_
          intro n31 a h
          obtain ⟨a30_1, a30_2⟩ := a
          try dsimp only at h
          rw [reredosref_StoreCopy_L4] at h
          try simp only [go_sem, Nat.reduceAdd, Nat.reduceEqDiff, Nat.reduceLeDiff, Nat.reduceSub, reduceCtorEq, ↓reduceIte, Nat.reduceBEq, Int.reduceLT, Int.reduceLE, Int.reduceEq, Int.reduceBEq, Int.reduceBNe, Nat.reduceLT, Nat.reduceMul, Int.reduceToNat]
          intro hl32
          rcases of_if h with ⟨hb33, h⟩ | ⟨hb33, h⟩
          · have hkhb33 := of_decide_eq_true hb33
            obtain ⟨x34, hx34, h⟩ := Option.bind_eq_some_iff.1 h
            have hkx34 := (List.getElem?_eq_some_iff.1 hx34).1
            try simp only [List.length_take, List.length_drop, List.length_append, List.length_set, List.length_map, List.length_cons, List.length_nil, Nat.zero_add] at hkx34
            obtain ⟨hf35, h⟩ := of_chk h
            have hw36 := wrap_succ_max hkx34 hl32
            try simp only [hb33, hkhb33, hx34, hkx34, hf35, hw36, go_sem, Nat.reduceAdd, Nat.reduceEqDiff, Nat.reduceLeDiff, Nat.reduceSub, reduceCtorEq, ↓reduceIte, Nat.reduceBEq, Int.reduceLT, Int.reduceLE, Int.reduceEq, Int.reduceBEq, Int.reduceBNe, Nat.reduceLT, Nat.reduceMul, Int.reduceToNat]
            exact loopQ_c (a30_1 + 1, (a30_2 ++ [x34])) h [some 0, some 1, some 2, some 3, some 4, some 5, some 15] rfl (by simp only [hb33, hkhb33, hx34, hkx34, hf35, hw36, go_sem, Nat.reduceAdd, Nat.reduceEqDiff, Nat.reduceLeDiff, Nat.reduceSub, reduceCtorEq, ↓reduceIte, Nat.reduceBEq, Int.reduceLT, Int.reduceLE, Int.reduceEq, Int.reduceBEq, Int.reduceBNe, Nat.reduceLT, Nat.reduceMul, Int.reduceToNat, slotsWk, objsWk, objWk, optVOWk, SV.wk, SC.wk, cellsWk, VO.wk, Ptr.wk, ptrsWk, SC.isNl, List.map_append, List.map_cons, List.map_nil, Option.some.injEq, Prod.mk.injEq, SC.d.injEq, D.l.injEq, List.map_set])
          · try simp only [hb33, go_sem, Nat.reduceAdd, Nat.reduceEqDiff, Nat.reduceLeDiff, Nat.reduceSub, reduceCtorEq, ↓reduceIte, Nat.reduceBEq, Int.reduceLT, Int.reduceLE, Int.reduceEq, Int.reduceBEq, Int.reduceBNe, Nat.reduceLT, Nat.reduceMul, Int.reduceToNat]
            exact joinQ_c (a30_2) h [some 1, some 2, some 3, some 4, some 5, some 6] rfl (by simp only [hb33, go_sem, Nat.reduceAdd, Nat.reduceEqDiff, Nat.reduceLeDiff, Nat.reduceSub, reduceCtorEq, ↓reduceIte, Nat.reduceBEq, Int.reduceLT, Int.reduceLE, Int.reduceEq, Int.reduceBEq, Int.reduceBNe, Nat.reduceLT, Nat.reduceMul, Int.reduceToNat, slotsWk, objsWk, objWk, optVOWk, SV.wk, SC.wk, cellsWk, VO.wk, Ptr.wk, ptrsWk, SC.isNl, List.map_append, List.map_cons, List.map_nil, Option.some.injEq, Prod.mk.injEq, SC.d.injEq, D.l.injEq, List.map_set])
        · try dsimp only at h
          rw [hk29] at h
          simp only [Option.some.injEq] at h
          subst h
          try simp only [go_sem, Nat.reduceAdd, Nat.reduceEqDiff, Nat.reduceLeDiff, Nat.reduceSub, reduceCtorEq, ↓reduceIte, Nat.reduceBEq, Int.reduceLT, Int.reduceLE, Int.reduceEq, Int.reduceBEq, Int.reduceBNe, Nat.reduceLT, Nat.reduceMul, Int.reduceToNat, List.map_append, List.map_cons, List.map_nil, List.map_set]
def store_items_L1 (p0 : List Item) (k3 : Option (Bool)) : Nat → Nat → Option (Bool)
  | 0, _ => none
  | n5 + 1, a4_1 => (if (decide (a4_1 < p0.length)) = true then (Option.bind (p0[a4_1]?) fun x7 => (if (decide (x7.Key < 0)) = true then (some false) else (if (decide (x7.Key ≥ 8)) = true then (some false) else (if (decide (x7.Value < 0)) = true then (some false) else (if (decide (x7.Value > 1073741824)) = true then (some false) else (if (decide (x7.Version < 1)) = true then (some false) else (if (decide (x7.Version > 1048576)) = true then (some false) else (if (decide (((a4_1 : Nat) : Int) > 0)) = true then (if 0 ≤ IntKind.i64.wrap (((a4_1 : Nat) : Int) - 1) then (Option.bind (p0[(IntKind.i64.wrap (((a4_1 : Nat) : Int) - 1)).toNat]?) fun x15 => (if (decide (x15.Key ≥ x7.Key)) = true then (some false) else (store_items_L1 p0 k3 n5 (a4_1 + 1)))) else none) else (store_items_L1 p0 k3 n5 (a4_1 + 1)))))))))) else k3)
def store_items (p0 : List Item) : Option (Bool) := (withK (some true) fun k3 => (store_items_L1 p0 k3 (p0.length + 1) 0))
def F62 : VFn := ⟨54, (.seq (.reg [⟨(some 2), .mv (.c (.one (.d (.b false)))), none⟩]) (.seq (.seq (.reg [⟨(some 5), .mv (.t 0), none⟩, ⟨(some 6), .len (.t 5), none⟩, ⟨(some 7), .mv (.c (.one (.d (.i .i64 0)))), none⟩]) (.wk (.block 0 (.loop (.seq (.reg [⟨(some 8), .bin .i .lss (.t 7) (.t 6), none⟩]) (.seq (.cond (.t 8) .skip (.exit 0)) (.seq (.block 1 (.seq (.reg [⟨(some 9), .mv (.t 7), none⟩, ⟨(some 10), .ia 3 (.t 5) (.t 7), none⟩, ⟨(some 11), .ld true 3 (.t 10), none⟩, ⟨(some 4), .alloc [(.d (.i .i64 0)), (.d (.i .i64 0)), (.d (.i .i64 0))], none⟩, ⟨(some 3), .mv (.t 9), none⟩, ⟨none, .st 3 (.t 4) (.t 11), none⟩]) (.seq (.seq (.reg [⟨(some 12), .fa 0 (.t 4), none⟩, ⟨(some 13), .ld false 1 (.t 12), none⟩, ⟨(some 14), .bin .i .lss (.t 13) (.c (.one (.d (.i .i64 0)))), none⟩, ⟨(some 15), .mv (.t 14), none⟩, ⟨(some 16), .fa 0 (.t 4), (some (15, false))⟩, ⟨(some 17), .ld false 1 (.t 16), (some (15, false))⟩, ⟨(some 18), .bin .i .geq (.t 17) (.c (.one (.d (.i .i64 8)))), (some (15, false))⟩, ⟨(some 19), .pick (.t 15) (.c (.one (.d (.b true)))) (.t 18), none⟩, ⟨(some 20), .mv (.t 19), none⟩, ⟨(some 21), .fa 1 (.t 4), (some (20, false))⟩, ⟨(some 22), .ld false 1 (.t 21), (some (20, false))⟩, ⟨(some 23), .bin .i .lss (.t 22) (.c (.one (.d (.i .i64 0)))), (some (20, false))⟩, ⟨(some 24), .pick (.t 20) (.c (.one (.d (.b true)))) (.t 23), none⟩, ⟨(some 25), .mv (.t 24), none⟩, ⟨(some 26), .fa 1 (.t 4), (some (25, false))⟩, ⟨(some 27), .ld false 1 (.t 26), (some (25, false))⟩, ⟨(some 28), .bin .i .gtr (.t 27) (.c (.one (.d (.i .i64 1073741824)))), (some (25, false))⟩, ⟨(some 29), .pick (.t 25) (.c (.one (.d (.b true)))) (.t 28), none⟩, ⟨(some 30), .mv (.t 29), none⟩, ⟨(some 31), .fa 2 (.t 4), (some (30, false))⟩, ⟨(some 32), .ld false 1 (.t 31), (some (30, false))⟩, ⟨(some 33), .bin .i .lss (.t 32) (.c (.one (.d (.i .i64 1)))), (some (30, false))⟩, ⟨(some 34), .pick (.t 30) (.c (.one (.d (.b true)))) (.t 33), none⟩, ⟨(some 35), .mv (.t 34), none⟩, ⟨(some 36), .fa 2 (.t 4), (some (35, false))⟩, ⟨(some 37), .ld false 1 (.t 36), (some (35, false))⟩, ⟨(some 38), .bin .i .gtr (.t 37) (.c (.one (.d (.i .i64 1048576)))), (some (35, false))⟩, ⟨(some 39), .pick (.t 35) (.c (.one (.d (.b true)))) (.t 38), none⟩]) (.cond (.t 39) (.seq (.reg [⟨(some 2), .mv (.c (.one (.d (.b false)))), none⟩]) .ret) .skip)) (.seq (.draw [⟨⟨(some 40), .mv (.t 3), none⟩, [], [], none, []⟩, ⟨⟨(some 41), .bin .i .gtr (.t 40) (.c (.one (.d (.i .i64 0)))), none⟩, [0], [], none, []⟩, ⟨⟨(some 42), .mv (.t 41), none⟩, [1, 0], [], none, []⟩, ⟨⟨(some 43), .mv (.t 0), (some (42, true))⟩, [2, 1, 0], [], none, []⟩, ⟨⟨(some 44), .mv (.t 3), (some (42, true))⟩, [2, 1, 0], [], none, []⟩, ⟨⟨(some 45), .bin .i .sub (.t 44) (.c (.one (.d (.i .i64 1)))), (some (42, true))⟩, [4, 2, 1, 0], [], none, []⟩, ⟨⟨(some 46), .ia 3 (.t 43) (.t 45), (some (42, true))⟩, [3, 2, 1, 0, 5, 4], [], none, []⟩, ⟨⟨(some 47), .fa 0 (.t 46), (some (42, true))⟩, [6, 3, 2, 1, 0, 5, 4], [], none, []⟩, ⟨⟨(some 48), .ld false 1 (.t 47), (some (42, true))⟩, [7, 6, 3, 2, 1, 0, 5, 4], [], none, []⟩, ⟨⟨(some 49), .fa 0 (.t 4), (some (42, true))⟩, [2, 1, 0], [], none, []⟩, ⟨⟨(some 50), .ld false 1 (.t 49), (some (42, true))⟩, [9, 2, 1, 0], [], none, []⟩, ⟨⟨(some 51), .bin .i .geq (.t 48) (.t 50), (some (42, true))⟩, [8, 7, 6, 3, 2, 1, 0, 5, 4, 10, 9], [], none, []⟩, ⟨⟨(some 52), .pick (.t 42) (.t 51) (.c (.one (.d (.b false)))), none⟩, [2, 1, 0, 11, 8, 7, 6, 3, 5, 4, 10, 9], [], none, []⟩]) (.cond (.t 52) (.seq (.reg [⟨(some 2), .mv (.c (.one (.d (.b false)))), none⟩]) .ret) .skip))))) (.reg [⟨(some 53), .bin .i .add (.t 7) (.c (.one (.d (.i .i64 1)))), none⟩, ⟨(some 7), .mv (.t 53), none⟩])))))))) (.seq (.reg [⟨(some 2), .mv (.c (.one (.d (.b true)))), none⟩]) .ret))), [.t 2]⟩
theorem low62 : lowF Try.prog 62 = some F62.strip := by kernel_rfl
theorem fok62 : fOk Try.prog 62 = true := by kernel_rfl
theorem store_items_ok (G : Nat → Option (List D)) (p0 : List Item) (r : Bool) (h : store_items p0 = some r) : FnRO Try.prog G 62 [.one (.d (.l 3 (p0.map Item.enc)))] (fun rs => rs = [.one (.b r)]) := by
  refine FnRO.of' low62 fok62 (by simp [F62]) ?_
  rw [store_items] at h
  simp only [F62, go_sem, Nat.reduceAdd, Nat.reduceEqDiff, Nat.reduceLeDiff, Nat.reduceSub, reduceCtorEq, ↓reduceIte, Nat.reduceBEq, Int.reduceLT, Int.reduceLE, Int.reduceEq, Int.reduceBEq, Int.reduceBNe, Nat.reduceLT, Nat.reduceMul, Int.reduceToNat]
  try simp only [go_sem, Nat.reduceAdd, Nat.reduceEqDiff, Nat.reduceLeDiff, Nat.reduceSub, reduceCtorEq, ↓reduceIte, Nat.reduceBEq, Int.reduceLT, Int.reduceLE, Int.reduceEq, Int.reduceBEq, Int.reduceBNe, Nat.reduceLT, Nat.reduceMul, Int.reduceToNat]
  intro hl1
  obtain ⟨k3, hk3, h⟩ := withK_lk0 h
  try simp only [go_sem, Nat.reduceAdd, Nat.reduceEqDiff, Nat.reduceLeDiff, Nat.reduceSub, reduceCtorEq, ↓reduceIte, Nat.reduceBEq, Int.reduceLT, Int.reduceLE, Int.reduceEq, Int.reduceBEq, Int.reduceBNe, Nat.reduceLT, Nat.reduceMul, Int.reduceToNat]
  refine join_lk Try.prog G _ _ (B := Unit) (fun b => k3 = some r) (fun b => []) (fun b => []) ?_ (fun b h => ?_)
  · try simp only [go_sem, Nat.reduceAdd, Nat.reduceEqDiff, Nat.reduceLeDiff, Nat.reduceSub, reduceCtorEq, ↓reduceIte, Nat.reduceBEq, Int.reduceLT, Int.reduceLE, Int.reduceEq, Int.reduceBEq, Int.reduceBNe, Nat.reduceLT, Nat.reduceMul, Int.reduceToNat]
    refine loop_lk Try.prog G _ _ (A := Nat) (fun n a => store_items_L1 p0 k3 n a = some r) (fun a => [(0, .one (.d (.l 3 (p0.map Item.enc)))), (5, .one (.d (.l 3 (p0.map Item.enc)))), (6, .one (.d (.i .i64 ((p0.length : Nat) : Int)))), (7, .one (.d (.i .i64 ((a : Nat) : Int))))]) (fun a => []) (p0.length + 1) (0) h (wk_c _ _ _ [] rfl (by simp only [go_sem, Nat.reduceAdd, Nat.reduceEqDiff, Nat.reduceLeDiff, Nat.reduceSub, reduceCtorEq, ↓reduceIte, Nat.reduceBEq, Int.reduceLT, Int.reduceLE, Int.reduceEq, Int.reduceBEq, Int.reduceBNe, Nat.reduceLT, Nat.reduceMul, Int.reduceToNat, slotsWk, objsWk, objWk, optVOWk, SV.wk, SC.wk, cellsWk, VO.wk, Ptr.wk, ptrsWk, SC.isNl, List.map_append, List.map_cons, List.map_nil, Option.some.injEq, Prod.mk.injEq, SC.d.injEq, D.l.injEq, List.map_set])) (fun a h => by simp only [store_items_L1, reduceCtorEq] at h) ?_
    intro n5 a4_1 h
    try dsimp only at h
    rw [store_items_L1] at h
    rcases of_if h with ⟨hb6, h⟩ | ⟨hb6, h⟩
    · have hkhb6 := of_decide_eq_true hb6
      obtain ⟨x7, hx7, h⟩ := Option.bind_eq_some_iff.1 h
      have hkx7 := (List.getElem?_eq_some_iff.1 hx7).1
      try simp only [List.length_take, List.length_drop, List.length_append, List.length_set, List.length_map, List.length_cons, List.length_nil, Nat.zero_add] at hkx7
      rcases of_if h with ⟨hb8, h⟩ | ⟨hb8, h⟩
      · have hkhb8 := of_decide_eq_true hb8
        simp only [Option.some.injEq] at h
        subst h
        try simp only [hb6, hkhb6, hx7, hkx7, hb8, hkhb8, go_sem, Nat.reduceAdd, Nat.reduceEqDiff, Nat.reduceLeDiff, Nat.reduceSub, reduceCtorEq, ↓reduceIte, Nat.reduceBEq, Int.reduceLT, Int.reduceLE, Int.reduceEq, Int.reduceBEq, Int.reduceBNe, Nat.reduceLT, Nat.reduceMul, Int.reduceToNat, List.map_append, List.map_cons, List.map_nil, List.map_set]
      · rcases of_if h with ⟨hb9, h⟩ | ⟨hb9, h⟩
        · simp only [Option.some.injEq] at h
          subst h
          try simp only [hb6, hkhb6, hx7, hkx7, hb8, hb9, go_sem, Nat.reduceAdd, Nat.reduceEqDiff, Nat.reduceLeDiff, Nat.reduceSub, reduceCtorEq, ↓reduceIte, Nat.reduceBEq, Int.reduceLT, Int.reduceLE, Int.reduceEq, Int.reduceBEq, Int.reduceBNe, Nat.reduceLT, Nat.reduceMul, Int.reduceToNat, List.map_append, List.map_cons, List.map_nil, List.map_set]
        · rcases of_if h with ⟨hb10, h⟩ | ⟨hb10, h⟩
          · have hkhb10 := of_decide_eq_true hb10
            simp only [Option.some.injEq] at h
            subst h
            try simp only [hb6, hkhb6, hx7, hkx7, hb8, hb9, hb10, hkhb10, go_sem, Nat.reduceAdd, Nat.reduceEqDiff, Nat.reduceLeDiff, Nat.reduceSub, reduceCtorEq, ↓reduceIte, Nat.reduceBEq, Int.reduceLT, Int.reduceLE, Int.reduceEq, Int.reduceBEq, Int.reduceBNe, Nat.reduceLT, Nat.reduceMul, Int.reduceToNat, List.map_append, List.map_cons, List.map_nil, List.map_set]
          · rcases of_if h with ⟨hb11, h⟩ | ⟨hb11, h⟩
            · simp only [Option.some.injEq] at h
              subst h
              try simp only [hb6, hkhb6, hx7, hkx7, hb8, hb9, hb10, hb11, go_sem, Nat.reduceAdd, Nat.reduceEqDiff, Nat.reduceLeDiff, Nat.reduceSub, reduceCtorEq, ↓reduceIte, Nat.reduceBEq, Int.reduceLT, Int.reduceLE, Int.reduceEq, Int.reduceBEq, Int.reduceBNe, Nat.reduceLT, Nat.reduceMul, Int.reduceToNat, List.map_append, List.map_cons, List.map_nil, List.map_set]
            · rcases of_if h with ⟨hb12, h⟩ | ⟨hb12, h⟩
              · have hkhb12 := of_decide_eq_true hb12
                simp only [Option.some.injEq] at h
                subst h
                try simp only [hb6, hkhb6, hx7, hkx7, hb8, hb9, hb10, hb11, hb12, hkhb12, go_sem, Nat.reduceAdd, Nat.reduceEqDiff, Nat.reduceLeDiff, Nat.reduceSub, reduceCtorEq, ↓reduceIte, Nat.reduceBEq, Int.reduceLT, Int.reduceLE, Int.reduceEq, Int.reduceBEq, Int.reduceBNe, Nat.reduceLT, Nat.reduceMul, Int.reduceToNat, List.map_append, List.map_cons, List.map_nil, List.map_set]
              · rcases of_if h with ⟨hb13, h⟩ | ⟨hb13, h⟩
                · simp only [Option.some.injEq] at h
                  subst h
                  try simp only [hb6, hkhb6, hx7, hkx7, hb8, hb9, hb10, hb11, hb12, hb13, go_sem, Nat.reduceAdd, Nat.reduceEqDiff, Nat.reduceLeDiff, Nat.reduceSub, reduceCtorEq, ↓reduceIte, Nat.reduceBEq, Int.reduceLT, Int.reduceLE, Int.reduceEq, Int.reduceBEq, Int.reduceBNe, Nat.reduceLT, Nat.reduceMul, Int.reduceToNat, List.map_append, List.map_cons, List.map_nil, List.map_set]
                · rcases of_if h with ⟨hb14, h⟩ | ⟨hb14, h⟩
                  · obtain ⟨hn16, h⟩ := of_chk h
                    obtain ⟨x15, hx15, h⟩ := Option.bind_eq_some_iff.1 h
                    have hkx15 := (List.getElem?_eq_some_iff.1 hx15).1
                    try simp only [List.length_take, List.length_drop, List.length_append, List.length_set, List.length_map, List.length_cons, List.length_nil, Nat.zero_add] at hkx15
                    have hk2x15 : IntKind.i64.wrap (((a4_1 : Nat) : Int) - 1) < ((p0.length : Nat) : Int) := by omega
                    rcases of_if h with ⟨hb17, h⟩ | ⟨hb17, h⟩
                    · simp only [Option.some.injEq] at h
                      subst h
                      try simp only [hb6, hkhb6, hx7, hkx7, hb8, hb9, hb10, hb11, hb12, hb13, hb14, hx15, hkx15, hn16, hk2x15, hb17, go_sem, Nat.reduceAdd, Nat.reduceEqDiff, Nat.reduceLeDiff, Nat.reduceSub, reduceCtorEq, ↓reduceIte, Nat.reduceBEq, Int.reduceLT, Int.reduceLE, Int.reduceEq, Int.reduceBEq, Int.reduceBNe, Nat.reduceLT, Nat.reduceMul, Int.reduceToNat, List.map_append, List.map_cons, List.map_nil, List.map_set]
                    · have hw18 := wrap_succ_max hkx7 hl1
                      try simp only [hb6, hkhb6, hx7, hkx7, hb8, hb9, hb10, hb11, hb12, hb13, hb14, hx15, hkx15, hn16, hk2x15, hb17, hw18, go_sem, Nat.reduceAdd, Nat.reduceEqDiff, Nat.reduceLeDiff, Nat.reduceSub, reduceCtorEq, ↓reduceIte, Nat.reduceBEq, Int.reduceLT, Int.reduceLE, Int.reduceEq, Int.reduceBEq, Int.reduceBNe, Nat.reduceLT, Nat.reduceMul, Int.reduceToNat]
                      exact loopQ_c (a4_1 + 1) h [] rfl (by simp only [hb6, hkhb6, hx7, hkx7, hb8, hb9, hb10, hb11, hb12, hb13, hb14, hx15, hkx15, hn16, hk2x15, hb17, hw18, go_sem, Nat.reduceAdd, Nat.reduceEqDiff, Nat.reduceLeDiff, Nat.reduceSub, reduceCtorEq, ↓reduceIte, Nat.reduceBEq, Int.reduceLT, Int.reduceLE, Int.reduceEq, Int.reduceBEq, Int.reduceBNe, Nat.reduceLT, Nat.reduceMul, Int.reduceToNat, slotsWk, objsWk, objWk, optVOWk, SV.wk, SC.wk, cellsWk, VO.wk, Ptr.wk, ptrsWk, SC.isNl, List.map_append, List.map_cons, List.map_nil, Option.some.injEq, Prod.mk.injEq, SC.d.injEq, D.l.injEq, List.map_set])
                  · have hw19 := wrap_succ_max hkx7 hl1
                    try simp only [hb6, hkhb6, hx7, hkx7, hb8, hb9, hb10, hb11, hb12, hb13, hb14, hw19, go_sem, Nat.reduceAdd, Nat.reduceEqDiff, Nat.reduceLeDiff, Nat.reduceSub, reduceCtorEq, ↓reduceIte, Nat.reduceBEq, Int.reduceLT, Int.reduceLE, Int.reduceEq, Int.reduceBEq, Int.reduceBNe, Nat.reduceLT, Nat.reduceMul, Int.reduceToNat]
                    exact loopQ_c (a4_1 + 1) h [] rfl (by simp only [hb6, hkhb6, hx7, hkx7, hb8, hb9, hb10, hb11, hb12, hb13, hb14, hw19, go_sem, Nat.reduceAdd, Nat.reduceEqDiff, Nat.reduceLeDiff, Nat.reduceSub, reduceCtorEq, ↓reduceIte, Nat.reduceBEq, Int.reduceLT, Int.reduceLE, Int.reduceEq, Int.reduceBEq, Int.reduceBNe, Nat.reduceLT, Nat.reduceMul, Int.reduceToNat, slotsWk, objsWk, objWk, optVOWk, SV.wk, SC.wk, cellsWk, VO.wk, Ptr.wk, ptrsWk, SC.isNl, List.map_append, List.map_cons, List.map_nil, Option.some.injEq, Prod.mk.injEq, SC.d.injEq, D.l.injEq, List.map_set])
    · try simp only [hb6, go_sem, Nat.reduceAdd, Nat.reduceEqDiff, Nat.reduceLeDiff, Nat.reduceSub, reduceCtorEq, ↓reduceIte, Nat.reduceBEq, Int.reduceLT, Int.reduceLE, Int.reduceEq, Int.reduceBEq, Int.reduceBNe, Nat.reduceLT, Nat.reduceMul, Int.reduceToNat]
      exact joinQ_c () h [] rfl (by simp only [hb6, go_sem, Nat.reduceAdd, Nat.reduceEqDiff, Nat.reduceLeDiff, Nat.reduceSub, reduceCtorEq, ↓reduceIte, Nat.reduceBEq, Int.reduceLT, Int.reduceLE, Int.reduceEq, Int.reduceBEq, Int.reduceBNe, Nat.reduceLT, Nat.reduceMul, Int.reduceToNat, slotsWk, objsWk, objWk, optVOWk, SV.wk, SC.wk, cellsWk, VO.wk, Ptr.wk, ptrsWk, SC.isNl, List.map_append, List.map_cons, List.map_nil, Option.some.injEq, Prod.mk.injEq, SC.d.injEq, D.l.injEq, List.map_set])
  · try dsimp only at h
    rw [hk3] at h
    simp only [Option.some.injEq] at h
    subst h
    try simp only [go_sem, Nat.reduceAdd, Nat.reduceEqDiff, Nat.reduceLeDiff, Nat.reduceSub, reduceCtorEq, ↓reduceIte, Nat.reduceBEq, Int.reduceLT, Int.reduceLE, Int.reduceEq, Int.reduceBEq, Int.reduceBNe, Nat.reduceLT, Nat.reduceMul, Int.reduceToNat, List.map_append, List.map_cons, List.map_nil, List.map_set]
def store_txn (p0 : Txn) : Option (Bool) := (withK (fun (b1_1 : Bool) => (some b1_1)) fun k2 => (if (decide (p0.Site ≥ 0)) = true then (if (decide (p0.Site < 4)) = true then (if (decide (p0.N ≥ 1)) = true then (k2 (decide (p0.N ≤ 1048576))) else (k2 false)) else (k2 false)) else (k2 false)))
def F43 : VFn := ⟨21, (.seq (.reg [⟨(some 1), .box 2 (.t 0), none⟩, ⟨(some 2), .mv (.c (.one (.d (.b false)))), none⟩]) (.seq (.wk (.reg [⟨(some 3), .fa 0 (.t 1), none⟩, ⟨(some 4), .ld false 1 (.t 3), none⟩, ⟨(some 5), .bin .i .geq (.t 4) (.c (.one (.d (.i .i64 0)))), none⟩, ⟨(some 6), .mv (.t 5), none⟩, ⟨(some 7), .fa 0 (.t 1), (some (6, true))⟩, ⟨(some 8), .ld false 1 (.t 7), (some (6, true))⟩, ⟨(some 9), .bin .i .lss (.t 8) (.c (.one (.d (.i .i64 4)))), (some (6, true))⟩, ⟨(some 10), .pick (.t 6) (.t 9) (.c (.one (.d (.b false)))), none⟩, ⟨(some 11), .mv (.t 10), none⟩, ⟨(some 12), .fa 1 (.t 1), (some (11, true))⟩, ⟨(some 13), .ld false 1 (.t 12), (some (11, true))⟩, ⟨(some 14), .bin .i .geq (.t 13) (.c (.one (.d (.i .i64 1)))), (some (11, true))⟩, ⟨(some 15), .pick (.t 11) (.t 14) (.c (.one (.d (.b false)))), none⟩, ⟨(some 16), .mv (.t 15), none⟩, ⟨(some 17), .fa 1 (.t 1), (some (16, true))⟩, ⟨(some 18), .ld false 1 (.t 17), (some (16, true))⟩, ⟨(some 19), .bin .i .leq (.t 18) (.c (.one (.d (.i .i64 1048576)))), (some (16, true))⟩, ⟨(some 20), .pick (.t 16) (.t 19) (.c (.one (.d (.b false)))), none⟩, ⟨(some 2), .mv (.t 20), none⟩])) .ret)), [.t 2]⟩
theorem low43 : lowF Try.prog 43 = some F43.strip := by kernel_rfl
theorem fok43 : fOk Try.prog 43 = true := by kernel_rfl
theorem store_txn_ok (G : Nat → Option (List D)) (p0 : Txn) (r : Bool) (h : store_txn p0 = some r) : FnRO Try.prog G 43 [.agg [.d (.i .i64 p0.Site), .d (.i .i64 p0.N)]] (fun rs => rs = [.one (.b r)]) := by
  refine FnRO.of' low43 fok43 (by simp [F43]) ?_
  rw [store_txn] at h
  simp only [F43, go_sem, Nat.reduceAdd, Nat.reduceEqDiff, Nat.reduceLeDiff, Nat.reduceSub, reduceCtorEq, ↓reduceIte, Nat.reduceBEq, Int.reduceLT, Int.reduceLE, Int.reduceEq, Int.reduceBEq, Int.reduceBNe, Nat.reduceLT, Nat.reduceMul, Int.reduceToNat]
  obtain ⟨k2, hk2, h⟩ := withK_lk1 h
  try simp only [go_sem, Nat.reduceAdd, Nat.reduceEqDiff, Nat.reduceLeDiff, Nat.reduceSub, reduceCtorEq, ↓reduceIte, Nat.reduceBEq, Int.reduceLT, Int.reduceLE, Int.reduceEq, Int.reduceBEq, Int.reduceBNe, Nat.reduceLT, Nat.reduceMul, Int.reduceToNat]
  refine join_lk Try.prog G _ _ (B := Bool) (fun b => k2 b = some r) (fun b => [(2, .one (.d (.b b)))]) (fun b => []) ?_ (fun b1_1 h => ?_)
  · rcases of_if h with ⟨hb3, h⟩ | ⟨hb3, h⟩
    · rcases of_if h with ⟨hb4, h⟩ | ⟨hb4, h⟩
      · have hkhb4 := of_decide_eq_true hb4
        rcases of_if h with ⟨hb5, h⟩ | ⟨hb5, h⟩
        · try simp only [hb3, hb4, hkhb4, hb5, go_sem, Nat.reduceAdd, Nat.reduceEqDiff, Nat.reduceLeDiff, Nat.reduceSub, reduceCtorEq, ↓reduceIte, Nat.reduceBEq, Int.reduceLT, Int.reduceLE, Int.reduceEq, Int.reduceBEq, Int.reduceBNe, Nat.reduceLT, Nat.reduceMul, Int.reduceToNat]
          exact joinQ_c (decide (p0.N ≤ 1048576)) h [] rfl (by simp only [hb3, hb4, hkhb4, hb5, go_sem, Nat.reduceAdd, Nat.reduceEqDiff, Nat.reduceLeDiff, Nat.reduceSub, reduceCtorEq, ↓reduceIte, Nat.reduceBEq, Int.reduceLT, Int.reduceLE, Int.reduceEq, Int.reduceBEq, Int.reduceBNe, Nat.reduceLT, Nat.reduceMul, Int.reduceToNat, slotsWk, objsWk, objWk, optVOWk, SV.wk, SC.wk, cellsWk, VO.wk, Ptr.wk, ptrsWk, SC.isNl, List.map_append, List.map_cons, List.map_nil, Option.some.injEq, Prod.mk.injEq, SC.d.injEq, D.l.injEq, List.map_set])
        · try simp only [hb3, hb4, hkhb4, hb5, go_sem, Nat.reduceAdd, Nat.reduceEqDiff, Nat.reduceLeDiff, Nat.reduceSub, reduceCtorEq, ↓reduceIte, Nat.reduceBEq, Int.reduceLT, Int.reduceLE, Int.reduceEq, Int.reduceBEq, Int.reduceBNe, Nat.reduceLT, Nat.reduceMul, Int.reduceToNat]
          exact joinQ_c (false) h [] rfl (by simp only [hb3, hb4, hkhb4, hb5, go_sem, Nat.reduceAdd, Nat.reduceEqDiff, Nat.reduceLeDiff, Nat.reduceSub, reduceCtorEq, ↓reduceIte, Nat.reduceBEq, Int.reduceLT, Int.reduceLE, Int.reduceEq, Int.reduceBEq, Int.reduceBNe, Nat.reduceLT, Nat.reduceMul, Int.reduceToNat, slotsWk, objsWk, objWk, optVOWk, SV.wk, SC.wk, cellsWk, VO.wk, Ptr.wk, ptrsWk, SC.isNl, List.map_append, List.map_cons, List.map_nil, Option.some.injEq, Prod.mk.injEq, SC.d.injEq, D.l.injEq, List.map_set])
      · try simp only [hb3, hb4, go_sem, Nat.reduceAdd, Nat.reduceEqDiff, Nat.reduceLeDiff, Nat.reduceSub, reduceCtorEq, ↓reduceIte, Nat.reduceBEq, Int.reduceLT, Int.reduceLE, Int.reduceEq, Int.reduceBEq, Int.reduceBNe, Nat.reduceLT, Nat.reduceMul, Int.reduceToNat]
        exact joinQ_c (false) h [] rfl (by simp only [hb3, hb4, go_sem, Nat.reduceAdd, Nat.reduceEqDiff, Nat.reduceLeDiff, Nat.reduceSub, reduceCtorEq, ↓reduceIte, Nat.reduceBEq, Int.reduceLT, Int.reduceLE, Int.reduceEq, Int.reduceBEq, Int.reduceBNe, Nat.reduceLT, Nat.reduceMul, Int.reduceToNat, slotsWk, objsWk, objWk, optVOWk, SV.wk, SC.wk, cellsWk, VO.wk, Ptr.wk, ptrsWk, SC.isNl, List.map_append, List.map_cons, List.map_nil, Option.some.injEq, Prod.mk.injEq, SC.d.injEq, D.l.injEq, List.map_set])
    · try simp only [hb3, go_sem, Nat.reduceAdd, Nat.reduceEqDiff, Nat.reduceLeDiff, Nat.reduceSub, reduceCtorEq, ↓reduceIte, Nat.reduceBEq, Int.reduceLT, Int.reduceLE, Int.reduceEq, Int.reduceBEq, Int.reduceBNe, Nat.reduceLT, Nat.reduceMul, Int.reduceToNat]
      exact joinQ_c (false) h [] rfl (by simp only [hb3, go_sem, Nat.reduceAdd, Nat.reduceEqDiff, Nat.reduceLeDiff, Nat.reduceSub, reduceCtorEq, ↓reduceIte, Nat.reduceBEq, Int.reduceLT, Int.reduceLE, Int.reduceEq, Int.reduceBEq, Int.reduceBNe, Nat.reduceLT, Nat.reduceMul, Int.reduceToNat, slotsWk, objsWk, objWk, optVOWk, SV.wk, SC.wk, cellsWk, VO.wk, Ptr.wk, ptrsWk, SC.isNl, List.map_append, List.map_cons, List.map_nil, Option.some.injEq, Prod.mk.injEq, SC.d.injEq, D.l.injEq, List.map_set])
  · try dsimp only at h
    rw [hk2] at h
    simp only [Option.some.injEq] at h
    subst h
    try simp only [go_sem, Nat.reduceAdd, Nat.reduceEqDiff, Nat.reduceLeDiff, Nat.reduceSub, reduceCtorEq, ↓reduceIte, Nat.reduceBEq, Int.reduceLT, Int.reduceLE, Int.reduceEq, Int.reduceBEq, Int.reduceBNe, Nat.reduceLT, Nat.reduceMul, Int.reduceToNat, List.map_append, List.map_cons, List.map_nil, List.map_set]
def slices_Index_Txn_L1 (p0 : List Txn) (p1 : Txn) (k3 : Option (Int)) : Nat → Nat → Option (Int)
  | 0, _ => none
  | n5 + 1, a4_1 => (if (decide (a4_1 < p0.length)) = true then (Option.bind (p0[a4_1]?) fun x7 => (if ((p1.Site == x7.Site) && (p1.N == x7.N)) = true then (some ((a4_1 : Nat) : Int)) else (slices_Index_Txn_L1 p0 p1 k3 n5 (a4_1 + 1)))) else k3)
def slices_Index_Txn (p0 : List Txn) (p1 : Txn) : Option (Int) := (withK (some (-1)) fun k3 => (slices_Index_Txn_L1 p0 p1 k3 (p0.length + 1) 0))
def F54 : VFn := ⟨19, (.seq (.reg [⟨(some 3), .box 2 (.t 1), none⟩, ⟨(some 4), .mv (.c (.one (.d (.i .i64 0)))), none⟩]) (.seq (.seq (.reg [⟨(some 6), .mv (.t 0), none⟩, ⟨(some 7), .len (.t 6), none⟩, ⟨(some 8), .mv (.c (.one (.d (.i .i64 0)))), none⟩]) (.wk (.block 0 (.loop (.seq (.reg [⟨(some 9), .bin .i .lss (.t 8) (.t 7), none⟩]) (.seq (.cond (.t 9) .skip (.exit 0)) (.seq (.block 1 (.seq (.reg [⟨(some 10), .mv (.t 8), none⟩, ⟨(some 5), .mv (.t 10), none⟩]) (.seq (.draw [⟨⟨(some 11), .ld true 2 (.t 3), none⟩, [], [], none, []⟩, ⟨⟨(some 12), .mv (.t 0), none⟩, [], [], none, []⟩, ⟨⟨(some 13), .mv (.t 5), none⟩, [], [], none, []⟩, ⟨⟨(some 14), .ia 2 (.t 12) (.t 13), none⟩, [1, 2], [], none, []⟩, ⟨⟨(some 15), .ld true 2 (.t 14), none⟩, [3, 1, 2], [], none, []⟩, ⟨⟨(some 16), .eqs false [.i, .i] (.t 11) (.t 15), none⟩, [0, 4, 3, 1, 2], [], none, []⟩]) (.cond (.t 16) (.seq (.reg [⟨(some 17), .mv (.t 5), none⟩, ⟨(some 4), .mv (.t 17), none⟩]) .ret) .skip)))) (.reg [⟨(some 18), .bin .i .add (.t 8) (.c (.one (.d (.i .i64 1)))), none⟩, ⟨(some 8), .mv (.t 18), none⟩])))))))) (.seq (.reg [⟨(some 4), .mv (.c (.one (.d (.i .i64 (-1))))), none⟩]) .ret))), [.t 4]⟩
theorem low54 : lowF Try.prog 54 = some F54.strip := by kernel_rfl
theorem fok54 : fOk Try.prog 54 = true := by kernel_rfl
theorem slices_Index_Txn_ok (G : Nat → Option (List D)) (p0 : List Txn) (p1 : Txn) (r : Int) (h : slices_Index_Txn p0 p1 = some r) : FnRO Try.prog G 54 [.one (.d (.l 2 (p0.map Txn.enc))), .agg [.d (.i .i64 p1.Site), .d (.i .i64 p1.N)]] (fun rs => rs = [.one (.i .i64 r)]) := by
  refine FnRO.of' low54 fok54 (by simp [F54]) ?_
  rw [slices_Index_Txn] at h
  simp only [F54, go_sem, Nat.reduceAdd, Nat.reduceEqDiff, Nat.reduceLeDiff, Nat.reduceSub, reduceCtorEq, ↓reduceIte, Nat.reduceBEq, Int.reduceLT, Int.reduceLE, Int.reduceEq, Int.reduceBEq, Int.reduceBNe, Nat.reduceLT, Nat.reduceMul, Int.reduceToNat]
  try simp only [go_sem, Nat.reduceAdd, Nat.reduceEqDiff, Nat.reduceLeDiff, Nat.reduceSub, reduceCtorEq, ↓reduceIte, Nat.reduceBEq, Int.reduceLT, Int.reduceLE, Int.reduceEq, Int.reduceBEq, Int.reduceBNe, Nat.reduceLT, Nat.reduceMul, Int.reduceToNat]
  intro hl1
  obtain ⟨k3, hk3, h⟩ := withK_lk0 h
  try simp only [go_sem, Nat.reduceAdd, Nat.reduceEqDiff, Nat.reduceLeDiff, Nat.reduceSub, reduceCtorEq, ↓reduceIte, Nat.reduceBEq, Int.reduceLT, Int.reduceLE, Int.reduceEq, Int.reduceBEq, Int.reduceBNe, Nat.reduceLT, Nat.reduceMul, Int.reduceToNat]
  refine join_lk Try.prog G _ _ (B := Unit) (fun b => k3 = some r) (fun b => []) (fun b => []) ?_ (fun b h => ?_)
  · try simp only [go_sem, Nat.reduceAdd, Nat.reduceEqDiff, Nat.reduceLeDiff, Nat.reduceSub, reduceCtorEq, ↓reduceIte, Nat.reduceBEq, Int.reduceLT, Int.reduceLE, Int.reduceEq, Int.reduceBEq, Int.reduceBNe, Nat.reduceLT, Nat.reduceMul, Int.reduceToNat]
    refine loop_lk Try.prog G _ _ (A := Nat) (fun n a => slices_Index_Txn_L1 p0 p1 k3 n a = some r) (fun a => [(0, .one (.d (.l 2 (p0.map Txn.enc)))), (3, .one (.p (.q 0 0 0))), (7, .one (.d (.i .i64 ((p0.length : Nat) : Int)))), (8, .one (.d (.i .i64 ((a : Nat) : Int))))]) (fun a => [some (.box [.d (.i .i64 p1.Site), .d (.i .i64 p1.N)])]) (p0.length + 1) (0) h (wk_c _ _ _ [some 0] rfl (by simp only [go_sem, Nat.reduceAdd, Nat.reduceEqDiff, Nat.reduceLeDiff, Nat.reduceSub, reduceCtorEq, ↓reduceIte, Nat.reduceBEq, Int.reduceLT, Int.reduceLE, Int.reduceEq, Int.reduceBEq, Int.reduceBNe, Nat.reduceLT, Nat.reduceMul, Int.reduceToNat, slotsWk, objsWk, objWk, optVOWk, SV.wk, SC.wk, cellsWk, VO.wk, Ptr.wk, ptrsWk, SC.isNl, List.map_append, List.map_cons, List.map_nil, Option.some.injEq, Prod.mk.injEq, SC.d.injEq, D.l.injEq, List.map_set])) (fun a h => by simp only [slices_Index_Txn_L1, reduceCtorEq] at h) ?_
    intro n5 a4_1 h
    try dsimp only at h
    rw [slices_Index_Txn_L1] at h
    rcases of_if h with ⟨hb6, h⟩ | ⟨hb6, h⟩
    · have hkhb6 := of_decide_eq_true hb6
      obtain ⟨x7, hx7, h⟩ := Option.bind_eq_some_iff.1 h
      have hkx7 := (List.getElem?_eq_some_iff.1 hx7).1
      try simp only [List.length_take, List.length_drop, List.length_append, List.length_set, List.length_map, List.length_cons, List.length_nil, Nat.zero_add] at hkx7
      rcases of_if h with ⟨hb8, h⟩ | ⟨hb8, h⟩
      · try simp only [hb6, hkhb6, hx7, hkx7, hb8, go_sem, Nat.reduceAdd, Nat.reduceEqDiff, Nat.reduceLeDiff, Nat.reduceSub, reduceCtorEq, ↓reduceIte, Nat.reduceBEq, Int.reduceLT, Int.reduceLE, Int.reduceEq, Int.reduceBEq, Int.reduceBNe, Nat.reduceLT, Nat.reduceMul, Int.reduceToNat]
        simp only [Option.some.injEq] at h
        subst h
        try simp only [hb6, hkhb6, hx7, hkx7, hb8, go_sem, Nat.reduceAdd, Nat.reduceEqDiff, Nat.reduceLeDiff, Nat.reduceSub, reduceCtorEq, ↓reduceIte, Nat.reduceBEq, Int.reduceLT, Int.reduceLE, Int.reduceEq, Int.reduceBEq, Int.reduceBNe, Nat.reduceLT, Nat.reduceMul, Int.reduceToNat, List.map_append, List.map_cons, List.map_nil, List.map_set]
      · try simp only [hb6, hkhb6, hx7, hkx7, hb8, go_sem, Nat.reduceAdd, Nat.reduceEqDiff, Nat.reduceLeDiff, Nat.reduceSub, reduceCtorEq, ↓reduceIte, Nat.reduceBEq, Int.reduceLT, Int.reduceLE, Int.reduceEq, Int.reduceBEq, Int.reduceBNe, Nat.reduceLT, Nat.reduceMul, Int.reduceToNat]
        have hw9 := wrap_succ_max hkx7 hl1
        try simp only [hb6, hkhb6, hx7, hkx7, hb8, hw9, go_sem, Nat.reduceAdd, Nat.reduceEqDiff, Nat.reduceLeDiff, Nat.reduceSub, reduceCtorEq, ↓reduceIte, Nat.reduceBEq, Int.reduceLT, Int.reduceLE, Int.reduceEq, Int.reduceBEq, Int.reduceBNe, Nat.reduceLT, Nat.reduceMul, Int.reduceToNat]
        exact loopQ_c (a4_1 + 1) h [some 0] rfl (by simp only [hb6, hkhb6, hx7, hkx7, hb8, hw9, go_sem, Nat.reduceAdd, Nat.reduceEqDiff, Nat.reduceLeDiff, Nat.reduceSub, reduceCtorEq, ↓reduceIte, Nat.reduceBEq, Int.reduceLT, Int.reduceLE, Int.reduceEq, Int.reduceBEq, Int.reduceBNe, Nat.reduceLT, Nat.reduceMul, Int.reduceToNat, slotsWk, objsWk, objWk, optVOWk, SV.wk, SC.wk, cellsWk, VO.wk, Ptr.wk, ptrsWk, SC.isNl, List.map_append, List.map_cons, List.map_nil, Option.some.injEq, Prod.mk.injEq, SC.d.injEq, D.l.injEq, List.map_set])
    · try simp only [hb6, go_sem, Nat.reduceAdd, Nat.reduceEqDiff, Nat.reduceLeDiff, Nat.reduceSub, reduceCtorEq, ↓reduceIte, Nat.reduceBEq, Int.reduceLT, Int.reduceLE, Int.reduceEq, Int.reduceBEq, Int.reduceBNe, Nat.reduceLT, Nat.reduceMul, Int.reduceToNat]
      exact joinQ_c () h [] rfl (by simp only [hb6, go_sem, Nat.reduceAdd, Nat.reduceEqDiff, Nat.reduceLeDiff, Nat.reduceSub, reduceCtorEq, ↓reduceIte, Nat.reduceBEq, Int.reduceLT, Int.reduceLE, Int.reduceEq, Int.reduceBEq, Int.reduceBNe, Nat.reduceLT, Nat.reduceMul, Int.reduceToNat, slotsWk, objsWk, objWk, optVOWk, SV.wk, SC.wk, cellsWk, VO.wk, Ptr.wk, ptrsWk, SC.isNl, List.map_append, List.map_cons, List.map_nil, Option.some.injEq, Prod.mk.injEq, SC.d.injEq, D.l.injEq, List.map_set])
  · try dsimp only at h
    rw [hk3] at h
    simp only [Option.some.injEq] at h
    subst h
    try simp only [go_sem, Nat.reduceAdd, Nat.reduceEqDiff, Nat.reduceLeDiff, Nat.reduceSub, reduceCtorEq, ↓reduceIte, Nat.reduceBEq, Int.reduceLT, Int.reduceLE, Int.reduceEq, Int.reduceBEq, Int.reduceBNe, Nat.reduceLT, Nat.reduceMul, Int.reduceToNat, List.map_append, List.map_cons, List.map_nil, List.map_set]
def slices_Contains_Txn (p0 : List Txn) (p1 : Txn) : Option (Bool) := (Option.bind (slices_Index_Txn p0 p1) fun v1 => (some (decide (v1 ≥ 0))))
def F29 : VFn := ⟨9, (.seq (.reg [⟨(some 3), .box 2 (.t 1), none⟩, ⟨(some 4), .mv (.c (.one (.d (.b false)))), none⟩]) (.seq (.reg [⟨(some 5), .mv (.t 0), none⟩, ⟨(some 6), .ld true 2 (.t 3), none⟩, ⟨(some 7), .call 54 [(.t 5), (.t 6)], none⟩, ⟨(some 8), .bin .i .geq (.t 7) (.c (.one (.d (.i .i64 0)))), none⟩, ⟨(some 4), .mv (.t 8), none⟩]) .ret)), [.t 4]⟩
theorem low29 : lowF Try.prog 29 = some F29.strip := by kernel_rfl
theorem fok29 : fOk Try.prog 29 = true := by kernel_rfl
theorem slices_Contains_Txn_ok (G : Nat → Option (List D)) (p0 : List Txn) (p1 : Txn) (r : Bool) (h : slices_Contains_Txn p0 p1 = some r) : FnRO Try.prog G 29 [.one (.d (.l 2 (p0.map Txn.enc))), .agg [.d (.i .i64 p1.Site), .d (.i .i64 p1.N)]] (fun rs => rs = [.one (.b r)]) := by
  refine FnRO.of' low29 fok29 (by simp [F29]) ?_
  rw [slices_Contains_Txn] at h
  simp only [F29, go_sem, Nat.reduceAdd, Nat.reduceEqDiff, Nat.reduceLeDiff, Nat.reduceSub, reduceCtorEq, ↓reduceIte, Nat.reduceBEq, Int.reduceLT, Int.reduceLE, Int.reduceEq, Int.reduceBEq, Int.reduceBNe, Nat.reduceLT, Nat.reduceMul, Int.reduceToNat]
  obtain ⟨v1, hv1, h⟩ := Option.bind_eq_some_iff.1 h
  try simp only [go_sem, Nat.reduceAdd, Nat.reduceEqDiff, Nat.reduceLeDiff, Nat.reduceSub, reduceCtorEq, ↓reduceIte, Nat.reduceBEq, Int.reduceLT, Int.reduceLE, Int.reduceEq, Int.reduceBEq, Int.reduceBNe, Nat.reduceLT, Nat.reduceMul, Int.reduceToNat]
  refine CallV.ro false (slices_Index_Txn_ok G p0 p1 v1 hv1) rfl ?_
  rintro rs rfl
  refine ⟨.inl rfl, ?_⟩
  simp only [Option.some.injEq] at h
  subst h
  try simp only [go_sem, Nat.reduceAdd, Nat.reduceEqDiff, Nat.reduceLeDiff, Nat.reduceSub, reduceCtorEq, ↓reduceIte, Nat.reduceBEq, Int.reduceLT, Int.reduceLE, Int.reduceEq, Int.reduceBEq, Int.reduceBNe, Nat.reduceLT, Nat.reduceMul, Int.reduceToNat, List.map_append, List.map_cons, List.map_nil, List.map_set]
def store_doubts_1 (p0 : Lock) (p1 : Doubt) : Option (Bool) := (some ((p0.Txn.Site == p1.Txn.Site) && (p0.Txn.N == p1.Txn.N)))
def F69 : VFn := ⟨9, (.seq (.reg [⟨(some 2), .box 6 (.t 0), none⟩, ⟨(some 3), .mv (.c (.one (.d (.b false)))), none⟩]) (.seq (.reg [⟨(some 4), .fa 0 (.t 2), none⟩, ⟨(some 5), .ld true 2 (.t 4), none⟩, ⟨(some 6), .fa 0 (.t 1), none⟩, ⟨(some 7), .ld true 2 (.t 6), none⟩, ⟨(some 8), .eqs false [.i, .i] (.t 5) (.t 7), none⟩, ⟨(some 3), .mv (.t 8), none⟩]) .ret)), [.t 3]⟩
theorem low69 : lowF Try.prog 69 = some F69.strip := by kernel_rfl
theorem fok69 : fOk Try.prog 69 = true := by kernel_rfl
theorem store_doubts_1_ok (G : Nat → Option (List D)) (p0 : Lock) (p1 : Doubt) (r : Bool) (h : store_doubts_1 p0 p1 = some r) : FnRO Try.prog G 69 [.agg [.d (.i .i64 p0.Txn.Site), .d (.i .i64 p0.Txn.N), .d (.i .i64 p0.Key), .d (.b p0.Write), .d (.i .i64 p0.Value), .d (.i .i64 p0.Ask)], .one (.d (.k [.i .i64 p1.Txn.Site, .i .i64 p1.Txn.N, .i .i64 p1.Age]))] (fun rs => rs = [.one (.b r)]) := by
  refine FnRO.of' low69 fok69 (by simp [F69]) ?_
  rw [store_doubts_1] at h
  simp only [F69, go_sem, Nat.reduceAdd, Nat.reduceEqDiff, Nat.reduceLeDiff, Nat.reduceSub, reduceCtorEq, ↓reduceIte, Nat.reduceBEq, Int.reduceLT, Int.reduceLE, Int.reduceEq, Int.reduceBEq, Int.reduceBNe, Nat.reduceLT, Nat.reduceMul, Int.reduceToNat]
  simp only [Option.some.injEq] at h
  subst h
  try simp only [go_sem, Nat.reduceAdd, Nat.reduceEqDiff, Nat.reduceLeDiff, Nat.reduceSub, reduceCtorEq, ↓reduceIte, Nat.reduceBEq, Int.reduceLT, Int.reduceLE, Int.reduceEq, Int.reduceBEq, Int.reduceBNe, Nat.reduceLT, Nat.reduceMul, Int.reduceToNat, List.map_append, List.map_cons, List.map_nil, List.map_set]
def slices_IndexFunc_Lock_L1 (p0 : List Lock) (p1 : Lock → Option (Bool)) (k3 : Option (Int)) : Nat → Nat → Option (Int)
  | 0, _ => none
  | n5 + 1, a4_1 => (if (decide (a4_1 < p0.length)) = true then (Option.bind (p0[a4_1]?) fun x7 => (Option.bind (p1 x7) fun v8 => (if v8 = true then (some ((a4_1 : Nat) : Int)) else (slices_IndexFunc_Lock_L1 p0 p1 k3 n5 (a4_1 + 1))))) else k3)
def slices_IndexFunc_Lock (p0 : List Lock) (p1 : Lock → Option (Bool)) : Option (Int) := (withK (some (-1)) fun k3 => (slices_IndexFunc_Lock_L1 p0 p1 k3 (p0.length + 1) 0))
def F44 : VFn := ⟨19, (.seq (.reg [⟨(some 4), .mv (.c (.one (.d (.i .i64 0)))), none⟩]) (.seq (.seq (.reg [⟨(some 6), .mv (.t 0), none⟩, ⟨(some 7), .len (.t 6), none⟩, ⟨(some 8), .mv (.c (.one (.d (.i .i64 0)))), none⟩]) (.wk (.block 0 (.loop (.seq (.reg [⟨(some 9), .bin .i .lss (.t 8) (.t 7), none⟩]) (.seq (.cond (.t 9) .skip (.exit 0)) (.seq (.block 1 (.seq (.reg [⟨(some 10), .mv (.t 8), none⟩, ⟨(some 5), .mv (.t 10), none⟩]) (.seq (.reg [⟨(some 11), .mv (.t 1), none⟩, ⟨(some 12), .mv (.t 0), none⟩, ⟨(some 13), .mv (.t 5), none⟩, ⟨(some 14), .ia 6 (.t 12) (.t 13), none⟩, ⟨(some 15), .ld true 6 (.t 14), none⟩, ⟨(some 16), .callv (.t 11) [(.t 15)], none⟩]) (.cond (.t 16) (.seq (.reg [⟨(some 17), .mv (.t 5), none⟩, ⟨(some 4), .mv (.t 17), none⟩]) .ret) .skip)))) (.reg [⟨(some 18), .bin .i .add (.t 8) (.c (.one (.d (.i .i64 1)))), none⟩, ⟨(some 8), .mv (.t 18), none⟩])))))))) (.seq (.reg [⟨(some 4), .mv (.c (.one (.d (.i .i64 (-1))))), none⟩]) .ret))), [.t 4]⟩
theorem low44 : lowF Try.prog 44 = some F44.strip := by kernel_rfl
theorem fok44 : fOk Try.prog 44 = true := by kernel_rfl
theorem slices_IndexFunc_Lock_ok (G : Nat → Option (List D)) (p0 : List Lock) (p1 : Lock → Option (Bool)) (g_p1 : Nat) (c_p1 : List D) (h_p1 : ∀ (x0 : Lock) (r : Bool), p1 x0 = some r → FnRO Try.prog G g_p1 ([.agg [.d (.i .i64 x0.Txn.Site), .d (.i .i64 x0.Txn.N), .d (.i .i64 x0.Key), .d (.b x0.Write), .d (.i .i64 x0.Value), .d (.i .i64 x0.Ask)]] ++ c_p1.map fun d => .one (.d d)) (fun rs => rs = [.one (.b r)])) (r : Int) (h : slices_IndexFunc_Lock p0 p1 = some r) : FnRO Try.prog G 44 [.one (.d (.l 6 (p0.map Lock.enc))), .one (.d (.f g_p1 c_p1))] (fun rs => rs = [.one (.i .i64 r)]) := by
  refine FnRO.of' low44 fok44 (by simp [F44]) ?_
  rw [slices_IndexFunc_Lock] at h
  simp only [F44, go_sem, Nat.reduceAdd, Nat.reduceEqDiff, Nat.reduceLeDiff, Nat.reduceSub, reduceCtorEq, ↓reduceIte, Nat.reduceBEq, Int.reduceLT, Int.reduceLE, Int.reduceEq, Int.reduceBEq, Int.reduceBNe, Nat.reduceLT, Nat.reduceMul, Int.reduceToNat]
  try simp only [go_sem, Nat.reduceAdd, Nat.reduceEqDiff, Nat.reduceLeDiff, Nat.reduceSub, reduceCtorEq, ↓reduceIte, Nat.reduceBEq, Int.reduceLT, Int.reduceLE, Int.reduceEq, Int.reduceBEq, Int.reduceBNe, Nat.reduceLT, Nat.reduceMul, Int.reduceToNat]
  intro hl1
  obtain ⟨k3, hk3, h⟩ := withK_lk0 h
  try simp only [go_sem, Nat.reduceAdd, Nat.reduceEqDiff, Nat.reduceLeDiff, Nat.reduceSub, reduceCtorEq, ↓reduceIte, Nat.reduceBEq, Int.reduceLT, Int.reduceLE, Int.reduceEq, Int.reduceBEq, Int.reduceBNe, Nat.reduceLT, Nat.reduceMul, Int.reduceToNat]
  refine join_lk Try.prog G _ _ (B := Unit) (fun b => k3 = some r) (fun b => []) (fun b => []) ?_ (fun b h => ?_)
  · try simp only [go_sem, Nat.reduceAdd, Nat.reduceEqDiff, Nat.reduceLeDiff, Nat.reduceSub, reduceCtorEq, ↓reduceIte, Nat.reduceBEq, Int.reduceLT, Int.reduceLE, Int.reduceEq, Int.reduceBEq, Int.reduceBNe, Nat.reduceLT, Nat.reduceMul, Int.reduceToNat]
    refine loop_lk Try.prog G _ _ (A := Nat) (fun n a => slices_IndexFunc_Lock_L1 p0 p1 k3 n a = some r) (fun a => [(0, .one (.d (.l 6 (p0.map Lock.enc)))), (1, .one (.d (.f g_p1 c_p1))), (7, .one (.d (.i .i64 ((p0.length : Nat) : Int)))), (8, .one (.d (.i .i64 ((a : Nat) : Int))))]) (fun a => []) (p0.length + 1) (0) h (wk_c _ _ _ [] rfl (by simp only [go_sem, Nat.reduceAdd, Nat.reduceEqDiff, Nat.reduceLeDiff, Nat.reduceSub, reduceCtorEq, ↓reduceIte, Nat.reduceBEq, Int.reduceLT, Int.reduceLE, Int.reduceEq, Int.reduceBEq, Int.reduceBNe, Nat.reduceLT, Nat.reduceMul, Int.reduceToNat, slotsWk, objsWk, objWk, optVOWk, SV.wk, SC.wk, cellsWk, VO.wk, Ptr.wk, ptrsWk, SC.isNl, List.map_append, List.map_cons, List.map_nil, Option.some.injEq, Prod.mk.injEq, SC.d.injEq, D.l.injEq, List.map_set])) (fun a h => by simp only [slices_IndexFunc_Lock_L1, reduceCtorEq] at h) ?_
    intro n5 a4_1 h
    try dsimp only at h
    rw [slices_IndexFunc_Lock_L1] at h
    rcases of_if h with ⟨hb6, h⟩ | ⟨hb6, h⟩
    · have hkhb6 := of_decide_eq_true hb6
      obtain ⟨x7, hx7, h⟩ := Option.bind_eq_some_iff.1 h
      have hkx7 := (List.getElem?_eq_some_iff.1 hx7).1
      try simp only [List.length_take, List.length_drop, List.length_append, List.length_set, List.length_map, List.length_cons, List.length_nil, Nat.zero_add] at hkx7
      obtain ⟨v8, hv8, h⟩ := Option.bind_eq_some_iff.1 h
      try simp only [hb6, hkhb6, hx7, hkx7, go_sem, Nat.reduceAdd, Nat.reduceEqDiff, Nat.reduceLeDiff, Nat.reduceSub, reduceCtorEq, ↓reduceIte, Nat.reduceBEq, Int.reduceLT, Int.reduceLE, Int.reduceEq, Int.reduceBEq, Int.reduceBNe, Nat.reduceLT, Nat.reduceMul, Int.reduceToNat]
      refine CallV.ro false (h_p1 x7 v8 hv8) (by first | rfl | simp only [hb6, hkhb6, hx7, hkx7, go_sem, Nat.reduceAdd, Nat.reduceEqDiff, Nat.reduceLeDiff, Nat.reduceSub, reduceCtorEq, ↓reduceIte, Nat.reduceBEq, Int.reduceLT, Int.reduceLE, Int.reduceEq, Int.reduceBEq, Int.reduceBNe, Nat.reduceLT, Nat.reduceMul, Int.reduceToNat, inVs_caps]) ?_
      rintro rs rfl
      refine ⟨.inl rfl, ?_⟩
      rcases of_if h with ⟨hb9, h⟩ | ⟨hb9, h⟩
      · simp only [Option.some.injEq] at h
        subst h
        try simp only [hb6, hkhb6, hx7, hkx7, hb9, go_sem, Nat.reduceAdd, Nat.reduceEqDiff, Nat.reduceLeDiff, Nat.reduceSub, reduceCtorEq, ↓reduceIte, Nat.reduceBEq, Int.reduceLT, Int.reduceLE, Int.reduceEq, Int.reduceBEq, Int.reduceBNe, Nat.reduceLT, Nat.reduceMul, Int.reduceToNat, List.map_append, List.map_cons, List.map_nil, List.map_set]
      · have hw10 := wrap_succ_max hkx7 hl1
        try simp only [hb6, hkhb6, hx7, hkx7, hb9, hw10, go_sem, Nat.reduceAdd, Nat.reduceEqDiff, Nat.reduceLeDiff, Nat.reduceSub, reduceCtorEq, ↓reduceIte, Nat.reduceBEq, Int.reduceLT, Int.reduceLE, Int.reduceEq, Int.reduceBEq, Int.reduceBNe, Nat.reduceLT, Nat.reduceMul, Int.reduceToNat]
        exact loopQ_c (a4_1 + 1) h [] rfl (by simp only [hb6, hkhb6, hx7, hkx7, hb9, hw10, go_sem, Nat.reduceAdd, Nat.reduceEqDiff, Nat.reduceLeDiff, Nat.reduceSub, reduceCtorEq, ↓reduceIte, Nat.reduceBEq, Int.reduceLT, Int.reduceLE, Int.reduceEq, Int.reduceBEq, Int.reduceBNe, Nat.reduceLT, Nat.reduceMul, Int.reduceToNat, slotsWk, objsWk, objWk, optVOWk, SV.wk, SC.wk, cellsWk, VO.wk, Ptr.wk, ptrsWk, SC.isNl, List.map_append, List.map_cons, List.map_nil, Option.some.injEq, Prod.mk.injEq, SC.d.injEq, D.l.injEq, List.map_set])
    · try simp only [hb6, go_sem, Nat.reduceAdd, Nat.reduceEqDiff, Nat.reduceLeDiff, Nat.reduceSub, reduceCtorEq, ↓reduceIte, Nat.reduceBEq, Int.reduceLT, Int.reduceLE, Int.reduceEq, Int.reduceBEq, Int.reduceBNe, Nat.reduceLT, Nat.reduceMul, Int.reduceToNat]
      exact joinQ_c () h [] rfl (by simp only [hb6, go_sem, Nat.reduceAdd, Nat.reduceEqDiff, Nat.reduceLeDiff, Nat.reduceSub, reduceCtorEq, ↓reduceIte, Nat.reduceBEq, Int.reduceLT, Int.reduceLE, Int.reduceEq, Int.reduceBEq, Int.reduceBNe, Nat.reduceLT, Nat.reduceMul, Int.reduceToNat, slotsWk, objsWk, objWk, optVOWk, SV.wk, SC.wk, cellsWk, VO.wk, Ptr.wk, ptrsWk, SC.isNl, List.map_append, List.map_cons, List.map_nil, Option.some.injEq, Prod.mk.injEq, SC.d.injEq, D.l.injEq, List.map_set])
  · try dsimp only at h
    rw [hk3] at h
    simp only [Option.some.injEq] at h
    subst h
    try simp only [go_sem, Nat.reduceAdd, Nat.reduceEqDiff, Nat.reduceLeDiff, Nat.reduceSub, reduceCtorEq, ↓reduceIte, Nat.reduceBEq, Int.reduceLT, Int.reduceLE, Int.reduceEq, Int.reduceBEq, Int.reduceBNe, Nat.reduceLT, Nat.reduceMul, Int.reduceToNat, List.map_append, List.map_cons, List.map_nil, List.map_set]
def slices_ContainsFunc_Lock (p0 : List Lock) (p1 : Lock → Option (Bool)) : Option (Bool) := (Option.bind (slices_IndexFunc_Lock p0 p1) fun v1 => (some (decide (v1 ≥ 0))))
def F48 : VFn := ⟨9, (.seq (.reg [⟨(some 4), .mv (.c (.one (.d (.b false)))), none⟩]) (.seq (.reg [⟨(some 5), .mv (.t 0), none⟩, ⟨(some 6), .mv (.t 1), none⟩, ⟨(some 7), .call 44 [(.t 5), (.t 6)], none⟩, ⟨(some 8), .bin .i .geq (.t 7) (.c (.one (.d (.i .i64 0)))), none⟩, ⟨(some 4), .mv (.t 8), none⟩]) .ret)), [.t 4]⟩
theorem low48 : lowF Try.prog 48 = some F48.strip := by kernel_rfl
theorem fok48 : fOk Try.prog 48 = true := by kernel_rfl
theorem slices_ContainsFunc_Lock_ok (G : Nat → Option (List D)) (p0 : List Lock) (p1 : Lock → Option (Bool)) (g_p1 : Nat) (c_p1 : List D) (h_p1 : ∀ (x0 : Lock) (r : Bool), p1 x0 = some r → FnRO Try.prog G g_p1 ([.agg [.d (.i .i64 x0.Txn.Site), .d (.i .i64 x0.Txn.N), .d (.i .i64 x0.Key), .d (.b x0.Write), .d (.i .i64 x0.Value), .d (.i .i64 x0.Ask)]] ++ c_p1.map fun d => .one (.d d)) (fun rs => rs = [.one (.b r)])) (r : Bool) (h : slices_ContainsFunc_Lock p0 p1 = some r) : FnRO Try.prog G 48 [.one (.d (.l 6 (p0.map Lock.enc))), .one (.d (.f g_p1 c_p1))] (fun rs => rs = [.one (.b r)]) := by
  refine FnRO.of' low48 fok48 (by simp [F48]) ?_
  rw [slices_ContainsFunc_Lock] at h
  simp only [F48, go_sem, Nat.reduceAdd, Nat.reduceEqDiff, Nat.reduceLeDiff, Nat.reduceSub, reduceCtorEq, ↓reduceIte, Nat.reduceBEq, Int.reduceLT, Int.reduceLE, Int.reduceEq, Int.reduceBEq, Int.reduceBNe, Nat.reduceLT, Nat.reduceMul, Int.reduceToNat]
  obtain ⟨v1, hv1, h⟩ := Option.bind_eq_some_iff.1 h
  try simp only [go_sem, Nat.reduceAdd, Nat.reduceEqDiff, Nat.reduceLeDiff, Nat.reduceSub, reduceCtorEq, ↓reduceIte, Nat.reduceBEq, Int.reduceLT, Int.reduceLE, Int.reduceEq, Int.reduceBEq, Int.reduceBNe, Nat.reduceLT, Nat.reduceMul, Int.reduceToNat]
  refine CallV.ro false (slices_IndexFunc_Lock_ok G p0 p1 g_p1 c_p1 h_p1 v1 hv1) (by first | rfl | (simp only [go_sem, Nat.reduceAdd, Nat.reduceEqDiff, Nat.reduceLeDiff, Nat.reduceSub, reduceCtorEq, ↓reduceIte, Nat.reduceBEq, Int.reduceLT, Int.reduceLE, Int.reduceEq, Int.reduceBEq, Int.reduceBNe, Nat.reduceLT, Nat.reduceMul, Int.reduceToNat, inVs_caps]; done) | simp only [go_sem, Nat.reduceAdd, Nat.reduceEqDiff, Nat.reduceLeDiff, Nat.reduceSub, reduceCtorEq, ↓reduceIte, Nat.reduceBEq, Int.reduceLT, Int.reduceLE, Int.reduceEq, Int.reduceBEq, Int.reduceBNe, Nat.reduceLT, Nat.reduceMul, Int.reduceToNat, inVs_caps, List.map_append, List.map_cons, List.map_nil, List.map_set]) ?_
  rintro rs rfl
  refine ⟨.inl rfl, ?_⟩
  simp only [Option.some.injEq] at h
  subst h
  try simp only [go_sem, Nat.reduceAdd, Nat.reduceEqDiff, Nat.reduceLeDiff, Nat.reduceSub, reduceCtorEq, ↓reduceIte, Nat.reduceBEq, Int.reduceLT, Int.reduceLE, Int.reduceEq, Int.reduceBEq, Int.reduceBNe, Nat.reduceLT, Nat.reduceMul, Int.reduceToNat, List.map_append, List.map_cons, List.map_nil, List.map_set]
def store_doubts_L2 (p0 : Store) (a4_1 : Nat) (x7 : Doubt) (k20 : Option (Bool)) : Nat → Nat → Option (Bool)
  | 0, _ => none
  | n22 + 1, a21_1 => (if (decide (a21_1 < min a4_1 p0.Doubts.length)) = true then (Option.bind ((p0.Doubts.take a4_1)[a21_1]?) fun x24 => (if ((x24.Txn.Site == x7.Txn.Site) && (x24.Txn.N == x7.Txn.N)) = true then (some false) else (store_doubts_L2 p0 a4_1 x7 k20 n22 (a21_1 + 1)))) else k20)
def store_doubts_L1 (p0 : Store) (k3 : Option (Bool)) : Nat → Nat → Option (Bool)
  | 0, _ => none
  | n5 + 1, a4_1 => (if (decide (a4_1 < p0.Doubts.length)) = true then (Option.bind (p0.Doubts[a4_1]?) fun x7 => (Option.bind (store_txn x7.Txn) fun v8 => (if (!v8) = true then (some false) else (if (decide (x7.Age < 0)) = true then (some false) else (if (decide (x7.Age > 1048576)) = true then (some false) else (Option.bind (slices_Contains_Txn p0.Over x7.Txn) fun v12 => (if v12 = true then (some false) else (Option.bind (slices_ContainsFunc_Lock p0.Locks (fun y14 => store_doubts_1 y14 x7)) fun v15 => (if (!v15) = true then (some false) else (withK (store_doubts_L1 p0 k3 n5 (a4_1 + 1)) fun k20 => (store_doubts_L2 p0 a4_1 x7 k20 (min a4_1 p0.Doubts.length + 1) 0))))))))))) else k3)
def store_doubts_L3 (p0 : Store) (k30 : Option (Bool)) : Nat → Nat → Option (Bool)
  | 0, _ => none
  | n32 + 1, a31_1 => (if (decide (a31_1 < p0.Over.length)) = true then (Option.bind (p0.Over[a31_1]?) fun x34 => (Option.bind (store_txn x34) fun v35 => (if (!v35) = true then (some false) else (Option.bind (slices_Contains_Txn (p0.Over.take a31_1) x34) fun v38 => (if v38 = true then (some false) else (store_doubts_L3 p0 k30 n32 (a31_1 + 1))))))) else k30)
def store_doubts (p0 : Store) : Option (Bool) := (withK (withK (some true) fun k30 => (store_doubts_L3 p0 k30 (p0.Over.length + 1) 0)) fun k3 => (store_doubts_L1 p0 k3 (p0.Doubts.length + 1) 0))
def F63 : VFn := ⟨79, (.seq (.reg [⟨(some 1), .box 4 (.t 0), none⟩, ⟨(some 2), .mv (.c (.one (.d (.b false)))), none⟩]) (.seq (.seq (.reg [⟨(some 9), .fa 2 (.t 1), none⟩, ⟨(some 10), .ld false 1 (.t 9), none⟩, ⟨(some 11), .len (.t 10), none⟩, ⟨(some 12), .mv (.c (.one (.d (.i .i64 0)))), none⟩]) (.wk (.block 0 (.loop (.seq (.reg [⟨(some 13), .bin .i .lss (.t 12) (.t 11), none⟩]) (.seq (.cond (.t 13) .skip (.exit 0)) (.seq (.block 1 (.seq (.reg [⟨(some 14), .mv (.t 12), none⟩, ⟨(some 15), .ia 3 (.t 10) (.t 12), none⟩, ⟨(some 16), .ld true 3 (.t 15), none⟩, ⟨(some 4), .alloc [(.d (.i .i64 0)), (.d (.i .i64 0)), (.d (.i .i64 0))], none⟩, ⟨(some 3), .mv (.t 14), none⟩, ⟨none, .st 3 (.t 4) (.t 16), none⟩]) (.seq (.seq (.reg [⟨(some 17), .fa 0 (.t 4), none⟩, ⟨(some 18), .ld true 2 (.t 17), none⟩, ⟨(some 19), .call 43 [(.t 18)], none⟩, ⟨(some 20), .un .not (.t 19), none⟩, ⟨(some 21), .mv (.t 20), none⟩, ⟨(some 22), .fa 2 (.t 4), (some (21, false))⟩, ⟨(some 23), .ld false 1 (.t 22), (some (21, false))⟩, ⟨(some 24), .bin .i .lss (.t 23) (.c (.one (.d (.i .i64 0)))), (some (21, false))⟩, ⟨(some 25), .pick (.t 21) (.c (.one (.d (.b true)))) (.t 24), none⟩, ⟨(some 26), .mv (.t 25), none⟩, ⟨(some 27), .fa 2 (.t 4), (some (26, false))⟩, ⟨(some 28), .ld false 1 (.t 27), (some (26, false))⟩, ⟨(some 29), .bin .i .gtr (.t 28) (.c (.one (.d (.i .i64 1048576)))), (some (26, false))⟩, ⟨(some 30), .pick (.t 26) (.c (.one (.d (.b true)))) (.t 29), none⟩, ⟨(some 31), .mv (.t 30), none⟩, ⟨(some 32), .fa 3 (.t 1), (some (31, false))⟩, ⟨(some 33), .ld false 1 (.t 32), (some (31, false))⟩, ⟨(some 34), .fa 0 (.t 4), (some (31, false))⟩, ⟨(some 35), .ld true 2 (.t 34), (some (31, false))⟩, ⟨(some 36), .call 29 [(.t 33), (.t 35)], (some (31, false))⟩, ⟨(some 37), .pick (.t 31) (.c (.one (.d (.b true)))) (.t 36), none⟩]) (.cond (.t 37) (.seq (.reg [⟨(some 2), .mv (.c (.one (.d (.b false)))), none⟩]) .ret) .skip)) (.seq (.seq (.reg [⟨(some 38), .fa 1 (.t 1), none⟩, ⟨(some 39), .ld false 1 (.t 38), none⟩, ⟨(some 40), .mkf 69 [(.t 4)], none⟩, ⟨(some 41), .call 48 [(.t 39), (.t 40)], none⟩, ⟨(some 42), .un .not (.t 41), none⟩]) (.cond (.t 42) (.seq (.reg [⟨(some 2), .mv (.c (.one (.d (.b false)))), none⟩]) .ret) .skip)) (.seq (.reg [⟨(some 43), .fa 2 (.t 1), none⟩, ⟨(some 44), .ld false 1 (.t 43), none⟩, ⟨(some 45), .mv (.t 3), none⟩, ⟨(some 46), .sl 3 (.t 44) none (some (.t 45)), none⟩, ⟨(some 47), .len (.t 46), none⟩, ⟨(some 48), .mv (.c (.one (.d (.i .i64 0)))), none⟩]) (.wk (.block 2 (.loop (.seq (.reg [⟨(some 49), .bin .i .lss (.t 48) (.t 47), none⟩]) (.seq (.cond (.t 49) .skip (.exit 2)) (.seq (.block 3 (.seq (.reg [⟨(some 50), .ia 3 (.t 46) (.t 48), none⟩, ⟨(some 51), .ld true 3 (.t 50), none⟩, ⟨(some 6), .alloc [(.d (.i .i64 0)), (.d (.i .i64 0)), (.d (.i .i64 0))], none⟩, ⟨none, .st 3 (.t 6) (.t 51), none⟩]) (.seq (.reg [⟨(some 52), .fa 0 (.t 6), none⟩, ⟨(some 53), .ld true 2 (.t 52), none⟩, ⟨(some 54), .fa 0 (.t 4), none⟩, ⟨(some 55), .ld true 2 (.t 54), none⟩, ⟨(some 56), .eqs false [.i, .i] (.t 53) (.t 55), none⟩]) (.cond (.t 56) (.seq (.reg [⟨(some 2), .mv (.c (.one (.d (.b false)))), none⟩]) .ret) .skip)))) (.reg [⟨(some 57), .bin .i .add (.t 48) (.c (.one (.d (.i .i64 1)))), none⟩, ⟨(some 48), .mv (.t 57), none⟩])))))))))))) (.reg [⟨(some 58), .bin .i .add (.t 12) (.c (.one (.d (.i .i64 1)))), none⟩, ⟨(some 12), .mv (.t 58), none⟩])))))))) (.seq (.seq (.reg [⟨(some 59), .fa 3 (.t 1), none⟩, ⟨(some 60), .ld false 1 (.t 59), none⟩, ⟨(some 61), .len (.t 60), none⟩, ⟨(some 62), .mv (.c (.one (.d (.i .i64 0)))), none⟩]) (.wk (.block 4 (.loop (.seq (.reg [⟨(some 63), .bin .i .lss (.t 62) (.t 61), none⟩]) (.seq (.cond (.t 63) .skip (.exit 4)) (.seq (.block 5 (.seq (.reg [⟨(some 64), .mv (.t 62), none⟩, ⟨(some 65), .ia 2 (.t 60) (.t 62), none⟩, ⟨(some 66), .ld true 2 (.t 65), none⟩, ⟨(some 8), .alloc [(.d (.i .i64 0)), (.d (.i .i64 0))], none⟩, ⟨(some 7), .mv (.t 64), none⟩, ⟨none, .st 2 (.t 8) (.t 66), none⟩]) (.seq (.draw [⟨⟨(some 67), .ld true 2 (.t 8), none⟩, [], [], none, []⟩, ⟨⟨(some 68), .call 43 [(.t 67)], none⟩, [0], [], none, []⟩, ⟨⟨(some 69), .un .not (.t 68), none⟩, [1, 0], [], none, []⟩, ⟨⟨(some 70), .mv (.t 69), none⟩, [2, 1, 0], [], none, []⟩, ⟨⟨(some 71), .fa 3 (.t 1), (some (70, false))⟩, [3, 2, 1, 0], [], none, []⟩, ⟨⟨(some 72), .ld false 1 (.t 71), (some (70, false))⟩, [4, 3, 2, 1, 0], [], none, []⟩, ⟨⟨(some 73), .mv (.t 7), (some (70, false))⟩, [3, 2, 1, 0], [], none, []⟩, ⟨⟨(some 74), .sl 2 (.t 72) none (some (.t 73)), (some (70, false))⟩, [5, 4, 3, 2, 1, 0, 6], [], none, []⟩, ⟨⟨(some 75), .ld true 2 (.t 8), (some (70, false))⟩, [3, 2, 1, 0], [], none, []⟩, ⟨⟨(some 76), .call 29 [(.t 74), (.t 75)], (some (70, false))⟩, [7, 5, 4, 3, 2, 1, 0, 6, 8], [], none, []⟩, ⟨⟨(some 77), .pick (.t 70) (.c (.one (.d (.b true)))) (.t 76), none⟩, [3, 2, 1, 0, 9, 7, 5, 4, 6, 8], [], none, []⟩]) (.cond (.t 77) (.seq (.reg [⟨(some 2), .mv (.c (.one (.d (.b false)))), none⟩]) .ret) .skip)))) (.reg [⟨(some 78), .bin .i .add (.t 62) (.c (.one (.d (.i .i64 1)))), none⟩, ⟨(some 62), .mv (.t 78), none⟩])))))))) (.seq (.reg [⟨(some 2), .mv (.c (.one (.d (.b true)))), none⟩]) .ret)))), [.t 2]⟩
theorem low63 : lowF Try.prog 63 = some F63.strip := by kernel_rfl
theorem fok63 : fOk Try.prog 63 = true := by kernel_rfl
theorem store_doubts_ok (G : Nat → Option (List D)) (p0 : Store) (r : Bool) (h : store_doubts p0 = some r) : FnRO Try.prog G 63 [.agg [.d (.l 3 (p0.Items.map Item.enc)), .d (.l 6 (p0.Locks.map Lock.enc)), .d (.l 3 (p0.Doubts.map Doubt.enc)), .d (.l 2 (p0.Over.map Txn.enc))]] (fun rs => rs = [.one (.b r)]) := by
  refine FnRO.of' low63 fok63 (by simp [F63]) ?_
  rw [store_doubts] at h
  simp only [F63, go_sem, Nat.reduceAdd, Nat.reduceEqDiff, Nat.reduceLeDiff, Nat.reduceSub, reduceCtorEq, ↓reduceIte, Nat.reduceBEq, Int.reduceLT, Int.reduceLE, Int.reduceEq, Int.reduceBEq, Int.reduceBNe, Nat.reduceLT, Nat.reduceMul, Int.reduceToNat]
  try simp only [go_sem, Nat.reduceAdd, Nat.reduceEqDiff, Nat.reduceLeDiff, Nat.reduceSub, reduceCtorEq, ↓reduceIte, Nat.reduceBEq, Int.reduceLT, Int.reduceLE, Int.reduceEq, Int.reduceBEq, Int.reduceBNe, Nat.reduceLT, Nat.reduceMul, Int.reduceToNat]
  intro hl1
  obtain ⟨k3, hk3, h⟩ := withK_lk0 h
  try simp only [go_sem, Nat.reduceAdd, Nat.reduceEqDiff, Nat.reduceLeDiff, Nat.reduceSub, reduceCtorEq, ↓reduceIte, Nat.reduceBEq, Int.reduceLT, Int.reduceLE, Int.reduceEq, Int.reduceBEq, Int.reduceBNe, Nat.reduceLT, Nat.reduceMul, Int.reduceToNat]
  refine join_lk Try.prog G _ _ (B := Unit) (fun b => k3 = some r) (fun b => [(1, .one (.p (.q 0 0 0)))]) (fun b => [some (.box [.d (.l 3 (p0.Items.map Item.enc)), .d (.l 6 (p0.Locks.map Lock.enc)), .d (.l 3 (p0.Doubts.map Doubt.enc)), .d (.l 2 (p0.Over.map Txn.enc))])]) ?_ (fun b h => ?_)
  · try simp only [go_sem, Nat.reduceAdd, Nat.reduceEqDiff, Nat.reduceLeDiff, Nat.reduceSub, reduceCtorEq, ↓reduceIte, Nat.reduceBEq, Int.reduceLT, Int.reduceLE, Int.reduceEq, Int.reduceBEq, Int.reduceBNe, Nat.reduceLT, Nat.reduceMul, Int.reduceToNat]
    refine loop_lk Try.prog G _ _ (A := Nat) (fun n a => store_doubts_L1 p0 k3 n a = some r) (fun a => [(1, .one (.p (.q 0 0 0))), (10, .one (.d (.l 3 (p0.Doubts.map Doubt.enc)))), (11, .one (.d (.i .i64 ((p0.Doubts.length : Nat) : Int)))), (12, .one (.d (.i .i64 ((a : Nat) : Int))))]) (fun a => [some (.box [.d (.l 3 (p0.Items.map Item.enc)), .d (.l 6 (p0.Locks.map Lock.enc)), .d (.l 3 (p0.Doubts.map Doubt.enc)), .d (.l 2 (p0.Over.map Txn.enc))])]) (p0.Doubts.length + 1) (0) h (wk_c _ _ _ [some 0] rfl (by simp only [go_sem, Nat.reduceAdd, Nat.reduceEqDiff, Nat.reduceLeDiff, Nat.reduceSub, reduceCtorEq, ↓reduceIte, Nat.reduceBEq, Int.reduceLT, Int.reduceLE, Int.reduceEq, Int.reduceBEq, Int.reduceBNe, Nat.reduceLT, Nat.reduceMul, Int.reduceToNat, slotsWk, objsWk, objWk, optVOWk, SV.wk, SC.wk, cellsWk, VO.wk, Ptr.wk, ptrsWk, SC.isNl, List.map_append, List.map_cons, List.map_nil, Option.some.injEq, Prod.mk.injEq, SC.d.injEq, D.l.injEq, List.map_set])) (fun a h => by simp only [store_doubts_L1, reduceCtorEq] at h) ?_
    intro n5 a4_1 h
    try dsimp only at h
    rw [store_doubts_L1] at h
    rcases of_if h with ⟨hb6, h⟩ | ⟨hb6, h⟩
    · have hkhb6 := of_decide_eq_true hb6
      obtain ⟨x7, hx7, h⟩ := Option.bind_eq_some_iff.1 h
      have hkx7 := (List.getElem?_eq_some_iff.1 hx7).1
      try simp only [List.length_take, List.length_drop, List.length_append, List.length_set, List.length_map, List.length_cons, List.length_nil, Nat.zero_add] at hkx7
      obtain ⟨v8, hv8, h⟩ := Option.bind_eq_some_iff.1 h
      try simp only [hb6, hkhb6, hx7, hkx7, go_sem, Nat.reduceAdd, Nat.reduceEqDiff, Nat.reduceLeDiff, Nat.reduceSub, reduceCtorEq, ↓reduceIte, Nat.reduceBEq, Int.reduceLT, Int.reduceLE, Int.reduceEq, Int.reduceBEq, Int.reduceBNe, Nat.reduceLT, Nat.reduceMul, Int.reduceToNat]
      refine CallV.ro false (store_txn_ok G x7.Txn v8 hv8) rfl ?_
      rintro rs rfl
      refine ⟨.inl rfl, ?_⟩
      rcases of_if h with ⟨hb9, h⟩ | ⟨hb9, h⟩
      · have hkhb9 := not_eq_t hb9
        simp only [Option.some.injEq] at h
        subst h
        try simp only [hb6, hkhb6, hx7, hkx7, hb9, hkhb9, go_sem, Nat.reduceAdd, Nat.reduceEqDiff, Nat.reduceLeDiff, Nat.reduceSub, reduceCtorEq, ↓reduceIte, Nat.reduceBEq, Int.reduceLT, Int.reduceLE, Int.reduceEq, Int.reduceBEq, Int.reduceBNe, Nat.reduceLT, Nat.reduceMul, Int.reduceToNat, List.map_append, List.map_cons, List.map_nil, List.map_set]
      · have hkhb9 := not_eq_f hb9
        rcases of_if h with ⟨hb10, h⟩ | ⟨hb10, h⟩
        · have hkhb10 := of_decide_eq_true hb10
          simp only [Option.some.injEq] at h
          subst h
          try simp only [hb6, hkhb6, hx7, hkx7, hb9, hkhb9, hb10, hkhb10, go_sem, Nat.reduceAdd, Nat.reduceEqDiff, Nat.reduceLeDiff, Nat.reduceSub, reduceCtorEq, ↓reduceIte, Nat.reduceBEq, Int.reduceLT, Int.reduceLE, Int.reduceEq, Int.reduceBEq, Int.reduceBNe, Nat.reduceLT, Nat.reduceMul, Int.reduceToNat, List.map_append, List.map_cons, List.map_nil, List.map_set]
        · rcases of_if h with ⟨hb11, h⟩ | ⟨hb11, h⟩
          · simp only [Option.some.injEq] at h
            subst h
            try simp only [hb6, hkhb6, hx7, hkx7, hb9, hkhb9, hb10, hb11, go_sem, Nat.reduceAdd, Nat.reduceEqDiff, Nat.reduceLeDiff, Nat.reduceSub, reduceCtorEq, ↓reduceIte, Nat.reduceBEq, Int.reduceLT, Int.reduceLE, Int.reduceEq, Int.reduceBEq, Int.reduceBNe, Nat.reduceLT, Nat.reduceMul, Int.reduceToNat, List.map_append, List.map_cons, List.map_nil, List.map_set]
          · obtain ⟨v12, hv12, h⟩ := Option.bind_eq_some_iff.1 h
            try simp only [hb6, hkhb6, hx7, hkx7, hb9, hkhb9, hb10, hb11, go_sem, Nat.reduceAdd, Nat.reduceEqDiff, Nat.reduceLeDiff, Nat.reduceSub, reduceCtorEq, ↓reduceIte, Nat.reduceBEq, Int.reduceLT, Int.reduceLE, Int.reduceEq, Int.reduceBEq, Int.reduceBNe, Nat.reduceLT, Nat.reduceMul, Int.reduceToNat]
            refine CallV.ro false (slices_Contains_Txn_ok G p0.Over x7.Txn v12 hv12) rfl ?_
            rintro rs rfl
            refine ⟨.inl rfl, ?_⟩
            rcases of_if h with ⟨hb13, h⟩ | ⟨hb13, h⟩
            · simp only [Option.some.injEq] at h
              subst h
              try simp only [hb6, hkhb6, hx7, hkx7, hb9, hkhb9, hb10, hb11, hb13, go_sem, Nat.reduceAdd, Nat.reduceEqDiff, Nat.reduceLeDiff, Nat.reduceSub, reduceCtorEq, ↓reduceIte, Nat.reduceBEq, Int.reduceLT, Int.reduceLE, Int.reduceEq, Int.reduceBEq, Int.reduceBNe, Nat.reduceLT, Nat.reduceMul, Int.reduceToNat, List.map_append, List.map_cons, List.map_nil, List.map_set]
            · obtain ⟨v15, hv15, h⟩ := Option.bind_eq_some_iff.1 h
              try simp only [hb6, hkhb6, hx7, hkx7, hb9, hkhb9, hb10, hb11, hb13, go_sem, Nat.reduceAdd, Nat.reduceEqDiff, Nat.reduceLeDiff, Nat.reduceSub, reduceCtorEq, ↓reduceIte, Nat.reduceBEq, Int.reduceLT, Int.reduceLE, Int.reduceEq, Int.reduceBEq, Int.reduceBNe, Nat.reduceLT, Nat.reduceMul, Int.reduceToNat]
              refine CallV.ro true (slices_ContainsFunc_Lock_ok G p0.Locks (fun y14 => store_doubts_1 y14 x7) 69 [.k [.i .i64 x7.Txn.Site, .i .i64 x7.Txn.N, .i .i64 x7.Age]] (fun y14 r h => store_doubts_1_ok G y14 x7 r h) v15 hv15) (by first | rfl | (simp only [hb6, hkhb6, hx7, hkx7, hb9, hkhb9, hb10, hb11, hb13, go_sem, Nat.reduceAdd, Nat.reduceEqDiff, Nat.reduceLeDiff, Nat.reduceSub, reduceCtorEq, ↓reduceIte, Nat.reduceBEq, Int.reduceLT, Int.reduceLE, Int.reduceEq, Int.reduceBEq, Int.reduceBNe, Nat.reduceLT, Nat.reduceMul, Int.reduceToNat, inVs_caps]; done) | simp only [hb6, hkhb6, hx7, hkx7, hb9, hkhb9, hb10, hb11, hb13, go_sem, Nat.reduceAdd, Nat.reduceEqDiff, Nat.reduceLeDiff, Nat.reduceSub, reduceCtorEq, ↓reduceIte, Nat.reduceBEq, Int.reduceLT, Int.reduceLE, Int.reduceEq, Int.reduceBEq, Int.reduceBNe, Nat.reduceLT, Nat.reduceMul, Int.reduceToNat, inVs_caps, List.map_append, List.map_cons, List.map_nil, List.map_set]) ?_
              rintro rs rfl
              refine ⟨.inr (by simp only [hb6, hkhb6, hx7, hkx7, hb9, hkhb9, hb10, hb11, hb13, go_sem, Nat.reduceAdd, Nat.reduceEqDiff, Nat.reduceLeDiff, Nat.reduceSub, reduceCtorEq, ↓reduceIte, Nat.reduceBEq, Int.reduceLT, Int.reduceLE, Int.reduceEq, Int.reduceBEq, Int.reduceBNe, Nat.reduceLT, Nat.reduceMul, Int.reduceToNat, RV.plain, D.plain, D.plain0, D.plain1, List.all_map, Function.comp_def, all_tt]), ?_⟩
              rcases of_if h with ⟨hb16, h⟩ | ⟨hb16, h⟩
              · have hkhb16 := not_eq_t hb16
                simp only [Option.some.injEq] at h
                subst h
                try simp only [hb6, hkhb6, hx7, hkx7, hb9, hkhb9, hb10, hb11, hb13, hb16, hkhb16, go_sem, Nat.reduceAdd, Nat.reduceEqDiff, Nat.reduceLeDiff, Nat.reduceSub, reduceCtorEq, ↓reduceIte, Nat.reduceBEq, Int.reduceLT, Int.reduceLE, Int.reduceEq, Int.reduceBEq, Int.reduceBNe, Nat.reduceLT, Nat.reduceMul, Int.reduceToNat, List.map_append, List.map_cons, List.map_nil, List.map_set]
              · have hkhb16 := not_eq_f hb16
                have hle17 := Nat.le_of_lt hkx7
                try simp only [hb6, hkhb6, hx7, hkx7, hb9, hkhb9, hb10, hb11, hb13, hb16, hkhb16, hle17, go_sem, Nat.reduceAdd, Nat.reduceEqDiff, Nat.reduceLeDiff, Nat.reduceSub, reduceCtorEq, ↓reduceIte, Nat.reduceBEq, Int.reduceLT, Int.reduceLE, Int.reduceEq, Int.reduceBEq, Int.reduceBNe, Nat.reduceLT, Nat.reduceMul, Int.reduceToNat]
                intro hl18
                obtain ⟨k20, hk20, h⟩ := withK_lk0 h
                try simp only [hb6, hkhb6, hx7, hkx7, hb9, hkhb9, hb10, hb11, hb13, hb16, hkhb16, hle17, go_sem, Nat.reduceAdd, Nat.reduceEqDiff, Nat.reduceLeDiff, Nat.reduceSub, reduceCtorEq, ↓reduceIte, Nat.reduceBEq, Int.reduceLT, Int.reduceLE, Int.reduceEq, Int.reduceBEq, Int.reduceBNe, Nat.reduceLT, Nat.reduceMul, Int.reduceToNat]
                refine join_lk Try.prog G _ _ (B := Unit) (fun b => k20 = some r) (fun b => [(1, .one (.p (.q 0 0 0))), (10, .one (.d (.l 3 (p0.Doubts.map Doubt.enc)))), (11, .one (.d (.i .i64 ((p0.Doubts.length : Nat) : Int)))), (12, .one (.d (.i .i64 ((a4_1 : Nat) : Int)))), (22, .one (.p (.q 1 0 2))), (23, .one (.d (.i .i64 x7.Age))), (24, .one (.d (.b false))), (27, .one (.p (.q 1 0 2))), (28, .one (.d (.i .i64 x7.Age))), (29, .one (.d (.b false))), (32, .one (.p (.q 0 0 3))), (33, .one (.d (.l 2 (p0.Over.map Txn.enc)))), (34, .one (.p (.q 1 0 0))), (35, .agg [.d (.i .i64 x7.Txn.Site), .d (.i .i64 x7.Txn.N)]), (36, .one (.d (.b false)))]) (fun b => [some (.box [.d (.l 3 (p0.Items.map Item.enc)), .d (.l 6 (p0.Locks.map Lock.enc)), .d (.l 3 (p0.Doubts.map Doubt.enc)), .d (.l 2 (p0.Over.map Txn.enc))]), some (.box [.d (.i .i64 x7.Txn.Site), .d (.i .i64 x7.Txn.N), .d (.i .i64 x7.Age)])]) ?_ (fun b h => ?_)
                · try simp only [hb6, hkhb6, hx7, hkx7, hb9, hkhb9, hb10, hb11, hb13, hb16, hkhb16, hle17, go_sem, Nat.reduceAdd, Nat.reduceEqDiff, Nat.reduceLeDiff, Nat.reduceSub, reduceCtorEq, ↓reduceIte, Nat.reduceBEq, Int.reduceLT, Int.reduceLE, Int.reduceEq, Int.reduceBEq, Int.reduceBNe, Nat.reduceLT, Nat.reduceMul, Int.reduceToNat]
                  refine loop_lk Try.prog G _ _ (A := Nat) (fun n a => store_doubts_L2 p0 a4_1 x7 k20 n a = some r) (fun a => [(1, .one (.p (.q 0 0 0))), (4, .one (.p (.q 1 0 0))), (10, .one (.d (.l 3 (p0.Doubts.map Doubt.enc)))), (11, .one (.d (.i .i64 ((p0.Doubts.length : Nat) : Int)))), (12, .one (.d (.i .i64 ((a4_1 : Nat) : Int)))), (22, .one (.p (.q 1 0 2))), (23, .one (.d (.i .i64 x7.Age))), (24, .one (.d (.b false))), (27, .one (.p (.q 1 0 2))), (28, .one (.d (.i .i64 x7.Age))), (29, .one (.d (.b false))), (32, .one (.p (.q 0 0 3))), (33, .one (.d (.l 2 (p0.Over.map Txn.enc)))), (34, .one (.p (.q 1 0 0))), (35, .agg [.d (.i .i64 x7.Txn.Site), .d (.i .i64 x7.Txn.N)]), (36, .one (.d (.b false))), (46, .one (.d (.l 3 ((p0.Doubts.take a4_1).map Doubt.enc)))), (47, .one (.d (.i .i64 ((min a4_1 p0.Doubts.length : Nat) : Int)))), (48, .one (.d (.i .i64 ((a : Nat) : Int))))]) (fun a => [some (.box [.d (.l 3 (p0.Items.map Item.enc)), .d (.l 6 (p0.Locks.map Lock.enc)), .d (.l 3 (p0.Doubts.map Doubt.enc)), .d (.l 2 (p0.Over.map Txn.enc))]), some (.box [.d (.i .i64 x7.Txn.Site), .d (.i .i64 x7.Txn.N), .d (.i .i64 x7.Age)])]) (min a4_1 p0.Doubts.length + 1) (0) h (wk_c _ _ _ [some 0, some 1] rfl (by simp only [hb6, hkhb6, hx7, hkx7, hb9, hkhb9, hb10, hb11, hb13, hb16, hkhb16, hle17, go_sem, Nat.reduceAdd, Nat.reduceEqDiff, Nat.reduceLeDiff, Nat.reduceSub, reduceCtorEq, ↓reduceIte, Nat.reduceBEq, Int.reduceLT, Int.reduceLE, Int.reduceEq, Int.reduceBEq, Int.reduceBNe, Nat.reduceLT, Nat.reduceMul, Int.reduceToNat, slotsWk, objsWk, objWk, optVOWk, SV.wk, SC.wk, cellsWk, VO.wk, Ptr.wk, ptrsWk, SC.isNl, List.map_append, List.map_cons, List.map_nil, Option.some.injEq, Prod.mk.injEq, SC.d.injEq, D.l.injEq, List.map_set])) (fun a h => by simp only [store_doubts_L2, reduceCtorEq] at h) ?_
                  intro n22 a21_1 h
                  try dsimp only at h
                  rw [store_doubts_L2] at h
                  rcases of_if h with ⟨hb23, h⟩ | ⟨hb23, h⟩
                  · obtain ⟨x24, hx24, h⟩ := Option.bind_eq_some_iff.1 h
                    have hkx24 := (List.getElem?_eq_some_iff.1 hx24).1
                    try simp only [List.length_take, List.length_drop, List.length_append, List.length_set, List.length_map, List.length_cons, List.length_nil, Nat.zero_add] at hkx24
                    rcases of_if h with ⟨hb25, h⟩ | ⟨hb25, h⟩
                    · try simp only [hkhb6, hx7, hkx7, hkhb9, hkhb16, hle17, hb23, hx24, hkx24, hb25, go_sem, Nat.reduceAdd, Nat.reduceEqDiff, Nat.reduceLeDiff, Nat.reduceSub, reduceCtorEq, ↓reduceIte, Nat.reduceBEq, Int.reduceLT, Int.reduceLE, Int.reduceEq, Int.reduceBEq, Int.reduceBNe, Nat.reduceLT, Nat.reduceMul, Int.reduceToNat]
                      simp only [Option.some.injEq] at h
                      subst h
                      try simp only [hkhb6, hx7, hkx7, hkhb9, hkhb16, hle17, hb23, hx24, hkx24, hb25, go_sem, Nat.reduceAdd, Nat.reduceEqDiff, Nat.reduceLeDiff, Nat.reduceSub, reduceCtorEq, ↓reduceIte, Nat.reduceBEq, Int.reduceLT, Int.reduceLE, Int.reduceEq, Int.reduceBEq, Int.reduceBNe, Nat.reduceLT, Nat.reduceMul, Int.reduceToNat, List.map_append, List.map_cons, List.map_nil, List.map_set]
                    · try simp only [hkhb6, hx7, hkx7, hkhb9, hkhb16, hle17, hb23, hx24, hkx24, hb25, go_sem, Nat.reduceAdd, Nat.reduceEqDiff, Nat.reduceLeDiff, Nat.reduceSub, reduceCtorEq, ↓reduceIte, Nat.reduceBEq, Int.reduceLT, Int.reduceLE, Int.reduceEq, Int.reduceBEq, Int.reduceBNe, Nat.reduceLT, Nat.reduceMul, Int.reduceToNat]
                      have hw26 := wrap_succ_max hkx24 hl18
                      try simp only [hkhb6, hx7, hkx7, hkhb9, hkhb16, hle17, hb23, hx24, hkx24, hb25, hw26, go_sem, Nat.reduceAdd, Nat.reduceEqDiff, Nat.reduceLeDiff, Nat.reduceSub, reduceCtorEq, ↓reduceIte, Nat.reduceBEq, Int.reduceLT, Int.reduceLE, Int.reduceEq, Int.reduceBEq, Int.reduceBNe, Nat.reduceLT, Nat.reduceMul, Int.reduceToNat]
                      exact loopQ_c (a21_1 + 1) h [some 0, some 1] rfl (by simp only [hkhb6, hx7, hkx7, hkhb9, hkhb16, hle17, hb23, hx24, hkx24, hb25, hw26, go_sem, Nat.reduceAdd, Nat.reduceEqDiff, Nat.reduceLeDiff, Nat.reduceSub, reduceCtorEq, ↓reduceIte, Nat.reduceBEq, Int.reduceLT, Int.reduceLE, Int.reduceEq, Int.reduceBEq, Int.reduceBNe, Nat.reduceLT, Nat.reduceMul, Int.reduceToNat, slotsWk, objsWk, objWk, optVOWk, SV.wk, SC.wk, cellsWk, VO.wk, Ptr.wk, ptrsWk, SC.isNl, List.map_append, List.map_cons, List.map_nil, Option.some.injEq, Prod.mk.injEq, SC.d.injEq, D.l.injEq, List.map_set])
                  · try simp only [hkhb6, hx7, hkx7, hkhb9, hkhb16, hle17, hb23, go_sem, Nat.reduceAdd, Nat.reduceEqDiff, Nat.reduceLeDiff, Nat.reduceSub, reduceCtorEq, ↓reduceIte, Nat.reduceBEq, Int.reduceLT, Int.reduceLE, Int.reduceEq, Int.reduceBEq, Int.reduceBNe, Nat.reduceLT, Nat.reduceMul, Int.reduceToNat]
                    exact joinQ_c () h [some 0, some 1] rfl (by simp only [hkhb6, hx7, hkx7, hkhb9, hkhb16, hle17, hb23, go_sem, Nat.reduceAdd, Nat.reduceEqDiff, Nat.reduceLeDiff, Nat.reduceSub, reduceCtorEq, ↓reduceIte, Nat.reduceBEq, Int.reduceLT, Int.reduceLE, Int.reduceEq, Int.reduceBEq, Int.reduceBNe, Nat.reduceLT, Nat.reduceMul, Int.reduceToNat, slotsWk, objsWk, objWk, optVOWk, SV.wk, SC.wk, cellsWk, VO.wk, Ptr.wk, ptrsWk, SC.isNl, List.map_append, List.map_cons, List.map_nil, Option.some.injEq, Prod.mk.injEq, SC.d.injEq, D.l.injEq, List.map_set])
                · try dsimp only at h
                  rw [hk20] at h
                  have hw27 := wrap_succ_max hkx7 hl1
                  try simp only [hkhb6, hx7, hkx7, hkhb9, hkhb16, hle17, hw27, go_sem, Nat.reduceAdd, Nat.reduceEqDiff, Nat.reduceLeDiff, Nat.reduceSub, reduceCtorEq, ↓reduceIte, Nat.reduceBEq, Int.reduceLT, Int.reduceLE, Int.reduceEq, Int.reduceBEq, Int.reduceBNe, Nat.reduceLT, Nat.reduceMul, Int.reduceToNat]
                  exact loopQ_c (a4_1 + 1) h [some 0] rfl (by simp only [hkhb6, hx7, hkx7, hkhb9, hkhb16, hle17, hw27, go_sem, Nat.reduceAdd, Nat.reduceEqDiff, Nat.reduceLeDiff, Nat.reduceSub, reduceCtorEq, ↓reduceIte, Nat.reduceBEq, Int.reduceLT, Int.reduceLE, Int.reduceEq, Int.reduceBEq, Int.reduceBNe, Nat.reduceLT, Nat.reduceMul, Int.reduceToNat, slotsWk, objsWk, objWk, optVOWk, SV.wk, SC.wk, cellsWk, VO.wk, Ptr.wk, ptrsWk, SC.isNl, List.map_append, List.map_cons, List.map_nil, Option.some.injEq, Prod.mk.injEq, SC.d.injEq, D.l.injEq, List.map_set])
    · try simp only [hb6, go_sem, Nat.reduceAdd, Nat.reduceEqDiff, Nat.reduceLeDiff, Nat.reduceSub, reduceCtorEq, ↓reduceIte, Nat.reduceBEq, Int.reduceLT, Int.reduceLE, Int.reduceEq, Int.reduceBEq, Int.reduceBNe, Nat.reduceLT, Nat.reduceMul, Int.reduceToNat]
      exact joinQ_c () h [some 0] rfl (by simp only [hb6, go_sem, Nat.reduceAdd, Nat.reduceEqDiff, Nat.reduceLeDiff, Nat.reduceSub, reduceCtorEq, ↓reduceIte, Nat.reduceBEq, Int.reduceLT, Int.reduceLE, Int.reduceEq, Int.reduceBEq, Int.reduceBNe, Nat.reduceLT, Nat.reduceMul, Int.reduceToNat, slotsWk, objsWk, objWk, optVOWk, SV.wk, SC.wk, cellsWk, VO.wk, Ptr.wk, ptrsWk, SC.isNl, List.map_append, List.map_cons, List.map_nil, Option.some.injEq, Prod.mk.injEq, SC.d.injEq, D.l.injEq, List.map_set])
  · try dsimp only at h
    rw [hk3] at h
    try simp only [go_sem, Nat.reduceAdd, Nat.reduceEqDiff, Nat.reduceLeDiff, Nat.reduceSub, reduceCtorEq, ↓reduceIte, Nat.reduceBEq, Int.reduceLT, Int.reduceLE, Int.reduceEq, Int.reduceBEq, Int.reduceBNe, Nat.reduceLT, Nat.reduceMul, Int.reduceToNat]
    intro hl28
    obtain ⟨k30, hk30, h⟩ := withK_lk0 h
    try simp only [go_sem, Nat.reduceAdd, Nat.reduceEqDiff, Nat.reduceLeDiff, Nat.reduceSub, reduceCtorEq, ↓reduceIte, Nat.reduceBEq, Int.reduceLT, Int.reduceLE, Int.reduceEq, Int.reduceBEq, Int.reduceBNe, Nat.reduceLT, Nat.reduceMul, Int.reduceToNat]
    refine join_lk Try.prog G _ _ (B := Unit) (fun b => k30 = some r) (fun b => []) (fun b => []) ?_ (fun b h => ?_)
    · try simp only [go_sem, Nat.reduceAdd, Nat.reduceEqDiff, Nat.reduceLeDiff, Nat.reduceSub, reduceCtorEq, ↓reduceIte, Nat.reduceBEq, Int.reduceLT, Int.reduceLE, Int.reduceEq, Int.reduceBEq, Int.reduceBNe, Nat.reduceLT, Nat.reduceMul, Int.reduceToNat]
      refine loop_lk Try.prog G _ _ (A := Nat) (fun n a => store_doubts_L3 p0 k30 n a = some r) (fun a => [(1, .one (.p (.q 0 0 0))), (60, .one (.d (.l 2 (p0.Over.map Txn.enc)))), (61, .one (.d (.i .i64 ((p0.Over.length : Nat) : Int)))), (62, .one (.d (.i .i64 ((a : Nat) : Int))))]) (fun a => [some (.box [.d (.l 3 (p0.Items.map Item.enc)), .d (.l 6 (p0.Locks.map Lock.enc)), .d (.l 3 (p0.Doubts.map Doubt.enc)), .d (.l 2 (p0.Over.map Txn.enc))])]) (p0.Over.length + 1) (0) h (wk_c _ _ _ [some 0] rfl (by simp only [go_sem, Nat.reduceAdd, Nat.reduceEqDiff, Nat.reduceLeDiff, Nat.reduceSub, reduceCtorEq, ↓reduceIte, Nat.reduceBEq, Int.reduceLT, Int.reduceLE, Int.reduceEq, Int.reduceBEq, Int.reduceBNe, Nat.reduceLT, Nat.reduceMul, Int.reduceToNat, slotsWk, objsWk, objWk, optVOWk, SV.wk, SC.wk, cellsWk, VO.wk, Ptr.wk, ptrsWk, SC.isNl, List.map_append, List.map_cons, List.map_nil, Option.some.injEq, Prod.mk.injEq, SC.d.injEq, D.l.injEq, List.map_set])) (fun a h => by simp only [store_doubts_L3, reduceCtorEq] at h) ?_
      intro n32 a31_1 h
      try dsimp only at h
      rw [store_doubts_L3] at h
      rcases of_if h with ⟨hb33, h⟩ | ⟨hb33, h⟩
      · have hkhb33 := of_decide_eq_true hb33
        obtain ⟨x34, hx34, h⟩ := Option.bind_eq_some_iff.1 h
        have hkx34 := (List.getElem?_eq_some_iff.1 hx34).1
        try simp only [List.length_take, List.length_drop, List.length_append, List.length_set, List.length_map, List.length_cons, List.length_nil, Nat.zero_add] at hkx34
        obtain ⟨v35, hv35, h⟩ := Option.bind_eq_some_iff.1 h
        try simp only [hb33, hkhb33, hx34, hkx34, go_sem, Nat.reduceAdd, Nat.reduceEqDiff, Nat.reduceLeDiff, Nat.reduceSub, reduceCtorEq, ↓reduceIte, Nat.reduceBEq, Int.reduceLT, Int.reduceLE, Int.reduceEq, Int.reduceBEq, Int.reduceBNe, Nat.reduceLT, Nat.reduceMul, Int.reduceToNat]
        refine ⟨_, _, CallD.ro false (store_txn_ok G x34 v35 hv35) rfl (.inl rfl) rfl, ?_⟩
        rcases of_if h with ⟨hb36, h⟩ | ⟨hb36, h⟩
        · have hkhb36 := not_eq_t hb36
          simp only [Option.some.injEq] at h
          subst h
          try simp only [hb33, hkhb33, hx34, hkx34, hb36, hkhb36, go_sem, Nat.reduceAdd, Nat.reduceEqDiff, Nat.reduceLeDiff, Nat.reduceSub, reduceCtorEq, ↓reduceIte, Nat.reduceBEq, Int.reduceLT, Int.reduceLE, Int.reduceEq, Int.reduceBEq, Int.reduceBNe, Nat.reduceLT, Nat.reduceMul, Int.reduceToNat, List.map_append, List.map_cons, List.map_nil, List.map_set]
        · have hkhb36 := not_eq_f hb36
          have hle37 := Nat.le_of_lt hkx34
          obtain ⟨v38, hv38, h⟩ := Option.bind_eq_some_iff.1 h
          try simp only [hb33, hkhb33, hx34, hkx34, hb36, hkhb36, hle37, go_sem, Nat.reduceAdd, Nat.reduceEqDiff, Nat.reduceLeDiff, Nat.reduceSub, reduceCtorEq, ↓reduceIte, Nat.reduceBEq, Int.reduceLT, Int.reduceLE, Int.reduceEq, Int.reduceBEq, Int.reduceBNe, Nat.reduceLT, Nat.reduceMul, Int.reduceToNat]
          refine ⟨_, _, CallD.ro false (slices_Contains_Txn_ok G (p0.Over.take a31_1) x34 v38 hv38) rfl (.inl rfl) rfl, ?_⟩
          rcases of_if h with ⟨hb39, h⟩ | ⟨hb39, h⟩
          · simp only [Option.some.injEq] at h
            subst h
            try simp only [hb33, hkhb33, hx34, hkx34, hb36, hkhb36, hle37, hb39, go_sem, Nat.reduceAdd, Nat.reduceEqDiff, Nat.reduceLeDiff, Nat.reduceSub, reduceCtorEq, ↓reduceIte, Nat.reduceBEq, Int.reduceLT, Int.reduceLE, Int.reduceEq, Int.reduceBEq, Int.reduceBNe, Nat.reduceLT, Nat.reduceMul, Int.reduceToNat, List.map_append, List.map_cons, List.map_nil, List.map_set]
          · have hw40 := wrap_succ_max hkx34 hl28
            try simp only [hb33, hkhb33, hx34, hkx34, hb36, hkhb36, hle37, hb39, hw40, go_sem, Nat.reduceAdd, Nat.reduceEqDiff, Nat.reduceLeDiff, Nat.reduceSub, reduceCtorEq, ↓reduceIte, Nat.reduceBEq, Int.reduceLT, Int.reduceLE, Int.reduceEq, Int.reduceBEq, Int.reduceBNe, Nat.reduceLT, Nat.reduceMul, Int.reduceToNat]
            exact loopQ_c (a31_1 + 1) h [some 0] rfl (by simp only [hb33, hkhb33, hx34, hkx34, hb36, hkhb36, hle37, hb39, hw40, go_sem, Nat.reduceAdd, Nat.reduceEqDiff, Nat.reduceLeDiff, Nat.reduceSub, reduceCtorEq, ↓reduceIte, Nat.reduceBEq, Int.reduceLT, Int.reduceLE, Int.reduceEq, Int.reduceBEq, Int.reduceBNe, Nat.reduceLT, Nat.reduceMul, Int.reduceToNat, slotsWk, objsWk, objWk, optVOWk, SV.wk, SC.wk, cellsWk, VO.wk, Ptr.wk, ptrsWk, SC.isNl, List.map_append, List.map_cons, List.map_nil, Option.some.injEq, Prod.mk.injEq, SC.d.injEq, D.l.injEq, List.map_set])
      · try simp only [hb33, go_sem, Nat.reduceAdd, Nat.reduceEqDiff, Nat.reduceLeDiff, Nat.reduceSub, reduceCtorEq, ↓reduceIte, Nat.reduceBEq, Int.reduceLT, Int.reduceLE, Int.reduceEq, Int.reduceBEq, Int.reduceBNe, Nat.reduceLT, Nat.reduceMul, Int.reduceToNat]
        exact joinQ_c () h [] rfl (by simp only [hb33, go_sem, Nat.reduceAdd, Nat.reduceEqDiff, Nat.reduceLeDiff, Nat.reduceSub, reduceCtorEq, ↓reduceIte, Nat.reduceBEq, Int.reduceLT, Int.reduceLE, Int.reduceEq, Int.reduceBEq, Int.reduceBNe, Nat.reduceLT, Nat.reduceMul, Int.reduceToNat, slotsWk, objsWk, objWk, optVOWk, SV.wk, SC.wk, cellsWk, VO.wk, Ptr.wk, ptrsWk, SC.isNl, List.map_append, List.map_cons, List.map_nil, Option.some.injEq, Prod.mk.injEq, SC.d.injEq, D.l.injEq, List.map_set])
    · try dsimp only at h
      rw [hk30] at h
      simp only [Option.some.injEq] at h
      subst h
      try simp only [go_sem, Nat.reduceAdd, Nat.reduceEqDiff, Nat.reduceLeDiff, Nat.reduceSub, reduceCtorEq, ↓reduceIte, Nat.reduceBEq, Int.reduceLT, Int.reduceLE, Int.reduceEq, Int.reduceBEq, Int.reduceBNe, Nat.reduceLT, Nat.reduceMul, Int.reduceToNat, List.map_append, List.map_cons, List.map_nil, List.map_set]
def store_doubted_1 (p0 : Doubt) (p1 : Txn) : Option (Bool) := (some ((p0.Txn.Site == p1.Site) && (p0.Txn.N == p1.N)))
def F66 : VFn := ⟨8, (.seq (.reg [⟨(some 2), .box 3 (.t 0), none⟩, ⟨(some 3), .mv (.c (.one (.d (.b false)))), none⟩]) (.seq (.reg [⟨(some 4), .fa 0 (.t 2), none⟩, ⟨(some 5), .ld true 2 (.t 4), none⟩, ⟨(some 6), .ld true 2 (.t 1), none⟩, ⟨(some 7), .eqs false [.i, .i] (.t 5) (.t 6), none⟩, ⟨(some 3), .mv (.t 7), none⟩]) .ret)), [.t 3]⟩
theorem low66 : lowF Try.prog 66 = some F66.strip := by kernel_rfl
theorem fok66 : fOk Try.prog 66 = true := by kernel_rfl
theorem store_doubted_1_ok (G : Nat → Option (List D)) (p0 : Doubt) (p1 : Txn) (r : Bool) (h : store_doubted_1 p0 p1 = some r) : FnRO Try.prog G 66 [.agg [.d (.i .i64 p0.Txn.Site), .d (.i .i64 p0.Txn.N), .d (.i .i64 p0.Age)], .one (.d (.k [.i .i64 p1.Site, .i .i64 p1.N]))] (fun rs => rs = [.one (.b r)]) := by
  refine FnRO.of' low66 fok66 (by simp [F66]) ?_
  rw [store_doubted_1] at h
  simp only [F66, go_sem, Nat.reduceAdd, Nat.reduceEqDiff, Nat.reduceLeDiff, Nat.reduceSub, reduceCtorEq, ↓reduceIte, Nat.reduceBEq, Int.reduceLT, Int.reduceLE, Int.reduceEq, Int.reduceBEq, Int.reduceBNe, Nat.reduceLT, Nat.reduceMul, Int.reduceToNat]
  simp only [Option.some.injEq] at h
  subst h
  try simp only [go_sem, Nat.reduceAdd, Nat.reduceEqDiff, Nat.reduceLeDiff, Nat.reduceSub, reduceCtorEq, ↓reduceIte, Nat.reduceBEq, Int.reduceLT, Int.reduceLE, Int.reduceEq, Int.reduceBEq, Int.reduceBNe, Nat.reduceLT, Nat.reduceMul, Int.reduceToNat, List.map_append, List.map_cons, List.map_nil, List.map_set]
def slices_IndexFunc_Doubt_L1 (p0 : List Doubt) (p1 : Doubt → Option (Bool)) (k3 : Option (Int)) : Nat → Nat → Option (Int)
  | 0, _ => none
  | n5 + 1, a4_1 => (if (decide (a4_1 < p0.length)) = true then (Option.bind (p0[a4_1]?) fun x7 => (Option.bind (p1 x7) fun v8 => (if v8 = true then (some ((a4_1 : Nat) : Int)) else (slices_IndexFunc_Doubt_L1 p0 p1 k3 n5 (a4_1 + 1))))) else k3)
def slices_IndexFunc_Doubt (p0 : List Doubt) (p1 : Doubt → Option (Bool)) : Option (Int) := (withK (some (-1)) fun k3 => (slices_IndexFunc_Doubt_L1 p0 p1 k3 (p0.length + 1) 0))
def F61 : VFn := ⟨19, (.seq (.reg [⟨(some 4), .mv (.c (.one (.d (.i .i64 0)))), none⟩]) (.seq (.seq (.reg [⟨(some 6), .mv (.t 0), none⟩, ⟨(some 7), .len (.t 6), none⟩, ⟨(some 8), .mv (.c (.one (.d (.i .i64 0)))), none⟩]) (.wk (.block 0 (.loop (.seq (.reg [⟨(some 9), .bin .i .lss (.t 8) (.t 7), none⟩]) (.seq (.cond (.t 9) .skip (.exit 0)) (.seq (.block 1 (.seq (.reg [⟨(some 10), .mv (.t 8), none⟩, ⟨(some 5), .mv (.t 10), none⟩]) (.seq (.reg [⟨(some 11), .mv (.t 1), none⟩, ⟨(some 12), .mv (.t 0), none⟩, ⟨(some 13), .mv (.t 5), none⟩, ⟨(some 14), .ia 3 (.t 12) (.t 13), none⟩, ⟨(some 15), .ld true 3 (.t 14), none⟩, ⟨(some 16), .callv (.t 11) [(.t 15)], none⟩]) (.cond (.t 16) (.seq (.reg [⟨(some 17), .mv (.t 5), none⟩, ⟨(some 4), .mv (.t 17), none⟩]) .ret) .skip)))) (.reg [⟨(some 18), .bin .i .add (.t 8) (.c (.one (.d (.i .i64 1)))), none⟩, ⟨(some 8), .mv (.t 18), none⟩])))))))) (.seq (.reg [⟨(some 4), .mv (.c (.one (.d (.i .i64 (-1))))), none⟩]) .ret))), [.t 4]⟩
theorem low61 : lowF Try.prog 61 = some F61.strip := by kernel_rfl
theorem fok61 : fOk Try.prog 61 = true := by kernel_rfl
theorem slices_IndexFunc_Doubt_ok (G : Nat → Option (List D)) (p0 : List Doubt) (p1 : Doubt → Option (Bool)) (g_p1 : Nat) (c_p1 : List D) (h_p1 : ∀ (x0 : Doubt) (r : Bool), p1 x0 = some r → FnRO Try.prog G g_p1 ([.agg [.d (.i .i64 x0.Txn.Site), .d (.i .i64 x0.Txn.N), .d (.i .i64 x0.Age)]] ++ c_p1.map fun d => .one (.d d)) (fun rs => rs = [.one (.b r)])) (r : Int) (h : slices_IndexFunc_Doubt p0 p1 = some r) : FnRO Try.prog G 61 [.one (.d (.l 3 (p0.map Doubt.enc))), .one (.d (.f g_p1 c_p1))] (fun rs => rs = [.one (.i .i64 r)]) := by
  refine FnRO.of' low61 fok61 (by simp [F61]) ?_
  rw [slices_IndexFunc_Doubt] at h
  simp only [F61, go_sem, Nat.reduceAdd, Nat.reduceEqDiff, Nat.reduceLeDiff, Nat.reduceSub, reduceCtorEq, ↓reduceIte, Nat.reduceBEq, Int.reduceLT, Int.reduceLE, Int.reduceEq, Int.reduceBEq, Int.reduceBNe, Nat.reduceLT, Nat.reduceMul, Int.reduceToNat]
  try simp only [go_sem, Nat.reduceAdd, Nat.reduceEqDiff, Nat.reduceLeDiff, Nat.reduceSub, reduceCtorEq, ↓reduceIte, Nat.reduceBEq, Int.reduceLT, Int.reduceLE, Int.reduceEq, Int.reduceBEq, Int.reduceBNe, Nat.reduceLT, Nat.reduceMul, Int.reduceToNat]
  intro hl1
  obtain ⟨k3, hk3, h⟩ := withK_lk0 h
  try simp only [go_sem, Nat.reduceAdd, Nat.reduceEqDiff, Nat.reduceLeDiff, Nat.reduceSub, reduceCtorEq, ↓reduceIte, Nat.reduceBEq, Int.reduceLT, Int.reduceLE, Int.reduceEq, Int.reduceBEq, Int.reduceBNe, Nat.reduceLT, Nat.reduceMul, Int.reduceToNat]
  refine join_lk Try.prog G _ _ (B := Unit) (fun b => k3 = some r) (fun b => []) (fun b => []) ?_ (fun b h => ?_)
  · try simp only [go_sem, Nat.reduceAdd, Nat.reduceEqDiff, Nat.reduceLeDiff, Nat.reduceSub, reduceCtorEq, ↓reduceIte, Nat.reduceBEq, Int.reduceLT, Int.reduceLE, Int.reduceEq, Int.reduceBEq, Int.reduceBNe, Nat.reduceLT, Nat.reduceMul, Int.reduceToNat]
    refine loop_lk Try.prog G _ _ (A := Nat) (fun n a => slices_IndexFunc_Doubt_L1 p0 p1 k3 n a = some r) (fun a => [(0, .one (.d (.l 3 (p0.map Doubt.enc)))), (1, .one (.d (.f g_p1 c_p1))), (7, .one (.d (.i .i64 ((p0.length : Nat) : Int)))), (8, .one (.d (.i .i64 ((a : Nat) : Int))))]) (fun a => []) (p0.length + 1) (0) h (wk_c _ _ _ [] rfl (by simp only [go_sem, Nat.reduceAdd, Nat.reduceEqDiff, Nat.reduceLeDiff, Nat.reduceSub, reduceCtorEq, ↓reduceIte, Nat.reduceBEq, Int.reduceLT, Int.reduceLE, Int.reduceEq, Int.reduceBEq, Int.reduceBNe, Nat.reduceLT, Nat.reduceMul, Int.reduceToNat, slotsWk, objsWk, objWk, optVOWk, SV.wk, SC.wk, cellsWk, VO.wk, Ptr.wk, ptrsWk, SC.isNl, List.map_append, List.map_cons, List.map_nil, Option.some.injEq, Prod.mk.injEq, SC.d.injEq, D.l.injEq, List.map_set])) (fun a h => by simp only [slices_IndexFunc_Doubt_L1, reduceCtorEq] at h) ?_
    intro n5 a4_1 h
    try dsimp only at h
    rw [slices_IndexFunc_Doubt_L1] at h
    rcases of_if h with ⟨hb6, h⟩ | ⟨hb6, h⟩
    · have hkhb6 := of_decide_eq_true hb6
      obtain ⟨x7, hx7, h⟩ := Option.bind_eq_some_iff.1 h
      have hkx7 := (List.getElem?_eq_some_iff.1 hx7).1
      try simp only [List.length_take, List.length_drop, List.length_append, List.length_set, List.length_map, List.length_cons, List.length_nil, Nat.zero_add] at hkx7
      obtain ⟨v8, hv8, h⟩ := Option.bind_eq_some_iff.1 h
      try simp only [hb6, hkhb6, hx7, hkx7, go_sem, Nat.reduceAdd, Nat.reduceEqDiff, Nat.reduceLeDiff, Nat.reduceSub, reduceCtorEq, ↓reduceIte, Nat.reduceBEq, Int.reduceLT, Int.reduceLE, Int.reduceEq, Int.reduceBEq, Int.reduceBNe, Nat.reduceLT, Nat.reduceMul, Int.reduceToNat]
      refine CallV.ro false (h_p1 x7 v8 hv8) (by first | rfl | simp only [hb6, hkhb6, hx7, hkx7, go_sem, Nat.reduceAdd, Nat.reduceEqDiff, Nat.reduceLeDiff, Nat.reduceSub, reduceCtorEq, ↓reduceIte, Nat.reduceBEq, Int.reduceLT, Int.reduceLE, Int.reduceEq, Int.reduceBEq, Int.reduceBNe, Nat.reduceLT, Nat.reduceMul, Int.reduceToNat, inVs_caps]) ?_
      rintro rs rfl
      refine ⟨.inl rfl, ?_⟩
      rcases of_if h with ⟨hb9, h⟩ | ⟨hb9, h⟩
      · simp only [Option.some.injEq] at h
        subst h
        try simp only [hb6, hkhb6, hx7, hkx7, hb9, go_sem, Nat.reduceAdd, Nat.reduceEqDiff, Nat.reduceLeDiff, Nat.reduceSub, reduceCtorEq, ↓reduceIte, Nat.reduceBEq, Int.reduceLT, Int.reduceLE, Int.reduceEq, Int.reduceBEq, Int.reduceBNe, Nat.reduceLT, Nat.reduceMul, Int.reduceToNat, List.map_append, List.map_cons, List.map_nil, List.map_set]
      · have hw10 := wrap_succ_max hkx7 hl1
        try simp only [hb6, hkhb6, hx7, hkx7, hb9, hw10, go_sem, Nat.reduceAdd, Nat.reduceEqDiff, Nat.reduceLeDiff, Nat.reduceSub, reduceCtorEq, ↓reduceIte, Nat.reduceBEq, Int.reduceLT, Int.reduceLE, Int.reduceEq, Int.reduceBEq, Int.reduceBNe, Nat.reduceLT, Nat.reduceMul, Int.reduceToNat]
        exact loopQ_c (a4_1 + 1) h [] rfl (by simp only [hb6, hkhb6, hx7, hkx7, hb9, hw10, go_sem, Nat.reduceAdd, Nat.reduceEqDiff, Nat.reduceLeDiff, Nat.reduceSub, reduceCtorEq, ↓reduceIte, Nat.reduceBEq, Int.reduceLT, Int.reduceLE, Int.reduceEq, Int.reduceBEq, Int.reduceBNe, Nat.reduceLT, Nat.reduceMul, Int.reduceToNat, slotsWk, objsWk, objWk, optVOWk, SV.wk, SC.wk, cellsWk, VO.wk, Ptr.wk, ptrsWk, SC.isNl, List.map_append, List.map_cons, List.map_nil, Option.some.injEq, Prod.mk.injEq, SC.d.injEq, D.l.injEq, List.map_set])
    · try simp only [hb6, go_sem, Nat.reduceAdd, Nat.reduceEqDiff, Nat.reduceLeDiff, Nat.reduceSub, reduceCtorEq, ↓reduceIte, Nat.reduceBEq, Int.reduceLT, Int.reduceLE, Int.reduceEq, Int.reduceBEq, Int.reduceBNe, Nat.reduceLT, Nat.reduceMul, Int.reduceToNat]
      exact joinQ_c () h [] rfl (by simp only [hb6, go_sem, Nat.reduceAdd, Nat.reduceEqDiff, Nat.reduceLeDiff, Nat.reduceSub, reduceCtorEq, ↓reduceIte, Nat.reduceBEq, Int.reduceLT, Int.reduceLE, Int.reduceEq, Int.reduceBEq, Int.reduceBNe, Nat.reduceLT, Nat.reduceMul, Int.reduceToNat, slotsWk, objsWk, objWk, optVOWk, SV.wk, SC.wk, cellsWk, VO.wk, Ptr.wk, ptrsWk, SC.isNl, List.map_append, List.map_cons, List.map_nil, Option.some.injEq, Prod.mk.injEq, SC.d.injEq, D.l.injEq, List.map_set])
  · try dsimp only at h
    rw [hk3] at h
    simp only [Option.some.injEq] at h
    subst h
    try simp only [go_sem, Nat.reduceAdd, Nat.reduceEqDiff, Nat.reduceLeDiff, Nat.reduceSub, reduceCtorEq, ↓reduceIte, Nat.reduceBEq, Int.reduceLT, Int.reduceLE, Int.reduceEq, Int.reduceBEq, Int.reduceBNe, Nat.reduceLT, Nat.reduceMul, Int.reduceToNat, List.map_append, List.map_cons, List.map_nil, List.map_set]
def slices_ContainsFunc_Doubt (p0 : List Doubt) (p1 : Doubt → Option (Bool)) : Option (Bool) := (Option.bind (slices_IndexFunc_Doubt p0 p1) fun v1 => (some (decide (v1 ≥ 0))))
def F65 : VFn := ⟨9, (.seq (.reg [⟨(some 4), .mv (.c (.one (.d (.b false)))), none⟩]) (.seq (.reg [⟨(some 5), .mv (.t 0), none⟩, ⟨(some 6), .mv (.t 1), none⟩, ⟨(some 7), .call 61 [(.t 5), (.t 6)], none⟩, ⟨(some 8), .bin .i .geq (.t 7) (.c (.one (.d (.i .i64 0)))), none⟩, ⟨(some 4), .mv (.t 8), none⟩]) .ret)), [.t 4]⟩
theorem low65 : lowF Try.prog 65 = some F65.strip := by kernel_rfl
theorem fok65 : fOk Try.prog 65 = true := by kernel_rfl
theorem slices_ContainsFunc_Doubt_ok (G : Nat → Option (List D)) (p0 : List Doubt) (p1 : Doubt → Option (Bool)) (g_p1 : Nat) (c_p1 : List D) (h_p1 : ∀ (x0 : Doubt) (r : Bool), p1 x0 = some r → FnRO Try.prog G g_p1 ([.agg [.d (.i .i64 x0.Txn.Site), .d (.i .i64 x0.Txn.N), .d (.i .i64 x0.Age)]] ++ c_p1.map fun d => .one (.d d)) (fun rs => rs = [.one (.b r)])) (r : Bool) (h : slices_ContainsFunc_Doubt p0 p1 = some r) : FnRO Try.prog G 65 [.one (.d (.l 3 (p0.map Doubt.enc))), .one (.d (.f g_p1 c_p1))] (fun rs => rs = [.one (.b r)]) := by
  refine FnRO.of' low65 fok65 (by simp [F65]) ?_
  rw [slices_ContainsFunc_Doubt] at h
  simp only [F65, go_sem, Nat.reduceAdd, Nat.reduceEqDiff, Nat.reduceLeDiff, Nat.reduceSub, reduceCtorEq, ↓reduceIte, Nat.reduceBEq, Int.reduceLT, Int.reduceLE, Int.reduceEq, Int.reduceBEq, Int.reduceBNe, Nat.reduceLT, Nat.reduceMul, Int.reduceToNat]
  obtain ⟨v1, hv1, h⟩ := Option.bind_eq_some_iff.1 h
  try simp only [go_sem, Nat.reduceAdd, Nat.reduceEqDiff, Nat.reduceLeDiff, Nat.reduceSub, reduceCtorEq, ↓reduceIte, Nat.reduceBEq, Int.reduceLT, Int.reduceLE, Int.reduceEq, Int.reduceBEq, Int.reduceBNe, Nat.reduceLT, Nat.reduceMul, Int.reduceToNat]
  refine CallV.ro false (slices_IndexFunc_Doubt_ok G p0 p1 g_p1 c_p1 h_p1 v1 hv1) (by first | rfl | (simp only [go_sem, Nat.reduceAdd, Nat.reduceEqDiff, Nat.reduceLeDiff, Nat.reduceSub, reduceCtorEq, ↓reduceIte, Nat.reduceBEq, Int.reduceLT, Int.reduceLE, Int.reduceEq, Int.reduceBEq, Int.reduceBNe, Nat.reduceLT, Nat.reduceMul, Int.reduceToNat, inVs_caps]; done) | simp only [go_sem, Nat.reduceAdd, Nat.reduceEqDiff, Nat.reduceLeDiff, Nat.reduceSub, reduceCtorEq, ↓reduceIte, Nat.reduceBEq, Int.reduceLT, Int.reduceLE, Int.reduceEq, Int.reduceBEq, Int.reduceBNe, Nat.reduceLT, Nat.reduceMul, Int.reduceToNat, inVs_caps, List.map_append, List.map_cons, List.map_nil, List.map_set]) ?_
  rintro rs rfl
  refine ⟨.inl rfl, ?_⟩
  simp only [Option.some.injEq] at h
  subst h
  try simp only [go_sem, Nat.reduceAdd, Nat.reduceEqDiff, Nat.reduceLeDiff, Nat.reduceSub, reduceCtorEq, ↓reduceIte, Nat.reduceBEq, Int.reduceLT, Int.reduceLE, Int.reduceEq, Int.reduceBEq, Int.reduceBNe, Nat.reduceLT, Nat.reduceMul, Int.reduceToNat, List.map_append, List.map_cons, List.map_nil, List.map_set]
def store_doubted (p0 : Store) (p1 : Txn) : Option (Bool) := (Option.bind (slices_ContainsFunc_Doubt p0.Doubts (fun y1 => store_doubted_1 y1 p1)) fun v2 => (some v2))
def F55 : VFn := ⟨9, (.seq (.reg [⟨(some 2), .box 4 (.t 0), none⟩, ⟨(some 3), .box 2 (.t 1), none⟩, ⟨(some 4), .mv (.c (.one (.d (.b false)))), none⟩]) (.seq (.reg [⟨(some 5), .fa 2 (.t 2), none⟩, ⟨(some 6), .ld false 1 (.t 5), none⟩, ⟨(some 7), .mkf 66 [(.t 3)], none⟩, ⟨(some 8), .call 65 [(.t 6), (.t 7)], none⟩, ⟨(some 4), .mv (.t 8), none⟩]) .ret)), [.t 4]⟩
theorem low55 : lowF Try.prog 55 = some F55.strip := by kernel_rfl
theorem fok55 : fOk Try.prog 55 = true := by kernel_rfl
theorem store_doubted_ok (G : Nat → Option (List D)) (p0 : Store) (p1 : Txn) (r : Bool) (h : store_doubted p0 p1 = some r) : FnRO Try.prog G 55 [.agg [.d (.l 3 (p0.Items.map Item.enc)), .d (.l 6 (p0.Locks.map Lock.enc)), .d (.l 3 (p0.Doubts.map Doubt.enc)), .d (.l 2 (p0.Over.map Txn.enc))], .agg [.d (.i .i64 p1.Site), .d (.i .i64 p1.N)]] (fun rs => rs = [.one (.b r)]) := by
  refine FnRO.of' low55 fok55 (by simp [F55]) ?_
  rw [store_doubted] at h
  simp only [F55, go_sem, Nat.reduceAdd, Nat.reduceEqDiff, Nat.reduceLeDiff, Nat.reduceSub, reduceCtorEq, ↓reduceIte, Nat.reduceBEq, Int.reduceLT, Int.reduceLE, Int.reduceEq, Int.reduceBEq, Int.reduceBNe, Nat.reduceLT, Nat.reduceMul, Int.reduceToNat]
  obtain ⟨v2, hv2, h⟩ := Option.bind_eq_some_iff.1 h
  try simp only [go_sem, Nat.reduceAdd, Nat.reduceEqDiff, Nat.reduceLeDiff, Nat.reduceSub, reduceCtorEq, ↓reduceIte, Nat.reduceBEq, Int.reduceLT, Int.reduceLE, Int.reduceEq, Int.reduceBEq, Int.reduceBNe, Nat.reduceLT, Nat.reduceMul, Int.reduceToNat]
  refine CallV.ro true (slices_ContainsFunc_Doubt_ok G p0.Doubts (fun y1 => store_doubted_1 y1 p1) 66 [.k [.i .i64 p1.Site, .i .i64 p1.N]] (fun y1 r h => store_doubted_1_ok G y1 p1 r h) v2 hv2) (by first | rfl | (simp only [go_sem, Nat.reduceAdd, Nat.reduceEqDiff, Nat.reduceLeDiff, Nat.reduceSub, reduceCtorEq, ↓reduceIte, Nat.reduceBEq, Int.reduceLT, Int.reduceLE, Int.reduceEq, Int.reduceBEq, Int.reduceBNe, Nat.reduceLT, Nat.reduceMul, Int.reduceToNat, inVs_caps]; done) | simp only [go_sem, Nat.reduceAdd, Nat.reduceEqDiff, Nat.reduceLeDiff, Nat.reduceSub, reduceCtorEq, ↓reduceIte, Nat.reduceBEq, Int.reduceLT, Int.reduceLE, Int.reduceEq, Int.reduceBEq, Int.reduceBNe, Nat.reduceLT, Nat.reduceMul, Int.reduceToNat, inVs_caps, List.map_append, List.map_cons, List.map_nil, List.map_set]) ?_
  rintro rs rfl
  refine ⟨.inr (by simp only [go_sem, Nat.reduceAdd, Nat.reduceEqDiff, Nat.reduceLeDiff, Nat.reduceSub, reduceCtorEq, ↓reduceIte, Nat.reduceBEq, Int.reduceLT, Int.reduceLE, Int.reduceEq, Int.reduceBEq, Int.reduceBNe, Nat.reduceLT, Nat.reduceMul, Int.reduceToNat, RV.plain, D.plain, D.plain0, D.plain1, List.all_map, Function.comp_def, all_tt]), ?_⟩
  simp only [Option.some.injEq] at h
  subst h
  try simp only [go_sem, Nat.reduceAdd, Nat.reduceEqDiff, Nat.reduceLeDiff, Nat.reduceSub, reduceCtorEq, ↓reduceIte, Nat.reduceBEq, Int.reduceLT, Int.reduceLE, Int.reduceEq, Int.reduceBEq, Int.reduceBNe, Nat.reduceLT, Nat.reduceMul, Int.reduceToNat, List.map_append, List.map_cons, List.map_nil, List.map_set]
def store_locks_L2 (p0 : Store) (a4_1 : Nat) (x7 : Lock) (k21 : Option (Bool)) : Nat → Nat → Option (Bool)
  | 0, _ => none
  | n23 + 1, a22_1 => (if (decide (a22_1 < min a4_1 p0.Locks.length)) = true then (Option.bind ((p0.Locks.take a4_1)[a22_1]?) fun x25 => (if (x25.Key == x7.Key) = true then (if ((x25.Txn.Site == x7.Txn.Site) && (x25.Txn.N == x7.Txn.N)) = true then (some false) else (if x25.Write = true then (some false) else (store_locks_L2 p0 a4_1 x7 k21 n23 (a22_1 + 1)))) else (store_locks_L2 p0 a4_1 x7 k21 n23 (a22_1 + 1)))) else k21)
def store_locks_L3 (p0 : Store) (a4_1 : Nat) (x7 : Lock) (k35 : Option (Bool)) : Nat → Nat → Option (Bool)
  | 0, _ => none
  | n37 + 1, a36_1 => (if (decide (a36_1 < min a4_1 p0.Locks.length)) = true then (Option.bind ((p0.Locks.take a4_1)[a36_1]?) fun x39 => (if (x39.Key == x7.Key) = true then (if ((x39.Txn.Site == x7.Txn.Site) && (x39.Txn.N == x7.Txn.N)) = true then (some false) else (if x39.Write = true then (some false) else (some false))) else (store_locks_L3 p0 a4_1 x7 k35 n37 (a36_1 + 1)))) else k35)
def store_locks_L1 (p0 : Store) (k3 : Option (Bool)) : Nat → Nat → Option (Bool)
  | 0, _ => none
  | n5 + 1, a4_1 => (if (decide (a4_1 < p0.Locks.length)) = true then (Option.bind (p0.Locks[a4_1]?) fun x7 => (Option.bind (store_doubted p0 x7.Txn) fun v8 => (if (!v8) = true then (some false) else (if (decide (x7.Key < 0)) = true then (some false) else (if (decide (x7.Key ≥ 8)) = true then (some false) else (if (decide (x7.Value < 0)) = true then (some false) else (if (decide (x7.Value > 1073741824)) = true then (some false) else (if (decide (x7.Ask < 0)) = true then (some false) else (if (decide (x7.Ask > 1048576)) = true then (some false) else (if (!x7.Write) = true then (if (IntKind.i64.wrap (x7.Value + x7.Ask) != 0) = true then (some false) else (withK (store_locks_L1 p0 k3 n5 (a4_1 + 1)) fun k21 => (store_locks_L2 p0 a4_1 x7 k21 (min a4_1 p0.Locks.length + 1) 0))) else (withK (store_locks_L1 p0 k3 n5 (a4_1 + 1)) fun k35 => (store_locks_L3 p0 a4_1 x7 k35 (min a4_1 p0.Locks.length + 1) 0)))))))))))) else k3)
def store_locks (p0 : Store) : Option (Bool) := (withK (some (decide (((p0.Locks.length : Nat) : Int) ≤ 24))) fun k3 => (store_locks_L1 p0 k3 (p0.Locks.length + 1) 0))
def F64 : VFn := ⟨98, (.seq (.reg [⟨(some 1), .box 4 (.t 0), none⟩, ⟨(some 2), .mv (.c (.one (.d (.b false)))), none⟩]) (.seq (.seq (.reg [⟨(some 7), .fa 1 (.t 1), none⟩, ⟨(some 8), .ld false 1 (.t 7), none⟩, ⟨(some 9), .len (.t 8), none⟩, ⟨(some 10), .mv (.c (.one (.d (.i .i64 0)))), none⟩]) (.wk (.block 0 (.loop (.seq (.reg [⟨(some 11), .bin .i .lss (.t 10) (.t 9), none⟩]) (.seq (.cond (.t 11) .skip (.exit 0)) (.seq (.block 1 (.seq (.reg [⟨(some 12), .mv (.t 10), none⟩, ⟨(some 13), .ia 6 (.t 8) (.t 10), none⟩, ⟨(some 14), .ld true 6 (.t 13), none⟩, ⟨(some 4), .alloc [(.d (.i .i64 0)), (.d (.i .i64 0)), (.d (.i .i64 0)), (.d (.b false)), (.d (.i .i64 0)), (.d (.i .i64 0))], none⟩, ⟨(some 3), .mv (.t 12), none⟩, ⟨none, .st 6 (.t 4) (.t 14), none⟩]) (.seq (.seq (.reg [⟨(some 15), .ld true 4 (.t 1), none⟩, ⟨(some 16), .fa 0 (.t 4), none⟩, ⟨(some 17), .ld true 2 (.t 16), none⟩, ⟨(some 18), .call 55 [(.t 15), (.t 17)], none⟩, ⟨(some 19), .un .not (.t 18), none⟩, ⟨(some 20), .mv (.t 19), none⟩, ⟨(some 21), .fa 2 (.t 4), (some (20, false))⟩, ⟨(some 22), .ld false 1 (.t 21), (some (20, false))⟩, ⟨(some 23), .bin .i .lss (.t 22) (.c (.one (.d (.i .i64 0)))), (some (20, false))⟩, ⟨(some 24), .pick (.t 20) (.c (.one (.d (.b true)))) (.t 23), none⟩, ⟨(some 25), .mv (.t 24), none⟩, ⟨(some 26), .fa 2 (.t 4), (some (25, false))⟩, ⟨(some 27), .ld false 1 (.t 26), (some (25, false))⟩, ⟨(some 28), .bin .i .geq (.t 27) (.c (.one (.d (.i .i64 8)))), (some (25, false))⟩, ⟨(some 29), .pick (.t 25) (.c (.one (.d (.b true)))) (.t 28), none⟩, ⟨(some 30), .mv (.t 29), none⟩, ⟨(some 31), .fa 4 (.t 4), (some (30, false))⟩, ⟨(some 32), .ld false 1 (.t 31), (some (30, false))⟩, ⟨(some 33), .bin .i .lss (.t 32) (.c (.one (.d (.i .i64 0)))), (some (30, false))⟩, ⟨(some 34), .pick (.t 30) (.c (.one (.d (.b true)))) (.t 33), none⟩, ⟨(some 35), .mv (.t 34), none⟩, ⟨(some 36), .fa 4 (.t 4), (some (35, false))⟩, ⟨(some 37), .ld false 1 (.t 36), (some (35, false))⟩, ⟨(some 38), .bin .i .gtr (.t 37) (.c (.one (.d (.i .i64 1073741824)))), (some (35, false))⟩, ⟨(some 39), .pick (.t 35) (.c (.one (.d (.b true)))) (.t 38), none⟩, ⟨(some 40), .mv (.t 39), none⟩, ⟨(some 41), .fa 5 (.t 4), (some (40, false))⟩, ⟨(some 42), .ld false 1 (.t 41), (some (40, false))⟩, ⟨(some 43), .bin .i .lss (.t 42) (.c (.one (.d (.i .i64 0)))), (some (40, false))⟩, ⟨(some 44), .pick (.t 40) (.c (.one (.d (.b true)))) (.t 43), none⟩, ⟨(some 45), .mv (.t 44), none⟩, ⟨(some 46), .fa 5 (.t 4), (some (45, false))⟩, ⟨(some 47), .ld false 1 (.t 46), (some (45, false))⟩, ⟨(some 48), .bin .i .gtr (.t 47) (.c (.one (.d (.i .i64 1048576)))), (some (45, false))⟩, ⟨(some 49), .pick (.t 45) (.c (.one (.d (.b true)))) (.t 48), none⟩, ⟨(some 50), .mv (.t 49), none⟩, ⟨(some 51), .fa 3 (.t 4), (some (50, false))⟩, ⟨(some 52), .ld false 1 (.t 51), (some (50, false))⟩, ⟨(some 53), .un .not (.t 52), (some (50, false))⟩, ⟨(some 54), .mv (.t 53), (some (50, false))⟩, ⟨(some 55), .fa 4 (.t 4), (some (54, true))⟩, ⟨(some 56), .ld false 1 (.t 55), (some (54, true))⟩, ⟨(some 57), .fa 5 (.t 4), (some (54, true))⟩, ⟨(some 58), .ld false 1 (.t 57), (some (54, true))⟩, ⟨(some 59), .bin .i .add (.t 56) (.t 58), (some (54, true))⟩, ⟨(some 60), .bin .i .neq (.t 59) (.c (.one (.d (.i .i64 0)))), (some (54, true))⟩, ⟨(some 61), .pick (.t 54) (.t 60) (.c (.one (.d (.b false)))), (some (50, false))⟩, ⟨(some 62), .pick (.t 50) (.c (.one (.d (.b true)))) (.t 61), none⟩]) (.cond (.t 62) (.seq (.reg [⟨(some 2), .mv (.c (.one (.d (.b false)))), none⟩]) .ret) .skip)) (.seq (.reg [⟨(some 63), .fa 1 (.t 1), none⟩, ⟨(some 64), .ld false 1 (.t 63), none⟩, ⟨(some 65), .mv (.t 3), none⟩, ⟨(some 66), .sl 6 (.t 64) none (some (.t 65)), none⟩, ⟨(some 67), .len (.t 66), none⟩, ⟨(some 68), .mv (.c (.one (.d (.i .i64 0)))), none⟩]) (.wk (.block 2 (.loop (.seq (.reg [⟨(some 69), .bin .i .lss (.t 68) (.t 67), none⟩]) (.seq (.cond (.t 69) .skip (.exit 2)) (.seq (.block 3 (.seq (.reg [⟨(some 70), .ia 6 (.t 66) (.t 68), none⟩, ⟨(some 71), .ld true 6 (.t 70), none⟩, ⟨(some 6), .alloc [(.d (.i .i64 0)), (.d (.i .i64 0)), (.d (.i .i64 0)), (.d (.b false)), (.d (.i .i64 0)), (.d (.i .i64 0))], none⟩, ⟨none, .st 6 (.t 6) (.t 71), none⟩]) (.seq (.reg [⟨(some 72), .fa 2 (.t 6), none⟩, ⟨(some 73), .ld false 1 (.t 72), none⟩, ⟨(some 74), .fa 2 (.t 4), none⟩, ⟨(some 75), .ld false 1 (.t 74), none⟩, ⟨(some 76), .bin .i .eql (.t 73) (.t 75), none⟩, ⟨(some 77), .mv (.t 76), none⟩, ⟨(some 78), .fa 0 (.t 6), (some (77, true))⟩, ⟨(some 79), .ld true 2 (.t 78), (some (77, true))⟩, ⟨(some 80), .fa 0 (.t 4), (some (77, true))⟩, ⟨(some 81), .ld true 2 (.t 80), (some (77, true))⟩, ⟨(some 82), .eqs false [.i, .i] (.t 79) (.t 81), (some (77, true))⟩, ⟨(some 83), .mv (.t 82), (some (77, true))⟩, ⟨(some 84), .fa 3 (.t 6), (some (83, false))⟩, ⟨(some 85), .ld false 1 (.t 84), (some (83, false))⟩, ⟨(some 86), .pick (.t 83) (.c (.one (.d (.b true)))) (.t 85), (some (77, true))⟩, ⟨(some 87), .mv (.t 86), (some (77, true))⟩, ⟨(some 88), .fa 3 (.t 4), (some (87, false))⟩, ⟨(some 89), .ld false 1 (.t 88), (some (87, false))⟩, ⟨(some 90), .pick (.t 87) (.c (.one (.d (.b true)))) (.t 89), (some (77, true))⟩, ⟨(some 91), .pick (.t 77) (.t 90) (.c (.one (.d (.b false)))), none⟩]) (.cond (.t 91) (.seq (.reg [⟨(some 2), .mv (.c (.one (.d (.b false)))), none⟩]) .ret) .skip)))) (.reg [⟨(some 92), .bin .i .add (.t 68) (.c (.one (.d (.i .i64 1)))), none⟩, ⟨(some 68), .mv (.t 92), none⟩]))))))))))) (.reg [⟨(some 93), .bin .i .add (.t 10) (.c (.one (.d (.i .i64 1)))), none⟩, ⟨(some 10), .mv (.t 93), none⟩])))))))) (.seq (.reg [⟨(some 94), .fa 1 (.t 1), none⟩, ⟨(some 95), .ld false 1 (.t 94), none⟩, ⟨(some 96), .len (.t 95), none⟩, ⟨(some 97), .bin .i .leq (.t 96) (.c (.one (.d (.i .i64 24)))), none⟩, ⟨(some 2), .mv (.t 97), none⟩]) .ret))), [.t 2]⟩
theorem low64 : lowF Try.prog 64 = some F64.strip := by kernel_rfl
theorem fok64 : fOk Try.prog 64 = true := by kernel_rfl
theorem store_locks_ok (G : Nat → Option (List D)) (p0 : Store) (r : Bool) (h : store_locks p0 = some r) : FnRO Try.prog G 64 [.agg [.d (.l 3 (p0.Items.map Item.enc)), .d (.l 6 (p0.Locks.map Lock.enc)), .d (.l 3 (p0.Doubts.map Doubt.enc)), .d (.l 2 (p0.Over.map Txn.enc))]] (fun rs => rs = [.one (.b r)]) := by
  refine FnRO.of' low64 fok64 (by simp [F64]) ?_
  rw [store_locks] at h
  simp only [F64, go_sem, Nat.reduceAdd, Nat.reduceEqDiff, Nat.reduceLeDiff, Nat.reduceSub, reduceCtorEq, ↓reduceIte, Nat.reduceBEq, Int.reduceLT, Int.reduceLE, Int.reduceEq, Int.reduceBEq, Int.reduceBNe, Nat.reduceLT, Nat.reduceMul, Int.reduceToNat]
  try simp only [go_sem, Nat.reduceAdd, Nat.reduceEqDiff, Nat.reduceLeDiff, Nat.reduceSub, reduceCtorEq, ↓reduceIte, Nat.reduceBEq, Int.reduceLT, Int.reduceLE, Int.reduceEq, Int.reduceBEq, Int.reduceBNe, Nat.reduceLT, Nat.reduceMul, Int.reduceToNat]
  intro hl1
  obtain ⟨k3, hk3, h⟩ := withK_lk0 h
  try simp only [go_sem, Nat.reduceAdd, Nat.reduceEqDiff, Nat.reduceLeDiff, Nat.reduceSub, reduceCtorEq, ↓reduceIte, Nat.reduceBEq, Int.reduceLT, Int.reduceLE, Int.reduceEq, Int.reduceBEq, Int.reduceBNe, Nat.reduceLT, Nat.reduceMul, Int.reduceToNat]
  refine join_lk Try.prog G _ _ (B := Unit) (fun b => k3 = some r) (fun b => [(1, .one (.p (.q 0 0 0)))]) (fun b => [some (.box [.d (.l 3 (p0.Items.map Item.enc)), .d (.l 6 (p0.Locks.map Lock.enc)), .d (.l 3 (p0.Doubts.map Doubt.enc)), .d (.l 2 (p0.Over.map Txn.enc))])]) ?_ (fun b h => ?_)
  · try simp only [go_sem, Nat.reduceAdd, Nat.reduceEqDiff, Nat.reduceLeDiff, Nat.reduceSub, reduceCtorEq, ↓reduceIte, Nat.reduceBEq, Int.reduceLT, Int.reduceLE, Int.reduceEq, Int.reduceBEq, Int.reduceBNe, Nat.reduceLT, Nat.reduceMul, Int.reduceToNat]
    refine loop_lk Try.prog G _ _ (A := Nat) (fun n a => store_locks_L1 p0 k3 n a = some r) (fun a => [(1, .one (.p (.q 0 0 0))), (8, .one (.d (.l 6 (p0.Locks.map Lock.enc)))), (9, .one (.d (.i .i64 ((p0.Locks.length : Nat) : Int)))), (10, .one (.d (.i .i64 ((a : Nat) : Int))))]) (fun a => [some (.box [.d (.l 3 (p0.Items.map Item.enc)), .d (.l 6 (p0.Locks.map Lock.enc)), .d (.l 3 (p0.Doubts.map Doubt.enc)), .d (.l 2 (p0.Over.map Txn.enc))])]) (p0.Locks.length + 1) (0) h (wk_c _ _ _ [some 0] rfl (by simp only [go_sem, Nat.reduceAdd, Nat.reduceEqDiff, Nat.reduceLeDiff, Nat.reduceSub, reduceCtorEq, ↓reduceIte, Nat.reduceBEq, Int.reduceLT, Int.reduceLE, Int.reduceEq, Int.reduceBEq, Int.reduceBNe, Nat.reduceLT, Nat.reduceMul, Int.reduceToNat, slotsWk, objsWk, objWk, optVOWk, SV.wk, SC.wk, cellsWk, VO.wk, Ptr.wk, ptrsWk, SC.isNl, List.map_append, List.map_cons, List.map_nil, Option.some.injEq, Prod.mk.injEq, SC.d.injEq, D.l.injEq, List.map_set])) (fun a h => by simp only [store_locks_L1, reduceCtorEq] at h) ?_
    intro n5 a4_1 h
    try dsimp only at h
    rw [store_locks_L1] at h
    rcases of_if h with ⟨hb6, h⟩ | ⟨hb6, h⟩
    · have hkhb6 := of_decide_eq_true hb6
      obtain ⟨x7, hx7, h⟩ := Option.bind_eq_some_iff.1 h
      have hkx7 := (List.getElem?_eq_some_iff.1 hx7).1
      try simp only [List.length_take, List.length_drop, List.length_append, List.length_set, List.length_map, List.length_cons, List.length_nil, Nat.zero_add] at hkx7
      obtain ⟨v8, hv8, h⟩ := Option.bind_eq_some_iff.1 h
      try simp only [hb6, hkhb6, hx7, hkx7, go_sem, Nat.reduceAdd, Nat.reduceEqDiff, Nat.reduceLeDiff, Nat.reduceSub, reduceCtorEq, ↓reduceIte, Nat.reduceBEq, Int.reduceLT, Int.reduceLE, Int.reduceEq, Int.reduceBEq, Int.reduceBNe, Nat.reduceLT, Nat.reduceMul, Int.reduceToNat]
      refine CallV.ro false (store_doubted_ok G p0 x7.Txn v8 hv8) rfl ?_
      rintro rs rfl
      refine ⟨.inl rfl, ?_⟩
      rcases of_if h with ⟨hb9, h⟩ | ⟨hb9, h⟩
      · have hkhb9 := not_eq_t hb9
        simp only [Option.some.injEq] at h
        subst h
        try simp only [hb6, hkhb6, hx7, hkx7, hb9, hkhb9, go_sem, Nat.reduceAdd, Nat.reduceEqDiff, Nat.reduceLeDiff, Nat.reduceSub, reduceCtorEq, ↓reduceIte, Nat.reduceBEq, Int.reduceLT, Int.reduceLE, Int.reduceEq, Int.reduceBEq, Int.reduceBNe, Nat.reduceLT, Nat.reduceMul, Int.reduceToNat, List.map_append, List.map_cons, List.map_nil, List.map_set]
      · have hkhb9 := not_eq_f hb9
        rcases of_if h with ⟨hb10, h⟩ | ⟨hb10, h⟩
        · have hkhb10 := of_decide_eq_true hb10
          simp only [Option.some.injEq] at h
          subst h
          try simp only [hb6, hkhb6, hx7, hkx7, hb9, hkhb9, hb10, hkhb10, go_sem, Nat.reduceAdd, Nat.reduceEqDiff, Nat.reduceLeDiff, Nat.reduceSub, reduceCtorEq, ↓reduceIte, Nat.reduceBEq, Int.reduceLT, Int.reduceLE, Int.reduceEq, Int.reduceBEq, Int.reduceBNe, Nat.reduceLT, Nat.reduceMul, Int.reduceToNat, List.map_append, List.map_cons, List.map_nil, List.map_set]
        · rcases of_if h with ⟨hb11, h⟩ | ⟨hb11, h⟩
          · simp only [Option.some.injEq] at h
            subst h
            try simp only [hb6, hkhb6, hx7, hkx7, hb9, hkhb9, hb10, hb11, go_sem, Nat.reduceAdd, Nat.reduceEqDiff, Nat.reduceLeDiff, Nat.reduceSub, reduceCtorEq, ↓reduceIte, Nat.reduceBEq, Int.reduceLT, Int.reduceLE, Int.reduceEq, Int.reduceBEq, Int.reduceBNe, Nat.reduceLT, Nat.reduceMul, Int.reduceToNat, List.map_append, List.map_cons, List.map_nil, List.map_set]
          · rcases of_if h with ⟨hb12, h⟩ | ⟨hb12, h⟩
            · have hkhb12 := of_decide_eq_true hb12
              simp only [Option.some.injEq] at h
              subst h
              try simp only [hb6, hkhb6, hx7, hkx7, hb9, hkhb9, hb10, hb11, hb12, hkhb12, go_sem, Nat.reduceAdd, Nat.reduceEqDiff, Nat.reduceLeDiff, Nat.reduceSub, reduceCtorEq, ↓reduceIte, Nat.reduceBEq, Int.reduceLT, Int.reduceLE, Int.reduceEq, Int.reduceBEq, Int.reduceBNe, Nat.reduceLT, Nat.reduceMul, Int.reduceToNat, List.map_append, List.map_cons, List.map_nil, List.map_set]
            · rcases of_if h with ⟨hb13, h⟩ | ⟨hb13, h⟩
              · simp only [Option.some.injEq] at h
                subst h
                try simp only [hb6, hkhb6, hx7, hkx7, hb9, hkhb9, hb10, hb11, hb12, hb13, go_sem, Nat.reduceAdd, Nat.reduceEqDiff, Nat.reduceLeDiff, Nat.reduceSub, reduceCtorEq, ↓reduceIte, Nat.reduceBEq, Int.reduceLT, Int.reduceLE, Int.reduceEq, Int.reduceBEq, Int.reduceBNe, Nat.reduceLT, Nat.reduceMul, Int.reduceToNat, List.map_append, List.map_cons, List.map_nil, List.map_set]
              · rcases of_if h with ⟨hb14, h⟩ | ⟨hb14, h⟩
                · have hkhb14 := of_decide_eq_true hb14
                  simp only [Option.some.injEq] at h
                  subst h
                  try simp only [hb6, hkhb6, hx7, hkx7, hb9, hkhb9, hb10, hb11, hb12, hb13, hb14, hkhb14, go_sem, Nat.reduceAdd, Nat.reduceEqDiff, Nat.reduceLeDiff, Nat.reduceSub, reduceCtorEq, ↓reduceIte, Nat.reduceBEq, Int.reduceLT, Int.reduceLE, Int.reduceEq, Int.reduceBEq, Int.reduceBNe, Nat.reduceLT, Nat.reduceMul, Int.reduceToNat, List.map_append, List.map_cons, List.map_nil, List.map_set]
                · rcases of_if h with ⟨hb15, h⟩ | ⟨hb15, h⟩
                  · simp only [Option.some.injEq] at h
                    subst h
                    try simp only [hb6, hkhb6, hx7, hkx7, hb9, hkhb9, hb10, hb11, hb12, hb13, hb14, hb15, go_sem, Nat.reduceAdd, Nat.reduceEqDiff, Nat.reduceLeDiff, Nat.reduceSub, reduceCtorEq, ↓reduceIte, Nat.reduceBEq, Int.reduceLT, Int.reduceLE, Int.reduceEq, Int.reduceBEq, Int.reduceBNe, Nat.reduceLT, Nat.reduceMul, Int.reduceToNat, List.map_append, List.map_cons, List.map_nil, List.map_set]
                  · rcases of_if h with ⟨hb16, h⟩ | ⟨hb16, h⟩
                    · have hkhb16 := not_eq_t hb16
                      rcases of_if h with ⟨hb17, h⟩ | ⟨hb17, h⟩
                      · simp only [Option.some.injEq] at h
                        subst h
                        try simp only [hb6, hkhb6, hx7, hkx7, hb9, hkhb9, hb10, hb11, hb12, hb13, hb14, hb15, hb16, hkhb16, hb17, go_sem, Nat.reduceAdd, Nat.reduceEqDiff, Nat.reduceLeDiff, Nat.reduceSub, reduceCtorEq, ↓reduceIte, Nat.reduceBEq, Int.reduceLT, Int.reduceLE, Int.reduceEq, Int.reduceBEq, Int.reduceBNe, Nat.reduceLT, Nat.reduceMul, Int.reduceToNat, List.map_append, List.map_cons, List.map_nil, List.map_set]
                      · have hle18 := Nat.le_of_lt hkx7
                        try simp only [hb6, hkhb6, hx7, hkx7, hb9, hkhb9, hb10, hb11, hb12, hb13, hb14, hb15, hb16, hkhb16, hb17, hle18, go_sem, Nat.reduceAdd, Nat.reduceEqDiff, Nat.reduceLeDiff, Nat.reduceSub, reduceCtorEq, ↓reduceIte, Nat.reduceBEq, Int.reduceLT, Int.reduceLE, Int.reduceEq, Int.reduceBEq, Int.reduceBNe, Nat.reduceLT, Nat.reduceMul, Int.reduceToNat]
                        intro hl19
                        obtain ⟨k21, hk21, h⟩ := withK_lk0 h
                        try simp only [hb6, hkhb6, hx7, hkx7, hb9, hkhb9, hb10, hb11, hb12, hb13, hb14, hb15, hb16, hkhb16, hb17, hle18, go_sem, Nat.reduceAdd, Nat.reduceEqDiff, Nat.reduceLeDiff, Nat.reduceSub, reduceCtorEq, ↓reduceIte, Nat.reduceBEq, Int.reduceLT, Int.reduceLE, Int.reduceEq, Int.reduceBEq, Int.reduceBNe, Nat.reduceLT, Nat.reduceMul, Int.reduceToNat]
                        refine join_lk Try.prog G _ _ (B := Unit) (fun b => k21 = some r) (fun b => [(1, .one (.p (.q 0 0 0))), (8, .one (.d (.l 6 (p0.Locks.map Lock.enc)))), (9, .one (.d (.i .i64 ((p0.Locks.length : Nat) : Int)))), (10, .one (.d (.i .i64 ((a4_1 : Nat) : Int)))), (21, .one (.p (.q 1 0 2))), (22, .one (.d (.i .i64 x7.Key))), (23, .one (.d (.b false))), (26, .one (.p (.q 1 0 2))), (27, .one (.d (.i .i64 x7.Key))), (28, .one (.d (.b false))), (31, .one (.p (.q 1 0 4))), (32, .one (.d (.i .i64 x7.Value))), (33, .one (.d (.b false))), (36, .one (.p (.q 1 0 4))), (37, .one (.d (.i .i64 x7.Value))), (38, .one (.d (.b false))), (41, .one (.p (.q 1 0 5))), (42, .one (.d (.i .i64 x7.Ask))), (43, .one (.d (.b false))), (46, .one (.p (.q 1 0 5))), (47, .one (.d (.i .i64 x7.Ask))), (48, .one (.d (.b false))), (51, .one (.p (.q 1 0 3))), (52, .one (.d (.b false))), (53, .one (.d (.b true))), (54, .one (.d (.b true))), (55, .one (.p (.q 1 0 4))), (56, .one (.d (.i .i64 x7.Value))), (57, .one (.p (.q 1 0 5))), (58, .one (.d (.i .i64 x7.Ask))), (59, .one (.d (.i .i64 (IntKind.i64.wrap (x7.Value + x7.Ask))))), (60, .one (.d (.b false))), (61, .one (.d (.b false)))]) (fun b => [some (.box [.d (.l 3 (p0.Items.map Item.enc)), .d (.l 6 (p0.Locks.map Lock.enc)), .d (.l 3 (p0.Doubts.map Doubt.enc)), .d (.l 2 (p0.Over.map Txn.enc))]), some (.box [.d (.i .i64 x7.Txn.Site), .d (.i .i64 x7.Txn.N), .d (.i .i64 x7.Key), .d (.b false), .d (.i .i64 x7.Value), .d (.i .i64 x7.Ask)])]) ?_ (fun b h => ?_)
                        · try simp only [hb6, hkhb6, hx7, hkx7, hb9, hkhb9, hb10, hb11, hb12, hb13, hb14, hb15, hb16, hkhb16, hb17, hle18, go_sem, Nat.reduceAdd, Nat.reduceEqDiff, Nat.reduceLeDiff, Nat.reduceSub, reduceCtorEq, ↓reduceIte, Nat.reduceBEq, Int.reduceLT, Int.reduceLE, Int.reduceEq, Int.reduceBEq, Int.reduceBNe, Nat.reduceLT, Nat.reduceMul, Int.reduceToNat]
                          refine loop_lk Try.prog G _ _ (A := Nat) (fun n a => store_locks_L2 p0 a4_1 x7 k21 n a = some r) (fun a => [(1, .one (.p (.q 0 0 0))), (4, .one (.p (.q 1 0 0))), (8, .one (.d (.l 6 (p0.Locks.map Lock.enc)))), (9, .one (.d (.i .i64 ((p0.Locks.length : Nat) : Int)))), (10, .one (.d (.i .i64 ((a4_1 : Nat) : Int)))), (21, .one (.p (.q 1 0 2))), (22, .one (.d (.i .i64 x7.Key))), (23, .one (.d (.b false))), (26, .one (.p (.q 1 0 2))), (27, .one (.d (.i .i64 x7.Key))), (28, .one (.d (.b false))), (31, .one (.p (.q 1 0 4))), (32, .one (.d (.i .i64 x7.Value))), (33, .one (.d (.b false))), (36, .one (.p (.q 1 0 4))), (37, .one (.d (.i .i64 x7.Value))), (38, .one (.d (.b false))), (41, .one (.p (.q 1 0 5))), (42, .one (.d (.i .i64 x7.Ask))), (43, .one (.d (.b false))), (46, .one (.p (.q 1 0 5))), (47, .one (.d (.i .i64 x7.Ask))), (48, .one (.d (.b false))), (51, .one (.p (.q 1 0 3))), (52, .one (.d (.b false))), (53, .one (.d (.b true))), (54, .one (.d (.b true))), (55, .one (.p (.q 1 0 4))), (56, .one (.d (.i .i64 x7.Value))), (57, .one (.p (.q 1 0 5))), (58, .one (.d (.i .i64 x7.Ask))), (59, .one (.d (.i .i64 (IntKind.i64.wrap (x7.Value + x7.Ask))))), (60, .one (.d (.b false))), (61, .one (.d (.b false))), (66, .one (.d (.l 6 ((p0.Locks.take a4_1).map Lock.enc)))), (67, .one (.d (.i .i64 ((min a4_1 p0.Locks.length : Nat) : Int)))), (68, .one (.d (.i .i64 ((a : Nat) : Int))))]) (fun a => [some (.box [.d (.l 3 (p0.Items.map Item.enc)), .d (.l 6 (p0.Locks.map Lock.enc)), .d (.l 3 (p0.Doubts.map Doubt.enc)), .d (.l 2 (p0.Over.map Txn.enc))]), some (.box [.d (.i .i64 x7.Txn.Site), .d (.i .i64 x7.Txn.N), .d (.i .i64 x7.Key), .d (.b false), .d (.i .i64 x7.Value), .d (.i .i64 x7.Ask)])]) (min a4_1 p0.Locks.length + 1) (0) h (wk_c _ _ _ [some 0, some 1] rfl (by simp only [hb6, hkhb6, hx7, hkx7, hb9, hkhb9, hb10, hb11, hb12, hb13, hb14, hb15, hb16, hkhb16, hb17, hle18, go_sem, Nat.reduceAdd, Nat.reduceEqDiff, Nat.reduceLeDiff, Nat.reduceSub, reduceCtorEq, ↓reduceIte, Nat.reduceBEq, Int.reduceLT, Int.reduceLE, Int.reduceEq, Int.reduceBEq, Int.reduceBNe, Nat.reduceLT, Nat.reduceMul, Int.reduceToNat, slotsWk, objsWk, objWk, optVOWk, SV.wk, SC.wk, cellsWk, VO.wk, Ptr.wk, ptrsWk, SC.isNl, List.map_append, List.map_cons, List.map_nil, Option.some.injEq, Prod.mk.injEq, SC.d.injEq, D.l.injEq, List.map_set])) (fun a h => by simp only [store_locks_L2, reduceCtorEq] at h) ?_
                          intro n23 a22_1 h
                          try dsimp only at h
                          rw [store_locks_L2] at h
                          rcases of_if h with ⟨hb24, h⟩ | ⟨hb24, h⟩
                          · obtain ⟨x25, hx25, h⟩ := Option.bind_eq_some_iff.1 h
                            have hkx25 := (List.getElem?_eq_some_iff.1 hx25).1
                            try simp only [List.length_take, List.length_drop, List.length_append, List.length_set, List.length_map, List.length_cons, List.length_nil, Nat.zero_add] at hkx25
                            rcases of_if h with ⟨hb26, h⟩ | ⟨hb26, h⟩
                            · rcases of_if h with ⟨hb27, h⟩ | ⟨hb27, h⟩
                              · try simp only [hkhb6, hx7, hkx7, hkhb9, hkhb16, hle18, hb24, hx25, hkx25, hb26, hb27, go_sem, Nat.reduceAdd, Nat.reduceEqDiff, Nat.reduceLeDiff, Nat.reduceSub, reduceCtorEq, ↓reduceIte, Nat.reduceBEq, Int.reduceLT, Int.reduceLE, Int.reduceEq, Int.reduceBEq, Int.reduceBNe, Nat.reduceLT, Nat.reduceMul, Int.reduceToNat]
                                simp only [Option.some.injEq] at h
                                subst h
                                try simp only [hkhb6, hx7, hkx7, hkhb9, hkhb16, hle18, hb24, hx25, hkx25, hb26, hb27, go_sem, Nat.reduceAdd, Nat.reduceEqDiff, Nat.reduceLeDiff, Nat.reduceSub, reduceCtorEq, ↓reduceIte, Nat.reduceBEq, Int.reduceLT, Int.reduceLE, Int.reduceEq, Int.reduceBEq, Int.reduceBNe, Nat.reduceLT, Nat.reduceMul, Int.reduceToNat, List.map_append, List.map_cons, List.map_nil, List.map_set]
                              · try simp only [hkhb6, hx7, hkx7, hkhb9, hkhb16, hle18, hb24, hx25, hkx25, hb26, hb27, go_sem, Nat.reduceAdd, Nat.reduceEqDiff, Nat.reduceLeDiff, Nat.reduceSub, reduceCtorEq, ↓reduceIte, Nat.reduceBEq, Int.reduceLT, Int.reduceLE, Int.reduceEq, Int.reduceBEq, Int.reduceBNe, Nat.reduceLT, Nat.reduceMul, Int.reduceToNat]
                                rcases of_if h with ⟨hb28, h⟩ | ⟨hb28, h⟩
                                · simp only [Option.some.injEq] at h
                                  subst h
                                  try simp only [hkhb6, hx7, hkx7, hkhb9, hkhb16, hle18, hb24, hx25, hkx25, hb26, hb27, hb28, go_sem, Nat.reduceAdd, Nat.reduceEqDiff, Nat.reduceLeDiff, Nat.reduceSub, reduceCtorEq, ↓reduceIte, Nat.reduceBEq, Int.reduceLT, Int.reduceLE, Int.reduceEq, Int.reduceBEq, Int.reduceBNe, Nat.reduceLT, Nat.reduceMul, Int.reduceToNat, List.map_append, List.map_cons, List.map_nil, List.map_set]
                                · have hw29 := wrap_succ_max hkx25 hl19
                                  try simp only [hkhb6, hx7, hkx7, hkhb9, hkhb16, hle18, hb24, hx25, hkx25, hb26, hb27, hb28, hw29, go_sem, Nat.reduceAdd, Nat.reduceEqDiff, Nat.reduceLeDiff, Nat.reduceSub, reduceCtorEq, ↓reduceIte, Nat.reduceBEq, Int.reduceLT, Int.reduceLE, Int.reduceEq, Int.reduceBEq, Int.reduceBNe, Nat.reduceLT, Nat.reduceMul, Int.reduceToNat]
                                  exact loopQ_c (a22_1 + 1) h [some 0, some 1] rfl (by simp only [hkhb6, hx7, hkx7, hkhb9, hkhb16, hle18, hb24, hx25, hkx25, hb26, hb27, hb28, hw29, go_sem, Nat.reduceAdd, Nat.reduceEqDiff, Nat.reduceLeDiff, Nat.reduceSub, reduceCtorEq, ↓reduceIte, Nat.reduceBEq, Int.reduceLT, Int.reduceLE, Int.reduceEq, Int.reduceBEq, Int.reduceBNe, Nat.reduceLT, Nat.reduceMul, Int.reduceToNat, slotsWk, objsWk, objWk, optVOWk, SV.wk, SC.wk, cellsWk, VO.wk, Ptr.wk, ptrsWk, SC.isNl, List.map_append, List.map_cons, List.map_nil, Option.some.injEq, Prod.mk.injEq, SC.d.injEq, D.l.injEq, List.map_set])
                            · have hw30 := wrap_succ_max hkx25 hl19
                              try simp only [hkhb6, hx7, hkx7, hkhb9, hkhb16, hle18, hb24, hx25, hkx25, hb26, hw30, go_sem, Nat.reduceAdd, Nat.reduceEqDiff, Nat.reduceLeDiff, Nat.reduceSub, reduceCtorEq, ↓reduceIte, Nat.reduceBEq, Int.reduceLT, Int.reduceLE, Int.reduceEq, Int.reduceBEq, Int.reduceBNe, Nat.reduceLT, Nat.reduceMul, Int.reduceToNat]
                              exact loopQ_c (a22_1 + 1) h [some 0, some 1] rfl (by simp only [hkhb6, hx7, hkx7, hkhb9, hkhb16, hle18, hb24, hx25, hkx25, hb26, hw30, go_sem, Nat.reduceAdd, Nat.reduceEqDiff, Nat.reduceLeDiff, Nat.reduceSub, reduceCtorEq, ↓reduceIte, Nat.reduceBEq, Int.reduceLT, Int.reduceLE, Int.reduceEq, Int.reduceBEq, Int.reduceBNe, Nat.reduceLT, Nat.reduceMul, Int.reduceToNat, slotsWk, objsWk, objWk, optVOWk, SV.wk, SC.wk, cellsWk, VO.wk, Ptr.wk, ptrsWk, SC.isNl, List.map_append, List.map_cons, List.map_nil, Option.some.injEq, Prod.mk.injEq, SC.d.injEq, D.l.injEq, List.map_set])
                          · try simp only [hkhb6, hx7, hkx7, hkhb9, hkhb16, hle18, hb24, go_sem, Nat.reduceAdd, Nat.reduceEqDiff, Nat.reduceLeDiff, Nat.reduceSub, reduceCtorEq, ↓reduceIte, Nat.reduceBEq, Int.reduceLT, Int.reduceLE, Int.reduceEq, Int.reduceBEq, Int.reduceBNe, Nat.reduceLT, Nat.reduceMul, Int.reduceToNat]
                            exact joinQ_c () h [some 0, some 1] rfl (by simp only [hkhb6, hx7, hkx7, hkhb9, hkhb16, hle18, hb24, go_sem, Nat.reduceAdd, Nat.reduceEqDiff, Nat.reduceLeDiff, Nat.reduceSub, reduceCtorEq, ↓reduceIte, Nat.reduceBEq, Int.reduceLT, Int.reduceLE, Int.reduceEq, Int.reduceBEq, Int.reduceBNe, Nat.reduceLT, Nat.reduceMul, Int.reduceToNat, slotsWk, objsWk, objWk, optVOWk, SV.wk, SC.wk, cellsWk, VO.wk, Ptr.wk, ptrsWk, SC.isNl, List.map_append, List.map_cons, List.map_nil, Option.some.injEq, Prod.mk.injEq, SC.d.injEq, D.l.injEq, List.map_set])
                        · try dsimp only at h
                          rw [hk21] at h
                          have hw31 := wrap_succ_max hkx7 hl1
                          try simp only [hkhb6, hx7, hkx7, hkhb9, hkhb16, hle18, hw31, go_sem, Nat.reduceAdd, Nat.reduceEqDiff, Nat.reduceLeDiff, Nat.reduceSub, reduceCtorEq, ↓reduceIte, Nat.reduceBEq, Int.reduceLT, Int.reduceLE, Int.reduceEq, Int.reduceBEq, Int.reduceBNe, Nat.reduceLT, Nat.reduceMul, Int.reduceToNat]
                          exact loopQ_c (a4_1 + 1) h [some 0] rfl (by simp only [hkhb6, hx7, hkx7, hkhb9, hkhb16, hle18, hw31, go_sem, Nat.reduceAdd, Nat.reduceEqDiff, Nat.reduceLeDiff, Nat.reduceSub, reduceCtorEq, ↓reduceIte, Nat.reduceBEq, Int.reduceLT, Int.reduceLE, Int.reduceEq, Int.reduceBEq, Int.reduceBNe, Nat.reduceLT, Nat.reduceMul, Int.reduceToNat, slotsWk, objsWk, objWk, optVOWk, SV.wk, SC.wk, cellsWk, VO.wk, Ptr.wk, ptrsWk, SC.isNl, List.map_append, List.map_cons, List.map_nil, Option.some.injEq, Prod.mk.injEq, SC.d.injEq, D.l.injEq, List.map_set])
                    · have hkhb16 := not_eq_f hb16
                      have hle32 := Nat.le_of_lt hkx7
                      try simp only [hb6, hkhb6, hx7, hkx7, hb9, hkhb9, hb10, hb11, hb12, hb13, hb14, hb15, hb16, hkhb16, hle32, go_sem, Nat.reduceAdd, Nat.reduceEqDiff, Nat.reduceLeDiff, Nat.reduceSub, reduceCtorEq, ↓reduceIte, Nat.reduceBEq, Int.reduceLT, Int.reduceLE, Int.reduceEq, Int.reduceBEq, Int.reduceBNe, Nat.reduceLT, Nat.reduceMul, Int.reduceToNat]
                      intro hl33
                      obtain ⟨k35, hk35, h⟩ := withK_lk0 h
                      try simp only [hb6, hkhb6, hx7, hkx7, hb9, hkhb9, hb10, hb11, hb12, hb13, hb14, hb15, hb16, hkhb16, hle32, go_sem, Nat.reduceAdd, Nat.reduceEqDiff, Nat.reduceLeDiff, Nat.reduceSub, reduceCtorEq, ↓reduceIte, Nat.reduceBEq, Int.reduceLT, Int.reduceLE, Int.reduceEq, Int.reduceBEq, Int.reduceBNe, Nat.reduceLT, Nat.reduceMul, Int.reduceToNat]
                      refine join_lk Try.prog G _ _ (B := Unit) (fun b => k35 = some r) (fun b => [(1, .one (.p (.q 0 0 0))), (8, .one (.d (.l 6 (p0.Locks.map Lock.enc)))), (9, .one (.d (.i .i64 ((p0.Locks.length : Nat) : Int)))), (10, .one (.d (.i .i64 ((a4_1 : Nat) : Int)))), (21, .one (.p (.q 1 0 2))), (22, .one (.d (.i .i64 x7.Key))), (23, .one (.d (.b false))), (26, .one (.p (.q 1 0 2))), (27, .one (.d (.i .i64 x7.Key))), (28, .one (.d (.b false))), (31, .one (.p (.q 1 0 4))), (32, .one (.d (.i .i64 x7.Value))), (33, .one (.d (.b false))), (36, .one (.p (.q 1 0 4))), (37, .one (.d (.i .i64 x7.Value))), (38, .one (.d (.b false))), (41, .one (.p (.q 1 0 5))), (42, .one (.d (.i .i64 x7.Ask))), (43, .one (.d (.b false))), (46, .one (.p (.q 1 0 5))), (47, .one (.d (.i .i64 x7.Ask))), (48, .one (.d (.b false))), (51, .one (.p (.q 1 0 3))), (52, .one (.d (.b true))), (53, .one (.d (.b false))), (54, .one (.d (.b false))), (61, .one (.d (.b false)))]) (fun b => [some (.box [.d (.l 3 (p0.Items.map Item.enc)), .d (.l 6 (p0.Locks.map Lock.enc)), .d (.l 3 (p0.Doubts.map Doubt.enc)), .d (.l 2 (p0.Over.map Txn.enc))]), some (.box [.d (.i .i64 x7.Txn.Site), .d (.i .i64 x7.Txn.N), .d (.i .i64 x7.Key), .d (.b true), .d (.i .i64 x7.Value), .d (.i .i64 x7.Ask)])]) ?_ (fun b h => ?_)
                      · try simp only [hb6, hkhb6, hx7, hkx7, hb9, hkhb9, hb10, hb11, hb12, hb13, hb14, hb15, hb16, hkhb16, hle32, go_sem, Nat.reduceAdd, Nat.reduceEqDiff, Nat.reduceLeDiff, Nat.reduceSub, reduceCtorEq, ↓reduceIte, Nat.reduceBEq, Int.reduceLT, Int.reduceLE, Int.reduceEq, Int.reduceBEq, Int.reduceBNe, Nat.reduceLT, Nat.reduceMul, Int.reduceToNat]
                        refine loop_lk Try.prog G _ _ (A := Nat) (fun n a => store_locks_L3 p0 a4_1 x7 k35 n a = some r) (fun a => [(1, .one (.p (.q 0 0 0))), (4, .one (.p (.q 1 0 0))), (8, .one (.d (.l 6 (p0.Locks.map Lock.enc)))), (9, .one (.d (.i .i64 ((p0.Locks.length : Nat) : Int)))), (10, .one (.d (.i .i64 ((a4_1 : Nat) : Int)))), (21, .one (.p (.q 1 0 2))), (22, .one (.d (.i .i64 x7.Key))), (23, .one (.d (.b false))), (26, .one (.p (.q 1 0 2))), (27, .one (.d (.i .i64 x7.Key))), (28, .one (.d (.b false))), (31, .one (.p (.q 1 0 4))), (32, .one (.d (.i .i64 x7.Value))), (33, .one (.d (.b false))), (36, .one (.p (.q 1 0 4))), (37, .one (.d (.i .i64 x7.Value))), (38, .one (.d (.b false))), (41, .one (.p (.q 1 0 5))), (42, .one (.d (.i .i64 x7.Ask))), (43, .one (.d (.b false))), (46, .one (.p (.q 1 0 5))), (47, .one (.d (.i .i64 x7.Ask))), (48, .one (.d (.b false))), (51, .one (.p (.q 1 0 3))), (52, .one (.d (.b true))), (53, .one (.d (.b false))), (54, .one (.d (.b false))), (61, .one (.d (.b false))), (66, .one (.d (.l 6 ((p0.Locks.take a4_1).map Lock.enc)))), (67, .one (.d (.i .i64 ((min a4_1 p0.Locks.length : Nat) : Int)))), (68, .one (.d (.i .i64 ((a : Nat) : Int))))]) (fun a => [some (.box [.d (.l 3 (p0.Items.map Item.enc)), .d (.l 6 (p0.Locks.map Lock.enc)), .d (.l 3 (p0.Doubts.map Doubt.enc)), .d (.l 2 (p0.Over.map Txn.enc))]), some (.box [.d (.i .i64 x7.Txn.Site), .d (.i .i64 x7.Txn.N), .d (.i .i64 x7.Key), .d (.b true), .d (.i .i64 x7.Value), .d (.i .i64 x7.Ask)])]) (min a4_1 p0.Locks.length + 1) (0) h (wk_c _ _ _ [some 0, some 1] rfl (by simp only [hb6, hkhb6, hx7, hkx7, hb9, hkhb9, hb10, hb11, hb12, hb13, hb14, hb15, hb16, hkhb16, hle32, go_sem, Nat.reduceAdd, Nat.reduceEqDiff, Nat.reduceLeDiff, Nat.reduceSub, reduceCtorEq, ↓reduceIte, Nat.reduceBEq, Int.reduceLT, Int.reduceLE, Int.reduceEq, Int.reduceBEq, Int.reduceBNe, Nat.reduceLT, Nat.reduceMul, Int.reduceToNat, slotsWk, objsWk, objWk, optVOWk, SV.wk, SC.wk, cellsWk, VO.wk, Ptr.wk, ptrsWk, SC.isNl, List.map_append, List.map_cons, List.map_nil, Option.some.injEq, Prod.mk.injEq, SC.d.injEq, D.l.injEq, List.map_set])) (fun a h => by simp only [store_locks_L3, reduceCtorEq] at h) ?_
                        intro n37 a36_1 h
                        try dsimp only at h
                        rw [store_locks_L3] at h
                        rcases of_if h with ⟨hb38, h⟩ | ⟨hb38, h⟩
                        · obtain ⟨x39, hx39, h⟩ := Option.bind_eq_some_iff.1 h
                          have hkx39 := (List.getElem?_eq_some_iff.1 hx39).1
                          try simp only [List.length_take, List.length_drop, List.length_append, List.length_set, List.length_map, List.length_cons, List.length_nil, Nat.zero_add] at hkx39
                          rcases of_if h with ⟨hb40, h⟩ | ⟨hb40, h⟩
                          · rcases of_if h with ⟨hb41, h⟩ | ⟨hb41, h⟩
                            · try simp only [hkhb6, hx7, hkx7, hkhb9, hkhb16, hle32, hb38, hx39, hkx39, hb40, hb41, go_sem, Nat.reduceAdd, Nat.reduceEqDiff, Nat.reduceLeDiff, Nat.reduceSub, reduceCtorEq, ↓reduceIte, Nat.reduceBEq, Int.reduceLT, Int.reduceLE, Int.reduceEq, Int.reduceBEq, Int.reduceBNe, Nat.reduceLT, Nat.reduceMul, Int.reduceToNat]
                              simp only [Option.some.injEq] at h
                              subst h
                              try simp only [hkhb6, hx7, hkx7, hkhb9, hkhb16, hle32, hb38, hx39, hkx39, hb40, hb41, go_sem, Nat.reduceAdd, Nat.reduceEqDiff, Nat.reduceLeDiff, Nat.reduceSub, reduceCtorEq, ↓reduceIte, Nat.reduceBEq, Int.reduceLT, Int.reduceLE, Int.reduceEq, Int.reduceBEq, Int.reduceBNe, Nat.reduceLT, Nat.reduceMul, Int.reduceToNat, List.map_append, List.map_cons, List.map_nil, List.map_set]
                            · try simp only [hkhb6, hx7, hkx7, hkhb9, hkhb16, hle32, hb38, hx39, hkx39, hb40, hb41, go_sem, Nat.reduceAdd, Nat.reduceEqDiff, Nat.reduceLeDiff, Nat.reduceSub, reduceCtorEq, ↓reduceIte, Nat.reduceBEq, Int.reduceLT, Int.reduceLE, Int.reduceEq, Int.reduceBEq, Int.reduceBNe, Nat.reduceLT, Nat.reduceMul, Int.reduceToNat]
                              rcases of_if h with ⟨hb42, h⟩ | ⟨hb42, h⟩
                              · simp only [Option.some.injEq] at h
                                subst h
                                try simp only [hkhb6, hx7, hkx7, hkhb9, hkhb16, hle32, hb38, hx39, hkx39, hb40, hb41, hb42, go_sem, Nat.reduceAdd, Nat.reduceEqDiff, Nat.reduceLeDiff, Nat.reduceSub, reduceCtorEq, ↓reduceIte, Nat.reduceBEq, Int.reduceLT, Int.reduceLE, Int.reduceEq, Int.reduceBEq, Int.reduceBNe, Nat.reduceLT, Nat.reduceMul, Int.reduceToNat, List.map_append, List.map_cons, List.map_nil, List.map_set]
                              · simp only [Option.some.injEq] at h
                                subst h
                                try simp only [hkhb6, hx7, hkx7, hkhb9, hkhb16, hle32, hb38, hx39, hkx39, hb40, hb41, hb42, go_sem, Nat.reduceAdd, Nat.reduceEqDiff, Nat.reduceLeDiff, Nat.reduceSub, reduceCtorEq, ↓reduceIte, Nat.reduceBEq, Int.reduceLT, Int.reduceLE, Int.reduceEq, Int.reduceBEq, Int.reduceBNe, Nat.reduceLT, Nat.reduceMul, Int.reduceToNat, List.map_append, List.map_cons, List.map_nil, List.map_set]
                          · have hw43 := wrap_succ_max hkx39 hl33
                            try simp only [hkhb6, hx7, hkx7, hkhb9, hkhb16, hle32, hb38, hx39, hkx39, hb40, hw43, go_sem, Nat.reduceAdd, Nat.reduceEqDiff, Nat.reduceLeDiff, Nat.reduceSub, reduceCtorEq, ↓reduceIte, Nat.reduceBEq, Int.reduceLT, Int.reduceLE, Int.reduceEq, Int.reduceBEq, Int.reduceBNe, Nat.reduceLT, Nat.reduceMul, Int.reduceToNat]
                            exact loopQ_c (a36_1 + 1) h [some 0, some 1] rfl (by simp only [hkhb6, hx7, hkx7, hkhb9, hkhb16, hle32, hb38, hx39, hkx39, hb40, hw43, go_sem, Nat.reduceAdd, Nat.reduceEqDiff, Nat.reduceLeDiff, Nat.reduceSub, reduceCtorEq, ↓reduceIte, Nat.reduceBEq, Int.reduceLT, Int.reduceLE, Int.reduceEq, Int.reduceBEq, Int.reduceBNe, Nat.reduceLT, Nat.reduceMul, Int.reduceToNat, slotsWk, objsWk, objWk, optVOWk, SV.wk, SC.wk, cellsWk, VO.wk, Ptr.wk, ptrsWk, SC.isNl, List.map_append, List.map_cons, List.map_nil, Option.some.injEq, Prod.mk.injEq, SC.d.injEq, D.l.injEq, List.map_set])
                        · try simp only [hkhb6, hx7, hkx7, hkhb9, hkhb16, hle32, hb38, go_sem, Nat.reduceAdd, Nat.reduceEqDiff, Nat.reduceLeDiff, Nat.reduceSub, reduceCtorEq, ↓reduceIte, Nat.reduceBEq, Int.reduceLT, Int.reduceLE, Int.reduceEq, Int.reduceBEq, Int.reduceBNe, Nat.reduceLT, Nat.reduceMul, Int.reduceToNat]
                          exact joinQ_c () h [some 0, some 1] rfl (by simp only [hkhb6, hx7, hkx7, hkhb9, hkhb16, hle32, hb38, go_sem, Nat.reduceAdd, Nat.reduceEqDiff, Nat.reduceLeDiff, Nat.reduceSub, reduceCtorEq, ↓reduceIte, Nat.reduceBEq, Int.reduceLT, Int.reduceLE, Int.reduceEq, Int.reduceBEq, Int.reduceBNe, Nat.reduceLT, Nat.reduceMul, Int.reduceToNat, slotsWk, objsWk, objWk, optVOWk, SV.wk, SC.wk, cellsWk, VO.wk, Ptr.wk, ptrsWk, SC.isNl, List.map_append, List.map_cons, List.map_nil, Option.some.injEq, Prod.mk.injEq, SC.d.injEq, D.l.injEq, List.map_set])
                      · try dsimp only at h
                        rw [hk35] at h
                        have hw44 := wrap_succ_max hkx7 hl1
                        try simp only [hkhb6, hx7, hkx7, hkhb9, hkhb16, hle32, hw44, go_sem, Nat.reduceAdd, Nat.reduceEqDiff, Nat.reduceLeDiff, Nat.reduceSub, reduceCtorEq, ↓reduceIte, Nat.reduceBEq, Int.reduceLT, Int.reduceLE, Int.reduceEq, Int.reduceBEq, Int.reduceBNe, Nat.reduceLT, Nat.reduceMul, Int.reduceToNat]
                        exact loopQ_c (a4_1 + 1) h [some 0] rfl (by simp only [hkhb6, hx7, hkx7, hkhb9, hkhb16, hle32, hw44, go_sem, Nat.reduceAdd, Nat.reduceEqDiff, Nat.reduceLeDiff, Nat.reduceSub, reduceCtorEq, ↓reduceIte, Nat.reduceBEq, Int.reduceLT, Int.reduceLE, Int.reduceEq, Int.reduceBEq, Int.reduceBNe, Nat.reduceLT, Nat.reduceMul, Int.reduceToNat, slotsWk, objsWk, objWk, optVOWk, SV.wk, SC.wk, cellsWk, VO.wk, Ptr.wk, ptrsWk, SC.isNl, List.map_append, List.map_cons, List.map_nil, Option.some.injEq, Prod.mk.injEq, SC.d.injEq, D.l.injEq, List.map_set])
    · try simp only [hb6, go_sem, Nat.reduceAdd, Nat.reduceEqDiff, Nat.reduceLeDiff, Nat.reduceSub, reduceCtorEq, ↓reduceIte, Nat.reduceBEq, Int.reduceLT, Int.reduceLE, Int.reduceEq, Int.reduceBEq, Int.reduceBNe, Nat.reduceLT, Nat.reduceMul, Int.reduceToNat]
      exact joinQ_c () h [some 0] rfl (by simp only [hb6, go_sem, Nat.reduceAdd, Nat.reduceEqDiff, Nat.reduceLeDiff, Nat.reduceSub, reduceCtorEq, ↓reduceIte, Nat.reduceBEq, Int.reduceLT, Int.reduceLE, Int.reduceEq, Int.reduceBEq, Int.reduceBNe, Nat.reduceLT, Nat.reduceMul, Int.reduceToNat, slotsWk, objsWk, objWk, optVOWk, SV.wk, SC.wk, cellsWk, VO.wk, Ptr.wk, ptrsWk, SC.isNl, List.map_append, List.map_cons, List.map_nil, Option.some.injEq, Prod.mk.injEq, SC.d.injEq, D.l.injEq, List.map_set])
  · try dsimp only at h
    rw [hk3] at h
    try simp only [go_sem, Nat.reduceAdd, Nat.reduceEqDiff, Nat.reduceLeDiff, Nat.reduceSub, reduceCtorEq, ↓reduceIte, Nat.reduceBEq, Int.reduceLT, Int.reduceLE, Int.reduceEq, Int.reduceBEq, Int.reduceBNe, Nat.reduceLT, Nat.reduceMul, Int.reduceToNat]
    intro hl45
    simp only [Option.some.injEq] at h
    subst h
    try simp only [go_sem, Nat.reduceAdd, Nat.reduceEqDiff, Nat.reduceLeDiff, Nat.reduceSub, reduceCtorEq, ↓reduceIte, Nat.reduceBEq, Int.reduceLT, Int.reduceLE, Int.reduceEq, Int.reduceBEq, Int.reduceBNe, Nat.reduceLT, Nat.reduceMul, Int.reduceToNat, List.map_append, List.map_cons, List.map_nil, List.map_set]
def store_Check (p0 : Store) : Option (Int) := (Option.bind (store_items p0.Items) fun v1 => (if (!v1) = true then (some 9) else (Option.bind (store_doubts p0) fun v3 => (if (!v3) = true then (some 9) else (Option.bind (store_locks p0) fun v5 => (if (!v5) = true then (some 9) else (some 0)))))))
def F42 : VFn := ⟨17, (.seq (.reg [⟨(some 1), .box 4 (.t 0), none⟩, ⟨(some 2), .mv (.c (.one (.d (.i .i64 0)))), none⟩]) (.seq (.seq (.reg [⟨(some 3), .fa 0 (.t 1), none⟩, ⟨(some 4), .ld false 1 (.t 3), none⟩, ⟨(some 5), .call 62 [(.t 4)], none⟩, ⟨(some 6), .un .not (.t 5), none⟩, ⟨(some 7), .mv (.t 6), none⟩, ⟨(some 8), .ld true 4 (.t 1), (some (7, false))⟩, ⟨(some 9), .call 63 [(.t 8)], (some (7, false))⟩, ⟨(some 10), .un .not (.t 9), (some (7, false))⟩, ⟨(some 11), .pick (.t 7) (.c (.one (.d (.b true)))) (.t 10), none⟩, ⟨(some 12), .mv (.t 11), none⟩, ⟨(some 13), .ld true 4 (.t 1), (some (12, false))⟩, ⟨(some 14), .call 64 [(.t 13)], (some (12, false))⟩, ⟨(some 15), .un .not (.t 14), (some (12, false))⟩, ⟨(some 16), .pick (.t 12) (.c (.one (.d (.b true)))) (.t 15), none⟩]) (.cond (.t 16) (.seq (.reg [⟨(some 2), .mv (.c (.one (.d (.i .i64 9)))), none⟩]) .ret) .skip)) (.seq (.reg [⟨(some 2), .mv (.c (.one (.d (.i .i64 0)))), none⟩]) .ret))), [.t 2]⟩
theorem low42 : lowF Try.prog 42 = some F42.strip := by kernel_rfl
theorem fok42 : fOk Try.prog 42 = true := by kernel_rfl
theorem store_Check_ok (G : Nat → Option (List D)) (p0 : Store) (r : Int) (h : store_Check p0 = some r) : FnRO Try.prog G 42 [.agg [.d (.l 3 (p0.Items.map Item.enc)), .d (.l 6 (p0.Locks.map Lock.enc)), .d (.l 3 (p0.Doubts.map Doubt.enc)), .d (.l 2 (p0.Over.map Txn.enc))]] (fun rs => rs = [.one (.i .i64 r)]) := by
  refine FnRO.of' low42 fok42 (by simp [F42]) ?_
  rw [store_Check] at h
  simp only [F42, go_sem, Nat.reduceAdd, Nat.reduceEqDiff, Nat.reduceLeDiff, Nat.reduceSub, reduceCtorEq, ↓reduceIte, Nat.reduceBEq, Int.reduceLT, Int.reduceLE, Int.reduceEq, Int.reduceBEq, Int.reduceBNe, Nat.reduceLT, Nat.reduceMul, Int.reduceToNat]
  obtain ⟨v1, hv1, h⟩ := Option.bind_eq_some_iff.1 h
  try simp only [go_sem, Nat.reduceAdd, Nat.reduceEqDiff, Nat.reduceLeDiff, Nat.reduceSub, reduceCtorEq, ↓reduceIte, Nat.reduceBEq, Int.reduceLT, Int.reduceLE, Int.reduceEq, Int.reduceBEq, Int.reduceBNe, Nat.reduceLT, Nat.reduceMul, Int.reduceToNat]
  refine CallV.ro false (store_items_ok G p0.Items v1 hv1) rfl ?_
  rintro rs rfl
  refine ⟨.inl rfl, ?_⟩
  rcases of_if h with ⟨hb2, h⟩ | ⟨hb2, h⟩
  · have hkhb2 := not_eq_t hb2
    simp only [Option.some.injEq] at h
    subst h
    try simp only [hb2, hkhb2, go_sem, Nat.reduceAdd, Nat.reduceEqDiff, Nat.reduceLeDiff, Nat.reduceSub, reduceCtorEq, ↓reduceIte, Nat.reduceBEq, Int.reduceLT, Int.reduceLE, Int.reduceEq, Int.reduceBEq, Int.reduceBNe, Nat.reduceLT, Nat.reduceMul, Int.reduceToNat, List.map_append, List.map_cons, List.map_nil, List.map_set]
  · have hkhb2 := not_eq_f hb2
    obtain ⟨v3, hv3, h⟩ := Option.bind_eq_some_iff.1 h
    try simp only [hb2, hkhb2, go_sem, Nat.reduceAdd, Nat.reduceEqDiff, Nat.reduceLeDiff, Nat.reduceSub, reduceCtorEq, ↓reduceIte, Nat.reduceBEq, Int.reduceLT, Int.reduceLE, Int.reduceEq, Int.reduceBEq, Int.reduceBNe, Nat.reduceLT, Nat.reduceMul, Int.reduceToNat]
    refine CallV.ro false (store_doubts_ok G p0 v3 hv3) rfl ?_
    rintro rs rfl
    refine ⟨.inl rfl, ?_⟩
    rcases of_if h with ⟨hb4, h⟩ | ⟨hb4, h⟩
    · have hkhb4 := not_eq_t hb4
      simp only [Option.some.injEq] at h
      subst h
      try simp only [hb2, hkhb2, hb4, hkhb4, go_sem, Nat.reduceAdd, Nat.reduceEqDiff, Nat.reduceLeDiff, Nat.reduceSub, reduceCtorEq, ↓reduceIte, Nat.reduceBEq, Int.reduceLT, Int.reduceLE, Int.reduceEq, Int.reduceBEq, Int.reduceBNe, Nat.reduceLT, Nat.reduceMul, Int.reduceToNat, List.map_append, List.map_cons, List.map_nil, List.map_set]
    · have hkhb4 := not_eq_f hb4
      obtain ⟨v5, hv5, h⟩ := Option.bind_eq_some_iff.1 h
      try simp only [hb2, hkhb2, hb4, hkhb4, go_sem, Nat.reduceAdd, Nat.reduceEqDiff, Nat.reduceLeDiff, Nat.reduceSub, reduceCtorEq, ↓reduceIte, Nat.reduceBEq, Int.reduceLT, Int.reduceLE, Int.reduceEq, Int.reduceBEq, Int.reduceBNe, Nat.reduceLT, Nat.reduceMul, Int.reduceToNat]
      refine CallV.ro false (store_locks_ok G p0 v5 hv5) rfl ?_
      rintro rs rfl
      refine ⟨.inl rfl, ?_⟩
      rcases of_if h with ⟨hb6, h⟩ | ⟨hb6, h⟩
      · have hkhb6 := not_eq_t hb6
        simp only [Option.some.injEq] at h
        subst h
        try simp only [hb2, hkhb2, hb4, hkhb4, hb6, hkhb6, go_sem, Nat.reduceAdd, Nat.reduceEqDiff, Nat.reduceLeDiff, Nat.reduceSub, reduceCtorEq, ↓reduceIte, Nat.reduceBEq, Int.reduceLT, Int.reduceLE, Int.reduceEq, Int.reduceBEq, Int.reduceBNe, Nat.reduceLT, Nat.reduceMul, Int.reduceToNat, List.map_append, List.map_cons, List.map_nil, List.map_set]
      · have hkhb6 := not_eq_f hb6
        simp only [Option.some.injEq] at h
        subst h
        try simp only [hb2, hkhb2, hb4, hkhb4, hb6, hkhb6, go_sem, Nat.reduceAdd, Nat.reduceEqDiff, Nat.reduceLeDiff, Nat.reduceSub, reduceCtorEq, ↓reduceIte, Nat.reduceBEq, Int.reduceLT, Int.reduceLE, Int.reduceEq, Int.reduceBEq, Int.reduceBNe, Nat.reduceLT, Nat.reduceMul, Int.reduceToNat, List.map_append, List.map_cons, List.map_nil, List.map_set]
def store_call (p0 : Store) (p1 : Txn) (p2 : Int) : Option (Int) := (Option.bind (store_Check p0) fun v1 => (if (v1 != 0) = true then (some v1) else (Option.bind (store_txn p1) fun v3 => (if (!v3) = true then (some 2) else (if (decide (p2 < 0)) = true then (some 2) else (if (decide (p2 ≥ 8)) = true then (some 2) else (some 0)))))))
def F20 : VFn := ⟨24, (.seq (.reg [⟨(some 3), .box 4 (.t 0), none⟩, ⟨(some 4), .box 2 (.t 1), none⟩, ⟨(some 6), .mv (.c (.one (.d (.i .i64 0)))), none⟩]) (.seq (.seq (.reg [⟨(some 8), .ld true 4 (.t 3), none⟩, ⟨(some 9), .call 42 [(.t 8)], none⟩, ⟨(some 7), .mv (.t 9), none⟩]) (.seq (.reg [⟨(some 10), .mv (.t 7), none⟩, ⟨(some 11), .bin .i .neq (.t 10) (.c (.one (.d (.i .i64 0)))), none⟩]) (.cond (.t 11) (.seq (.reg [⟨(some 12), .mv (.t 7), none⟩, ⟨(some 6), .mv (.t 12), none⟩]) .ret) .skip))) (.seq (.seq (.reg [⟨(some 13), .ld true 2 (.t 4), none⟩, ⟨(some 14), .call 43 [(.t 13)], none⟩, ⟨(some 15), .un .not (.t 14), none⟩, ⟨(some 16), .mv (.t 15), none⟩, ⟨(some 17), .mv (.t 2), (some (16, false))⟩, ⟨(some 18), .bin .i .lss (.t 17) (.c (.one (.d (.i .i64 0)))), (some (16, false))⟩, ⟨(some 19), .pick (.t 16) (.c (.one (.d (.b true)))) (.t 18), none⟩, ⟨(some 20), .mv (.t 19), none⟩, ⟨(some 21), .mv (.t 2), (some (20, false))⟩, ⟨(some 22), .bin .i .geq (.t 21) (.c (.one (.d (.i .i64 8)))), (some (20, false))⟩, ⟨(some 23), .pick (.t 20) (.c (.one (.d (.b true)))) (.t 22), none⟩]) (.cond (.t 23) (.seq (.reg [⟨(some 6), .mv (.c (.one (.d (.i .i64 2)))), none⟩]) .ret) .skip)) (.seq (.reg [⟨(some 6), .mv (.c (.one (.d (.i .i64 0)))), none⟩]) .ret)))), [.t 6]⟩
theorem low20 : lowF Try.prog 20 = some F20.strip := by kernel_rfl
theorem fok20 : fOk Try.prog 20 = true := by kernel_rfl
theorem store_call_ok (G : Nat → Option (List D)) (p0 : Store) (p1 : Txn) (p2 : Int) (r : Int) (h : store_call p0 p1 p2 = some r) : FnRO Try.prog G 20 [.agg [.d (.l 3 (p0.Items.map Item.enc)), .d (.l 6 (p0.Locks.map Lock.enc)), .d (.l 3 (p0.Doubts.map Doubt.enc)), .d (.l 2 (p0.Over.map Txn.enc))], .agg [.d (.i .i64 p1.Site), .d (.i .i64 p1.N)], .one (.d (.i .i64 p2))] (fun rs => rs = [.one (.i .i64 r)]) := by
  refine FnRO.of' low20 fok20 (by simp [F20]) ?_
  rw [store_call] at h
  simp only [F20, go_sem, Nat.reduceAdd, Nat.reduceEqDiff, Nat.reduceLeDiff, Nat.reduceSub, reduceCtorEq, ↓reduceIte, Nat.reduceBEq, Int.reduceLT, Int.reduceLE, Int.reduceEq, Int.reduceBEq, Int.reduceBNe, Nat.reduceLT, Nat.reduceMul, Int.reduceToNat]
  obtain ⟨v1, hv1, h⟩ := Option.bind_eq_some_iff.1 h
  try simp only [go_sem, Nat.reduceAdd, Nat.reduceEqDiff, Nat.reduceLeDiff, Nat.reduceSub, reduceCtorEq, ↓reduceIte, Nat.reduceBEq, Int.reduceLT, Int.reduceLE, Int.reduceEq, Int.reduceBEq, Int.reduceBNe, Nat.reduceLT, Nat.reduceMul, Int.reduceToNat]
  refine CallV.ro false (store_Check_ok G p0 v1 hv1) rfl ?_
  rintro rs rfl
  refine ⟨.inl rfl, ?_⟩
  rcases of_if h with ⟨hb2, h⟩ | ⟨hb2, h⟩
  · simp only [Option.some.injEq] at h
    subst h
    try simp only [hb2, go_sem, Nat.reduceAdd, Nat.reduceEqDiff, Nat.reduceLeDiff, Nat.reduceSub, reduceCtorEq, ↓reduceIte, Nat.reduceBEq, Int.reduceLT, Int.reduceLE, Int.reduceEq, Int.reduceBEq, Int.reduceBNe, Nat.reduceLT, Nat.reduceMul, Int.reduceToNat, List.map_append, List.map_cons, List.map_nil, List.map_set]
  · obtain ⟨v3, hv3, h⟩ := Option.bind_eq_some_iff.1 h
    try simp only [hb2, go_sem, Nat.reduceAdd, Nat.reduceEqDiff, Nat.reduceLeDiff, Nat.reduceSub, reduceCtorEq, ↓reduceIte, Nat.reduceBEq, Int.reduceLT, Int.reduceLE, Int.reduceEq, Int.reduceBEq, Int.reduceBNe, Nat.reduceLT, Nat.reduceMul, Int.reduceToNat]
    refine CallV.ro false (store_txn_ok G p1 v3 hv3) rfl ?_
    rintro rs rfl
    refine ⟨.inl rfl, ?_⟩
    rcases of_if h with ⟨hb4, h⟩ | ⟨hb4, h⟩
    · have hkhb4 := not_eq_t hb4
      simp only [Option.some.injEq] at h
      subst h
      try simp only [hb2, hb4, hkhb4, go_sem, Nat.reduceAdd, Nat.reduceEqDiff, Nat.reduceLeDiff, Nat.reduceSub, reduceCtorEq, ↓reduceIte, Nat.reduceBEq, Int.reduceLT, Int.reduceLE, Int.reduceEq, Int.reduceBEq, Int.reduceBNe, Nat.reduceLT, Nat.reduceMul, Int.reduceToNat, List.map_append, List.map_cons, List.map_nil, List.map_set]
    · have hkhb4 := not_eq_f hb4
      rcases of_if h with ⟨hb5, h⟩ | ⟨hb5, h⟩
      · have hkhb5 := of_decide_eq_true hb5
        simp only [Option.some.injEq] at h
        subst h
        try simp only [hb2, hb4, hkhb4, hb5, hkhb5, go_sem, Nat.reduceAdd, Nat.reduceEqDiff, Nat.reduceLeDiff, Nat.reduceSub, reduceCtorEq, ↓reduceIte, Nat.reduceBEq, Int.reduceLT, Int.reduceLE, Int.reduceEq, Int.reduceBEq, Int.reduceBNe, Nat.reduceLT, Nat.reduceMul, Int.reduceToNat, List.map_append, List.map_cons, List.map_nil, List.map_set]
      · rcases of_if h with ⟨hb6, h⟩ | ⟨hb6, h⟩
        · simp only [Option.some.injEq] at h
          subst h
          try simp only [hb2, hb4, hkhb4, hb5, hb6, go_sem, Nat.reduceAdd, Nat.reduceEqDiff, Nat.reduceLeDiff, Nat.reduceSub, reduceCtorEq, ↓reduceIte, Nat.reduceBEq, Int.reduceLT, Int.reduceLE, Int.reduceEq, Int.reduceBEq, Int.reduceBNe, Nat.reduceLT, Nat.reduceMul, Int.reduceToNat, List.map_append, List.map_cons, List.map_nil, List.map_set]
        · simp only [Option.some.injEq] at h
          subst h
          try simp only [hb2, hb4, hkhb4, hb5, hb6, go_sem, Nat.reduceAdd, Nat.reduceEqDiff, Nat.reduceLeDiff, Nat.reduceSub, reduceCtorEq, ↓reduceIte, Nat.reduceBEq, Int.reduceLT, Int.reduceLE, Int.reduceEq, Int.reduceBEq, Int.reduceBNe, Nat.reduceLT, Nat.reduceMul, Int.reduceToNat, List.map_append, List.map_cons, List.map_nil, List.map_set]
theorem low50 : lowF Try.prog 50 = some (cloneV 3 24 [(.d (.i .i64 0)), (.d (.i .i64 0)), (.d (.i .i64 0))]) := by kernel_rfl
theorem fok50 : fOk Try.prog 50 = true := by kernel_rfl
theorem clone50_ok (G : Nat → Option (List D)) (p0 r : List Item) (h : cloneF 24 p0 = some r) : FnRO Try.prog G 50 [.one (.d (.l 3 (p0.map Item.enc)))] (fun rs => rs = [.one (.o 3 (r.map Item.enc))]) := clone_ok low50 fok50 G Item.enc p0 r h
theorem low51 : lowF Try.prog 51 = some (cloneV 6 48 [(.d (.i .i64 0)), (.d (.i .i64 0)), (.d (.i .i64 0)), (.d (.b false)), (.d (.i .i64 0)), (.d (.i .i64 0))]) := by kernel_rfl
theorem fok51 : fOk Try.prog 51 = true := by kernel_rfl
theorem clone51_ok (G : Nat → Option (List D)) (p0 r : List Lock) (h : cloneF 48 p0 = some r) : FnRO Try.prog G 51 [.one (.d (.l 6 (p0.map Lock.enc)))] (fun rs => rs = [.one (.o 6 (r.map Lock.enc))]) := clone_ok low51 fok51 G Lock.enc p0 r h
theorem low52 : lowF Try.prog 52 = some (cloneV 3 24 [(.d (.i .i64 0)), (.d (.i .i64 0)), (.d (.i .i64 0))]) := by kernel_rfl
theorem fok52 : fOk Try.prog 52 = true := by kernel_rfl
theorem clone52_ok (G : Nat → Option (List D)) (p0 r : List Doubt) (h : cloneF 24 p0 = some r) : FnRO Try.prog G 52 [.one (.d (.l 3 (p0.map Doubt.enc)))] (fun rs => rs = [.one (.o 3 (r.map Doubt.enc))]) := clone_ok low52 fok52 G Doubt.enc p0 r h
theorem low53 : lowF Try.prog 53 = some (cloneV 2 16 [(.d (.i .i64 0)), (.d (.i .i64 0))]) := by kernel_rfl
theorem fok53 : fOk Try.prog 53 = true := by kernel_rfl
theorem clone53_ok (G : Nat → Option (List D)) (p0 r : List Txn) (h : cloneF 16 p0 = some r) : FnRO Try.prog G 53 [.one (.d (.l 2 (p0.map Txn.enc)))] (fun rs => rs = [.one (.o 2 (r.map Txn.enc))]) := clone_ok low53 fok53 G Txn.enc p0 r h
def store_own (p0 : Store) : Option (Store) := (Option.bind (cloneF 24 p0.Items) fun v1 => (Option.bind (cloneF 48 p0.Locks) fun v2 => (Option.bind (cloneF 24 p0.Doubts) fun v3 => (Option.bind (cloneF 16 p0.Over) fun v4 => (some (Store.mk v1 v2 v3 v4))))))
def F28 : VFn := ⟨16, (.seq (.reg [⟨(some 1), .box 4 (.t 0), none⟩, ⟨(some 2), .alloc [(.nl 3), (.nl 6), (.nl 3), (.nl 2)], none⟩]) (.seq (.draw [⟨⟨(some 3), .fa 0 (.t 1), none⟩, [], [], none, []⟩, ⟨⟨(some 4), .ld false 1 (.t 3), none⟩, [0], [], none, []⟩, ⟨⟨(some 5), .call 50 [(.t 4)], none⟩, [1, 0], [], none, []⟩, ⟨⟨(some 6), .fa 1 (.t 1), none⟩, [], [2], none, []⟩, ⟨⟨(some 7), .ld false 1 (.t 6), none⟩, [3], [2], none, []⟩, ⟨⟨(some 8), .call 51 [(.t 7)], none⟩, [4, 3, 2, 1, 0], [], none, []⟩, ⟨⟨(some 9), .fa 2 (.t 1), none⟩, [], [2, 5], none, []⟩, ⟨⟨(some 10), .ld false 1 (.t 9), none⟩, [6], [2, 5], none, []⟩, ⟨⟨(some 11), .call 52 [(.t 10)], none⟩, [7, 6, 5, 4, 3, 2, 1, 0], [], none, []⟩, ⟨⟨(some 12), .fa 3 (.t 1), none⟩, [], [2, 5, 8], none, []⟩, ⟨⟨(some 13), .ld false 1 (.t 12), none⟩, [9], [2, 5, 8], none, []⟩, ⟨⟨(some 14), .call 53 [(.t 13)], none⟩, [10, 9, 8, 7, 6, 5, 4, 3, 2, 1, 0], [], none, []⟩, ⟨⟨(some 15), .build [(.nl 3), (.nl 6), (.nl 3), (.nl 2)] [(0, 1, (.t 5)), (1, 1, (.t 8)), (2, 1, (.t 11)), (3, 1, (.t 14))], none⟩, [2, 1, 0, 5, 4, 3, 8, 7, 6, 11, 10, 9], [], none, []⟩, ⟨⟨none, .st 4 (.t 2) (.t 15), none⟩, [12, 2, 1, 0, 5, 4, 3, 8, 7, 6, 11, 10, 9], [], none, []⟩]) .ret)), [.cell 2 true 4]⟩
theorem low28 : lowF Try.prog 28 = some F28.strip := by kernel_rfl
theorem fok28 : fOk Try.prog 28 = true := by kernel_rfl
theorem store_own_ok (G : Nat → Option (List D)) (p0 : Store) (r : Store) (h : store_own p0 = some r) : FnRO Try.prog G 28 [.agg [.d (.l 3 (p0.Items.map Item.enc)), .d (.l 6 (p0.Locks.map Lock.enc)), .d (.l 3 (p0.Doubts.map Doubt.enc)), .d (.l 2 (p0.Over.map Txn.enc))]] (fun rs => rs = [.agg (r.encO)]) := by
  refine FnRO.of' low28 fok28 (by simp [F28]) ?_
  rw [store_own] at h
  simp only [F28, go_sem, Nat.reduceAdd, Nat.reduceEqDiff, Nat.reduceLeDiff, Nat.reduceSub, reduceCtorEq, ↓reduceIte, Nat.reduceBEq, Int.reduceLT, Int.reduceLE, Int.reduceEq, Int.reduceBEq, Int.reduceBNe, Nat.reduceLT, Nat.reduceMul, Int.reduceToNat]
  obtain ⟨v1, hv1, h⟩ := Option.bind_eq_some_iff.1 h
  try simp only [go_sem, Nat.reduceAdd, Nat.reduceEqDiff, Nat.reduceLeDiff, Nat.reduceSub, reduceCtorEq, ↓reduceIte, Nat.reduceBEq, Int.reduceLT, Int.reduceLE, Int.reduceEq, Int.reduceBEq, Int.reduceBNe, Nat.reduceLT, Nat.reduceMul, Int.reduceToNat]
  refine ⟨_, _, CallD.ro false (clone50_ok G p0.Items v1 hv1) rfl (.inl rfl) rfl, ?_⟩
  obtain ⟨v2, hv2, h⟩ := Option.bind_eq_some_iff.1 h
  try simp only [go_sem, Nat.reduceAdd, Nat.reduceEqDiff, Nat.reduceLeDiff, Nat.reduceSub, reduceCtorEq, ↓reduceIte, Nat.reduceBEq, Int.reduceLT, Int.reduceLE, Int.reduceEq, Int.reduceBEq, Int.reduceBNe, Nat.reduceLT, Nat.reduceMul, Int.reduceToNat]
  refine ⟨_, _, CallD.ro false (clone51_ok G p0.Locks v2 hv2) rfl (.inl rfl) rfl, ?_⟩
  obtain ⟨v3, hv3, h⟩ := Option.bind_eq_some_iff.1 h
  try simp only [go_sem, Nat.reduceAdd, Nat.reduceEqDiff, Nat.reduceLeDiff, Nat.reduceSub, reduceCtorEq, ↓reduceIte, Nat.reduceBEq, Int.reduceLT, Int.reduceLE, Int.reduceEq, Int.reduceBEq, Int.reduceBNe, Nat.reduceLT, Nat.reduceMul, Int.reduceToNat]
  refine ⟨_, _, CallD.ro false (clone52_ok G p0.Doubts v3 hv3) rfl (.inl rfl) rfl, ?_⟩
  obtain ⟨v4, hv4, h⟩ := Option.bind_eq_some_iff.1 h
  try simp only [go_sem, Nat.reduceAdd, Nat.reduceEqDiff, Nat.reduceLeDiff, Nat.reduceSub, reduceCtorEq, ↓reduceIte, Nat.reduceBEq, Int.reduceLT, Int.reduceLE, Int.reduceEq, Int.reduceBEq, Int.reduceBNe, Nat.reduceLT, Nat.reduceMul, Int.reduceToNat]
  refine ⟨_, _, CallD.ro false (clone53_ok G p0.Over v4 hv4) rfl (.inl rfl) rfl, ?_⟩
  simp only [Option.some.injEq] at h
  subst h
  try simp only [go_sem, Nat.reduceAdd, Nat.reduceEqDiff, Nat.reduceLeDiff, Nat.reduceSub, reduceCtorEq, ↓reduceIte, Nat.reduceBEq, Int.reduceLT, Int.reduceLE, Int.reduceEq, Int.reduceBEq, Int.reduceBNe, Nat.reduceLT, Nat.reduceMul, Int.reduceToNat, List.map_append, List.map_cons, List.map_nil, List.map_set]
end Go.V.Dec
