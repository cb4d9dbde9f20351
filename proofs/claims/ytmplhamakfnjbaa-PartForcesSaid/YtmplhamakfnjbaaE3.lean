/- What Go's functions come to, as plain functions: part 3; no condition. -/
import Derived.Test.YtmplhamakfnjbaaE2
set_option linter.unusedVariables false
set_option linter.unusedSimpArgs false
namespace Go.V.Dec
open Go Go.Proofs
set_option maxRecDepth 100000
set_option maxHeartbeats 4000000
def reredosref_StoreCopy_L1 (p0 : Store) (k2 : (List Item) → Option (Store)) : Nat → Nat → (List Item) → Option (Store)
 | 0, _, _ => none
 | n4 + 1, a3_1, a3_2 => (if (decide (a3_1 < p0.Items.length)) = true then (Option.bind (p0.Items[a3_1]?) fun x7 => (if fits 24 (a3_2.length + 1) then (reredosref_StoreCopy_L1 p0 k2 n4 (a3_1 + 1) (a3_2 ++ [x7])) else none)) else (k2 a3_2))
def reredosref_StoreCopy_L2 (p0 : Store) (k11 : (List Lock) → Option (Store)) : Nat → Nat → (List Lock) → Option (Store)
 | 0, _, _ => none
 | n13 + 1, a12_1, a12_2 => (if (decide (a12_1 < p0.Locks.length)) = true then (Option.bind (p0.Locks[a12_1]?) fun x16 => (if fits 48 (a12_2.length + 1) then (reredosref_StoreCopy_L2 p0 k11 n13 (a12_1 + 1) (a12_2 ++ [x16])) else none)) else (k11 a12_2))
def reredosref_StoreCopy_L3 (p0 : Store) (k20 : (List Doubt) → Option (Store)) : Nat → Nat → (List Doubt) → Option (Store)
 | 0, _, _ => none
 | n22 + 1, a21_1, a21_2 => (if (decide (a21_1 < p0.Doubts.length)) = true then (Option.bind (p0.Doubts[a21_1]?) fun x25 => (if fits 24 (a21_2.length + 1) then (reredosref_StoreCopy_L3 p0 k20 n22 (a21_1 + 1) (a21_2 ++ [x25])) else none)) else (k20 a21_2))
def reredosref_StoreCopy_L4 (p0 : Store) (k29 : (List Txn) → Option (Store)) : Nat → Nat → (List Txn) → Option (Store)
 | 0, _, _ => none
 | n31 + 1, a30_1, a30_2 => (if (decide (a30_1 < p0.Over.length)) = true then (Option.bind (p0.Over[a30_1]?) fun x34 => (if fits 16 (a30_2.length + 1) then (reredosref_StoreCopy_L4 p0 k29 n31 (a30_1 + 1) (a30_2 ++ [x34])) else none)) else (k29 a30_2))
def reredosref_StoreCopy (p0 : Store) : Option (Store) := (withK (fun (b1_1 : List Item) => (withK (fun (b10_1 : List Lock) => (withK (fun (b19_1 : List Doubt) => (withK (fun (b28_1 : List Txn) => (some (Store.mk b1_1 b10_1 b19_1 b28_1))) fun k29 => (reredosref_StoreCopy_L4 p0 k29 (p0.Over.length + 1) 0 []))) fun k20 => (reredosref_StoreCopy_L3 p0 k20 (p0.Doubts.length + 1) 0 []))) fun k11 => (reredosref_StoreCopy_L2 p0 k11 (p0.Locks.length + 1) 0 []))) fun k2 => (reredosref_StoreCopy_L1 p0 k2 (p0.Items.length + 1) 0 []))
def F36 : VFn := ⟨78, (.seq (.reg [vo 1 (.box 4 (.t 0)), vo 2 (.alloc [(.nl 3), (.nl 6), (.nl 3), (.nl 2)])]) (.seq (.reg [vo 8 (.build [(.nl 3), (.nl 6), (.nl 3), (.nl 2)] []), vo 3 (.alloc [(.nl 3), (.nl 6), (.nl 3), (.nl 2)]), vu (.st 4 (.t 3) (.t 8))]) (.seq (.seq (.reg [vo 4 (.mv (ci 0))]) (.wk (.block 0 (.loop (.seq (.seq (.reg [vm 9 4, vo 10 (.fa 0 (.t 1)), vo 11 (.ld false 1 (.t 10)), vo 12 (.len (.t 11)), vo 13 (.bin .i .lss (.t 9) (.t 12))]) (.cond (.t 13) .skip (.exit 0))) (.seq (.block 1 (.draw [vd (vo 16 (.fa 0 (.t 3))) [], vd (vo 17 (.ld false 1 (.t 16))) [0], vd (vo 18 (.fa 0 (.t 1))) [], vd (vo 19 (.ld false 1 (.t 18))) [2], vd (vm 20 4) [], vd (vo 21 (.ia 3 (.t 19) (.t 20))) [3, 2, 4], vd (vo 22 (.ld true 3 (.t 21))) [5, 3, 2, 4], vd (vo 23 (.bsl 3 1 [(zi 0), (zi 0), (zi 0)] [(0, (.t 22))])) [6, 5, 3, 2, 4], vd (vo 24 (.app 3 24 (.t 17) (.t 23))) [1, 0, 7, 6, 5, 3, 2, 4], vd (vo 25 (.fa 0 (.t 3))) [0, 1, 2, 3, 4, 5, 6, 7, 8], vd (vu (.st 1 (.t 25) (.t 24))) [9, 0, 1, 2, 3, 4, 5, 6, 7, 8]])) (.reg [vm 14 4, vo 15 (.bin .i .add (.t 14) (ci 1)), vm 4 15]))))))) (.seq (.seq (.reg [vo 5 (.mv (ci 0))]) (.wk (.block 2 (.loop (.seq (.seq (.reg [vm 26 5, vo 27 (.fa 1 (.t 1)), vo 28 (.ld false 1 (.t 27)), vo 29 (.len (.t 28)), vo 30 (.bin .i .lss (.t 26) (.t 29))]) (.cond (.t 30) .skip (.exit 2))) (.seq (.block 3 (.draw [vd (vo 33 (.fa 1 (.t 3))) [], vd (vo 34 (.ld false 1 (.t 33))) [0], vd (vo 35 (.fa 1 (.t 1))) [], vd (vo 36 (.ld false 1 (.t 35))) [2], vd (vm 37 5) [], vd (vo 38 (.ia 6 (.t 36) (.t 37))) [3, 2, 4], vd (vo 39 (.ld true 6 (.t 38))) [5, 3, 2, 4], vd (vo 40 (.bsl 6 1 [(zi 0), (zi 0), (zi 0), (.d (.b false)), (zi 0), (zi 0)] [(0, (.t 39))])) [6, 5, 3, 2, 4], vd (vo 41 (.app 6 48 (.t 34) (.t 40))) [1, 0, 7, 6, 5, 3, 2, 4], vd (vo 42 (.fa 1 (.t 3))) [0, 1, 2, 3, 4, 5, 6, 7, 8], vd (vu (.st 1 (.t 42) (.t 41))) [9, 0, 1, 2, 3, 4, 5, 6, 7, 8]])) (.reg [vm 31 5, vo 32 (.bin .i .add (.t 31) (ci 1)), vm 5 32]))))))) (.seq (.seq (.reg [vo 6 (.mv (ci 0))]) (.wk (.block 4 (.loop (.seq (.seq (.reg [vm 43 6, vo 44 (.fa 2 (.t 1)), vo 45 (.ld false 1 (.t 44)), vo 46 (.len (.t 45)), vo 47 (.bin .i .lss (.t 43) (.t 46))]) (.cond (.t 47) .skip (.exit 4))) (.seq (.block 5 (.draw [vd (vo 50 (.fa 2 (.t 3))) [], vd (vo 51 (.ld false 1 (.t 50))) [0], vd (vo 52 (.fa 2 (.t 1))) [], vd (vo 53 (.ld false 1 (.t 52))) [2], vd (vm 54 6) [], vd (vo 55 (.ia 3 (.t 53) (.t 54))) [3, 2, 4], vd (vo 56 (.ld true 3 (.t 55))) [5, 3, 2, 4], vd (vo 57 (.bsl 3 1 [(zi 0), (zi 0), (zi 0)] [(0, (.t 56))])) [6, 5, 3, 2, 4], vd (vo 58 (.app 3 24 (.t 51) (.t 57))) [1, 0, 7, 6, 5, 3, 2, 4], vd (vo 59 (.fa 2 (.t 3))) [0, 1, 2, 3, 4, 5, 6, 7, 8], vd (vu (.st 1 (.t 59) (.t 58))) [9, 0, 1, 2, 3, 4, 5, 6, 7, 8]])) (.reg [vm 48 6, vo 49 (.bin .i .add (.t 48) (ci 1)), vm 6 49]))))))) (.seq (.seq (.reg [vo 7 (.mv (ci 0))]) (.wk (.block 6 (.loop (.seq (.seq (.reg [vm 60 7, vo 61 (.fa 3 (.t 1)), vo 62 (.ld false 1 (.t 61)), vo 63 (.len (.t 62)), vo 64 (.bin .i .lss (.t 60) (.t 63))]) (.cond (.t 64) .skip (.exit 6))) (.seq (.block 7 (.draw [vd (vo 67 (.fa 3 (.t 3))) [], vd (vo 68 (.ld false 1 (.t 67))) [0], vd (vo 69 (.fa 3 (.t 1))) [], vd (vo 70 (.ld false 1 (.t 69))) [2], vd (vm 71 7) [], vd (vo 72 (.ia 2 (.t 70) (.t 71))) [3, 2, 4], vd (vo 73 (.ld true 2 (.t 72))) [5, 3, 2, 4], vd (vo 74 (.bsl 2 1 [(zi 0), (zi 0)] [(0, (.t 73))])) [6, 5, 3, 2, 4], vd (vo 75 (.app 2 16 (.t 68) (.t 74))) [1, 0, 7, 6, 5, 3, 2, 4], vd (vo 76 (.fa 3 (.t 3))) [0, 1, 2, 3, 4, 5, 6, 7, 8], vd (vu (.st 1 (.t 76) (.t 75))) [9, 0, 1, 2, 3, 4, 5, 6, 7, 8]])) (.reg [vm 65 7, vo 66 (.bin .i .add (.t 65) (ci 1)), vm 7 66]))))))) (.seq (.reg [vo 77 (.ld true 4 (.t 3)), vu (.st 4 (.t 2) (.t 77))]) .ret))))))), [.cell 2 true 4]⟩
theorem low36 : lowF Try.prog 36 = some F36.strip := by kernel_rfl
theorem fok36 : fOk Try.prog 36 = true := by kernel_rfl
theorem reredosref_StoreCopy_ok (G : Nat → Option (List D)) (p0 : Store) (r : Store) (h : reredosref_StoreCopy p0 = some r) : FnRO Try.prog G 36 [.agg [.d (.l 3 (p0.Items.map Item.enc)), .d (.l 6 (p0.Locks.map Lock.enc)), .d (.l 3 (p0.Doubts.map Doubt.enc)), .d (.l 2 (p0.Over.map Txn.enc))]] (fun rs => rs = [.agg (r.encO)]) := by
 refine FnRO.of' low36 fok36 (by simp [F36]) ?_
 rw [reredosref_StoreCopy] at h
 simp only [F36, go_sem]
 obtain ⟨k2, hk2, h⟩ := withK_lk1 h
 try simp only [go_sem]
 refine join_lk Try.prog G _ _ (B := (List Item)) (fun b => k2 b = some r) (fun b => [(1, .one (.p (.q 0 0 0))), (2, .one (.p (.q 1 0 0))), (3, .one (.p (.q 2 0 0)))]) (fun b => [some (.box p0.bx), some (.box [.nl 3, .nl 6, .nl 3, .nl 2]), some (.box [.r 3 0 b.length, .nl 6, .nl 3, .nl 2]), some (.arr 3 (b.map Item.enc) false)]) ?_ (fun b1_1 h => ?_)
 ·try simp only [go_sem]
  refine loop_lk Try.prog G _ _ (A := Nat × (List Item)) (fun n a => reredosref_StoreCopy_L1 p0 k2 n a.1 a.2 = some r) (fun a => [(1, .one (.p (.q 0 0 0))), (2, .one (.p (.q 1 0 0))), (3, .one (.p (.q 2 0 0))), (4, .one (.d (.i .i64 ((a.1 : Nat) : Int))))]) (fun a => [some (.box p0.bx), some (.box [.nl 3, .nl 6, .nl 3, .nl 2]), some (.box [.r 3 0 a.2.length, .nl 6, .nl 3, .nl 2]), some (.arr 3 (a.2.map Item.enc) false)]) (p0.Items.length + 1) (0, []) h (wk_c _ _ _ [some 0, some 1, some 2, none] rfl (by simp only [go_sem, List.map_append, List.map_cons, List.map_nil, Option.some.injEq, Prod.mk.injEq, SC.d.injEq, D.l.injEq, List.map_set])) (fun a h => by simp only [reredosref_StoreCopy_L1, reduceCtorEq] at h) ?_
  intro n4 a h
  obtain ⟨a3_1, a3_2⟩ := a
  try dsimp only at h
  rw [reredosref_StoreCopy_L1] at h
  try simp only [go_sem]
  intro hl5
  rcases of_if h with ⟨hb6, h⟩ | ⟨hb6, h⟩
  ·have hkhb6 := of_decide_eq_true hb6
   obtain ⟨x7, hx7, h⟩ := obi h
   have hkx7 := gtx hx7
   try simp only [List.length_take, List.length_drop, List.length_append, List.length_set, List.length_map, List.length_cons, List.length_nil, Nat.zero_add] at hkx7
   obtain ⟨hf8, h⟩ := of_chk h
   have hw9 := wrap_succ_max hkx7 hl5
   try simp only [hb6, hkhb6, hx7, hkx7, hf8, hw9, go_sem]
   exact loopQ_c (a3_1 + 1, (a3_2 ++ [x7])) h [some 0, some 1, some 2, some 12] rfl (by simp only [hb6, hkhb6, hx7, hkx7, hf8, hw9, go_sem, List.map_append, List.map_cons, List.map_nil, Option.some.injEq, Prod.mk.injEq, SC.d.injEq, D.l.injEq, List.map_set])
  ·try simp only [hb6, go_sem]
   exact joinQ_c (a3_2) h [some 0, some 1, some 2, some 3] rfl (by simp only [hb6, go_sem, List.map_append, List.map_cons, List.map_nil, Option.some.injEq, Prod.mk.injEq, SC.d.injEq, D.l.injEq, List.map_set])
 ·try dsimp only at h
  rw [hk2] at h
  obtain ⟨k11, hk11, h⟩ := withK_lk1 h
  try simp only [go_sem]
  refine join_lk Try.prog G _ _ (B := (List Lock)) (fun b => k11 b = some r) (fun b => [(1, .one (.p (.q 0 0 0))), (2, .one (.p (.q 1 0 0))), (3, .one (.p (.q 2 0 0)))]) (fun b => [some (.box p0.bx), some (.box [.nl 3, .nl 6, .nl 3, .nl 2]), some (.box [.r 3 0 b1_1.length, .r 4 0 b.length, .nl 3, .nl 2]), some (.arr 3 (b1_1.map Item.enc) false), some (.arr 6 (b.map Lock.enc) false)]) ?_ (fun b10_1 h => ?_)
  ·try simp only [go_sem]
   refine loop_lk Try.prog G _ _ (A := Nat × (List Lock)) (fun n a => reredosref_StoreCopy_L2 p0 k11 n a.1 a.2 = some r) (fun a => [(1, .one (.p (.q 0 0 0))), (2, .one (.p (.q 1 0 0))), (3, .one (.p (.q 2 0 0))), (5, .one (.d (.i .i64 ((a.1 : Nat) : Int))))]) (fun a => [some (.box p0.bx), some (.box [.nl 3, .nl 6, .nl 3, .nl 2]), some (.box [.r 3 0 b1_1.length, .r 4 0 a.2.length, .nl 3, .nl 2]), some (.arr 3 (b1_1.map Item.enc) false), some (.arr 6 (a.2.map Lock.enc) false)]) (p0.Locks.length + 1) (0, []) h (wk_c _ _ _ [some 0, some 1, some 2, some 3, none] rfl (by simp only [go_sem, List.map_append, List.map_cons, List.map_nil, Option.some.injEq, Prod.mk.injEq, SC.d.injEq, D.l.injEq, List.map_set])) (fun a h => by simp only [reredosref_StoreCopy_L2, reduceCtorEq] at h) ?_
   intro n13 a h
   obtain ⟨a12_1, a12_2⟩ := a
   try dsimp only at h
   rw [reredosref_StoreCopy_L2] at h
   try simp only [go_sem]
   intro hl14
   rcases of_if h with ⟨hb15, h⟩ | ⟨hb15, h⟩
   ·have hkhb15 := of_decide_eq_true hb15
    obtain ⟨x16, hx16, h⟩ := obi h
    have hkx16 := gtx hx16
    try simp only [List.length_take, List.length_drop, List.length_append, List.length_set, List.length_map, List.length_cons, List.length_nil, Nat.zero_add] at hkx16
    obtain ⟨hf17, h⟩ := of_chk h
    have hw18 := wrap_succ_max hkx16 hl14
    try simp only [hb15, hkhb15, hx16, hkx16, hf17, hw18, go_sem]
    exact loopQ_c (a12_1 + 1, (a12_2 ++ [x16])) h [some 0, some 1, some 2, some 3, some 13] rfl (by simp only [hb15, hkhb15, hx16, hkx16, hf17, hw18, go_sem, List.map_append, List.map_cons, List.map_nil, Option.some.injEq, Prod.mk.injEq, SC.d.injEq, D.l.injEq, List.map_set])
   ·try simp only [hb15, go_sem]
    exact joinQ_c (a12_2) h [some 0, some 1, some 2, some 3, some 4] rfl (by simp only [hb15, go_sem, List.map_append, List.map_cons, List.map_nil, Option.some.injEq, Prod.mk.injEq, SC.d.injEq, D.l.injEq, List.map_set])
  ·try dsimp only at h
   rw [hk11] at h
   obtain ⟨k20, hk20, h⟩ := withK_lk1 h
   try simp only [go_sem]
   refine join_lk Try.prog G _ _ (B := (List Doubt)) (fun b => k20 b = some r) (fun b => [(1, .one (.p (.q 0 0 0))), (2, .one (.p (.q 1 0 0))), (3, .one (.p (.q 2 0 0)))]) (fun b => [some (.box p0.bx), some (.box [.nl 3, .nl 6, .nl 3, .nl 2]), some (.box [.r 3 0 b1_1.length, .r 4 0 b10_1.length, .r 5 0 b.length, .nl 2]), some (.arr 3 (b1_1.map Item.enc) false), some (.arr 6 (b10_1.map Lock.enc) false), some (.arr 3 (b.map Doubt.enc) false)]) ?_ (fun b19_1 h => ?_)
   ·try simp only [go_sem]
    refine loop_lk Try.prog G _ _ (A := Nat × (List Doubt)) (fun n a => reredosref_StoreCopy_L3 p0 k20 n a.1 a.2 = some r) (fun a => [(1, .one (.p (.q 0 0 0))), (2, .one (.p (.q 1 0 0))), (3, .one (.p (.q 2 0 0))), (6, .one (.d (.i .i64 ((a.1 : Nat) : Int))))]) (fun a => [some (.box p0.bx), some (.box [.nl 3, .nl 6, .nl 3, .nl 2]), some (.box [.r 3 0 b1_1.length, .r 4 0 b10_1.length, .r 5 0 a.2.length, .nl 2]), some (.arr 3 (b1_1.map Item.enc) false), some (.arr 6 (b10_1.map Lock.enc) false), some (.arr 3 (a.2.map Doubt.enc) false)]) (p0.Doubts.length + 1) (0, []) h (wk_c _ _ _ [some 0, some 1, some 2, some 3, some 4, none] rfl (by simp only [go_sem, List.map_append, List.map_cons, List.map_nil, Option.some.injEq, Prod.mk.injEq, SC.d.injEq, D.l.injEq, List.map_set])) (fun a h => by simp only [reredosref_StoreCopy_L3, reduceCtorEq] at h) ?_
    intro n22 a h
    obtain ⟨a21_1, a21_2⟩ := a
    try dsimp only at h
    rw [reredosref_StoreCopy_L3] at h
    try simp only [go_sem]
    intro hl23
    rcases of_if h with ⟨hb24, h⟩ | ⟨hb24, h⟩
    ·have hkhb24 := of_decide_eq_true hb24
     obtain ⟨x25, hx25, h⟩ := obi h
     have hkx25 := gtx hx25
     try simp only [List.length_take, List.length_drop, List.length_append, List.length_set, List.length_map, List.length_cons, List.length_nil, Nat.zero_add] at hkx25
     obtain ⟨hf26, h⟩ := of_chk h
     have hw27 := wrap_succ_max hkx25 hl23
     try simp only [hb24, hkhb24, hx25, hkx25, hf26, hw27, go_sem]
     exact loopQ_c (a21_1 + 1, (a21_2 ++ [x25])) h [some 0, some 1, some 2, some 3, some 4, some 14] rfl (by simp only [hb24, hkhb24, hx25, hkx25, hf26, hw27, go_sem, List.map_append, List.map_cons, List.map_nil, Option.some.injEq, Prod.mk.injEq, SC.d.injEq, D.l.injEq, List.map_set])
    ·try simp only [hb24, go_sem]
     exact joinQ_c (a21_2) h [some 0, some 1, some 2, some 3, some 4, some 5] rfl (by simp only [hb24, go_sem, List.map_append, List.map_cons, List.map_nil, Option.some.injEq, Prod.mk.injEq, SC.d.injEq, D.l.injEq, List.map_set])
   ·try dsimp only at h
    rw [hk20] at h
    obtain ⟨k29, hk29, h⟩ := withK_lk1 h
    try simp only [go_sem]
    refine join_lk Try.prog G _ _ (B := (List Txn)) (fun b => k29 b = some r) (fun b => [(2, .one (.p (.q 0 0 0))), (3, .one (.p (.q 1 0 0)))]) (fun b => [some (.box [.nl 3, .nl 6, .nl 3, .nl 2]), some (.box [.r 2 0 b1_1.length, .r 3 0 b10_1.length, .r 4 0 b19_1.length, .r 5 0 b.length]), some (.arr 3 (b1_1.map Item.enc) false), some (.arr 6 (b10_1.map Lock.enc) false), some (.arr 3 (b19_1.map Doubt.enc) false), some (.arr 2 (b.map Txn.enc) false)]) ?_ (fun b28_1 h => ?_)
    ·try simp only [go_sem]
     refine loop_lk Try.prog G _ _ (A := Nat × (List Txn)) (fun n a => reredosref_StoreCopy_L4 p0 k29 n a.1 a.2 = some r) (fun a => [(1, .one (.p (.q 0 0 0))), (2, .one (.p (.q 1 0 0))), (3, .one (.p (.q 2 0 0))), (7, .one (.d (.i .i64 ((a.1 : Nat) : Int))))]) (fun a => [some (.box p0.bx), some (.box [.nl 3, .nl 6, .nl 3, .nl 2]), some (.box [.r 3 0 b1_1.length, .r 4 0 b10_1.length, .r 5 0 b19_1.length, .r 6 0 a.2.length]), some (.arr 3 (b1_1.map Item.enc) false), some (.arr 6 (b10_1.map Lock.enc) false), some (.arr 3 (b19_1.map Doubt.enc) false), some (.arr 2 (a.2.map Txn.enc) false)]) (p0.Over.length + 1) (0, []) h (wk_c _ _ _ [some 0, some 1, some 2, some 3, some 4, some 5, none] rfl (by simp only [go_sem, List.map_append, List.map_cons, List.map_nil, Option.some.injEq, Prod.mk.injEq, SC.d.injEq, D.l.injEq, List.map_set])) (fun a h => by simp only [reredosref_StoreCopy_L4, reduceCtorEq] at h) ?_
     intro n31 a h
     obtain ⟨a30_1, a30_2⟩ := a
     try dsimp only at h
     rw [reredosref_StoreCopy_L4] at h
     try simp only [go_sem]
     intro hl32
     rcases of_if h with ⟨hb33, h⟩ | ⟨hb33, h⟩
     ·have hkhb33 := of_decide_eq_true hb33
      obtain ⟨x34, hx34, h⟩ := obi h
      have hkx34 := gtx hx34
      try simp only [List.length_take, List.length_drop, List.length_append, List.length_set, List.length_map, List.length_cons, List.length_nil, Nat.zero_add] at hkx34
      obtain ⟨hf35, h⟩ := of_chk h
      have hw36 := wrap_succ_max hkx34 hl32
      try simp only [hb33, hkhb33, hx34, hkx34, hf35, hw36, go_sem]
      exact loopQ_c (a30_1 + 1, (a30_2 ++ [x34])) h [some 0, some 1, some 2, some 3, some 4, some 5, some 15] rfl (by simp only [hb33, hkhb33, hx34, hkx34, hf35, hw36, go_sem, List.map_append, List.map_cons, List.map_nil, Option.some.injEq, Prod.mk.injEq, SC.d.injEq, D.l.injEq, List.map_set])
     ·try simp only [hb33, go_sem]
      exact joinQ_c (a30_2) h [some 1, some 2, some 3, some 4, some 5, some 6] rfl (by simp only [hb33, go_sem, List.map_append, List.map_cons, List.map_nil, Option.some.injEq, Prod.mk.injEq, SC.d.injEq, D.l.injEq, List.map_set])
    ·try dsimp only at h
     rw [hk29] at h
     simp only [Option.some.injEq] at h
     subst h
     try simp only [go_sem, List.map_append, List.map_cons, List.map_nil, List.map_set]
def reredosref_withItem_L1 (p0 : List Item) (p1 : Int) (p2 : Int) (k2 : Bool → (List Item) → Option ((List Item))) : Nat → Bool → Nat → (List Item) → Option ((List Item))
 | 0, _, _, _ => none
 | n4 + 1, a3_1, a3_2, a3_3 => (if (decide (a3_2 < p0.length)) = true then (Option.bind (p0[a3_2]?) fun x7 => (if (x7.Key == p1) = true then (if fits 24 (a3_3.length + 1) then (reredosref_withItem_L1 p0 p1 p2 k2 n4 true (a3_2 + 1) (a3_3 ++ [(Item.mk p1 p2 (IntKind.i64.wrap (x7.Version + 1)))])) else none) else (if (decide (x7.Key > p1)) = true then (withK (fun (b12_1 : Bool) (b12_2 : List Item) => (if fits 24 (b12_2.length + 1) then (reredosref_withItem_L1 p0 p1 p2 k2 n4 true (a3_2 + 1) (b12_2 ++ [x7])) else none)) fun k13 => (if (!a3_1) = true then (if fits 24 (a3_3.length + 1) then (k13 true (a3_3 ++ [(Item.mk p1 p2 1)])) else none) else (k13 false a3_3))) else (withK (if fits 24 (a3_3.length + 1) then (reredosref_withItem_L1 p0 p1 p2 k2 n4 a3_1 (a3_2 + 1) (a3_3 ++ [x7])) else none) fun k19 => k19)))) else (k2 a3_1 a3_3))
def reredosref_withItem (p0 : List Item) (p1 : Int) (p2 : Int) : Option ((List Item)) := (withK (fun (b1_1 : Bool) (b1_2 : List Item) => (withK (fun (b22_1 : List Item) => (some b22_1)) fun k23 => (if (!b1_1) = true then (if fits 24 (b1_2.length + 1) then (k23 (b1_2 ++ [(Item.mk p1 p2 1)])) else none) else (k23 b1_2)))) fun k2 => (reredosref_withItem_L1 p0 p1 p2 k2 (p0.length + 1) false 0 []))
def F49 : VFn := ⟨68, (.seq (.reg [vo 6 (.mv (.c (.one (.nl 3))))]) (.seq (.reg [vo 7 (.mv (.c (.one (.nl 3))))]) (.seq (.reg [vo 8 (.mv (cb false))]) (.seq (.seq (.reg [vo 9 (.mv (ci 0))]) (.wk (.block 0 (.loop (.seq (.seq (.reg [vm 10 9, vm 11 0, vo 12 (.len (.t 11)), vo 13 (.bin .i .lss (.t 10) (.t 12))]) (.cond (.t 13) .skip (.exit 0))) (.seq (.block 1 (.seq (.seq (.reg [vm 16 0, vm 17 9, vo 18 (.ia 3 (.t 16) (.t 17)), vo 19 (.fa 0 (.t 18)), vo 20 (.ld false 1 (.t 19)), vm 21 1, vo 22 (.bin .i .eql (.t 20) (.t 21))]) (.cond (.t 22) (.seq (.reg [vm 23 7, vm 24 1, vm 25 2, vm 26 0, vm 27 9, vo 28 (.ia 3 (.t 26) (.t 27)), vo 29 (.fa 2 (.t 28)), vo 30 (.ld false 1 (.t 29)), vo 31 (.bin .i .add (.t 30) (ci 1)), vo 32 (.build [(zi 0), (zi 0), (zi 0)] [(0, 1, (.t 24)), (1, 1, (.t 25)), (2, 1, (.t 31))]), vo 33 (.bsl 3 1 [(zi 0), (zi 0), (zi 0)] [(0, (.t 32))]), vo 34 (.app 3 24 (.t 23) (.t 33)), vm 7 34]) (.seq (.reg [vo 8 (.mv (cb true))]) (.exit 1))) .skip)) (.seq (.seq (.reg [vm 35 0, vm 36 9, vo 37 (.ia 3 (.t 35) (.t 36)), vo 38 (.fa 0 (.t 37)), vo 39 (.ld false 1 (.t 38)), vm 40 1, vo 41 (.bin .i .gtr (.t 39) (.t 40)), vm 42 41, ⟨(some 43), .mv (.t 8), (some (42, true))⟩, ⟨(some 44), .un .not (.t 43), (some (42, true))⟩, vo 45 (.pick (.t 42) (.t 44) (cb false))]) (.wk (.cond (.t 45) (.seq (.reg [vm 46 7, vm 47 1, vm 48 2, vo 49 (.build [(zi 0), (zi 0), (zi 0)] [(0, 1, (.t 47)), (1, 1, (.t 48)), (2, 1, (ci 1))]), vo 50 (.bsl 3 1 [(zi 0), (zi 0), (zi 0)] [(0, (.t 49))]), vo 51 (.app 3 24 (.t 46) (.t 50)), vm 7 51]) (.reg [vo 8 (.mv (cb true))])) .skip))) (.reg [vm 52 7, vm 53 0, vm 54 9, vo 55 (.ia 3 (.t 53) (.t 54)), vo 56 (.ld true 3 (.t 55)), vo 57 (.bsl 3 1 [(zi 0), (zi 0), (zi 0)] [(0, (.t 56))]), vo 58 (.app 3 24 (.t 52) (.t 57)), vm 7 58])))) (.reg [vm 14 9, vo 15 (.bin .i .add (.t 14) (ci 1)), vm 9 15]))))))) (.seq (.seq (.reg [vm 59 8, vo 60 (.un .not (.t 59))]) (.wk (.cond (.t 60) (.reg [vm 61 7, vm 62 1, vm 63 2, vo 64 (.build [(zi 0), (zi 0), (zi 0)] [(0, 1, (.t 62)), (1, 1, (.t 63)), (2, 1, (ci 1))]), vo 65 (.bsl 3 1 [(zi 0), (zi 0), (zi 0)] [(0, (.t 64))]), vo 66 (.app 3 24 (.t 61) (.t 65)), vm 7 66]) .skip))) (.seq (.reg [vm 67 7, vm 6 67]) .ret)))))), [.t 6]⟩
theorem low49 : lowF Try.prog 49 = some F49.strip := by kernel_rfl
theorem fok49 : fOk Try.prog 49 = true := by kernel_rfl
theorem reredosref_withItem_ok (G : Nat → Option (List D)) (p0 : List Item) (p1 : Int) (p2 : Int) (r : (List Item)) (h : reredosref_withItem p0 p1 p2 = some r) : FnRO Try.prog G 49 [.one (.d (.l 3 (p0.map Item.enc))), .one (.d (.i .i64 p1)), .one (.d (.i .i64 p2))] (fun rs => rs = [.one (.o 3 (r.map Item.enc))]) := by
 refine FnRO.of' low49 fok49 (by simp [F49]) ?_
 rw [reredosref_withItem] at h
 simp only [F49, go_sem]
 obtain ⟨k2, hk2, h⟩ := withK_lk2 h
 try simp only [go_sem]
 refine join_lk Try.prog G _ _ (B := Bool × (List Item)) (fun b => k2 b.1 b.2 = some r) (fun b => [(1, .one (zi p1)), (2, .one (zi p2)), (7, .one (.r 0 0 b.2.length)), (8, .one (.d (.b b.1)))]) (fun b => [some (.arr 3 (b.2.map Item.enc) false)]) ?_ (fun b h => ?_)
 ·try simp only [go_sem]
  refine loop_lk Try.prog G _ _ (A := Bool × Nat × (List Item)) (fun n a => reredosref_withItem_L1 p0 p1 p2 k2 n a.1 a.2.1 a.2.2 = some r) (fun a => [(0, .one (.d (.l 3 (p0.map Item.enc)))), (1, .one (zi p1)), (2, .one (zi p2)), (7, .one (.r 0 0 a.2.2.length)), (8, .one (.d (.b a.1))), (9, .one (.d (.i .i64 ((a.2.1 : Nat) : Int))))]) (fun a => [some (.arr 3 (a.2.2.map Item.enc) false)]) (p0.length + 1) (false, 0, []) h (wk_c _ _ _ [none] rfl (by simp only [go_sem, List.map_append, List.map_cons, List.map_nil, Option.some.injEq, Prod.mk.injEq, SC.d.injEq, D.l.injEq, List.map_set])) (fun a h => by simp only [reredosref_withItem_L1, reduceCtorEq] at h) ?_
  intro n4 a h
  obtain ⟨a3_1, a3_2, a3_3⟩ := a
  try dsimp only at h
  rw [reredosref_withItem_L1] at h
  try simp only [go_sem]
  intro hl5
  rcases of_if h with ⟨hb6, h⟩ | ⟨hb6, h⟩
  ·have hkhb6 := of_decide_eq_true hb6
   obtain ⟨x7, hx7, h⟩ := obi h
   have hkx7 := gtx hx7
   try simp only [List.length_take, List.length_drop, List.length_append, List.length_set, List.length_map, List.length_cons, List.length_nil, Nat.zero_add] at hkx7
   rcases of_if h with ⟨hb8, h⟩ | ⟨hb8, h⟩
   ·obtain ⟨hf9, h⟩ := of_chk h
    have hw10 := wrap_succ_max hkx7 hl5
    try simp only [hb6, hkhb6, hx7, hkx7, hb8, hf9, hw10, go_sem]
    exact loopQ_c (true, a3_2 + 1, (a3_3 ++ [(Item.mk p1 p2 (IntKind.i64.wrap (x7.Version + 1)))])) h [some 2] rfl (by simp only [hb6, hkhb6, hx7, hkx7, hb8, hf9, hw10, go_sem, List.map_append, List.map_cons, List.map_nil, Option.some.injEq, Prod.mk.injEq, SC.d.injEq, D.l.injEq, List.map_set])
   ·rcases of_if h with ⟨hb11, h⟩ | ⟨hb11, h⟩
    ·obtain ⟨k13, hk13, h⟩ := withK_lk2 h
     try simp only [hb6, hkhb6, hx7, hkx7, hb8, hb11, go_sem]
     refine join_lk Try.prog G _ _ (B := Bool × (List Item)) (fun b => k13 b.1 b.2 = some r) (fun b => [(0, .one (.d (.l 3 (p0.map Item.enc)))), (1, .one (zi p1)), (2, .one (zi p2)), (7, .one (.r 0 0 b.2.length)), (8, .one (.d (.b true))), (9, .one (.d (.i .i64 ((a3_2 : Nat) : Int)))), (43, .one (.d (.b a3_1))), (44, .one (.d (.b b.1)))]) (fun b => [some (.arr 3 (b.2.map Item.enc) false)]) ?_ (fun b h => ?_)
     ·rcases of_if h with ⟨hb14, h⟩ | ⟨hb14, h⟩
      ·have hkhb14 := not_eq_t hb14
       obtain ⟨hf15, h⟩ := of_chk h
       try simp only [hb6, hkhb6, hx7, hkx7, hb8, hb11, hb14, hkhb14, hf15, go_sem]
       exact joinQ_c (true, (a3_3 ++ [(Item.mk p1 p2 1)])) h [some 2] rfl (by simp only [hb6, hkhb6, hx7, hkx7, hb8, hb11, hb14, hkhb14, hf15, go_sem, List.map_append, List.map_cons, List.map_nil, Option.some.injEq, Prod.mk.injEq, SC.d.injEq, D.l.injEq, List.map_set])
      ·have hkhb14 := not_eq_f hb14
       try simp only [hb6, hkhb6, hx7, hkx7, hb8, hb11, hb14, hkhb14, go_sem]
       exact joinQ_c (false, a3_3) h [some 0] rfl (by simp only [hb6, hkhb6, hx7, hkx7, hb8, hb11, hb14, hkhb14, go_sem, List.map_append, List.map_cons, List.map_nil, Option.some.injEq, Prod.mk.injEq, SC.d.injEq, D.l.injEq, List.map_set])
     ·obtain ⟨b12_1, b12_2⟩ := b
      try dsimp only at h
      rw [hk13] at h
      obtain ⟨hf16, h⟩ := of_chk h
      have hw17 := wrap_succ_max hkx7 hl5
      try simp only [hkhb6, hx7, hkx7, hf16, hw17, go_sem]
      exact loopQ_c (true, a3_2 + 1, (b12_2 ++ [x7])) h [some 2] rfl (by simp only [hkhb6, hx7, hkx7, hf16, hw17, go_sem, List.map_append, List.map_cons, List.map_nil, Option.some.injEq, Prod.mk.injEq, SC.d.injEq, D.l.injEq, List.map_set])
    ·obtain ⟨k19, hk19, h⟩ := withK_lk0 h
     try simp only [hb6, hkhb6, hx7, hkx7, hb8, hb11, go_sem]
     refine join_lk Try.prog G _ _ (B := Unit) (fun b => k19 = some r) (fun b => [(0, .one (.d (.l 3 (p0.map Item.enc)))), (1, .one (zi p1)), (2, .one (zi p2)), (7, .one (.r 0 0 a3_3.length)), (8, .one (.d (.b a3_1))), (9, .one (.d (.i .i64 ((a3_2 : Nat) : Int))))]) (fun b => [some (.arr 3 (a3_3.map Item.enc) false)]) ?_ (fun b h => ?_)
     ·try simp only [hb6, hkhb6, hx7, hkx7, hb8, hb11, go_sem]
      exact joinQ_c () h [some 0] rfl (by simp only [hb6, hkhb6, hx7, hkx7, hb8, hb11, go_sem, List.map_append, List.map_cons, List.map_nil, Option.some.injEq, Prod.mk.injEq, SC.d.injEq, D.l.injEq, List.map_set])
     ·try dsimp only at h
      rw [hk19] at h
      obtain ⟨hf20, h⟩ := of_chk h
      have hw21 := wrap_succ_max hkx7 hl5
      try simp only [hkhb6, hx7, hkx7, hf20, hw21, go_sem]
      exact loopQ_c (a3_1, a3_2 + 1, (a3_3 ++ [x7])) h [some 2] rfl (by simp only [hkhb6, hx7, hkx7, hf20, hw21, go_sem, List.map_append, List.map_cons, List.map_nil, Option.some.injEq, Prod.mk.injEq, SC.d.injEq, D.l.injEq, List.map_set])
  ·try simp only [hb6, go_sem]
   exact joinQ_c (a3_1, a3_3) h [some 0] rfl (by simp only [hb6, go_sem, List.map_append, List.map_cons, List.map_nil, Option.some.injEq, Prod.mk.injEq, SC.d.injEq, D.l.injEq, List.map_set])
 ·obtain ⟨b1_1, b1_2⟩ := b
  try dsimp only at h
  rw [hk2] at h
  obtain ⟨k23, hk23, h⟩ := withK_lk1 h
  try simp only [go_sem]
  refine join_lk Try.prog G _ _ (B := (List Item)) (fun b => k23 b = some r) (fun b => [(7, .one (.r 0 0 b.length))]) (fun b => [some (.arr 3 (b.map Item.enc) false)]) ?_ (fun b22_1 h => ?_)
  ·rcases of_if h with ⟨hb24, h⟩ | ⟨hb24, h⟩
   ·have hkhb24 := not_eq_t hb24
    obtain ⟨hf25, h⟩ := of_chk h
    try simp only [hb24, hkhb24, hf25, go_sem]
    exact joinQ_c ((b1_2 ++ [(Item.mk p1 p2 1)])) h [some 2] rfl (by simp only [hb24, hkhb24, hf25, go_sem, List.map_append, List.map_cons, List.map_nil, Option.some.injEq, Prod.mk.injEq, SC.d.injEq, D.l.injEq, List.map_set])
   ·have hkhb24 := not_eq_f hb24
    try simp only [hb24, hkhb24, go_sem]
    exact joinQ_c (b1_2) h [some 0] rfl (by simp only [hb24, hkhb24, go_sem, List.map_append, List.map_cons, List.map_nil, Option.some.injEq, Prod.mk.injEq, SC.d.injEq, D.l.injEq, List.map_set])
  ·try dsimp only at h
   rw [hk23] at h
   simp only [Option.some.injEq] at h
   subst h
   try simp only [go_sem, List.map_append, List.map_cons, List.map_nil, List.map_set]
def reredosref_EndOf_L1 (p1 : Txn) (p2 : Bool) (v3 : Store) (k10 : (List Item) → (List Lock) → Option (Store × Int)) : Nat → Nat → (List Item) → (List Lock) → Option (Store × Int)
 | 0, _, _, _ => none
 | n12 + 1, a11_1, a11_2, a11_3 => (if (decide (a11_1 < v3.Locks.length)) = true then (Option.bind (v3.Locks[a11_1]?) fun x15 => (withK (fun (b16_1 : List Item) (b16_2 : List Lock) => (reredosref_EndOf_L1 p1 p2 v3 k10 n12 (a11_1 + 1) b16_1 b16_2)) fun k17 => (if (!((x15.Txn.Site == p1.Site) && (x15.Txn.N == p1.N))) = true then (if fits 48 (a11_3.length + 1) then (k17 a11_2 (a11_3 ++ [x15])) else none) else (if x15.Write = true then (withK (fun (b21_1 : List Item) => (k17 b21_1 a11_3)) fun k22 => (if p2 = true then (Option.bind (reredosref_withItem a11_2 x15.Key x15.Value) fun v24 => (k22 v24)) else (k22 a11_2))) else (withK (k17 a11_2 a11_3) fun k26 => k26))))) else (k10 a11_2 a11_3))
def reredosref_EndOf_L2 (p1 : Txn) (v3 : Store) (k29 : (List Doubt) → Option (Store × Int)) : Nat → Nat → (List Doubt) → Option (Store × Int)
 | 0, _, _ => none
 | n31 + 1, a30_1, a30_2 => (if (decide (a30_1 < v3.Doubts.length)) = true then (Option.bind (v3.Doubts[a30_1]?) fun x34 => (withK (fun (b35_1 : List Doubt) => (reredosref_EndOf_L2 p1 v3 k29 n31 (a30_1 + 1) b35_1)) fun k36 => (if (!((x34.Txn.Site == p1.Site) && (x34.Txn.N == p1.N))) = true then (if fits 24 (a30_2.length + 1) then (k36 (a30_2 ++ [x34])) else none) else (k36 a30_2)))) else (k29 a30_2))
def reredosref_EndOf (p0 : Store) (p1 : Txn) (p2 : Bool) : Option (Store × Int) := (Option.bind (reredosref_askFault p0 p1 0) fun v1 => (if (v1 != 0) = true then (some ((Store.mk [] [] [] []), v1)) else (Option.bind (reredosref_StoreCopy p0) fun v3 => (Option.bind (reredosref_isOver p0 p1) fun v4 => (withK (fun (b5_1 : List Txn) => (withK (fun (b9_1 : List Item) (b9_2 : List Lock) => (withK (fun (b28_1 : List Doubt) => (some ((Store.mk b9_1 b9_2 b28_1 b5_1), 0))) fun k29 => (reredosref_EndOf_L2 p1 v3 k29 (v3.Doubts.length + 1) 0 []))) fun k10 => (reredosref_EndOf_L1 p1 p2 v3 k10 (v3.Locks.length + 1) 0 v3.Items []))) fun k6 => (if (!v4) = true then (if fits 16 (v3.Over.length + 1) then (k6 (v3.Over ++ [p1])) else none) else (k6 v3.Over)))))))
def F24 : VFn := ⟨113, (.seq (.reg [vo 3 (.boxk 4 (.t 0)), vo 4 (.boxk 2 (.t 1)), vo 6 (.alloc [(.nl 3), (.nl 6), (.nl 3), (.nl 2)]), vo 7 (.mv (ci 0))]) (.seq (.reg [vo 13 (.ld true 4 (.t 3)), vo 14 (.ld true 2 (.t 4)), vo 15 (.call 47 [(.t 13), (.t 14), (ci 0)]), vm 8 15]) (.seq (.seq (.reg [vm 16 8, vo 17 (.bin .i .neq (.t 16) (ci 0))]) (.cond (.t 17) (.seq (.reg [vo 18 (.build [(.nl 3), (.nl 6), (.nl 3), (.nl 2)] []), vm 19 8, vu (.st 4 (.t 6) (.t 18)), vm 7 19]) .ret) .skip)) (.seq (.reg [vo 20 (.ld true 4 (.t 3)), vo 21 (.call 36 [(.t 20)]), vo 9 (.alloc [(.nl 3), (.nl 6), (.nl 3), (.nl 2)]), vu (.st 4 (.t 9) (.t 21))]) (.seq (.reg [vo 22 (.fa 0 (.t 9)), vo 23 (.ld false 1 (.t 22)), vo 24 (.fa 3 (.t 9)), vo 25 (.ld false 1 (.t 24)), vo 26 (.build [(.nl 3), (.nl 6), (.nl 3), (.nl 2)] [(0, 1, (.t 23)), (3, 1, (.t 25))]), vo 10 (.alloc [(.nl 3), (.nl 6), (.nl 3), (.nl 2)]), vu (.st 4 (.t 10) (.t 26))]) (.seq (.seq (.reg [vo 27 (.ld true 4 (.t 3)), vo 28 (.ld true 2 (.t 4)), vo 29 (.call 48 [(.t 27), (.t 28)]), vo 30 (.un .not (.t 29))]) (.wk (.cond (.t 30) (.reg [vo 31 (.fa 3 (.t 10)), vo 32 (.ld false 1 (.t 31)), vo 33 (.ld true 2 (.t 4)), vo 34 (.bsl 2 1 [(zi 0), (zi 0)] [(0, (.t 33))]), vo 35 (.app 2 16 (.t 32) (.t 34)), vo 36 (.fa 3 (.t 10)), vu (.st 1 (.t 36) (.t 35))]) .skip))) (.seq (.seq (.reg [vo 11 (.mv (ci 0))]) (.wk (.block 0 (.loop (.seq (.seq (.reg [vm 37 11, vo 38 (.fa 1 (.t 9)), vo 39 (.ld false 1 (.t 38)), vo 40 (.len (.t 39)), vo 41 (.bin .i .lss (.t 37) (.t 40))]) (.cond (.t 41) .skip (.exit 0))) (.seq (.block 1 (.seq (.draw [vd (vo 44 (.fa 1 (.t 9))) [], vd (vo 45 (.ld false 1 (.t 44))) [0], vd (vm 46 11) [], vd (vo 47 (.ia 6 (.t 45) (.t 46))) [1, 0, 2], vd (vo 48 (.fa 0 (.t 47))) [3, 1, 0, 2], vd (vo 49 (.ld true 2 (.t 48))) [4, 3, 1, 0, 2], vd (vo 50 (.ld true 2 (.t 4))) [], vd (vo 51 (.eqs true [.i, .i] (.t 49) (.t 50))) [5, 4, 3, 1, 0, 2, 6]]) (.wk (.cond (.t 51) (.draw [vd (vo 52 (.fa 1 (.t 10))) [], vd (vo 53 (.ld false 1 (.t 52))) [0], vd (vo 54 (.fa 1 (.t 9))) [], vd (vo 55 (.ld false 1 (.t 54))) [2], vd (vm 56 11) [], vd (vo 57 (.ia 6 (.t 55) (.t 56))) [3, 2, 4], vd (vo 58 (.ld true 6 (.t 57))) [5, 3, 2, 4], vd (vo 59 (.bsl 6 1 [(zi 0), (zi 0), (zi 0), (.d (.b false)), (zi 0), (zi 0)] [(0, (.t 58))])) [6, 5, 3, 2, 4], vd (vo 60 (.app 6 48 (.t 53) (.t 59))) [1, 0, 7, 6, 5, 3, 2, 4], vd (vo 61 (.fa 1 (.t 10))) [0, 1, 2, 3, 4, 5, 6, 7, 8], vd (vu (.st 1 (.t 61) (.t 60))) [9, 0, 1, 2, 3, 4, 5, 6, 7, 8]]) (.seq (.reg [vo 62 (.fa 1 (.t 9)), vo 63 (.ld false 1 (.t 62)), vm 64 11, vo 65 (.ia 6 (.t 63) (.t 64)), vo 66 (.fa 3 (.t 65)), vo 67 (.ld false 1 (.t 66)), vm 68 67, ⟨(some 69), .mv (.t 2), (some (68, true))⟩, vo 70 (.pick (.t 68) (.t 69) (cb false))]) (.wk (.cond (.t 70) (.draw [vd (vo 71 (.fa 0 (.t 10))) [], vd (vo 72 (.ld false 1 (.t 71))) [0], vd (vo 73 (.fa 1 (.t 9))) [], vd (vo 74 (.ld false 1 (.t 73))) [2], vd (vm 75 11) [], vd (vo 76 (.ia 6 (.t 74) (.t 75))) [3, 2, 4], vd (vo 77 (.fa 2 (.t 76))) [5, 3, 2, 4], vd (vo 78 (.ld false 1 (.t 77))) [6, 5, 3, 2, 4], vd (vo 79 (.fa 1 (.t 9))) [], vd (vo 80 (.ld false 1 (.t 79))) [8], vd (vm 81 11) [], vd (vo 82 (.ia 6 (.t 80) (.t 81))) [9, 8, 10], vd (vo 83 (.fa 4 (.t 82))) [11, 9, 8, 10], vd (vo 84 (.ld false 1 (.t 83))) [12, 11, 9, 8, 10], vd (vo 85 (.call 49 [(.t 72), (.t 78), (.t 84)])) [1, 0, 7, 6, 5, 3, 2, 4, 13, 12, 11, 9, 8, 10], vd (vo 86 (.fa 0 (.t 10))) [0, 1, 2, 3, 4, 5, 6, 7, 8, 9, 10, 11, 12, 13, 14], vd (vu (.st 1 (.t 86) (.t 85))) [15, 0, 1, 2, 3, 4, 5, 6, 7, 8, 9, 10, 11, 12, 13, 14]]) .skip))))))) (.reg [vm 42 11, vo 43 (.bin .i .add (.t 42) (ci 1)), vm 11 43]))))))) (.seq (.seq (.reg [vo 12 (.mv (ci 0))]) (.wk (.block 2 (.loop (.seq (.seq (.reg [vm 87 12, vo 88 (.fa 2 (.t 9)), vo 89 (.ld false 1 (.t 88)), vo 90 (.len (.t 89)), vo 91 (.bin .i .lss (.t 87) (.t 90))]) (.cond (.t 91) .skip (.exit 2))) (.seq (.block 3 (.seq (.draw [vd (vo 94 (.fa 2 (.t 9))) [], vd (vo 95 (.ld false 1 (.t 94))) [0], vd (vm 96 12) [], vd (vo 97 (.ia 3 (.t 95) (.t 96))) [1, 0, 2], vd (vo 98 (.fa 0 (.t 97))) [3, 1, 0, 2], vd (vo 99 (.ld true 2 (.t 98))) [4, 3, 1, 0, 2], vd (vo 100 (.ld true 2 (.t 4))) [], vd (vo 101 (.eqs true [.i, .i] (.t 99) (.t 100))) [5, 4, 3, 1, 0, 2, 6]]) (.wk (.cond (.t 101) (.draw [vd (vo 102 (.fa 2 (.t 10))) [], vd (vo 103 (.ld false 1 (.t 102))) [0], vd (vo 104 (.fa 2 (.t 9))) [], vd (vo 105 (.ld false 1 (.t 104))) [2], vd (vm 106 12) [], vd (vo 107 (.ia 3 (.t 105) (.t 106))) [3, 2, 4], vd (vo 108 (.ld true 3 (.t 107))) [5, 3, 2, 4], vd (vo 109 (.bsl 3 1 [(zi 0), (zi 0), (zi 0)] [(0, (.t 108))])) [6, 5, 3, 2, 4], vd (vo 110 (.app 3 24 (.t 103) (.t 109))) [1, 0, 7, 6, 5, 3, 2, 4], vd (vo 111 (.fa 2 (.t 10))) [0, 1, 2, 3, 4, 5, 6, 7, 8], vd (vu (.st 1 (.t 111) (.t 110))) [9, 0, 1, 2, 3, 4, 5, 6, 7, 8]]) .skip)))) (.reg [vm 92 12, vo 93 (.bin .i .add (.t 92) (ci 1)), vm 12 93]))))))) (.seq (.reg [vo 112 (.ld true 4 (.t 10)), vu (.st 4 (.t 6) (.t 112)), vo 7 (.mv (ci 0))]) .ret))))))))), [.cell 6 true 4, .t 7]⟩
theorem low24 : lowF Try.prog 24 = some F24.strip := by kernel_rfl
theorem fok24 : fOk Try.prog 24 = true := by kernel_rfl
theorem reredosref_EndOf_ok (G : Nat → Option (List D)) (p0 : Store) (p1 : Txn) (p2 : Bool) (r : Store × Int) (h : reredosref_EndOf p0 p1 p2 = some r) : FnRO Try.prog G 24 [.agg [.d (.l 3 (p0.Items.map Item.enc)), .d (.l 6 (p0.Locks.map Lock.enc)), .d (.l 3 (p0.Doubts.map Doubt.enc)), .d (.l 2 (p0.Over.map Txn.enc))], .agg [.d (.i .i64 p1.Site), .d (.i .i64 p1.N)], .one (.d (.b p2))] (fun rs => rs = [.agg (r.1.encO), .one (.i .i64 r.2)]) := by
 refine FnRO.of' low24 fok24 (by simp [F24]) ?_
 rw [reredosref_EndOf] at h
 simp only [F24, go_sem]
 obtain ⟨v1, hv1, h⟩ := obi h
 try simp only [go_sem]
 refine CallV.ro false (reredosref_askFault_ok G p0 p1 0 v1 hv1) rfl ?_
 rintro rs rfl
 refine ⟨.inl rfl, ?_⟩
 rcases of_if h with ⟨hb2, h⟩ | ⟨hb2, h⟩
 ·simp only [Option.some.injEq] at h
  subst h
  try simp only [hb2, go_sem, List.map_append, List.map_cons, List.map_nil, List.map_set]
 ·obtain ⟨v3, hv3, h⟩ := obi h
  try simp only [hb2, go_sem]
  refine CallV.ro false (reredosref_StoreCopy_ok G p0 v3 hv3) rfl ?_
  rintro rs rfl
  refine ⟨.inl rfl, ?_⟩
  obtain ⟨v4, hv4, h⟩ := obi h
  try simp only [hb2, go_sem]
  refine CallV.ro false (reredosref_isOver_ok G p0 p1 v4 hv4) rfl ?_
  rintro rs rfl
  refine ⟨.inl rfl, ?_⟩
  obtain ⟨k6, hk6, h⟩ := withK_lk1 h
  try simp only [hb2, go_sem]
  refine join_lk Try.prog G _ _ (B := (List Txn)) (fun b => k6 b = some r) (fun b => [(2, .one (.d (.b p2))), (4, .one (.d (.k (Txn.enc p1)))), (6, .one (.p (.q 0 0 0))), (9, .one (.p (.q 1 0 0))), (10, .one (.p (.q 2 0 0)))]) (fun b => [some (.box [.nl 3, .nl 6, .nl 3, .nl 2]), some (.box [.r 3 0 v3.Items.length, .r 4 0 v3.Locks.length, .r 5 0 v3.Doubts.length, .dead]), some (.box [.r 3 0 v3.Items.length, .nl 6, .nl 3, .r 6 0 b.length]), some (.arr 3 (v3.Items.map Item.enc) false), some (.arr 6 (v3.Locks.map Lock.enc) false), some (.arr 3 (v3.Doubts.map Doubt.enc) false), some (.arr 2 (b.map Txn.enc) false)]) ?_ (fun b5_1 h => ?_)
  ·rcases of_if h with ⟨hb7, h⟩ | ⟨hb7, h⟩
   ·have hkhb7 := not_eq_t hb7
    obtain ⟨hf8, h⟩ := of_chk h
    try simp only [hb2, hb7, hkhb7, hf8, go_sem]
    exact joinQ_c ((v3.Over ++ [p1])) h [some 0, some 5, some 6, some 1, some 2, some 3, some 8] rfl (by simp only [hb2, hb7, hkhb7, hf8, go_sem, List.map_append, List.map_cons, List.map_nil, Option.some.injEq, Prod.mk.injEq, SC.d.injEq, D.l.injEq, List.map_set])
   ·have hkhb7 := not_eq_f hb7
    try simp only [hb2, hb7, hkhb7, go_sem]
    exact joinQ_c (v3.Over) h [some 0, some 5, some 6, some 1, some 2, some 3, some 4] rfl (by simp only [hb2, hb7, hkhb7, go_sem, List.map_append, List.map_cons, List.map_nil, Option.some.injEq, Prod.mk.injEq, SC.d.injEq, D.l.injEq, List.map_set])
  ·try dsimp only at h
   rw [hk6] at h
   obtain ⟨k10, hk10, h⟩ := withK_lk2 h
   try simp only [go_sem]
   refine join_lk Try.prog G _ _ (B := (List Item) × (List Lock)) (fun b => k10 b.1 b.2 = some r) (fun b => [(4, .one (.d (.k (Txn.enc p1)))), (6, .one (.p (.q 0 0 0))), (9, .one (.p (.q 1 0 0))), (10, .one (.p (.q 2 0 0)))]) (fun b => [some (.box [.nl 3, .nl 6, .nl 3, .nl 2]), some (.box [.dead, .r 3 0 v3.Locks.length, .r 4 0 v3.Doubts.length, .dead]), some (.box [.r 5 0 b.1.length, .r 6 0 b.2.length, .nl 3, .r 7 0 b5_1.length]), some (.arr 6 (v3.Locks.map Lock.enc) false), some (.arr 3 (v3.Doubts.map Doubt.enc) false), some (.arr 3 (b.1.map Item.enc) false), some (.arr 6 (b.2.map Lock.enc) false), some (.arr 2 (b5_1.map Txn.enc) false)]) ?_ (fun b h => ?_)
   ·try simp only [go_sem]
    refine loop_lk Try.prog G _ _ (A := Nat × (List Item) × (List Lock)) (fun n a => reredosref_EndOf_L1 p1 p2 v3 k10 n a.1 a.2.1 a.2.2 = some r) (fun a => [(2, .one (.d (.b p2))), (4, .one (.d (.k (Txn.enc p1)))), (6, .one (.p (.q 0 0 0))), (9, .one (.p (.q 1 0 0))), (10, .one (.p (.q 2 0 0))), (11, .one (.d (.i .i64 ((a.1 : Nat) : Int))))]) (fun a => [some (.box [.nl 3, .nl 6, .nl 3, .nl 2]), some (.box [.dead, .r 3 0 v3.Locks.length, .r 4 0 v3.Doubts.length, .dead]), some (.box [.r 5 0 a.2.1.length, .r 6 0 a.2.2.length, .nl 3, .r 7 0 b5_1.length]), some (.arr 6 (v3.Locks.map Lock.enc) false), some (.arr 3 (v3.Doubts.map Doubt.enc) false), some (.arr 3 (a.2.1.map Item.enc) false), some (.arr 6 (a.2.2.map Lock.enc) false), some (.arr 2 (b5_1.map Txn.enc) false)]) (v3.Locks.length + 1) (0, v3.Items, []) h (wk_c _ _ _ [some 0, some 1, some 2, some 4, some 5, some 3, none, some 6] rfl (by simp only [go_sem, List.map_append, List.map_cons, List.map_nil, Option.some.injEq, Prod.mk.injEq, SC.d.injEq, D.l.injEq, List.map_set])) (fun a h => by simp only [reredosref_EndOf_L1, reduceCtorEq] at h) ?_
    intro n12 a h
    obtain ⟨a11_1, a11_2, a11_3⟩ := a
    try dsimp only at h
    rw [reredosref_EndOf_L1] at h
    try simp only [go_sem]
    intro hl13
    rcases of_if h with ⟨hb14, h⟩ | ⟨hb14, h⟩
    ·have hkhb14 := of_decide_eq_true hb14
     obtain ⟨x15, hx15, h⟩ := obi h
     have hkx15 := gtx hx15
     try simp only [List.length_take, List.length_drop, List.length_append, List.length_set, List.length_map, List.length_cons, List.length_nil, Nat.zero_add] at hkx15
     obtain ⟨k17, hk17, h⟩ := withK_lk2 h
     try simp only [hb14, hkhb14, hx15, hkx15, go_sem]
     refine join_lk Try.prog G _ _ (B := (List Item) × (List Lock)) (fun b => k17 b.1 b.2 = some r) (fun b => [(2, .one (.d (.b p2))), (4, .one (.d (.k (Txn.enc p1)))), (6, .one (.p (.q 0 0 0))), (9, .one (.p (.q 1 0 0))), (10, .one (.p (.q 2 0 0))), (11, .one (.d (.i .i64 ((a11_1 : Nat) : Int))))]) (fun b => [some (.box [.nl 3, .nl 6, .nl 3, .nl 2]), some (.box [.dead, .r 3 0 v3.Locks.length, .r 4 0 v3.Doubts.length, .dead]), some (.box [.r 5 0 b.1.length, .r 6 0 b.2.length, .nl 3, .r 7 0 b5_1.length]), some (.arr 6 (v3.Locks.map Lock.enc) false), some (.arr 3 (v3.Doubts.map Doubt.enc) false), some (.arr 3 (b.1.map Item.enc) false), some (.arr 6 (b.2.map Lock.enc) false), some (.arr 2 (b5_1.map Txn.enc) false)]) ?_ (fun b h => ?_)
     ·rcases of_if h with ⟨hb18, h⟩ | ⟨hb18, h⟩
      ·have hkhb18 := not_eq_t hb18
       try simp only [hb14, hkhb14, hx15, hkx15, hb18, hkhb18, go_sem]
       obtain ⟨hf19, h⟩ := of_chk h
       try simp only [hb14, hkhb14, hx15, hkx15, hb18, hkhb18, hf19, go_sem]
       exact joinQ_c (a11_2, (a11_3 ++ [x15])) h [some 0, some 1, some 2, some 3, some 4, some 5, some 24, some 7] rfl (by simp only [hb14, hkhb14, hx15, hkx15, hb18, hkhb18, hf19, go_sem, List.map_append, List.map_cons, List.map_nil, Option.some.injEq, Prod.mk.injEq, SC.d.injEq, D.l.injEq, List.map_set])
      ·have hkhb18 := not_eq_f hb18
       try simp only [hb14, hkhb14, hx15, hkx15, hb18, hkhb18, go_sem]
       rcases of_if h with ⟨hb20, h⟩ | ⟨hb20, h⟩
       ·obtain ⟨k22, hk22, h⟩ := withK_lk1 h
        try simp only [hb14, hkhb14, hx15, hkx15, hb18, hkhb18, hb20, go_sem]
        refine join_lk Try.prog G _ _ (B := (List Item)) (fun b => k22 b = some r) (fun b => [(2, .one (.d (.b p2))), (4, .one (.d (.k (Txn.enc p1)))), (6, .one (.p (.q 0 0 0))), (9, .one (.p (.q 1 0 0))), (10, .one (.p (.q 2 0 0))), (11, .one (.d (.i .i64 ((a11_1 : Nat) : Int)))), (69, .one (.d (.b p2)))]) (fun b => [some (.box [.nl 3, .nl 6, .nl 3, .nl 2]), some (.box [.dead, .r 3 0 v3.Locks.length, .r 4 0 v3.Doubts.length, .dead]), some (.box [.r 5 0 b.length, .r 6 0 a11_3.length, .nl 3, .r 7 0 b5_1.length]), some (.arr 6 (v3.Locks.map Lock.enc) false), some (.arr 3 (v3.Doubts.map Doubt.enc) false), some (.arr 3 (b.map Item.enc) false), some (.arr 6 (a11_3.map Lock.enc) false), some (.arr 2 (b5_1.map Txn.enc) false)]) ?_ (fun b21_1 h => ?_)
        ·rcases of_if h with ⟨hb23, h⟩ | ⟨hb23, h⟩
         ·obtain ⟨v24, hv24, h⟩ := obi h
          try simp only [hb14, hkhb14, hx15, hkx15, hb18, hkhb18, hb20, hb23, go_sem]
          refine ⟨_, _, CallD.ro true (reredosref_withItem_ok G a11_2 x15.Key x15.Value v24 hv24) (by first | rfl | (simp only [hb14, hkhb14, hx15, hkx15, hb18, hkhb18, hb20, hb23, go_sem, inVs_caps]; done) | simp only [hb14, hkhb14, hx15, hkx15, hb18, hkhb18, hb20, hb23, go_sem, inVs_caps, List.map_append, List.map_cons, List.map_nil, List.map_set]) (.inr (by simp only [hb14, hkhb14, hx15, hkx15, hb18, hkhb18, hb20, hb23, go_sem, RV.plain, D.plain, D.plain0, D.plain1, List.all_map, Function.comp_def, all_tt])) rfl, ?_⟩
          try simp only [hb14, hkhb14, hx15, hkx15, hb18, hkhb18, hb20, hb23, go_sem]
          exact joinQ_c (v24) h [some 0, some 1, some 2, some 3, some 4, some 30, some 6, some 7] rfl (by simp only [hb14, hkhb14, hx15, hkx15, hb18, hkhb18, hb20, hb23, go_sem, List.map_append, List.map_cons, List.map_nil, Option.some.injEq, Prod.mk.injEq, SC.d.injEq, D.l.injEq, List.map_set])
         ·try simp only [hb14, hkhb14, hx15, hkx15, hb18, hkhb18, hb20, hb23, go_sem]
          exact joinQ_c (a11_2) h [some 0, some 1, some 2, some 3, some 4, some 5, some 6, some 7] rfl (by simp only [hb14, hkhb14, hx15, hkx15, hb18, hkhb18, hb20, hb23, go_sem, List.map_append, List.map_cons, List.map_nil, Option.some.injEq, Prod.mk.injEq, SC.d.injEq, D.l.injEq, List.map_set])
        ·try dsimp only at h
         rw [hk22] at h
         try simp only [hkhb14, hx15, hkx15, hkhb18, go_sem]
         exact joinQ_c (b21_1, a11_3) h [some 0, some 1, some 2, some 3, some 4, some 5, some 6, some 7] rfl (by simp only [hkhb14, hx15, hkx15, hkhb18, go_sem, List.map_append, List.map_cons, List.map_nil, Option.some.injEq, Prod.mk.injEq, SC.d.injEq, D.l.injEq, List.map_set])
       ·obtain ⟨k26, hk26, h⟩ := withK_lk0 h
        try simp only [hb14, hkhb14, hx15, hkx15, hb18, hkhb18, hb20, go_sem]
        refine join_lk Try.prog G _ _ (B := Unit) (fun b => k26 = some r) (fun b => [(2, .one (.d (.b p2))), (4, .one (.d (.k (Txn.enc p1)))), (6, .one (.p (.q 0 0 0))), (9, .one (.p (.q 1 0 0))), (10, .one (.p (.q 2 0 0))), (11, .one (.d (.i .i64 ((a11_1 : Nat) : Int))))]) (fun b => [some (.box [.nl 3, .nl 6, .nl 3, .nl 2]), some (.box [.dead, .r 3 0 v3.Locks.length, .r 4 0 v3.Doubts.length, .dead]), some (.box [.r 5 0 a11_2.length, .r 6 0 a11_3.length, .nl 3, .r 7 0 b5_1.length]), some (.arr 6 (v3.Locks.map Lock.enc) false), some (.arr 3 (v3.Doubts.map Doubt.enc) false), some (.arr 3 (a11_2.map Item.enc) false), some (.arr 6 (a11_3.map Lock.enc) false), some (.arr 2 (b5_1.map Txn.enc) false)]) ?_ (fun b h => ?_)
        ·try simp only [hb14, hkhb14, hx15, hkx15, hb18, hkhb18, hb20, go_sem]
         exact joinQ_c () h [some 0, some 1, some 2, some 3, some 4, some 5, some 6, some 7] rfl (by simp only [hb14, hkhb14, hx15, hkx15, hb18, hkhb18, hb20, go_sem, List.map_append, List.map_cons, List.map_nil, Option.some.injEq, Prod.mk.injEq, SC.d.injEq, D.l.injEq, List.map_set])
        ·try dsimp only at h
         rw [hk26] at h
         try simp only [hkhb14, hx15, hkx15, hkhb18, go_sem]
         exact joinQ_c (a11_2, a11_3) h [some 0, some 1, some 2, some 3, some 4, some 5, some 6, some 7] rfl (by simp only [hkhb14, hx15, hkx15, hkhb18, go_sem, List.map_append, List.map_cons, List.map_nil, Option.some.injEq, Prod.mk.injEq, SC.d.injEq, D.l.injEq, List.map_set])
     ·obtain ⟨b16_1, b16_2⟩ := b
      try dsimp only at h
      rw [hk17] at h
      have hw27 := wrap_succ_max hkx15 hl13
      try simp only [hkhb14, hx15, hkx15, hw27, go_sem]
      exact loopQ_c (a11_1 + 1, b16_1, b16_2) h [some 0, some 1, some 2, some 3, some 4, some 5, some 6, some 7] rfl (by simp only [hkhb14, hx15, hkx15, hw27, go_sem, List.map_append, List.map_cons, List.map_nil, Option.some.injEq, Prod.mk.injEq, SC.d.injEq, D.l.injEq, List.map_set])
    ·try simp only [hb14, go_sem]
     exact joinQ_c (a11_2, a11_3) h [some 0, some 1, some 2, some 3, some 4, some 5, some 6, some 7] rfl (by simp only [hb14, go_sem, List.map_append, List.map_cons, List.map_nil, Option.some.injEq, Prod.mk.injEq, SC.d.injEq, D.l.injEq, List.map_set])
   ·obtain ⟨b9_1, b9_2⟩ := b
    try dsimp only at h
    rw [hk10] at h
    obtain ⟨k29, hk29, h⟩ := withK_lk1 h
    try simp only [go_sem]
    refine join_lk Try.prog G _ _ (B := (List Doubt)) (fun b => k29 b = some r) (fun b => [(6, .one (.p (.q 0 0 0))), (10, .one (.p (.q 1 0 0)))]) (fun b => [some (.box [.nl 3, .nl 6, .nl 3, .nl 2]), some (.box [.r 2 0 b9_1.length, .r 3 0 b9_2.length, .r 4 0 b.length, .r 5 0 b5_1.length]), some (.arr 3 (b9_1.map Item.enc) false), some (.arr 6 (b9_2.map Lock.enc) false), some (.arr 3 (b.map Doubt.enc) false), some (.arr 2 (b5_1.map Txn.enc) false)]) ?_ (fun b28_1 h => ?_)
    ·try simp only [go_sem]
     refine loop_lk Try.prog G _ _ (A := Nat × (List Doubt)) (fun n a => reredosref_EndOf_L2 p1 v3 k29 n a.1 a.2 = some r) (fun a => [(4, .one (.d (.k (Txn.enc p1)))), (6, .one (.p (.q 0 0 0))), (9, .one (.p (.q 1 0 0))), (10, .one (.p (.q 2 0 0))), (12, .one (.d (.i .i64 ((a.1 : Nat) : Int))))]) (fun a => [some (.box [.nl 3, .nl 6, .nl 3, .nl 2]), some (.box [.dead, .r 3 0 v3.Locks.length, .r 4 0 v3.Doubts.length, .dead]), some (.box [.r 5 0 b9_1.length, .r 6 0 b9_2.length, .r 7 0 a.2.length, .r 8 0 b5_1.length]), some (.arr 6 (v3.Locks.map Lock.enc) false), some (.arr 3 (v3.Doubts.map Doubt.enc) false), some (.arr 3 (b9_1.map Item.enc) false), some (.arr 6 (b9_2.map Lock.enc) false), some (.arr 3 (a.2.map Doubt.enc) false), some (.arr 2 (b5_1.map Txn.enc) false)]) (v3.Doubts.length + 1) (0, []) h (wk_c _ _ _ [some 0, some 1, some 2, some 3, some 4, some 5, some 6, none, some 7] rfl (by simp only [go_sem, List.map_append, List.map_cons, List.map_nil, Option.some.injEq, Prod.mk.injEq, SC.d.injEq, D.l.injEq, List.map_set])) (fun a h => by simp only [reredosref_EndOf_L2, reduceCtorEq] at h) ?_
     intro n31 a h
     obtain ⟨a30_1, a30_2⟩ := a
     try dsimp only at h
     rw [reredosref_EndOf_L2] at h
     try simp only [go_sem]
     intro hl32
     rcases of_if h with ⟨hb33, h⟩ | ⟨hb33, h⟩
     ·have hkhb33 := of_decide_eq_true hb33
      obtain ⟨x34, hx34, h⟩ := obi h
      have hkx34 := gtx hx34
      try simp only [List.length_take, List.length_drop, List.length_append, List.length_set, List.length_map, List.length_cons, List.length_nil, Nat.zero_add] at hkx34
      obtain ⟨k36, hk36, h⟩ := withK_lk1 h
      try simp only [hb33, hkhb33, hx34, hkx34, go_sem]
      refine join_lk Try.prog G _ _ (B := (List Doubt)) (fun b => k36 b = some r) (fun b => [(4, .one (.d (.k (Txn.enc p1)))), (6, .one (.p (.q 0 0 0))), (9, .one (.p (.q 1 0 0))), (10, .one (.p (.q 2 0 0))), (12, .one (.d (.i .i64 ((a30_1 : Nat) : Int))))]) (fun b => [some (.box [.nl 3, .nl 6, .nl 3, .nl 2]), some (.box [.dead, .r 3 0 v3.Locks.length, .r 4 0 v3.Doubts.length, .dead]), some (.box [.r 5 0 b9_1.length, .r 6 0 b9_2.length, .r 7 0 b.length, .r 8 0 b5_1.length]), some (.arr 6 (v3.Locks.map Lock.enc) false), some (.arr 3 (v3.Doubts.map Doubt.enc) false), some (.arr 3 (b9_1.map Item.enc) false), some (.arr 6 (b9_2.map Lock.enc) false), some (.arr 3 (b.map Doubt.enc) false), some (.arr 2 (b5_1.map Txn.enc) false)]) ?_ (fun b35_1 h => ?_)
      ·rcases of_if h with ⟨hb37, h⟩ | ⟨hb37, h⟩
       ·have hkhb37 := not_eq_t hb37
        try simp only [hb33, hkhb33, hx34, hkx34, hb37, hkhb37, go_sem]
        obtain ⟨hf38, h⟩ := of_chk h
        try simp only [hb33, hkhb33, hx34, hkx34, hb37, hkhb37, hf38, go_sem]
        exact joinQ_c ((a30_2 ++ [x34])) h [some 0, some 1, some 2, some 3, some 4, some 5, some 6, some 25, some 8] rfl (by simp only [hb33, hkhb33, hx34, hkx34, hb37, hkhb37, hf38, go_sem, List.map_append, List.map_cons, List.map_nil, Option.some.injEq, Prod.mk.injEq, SC.d.injEq, D.l.injEq, List.map_set])
       ·have hkhb37 := not_eq_f hb37
        try simp only [hb33, hkhb33, hx34, hkx34, hb37, hkhb37, go_sem]
        try simp only [hb33, hkhb33, hx34, hkx34, hb37, hkhb37, go_sem]
        exact joinQ_c (a30_2) h [some 0, some 1, some 2, some 3, some 4, some 5, some 6, some 7, some 8] rfl (by simp only [hb33, hkhb33, hx34, hkx34, hb37, hkhb37, go_sem, List.map_append, List.map_cons, List.map_nil, Option.some.injEq, Prod.mk.injEq, SC.d.injEq, D.l.injEq, List.map_set])
      ·try dsimp only at h
       rw [hk36] at h
       have hw39 := wrap_succ_max hkx34 hl32
       try simp only [hkhb33, hx34, hkx34, hw39, go_sem]
       exact loopQ_c (a30_1 + 1, b35_1) h [some 0, some 1, some 2, some 3, some 4, some 5, some 6, some 7, some 8] rfl (by simp only [hkhb33, hx34, hkx34, hw39, go_sem, List.map_append, List.map_cons, List.map_nil, Option.some.injEq, Prod.mk.injEq, SC.d.injEq, D.l.injEq, List.map_set])
     ·try simp only [hb33, go_sem]
      exact joinQ_c (a30_2) h [some 0, some 2, some 5, some 6, some 7, some 8] rfl (by simp only [hb33, go_sem, List.map_append, List.map_cons, List.map_nil, Option.some.injEq, Prod.mk.injEq, SC.d.injEq, D.l.injEq, List.map_set])
    ·try dsimp only at h
     rw [hk29] at h
     simp only [Option.some.injEq] at h
     subst h
     try simp only [go_sem, List.map_append, List.map_cons, List.map_nil, List.map_set]
def reredosref_ForcedOf (p0 : Config) (p1 : Int) (p2 : Int) (p3 : List Store) (p4 : List Note) (p5 : Txn) (p6 : Bool) : Option (Answer × Int) := (Option.bind (reredosref_siteFault p0 p1 p2 p3) fun v1 => (if (v1 != 0) = true then (some ((Answer.mk (Store.mk [] [] [] []) [] [] []), v1)) else (if 0 ≤ p1 then (Option.bind (p3[p1.toNat]?) fun x3 => (Option.bind (reredosref_WritesOf x3 p5) fun v5 => (if (v5.2 == 0) = true then (withK (fun (b7_1 : Int) => (if (b7_1 == 0) = true then (withK (fun (b12_1 : Int) => (if (b12_1 != 0) = true then (some ((Answer.mk (Store.mk [] [] [] []) [] [] []), b12_1)) else (Option.bind (reredosref_NotesCopy p4) fun v16 => (if fits 24 (v16.length + 1) then (Option.bind (reredosref_EndOf x3 p5 p6) fun v18 => (some ((Answer.mk v18.1 [] [(Record.mk 6 p5 0 0 0 p6 [])] (v16 ++ [(Note.mk p5 p6 false)])), 0))) else none)))) fun k13 => (if (decide (((p4.length : Nat) : Int) ≥ 60)) = true then (k13 8) else (k13 b7_1))) else (withK (if (b7_1 != 0) = true then (some ((Answer.mk (Store.mk [] [] [] []) [] [] []), b7_1)) else (Option.bind (reredosref_NotesCopy p4) fun v22 => (if fits 24 (v22.length + 1) then (Option.bind (reredosref_EndOf x3 p5 p6) fun v24 => (some ((Answer.mk v24.1 [] [(Record.mk 6 p5 0 0 0 p6 [])] (v22 ++ [(Note.mk p5 p6 false)])), 0))) else none))) fun k20 => k20))) fun k8 => (if (v5.1 == 0) = true then (k8 6) else (k8 v5.2))) else (withK (if (v5.2 == 0) = true then (withK (fun (b29_1 : Int) => (if (b29_1 != 0) = true then (some ((Answer.mk (Store.mk [] [] [] []) [] [] []), b29_1)) else (Option.bind (reredosref_NotesCopy p4) fun v33 => (if fits 24 (v33.length + 1) then (Option.bind (reredosref_EndOf x3 p5 p6) fun v35 => (some ((Answer.mk v35.1 [] [(Record.mk 6 p5 0 0 0 p6 [])] (v33 ++ [(Note.mk p5 p6 false)])), 0))) else none)))) fun k30 => (if (decide (((p4.length : Nat) : Int) ≥ 60)) = true then (k30 8) else (k30 v5.2))) else (withK (if (v5.2 != 0) = true then (some ((Answer.mk (Store.mk [] [] [] []) [] [] []), v5.2)) else (Option.bind (reredosref_NotesCopy p4) fun v39 => (if fits 24 (v39.length + 1) then (Option.bind (reredosref_EndOf x3 p5 p6) fun v41 => (some ((Answer.mk v41.1 [] [(Record.mk 6 p5 0 0 0 p6 [])] (v39 ++ [(Note.mk p5 p6 false)])), 0))) else none))) fun k37 => k37)) fun k26 => k26)))) else none)))
def F10 : VFn := ⟨78, (.seq (.reg [vo 7 (.box 3 (.t 0)), vo 12 (.boxk 2 (.t 5)), vo 14 (.alloc [(.nl 3), (.nl 6), (.nl 3), (.nl 2), (.nl 12), (.nl 8), (.nl 4)]), vo 15 (.mv (ci 0))]) (.seq (.reg [vo 19 (.ld true 3 (.t 7)), vm 20 1, vm 21 2, vm 22 3, vo 23 (.call 14 [(.t 19), (.t 20), (.t 21), (.t 22)]), vm 16 23]) (.seq (.seq (.reg [vm 24 16, vo 25 (.bin .i .neq (.t 24) (ci 0))]) (.cond (.t 25) (.seq (.reg [vo 26 (.build [(.nl 3), (.nl 6), (.nl 3), (.nl 2), (.nl 12), (.nl 8), (.nl 4)] []), vm 27 16, vu (.st 7 (.t 14) (.t 26)), vm 15 27]) .ret) .skip)) (.seq (.draw [vd (vm 29 3) [], vd (vm 30 1) [], vd (vo 31 (.ia 4 (.t 29) (.t 30))) [0, 1], vd (vo 32 (.ld true 4 (.t 31))) [2, 0, 1], vd (vo 33 (.ld true 2 (.t 12))) [], vd (vo 34 (.call 23 [(.t 32), (.t 33)])) [3, 2, 0, 1, 4], vd (vm 28 34) [5, 3, 2, 0, 1, 4], vd (vo 35 (.ext (.t 28) 0)) [6, 5, 3, 2, 0, 1, 4], vd (vo 36 (.ext (.t 28) 1)) [6, 5, 3, 2, 0, 1, 4], vd (vm 17 35) [7, 6, 5, 3, 2, 0, 1, 4], vd (vm 16 36) [8, 6, 5, 3, 2, 0, 1, 4, 9, 7]]) (.seq (.seq (.reg [vm 37 16, vo 38 (.bin .i .eql (.t 37) (ci 0)), vm 39 38, ⟨(some 40), .mv (.t 17), (some (39, true))⟩, ⟨(some 41), .bin .i .eql (.t 40) (ci 0), (some (39, true))⟩, vo 42 (.pick (.t 39) (.t 41) (cb false))]) (.wk (.cond (.t 42) (.reg [vo 16 (.mv (ci 6))]) .skip))) (.seq (.seq (.reg [vm 43 16, vo 44 (.bin .i .eql (.t 43) (ci 0)), vm 45 44, ⟨(some 46), .mv (.t 4), (some (45, true))⟩, ⟨(some 47), .len (.t 46), (some (45, true))⟩, ⟨(some 48), .bin .i .geq (.t 47) (ci 60), (some (45, true))⟩, vo 49 (.pick (.t 45) (.t 48) (cb false))]) (.wk (.cond (.t 49) (.reg [vo 16 (.mv (ci 8))]) .skip))) (.seq (.seq (.reg [vm 50 16, vo 51 (.bin .i .neq (.t 50) (ci 0))]) (.cond (.t 51) (.seq (.reg [vo 52 (.build [(.nl 3), (.nl 6), (.nl 3), (.nl 2), (.nl 12), (.nl 8), (.nl 4)] []), vm 53 16, vu (.st 7 (.t 14) (.t 52)), vm 15 53]) .ret) .skip)) (.seq (.draw [vd (vm 54 4) [], vd (vo 55 (.call 9 [(.t 54)])) [0], ⟨vo 56 (.ld true 2 (.t 12)), [], [1], none, []⟩, ⟨vm 57 6, [], [1], none, []⟩, ⟨vo 58 (.build [(zi 0), (zi 0), (.d (.b false)), (.d (.b false))] [(0, 2, (.t 56)), (2, 1, (.t 57))]), [2, 3], [1], none, []⟩, ⟨vo 59 (.bsl 4 1 [(zi 0), (zi 0), (.d (.b false)), (.d (.b false))] [(0, (.t 58))]), [4, 2, 3], [1], none, []⟩, ⟨vo 60 (.app 4 24 (.t 55) (.t 59)), [1, 0, 5, 4, 2, 3], [], (some 2), []⟩, ⟨vo 61 (.ld true 2 (.t 12)), [], [1, 5, 6], none, [2]⟩, ⟨vm 62 6, [], [1, 5, 6], none, []⟩, ⟨vo 63 (.build [(zi 0), (zi 0), (zi 0), (zi 0), (zi 0), (zi 0), (.d (.b false)), (.nl 1)] [(0, 1, (ci 6)), (1, 2, (.t 61)), (6, 1, (.t 62))]), [7, 8], [1, 5, 6], none, []⟩, ⟨vo 64 (.bsl 8 1 [(zi 0), (zi 0), (zi 0), (zi 0), (zi 0), (zi 0), (.d (.b false)), (.nl 1)] [(0, (.t 63))]), [9, 7, 8], [1, 5, 6], none, [2]⟩, vd (vo 65 (.build [(.nl 3), (.nl 6), (.nl 3), (.nl 2), (.nl 12), (.nl 8), (.nl 4)] [(6, 1, (.t 60)), (5, 1, (.t 64))])) [6, 1, 0, 5, 4, 2, 3, 10, 9, 7, 8], ⟨vo 18 (.alloc [(.nl 3), (.nl 6), (.nl 3), (.nl 2), (.nl 12), (.nl 8), (.nl 4)]), [], [1, 5, 6, 10], none, [2]⟩, vd (vu (.st 7 (.t 18) (.t 65))) [12, 11, 6, 1, 0, 5, 4, 2, 3, 10, 9, 7, 8]]) (.seq (.draw [vd (vm 67 3) [], vd (vm 68 1) [], vd (vo 69 (.ia 4 (.t 67) (.t 68))) [0, 1], vd (vo 70 (.ld true 4 (.t 69))) [2, 0, 1], vd (vo 71 (.ld true 2 (.t 12))) [], vd (vm 72 6) [], vd (vo 73 (.call 24 [(.t 70), (.t 71), (.t 72)])) [3, 2, 0, 1, 4, 5], vd (vm 66 73) [6, 3, 2, 0, 1, 4, 5], vd (vo 74 (.ext (.t 66) 0)) [7, 6, 3, 2, 0, 1, 4, 5], vd (vo 75 (.ext (.t 66) 1)) [7, 6, 3, 2, 0, 1, 4, 5], vd (vo 76 (.fa 0 (.t 18))) [0, 1, 2, 3, 4, 5, 6, 7, 8], vd (vu (.st 4 (.t 76) (.t 74))) [10, 0, 1, 2, 3, 4, 5, 6, 7, 8]]) (.seq (.reg [vo 77 (.ld true 7 (.t 18)), vu (.st 7 (.t 14) (.t 77)), vo 15 (.mv (ci 0))]) .ret)))))))))), [.cell 14 true 7, .t 15]⟩
theorem low10 : lowF Try.prog 10 = some F10.strip := by kernel_rfl
theorem fok10 : fOk Try.prog 10 = true := by kernel_rfl
theorem reredosref_ForcedOf_ok (G : Nat → Option (List D)) (p0 : Config) (p1 : Int) (p2 : Int) (p3 : List Store) (p4 : List Note) (p5 : Txn) (p6 : Bool) (r : Answer × Int) (h : reredosref_ForcedOf p0 p1 p2 p3 p4 p5 p6 = some r) : FnRO Try.prog G 10 [.agg [.d (.i .i64 p0.Sites), .d (.l 2 (p0.Labels.map Label.enc)), .d (.i .i64 p0.Patience)], .one (.d (.i .i64 p1)), .one (.d (.i .i64 p2)), .one (.d (.l 4 (p3.map Store.enc))), .one (.d (.l 4 (p4.map Note.enc))), .agg [.d (.i .i64 p5.Site), .d (.i .i64 p5.N)], .one (.d (.b p6))] (fun rs => rs = [.agg (r.1.enc), .one (.i .i64 r.2)]) := by
 refine FnRO.fz ?_ rfl
 refine FnRO.of' low10 fok10 (by simp [F10]) ?_
 rw [reredosref_ForcedOf] at h
 simp only [F10, go_sem]
 obtain ⟨v1, hv1, h⟩ := obi h
 try simp only [go_sem]
 refine CallV.ro false (reredosref_siteFault_ok G p0 p1 p2 p3 v1 hv1) rfl ?_
 rintro rs rfl
 refine ⟨.inl rfl, ?_⟩
 rcases of_if h with ⟨hb2, h⟩ | ⟨hb2, h⟩
 ·simp only [Option.some.injEq] at h
  subst h
  try simp only [hb2, go_sem, List.map_append, List.map_cons, List.map_nil, List.map_set]
 ·obtain ⟨hn4, h⟩ := of_chk h
  obtain ⟨x3, hx3, h⟩ := obi h
  have hkx3 := gtx hx3
  try simp only [List.length_take, List.length_drop, List.length_append, List.length_set, List.length_map, List.length_cons, List.length_nil, Nat.zero_add] at hkx3
  have hk2x3 : p1 < ((p3.length : Nat) : Int) := by omega
  obtain ⟨v5, hv5, h⟩ := obi h
  try simp only [hb2, hx3, hkx3, hn4, hk2x3, go_sem]
  refine ⟨_, _, CallD.ro false (reredosref_WritesOf_ok G x3 p5 v5 hv5) rfl (.inl rfl) rfl, ?_⟩
  rcases of_if h with ⟨hb6, h⟩ | ⟨hb6, h⟩
  ·obtain ⟨k8, hk8, h⟩ := withK_lk1 h
   try simp only [hb2, hx3, hkx3, hn4, hk2x3, hb6, go_sem]
   refine join_lk Try.prog G _ _ (B := Int) (fun b => k8 b = some r) (fun b => [(1, .one (zi p1)), (3, .one (.d (.l 4 (p3.map Store.enc)))), (4, .one (.d (.l 4 (p4.map Note.enc)))), (6, .one (.d (.b p6))), (12, .one (.d (.k (Txn.enc p5)))), (14, .one (.p (.q 0 0 0))), (16, .one (zi b))]) (fun b => [some (.box [.nl 3, .nl 6, .nl 3, .nl 2, .nl 12, .nl 8, .nl 4])]) ?_ (fun b7_1 h => ?_)
   ·rcases of_if h with ⟨hb9, h⟩ | ⟨hb9, h⟩
    ·try simp only [hb2, hx3, hkx3, hn4, hk2x3, hb6, hb9, go_sem]
     exact joinQ_c (6) h [some 1] rfl (by simp only [hb2, hx3, hkx3, hn4, hk2x3, hb6, hb9, go_sem, List.map_append, List.map_cons, List.map_nil, Option.some.injEq, Prod.mk.injEq, SC.d.injEq, D.l.injEq, List.map_set])
    ·try simp only [hb2, hx3, hkx3, hn4, hk2x3, hb6, hb9, go_sem]
     exact joinQ_c (v5.2) h [some 1] rfl (by simp only [hb2, hx3, hkx3, hn4, hk2x3, hb6, hb9, go_sem, List.map_append, List.map_cons, List.map_nil, Option.some.injEq, Prod.mk.injEq, SC.d.injEq, D.l.injEq, List.map_set])
   ·try dsimp only at h
    rw [hk8] at h
    rcases of_if h with ⟨hb10, h⟩ | ⟨hb10, h⟩
    ·try simp only [hx3, hkx3, hn4, hk2x3, hb10, go_sem]
     intro hl11
     obtain ⟨k13, hk13, h⟩ := withK_lk1 h
     try simp only [hx3, hkx3, hn4, hk2x3, hb10, go_sem]
     refine join_lk Try.prog G _ _ (B := Int) (fun b => k13 b = some r) (fun b => [(1, .one (zi p1)), (3, .one (.d (.l 4 (p3.map Store.enc)))), (4, .one (.d (.l 4 (p4.map Note.enc)))), (6, .one (.d (.b p6))), (12, .one (.d (.k (Txn.enc p5)))), (14, .one (.p (.q 0 0 0))), (16, .one (zi b))]) (fun b => [some (.box [.nl 3, .nl 6, .nl 3, .nl 2, .nl 12, .nl 8, .nl 4])]) ?_ (fun b12_1 h => ?_)
     ·rcases of_if h with ⟨hb14, h⟩ | ⟨hb14, h⟩
      ·try simp only [hx3, hkx3, hn4, hk2x3, hb10, hb14, go_sem]
       exact joinQ_c (8) h [some 0] rfl (by simp only [hx3, hkx3, hn4, hk2x3, hb10, hb14, go_sem, List.map_append, List.map_cons, List.map_nil, Option.some.injEq, Prod.mk.injEq, SC.d.injEq, D.l.injEq, List.map_set])
      ·try simp only [hx3, hkx3, hn4, hk2x3, hb10, hb14, go_sem]
       exact joinQ_c (b7_1) h [some 0] rfl (by simp only [hx3, hkx3, hn4, hk2x3, hb10, hb14, go_sem, List.map_append, List.map_cons, List.map_nil, Option.some.injEq, Prod.mk.injEq, SC.d.injEq, D.l.injEq, List.map_set])
     ·try dsimp only at h
      rw [hk13] at h
      rcases of_if h with ⟨hb15, h⟩ | ⟨hb15, h⟩
      ·simp only [Option.some.injEq] at h
       subst h
       try simp only [hx3, hkx3, hn4, hk2x3, hb15, go_sem, List.map_append, List.map_cons, List.map_nil, List.map_set]
      ·obtain ⟨v16, hv16, h⟩ := obi h
       try simp only [hx3, hkx3, hn4, hk2x3, hb15, go_sem]
       refine ⟨_, _, CallD.ro false (reredosref_NotesCopy_ok G p4 v16 hv16) rfl (.inl rfl) rfl, ?_⟩
       obtain ⟨hf17, h⟩ := of_chk h
       obtain ⟨v18, hv18, h⟩ := obi h
       try simp only [hx3, hkx3, hn4, hk2x3, hb15, hf17, go_sem]
       refine ⟨_, _, CallD.ro false (FnRO.fz' (reredosref_EndOf_ok G x3 p5 p6 v18 hv18) rfl rfl) rfl (.inl rfl) rfl, ?_⟩
       simp only [Option.some.injEq] at h
       subst h
       try simp only [hx3, hkx3, hn4, hk2x3, hb15, hf17, go_sem, List.map_append, List.map_cons, List.map_nil, List.map_set]
    ·obtain ⟨k20, hk20, h⟩ := withK_lk0 h
     try simp only [hx3, hkx3, hn4, hk2x3, hb10, go_sem]
     refine join_lk Try.prog G _ _ (B := Unit) (fun b => k20 = some r) (fun b => [(1, .one (zi p1)), (3, .one (.d (.l 4 (p3.map Store.enc)))), (4, .one (.d (.l 4 (p4.map Note.enc)))), (6, .one (.d (.b p6))), (12, .one (.d (.k (Txn.enc p5)))), (14, .one (.p (.q 0 0 0))), (16, .one (zi b7_1))]) (fun b => [some (.box [.nl 3, .nl 6, .nl 3, .nl 2, .nl 12, .nl 8, .nl 4])]) ?_ (fun b h => ?_)
     ·try simp only [hx3, hkx3, hn4, hk2x3, hb10, go_sem]
      exact joinQ_c () h [some 0] rfl (by simp only [hx3, hkx3, hn4, hk2x3, hb10, go_sem, List.map_append, List.map_cons, List.map_nil, Option.some.injEq, Prod.mk.injEq, SC.d.injEq, D.l.injEq, List.map_set])
     ·try dsimp only at h
      rw [hk20] at h
      rcases of_if h with ⟨hb21, h⟩ | ⟨hb21, h⟩
      ·simp only [Option.some.injEq] at h
       subst h
       try simp only [hx3, hkx3, hn4, hk2x3, hb21, go_sem, List.map_append, List.map_cons, List.map_nil, List.map_set]
      ·obtain ⟨v22, hv22, h⟩ := obi h
       try simp only [hx3, hkx3, hn4, hk2x3, hb21, go_sem]
       refine ⟨_, _, CallD.ro false (reredosref_NotesCopy_ok G p4 v22 hv22) rfl (.inl rfl) rfl, ?_⟩
       obtain ⟨hf23, h⟩ := of_chk h
       obtain ⟨v24, hv24, h⟩ := obi h
       try simp only [hx3, hkx3, hn4, hk2x3, hb21, hf23, go_sem]
       refine ⟨_, _, CallD.ro false (FnRO.fz' (reredosref_EndOf_ok G x3 p5 p6 v24 hv24) rfl rfl) rfl (.inl rfl) rfl, ?_⟩
       simp only [Option.some.injEq] at h
       subst h
       try simp only [hx3, hkx3, hn4, hk2x3, hb21, hf23, go_sem, List.map_append, List.map_cons, List.map_nil, List.map_set]
  ·obtain ⟨k26, hk26, h⟩ := withK_lk0 h
   try simp only [hb2, hx3, hkx3, hn4, hk2x3, hb6, go_sem]
   refine join_lk Try.prog G _ _ (B := Unit) (fun b => k26 = some r) (fun b => [(1, .one (zi p1)), (3, .one (.d (.l 4 (p3.map Store.enc)))), (4, .one (.d (.l 4 (p4.map Note.enc)))), (6, .one (.d (.b p6))), (12, .one (.d (.k (Txn.enc p5)))), (14, .one (.p (.q 0 0 0))), (16, .one (zi v5.2))]) (fun b => [some (.box [.nl 3, .nl 6, .nl 3, .nl 2, .nl 12, .nl 8, .nl 4])]) ?_ (fun b h => ?_)
   ·try simp only [hb2, hx3, hkx3, hn4, hk2x3, hb6, go_sem]
    exact joinQ_c () h [some 1] rfl (by simp only [hb2, hx3, hkx3, hn4, hk2x3, hb6, go_sem, List.map_append, List.map_cons, List.map_nil, Option.some.injEq, Prod.mk.injEq, SC.d.injEq, D.l.injEq, List.map_set])
   ·try dsimp only at h
    rw [hk26] at h
    rcases of_if h with ⟨hb27, h⟩ | ⟨hb27, h⟩
    ·try simp only [hx3, hkx3, hn4, hk2x3, hb27, go_sem]
     intro hl28
     obtain ⟨k30, hk30, h⟩ := withK_lk1 h
     try simp only [hx3, hkx3, hn4, hk2x3, hb27, go_sem]
     refine join_lk Try.prog G _ _ (B := Int) (fun b => k30 b = some r) (fun b => [(1, .one (zi p1)), (3, .one (.d (.l 4 (p3.map Store.enc)))), (4, .one (.d (.l 4 (p4.map Note.enc)))), (6, .one (.d (.b p6))), (12, .one (.d (.k (Txn.enc p5)))), (14, .one (.p (.q 0 0 0))), (16, .one (zi b))]) (fun b => [some (.box [.nl 3, .nl 6, .nl 3, .nl 2, .nl 12, .nl 8, .nl 4])]) ?_ (fun b29_1 h => ?_)
     ·rcases of_if h with ⟨hb31, h⟩ | ⟨hb31, h⟩
      ·try simp only [hx3, hkx3, hn4, hk2x3, hb27, hb31, go_sem]
       exact joinQ_c (8) h [some 0] rfl (by simp only [hx3, hkx3, hn4, hk2x3, hb27, hb31, go_sem, List.map_append, List.map_cons, List.map_nil, Option.some.injEq, Prod.mk.injEq, SC.d.injEq, D.l.injEq, List.map_set])
      ·try simp only [hx3, hkx3, hn4, hk2x3, hb27, hb31, go_sem]
       exact joinQ_c (v5.2) h [some 0] rfl (by simp only [hx3, hkx3, hn4, hk2x3, hb27, hb31, go_sem, List.map_append, List.map_cons, List.map_nil, Option.some.injEq, Prod.mk.injEq, SC.d.injEq, D.l.injEq, List.map_set])
     ·try dsimp only at h
      rw [hk30] at h
      rcases of_if h with ⟨hb32, h⟩ | ⟨hb32, h⟩
      ·simp only [Option.some.injEq] at h
       subst h
       try simp only [hx3, hkx3, hn4, hk2x3, hb32, go_sem, List.map_append, List.map_cons, List.map_nil, List.map_set]
      ·obtain ⟨v33, hv33, h⟩ := obi h
       try simp only [hx3, hkx3, hn4, hk2x3, hb32, go_sem]
       refine ⟨_, _, CallD.ro false (reredosref_NotesCopy_ok G p4 v33 hv33) rfl (.inl rfl) rfl, ?_⟩
       obtain ⟨hf34, h⟩ := of_chk h
       obtain ⟨v35, hv35, h⟩ := obi h
       try simp only [hx3, hkx3, hn4, hk2x3, hb32, hf34, go_sem]
       refine ⟨_, _, CallD.ro false (FnRO.fz' (reredosref_EndOf_ok G x3 p5 p6 v35 hv35) rfl rfl) rfl (.inl rfl) rfl, ?_⟩
       simp only [Option.some.injEq] at h
       subst h
       try simp only [hx3, hkx3, hn4, hk2x3, hb32, hf34, go_sem, List.map_append, List.map_cons, List.map_nil, List.map_set]
    ·obtain ⟨k37, hk37, h⟩ := withK_lk0 h
     try simp only [hx3, hkx3, hn4, hk2x3, hb27, go_sem]
     refine join_lk Try.prog G _ _ (B := Unit) (fun b => k37 = some r) (fun b => [(1, .one (zi p1)), (3, .one (.d (.l 4 (p3.map Store.enc)))), (4, .one (.d (.l 4 (p4.map Note.enc)))), (6, .one (.d (.b p6))), (12, .one (.d (.k (Txn.enc p5)))), (14, .one (.p (.q 0 0 0))), (16, .one (zi v5.2))]) (fun b => [some (.box [.nl 3, .nl 6, .nl 3, .nl 2, .nl 12, .nl 8, .nl 4])]) ?_ (fun b h => ?_)
     ·try simp only [hx3, hkx3, hn4, hk2x3, hb27, go_sem]
      exact joinQ_c () h [some 0] rfl (by simp only [hx3, hkx3, hn4, hk2x3, hb27, go_sem, List.map_append, List.map_cons, List.map_nil, Option.some.injEq, Prod.mk.injEq, SC.d.injEq, D.l.injEq, List.map_set])
     ·try dsimp only at h
      rw [hk37] at h
      rcases of_if h with ⟨hb38, h⟩ | ⟨hb38, h⟩
      ·simp only [Option.some.injEq] at h
       subst h
       try simp only [hx3, hkx3, hn4, hk2x3, hb38, go_sem, List.map_append, List.map_cons, List.map_nil, List.map_set]
      ·obtain ⟨v39, hv39, h⟩ := obi h
       try simp only [hx3, hkx3, hn4, hk2x3, hb38, go_sem]
       refine ⟨_, _, CallD.ro false (reredosref_NotesCopy_ok G p4 v39 hv39) rfl (.inl rfl) rfl, ?_⟩
       obtain ⟨hf40, h⟩ := of_chk h
       obtain ⟨v41, hv41, h⟩ := obi h
       try simp only [hx3, hkx3, hn4, hk2x3, hb38, hf40, go_sem]
       refine ⟨_, _, CallD.ro false (FnRO.fz' (reredosref_EndOf_ok G x3 p5 p6 v41 hv41) rfl rfl) rfl (.inl rfl) rfl, ?_⟩
       simp only [Option.some.injEq] at h
       subst h
       try simp only [hx3, hkx3, hn4, hk2x3, hb38, hf40, go_sem, List.map_append, List.map_cons, List.map_nil, List.map_set]
def reredoslaw_sameTxns_L1 (p0 : List Txn) (p1 : List Txn) (k5 : Option (Bool)) : Nat → Nat → Option (Bool)
 | 0, _ => none
 | n7 + 1, a6_1 => (if (decide (a6_1 < p0.length)) = true then (Option.bind (p0[a6_1]?) fun x10 => (Option.bind (p1[a6_1]?) fun x11 => (if (!((x10.Site == x11.Site) && (x10.N == x11.N))) = true then (some false) else (reredoslaw_sameTxns_L1 p0 p1 k5 n7 (a6_1 + 1))))) else k5)
def reredoslaw_sameTxns (p0 : List Txn) (p1 : List Txn) : Option (Bool) := (if (((p0.length : Nat) : Int) != ((p1.length : Nat) : Int)) = true then (some false) else (withK (some true) fun k5 => (reredoslaw_sameTxns_L1 p0 p1 k5 (p0.length + 1) 0)))
def F37 : VFn := ⟨26, (.seq (.reg [vo 4 (.mv (cb false))]) (.seq (.seq (.reg [vm 6 0, vo 7 (.len (.t 6)), vm 8 1, vo 9 (.len (.t 8)), vo 10 (.bin .i .neq (.t 7) (.t 9))]) (.cond (.t 10) (.seq (.reg [vo 4 (.mv (cb false))]) .ret) .skip)) (.seq (.seq (.reg [vo 5 (.mv (ci 0))]) (.wk (.block 0 (.loop (.seq (.seq (.reg [vm 11 5, vm 12 0, vo 13 (.len (.t 12)), vo 14 (.bin .i .lss (.t 11) (.t 13))]) (.cond (.t 14) .skip (.exit 0))) (.seq (.block 1 (.seq (.draw [vd (vm 17 0) [], vd (vm 18 5) [], vd (vo 19 (.ia 2 (.t 17) (.t 18))) [0, 1], vd (vo 20 (.ld true 2 (.t 19))) [2, 0, 1], vd (vm 21 1) [], vd (vm 22 5) [], vd (vo 23 (.ia 2 (.t 21) (.t 22))) [4, 5], vd (vo 24 (.ld true 2 (.t 23))) [6, 4, 5], vd (vo 25 (.eqs true [.i, .i] (.t 20) (.t 24))) [3, 2, 0, 1, 7, 6, 4, 5]]) (.cond (.t 25) (.seq (.reg [vo 4 (.mv (cb false))]) .ret) .skip))) (.reg [vm 15 5, vo 16 (.bin .i .add (.t 15) (ci 1)), vm 5 16]))))))) (.seq (.reg [vo 4 (.mv (cb true))]) .ret)))), [.t 4]⟩
theorem low37 : lowF Try.prog 37 = some F37.strip := by kernel_rfl
theorem fok37 : fOk Try.prog 37 = true := by kernel_rfl
theorem reredoslaw_sameTxns_ok (G : Nat → Option (List D)) (p0 : List Txn) (p1 : List Txn) (r : Bool) (h : reredoslaw_sameTxns p0 p1 = some r) : FnRO Try.prog G 37 [.one (.d (.l 2 (p0.map Txn.enc))), .one (.d (.l 2 (p1.map Txn.enc)))] (fun rs => rs = [.one (.b r)]) := by
 refine FnRO.of' low37 fok37 (by simp [F37]) ?_
 rw [reredoslaw_sameTxns] at h
 simp only [F37, go_sem]
 try simp only [go_sem]
 intro hl1
 try simp only [go_sem]
 intro hl2
 rcases of_if h with ⟨hb3, h⟩ | ⟨hb3, h⟩
 ·simp only [Option.some.injEq] at h
  subst h
  try simp only [hb3, go_sem, List.map_append, List.map_cons, List.map_nil, List.map_set]
 ·obtain ⟨k5, hk5, h⟩ := withK_lk0 h
  try simp only [hb3, go_sem]
  refine join_lk Try.prog G _ _ (B := Unit) (fun b => k5 = some r) (fun b => []) (fun b => []) ?_ (fun b h => ?_)
  ·try simp only [hb3, go_sem]
   refine loop_lk Try.prog G _ _ (A := Nat) (fun n a => reredoslaw_sameTxns_L1 p0 p1 k5 n a = some r) (fun a => [(0, .one (.d (.l 2 (p0.map Txn.enc)))), (1, .one (.d (.l 2 (p1.map Txn.enc)))), (5, .one (.d (.i .i64 ((a : Nat) : Int))))]) (fun a => []) (p0.length + 1) (0) h (wk_c _ _ _ [] rfl (by simp only [hb3, go_sem, List.map_append, List.map_cons, List.map_nil, Option.some.injEq, Prod.mk.injEq, SC.d.injEq, D.l.injEq, List.map_set])) (fun a h => by simp only [reredoslaw_sameTxns_L1, reduceCtorEq] at h) ?_
   intro n7 a6_1 h
   try dsimp only at h
   rw [reredoslaw_sameTxns_L1] at h
   try simp only [go_sem]
   intro hl8
   rcases of_if h with ⟨hb9, h⟩ | ⟨hb9, h⟩
   ·have hkhb9 := of_decide_eq_true hb9
    obtain ⟨x10, hx10, h⟩ := obi h
    have hkx10 := gtx hx10
    try simp only [List.length_take, List.length_drop, List.length_append, List.length_set, List.length_map, List.length_cons, List.length_nil, Nat.zero_add] at hkx10
    obtain ⟨x11, hx11, h⟩ := obi h
    have hkx11 := gtx hx11
    try simp only [List.length_take, List.length_drop, List.length_append, List.length_set, List.length_map, List.length_cons, List.length_nil, Nat.zero_add] at hkx11
    rcases of_if h with ⟨hb12, h⟩ | ⟨hb12, h⟩
    ·have hkhb12 := not_eq_t hb12
     try simp only [hb9, hkhb9, hx10, hkx10, hx11, hkx11, hb12, hkhb12, go_sem]
     simp only [Option.some.injEq] at h
     subst h
     try simp only [hb9, hkhb9, hx10, hkx10, hx11, hkx11, hb12, hkhb12, go_sem, List.map_append, List.map_cons, List.map_nil, List.map_set]
    ·have hkhb12 := not_eq_f hb12
     try simp only [hb9, hkhb9, hx10, hkx10, hx11, hkx11, hb12, hkhb12, go_sem]
     have hw13 := wrap_succ_max hkx10 hl8
     try simp only [hb9, hkhb9, hx10, hkx10, hx11, hkx11, hb12, hkhb12, hw13, go_sem]
     exact loopQ_c (a6_1 + 1) h [] rfl (by simp only [hb9, hkhb9, hx10, hkx10, hx11, hkx11, hb12, hkhb12, hw13, go_sem, List.map_append, List.map_cons, List.map_nil, Option.some.injEq, Prod.mk.injEq, SC.d.injEq, D.l.injEq, List.map_set])
   ·try simp only [hb9, go_sem]
    exact joinQ_c () h [] rfl (by simp only [hb9, go_sem, List.map_append, List.map_cons, List.map_nil, Option.some.injEq, Prod.mk.injEq, SC.d.injEq, D.l.injEq, List.map_set])
  ·try dsimp only at h
   rw [hk5] at h
   simp only [Option.some.injEq] at h
   subst h
   try simp only [go_sem, List.map_append, List.map_cons, List.map_nil, List.map_set]
def reredoslaw_sameStore_L1 (p0 : Store) (p1 : Store) (k13 : Option (Bool)) : Nat → Nat → Option (Bool)
 | 0, _ => none
 | n15 + 1, a14_1 => (if (decide (a14_1 < p0.Items.length)) = true then (Option.bind (p0.Items[a14_1]?) fun x18 => (Option.bind (p1.Items[a14_1]?) fun x19 => (if (!((x18.Key == x19.Key) && ((x18.Value == x19.Value) && (x18.Version == x19.Version)))) = true then (some false) else (reredoslaw_sameStore_L1 p0 p1 k13 n15 (a14_1 + 1))))) else k13)
def reredoslaw_sameStore_L2 (p0 : Store) (p1 : Store) (k23 : Option (Bool)) : Nat → Nat → Option (Bool)
 | 0, _ => none
 | n25 + 1, a24_1 => (if (decide (a24_1 < p0.Locks.length)) = true then (Option.bind (p0.Locks[a24_1]?) fun x28 => (Option.bind (p1.Locks[a24_1]?) fun x29 => (if (!((x28.Txn.Site == x29.Txn.Site) && ((x28.Txn.N == x29.Txn.N) && ((x28.Key == x29.Key) && ((x28.Write == x29.Write) && ((x28.Value == x29.Value) && (x28.Ask == x29.Ask))))))) = true then (some false) else (reredoslaw_sameStore_L2 p0 p1 k23 n25 (a24_1 + 1))))) else k23)
def reredoslaw_sameStore_L3 (p0 : Store) (p1 : Store) (k33 : Option (Bool)) : Nat → Nat → Option (Bool)
 | 0, _ => none
 | n35 + 1, a34_1 => (if (decide (a34_1 < p0.Doubts.length)) = true then (Option.bind (p0.Doubts[a34_1]?) fun x38 => (Option.bind (p1.Doubts[a34_1]?) fun x39 => (if (!((x38.Txn.Site == x39.Txn.Site) && ((x38.Txn.N == x39.Txn.N) && (x38.Age == x39.Age)))) = true then (some false) else (reredoslaw_sameStore_L3 p0 p1 k33 n35 (a34_1 + 1))))) else k33)
def reredoslaw_sameStore (p0 : Store) (p1 : Store) : Option (Bool) := (if (((p0.Items.length : Nat) : Int) != ((p1.Items.length : Nat) : Int)) = true then (some false) else (if (((p0.Locks.length : Nat) : Int) != ((p1.Locks.length : Nat) : Int)) = true then (some false) else (if (((p0.Doubts.length : Nat) : Int) != ((p1.Doubts.length : Nat) : Int)) = true then (some false) else (Option.bind (reredoslaw_sameTxns p0.Over p1.Over) fun v10 => (if (!v10) = true then (some false) else (withK (withK (withK (some true) fun k33 => (reredoslaw_sameStore_L3 p0 p1 k33 (p0.Doubts.length + 1) 0)) fun k23 => (reredoslaw_sameStore_L2 p0 p1 k23 (p0.Locks.length + 1) 0)) fun k13 => (reredoslaw_sameStore_L1 p0 p1 k13 (p0.Items.length + 1) 0)))))))
def F16 : VFn := ⟨95, (.seq (.reg [vo 2 (.box 4 (.t 0)), vo 3 (.box 4 (.t 1)), vo 4 (.mv (cb false))]) (.seq (.seq (.reg [vo 8 (.fa 0 (.t 2)), vo 9 (.ld false 1 (.t 8)), vo 10 (.len (.t 9)), vo 11 (.fa 0 (.t 3)), vo 12 (.ld false 1 (.t 11)), vo 13 (.len (.t 12)), vo 14 (.bin .i .neq (.t 10) (.t 13)), vm 15 14, ⟨(some 16), .fa 1 (.t 2), (some (15, false))⟩, ⟨(some 17), .ld false 1 (.t 16), (some (15, false))⟩, ⟨(some 18), .len (.t 17), (some (15, false))⟩, ⟨(some 19), .fa 1 (.t 3), (some (15, false))⟩, ⟨(some 20), .ld false 1 (.t 19), (some (15, false))⟩, ⟨(some 21), .len (.t 20), (some (15, false))⟩, ⟨(some 22), .bin .i .neq (.t 18) (.t 21), (some (15, false))⟩, vo 23 (.pick (.t 15) (cb true) (.t 22)), vm 24 23, ⟨(some 25), .fa 2 (.t 2), (some (24, false))⟩, ⟨(some 26), .ld false 1 (.t 25), (some (24, false))⟩, ⟨(some 27), .len (.t 26), (some (24, false))⟩, ⟨(some 28), .fa 2 (.t 3), (some (24, false))⟩, ⟨(some 29), .ld false 1 (.t 28), (some (24, false))⟩, ⟨(some 30), .len (.t 29), (some (24, false))⟩, ⟨(some 31), .bin .i .neq (.t 27) (.t 30), (some (24, false))⟩, vo 32 (.pick (.t 24) (cb true) (.t 31)), vm 33 32, ⟨(some 34), .fa 3 (.t 2), (some (33, false))⟩, ⟨(some 35), .ld false 1 (.t 34), (some (33, false))⟩, ⟨(some 36), .fa 3 (.t 3), (some (33, false))⟩, ⟨(some 37), .ld false 1 (.t 36), (some (33, false))⟩, ⟨(some 38), .call 37 [(.t 35), (.t 37)], (some (33, false))⟩, ⟨(some 39), .un .not (.t 38), (some (33, false))⟩, vo 40 (.pick (.t 33) (cb true) (.t 39))]) (.cond (.t 40) (.seq (.reg [vo 4 (.mv (cb false))]) .ret) .skip)) (.seq (.seq (.reg [vo 5 (.mv (ci 0))]) (.wk (.block 0 (.loop (.seq (.seq (.reg [vm 41 5, vo 42 (.fa 0 (.t 2)), vo 43 (.ld false 1 (.t 42)), vo 44 (.len (.t 43)), vo 45 (.bin .i .lss (.t 41) (.t 44))]) (.cond (.t 45) .skip (.exit 0))) (.seq (.block 1 (.seq (.draw [vd (vo 48 (.fa 0 (.t 2))) [], vd (vo 49 (.ld false 1 (.t 48))) [0], vd (vm 50 5) [], vd (vo 51 (.ia 3 (.t 49) (.t 50))) [1, 0, 2], vd (vo 52 (.ld true 3 (.t 51))) [3, 1, 0, 2], vd (vo 53 (.fa 0 (.t 3))) [], vd (vo 54 (.ld false 1 (.t 53))) [5], vd (vm 55 5) [], vd (vo 56 (.ia 3 (.t 54) (.t 55))) [6, 5, 7], vd (vo 57 (.ld true 3 (.t 56))) [8, 6, 5, 7], vd (vo 58 (.eqs true [.i, .i, .i] (.t 52) (.t 57))) [4, 3, 1, 0, 2, 9, 8, 6, 5, 7]]) (.cond (.t 58) (.seq (.reg [vo 4 (.mv (cb false))]) .ret) .skip))) (.reg [vm 46 5, vo 47 (.bin .i .add (.t 46) (ci 1)), vm 5 47]))))))) (.seq (.seq (.reg [vo 6 (.mv (ci 0))]) (.wk (.block 2 (.loop (.seq (.seq (.reg [vm 59 6, vo 60 (.fa 1 (.t 2)), vo 61 (.ld false 1 (.t 60)), vo 62 (.len (.t 61)), vo 63 (.bin .i .lss (.t 59) (.t 62))]) (.cond (.t 63) .skip (.exit 2))) (.seq (.block 3 (.seq (.draw [vd (vo 66 (.fa 1 (.t 2))) [], vd (vo 67 (.ld false 1 (.t 66))) [0], vd (vm 68 6) [], vd (vo 69 (.ia 6 (.t 67) (.t 68))) [1, 0, 2], vd (vo 70 (.ld true 6 (.t 69))) [3, 1, 0, 2], vd (vo 71 (.fa 1 (.t 3))) [], vd (vo 72 (.ld false 1 (.t 71))) [5], vd (vm 73 6) [], vd (vo 74 (.ia 6 (.t 72) (.t 73))) [6, 5, 7], vd (vo 75 (.ld true 6 (.t 74))) [8, 6, 5, 7], vd (vo 76 (.eqs true [.i, .i, .i, .b, .i, .i] (.t 70) (.t 75))) [4, 3, 1, 0, 2, 9, 8, 6, 5, 7]]) (.cond (.t 76) (.seq (.reg [vo 4 (.mv (cb false))]) .ret) .skip))) (.reg [vm 64 6, vo 65 (.bin .i .add (.t 64) (ci 1)), vm 6 65]))))))) (.seq (.seq (.reg [vo 7 (.mv (ci 0))]) (.wk (.block 4 (.loop (.seq (.seq (.reg [vm 77 7, vo 78 (.fa 2 (.t 2)), vo 79 (.ld false 1 (.t 78)), vo 80 (.len (.t 79)), vo 81 (.bin .i .lss (.t 77) (.t 80))]) (.cond (.t 81) .skip (.exit 4))) (.seq (.block 5 (.seq (.draw [vd (vo 84 (.fa 2 (.t 2))) [], vd (vo 85 (.ld false 1 (.t 84))) [0], vd (vm 86 7) [], vd (vo 87 (.ia 3 (.t 85) (.t 86))) [1, 0, 2], vd (vo 88 (.ld true 3 (.t 87))) [3, 1, 0, 2], vd (vo 89 (.fa 2 (.t 3))) [], vd (vo 90 (.ld false 1 (.t 89))) [5], vd (vm 91 7) [], vd (vo 92 (.ia 3 (.t 90) (.t 91))) [6, 5, 7], vd (vo 93 (.ld true 3 (.t 92))) [8, 6, 5, 7], vd (vo 94 (.eqs true [.i, .i, .i] (.t 88) (.t 93))) [4, 3, 1, 0, 2, 9, 8, 6, 5, 7]]) (.cond (.t 94) (.seq (.reg [vo 4 (.mv (cb false))]) .ret) .skip))) (.reg [vm 82 7, vo 83 (.bin .i .add (.t 82) (ci 1)), vm 7 83]))))))) (.seq (.reg [vo 4 (.mv (cb true))]) .ret)))))), [.t 4]⟩
theorem low16 : lowF Try.prog 16 = some F16.strip := by kernel_rfl
theorem fok16 : fOk Try.prog 16 = true := by kernel_rfl
theorem reredoslaw_sameStore_ok (G : Nat → Option (List D)) (p0 : Store) (p1 : Store) (r : Bool) (h : reredoslaw_sameStore p0 p1 = some r) : FnRO Try.prog G 16 [.agg [.d (.l 3 (p0.Items.map Item.enc)), .d (.l 6 (p0.Locks.map Lock.enc)), .d (.l 3 (p0.Doubts.map Doubt.enc)), .d (.l 2 (p0.Over.map Txn.enc))], .agg [.d (.l 3 (p1.Items.map Item.enc)), .d (.l 6 (p1.Locks.map Lock.enc)), .d (.l 3 (p1.Doubts.map Doubt.enc)), .d (.l 2 (p1.Over.map Txn.enc))]] (fun rs => rs = [.one (.b r)]) := by
 refine FnRO.of' low16 fok16 (by simp [F16]) ?_
 rw [reredoslaw_sameStore] at h
 simp only [F16, go_sem]
 try simp only [go_sem]
 intro hl1
 try simp only [go_sem]
 intro hl2
 rcases of_if h with ⟨hb3, h⟩ | ⟨hb3, h⟩
 ·simp only [Option.some.injEq] at h
  subst h
  try simp only [hb3, go_sem, List.map_append, List.map_cons, List.map_nil, List.map_set]
 ·try simp only [hb3, go_sem]
  intro hl4
  try simp only [hb3, go_sem]
  intro hl5
  rcases of_if h with ⟨hb6, h⟩ | ⟨hb6, h⟩
  ·simp only [Option.some.injEq] at h
   subst h
   try simp only [hb3, hb6, go_sem, List.map_append, List.map_cons, List.map_nil, List.map_set]
  ·try simp only [hb3, hb6, go_sem]
   intro hl7
   try simp only [hb3, hb6, go_sem]
   intro hl8
   rcases of_if h with ⟨hb9, h⟩ | ⟨hb9, h⟩
   ·simp only [Option.some.injEq] at h
    subst h
    try simp only [hb3, hb6, hb9, go_sem, List.map_append, List.map_cons, List.map_nil, List.map_set]
   ·obtain ⟨v10, hv10, h⟩ := obi h
    try simp only [hb3, hb6, hb9, go_sem]
    refine CallV.ro false (reredoslaw_sameTxns_ok G p0.Over p1.Over v10 hv10) rfl ?_
    rintro rs rfl
    refine ⟨.inl rfl, ?_⟩
    rcases of_if h with ⟨hb11, h⟩ | ⟨hb11, h⟩
    ·have hkhb11 := not_eq_t hb11
     simp only [Option.some.injEq] at h
     subst h
     try simp only [hb3, hb6, hb9, hb11, hkhb11, go_sem, List.map_append, List.map_cons, List.map_nil, List.map_set]
    ·have hkhb11 := not_eq_f hb11
     obtain ⟨k13, hk13, h⟩ := withK_lk0 h
     try simp only [hb3, hb6, hb9, hb11, hkhb11, go_sem]
     refine join_lk Try.prog G _ _ (B := Unit) (fun b => k13 = some r) (fun b => [(2, .one (.p (.q 0 0 0))), (3, .one (.p (.q 1 0 0)))]) (fun b => [some (.box p0.bx), some (.box p1.bx)]) ?_ (fun b h => ?_)
     ·try simp only [hb3, hb6, hb9, hb11, hkhb11, go_sem]
      refine loop_lk Try.prog G _ _ (A := Nat) (fun n a => reredoslaw_sameStore_L1 p0 p1 k13 n a = some r) (fun a => [(2, .one (.p (.q 0 0 0))), (3, .one (.p (.q 1 0 0))), (5, .one (.d (.i .i64 ((a : Nat) : Int))))]) (fun a => [some (.box p0.bx), some (.box p1.bx)]) (p0.Items.length + 1) (0) h (wk_c _ _ _ [some 0, some 1] rfl (by simp only [hb3, hb6, hb9, hb11, hkhb11, go_sem, List.map_append, List.map_cons, List.map_nil, Option.some.injEq, Prod.mk.injEq, SC.d.injEq, D.l.injEq, List.map_set])) (fun a h => by simp only [reredoslaw_sameStore_L1, reduceCtorEq] at h) ?_
      intro n15 a14_1 h
      try dsimp only at h
      rw [reredoslaw_sameStore_L1] at h
      try simp only [hkhb11, go_sem]
      intro hl16
      rcases of_if h with ⟨hb17, h⟩ | ⟨hb17, h⟩
      ·have hkhb17 := of_decide_eq_true hb17
       obtain ⟨x18, hx18, h⟩ := obi h
       have hkx18 := gtx hx18
       try simp only [List.length_take, List.length_drop, List.length_append, List.length_set, List.length_map, List.length_cons, List.length_nil, Nat.zero_add] at hkx18
       obtain ⟨x19, hx19, h⟩ := obi h
       have hkx19 := gtx hx19
       try simp only [List.length_take, List.length_drop, List.length_append, List.length_set, List.length_map, List.length_cons, List.length_nil, Nat.zero_add] at hkx19
       rcases of_if h with ⟨hb20, h⟩ | ⟨hb20, h⟩
       ·have hkhb20 := not_eq_t hb20
        try simp only [hkhb11, hb17, hkhb17, hx18, hkx18, hx19, hkx19, hb20, hkhb20, go_sem]
        simp only [Option.some.injEq] at h
        subst h
        try simp only [hkhb11, hb17, hkhb17, hx18, hkx18, hx19, hkx19, hb20, hkhb20, go_sem, List.map_append, List.map_cons, List.map_nil, List.map_set]
       ·have hkhb20 := not_eq_f hb20
        try simp only [hkhb11, hb17, hkhb17, hx18, hkx18, hx19, hkx19, hb20, hkhb20, go_sem]
        have hw21 := wrap_succ_max hkx18 hl16
        try simp only [hkhb11, hb17, hkhb17, hx18, hkx18, hx19, hkx19, hb20, hkhb20, hw21, go_sem]
        exact loopQ_c (a14_1 + 1) h [some 0, some 1] rfl (by simp only [hkhb11, hb17, hkhb17, hx18, hkx18, hx19, hkx19, hb20, hkhb20, hw21, go_sem, List.map_append, List.map_cons, List.map_nil, Option.some.injEq, Prod.mk.injEq, SC.d.injEq, D.l.injEq, List.map_set])
      ·try simp only [hkhb11, hb17, go_sem]
       exact joinQ_c () h [some 0, some 1] rfl (by simp only [hkhb11, hb17, go_sem, List.map_append, List.map_cons, List.map_nil, Option.some.injEq, Prod.mk.injEq, SC.d.injEq, D.l.injEq, List.map_set])
     ·try dsimp only at h
      rw [hk13] at h
      obtain ⟨k23, hk23, h⟩ := withK_lk0 h
      try simp only [hkhb11, go_sem]
      refine join_lk Try.prog G _ _ (B := Unit) (fun b => k23 = some r) (fun b => [(2, .one (.p (.q 0 0 0))), (3, .one (.p (.q 1 0 0)))]) (fun b => [some (.box p0.bx), some (.box p1.bx)]) ?_ (fun b h => ?_)
      ·try simp only [hkhb11, go_sem]
       refine loop_lk Try.prog G _ _ (A := Nat) (fun n a => reredoslaw_sameStore_L2 p0 p1 k23 n a = some r) (fun a => [(2, .one (.p (.q 0 0 0))), (3, .one (.p (.q 1 0 0))), (6, .one (.d (.i .i64 ((a : Nat) : Int))))]) (fun a => [some (.box p0.bx), some (.box p1.bx)]) (p0.Locks.length + 1) (0) h (wk_c _ _ _ [some 0, some 1] rfl (by simp only [hkhb11, go_sem, List.map_append, List.map_cons, List.map_nil, Option.some.injEq, Prod.mk.injEq, SC.d.injEq, D.l.injEq, List.map_set])) (fun a h => by simp only [reredoslaw_sameStore_L2, reduceCtorEq] at h) ?_
       intro n25 a24_1 h
       try dsimp only at h
       rw [reredoslaw_sameStore_L2] at h
       try simp only [hkhb11, go_sem]
       intro hl26
       rcases of_if h with ⟨hb27, h⟩ | ⟨hb27, h⟩
       ·have hkhb27 := of_decide_eq_true hb27
        obtain ⟨x28, hx28, h⟩ := obi h
        have hkx28 := gtx hx28
        try simp only [List.length_take, List.length_drop, List.length_append, List.length_set, List.length_map, List.length_cons, List.length_nil, Nat.zero_add] at hkx28
        obtain ⟨x29, hx29, h⟩ := obi h
        have hkx29 := gtx hx29
        try simp only [List.length_take, List.length_drop, List.length_append, List.length_set, List.length_map, List.length_cons, List.length_nil, Nat.zero_add] at hkx29
        rcases of_if h with ⟨hb30, h⟩ | ⟨hb30, h⟩
        ·have hkhb30 := not_eq_t hb30
         try simp only [hkhb11, hb27, hkhb27, hx28, hkx28, hx29, hkx29, hb30, hkhb30, go_sem]
         simp only [Option.some.injEq] at h
         subst h
         try simp only [hkhb11, hb27, hkhb27, hx28, hkx28, hx29, hkx29, hb30, hkhb30, go_sem, List.map_append, List.map_cons, List.map_nil, List.map_set]
        ·have hkhb30 := not_eq_f hb30
         try simp only [hkhb11, hb27, hkhb27, hx28, hkx28, hx29, hkx29, hb30, hkhb30, go_sem]
         have hw31 := wrap_succ_max hkx28 hl26
         try simp only [hkhb11, hb27, hkhb27, hx28, hkx28, hx29, hkx29, hb30, hkhb30, hw31, go_sem]
         exact loopQ_c (a24_1 + 1) h [some 0, some 1] rfl (by simp only [hkhb11, hb27, hkhb27, hx28, hkx28, hx29, hkx29, hb30, hkhb30, hw31, go_sem, List.map_append, List.map_cons, List.map_nil, Option.some.injEq, Prod.mk.injEq, SC.d.injEq, D.l.injEq, List.map_set])
       ·try simp only [hkhb11, hb27, go_sem]
        exact joinQ_c () h [some 0, some 1] rfl (by simp only [hkhb11, hb27, go_sem, List.map_append, List.map_cons, List.map_nil, Option.some.injEq, Prod.mk.injEq, SC.d.injEq, D.l.injEq, List.map_set])
      ·try dsimp only at h
       rw [hk23] at h
       obtain ⟨k33, hk33, h⟩ := withK_lk0 h
       try simp only [hkhb11, go_sem]
       refine join_lk Try.prog G _ _ (B := Unit) (fun b => k33 = some r) (fun b => []) (fun b => []) ?_ (fun b h => ?_)
       ·try simp only [hkhb11, go_sem]
        refine loop_lk Try.prog G _ _ (A := Nat) (fun n a => reredoslaw_sameStore_L3 p0 p1 k33 n a = some r) (fun a => [(2, .one (.p (.q 0 0 0))), (3, .one (.p (.q 1 0 0))), (7, .one (.d (.i .i64 ((a : Nat) : Int))))]) (fun a => [some (.box p0.bx), some (.box p1.bx)]) (p0.Doubts.length + 1) (0) h (wk_c _ _ _ [some 0, some 1] rfl (by simp only [hkhb11, go_sem, List.map_append, List.map_cons, List.map_nil, Option.some.injEq, Prod.mk.injEq, SC.d.injEq, D.l.injEq, List.map_set])) (fun a h => by simp only [reredoslaw_sameStore_L3, reduceCtorEq] at h) ?_
        intro n35 a34_1 h
        try dsimp only at h
        rw [reredoslaw_sameStore_L3] at h
        try simp only [hkhb11, go_sem]
        intro hl36
        rcases of_if h with ⟨hb37, h⟩ | ⟨hb37, h⟩
        ·have hkhb37 := of_decide_eq_true hb37
         obtain ⟨x38, hx38, h⟩ := obi h
         have hkx38 := gtx hx38
         try simp only [List.length_take, List.length_drop, List.length_append, List.length_set, List.length_map, List.length_cons, List.length_nil, Nat.zero_add] at hkx38
         obtain ⟨x39, hx39, h⟩ := obi h
         have hkx39 := gtx hx39
         try simp only [List.length_take, List.length_drop, List.length_append, List.length_set, List.length_map, List.length_cons, List.length_nil, Nat.zero_add] at hkx39
         rcases of_if h with ⟨hb40, h⟩ | ⟨hb40, h⟩
         ·have hkhb40 := not_eq_t hb40
          try simp only [hkhb11, hb37, hkhb37, hx38, hkx38, hx39, hkx39, hb40, hkhb40, go_sem]
          simp only [Option.some.injEq] at h
          subst h
          try simp only [hkhb11, hb37, hkhb37, hx38, hkx38, hx39, hkx39, hb40, hkhb40, go_sem, List.map_append, List.map_cons, List.map_nil, List.map_set]
         ·have hkhb40 := not_eq_f hb40
          try simp only [hkhb11, hb37, hkhb37, hx38, hkx38, hx39, hkx39, hb40, hkhb40, go_sem]
          have hw41 := wrap_succ_max hkx38 hl36
          try simp only [hkhb11, hb37, hkhb37, hx38, hkx38, hx39, hkx39, hb40, hkhb40, hw41, go_sem]
          exact loopQ_c (a34_1 + 1) h [some 0, some 1] rfl (by simp only [hkhb11, hb37, hkhb37, hx38, hkx38, hx39, hkx39, hb40, hkhb40, hw41, go_sem, List.map_append, List.map_cons, List.map_nil, Option.some.injEq, Prod.mk.injEq, SC.d.injEq, D.l.injEq, List.map_set])
        ·try simp only [hkhb11, hb37, go_sem]
         exact joinQ_c () h [] rfl (by simp only [hkhb11, hb37, go_sem, List.map_append, List.map_cons, List.map_nil, Option.some.injEq, Prod.mk.injEq, SC.d.injEq, D.l.injEq, List.map_set])
       ·try dsimp only at h
        rw [hk33] at h
        simp only [Option.some.injEq] at h
        subst h
        try simp only [hkhb11, go_sem, List.map_append, List.map_cons, List.map_nil, List.map_set]
def reredoslaw_sameMessages_L1 (p0 : List Message) (p1 : List Message) (k5 : Option (Bool)) : Nat → Nat → Option (Bool)
 | 0, _ => none
 | n7 + 1, a6_1 => (if (decide (a6_1 < p0.length)) = true then (Option.bind (p0[a6_1]?) fun x10 => (Option.bind (p1[a6_1]?) fun x11 => (if (!((x10.Kind == x11.Kind) && ((x10.From == x11.From) && ((x10.To == x11.To) && ((x10.Txn.Site == x11.Txn.Site) && ((x10.Txn.N == x11.Txn.N) && ((x10.Label == x11.Label) && ((x10.Key == x11.Key) && ((x10.Value == x11.Value) && ((x10.Version == x11.Version) && ((x10.Ask == x11.Ask) && ((x10.Yes == x11.Yes) && (x10.Code == x11.Code))))))))))))) = true then (some false) else (reredoslaw_sameMessages_L1 p0 p1 k5 n7 (a6_1 + 1))))) else k5)
def reredoslaw_sameMessages (p0 : List Message) (p1 : List Message) : Option (Bool) := (if (((p0.length : Nat) : Int) != ((p1.length : Nat) : Int)) = true then (some false) else (withK (some true) fun k5 => (reredoslaw_sameMessages_L1 p0 p1 k5 (p0.length + 1) 0)))
def F17 : VFn := ⟨26, (.seq (.reg [vo 4 (.mv (cb false))]) (.seq (.seq (.reg [vm 6 0, vo 7 (.len (.t 6)), vm 8 1, vo 9 (.len (.t 8)), vo 10 (.bin .i .neq (.t 7) (.t 9))]) (.cond (.t 10) (.seq (.reg [vo 4 (.mv (cb false))]) .ret) .skip)) (.seq (.seq (.reg [vo 5 (.mv (ci 0))]) (.wk (.block 0 (.loop (.seq (.seq (.reg [vm 11 5, vm 12 0, vo 13 (.len (.t 12)), vo 14 (.bin .i .lss (.t 11) (.t 13))]) (.cond (.t 14) .skip (.exit 0))) (.seq (.block 1 (.seq (.draw [vd (vm 17 0) [], vd (vm 18 5) [], vd (vo 19 (.ia 12 (.t 17) (.t 18))) [0, 1], vd (vo 20 (.ld true 12 (.t 19))) [2, 0, 1], vd (vm 21 1) [], vd (vm 22 5) [], vd (vo 23 (.ia 12 (.t 21) (.t 22))) [4, 5], vd (vo 24 (.ld true 12 (.t 23))) [6, 4, 5], vd (vo 25 (.eqs true [.i, .i, .i, .i, .i, .i, .i, .i, .i, .i, .b, .i] (.t 20) (.t 24))) [3, 2, 0, 1, 7, 6, 4, 5]]) (.cond (.t 25) (.seq (.reg [vo 4 (.mv (cb false))]) .ret) .skip))) (.reg [vm 15 5, vo 16 (.bin .i .add (.t 15) (ci 1)), vm 5 16]))))))) (.seq (.reg [vo 4 (.mv (cb true))]) .ret)))), [.t 4]⟩
theorem low17 : lowF Try.prog 17 = some F17.strip := by kernel_rfl
theorem fok17 : fOk Try.prog 17 = true := by kernel_rfl
theorem reredoslaw_sameMessages_ok (G : Nat → Option (List D)) (p0 : List Message) (p1 : List Message) (r : Bool) (h : reredoslaw_sameMessages p0 p1 = some r) : FnRO Try.prog G 17 [.one (.d (.l 12 (p0.map Message.enc))), .one (.d (.l 12 (p1.map Message.enc)))] (fun rs => rs = [.one (.b r)]) := by
 refine FnRO.of' low17 fok17 (by simp [F17]) ?_
 rw [reredoslaw_sameMessages] at h
 simp only [F17, go_sem]
 try simp only [go_sem]
 intro hl1
 try simp only [go_sem]
 intro hl2
 rcases of_if h with ⟨hb3, h⟩ | ⟨hb3, h⟩
 ·simp only [Option.some.injEq] at h
  subst h
  try simp only [hb3, go_sem, List.map_append, List.map_cons, List.map_nil, List.map_set]
 ·obtain ⟨k5, hk5, h⟩ := withK_lk0 h
  try simp only [hb3, go_sem]
  refine join_lk Try.prog G _ _ (B := Unit) (fun b => k5 = some r) (fun b => []) (fun b => []) ?_ (fun b h => ?_)
  ·try simp only [hb3, go_sem]
   refine loop_lk Try.prog G _ _ (A := Nat) (fun n a => reredoslaw_sameMessages_L1 p0 p1 k5 n a = some r) (fun a => [(0, .one (.d (.l 12 (p0.map Message.enc)))), (1, .one (.d (.l 12 (p1.map Message.enc)))), (5, .one (.d (.i .i64 ((a : Nat) : Int))))]) (fun a => []) (p0.length + 1) (0) h (wk_c _ _ _ [] rfl (by simp only [hb3, go_sem, List.map_append, List.map_cons, List.map_nil, Option.some.injEq, Prod.mk.injEq, SC.d.injEq, D.l.injEq, List.map_set])) (fun a h => by simp only [reredoslaw_sameMessages_L1, reduceCtorEq] at h) ?_
   intro n7 a6_1 h
   try dsimp only at h
   rw [reredoslaw_sameMessages_L1] at h
   try simp only [go_sem]
   intro hl8
   rcases of_if h with ⟨hb9, h⟩ | ⟨hb9, h⟩
   ·have hkhb9 := of_decide_eq_true hb9
    obtain ⟨x10, hx10, h⟩ := obi h
    have hkx10 := gtx hx10
    try simp only [List.length_take, List.length_drop, List.length_append, List.length_set, List.length_map, List.length_cons, List.length_nil, Nat.zero_add] at hkx10
    obtain ⟨x11, hx11, h⟩ := obi h
    have hkx11 := gtx hx11
    try simp only [List.length_take, List.length_drop, List.length_append, List.length_set, List.length_map, List.length_cons, List.length_nil, Nat.zero_add] at hkx11
    rcases of_if h with ⟨hb12, h⟩ | ⟨hb12, h⟩
    ·have hkhb12 := not_eq_t hb12
     try simp only [hb9, hkhb9, hx10, hkx10, hx11, hkx11, hb12, hkhb12, go_sem]
     simp only [Option.some.injEq] at h
     subst h
     try simp only [hb9, hkhb9, hx10, hkx10, hx11, hkx11, hb12, hkhb12, go_sem, List.map_append, List.map_cons, List.map_nil, List.map_set]
    ·have hkhb12 := not_eq_f hb12
     try simp only [hb9, hkhb9, hx10, hkx10, hx11, hkx11, hb12, hkhb12, go_sem]
     have hw13 := wrap_succ_max hkx10 hl8
     try simp only [hb9, hkhb9, hx10, hkx10, hx11, hkx11, hb12, hkhb12, hw13, go_sem]
     exact loopQ_c (a6_1 + 1) h [] rfl (by simp only [hb9, hkhb9, hx10, hkx10, hx11, hkx11, hb12, hkhb12, hw13, go_sem, List.map_append, List.map_cons, List.map_nil, Option.some.injEq, Prod.mk.injEq, SC.d.injEq, D.l.injEq, List.map_set])
   ·try simp only [hb9, go_sem]
    exact joinQ_c () h [] rfl (by simp only [hb9, go_sem, List.map_append, List.map_cons, List.map_nil, Option.some.injEq, Prod.mk.injEq, SC.d.injEq, D.l.injEq, List.map_set])
  ·try dsimp only at h
   rw [hk5] at h
   simp only [Option.some.injEq] at h
   subst h
   try simp only [go_sem, List.map_append, List.map_cons, List.map_nil, List.map_set]
def reredoslaw_sameInts_L1 (p0 : List Int) (p1 : List Int) (k5 : Option (Bool)) : Nat → Nat → Option (Bool)
 | 0, _ => none
 | n7 + 1, a6_1 => (if (decide (a6_1 < p0.length)) = true then (Option.bind (p0[a6_1]?) fun x10 => (Option.bind (p1[a6_1]?) fun x11 => (if (x10 != x11) = true then (some false) else (reredoslaw_sameInts_L1 p0 p1 k5 n7 (a6_1 + 1))))) else k5)
def reredoslaw_sameInts (p0 : List Int) (p1 : List Int) : Option (Bool) := (if (((p0.length : Nat) : Int) != ((p1.length : Nat) : Int)) = true then (some false) else (withK (some true) fun k5 => (reredoslaw_sameInts_L1 p0 p1 k5 (p0.length + 1) 0)))
def F56 : VFn := ⟨26, (.seq (.reg [vo 4 (.mv (cb false))]) (.seq (.seq (.reg [vm 6 0, vo 7 (.len (.t 6)), vm 8 1, vo 9 (.len (.t 8)), vo 10 (.bin .i .neq (.t 7) (.t 9))]) (.cond (.t 10) (.seq (.reg [vo 4 (.mv (cb false))]) .ret) .skip)) (.seq (.seq (.reg [vo 5 (.mv (ci 0))]) (.wk (.block 0 (.loop (.seq (.seq (.reg [vm 11 5, vm 12 0, vo 13 (.len (.t 12)), vo 14 (.bin .i .lss (.t 11) (.t 13))]) (.cond (.t 14) .skip (.exit 0))) (.seq (.block 1 (.seq (.draw [vd (vm 17 0) [], vd (vm 18 5) [], vd (vo 19 (.ia 1 (.t 17) (.t 18))) [0, 1], vd (vo 20 (.ld false 1 (.t 19))) [2, 0, 1], vd (vm 21 1) [], vd (vm 22 5) [], vd (vo 23 (.ia 1 (.t 21) (.t 22))) [4, 5], vd (vo 24 (.ld false 1 (.t 23))) [6, 4, 5], vd (vo 25 (.bin .i .neq (.t 20) (.t 24))) [3, 2, 0, 1, 7, 6, 4, 5]]) (.cond (.t 25) (.seq (.reg [vo 4 (.mv (cb false))]) .ret) .skip))) (.reg [vm 15 5, vo 16 (.bin .i .add (.t 15) (ci 1)), vm 5 16]))))))) (.seq (.reg [vo 4 (.mv (cb true))]) .ret)))), [.t 4]⟩
theorem low56 : lowF Try.prog 56 = some F56.strip := by kernel_rfl
theorem fok56 : fOk Try.prog 56 = true := by kernel_rfl
theorem reredoslaw_sameInts_ok (G : Nat → Option (List D)) (p0 : List Int) (p1 : List Int) (r : Bool) (h : reredoslaw_sameInts p0 p1 = some r) : FnRO Try.prog G 56 [.one (.d (.l 1 (p0.map encI))), .one (.d (.l 1 (p1.map encI)))] (fun rs => rs = [.one (.b r)]) := by
 refine FnRO.of' low56 fok56 (by simp [F56]) ?_
 rw [reredoslaw_sameInts] at h
 simp only [F56, go_sem]
 try simp only [go_sem]
 intro hl1
 try simp only [go_sem]
 intro hl2
 rcases of_if h with ⟨hb3, h⟩ | ⟨hb3, h⟩
 ·simp only [Option.some.injEq] at h
  subst h
  try simp only [hb3, go_sem, List.map_append, List.map_cons, List.map_nil, List.map_set]
 ·obtain ⟨k5, hk5, h⟩ := withK_lk0 h
  try simp only [hb3, go_sem]
  refine join_lk Try.prog G _ _ (B := Unit) (fun b => k5 = some r) (fun b => []) (fun b => []) ?_ (fun b h => ?_)
  ·try simp only [hb3, go_sem]
   refine loop_lk Try.prog G _ _ (A := Nat) (fun n a => reredoslaw_sameInts_L1 p0 p1 k5 n a = some r) (fun a => [(0, .one (.d (.l 1 (p0.map encI)))), (1, .one (.d (.l 1 (p1.map encI)))), (5, .one (.d (.i .i64 ((a : Nat) : Int))))]) (fun a => []) (p0.length + 1) (0) h (wk_c _ _ _ [] rfl (by simp only [hb3, go_sem, List.map_append, List.map_cons, List.map_nil, Option.some.injEq, Prod.mk.injEq, SC.d.injEq, D.l.injEq, List.map_set])) (fun a h => by simp only [reredoslaw_sameInts_L1, reduceCtorEq] at h) ?_
   intro n7 a6_1 h
   try dsimp only at h
   rw [reredoslaw_sameInts_L1] at h
   try simp only [go_sem]
   intro hl8
   rcases of_if h with ⟨hb9, h⟩ | ⟨hb9, h⟩
   ·have hkhb9 := of_decide_eq_true hb9
    obtain ⟨x10, hx10, h⟩ := obi h
    have hkx10 := gtx hx10
    try simp only [List.length_take, List.length_drop, List.length_append, List.length_set, List.length_map, List.length_cons, List.length_nil, Nat.zero_add] at hkx10
    obtain ⟨x11, hx11, h⟩ := obi h
    have hkx11 := gtx hx11
    try simp only [List.length_take, List.length_drop, List.length_append, List.length_set, List.length_map, List.length_cons, List.length_nil, Nat.zero_add] at hkx11
    rcases of_if h with ⟨hb12, h⟩ | ⟨hb12, h⟩
    ·simp only [Option.some.injEq] at h
     subst h
     try simp only [hb9, hkhb9, hx10, hkx10, hx11, hkx11, hb12, go_sem, List.map_append, List.map_cons, List.map_nil, List.map_set]
    ·have hw13 := wrap_succ_max hkx10 hl8
     try simp only [hb9, hkhb9, hx10, hkx10, hx11, hkx11, hb12, hw13, go_sem]
     exact loopQ_c (a6_1 + 1) h [] rfl (by simp only [hb9, hkhb9, hx10, hkx10, hx11, hkx11, hb12, hw13, go_sem, List.map_append, List.map_cons, List.map_nil, Option.some.injEq, Prod.mk.injEq, SC.d.injEq, D.l.injEq, List.map_set])
   ·try simp only [hb9, go_sem]
    exact joinQ_c () h [] rfl (by simp only [hb9, go_sem, List.map_append, List.map_cons, List.map_nil, Option.some.injEq, Prod.mk.injEq, SC.d.injEq, D.l.injEq, List.map_set])
  ·try dsimp only at h
   rw [hk5] at h
   simp only [Option.some.injEq] at h
   subst h
   try simp only [go_sem, List.map_append, List.map_cons, List.map_nil, List.map_set]
def reredoslaw_sameRecord (p0 : Record) (p1 : Record) : Option (Bool) := (withK (fun (b1_1 : Bool) => (some b1_1)) fun k2 => (if (p0.Kind == p1.Kind) = true then (if ((p0.Txn.Site == p1.Txn.Site) && (p0.Txn.N == p1.Txn.N)) = true then (if (p0.Key == p1.Key) = true then (if (p0.Value == p1.Value) = true then (if (p0.Ask == p1.Ask) = true then (if (p0.Yes == p1.Yes) = true then (Option.bind (reredoslaw_sameInts p0.Sites p1.Sites) fun v9 => (k2 v9)) else (k2 false)) else (k2 false)) else (k2 false)) else (k2 false)) else (k2 false)) else (k2 false)))
def F38 : VFn := ⟨52, (.seq (.reg [vo 2 (.box 8 (.t 0)), vo 3 (.box 8 (.t 1)), vo 4 (.mv (cb false))]) (.seq (.wk (.reg [vo 5 (.fa 0 (.t 2)), vo 6 (.ld false 1 (.t 5)), vo 7 (.fa 0 (.t 3)), vo 8 (.ld false 1 (.t 7)), vo 9 (.bin .i .eql (.t 6) (.t 8)), vm 10 9, ⟨(some 11), .fa 1 (.t 2), (some (10, true))⟩, ⟨(some 12), .ld true 2 (.t 11), (some (10, true))⟩, ⟨(some 13), .fa 1 (.t 3), (some (10, true))⟩, ⟨(some 14), .ld true 2 (.t 13), (some (10, true))⟩, ⟨(some 15), .eqs false [.i, .i] (.t 12) (.t 14), (some (10, true))⟩, vo 16 (.pick (.t 10) (.t 15) (cb false)), vm 17 16, ⟨(some 18), .fa 3 (.t 2), (some (17, true))⟩, ⟨(some 19), .ld false 1 (.t 18), (some (17, true))⟩, ⟨(some 20), .fa 3 (.t 3), (some (17, true))⟩, ⟨(some 21), .ld false 1 (.t 20), (some (17, true))⟩, ⟨(some 22), .bin .i .eql (.t 19) (.t 21), (some (17, true))⟩, vo 23 (.pick (.t 17) (.t 22) (cb false)), vm 24 23, ⟨(some 25), .fa 4 (.t 2), (some (24, true))⟩, ⟨(some 26), .ld false 1 (.t 25), (some (24, true))⟩, ⟨(some 27), .fa 4 (.t 3), (some (24, true))⟩, ⟨(some 28), .ld false 1 (.t 27), (some (24, true))⟩, ⟨(some 29), .bin .i .eql (.t 26) (.t 28), (some (24, true))⟩, vo 30 (.pick (.t 24) (.t 29) (cb false)), vm 31 30, ⟨(some 32), .fa 5 (.t 2), (some (31, true))⟩, ⟨(some 33), .ld false 1 (.t 32), (some (31, true))⟩, ⟨(some 34), .fa 5 (.t 3), (some (31, true))⟩, ⟨(some 35), .ld false 1 (.t 34), (some (31, true))⟩, ⟨(some 36), .bin .i .eql (.t 33) (.t 35), (some (31, true))⟩, vo 37 (.pick (.t 31) (.t 36) (cb false)), vm 38 37, ⟨(some 39), .fa 6 (.t 2), (some (38, true))⟩, ⟨(some 40), .ld false 1 (.t 39), (some (38, true))⟩, ⟨(some 41), .fa 6 (.t 3), (some (38, true))⟩, ⟨(some 42), .ld false 1 (.t 41), (some (38, true))⟩, ⟨(some 43), .bin .b .eql (.t 40) (.t 42), (some (38, true))⟩, vo 44 (.pick (.t 38) (.t 43) (cb false)), vm 45 44, ⟨(some 46), .fa 7 (.t 2), (some (45, true))⟩, ⟨(some 47), .ld false 1 (.t 46), (some (45, true))⟩, ⟨(some 48), .fa 7 (.t 3), (some (45, true))⟩, ⟨(some 49), .ld false 1 (.t 48), (some (45, true))⟩, ⟨(some 50), .call 56 [(.t 47), (.t 49)], (some (45, true))⟩, vo 51 (.pick (.t 45) (.t 50) (cb false)), vm 4 51])) .ret)), [.t 4]⟩
theorem low38 : lowF Try.prog 38 = some F38.strip := by kernel_rfl
theorem fok38 : fOk Try.prog 38 = true := by kernel_rfl
theorem reredoslaw_sameRecord_ok (G : Nat → Option (List D)) (p0 : Record) (p1 : Record) (r : Bool) (h : reredoslaw_sameRecord p0 p1 = some r) : FnRO Try.prog G 38 [.agg [.d (.i .i64 p0.Kind), .d (.i .i64 p0.Txn.Site), .d (.i .i64 p0.Txn.N), .d (.i .i64 p0.Key), .d (.i .i64 p0.Value), .d (.i .i64 p0.Ask), .d (.b p0.Yes), .d (.l 1 (p0.Sites.map encI))], .agg [.d (.i .i64 p1.Kind), .d (.i .i64 p1.Txn.Site), .d (.i .i64 p1.Txn.N), .d (.i .i64 p1.Key), .d (.i .i64 p1.Value), .d (.i .i64 p1.Ask), .d (.b p1.Yes), .d (.l 1 (p1.Sites.map encI))]] (fun rs => rs = [.one (.b r)]) := by
 refine FnRO.of' low38 fok38 (by simp [F38]) ?_
 rw [reredoslaw_sameRecord] at h
 simp only [F38, go_sem]
 obtain ⟨k2, hk2, h⟩ := withK_lk1 h
 try simp only [go_sem]
 refine join_lk Try.prog G _ _ (B := Bool) (fun b => k2 b = some r) (fun b => [(4, .one (.d (.b b)))]) (fun b => []) ?_ (fun b1_1 h => ?_)
 ·rcases of_if h with ⟨hb3, h⟩ | ⟨hb3, h⟩
  ·rcases of_if h with ⟨hb4, h⟩ | ⟨hb4, h⟩
   ·try simp only [hb3, hb4, go_sem]
    rcases of_if h with ⟨hb5, h⟩ | ⟨hb5, h⟩
    ·rcases of_if h with ⟨hb6, h⟩ | ⟨hb6, h⟩
     ·rcases of_if h with ⟨hb7, h⟩ | ⟨hb7, h⟩
      ·rcases of_if h with ⟨hb8, h⟩ | ⟨hb8, h⟩
       ·obtain ⟨v9, hv9, h⟩ := obi h
        try simp only [hb3, hb4, hb5, hb6, hb7, hb8, go_sem]
        refine CallV.ro false (reredoslaw_sameInts_ok G p0.Sites p1.Sites v9 hv9) rfl ?_
        rintro rs rfl
        refine ⟨.inl rfl, ?_⟩
        try simp only [hb3, hb4, hb5, hb6, hb7, hb8, go_sem]
        exact joinQ_c (v9) h [] rfl (by simp only [hb3, hb4, hb5, hb6, hb7, hb8, go_sem, List.map_append, List.map_cons, List.map_nil, Option.some.injEq, Prod.mk.injEq, SC.d.injEq, D.l.injEq, List.map_set])
       ·try simp only [hb3, hb4, hb5, hb6, hb7, hb8, go_sem]
        exact joinQ_c (false) h [] rfl (by simp only [hb3, hb4, hb5, hb6, hb7, hb8, go_sem, List.map_append, List.map_cons, List.map_nil, Option.some.injEq, Prod.mk.injEq, SC.d.injEq, D.l.injEq, List.map_set])
      ·try simp only [hb3, hb4, hb5, hb6, hb7, go_sem]
       exact joinQ_c (false) h [] rfl (by simp only [hb3, hb4, hb5, hb6, hb7, go_sem, List.map_append, List.map_cons, List.map_nil, Option.some.injEq, Prod.mk.injEq, SC.d.injEq, D.l.injEq, List.map_set])
     ·try simp only [hb3, hb4, hb5, hb6, go_sem]
      exact joinQ_c (false) h [] rfl (by simp only [hb3, hb4, hb5, hb6, go_sem, List.map_append, List.map_cons, List.map_nil, Option.some.injEq, Prod.mk.injEq, SC.d.injEq, D.l.injEq, List.map_set])
    ·try simp only [hb3, hb4, hb5, go_sem]
     exact joinQ_c (false) h [] rfl (by simp only [hb3, hb4, hb5, go_sem, List.map_append, List.map_cons, List.map_nil, Option.some.injEq, Prod.mk.injEq, SC.d.injEq, D.l.injEq, List.map_set])
   ·try simp only [hb3, hb4, go_sem]
    try simp only [hb3, hb4, go_sem]
    exact joinQ_c (false) h [] rfl (by simp only [hb3, hb4, go_sem, List.map_append, List.map_cons, List.map_nil, Option.some.injEq, Prod.mk.injEq, SC.d.injEq, D.l.injEq, List.map_set])
  ·try simp only [hb3, go_sem]
   exact joinQ_c (false) h [] rfl (by simp only [hb3, go_sem, List.map_append, List.map_cons, List.map_nil, Option.some.injEq, Prod.mk.injEq, SC.d.injEq, D.l.injEq, List.map_set])
 ·try dsimp only at h
  rw [hk2] at h
  simp only [Option.some.injEq] at h
  subst h
  try simp only [go_sem, List.map_append, List.map_cons, List.map_nil, List.map_set]
def reredoslaw_sameRecords_L1 (p0 : List Record) (p1 : List Record) (k5 : Option (Bool)) : Nat → Nat → Option (Bool)
 | 0, _ => none
 | n7 + 1, a6_1 => (if (decide (a6_1 < p0.length)) = true then (Option.bind (p0[a6_1]?) fun x10 => (Option.bind (p1[a6_1]?) fun x11 => (Option.bind (reredoslaw_sameRecord x10 x11) fun v12 => (if (!v12) = true then (some false) else (reredoslaw_sameRecords_L1 p0 p1 k5 n7 (a6_1 + 1)))))) else k5)
def reredoslaw_sameRecords (p0 : List Record) (p1 : List Record) : Option (Bool) := (if (((p0.length : Nat) : Int) != ((p1.length : Nat) : Int)) = true then (some false) else (withK (some true) fun k5 => (reredoslaw_sameRecords_L1 p0 p1 k5 (p0.length + 1) 0)))
def F18 : VFn := ⟨27, (.seq (.reg [vo 4 (.mv (cb false))]) (.seq (.seq (.reg [vm 6 0, vo 7 (.len (.t 6)), vm 8 1, vo 9 (.len (.t 8)), vo 10 (.bin .i .neq (.t 7) (.t 9))]) (.cond (.t 10) (.seq (.reg [vo 4 (.mv (cb false))]) .ret) .skip)) (.seq (.seq (.reg [vo 5 (.mv (ci 0))]) (.wk (.block 0 (.loop (.seq (.seq (.reg [vm 11 5, vm 12 0, vo 13 (.len (.t 12)), vo 14 (.bin .i .lss (.t 11) (.t 13))]) (.cond (.t 14) .skip (.exit 0))) (.seq (.block 1 (.seq (.draw [vd (vm 17 0) [], vd (vm 18 5) [], vd (vo 19 (.ia 8 (.t 17) (.t 18))) [0, 1], vd (vo 20 (.ld true 8 (.t 19))) [2, 0, 1], vd (vm 21 1) [], vd (vm 22 5) [], vd (vo 23 (.ia 8 (.t 21) (.t 22))) [4, 5], vd (vo 24 (.ld true 8 (.t 23))) [6, 4, 5], vd (vo 25 (.call 38 [(.t 20), (.t 24)])) [3, 2, 0, 1, 7, 6, 4, 5], vd (vo 26 (.un .not (.t 25))) [8, 3, 2, 0, 1, 7, 6, 4, 5]]) (.cond (.t 26) (.seq (.reg [vo 4 (.mv (cb false))]) .ret) .skip))) (.reg [vm 15 5, vo 16 (.bin .i .add (.t 15) (ci 1)), vm 5 16]))))))) (.seq (.reg [vo 4 (.mv (cb true))]) .ret)))), [.t 4]⟩
theorem low18 : lowF Try.prog 18 = some F18.strip := by kernel_rfl
theorem fok18 : fOk Try.prog 18 = true := by kernel_rfl
theorem reredoslaw_sameRecords_ok (G : Nat → Option (List D)) (p0 : List Record) (p1 : List Record) (r : Bool) (h : reredoslaw_sameRecords p0 p1 = some r) : FnRO Try.prog G 18 [.one (.d (.l 8 (p0.map Record.enc))), .one (.d (.l 8 (p1.map Record.enc)))] (fun rs => rs = [.one (.b r)]) := by
 refine FnRO.of' low18 fok18 (by simp [F18]) ?_
 rw [reredoslaw_sameRecords] at h
 simp only [F18, go_sem]
 try simp only [go_sem]
 intro hl1
 try simp only [go_sem]
 intro hl2
 rcases of_if h with ⟨hb3, h⟩ | ⟨hb3, h⟩
 ·simp only [Option.some.injEq] at h
  subst h
  try simp only [hb3, go_sem, List.map_append, List.map_cons, List.map_nil, List.map_set]
 ·obtain ⟨k5, hk5, h⟩ := withK_lk0 h
  try simp only [hb3, go_sem]
  refine join_lk Try.prog G _ _ (B := Unit) (fun b => k5 = some r) (fun b => []) (fun b => []) ?_ (fun b h => ?_)
  ·try simp only [hb3, go_sem]
   refine loop_lk Try.prog G _ _ (A := Nat) (fun n a => reredoslaw_sameRecords_L1 p0 p1 k5 n a = some r) (fun a => [(0, .one (.d (.l 8 (p0.map Record.enc)))), (1, .one (.d (.l 8 (p1.map Record.enc)))), (5, .one (.d (.i .i64 ((a : Nat) : Int))))]) (fun a => []) (p0.length + 1) (0) h (wk_c _ _ _ [] rfl (by simp only [hb3, go_sem, List.map_append, List.map_cons, List.map_nil, Option.some.injEq, Prod.mk.injEq, SC.d.injEq, D.l.injEq, List.map_set])) (fun a h => by simp only [reredoslaw_sameRecords_L1, reduceCtorEq] at h) ?_
   intro n7 a6_1 h
   try dsimp only at h
   rw [reredoslaw_sameRecords_L1] at h
   try simp only [go_sem]
   intro hl8
   rcases of_if h with ⟨hb9, h⟩ | ⟨hb9, h⟩
   ·have hkhb9 := of_decide_eq_true hb9
    obtain ⟨x10, hx10, h⟩ := obi h
    have hkx10 := gtx hx10
    try simp only [List.length_take, List.length_drop, List.length_append, List.length_set, List.length_map, List.length_cons, List.length_nil, Nat.zero_add] at hkx10
    obtain ⟨x11, hx11, h⟩ := obi h
    have hkx11 := gtx hx11
    try simp only [List.length_take, List.length_drop, List.length_append, List.length_set, List.length_map, List.length_cons, List.length_nil, Nat.zero_add] at hkx11
    obtain ⟨v12, hv12, h⟩ := obi h
    try simp only [hb9, hkhb9, hx10, hkx10, hx11, hkx11, go_sem]
    refine ⟨_, _, CallD.ro false (reredoslaw_sameRecord_ok G x10 x11 v12 hv12) rfl (.inl rfl) rfl, ?_⟩
    rcases of_if h with ⟨hb13, h⟩ | ⟨hb13, h⟩
    ·have hkhb13 := not_eq_t hb13
     simp only [Option.some.injEq] at h
     subst h
     try simp only [hb9, hkhb9, hx10, hkx10, hx11, hkx11, hb13, hkhb13, go_sem, List.map_append, List.map_cons, List.map_nil, List.map_set]
    ·have hkhb13 := not_eq_f hb13
     have hw14 := wrap_succ_max hkx10 hl8
     try simp only [hb9, hkhb9, hx10, hkx10, hx11, hkx11, hb13, hkhb13, hw14, go_sem]
     exact loopQ_c (a6_1 + 1) h [] rfl (by simp only [hb9, hkhb9, hx10, hkx10, hx11, hkx11, hb13, hkhb13, hw14, go_sem, List.map_append, List.map_cons, List.map_nil, Option.some.injEq, Prod.mk.injEq, SC.d.injEq, D.l.injEq, List.map_set])
   ·try simp only [hb9, go_sem]
    exact joinQ_c () h [] rfl (by simp only [hb9, go_sem, List.map_append, List.map_cons, List.map_nil, Option.some.injEq, Prod.mk.injEq, SC.d.injEq, D.l.injEq, List.map_set])
  ·try dsimp only at h
   rw [hk5] at h
   simp only [Option.some.injEq] at h
   subst h
   try simp only [go_sem, List.map_append, List.map_cons, List.map_nil, List.map_set]
def reredoslaw_sameNotes_L1 (p0 : List Note) (p1 : List Note) (k5 : Option (Bool)) : Nat → Nat → Option (Bool)
 | 0, _ => none
 | n7 + 1, a6_1 => (if (decide (a6_1 < p0.length)) = true then (Option.bind (p0[a6_1]?) fun x10 => (Option.bind (p1[a6_1]?) fun x11 => (if (!((x10.Txn.Site == x11.Txn.Site) && ((x10.Txn.N == x11.Txn.N) && ((x10.Yes == x11.Yes) && (x10.Damage == x11.Damage))))) = true then (some false) else (reredoslaw_sameNotes_L1 p0 p1 k5 n7 (a6_1 + 1))))) else k5)
def reredoslaw_sameNotes (p0 : List Note) (p1 : List Note) : Option (Bool) := (if (((p0.length : Nat) : Int) != ((p1.length : Nat) : Int)) = true then (some false) else (withK (some true) fun k5 => (reredoslaw_sameNotes_L1 p0 p1 k5 (p0.length + 1) 0)))
def F19 : VFn := ⟨26, (.seq (.reg [vo 4 (.mv (cb false))]) (.seq (.seq (.reg [vm 6 0, vo 7 (.len (.t 6)), vm 8 1, vo 9 (.len (.t 8)), vo 10 (.bin .i .neq (.t 7) (.t 9))]) (.cond (.t 10) (.seq (.reg [vo 4 (.mv (cb false))]) .ret) .skip)) (.seq (.seq (.reg [vo 5 (.mv (ci 0))]) (.wk (.block 0 (.loop (.seq (.seq (.reg [vm 11 5, vm 12 0, vo 13 (.len (.t 12)), vo 14 (.bin .i .lss (.t 11) (.t 13))]) (.cond (.t 14) .skip (.exit 0))) (.seq (.block 1 (.seq (.draw [vd (vm 17 0) [], vd (vm 18 5) [], vd (vo 19 (.ia 4 (.t 17) (.t 18))) [0, 1], vd (vo 20 (.ld true 4 (.t 19))) [2, 0, 1], vd (vm 21 1) [], vd (vm 22 5) [], vd (vo 23 (.ia 4 (.t 21) (.t 22))) [4, 5], vd (vo 24 (.ld true 4 (.t 23))) [6, 4, 5], vd (vo 25 (.eqs true [.i, .i, .b, .b] (.t 20) (.t 24))) [3, 2, 0, 1, 7, 6, 4, 5]]) (.cond (.t 25) (.seq (.reg [vo 4 (.mv (cb false))]) .ret) .skip))) (.reg [vm 15 5, vo 16 (.bin .i .add (.t 15) (ci 1)), vm 5 16]))))))) (.seq (.reg [vo 4 (.mv (cb true))]) .ret)))), [.t 4]⟩
theorem low19 : lowF Try.prog 19 = some F19.strip := by kernel_rfl
theorem fok19 : fOk Try.prog 19 = true := by kernel_rfl
theorem reredoslaw_sameNotes_ok (G : Nat → Option (List D)) (p0 : List Note) (p1 : List Note) (r : Bool) (h : reredoslaw_sameNotes p0 p1 = some r) : FnRO Try.prog G 19 [.one (.d (.l 4 (p0.map Note.enc))), .one (.d (.l 4 (p1.map Note.enc)))] (fun rs => rs = [.one (.b r)]) := by
 refine FnRO.of' low19 fok19 (by simp [F19]) ?_
 rw [reredoslaw_sameNotes] at h
 simp only [F19, go_sem]
 try simp only [go_sem]
 intro hl1
 try simp only [go_sem]
 intro hl2
 rcases of_if h with ⟨hb3, h⟩ | ⟨hb3, h⟩
 ·simp only [Option.some.injEq] at h
  subst h
  try simp only [hb3, go_sem, List.map_append, List.map_cons, List.map_nil, List.map_set]
 ·obtain ⟨k5, hk5, h⟩ := withK_lk0 h
  try simp only [hb3, go_sem]
  refine join_lk Try.prog G _ _ (B := Unit) (fun b => k5 = some r) (fun b => []) (fun b => []) ?_ (fun b h => ?_)
  ·try simp only [hb3, go_sem]
   refine loop_lk Try.prog G _ _ (A := Nat) (fun n a => reredoslaw_sameNotes_L1 p0 p1 k5 n a = some r) (fun a => [(0, .one (.d (.l 4 (p0.map Note.enc)))), (1, .one (.d (.l 4 (p1.map Note.enc)))), (5, .one (.d (.i .i64 ((a : Nat) : Int))))]) (fun a => []) (p0.length + 1) (0) h (wk_c _ _ _ [] rfl (by simp only [hb3, go_sem, List.map_append, List.map_cons, List.map_nil, Option.some.injEq, Prod.mk.injEq, SC.d.injEq, D.l.injEq, List.map_set])) (fun a h => by simp only [reredoslaw_sameNotes_L1, reduceCtorEq] at h) ?_
   intro n7 a6_1 h
   try dsimp only at h
   rw [reredoslaw_sameNotes_L1] at h
   try simp only [go_sem]
   intro hl8
   rcases of_if h with ⟨hb9, h⟩ | ⟨hb9, h⟩
   ·have hkhb9 := of_decide_eq_true hb9
    obtain ⟨x10, hx10, h⟩ := obi h
    have hkx10 := gtx hx10
    try simp only [List.length_take, List.length_drop, List.length_append, List.length_set, List.length_map, List.length_cons, List.length_nil, Nat.zero_add] at hkx10
    obtain ⟨x11, hx11, h⟩ := obi h
    have hkx11 := gtx hx11
    try simp only [List.length_take, List.length_drop, List.length_append, List.length_set, List.length_map, List.length_cons, List.length_nil, Nat.zero_add] at hkx11
    rcases of_if h with ⟨hb12, h⟩ | ⟨hb12, h⟩
    ·have hkhb12 := not_eq_t hb12
     try simp only [hb9, hkhb9, hx10, hkx10, hx11, hkx11, hb12, hkhb12, go_sem]
     simp only [Option.some.injEq] at h
     subst h
     try simp only [hb9, hkhb9, hx10, hkx10, hx11, hkx11, hb12, hkhb12, go_sem, List.map_append, List.map_cons, List.map_nil, List.map_set]
    ·have hkhb12 := not_eq_f hb12
     try simp only [hb9, hkhb9, hx10, hkx10, hx11, hkx11, hb12, hkhb12, go_sem]
     have hw13 := wrap_succ_max hkx10 hl8
     try simp only [hb9, hkhb9, hx10, hkx10, hx11, hkx11, hb12, hkhb12, hw13, go_sem]
     exact loopQ_c (a6_1 + 1) h [] rfl (by simp only [hb9, hkhb9, hx10, hkx10, hx11, hkx11, hb12, hkhb12, hw13, go_sem, List.map_append, List.map_cons, List.map_nil, Option.some.injEq, Prod.mk.injEq, SC.d.injEq, D.l.injEq, List.map_set])
   ·try simp only [hb9, go_sem]
    exact joinQ_c () h [] rfl (by simp only [hb9, go_sem, List.map_append, List.map_cons, List.map_nil, Option.some.injEq, Prod.mk.injEq, SC.d.injEq, D.l.injEq, List.map_set])
  ·try dsimp only at h
   rw [hk5] at h
   simp only [Option.some.injEq] at h
   subst h
   try simp only [go_sem, List.map_append, List.map_cons, List.map_nil, List.map_set]
def reredoslaw_sameAnswer (p0 : Answer) (p1 : Answer) : Option (Bool) := (withK (fun (b1_1 : Bool) => (some b1_1)) fun k2 => (Option.bind (reredoslaw_sameStore p0.Store p1.Store) fun v3 => (if v3 = true then (Option.bind (reredoslaw_sameMessages p0.Messages p1.Messages) fun v5 => (if v5 = true then (Option.bind (reredoslaw_sameRecords p0.Records p1.Records) fun v7 => (if v7 = true then (Option.bind (reredoslaw_sameNotes p0.Notes p1.Notes) fun v9 => (k2 v9)) else (k2 false))) else (k2 false))) else (k2 false))))
def F7 : VFn := ⟨31, (.seq (.reg [vo 2 (.box 7 (.t 0)), vo 3 (.box 7 (.t 1)), vo 4 (.mv (cb false))]) (.seq (.wk (.reg [vo 5 (.fa 0 (.t 2)), vo 6 (.ld true 4 (.t 5)), vo 7 (.fa 0 (.t 3)), vo 8 (.ld true 4 (.t 7)), vo 9 (.call 16 [(.t 6), (.t 8)]), vm 10 9, ⟨(some 11), .fa 4 (.t 2), (some (10, true))⟩, ⟨(some 12), .ld false 1 (.t 11), (some (10, true))⟩, ⟨(some 13), .fa 4 (.t 3), (some (10, true))⟩, ⟨(some 14), .ld false 1 (.t 13), (some (10, true))⟩, ⟨(some 15), .call 17 [(.t 12), (.t 14)], (some (10, true))⟩, vo 16 (.pick (.t 10) (.t 15) (cb false)), vm 17 16, ⟨(some 18), .fa 5 (.t 2), (some (17, true))⟩, ⟨(some 19), .ld false 1 (.t 18), (some (17, true))⟩, ⟨(some 20), .fa 5 (.t 3), (some (17, true))⟩, ⟨(some 21), .ld false 1 (.t 20), (some (17, true))⟩, ⟨(some 22), .call 18 [(.t 19), (.t 21)], (some (17, true))⟩, vo 23 (.pick (.t 17) (.t 22) (cb false)), vm 24 23, ⟨(some 25), .fa 6 (.t 2), (some (24, true))⟩, ⟨(some 26), .ld false 1 (.t 25), (some (24, true))⟩, ⟨(some 27), .fa 6 (.t 3), (some (24, true))⟩, ⟨(some 28), .ld false 1 (.t 27), (some (24, true))⟩, ⟨(some 29), .call 19 [(.t 26), (.t 28)], (some (24, true))⟩, vo 30 (.pick (.t 24) (.t 29) (cb false)), vm 4 30])) .ret)), [.t 4]⟩
theorem low7 : lowF Try.prog 7 = some F7.strip := by kernel_rfl
theorem fok7 : fOk Try.prog 7 = true := by kernel_rfl
theorem reredoslaw_sameAnswer_ok (G : Nat → Option (List D)) (p0 : Answer) (p1 : Answer) (r : Bool) (h : reredoslaw_sameAnswer p0 p1 = some r) : FnRO Try.prog G 7 [.agg [.d (.l 3 (p0.Store.Items.map Item.enc)), .d (.l 6 (p0.Store.Locks.map Lock.enc)), .d (.l 3 (p0.Store.Doubts.map Doubt.enc)), .d (.l 2 (p0.Store.Over.map Txn.enc)), .d (.l 12 (p0.Messages.map Message.enc)), .d (.l 8 (p0.Records.map Record.enc)), .d (.l 4 (p0.Notes.map Note.enc))], .agg [.d (.l 3 (p1.Store.Items.map Item.enc)), .d (.l 6 (p1.Store.Locks.map Lock.enc)), .d (.l 3 (p1.Store.Doubts.map Doubt.enc)), .d (.l 2 (p1.Store.Over.map Txn.enc)), .d (.l 12 (p1.Messages.map Message.enc)), .d (.l 8 (p1.Records.map Record.enc)), .d (.l 4 (p1.Notes.map Note.enc))]] (fun rs => rs = [.one (.b r)]) := by
 refine FnRO.of' low7 fok7 (by simp [F7]) ?_
 rw [reredoslaw_sameAnswer] at h
 simp only [F7, go_sem]
 obtain ⟨k2, hk2, h⟩ := withK_lk1 h
 try simp only [go_sem]
 refine join_lk Try.prog G _ _ (B := Bool) (fun b => k2 b = some r) (fun b => [(4, .one (.d (.b b)))]) (fun b => []) ?_ (fun b1_1 h => ?_)
 ·obtain ⟨v3, hv3, h⟩ := obi h
  try simp only [go_sem]
  refine CallV.ro false (reredoslaw_sameStore_ok G p0.Store p1.Store v3 hv3) rfl ?_
  rintro rs rfl
  refine ⟨.inl rfl, ?_⟩
  rcases of_if h with ⟨hb4, h⟩ | ⟨hb4, h⟩
  ·obtain ⟨v5, hv5, h⟩ := obi h
   try simp only [hb4, go_sem]
   refine CallV.ro false (reredoslaw_sameMessages_ok G p0.Messages p1.Messages v5 hv5) rfl ?_
   rintro rs rfl
   refine ⟨.inl rfl, ?_⟩
   rcases of_if h with ⟨hb6, h⟩ | ⟨hb6, h⟩
   ·obtain ⟨v7, hv7, h⟩ := obi h
    try simp only [hb4, hb6, go_sem]
    refine CallV.ro false (reredoslaw_sameRecords_ok G p0.Records p1.Records v7 hv7) rfl ?_
    rintro rs rfl
    refine ⟨.inl rfl, ?_⟩
    rcases of_if h with ⟨hb8, h⟩ | ⟨hb8, h⟩
    ·obtain ⟨v9, hv9, h⟩ := obi h
     try simp only [hb4, hb6, hb8, go_sem]
     refine CallV.ro false (reredoslaw_sameNotes_ok G p0.Notes p1.Notes v9 hv9) rfl ?_
     rintro rs rfl
     refine ⟨.inl rfl, ?_⟩
     try simp only [hb4, hb6, hb8, go_sem]
     exact joinQ_c (v9) h [] rfl (by simp only [hb4, hb6, hb8, go_sem, List.map_append, List.map_cons, List.map_nil, Option.some.injEq, Prod.mk.injEq, SC.d.injEq, D.l.injEq, List.map_set])
    ·try simp only [hb4, hb6, hb8, go_sem]
     exact joinQ_c (false) h [] rfl (by simp only [hb4, hb6, hb8, go_sem, List.map_append, List.map_cons, List.map_nil, Option.some.injEq, Prod.mk.injEq, SC.d.injEq, D.l.injEq, List.map_set])
   ·try simp only [hb4, hb6, go_sem]
    exact joinQ_c (false) h [] rfl (by simp only [hb4, hb6, go_sem, List.map_append, List.map_cons, List.map_nil, Option.some.injEq, Prod.mk.injEq, SC.d.injEq, D.l.injEq, List.map_set])
  ·try simp only [hb4, go_sem]
   exact joinQ_c (false) h [] rfl (by simp only [hb4, go_sem, List.map_append, List.map_cons, List.map_nil, Option.some.injEq, Prod.mk.injEq, SC.d.injEq, D.l.injEq, List.map_set])
 ·try dsimp only at h
  rw [hk2] at h
  simp only [Option.some.injEq] at h
  subst h
  try simp only [go_sem, List.map_append, List.map_cons, List.map_nil, List.map_set]
def reredoslaw_PartForces (p0 : Config) (p1 : Int) (p2 : Int) (p3 : List Store) (p4 : List Note) (p5 : Txn) (p6 : Bool) : Option (Bool) := (if fits 96 p3.length then (Option.bind (reredosref_NotesCopy p4) fun v3 => (Option.bind (part_Force p0 p1 p2 p3 v3 p5 p6) fun v4 => (withK (Option.bind (reredosref_ForcedOf p0 p1 p2 p3 p4 p5 p6) fun v7 => (withK (fun (b8_1 : Bool) => (some b8_1)) fun k9 => (if (v4.2 == v7.2) = true then (Option.bind (reredoslaw_sameAnswer v4.1 v7.1) fun v11 => (k9 v11)) else (k9 false)))) fun k6 => k6))) else none)
def F4 : VFn := ⟨51, (.seq (.reg [vo 7 (.box 3 (.t 0)), vo 12 (.boxk 2 (.t 5)), vo 14 (.mv (cb false))]) (.seq (.pre (.draw [vd (vo 20 (.ld true 3 (.t 7))) [], vd (vm 21 1) [], vd (vm 22 2) [], vd (vm 23 3) [], vd (vo 24 (.appf 4 96 4 (.t 23))) [3], ⟨vm 25 4, [], [4], none, []⟩, vd (vo 26 (.call 9 [(.t 25)])) [5, 4, 3], ⟨vo 27 (.ld true 2 (.t 12)), [], [4, 6], none, []⟩, ⟨vm 28 6, [], [4, 6], none, []⟩, vd (vo 29 (.call 8 [(.t 20), (.t 21), (.t 22), (.t 24), (.t 26), (.t 27), (.t 28)])) [0, 1, 2, 4, 3, 6, 5, 7, 8], vd (vm 19 29) [9, 0, 1, 2, 4, 3, 6, 5, 7, 8], vd (vo 30 (.ext (.t 19) 0)) [10, 9, 0, 1, 2, 4, 3, 6, 5, 7, 8], vd (vo 31 (.ext (.t 19) 1)) [10, 9, 0, 1, 2, 4, 3, 6, 5, 7, 8], ⟨vo 15 (.alloc [(.nl 3), (.nl 6), (.nl 3), (.nl 2), (.nl 12), (.nl 8), (.nl 4)]), [], [4, 6, 9], none, []⟩, vd (vu (.st 7 (.t 15) (.t 30))) [13, 11, 10, 9, 0, 1, 2, 4, 3, 6, 5, 7, 8], vd (vm 16 31) [12, 10, 9, 0, 1, 2, 4, 3, 6, 5, 7, 8, 14, 13, 11]])) (.seq (.regs [[vo 33 (.ld true 3 (.t 7)), vm 34 1, vm 35 2, vm 36 3, vm 37 4, vo 38 (.ld true 2 (.t 12)), vm 39 6], [vo 40 (.call 10 [(.t 33), (.t 34), (.t 35), (.t 36), (.t 37), (.t 38), (.t 39)]), vm 32 40, vo 41 (.ext (.t 32) 0), vo 42 (.ext (.t 32) 1), vo 17 (.alloc [(.nl 3), (.nl 6), (.nl 3), (.nl 2), (.nl 12), (.nl 8), (.nl 4)]), vu (.st 7 (.t 17) (.t 41)), vm 18 42]]) (.seq (.wk (.reg [vm 43 16, vm 44 18, vo 45 (.bin .i .eql (.t 43) (.t 44)), vm 46 45, ⟨(some 47), .ld true 7 (.t 15), (some (46, true))⟩, ⟨(some 48), .ld true 7 (.t 17), (some (46, true))⟩, ⟨(some 49), .call 7 [(.t 47), (.t 48)], (some (46, true))⟩, vo 50 (.pick (.t 46) (.t 49) (cb false)), vm 14 50])) .ret)))), [.t 14]⟩
theorem low4 : lowF Try.prog 4 = some F4.strip := by kernel_rfl
theorem fok4 : fOk Try.prog 4 = true := by kernel_rfl
theorem reredoslaw_PartForces_ok (G : Nat → Option (List D)) (p0 : Config) (p1 : Int) (p2 : Int) (p3 : List Store) (p4 : List Note) (p5 : Txn) (p6 : Bool) (r : Bool) (h : reredoslaw_PartForces p0 p1 p2 p3 p4 p5 p6 = some r) : FnRO Try.prog G 4 [.agg [.d (.i .i64 p0.Sites), .d (.l 2 (p0.Labels.map Label.enc)), .d (.i .i64 p0.Patience)], .one (.d (.i .i64 p1)), .one (.d (.i .i64 p2)), .one (.d (.l 4 (p3.map Store.enc))), .one (.d (.l 4 (p4.map Note.enc))), .agg [.d (.i .i64 p5.Site), .d (.i .i64 p5.N)], .one (.d (.b p6))] (fun rs => rs = [.one (.b r)]) := by
 refine FnRO.of' low4 fok4 (by simp [F4]) ?_
 rw [reredoslaw_PartForces] at h
 simp only [F4, go_sem]
 try simp only [go_sem]
 refine pre_lk Try.prog G _ _ [(1, .one (zi p1)), (2, .one (zi p2)), (3, .one (.d (.l 4 (p3.map Store.enc)))), (4, .one (.d (.l 4 (p4.map Note.enc)))), (6, .one (.d (.b p6))), (7, .one (.p (.q 0 0 0))), (12, .one (.d (.k (Txn.enc p5))))] [some (.box p0.bx)] [] [some 0] rfl (by simp only [go_sem, List.map_append, List.map_cons, List.map_nil, Option.some.injEq, Prod.mk.injEq, SC.d.injEq, D.l.injEq, List.map_set]) (by simp only [go_sem, List.map_append, List.map_cons, List.map_nil, Option.some.injEq, Prod.mk.injEq, SC.d.injEq, D.l.injEq, List.map_set]) ?_
 obtain ⟨hf2, h⟩ := of_chk h
 obtain ⟨v3, hv3, h⟩ := obi h
 try simp only [hf2, go_sem]
 refine ⟨_, _, CallD.ro false (FnRO.fz' (reredosref_NotesCopy_ok G p4 v3 hv3) rfl rfl) rfl (.inl rfl) rfl, ?_⟩
 obtain ⟨v4, hv4, h⟩ := obi h
 try simp only [hf2, go_sem]
 refine ⟨_, _, CallD.ro false (part_Force_ok G p0 p1 p2 p3 v3 p5 p6 v4 hv4) (by first | rfl | (simp only [hf2, go_sem, inVs_caps]; done) | simp only [hf2, go_sem, inVs_caps, List.map_append, List.map_cons, List.map_nil, List.map_set]) (.inl rfl) rfl, ?_⟩
 obtain ⟨k6, hk6, h⟩ := withK_lk0 h
 try simp only [hf2, go_sem]
 refine regs_lk Try.prog G _ _ (B := Unit) (fun b => k6 = some r) (fun b => [(15, .one (.p (.q 0 0 0))), (16, .one (zi v4.2)), (33, .agg [zi p0.Sites, .d (.l 2 (p0.Labels.map Label.enc)), zi p0.Patience]), (34, .one (zi p1)), (35, .one (zi p2)), (36, .one (.d (.l 4 (p3.map Store.enc)))), (37, .one (.d (.l 4 (p4.map Note.enc)))), (38, .agg [zi p5.Site, zi p5.N]), (39, .one (.d (.b p6)))]) (fun b => [some (.box v4.1.bx)]) ?_ (fun b h => ?_)
 ·try simp only [hf2, go_sem]
  exact joinQ_c () h [some 14] rfl (by simp only [hf2, go_sem, List.map_append, List.map_cons, List.map_nil, Option.some.injEq, Prod.mk.injEq, SC.d.injEq, D.l.injEq, List.map_set])
 ·try dsimp only at h
  rw [hk6] at h
  obtain ⟨v7, hv7, h⟩ := obi h
  try simp only [hf2, go_sem]
  refine CallV.ro false (reredosref_ForcedOf_ok G p0 p1 p2 p3 p4 p5 p6 v7 hv7) rfl ?_
  rintro rs rfl
  refine ⟨.inl rfl, ?_⟩
  obtain ⟨k9, hk9, h⟩ := withK_lk1 h
  try simp only [hf2, go_sem]
  refine join_lk Try.prog G _ _ (B := Bool) (fun b => k9 b = some r) (fun b => [(14, .one (.d (.b b)))]) (fun b => []) ?_ (fun b8_1 h => ?_)
  ·rcases of_if h with ⟨hb10, h⟩ | ⟨hb10, h⟩
   ·obtain ⟨v11, hv11, h⟩ := obi h
    try simp only [hf2, hb10, go_sem]
    refine CallV.ro false (reredoslaw_sameAnswer_ok G v4.1 v7.1 v11 hv11) rfl ?_
    rintro rs rfl
    refine ⟨.inl rfl, ?_⟩
    try simp only [hf2, hb10, go_sem]
    exact joinQ_c (v11) h [] rfl (by simp only [hf2, hb10, go_sem, List.map_append, List.map_cons, List.map_nil, Option.some.injEq, Prod.mk.injEq, SC.d.injEq, D.l.injEq, List.map_set])
   ·try simp only [hf2, hb10, go_sem]
    exact joinQ_c (false) h [] rfl (by simp only [hf2, hb10, go_sem, List.map_append, List.map_cons, List.map_nil, Option.some.injEq, Prod.mk.injEq, SC.d.injEq, D.l.injEq, List.map_set])
  ·try dsimp only at h
   rw [hk9] at h
   simp only [Option.some.injEq] at h
   subst h
   try simp only [hf2, go_sem, List.map_append, List.map_cons, List.map_nil, List.map_set]
end Go.V.Dec
